/- Joined texts: CfB, CfC, CfD, CfF, CfH. No condition: what each theorem needs stands in it. -/
import Derived.Test.YtieifgngaaccmaaGreatCc14
import Derived.Test.YtieifgngaaccmaaGreatCc10
namespace Go.VE.Un
open Go.VE
def plV(p:Bool ×Sl):V:=.agg [.bool p.1,sV p.2]
@[simp] theorem plV_below(k:Nat)(p:Bool ×Sl):belowB k (plV p)=true:=rfl
def meetP(p:Bool ×Sl)(s:Sl):Bool ×Sl:=if p.1=true then(true,p.2&&&s)else(true,s)
theorem gcRet_len{vp:VP}{h h1:Heap}(hl:h1.length=h.length):gcRet vp false h (.tup []) h1=(.tup [],h1):=by
 unfold gcRet
 split
 ·have:frz h.length h1 4 (.tup [])=some (.tup []):=closed_frz rfl
  rw[this];simp[List.take_of_length_le,hl]
 ·rfl
theorem meet107(b:Blk)(P:List (Bool ×Sl))(i:Nat)(p:Bool ×Sl)(hp:P[i]? =some p)(s:Sl)(n:Nat)(hn:P.length=n):
 (orc vp).call 107 0 [.ptr 1 n i 0,sV s] [b,.arr (P.map plV)]=some (.tup [],[b,.arr ((P.set i (meetP p s)).map plV)]):=by
 have hi:i<P.length:=by
  rcases Nat.lt_or_ge i P.length with h|h
  ·exact h
  ·rw[List.getElem?_eq_none h]at hp;simp at hp
 have c0:chkLen (P.map plV) n=some (P.map plV):=chkLen_of (by simp[hn])
 have g0:(P.map plV)[i]? =some (plV p):=by simp[hp]
 have s1: ∀v,(P.map plV).set i (plV v)=(P.set i v).map plV:=fun v=>by rw[List.map_set]
 have c1: ∀v,chkLen ((P.map plV).set i v) n=some ((P.map plV).set i v):=fun v=>chkLen_of (by simp[hn])
 have g1: ∀v,((P.map plV).set i v)[i]? =some v:=fun v=>by simp[hi]
 have s2: ∀v w,((P.map plV).set i v).set i w=(P.map plV).set i w:=fun v w=>by simp
 obtain⟨r,q⟩:=p
 rw[call_K fn107]
 cases r
 ·simp -implicitDefEqProofs [pureOp,c0,g0,plV,stc_cell,c1,g1,s2]
  exact⟨_,rfl,rfl,rfl⟩
 ·simp -implicitDefEqProofs [pureOp,c0,g0,plV,stc_cell,c1,g1,s2]
  exact⟨_,rfl,rfl,rfl⟩
theorem meetK{β:Type}(b:Blk)(P:List (Bool ×Sl))(i:Nat)(p:Bool ×Sl)(hp:P[i]? =some p)(s:Sl)(n:Nat)(hn:P.length=n)(kv:V→Heap→Option β):
 rwK vp 0 [b,.arr (P.map plV)] 107 [.ptr 1 n i 0,sV s] kv=kv (.tup []) [b,.arr ((P.set i (meetP p s)).map plV)]:=by
 unfold rwK
 rw[meet107 b P i p hp s n hn]
 simp only[Option.bind_some]
 rw[gcRet_len (by simp)]
def atP(P:List (Bool ×Sl))(i:Nat)(s:Sl):List (Bool ×Sl):=P.set i (meetP (P.getD i (false,0)) s)
@[simp] theorem atP_len(P:List (Bool ×Sl))(i:Nat)(s:Sl):(atP P i s).length=P.length:=by simp[atP]
theorem atK{β:Type}(b:Blk)(P:List (Bool ×Sl))(i:Nat)(s:Sl)(n:Nat)(hn:P.length=n)(hi:i<n)(kv:V→Heap→Option β):
 rwK vp 0 [b,.arr (P.map plV)] 107 [.ptr 1 n i 0,sV s] kv=kv (.tup []) [b,.arr ((atP P i s).map plV)]:=by
 have hp:P[i]? =some (P.getD i (false,0)):=by
  rw[List.getD_eq_getElem?_getD,List.getElem?_eq_getElem (by omega)];rfl
 exact meetK b P i _ hp s n hn kv
def overS(m:Image)(n:Nat):List Ins→Nat→List (Bool ×Sl)→Option (Nat ×Int)×List (Bool ×Sl)
 |[],_,P=>(none,P)
 |x::r,i,P=>
  let p:=P.getD i (false,0)
  if p.1=false then overS m n r (i+1) P else
  let q:=doesS m x p.2
  if q.2.2≠0 then(some (i,q.2.2),P)else
  if x.Op.n=34 then overS m n r (i+1) (atP P n p.2)else
  let P1:=match targetB x with|some t=>atP P t.toNat q.2.1|none=>P
  overS m n r (i+1) (if x.Op.n=31 then P1 else atP P1 (i+1) q.1)
@[simp] theorem op312(o a:Int):callRO vp 312 [.agg [.int .i64 o,.int .i64 a]]=some (.int .i64 o):=by rw[callRO_K fn312];simp -implicitDefEqProofs [b312]
@[simp] theorem op313(a b:Int):callRO vp 313 [.agg [.int .i64 a,.int .i64 b]]=some (.int .i64 33):=by rw[callRO_K fn313];simp -implicitDefEqProofs [b313]
@[simp] theorem op314(o a b:Int):callRO vp 314 [.agg [.int .i64 o,.int .i64 a,.int .i64 b]]=some (.int .i64 o):=by rw[callRO_K fn314];simp -implicitDefEqProofs [b314]
@[simp] theorem op315(o a:Int):callRO vp 315 [.agg [.int .i64 o,.int .i64 a]]=some (.int .i64 o):=by rw[callRO_K fn315];simp -implicitDefEqProofs [b315]
@[simp] theorem op316(o a:Int):callRO vp 316 [.agg [.int .i64 o,.int .i64 a]]=some (.int .i64 o):=by rw[callRO_K fn316];simp -implicitDefEqProofs [b316]
@[simp] theorem op317(a b:Int):callRO vp 317 [.agg [.int .i64 a,.int .i64 b]]=some (.int .i64 10):=by rw[callRO_K fn317];simp -implicitDefEqProofs [b317]
@[simp] theorem op318(o a b:Int):callRO vp 318 [.agg [.int .i64 o,.int .i64 a,.int .i64 b]]=some (.int .i64 o):=by rw[callRO_K fn318];simp -implicitDefEqProofs [b318]
@[simp] theorem op319(v:Vec):callRO vp 319 [v.v]=some (.int .i64 0):=by rw[callRO_K fn319];simp -implicitDefEqProofs [b319]
@[simp] theorem op320(o a:Int):callRO vp 320 [.agg [.int .i64 o,.int .i64 a]]=some (.int .i64 o):=by rw[callRO_K fn320];simp -implicitDefEqProofs [b320]
@[simp] theorem op321:callRO vp 321 [.agg []]=some (.int .i64 34):=by rw[callRO_K fn321];simp -implicitDefEqProofs [b321]
@[simp] theorem op322(o:Int):callRO vp 322 [.agg [.int .i64 o]]=some (.int .i64 o):=by rw[callRO_K fn322];simp -implicitDefEqProofs [b322]
theorem op_inv{β:Type}(x:Ins)(h:mayC x=0)(h0:Heap)(kv:V→Heap→Option β):invK (orc vp) vp 0 h0 0 (stepV x) [] kv=kv (.int .i64 x.Op.n) h0:=by
 obtain⟨k0,k1⟩:=mayC_op h
 generalize he:x.Op.n=o at k0 k1
 rcases ops_cases k0 k1 with rfl|rfl|rfl|rfl|rfl|rfl|rfl|rfl|rfl|rfl|rfl|rfl|rfl|rfl|rfl|rfl|rfl|rfl|rfl|rfl|rfl|rfl|rfl|rfl|rfl|rfl|rfl|rfl|rfl|rfl|rfl|rfl|rfl|rfl|rfl
 all_goals simp -implicitDefEqProofs [stepV,he,getI,kinds,invK]
theorem meet_op(m:Image)(hs:Stk m)(l:List Ins)(hl: ∀x∈l,mayC x=0)(n:Nat)(hn:l.length=n)(hn2:n≤64)(ht: ∀x∈l,∀t,targetB x=some t→0≤t∧t≤n): ∀(r:List Ins) (i:Nat) (P:List (Bool ×Sl)),l.drop i=r→i≤n→P.length=n+1→∃fr hh,(orc vp).loop 0 [3,9,10,30,31,32] L467_0 [(3,.ptr 0 1 0 0),(9,.gsl 1 (n+1) 2 0 (n+1)),(10,.ptr 1 (n+1) n 0),(30,.sl 1 (l.map stepV) .perm),(31,.int .i64 n),(32,.int .i64 i)] [.arr [m.v],.arr (P.map plV)]=
 some (match overS m n r i P with
  |(none,P')=>(.brk 0,(3,.ptr 0 1 0 0)::(9,.gsl 1 (n+1) 2 0 (n+1))::(10,.ptr 1 (n+1) n 0)::fr,[.arr [m.v],.arr (P'.map plV)])
  |(some (j,e),P')=>(.ret,[(6,.int .u64 0),(7,.int .i64 j),(8,.int .i64 e)],hh)):=by
 intro r
 induction r with
 |nil=>
  intro i P hd hi hP
  have hlt: ¬(i:Int)<n:=by
   have:l.length≤i:=List.drop_eq_nil_iff.1 hd
   omega
  refine⟨[(30,.sl 1 (l.map stepV) .perm),(31,.int .i64 n),(32,.int .i64 i),(33,.bool false)],[],?_⟩
  rw[lp467_0]
  simp -implicitDefEqProofs [hlt,overS]
 |cons x r ih=>
  intro i P hd hi hP
  have hi2:i<n:=by
   have:i<l.length:=by
    rcases Nat.lt_or_ge i l.length with h|h
    ·exact h
    ·rw[List.drop_eq_nil_of_le h]at hd;simp at hd
   omega
  have hlt:(i:Int)<n:=by omega
  have hx:l[i]? =some x:=by
   have:=congrArg (fun q=>q[0]?) hd
   simpa using this
  have hm:=hl x (List.mem_of_getElem? hx)
  have hd':l.drop (i+1)=r:=by
   have:=congrArg (List.drop 1) hd
   simpa using this
  have w1:IntKind.i64.wrap ((i:Int)+1)=((i+1:Nat):Int):=wrap64 (by omega) (by omega)
  have hx':getI l (i:Int)=some x:=by simp[getI,hx]
  have hia: ∀j:Int,0≤j→j<(n+1:Nat)→iaddrV 2 (.gsl 1 (n+1) 2 0 (n+1)) (.int .i64 j)=some (.ptr 1 (n+1) j.toNat 0):=fun j h0 h1=>by
   have:j<(n:Int)+1:=by omega
   simp[iaddrV,h0,this]
  have hi0:=hia i (by omega) (by omega)
  rw[Int.toNat_natCast]at hi0
  have hdo:=does466 m hs x hm
  have htg:=target427 x hm
  have hinv:=fun h0 kv=>op_inv (β:=Ex ×Fr ×Heap) x hm h0 kv
  have hp:P[i]? =some (P.getD i (false,0)):=by
   rw[List.getD_eq_getElem?_getD,List.getElem?_eq_getElem (by omega)];rfl
  have c0:chkLen (P.map plV) (n+1)=some (P.map plV):=chkLen_of (by simp[hP])
  have g0:(P.map plV)[i]? =some (plV (P.getD i (false,0))):=by rw[List.getElem?_map,hp];rfl
  generalize hpp:P.getD i (false,0)=p at g0
  obtain⟨re,s⟩:=p
  cases re with
  |false=>
   obtain⟨fr,hh,ih⟩:=ih (i+1) P hd' (by omega) hP
   have e:overS m n (x::r) i P=overS m n r (i+1) P:=by simp only[overS,hpp,if_true]
   refine⟨fr,hh,?_⟩
   rw[lp467_0,e,←ih]
   simp -implicitDefEqProofs [hlt,w1,hx',c0,g0,plV,hi0]
  |true=>
   have hdo:=hdo s
   have hi1:=hia ((i:Int)+1) (by omega) (by omega)
   have e2:((i:Int)+1).toNat=i+1:=by omega
   rw[e2]at hi1
   have hpp':P[i]?.getD (false,0#64)=(true,s):=by rw[←List.getD_eq_getElem?_getD];exact hpp
   by_cases he:(doesS m x s).2.2=0
   ·by_cases hop:x.Op.n=34
    ·have e:overS m n (x::r) i P=overS m n r (i+1) (atP P n s):=by simp[overS,hpp',he,hop]
     obtain⟨fr,hh,ih⟩:=ih (i+1) (atP P n s) hd' (by omega) (by simp[hP])
     have ha:=fun kv=>atK (β:=Ex ×Fr ×Heap) (.arr [m.v]) P n s (n+1) hP (by omega) kv
     refine⟨fr,hh,?_⟩
     rw[lp467_0,e,←ih]
     simp -implicitDefEqProofs [hlt,w1,hx',c0,g0,plV,hi0,hdo,he,hinv,hop,ha]
    ·cases ht':targetB x with
     |none=>
      have hj:x.Op.n≠31:=by intro e;simp[targetB,e]at ht'
      have e:overS m n (x::r) i P=overS m n r (i+1) (atP P (i+1) (doesS m x s).1):=by simp[overS,hpp',he,hop,hj,ht']
      obtain⟨fr,hh,ih⟩:=ih (i+1) (atP P (i+1) (doesS m x s).1) hd' (by omega) (by simp[hP])
      have ha:=fun kv=>atK (β:=Ex ×Fr ×Heap) (.arr [m.v]) P (i+1) (doesS m x s).1 (n+1) hP (by omega) kv
      rw[ht']at htg
      refine⟨fr,hh,?_⟩
      rw[lp467_0,e,←ih]
      simp -implicitDefEqProofs [hlt,w1,hx',c0,g0,plV,hi0,hdo,he,hinv,hop,ha,htg,hj,hi1]
     |some t=>
      obtain⟨t0,t1⟩:=ht x (List.mem_of_getElem? hx) t ht'
      have hit:=hia t t0 (by omega)
      have ha:=fun kv=>atK (β:=Ex ×Fr ×Heap) (.arr [m.v]) P t.toNat (doesS m x s).2.1 (n+1) hP (by omega) kv
      have hb:=fun kv=>atK (β:=Ex ×Fr ×Heap) (.arr [m.v]) (atP P t.toNat (doesS m x s).2.1) (i+1) (doesS m x s).1 (n+1) (by simp[hP]) (by omega) kv
      rw[ht']at htg
      by_cases hj:x.Op.n=31
      ·have e:overS m n (x::r) i P=overS m n r (i+1) (atP P t.toNat (doesS m x s).2.1):=by simp[overS,hpp',he,hj,ht']
       obtain⟨fr,hh,ih⟩:=ih (i+1) (atP P t.toNat (doesS m x s).2.1) hd' (by omega) (by simp[hP])
       refine⟨fr,hh,?_⟩
       rw[lp467_0,e,←ih]
       simp -implicitDefEqProofs [hlt,w1,hx',c0,g0,plV,hi0,hdo,he,hinv,ha,htg,hj,hit]
      ·have e:overS m n (x::r) i P=overS m n r (i+1) (atP (atP P t.toNat (doesS m x s).2.1) (i+1) (doesS m x s).1):=by simp[overS,hpp',he,hop,hj,ht']
       obtain⟨fr,hh,ih⟩:=ih (i+1) (atP (atP P t.toNat (doesS m x s).2.1) (i+1) (doesS m x s).1) hd' (by omega) (by simp[hP])
       refine⟨fr,hh,?_⟩
       rw[lp467_0,e,←ih]
       simp -implicitDefEqProofs [hlt,w1,hx',c0,g0,plV,hi0,hdo,he,hinv,hop,ha,hb,htg,hj,hit,hi1]
   ·have e:overS m n (x::r) i P=(some (i,(doesS m x s).2.2),P):=by simp[overS,hpp',he]
    refine⟨[],[.arr [m.v],.arr (P.map plV)],?_⟩
    rw[lp467_0,e]
    simp -implicitDefEqProofs [hlt,w1,hx',c0,g0,plV,hi0,hdo,he]
def flowA(n:Nat)(q:Option (Nat ×Int)×List (Bool ×Sl)):V:=
 match q with
 |(some (j,e),_)=>.tup [.int .u64 0,.int .i64 j,.int .i64 e]
 |(none,P)=>.tup [sV (P.getD n (false,0)).2,.int .i64 0,.int .i64 0]
def startP(n:Nat)(s:Sl):List (Bool ×Sl):=(true,s)::List.replicate n (false,0)
theorem overS_len(m:Image)(n:Nat): ∀(r:List Ins) (i:Nat) (P:List (Bool ×Sl)),(overS m n r i P).2.length=P.length
 |[],_,_=>rfl
 |x::r,i,P=>by
  simp only[overS]
  split
  ·exact overS_len m n r _ _
  ·split
   ·rfl
   ·split
    ·rw[overS_len m n r];simp
    ·split
     ·rw[overS_len m n r];split<;>simp
     ·rw[overS_len m n r];split<;>simp
theorem over467(m:Image)(hs:Stk m)(l:List Ins)(hl: ∀x∈l,mayC x=0)(hn2:l.length≤64)(ht: ∀x∈l,∀t,targetB x=some t→0≤t∧t≤l.length)(s:Sl):
 callRO vp 467 [m.v,.sl 1 (l.map stepV) .perm,sV s]=some (flowA l.length (overS m l.length l 0 (startP l.length s))):=by
 obtain⟨n,hn⟩: ∃n,l.length=n:=⟨_,rfl⟩
 rw[hn]at hn2 ht⊢
 obtain⟨fr,hh,hl⟩:=meet_op m hs l hl n hn hn2 ht l 0 (startP n s) rfl (by omega) (by simp[startP])
 have w1:IntKind.i64.wrap ((n:Int)+1)=(n:Int)+1:=wrap64 (by omega) (by omega)
 have hz:((0:Nat):Int)=0:=rfl
 rw[hz]at hl
 have ha:=fun kv=>meetK (β:=V) (.arr [m.v]) (List.replicate (n+1) (false,(0:Sl))) 0 (false,0) (by simp) s (n+1) (by simp) kv
 have e1:(List.replicate (n+1) (false,(0:Sl))).set 0 (meetP (false,0) s)=startP n s:=by
  simp[startP,meetP,List.replicate_succ]
 rw[e1]at ha
 have e2:List.replicate (n+1) (V.agg [.bool false,.int .u64 0])=(List.replicate (n+1) (false,(0:Sl))).map plV:=by rw[List.map_replicate];rfl
 have hmk:makeV [.arr [m.v]] (.agg [.bool false,.int .u64 0]) 16 (.int .i64 ((n:Int)+1)) (.int .i64 ((n:Int)+1))=some (.gsl 1 (n+1) 2 0 (n+1),[.arr [m.v],.arr ((List.replicate (n+1) (false,(0:Sl))).map plV)]):=by
  unfold makeV
  simp only
  have e3:((n:Int)+1).toNat=n+1:=by omega
  rw[if_pos (by unfold roomB;omega),e3,e2];rfl
 generalize List.replicate (n+1) (false,(0:Sl))=R at ha hmk
 have hi0:iaddrV 2 (.gsl 1 (n+1) 2 0 (n+1)) (.int .i64 0)=some (.ptr 1 (n+1) 0 0):=by simp[iaddrV]
 have hi1:iaddrV 2 (.gsl 1 (n+1) 2 0 (n+1)) (.int .i64 (n:Int))=some (.ptr 1 (n+1) n 0):=by simp[iaddrV];omega
 have hlen:=overS_len m n l 0 (startP n s)
 rw[callRO_K fn467]
 generalize overS m n l 0 (startP n s)=q at hl hlen
 have hll:(GL.v 1 (fun v:V=>v) ⟨l.map stepV,.perm,by simp;omega⟩)=.sl 1 (l.map stepV) .perm:=by simp[GL.v]
 obtain⟨o,P⟩:=q
 cases o with
 |some je=>
  obtain⟨j,e⟩:=je
  simp only at hl
  simp -implicitDefEqProofs [pureOp,hn,w1,hmk,hi0,hi1,ha,hl,flowA]
 |none=>
  simp only at hl hlen
  have c0:chkLen (P.map plV) (n+1)=some (P.map plV):=chkLen_of (by simp[hlen,startP])
  have g0:(P.map plV)[n]? =some (plV (P.getD n (false,0))):=by
   have:n<P.length:=by rw[hlen];simp[startP]
   rw[List.getElem?_map,List.getD_eq_getElem?_getD,List.getElem?_eq_getElem this];rfl
  simp -implicitDefEqProofs [pureOp,hn,w1,hmk,hi0,hi1,ha,hl,flowA,c0,g0,plV]
end Go.VE.Un
namespace Go.VE
theorem dK_one{β:Type}{O:Orc}{vp:VP}{lo:Nat}{fr:Fr}{h:Heap}{k:Fr→Heap→Option β}{d:VDt}{r:List VDt}{p:Nat}{rs:List LRec}(hd:d.it.dst.isSome=true):
 dK O vp lo (d::r) p rs fr h k=runK O vp lo [d.it] fr h (fun fr' h'=>if(rs.all fun e=> !d.xl.contains e.p||isSomeV (loadV h' e.agg e.n e.a) e.v)=true then dK O vp lo r (p+1) (recOf p d.it fr h (lk fr' (d.it.dst.getD 0))++rs) fr' h' k else none):=by
 obtain⟨t,hd⟩:=Option.isSome_iff_exists.1 hd
 unfold dK runK
 simp only[runD,runOps]
 cases stepIt O vp lo d.it fr h with
 |none=>rfl
 |some x=>
  simp only[Option.bind_some,hd,put_some,Option.getD_some,lk_hit]
  split<;>rfl
end Go.VE
namespace Go.VE.Un
open Go.VE
theorem build_m(m:Image)(k:Nat)(fr:Fr)(e:lk fr k=m.v):pureOp fr (.build [.str [],.sl 6 [] .nl,.sl 3 [] .nl,.sl 2 [] .nl,.sl 5 [] .nl,.sl 3 [] .nl,.sl 7 [] .nl,.sl 6 [] .nl,.sl 6 [] .nl,.sl 1 [] .nl,.sl 2 [] .nl,.sl 2 [] .nl,.sl 3 [] .nl,.sl 2 [] .nl,.sl 4 [] .nl,.int .i64 0,.int .i64 0,.int .i64 0] [(0,18,.t k)])=some m.v:=by
 simp only[pureOp,List.map,List.all,opd,e]
 rfl
theorem icode482(m:Image)(hm:Clo m)(l:GL Ins)(ps:GL I64):callRO vp 482 [m.v,GL.v 1 I64.v ps,GL.v 6 Ins.v l]=some (.int .i64 (codeF m l.l ps.l.length)):=by
 have hc:=code114 m hm l ps
 unfold chkV at hc
 have hb:=build_m m 8
 rw[callRO_K fn482]
 simp -implicitDefEqProofs [hb,hc]
def flowC(m:Image)(l:List Ins)(s:Sl):V:=
 if checkI m=none∧codeF m l 8=0 then flowA l.length (overS m l.length l 0 (startP l.length s))else .tup [.int .u64 0,.int .i64 0,.int .i64 1]
theorem steps_fine{m:Image}{p n:Int}: ∀{l:List Ins} {i:Int},stepsE m p n l i=0→0≤i→∀x∈l,∀t,targetB x=some t→0≤t∧t≤n
 |[],_,_,_,x,hx,_,_=>by simp at hx
 |y::r,i,h,hi,x,hx,t,ht=>by
  simp only[stepsE]at h
  split at h
  ·rename_i h0
   rcases List.mem_cons.1 hx with rfl|hx
   ·simp only[stepE,ht]at h0
    split at h0
    ·simp at h0
    ·rename_i h1
     by_cases hb:inB t (i+1) n=true
     ·simp[inB]at hb;omega
     ·simp[wantE,hb]at h0
   ·exact steps_fine h (by omega) x hx t ht
  ·rename_i h0;exact absurd h h0
theorem code_fine{m:Image}{l:List Ins}(h:codeF m l 8=0):allC l=none∧(∀x∈l,mayC x=0)∧∀x∈l,∀t,targetB x=some t→0≤t∧t≤l.length:=by
 unfold codeF at h
 cases ha:allC l with
 |some q=>obtain⟨i,e⟩:=q;rw[ha]at h;exact absurd h (allC_some ha)
 |none=>rw[ha]at h;exact⟨rfl,(allC_none ha).2,steps_fine h (by omega)⟩
theorem code461(m:Image)(hm:Clo m)(hsm:Small m)(hs:checkI m=none→Stk m)(l:GL Ins)(s:Sl):callRO vp 461 [m.v,GL.v 6 Ins.v l,sV s]=some (flowC m l.l s):=by
 have hck:=check481 m hm hsm
 have hco:=icode482 m hm l
 rw[callRO_K fn461]
 unfold flowC
 cases hc:checkI m with
 |some q=>
  obtain⟨p,n,e⟩:=q
  rw[hc]at hck
  simp -implicitDefEqProofs [hck,dK_one,Tx.E,Tx.D,Tx.la,Tx.ct,Tx.it,Tx.mv,Tx.Gf,Tx.G,Tx.bi,Tx.po,recOf,isSomeV]
 |none=>
  rw[hc]at hck
  simp -implicitDefEqProofs [hck,dK_one,Tx.E,Tx.D,Tx.la,Tx.ct,Tx.it,Tx.mv,Tx.Gf,Tx.G,Tx.bi,Tx.po,recOf,isSomeV]
  have hmk:makeV [.arr [m.v]] (.int .i64 0) 8 (.int .i64 8) (.int .i64 8)=some (.gsl 1 8 1 0 8,[.arr [m.v],.arr (List.replicate 8 (V.int .i64 0))]):=by simp[makeV,roomB,V.cells]
  have hbq:beqV m.v m.v=true:=by simp
  have hco8:callRO vp 482 [m.v,.sl 1 [.int .i64 0,.int .i64 0,.int .i64 0,.int .i64 0,.int .i64 0,.int .i64 0,.int .i64 0,.int .i64 0] .brw,GL.v 6 Ins.v l]=some (.int .i64 (codeF m l.l 8)):=hco ⟨List.replicate 8 I64.z,.brw,by simp⟩
  by_cases hz:codeF m l.l 8=0
  ·obtain⟨h1,h2,h3⟩:=code_fine hz
   have ha:=all422 l
   rw[h1]at ha
   have ho:=over467 m (hs hc) l.l h2 (allC_none h1).1 h3 s
   have hcl:closedB (flowA l.l.length (overS m l.l.length l.l 0 (startP l.l.length s)))=true:=by
    unfold flowA;split<;>simp
   generalize overS m l.l.length l.l 0 (startP l.l.length s)=q at ho hcl
   obtain⟨o,P⟩:=q
   cases o with
   |none=>
    simp only[flowA]at ho
    simp -implicitDefEqProofs [hmk,hbq,hz,ldc_all,List.replicate,subL,hco8,ha,ho,flowA]
   |some q=>
    simp only[flowA]at ho
    simp -implicitDefEqProofs [hmk,hbq,hz,ldc_all,List.replicate,subL,hco8,ha,ho,flowA]
  ·simp -implicitDefEqProofs [hmk,hbq,hz,ldc_all,List.replicate,subL,hco8]
end Go.VE.Un
namespace Go.VE.Un
open Go.VE
theorem checkI_part{m:Image}(h:checkI m=none)(p:Int)(h0:0≤p)(h1:p<15):(partE m p).2=0:=check_none h p h0 h1
theorem slotsN_app: ∀a b:List Inst,slotsN (a++b)=slotsN a+slotsN b
 |[],b=>by simp[slotsN]
 |x::a,b=>by simp only[List.cons_append,slotsN,slotsN_app a b];omega
theorem stk_of{m:Image}(h:checkI m=none):Stk m∧slotsN m.Insts.l≤32:=by
 have h2:mayI m.Headers.l.length m.Insts.l=0:=by simpa[partE]using checkI_part h 2 (by omega) (by omega)
 have h3:slotsN m.Insts.l≤32:=by
  unfold mayI at h2
  split at h2
  ·simp at h2
  ·split at h2
   ·rename_i h1;exact absurd h2 h1
   ·split at h2
    ·simp at h2
    ·omega
 refine⟨fun i f d hs=> ?_,h3⟩
 unfold stacked firstI at hs
 rcases getI_cases m.Insts.l i with⟨x,h0,h1,hg⟩|⟨h0,hg⟩
 ·rw[hg]at hs
  simp only[Option.bind_some]at hs
  by_cases hmz:many x.Depth.n=0
  ·simp[hmz]at hs
  ·by_cases hd:x.Depth.n=0
   ·simp[hmz,hd]at hs
   ·simp[hmz,hd]at hs
    obtain⟨rfl,rfl⟩:=hs
    have hb:=slotsN_bd (m.Insts.l.take i.toNat)
    have hc:=slotsN_bd (m.Insts.l.drop (i.toNat+1))
    have hmd:many x.Depth.n=x.Depth.n∧0≤x.Depth.n:=by
     unfold many at hmz⊢
     split at hmz
     ·rename_i hk;rw[if_pos hk,if_neg hd];exact⟨rfl,hk.1⟩
     ·exact absurd rfl hmz
    have e:m.Insts.l=m.Insts.l.take i.toNat++x::m.Insts.l.drop (i.toNat+1):=by
     obtain⟨hi,hx⟩: ∃hi:i.toNat<m.Insts.l.length,m.Insts.l[i.toNat]=x:=by
      unfold getI at hg;rw[if_pos h0]at hg;exact List.getElem?_eq_some_iff.1 hg
     rw[←hx,List.getElem_cons_drop,List.take_append_drop]
    have e2:=congrArg slotsN e
    rw[slotsN_app]at e2
    simp only[slotsN]at e2
    omega
 ·rw[hg]at hs;simp at hs
end Go.VE.Un
namespace Go.VE.Un
open Go.VE
def isS(n:Int)(k:Nat):Bool:=decide (0≤n∧n<64∧k=n.toNat)
theorem bitS_get(n:Int)(k:Nat):(bitS n).getLsbD k=isS n k:=by
 unfold bitS isS
 by_cases h:0≤n∧n<64
 ·rw[if_pos h,BitVec.getLsbD_twoPow]
  have:n.toNat<64:=by omega
  by_cases e:k=n.toNat
  ·subst e;simp[h,this]
  ·have e2: ¬n.toNat=k:=fun q=>e q.symm
   simp[e,e2]
 ·rw[if_neg h]
  simp
  omega
theorem withS_get(s:Sl)(n:Int)(k:Nat):(withS s n).getLsbD k=(s.getLsbD k||isS n k):=by
 unfold withS;rw[BitVec.getLsbD_or,bitS_get]
theorem goneS_get(s:Sl)(n:Int)(k:Nat):(goneS s n).getLsbD k=(s.getLsbD k&& !isS n k):=by
 unfold goneS;rw[BitVec.getLsbD_and,BitVec.getLsbD_not,bitS_get]
 by_cases h:k<64
 ·simp[h]
 ·have:s.getLsbD k=false:=BitVec.getLsbD_of_ge s k (by omega)
  simp[this]
theorem ne0_get(s:Sl):(s !=0)=true↔∃k,s.getLsbD k=true:=by
 constructor
 ·intro h
  rcases Classical.em (∃k,s.getLsbD k=true)with h1|h1
  ·exact h1
  ·exfalso
   have:s=0#64:=BitVec.eq_of_getLsbD_eq fun k hk=>by
    have: ¬s.getLsbD k=true:=fun e=>h1 ⟨k,e⟩
    simpa using this
   subst this;simp at h
 ·rintro⟨k,hk⟩
  rw[bne_iff_ne]
  intro e;subst e;simp at hk
theorem hasS_get(s:Sl)(n:Int):hasS s n=(decide (0≤n∧n<64)&&s.getLsbD n.toNat):=by
 rw[Bool.eq_iff_iff]
 unfold hasS
 rw[ne0_get]
 simp only[BitVec.getLsbD_and,bitS_get,Bool.and_eq_true,isS,decide_eq_true_eq]
 constructor
 ·rintro⟨k,h1,h2,h3,rfl⟩;exact⟨⟨h2,h3⟩,h1⟩
 ·rintro⟨⟨h2,h3⟩,h1⟩;exact⟨_,h1,h2,h3,rfl⟩
def SubS(a b:Sl):Prop:= ∀k,a.getLsbD k=true→b.getLsbD k=true
theorem subS_iff(a b:Sl):(a&&& ~~~b==0)=true↔SubS a b:=by
 have e:(a&&& ~~~b==0)= !(a&&& ~~~b !=0):=by simp[bne]
 rw[e,Bool.not_eq_true',←Bool.not_eq_true,ne0_get]
 constructor
 ·intro h k hk
  by_cases hb:b.getLsbD k=true
  ·exact hb
  ·exact absurd ⟨k,by
    have:k<64:=BitVec.lt_of_getLsbD hk
    rw[BitVec.getLsbD_and,BitVec.getLsbD_not,hk,(Bool.not_eq_true _).mp hb,decide_eq_true this];rfl⟩ h
 ·rintro h ⟨k,hk⟩
  rw[BitVec.getLsbD_and,BitVec.getLsbD_not]at hk
  simp at hk
  have:=h k hk.1
  rw[this]at hk;simp at hk
theorem SubS.refl(a:Sl):SubS a a:=fun _ h=>h
theorem SubS.trans{a b c:Sl}(h:SubS a b)(g:SubS b c):SubS a c:=fun k e=>g k (h k e)
theorem SubS.with{a b:Sl}(h:SubS a b)(n:Int):SubS (withS a n) (withS b n):=fun k e=>by
 rw[withS_get,Bool.or_eq_true]at e⊢
 exact e.imp (h k) id
theorem SubS.gone{a b:Sl}(h:SubS a b)(n:Int):SubS (goneS a n) (goneS b n):=fun k e=>by
 rw[goneS_get,Bool.and_eq_true]at e⊢
 exact⟨h k e.1,e.2⟩
theorem SubS.and{a b c d:Sl}(h:SubS a b)(g:SubS c d):SubS (a&&&c) (b&&&d):=fun k e=>by
 rw[BitVec.getLsbD_and,Bool.and_eq_true]at e⊢
 exact⟨h k e.1,g k e.2⟩
theorem SubS.has{a b:Sl}(h:SubS a b){n:Int}(e:hasS a n=true):hasS b n=true:=by
 rw[hasS_get,Bool.and_eq_true]at e⊢
 exact⟨e.1,h _ e.2⟩
theorem SubS.or(a b:Sl):SubS a (a|||b):=fun k e=>by rw[BitVec.getLsbD_or,e];rfl
theorem moveL_mono(f d n:Int){s t:Sl}(h:SubS s t): ∀(j:Nat) (i:Int) {o p:Sl},SubS o p→SubS (moveL f d n s j i o) (moveL f d n t j i p)
 |0,_,_,_,g=>g
 |j+1,i,o,p,g=>by
  simp only[moveL]
  apply moveL_mono f d n h j
  split
  ·rename_i c
   rw[if_pos ⟨c.1,c.2.1,h.has c.2.2⟩]
   exact(g.gone _).with _
  ·split
   ·intro k e
    rw[withS_get,g.gone _ k e];rfl
   ·exact g.gone _
theorem moveS_mono(m:Image)(i n:Int){s t:Sl}(h:SubS s t):SubS (moveS m i n s) (moveS m i n t):=by
 unfold moveS;split
 ·exact h
 ·exact moveL_mono _ _ _ h _ _ h
theorem doesS_mono(m:Image)(x:Ins){s t:Sl}(h:SubS s t)(e:(doesS m x s).2.2=0):(doesS m x t).2.2=0∧SubS (doesS m x s).1 (doesS m x t).1∧SubS (doesS m x s).2.1 (doesS m x t).2.1:=by
 unfold doesS at e⊢
 by_cases c1:x.Op.n=1∨x.Op.n=22
 ·simp only[c1,if_true]at e⊢
  by_cases c:hasS s x.A.n=true
  ·simp only[c,if_true,h.has c];exact⟨trivial,h,h⟩
  ·simp[c]at e
 simp only[c1,if_false]at e⊢
 by_cases c2:x.Op.n=25
 ·simp only[c2,if_true];exact⟨trivial,h.with _,.refl _⟩
 simp only[c2,if_false]
 by_cases c3:x.Op.n=26
 ·simp only[c3,if_true];exact⟨trivial,h.gone _,.refl _⟩
 simp only[c3,if_false]
 by_cases c4:x.Op.n=27
 ·simp only[c4,if_true];exact⟨trivial,moveS_mono m _ _ h,.refl _⟩
 simp only[c4,if_false]
 by_cases c5:x.Op.n=28
 ·simp only[c5,if_true];exact⟨trivial,moveS_mono m _ _ h,.refl _⟩
 simp only[c5,if_false]
 by_cases c6:x.Op.n=33
 ·simp only[c6,if_true];exact⟨trivial,h.with _,h.gone _⟩
 simp only[c6,if_false]
 exact⟨trivial,h,h⟩
def LeP(P Q:List (Bool ×Sl)):Prop:=P.length=Q.length∧∀i:Nat,(P.getD i (false,0)).1=(Q.getD i (false,0)).1∧SubS (P.getD i (false,0)).2 (Q.getD i (false,0)).2
theorem getD_set(P:List (Bool ×Sl))(i j:Nat)(v:Bool ×Sl):(P.set i v).getD j (false,0)=if i=j∧i<P.length then v else P.getD j (false,0):=by
 rw[List.getD_eq_getElem?_getD,List.getElem?_set]
 by_cases e:i=j
 ·subst e
  by_cases c:i<P.length
  ·simp[c]
  ·simp[c]
 ·simp[e]
theorem LeP.at{P Q:List (Bool ×Sl)}(h:LeP P Q)(i:Nat){s t:Sl}(g:SubS s t):LeP (atP P i s) (atP Q i t):=by
 refine⟨by simp[h.1],fun j=> ?_⟩
 unfold atP
 rw[getD_set,getD_set,←h.1]
 by_cases c:i=j∧i<P.length
 ·rw[if_pos c,if_pos c]
  have hi:=h.2 i
  unfold meetP
  rw[←hi.1]
  split
  ·exact⟨rfl,hi.2.and g⟩
  ·exact⟨rfl,g⟩
 ·rw[if_neg c,if_neg c];exact h.2 j
end Go.VE.Un
namespace Go.VE.Un
open Go.VE
def bitsS(s:Sl):List Bool:=(List.range 64).map fun k=>s.getLsbD k
def bsV(l:List Bool):V:=.agg (l.map V.bool)
def setV(s:Sl):V:=bsV (bitsS s)
@[simp] theorem bitsS_len(s:Sl):(bitsS s).length=64:=by simp[bitsS]
theorem bitsS_get(s:Sl)(k:Nat)(h:k<64):(bitsS s)[k]? =some (s.getLsbD k):=by
 unfold bitsS;rw[List.getElem?_map,List.getElem?_range h];rfl
theorem bools_closed(l:List Bool):closedL (l.map V.bool)=true:=by rw[closedL_map];simp
theorem bools_below(k:Nat)(l:List Bool):belowL k (l.map V.bool)=true:=belowL_map (fun _=>rfl) l
@[simp] theorem bsV_closed(l:List Bool):closedB (bsV l)=true:=by simp[bsV,bools_closed]
@[simp] theorem bsV_below(k:Nat)(l:List Bool):belowB k (bsV l)=true:=by simp[bsV,bools_below]
@[simp] theorem bsV_ok(l:List Bool):okV (bsV l)=true:=nr rfl
@[simp] theorem setV_closed(s:Sl):closedB (setV s)=true:=bsV_closed _
@[simp] theorem setV_below(k:Nat)(s:Sl):belowB k (setV s)=true:=bsV_below _ _
@[simp] theorem setV_ok(s:Sl):okV (setV s)=true:=nr rfl
theorem bsV_ldw{l:List Bool}{n:Nat}(h:l.length=n):ldc (bsV l) true n 0=some (bsV l):=ldc_all (by simp[h])
@[simp] theorem setV_ldw(s:Sl):ldc (setV s) true 64 0=some (setV s):=bsV_ldw (bitsS_len s)
theorem bsV_ld(l:List Bool)(n o:Nat):ldc (bsV l) false n o=(l[o]?).map V.bool:=by simp[bsV]
theorem setV_ld(s:Sl)(n o:Nat)(h:o<64):ldc (setV s) false n o=some (.bool (s.getLsbD o)):=by unfold setV;rw[bsV_ld,bitsS_get s o h];rfl
theorem bsV_st{l:List Bool}{o:Nat}(h:o<l.length)(b:Bool):stc (bsV l) 1 o (.bool b)=some (bsV (l.set o b)):=by
 unfold bsV;rw[stc_cell (by simpa using h) rfl,List.map_set]
theorem bsV_stw{l l':List Bool}{n:Nat}(h:l.length=n)(h':l'.length=n):stc (bsV l) n 0 (bsV l')=some (bsV l'):=stc_all (by simp[h]) (by simp[h'])
@[simp] theorem setV_stw{l:List Bool}(h:l.length=64)(s:Sl):stc (bsV l) 64 0 (setV s)=some (setV s):=bsV_stw h (bitsS_len s)
@[simp] theorem setV_sts(t s:Sl):stc (setV t) 64 0 (setV s)=some (setV s):=bsV_stw (bitsS_len t) (bitsS_len s)
theorem bits_ext{l:List Bool}{s:Sl}(hl:l.length=64)(h: ∀k,k<64→l[k]? =some (s.getLsbD k)):l=bitsS s:=by
 apply List.ext_getElem?
 intro k
 by_cases c:k<64
 ·rw[h k c,bitsS_get s k c]
 ·rw[List.getElem?_eq_none (by omega),List.getElem?_eq_none (by simp;omega)]
theorem bits_zero:List.replicate 64 false=bitsS 0#64:=bits_ext (by simp) fun k h=>by rw[List.getElem?_replicate,if_pos h];simp
theorem rp_bs:V.agg (rp 64 (.bool false))=setV 0#64:=by unfold setV;rw[←bits_zero];simp only[rp,bsV,List.map_replicate]
theorem isS_nat{n:Int}{k:Nat}(h0:0≤n)(h1:n<64):isS n k=decide (k=n.toNat):=by unfold isS;simp[h0,h1]
theorem bits_with(s:Sl){n:Int}(h0:0≤n)(h1:n<64):(bitsS s).set n.toNat true=bitsS (withS s n):=bits_ext (by simp) fun k h=>by
 rw[withS_get,isS_nat h0 h1,List.getElem?_set]
 by_cases c:n.toNat=k
 ·subst c;simp;omega
 ·have: ¬k=n.toNat:=fun e=>c e.symm
  rw[if_neg c,bitsS_get s k h];simp[this]
theorem bits_gone(s:Sl){n:Int}(h0:0≤n)(h1:n<64):(bitsS s).set n.toNat false=bitsS (goneS s n):=bits_ext (by simp) fun k h=>by
 rw[goneS_get,isS_nat h0 h1,List.getElem?_set]
 by_cases c:n.toNat=k
 ·subst c;simp;omega
 ·have: ¬k=n.toNat:=fun e=>c e.symm
  rw[if_neg c,bitsS_get s k h];simp[this]
theorem setV_with(s:Sl){n:Int}(h0:0≤n)(h1:n<64):stc (setV s) 1 n.toNat (.bool true)=some (setV (withS s n)):=by
 unfold setV;rw[bsV_st (by simp;omega),bits_with s h0 h1]
theorem setV_gone(s:Sl){n:Int}(h0:0≤n)(h1:n<64):stc (setV s) 1 n.toNat (.bool false)=some (setV (goneS s n)):=by
 unfold setV;rw[bsV_st (by simp;omega),bits_gone s h0 h1]
theorem hasS_nat(s:Sl){n:Int}(h0:0≤n)(h1:n<64):hasS s n=s.getLsbD n.toNat:=by rw[hasS_get];simp[h0,h1]
def fillL:Nat→Nat→Nat→List Bool→List Bool
 |_,0,_,L=>L
 |n,j+1,i,L=>fillL (n/2) j (i+1) (L.set i (n%2==1))
theorem fillL_len: ∀(j n i:Nat) (L:List Bool),(fillL n j i L).length=L.length
 |0,_,_,_=>rfl
 |j+1,n,i,L=>by simp[fillL,fillL_len j]
theorem fillL_get: ∀(j n i:Nat) (L:List Bool) (k:Nat),i+j≤L.length→(fillL n j i L)[k]? =if i≤k∧k<i+j then some (n.testBit (k-i))else L[k]?
 |0,n,i,L,k,h=>by simp only[fillL];rw[if_neg (by omega)]
 |j+1,n,i,L,k,h=>by
  simp only[fillL]
  rw[fillL_get j _ _ _ k (by simp;omega)]
  by_cases c:i+1≤k∧k<i+1+j
  ·rw[if_pos c,if_pos (by omega),show k-i=(k-(i+1))+1 by omega,Nat.testBit_succ]
  ·rw[if_neg c,List.getElem?_set]
   by_cases e:i=k
   ·subst e
    rw[if_pos rfl,if_pos (by omega),if_pos (by omega)]
    congr 1
    rw[Nat.sub_self,Nat.testBit_zero]
    rw[Bool.eq_iff_iff];simp
   ·rw[if_neg e,if_neg (by omega)]
theorem fill_bits(s:Sl):fillL s.toNat 64 0 (bitsS 0#64)=bitsS s:=bits_ext (by simp[fillL_len]) fun k h=>by
 rw[fillL_get _ _ _ _ _ (by simp),if_pos (by omega)]
 simp[BitVec.testBit_toNat]
theorem loop905(b:Blk): ∀(j:Nat) (i n:Nat) (L:List Bool),i+j=64→n<18446744073709551616→L.length=64→∃fr,(orc vp).loop 0 [0,2,3,4] L905_0 [(0,.int .u64 n),(2,.ptr 0 1 0 0),(3,.ptr 1 1 0 0),(4,.int .i64 i)] [b,.arr [bsV L]]=
 some (.brk 0,(0,fr)::(2,.ptr 0 1 0 0)::(3,.ptr 1 1 0 0)::(4,.int .i64 64)::[(6,.bool false)],[b,.arr [bsV (fillL n j i L)]]):=by
 intro j
 induction j with
 |zero=>
  intro i n L h hn hL
  have hi:i=64:=by omega
  subst hi
  refine⟨.int .u64 n,?_⟩
  rw[lp905_0]
  simp -implicitDefEqProofs [fillL]
 |succ j ih=>
  intro i n L h hn hL
  have hlt:(i:Int)<64:=by omega
  obtain⟨i2,hi2⟩: ∃i2,i+1=i2:=⟨_,rfl⟩
  obtain⟨n2,hn2⟩: ∃n2,n/2=n2:=⟨_,rfl⟩
  have w1:IntKind.i64.wrap ((i:Int)+1)=(i2:Int):=by rw[wrap64 (by omega) (by omega)];omega
  have q1:binV .rem (.int .u64 n) (.int .u64 2)=some (.int .u64 ((n:Int)%2)):=by
   rw[bin_rem _ _ _ (by decide:(2:Int)≠0)];congr 2
  have q2:binV .quo (.int .u64 n) (.int .u64 2)=some (.int .u64 (n2:Int)):=by
   rw[bin_quo _ _ _ (by decide:(2:Int)≠0),Int.tdiv_eq_ediv_of_nonneg (by omega),wrapU64 (by omega) (by omega)];congr 2;omega
  have e1:decide ((n:Int)%2=1)=(n%2==1):=by
   rw[Bool.eq_iff_iff];simp;omega
  have st:=bsV_st (l:=L) (o:=i) (by omega) (n%2==1)
  obtain⟨fr,ih⟩:=ih i2 n2 (L.set i (n%2==1)) (by omega) (by omega) (by simp[hL])
  refine⟨fr,?_⟩
  rw[lp905_0]
  simp only[fillL,hi2,hn2]
  simp -implicitDefEqProofs [hlt,w1,q1,q2,e1,st,ih]
theorem of905(s:Sl):callRO vp 905 [sV s]=some (setV s):=by
 have hz:((0:Nat):Int)=0:=rfl
 obtain⟨fr,hl⟩:=loop905 (.arr [setV 0#64]) 64 0 s.toNat (bitsS 0#64) rfl s.isLt (by simp)
 rw[fill_bits,hz]at hl
 have hb: ∀s,bsV (bitsS s)=setV s:=fun _=>rfl
 rw[hb,hb]at hl
 have hr:=rp_bs
 rw[callRO_K fn905]
 unfold sV
 simp -implicitDefEqProofs [hr,hl]
end Go.VE.Un
