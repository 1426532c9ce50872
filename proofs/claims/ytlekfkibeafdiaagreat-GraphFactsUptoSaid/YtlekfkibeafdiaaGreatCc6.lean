/- Joined texts: CrF, CrG, CkT. No condition: what each theorem needs stands in it. -/
import Derived.Test.YtlekfkibeafdiaaGreatCc5
import Derived.Test.YtlekfkibeafdiaaGreatCc4
namespace Go.VE
def bv(b:Bool):V:=.bool b
@[simp] theorem Znf(k:Nat)(b:Bool):Zk k (bv b)=true:=nr rfl
@[simp] theorem Zul(b:Bool):Ze (bv b)=true:=nr rfl
@[simp] theorem ZtI(l:List Bool):Zv (l.map bv)=true:=by rw[YR];simp
@[simp] theorem Zkt(k:Nat)(l:List Bool):Zo k (l.map bv)=true:=Yq (fun _=>rfl) l
def Yz(n w:Nat):List Bool:=(List.range w).map n.testBit
@[simp] theorem ZuZ(n w:Nat):(Yz n w).length=w:=by simp[Yz]
theorem Uw(n:Nat){w j:Nat}(h:j<w):(Yz n w)[j]? =some (n.testBit j):=by simp[Yz,h]
theorem ZaA(n w:Nat):Yz n (w+1)=Yz n w++[n.testBit w]:=by simp[Yz,List.range_succ]
end Go.VE
namespace Go.VE.Un
open Go.VE
theorem Zou(x:Vec)(g:x.good=true): ∀(j k:Nat),k+j=x.W.n.toNat→(orc vp).loop 0 [1,3,4,5] Zgx [(1,.ptr 0 1 0 0),(3,.ptr 1 1 0 0),(4,.gsl 2 k 1 0 k),(5,.int .i64 k)] [.arr [x.v],.arr [.agg (Y0 x.n.testBit)],.arr ((Yz x.n k).map bv)]=
 some (.brk 0,[(1,.ptr 0 1 0 0),(3,.ptr 1 1 0 0),(4,.gsl 2 x.W.n.toNat 1 0 x.W.n.toNat),(5,.int .i64 x.W.n),(18,.bool false)],[.arr [x.v],.arr [.agg (Y0 x.n.testBit)],.arr ((Yz x.n x.W.n.toNat).map bv)]):=by
 simp only[Vec.good,Bool.and_eq_true,decide_eq_true_eq]at g
 intro j
 induction j with
 |zero=>
  intro k hk
  obtain rfl:k=x.W.n.toNat:=by omega
  have e:((x.W.n.toNat:Nat):Int)=x.W.n:=by omega
  rw[Zi5,e]
  simp -implicitDefEqProofs [Zam]
 |succ j ih=>
  intro k hk
  obtain⟨h1,h2⟩:((k:Int)<x.W.n)∧((k:Int)<128):=by and_intros<;>omega
  have w1:=w64 (n:=(k:Int)+1) (by omega)
  have ih:=ih (k+1) (by omega)
  have p1:((k+1:Nat):Int)=(k:Int)+1:=by omega
  rw[p1]at ih
  have hg:=VJ x.n.testBit (show k<128 by omega)
  have ha:X3 0 [.arr [x.v],.arr [.agg (Y0 x.n.testBit)],.arr ((Yz x.n k).map bv)] 1 1 (.gsl 2 k 1 0 k) [.bool (x.n.testBit k)]=some (.gsl 2 (k+1) 1 0 (k+1),[.arr [x.v],.arr [.agg (Y0 x.n.testBit)],.arr ((Yz x.n (k+1)).map bv)]):=by
   have:=Zsf (lo:=0) (z:=1) (bytes:=1) (es:=(Yz x.n k).map bv) (ns:=[.bool (x.n.testBit k)]) (b:=.arr [x.v]) (c:=.arr [.agg (Y0 x.n.testBit)]) (h:=[]) (by omega) rfl (by simp[YC];omega)
   rw[ZaA,List.map_append]
   simpa[bv]using this
  rw[Zi5]
  simp -implicitDefEqProofs [h1,h2,w1,hg,Z9,Yy,ha,ih]
theorem Zi0(x:Vec)(g:x.good=true):Zc vp 783 [x.v]=some (.sl 1 ((Yz x.n x.W.n.toNat).map bv) .perm):=by
 have hn:=x.n_lt
 have h1:((x.n/18446744073709551616:Nat):Int)=x.Hi.n:=by have:=x.Hi.lo;have:=x.Lo.lo;have:=x.Lo.hi;unfold Vec.n;omega
 have h2:((x.n%18446744073709551616:Nat):Int)=x.Lo.n:=by have:=x.Hi.lo;have:=x.Lo.lo;have:=x.Lo.hi;unfold Vec.n;omega
 have ho:=Zq8 x.n hn
 rw[h1,h2]at ho
 have hl:=Zou x g x.W.n.toNat 0 (by omega)
 have e:(Yz x.n 0).map bv=[]:=rfl
 rw[e]at hl
 simp only[Int.natCast_zero]at hl
 rw[Za Zw5]
 simp -implicitDefEqProofs [ho,ZtN,hl]
theorem dbl(x:Nat)(i:Nat):2*(x/2^(i+1))+(if x.testBit i=true then 1 else 0)=x/2^i:=by
 have h1:x/2^(i+1)=x/2^i/2:=by rw[Nat.div_div_eq_div_mul,←Nat.pow_succ]
 have h2:x.testBit i=decide (x/2^i%2=1):=Nat.testBit_eq_decide_div_mod_eq
 rw[h1,h2]
 by_cases c:x/2^i%2=1
 ·simp[c];omega
 ·simp[c];omega
theorem ZyE(x:Nat)(h:2*x<18446744073709551616):Yh .mul (.int .u64 2) (.int .u64 (x:Int))=some (.int .u64 ((2*x:Nat):Int)):=by
 rw[ZpQ,show(2:Int)*(x:Int)=((2*x:Nat):Int)by omega,KH h]
theorem Zop(x:Nat)(h:x+1<18446744073709551616):Yh .add (.int .u64 (x:Int)) (.int .u64 1)=some (.int .u64 ((x+1:Nat):Int)):=by
 rw[Zo1,show(x:Int)+1=((x+1:Nat):Int)by omega,KH h]
theorem ZpP(n:Nat)(hn:n<340282366920938463463374607431768211456): ∀(k:Nat),k≤64→(orc vp).loop 0 [1,4,5,6] ZhU [(1,.ptr 0 1 0 0),(4,.int .u64 ((n/18446744073709551616/2^k:Nat):Int)),(5,.int .u64 ((n%18446744073709551616/2^k:Nat):Int)),(6,.int .i64 ((k:Int)-1))] [.arr [.agg (Y0 n.testBit)]]=
 some (.brk 0,[(1,.ptr 0 1 0 0),(4,.int .u64 ((n/18446744073709551616:Nat):Int)),(5,.int .u64 ((n%18446744073709551616:Nat):Int)),(6,.int .i64 (-1)),(8,.bool false)],[.arr [.agg (Y0 n.testBit)]]):=by
 intro k
 induction k with
 |zero=>
  intro _
  rw[ZiY]
  simp -implicitDefEqProofs [-Int.natCast_ediv,-Int.natCast_emod]
 |succ k ih=>
  intro hk
  have ih:=ih (by omega)
  have h0:(((k+1:Nat):Int)-1)=k:=by omega
  have w1:=w64 (n:=(k:Int)-1) (by omega)
  have w2:=w64 (n:=(k:Int)+64) (by omega)
  obtain⟨z1,g1,g2,g3⟩:(((k:Int)+64).toNat=k+64)∧((0:Int)≤(k:Int)+64)∧((k:Int)+64<128)∧((k:Int)<128):=by and_intros<;>omega
  have b1:=VJ n.testBit (show k<128 by omega)
  have b2:=VJ n.testBit (show k+64<128 by omega)
  have t1:=ZrL n k
  have t2:=ZrD n k (by omega)
  have d1:=dbl (n/18446744073709551616) k
  have d2:=dbl (n%18446744073709551616) k
  rw[t1]at d1;rw[t2]at d2
  have hh:n/18446744073709551616/2^k<18446744073709551616:=Nat.lt_of_le_of_lt (Nat.div_le_self _ _) (ZbA hn)
  have hl:n%18446744073709551616/2^k<18446744073709551616:=Nat.lt_of_le_of_lt (Nat.div_le_self _ _) (Nat.mod_lt _ (by decide))
  rw[h0,ZiY]
  generalize n/18446744073709551616/2^k=H at*
  generalize n%18446744073709551616/2^k=L at*
  generalize n/18446744073709551616/2^(k+1)=H' at*
  generalize n%18446744073709551616/2^(k+1)=L' at*
  generalize n/18446744073709551616=H2 at*
  generalize n%18446744073709551616=L2 at*
  have m1:=ZyE H' (by omega)
  have m2:=ZyE L' (by omega)
  cases c1:n.testBit (k+64)<;>cases c2:n.testBit k<;>rw[c1]at d1 b2<;>rw[c2]at d2 b1<;>simp only[Bool.false_eq_true,if_false,if_true,Nat.add_zero]at d1 d2
  ·rw[d1]at m1;rw[d2]at m2
   simp -implicitDefEqProofs [w1,w2,z1,g1,g2,g3,b1,b2,m1,m2,ih,-Int.natCast_ediv,-Int.natCast_emod,-Int.natCast_mul]
  ·rw[d1]at m1
   have a2:=Zop (2*L') (by omega)
   rw[d2]at a2
   simp -implicitDefEqProofs [w1,w2,z1,g1,g2,g3,b1,b2,m1,m2,a2,ih,-Int.natCast_ediv,-Int.natCast_emod,-Int.natCast_mul]
  ·rw[d2]at m2
   have a1:=Zop (2*H') (by omega)
   rw[d1]at a1
   simp -implicitDefEqProofs [w1,w2,z1,g1,g2,g3,b1,b2,m1,m2,a1,ih,-Int.natCast_ediv,-Int.natCast_emod,-Int.natCast_mul]
  ·have a1:=Zop (2*H') (by omega)
   have a2:=Zop (2*L') (by omega)
   rw[d1]at a1;rw[d2]at a2
   simp -implicitDefEqProofs [w1,w2,z1,g1,g2,g3,b1,b2,m1,m2,a1,a2,ih,-Int.natCast_ediv,-Int.natCast_emod,-Int.natCast_mul]
theorem Zlt(n:Nat)(hn:n<340282366920938463463374607431768211456):Zc vp 772 [.agg (Y0 n.testBit)]=some (.tup [.int .u64 ((n/18446744073709551616:Nat):Int),.int .u64 ((n%18446744073709551616:Nat):Int)]):=by
 have hl:=ZpP n hn 64 (by omega)
 have e1:n/18446744073709551616/2^64=0:=Nat.div_eq_of_lt (ZbA hn)
 have e2:n%18446744073709551616/2^64=0:=Nat.div_eq_of_lt (Nat.mod_lt _ (by decide))
 rw[e1,e2,show((64:Nat):Int)-1=63 from rfl]at hl
 simp only[Int.natCast_zero]at hl
 rw[Za Zvm]
 generalize n/18446744073709551616=H at*
 generalize n%18446744073709551616=L at*
 simp -implicitDefEqProofs [hl]
theorem Zqe(n w:Nat)(t:Tag)(hw:w≤128): ∀(j k:Nat),k+j=w→
 (orc vp).loop 0 [0,2,3,4] Zh0 [(0,.sl 1 ((Yz n w).map bv) t),(2,.ptr 0 1 0 0),(3,.ptr 1 1 0 0),(4,.int .i64 k)] [.arr [.agg [.int .i64 0,.int .u64 0,.int .u64 0]],.arr [.agg (Y0 fun i=>decide (i<k)&&n.testBit i)]]=some (.brk 0,[(0,.sl 1 ((Yz n w).map bv) t),(2,.ptr 0 1 0 0),(3,.ptr 1 1 0 0),(4,.int .i64 w),(14,.bool false)],[.arr [.agg [.int .i64 0,.int .u64 0,.int .u64 0]],.arr [.agg (Y0 fun i=>decide (i<w)&&n.testBit i)]]):=by
 intro j
 induction j with
 |zero=>
  intro k hk
  obtain rfl:k=w:=by omega
  rw[Zjf]
  simp -implicitDefEqProofs [ZaI]
 |succ j ih=>
  intro k hk
  obtain⟨h1,h2⟩:((k:Int)<w)∧((k:Int)<128):=by and_intros<;>omega
  have w1:=w64 (n:=(k:Int)+1) (by omega)
  have ih:=ih (k+1) (by omega)
  have p1:((k+1:Nat):Int)=(k:Int)+1:=by omega
  rw[p1]at ih
  have hg:=Uw n (show k<w by omega)
  have l1:k<128:=by omega
  have s1:(Y0 fun i=>decide (i<k)&&n.testBit i).set k (.bool (n.testBit k))=Y0 fun i=>decide (i<k+1)&&n.testBit i:=K8 _ _ fun i hi=>by
   by_cases e:i=k
   ·subst e;simp
   ·rw[if_neg e];congr 1;rw[decide_eq_decide];omega
  have hi:Yb 1 (.sl 1 ((Yz n w).map bv) t) (.int .i64 k)=some (.eptr (.bool (n.testBit k)) 0 t):=by
   rw[Y7,Ut,hg];rfl
  have h3:k<w:=by omega
  rw[Zjf]
  simp -implicitDefEqProofs [h1,h2,h3,w1,hi,l1,s1,ih,-Y7]
theorem Zu2(n w:Nat)(t:Tag)(hw:w≤128)(hn:n<2^w)(W:I64)(hW:W.n=w):Zc vp 787 [.sl 1 ((Yz n w).map bv) t]=some (Vec.of W n).v:=by
 have hl:=Zqe n w t hw w 0 (by omega)
 have e:(Y0 fun i=>decide (i<0)&&n.testBit i)=Y0 fun _=>false:=UG fun i _=>by simp
 have e2:(Y0 fun i=>decide (i<w)&&n.testBit i)=Y0 n.testBit:=UG fun i _=>by
  by_cases h:i<w
  ·simp[h]
  ·rw[Nat.testBit_lt_two_pow (Nat.lt_of_lt_of_le hn (Nat.pow_le_pow_right (by decide) (by omega)))];simp
 have hn2:n<340282366920938463463374607431768211456:=Nat.lt_of_lt_of_le hn (Nat.pow_le_pow_right (by decide) hw:2^w≤2^128)
 rw[e,e2]at hl
 simp only[Int.natCast_zero]at hl
 have hh:=Zlt n hn2
 have hv:=Vec.of_v W n hn2
 rw[hW]at hv
 rw[←hv]
 rw[Za Zxo]
 generalize n/18446744073709551616=H at*
 generalize n%18446744073709551616=L at*
 simp -implicitDefEqProofs [ZtN,hl,hh,Zf,ZC]
end Go.VE.Un
namespace Go.VE.Un
open Go.VE
def WO:V:=.str [97,110,100]
theorem Zk8(n m w:Nat)(t u:Tag)(hw:w≤128)(op v6:V)(H:Zg): ∀(j k:Nat),k+j=w→∀(a b:Bool),∃a' b',(orc vp).loop 0 [0,6,8,9,10,11,12] Zgz [(0,op),(6,v6),(8,.sl 1 ((Yz n w).map bv) t),(9,.sl 1 ((Yz m w).map bv) u),(10,.bool a),(11,.bool b),(12,.int .i64 k)] H=
 some (.brk 0,[(0,op),(6,v6),(8,.sl 1 ((Yz n w).map bv) t),(9,.sl 1 ((Yz m w).map bv) u),(10,.bool a'),(11,.bool b'),(12,.int .i64 w),(43,.bool false)],H):=by
 intro j
 induction j with
 |zero=>
  intro k hk a b
  obtain rfl:k=w:=by omega
  refine⟨a,b,?_⟩
  rw[Jr]
  simp -implicitDefEqProofs [ZaW]
 |succ j ih=>
  intro k hk a b
  obtain⟨h1,h3⟩:((k:Int)<w)∧k<w:=by and_intros<;>omega
  have w1:=w64 (n:=(k:Int)+1) (by omega)
  have ih:=ih (k+1) (by omega)
  have p1:((k+1:Nat):Int)=(k:Int)+1:=by omega
  rw[p1]at ih
  have g1:Yb 1 (.sl 1 ((Yz n w).map bv) t) (.int .i64 k)=some (.eptr (.bool (n.testBit k)) 0 t):=by
   rw[Y7,Ut,Uw n h3];rfl
  have g2:Yb 1 (.sl 1 ((Yz m w).map bv) u) (.int .i64 k)=some (.eptr (.bool (m.testBit k)) 0 u):=by
   rw[Y7,Ut,Uw m h3];rfl
  cases c1:n.testBit k<;>cases c2:m.testBit k<;>rw[c1]at g1<;>rw[c2]at g2
  ·obtain⟨a',b',ih⟩:=ih a b
   exact⟨a',b',by rw[Jr];simp -implicitDefEqProofs [h1,h3,w1,g1,g2,ih,-Y7]⟩
  ·obtain⟨a',b',ih⟩:=ih true false
   exact⟨a',b',by rw[Jr];simp -implicitDefEqProofs [h1,h3,w1,g1,g2,ih,-Y7]⟩
  ·obtain⟨a',b',ih⟩:=ih false false
   exact⟨a',b',by rw[Jr];simp -implicitDefEqProofs [h1,h3,w1,g1,g2,ih,-Y7]⟩
  ·obtain⟨a',b',ih⟩:=ih a b
   exact⟨a',b',by rw[Jr];simp -implicitDefEqProofs [h1,h3,w1,g1,g2,ih,-Y7]⟩
theorem ZjK(n m w:Nat)(t u:Tag)(hw:w≤128)(v6 v10:V)(b1 b2 b3:Blk): ∀(j k:Nat),k+j=w→∀(c:Bool),∃c',(orc vp).loop 0 [0,6,8,9,10,13,14,15] Zgw [(0,WO),(6,v6),(8,.sl 1 ((Yz n w).map bv) t),(9,.sl 1 ((Yz m w).map bv) u),(10,v10),(13,.gsl 3 k 1 0 k),(14,.bool c),(15,.int .i64 k)] [b1,b2,b3,.arr ((Yz (n&&&m) k).map bv)]=
 some (.brk 2,[(0,WO),(6,v6),(8,.sl 1 ((Yz n w).map bv) t),(9,.sl 1 ((Yz m w).map bv) u),(10,v10),(13,.gsl 3 w 1 0 w),(14,.bool c'),(15,.int .i64 w),(78,.bool false)],[b1,b2,b3,.arr ((Yz (n&&&m) w).map bv)]):=by
 intro j
 induction j with
 |zero=>
  intro k hk c
  obtain rfl:k=w:=by omega
  refine⟨c,?_⟩
  rw[ZcW]
  simp -implicitDefEqProofs [Zag]
 |succ j ih=>
  intro k hk c
  obtain⟨h1,h3⟩:((k:Int)<w)∧k<w:=by and_intros<;>omega
  have w1:=w64 (n:=(k:Int)+1) (by omega)
  have ih:=ih (k+1) (by omega)
  have p1:((k+1:Nat):Int)=(k:Int)+1:=by omega
  rw[p1]at ih
  have g1:Yb 1 (.sl 1 ((Yz n w).map bv) t) (.int .i64 k)=some (.eptr (.bool (n.testBit k)) 0 t):=by
   rw[Y7,Ut,Uw n h3];rfl
  have g2:Yb 1 (.sl 1 ((Yz m w).map bv) u) (.int .i64 k)=some (.eptr (.bool (m.testBit k)) 0 u):=by
   rw[Y7,Ut,Uw m h3];rfl
  have ha: ∀x,(n&&&m).testBit k=x→X3 0 [b1,b2,b3,.arr ((Yz (n&&&m) k).map bv)] 1 1 (.gsl 3 k 1 0 k) [.bool x]=some (.gsl 3 (k+1) 1 0 (k+1),[b1,b2,b3,.arr ((Yz (n&&&m) (k+1)).map bv)]):=fun x hx=>by
   rw[KY (es:=(Yz (n&&&m) k).map bv) (by simp) (by simp) (by omega) rfl (by simp[YC];omega)]
   rw[ZaA,List.map_append,hx];rfl
  have hx:=Nat.testBit_and n m k
  have e1:IntKind.i64.wrap (1:Int)=1:=by decide
  have e2:IntKind.i64.wrap (2:Int)=2:=by decide
  have e3:IntKind.i64.wrap (3:Int)=3:=by decide
  have r0:Yh .rem (.int .i64 0) (.int .i64 2)=some (.int .i64 0):=rfl
  have r1:Yh .rem (.int .i64 1) (.int .i64 2)=some (.int .i64 1):=rfl
  have r2:Yh .rem (.int .i64 2) (.int .i64 2)=some (.int .i64 0):=rfl
  have r3:Yh .rem (.int .i64 3) (.int .i64 2)=some (.int .i64 1):=rfl
  cases c1:n.testBit k<;>cases c2:m.testBit k<;>rw[c1,c2]at hx<;>rw[c1]at g1<;>rw[c2]at g2<;>have ha:=ha _ hx<;>simp only[Bool.and_true,Bool.true_and,Bool.and_false,Bool.false_and]at ha<;>cases c
  all_goals
   first
    |(obtain⟨c',ih⟩:=ih false
      refine⟨c',?_⟩
      rw[ZcW]
      simp -implicitDefEqProofs [WO]at ih
      simp -implicitDefEqProofs [WO,h1,h3,w1,g1,g2,e1,e2,e3,r0,r1,r2,r3,Z9,Yy,ha,ih,-Y7]
      done)
    |(obtain⟨c',ih⟩:=ih true
      refine⟨c',?_⟩
      rw[ZcW]
      simp -implicitDefEqProofs [WO]at ih
      simp -implicitDefEqProofs [WO,h1,h3,w1,g1,g2,e1,e2,e3,r0,r1,r2,r3,Z9,Yy,ha,ih,-Y7]
      done)
theorem ZjJ(v6 v10 v14:V)(w:Nat)(hw:w≤128)(H:Zg)(B:Nat): ∀(j k:Nat),k+j=w→(orc vp).loop 0 [0,6,10,13,14,20] Zf1 [(0,WO),(6,v6),(10,v10),(13,.gsl B w 1 0 w),(14,v14),(20,.int .i64 k)] H=
 some (.brk 4,[(0,WO),(6,v6),(10,v10),(13,.gsl B w 1 0 w),(14,v14),(20,.int .i64 w),(135,.bool false)],H):=by
 intro j
 induction j with
 |zero=>
  intro k hk
  obtain rfl:k=w:=by omega
  rw[Zja]
  simp -implicitDefEqProofs [Zaz]
 |succ j ih=>
  intro k hk
  obtain⟨h1,h3⟩:((k:Int)<w)∧k<w:=by and_intros<;>omega
  have w1:=w64 (n:=(k:Int)+1) (by omega)
  have ih:=ih (k+1) (by omega)
  have p1:((k+1:Nat):Int)=(k:Int)+1:=by omega
  rw[p1]at ih
  rw[Zja]
  simp -implicitDefEqProofs [WO]at ih
  simp -implicitDefEqProofs [WO,h1,h3,w1,ih]
theorem Zt3{n m w:Nat}(h:n<2^w):n&&&m<2^w:=Nat.lt_of_le_of_lt Nat.and_le_left h
set_option maxHeartbeats 1000000 in
theorem Zhq(x y:Vec):Zc vp 790 [WO,x.v,y.v]=some (.tup [(U4 x y).1.v,.int .i64 (U4 x y).2]):=by
 have m1:=Kc x
 have m2:=Kc y
 rw[Za Zyg]
 by_cases g1:x.good=true
 ·by_cases g2:y.good=true
  ·by_cases g3:x.W.n=y.W.n
   ·have g1':=g1
    have g2':=g2
    simp only[Vec.good,Bool.and_eq_true,decide_eq_true_eq]at g1' g2'
    have b1:=Zi0 x g1
    have b2:=Zi0 y g2
    rw[←g3]at b2
    generalize hw:x.W.n.toNat=w at*
    have hW:x.W.n=w:=by omega
    have hw2:y.W.n.toNat=w:=by rw[←g3];exact hw
    rw[hw2]at g2'
    obtain⟨a',b',l2⟩:=Zk8 x.n y.n w .perm .perm (by omega) WO (.ptr 2 1 0 0) [.arr [x.v],.arr [y.v],.arr [Vec.z.v]] w 0 (by omega) false true
    obtain⟨c',l1⟩:=ZjK x.n y.n w .perm .perm (by omega) (.ptr 2 1 0 0) (.bool a') (.arr [x.v]) (.arr [y.v]) (.arr [Vec.z.v]) w 0 (by omega) false
    have l0:=ZjJ (.ptr 2 1 0 0) (.bool a') (.bool c') w (by omega) [.arr [x.v],.arr [y.v],.arr [Vec.z.v],.arr ((Yz (x.n&&&y.n) w).map bv)] 3 w 0 (by omega)
    have ho:=fun t=>Zu2 (x.n&&&y.n) w t (by omega) (Zt3 g1'.2) x.W hW
    have e0:(Yz (x.n&&&y.n) 0).map bv=[]:=rfl
    rw[e0]at l1
    simp only[Int.natCast_zero]at l2 l1 l0
    have ez:U4 x y=(Vec.of x.W (x.n&&&y.n),0):=by unfold U4;rw[if_pos ⟨g1,g2⟩,if_pos g3]
    rw[ez]
    have hb:=Zkt 0 (Yz (x.n&&&y.n) w)
    simp -implicitDefEqProofs [WO]at l2 l1 l0
    simp -implicitDefEqProofs [WO,m1,m2,g1,g2,←g3,b1,b2,l2,l1,l0,U2,ho]
   ·have ez:U4 x y=(Vec.z,9):=by unfold U4;rw[if_pos ⟨g1,g2⟩,if_neg g3]
    rw[ez]
    simp -implicitDefEqProofs [WO,m1,m2,g1,g2,g3,U2,Zf,ZC]
  ·have ez:U4 x y=(Vec.z,1):=by unfold U4;rw[if_neg (fun h=>g2 h.2)]
   rw[ez]
   simp only[Bool.not_eq_true]at g2
   simp -implicitDefEqProofs [WO,m1,m2,g1,g2,U2,Zf,ZC]
 ·have ez:U4 x y=(Vec.z,1):=by unfold U4;rw[if_neg (fun h=>g1 h.1)]
  rw[ez]
  simp only[Bool.not_eq_true]at g1
  simp -implicitDefEqProofs [WO,m1,m2,g1,U2,Zf,ZC]
end Go.VE.Un
namespace Go.VE.Un
open Go.VE
def YX(n:Int):List ZE→List (List UInt8)→Int
 |[],_=>0
 |x::r,ns=>if YB x.Name.s=false then 4 else if 0≤Vw (Yl x.Name.s) ns 0 then 6 else if inB x.Header.n 0 (n-1)=false then 5 else if inB x.Depth.n 0 4=false then 7 else YX n r (ns++[x.Name.s])
def WH(n:Int):List ZE→List (List UInt8)→Option (List (List UInt8))
 |[],ns=>some ns
 |x::r,ns=>if YB x.Name.s=false then none else if 0≤Vw (Yl x.Name.s) ns 0 then none else if inB x.Header.n 0 (n-1)=false then none else if inB x.Depth.n 0 4=false then none else WH n r (ns++[x.Name.s])
theorem ZeE(n:Int): ∀(r:List ZE) (ns:List (List UInt8)) {ns':List (List UInt8)},WH n r ns=some ns'→YX n r ns=0
 |[],ns,ns',e=>rfl
 |f::r,ns,ns',e=>by
  simp only[WH]at e
  split at e
  ·simp at e
  ·rename_i h1
   split at e
   ·simp at e
   ·rename_i h2
    split at e
    ·simp at e
    ·rename_i h3
     split at e
     ·simp at e
     ·rename_i h4
      simp only[YX];rw[if_neg h1,if_neg h2,if_neg h3,if_neg h4];exact ZeE n r _ e
theorem ZqO(hs:GL Header)(l:GL ZE)(hl:l.l.length≤16)(hb: ∀f∈l.l,f.Name.s.length≤35184372088831): ∀(r:List ZE) (k:Int) (ns:List (List UInt8)),0≤k→k≤l.l.length→l.l.drop k.toNat=r→ns.length=k.toNat→(∀s∈ns,s.length≤35184372088831)→∃hh,(orc vp).loop 0 [0,1,5,11,12,13] ZhG [(0,GL.v 6 Header.v hs),(1,GL.v 3 ZE.v l),(5,.gsl 0 ns.length 1 0 ns.length),(11,GL.v 3 ZE.v l),(12,.int .i64 l.l.length),(13,.int .i64 k)] [.arr (ns.map .str)]=
 (match WH hs.l.length r ns with
  |some ns=>some (.brk 0,[(0,GL.v 6 Header.v hs),(1,GL.v 3 ZE.v l),(5,.gsl 0 ns.length 1 0 ns.length),(11,GL.v 3 ZE.v l),(12,.int .i64 l.l.length),(13,.int .i64 l.l.length),(14,.bool false)],hh)
  |none=>some (.ret,[(4,.int .i64 (YX hs.l.length r ns))],hh)):=by
 have hle:=hs.le
 have w0:=w64 (n:=hs.l.length-1) (by omega)
 intro r
 induction r with
 |nil=>
  intro k ns hk hkl hd hn hs
  have hle:=Zq hk hd
  obtain⟨hlt,he⟩: ¬k<l.l.length∧k=l.l.length:=by and_intros<;>omega
  refine⟨[.arr (ns.map .str)],?_⟩
  rw[QJ]
  simp -implicitDefEqProofs [hlt,WH,he]
 |cons x r ih=>
  intro k ns hk hkl hd hn hns
  obtain⟨hg,hlt,hd'⟩:=Zp hk hd
  have hx:=hb x (List.mem_of_getElem? (by rw[Zh,if_pos hk]at hg;exact hg))
  have hx':x.Name.s.length≤140737488355328:=by omega
  have hnl:ns.length≤140737488355328:=by omega
  have hi5:=JA ns x.Name.s .brw hnl hns hx
  by_cases hp:YB x.Name.s=true
  ·by_cases hi:0≤Vw (Yl x.Name.s) ns 0
   ·refine⟨[.arr (ns.map .str),.arr [x.v]],?_⟩
    rw[QJ]
    simp -implicitDefEqProofs [hlt,hg,hp,hi,hx,hx',WX,WH,YX,Z6,hi5]
   ·by_cases hw:(decide (0≤x.Header.n)&&decide (x.Header.n≤(hs.l.length:Int)-1))=true
    ·by_cases hz:(decide (0≤x.Depth.n)&&decide (x.Depth.n≤4))=true
     ·have w1:IntKind.i64.wrap (k+1)=k+1:=ZK (by omega) (by omega)
      obtain⟨hh,ih⟩:=ih (k+1) (ns++[x.Name.s]) (by omega) (by omega) hd' (by simp;omega) (by
       intro s h;simp only[List.mem_append,List.mem_singleton]at h
       rcases h with h|rfl
       ·exact hns s h
       ·exact hx)
      refine⟨hh,?_⟩
      rw[QJ]
      have ha:=ZdS (lo:=0) (z:=1) (bytes:=16) (es:=ns.map V.str) (ns:=[.str x.Name.s]) (h:=[.arr [x.v]]) (by omega) rfl (by simp[YC];omega)
      simp only[List.length_map]at ha
      simp -implicitDefEqProofs [hlt,hg,hp,hi,hw,hz,w0,hx,hx',WX,WH,YX,inB,Z6,hi5,w1,ha,Yy,Z9,Zgq (es:=ns.map V.str) (b:=.arr [x.v]) Zes (VK (Z6 1 ns) (by simp :Zo 1 [V.str x.Name.s]=true))]
      simpa using ih
     ·refine⟨[.arr (ns.map .str),.arr [x.v]],?_⟩
      rw[QJ]
      simp only[Bool.not_eq_true]at hz
      simp -implicitDefEqProofs [hlt,hg,hp,hi,hw,hz,w0,hx,hx',WX,WH,YX,inB,Z6,hi5]
    ·refine⟨[.arr (ns.map .str),.arr [x.v]],?_⟩
     rw[QJ]
     simp only[Bool.not_eq_true]at hw
     simp -implicitDefEqProofs [hlt,hg,hp,hi,hw,w0,hx,hx',WX,WH,YX,inB,Z6,hi5]
  ·refine⟨[.arr (ns.map .str),.arr [x.v]],?_⟩
   rw[QJ]
   simp -implicitDefEqProofs [hlt,hg,hp,hx',WH,YX]
def U3(n:Int)(l:List ZE):Int:=if 16<l.length then 2 else if YX n l []≠0 then YX n l []else if 32<Yp l then 8 else 0
theorem Zfp(n:Int): ∀(r:List ZE) (ns:List (List UInt8)),WH n r ns=none→YX n r ns≠0
 |[],ns,e=>by simp[WH]at e
 |f::r,ns,e=>by
  simp only[WH]at e
  simp only[YX]
  split
  ·decide
  ·rename_i h1;rw[if_neg h1]at e
   split
   ·decide
   ·rename_i h1;rw[if_neg h1]at e
    split
    ·decide
    ·rename_i h1;rw[if_neg h1]at e
     split
     ·decide
     ·rename_i h1;rw[if_neg h1]at e
      exact Zfp n r _ e
@[simp] theorem Znd(hs:GL Header)(l:GL ZE)(hb:l.l.length≤16→∀f∈l.l,f.Name.s.length≤35184372088831):Zc vp 640 [GL.v 6 Header.v hs,GL.v 3 ZE.v l]=some (.int .i64 (U3 hs.l.length l.l)):=by
  have hle:=l.le
  rw[Za ZwV]
  by_cases h1:16<l.l.length
  ·have h1':(16:Int)<l.l.length:=by omega
   simp -implicitDefEqProofs [h1,h1',U3]
  ·have h1': ¬(16:Int)<l.l.length:=by omega
   obtain⟨hh,h⟩:=ZqO hs l (by omega) (hb (by omega)) l.l 0 [] (by omega) (by omega) rfl rfl (by simp)
   cases hr:WH hs.l.length l.l []with
   |none=>
    rw[hr]at h
    have he:=Zfp _ _ _ hr
    simp -implicitDefEqProofs [h1,h1']at h⊢
    simp -implicitDefEqProofs [h,U3,h1,he]
   |some ns=>
    rw[hr]at h
    have he:=ZeE _ _ _ hr
    simp -implicitDefEqProofs [h1,h1']at h⊢
    by_cases h2:32<Yp l.l
    ·simp -implicitDefEqProofs [h,U3,h1,he,h2]
    ·simp -implicitDefEqProofs [h,U3,h1,he,h2]
def WQ:List Field→Int
 |[]=>0
 |f::r=>f.W.n+WQ r
theorem Zad: ∀(r:List Field),(∀f∈r,1≤f.W.n∧f.W.n≤128)→0≤WQ r∧WQ r≤128*r.length
 |[],_=>by simp[WQ]
 |f::r,h=>by
  have h1:=h f List.mem_cons_self
  have h2:=Zad r (fun g hg=>h g (List.mem_cons_of_mem _ hg))
  simp only[WQ,List.length_cons];omega
theorem Zo2(h:Header)(n:Int)(hn:n≤h.Fields.l.length)(hl:h.Fields.l.length≤16)(hw: ∀f∈h.Fields.l,1≤f.W.n∧f.W.n≤128): ∀(j:Nat) (k sum:Int),0≤k→k+j=n→0≤sum→sum≤128*k→(orc vp).loop 0 [2,6,8,9] ZgE [(2,.ptr 0 1 0 0),(6,.int .i64 sum),(8,.int .i64 n),(9,.int .i64 k)] [.arr [h.v]]=
 some (.brk 0,[(2,.ptr 0 1 0 0),(6,.int .i64 (sum+WQ ((h.Fields.l.drop k.toNat).take j))),(8,.int .i64 n),(9,.int .i64 n),(10,.bool false)],[.arr [h.v]]):=by
 intro j
 induction j with
 |zero=>
  intro k sum hk hkn h0 h1
  obtain⟨hlt,he⟩: ¬k<n∧k=n:=by and_intros<;>omega
  rw[ZiG]
  simp -implicitDefEqProofs [hlt,WQ,he]
 |succ j ih=>
  intro k sum hk hkn h0 h1
  have hlt:k<n:=by omega
  have hk':k.toNat<h.Fields.l.length:=by omega
  have hg:Zh h.Fields.l k=some h.Fields.l[k.toNat]:=by simp[Zh,hk,hk']
  have hd:h.Fields.l.drop k.toNat=h.Fields.l[k.toNat]::h.Fields.l.drop (k+1).toNat:=by
   rw[show(k+1).toNat=k.toNat+1 by omega];exact List.drop_eq_getElem_cons hk'
  have hx:=hw _ (List.getElem_mem hk')
  have w1:=w64 (n:=k+1) (by omega)
  have w2:=w64 (n:=sum+h.Fields.l[k.toNat].W.n) (by omega)
  rw[ZiG]
  rw[hd,List.take_succ_cons,WQ]
  simp -implicitDefEqProofs [hlt,hg,w1,w2,ih (k+1) (sum+h.Fields.l[k.toNat].W.n) (by omega) (by omega) (by omega) (by omega),Int.add_assoc]
theorem ZmS(h:Header)(n:Int)(h0:0≤n)(hn:n≤h.Fields.l.length)(hl:h.Fields.l.length≤16)(hw: ∀f∈h.Fields.l,1≤f.W.n∧f.W.n≤128):
 Zc vp 647 [h.v,.int .i64 n]=some (.tup [.int .i64 (WQ (h.Fields.l.take n.toNat)),.bool true]):=by
 have hlp:=Zo2 h n hn hl hw n.toNat 0 0 (by omega) (by omega) (by omega) (by omega)
 simp only[Int.toNat_zero,List.drop_zero,Int.zero_add]at hlp
 rw[Za Zyd]
 simp -implicitDefEqProofs [hlp]
theorem QA: ∀(l:List Field) (ns:List (List UInt8)) (sum:Int),Ym l ns sum=0→∀f∈l,1≤f.W.n∧f.W.n≤128
 |[],_,_,_,f,hf=>by simp at hf
 |x::r,ns,sum,e,f,hf=>by
  simp only[Ym]at e
  split at e
  ·simp at e
  ·split at e
   ·simp at e
   ·split at e
    ·rename_i h3
     rcases List.mem_cons.1 hf with rfl|hf
     ·exact h3
     ·exact QA r _ _ e f hf
    ·simp at e
theorem ZhV{h:Header}(e:VW h=0):YB h.Name.s=true∧0<h.Fields.l.length∧h.Fields.l.length≤16∧Ym h.Fields.l [] 0=0∧XC h=true:=by
 unfold VW at e
 split at e
 ·simp at e
 ·rename_i h1
  split at e
  ·simp at e
  ·rename_i h2
   split at e
   ·simp at e
   ·rename_i h3
    split at e
    ·rename_i h4;exact absurd e h4
    ·rename_i h4
     split at e
     ·simp at e
     ·rename_i h5
      simp at h1 h5 h4
      exact⟨h1,by omega,by omega,h4,h5⟩
def QT(h:Header)(f:Int):Option Int:=if VW h=0∧0≤f∧f<h.Fields.l.length then some (WQ (h.Fields.l.take f.toNat))else none
@[simp] theorem ZkX(h:Header)(f:Int)(hb:h.Fields.l.length≤16→∀f∈h.Fields.l,f.Name.s.length≤35184372088831):Zc vp 644 [h.v,.int .i64 f]=some (.tup [.int .i64 ((QT h f).getD 0),.bool (QT h f).isSome]):=by
  have hle:=h.Fields.le
  have w:=w64 (n:=h.Fields.l.length-1) (by omega)
  have hm:=Zgs h hb
  rw[Za Zzm]
  by_cases h0:VW h=0
  ·by_cases h1:(decide (0≤f)&&decide (f≤(h.Fields.l.length:Int)-1))=true
   ·have h2:0≤f∧f<h.Fields.l.length:=by simp at h1;omega
    obtain⟨_,g1,g2,g3,_⟩:=ZhV h0
    have ha:=ZmS h f h2.1 (by omega) g2 (QA _ _ _ g3)
    have ho:QT h f=some (WQ (h.Fields.l.take f.toNat)):=by unfold QT;rw[if_pos ⟨h0,h2⟩]
    simp -implicitDefEqProofs [hm,h0,h1,w,ha,ho]
   ·have ho:QT h f=none:=by
     unfold QT;rw[if_neg];simp at h1;intro⟨_,a,b⟩;omega
    simp only[Bool.not_eq_true]at h1
    simp -implicitDefEqProofs [hm,h0,h1,w,ho]
  ·have ho:QT h f=none:=by unfold QT;rw[if_neg (fun a=>h0 a.1)]
   simp -implicitDefEqProofs [hm,h0,ho]
end Go.VE.Un
