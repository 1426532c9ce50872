/- Joined texts: CrF, CrG, CkT. No condition: what each theorem needs stands in it. -/
import Derived.Test.YthpccfpbghhpoaaGreatCc5
import Derived.Test.YthpccfpbghhpoaaGreatCc4
namespace Go.VE
def bv(b:Bool):V:=.bool b
@[simp] theorem ZmL(k:Nat)(b:Bool):Zk k (bv b)=true:=nr rfl
@[simp] theorem Zuq(b:Bool):Ze (bv b)=true:=nr rfl
@[simp] theorem Ztp(l:List Bool):Zv (l.map bv)=true:=by rw[YW];simp
@[simp] theorem Zlo(k:Nat)(l:List Bool):Zo k (l.map bv)=true:=Yp (fun _=>rfl) l
def Yx(n w:Nat):List Bool:=(List.range w).map n.testBit
@[simp] theorem Zuy(n w:Nat):(Yx n w).length=w:=by simp[Yx]
theorem Uo(n:Nat){w j:Nat}(h:j<w):(Yx n w)[j]? =some (n.testBit j):=by simp[Yx,h]
theorem Za2(n w:Nat):Yx n (w+1)=Yx n w++[n.testBit w]:=by simp[Yx,List.range_succ]
end Go.VE
namespace Go.VE.Un
open Go.VE
theorem ZoX(x:Vec)(g:x.good=true): ∀(j k:Nat),k+j=x.W.n.toNat→(orc vp).loop 0 [1,3,4,5] Zg1 [(1,.ptr 0 1 0 0),(3,.ptr 1 1 0 0),(4,.gsl 2 k 1 0 k),(5,.int .i64 k)] [.arr [x.v],.arr [.agg (Y0 x.n.testBit)],.arr ((Yx x.n k).map bv)]=
 some (.brk 0,[(1,.ptr 0 1 0 0),(3,.ptr 1 1 0 0),(4,.gsl 2 x.W.n.toNat 1 0 x.W.n.toNat),(5,.int .i64 x.W.n),(18,.bool false)],[.arr [x.v],.arr [.agg (Y0 x.n.testBit)],.arr ((Yx x.n x.W.n.toNat).map bv)]):=by
 simp only[Vec.good,Bool.and_eq_true,decide_eq_true_eq]at g
 intro j
 induction j with
 |zero=>
  intro k hk
  obtain rfl:k=x.W.n.toNat:=by omega
  have e:((x.W.n.toNat:Nat):Int)=x.W.n:=by omega
  rw[Zif,e]
  simp -implicitDefEqProofs [Za3]
 |succ j ih=>
  intro k hk
  obtain⟨h1,h2⟩:((k:Int)<x.W.n)∧((k:Int)<128):=by and_intros<;>omega
  have w1:=w64 (n:=(k:Int)+1) (by omega)
  have ih:=ih (k+1) (by omega)
  have p1:((k+1:Nat):Int)=(k:Int)+1:=by omega
  rw[p1]at ih
  have hg:=VT x.n.testBit (show k<128 by omega)
  have ha:XY 0 [.arr [x.v],.arr [.agg (Y0 x.n.testBit)],.arr ((Yx x.n k).map bv)] 1 1 (.gsl 2 k 1 0 k) [.bool (x.n.testBit k)]=some (.gsl 2 (k+1) 1 0 (k+1),[.arr [x.v],.arr [.agg (Y0 x.n.testBit)],.arr ((Yx x.n (k+1)).map bv)]):=by
   have:=Zt3 (lo:=0) (z:=1) (bytes:=1) (es:=(Yx x.n k).map bv) (ns:=[.bool (x.n.testBit k)]) (b:=.arr [x.v]) (c:=.arr [.agg (Y0 x.n.testBit)]) (h:=[]) (by omega) rfl (by simp[YB];omega)
   rw[Za2,List.map_append]
   simpa[bv]using this
  rw[Zif]
  simp -implicitDefEqProofs [h1,h2,w1,hg,Z9,Yw,ha,ih]
theorem Zjo(x:Vec)(g:x.good=true):Zc vp 783 [x.v]=some (.sl 1 ((Yx x.n x.W.n.toNat).map bv) .perm):=by
 have hn:=x.n_lt
 have h1:((x.n/18446744073709551616:Nat):Int)=x.Hi.n:=by have:=x.Hi.lo;have:=x.Lo.lo;have:=x.Lo.hi;unfold Vec.n;omega
 have h2:((x.n%18446744073709551616:Nat):Int)=x.Lo.n:=by have:=x.Hi.lo;have:=x.Lo.lo;have:=x.Lo.hi;unfold Vec.n;omega
 have ho:=Zq9 x.n hn
 rw[h1,h2]at ho
 have hl:=ZoX x g x.W.n.toNat 0 (by omega)
 have e:(Yx x.n 0).map bv=[]:=rfl
 rw[e]at hl
 simp only[Int.natCast_zero]at hl
 rw[Za ZwP]
 simp -implicitDefEqProofs [ho,ZtM,hl]
theorem dbl(x:Nat)(i:Nat):2*(x/2^(i+1))+(if x.testBit i=true then 1 else 0)=x/2^i:=by
 have h1:x/2^(i+1)=x/2^i/2:=by rw[Nat.div_div_eq_div_mul,←Nat.pow_succ]
 have h2:x.testBit i=decide (x/2^i%2=1):=Nat.testBit_eq_decide_div_mod_eq
 rw[h1,h2]
 by_cases c:x/2^i%2=1
 ·simp[c];omega
 ·simp[c];omega
theorem ZwR(x:Nat)(h:2*x<18446744073709551616):Yk .mul (.int .u64 2) (.int .u64 (x:Int))=some (.int .u64 ((2*x:Nat):Int)):=by
 rw[Zpo,show(2:Int)*(x:Int)=((2*x:Nat):Int)by omega,Kn h]
theorem ZpK(x:Nat)(h:x+1<18446744073709551616):Yk .add (.int .u64 (x:Int)) (.int .u64 1)=some (.int .u64 ((x+1:Nat):Int)):=by
 rw[ZoU,show(x:Int)+1=((x+1:Nat):Int)by omega,Kn h]
theorem ZpM(n:Nat)(hn:n<340282366920938463463374607431768211456): ∀(k:Nat),k≤64→(orc vp).loop 0 [1,4,5,6] Zhk [(1,.ptr 0 1 0 0),(4,.int .u64 ((n/18446744073709551616/2^k:Nat):Int)),(5,.int .u64 ((n%18446744073709551616/2^k:Nat):Int)),(6,.int .i64 ((k:Int)-1))] [.arr [.agg (Y0 n.testBit)]]=
 some (.brk 0,[(1,.ptr 0 1 0 0),(4,.int .u64 ((n/18446744073709551616:Nat):Int)),(5,.int .u64 ((n%18446744073709551616:Nat):Int)),(6,.int .i64 (-1)),(8,.bool false)],[.arr [.agg (Y0 n.testBit)]]):=by
 intro k
 induction k with
 |zero=>
  intro _
  rw[ZiP]
  simp -implicitDefEqProofs [-Int.natCast_ediv,-Int.natCast_emod]
 |succ k ih=>
  intro hk
  have ih:=ih (by omega)
  have h0:(((k+1:Nat):Int)-1)=k:=by omega
  have w1:=w64 (n:=(k:Int)-1) (by omega)
  have w2:=w64 (n:=(k:Int)+64) (by omega)
  obtain⟨z1,g1,g2,g3⟩:(((k:Int)+64).toNat=k+64)∧((0:Int)≤(k:Int)+64)∧((k:Int)+64<128)∧((k:Int)<128):=by and_intros<;>omega
  have b1:=VT n.testBit (show k<128 by omega)
  have b2:=VT n.testBit (show k+64<128 by omega)
  have t1:=ZrB n k
  have t2:=Zrc n k (by omega)
  have d1:=dbl (n/18446744073709551616) k
  have d2:=dbl (n%18446744073709551616) k
  rw[t1]at d1;rw[t2]at d2
  have hh:n/18446744073709551616/2^k<18446744073709551616:=Nat.lt_of_le_of_lt (Nat.div_le_self _ _) (ZbR hn)
  have hl:n%18446744073709551616/2^k<18446744073709551616:=Nat.lt_of_le_of_lt (Nat.div_le_self _ _) (Nat.mod_lt _ (by decide))
  rw[h0,ZiP]
  generalize n/18446744073709551616/2^k=H at*
  generalize n%18446744073709551616/2^k=L at*
  generalize n/18446744073709551616/2^(k+1)=H' at*
  generalize n%18446744073709551616/2^(k+1)=L' at*
  generalize n/18446744073709551616=H2 at*
  generalize n%18446744073709551616=L2 at*
  have m1:=ZwR H' (by omega)
  have m2:=ZwR L' (by omega)
  cases c1:n.testBit (k+64)<;>cases c2:n.testBit k<;>rw[c1]at d1 b2<;>rw[c2]at d2 b1<;>simp only[Bool.false_eq_true,if_false,if_true,Nat.add_zero]at d1 d2
  ·rw[d1]at m1;rw[d2]at m2
   simp -implicitDefEqProofs [w1,w2,z1,g1,g2,g3,b1,b2,m1,m2,ih,-Int.natCast_ediv,-Int.natCast_emod,-Int.natCast_mul]
  ·rw[d1]at m1
   have a2:=ZpK (2*L') (by omega)
   rw[d2]at a2
   simp -implicitDefEqProofs [w1,w2,z1,g1,g2,g3,b1,b2,m1,m2,a2,ih,-Int.natCast_ediv,-Int.natCast_emod,-Int.natCast_mul]
  ·rw[d2]at m2
   have a1:=ZpK (2*H') (by omega)
   rw[d1]at a1
   simp -implicitDefEqProofs [w1,w2,z1,g1,g2,g3,b1,b2,m1,m2,a1,ih,-Int.natCast_ediv,-Int.natCast_emod,-Int.natCast_mul]
  ·have a1:=ZpK (2*H') (by omega)
   have a2:=ZpK (2*L') (by omega)
   rw[d1]at a1;rw[d2]at a2
   simp -implicitDefEqProofs [w1,w2,z1,g1,g2,g3,b1,b2,m1,m2,a1,a2,ih,-Int.natCast_ediv,-Int.natCast_emod,-Int.natCast_mul]
theorem Zki(n:Nat)(hn:n<340282366920938463463374607431768211456):Zc vp 772 [.agg (Y0 n.testBit)]=some (.tup [.int .u64 ((n/18446744073709551616:Nat):Int),.int .u64 ((n%18446744073709551616:Nat):Int)]):=by
 have hl:=ZpM n hn 64 (by omega)
 have e1:n/18446744073709551616/2^64=0:=Nat.div_eq_of_lt (ZbR hn)
 have e2:n%18446744073709551616/2^64=0:=Nat.div_eq_of_lt (Nat.mod_lt _ (by decide))
 rw[e1,e2,show((64:Nat):Int)-1=63 from rfl]at hl
 simp only[Int.natCast_zero]at hl
 rw[Za ZvX]
 generalize n/18446744073709551616=H at*
 generalize n%18446744073709551616=L at*
 simp -implicitDefEqProofs [hl]
theorem Zqd(n w:Nat)(t:Tag)(hw:w≤128): ∀(j k:Nat),k+j=w→
 (orc vp).loop 0 [0,2,3,4] Zh0 [(0,.sl 1 ((Yx n w).map bv) t),(2,.ptr 0 1 0 0),(3,.ptr 1 1 0 0),(4,.int .i64 k)] [.arr [.agg [.int .i64 0,.int .u64 0,.int .u64 0]],.arr [.agg (Y0 fun i=>decide (i<k)&&n.testBit i)]]=some (.brk 0,[(0,.sl 1 ((Yx n w).map bv) t),(2,.ptr 0 1 0 0),(3,.ptr 1 1 0 0),(4,.int .i64 w),(14,.bool false)],[.arr [.agg [.int .i64 0,.int .u64 0,.int .u64 0]],.arr [.agg (Y0 fun i=>decide (i<w)&&n.testBit i)]]):=by
 intro j
 induction j with
 |zero=>
  intro k hk
  obtain rfl:k=w:=by omega
  rw[Zjb]
  simp -implicitDefEqProofs [Zav]
 |succ j ih=>
  intro k hk
  obtain⟨h1,h2⟩:((k:Int)<w)∧((k:Int)<128):=by and_intros<;>omega
  have w1:=w64 (n:=(k:Int)+1) (by omega)
  have ih:=ih (k+1) (by omega)
  have p1:((k+1:Nat):Int)=(k:Int)+1:=by omega
  rw[p1]at ih
  have hg:=Uo n (show k<w by omega)
  have l1:k<128:=by omega
  have s1:(Y0 fun i=>decide (i<k)&&n.testBit i).set k (.bool (n.testBit k))=Y0 fun i=>decide (i<k+1)&&n.testBit i:=ZaK _ _ fun i hi=>by
   by_cases e:i=k
   ·subst e;simp
   ·rw[if_neg e];congr 1;rw[decide_eq_decide];omega
  have hi:Yc 1 (.sl 1 ((Yx n w).map bv) t) (.int .i64 k)=some (.eptr (.bool (n.testBit k)) 0 t):=by
   rw[Y5,Uk,hg];rfl
  have h3:k<w:=by omega
  rw[Zjb]
  simp -implicitDefEqProofs [h1,h2,h3,w1,hi,l1,s1,ih,-Y5]
theorem Zyx(n w:Nat)(t:Tag)(hw:w≤128)(hn:n<2^w)(W:I64)(hW:W.n=w):Zc vp 787 [.sl 1 ((Yx n w).map bv) t]=some (Vec.of W n).v:=by
 have hl:=Zqd n w t hw w 0 (by omega)
 have e:(Y0 fun i=>decide (i<0)&&n.testBit i)=Y0 fun _=>false:=UU fun i _=>by simp
 have e2:(Y0 fun i=>decide (i<w)&&n.testBit i)=Y0 n.testBit:=UU fun i _=>by
  by_cases h:i<w
  ·simp[h]
  ·rw[Nat.testBit_lt_two_pow (Nat.lt_of_lt_of_le hn (Nat.pow_le_pow_right (by decide) (by omega)))];simp
 have hn2:n<340282366920938463463374607431768211456:=Nat.lt_of_lt_of_le hn (Nat.pow_le_pow_right (by decide) hw:2^w≤2^128)
 rw[e,e2]at hl
 simp only[Int.natCast_zero]at hl
 have hh:=Zki n hn2
 have hv:=Vec.of_v W n hn2
 rw[hW]at hv
 rw[←hv]
 rw[Za Zye]
 generalize n/18446744073709551616=H at*
 generalize n%18446744073709551616=L at*
 simp -implicitDefEqProofs [ZtM,hl,hh,Zf,ZC]
end Go.VE.Un
namespace Go.VE.Un
open Go.VE
def WP:V:=.str [97,110,100]
theorem Zjx(n m w:Nat)(t u:Tag)(hw:w≤128)(op v6:V)(H:Zg): ∀(j k:Nat),k+j=w→∀(a b:Bool),∃a' b',(orc vp).loop 0 [0,6,8,9,10,11,12] ZgQ [(0,op),(6,v6),(8,.sl 1 ((Yx n w).map bv) t),(9,.sl 1 ((Yx m w).map bv) u),(10,.bool a),(11,.bool b),(12,.int .i64 k)] H=
 some (.brk 0,[(0,op),(6,v6),(8,.sl 1 ((Yx n w).map bv) t),(9,.sl 1 ((Yx m w).map bv) u),(10,.bool a'),(11,.bool b'),(12,.int .i64 w),(43,.bool false)],H):=by
 intro j
 induction j with
 |zero=>
  intro k hk a b
  obtain rfl:k=w:=by omega
  refine⟨a,b,?_⟩
  rw[Jr]
  simp -implicitDefEqProofs [Zac]
 |succ j ih=>
  intro k hk a b
  obtain⟨h1,h3⟩:((k:Int)<w)∧k<w:=by and_intros<;>omega
  have w1:=w64 (n:=(k:Int)+1) (by omega)
  have ih:=ih (k+1) (by omega)
  have p1:((k+1:Nat):Int)=(k:Int)+1:=by omega
  rw[p1]at ih
  have g1:Yc 1 (.sl 1 ((Yx n w).map bv) t) (.int .i64 k)=some (.eptr (.bool (n.testBit k)) 0 t):=by
   rw[Y5,Uk,Uo n h3];rfl
  have g2:Yc 1 (.sl 1 ((Yx m w).map bv) u) (.int .i64 k)=some (.eptr (.bool (m.testBit k)) 0 u):=by
   rw[Y5,Uk,Uo m h3];rfl
  cases c1:n.testBit k<;>cases c2:m.testBit k<;>rw[c1]at g1<;>rw[c2]at g2
  ·obtain⟨a',b',ih⟩:=ih a b
   exact⟨a',b',by rw[Jr];simp -implicitDefEqProofs [h1,h3,w1,g1,g2,ih,-Y5]⟩
  ·obtain⟨a',b',ih⟩:=ih true false
   exact⟨a',b',by rw[Jr];simp -implicitDefEqProofs [h1,h3,w1,g1,g2,ih,-Y5]⟩
  ·obtain⟨a',b',ih⟩:=ih false false
   exact⟨a',b',by rw[Jr];simp -implicitDefEqProofs [h1,h3,w1,g1,g2,ih,-Y5]⟩
  ·obtain⟨a',b',ih⟩:=ih a b
   exact⟨a',b',by rw[Jr];simp -implicitDefEqProofs [h1,h3,w1,g1,g2,ih,-Y5]⟩
theorem ZjS(n m w:Nat)(t u:Tag)(hw:w≤128)(v6 v10:V)(b1 b2 b3:Blk): ∀(j k:Nat),k+j=w→∀(c:Bool),∃c',(orc vp).loop 0 [0,6,8,9,10,13,14,15] Zgv [(0,WP),(6,v6),(8,.sl 1 ((Yx n w).map bv) t),(9,.sl 1 ((Yx m w).map bv) u),(10,v10),(13,.gsl 3 k 1 0 k),(14,.bool c),(15,.int .i64 k)] [b1,b2,b3,.arr ((Yx (n&&&m) k).map bv)]=
 some (.brk 2,[(0,WP),(6,v6),(8,.sl 1 ((Yx n w).map bv) t),(9,.sl 1 ((Yx m w).map bv) u),(10,v10),(13,.gsl 3 w 1 0 w),(14,.bool c'),(15,.int .i64 w),(78,.bool false)],[b1,b2,b3,.arr ((Yx (n&&&m) w).map bv)]):=by
 intro j
 induction j with
 |zero=>
  intro k hk c
  obtain rfl:k=w:=by omega
  refine⟨c,?_⟩
  rw[ZcE]
  simp -implicitDefEqProofs [Zau]
 |succ j ih=>
  intro k hk c
  obtain⟨h1,h3⟩:((k:Int)<w)∧k<w:=by and_intros<;>omega
  have w1:=w64 (n:=(k:Int)+1) (by omega)
  have ih:=ih (k+1) (by omega)
  have p1:((k+1:Nat):Int)=(k:Int)+1:=by omega
  rw[p1]at ih
  have g1:Yc 1 (.sl 1 ((Yx n w).map bv) t) (.int .i64 k)=some (.eptr (.bool (n.testBit k)) 0 t):=by
   rw[Y5,Uk,Uo n h3];rfl
  have g2:Yc 1 (.sl 1 ((Yx m w).map bv) u) (.int .i64 k)=some (.eptr (.bool (m.testBit k)) 0 u):=by
   rw[Y5,Uk,Uo m h3];rfl
  have ha: ∀x,(n&&&m).testBit k=x→XY 0 [b1,b2,b3,.arr ((Yx (n&&&m) k).map bv)] 1 1 (.gsl 3 k 1 0 k) [.bool x]=some (.gsl 3 (k+1) 1 0 (k+1),[b1,b2,b3,.arr ((Yx (n&&&m) (k+1)).map bv)]):=fun x hx=>by
   rw[KQ (es:=(Yx (n&&&m) k).map bv) (by simp) (by simp) (by omega) rfl (by simp[YB];omega)]
   rw[Za2,List.map_append,hx];rfl
  have hx:=Nat.testBit_and n m k
  have e1:IntKind.i64.wrap (1:Int)=1:=by decide
  have e2:IntKind.i64.wrap (2:Int)=2:=by decide
  have e3:IntKind.i64.wrap (3:Int)=3:=by decide
  have r0:Yk .rem (.int .i64 0) (.int .i64 2)=some (.int .i64 0):=rfl
  have r1:Yk .rem (.int .i64 1) (.int .i64 2)=some (.int .i64 1):=rfl
  have r2:Yk .rem (.int .i64 2) (.int .i64 2)=some (.int .i64 0):=rfl
  have r3:Yk .rem (.int .i64 3) (.int .i64 2)=some (.int .i64 1):=rfl
  cases c1:n.testBit k<;>cases c2:m.testBit k<;>rw[c1,c2]at hx<;>rw[c1]at g1<;>rw[c2]at g2<;>have ha:=ha _ hx<;>simp only[Bool.and_true,Bool.true_and,Bool.and_false,Bool.false_and]at ha<;>cases c
  all_goals
   first
    |(obtain⟨c',ih⟩:=ih false
      refine⟨c',?_⟩
      rw[ZcE]
      simp -implicitDefEqProofs [WP]at ih
      simp -implicitDefEqProofs [WP,h1,h3,w1,g1,g2,e1,e2,e3,r0,r1,r2,r3,Z9,Yw,ha,ih,-Y5]
      done)
    |(obtain⟨c',ih⟩:=ih true
      refine⟨c',?_⟩
      rw[ZcE]
      simp -implicitDefEqProofs [WP]at ih
      simp -implicitDefEqProofs [WP,h1,h3,w1,g1,g2,e1,e2,e3,r0,r1,r2,r3,Z9,Yw,ha,ih,-Y5]
      done)
theorem ZjZ(v6 v10 v14:V)(w:Nat)(hw:w≤128)(H:Zg)(B:Nat): ∀(j k:Nat),k+j=w→(orc vp).loop 0 [0,6,10,13,14,20] Zf1 [(0,WP),(6,v6),(10,v10),(13,.gsl B w 1 0 w),(14,v14),(20,.int .i64 k)] H=
 some (.brk 4,[(0,WP),(6,v6),(10,v10),(13,.gsl B w 1 0 w),(14,v14),(20,.int .i64 w),(135,.bool false)],H):=by
 intro j
 induction j with
 |zero=>
  intro k hk
  obtain rfl:k=w:=by omega
  rw[Zjd]
  simp -implicitDefEqProofs [ZaY]
 |succ j ih=>
  intro k hk
  obtain⟨h1,h3⟩:((k:Int)<w)∧k<w:=by and_intros<;>omega
  have w1:=w64 (n:=(k:Int)+1) (by omega)
  have ih:=ih (k+1) (by omega)
  have p1:((k+1:Nat):Int)=(k:Int)+1:=by omega
  rw[p1]at ih
  rw[Zjd]
  simp -implicitDefEqProofs [WP]at ih
  simp -implicitDefEqProofs [WP,h1,h3,w1,ih]
theorem Zr8{n m w:Nat}(h:n<2^w):n&&&m<2^w:=Nat.lt_of_le_of_lt Nat.and_le_left h
set_option maxHeartbeats 1000000 in
theorem Zh1(x y:Vec):Zc vp 790 [WP,x.v,y.v]=some (.tup [(U5 x y).1.v,.int .i64 (U5 x y).2]):=by
 have m1:=JV x
 have m2:=JV y
 rw[Za ZwG]
 by_cases g1:x.good=true
 ·by_cases g2:y.good=true
  ·by_cases g3:x.W.n=y.W.n
   ·have g1':=g1
    have g2':=g2
    simp only[Vec.good,Bool.and_eq_true,decide_eq_true_eq]at g1' g2'
    have b1:=Zjo x g1
    have b2:=Zjo y g2
    rw[←g3]at b2
    generalize hw:x.W.n.toNat=w at*
    have hW:x.W.n=w:=by omega
    have hw2:y.W.n.toNat=w:=by rw[←g3];exact hw
    rw[hw2]at g2'
    obtain⟨a',b',l2⟩:=Zjx x.n y.n w .perm .perm (by omega) WP (.ptr 2 1 0 0) [.arr [x.v],.arr [y.v],.arr [Vec.z.v]] w 0 (by omega) false true
    obtain⟨c',l1⟩:=ZjS x.n y.n w .perm .perm (by omega) (.ptr 2 1 0 0) (.bool a') (.arr [x.v]) (.arr [y.v]) (.arr [Vec.z.v]) w 0 (by omega) false
    have l0:=ZjZ (.ptr 2 1 0 0) (.bool a') (.bool c') w (by omega) [.arr [x.v],.arr [y.v],.arr [Vec.z.v],.arr ((Yx (x.n&&&y.n) w).map bv)] 3 w 0 (by omega)
    have ho:=fun t=>Zyx (x.n&&&y.n) w t (by omega) (Zr8 g1'.2) x.W hW
    have e0:(Yx (x.n&&&y.n) 0).map bv=[]:=rfl
    rw[e0]at l1
    simp only[Int.natCast_zero]at l2 l1 l0
    have ez:U5 x y=(Vec.of x.W (x.n&&&y.n),0):=by unfold U5;rw[if_pos ⟨g1,g2⟩,if_pos g3]
    rw[ez]
    have hb:=Zlo 0 (Yx (x.n&&&y.n) w)
    simp -implicitDefEqProofs [WP]at l2 l1 l0
    simp -implicitDefEqProofs [WP,m1,m2,g1,g2,←g3,b1,b2,l2,l1,l0,U4,ho]
   ·have ez:U5 x y=(Vec.z,9):=by unfold U5;rw[if_pos ⟨g1,g2⟩,if_neg g3]
    rw[ez]
    simp -implicitDefEqProofs [WP,m1,m2,g1,g2,g3,U4,Zf,ZC]
  ·have ez:U5 x y=(Vec.z,1):=by unfold U5;rw[if_neg (fun h=>g2 h.2)]
   rw[ez]
   simp only[Bool.not_eq_true]at g2
   simp -implicitDefEqProofs [WP,m1,m2,g1,g2,U4,Zf,ZC]
 ·have ez:U5 x y=(Vec.z,1):=by unfold U5;rw[if_neg (fun h=>g1 h.1)]
  rw[ez]
  simp only[Bool.not_eq_true]at g1
  simp -implicitDefEqProofs [WP,m1,m2,g1,U4,Zf,ZC]
end Go.VE.Un
namespace Go.VE.Un
open Go.VE
def YY(n:Int):List ZF→List (List UInt8)→Int
 |[],_=>0
 |x::r,ns=>if YA x.Name.s=false then 4 else if 0≤Vs (Yl x.Name.s) ns 0 then 6 else if inB x.Header.n 0 (n-1)=false then 5 else if inB x.Depth.n 0 4=false then 7 else YY n r (ns++[x.Name.s])
def WJ(n:Int):List ZF→List (List UInt8)→Option (List (List UInt8))
 |[],ns=>some ns
 |x::r,ns=>if YA x.Name.s=false then none else if 0≤Vs (Yl x.Name.s) ns 0 then none else if inB x.Header.n 0 (n-1)=false then none else if inB x.Depth.n 0 4=false then none else WJ n r (ns++[x.Name.s])
theorem ZeC(n:Int): ∀(r:List ZF) (ns:List (List UInt8)) {ns':List (List UInt8)},WJ n r ns=some ns'→YY n r ns=0
 |[],ns,ns',e=>rfl
 |f::r,ns,ns',e=>by
  simp only[WJ]at e
  split at e
  ·simp at e
  ·rename_i h1
   split at e
   ·simp at e
   ·rename_i h2
    split at e
    ·simp at e
    ·rename_i h3
     split at e
     ·simp at e
     ·rename_i h4
      simp only[YY];rw[if_neg h1,if_neg h2,if_neg h3,if_neg h4];exact ZeC n r _ e
theorem ZoH(hs:GL Header)(l:GL ZF)(hl:l.l.length≤16)(hb: ∀f∈l.l,f.Name.s.length≤35184372088831): ∀(r:List ZF) (k:Int) (ns:List (List UInt8)),0≤k→k≤l.l.length→l.l.drop k.toNat=r→ns.length=k.toNat→(∀s∈ns,s.length≤35184372088831)→∃hh,(orc vp).loop 0 [0,1,5,11,12,13] Zhp [(0,GL.v 6 Header.v hs),(1,GL.v 3 ZF.v l),(5,.gsl 0 ns.length 1 0 ns.length),(11,GL.v 3 ZF.v l),(12,.int .i64 l.l.length),(13,.int .i64 k)] [.arr (ns.map .str)]=
 (match WJ hs.l.length r ns with
  |some ns=>some (.brk 0,[(0,GL.v 6 Header.v hs),(1,GL.v 3 ZF.v l),(5,.gsl 0 ns.length 1 0 ns.length),(11,GL.v 3 ZF.v l),(12,.int .i64 l.l.length),(13,.int .i64 l.l.length),(14,.bool false)],hh)
  |none=>some (.ret,[(4,.int .i64 (YY hs.l.length r ns))],hh)):=by
 have hle:=hs.le
 have w0:=w64 (n:=hs.l.length-1) (by omega)
 intro r
 induction r with
 |nil=>
  intro k ns hk hkl hd hn hs
  have hle:=Zq hk hd
  obtain⟨hlt,he⟩: ¬k<l.l.length∧k=l.l.length:=by and_intros<;>omega
  refine⟨[.arr (ns.map .str)],?_⟩
  rw[QH]
  simp -implicitDefEqProofs [hlt,WJ,he]
 |cons x r ih=>
  intro k ns hk hkl hd hn hns
  obtain⟨hg,hlt,hd'⟩:=Zp hk hd
  have hx:=hb x (List.mem_of_getElem? (by rw[Zh,if_pos hk]at hg;exact hg))
  have hx':x.Name.s.length≤140737488355328:=by omega
  have hnl:ns.length≤140737488355328:=by omega
  have hi5:=JF ns x.Name.s .brw hnl hns hx
  by_cases hp:YA x.Name.s=true
  ·by_cases hi:0≤Vs (Yl x.Name.s) ns 0
   ·refine⟨[.arr (ns.map .str),.arr [x.v]],?_⟩
    rw[QH]
    simp -implicitDefEqProofs [hlt,hg,hp,hi,hx,hx',W5,WJ,YY,Z6,hi5]
   ·by_cases hw:(decide (0≤x.Header.n)&&decide (x.Header.n≤(hs.l.length:Int)-1))=true
    ·by_cases hz:(decide (0≤x.Depth.n)&&decide (x.Depth.n≤4))=true
     ·have w1:IntKind.i64.wrap (k+1)=k+1:=ZE (by omega) (by omega)
      obtain⟨hh,ih⟩:=ih (k+1) (ns++[x.Name.s]) (by omega) (by omega) hd' (by simp;omega) (by
       intro s h;simp only[List.mem_append,List.mem_singleton]at h
       rcases h with h|rfl
       ·exact hns s h
       ·exact hx)
      refine⟨hh,?_⟩
      rw[QH]
      have ha:=Zct (lo:=0) (z:=1) (bytes:=16) (es:=ns.map V.str) (ns:=[.str x.Name.s]) (h:=[.arr [x.v]]) (by omega) rfl (by simp[YB];omega)
      simp only[List.length_map]at ha
      simp -implicitDefEqProofs [hlt,hg,hp,hi,hw,hz,w0,hx,hx',W5,WJ,YY,inB,Z6,hi5,w1,ha,Yw,Z9,Zha (es:=ns.map V.str) (b:=.arr [x.v]) ZeW (VR (Z6 1 ns) (by simp :Zo 1 [V.str x.Name.s]=true))]
      simpa using ih
     ·refine⟨[.arr (ns.map .str),.arr [x.v]],?_⟩
      rw[QH]
      simp only[Bool.not_eq_true]at hz
      simp -implicitDefEqProofs [hlt,hg,hp,hi,hw,hz,w0,hx,hx',W5,WJ,YY,inB,Z6,hi5]
    ·refine⟨[.arr (ns.map .str),.arr [x.v]],?_⟩
     rw[QH]
     simp only[Bool.not_eq_true]at hw
     simp -implicitDefEqProofs [hlt,hg,hp,hi,hw,w0,hx,hx',W5,WJ,YY,inB,Z6,hi5]
  ·refine⟨[.arr (ns.map .str),.arr [x.v]],?_⟩
   rw[QH]
   simp -implicitDefEqProofs [hlt,hg,hp,hx',WJ,YY]
def U6(n:Int)(l:List ZF):Int:=if 16<l.length then 2 else if YY n l []≠0 then YY n l []else if 32<Yq l then 8 else 0
theorem ZeX(n:Int): ∀(r:List ZF) (ns:List (List UInt8)),WJ n r ns=none→YY n r ns≠0
 |[],ns,e=>by simp[WJ]at e
 |f::r,ns,e=>by
  simp only[WJ]at e
  simp only[YY]
  split
  ·decide
  ·rename_i h1;rw[if_neg h1]at e
   split
   ·decide
   ·rename_i h1;rw[if_neg h1]at e
    split
    ·decide
    ·rename_i h1;rw[if_neg h1]at e
     split
     ·decide
     ·rename_i h1;rw[if_neg h1]at e
      exact ZeX n r _ e
@[simp] theorem Zmn(hs:GL Header)(l:GL ZF)(hb:l.l.length≤16→∀f∈l.l,f.Name.s.length≤35184372088831):Zc vp 640 [GL.v 6 Header.v hs,GL.v 3 ZF.v l]=some (.int .i64 (U6 hs.l.length l.l)):=by
  have hle:=l.le
  rw[Za Zv2]
  by_cases h1:16<l.l.length
  ·have h1':(16:Int)<l.l.length:=by omega
   simp -implicitDefEqProofs [h1,h1',U6]
  ·have h1': ¬(16:Int)<l.l.length:=by omega
   obtain⟨hh,h⟩:=ZoH hs l (by omega) (hb (by omega)) l.l 0 [] (by omega) (by omega) rfl rfl (by simp)
   cases hr:WJ hs.l.length l.l []with
   |none=>
    rw[hr]at h
    have he:=ZeX _ _ _ hr
    simp -implicitDefEqProofs [h1,h1']at h⊢
    simp -implicitDefEqProofs [h,U6,h1,he]
   |some ns=>
    rw[hr]at h
    have he:=ZeC _ _ _ hr
    simp -implicitDefEqProofs [h1,h1']at h⊢
    by_cases h2:32<Yq l.l
    ·simp -implicitDefEqProofs [h,U6,h1,he,h2]
    ·simp -implicitDefEqProofs [h,U6,h1,he,h2]
def WQ:List Field→Int
 |[]=>0
 |f::r=>f.W.n+WQ r
theorem K3: ∀(r:List Field),(∀f∈r,1≤f.W.n∧f.W.n≤128)→0≤WQ r∧WQ r≤128*r.length
 |[],_=>by simp[WQ]
 |f::r,h=>by
  have h1:=h f List.mem_cons_self
  have h2:=K3 r (fun g hg=>h g (List.mem_cons_of_mem _ hg))
  simp only[WQ,List.length_cons];omega
theorem Zpy(h:Header)(n:Int)(hn:n≤h.Fields.l.length)(hl:h.Fields.l.length≤16)(hw: ∀f∈h.Fields.l,1≤f.W.n∧f.W.n≤128): ∀(j:Nat) (k sum:Int),0≤k→k+j=n→0≤sum→sum≤128*k→(orc vp).loop 0 [2,6,8,9] ZgC [(2,.ptr 0 1 0 0),(6,.int .i64 sum),(8,.int .i64 n),(9,.int .i64 k)] [.arr [h.v]]=
 some (.brk 0,[(2,.ptr 0 1 0 0),(6,.int .i64 (sum+WQ ((h.Fields.l.drop k.toNat).take j))),(8,.int .i64 n),(9,.int .i64 n),(10,.bool false)],[.arr [h.v]]):=by
 intro j
 induction j with
 |zero=>
  intro k sum hk hkn h0 h1
  obtain⟨hlt,he⟩: ¬k<n∧k=n:=by and_intros<;>omega
  rw[Zjn]
  simp -implicitDefEqProofs [hlt,WQ,he]
 |succ j ih=>
  intro k sum hk hkn h0 h1
  have hlt:k<n:=by omega
  have hk':k.toNat<h.Fields.l.length:=by omega
  have hg:Zh h.Fields.l k=some h.Fields.l[k.toNat]:=by simp[Zh,hk,hk']
  have hd:h.Fields.l.drop k.toNat=h.Fields.l[k.toNat]::h.Fields.l.drop (k+1).toNat:=by
   rw[show(k+1).toNat=k.toNat+1 by omega];exact List.drop_eq_getElem_cons hk'
  have hx:=hw _ (List.getElem_mem hk')
  have w1:=w64 (n:=k+1) (by omega)
  have w2:=w64 (n:=sum+h.Fields.l[k.toNat].W.n) (by omega)
  rw[Zjn]
  rw[hd,List.take_succ_cons,WQ]
  simp -implicitDefEqProofs [hlt,hg,w1,w2,ih (k+1) (sum+h.Fields.l[k.toNat].W.n) (by omega) (by omega) (by omega) (by omega),Int.add_assoc]
theorem ZmE(h:Header)(n:Int)(h0:0≤n)(hn:n≤h.Fields.l.length)(hl:h.Fields.l.length≤16)(hw: ∀f∈h.Fields.l,1≤f.W.n∧f.W.n≤128):
 Zc vp 647 [h.v,.int .i64 n]=some (.tup [.int .i64 (WQ (h.Fields.l.take n.toNat)),.bool true]):=by
 have hlp:=Zpy h n hn hl hw n.toNat 0 0 (by omega) (by omega) (by omega) (by omega)
 simp only[Int.toNat_zero,List.drop_zero,Int.zero_add]at hlp
 rw[Za Zyy]
 simp -implicitDefEqProofs [hlp]
theorem QA: ∀(l:List Field) (ns:List (List UInt8)) (sum:Int),Ym l ns sum=0→∀f∈l,1≤f.W.n∧f.W.n≤128
 |[],_,_,_,f,hf=>by simp at hf
 |x::r,ns,sum,e,f,hf=>by
  simp only[Ym]at e
  split at e
  ·simp at e
  ·split at e
   ·simp at e
   ·split at e
    ·rename_i h3
     rcases List.mem_cons.1 hf with rfl|hf
     ·exact h3
     ·exact QA r _ _ e f hf
    ·simp at e
theorem Zgh{h:Header}(e:VU h=0):YA h.Name.s=true∧0<h.Fields.l.length∧h.Fields.l.length≤16∧Ym h.Fields.l [] 0=0∧Xz h=true:=by
 unfold VU at e
 split at e
 ·simp at e
 ·rename_i h1
  split at e
  ·simp at e
  ·rename_i h2
   split at e
   ·simp at e
   ·rename_i h3
    split at e
    ·rename_i h4;exact absurd e h4
    ·rename_i h4
     split at e
     ·simp at e
     ·rename_i h5
      simp at h1 h5 h4
      exact⟨h1,by omega,by omega,h4,h5⟩
def QW(h:Header)(f:Int):Option Int:=if VU h=0∧0≤f∧f<h.Fields.l.length then some (WQ (h.Fields.l.take f.toNat))else none
@[simp] theorem ZjJ(h:Header)(f:Int)(hb:h.Fields.l.length≤16→∀f∈h.Fields.l,f.Name.s.length≤35184372088831):Zc vp 644 [h.v,.int .i64 f]=some (.tup [.int .i64 ((QW h f).getD 0),.bool (QW h f).isSome]):=by
  have hle:=h.Fields.le
  have w:=w64 (n:=h.Fields.l.length-1) (by omega)
  have hm:=ZhL h hb
  rw[Za Zzo]
  by_cases h0:VU h=0
  ·by_cases h1:(decide (0≤f)&&decide (f≤(h.Fields.l.length:Int)-1))=true
   ·have h2:0≤f∧f<h.Fields.l.length:=by simp at h1;omega
    obtain⟨_,g1,g2,g3,_⟩:=Zgh h0
    have ha:=ZmE h f h2.1 (by omega) g2 (QA _ _ _ g3)
    have ho:QW h f=some (WQ (h.Fields.l.take f.toNat)):=by unfold QW;rw[if_pos ⟨h0,h2⟩]
    simp -implicitDefEqProofs [hm,h0,h1,w,ha,ho]
   ·have ho:QW h f=none:=by
     unfold QW;rw[if_neg];simp at h1;intro⟨_,a,b⟩;omega
    simp only[Bool.not_eq_true]at h1
    simp -implicitDefEqProofs [hm,h0,h1,w,ho]
  ·have ho:QW h f=none:=by unfold QW;rw[if_neg (fun a=>h0 a.1)]
   simp -implicitDefEqProofs [hm,h0,ho]
end Go.VE.Un
