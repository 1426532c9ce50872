/- Joined texts: CrE, CrF, CrG, CkT. No condition: what each theorem needs stands in it. -/
import Derived.Test.YtieifgngaaccmaaGreatCc5
import Derived.Test.YtieifgngaaccmaaGreatCc4
namespace Go.VE
def rowV(f:Nat→Bool):List V:=(List.range 128).map fun j=>.bool (f j)
@[simp] theorem rowV_length(f:Nat→Bool):(rowV f).length=128:=by simp[rowV]
theorem rowV_get(f:Nat→Bool){j:Nat}(h:j<128):(rowV f)[j]? =some (.bool (f j)):=by simp[rowV,h]
theorem rowV_set(f g:Nat→Bool){o:Nat}{b:Bool}(h: ∀j,j<128→g j=if j=o then b else f j):(rowV f).set o (.bool b)=rowV g:=by
 apply List.ext_getElem?
 intro j
 by_cases hj:j<128
 ·rw[List.getElem?_set,rowV_get g hj,h j hj]
  by_cases e:o=j
  ·subst e;simp[hj]
  ·have e': ¬j=o:=fun x=>e x.symm
   simp[e,e',rowV_get f hj]
 ·rw[List.getElem?_eq_none (by simp;omega),List.getElem?_eq_none (by simp;omega)]
theorem rowV_congr{f g:Nat→Bool}(h: ∀j,j<128→f j=g j):rowV f=rowV g:=by
 unfold rowV;apply List.map_congr_left;intro j hj;rw[h j (by simpa using hj)]
theorem row0:rp 128 (.bool false)=rowV fun _=>false:=by
 apply List.ext_getElem?
 intro j
 by_cases hj:j<128
 ·rw[rowV_get _ hj,rp,List.getElem?_replicate,if_pos hj]
 ·rw[List.getElem?_eq_none (by simp;omega),List.getElem?_eq_none (by simp;omega)]
@[simp] theorem rowV_closed(f:Nat→Bool):closedL (rowV f)=true:=by unfold rowV;rw[closedL_map];simp
@[simp] theorem rowV_below(k:Nat)(f:Nat→Bool):belowL k (rowV f)=true:=belowL_map (fun _=>by simp) _
theorem bit_eq(x k:Nat):decide (((x/2^k:Nat):Int)%2=1)=x.testBit k:=by
 rw[Nat.testBit_eq_decide_div_mod_eq,decide_eq_decide];omega
theorem tb_hi(n k:Nat):(n/18446744073709551616).testBit k=n.testBit (k+64):=by
 rw[show(18446744073709551616:Nat)=2^64 from rfl,Nat.testBit_div_two_pow,Nat.add_comm]
theorem tb_lo(n k:Nat)(h:k<64):(n%18446744073709551616).testBit k=n.testBit k:=by
 rw[show(18446744073709551616:Nat)=2^64 from rfl,Nat.testBit_mod_two_pow];simp[h]
end Go.VE
namespace Go.VE.Un
open Go.VE
theorem rem2(x:Nat):binV .rem (.int .u64 (x:Int)) (.int .u64 2)=some (.int .u64 ((x:Int)%2)):=by
 rw[bin_rem _ _ _ (by decide)];simp[Int.tmod_eq_emod_of_nonneg]
theorem quo2(x:Nat)(h:x<18446744073709551616):binV .quo (.int .u64 (x:Int)) (.int .u64 2)=some (.int .u64 ((x/2:Nat):Int)):=by
 rw[bin_quo _ _ _ (by decide)]
 have:((x:Int).tdiv 2)=((x/2:Nat):Int):=by rw[Int.tdiv_eq_ediv_of_nonneg (by omega)];omega
 rw[this,wrapN (by omega)]
theorem loop777(n:Nat)(hn:n<340282366920938463463374607431768211456): ∀(j k:Nat),k+j=64→(orc vp).loop 0 [0,1,4,5,6] L777_0 [(0,.int .u64 ((n/18446744073709551616/2^k:Nat):Int)),(1,.int .u64 ((n%18446744073709551616/2^k:Nat):Int)),(4,.ptr 0 1 0 0),(5,.ptr 1 1 0 0),(6,.int .i64 k)]
 [.arr [.agg (rowV fun _=>false)],.arr [.agg (rowV fun i=>decide (i%64<k)&&n.testBit i)]]=some (.brk 0,[(0,.int .u64 ((n/18446744073709551616/2^64:Nat):Int)),(1,.int .u64 ((n%18446744073709551616/2^64:Nat):Int)),(4,.ptr 0 1 0 0),(5,.ptr 1 1 0 0),(6,.int .i64 64),(8,.bool false)],[.arr [.agg (rowV fun _=>false)],.arr [.agg (rowV n.testBit)]]):=by
 intro j
 induction j with
 |zero=>
  intro k hk
  obtain rfl:k=64:=by omega
  have e:(rowV fun i=>decide (i%64<64)&&n.testBit i)=rowV n.testBit:=rowV_congr fun i _=>by simp[Nat.mod_lt]
  rw[lp777_0,e]
  simp -implicitDefEqProofs [-Int.natCast_ediv,-Int.natCast_emod,-Nat.reducePow]
 |succ j ih=>
  intro k hk
  have hlt:(k:Int)<64:=by omega
  have w1:IntKind.i64.wrap ((k:Int)+1)=(k:Int)+1:=wrap64 (by omega) (by omega)
  have w2:IntKind.i64.wrap ((k:Int)+64)=(k:Int)+64:=wrap64 (by omega) (by omega)
  have hh:n/18446744073709551616/2^k<18446744073709551616:=Nat.lt_of_le_of_lt (Nat.div_le_self _ _) (hi_lt hn)
  have hl:n%18446744073709551616/2^k<18446744073709551616:=Nat.lt_of_le_of_lt (Nat.div_le_self _ _) (Nat.mod_lt _ (by decide))
  have d1:n/18446744073709551616/2^k/2=n/18446744073709551616/2^(k+1):=by rw[Nat.div_div_eq_div_mul,←Nat.pow_succ]
  have d2:n%18446744073709551616/2^k/2=n%18446744073709551616/2^(k+1):=by rw[Nat.div_div_eq_div_mul,←Nat.pow_succ]
  have q1:=quo2 _ hh
  have q2:=quo2 _ hl
  have r1:=rem2 (n/18446744073709551616/2^k)
  have r2:=rem2 (n%18446744073709551616/2^k)
  rw[d1]at q1;rw[d2]at q2
  have b1:=bit_eq (n/18446744073709551616) k
  have b2:=bit_eq (n%18446744073709551616) k
  rw[tb_hi]at b1;rw[tb_lo n k (by omega)]at b2
  have s1:(rowV fun i=>decide (i%64<k)&&n.testBit i).set k (.bool (n.testBit k))=rowV fun i=>(decide (i%64<k)||decide (i=k))&&n.testBit i:=rowV_set _ _ fun i hi=>by
   by_cases e:i=k
   ·subst e;simp
   ·simp[e]
  have s2:(rowV fun i=>(decide (i%64<k)||decide (i=k))&&n.testBit i).set (k+64) (.bool (n.testBit (k+64)))=rowV fun i=>decide (i%64<k+1)&&n.testBit i:=rowV_set _ _ fun i hi=>by
   by_cases e:i=k+64
   ·subst e;simp
    intro;omega
   ·rw[if_neg e];congr 1
    rw[Bool.eq_iff_iff];simp;omega
  have ih:=ih (k+1) (by omega)
  have p1:((k+1:Nat):Int)=(k:Int)+1:=by omega
  rw[p1]at ih
  have z1:((k:Int)+64).toNat=k+64:=by omega
  have g1:(0:Int)≤(k:Int)+64:=by omega
  have g2:(k:Int)+64<128:=by omega
  have g3:(k:Int)<128:=by omega
  have l1:k<128:=by omega
  have l2:k+64<128:=by omega
  generalize n/18446744073709551616/2^k=H at*
  generalize n%18446744073709551616/2^k=L at*
  generalize n/18446744073709551616/2^(k+1)=H' at*
  generalize n%18446744073709551616/2^(k+1)=L' at*
  generalize n/18446744073709551616/2^64=H2 at*
  generalize n%18446744073709551616/2^64=L2 at*
  rw[lp777_0]
  simp -implicitDefEqProofs [hlt,w1,w2,q1,q2,r1,r2,b1,b2,s1,s2,ih,z1,g1,g2,g3,l1,l2,-Int.natCast_ediv,-Int.natCast_emod]
theorem of777(n:Nat)(hn:n<340282366920938463463374607431768211456):callRO vp 777 [.int .u64 ((n/18446744073709551616:Nat):Int),.int .u64 ((n%18446744073709551616:Nat):Int)]=some (.agg (rowV n.testBit)):=by
 have hl:=loop777 n hn 64 0 (by omega)
 have e:(rowV fun i=>decide (i%64<0)&&n.testBit i)=rowV fun _=>false:=rowV_congr fun i _=>by simp
 rw[e,Nat.pow_zero,Nat.div_one,Nat.div_one]at hl
 simp only[Int.natCast_zero]at hl
 rw[callRO_K fn777]
 generalize n/18446744073709551616=H at*
 generalize n%18446744073709551616=L at*
 simp -implicitDefEqProofs [row0,hl]
def lenT(n:Nat):Nat→Nat
 |0=>0
 |k+1=>if n.testBit k=true then k+1 else lenT n k
theorem lenT_le(n:Nat)(w:Nat): ∀k,lenT n k≤w↔∀i,w≤i→i<k→n.testBit i=false
 |0=>by simp[lenT]
 |k+1=>by
  simp only[lenT]
  split
  ·rename_i h
   constructor
   ·intro h1 i h2 h3;omega
   ·intro h1
    rcases Nat.lt_or_ge k w with h2|h2
    ·omega
    ·rw[h1 k h2 (by omega)]at h;simp at h
  ·rename_i h
   rw[lenT_le n w k]
   constructor
   ·intro h1 i h2 h3
    rcases Nat.lt_or_ge i k with h4|h4
    ·exact h1 i h2 h4
    ·obtain rfl:i=k:=by omega
     simpa using h
   ·intro h1 i h2 h3;exact h1 i h2 (by omega)
theorem lenT_iff(n w:Nat)(hn:n<340282366920938463463374607431768211456):lenT n 128≤w↔n<2^w:=by
 rw[lenT_le]
 constructor
 ·intro h
  apply Nat.lt_pow_two_of_testBit
  intro i hi
  rcases Nat.lt_or_ge i 128 with h2|h2
  ·exact h i hi h2
  ·exact Nat.testBit_lt_two_pow (Nat.lt_of_lt_of_le hn (Nat.pow_le_pow_right (by decide) h2:2^128≤2^i))
 ·intro h i hi _
  exact Nat.testBit_lt_two_pow (Nat.lt_of_lt_of_le h (Nat.pow_le_pow_right (by decide) hi))
theorem loop773(n:Nat): ∀(k:Nat),k≤128→∃fr,(orc vp).loop 0 [1,3] L773_0 [(1,.ptr 0 1 0 0),(3,.int .i64 ((k:Int)-1))] [.arr [.agg (rowV n.testBit)]]=
 (if lenT n k=0 then some (.brk 0,[(1,.ptr 0 1 0 0),(3,.int .i64 (-1)),(5,.bool false)],[.arr [.agg (rowV n.testBit)]])else some (.ret,fr,[.arr [.agg (rowV n.testBit)]]))∧lk fr 2=.int .i64 (lenT n k):=by
 intro k
 induction k with
 |zero=>
  intro _
  refine⟨[(2,.int .i64 0)],?_,rfl⟩
  rw[lp773_0]
  simp -implicitDefEqProofs [lenT]
 |succ k ih=>
  intro hk
  have h0:(((k+1:Nat):Int)-1)=k:=by omega
  have w1:IntKind.i64.wrap ((k:Int)-1)=(k:Int)-1:=wrap64 (by omega) (by omega)
  have w2:IntKind.i64.wrap ((k:Int)+1)=(k:Int)+1:=wrap64 (by omega) (by omega)
  have g3:(k:Int)<128:=by omega
  have hg:=rowV_get n.testBit (show k<128 by omega)
  rw[h0,lp773_0]
  by_cases c:n.testBit k=true
  ·refine⟨[(2,.int .i64 ((k:Int)+1))],?_,by simp[lenT,c]⟩
   simp -implicitDefEqProofs [lenT,c,g3,hg,w2]
  ·simp only[Bool.not_eq_true]at c
   obtain⟨fr,ih,e⟩:=ih (by omega)
   refine⟨fr,?_,by simp[lenT,c,e]⟩
   simp -implicitDefEqProofs [lenT,c,g3,hg,w1,ih]
theorem len773(n:Nat):callRO vp 773 [.agg (rowV n.testBit)]=some (.int .i64 (lenT n 128)):=by
 obtain⟨fr,hl,e⟩:=loop773 n 128 (by omega)
 rw[show((128:Nat):Int)-1=127 from rfl]at hl
 rw[callRO_K fn773]
 by_cases c:lenT n 128=0
 ·rw[if_pos c]at hl
  simp -implicitDefEqProofs [hl,c]
 ·rw[if_neg c]at hl
  simp -implicitDefEqProofs [hl,e]
theorem may785(x:Vec):callRO vp 785 [x.v]=some (.bool x.good):=by
 have hn:=x.n_lt
 have h1:((x.n/18446744073709551616:Nat):Int)=x.Hi.n:=by have:=x.Hi.lo;have:=x.Lo.lo;have:=x.Lo.hi;unfold Vec.n;omega
 have h2:((x.n%18446744073709551616:Nat):Int)=x.Lo.n:=by have:=x.Hi.lo;have:=x.Lo.lo;have:=x.Lo.hi;unfold Vec.n;omega
 have ho:=of777 x.n hn
 rw[h1,h2]at ho
 have hl:=len773 x.n
 rw[callRO_K fn785]
 by_cases c1:1≤x.W.n
 ·by_cases c2:x.W.n≤128
  ·have hi:=lenT_iff x.n x.W.n.toNat hn
   by_cases c3:x.n<2^x.W.n.toNat
   ·have c4:(lenT x.n 128:Int)≤x.W.n:=by have:=hi.2 c3;omega
    simp -implicitDefEqProofs [c1,c2,ho,hl,c3,c4,Vec.good]
   ·have c4: ¬(lenT x.n 128:Int)≤x.W.n:=fun h=>c3 (hi.1 (by omega))
    simp -implicitDefEqProofs [c1,c2,ho,hl,c3,c4,Vec.good]
  ·simp -implicitDefEqProofs [c1,c2,Vec.good]
 ·simp -implicitDefEqProofs [c1,Vec.good]
end Go.VE.Un
namespace Go.VE
def bv(b:Bool):V:=.bool b
@[simp] theorem bv_below(k:Nat)(b:Bool):belowB k (bv b)=true:=nr rfl
@[simp] theorem bv_closed(b:Bool):closedB (bv b)=true:=nr rfl
@[simp] theorem bvs_closed(l:List Bool):closedL (l.map bv)=true:=by rw[closedL_map];simp
@[simp] theorem bvs_below(k:Nat)(l:List Bool):belowL k (l.map bv)=true:=belowL_map (fun _=>rfl) l
def bitsL(n w:Nat):List Bool:=(List.range w).map n.testBit
@[simp] theorem bitsL_len(n w:Nat):(bitsL n w).length=w:=by simp[bitsL]
theorem bitsL_get(n:Nat){w j:Nat}(h:j<w):(bitsL n w)[j]? =some (n.testBit j):=by simp[bitsL,h]
theorem bitsL_succ(n w:Nat):bitsL n (w+1)=bitsL n w++[n.testBit w]:=by simp[bitsL,List.range_succ]
end Go.VE
namespace Go.VE.Un
open Go.VE
theorem loop783(x:Vec)(g:x.good=true): ∀(j k:Nat),k+j=x.W.n.toNat→(orc vp).loop 0 [1,3,4,5] L783_0 [(1,.ptr 0 1 0 0),(3,.ptr 1 1 0 0),(4,.gsl 2 k 1 0 k),(5,.int .i64 k)] [.arr [x.v],.arr [.agg (rowV x.n.testBit)],.arr ((bitsL x.n k).map bv)]=
 some (.brk 0,[(1,.ptr 0 1 0 0),(3,.ptr 1 1 0 0),(4,.gsl 2 x.W.n.toNat 1 0 x.W.n.toNat),(5,.int .i64 x.W.n),(18,.bool false)],[.arr [x.v],.arr [.agg (rowV x.n.testBit)],.arr ((bitsL x.n x.W.n.toNat).map bv)]):=by
 simp only[Vec.good,Bool.and_eq_true,decide_eq_true_eq]at g
 intro j
 induction j with
 |zero=>
  intro k hk
  obtain rfl:k=x.W.n.toNat:=by omega
  have e:((x.W.n.toNat:Nat):Int)=x.W.n:=by omega
  rw[lp783_0,e]
  simp -implicitDefEqProofs [l783_0]
 |succ j ih=>
  intro k hk
  have h1:(k:Int)<x.W.n:=by omega
  have h2:(k:Int)<128:=by omega
  have w1:IntKind.i64.wrap ((k:Int)+1)=(k:Int)+1:=wrap64 (by omega) (by omega)
  have ih:=ih (k+1) (by omega)
  have p1:((k+1:Nat):Int)=(k:Int)+1:=by omega
  rw[p1]at ih
  have hg:=rowV_get x.n.testBit (show k<128 by omega)
  have ha:appV 0 [.arr [x.v],.arr [.agg (rowV x.n.testBit)],.arr ((bitsL x.n k).map bv)] 1 1 (.gsl 2 k 1 0 k) [.bool (x.n.testBit k)]=some (.gsl 2 (k+1) 1 0 (k+1),[.arr [x.v],.arr [.agg (rowV x.n.testBit)],.arr ((bitsL x.n (k+1)).map bv)]):=by
   have:=appV_2 (lo:=0) (z:=1) (bytes:=1) (es:=(bitsL x.n k).map bv) (ns:=[.bool (x.n.testBit k)]) (b:=.arr [x.v]) (c:=.arr [.agg (rowV x.n.testBit)]) (h:=[]) (by omega) rfl (by simp[roomB];omega)
   rw[bitsL_succ,List.map_append]
   simpa[bv]using this
  rw[lp783_0]
  simp -implicitDefEqProofs [h1,h2,w1,hg,buildSl_eq,listOf_sl,ha,ih]
theorem bits783(x:Vec)(g:x.good=true):callRO vp 783 [x.v]=some (.sl 1 ((bitsL x.n x.W.n.toNat).map bv) .perm):=by
 have hn:=x.n_lt
 have h1:((x.n/18446744073709551616:Nat):Int)=x.Hi.n:=by have:=x.Hi.lo;have:=x.Lo.lo;have:=x.Lo.hi;unfold Vec.n;omega
 have h2:((x.n%18446744073709551616:Nat):Int)=x.Lo.n:=by have:=x.Hi.lo;have:=x.Lo.lo;have:=x.Lo.hi;unfold Vec.n;omega
 have ho:=of777 x.n hn
 rw[h1,h2]at ho
 have hl:=loop783 x g x.W.n.toNat 0 (by omega)
 have e:(bitsL x.n 0).map bv=[]:=rfl
 rw[e]at hl
 simp only[Int.natCast_zero]at hl
 rw[callRO_K fn783]
 simp -implicitDefEqProofs [ho,row0,hl]
theorem dbl(x:Nat)(i:Nat):2*(x/2^(i+1))+(if x.testBit i=true then 1 else 0)=x/2^i:=by
 have h1:x/2^(i+1)=x/2^i/2:=by rw[Nat.div_div_eq_div_mul,←Nat.pow_succ]
 have h2:x.testBit i=decide (x/2^i%2=1):=Nat.testBit_eq_decide_div_mod_eq
 rw[h1,h2]
 by_cases c:x/2^i%2=1
 ·simp[c];omega
 ·simp[c];omega
theorem mul2(x:Nat)(h:2*x<18446744073709551616):binV .mul (.int .u64 2) (.int .u64 (x:Int))=some (.int .u64 ((2*x:Nat):Int)):=by
 rw[bin_mul,show(2:Int)*(x:Int)=((2*x:Nat):Int)by omega,wrapN h]
theorem add1(x:Nat)(h:x+1<18446744073709551616):binV .add (.int .u64 (x:Int)) (.int .u64 1)=some (.int .u64 ((x+1:Nat):Int)):=by
 rw[bin_add,show(x:Int)+1=((x+1:Nat):Int)by omega,wrapN h]
theorem loop772(n:Nat)(hn:n<340282366920938463463374607431768211456): ∀(k:Nat),k≤64→(orc vp).loop 0 [1,4,5,6] L772_0 [(1,.ptr 0 1 0 0),(4,.int .u64 ((n/18446744073709551616/2^k:Nat):Int)),(5,.int .u64 ((n%18446744073709551616/2^k:Nat):Int)),(6,.int .i64 ((k:Int)-1))] [.arr [.agg (rowV n.testBit)]]=
 some (.brk 0,[(1,.ptr 0 1 0 0),(4,.int .u64 ((n/18446744073709551616:Nat):Int)),(5,.int .u64 ((n%18446744073709551616:Nat):Int)),(6,.int .i64 (-1)),(8,.bool false)],[.arr [.agg (rowV n.testBit)]]):=by
 intro k
 induction k with
 |zero=>
  intro _
  rw[lp772_0]
  simp -implicitDefEqProofs [-Int.natCast_ediv,-Int.natCast_emod]
 |succ k ih=>
  intro hk
  have ih:=ih (by omega)
  have h0:(((k+1:Nat):Int)-1)=k:=by omega
  have w1:IntKind.i64.wrap ((k:Int)-1)=(k:Int)-1:=wrap64 (by omega) (by omega)
  have w2:IntKind.i64.wrap ((k:Int)+64)=(k:Int)+64:=wrap64 (by omega) (by omega)
  have z1:((k:Int)+64).toNat=k+64:=by omega
  have g1:(0:Int)≤(k:Int)+64:=by omega
  have g2:(k:Int)+64<128:=by omega
  have g3:(k:Int)<128:=by omega
  have b1:=rowV_get n.testBit (show k<128 by omega)
  have b2:=rowV_get n.testBit (show k+64<128 by omega)
  have t1:=tb_hi n k
  have t2:=tb_lo n k (by omega)
  have d1:=dbl (n/18446744073709551616) k
  have d2:=dbl (n%18446744073709551616) k
  rw[t1]at d1;rw[t2]at d2
  have hh:n/18446744073709551616/2^k<18446744073709551616:=Nat.lt_of_le_of_lt (Nat.div_le_self _ _) (hi_lt hn)
  have hl:n%18446744073709551616/2^k<18446744073709551616:=Nat.lt_of_le_of_lt (Nat.div_le_self _ _) (Nat.mod_lt _ (by decide))
  rw[h0,lp772_0]
  generalize n/18446744073709551616/2^k=H at*
  generalize n%18446744073709551616/2^k=L at*
  generalize n/18446744073709551616/2^(k+1)=H' at*
  generalize n%18446744073709551616/2^(k+1)=L' at*
  generalize n/18446744073709551616=H2 at*
  generalize n%18446744073709551616=L2 at*
  have m1:=mul2 H' (by omega)
  have m2:=mul2 L' (by omega)
  cases c1:n.testBit (k+64)<;>cases c2:n.testBit k<;>rw[c1]at d1 b2<;>rw[c2]at d2 b1<;>simp only[Bool.false_eq_true,if_false,if_true,Nat.add_zero]at d1 d2
  ·rw[d1]at m1;rw[d2]at m2
   simp -implicitDefEqProofs [w1,w2,z1,g1,g2,g3,b1,b2,m1,m2,ih,-Int.natCast_ediv,-Int.natCast_emod,-Int.natCast_mul]
  ·rw[d1]at m1
   have a2:=add1 (2*L') (by omega)
   rw[d2]at a2
   simp -implicitDefEqProofs [w1,w2,z1,g1,g2,g3,b1,b2,m1,m2,a2,ih,-Int.natCast_ediv,-Int.natCast_emod,-Int.natCast_mul]
  ·rw[d2]at m2
   have a1:=add1 (2*H') (by omega)
   rw[d1]at a1
   simp -implicitDefEqProofs [w1,w2,z1,g1,g2,g3,b1,b2,m1,m2,a1,ih,-Int.natCast_ediv,-Int.natCast_emod,-Int.natCast_mul]
  ·have a1:=add1 (2*H') (by omega)
   have a2:=add1 (2*L') (by omega)
   rw[d1]at a1;rw[d2]at a2
   simp -implicitDefEqProofs [w1,w2,z1,g1,g2,g3,b1,b2,m1,m2,a1,a2,ih,-Int.natCast_ediv,-Int.natCast_emod,-Int.natCast_mul]
theorem halves772(n:Nat)(hn:n<340282366920938463463374607431768211456):callRO vp 772 [.agg (rowV n.testBit)]=some (.tup [.int .u64 ((n/18446744073709551616:Nat):Int),.int .u64 ((n%18446744073709551616:Nat):Int)]):=by
 have hl:=loop772 n hn 64 (by omega)
 have e1:n/18446744073709551616/2^64=0:=Nat.div_eq_of_lt (hi_lt hn)
 have e2:n%18446744073709551616/2^64=0:=Nat.div_eq_of_lt (Nat.mod_lt _ (by decide))
 rw[e1,e2,show((64:Nat):Int)-1=63 from rfl]at hl
 simp only[Int.natCast_zero]at hl
 rw[callRO_K fn772]
 generalize n/18446744073709551616=H at*
 generalize n%18446744073709551616=L at*
 simp -implicitDefEqProofs [hl]
theorem loop787(n w:Nat)(t:Tag)(hw:w≤128): ∀(j k:Nat),k+j=w→
 (orc vp).loop 0 [0,2,3,4] L787_0 [(0,.sl 1 ((bitsL n w).map bv) t),(2,.ptr 0 1 0 0),(3,.ptr 1 1 0 0),(4,.int .i64 k)] [.arr [.agg [.int .i64 0,.int .u64 0,.int .u64 0]],.arr [.agg (rowV fun i=>decide (i<k)&&n.testBit i)]]=some (.brk 0,[(0,.sl 1 ((bitsL n w).map bv) t),(2,.ptr 0 1 0 0),(3,.ptr 1 1 0 0),(4,.int .i64 w),(14,.bool false)],[.arr [.agg [.int .i64 0,.int .u64 0,.int .u64 0]],.arr [.agg (rowV fun i=>decide (i<w)&&n.testBit i)]]):=by
 intro j
 induction j with
 |zero=>
  intro k hk
  obtain rfl:k=w:=by omega
  rw[lp787_0]
  simp -implicitDefEqProofs [l787_0]
 |succ j ih=>
  intro k hk
  have h1:(k:Int)<w:=by omega
  have h2:(k:Int)<128:=by omega
  have w1:IntKind.i64.wrap ((k:Int)+1)=(k:Int)+1:=wrap64 (by omega) (by omega)
  have ih:=ih (k+1) (by omega)
  have p1:((k+1:Nat):Int)=(k:Int)+1:=by omega
  rw[p1]at ih
  have hg:=bitsL_get n (show k<w by omega)
  have l1:k<128:=by omega
  have s1:(rowV fun i=>decide (i<k)&&n.testBit i).set k (.bool (n.testBit k))=rowV fun i=>decide (i<k+1)&&n.testBit i:=rowV_set _ _ fun i hi=>by
   by_cases e:i=k
   ·subst e;simp
   ·rw[if_neg e];congr 1;rw[decide_eq_decide];omega
  have hi:iaddrV 1 (.sl 1 ((bitsL n w).map bv) t) (.int .i64 k)=some (.eptr (.bool (n.testBit k)) 0 t):=by
   rw[iaddr_map,getI_nat,hg];rfl
  have h3:k<w:=by omega
  rw[lp787_0]
  simp -implicitDefEqProofs [h1,h2,h3,w1,hi,l1,s1,ih,-iaddr_map]
theorem of787(n w:Nat)(t:Tag)(hw:w≤128)(hn:n<2^w)(W:I64)(hW:W.n=w):callRO vp 787 [.sl 1 ((bitsL n w).map bv) t]=some (Vec.of W n).v:=by
 have hl:=loop787 n w t hw w 0 (by omega)
 have e:(rowV fun i=>decide (i<0)&&n.testBit i)=rowV fun _=>false:=rowV_congr fun i _=>by simp
 have e2:(rowV fun i=>decide (i<w)&&n.testBit i)=rowV n.testBit:=rowV_congr fun i _=>by
  by_cases h:i<w
  ·simp[h]
  ·rw[Nat.testBit_lt_two_pow (Nat.lt_of_lt_of_le hn (Nat.pow_le_pow_right (by decide) (by omega)))];simp
 have hn2:n<340282366920938463463374607431768211456:=Nat.lt_of_lt_of_le hn (Nat.pow_le_pow_right (by decide) hw:2^w≤2^128)
 rw[e,e2]at hl
 simp only[Int.natCast_zero]at hl
 have hh:=halves772 n hn2
 have hv:=Vec.of_v W n hn2
 rw[hW]at hv
 rw[←hv]
 rw[callRO_K fn787]
 generalize n/18446744073709551616=H at*
 generalize n%18446744073709551616=L at*
 simp -implicitDefEqProofs [row0,hl,hh,pureOp,fillV]
end Go.VE.Un
namespace Go.VE.Un
open Go.VE
def opAnd:V:=.str [97,110,100]
theorem loop790_2(n m w:Nat)(t u:Tag)(hw:w≤128)(op v6:V)(H:Heap): ∀(j k:Nat),k+j=w→∀(a b:Bool),∃a' b',(orc vp).loop 0 [0,6,8,9,10,11,12] L790_2 [(0,op),(6,v6),(8,.sl 1 ((bitsL n w).map bv) t),(9,.sl 1 ((bitsL m w).map bv) u),(10,.bool a),(11,.bool b),(12,.int .i64 k)] H=
 some (.brk 0,[(0,op),(6,v6),(8,.sl 1 ((bitsL n w).map bv) t),(9,.sl 1 ((bitsL m w).map bv) u),(10,.bool a'),(11,.bool b'),(12,.int .i64 w),(43,.bool false)],H):=by
 intro j
 induction j with
 |zero=>
  intro k hk a b
  obtain rfl:k=w:=by omega
  refine⟨a,b,?_⟩
  rw[lp790_2]
  simp -implicitDefEqProofs [l790_2]
 |succ j ih=>
  intro k hk a b
  have h1:(k:Int)<w:=by omega
  have h3:k<w:=by omega
  have w1:IntKind.i64.wrap ((k:Int)+1)=(k:Int)+1:=wrap64 (by omega) (by omega)
  have ih:=ih (k+1) (by omega)
  have p1:((k+1:Nat):Int)=(k:Int)+1:=by omega
  rw[p1]at ih
  have g1:iaddrV 1 (.sl 1 ((bitsL n w).map bv) t) (.int .i64 k)=some (.eptr (.bool (n.testBit k)) 0 t):=by
   rw[iaddr_map,getI_nat,bitsL_get n h3];rfl
  have g2:iaddrV 1 (.sl 1 ((bitsL m w).map bv) u) (.int .i64 k)=some (.eptr (.bool (m.testBit k)) 0 u):=by
   rw[iaddr_map,getI_nat,bitsL_get m h3];rfl
  cases c1:n.testBit k<;>cases c2:m.testBit k<;>rw[c1]at g1<;>rw[c2]at g2
  ·obtain⟨a',b',ih⟩:=ih a b
   exact⟨a',b',by rw[lp790_2];simp -implicitDefEqProofs [h1,h3,w1,g1,g2,ih,-iaddr_map]⟩
  ·obtain⟨a',b',ih⟩:=ih true false
   exact⟨a',b',by rw[lp790_2];simp -implicitDefEqProofs [h1,h3,w1,g1,g2,ih,-iaddr_map]⟩
  ·obtain⟨a',b',ih⟩:=ih false false
   exact⟨a',b',by rw[lp790_2];simp -implicitDefEqProofs [h1,h3,w1,g1,g2,ih,-iaddr_map]⟩
  ·obtain⟨a',b',ih⟩:=ih a b
   exact⟨a',b',by rw[lp790_2];simp -implicitDefEqProofs [h1,h3,w1,g1,g2,ih,-iaddr_map]⟩
theorem loop790_1(n m w:Nat)(t u:Tag)(hw:w≤128)(v6 v10:V)(b1 b2 b3:Blk): ∀(j k:Nat),k+j=w→∀(c:Bool),∃c',(orc vp).loop 0 [0,6,8,9,10,13,14,15] L790_1 [(0,opAnd),(6,v6),(8,.sl 1 ((bitsL n w).map bv) t),(9,.sl 1 ((bitsL m w).map bv) u),(10,v10),(13,.gsl 3 k 1 0 k),(14,.bool c),(15,.int .i64 k)] [b1,b2,b3,.arr ((bitsL (n&&&m) k).map bv)]=
 some (.brk 2,[(0,opAnd),(6,v6),(8,.sl 1 ((bitsL n w).map bv) t),(9,.sl 1 ((bitsL m w).map bv) u),(10,v10),(13,.gsl 3 w 1 0 w),(14,.bool c'),(15,.int .i64 w),(78,.bool false)],[b1,b2,b3,.arr ((bitsL (n&&&m) w).map bv)]):=by
 intro j
 induction j with
 |zero=>
  intro k hk c
  obtain rfl:k=w:=by omega
  refine⟨c,?_⟩
  rw[lp790_1]
  simp -implicitDefEqProofs [l790_1]
 |succ j ih=>
  intro k hk c
  have h1:(k:Int)<w:=by omega
  have h3:k<w:=by omega
  have w1:IntKind.i64.wrap ((k:Int)+1)=(k:Int)+1:=wrap64 (by omega) (by omega)
  have ih:=ih (k+1) (by omega)
  have p1:((k+1:Nat):Int)=(k:Int)+1:=by omega
  rw[p1]at ih
  have g1:iaddrV 1 (.sl 1 ((bitsL n w).map bv) t) (.int .i64 k)=some (.eptr (.bool (n.testBit k)) 0 t):=by
   rw[iaddr_map,getI_nat,bitsL_get n h3];rfl
  have g2:iaddrV 1 (.sl 1 ((bitsL m w).map bv) u) (.int .i64 k)=some (.eptr (.bool (m.testBit k)) 0 u):=by
   rw[iaddr_map,getI_nat,bitsL_get m h3];rfl
  have ha: ∀x,(n&&&m).testBit k=x→appV 0 [b1,b2,b3,.arr ((bitsL (n&&&m) k).map bv)] 1 1 (.gsl 3 k 1 0 k) [.bool x]=some (.gsl 3 (k+1) 1 0 (k+1),[b1,b2,b3,.arr ((bitsL (n&&&m) (k+1)).map bv)]):=fun x hx=>by
   rw[appV_at (es:=(bitsL (n&&&m) k).map bv) (by simp) (by simp) (by omega) rfl (by simp[roomB];omega)]
   rw[bitsL_succ,List.map_append,hx];rfl
  have hx:=Nat.testBit_and n m k
  have e1:IntKind.i64.wrap (1:Int)=1:=by decide
  have e2:IntKind.i64.wrap (2:Int)=2:=by decide
  have e3:IntKind.i64.wrap (3:Int)=3:=by decide
  have r0:binV .rem (.int .i64 0) (.int .i64 2)=some (.int .i64 0):=rfl
  have r1:binV .rem (.int .i64 1) (.int .i64 2)=some (.int .i64 1):=rfl
  have r2:binV .rem (.int .i64 2) (.int .i64 2)=some (.int .i64 0):=rfl
  have r3:binV .rem (.int .i64 3) (.int .i64 2)=some (.int .i64 1):=rfl
  cases c1:n.testBit k<;>cases c2:m.testBit k<;>rw[c1,c2]at hx<;>rw[c1]at g1<;>rw[c2]at g2<;>have ha:=ha _ hx<;>simp only[Bool.and_true,Bool.true_and,Bool.and_false,Bool.false_and]at ha<;>cases c
  all_goals
   first
    |(obtain⟨c',ih⟩:=ih false
      refine⟨c',?_⟩
      rw[lp790_1]
      simp -implicitDefEqProofs [opAnd]at ih
      simp -implicitDefEqProofs [opAnd,h1,h3,w1,g1,g2,e1,e2,e3,r0,r1,r2,r3,buildSl_eq,listOf_sl,ha,ih,-iaddr_map]
      done)
    |(obtain⟨c',ih⟩:=ih true
      refine⟨c',?_⟩
      rw[lp790_1]
      simp -implicitDefEqProofs [opAnd]at ih
      simp -implicitDefEqProofs [opAnd,h1,h3,w1,g1,g2,e1,e2,e3,r0,r1,r2,r3,buildSl_eq,listOf_sl,ha,ih,-iaddr_map]
      done)
theorem loop790_0(v6 v10 v14:V)(w:Nat)(hw:w≤128)(H:Heap)(B:Nat): ∀(j k:Nat),k+j=w→(orc vp).loop 0 [0,6,10,13,14,20] L790_0 [(0,opAnd),(6,v6),(10,v10),(13,.gsl B w 1 0 w),(14,v14),(20,.int .i64 k)] H=
 some (.brk 4,[(0,opAnd),(6,v6),(10,v10),(13,.gsl B w 1 0 w),(14,v14),(20,.int .i64 w),(135,.bool false)],H):=by
 intro j
 induction j with
 |zero=>
  intro k hk
  obtain rfl:k=w:=by omega
  rw[lp790_0]
  simp -implicitDefEqProofs [l790_0]
 |succ j ih=>
  intro k hk
  have h1:(k:Int)<w:=by omega
  have h3:k<w:=by omega
  have w1:IntKind.i64.wrap ((k:Int)+1)=(k:Int)+1:=wrap64 (by omega) (by omega)
  have ih:=ih (k+1) (by omega)
  have p1:((k+1:Nat):Int)=(k:Int)+1:=by omega
  rw[p1]at ih
  rw[lp790_0]
  simp -implicitDefEqProofs [opAnd]at ih
  simp -implicitDefEqProofs [opAnd,h1,h3,w1,ih]
theorem and_lt{n m w:Nat}(h:n<2^w):n&&&m<2^w:=Nat.lt_of_le_of_lt Nat.and_le_left h
set_option maxHeartbeats 1000000 in
theorem two790_and(x y:Vec):callRO vp 790 [opAnd,x.v,y.v]=some (.tup [(andV x y).1.v,.int .i64 (andV x y).2]):=by
 have m1:=may785 x
 have m2:=may785 y
 rw[callRO_K fn790]
 by_cases g1:x.good=true
 ·by_cases g2:y.good=true
  ·by_cases g3:x.W.n=y.W.n
   ·have g1':=g1
    have g2':=g2
    simp only[Vec.good,Bool.and_eq_true,decide_eq_true_eq]at g1' g2'
    have b1:=bits783 x g1
    have b2:=bits783 y g2
    rw[←g3]at b2
    generalize hw:x.W.n.toNat=w at*
    have hW:x.W.n=w:=by omega
    have hw2:y.W.n.toNat=w:=by rw[←g3];exact hw
    rw[hw2]at g2'
    obtain⟨a',b',l2⟩:=loop790_2 x.n y.n w .perm .perm (by omega) opAnd (.ptr 2 1 0 0) [.arr [x.v],.arr [y.v],.arr [Vec.z.v]] w 0 (by omega) false true
    obtain⟨c',l1⟩:=loop790_1 x.n y.n w .perm .perm (by omega) (.ptr 2 1 0 0) (.bool a') (.arr [x.v]) (.arr [y.v]) (.arr [Vec.z.v]) w 0 (by omega) false
    have l0:=loop790_0 (.ptr 2 1 0 0) (.bool a') (.bool c') w (by omega) [.arr [x.v],.arr [y.v],.arr [Vec.z.v],.arr ((bitsL (x.n&&&y.n) w).map bv)] 3 w 0 (by omega)
    have ho:=fun t=>of787 (x.n&&&y.n) w t (by omega) (and_lt g1'.2) x.W hW
    have e0:(bitsL (x.n&&&y.n) 0).map bv=[]:=rfl
    rw[e0]at l1
    simp only[Int.natCast_zero]at l2 l1 l0
    have ez:andV x y=(Vec.of x.W (x.n&&&y.n),0):=by unfold andV;rw[if_pos ⟨g1,g2⟩,if_pos g3]
    rw[ez]
    have hb:=bvs_below 0 (bitsL (x.n&&&y.n) w)
    simp -implicitDefEqProofs [opAnd]at l2 l1 l0
    simp -implicitDefEqProofs [opAnd,m1,m2,g1,g2,←g3,b1,b2,l2,l1,l0,vec0,ho]
   ·have ez:andV x y=(Vec.z,9):=by unfold andV;rw[if_pos ⟨g1,g2⟩,if_neg g3]
    rw[ez]
    simp -implicitDefEqProofs [opAnd,m1,m2,g1,g2,g3,vec0,pureOp,fillV]
  ·have ez:andV x y=(Vec.z,1):=by unfold andV;rw[if_neg (fun h=>g2 h.2)]
   rw[ez]
   simp only[Bool.not_eq_true]at g2
   simp -implicitDefEqProofs [opAnd,m1,m2,g1,g2,vec0,pureOp,fillV]
 ·have ez:andV x y=(Vec.z,1):=by unfold andV;rw[if_neg (fun h=>g1 h.1)]
  rw[ez]
  simp only[Bool.not_eq_true]at g1
  simp -implicitDefEqProofs [opAnd,m1,m2,g1,vec0,pureOp,fillV]
end Go.VE.Un
namespace Go.VE.Un
open Go.VE
def instsE(n:Int):List Inst→List (List UInt8)→Int
 |[],_=>0
 |x::r,ns=>if plainN x.Name.s=false then 4 else if 0≤idxK (keyL x.Name.s) ns 0 then 6 else if inB x.Header.n 0 (n-1)=false then 5 else if inB x.Depth.n 0 4=false then 7 else instsE n r (ns++[x.Name.s])
def instsR(n:Int):List Inst→List (List UInt8)→Option (List (List UInt8))
 |[],ns=>some ns
 |x::r,ns=>if plainN x.Name.s=false then none else if 0≤idxK (keyL x.Name.s) ns 0 then none else if inB x.Header.n 0 (n-1)=false then none else if inB x.Depth.n 0 4=false then none else instsR n r (ns++[x.Name.s])
theorem instsR_E(n:Int): ∀(r:List Inst) (ns:List (List UInt8)) {ns':List (List UInt8)},instsR n r ns=some ns'→instsE n r ns=0
 |[],ns,ns',e=>rfl
 |f::r,ns,ns',e=>by
  simp only[instsR]at e
  split at e
  ·simp at e
  ·rename_i h1
   split at e
   ·simp at e
   ·rename_i h2
    split at e
    ·simp at e
    ·rename_i h3
     split at e
     ·simp at e
     ·rename_i h4
      simp only[instsE];rw[if_neg h1,if_neg h2,if_neg h3,if_neg h4];exact instsR_E n r _ e
theorem loop640(hs:GL Header)(l:GL Inst)(hl:l.l.length≤16)(hb: ∀f∈l.l,f.Name.s.length≤35184372088831): ∀(r:List Inst) (k:Int) (ns:List (List UInt8)),0≤k→k≤l.l.length→l.l.drop k.toNat=r→ns.length=k.toNat→(∀s∈ns,s.length≤35184372088831)→∃hh,(orc vp).loop 0 [0,1,5,11,12,13] L640_0 [(0,GL.v 6 Header.v hs),(1,GL.v 3 Inst.v l),(5,.gsl 0 ns.length 1 0 ns.length),(11,GL.v 3 Inst.v l),(12,.int .i64 l.l.length),(13,.int .i64 k)] [.arr (ns.map .str)]=
 (match instsR hs.l.length r ns with
  |some ns=>some (.brk 0,[(0,GL.v 6 Header.v hs),(1,GL.v 3 Inst.v l),(5,.gsl 0 ns.length 1 0 ns.length),(11,GL.v 3 Inst.v l),(12,.int .i64 l.l.length),(13,.int .i64 l.l.length),(14,.bool false)],hh)
  |none=>some (.ret,[(4,.int .i64 (instsE hs.l.length r ns))],hh)):=by
 have hle:=hs.le
 have w0:IntKind.i64.wrap (hs.l.length-1)=hs.l.length-1:=wrap64 (by omega) (by omega)
 intro r
 induction r with
 |nil=>
  intro k ns hk hkl hd hn hs
  have hle:=drop_nil hk hd
  have hlt: ¬k<l.l.length:=by omega
  have he:k=l.l.length:=by omega
  refine⟨[.arr (ns.map .str)],?_⟩
  rw[lp640_0]
  simp -implicitDefEqProofs [hlt,instsR,he]
 |cons x r ih=>
  intro k ns hk hkl hd hn hns
  obtain⟨hg,hlt,hd'⟩:=drop_cons hk hd
  have hx:=hb x (List.mem_of_getElem? (by rw[getI,if_pos hk]at hg;exact hg))
  have hx':x.Name.s.length≤140737488355328:=by omega
  have hnl:ns.length≤140737488355328:=by omega
  have hi5:=index558 ns x.Name.s .brw hnl hns hx
  by_cases hp:plainN x.Name.s=true
  ·by_cases hi:0≤idxK (keyL x.Name.s) ns 0
   ·refine⟨[.arr (ns.map .str),.arr [x.v]],?_⟩
    rw[lp640_0]
    simp -implicitDefEqProofs [hlt,hg,hp,hi,hx,hx',strs_view,instsR,instsE,strs_below,hi5]
   ·by_cases hw:(decide (0≤x.Header.n)&&decide (x.Header.n≤(hs.l.length:Int)-1))=true
    ·by_cases hz:(decide (0≤x.Depth.n)&&decide (x.Depth.n≤4))=true
     ·have w1:IntKind.i64.wrap (k+1)=k+1:=wrap64 (by omega) (by omega)
      obtain⟨hh,ih⟩:=ih (k+1) (ns++[x.Name.s]) (by omega) (by omega) hd' (by simp;omega) (by
       intro s h;simp only[List.mem_append,List.mem_singleton]at h
       rcases h with h|rfl
       ·exact hns s h
       ·exact hx)
      refine⟨hh,?_⟩
      rw[lp640_0]
      have ha:=appV_0 (lo:=0) (z:=1) (bytes:=16) (es:=ns.map V.str) (ns:=[.str x.Name.s]) (h:=[.arr [x.v]]) (by omega) rfl (by simp[roomB];omega)
      simp only[List.length_map]at ha
      simp -implicitDefEqProofs [hlt,hg,hp,hi,hw,hz,w0,hx,hx',strs_view,instsR,instsE,inB,strs_below,hi5,w1,ha,listOf_sl,buildSl_eq,gc_app (es:=ns.map V.str) (b:=.arr [x.v]) vpgc (belowL_app (strs_below 1 ns) (by simp :belowL 1 [V.str x.Name.s]=true))]
      simpa using ih
     ·refine⟨[.arr (ns.map .str),.arr [x.v]],?_⟩
      rw[lp640_0]
      simp only[Bool.not_eq_true]at hz
      simp -implicitDefEqProofs [hlt,hg,hp,hi,hw,hz,w0,hx,hx',strs_view,instsR,instsE,inB,strs_below,hi5]
    ·refine⟨[.arr (ns.map .str),.arr [x.v]],?_⟩
     rw[lp640_0]
     simp only[Bool.not_eq_true]at hw
     simp -implicitDefEqProofs [hlt,hg,hp,hi,hw,w0,hx,hx',strs_view,instsR,instsE,inB,strs_below,hi5]
  ·refine⟨[.arr (ns.map .str),.arr [x.v]],?_⟩
   rw[lp640_0]
   simp -implicitDefEqProofs [hlt,hg,hp,hx',instsR,instsE]
def mayI(n:Int)(l:List Inst):Int:=if 16<l.length then 2 else if instsE n l []≠0 then instsE n l []else if 32<slotsN l then 8 else 0
theorem instsE_n(n:Int): ∀(r:List Inst) (ns:List (List UInt8)),instsR n r ns=none→instsE n r ns≠0
 |[],ns,e=>by simp[instsR]at e
 |f::r,ns,e=>by
  simp only[instsR]at e
  simp only[instsE]
  split
  ·decide
  ·rename_i h1;rw[if_neg h1]at e
   split
   ·decide
   ·rename_i h1;rw[if_neg h1]at e
    split
    ·decide
    ·rename_i h1;rw[if_neg h1]at e
     split
     ·decide
     ·rename_i h1;rw[if_neg h1]at e
      exact instsE_n n r _ e
@[simp] theorem insts640(hs:GL Header)(l:GL Inst)(hb:l.l.length≤16→∀f∈l.l,f.Name.s.length≤35184372088831):callRO vp 640 [GL.v 6 Header.v hs,GL.v 3 Inst.v l]=some (.int .i64 (mayI hs.l.length l.l)):=by
  have hle:=l.le
  rw[callRO_K fn640]
  by_cases h1:16<l.l.length
  ·have h1':(16:Int)<l.l.length:=by omega
   simp -implicitDefEqProofs [h1,h1',mayI]
  ·have h1': ¬(16:Int)<l.l.length:=by omega
   obtain⟨hh,h⟩:=loop640 hs l (by omega) (hb (by omega)) l.l 0 [] (by omega) (by omega) rfl rfl (by simp)
   cases hr:instsR hs.l.length l.l []with
   |none=>
    rw[hr]at h
    have he:=instsE_n _ _ _ hr
    simp -implicitDefEqProofs [h1,h1']at h⊢
    simp -implicitDefEqProofs [h,mayI,h1,he]
   |some ns=>
    rw[hr]at h
    have he:=instsR_E _ _ _ hr
    simp -implicitDefEqProofs [h1,h1']at h⊢
    by_cases h2:32<slotsN l.l
    ·simp -implicitDefEqProofs [h,mayI,h1,he,h2]
    ·simp -implicitDefEqProofs [h,mayI,h1,he,h2]
def bitsN:List Field→Int
 |[]=>0
 |f::r=>f.W.n+bitsN r
theorem bitsN_bd: ∀(r:List Field),(∀f∈r,1≤f.W.n∧f.W.n≤128)→0≤bitsN r∧bitsN r≤128*r.length
 |[],_=>by simp[bitsN]
 |f::r,h=>by
  have h1:=h f List.mem_cons_self
  have h2:=bitsN_bd r (fun g hg=>h g (List.mem_cons_of_mem _ hg))
  simp only[bitsN,List.length_cons];omega
theorem loop647(h:Header)(n:Int)(hn:n≤h.Fields.l.length)(hl:h.Fields.l.length≤16)(hw: ∀f∈h.Fields.l,1≤f.W.n∧f.W.n≤128): ∀(j:Nat) (k sum:Int),0≤k→k+j=n→0≤sum→sum≤128*k→(orc vp).loop 0 [2,6,8,9] L647_0 [(2,.ptr 0 1 0 0),(6,.int .i64 sum),(8,.int .i64 n),(9,.int .i64 k)] [.arr [h.v]]=
 some (.brk 0,[(2,.ptr 0 1 0 0),(6,.int .i64 (sum+bitsN ((h.Fields.l.drop k.toNat).take j))),(8,.int .i64 n),(9,.int .i64 n),(10,.bool false)],[.arr [h.v]]):=by
 intro j
 induction j with
 |zero=>
  intro k sum hk hkn h0 h1
  have hlt: ¬k<n:=by omega
  have he:k=n:=by omega
  rw[lp647_0]
  simp -implicitDefEqProofs [hlt,bitsN,he]
 |succ j ih=>
  intro k sum hk hkn h0 h1
  have hlt:k<n:=by omega
  have hk':k.toNat<h.Fields.l.length:=by omega
  have hg:getI h.Fields.l k=some h.Fields.l[k.toNat]:=by simp[getI,hk,hk']
  have hd:h.Fields.l.drop k.toNat=h.Fields.l[k.toNat]::h.Fields.l.drop (k+1).toNat:=by
   rw[show(k+1).toNat=k.toNat+1 by omega];exact List.drop_eq_getElem_cons hk'
  have hx:=hw _ (List.getElem_mem hk')
  have w1:IntKind.i64.wrap (k+1)=k+1:=wrap64 (by omega) (by omega)
  have w2:IntKind.i64.wrap (sum+h.Fields.l[k.toNat].W.n)=sum+h.Fields.l[k.toNat].W.n:=wrap64 (by omega) (by omega)
  rw[lp647_0]
  rw[hd,List.take_succ_cons,bitsN]
  simp -implicitDefEqProofs [hlt,hg,w1,w2,ih (k+1) (sum+h.Fields.l[k.toNat].W.n) (by omega) (by omega) (by omega) (by omega),Int.add_assoc]
theorem ahead647(h:Header)(n:Int)(h0:0≤n)(hn:n≤h.Fields.l.length)(hl:h.Fields.l.length≤16)(hw: ∀f∈h.Fields.l,1≤f.W.n∧f.W.n≤128):
 callRO vp 647 [h.v,.int .i64 n]=some (.tup [.int .i64 (bitsN (h.Fields.l.take n.toNat)),.bool true]):=by
 have hlp:=loop647 h n hn hl hw n.toNat 0 0 (by omega) (by omega) (by omega) (by omega)
 simp only[Int.toNat_zero,List.drop_zero,Int.zero_add]at hlp
 rw[callRO_K fn647]
 simp -implicitDefEqProofs [hlp]
theorem fieldsE_W: ∀(l:List Field) (ns:List (List UInt8)) (sum:Int),fieldsE l ns sum=0→∀f∈l,1≤f.W.n∧f.W.n≤128
 |[],_,_,_,f,hf=>by simp at hf
 |x::r,ns,sum,e,f,hf=>by
  simp only[fieldsE]at e
  split at e
  ·simp at e
  ·split at e
   ·simp at e
   ·split at e
    ·rename_i h3
     rcases List.mem_cons.1 hf with rfl|hf
     ·exact h3
     ·exact fieldsE_W r _ _ e f hf
    ·simp at e
theorem mayH_0{h:Header}(e:mayH h=0):plainN h.Name.s=true∧0<h.Fields.l.length∧h.Fields.l.length≤16∧fieldsE h.Fields.l [] 0=0∧variesB h=true:=by
 unfold mayH at e
 split at e
 ·simp at e
 ·rename_i h1
  split at e
  ·simp at e
  ·rename_i h2
   split at e
   ·simp at e
   ·rename_i h3
    split at e
    ·rename_i h4;exact absurd e h4
    ·rename_i h4
     split at e
     ·simp at e
     ·rename_i h5
      simp at h1 h5 h4
      exact⟨h1,by omega,by omega,h4,h5⟩
def offB(h:Header)(f:Int):Option Int:=if mayH h=0∧0≤f∧f<h.Fields.l.length then some (bitsN (h.Fields.l.take f.toNat))else none
@[simp] theorem offset644(h:Header)(f:Int)(hb:h.Fields.l.length≤16→∀f∈h.Fields.l,f.Name.s.length≤35184372088831):callRO vp 644 [h.v,.int .i64 f]=some (.tup [.int .i64 ((offB h f).getD 0),.bool (offB h f).isSome]):=by
  have hle:=h.Fields.le
  have w:IntKind.i64.wrap (h.Fields.l.length-1)=h.Fields.l.length-1:=wrap64 (by omega) (by omega)
  have hm:=may641 h hb
  rw[callRO_K fn644]
  by_cases h0:mayH h=0
  ·by_cases h1:(decide (0≤f)&&decide (f≤(h.Fields.l.length:Int)-1))=true
   ·have h2:0≤f∧f<h.Fields.l.length:=by simp at h1;omega
    obtain⟨_,g1,g2,g3,_⟩:=mayH_0 h0
    have ha:=ahead647 h f h2.1 (by omega) g2 (fieldsE_W _ _ _ g3)
    have ho:offB h f=some (bitsN (h.Fields.l.take f.toNat)):=by unfold offB;rw[if_pos ⟨h0,h2⟩]
    simp -implicitDefEqProofs [hm,h0,h1,w,ha,ho]
   ·have ho:offB h f=none:=by
     unfold offB;rw[if_neg];simp at h1;intro⟨_,a,b⟩;omega
    simp only[Bool.not_eq_true]at h1
    simp -implicitDefEqProofs [hm,h0,h1,w,ho]
  ·have ho:offB h f=none:=by unfold offB;rw[if_neg (fun a=>h0 a.1)]
   simp -implicitDefEqProofs [hm,h0,ho]
end Go.VE.Un
