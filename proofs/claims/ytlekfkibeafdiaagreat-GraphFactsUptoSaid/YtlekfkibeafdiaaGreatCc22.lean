/- Joined texts: GrT, GrL, CfM, GrN, GrO, PtP, PtT, GrU. No condition: what each theorem needs stands in it. -/
import Derived.Test.YtlekfkibeafdiaaGreatCc21
import Derived.Test.YtlekfkibeafdiaaGreatCc20
import Derived.Test.YtlekfkibeafdiaaGreatCc17
import Derived.Test.YtlekfkibeafdiaaGreatCc18
import Derived.Test.YtlekfkibeafdiaaGreatCc16
namespace Go.VE.Un
open Go.VE
theorem ZLK{m:Zb}(hc:Yr m=none): ∀(A:List Sl),(∀i:Nat,Xv (A.getD i 0) (ZEx m))→ZLl A≤32*A.length
 |[],_=>by simp[ZLl]
 |a::A,h=>by
  have h1:=ZLK hc A fun i=>by simpa using h (i+1)
  have h2:=ZL9 hc (by simpa using h 0:Xv a (ZEx m))
  simp only[ZLl,List.map_cons,List.sum_cons,List.length_cons]at h1⊢
  omega
theorem ZLp(n i:Nat):(ZDX n).getD i (false,0)=if i=0∧0<n then(true,0)else(false,0):=by
 unfold ZDX
 rw[List.getD_eq_getElem?_getD,List.getElem?_set]
 by_cases h:0=i
 ·subst h
  by_cases hn:0<n
  ·simp[hn]
  ·simp[hn]
 ·rw[if_neg h,if_neg (by omega),List.getElem?_replicate]
  split<;>rfl
theorem ZL4(n k:Nat):(List.replicate n (0:Sl)).getD k 0=0:=by
 rw[List.getD_eq_getElem?_getD,List.getElem?_replicate];split<;>rfl
section
variable (m : Zb) (hc : Yr m = none) (n : Nat) (hn : m.States.l.length = n) (h0 : 0 < n) (hg : ∀ i x, Zh m.States.l i = some x → ZDI m x) (F : List (Bool × Sl)) (hspr : SpR m.States.l (ZDX n) F) (hfix : ∀ (k : Nat) x, m.States.l[k]? = some x → ZHu F k x)
include hc hn h0 hg hspr hfix in
theorem ZLy: ∀i,(ZKn m).getD i 0=(F.getD i (false,0)).2:=by
 obtain⟨r0,r1⟩:=ZKU m n hn h0 hg
 have hseen:=ZKZ m n hn h0 hg F hspr hfix
 have hF0:=ZHe hspr (ZGQ h0)
 have hext: ∀(k:Nat) x,m.States.l[k]? =some x→∀y∈x.Exts.l,WY m y=0:=fun k x hx=>ZD2 (hg (k:Int) x (by simp[Zh,hx])).ext
 have hBl:=ZKo m
 rw[hn]at hBl
 generalize hB:ZKh m=B at*
 generalize hA0:ZKq B (ZEx m) (n-1) 1 (List.replicate n 0)=A0
 have e:ZKn m=rep (ZKu B m.States.l 0) (40*n) A0:=by unfold ZKn;rw[hB,ZLx,hn,hA0]
 have l0:A0.length=n:=by rw[←hA0,ZKG];simp
 have g0: ∀k,A0.getD k 0=if 1≤k∧k<n∧B.getD k false=true then ZEx m else 0:=fun k=>by
  rw[←hA0,ZLq,ZL4]
  by_cases c:1≤k∧k<n∧B.getD k false=true
  ·rw[if_pos c,if_pos ⟨c.1,by omega,by simp;omega,c.2.2⟩]
  ·rw[if_neg c,if_neg fun d=>c ⟨d.1,by omega,d.2.2.2⟩]
 have sF: ∀i,Xv (F.getD i (false,0)).2 (ZEx m):=by
  refine ZK1 (Q:=fun P=> ∀i:Nat,Xv (P.getD i (false,0)).2 (ZEx m)) m.States.l (fun k x P s t hx hP hk ht t0 P' hP' i=> ?_) hspr (fun i=> ?_)
  ·rw[ZKY]
   split
   ·have ho:=ZKr hc x.Exts.l (hext k x hx) (by have:=hP k;rw[hk]at this;exact this)
    unfold Js
    split
    ·exact(Xv.andr _ _).trans ho
    ·exact ho
   ·exact hP' i
  ·have:((ZDX n).getD i (false,0)).2=0:=by
    unfold ZDX
    rw[List.getD_eq_getElem?_getD,List.getElem?_set]
    split
    ·split<;>rfl
    ·rw[List.getElem?_replicate];split<;>rfl
   rw[this];exact sub_zero _
 have zF: ∀i,(F.getD i (false,0)).1=false→(F.getD i (false,0)).2=0:=by
  refine ZK1 (Q:=fun P=> ∀i:Nat,(P.getD i (false,0)).1=false→(P.getD i (false,0)).2=0) m.States.l (fun k x P s t hx hP hk ht t0 P' hP' i hi=> ?_) hspr (fun i hi=> ?_)
  ·rw[ZKY]at hi⊢
   split at hi
   ·rw[ZMe]at hi;simp at hi
   ·rename_i c;rw[if_neg c];exact hP' i hi
  ·unfold ZDX
   rw[List.getD_eq_getElem?_getD,List.getElem?_set]
   split
   ·split<;>rfl
   ·rw[List.getElem?_replicate];split<;>rfl
 have hfixA:ZKu B m.States.l 0 (ZKn m)=ZKn m:=by
  rw[e]
  refine ZLh (μ:=ZLl) (I:=fun A=>A.length=n∧∀i:Nat,Xv (A.getD i 0) (ZEx m)) (fun A hA=>⟨by rw[ZKV];exact hA.1,fun i=>((ZKI B m.States.l 0 A).2 i).trans (hA.2 i)⟩) (fun A hA=> ?_) (40*n) A0 ?_ ?_
  ·obtain⟨c1,c2⟩:=LeA.pop (ZKI B m.States.l 0 A)
   by_cases h:ZLl (ZKu B m.States.l 0 A)=ZLl A
   ·exact .inl (c2 h)
   ·right;omega
  ·refine⟨l0,fun i=> ?_⟩
   rw[g0];split
   ·exact .refl _
   ·exact sub_zero _
  ·have:=ZLK hc A0 (fun i=>by
    rw[g0];split
    ·exact .refl _
    ·exact sub_zero _)
   omega
 have hdown:LeA (ZKn m) A0:=by
  rw[e]
  exact ZKX (I:=fun A=>LeA A A0) (fun A hA=>(ZKI B m.States.l 0 A).trans hA) (40*n) A0 (.refl _)
 have low: ∀i,Xv (F.getD i (false,0)).2 ((ZKn m).getD i 0):=by
  rw[e]
  have stepK: ∀(k:Nat) x,m.States.l[k]? =some x→B.getD k false=true→∀(l:List Int) (A:List Sl),(∀t∈l,t∈ZGb x)→(∀i:Nat,Xv (F.getD i (false,0)).2 (A.getD i 0))→∀i:Nat,Xv (F.getD i (false,0)).2 ((ZKx x k l A).getD i 0):=by
   intro k x hx hb l
   induction l with
   |nil=>intro A _ hA;exact hA
   |cons t r ih=>
    intro A hl hA
    simp only[ZKx]
    refine ih _ (fun u hu=>hl u (List.mem_cons_of_mem _ hu)) ?_
    split
    ·rename_i t0
     intro i
     rw[ZK0]
     split
     ·rename_i c
      rw[c.1]
      obtain⟨_,f2⟩:=ZHh (hfix k x hx (by rw[hseen];exact hb) t (hl t List.mem_cons_self) t0)
      intro j hj
      rw[BitVec.getLsbD_and,Bool.and_eq_true]
      exact⟨hA _ j hj,ZGe x.Exts.l (hA k) j (f2 j hj)⟩
     ·exact hA i
    ·exact hA
  have stepS: ∀(l:List ZJ) (i:Nat) (A:List Sl),m.States.l.drop i=l→(∀i:Nat,Xv (F.getD i (false,0)).2 (A.getD i 0))→∀j:Nat,Xv (F.getD j (false,0)).2 ((ZKu B l i A).getD j 0):=by
   intro l
   induction l with
   |nil=>intro i A _ hA;exact hA
   |cons x r ih=>
    intro i A hd hA
    have hx:m.States.l[i]? =some x:=by
     have:=congrArg (fun q=>q[0]?) hd
     simpa using this
    simp only[ZKu]
    refine ih (i+1) _ (by have:=congrArg (List.drop 1) hd;simpa using this) ?_
    split
    ·rename_i hb;exact stepK i x hx hb (ZGc x) A (fun t ht=>ZKz.1 ht) hA
    ·exact hA
  refine ZKX (I:=fun A=> ∀i:Nat,Xv (F.getD i (false,0)).2 (A.getD i 0)) (fun A hA=>stepS m.States.l 0 A rfl hA) (40*n) A0 fun i=> ?_
  rw[g0]
  split
  ·exact sF i
  ·rename_i c
   cases hs:(F.getD i (false,0)).1 with
   |false=>rw[zF i hs];exact sub_zero _
   |true=>
    have hb:B.getD i false=true:=by rw[←hseen];exact hs
    have hi:i=0:=by
     rcases Nat.eq_zero_or_pos i with h|h
     ·exact h
     ·exfalso
      refine c ⟨h,?_,hb⟩
      rcases Nat.lt_or_ge i n with h2|h2
      ·exact h2
      ·rw[List.getD_eq_getElem?_getD,List.getElem?_eq_none (by omega)]at hb;simp at hb
    rw[hi,hF0];exact sub_zero _
 have hclosed: ∀(k:Nat) x,m.States.l[k]? =some x→B.getD k false=true→∀t∈ZGb x,0≤t→Xv ((ZKn m).getD t.toNat 0) (ZDw x.Exts.l ((ZKn m).getD k 0)):=fun k x hx hb t ht t0=>by
  have:=ZLg B m.States.l 0 _ hfixA k x hx (by rwa[Nat.zero_add])
  rw[Nat.zero_add]at this
  exact ZLj x k (ZGc x) _ this t (ZKz.2 ht) t0
 have A00:Xv ((ZKn m).getD 0 0) 0:=by
  have:=hdown.2 0
  rw[g0,if_neg (by omega)]at this
  exact this
 have up: ∀i,(F.getD i (false,0)).1=true→Xv ((ZKn m).getD i 0) (F.getD i (false,0)).2:=by
  refine fun j0 hj0=>(ZK1 (Q:=fun P=>(∀i:Nat,(P.getD i (false,0)).1=true→B.getD i false=true∧Xv ((ZKn m).getD i 0) (P.getD i (false,0)).2)) m.States.l (fun k x P s t hx hP hk ht t0 P' hP' i hi=> ?_) hspr (fun i hi=> ?_) j0 hj0).2
  ·rw[ZKY]at hi⊢
   split
   ·rename_i c
    obtain⟨b1,b2⟩:=hP k (by rw[hk])
    rw[hk]at b2
    have ho:=(hclosed k x hx b1 t ht t0).trans (ZGe x.Exts.l b2)
    rw[c.1]
    refine⟨r1 k x hx b1 t ht t0,?_⟩
    unfold Js
    split
    ·rename_i h1
     intro j hj
     show BitVec.getLsbD (_&&&_) j=true
     rw[BitVec.getLsbD_and,Bool.and_eq_true]
     exact⟨(hP' _ h1).2 j hj,ho j hj⟩
    ·exact ho
   ·rename_i c
    rw[if_neg c]at hi
    exact hP' i hi
  ·rw[ZLp]at hi⊢
   split at hi
   ·rename_i c
    rw[if_pos c,c.1]
    exact⟨r0,A00⟩
   ·simp at hi
 intro i
 cases hs:(F.getD i (false,0)).1 with
 |true=>exact Xv.anti (up i hs) (low i)
 |false=>
  rw[zF i hs]
  refine Xv.anti ?_ (sub_zero _)
  have:=hdown.2 i
  rw[g0,if_neg (by rw[←hseen,hs];simp)]at this
  exact this
end
end Go.VE.Un
namespace Go.VE.Un
open Go.VE
theorem ZFc(m:Zb)(hm:Clo m)(hT:Zdn m):Zc vp 708 [m.v]=some (.bool (Zac m)):=by
 have hc:=Zmw m hm hT
 have a1:=m.Headers.le;have a2:=m.Insts.le;have a3:=m.States.le;have a4:=m.Actions.le
 have a5:=m.Tables.le;have a6:=m.Ingress.le;have a7:=m.Egress.le
 have w1:IntKind.i64.wrap ((m.Headers.l.length:Int)+m.Insts.l.length)=(m.Headers.l.length:Int)+m.Insts.l.length:=ZK (by omega) (by omega)
 have w2:IntKind.i64.wrap ((m.Headers.l.length:Int)+m.Insts.l.length+m.States.l.length)=(m.Headers.l.length:Int)+m.Insts.l.length+m.States.l.length:=ZK (by omega) (by omega)
 have w3:IntKind.i64.wrap ((m.Headers.l.length:Int)+m.Insts.l.length+m.States.l.length+m.Actions.l.length)=(m.Headers.l.length:Int)+m.Insts.l.length+m.States.l.length+m.Actions.l.length:=ZK (by omega) (by omega)
 have w4:IntKind.i64.wrap ((m.Headers.l.length:Int)+m.Insts.l.length+m.States.l.length+m.Actions.l.length+m.Tables.l.length)=(m.Headers.l.length:Int)+m.Insts.l.length+m.States.l.length+m.Actions.l.length+m.Tables.l.length:=ZK (by omega) (by omega)
 have w5:IntKind.i64.wrap ((m.Headers.l.length:Int)+m.Insts.l.length+m.States.l.length+m.Actions.l.length+m.Tables.l.length+m.Ingress.l.length)=(m.Headers.l.length:Int)+m.Insts.l.length+m.States.l.length+m.Actions.l.length+m.Tables.l.length+m.Ingress.l.length:=ZK (by omega) (by omega)
 have w6:IntKind.i64.wrap ((m.Headers.l.length:Int)+m.Insts.l.length+m.States.l.length+m.Actions.l.length+m.Tables.l.length+m.Ingress.l.length+m.Egress.l.length)=(m.Headers.l.length:Int)+m.Insts.l.length+m.States.l.length+m.Actions.l.length+m.Tables.l.length+m.Ingress.l.length+m.Egress.l.length:=ZK (by omega) (by omega)
 rw[Za ZFZ]
 unfold Zac
 by_cases h:150<ZaS m
 ·have e: ¬ZaS m≤150:=by omega
  have h':=h
  unfold ZaS at h'
  simp -implicitDefEqProofs [f708,b708,w1,w2,w3,w4,w5,w6,h',e]
 ·have e:ZaS m≤150:=by omega
  have h':=h
  unfold ZaS at h'
  simp -implicitDefEqProofs [f708,b708,w1,w2,w3,w4,w5,w6,h',e,hc]
end Go.VE.Un
namespace Go.VE.Un
open Go.VE
end Go.VE.Un
namespace Go.VE.Un
open Go.VE
end Go.VE.Un
namespace Go.VE.Un
open Go.VE
end Go.VE.Un
namespace Go.VE
section
variable {β : Type} {O : Orc} {vp : VP} {lo : Nat} {fr : Fr} {h : Zg} {k : Fr → Zg → Option β} {d : VDt} {r : List VDt} {p : Nat} {rs : List Jf} {n a x i b c : Nat} {xl : List Nat}
end
end Go.VE
namespace Go.VE.Un
open Go.VE
def fR(a b:V)(s:Sl)(n:Int):V:=.agg (a::b::((ZjA s).map V.bool++[.int .i64 n]))
section
variable (a b x a' b' : V) (s t : Sl) (n k : Int) (B ep z o l : Nat)
@[simp] theorem ZKc:okV (fR a b s n)=true:=nr rfl
@[simp] theorem ZKd:ldc (fR a b s n) false 1 0=some a:=nr rfl
@[simp] theorem ZKf:ldc (fR a b s n) false 1 1=some b:=nr rfl
@[simp] theorem ZKa:ldc (fR a b s n) false 1 66=some (.int .i64 n):=by
  unfold fR;rw[Zv6]
  simp only[List.getElem?_cons_succ]
  rw[List.getElem?_append_right (by simp)];simp
@[simp] theorem ZKe:ldc (fR a b s n) true 64 2=some (ZaU s):=by
  unfold fR
  rw[ZqL _ _ _ (by simp)]
  simp only[List.drop_succ_cons,List.drop_zero]
  rw[List.take_left' (by simp)];rfl
@[simp] theorem ZKg:ldc (fR a b s n) true 67 0=some (fR a b s n):=QE (by simp)
theorem ZJ1(h:Vv x=true):stc (fR a b s n) 1 0 x=some (fR x b s n):=by unfold fR;rw[W9 (by simp) h];rfl
theorem ZJT(h:Vv x=true):stc (fR a b s n) 1 1 x=some (fR a x s n):=by unfold fR;rw[W9 (by simp) h];rfl
@[simp] theorem ZJ6:stc (fR a b s n) 1 0 (.gsl B ep z o l)=some (fR (.gsl B ep z o l) b s n):=ZJ1 _ _ _ _ _ rfl
@[simp] theorem ZJ8:stc (fR a b s n) 1 1 (.gsl B ep z o l)=some (fR a (.gsl B ep z o l) s n):=ZJT _ _ _ _ _ rfl
@[simp] theorem ZJ7:stc (fR a b s n) 1 66 (.int .i64 k)=some (fR a b s k):=by
  unfold fR;rw[W9 (by simp) rfl]
  simp only[List.set_cons_succ]
  rw[List.set_append_right _ _ (by simp)];simp
@[simp] theorem ZKb:stc (fR a b s n) 64 2 (ZaU t)=some (fR a b t n):=by
  unfold fR stc ZaU bsV
  simp[V.cells,okV]
@[simp] theorem ZJ9:stc (fR a b s n) 67 0 (fR a' b' t k)=some (fR a' b' t k):=Zie (by simp) (by simp)
@[simp] theorem ZJY(q:Nat):Zk q (fR a b s n)=(Zk q a&&Zk q b):=by
  have h:Zo q ((ZjA s).map V.bool++[.int .i64 n])=true:=by
   have h1:=KC q (ZjA s)
   generalize (ZjA s).map V.bool=L at h1
   induction L with
   |nil=>rfl
   |cons y r ih=>simp only[Zo,Bool.and_eq_true]at h1;simp only[List.cons_append,Zo,h1.1,ih h1.2,Bool.and_true]
  simp only[fR,Zk,Zo,h,Bool.and_true]
end
section
variable (m : Zb) (hm : Clo m) (hb : m.Insts.l.length ≤ 10000000) (hc : Yr m = none) (p : Int) (N : GL Zs) (hcl : Ze (GL.v 6 Zs.v N) = true) (n : Nat) (hn : N.l.length = n) (hn2 : n ≤ 32) (hg : ∀ i x, Zh N.l i = some x → JD m n i x) (e1 e4 t0 t1 t2 t3 t4 : List V)
include hcl hn hn2 hg in
end
section
variable (m : Zb) (hm : Clo m) (hb : m.Insts.l.length ≤ 10000000) (hc : Yr m = none) (p : Int) (N : GL Zs) (hcl : Ze (GL.v 6 Zs.v N) = true) (n : Nat) (hn : N.l.length = n) (hn2 : n ≤ 32) (hg : ∀ i x, Zh N.l i = some x → JD m n i x) (e1 e4 t0 t1 t2 t3 t4 t5 : List V)
include hcl hn hn2 hg in
end
end Go.VE.Un
namespace Go.VE.Un
open Go.VE
theorem ZJn(p n a e:Int):Zc vp 1028 [.iface 149 (.eptr (wrV p n a e) 0 .perm)]=some (.tup [wrV p n a e,.bool true]):=by
 rw[Za ZJz]
 simp -implicitDefEqProofs [f1028,b1028,Zf,wrV,QU]
end Go.VE.Un
namespace Go.VE.Un
open Go.VE
def ZLd(out:Sl)(s:Bool):List Int→Bool ×Sl→Bool ×Sl
 |[],q=>q
 |t::r,q=>ZLd out s r (if t= -1∧s=true then(true,q.2&&&out)else q)
def ZLD(F:List (Bool ×Sl)):List ZJ→Nat→Bool ×Sl→Bool ×Sl
 |[],_,q=>q
 |x::r,i,q=>ZLD F r (i+1) (ZLd (ZDw x.Exts.l (F.getD i (false,0)).2) (F.getD i (false,0)).1 (ZGc x) q)
theorem ZLN(out:Sl)(s:Bool): ∀(l:List Int) (q:Bool ×Sl),ZLd out s l q=if(-1:Int)∈l∧s=true then(true,q.2&&&out)else q
 |[],q=>by simp[ZLd]
 |t::r,q=>by
  simp only[ZLd]
  rw[ZLN out s r]
  by_cases hs:s=true
  ·by_cases ht:t= -1
   ·by_cases hr:(-1:Int)∈r
    ·rw[if_pos ⟨hr,hs⟩,if_pos ⟨ht,hs⟩,if_pos ⟨by simp[hr],hs⟩]
     simp only[BitVec.and_assoc,BitVec.and_self]
    ·rw[if_neg (fun c=>hr c.1),if_pos ⟨ht,hs⟩,if_pos ⟨by simp[ht],hs⟩]
   ·rw[if_neg (fun c=>ht c.1: ¬(t= -1∧s=true))]
    have e:((-1:Int)∈t::r)↔(-1:Int)∈r:=by
     rw[List.mem_cons];constructor
     ·rintro(h|h)
      ·exact absurd h.symm ht
      ·exact h
     ·exact .inr
    simp only[e]
  ·simp[hs]
theorem ZKT{m:Zb}(hc:Yr m=none)(F:List (Bool ×Sl))(hF: ∀i:Nat,Xv (F.getD i (false,0)).2 (ZEx m)): ∀(r:List ZJ) (i:Nat) (a b:Bool ×Sl),(∀x∈r,∀y∈x.Exts.l,WY m y=0)→ctR F r i a=(none,b)→(a.1=false→a.2=ZEx m)→ZLD F r i a=b
 |[],i,a,b,_,h,_=>by simp only[ctR,Prod.mk.injEq,true_and]at h;exact h
 |x::r,i,a,b,hx,h,ha=>by
  have hr: ∀y∈r,∀z∈y.Exts.l,WY m z=0:=fun y hy=>hx y (List.mem_cons_of_mem _ hy)
  simp only[ctR]at h
  simp only[ZLD]
  rw[ZLN]
  split at h
  ·rename_i c0
   rw[c0,if_neg (by simp)]
   exact ZKT hc F hF r (i+1) a b hr h ha
  ·rename_i c0
   have c1:(F.getD i (false,0)).1=true:=by simpa using c0
   split at h
   ·simp at h
   ·simp only[ZKz,c1,and_true]
    have ho:=ZKr hc x.Exts.l (hx x List.mem_cons_self) (hF i)
    by_cases hm:(-1:Int)∈ZGb x
    ·rw[if_pos hm]at h⊢
     have e:Js a (ZDw x.Exts.l (F.getD i (false,0)).2)=(true,a.2&&&ZDw x.Exts.l (F.getD i (false,0)).2):=by
      unfold Js
      split
      ·rfl
      ·rename_i h1
       rw[ha (by simpa using h1)]
       congr 1
       refine Xv.anti (fun k hk=> ?_) (.andr _ _)
       rw[BitVec.getLsbD_and,Bool.and_eq_true]
       exact⟨ho k hk,hk⟩
     rw[e]at h
     exact ZKT hc F hF r (i+1) _ b hr h (fun h=>by simp at h)
    ·rw[if_neg hm]at h⊢
     exact ZKT hc F hF r (i+1) a b hr h ha
section
variable (m : Zb) (hm : Clo m) (hc : Yr m = none) (n : Nat) (hn : m.States.l.length = n) (hn2 : n ≤ 16) (hg : ∀ i x, Zh m.States.l i = some x → ZDI m x) (F : List (Bool × Sl)) (hF : F.length = n)
abbrev ZKK(F:List (Bool ×Sl)):List V:=F.map fun q=>ZaU q.2
theorem ZKw(k:Nat)(F:List (Bool ×Sl)):Zo k (ZKK F)=true:=Yq (f:=fun q:Bool ×Sl=>ZaU q.2) (fun q=>Zt9 k q.2) F
theorem ZLC{F:List (Bool ×Sl)}{i:Nat}(h:i<F.length)(t:Tag):Yb 1 (.sl 1 (bS F) t) (.int .i64 (i:Int))=some (.eptr (.bool (F.getD i (false,0)).1) 0 t):=by
 have:F[i]? =some (F.getD i (false,0)):=by rw[List.getD_eq_getElem?_getD,List.getElem?_eq_getElem h];rfl
 unfold bS
 rw[Y7];unfold Zh;rw[if_pos (by omega),Int.toNat_natCast,this];rfl
theorem ZMf{F:List (Bool ×Sl)}{i:Nat}(h:i<F.length)(t:Tag):Yb 1 (.sl 1 (sS F) t) (.int .i64 (i:Int))=some (.eptr (sV (F.getD i (false,0)).2) 0 t):=by
 have:F[i]? =some (F.getD i (false,0)):=by rw[List.getD_eq_getElem?_getD,List.getElem?_eq_getElem h];rfl
 unfold sS
 rw[Y7];unfold Zh;rw[if_pos (by omega),Int.toNat_natCast,this];rfl
theorem ZLe{F:List (Bool ×Sl)}{i:Nat}(h:i<F.length)(t:Tag):Yb 64 (.sl 64 (ZKK F) t) (.int .i64 (i:Int))=some (.eptr (ZaU (F.getD i (false,0)).2) 0 t):=by
 have:F[i]? =some (F.getD i (false,0)):=by rw[List.getD_eq_getElem?_getD,List.getElem?_eq_getElem h];rfl
 rw[Y7];unfold Zh;rw[if_pos (by omega),Int.toNat_natCast,this];rfl
abbrev ZKF(F:List (Bool ×Sl))(err:V)(i:Int):Fr:=[(1,.ptr 0 1 0 0),(3,.ptr 1 1 0 0),(4,err),(5,.sl 1 (bS F) .perm),(6,.sl 64 (ZKK F) .perm),(7,.int .i64 i)]
include hm hc hn hn2 hg hF in
set_option maxRecDepth 100000 in
set_option maxHeartbeats 4000000 in
theorem ZLW(hlv:Zc vp 707 []=some (.bool true))(f err:V): ∀(r:List ZJ) (i:Nat) (a:Bool ×Sl),i≤n→m.States.l.drop i=r→
 match(ctR F r i a).1 with
 |none=> ∃fr,(orc vp).loop 0 [1,3,4,5,6,7] ZKA (ZKF F err i) [.arr [m.v],.arr [f]]=some (.brk 0,(1,.ptr 0 1 0 0)::(3,.ptr 1 1 0 0)::(4,err)::(5,.sl 1 (bS F) .perm)::(6,.sl 64 (ZKK F) .perm)::fr,[.arr [m.v],.arr [f]])
 |some (p,k)=>f=fG→err=.iface 149 (.eptr (wrV 4 p k 11) 0 .perm)→∃h,(orc vp).loop 0 [1,3,4,5,6,7] ZKA (ZKF F err i) [.arr [m.v],.arr [f]]=some (.ret,[(2,.bool true)],h):=by
 intro r
 induction r with
 |nil=>
  intro i a hi hd
  have hin:i=n:=by
   have:m.States.l.length≤i:=List.drop_eq_nil_iff.1 hd
   omega
  have hlt: ¬(i:Int)<(bS F).length:=by simp[bS];omega
  refine⟨[(7,.int .i64 i),(32,.bool false)],?_⟩
  rw[ZK9]
  simp -implicitDefEqProofs [ZKE,hlt]
 |cons x r ih=>
  intro i a hi hd
  have hi2:i<n:=by
   have:i<m.States.l.length:=by
    rcases Nat.lt_or_ge i m.States.l.length with h|h
    ·exact h
    ·rw[List.drop_eq_nil_of_le h]at hd;simp at hd
   omega
  have hlt:(i:Int)<(bS F).length:=by simp[bS];omega
  have hx:m.States.l[i]? =some x:=by
   have:=congrArg (fun q=>q[0]?) hd
   simpa using this
  have hx':Zh m.States.l (i:Int)=some x:=by simp[Zh,hx]
  have hd':m.States.l.drop (i+1)=r:=by
   have:=congrArg (List.drop 1) hd
   simpa using this
  have hxc:=Xc (Zki hm) hx'
  have hgx:=hg _ _ hx'
  obtain⟨i2,hi3⟩: ∃i2,i+1=i2:=⟨_,rfl⟩
  have w1:IntKind.i64.wrap ((i:Int)+1)=(i2:Int):=by rw[ZK (by omega) (by omega)];omega
  have g1:=ZLC (F:=F) (i:=i) (by omega) .perm
  have g3:=ZLe (F:=F) (i:=i) (by omega) .perm
  have h909:=ZG4 x (fun z hz k0=>ZHy hc (ZD2 hgx.ext z hz) k0) (F.getD i (false,0)).2
  have h910:=ZHz x (ZDw x.Exts.l (F.getD i (false,0)).2) (ZHc hc hgx.keys)
  have bb: ∀k,Zo k (bS F)=true:=fun k=>Yq (fun _=>rfl) _
  have bs:=fun k=>ZKw k F
  have ih:=fun a=>ih i2 a (by omega) (by rw[←hi3];exact hd')
  simp only[ctR]
  rw[hi3]
  generalize F.getD i (false,0)=q at*
  obtain⟨q1,q2⟩:=q
  cases q1 with
  |false=>
   rw[if_pos rfl]
   have hst:(orc vp).loop 0 [1,3,4,5,6,7] ZKA (ZKF F err i) [.arr [m.v],.arr [f]]=(orc vp).loop 0 [1,3,4,5,6,7] ZKA (ZKF F err i2) [.arr [m.v],.arr [f]]:=by
    clear ih
    simp only[ZKF]
    rw[ZK9]
    generalize bS F=Q at*
    generalize ZKK F=D at*
    simp -implicitDefEqProofs [ZKE,hlt,g1,w1]
   have:=ih a
   rw[hst];exact this
  |true=>
   rw[if_neg (by simp)]
   by_cases hk:0≤JO x.Keys.l (ZDw x.Exts.l q2)
   ·rw[if_pos hk]
    intro hf he
    have hwy:=ZJn 4 (i:Int) (JO x.Keys.l (ZDw x.Exts.l q2)) 11
    have hq:eqV (some [.i,.i,.i,.i]) (wrV 4 (i:Int) (JO x.Keys.l (ZDw x.Exts.l q2)) 11) (wrV 4 (i:Int) (JO x.Keys.l (ZDw x.Exts.l q2)) 11)=some true:=by simp[wrV,eqV,Ux,eqK]
    have hwr:=fun fr=>ZEj ((66,.int .i64 (JO x.Keys.l (ZDw x.Exts.l q2)))::(65,.int .i64 (i:Int))::fr) 65 66 (i:Int) (JO x.Keys.l (ZDw x.Exts.l q2)) (by simp) (by simp)
    have hsw: ∀a b c d,stc (.agg [.int .i64 a,.int .i64 b,.int .i64 c,.int .i64 d]) 4 0 (wrV 4 (i:Int) (JO x.Keys.l (ZDw x.Exts.l q2)) 11)=some (wrV 4 (i:Int) (JO x.Keys.l (ZDw x.Exts.l q2)) 11):=fun _ _ _ _=>Zie rfl rfl
    have hlw:ldc (wrV 4 (i:Int) (JO x.Keys.l (ZDw x.Exts.l q2)) 11) true 4 0=some (wrV 4 (i:Int) (JO x.Keys.l (ZDw x.Exts.l q2)) 11):=QE rfl
    have hwb: ∀p k,Ze (.eptr (wrV 4 p k 11) 0 .perm)=true:=fun _ _=>rfl
    clear ih
    subst hf;subst he
    simp only[ZKF]
    refine⟨[.arr [m.v],.arr [fG],.arr [wrV 4 (i:Int) (JO x.Keys.l (ZDw x.Exts.l q2)) 11]],?_⟩
    ·rw[ZK9]
     generalize bS F=Q at*
     generalize ZKK F=D at*
     simp only at h909 h910 hk hwy hq hwr hsw hlw g1 g3⊢
     generalize ZDw x.Exts.l q2=o at*
     generalize JO x.Keys.l o=kk at*
     simp -implicitDefEqProofs [ZKE,hlt,g1,g3,hx',hxc,h909,h910,hk,hwy,hq,hwr,hsw,hlw,hwb,hlv]
   ·rw[if_neg hk]
    have hst:(orc vp).loop 0 [1,3,4,5,6,7] ZKA (ZKF F err i) [.arr [m.v],.arr [f]]=(orc vp).loop 0 [1,3,4,5,6,7] ZKA (ZKF F err i2) [.arr [m.v],.arr [f]]:=by
     clear ih
     simp only[ZKF]
     rw[ZK9]
     generalize bS F=Q at*
     generalize ZKK F=D at*
     simp only at h909 h910 hk g1 g3⊢
     generalize ZDw x.Exts.l q2=o at*
     generalize JO x.Keys.l o=kk at*
     simp -implicitDefEqProofs [ZKE,hlt,g1,g3,hx',hxc,h909,h910,hk,w1]
    rw[hst];exact ih _
end
end Go.VE.Un
