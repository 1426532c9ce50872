/- Joined texts: CfD, CfF, CfH, CfI, CfG, CfJ, CfK, CkQ, CkR. No condition: what each theorem needs stands in it. -/
import Derived.Test.YtlekfkibeafdiaaGreatCc14
import Derived.Test.YtlekfkibeafdiaaGreatCc10
namespace Go.VE.Un
open Go.VE
theorem ZeI{m:Zb}(h:Yr m=none)(p:Int)(h0:0≤p)(h1:p<15):(Zn m p).2=0:=ZKS h p h0 h1
theorem Za6: ∀a b:List ZE,Yp (a++b)=Yp a+Yp b
 |[],b=>by simp[Yp]
 |x::a,b=>by simp only[List.cons_append,Yp,Za6 a b];omega
theorem ZtQ{m:Zb}(h:Yr m=none):Stk m∧Yp m.Insts.l≤32:=by
 have h2:U3 m.Headers.l.length m.Insts.l=0:=by simpa[Zn]using ZeI h 2 (by omega) (by omega)
 have h3:Yp m.Insts.l≤32:=by
  unfold U3 at h2
  split at h2
  ·simp at h2
  ·split at h2
   ·rename_i h1;exact absurd h2 h1
   ·split at h2
    ·simp at h2
    ·omega
 refine⟨fun i f d hs=> ?_,h3⟩
 unfold Z8 Wi at hs
 rcases Zm m.Insts.l i with⟨x,h0,h1,hg⟩|⟨h0,hg⟩
 ·rw[hg]at hs
  simp only[Option.bind_some]at hs
  by_cases hmz:many x.Depth.n=0
  ·simp[hmz]at hs
  ·by_cases hd:x.Depth.n=0
   ·simp[hmz,hd]at hs
   ·simp[hmz,hd]at hs
    obtain⟨rfl,rfl⟩:=hs
    have hb:=ZbW (m.Insts.l.take i.toNat)
    have hc:=ZbW (m.Insts.l.drop (i.toNat+1))
    have hmd:many x.Depth.n=x.Depth.n∧0≤x.Depth.n:=by
     unfold many at hmz⊢
     split at hmz
     ·rename_i hk;rw[if_pos hk,if_neg hd];exact⟨rfl,hk.1⟩
     ·exact absurd rfl hmz
    have e:m.Insts.l=m.Insts.l.take i.toNat++x::m.Insts.l.drop (i.toNat+1):=by
     obtain⟨hi,hx⟩: ∃hi:i.toNat<m.Insts.l.length,m.Insts.l[i.toNat]=x:=by
      unfold Zh at hg;rw[if_pos h0]at hg;exact List.getElem?_eq_some_iff.1 hg
     rw[←hx,List.getElem_cons_drop,List.take_append_drop]
    have e2:=congrArg Yp e
    rw[Za6]at e2
    simp only[Yp]at e2
    omega
 ·rw[hg]at hs;simp at hs
def ZFh:Nat→Int→Sl→Sl
 |0,_,o=>o
 |j+1,i,o=>ZFh j (i+1) (VY o i)
theorem ZFC(n:Int)(hn:n≤64)(b:Blk): ∀(j:Nat) (i:Int) (o:Sl),0≤i→i≤n→(n-i).toNat=j→
 (orc vp).loop 0 [3,8,9] ZEJ [(3,sV o),(8,.int .i64 n),(9,.int .i64 i)] [b]=some (.brk 0,[(3,sV (ZFh j i o)),(8,.int .i64 n),(9,.int .i64 n),(10,.bool false)],[b]):=by
 intro j
 induction j with
 |zero=>
  intro i o h0 h1 h2
  obtain⟨hlt,e⟩: ¬i<n∧i=n:=by and_intros<;>omega
  subst e
  rw[ZEY]
  simp -implicitDefEqProofs [hlt,ZFh]
 |succ j ih=>
  intro i o h0 h1 h2
  have hlt:i<n:=by omega
  have w1:=w64 (n:=i+1) (by omega)
  have ih:=ih (i+1) (VY o i) (by omega) (by omega) (by omega)
  rw[ZEY]
  simp -implicitDefEqProofs [hlt,w1,ZFh,ih]
def ZEx(m:Zb):Sl:=ZFh (Yp m.Insts.l).toNat 0 0
theorem ZFK(m:Zb)(h:Yp m.Insts.l≤32):Zc vp 460 [m.v]=some (sV (ZEx m)):=by
 have hb:=ZbW m.Insts.l
 have hl:=ZFC (Yp m.Insts.l) (by omega) (.arr [m.v]) (Yp m.Insts.l).toNat 0 0#64 (by omega) (by omega) (by omega)
 have c: ¬64<Yp m.Insts.l:=by omega
 rw[Za ZFW]
 simp -implicitDefEqProofs [c,Zcc,hl,ZEx]
end Go.VE.Un
namespace Go.VE.Un
open Go.VE
def isS(n:Int)(k:Nat):Bool:=decide (0≤n∧n<64∧k=n.toNat)
theorem Zar(n:Int)(k:Nat):(Zbg n).getLsbD k=isS n k:=by
 unfold Zbg isS
 by_cases h:0≤n∧n<64
 ·rw[if_pos h,BitVec.getLsbD_twoPow]
  have:n.toNat<64:=by omega
  by_cases e:k=n.toNat
  ·subst e;simp[h,this]
  ·have e2: ¬n.toNat=k:=fun q=>e q.symm
   simp[e,e2]
 ·rw[if_neg h]
  simp
  omega
theorem ZbO(s:Sl)(n:Int)(k:Nat):(VY s n).getLsbD k=(s.getLsbD k||isS n k):=by
 unfold VY;rw[BitVec.getLsbD_or,Zar]
theorem ZjI(s:Sl)(n:Int)(k:Nat):(Va s n).getLsbD k=(s.getLsbD k&& !isS n k):=by
 unfold Va;rw[BitVec.getLsbD_and,BitVec.getLsbD_not,Zar]
 by_cases h:k<64
 ·simp[h]
 ·have:s.getLsbD k=false:=BitVec.getLsbD_of_ge s k (by omega)
  simp[this]
theorem ZiJ(s:Sl):(s !=0)=true↔∃k,s.getLsbD k=true:=by
 constructor
 ·intro h
  rcases Classical.em (∃k,s.getLsbD k=true)with h1|h1
  ·exact h1
  ·exfalso
   have:s=0#64:=BitVec.eq_of_getLsbD_eq fun k hk=>by
    have: ¬s.getLsbD k=true:=fun e=>h1 ⟨k,e⟩
    simpa using this
   subst this;simp at h
 ·rintro⟨k,hk⟩
  rw[bne_iff_ne]
  intro e;subst e;simp at hk
theorem Zmx(s:Sl)(n:Int):JW s n=(decide (0≤n∧n<64)&&s.getLsbD n.toNat):=by
 rw[Bool.eq_iff_iff]
 unfold JW
 rw[ZiJ]
 simp only[BitVec.getLsbD_and,Zar,Bool.and_eq_true,isS,decide_eq_true_eq]
 constructor
 ·rintro⟨k,h1,h2,h3,rfl⟩;exact⟨⟨h2,h3⟩,h1⟩
 ·rintro⟨⟨h2,h3⟩,h1⟩;exact⟨_,h1,h2,h3,rfl⟩
def Xv(a b:Sl):Prop:= ∀k,a.getLsbD k=true→b.getLsbD k=true
theorem Xv.refl(a:Sl):Xv a a:=fun _ h=>h
theorem Xv.trans{a b c:Sl}(h:Xv a b)(g:Xv b c):Xv a c:=fun k e=>g k (h k e)
theorem Xv.with{a b:Sl}(h:Xv a b)(n:Int):Xv (VY a n) (VY b n):=fun k e=>by
 rw[ZbO,Bool.or_eq_true]at e⊢
 exact e.imp (h k) id
theorem Xv.gone{a b:Sl}(h:Xv a b)(n:Int):Xv (Va a n) (Va b n):=fun k e=>by
 rw[ZjI,Bool.and_eq_true]at e⊢
 exact⟨h k e.1,e.2⟩
theorem Xv.and{a b c d:Sl}(h:Xv a b)(g:Xv c d):Xv (a&&&c) (b&&&d):=fun k e=>by
 rw[BitVec.getLsbD_and,Bool.and_eq_true]at e⊢
 exact⟨h k e.1,g k e.2⟩
theorem Xv.has{a b:Sl}(h:Xv a b){n:Int}(e:JW a n=true):JW b n=true:=by
 rw[Zmx,Bool.and_eq_true]at e⊢
 exact⟨e.1,h _ e.2⟩
theorem Xv.or(a b:Sl):Xv a (a|||b):=fun k e=>by rw[BitVec.getLsbD_or,e];rfl
theorem ZaO(f d n:Int){s t:Sl}(h:Xv s t): ∀(j:Nat) (i:Int) {o p:Sl},Xv o p→Xv (Km f d n s j i o) (Km f d n t j i p)
 |0,_,_,_,g=>g
 |j+1,i,o,p,g=>by
  simp only[Km]
  apply ZaO f d n h j
  split
  ·rename_i c
   rw[if_pos ⟨c.1,c.2.1,h.has c.2.2⟩]
   exact(g.gone _).with _
  ·split
   ·intro k e
    rw[ZbO,g.gone _ k e];rfl
   ·exact g.gone _
theorem ZaJ(m:Zb)(i n:Int){s t:Sl}(h:Xv s t):Xv (Q0 m i n s) (Q0 m i n t):=by
 unfold Q0;split
 ·exact h
 ·exact ZaO _ _ _ h _ _ h
theorem Zgm(m:Zb)(x:Ins){s t:Sl}(h:Xv s t)(e:(YY m x s).2.2=0):(YY m x t).2.2=0∧Xv (YY m x s).1 (YY m x t).1∧Xv (YY m x s).2.1 (YY m x t).2.1:=by
 unfold YY at e⊢
 by_cases c1:x.Op.n=1∨x.Op.n=22
 ·simp only[c1,if_true]at e⊢
  by_cases c:JW s x.A.n=true
  ·simp only[c,if_true,h.has c];exact⟨trivial,h,h⟩
  ·simp[c]at e
 simp only[c1,if_false]at e⊢
 by_cases c2:x.Op.n=25
 ·simp only[c2,if_true];exact⟨trivial,h.with _,.refl _⟩
 simp only[c2,if_false]
 by_cases c3:x.Op.n=26
 ·simp only[c3,if_true];exact⟨trivial,h.gone _,.refl _⟩
 simp only[c3,if_false]
 by_cases c4:x.Op.n=27
 ·simp only[c4,if_true];exact⟨trivial,ZaJ m _ _ h,.refl _⟩
 simp only[c4,if_false]
 by_cases c5:x.Op.n=28
 ·simp only[c5,if_true];exact⟨trivial,ZaJ m _ _ h,.refl _⟩
 simp only[c5,if_false]
 by_cases c6:x.Op.n=33
 ·simp only[c6,if_true];exact⟨trivial,h.with _,h.gone _⟩
 simp only[c6,if_false]
 exact⟨trivial,h,h⟩
def LeP(P Q:List (Bool ×Sl)):Prop:=P.length=Q.length∧∀i:Nat,(P.getD i (false,0)).1=(Q.getD i (false,0)).1∧Xv (P.getD i (false,0)).2 (Q.getD i (false,0)).2
theorem ZfH(P:List (Bool ×Sl))(i j:Nat)(v:Bool ×Sl):(P.set i v).getD j (false,0)=if i=j∧i<P.length then v else P.getD j (false,0):=by
 rw[List.getD_eq_getElem?_getD,List.getElem?_set]
 by_cases e:i=j
 ·subst e
  by_cases c:i<P.length
  ·simp[c]
  ·simp[c]
 ·simp[e]
theorem LeP.at{P Q:List (Bool ×Sl)}(h:LeP P Q)(i:Nat){s t:Sl}(g:Xv s t):LeP (atP P i s) (atP Q i t):=by
 refine⟨by simp[h.1],fun j=> ?_⟩
 unfold atP
 rw[ZfH,ZfH,←h.1]
 by_cases c:i=j∧i<P.length
 ·rw[if_pos c,if_pos c]
  have hi:=h.2 i
  unfold Js
  rw[←hi.1]
  split
  ·exact⟨rfl,hi.2.and g⟩
  ·exact⟨rfl,g⟩
 ·rw[if_neg c,if_neg c];exact h.2 j
end Go.VE.Un
namespace Go.VE.Un
open Go.VE
def ZjA(s:Sl):List Bool:=(List.range 64).map fun k=>s.getLsbD k
def bsV(l:List Bool):V:=.agg (l.map V.bool)
def ZaU(s:Sl):V:=bsV (ZjA s)
@[simp] theorem QK(s:Sl):(ZjA s).length=64:=by simp[ZjA]
theorem ZGd(s:Sl)(k:Nat)(h:k<64):(ZjA s)[k]? =some (s.getLsbD k):=by
 unfold ZjA;rw[List.getElem?_map,List.getElem?_range h];rfl
theorem JC(l:List Bool):Zv (l.map V.bool)=true:=by rw[YR];simp
theorem KC(k:Nat)(l:List Bool):Zo k (l.map V.bool)=true:=Yq (fun _=>rfl) l
@[simp] theorem Zgg(l:List Bool):Ze (bsV l)=true:=by simp[bsV,JC]
@[simp] theorem Zlb(k:Nat)(l:List Bool):Zk k (bsV l)=true:=by simp[bsV,KC]
@[simp] theorem ZBp(l:List Bool):okV (bsV l)=true:=nr rfl
@[simp] theorem Zq1(s:Sl):Ze (ZaU s)=true:=Zgg _
@[simp] theorem Zt9(k:Nat)(s:Sl):Zk k (ZaU s)=true:=Zlb _ _
@[simp] theorem ZA1(s:Sl):okV (ZaU s)=true:=nr rfl
theorem Zpw{l:List Bool}{n:Nat}(h:l.length=n):ldc (bsV l) true n 0=some (bsV l):=QE (by simp[h])
@[simp] theorem Zyq(s:Sl):ldc (ZaU s) true 64 0=some (ZaU s):=Zpw (QK s)
theorem ZHw(l:List Bool)(n o:Nat):ldc (bsV l) false n o=(l[o]?).map V.bool:=by simp[bsV]
theorem ZGF(s:Sl)(n o:Nat)(h:o<64):ldc (ZaU s) false n o=some (.bool (s.getLsbD o)):=by unfold ZaU;rw[ZHw,ZGd s o h];rfl
theorem ZGP{l:List Bool}{o:Nat}(h:o<l.length)(b:Bool):stc (bsV l) 1 o (.bool b)=some (bsV (l.set o b)):=by
 unfold bsV;rw[W9 (by simpa using h) rfl,List.map_set]
theorem Zin{l l':List Bool}{n:Nat}(h:l.length=n)(h':l'.length=n):stc (bsV l) n 0 (bsV l')=some (bsV l'):=Zie (by simp[h]) (by simp[h'])
@[simp] theorem ZyT{l:List Bool}(h:l.length=64)(s:Sl):stc (bsV l) 64 0 (ZaU s)=some (ZaU s):=Zin h (QK s)
@[simp] theorem Zzs(t s:Sl):stc (ZaU t) 64 0 (ZaU s)=some (ZaU s):=Zin (QK t) (QK s)
theorem ZGs{l:List Bool}{s:Sl}(hl:l.length=64)(h: ∀k,k<64→l[k]? =some (s.getLsbD k)):l=ZjA s:=by
 apply List.ext_getElem?
 intro k
 by_cases c:k<64
 ·rw[h k c,ZGd s k c]
 ·rw[List.getElem?_eq_none (by omega),List.getElem?_eq_none (by simp;omega)]
theorem ZG2:List.replicate 64 false=ZjA 0#64:=ZGs (by simp) fun k h=>by rw[List.getElem?_replicate,if_pos h];simp
theorem ZGK:V.agg (rp 64 (.bool false))=ZaU 0#64:=by unfold ZaU;rw[←ZG2];simp only[rp,bsV,List.map_replicate]
theorem ZHq{n:Int}{k:Nat}(h0:0≤n)(h1:n<64):isS n k=decide (k=n.toNat):=by unfold isS;simp[h0,h1]
theorem ZG1(s:Sl){n:Int}(h0:0≤n)(h1:n<64):(ZjA s).set n.toNat true=ZjA (VY s n):=ZGs (by simp) fun k h=>by
 rw[ZbO,ZHq h0 h1,List.getElem?_set]
 by_cases c:n.toNat=k
 ·subst c;simp;omega
 ·have: ¬k=n.toNat:=fun e=>c e.symm
  rw[if_neg c,ZGd s k h];simp[this]
theorem ZG3(s:Sl){n:Int}(h0:0≤n)(h1:n<64):stc (ZaU s) 1 n.toNat (.bool true)=some (ZaU (VY s n)):=by
 unfold ZaU;rw[ZGP (by simp;omega),ZG1 s h0 h1]
theorem ZHf(s:Sl){n:Int}(h0:0≤n)(h1:n<64):JW s n=s.getLsbD n.toNat:=by rw[Zmx];simp[h0,h1]
def ZGm:Nat→Nat→Nat→List Bool→List Bool
 |_,0,_,L=>L
 |n,j+1,i,L=>ZGm (n/2) j (i+1) (L.set i (n%2==1))
theorem ZGE: ∀(j n i:Nat) (L:List Bool),(ZGm n j i L).length=L.length
 |0,_,_,_=>rfl
 |j+1,n,i,L=>by simp[ZGm,ZGE j]
theorem ZGC: ∀(j n i:Nat) (L:List Bool) (k:Nat),i+j≤L.length→(ZGm n j i L)[k]? =if i≤k∧k<i+j then some (n.testBit (k-i))else L[k]?
 |0,n,i,L,k,h=>by simp only[ZGm];rw[if_neg (by omega)]
 |j+1,n,i,L,k,h=>by
  simp only[ZGm]
  rw[ZGC j _ _ _ k (by simp;omega)]
  by_cases c:i+1≤k∧k<i+1+j
  ·rw[if_pos c,if_pos (by omega),show k-i=(k-(i+1))+1 by omega,Nat.testBit_succ]
  ·rw[if_neg c,List.getElem?_set]
   by_cases e:i=k
   ·subst e
    rw[if_pos rfl,if_pos (by omega),if_pos (by omega)]
    congr 1
    rw[Nat.sub_self,Nat.testBit_zero]
    rw[Bool.eq_iff_iff];simp
   ·rw[if_neg e,if_neg (by omega)]
theorem ZG6(s:Sl):ZGm s.toNat 64 0 (ZjA 0#64)=ZjA s:=ZGs (by simp[ZGE]) fun k h=>by
 rw[ZGC _ _ _ _ _ (by simp),if_pos (by omega)]
 simp[BitVec.testBit_toNat]
theorem ZHt(b:Blk): ∀(j:Nat) (i n:Nat) (L:List Bool),i+j=64→n<18446744073709551616→L.length=64→∃fr,(orc vp).loop 0 [0,2,3,4] ZGT [(0,.int .u64 n),(2,.ptr 0 1 0 0),(3,.ptr 1 1 0 0),(4,.int .i64 i)] [b,.arr [bsV L]]=
 some (.brk 0,(0,fr)::(2,.ptr 0 1 0 0)::(3,.ptr 1 1 0 0)::(4,.int .i64 64)::[(6,.bool false)],[b,.arr [bsV (ZGm n j i L)]]):=by
 intro j
 induction j with
 |zero=>
  intro i n L h hn hL
  have hi:i=64:=by omega
  subst hi
  refine⟨.int .u64 n,?_⟩
  rw[ZGY]
  simp -implicitDefEqProofs [ZGm]
 |succ j ih=>
  intro i n L h hn hL
  have hlt:(i:Int)<64:=by omega
  obtain⟨i2,hi2⟩: ∃i2,i+1=i2:=⟨_,rfl⟩
  obtain⟨n2,hn2⟩: ∃n2,n/2=n2:=⟨_,rfl⟩
  have w1:IntKind.i64.wrap ((i:Int)+1)=(i2:Int):=by rw[ZK (by omega) (by omega)];omega
  have q1:Yh .rem (.int .u64 n) (.int .u64 2)=some (.int .u64 ((n:Int)%2)):=by
   rw[JH _ _ _ (by decide:(2:Int)≠0)];congr 2
  have q2:Yh .quo (.int .u64 n) (.int .u64 2)=some (.int .u64 (n2:Int)):=by
   rw[ZoX _ _ _ (by decide:(2:Int)≠0),Int.tdiv_eq_ediv_of_nonneg (by omega),Zb8 (by omega) (by omega)];congr 2;omega
  have e1:decide ((n:Int)%2=1)=(n%2==1):=by
   rw[Bool.eq_iff_iff];simp;omega
  have st:=ZGP (l:=L) (o:=i) (by omega) (n%2==1)
  obtain⟨fr,ih⟩:=ih i2 n2 (L.set i (n%2==1)) (by omega) (by omega) (by simp[hL])
  refine⟨fr,?_⟩
  rw[ZGY]
  simp only[ZGm,hi2,hn2]
  simp -implicitDefEqProofs [hlt,w1,q1,q2,e1,st,ih]
theorem ZHv(s:Sl):Zc vp 905 [sV s]=some (ZaU s):=by
 have hz:((0:Nat):Int)=0:=rfl
 obtain⟨fr,hl⟩:=ZHt (.arr [ZaU 0#64]) 64 0 s.toNat (ZjA 0#64) rfl s.isLt (by simp)
 rw[ZG6,hz]at hl
 have hb: ∀s,bsV (ZjA s)=ZaU s:=fun _=>rfl
 rw[hb,hb]at hl
 have hr:=ZGK
 rw[Za ZHJ]
 unfold sV
 simp -implicitDefEqProofs [hr,hl]
def ZGn(A B:List Bool):Nat→Nat→List Bool→List Bool
 |0,_,L=>L
 |j+1,i,L=>ZGn A B j (i+1) (L.set i (A.getD i false&&B.getD i false))
theorem ZGB(A B:List Bool): ∀(j i:Nat) (L:List Bool),(ZGn A B j i L).length=L.length
 |0,_,_=>rfl
 |j+1,i,L=>by simp[ZGn,ZGB A B j]
theorem ZGD(A B:List Bool): ∀(j i:Nat) (L:List Bool) (k:Nat),i+j≤L.length→(ZGn A B j i L)[k]? =if i≤k∧k<i+j then some (A.getD k false&&B.getD k false)else L[k]?
 |0,i,L,k,h=>by simp only[ZGn];rw[if_neg (by omega)]
 |j+1,i,L,k,h=>by
  simp only[ZGn]
  rw[ZGD A B j _ _ k (by simp;omega)]
  by_cases c:i+1≤k∧k<i+1+j
  ·rw[if_pos c,if_pos (by omega)]
  ·rw[if_neg c,List.getElem?_set]
   by_cases e:i=k
   ·subst e
    rw[if_pos rfl,if_pos (by omega),if_pos (by omega)]
   ·rw[if_neg e,if_neg (by omega)]
theorem ZG5(a b:Sl):ZGn (ZjA a) (ZjA b) 64 0 (ZjA 0#64)=ZjA (a&&&b):=ZGs (by simp[ZGB]) fun k h=>by
 rw[ZGD _ _ _ _ _ _ (by simp),if_pos (by omega),List.getD_eq_getElem?_getD,List.getD_eq_getElem?_getD,ZGd a k h,ZGd b k h,BitVec.getLsbD_and];rfl
theorem ZHn(x y:Sl)(z:Blk): ∀(j:Nat) (i:Nat) (L:List Bool),i+j=64→L.length=64→(orc vp).loop 0 [2,3,4,5,6] ZGM [(2,.ptr 0 1 0 0),(3,.ptr 1 1 0 0),(4,.ptr 2 1 0 0),(5,.ptr 3 1 0 0),(6,.int .i64 i)] [.arr [ZaU x],.arr [ZaU y],z,.arr [bsV L]]=
 some (.brk 0,[(2,.ptr 0 1 0 0),(3,.ptr 1 1 0 0),(4,.ptr 2 1 0 0),(5,.ptr 3 1 0 0),(6,.int .i64 64),(8,.bool false)],[.arr [ZaU x],.arr [ZaU y],z,.arr [bsV (ZGn (ZjA x) (ZjA y) j i L)]]):=by
 intro j
 induction j with
 |zero=>
  intro i L h hL
  have hi:i=64:=by omega
  subst hi
  rw[ZGW]
  simp -implicitDefEqProofs [ZGn]
 |succ j ih=>
  intro i L h hL
  have hlt:(i:Int)<64:=by omega
  obtain⟨i2,hi2⟩: ∃i2,i+1=i2:=⟨_,rfl⟩
  have w1:IntKind.i64.wrap ((i:Int)+1)=(i2:Int):=by rw[ZK (by omega) (by omega)];omega
  have g1:=ZGF x 1 i (by omega)
  have g2:=ZGF y 1 i (by omega)
  have d1:(ZjA x).getD i false=x.getLsbD i:=by rw[List.getD_eq_getElem?_getD,ZGd x i (by omega)];rfl
  have d2:(ZjA y).getD i false=y.getLsbD i:=by rw[List.getD_eq_getElem?_getD,ZGd y i (by omega)];rfl
  have ih:=ih i2 (L.set i (x.getLsbD i&&y.getLsbD i)) (by omega) (by simp[hL])
  have st:=ZGP (l:=L) (o:=i) (by omega)
  rw[ZGW]
  simp only[ZGn,d1,d2,hi2]
  cases hx:x.getLsbD i
  ·rw[hx]at g1 ih
   have st:=st false
   rw[Bool.false_and]at ih⊢
   simp -implicitDefEqProofs [hlt,w1,g1,st,ih]
  ·rw[hx]at g1 ih
   have st:=st (y.getLsbD i)
   rw[Bool.true_and]at ih⊢
   simp -implicitDefEqProofs [hlt,w1,g1,g2,st,ih]
theorem ZGZ(a b:Sl):Zc vp 902 [ZaU a,ZaU b]=some (ZaU (a&&&b)):=by
 have hz:((0:Nat):Int)=0:=rfl
 have hl:=ZHn a b (.arr [ZaU 0#64]) 64 0 (ZjA 0#64) rfl (by simp)
 rw[ZG5,hz]at hl
 have hb: ∀s,bsV (ZjA s)=ZaU s:=fun _=>rfl
 rw[hb,hb]at hl
 have hr:=ZGK
 rw[Za ZHF]
 simp -implicitDefEqProofs [hr,hl]
end Go.VE.Un
namespace Go.VE
theorem Uk{β:Type}{O:Orc}{vp:VP}{lo:Nat}{fr:Fr}{h:Zg}{k:Fr→Zg→Option β}{n a x i b:Nat}{xl:List Nat}{r:List VDt}{p:Nat}{rs:List Jf}:
 dK O vp lo (⟨⟨none,.store n false (.t a) (.t x),none⟩,i,b,xl⟩::r) p rs fr h k=(Xp lo h n (lk fr a) (lk fr x)).bind fun h'=>if(rs.all fun e=> !xl.contains e.p||ZT (Yv h' e.agg e.n e.a) e.v)=true then dK O vp lo r (p+1) rs fr h' k else none:=by
 have e1:=UU (β:=β) O vp lo fr h (fun fr h=>if(rs.all fun e=> !xl.contains e.p||ZT (Yv h e.agg e.n e.a) e.v)=true then dK O vp lo r (p+1) rs fr h k else none) (.store n false (.t a) (.t x)) []
 rw[Zel]at e1
 have e2:(fun h':Zg=>if(rs.all fun e=> !xl.contains e.p||ZT (Yv h' e.agg e.n e.a) e.v)=true then dK O vp lo r (p+1) rs fr h' k else none)=fun h'=>Zt O vp lo [] fr h' (fun fr h=>if(rs.all fun e=> !xl.contains e.p||ZT (Yv h e.agg e.n e.a) e.v)=true then dK O vp lo r (p+1) rs fr h k else none):=rfl
 rw[e2]
 simp only[ZnK]at e1
 rw[←e1]
 unfold dK Zt
 simp only[Ur,YN]
 cases ZY O vp lo ⟨none,.store n false (.t a) (.t x),none⟩ fr h with
 |none=>rfl
 |some x=>
  simp only[Option.bind_some,ZaR,Xg,List.nil_append]
  split<;>rfl
end Go.VE
namespace Go.VE.Un
open Go.VE
@[simp] theorem ZCU(z:Nat)(es:List V):Ze (.sl z es .ce)=Zv es:=by simp[Ze]
theorem iA{B ep j o n:Nat}{i:Int}(h0:0≤i)(h1:i<(n:Int)):iaddrA n 1 (.ptr B ep j o) (.int .i64 i)=some (.ptr B ep j (o+i.toNat)):=by
 rw[Zs2 _ _ _ _ _ _ _ _ h0 h1,Nat.mul_one]
end Go.VE.Un
namespace Go.VE.Un
open Go.VE
end Go.VE.Un
namespace Go.VE.Un
open Go.VE
def Za9(p:Bool ×Sl):V:=.agg (.bool p.1::(ZjA p.2).map V.bool)
@[simp] theorem Zra(p:Bool ×Sl):Ze (Za9 p)=true:=by simp[Za9,JC]
@[simp] theorem ZsM(k:Nat)(p:Bool ×Sl):Zk k (Za9 p)=true:=by simp[Za9,KC]
@[simp] theorem ZAg(p:Bool ×Sl):okV (Za9 p)=true:=nr rfl
@[simp] theorem Zy2(p:Bool ×Sl):ldc (Za9 p) true 65 0=some (Za9 p):=QE (by simp)
@[simp] theorem ZvS(p:Bool ×Sl)(n:Nat):ldc (Za9 p) false n 0=some (.bool p.1):=rfl
@[simp] theorem Zww(p:Bool ×Sl):ldc (Za9 p) true 64 1=some (ZaU p.2):=by
  unfold Za9
  rw[ZqL _ _ _ (by simp)]
  simp only[List.drop_succ_cons,List.drop_zero]
  rw[List.take_of_length_le (by simp)];rfl
section
variable (m : Zb) (l : GL Ins) (n : Nat) (e1 e2 : List V)
end
theorem ZIC(m:Zb)(x:Ins)(s:Sl)(h:x.Op.n=31∨x.Op.n=32∨x.Op.n=34):YY m x s=(s,s,0):=by
 unfold YY
 rw[if_neg (by omega),if_neg (by omega),if_neg (by omega),if_neg (by omega),if_neg (by omega),if_neg (by omega)]
end Go.VE.Un
namespace Go.VE.Un
open Go.VE
theorem ZG8: ∀(a b:List Bool),a.length=b.length→Ux (List.replicate a.length .b) (a.map V.bool) (b.map V.bool)=some (decide (a=b))
 |[],[],_=>rfl
 |x::a,y::b,h=>by
  have ih:=ZG8 a b (by simpa using h)
  simp only[List.length_cons,List.replicate_succ,List.map_cons,Ux,eqK,Option.bind_some,ih]
  cases x<;>cases y<;>simp
 |[],_::_,h=>by simp at h
 |_::_,[],h=>by simp at h
theorem ZHk{a b:Sl}(h:ZjA a=ZjA b):a=b:=BitVec.eq_of_getLsbD_eq fun k hk=>by
 have:=congrArg (·[k]?) h
 simp only[ZGd a k hk,ZGd b k hk]at this
 exact Option.some.inj this
theorem ZGV(a b:Sl):eqV (some (List.replicate 64 .b)) (ZaU a) (ZaU b)=some (decide (a=b)):=by
 have h:=ZG8 (ZjA a) (ZjA b) (by simp)
 rw[QK]at h
 have e:eqV (some (List.replicate 64 .b)) (ZaU a) (ZaU b)=Ux (List.replicate 64 .b) ((ZjA a).map V.bool) ((ZjA b).map V.bool):=by
  unfold ZaU bsV eqV
  simp only
  rw[if_pos ⟨by simp,by simp⟩]
 rw[e,h]
 congr 1
 by_cases c:a=b
 ·simp[c]
 ·simp[c];exact fun q=>c (ZHk q)
theorem ZLu: ∀(j:Nat) (i:Nat) (o:Sl) (k:Nat),i+j≤64→(ZFh j i o).getLsbD k=(o.getLsbD k||decide (i≤k∧k<i+j))
 |0,i,o,k,h=>by
  have: ¬(i≤k∧k<i+0):=by omega
  simp only[ZFh,decide_eq_false this,Bool.or_false]
 |j+1,i,o,k,h=>by
  have hi:((i:Int)+1)=((i+1:Nat):Int):=by omega
  simp only[ZFh]
  rw[hi,ZLu j (i+1) _ k (by omega),ZbO,ZHq (by omega) (by omega),Bool.or_assoc]
  congr 1
  rw[←Bool.decide_or]
  congr 1
  simp only[Int.toNat_natCast,eq_iff_iff]
  omega
end Go.VE.Un
namespace Go.VE.Un
open Go.VE
theorem Zc0{α:Type}{l:List α}{i:Int}{a:α}(h:Zh l i=some a):0≤i∧i<l.length:=by
 rcases Zm l i with⟨_,h0,h1,_⟩|⟨_,h1⟩
 ·exact⟨h0,h1⟩
 ·rw[h1]at h;simp at h
end Go.VE.Un
namespace Go.VE.Un
open Go.VE
theorem ZD2{α:Type}{f:α→Int}: ∀{l:List α},Zx f l=0→∀x∈l,f x=0
 |[],_,x,hx=>by simp at hx
 |a::r,h,x,hx=>by
  simp only[Zx]at h;split at h
  ·rename_i h1;rcases List.mem_cons.1 hx with rfl|hx
   ·exact h1
   ·exact ZD2 h x hx
  ·rename_i h1;exact absurd h h1
theorem JP{b:Bool}{e:Int}(he:e≠0)(h:Zl b e=0):b=true:=by
 unfold Zl at h;split at h
 ·assumption
 ·exact absurd h he
end Go.VE.Un
