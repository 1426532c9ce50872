/- Joined texts: GrV. No condition: what each theorem needs stands in it. -/
import Derived.Test.YtlekfkibeafdiaaGreatCc22
namespace Go.VE.Un
open Go.VE
section
variable (m : Zb) (hm : Clo m) (hc : Yr m = none) (n : Nat) (hn : m.States.l.length = n) (hn2 : n ≤ 16) (hg : ∀ i x, Zh m.States.l i = some x → ZDI m x) (F : List (Bool × Sl)) (hF : F.length = n)
abbrev ZKL(F:List (Bool ×Sl))(b:Bool)(i:Int):Fr:=[(1,.ptr 0 1 0 0),(3,.ptr 1 1 0 0),(5,.sl 1 (bS F) .perm),(6,.sl 64 (ZKK F) .perm),(11,.ptr 2 1 0 0),(12,.bool b),(13,.int .i64 i)]
include hm hc hn hg hF in
set_option maxRecDepth 100000 in
theorem ZLY(e1:List V)(i:Nat)(x:ZJ)(hx:Zh m.States.l (i:Int)=some x): ∀(r:List Int) (k:Int) (q:Bool ×Sl),0≤k→k≤(ZGc x).length→(ZGc x).drop k.toNat=r→∃fr,(orc vp).loop 0 [1,3,5,6,11,12,13,14,15] ZLA (ZKL F q.1 i++[(14,.sl 1 ((ZGc x).map (V.int .i64)) .perm),(15,.int .i64 k)]) [.arr [m.v],.arr e1,.arr [ZaU q.2]]=
 some (.brk 4,ZKL F (ZLd (ZDw x.Exts.l (F.getD i (false,0)).2) (F.getD i (false,0)).1 r q).1 i++fr,[.arr [m.v],.arr e1,.arr [ZaU (ZLd (ZDw x.Exts.l (F.getD i (false,0)).2) (F.getD i (false,0)).1 r q).2]]):=by
 have hi:=Zc0 hx
 have hgx:=hg _ _ hx
 have hil:i<F.length:=by omega
 have hnl:(ZGc x).length≤9:=by have:=hgx.cases;unfold ZGc;simp;omega
 have hxc:=Xc (Zki hm) hx
 have hbl:=fun k=>Yq (k:=k) (f:=V.int .i64) (fun _=>rfl) (ZGc x)
 have bb: ∀k,Zo k (bS F)=true:=fun k=>Yq (fun _=>rfl) _
 have bs:=fun k=>ZKw k F
 have hml:(((ZGc x).map (V.int .i64)).length:Int)=(ZGc x).length:=by simp
 have g1:=ZLC hil .perm
 have g3:=ZLe hil .perm
 have h909:=ZG4 x (fun z hz k0=>ZHy hc (ZD2 hgx.ext z hz) k0) (F.getD i (false,0)).2
 generalize F.getD i (false,0)=p at*
 obtain⟨p1,p2⟩:=p
 simp only at g1 g3 h909⊢
 intro r
 induction r with
 |nil=>
  intro k q hk hk2 hd
  have:=Zq hk hd
  have e:k=(ZGc x).length:=by omega
  subst e
  refine⟨[(14,.sl 1 ((ZGc x).map (V.int .i64)) .perm),(15,.int .i64 (ZGc x).length),(137,.bool false)],?_⟩
  simp only[ZKL,List.cons_append,List.nil_append,ZLd]
  rw[ZLb]
  generalize hll:(ZGc x).length=ll at*
  generalize (ZGc x).map (V.int .i64)=L at*
  simp -implicitDefEqProofs [ZKD,hml]
 |cons y r ih=>
  intro k q hk hk2 hd
  obtain⟨h1,h2,h3⟩:=Zp hk hd
  have w1:IntKind.i64.wrap (k+1)=k+1:=ZK (by omega) (by omega)
  have g2:Yb 1 (.sl 1 ((ZGc x).map (V.int .i64)) .perm) (.int .i64 k)=some (.eptr (.int .i64 y) 0 .perm):=by
   rw[Y7,h1];rfl
  have h902:=ZGZ q.2 (ZDw x.Exts.l p2)
  simp only[ZLd]
  by_cases hy:y= -1
  ·cases p1 with
   |true=>
    rw[if_pos ⟨hy,rfl⟩]
    obtain⟨fr,ih⟩:=ih (k+1) (true,q.2&&&ZDw x.Exts.l p2) (by omega) (by omega) h3
    refine⟨fr,?_⟩
    rw[←ih]
    clear ih
    simp only[ZKL,List.cons_append,List.nil_append]
    rw[ZLb]
    generalize hll:(ZGc x).length=ll at*
    generalize (ZGc x).map (V.int .i64)=L at*
    generalize bS F=Q at*
    generalize ZKK F=D at*
    simp -implicitDefEqProofs [-List.reduceReplicate,ZKD,hml,h2,g1,g2,g3,hy,w1,hx,hxc,h909,h902,hbl,bb,bs]
   |false=>
    rw[if_neg (by simp)]
    obtain⟨fr,ih⟩:=ih (k+1) q (by omega) (by omega) h3
    refine⟨fr,?_⟩
    rw[←ih]
    clear ih
    simp only[ZKL,List.cons_append,List.nil_append]
    rw[ZLb]
    generalize hll:(ZGc x).length=ll at*
    generalize (ZGc x).map (V.int .i64)=L at*
    generalize bS F=Q at*
    generalize ZKK F=D at*
    simp -implicitDefEqProofs [-List.reduceReplicate,ZKD,hml,h2,g1,g2,g3,hy,w1,hbl,bb,bs]
  ·rw[if_neg (fun c=>hy c.1: ¬(y= -1∧p1=true))]
   obtain⟨fr,ih⟩:=ih (k+1) q (by omega) (by omega) h3
   refine⟨fr,?_⟩
   rw[←ih]
   clear ih
   simp only[ZKL,List.cons_append,List.nil_append]
   rw[ZLb]
   generalize hll:(ZGc x).length=ll at*
   generalize (ZGc x).map (V.int .i64)=L at*
   generalize bS F=Q at*
   generalize ZKK F=D at*
   simp -implicitDefEqProofs [-List.reduceReplicate,ZKD,hml,h2,g1,g2,g3,hy,w1,hbl,bb,bs]
include hm hc hn hn2 hg hF in
set_option maxRecDepth 100000 in
theorem ZLZ(a:Bool ×Sl): ∀(r:List ZJ) (i:Nat) (q:Bool ×Sl),i≤n→m.States.l.drop i=r→∃fr,(orc vp).loop 0 [1,3,5,6,11,12,13] ZLF (ZKL F q.1 i) [.arr [m.v],.arr [ZFp m F a],.arr [ZaU q.2]]=
 some (.brk 2,(1,.ptr 0 1 0 0)::(3,.ptr 1 1 0 0)::(5,.sl 1 (bS F) .perm)::(6,.sl 64 (ZKK F) .perm)::(11,.ptr 2 1 0 0)::(12,.bool (ZLD F r i q).1)::fr,[.arr [m.v],.arr [ZFp m F a],.arr [ZaU (ZLD F r i q).2]]):=by
 have bb: ∀k,Zo k (bS F)=true:=fun k=>Yq (fun _=>rfl) _
 have bs:=fun k=>ZKw k F
 have k0:ldc (ZFp m F a) false 1 0=some (.sl 1 (bS F) .perm):=rfl
 have k1:ldc (ZFp m F a) false 1 1=some (.sl 1 (sS F) .perm):=rfl
 have hbf: ∀k,Zk k (ZFp m F a)=true:=fun k=>by
  have b1:Zo k (bS F)=true:=Yq (fun _=>rfl) _
  have b2:Zo k (sS F)=true:=Yq (fun _=>rfl) _
  simp[ZFp,b1,b2]
 intro r
 induction r with
 |nil=>
  intro i q hi hd
  have hin:i=n:=by
   have:m.States.l.length≤i:=List.drop_eq_nil_iff.1 hd
   omega
  have hlt: ¬(i:Int)<(bS F).length:=by simp[bS];omega
  refine⟨[(13,.int .i64 i),(102,.bool false)],?_⟩
  simp only[ZKL,ZLD]
  rw[ZLL]
  simp -implicitDefEqProofs [ZK2,hlt]
 |cons x r ih=>
  intro i q hi hd
  have hi2:i<n:=by
   have:i<m.States.l.length:=by
    rcases Nat.lt_or_ge i m.States.l.length with h|h
    ·exact h
    ·rw[List.drop_eq_nil_of_le h]at hd;simp at hd
   omega
  have hlt:(i:Int)<(bS F).length:=by simp[bS];omega
  have hx:m.States.l[i]? =some x:=by
   have:=congrArg (fun q=>q[0]?) hd
   simpa using this
  have hx':Zh m.States.l (i:Int)=some x:=by simp[Zh,hx]
  have hd':m.States.l.drop (i+1)=r:=by
   have:=congrArg (List.drop 1) hd
   simpa using this
  have hxc:=Xc (Zki hm) hx'
  have hgx:=hg _ _ hx'
  obtain⟨i2,hi3⟩: ∃i2,i+1=i2:=⟨_,rfl⟩
  have w1:IntKind.i64.wrap ((i:Int)+1)=(i2:Int):=by rw[ZK (by omega) (by omega)];omega
  have g1:=ZLC (F:=F) (i:=i) (by omega) .perm
  have g2:=ZMf (F:=F) (i:=i) (by omega) .perm
  have g3:=ZLe (F:=F) (i:=i) (by omega) .perm
  have h905:=ZHv (F.getD i (false,0)).2
  have heq:=ZGV (F.getD i (false,0)).2 (F.getD i (false,0)).2
  rw[decide_eq_true rfl]at heq
  have h912:=ZHj x (by have:=hgx.cases;omega)
  have hnb:=fun k=>Yq (k:=k) (f:=V.int .i64) (fun _=>rfl) (ZGc x)
  obtain⟨fr2,hl⟩:=ZLY m hm hc n hn hg F hF [ZFp m F a] i x hx' (ZGc x) 0 q (by omega) (by omega) rfl
  simp only[ZLD,hi3]
  obtain⟨fr,ih⟩:=ih i2 (ZLd (ZDw x.Exts.l (F.getD i (false,0)).2) (F.getD i (false,0)).1 (ZGc x) q) (by omega) (by rw[←hi3];exact hd')
  refine⟨fr,?_⟩
  rw[←ih]
  clear ih
  generalize ZLd (ZDw x.Exts.l (F.getD i (false,0)).2) (F.getD i (false,0)).1 (ZGc x) q=q' at*
  simp only[ZKL,List.cons_append,List.nil_append]at hl⊢
  rw[ZLL]
  generalize F.getD i (false,0)=p at*
  generalize ZFp m F a=X at*
  generalize (ZGc x).map (V.int .i64)=L at*
  generalize bS F=Q at*
  generalize sS F=E at*
  generalize ZKK F=D at*
  simp -implicitDefEqProofs [-List.reduceReplicate,ZK2,hlt,k0,k1,g1,g2,g3,h905,heq,h912,hnb,hx',hxc,hl,w1,bb,bs,hbf]
end
set_option maxRecDepth 100000 in
set_option maxHeartbeats 4000000 in
theorem graphFacts(m:Zb)(hm:Clo m)(hT:Zdn m)(hsm:Z2 m)(hlv:Zc vp 707 []=some (.bool true)):
 Zc vp 703 [m.v]=some (.bool true):=by
 have hr:=ZFc m hm hT
 rw[Za ZMj]
 cases h:Zac m
 ·simp -implicitDefEqProofs [f703,b703,hr,h,hlv]
 obtain⟨hci,_⟩:=Znh h
 obtain⟨F,f1,f2,f3,hch⟩:=ZFk m hm hsm hci
 obtain⟨h0,h16,hg⟩:=ZDO hci
 have hfix:=(ZGp m.States.l 0 false F (by rw[f3])).2
 simp only[Nat.zero_add]at hfix
 have hseen:=ZKZ m _ rfl h0 hg F f1 hfix
 have hsets:=ZLy m hci _ rfl h0 hg F f1 hfix
 have c913:=ZLf m hm hci
 have c914:=ZMb m hm hT.insts hci
 have c908:=ZL6 m hT.insts hci
 have eB:(ZKh m).map V.bool=bS F:=by
  have:ZKh m=F.map (·.1):=by
   refine List.ext_getElem? fun i=> ?_
   have hl:=ZKo m
   rcases Nat.lt_or_ge i F.length with hi|hi
   ·have h1:=hseen i
    rw[List.getD_eq_getElem?_getD,List.getD_eq_getElem?_getD,List.getElem?_eq_getElem hi,List.getElem?_eq_getElem (by omega:i<(ZKh m).length)]at h1
    rw[List.getElem?_map,List.getElem?_eq_getElem hi,List.getElem?_eq_getElem (by omega:i<(ZKh m).length)]
    exact congrArg some h1.symm
   ·rw[List.getElem?_eq_none (by omega),List.getElem?_map,List.getElem?_eq_none (by omega)];rfl
  rw[this,List.map_map];rfl
 have eS:(ZKn m).map ZaU=ZKK F:=by
  have:ZKn m=F.map (·.2):=by
   refine List.ext_getElem? fun i=> ?_
   have hl:=ZLo m
   rcases Nat.lt_or_ge i F.length with hi|hi
   ·have h1:=hsets i
    rw[List.getD_eq_getElem?_getD,List.getD_eq_getElem?_getD,List.getElem?_eq_getElem hi,List.getElem?_eq_getElem (by omega:i<(ZKn m).length)]at h1
    rw[List.getElem?_map,List.getElem?_eq_getElem hi,List.getElem?_eq_getElem (by omega:i<(ZKn m).length)]
    exact congrArg some h1
   ·rw[List.getElem?_eq_none (by omega),List.getElem?_map,List.getElem?_eq_none (by omega)];rfl
  rw[this,List.map_map];rfl
 rw[eB]at c913
 rw[eS]at c914
 have sF: ∀i:Nat,Xv (F.getD i (false,0)).2 (ZEx m):=by
  have hext: ∀(k:Nat) x,m.States.l[k]? =some x→∀y∈x.Exts.l,WY m y=0:=fun k x hx=>ZD2 (hg (k:Int) x (by simp[Zh,hx])).ext
  refine ZK1 (Q:=fun P=> ∀i:Nat,Xv (P.getD i (false,0)).2 (ZEx m)) m.States.l (fun k x P s t hx hP hk ht t0 P' hP' i=> ?_) f1 (fun i=> ?_)
  ·rw[ZKY]
   split
   ·have ho:=ZKr hci x.Exts.l (hext k x hx) (by have:=hP k;rw[hk]at this;exact this)
    unfold Js
    split
    ·exact(Xv.andr _ _).trans ho
    ·exact ho
   ·exact hP' i
  ·rw[ZLp];split<;>exact sub_zero _
 have hfz:stc (.agg [.sl 1 [] .nl,.sl 1 [] .nl,.int .u64 0,.bool false,.int .i64 0,.int .i64 0]) 6 0 fG=some fG:=Zie rfl rfl
 have hz0:((0:Nat):Int)=0:=rfl
 have bb: ∀k,Zo k (bS F)=true:=fun k=>Yq (fun _=>rfl) _
 have bs:=fun k=>ZKw k F
 have hacc:=ZKT hci F sF m.States.l 0 (false,ZEx m)
 have hks:=fun f err=>ZLW m hm hci m.States.l.length rfl h16 hg F f2 hlv f err m.States.l 0 (false,ZEx m) (by omega) rfl
 generalize ctR F m.States.l 0 (false,ZEx m)=q at hch hacc hks
 obtain⟨o,a⟩:=q
 cases o with
 |some wr=>
  obtain⟨i,k⟩:=wr
  simp only at hch
  obtain⟨hp,hl⟩:=hks fG (.iface 149 (.eptr (wrV 4 i k 11) 0 .perm)) rfl rfl
  simp only[ZKF]at hl
  rw[hz0]at hl
  generalize bS F=Q1 at*
  generalize ZKK F=Q2 at*
  generalize wrV 4 i k 11=wr at*
  simp -implicitDefEqProofs [f703,b703,hr,h,hlv,hch,hfz,c913,c914,hl]
 |none=>
  simp only at hch
  obtain⟨fr,hl⟩:=hks (ZFp m F a) .nili
  have hac:=hacc a (fun x hx=>by
   obtain⟨k,hk,he⟩:=List.getElem_of_mem hx
   exact ZD2 (hg (k:Int) x (by simp[Zh,hk,he])).ext) rfl (fun _=>rfl)
  obtain⟨fr3,hl3⟩:=ZLZ m hm hci m.States.l.length rfl h16 hg F f2 a m.States.l 0 (false,ZEx m) (by omega) rfl
  rw[hac]at hl3
  simp only[ZKF]at hl
  simp only[ZKL]at hl3
  rw[hz0]at hl hl3
  have hst:stc (.agg [.sl 1 [] .nl,.sl 1 [] .nl,.int .u64 0,.bool false,.int .i64 0,.int .i64 0]) 6 0 (ZFp m F a)=some (ZFp m F a):=Zie rfl rfl
  have hz:=ZGK
  have k0:ldc (ZFp m F a) false 1 0=some (.sl 1 (bS F) .perm):=rfl
  have k1:ldc (ZFp m F a) false 1 1=some (.sl 1 (sS F) .perm):=rfl
  have k2:ldc (ZFp m F a) false 1 2=some (sV a.2):=rfl
  have k3:ldc (ZFp m F a) false 1 3=some (.bool a.1):=rfl
  have ls:(sS F).length=(bS F).length:=by simp[bS,sS]
  have h905:=ZHv a.2
  have heq:=ZGV a.2 a.2
  rw[decide_eq_true rfl]at heq
  generalize ZFp m F a=X at*
  generalize bS F=Q1 at*
  generalize sS F=Q3 at*
  generalize ZKK F=Q2 at*
  generalize ZEx m=al at*
  obtain⟨a1,a2⟩:=a
  simp only at h905 heq k2 k3 hl3
  simp -implicitDefEqProofs [-List.reduceReplicate,f703,b703,hr,h,hlv,hch,hst,c913,c914,hl,k0,k1,k2,k3,ls,c908,hz,hl3,h905,heq]
end Go.VE.Un
