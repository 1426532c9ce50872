/- Joined texts: GrP, GrQ, GrR, GrS. No condition: what each theorem needs stands in it. -/
import Derived.Test.YtlekfkibeafdiaaGreatCc18
import Derived.Test.YtlekfkibeafdiaaGreatCc20
namespace Go.VE.Un
open Go.VE
def ZKx(x:ZJ)(i:Nat):List Int→List Sl→List Sl
 |[],A=>A
 |t::r,A=>ZKx x i r (if 0≤t then A.set t.toNat (A.getD t.toNat 0&&&ZDw x.Exts.l (A.getD i 0))else A)
def ZKu(B:List Bool):List ZJ→Nat→List Sl→List Sl
 |[],_,A=>A
 |x::r,i,A=>ZKu B r (i+1) (if B.getD i false=true then ZKx x i (ZGc x) A else A)
def ZLn(B:List Bool)(l:List ZJ):Nat→List Sl→List Sl
 |0,A=>A
 |j+1,A=>ZLn B l j (ZKu B l 0 A)
theorem ZLm(x:ZJ)(i:Nat): ∀(l:List Int) (A:List Sl),(ZKx x i l A).length=A.length
 |[],_=>rfl
 |t::r,A=>by
  simp only[ZKx]
  rw[ZLm x i r];split<;>simp
theorem ZKV(B:List Bool): ∀(l:List ZJ) (i:Nat) (A:List Sl),(ZKu B l i A).length=A.length
 |[],_,_=>rfl
 |x::r,i,A=>by
  simp only[ZKu]
  rw[ZKV B r];split
  ·rw[ZLm]
  ·rfl
theorem ZLv(B:List Bool)(l:List ZJ): ∀(j:Nat) (A:List Sl),(ZLn B l j A).length=A.length
 |0,_=>rfl
 |j+1,A=>by simp only[ZLn];rw[ZLv B l j,ZKV]
theorem ZKl(k:Nat)(A:List Sl):Zo k (A.map ZaU)=true:=Yq (fun s=>Zt9 k s) A
theorem ZLi{A:List Sl}{i n:Nat}(hl:A.length=n)(hi:i<n):(A.map ZaU)[i]? =some (ZaU (A.getD i 0)):=by
 rw[List.getElem?_map,List.getD_eq_getElem?_getD,List.getElem?_eq_getElem (by omega)];rfl
section
variable (m : Zb) (hm : Clo m) (hc : Yr m = none) (n : Nat) (hn : m.States.l.length = n) (hn2 : n ≤ 16) (hg : ∀ i x, Zh m.States.l i = some x → ZDI m x) (B : List Bool) (hB : B.length = n)
include hm hc hn hg hB in
set_option maxRecDepth 100000 in
theorem ZLT(q:Int)(i:Nat)(x:ZJ)(hx:Zh m.States.l (i:Int)=some x)(hs:B.getD i false=true): ∀(r:List Int) (k:Int) (A:List Sl),0≤k→k≤(ZGc x).length→(ZGc x).drop k.toNat=r→A.length=n→∃fr,(orc vp).loop 0 [1,3,4,6,7,8,9] ZLt [(1,.ptr 0 1 0 0),(3,.sl 1 (B.map V.bool) .perm),(4,.gsl 1 n 64 0 n),(6,.int .i64 q),(7,.int .i64 i),(8,.sl 1 ((ZGc x).map (V.int .i64)) .perm),(9,.int .i64 k)] [.arr [m.v],.arr (A.map ZaU)]=
 some (.brk 6,(1,.ptr 0 1 0 0)::(3,.sl 1 (B.map V.bool) .perm)::(4,.gsl 1 n 64 0 n)::(6,.int .i64 q)::(7,.int .i64 i)::fr,[.arr [m.v],.arr ((ZKx x i r A).map ZaU)]):=by
 have hi:=Zc0 hx
 have hgx:=hg _ _ hx
 have hil:i<n:=by omega
 have hnl:(ZGc x).length≤9:=by have:=hgx.cases;unfold ZGc;simp;omega
 have hnb: ∀t∈ZGc x,t<(n:Int):=fun t ht=>by
  have:=(hgx.nx t (by unfold ZGc at ht;unfold ZGb;simp only[List.mem_append,List.mem_singleton]at ht;simp only[List.mem_cons];exact ht.symm)).2
  omega
 have hxc:=Xc (Zki hm) hx
 have hbl:=fun k=>Yq (k:=k) (f:=V.int .i64) (fun _=>rfl) (ZGc x)
 have hbb:=fun k=>Yq (k:=k) (f:=V.bool) (fun _=>rfl) B
 have hml:(((ZGc x).map (V.int .i64)).length:Int)=(ZGc x).length:=by simp
 have gB:Yb 1 (.sl 1 (B.map V.bool) .perm) (.int .i64 (i:Int))=some (.eptr (.bool true) 0 .perm):=by
  have:B[i]? =some true:=by
   rw[List.getD_eq_getElem?_getD,List.getElem?_eq_getElem (by omega)]at hs
   rw[List.getElem?_eq_getElem (by omega)];exact congrArg some hs
  rw[Y7];simp[Zh,this]
 have hia: ∀t:Int,0≤t→t<(n:Int)→Yb 64 (.gsl 1 n 64 0 n) (.int .i64 t)=some (.ptr 1 n t.toNat 0):=fun t h0 h1=>iaG h0 h1
 have hii:=hia (i:Int) (by omega) (by omega)
 rw[Int.toNat_natCast]at hii
 intro r
 induction r with
 |nil=>
  intro k A hk hk2 hd hA
  have:=Zq hk hd
  have e:k=(ZGc x).length:=by omega
  subst e
  refine⟨[(8,.sl 1 ((ZGc x).map (V.int .i64)) .perm),(9,.int .i64 (ZGc x).length),(61,.bool false)],?_⟩
  rw[ZLa]
  generalize hll:(ZGc x).length=ll at*
  generalize (ZGc x).map (V.int .i64)=L at*
  simp -implicitDefEqProofs [ZKy,hml,ZKx]
 |cons y r ih=>
  intro k A hk hk2 hd hA
  obtain⟨h1,h2,h3⟩:=Zp hk hd
  have w1:IntKind.i64.wrap (k+1)=k+1:=ZK (by omega) (by omega)
  have hy:y∈ZGc x:=by
   have:y∈(ZGc x).drop k.toNat:=by rw[hd];simp
   exact List.mem_of_mem_drop this
  have hyn:=hnb y hy
  have g1:Yb 1 (.sl 1 ((ZGc x).map (V.int .i64)) .perm) (.int .i64 k)=some (.eptr (.int .i64 y) 0 .perm):=by
   rw[Y7,h1];rfl
  have cA:YG (A.map ZaU) n=some (A.map ZaU):=Yt (by simp[hA])
  have gi:=ZLi hA hil
  have bA:=fun k=>ZKl k A
  simp only[ZKx]
  by_cases c0:0≤y
  ·rw[if_pos c0]
   have gy:=ZLi (i:=y.toNat) hA (by omega)
   have hiy:=hia y c0 hyn
   have h909:=ZG4 x (fun z hz k0=>ZHy hc (ZD2 hgx.ext z hz) k0) (A.getD i 0)
   have h902:=ZGZ (A.getD y.toNat 0) (ZDw x.Exts.l (A.getD i 0))
   obtain⟨fr,ih⟩:=ih (k+1) (A.set y.toNat (A.getD y.toNat 0&&&ZDw x.Exts.l (A.getD i 0))) (by omega) (by omega) h3 (by simp[hA])
   refine⟨fr,?_⟩
   have bA2:=fun k=>ZKl k (A.set y.toNat (A.getD y.toNat 0&&&ZDw x.Exts.l (A.getD i 0)))
   have hat: ∀s:Sl,(A.set y.toNat s).map ZaU=(A.map ZaU).set y.toNat (ZaU s):=fun s=>List.map_set ..
   rw[hat]at ih bA2
   rw[ZLa,←ih]
   generalize A.getD y.toNat 0&&&ZDw x.Exts.l (A.getD i 0)=s3 at*
   generalize ZDw x.Exts.l (A.getD i 0)=s2 at*
   generalize A.getD y.toNat 0=s1 at*
   generalize A.getD i 0=s0 at*
   generalize hll:(ZGc x).length=ll at*
   generalize (ZGc x).map (V.int .i64)=L at*
   generalize A.map ZaU=W at*
   generalize B.map V.bool=Q at*
   simp -implicitDefEqProofs [-List.reduceReplicate,ZKy,hml,gB,g1,h2,w1,c0,hiy,hii,cA,gi,gy,hx,hxc,h909,h902,hbl,hbb,bA,bA2]
  ·rw[if_neg c0]
   obtain⟨fr,ih⟩:=ih (k+1) A (by omega) (by omega) h3 hA
   refine⟨fr,?_⟩
   rw[ZLa,←ih]
   generalize hll:(ZGc x).length=ll at*
   generalize (ZGc x).map (V.int .i64)=L at*
   generalize A.map ZaU=W at*
   generalize B.map V.bool=Q at*
   simp -implicitDefEqProofs [-List.reduceReplicate,ZKy,hml,gB,g1,h2,w1,c0,hbl,hbb,bA]
include hm hc hn hn2 hg hB in
set_option maxRecDepth 100000 in
theorem ZL1(q:Int): ∀(r:List ZJ) (i:Nat) (A:List Sl),i≤n→m.States.l.drop i=r→A.length=n→∃fr,(orc vp).loop 0 [1,3,4,6,7] ZLE [(1,.ptr 0 1 0 0),(3,.sl 1 (B.map V.bool) .perm),(4,.gsl 1 n 64 0 n),(6,.int .i64 q),(7,.int .i64 i)] [.arr [m.v],.arr (A.map ZaU)]=
 some (.brk 4,(1,.ptr 0 1 0 0)::(3,.sl 1 (B.map V.bool) .perm)::(4,.gsl 1 n 64 0 n)::(6,.int .i64 q)::fr,[.arr [m.v],.arr ((ZKu B r i A).map ZaU)]):=by
 intro r
 induction r with
 |nil=>
  intro i A hi hd hA
  have hin:i=n:=by
   have:m.States.l.length≤i:=List.drop_eq_nil_iff.1 hd
   omega
  subst hin
  refine⟨[(7,.int .i64 i),(43,.bool false)],?_⟩
  simp only[ZKu]
  rw[ZLs]
  simp -implicitDefEqProofs [ZKO,hn]
 |cons x r ih=>
  intro i A hi hd hA
  have hi2:i<n:=by
   have:i<m.States.l.length:=by
    rcases Nat.lt_or_ge i m.States.l.length with h|h
    ·exact h
    ·rw[List.drop_eq_nil_of_le h]at hd;simp at hd
   omega
  have hlt:(i:Int)<n:=by omega
  have hx:m.States.l[i]? =some x:=by
   have:=congrArg (fun q=>q[0]?) hd
   simpa using this
  have hx':Zh m.States.l (i:Int)=some x:=by simp[Zh,hx]
  have hd':m.States.l.drop (i+1)=r:=by
   have:=congrArg (List.drop 1) hd
   simpa using this
  have hxc:=Xc (Zki hm) hx'
  have hgx:=hg _ _ hx'
  obtain⟨i2,hi3⟩: ∃i2,i+1=i2:=⟨_,rfl⟩
  have w1:IntKind.i64.wrap ((i:Int)+1)=(i2:Int):=by rw[ZK (by omega) (by omega)];omega
  have hnx:=ZHj x (by have:=hgx.cases;omega)
  have hbb:=fun k=>Yq (k:=k) (f:=V.bool) (fun _=>rfl) B
  have hbl:=fun k=>Yq (k:=k) (f:=V.int .i64) (fun _=>rfl) (ZGc x)
  have bA:=fun k=>ZKl k A
  simp only[ZKu]
  cases hs:B.getD i false with
  |false=>
   rw[if_neg (by simp)]
   obtain⟨fr,ih⟩:=ih i2 A (by omega) (by rw[←hi3];exact hd') hA
   refine⟨fr,?_⟩
   have gB:Yb 1 (.sl 1 (B.map V.bool) .perm) (.int .i64 (i:Int))=some (.eptr (.bool false) 0 .perm):=by
    have:B[i]? =some false:=by
     rw[List.getD_eq_getElem?_getD,List.getElem?_eq_getElem (by omega)]at hs
     rw[List.getElem?_eq_getElem (by omega)];exact congrArg some hs
    rw[Y7];simp[Zh,this]
   have hml:(((ZGc x).map (V.int .i64)).length:Int)=(ZGc x).length:=by simp
   have hpos:(0:Int)<(ZGc x).length:=by unfold ZGc;simp
   have hl:(orc vp).loop 0 [1,3,4,6,7,8,9] ZLt [(1,.ptr 0 1 0 0),(3,.sl 1 (B.map V.bool) .perm),(4,.gsl 1 n 64 0 n),(6,.int .i64 q),(7,.int .i64 i),(8,.sl 1 ((ZGc x).map (V.int .i64)) .perm),(9,.int .i64 0)] [.arr [m.v],.arr (A.map ZaU)]=
    some (.brk 6,[(1,.ptr 0 1 0 0),(3,.sl 1 (B.map V.bool) .perm),(4,.gsl 1 n 64 0 n),(6,.int .i64 q),(7,.int .i64 i),(8,.sl 1 ((ZGc x).map (V.int .i64)) .perm),(9,.int .i64 0),(61,.bool false)],[.arr [m.v],.arr (A.map ZaU)]):=by
    rw[ZLa]
    generalize hll:((ZGc x).length:Int)=ll at*
    generalize (ZGc x).map (V.int .i64)=L at*
    generalize B.map V.bool=Q at*
    simp -implicitDefEqProofs [-List.reduceReplicate,ZKy,hml,hpos,gB]
   rw[hi3,ZLs,←ih]
   generalize (ZGc x).map (V.int .i64)=L at*
   generalize A.map ZaU=W at*
   generalize B.map V.bool=Q at*
   simp -implicitDefEqProofs [-List.reduceReplicate,ZKO,hn,hlt,hx',hxc,hnx,hl,w1,hbb,bA]
  |true=>
   rw[if_pos rfl]
   obtain⟨fr2,hl⟩:=ZLT m hm hc n hn hg B hB q i x hx' hs (ZGc x) 0 A (by omega) (by omega) rfl hA
   have hkl:=ZLm x i (ZGc x) A
   obtain⟨fr,ih⟩:=ih i2 (ZKx x i (ZGc x) A) (by omega) (by rw[←hi3];exact hd') (by omega)
   refine⟨fr,?_⟩
   have bA2:=fun k=>ZKl k (ZKx x i (ZGc x) A)
   rw[hi3,ZLs,←ih]
   generalize (ZKx x i (ZGc x) A).map ZaU=W2 at*
   generalize (ZGc x).map (V.int .i64)=L at*
   generalize A.map ZaU=W at*
   generalize B.map V.bool=Q at*
   simp -implicitDefEqProofs [-List.reduceReplicate,ZKO,hn,hlt,hx',hxc,hnx,hl,w1,hbb,bA,bA2]
include hm hc hn hn2 hg hB in
set_option maxRecDepth 100000 in
theorem ZLX: ∀(j q:Nat) (A:List Sl),q+j=40*n→A.length=n→∃fr,(orc vp).loop 0 [1,3,4,6] ZLB [(1,.ptr 0 1 0 0),(3,.sl 1 (B.map V.bool) .perm),(4,.gsl 1 n 64 0 n),(6,.int .i64 q)] [.arr [m.v],.arr (A.map ZaU)]=
 some (.brk 2,(1,.ptr 0 1 0 0)::(3,.sl 1 (B.map V.bool) .perm)::(4,.gsl 1 n 64 0 n)::fr,[.arr [m.v],.arr ((ZLn B m.States.l j A).map ZaU)]):=by
 have w2:IntKind.i64.wrap (40*(n:Int))=40*(n:Int):=ZK (by omega) (by omega)
 have hbb:=fun k=>Yq (k:=k) (f:=V.bool) (fun _=>rfl) B
 intro j
 induction j with
 |zero=>
  intro q A hq hA
  have e: ¬(q:Int)<40*(n:Int):=by omega
  refine⟨[(6,.int .i64 q),(36,.bool false)],?_⟩
  simp only[ZLn]
  rw[ZLP]
  simp -implicitDefEqProofs [ZK5,hn,w2,e]
 |succ j ih=>
  intro q A hq hA
  have hlt:(q:Int)<40*(n:Int):=by omega
  obtain⟨i2,hi3⟩: ∃i2,q+1=i2:=⟨_,rfl⟩
  have w1:IntKind.i64.wrap ((q:Int)+1)=(i2:Int):=by rw[ZK (by omega) (by omega)];omega
  obtain⟨fr2,hl⟩:=ZL1 m hm hc n hn hn2 hg B hB q m.States.l 0 A (by omega) rfl hA
  have hz0:((0:Nat):Int)=0:=rfl
  rw[hz0]at hl
  have hsl:=ZKV B m.States.l 0 A
  obtain⟨fr,ih⟩:=ih i2 (ZKu B m.States.l 0 A) (by omega) (by omega)
  refine⟨fr,?_⟩
  have bA:=fun k=>ZKl k A
  have bA2:=fun k=>ZKl k (ZKu B m.States.l 0 A)
  simp only[ZLn]
  rw[ZLP,←ih]
  generalize (ZKu B m.States.l 0 A).map ZaU=W2 at*
  generalize A.map ZaU=W at*
  generalize B.map V.bool=Q at*
  simp -implicitDefEqProofs [-List.reduceReplicate,ZK5,hn,w2,hlt,hl,w1,hbb,bA,bA2]
end
end Go.VE.Un
namespace Go.VE.Un
open Go.VE
def ZKq(B:List Bool)(s:Sl):Nat→Nat→List Sl→List Sl
 |0,_,A=>A
 |j+1,i,A=>ZKq B s j (i+1) (if B.getD i false=true then A.set i s else A)
theorem ZKG(B:List Bool)(s:Sl): ∀(j i:Nat) (A:List Sl),(ZKq B s j i A).length=A.length
 |0,_,_=>rfl
 |j+1,i,A=>by
  simp only[ZKq]
  rw[ZKG B s j];split<;>simp
set_option maxRecDepth 100000 in
theorem ZLV(m:Zb)(hb:m.Insts.l.length≤10000000)(hc:Yr m=none)(n:Nat)(hn2:n≤16)(B:List Bool)(hB:B.length=n): ∀(j i:Nat) (A:List Sl),i+j=n→A.length=n→∃fr,(orc vp).loop 0 [1,3,4,5] ZLH [(1,.ptr 0 1 0 0),(3,.sl 1 (B.map V.bool) .perm),(4,.gsl 1 n 64 0 n),(5,.int .i64 i)] [.arr [m.v],.arr (A.map ZaU)]=
 some (.brk 0,(1,.ptr 0 1 0 0)::(3,.sl 1 (B.map V.bool) .perm)::(4,.gsl 1 n 64 0 n)::fr,[.arr [m.v],.arr ((ZKq B (ZEx m) j i A).map ZaU)]):=by
 have hall:=ZL6 m hb hc
 have hbb:=fun k=>Yq (k:=k) (f:=V.bool) (fun _=>rfl) B
 intro j
 induction j with
 |zero=>
  intro i A hi hA
  have e: ¬(i:Int)<n:=by omega
  refine⟨[(5,.int .i64 i),(19,.bool false)],?_⟩
  simp only[ZKq]
  rw[ZLr]
  simp -implicitDefEqProofs [ZKN,e]
 |succ j ih=>
  intro i A hi hA
  have hlt:(i:Int)<n:=by omega
  obtain⟨i2,hi3⟩: ∃i2,i+1=i2:=⟨_,rfl⟩
  have w1:IntKind.i64.wrap ((i:Int)+1)=(i2:Int):=by rw[ZK (by omega) (by omega)];omega
  have gB:Yb 1 (.sl 1 (B.map V.bool) .perm) (.int .i64 (i:Int))=some (.eptr (.bool (B.getD i false)) 0 .perm):=by
   have:B[i]? =some (B.getD i false):=by
    rw[List.getD_eq_getElem?_getD,List.getElem?_eq_getElem (by omega)];rfl
   rw[Y7]
   unfold Zh
   rw[if_pos (by omega),Int.toNat_natCast,this];rfl
  have hii:=iaG (B:=1) (z:=64) (ep:=n) (i:=(i:Int)) (by omega) hlt
  rw[Int.toNat_natCast]at hii
  have cA:YG (A.map ZaU) n=some (A.map ZaU):=Yt (by simp[hA])
  have gi:=ZLi (i:=i) hA (by omega)
  have bA:=fun k=>ZKl k A
  simp only[ZKq,hi3]
  cases hs:B.getD i false with
  |false=>
   rw[hs]at gB
   rw[if_neg (by simp)]
   obtain⟨fr,ih⟩:=ih i2 A (by omega) hA
   refine⟨fr,?_⟩
   rw[ZLr,←ih]
   generalize A.map ZaU=W at*
   generalize B.map V.bool=Q at*
   simp -implicitDefEqProofs [-List.reduceReplicate,ZKN,hlt,gB,w1,hbb,bA]
  |true=>
   rw[hs]at gB
   rw[if_pos rfl]
   obtain⟨fr,ih⟩:=ih i2 (A.set i (ZEx m)) (by omega) (by simp[hA])
   refine⟨fr,?_⟩
   have hat:(A.set i (ZEx m)).map ZaU=(A.map ZaU).set i (ZaU (ZEx m)):=List.map_set ..
   have bA2:=fun k=>ZKl k (A.set i (ZEx m))
   rw[hat]at ih bA2
   rw[ZLr,←ih]
   generalize ZEx m=s at*
   generalize A.getD i 0=s0 at*
   generalize A.map ZaU=W at*
   generalize B.map V.bool=Q at*
   simp -implicitDefEqProofs [-List.reduceReplicate,ZKN,hlt,gB,w1,hall,hii,cA,gi,hbb,bA,bA2]
def ZKn(m:Zb):List Sl:=ZLn (ZKh m) m.States.l (40*m.States.l.length) (ZKq (ZKh m) (ZEx m) (m.States.l.length-1) 1 (List.replicate m.States.l.length 0))
theorem ZKo(m:Zb):(ZKh m).length=m.States.l.length:=by unfold ZKh;rw[ZKR];simp[ZKi]
theorem ZLo(m:Zb):(ZKn m).length=m.States.l.length:=by unfold ZKn;rw[ZLv,ZKG];simp
set_option maxRecDepth 100000 in
theorem ZMb(m:Zb)(hm:Clo m)(hb:m.Insts.l.length≤10000000)(hc:Yr m=none):Zc vp 914 [m.v]=some (.sl 64 ((ZKn m).map ZaU) .perm):=by
 obtain⟨h0,h16,hg⟩:=ZDO hc
 have hr:=ZLf m hm hc
 have hBl:=ZKo m
 have hSl:=ZLo m
 unfold ZKn at hSl⊢
 generalize ZKh m=B at*
 obtain⟨n,hn⟩: ∃n,m.States.l.length=n:=⟨_,rfl⟩
 rw[hn]at h0 h16 hBl hSl⊢
 obtain⟨fr1,hl1⟩:=ZLV m hb hc n h16 B hBl (n-1) 1 (List.replicate n 0) (by omega) (by simp)
 have hfl:=ZKG B (ZEx m) (n-1) 1 (List.replicate n 0)
 obtain⟨fr2,hl2⟩:=ZLX m hm hc n hn h16 hg B hBl (40*n) 0 (ZKq B (ZEx m) (n-1) 1 (List.replicate n 0)) (by omega) (by rw[hfl];simp)
 have hz0:((0:Nat):Int)=0:=rfl
 have hz1:((1:Nat):Int)=1:=rfl
 rw[hz0]at hl2
 rw[hz1]at hl1
 have hmk: ∀a,UW [a] (.agg (rp 64 (.bool false))) 64 (.int .i64 (n:Int)) (.int .i64 (n:Int))=some (.gsl 1 n 64 0 n,[a,.arr ((List.replicate n (0:Sl)).map ZaU)]):=fun a=>by
  unfold UW
  simp only
  rw[if_pos (by unfold YC;omega),Int.toNat_natCast,List.map_replicate,ZGK]
  simp[ZaU,bsV,ZjA]
 have cF: ∀F:List Sl,F.length=n→YG (F.map ZaU) n=some (F.map ZaU):=fun F h=>Yt (by simp[h])
 have sF: ∀F:List Sl,F.length=n→ZaK n 0 n (F.map ZaU)=some (F.map ZaU):=fun F h=>Qy (by simp[h])
 have hcF: ∀F:List Sl,Zv (F.map ZaU)=true:=fun F=>by rw[YR];simp
 have k1:=cF _ hSl
 have k2:=sF _ hSl
 have k3:=hcF (ZLn B m.States.l (40*n) (ZKq B (ZEx m) (n-1) 1 (List.replicate n 0)))
 rw[Za ZMg]
 generalize (ZLn B m.States.l (40*n) (ZKq B (ZEx m) (n-1) 1 (List.replicate n 0))).map ZaU=W3 at*
 generalize (ZKq B (ZEx m) (n-1) 1 (List.replicate n 0)).map ZaU=W2 at*
 generalize (List.replicate n (0:Sl)).map ZaU=W1 at*
 generalize B.map V.bool=Q at*
 simp -implicitDefEqProofs [-List.reduceReplicate,f914,b914,hr,hn,hmk,hl1,hl2,k1,k2,k3]
end Go.VE.Un
namespace Go.VE.Un
open Go.VE
def rep{α:Type}(f:α→α):Nat→α→α
 |0,a=>a
 |j+1,a=>rep f j (f a)
theorem ZLQ{α:Type}{f:α→α}{a:α}(h:f a=a): ∀j,rep f j a=a
 |0=>rfl
 |j+1=>by rw[rep,h];exact ZLQ h j
theorem ZLh{α:Type}{f:α→α}{μ:α→Nat}{I:α→Prop}(hI: ∀a,I a→I (f a))(h: ∀a,I a→f a=a∨μ (f a)<μ a): ∀(j:Nat) (a:α),I a→μ a≤j→f (rep f j a)=rep f j a
 |0,a,ha,hj=>by
  rcases h a ha with e|e
  ·exact e
  ·omega
 |j+1,a,ha,hj=>by
  rcases h a ha with e|e
  ·rw[ZLQ e];exact e
  ·exact ZLh hI h j (f a) (hI a ha) (by omega)
theorem ZKX{α:Type}{f:α→α}{I:α→Prop}(hI: ∀a,I a→I (f a)): ∀(j:Nat) (a:α),I a→I (rep f j a)
 |0,_,h=>h
 |j+1,a,h=>ZKX hI j _ (hI a h)
theorem ZKM(l:List ZJ): ∀(j:Nat) (B:List Bool),ZKm l j B=rep (ZKj l 0) j B
 |0,_=>rfl
 |j+1,B=>ZKM l j _
theorem ZLx(B:List Bool)(l:List ZJ): ∀(j:Nat) (A:List Sl),ZLn B l j A=rep (ZKu B l 0) j A
 |0,_=>rfl
 |j+1,A=>ZLx B l j _
def LeB(A B:List Bool):Prop:=A.length=B.length∧∀i,A.getD i false=true→B.getD i false=true
theorem LeB.refl(A:List Bool):LeB A A:=⟨rfl,fun _ h=>h⟩
theorem LeB.trans{A B C:List Bool}(h:LeB A B)(g:LeB B C):LeB A C:=⟨h.1.trans g.1,fun i e=>g.2 i (h.2 i e)⟩
theorem LeB.cnt: ∀{A B:List Bool},LeB A B→A.count true≤B.count true∧(A.count true=B.count true→A=B)
 |[],[],_=>⟨Nat.le_refl _,fun _=>rfl⟩
 |[],b::B,h=>by have:=h.1;simp at this
 |a::A,[],h=>by have:=h.1;simp at this
 |a::A,b::B,h=>by
  have ht:LeB A B:=⟨by simpa using h.1,fun i e=>by simpa using h.2 (i+1) (by simpa using e)⟩
  obtain⟨h1,h2⟩:=LeB.cnt ht
  have h0:=h.2 0
  simp only[List.getD_cons_zero]at h0
  cases a<;>cases b<;>simp at h0⊢
  ·exact⟨h1,h2⟩
  ·omega
  ·exact⟨h1,h2⟩
theorem LeB.anti{A B:List Bool}(h:LeB A B)(g:LeB B A):A=B:=(LeB.cnt h).2 (Nat.le_antisymm (LeB.cnt h).1 (LeB.cnt g).1)
theorem ZL5(B:List Bool)(i:Nat):LeB B (B.set i true):=⟨by simp,fun k h=>by
 rw[List.getD_eq_getElem?_getD]at h⊢
 rw[List.getElem?_set]
 split
 ·split
  ·rfl
  ·rename_i e hl;subst e;rw[List.getElem?_eq_none (by omega)]at h;simp at h
 ·exact h⟩
theorem ZKv(i:Nat): ∀(l:List Int) (B:List Bool),LeB B (ZKk i l B)
 |[],B=>.refl B
 |t::r,B=>by
  simp only[ZKk]
  split
  ·split
   ·exact(ZL5 B _).trans (ZKv i r _)
   ·exact ZKv i r B
  ·exact .refl B
theorem ZKH: ∀(l:List ZJ) (i:Nat) (B:List Bool),LeB B (ZKj l i B)
 |[],_,B=>.refl B
 |x::r,i,B=>(ZKv i _ B).trans (ZKH r (i+1) _)
theorem ZKQ(i:Nat): ∀(l:List Int) (B:List Bool),ZKk i l B=B→B.getD i false=true→∀t∈l,0≤t→t.toNat<B.length→B.getD t.toNat false=true
 |[],_,_,_,t,ht,_,_=>by simp at ht
 |u::r,B,h,hi,t,ht,t0,tl=>by
  simp only[ZKk,if_pos hi]at h
  by_cases u0:0≤u
  ·rw[if_pos u0]at h
   have e:B.set u.toNat true=B:=by
    refine LeB.anti ?_ (ZL5 B _)
    have:=ZKv i r (B.set u.toNat true)
    rwa[h]at this
   rw[e]at h
   rcases List.mem_cons.1 ht with rfl|ht
   ·rw[←e,List.getD_eq_getElem?_getD,List.getElem?_set];simp[tl]
   ·exact ZKQ i r B h hi t ht t0 tl
  ·rw[if_neg u0]at h
   rcases List.mem_cons.1 ht with rfl|ht
   ·omega
   ·exact ZKQ i r B h hi t ht t0 tl
theorem ZLk: ∀(l:List ZJ) (i:Nat) (B:List Bool),ZKj l i B=B→∀(k:Nat) x,l[k]? =some x→ZKk (i+k) (ZGc x) B=B
 |[],_,_,_,k,x,hx=>by simp at hx
 |y::r,i,B,h,k,x,hx=>by
  simp only[ZKj]at h
  have e:ZKk i (ZGc y) B=B:=by
   refine LeB.anti ?_ (ZKv i _ B)
   have:=ZKH r (i+1) (ZKk i (ZGc y) B)
   rwa[h]at this
  rw[e]at h
  cases k with
  |zero=>simp only[List.getElem?_cons_zero,Option.some.injEq]at hx;subst hx;exact e
  |succ k=>have:=ZLk r (i+1) B h k x (by simpa using hx);rwa[Nat.add_right_comm]at this
theorem ZMc(B:List Bool):B.count true≤B.length:=List.count_le_length
theorem ZKz{x:ZJ}{t:Int}:t∈ZGc x↔t∈ZGb x:=by
 unfold ZGc ZGb
 simp only[List.mem_append,List.mem_cons,List.not_mem_nil,or_false]
 exact or_comm
section
variable (m : Zb) (n : Nat) (hn : m.States.l.length = n) (h0 : 0 < n) (hg : ∀ i x, Zh m.States.l i = some x → ZDI m x)
include hn h0 hg in
theorem ZKU:(ZKh m).getD 0 false=true∧∀(k:Nat) x,m.States.l[k]? =some x→(ZKh m).getD k false=true→∀t∈ZGb x,0≤t→(ZKh m).getD t.toNat false=true:=by
 have hst:(ZKi n).length=n:=by simp[ZKi]
 have e:ZKh m=rep (ZKj m.States.l 0) n (ZKi n):=by unfold ZKh;rw[ZKM,hn]
 have hlen:=ZKo m
 have hfix:ZKj m.States.l 0 (ZKh m)=ZKh m:=by
  rw[e]
  refine ZLh (μ:=fun B=>n-B.count true) (I:=fun B=>B.length=n) (fun B hB=>by rw[ZKs];exact hB) (fun B hB=> ?_) n (ZKi n) hst (by omega)
  have hle:=ZKH m.States.l 0 B
  obtain⟨c1,c2⟩:=LeB.cnt hle
  have c3:=ZMc (ZKj m.States.l 0 B)
  rw[ZKs,hB]at c3
  by_cases h:B.count true=(ZKj m.States.l 0 B).count true
  ·exact .inl (c2 h).symm
  ·right;omega
 have h00:(ZKh m).getD 0 false=true:=by
  rw[e]
  refine ZKX (I:=fun B=>B.getD 0 false=true) (fun B hB=>(ZKH m.States.l 0 B).2 0 hB) n (ZKi n) ?_
  cases n with
  |zero=>omega
  |succ n=>rfl
 refine⟨h00,fun k x hx hk t ht t0=> ?_⟩
 have hK:=ZLk m.States.l 0 _ hfix k x hx
 rw[Nat.zero_add]at hK
 have hgx:=hg (k:Int) x (by simp[Zh,hx])
 have hb:=(hgx.nx t ht).2
 exact ZKQ k (ZGc x) _ hK hk t (ZKz.2 ht) t0 (by rw[hlen];omega)
theorem ZKJ{Q:List (Bool ×Sl)→Prop}(out:Sl)(ok:Int→Prop)(hQ: ∀P t,Q P→ok t→0≤t→Q (atP P t.toNat out)): ∀(l:List Int) (c:Bool) (P:List (Bool ×Sl)),(∀t∈l,ok t)→Q P→Q (ZDB out l c P).2
 |[],_,_,_,h=>h
 |t::r,c,P,hl,h=>by
  have hr: ∀u∈r,ok u:=fun u hu=>hl u (List.mem_cons_of_mem _ hu)
  simp only[ZDB]
  split
  ·exact ZKJ out ok hQ r c P hr h
  ·split
   ·exact ZKJ out ok hQ r c P hr h
   ·exact ZKJ out ok hQ r true _ hr (hQ P t h (hl t List.mem_cons_self) (by omega))
theorem ZKB{Q:List (Bool ×Sl)→Prop}(l0:List ZJ)(hQ: ∀(k:Nat) x P s t,l0[k]? =some x→Q P→P.getD k (false,0)=(true,s)→t∈ZGb x→0≤t→∀P',Q P'→Q (atP P' t.toNat (ZDw x.Exts.l s))): ∀(l:List ZJ) (i:Nat) (c:Bool) (P:List (Bool ×Sl)),l0.drop i=l→Q P→Q (ZDx l i c P).2
 |[],_,_,_,_,h=>h
 |x::r,i,c,P,hd,h=>by
  have hx:l0[i]? =some x:=by
   have:=congrArg (fun q=>q[0]?) hd
   simpa using this
  have hd':l0.drop (i+1)=r:=by
   have:=congrArg (List.drop 1) hd
   simpa using this
  simp only[ZDx]
  split
  ·exact ZKB l0 hQ r _ _ P hd' h
  ·rename_i c0
   refine ZKB l0 hQ r _ _ _ hd' ?_
   have hs:P.getD i (false,0)=(true,(P.getD i (false,0)).2):=by
    generalize P.getD i (false,0)=q at*
    obtain⟨a,b⟩:=q
    cases a with
    |false=>exact absurd rfl c0
    |true=>rfl
   exact ZKJ _ (fun t=>t∈ZGb x) (fun P' t hP' ht t0=>hQ i x P _ t hx h hs ht t0 P' hP') (ZGb x) c P (fun t ht=>ht) h
theorem ZK1{Q:List (Bool ×Sl)→Prop}(l0:List ZJ)(hQ: ∀(k:Nat) x P s t,l0[k]? =some x→Q P→P.getD k (false,0)=(true,s)→t∈ZGb x→0≤t→∀P',Q P'→Q (atP P' t.toNat (ZDw x.Exts.l s))){P F:List (Bool ×Sl)}(h:SpR l0 P F)(hP:Q P):Q F:=by
 induction h with
 |refl=>exact hP
 |step P F _ ih=>exact ih (ZKB l0 hQ l0 0 false P rfl hP)
theorem ZKY(P:List (Bool ×Sl))(t i:Nat)(s:Sl):(atP P t s).getD i (false,0)=if i=t∧t<P.length then Js (P.getD t (false,0)) s else P.getD i (false,0):=by
 unfold atP
 rw[List.getD_eq_getElem?_getD,List.getElem?_set]
 by_cases h:t=i
 ·subst h
  by_cases hl:t<P.length
  ·simp[hl]
  ·simp only[hl,if_true,if_false,and_false]
   rw[List.getD_eq_getElem?_getD,List.getElem?_eq_none (by omega)]
 ·rw[if_neg h,if_neg (by omega),List.getD_eq_getElem?_getD]
theorem ZMe(p:Bool ×Sl)(s:Sl):(Js p s).1=true:=by unfold Js;split<;>rfl
include hn h0 hg in
theorem ZKZ(F:List (Bool ×Sl))(hspr:SpR m.States.l (ZDX n) F)(hfix: ∀(k:Nat) x,m.States.l[k]? =some x→ZHu F k x): ∀i,(F.getD i (false,0)).1=(ZKh m).getD i false:=by
 obtain⟨r0,r1⟩:=ZKU m n hn h0 hg
 have hF0:=ZHe hspr (ZGQ h0)
 have up: ∀i,(F.getD i (false,0)).1=true→(ZKh m).getD i false=true:=by
  refine ZK1 (Q:=fun P=> ∀i,(P.getD i (false,0)).1=true→(ZKh m).getD i false=true) m.States.l (fun k x P s t hx hP hk ht t0 P' hP' i hi=> ?_) hspr (fun i hi=> ?_)
  ·rw[ZKY]at hi
   split at hi
   ·rename_i c;rw[c.1]
    exact r1 k x hx (hP k (by rw[hk])) t ht t0
   ·exact hP' i hi
  ·unfold ZDX at hi
   rw[List.getD_eq_getElem?_getD,List.getElem?_set]at hi
   split at hi
   ·rename_i c;rw[←c];exact r0
   ·rw[List.getElem?_replicate]at hi;split at hi<;>simp at hi
 have down: ∀i,(ZKh m).getD i false=true→(F.getD i (false,0)).1=true:=by
  have e:ZKh m=rep (ZKj m.States.l 0) n (ZKi n):=by unfold ZKh;rw[ZKM,hn]
  rw[e]
  have stepK: ∀(k:Nat) x,m.States.l[k]? =some x→∀(l:List Int) (B:List Bool),(∀t∈l,t∈ZGb x)→(∀i,B.getD i false=true→(F.getD i (false,0)).1=true)→∀i,(ZKk k l B).getD i false=true→(F.getD i (false,0)).1=true:=by
   intro k x hx l
   induction l with
   |nil=>intro B _ hB;exact hB
   |cons t r ih=>
    intro B hl hB
    simp only[ZKk]
    split
    ·rename_i hk
     split
     ·rename_i t0
      refine ih _ (fun u hu=>hl u (List.mem_cons_of_mem _ hu)) fun i hi=> ?_
      rw[List.getD_eq_getElem?_getD,List.getElem?_set]at hi
      split at hi
      ·rename_i c;rw[←c]
       exact(ZHh (hfix k x hx (hB k hk) t (hl t List.mem_cons_self) t0)).1
      ·exact hB i (by rw[List.getD_eq_getElem?_getD];exact hi)
     ·exact ih B (fun u hu=>hl u (List.mem_cons_of_mem _ hu)) hB
    ·exact hB
  have stepS: ∀(l:List ZJ) (i:Nat) (B:List Bool),m.States.l.drop i=l→(∀i,B.getD i false=true→(F.getD i (false,0)).1=true)→∀j,(ZKj l i B).getD j false=true→(F.getD j (false,0)).1=true:=by
   intro l
   induction l with
   |nil=>intro i B _ hB;exact hB
   |cons x r ih=>
    intro i B hd hB
    have hx:m.States.l[i]? =some x:=by
     have:=congrArg (fun q=>q[0]?) hd
     simpa using this
    exact ih (i+1) _ (by have:=congrArg (List.drop 1) hd;simpa using this) (stepK i x hx (ZGc x) B (fun t ht=>ZKz.1 ht) hB)
  refine ZKX (I:=fun B=> ∀i,B.getD i false=true→(F.getD i (false,0)).1=true) (fun B hB=>stepS m.States.l 0 B rfl hB) n (ZKi n) fun i hi=> ?_
  unfold ZKi at hi
  rw[List.getD_eq_getElem?_getD,List.getElem?_set]at hi
  split at hi
  ·rename_i c;rw[←c,hF0]
  ·rw[List.getElem?_replicate]at hi;split at hi<;>simp at hi
 intro i
 cases hq:(ZKh m).getD i false with
 |true=>exact down i hq
 |false=>
  cases hF:(F.getD i (false,0)).1 with
  |false=>rfl
  |true=>rw[up i hF]at hq;simp at hq
end
end Go.VE.Un
namespace Go.VE.Un
open Go.VE
def ZLw(s:Sl):Nat:=(List.range 64).countP fun k=>s.getLsbD k
theorem ZK4{p q:Nat→Bool}: ∀{l:List Nat},(∀k∈l,p k=true→q k=true)→l.countP p≤l.countP q∧(l.countP p=l.countP q→∀k∈l,p k=q k)
 |[],_=>⟨Nat.le_refl _,fun _ k hk=>by simp at hk⟩
 |x::l,h=>by
  obtain⟨h1,h2⟩:=ZK4 (p:=p) (q:=q) (l:=l) fun k hk=>h k (List.mem_cons_of_mem _ hk)
  have h0:=h x List.mem_cons_self
  simp only[List.countP_cons,List.mem_cons]
  cases hp:p x<;>cases hq:q x<;>simp[hp,hq]at h0⊢
  ·exact⟨h1,h2⟩
  ·exact⟨by omega,fun e=>by omega⟩
  ·exact⟨h1,h2⟩
theorem ZLc{a b:Sl}(h:Xv a b):ZLw a≤ZLw b∧(ZLw a=ZLw b→a=b):=by
 obtain⟨h1,h2⟩:=ZK4 (p:=fun k=>a.getLsbD k) (q:=fun k=>b.getLsbD k) (l:=List.range 64) fun k _ e=>h k e
 exact⟨h1,fun e=>BitVec.eq_of_getLsbD_eq fun k hk=>h2 e k (List.mem_range.2 hk)⟩
theorem Xv.anti{a b:Sl}(h:Xv a b)(g:Xv b a):a=b:=(ZLc h).2 (Nat.le_antisymm (ZLc h).1 (ZLc g).1)
theorem sub_zero(s:Sl):Xv 0 s:=fun k h=>by simp at h
def LeA(A C:List Sl):Prop:=A.length=C.length∧∀i:Nat,Xv (A.getD i 0) (C.getD i 0)
def ZLl(A:List Sl):Nat:=(A.map ZLw).sum
theorem LeA.refl(A:List Sl):LeA A A:=⟨rfl,fun _=>.refl _⟩
theorem LeA.trans{A B C:List Sl}(h:LeA A B)(g:LeA B C):LeA A C:=⟨h.1.trans g.1,fun i=>(h.2 i).trans (g.2 i)⟩
theorem LeA.pop: ∀{A C:List Sl},LeA A C→ZLl A≤ZLl C∧(ZLl A=ZLl C→A=C)
 |[],[],_=>⟨Nat.le_refl _,fun _=>rfl⟩
 |[],b::B,h=>by have:=h.1;simp at this
 |a::A,[],h=>by have:=h.1;simp at this
 |a::A,b::B,h=>by
  have ht:LeA A B:=⟨by simpa using h.1,fun i=>by simpa using h.2 (i+1)⟩
  obtain⟨h1,h2⟩:=LeA.pop ht
  have h0:=h.2 0
  simp only[List.getD_cons_zero]at h0
  obtain⟨g1,g2⟩:=ZLc h0
  simp only[ZLl,List.map_cons,List.sum_cons]at h1 h2⊢
  refine⟨by omega,fun e=> ?_⟩
  rw[g2 (by omega),h2 (by omega)]
theorem LeA.anti{A C:List Sl}(h:LeA A C)(g:LeA C A):A=C:=(LeA.pop h).2 (Nat.le_antisymm (LeA.pop h).1 (LeA.pop g).1)
theorem ZK0(A:List Sl)(t i:Nat)(s:Sl):(A.set t s).getD i 0=if i=t∧t<A.length then s else A.getD i 0:=by
 rw[List.getD_eq_getElem?_getD,List.getElem?_set]
 by_cases h:t=i
 ·subst h
  by_cases hl:t<A.length
  ·simp[hl]
  ·simp only[hl,if_true,if_false,and_false]
   rw[List.getD_eq_getElem?_getD,List.getElem?_eq_none (by omega)]
 ·rw[if_neg h,if_neg (by omega),List.getD_eq_getElem?_getD]
theorem ZL7(A:List Sl)(t:Nat)(s:Sl):LeA (A.set t (A.getD t 0&&&s)) A:=⟨by simp,fun i=>by
 rw[ZK0];split
 ·rename_i c;rw[c.1];exact .andl _ _
 ·exact .refl _⟩
theorem ZKW(x:ZJ)(i:Nat): ∀(l:List Int) (A:List Sl),LeA (ZKx x i l A) A
 |[],A=>.refl A
 |t::r,A=>by
  simp only[ZKx]
  split
  ·exact(ZKW x i r _).trans (ZL7 A _ _)
  ·exact ZKW x i r A
theorem ZKI(B:List Bool): ∀(l:List ZJ) (i:Nat) (A:List Sl),LeA (ZKu B l i A) A
 |[],_,A=>.refl A
 |x::r,i,A=>by
  simp only[ZKu]
  split
  ·exact(ZKI B r (i+1) _).trans (ZKW x i _ A)
  ·exact ZKI B r (i+1) A
theorem ZLj(x:ZJ)(i:Nat): ∀(l:List Int) (A:List Sl),ZKx x i l A=A→∀t∈l,0≤t→Xv (A.getD t.toNat 0) (ZDw x.Exts.l (A.getD i 0))
 |[],_,_,t,ht,_=>by simp at ht
 |u::r,A,h,t,ht,t0=>by
  simp only[ZKx]at h
  by_cases u0:0≤u
  ·rw[if_pos u0]at h
   have e:A.set u.toNat (A.getD u.toNat 0&&&ZDw x.Exts.l (A.getD i 0))=A:=by
    refine LeA.anti (ZL7 A _ _) ?_
    have:=ZKW x i r (A.set u.toNat (A.getD u.toNat 0&&&ZDw x.Exts.l (A.getD i 0)))
    rwa[h]at this
   rw[e]at h
   rcases List.mem_cons.1 ht with rfl|ht
   ·have:=ZK0 A t.toNat t.toNat (A.getD t.toNat 0&&&ZDw x.Exts.l (A.getD i 0))
    rw[e]at this
    split at this
    ·rw[this];exact .andr _ _
    ·rename_i hl
     have:A.getD t.toNat 0=0:=by rw[List.getD_eq_getElem?_getD,List.getElem?_eq_none (by omega)];rfl
     rw[this];exact sub_zero _
   ·exact ZLj x i r A h t ht t0
  ·rw[if_neg u0]at h
   rcases List.mem_cons.1 ht with rfl|ht
   ·omega
   ·exact ZLj x i r A h t ht t0
theorem ZLg(B:List Bool): ∀(l:List ZJ) (i:Nat) (A:List Sl),ZKu B l i A=A→∀(k:Nat) x,l[k]? =some x→B.getD (i+k) false=true→ZKx x (i+k) (ZGc x) A=A
 |[],_,_,_,k,x,hx,_=>by simp at hx
 |y::r,i,A,h,k,x,hx,hb=>by
  simp only[ZKu]at h
  by_cases c:B.getD i false=true
  ·rw[if_pos c]at h
   have e:ZKx y i (ZGc y) A=A:=by
    refine LeA.anti (ZKW y i _ A) ?_
    have:=ZKI B r (i+1) (ZKx y i (ZGc y) A)
    rwa[h]at this
   rw[e]at h
   cases k with
   |zero=>simp only[List.getElem?_cons_zero,Option.some.injEq]at hx;subst hx;exact e
   |succ k=>have:=ZLg B r (i+1) A h k x (by simpa using hx) (by rwa[Nat.add_right_comm]);rwa[Nat.add_right_comm]at this
  ·rw[if_neg c]at h
   cases k with
   |zero=>rw[Nat.add_zero]at hb;exact absurd hb c
   |succ k=>have:=ZLg B r (i+1) A h k x (by simpa using hx) (by rwa[Nat.add_right_comm]);rwa[Nat.add_right_comm]at this
theorem all_get{m:Zb}(hc:Yr m=none)(k:Nat):(ZEx m).getLsbD k=decide (k<(Yp m.Insts.l).toNat):=by
 have h2:=(ZtQ hc).2
 have:=ZLu (Yp m.Insts.l).toNat 0 0 k (by omega)
 simp only[Nat.zero_le,true_and,Nat.zero_add]at this
 have hz:((0:Nat):Int)=0:=rfl
 rw[hz]at this
 unfold ZEx
 rw[this];simp
theorem ZL9{m:Zb}(hc:Yr m=none){s:Sl}(h:Xv s (ZEx m)):ZLw s≤32:=by
 have h1:=(ZLc h).1
 have h2:=(ZtQ hc).2
 have h3:ZLw (ZEx m)=(List.range 64).countP fun k=>decide (k<(Yp m.Insts.l).toNat):=by
  unfold ZLw;congr 1;funext k;exact all_get hc k
 have h4:=(ZK4 (p:=fun k=>decide (k<(Yp m.Insts.l).toNat)) (q:=fun k=>decide (k<32)) (l:=List.range 64) fun k _ e=>by simp at e⊢;omega).1
 have h5:(List.range 64).countP (fun k=>decide (k<32))=32:=by decide
 omega
theorem ZMd{m:Zb}(hc:Yr m=none){x:Ext}(he:WY m x=0)(k:x.Kind.n=0){s:Sl}(h:Xv s (ZEx m)):Xv (VY s x.N.n) (ZEx m):=by
 unfold WY at he
 rw[if_pos k]at he
 have:=JP (by omega) he
 have hs:(Xl m x.N.n).isSome=true:=by
  cases hi:ZKt m x.N.n with
  |none=>rw[hi]at this;simp at this
  |some p=>
   unfold ZKt at hi
   cases hs:Xl m x.N.n with
   |none=>rw[hs]at hi;simp at hi
   |some h=>rfl
 obtain⟨n0,n1⟩:=ZHp hs
 intro j hj
 rw[ZbO,Bool.or_eq_true]at hj
 rcases hj with hj|hj
 ·exact h j hj
 ·rw[all_get hc]
  unfold isS at hj
  simp at hj⊢
  omega
theorem ZKr{m:Zb}(hc:Yr m=none): ∀(l:List Ext) {s:Sl},(∀y∈l,WY m y=0)→Xv s (ZEx m)→Xv (ZDw l s) (ZEx m)
 |[],s,_,h=>h
 |x::r,s,hl,h=>by
  simp only[ZDw]
  split
  ·rename_i k;exact ZKr hc r (fun y hy=>hl y (List.mem_cons_of_mem _ hy)) (ZMd hc (hl x List.mem_cons_self) k h)
  ·exact ZKr hc r (fun y hy=>hl y (List.mem_cons_of_mem _ hy)) h
theorem ZLq(B:List Bool)(s:Sl): ∀(j i:Nat) (A:List Sl) (k:Nat),(ZKq B s j i A).getD k 0=if i≤k∧k<i+j∧k<A.length∧B.getD k false=true then s else A.getD k 0
 |0,i,A,k=>by simp only[ZKq];rw[if_neg (by omega)]
 |j+1,i,A,k=>by
  simp only[ZKq]
  rw[ZLq B s j (i+1)]
  by_cases hb:B.getD i false=true
  ·rw[if_pos hb,ZK0]
   simp only[List.length_set]
   by_cases hk:k=i
   ·subst hk
    rw[if_neg (by omega)]
    by_cases hl:k<A.length
    ·rw[if_pos ⟨rfl,hl⟩,if_pos ⟨Nat.le_refl _,by omega,hl,hb⟩]
    ·rw[if_neg (by omega),if_neg (by omega)]
   ·by_cases c:i+1≤k∧k<i+1+j∧k<A.length∧B.getD k false=true
    ·rw[if_pos c,if_pos ⟨by omega,by omega,c.2.2⟩]
    ·rw[if_neg c,if_neg (by omega),if_neg (fun d=>c ⟨by omega,by omega,d.2.2⟩)]
  ·rw[if_neg hb]
   by_cases c:i+1≤k∧k<i+1+j∧k<A.length∧B.getD k false=true
   ·rw[if_pos c,if_pos ⟨by omega,by omega,c.2.2⟩]
   ·rw[if_neg c,if_neg (fun d=>c ⟨by
     rcases Nat.lt_or_ge i k with h|h
     ·omega
     ·have:k=i:=by omega
      rw[this]at d;exact absurd d.2.2.2 hb,by omega,d.2.2⟩)]
end Go.VE.Un
