/- Joined texts: GrB, GrC, GrD, CfL. No condition: what each theorem needs stands in it. -/
import Derived.Test.YtlekfkibeafdiaaGreatCc16
import Derived.Test.YtlekfkibeafdiaaGreatCc15
namespace Go.VE.Un
open Go.VE
structure ZDI (m:Zb) (x:ZJ):Prop where
 ext:Zx (WY m) x.Exts.l=0
 exts:x.Exts.l.length≤4
 cases:x.Cases.l.length≤8
 nx: ∀t∈ZGb x,-2≤t∧t<(m.States.l.length:Int)
 keys:QW m x.Keys.l true=0
theorem ZE2{m:Zb}{n:Int}(h:UX m n=0): -2≤n∧n<(m.States.l.length:Int):=by
 unfold UX at h
 have:=JP (by omega) h
 simp[inB]at this;omega
theorem ZDO{m:Zb}(hc:Yr m=none):0<m.States.l.length∧m.States.l.length≤16∧∀i x,Zh m.States.l i=some x→ZDI m x:=by
 have hp:=ZKS hc 4 (by omega) (by omega)
 have hp:(if m.States.l.length=0 then((0:Int),(5:Int))else Yw m.States.l.length 16 (W6 m)).2=0:=by simpa[Zn]using hp
 split at hp
 ·simp at hp
 ·rename_i h0
  obtain⟨h1,h2⟩:=ZaH hp
  refine⟨by omega,by omega,fun i x hg=> ?_⟩
  have hi:=Zc0 hg
  have hs:=h2 i hi.1 hi.2
  simp only[W6,hg,stE]at hs
  split at hs
  ·rename_i a1
   split at hs
   ·rename_i a2
    split at hs
    ·rename_i a3
     split at hs
     ·rename_i a4
      have hA:=UF a1
      have hB:=UF a3
      have e1:=JP (by omega) (hA (Zl (decide ((x.Exts.l.length:Int)≤4)) 2) (by simp))
      have e2:=JP (by omega) (hB (Zl (decide ((x.Cases.l.length:Int)≤8)) 2) (by simp))
      have e3:QW m x.Keys.l true=0:=hB _ (by simp)
      simp at e1 e2
      refine⟨a2,by omega,by omega,fun t ht=> ?_,e3⟩
      unfold ZGb at ht
      rcases List.mem_cons.1 ht with rfl|ht
      ·exact ZE2 hs
      ·obtain⟨y,hy,rfl⟩:=List.mem_map.1 ht
       have hy1:Vx m y ((WW m x.Keys.l 0).getD 0)=0:=ZD2 a4 y hy
       unfold Vx at hy1
       split at hy1
       ·exact ZE2 (UF hy1 _ (by simp))
       ·simp at hy1
     ·rename_i hx;exact absurd hs hx
    ·rename_i hx;exact absurd hs hx
   ·rename_i hx;exact absurd hs hx
  ·rename_i hx;exact absurd hs hx
theorem ZFN(a b:Bool ×Sl):eqV (some [.b,.i]) (plV a) (plV b)=some (decide (a=b)):=by
 obtain⟨a1,a2⟩:=a
 obtain⟨b1,b2⟩:=b
 have:eqV (some [.b,.i]) (plV (a1,a2)) (plV (b1,b2))=some ((a1==b1)&&((a2.toNat:Int)==b2.toNat)):=by
  cases a1<;>cases b1<;>by_cases h:(a2.toNat:Int)=b2.toNat<;>simp[eqV,Ux,eqK,plV,sV,h]
 rw[this]
 congr 1
 rw[Bool.eq_iff_iff]
 simp only[Bool.and_eq_true,beq_iff_eq,decide_eq_true_eq,Prod.mk.injEq]
 constructor
 ·rintro⟨h1,h2⟩;exact⟨h1,BitVec.eq_of_toNat_eq (by omega)⟩
 ·rintro⟨h1,h2⟩;subst h2;exact⟨h1,rfl⟩
def ZDB(out:Sl):List Int→Bool→List (Bool ×Sl)→Bool ×List (Bool ×Sl)
 |[],c,P=>(c,P)
 |t::r,c,P=>
  if t<0 then ZDB out r c P
  else if Js (P.getD t.toNat (false,0)) out=P.getD t.toNat (false,0)then ZDB out r c P
  else ZDB out r true (atP P t.toNat out)
theorem ZDG(out:Sl): ∀(l:List Int) (c:Bool) (P:List (Bool ×Sl)),(ZDB out l c P).2.length=P.length
 |[],_,_=>rfl
 |t::r,c,P=>by
  simp only[ZDB]
  split
  ·exact ZDG out r c P
  ·split
   ·exact ZDG out r c P
   ·rw[ZDG out r true];simp
def ZDx:List ZJ→Nat→Bool→List (Bool ×Sl)→Bool ×List (Bool ×Sl)
 |[],_,c,P=>(c,P)
 |x::r,i,c,P=>
  if(P.getD i (false,0)).1=false then ZDx r (i+1) c P
  else ZDx r (i+1) (ZDB (ZDw x.Exts.l (P.getD i (false,0)).2) (ZGb x) c P).1 (ZDB (ZDw x.Exts.l (P.getD i (false,0)).2) (ZGb x) c P).2
theorem ZDS: ∀(l:List ZJ) (i:Nat) (c:Bool) (P:List (Bool ×Sl)),(ZDx l i c P).2.length=P.length
 |[],_,_,_=>rfl
 |x::r,i,c,P=>by
  simp only[ZDx]
  split
  ·exact ZDS r _ _ _
  ·rw[ZDS r,ZDG]
section
variable (e0 e2 e3 : List V) (n : Nat) (hn : n ≤ 16)
theorem ZE4(N:GL ZJ)(len i:Int)(t:Tag)(L:List Int)(hL:L.length≤9)(hb: ∀t∈L,t<(n:Int))(out:Sl): ∀(r:List Int) (k:Int) (c:Bool) (P:List (Bool ×Sl)),0≤k→k≤L.length→L.drop k.toNat=r→P.length=n→∃fr,(orc vp).loop 0 [1,5,8,13,14,15,34,35,36] ZEB [(1,.gsl 1 n 2 0 n),(5,.bool c),(8,sV out),(13,GL.v 5 ZJ.v N),(14,.int .i64 len),(15,.int .i64 i),(34,.sl 1 (L.map (V.int .i64)) t),(35,.int .i64 L.length),(36,.int .i64 k)] [.arr e0,.arr (P.map plV),.arr e2,.arr e3]=
 some (.brk 2,(1,.gsl 1 n 2 0 n)::(5,.bool (ZDB out r c P).1)::(8,sV out)::(13,GL.v 5 ZJ.v N)::(14,.int .i64 len)::(15,.int .i64 i)::fr,[.arr e0,.arr ((ZDB out r c P).2.map plV),.arr e2,.arr e3]):=by
 have hbl:=fun k=>Yq (k:=k) (f:=V.int .i64) (fun _=>rfl) L
 intro r
 induction r with
 |nil=>
  intro k c P hk hk2 hd hP
  have:=Zq hk hd
  have e:k=L.length:=by omega
  subst e
  refine⟨[(34,.sl 1 (L.map (V.int .i64)) t),(35,.int .i64 L.length),(36,.int .i64 L.length),(37,.bool false)],?_⟩
  simp only[ZDB]
  rw[ZEa]
  simp -implicitDefEqProofs [ZDQ,hbl]
 |cons y r ih=>
  intro k c P hk hk2 hd hP
  obtain⟨h1,h2,h3⟩:=Zp hk hd
  have w1:IntKind.i64.wrap (k+1)=k+1:=ZK (by omega) (by omega)
  have hy:y∈L:=by
   have:y∈L.drop k.toNat:=by rw[hd];simp
   exact List.mem_of_mem_drop this
  have hyn:=hb y hy
  have g1:Yb 1 (.sl 1 (L.map (V.int .i64)) t) (.int .i64 k)=some (.eptr (.int .i64 y) 0 t):=by
   rw[Y7,h1];rfl
  simp only[ZDB]
  by_cases c0:y<0
  ·rw[if_pos c0]
   obtain⟨fr,ih⟩:=ih (k+1) c P (by omega) (by omega) h3 hP
   refine⟨fr,?_⟩
   rw[ZEa,←ih]
   generalize L.map (V.int .i64)=A at*
   simp -implicitDefEqProofs [ZDQ,g1,h2,w1,c0,hbl]
  ·rw[if_neg c0]
   have hia:=iaG (B:=1) (z:=2) (ep:=n) (i:=y) (by omega) hyn
   have hi:y.toNat<P.length:=by omega
   have cA:YG (P.map plV) n=some (P.map plV):=Yt (by simp[hP])
   have gA:(P.map plV)[y.toNat]? =some (plV (P.getD y.toNat (false,0))):=by
    rw[List.getElem?_map,List.getD_eq_getElem?_getD,List.getElem?_eq_getElem hi];rfl
   have hm:=ZEk (P.getD y.toNat (false,0)) out
   have he:=ZFN (Js (P.getD y.toNat (false,0)) out) (P.getD y.toNat (false,0))
   have hps:=fun k=>ZDD k P
   have hs2: ∀a b,stc (plV a) 2 0 (plV b)=some (plV b):=fun a b=>Zie rfl rfl
   have hl2: ∀a,ldc (plV a) true 2 0=some (plV a):=fun a=>QE rfl
   have hok: ∀a,okV (plV a)=true:=fun _=>rfl
   have hz:V.agg [.bool false,.int .u64 0]=plV (false,0#64):=rfl
   by_cases c1:Js (P.getD y.toNat (false,0)) out=P.getD y.toNat (false,0)
   ·rw[if_pos c1]
    rw[decide_eq_true c1]at he
    obtain⟨fr,ih⟩:=ih (k+1) c P (by omega) (by omega) h3 hP
    refine⟨fr,?_⟩
    rw[ZEa,←ih]
    rw[c1]at hm he
    generalize P.getD y.toNat (false,0)=q at*
    generalize P.map plV=B at*
    generalize L.map (V.int .i64)=A at*
    simp -implicitDefEqProofs [ZDQ,g1,h2,w1,c0,hbl,hia,cA,gA,hm,he,hps,hs2,hl2,hok,hz]
   ·rw[if_neg c1]
    rw[decide_eq_false c1]at he
    obtain⟨fr,ih⟩:=ih (k+1) true (atP P y.toNat out) (by omega) (by omega) h3 (by simp[hP])
    refine⟨fr,?_⟩
    have hat:(atP P y.toNat out).map plV=(P.map plV).set y.toNat (plV (Js (P.getD y.toNat (false,0)) out)):=by unfold atP;rw[List.map_set]
    have hps2:=fun k=>ZDD k (atP P y.toNat out)
    rw[ZEa,←ih]
    rw[hat]at hps2⊢
    generalize Js (P.getD y.toNat (false,0)) out=f at*
    generalize P.getD y.toNat (false,0)=q at*
    generalize P.map plV=B at*
    generalize L.map (V.int .i64)=A at*
    simp -implicitDefEqProofs [ZDQ,g1,h2,w1,c0,hbl,hia,cA,gA,hm,he,hps,hps2,hs2,hl2,hok,hz]
end
section
variable (m : Zb) (hm : Clo m) (n : Nat) (hn : m.States.l.length = n) (hn2 : n ≤ 16) (hg : ∀ i x, Zh m.States.l i = some x → ZDI m x)
include hm hn hn2 hg in
set_option maxRecDepth 100000 in
theorem ZE9(e0 e2:List V): ∀(r:List ZJ) (i:Nat) (c:Bool) (P:List (Bool ×Sl)),i≤n→m.States.l.drop i=r→P.length=n→∃fr,(orc vp).loop 0 [1,5,13,14,15] ZEP [(1,.gsl 1 n 2 0 n),(5,.bool c),(13,GL.v 5 ZJ.v m.States),(14,.int .i64 n),(15,.int .i64 i)] [.arr e0,.arr (P.map plV),.arr e2]=
 some (.brk 0,(1,.gsl 1 n 2 0 n)::(5,.bool (ZDx r i c P).1)::fr,[.arr e0,.arr ((ZDx r i c P).2.map plV),.arr e2]):=by
 intro r
 induction r with
 |nil=>
  intro i c P hi hd hP
  have hin:i=n:=by
   have:m.States.l.length≤i:=List.drop_eq_nil_iff.1 hd
   omega
  subst hin
  refine⟨[(13,GL.v 5 ZJ.v m.States),(14,.int .i64 i),(15,.int .i64 i),(16,.bool false)],?_⟩
  simp only[ZDx]
  rw[ZEm]
  simp -implicitDefEqProofs [ZDZ]
 |cons x r ih=>
  intro i c P hi hd hP
  have hi2:i<n:=by
   have:i<m.States.l.length:=by
    rcases Nat.lt_or_ge i m.States.l.length with h|h
    ·exact h
    ·rw[List.drop_eq_nil_of_le h]at hd;simp at hd
   omega
  have hlt:(i:Int)<n:=by omega
  have hx:m.States.l[i]? =some x:=by
   have:=congrArg (fun q=>q[0]?) hd
   simpa using this
  have hx':Zh m.States.l (i:Int)=some x:=by simp[Zh,hx]
  have hd':m.States.l.drop (i+1)=r:=by
   have:=congrArg (List.drop 1) hd
   simpa using this
  have hcl:Ze (GL.v 5 ZJ.v m.States)=true:=by
   simp only[Clo,Zb.closed,Bool.and_eq_true]at hm;simp[hm]
  have hxc:=Xc hcl hx'
  have hgx:=hg _ _ hx'
  obtain⟨i2,hi3⟩: ∃i2,i+1=i2:=⟨_,rfl⟩
  have w1:IntKind.i64.wrap ((i:Int)+1)=(i2:Int):=by rw[ZK (by omega) (by omega)];omega
  have hia:=iaG (B:=1) (z:=2) (ep:=n) (i:=(i:Int)) (by omega) hlt
  rw[Int.toNat_natCast]at hia
  have hpl:i<P.length:=by omega
  have cA:YG (P.map plV) n=some (P.map plV):=Yt (by simp[hP])
  have gA:(P.map plV)[i]? =some (plV (P.getD i (false,0))):=by
   rw[List.getElem?_map,List.getD_eq_getElem?_getD,List.getElem?_eq_getElem hpl];rfl
  have hps:=fun k=>ZDD k P
  simp only[ZDx]
  generalize hpp:P.getD i (false,0)=q at gA
  obtain⟨re,s⟩:=q
  simp only
  cases re with
  |false=>
   obtain⟨fr,ih⟩:=ih i2 c P (by omega) (by rw[←hi3];exact hd') hP
   refine⟨fr,?_⟩
   simp only[if_true,hi3]
   rw[ZEm,←ih]
   generalize P.map plV=A at*
   simp -implicitDefEqProofs [ZDZ,hlt,hx',hxc,hia,cA,gA,plV,hps,w1]
  |true=>
   simp only[Bool.true_eq_false,if_false,hi3]
   have hbe:=ZD6 x s
   have hnx:=ZD0 x (by have:=hgx.cases;omega)
   have hnl:(ZGb x).length≤9:=by have:=hgx.cases;unfold ZGb;simp;omega
   obtain⟨fr2,hl⟩:=ZE4 e0 e2 [x.v] n m.States n i (nxT x) (ZGb x) hnl (fun t ht=>by have:=(hgx.nx t ht).2;omega) (ZDw x.Exts.l s) (ZGb x) 0 c P (by omega) (by omega) rfl hP
   have hil:=ZDG (ZDw x.Exts.l s) (ZGb x) c P
   obtain⟨fr,ih⟩:=ih i2 (ZDB (ZDw x.Exts.l s) (ZGb x) c P).1 (ZDB (ZDw x.Exts.l s) (ZGb x) c P).2 (by omega) (by rw[←hi3];exact hd') (by omega)
   refine⟨fr,?_⟩
   rw[ZEm,←ih]
   have hps2:=fun k=>ZDD k (ZDB (ZDw x.Exts.l s) (ZGb x) c P).2
   have hnb:=fun k=>Yq (k:=k) (f:=V.int .i64) (fun _=>rfl) (ZGb x)
   have hnv:nxV x=.sl 1 ((ZGb x).map (V.int .i64)) (nxT x):=rfl
   have hml:((ZGb x).map (V.int .i64)).length=(ZGb x).length:=by simp
   rw[hnv]at hnx
   generalize ZDB (ZDw x.Exts.l s) (ZGb x) c P=q at*
   generalize ZDw x.Exts.l s=o at*
   generalize (ZGb x).map (V.int .i64)=L at*
   generalize (ZGb x).length=ll at*
   generalize nxT x=tt at*
   generalize P.map plV=A at*
   obtain⟨q1,q2⟩:=q
   simp only at hl hps2⊢
   generalize q2.map plV=A2 at*
   simp -implicitDefEqProofs [ZDZ,hlt,hx',hxc,hia,cA,gA,plV,hps,hps2,hnb,w1,hbe,hnx,hml,hl]
end
end Go.VE.Un
namespace Go.VE.Un
open Go.VE
def wtP(p:Bool ×Sl):Nat:=if p.1=true then p.2.toNat else 2^64
def msP(P:List (Bool ×Sl)):Nat:=(P.map wtP).sum
theorem ZFv(p:Bool ×Sl)(s:Sl)(h:Js p s≠p):wtP (Js p s)<wtP p:=by
 obtain⟨r,t⟩:=p
 cases r with
 |false=>show s.toNat<2^64;exact s.isLt
 |true=>
  have hm:Js (true,t) s=(true,t&&&s):=rfl
  rw[hm]at h⊢
  show(t&&&s).toNat<t.toNat
  have hle:(t&&&s).toNat≤t.toNat:=by rw[BitVec.toNat_and];exact Nat.and_le_left
  have hne:(t&&&s).toNat≠t.toNat:=fun e=>h (by rw[BitVec.eq_of_toNat_eq e])
  omega
theorem ZFa: ∀(P:List (Bool ×Sl)) (i:Nat) (v:Bool ×Sl),i<P.length→msP (P.set i v)+wtP (P.getD i (false,0))=msP P+wtP v
 |[],i,v,h=>by simp at h
 |p::P,0,v,h=>by simp[msP];omega
 |p::P,i+1,v,h=>by
  have:=ZFa P i v (by simpa using h)
  simp only[msP,List.set_cons_succ,List.map_cons,List.sum_cons,List.getD_cons_succ]at this⊢
  omega
theorem ZFV(P:List (Bool ×Sl))(i:Nat)(s:Sl)(h:i<P.length)(hne:Js (P.getD i (false,0)) s≠P.getD i (false,0)):msP (atP P i s)<msP P:=by
 have h1:=ZFa P i (Js (P.getD i (false,0)) s) h
 have h2:=ZFv _ s hne
 unfold atP;omega
theorem ZEb(out:Sl): ∀(l:List Int) (c:Bool) (P:List (Bool ×Sl)),(∀t∈l,t<(P.length:Int))→(ZDB out l c P=(c,P))∨((ZDB out l c P).1=true∧msP (ZDB out l c P).2<msP P)
 |[],c,P,h=>.inl rfl
 |t::r,c,P,h=>by
  have hr: ∀t∈r,t<(P.length:Int):=fun t ht=>h t (List.mem_cons_of_mem _ ht)
  simp only[ZDB]
  split
  ·exact ZEb out r c P hr
  ·split
   ·exact ZEb out r c P hr
   ·rename_i c0 c1
    have hlt:=h t List.mem_cons_self
    have hm:=ZFV P t.toNat out (by omega) c1
    rcases ZEb out r true (atP P t.toNat out) (by simpa using hr)with e|⟨e1,e2⟩
    ·rw[e];exact .inr ⟨rfl,hm⟩
    ·exact .inr ⟨e1,by omega⟩
theorem ZD5(k:Nat): ∀(l:List ZJ) (i:Nat) (c:Bool) (P:List (Bool ×Sl)),P.length=k→(∀x∈l,∀t∈ZGb x,t<(k:Int))→(ZDx l i c P=(c,P))∨((ZDx l i c P).1=true∧msP (ZDx l i c P).2<msP P)
 |[],i,c,P,hP,h=>.inl rfl
 |x::r,i,c,P,hP,h=>by
  have hr: ∀x∈r,∀t∈ZGb x,t<(k:Int):=fun x hx=>h x (List.mem_cons_of_mem _ hx)
  simp only[ZDx]
  split
  ·exact ZD5 k r _ c P hP hr
  ·have hi:=ZEb (ZDw x.Exts.l (P.getD i (false,0)).2) (ZGb x) c P (by rw[hP];exact h x List.mem_cons_self)
   have hl:=ZDG (ZDw x.Exts.l (P.getD i (false,0)).2) (ZGb x) c P
   generalize ZDB (ZDw x.Exts.l (P.getD i (false,0)).2) (ZGb x) c P=q at hi hl⊢
   have hs:=ZD5 k r (i+1) q.1 q.2 (by omega) hr
   rcases hi with e|⟨e1,e2⟩
   ·rw[e]at hs⊢;exact hs
   ·rcases hs with f|⟨f1,f2⟩
    ·rw[f];exact .inr ⟨e1,e2⟩
    ·exact .inr ⟨f1,by omega⟩
inductive SpR (l:List ZJ):List (Bool ×Sl)→List (Bool ×Sl)→Prop
 |refl (P):SpR l P P
 |step (P F):SpR l (ZDx l 0 false P).2 F→SpR l P F
section
variable (m : Zb) (hm : Clo m) (n : Nat) (hn : m.States.l.length = n) (hn2 : n ≤ 16) (hg : ∀ i x, Zh m.States.l i = some x → ZDI m x)
include hm hn hn2 hg in
set_option maxRecDepth 100000 in
theorem ZFw{β:Type}(e0:List V)(P:List (Bool ×Sl))(hP:P.length=n)(kv:V→Zg→Option β):
 rwK vp 0 [.arr e0,.arr (P.map plV)] 479 [m.v,.gsl 1 n 2 0 n] kv=kv (.bool (ZDx m.States.l 0 false P).1) [.arr e0,.arr ((ZDx m.States.l 0 false P).2.map plV)]:=by
 obtain⟨fr,hl⟩:=ZE9 m hm n hn hn2 hg e0 [m.v] m.States.l 0 false P (by omega) rfl hP
 generalize ZDx m.States.l 0 false P=q at*
 obtain⟨c,P2⟩:=q
 have bP:=fun(P:List (Bool ×Sl))=>Yq (k:=2) (fun q=>Uy 2 q) P
 have hgc:WP vp false [.arr e0,.arr (P.map plV)] (.bool c) [.arr e0,.arr (P2.map plV),.arr [m.v]]=(.bool c,[.arr e0,.arr (P2.map plV)]):=by
  rw[Qw (r':=.bool c) Zes (by simp[bP]) (by simp)]
  rfl
 have hz0:((0:Nat):Int)=0:=rfl
 rw[hz0]at hl
 unfold rwK
 rw[K9 ZFJ]
 simp -implicitDefEqProofs [f479,b479,hn,hl,hgc]
include hm hn hn2 hg in
set_option maxRecDepth 100000 in
theorem ZFz: ∀(N:Nat) (P:List (Bool ×Sl)),msP P<N→P.length=n→∃F,SpR m.States.l P F∧F.length=n∧ZDx m.States.l 0 false F=(false,F)∧∃fr,(orc vp).loop 0 [1,3] ZED [(1,.ptr 0 1 0 0),(3,.gsl 1 n 2 0 n)] [.arr [m.v],.arr (P.map plV)]=
 some (.brk 0,(1,.ptr 0 1 0 0)::(3,.gsl 1 n 2 0 n)::fr,[.arr [m.v],.arr (F.map plV)]):=by
 intro N
 induction N with
 |zero=>intro P h;omega
 |succ N ih=>
  intro P hN hP
  have hsp:=ZD5 n m.States.l 0 false P hP (fun x hx t ht=>by
   obtain⟨k,hk,he⟩:=List.getElem_of_mem hx
   have hgx:=hg (k:Int) x (by simp[Zh,hk,he])
   have:=(hgx.nx t ht).2
   omega)
  have hK:=fun kv=>ZFw (β:=Ex ×Fr ×Zg) m hm n hn hn2 hg [m.v] P hP kv
  have hsl:=ZDS m.States.l 0 false P
  have bP:=fun k=>ZDD k P
  rcases hsp with e|⟨e1,e2⟩
  ·refine⟨P,.refl P,hP,e,[(13,.bool false)],?_⟩
   rw[e]at hK
   simp only at hK
   rw[ZER]
   generalize P.map plV=A at*
   simp -implicitDefEqProofs [ZD9,hK,bP]
  ·have hstep:=SpR.step (l:=m.States.l) P
   obtain⟨F,f1,f2,f3,fr,f4⟩:=ih (ZDx m.States.l 0 false P).2 (by omega) (by omega)
   refine⟨F,hstep F f1,f2,f3,fr,?_⟩
   rw[e1]at hK
   have bP2:=fun k=>ZDD k (ZDx m.States.l 0 false P).2
   rw[ZER,←f4]
   generalize (ZDx m.States.l 0 false P).2.map plV=A2 at*
   generalize P.map plV=A at*
   simp -implicitDefEqProofs [ZD9,hK,bP,bP2]
end
end Go.VE.Un
namespace Go.VE.Un
open Go.VE
def ZDM(h:Header):Int:=if VW h=0 then WQ h.Fields.l else 0
def ZD1(h:Header):Int:=if VW h=0 then(WQ h.Fields.l).tdiv 8+h.Var.n else 0
def ZEU(h:Header):Prop:=h.Fields.l.length≤16→∀f∈h.Fields.l,f.Name.s.length≤35184372088831
theorem ZFu(h:Header)(hb:ZEU h):Zc vp 636 [h.v]=some (.int .i64 (ZDM h)):=by
 have hm:=Zgs h hb
 rw[Za ZF8]
 unfold ZDM
 by_cases h0:VW h=0
 ·obtain⟨_,g1,g2,g3,_⟩:=ZhV h0
  have ha:=ZmS h h.Fields.l.length (by omega) (by omega) g2 (QA _ _ _ g3)
  rw[Int.toNat_natCast,List.take_length]at ha
  simp -implicitDefEqProofs [f636,b636,hm,h0,ha]
 ·simp -implicitDefEqProofs [f636,b636,hm,h0]
theorem ZEA(h:Header):0≤ZDM h∧ZDM h≤2048:=by
 unfold ZDM
 split
 ·rename_i h0
  obtain⟨_,g1,g2,g3,_⟩:=ZhV h0
  have:=Zad h.Fields.l (QA _ _ _ g3)
  omega
 ·omega
theorem ZFi(h:Header)(hb:ZEU h):Zc vp 637 [h.v]=some (.int .i64 ((ZDM h).tdiv 8)):=by
 have hm:=ZFu h hb
 have hbd:=ZEA h
 have hq:Yh .quo (.int .i64 (ZDM h)) (.int .i64 8)=some (.int .i64 ((ZDM h).tdiv 8)):=by
  have h1:(ZDM h).tdiv 8=ZDM h/8:=Int.tdiv_eq_ediv_of_nonneg hbd.1
  rw[ZoX _ _ _ (by decide:(8:Int)≠0),ZK (by rw[h1];omega) (by rw[h1];omega)]
 rw[Za ZF9]
 simp -implicitDefEqProofs [f637,b637,hm,hq]
theorem ZEf(h:Header):0≤ZD1 h∧ZD1 h≤320:=by
 have hbd:=ZEA h
 unfold ZD1
 unfold ZDM at hbd
 split
 ·rename_i h0
  rw[if_pos h0]at hbd
  obtain⟨_,g1,g2,g3,g4⟩:=ZhV h0
  have h1:(WQ h.Fields.l).tdiv 8=WQ h.Fields.l/8:=Int.tdiv_eq_ediv_of_nonneg hbd.1
  have hv:0≤h.Var.n∧h.Var.n≤64:=by
   unfold XC at g4
   split at g4
   ·omega
   ·simp only[Bool.and_eq_true]at g4
    have:=g4.1
    simp[inB]at this;omega
  rw[h1];omega
 ·omega
theorem ZE0(h:Header)(hb:ZEU h):Zc vp 642 [h.v]=some (.int .i64 (ZD1 h)):=by
 have hm:=Zgs h hb
 have hy:=ZFi h hb
 have hbd:=ZEf h
 rw[Za ZF0]
 unfold ZD1 at hbd⊢
 unfold ZDM at hy
 by_cases h0:VW h=0
 ·rw[if_pos h0]at hbd hy⊢
  have w1:IntKind.i64.wrap ((WQ h.Fields.l).tdiv 8+h.Var.n)=(WQ h.Fields.l).tdiv 8+h.Var.n:=ZK (by omega) (by omega)
  simp -implicitDefEqProofs [f642,b642,hm,h0,hy,w1]
 ·simp -implicitDefEqProofs [f642,b642,hm,h0]
def ZDJ(m:Zb)(x:Ext):Int:=
 if x.Kind.n=0 then ZD1 ((Xl m x.N.n).getD Header.z)
 else if x.Kind.n=1 then ZD1 ((Xl m (match Z8 m x.N.n with|some (a,_)=>a|none=>0)).getD Header.z)
 else x.N.n
def ZDL(m:Zb):List Ext→Int→Int
 |[],n=>n
 |x::r,n=>ZDL m r (n+ZDJ m x)
theorem ZEe{m:Zb}(hsm:Z2 m)(s:Int):ZEU ((Xl m s).getD Header.z):=by
 cases h:Xl m s with
 |none=>intro _ f hf;simp[Header.z]at hf
 |some h'=>exact hsm.hf _ (Zm2 h)
theorem ZEw{m:Zb}{x:Ext}(he:WY m x=0):0≤ZDJ m x∧ZDJ m x≤320:=by
 unfold ZDJ
 split
 ·exact ZEf _
 ·split
  ·exact ZEf _
  ·rename_i h0 h1
   unfold WY at he
   rw[if_neg h0,if_neg h1]at he
   split at he
   ·have:=JP (by omega) he
    simp[inB]at this;omega
   ·simp at he
theorem ZEK{m:Zb}{i a d:Int}(h:Z8 m i=some (a,d)):a≤9223372036854775807:=by
 have hb:=ZbW (m.Insts.l.take i.toNat)
 have hl:(m.Insts.l.take i.toNat).length≤m.Insts.l.length:=List.length_take_le' ..
 have hle:=m.Insts.le
 unfold Z8 Wi at h
 cases hg:Zh m.Insts.l i with
 |none=>rw[hg]at h;simp at h
 |some x=>
  rw[hg]at h
  simp only[Option.bind_some]at h
  split at h
  ·simp at h
  ·simp only[Option.bind_some]at h
   split at h
   ·simp at h
   ·simp only[Option.some.injEq,Prod.mk.injEq]at h
    omega
theorem ZFt(m:Zb)(hm:Clo m)(hsm:Z2 m)(e1:List V)(l:GL Ext)(he: ∀x∈l.l,WY m x=0)(h4:l.l.length≤4): ∀(r:List Ext) (k n:Int),0≤k→k≤l.l.length→l.l.drop k.toNat=r→0≤n→n≤320*k→∃fr,(orc vp).loop 0 [2,3,6,17,18,19] ZEE [(2,.ptr 0 1 0 0),(3,.ptr 1 1 0 0),(6,.int .i64 n),(17,GL.v 2 Ext.v l),(18,.int .i64 l.l.length),(19,.int .i64 k)] [.arr [m.v],.arr e1]=
 some (.brk 0,(2,.ptr 0 1 0 0)::(3,.ptr 1 1 0 0)::(6,.int .i64 (ZDL m r n))::fr,[.arr [m.v],.arr e1]):=by
 have hle:=l.le
 intro r
 induction r with
 |nil=>
  intro k n hk hk2 hd n0 n1
  have:=Zq hk hd
  have e:k=l.l.length:=by omega
  subst e
  refine⟨[(17,GL.v 2 Ext.v l),(18,.int .i64 l.l.length),(19,.int .i64 l.l.length),(20,.bool false)],?_⟩
  rw[ZEV]
  simp -implicitDefEqProofs [ZDU,ZDL]
 |cons x r ih=>
  intro k n hk hk2 hd n0 n1
  obtain⟨h1,h2,h3⟩:=Zp hk hd
  have w1:IntKind.i64.wrap (k+1)=k+1:=ZK (by omega) (by omega)
  have hx:x∈l.l:=by
   have:x∈l.l.drop k.toNat:=by rw[hd];simp
   exact List.mem_of_mem_drop this
  have hxe:=he x hx
  have hbd:=ZEw hxe
  have w2:IntKind.i64.wrap (n+ZDJ m x)=n+ZDJ m x:=ZK (by omega) (by omega)
  obtain⟨fr,ih⟩:=ih (k+1) (n+ZDJ m x) (by omega) (by omega) h3 (by omega) (by omega)
  refine⟨fr,?_⟩
  simp only[ZDL]
  rw[ZEV,←ih]
  by_cases c0:x.Kind.n=0
  ·have ht:ZDJ m x=ZD1 ((Xl m x.N.n).getD Header.z):=by unfold ZDJ;rw[if_pos c0]
   rw[ht]at w2⊢
   have hs:=JI m x.N.n hm x.N.hi
   have hz:=Wg hm x.N.n
   have hmo:=ZE0 _ (ZEe hsm x.N.n)
   generalize (Xl m x.N.n).getD Header.z=hd at*
   simp -implicitDefEqProofs [ZDU,h1,h2,w1,w2,c0,hs,hz,hmo]
  ·by_cases c1:x.Kind.n=1
   ·have hst:=Za0 m x.N.n
    have ht:ZDJ m x=ZD1 ((Xl m (match Z8 m x.N.n with|some (a,_)=>a|none=>0)).getD Header.z):=by unfold ZDJ;rw[if_neg c0,if_pos c1]
    cases hsk:Z8 m x.N.n with
    |none=>
     unfold WY at hxe
     rw[if_neg c0,if_pos c1,hsk]at hxe
     simp[Zl]at hxe
    |some ad=>
     obtain⟨a,d⟩:=ad
     rw[hsk]at hst ht
     simp only at hst ht
     rw[ht]at w2⊢
     have ha:a≤9223372036854775807:=ZEK hsk
     have hs:=JI m a hm ha
     have hz:=Wg hm a
     have hmo:=ZE0 _ (ZEe hsm a)
     generalize (Xl m a).getD Header.z=hd at*
     simp -implicitDefEqProofs [ZDU,h1,h2,w1,w2,c1,hst,hs,hz,hmo]
   ·have ht:ZDJ m x=x.N.n:=by unfold ZDJ;rw[if_neg c0,if_neg c1]
    rw[ht]at w2⊢
    simp -implicitDefEqProofs [ZDU,h1,h2,w1,w2,c0,c1]
theorem ZFj(m:Zb)(hm:Clo m)(hsm:Z2 m)(x:ZJ)(hg:ZDI m x):Zc vp 473 [m.v,x.v]=some (.tup [.int .i64 (ZDL m x.Exts.l 0),.int .i64 (1+x.Exts.l.length)]):=by
 have h4:=hg.exts
 obtain⟨fr,hl⟩:=ZFt m hm hsm [x.v] x.Exts (ZD2 hg.ext) h4 x.Exts.l 0 0 (by omega) (by omega) rfl (by omega) (by omega)
 have w1:IntKind.i64.wrap (1+(x.Exts.l.length:Int))=1+x.Exts.l.length:=ZK (by omega) (by omega)
 rw[Za ZFX]
 simp -implicitDefEqProofs [f473,b473,hl,w1]
def ZDX(n:Nat):List (Bool ×Sl):=(List.replicate n (false,0)).set 0 (true,0)
theorem ZFd(m:Zb)(hm:Clo m)(hc:Yr m=none): ∃F,SpR m.States.l (ZDX m.States.l.length) F∧F.length=m.States.l.length∧ZDx m.States.l 0 false F=(false,F)∧Zc vp 474 [m.v]=some (.sl 2 (F.map plV) .perm):=by
 obtain⟨h0,h16,hg⟩:=ZDO hc
 obtain⟨n,hn⟩: ∃n,m.States.l.length=n:=⟨_,rfl⟩
 rw[hn]at h0 h16⊢
 obtain⟨F,f1,f2,f3,fr,f4⟩:=ZFz m hm n hn h16 hg (msP (ZDX n)+1) (ZDX n) (by omega) (by simp[ZDX])
 refine⟨F,f1,f2,f3,?_⟩
 have hmk: ∀a,UW [a] (.agg [.bool false,.int .u64 0]) 16 (.int .i64 (n:Int)) (.int .i64 (n:Int))=some (.gsl 1 n 2 0 n,[a,.arr ((List.replicate n (false,(0:Sl))).map plV)]):=fun a=>by
  unfold UW
  simp only
  have e2:List.replicate n (V.agg [.bool false,.int .u64 0])=(List.replicate n (false,(0:Sl))).map plV:=by rw[List.map_replicate];rfl
  rw[if_pos (by unfold YC;omega),Int.toNat_natCast,e2];rfl
 have hi0:=iaG (B:=1) (z:=2) (ep:=n) (i:=0) (by omega) (by omega)
 rw[Int.toNat_zero]at hi0
 have c0:YG ((List.replicate n (false,(0:Sl))).map plV) n=some ((List.replicate n (false,(0:Sl))).map plV):=Yt (by simp)
 have g0:((List.replicate n (false,(0:Sl))).map plV)[0]? =some (.agg [.bool false,.int .u64 0]):=by
  rw[List.getElem?_map,List.getElem?_replicate,if_pos h0];rfl
 have hst:(ZDX n).map plV=((List.replicate n (false,(0:Sl))).map plV).set 0 (.agg [.bool true,.int .u64 0]):=by unfold ZDX;rw[List.map_set];rfl
 rw[hst]at f4
 have cF:YG (F.map plV) n=some (F.map plV):=Yt (by simp[f2])
 have sF:ZaK n 0 n (F.map plV)=some (F.map plV):=Qy (by simp[f2])
 have hcF:Zv (F.map plV)=true:=by rw[YR];simp[plV]
 rw[Za ZFS]
 generalize F.map plV=A at*
 generalize (List.replicate n (false,(0:Sl))).map plV=R at*
 simp -implicitDefEqProofs [f474,b474,hn,hmk,hi0,c0,g0,W9,f4,cF,sF,hcF]
end Go.VE.Un
namespace Go.VE.Un
open Go.VE
def rd(P:List (Bool ×Sl))(i:Nat):Bool:=(P.getD i (false,0)).1
def st(P:List (Bool ×Sl))(i:Nat):Sl:=(P.getD i (false,0)).2
def Dn(P Q:List (Bool ×Sl)):Prop:= ∀k,rd P k=true→rd Q k=true∧Xv (st Q k) (st P k)
theorem Dn.refl(P:List (Bool ×Sl)):Dn P P:=fun _ h=>⟨h,.refl _⟩
theorem Dn.trans{P Q R:List (Bool ×Sl)}(h:Dn P Q)(g:Dn Q R):Dn P R:=fun k e=>⟨(g k (h k e).1).1,(g k (h k e).1).2.trans (h k e).2⟩
theorem Xv.andl(a b:Sl):Xv (a&&&b) a:=fun k e=>by rw[BitVec.getLsbD_and,Bool.and_eq_true]at e;exact e.1
theorem Xv.andr(a b:Sl):Xv (a&&&b) b:=fun k e=>by rw[BitVec.getLsbD_and,Bool.and_eq_true]at e;exact e.2
structure Snd (m:Zb) (n:Nat) (x:Ins) (k:Nat) (F:List (Bool ×Sl)):Prop where
 ok:(YY m x (st F k)).2.2=0
 stop:x.Op.n=34→rd F n=true∧Xv (st F n) (st F k)
 jump: ∀t,YL x=some t→rd F t.toNat=true∧Xv (st F t.toNat) (YY m x (st F k)).2.1
 next:x.Op.n≠34→x.Op.n≠31→rd F (k+1)=true∧Xv (st F (k+1)) (YY m x (st F k)).1
theorem ZL8{s:Sl}{n:Int}(h:JW s n=true):VY s n=s:=BitVec.eq_of_getLsbD_eq fun k hk=>by
 rw[ZbO]
 rw[Zmx]at h
 simp only[Bool.and_eq_true,decide_eq_true_eq]at h
 by_cases c:isS n k=true
 ·have:k=n.toNat:=by unfold isS at c;simp at c;exact c.2.2
  rw[this,h.2];rfl
 ·rw[(Bool.not_eq_true _).mp c,Bool.or_false]
theorem ZL3(s:Sl)(n:Int):Xv (Va s n) s:=fun k e=>by rw[ZjI,Bool.and_eq_true]at e;exact e.1
theorem ZLU{x:Ins}{t:Int}(ht:YL x=some t)(c:x.Op.n≠33):x.Op.n=31∨x.Op.n=32:=by
 unfold YL at ht
 split at ht
 ·assumption
 ·simp at ht
inductive ZHb (m:Zb) (n:Nat) (x:Ins) (k:Nat) (T:Sl):Nat→Sl→Prop
 |stop:x.Op.n=34→ZHb m n x k T n T
 |jump (t:Int):YL x=some t→x.Op.n≠33→ZHb m n x k T t.toNat T
 |gone (t:Int):YL x=some t→x.Op.n=33→JW T x.A.n=false→ZHb m n x k T t.toNat T
 |here:x.Op.n=33→JW T x.A.n=true→ZHb m n x k T (k+1) T
 |next:x.Op.n≠33→x.Op.n≠34→x.Op.n≠31→ZHb m n x k T (k+1) (YY m x T).1
theorem ZHb.keeps{m:Zb}{n:Nat}{x:Ins}{k:Nat}{F:List (Bool ×Sl)}{T:Sl}(h:Snd m n x k F)(g:Xv (st F k) T){k2:Nat}{T2:Sl}(t:ZHb m n x k T k2 T2):rd F k2=true∧Xv (st F k2) T2:=by
 cases t with
 |stop c=>exact⟨(h.stop c).1,(h.stop c).2.trans g⟩
 |jump t ht c=>
  have e:=h.jump t ht
  have hd:=ZIC m x (st F k) (by have:=ZLU ht c;omega)
  rw[hd]at e
  exact⟨e.1,e.2.trans g⟩
 |gone t ht c hh=>
  have e:=h.jump t ht
  have hd:(YY m x (st F k)).2.1=Va (st F k) x.A.n:=by
   unfold YY;rw[if_neg (by omega),if_neg (by omega),if_neg (by omega),if_neg (by omega),if_neg (by omega),if_pos c]
  rw[hd]at e
  exact⟨e.1,(e.2.trans (ZL3 _ _)).trans g⟩
 |here c hh=>
  have e:=h.next (by omega) (by omega)
  have hd:(YY m x (st F k)).1=VY (st F k) x.A.n:=by
   unfold YY;rw[if_neg (by omega),if_neg (by omega),if_neg (by omega),if_neg (by omega),if_neg (by omega),if_pos c]
  rw[hd]at e
  have w:=g.with x.A.n
  rw[ZL8 hh]at w
  exact⟨e.1,e.2.trans w⟩
 |next c1 c2 c3=>
  have e:=h.next c2 c3
  exact⟨e.1,e.2.trans (Zgm m x g h.ok).2.1⟩
end Go.VE.Un
