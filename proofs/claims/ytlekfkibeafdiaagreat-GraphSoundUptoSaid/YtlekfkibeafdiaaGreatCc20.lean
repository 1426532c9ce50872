/- Joined texts: GrM, GrL, CfM, GrN, GrO. No condition: what each theorem needs stands in it. -/
import Derived.Test.YtlekfkibeafdiaaGreatCc18
import Derived.Test.YtlekfkibeafdiaaGreatCc19
namespace Go.VE.Un
open Go.VE
theorem ZGf(out:Sl): ∀(l:List Int) (P:List (Bool ×Sl)),(ZDB out l true P).1=true
 |[],_=>rfl
 |t::r,P=>by
  simp only[ZDB]
  split
  ·exact ZGf out r P
  ·split
   ·exact ZGf out r P
   ·exact ZGf out r _
theorem ZGA(out:Sl): ∀(l:List Int) (c:Bool) (P:List (Bool ×Sl)),(ZDB out l c P).1=false→ZDB out l c P=(c,P)∧c=false∧∀t∈l,0≤t→Js (P.getD t.toNat (false,0)) out=P.getD t.toNat (false,0)
 |[],c,P,h=>⟨rfl,h,fun t ht=>by simp at ht⟩
 |t::r,c,P,h=>by
  simp only[ZDB]at h⊢
  split at h
  ·rename_i c0
   rw[if_pos c0]
   obtain⟨h1,h2,h3⟩:=ZGA out r c P h
   refine⟨h1,h2,fun u hu h0=> ?_⟩
   rcases List.mem_cons.1 hu with rfl|hu
   ·omega
   ·exact h3 u hu h0
  ·rename_i c0
   rw[if_neg c0]
   split at h
   ·rename_i c1
    rw[if_pos c1]
    obtain⟨h1,h2,h3⟩:=ZGA out r c P h
    refine⟨h1,h2,fun u hu h0=> ?_⟩
    rcases List.mem_cons.1 hu with rfl|hu
    ·exact c1
    ·exact h3 u hu h0
   ·rw[ZGf]at h;simp at h
theorem ZGj: ∀(l:List ZJ) (i:Nat) (P:List (Bool ×Sl)),(ZDx l i true P).1=true
 |[],_,_=>rfl
 |x::r,i,P=>by
  simp only[ZDx]
  split
  ·exact ZGj r _ P
  ·have:=ZGf (ZDw x.Exts.l (P.getD i (false,0)).2) (ZGb x) P
   rw[this];exact ZGj r _ _
def ZHu(F:List (Bool ×Sl))(i:Nat)(x:ZJ):Prop:=
 (F.getD i (false,0)).1=true→∀t∈ZGb x,0≤t→Js (F.getD t.toNat (false,0)) (ZDw x.Exts.l (F.getD i (false,0)).2)=F.getD t.toNat (false,0)
theorem ZGp: ∀(l:List ZJ) (i:Nat) (c:Bool) (P:List (Bool ×Sl)),(ZDx l i c P).1=false→c=false∧∀(k:Nat) x,l[k]? =some x→ZHu P (i+k) x
 |[],i,c,P,h=>⟨h,fun k x hx=>by simp at hx⟩
 |y::r,i,c,P,h=>by
  simp only[ZDx]at h
  split at h
  ·rename_i c0
   obtain⟨h1,h2⟩:=ZGp r (i+1) c P h
   refine⟨h1,fun k x hx=> ?_⟩
   cases k with
   |zero=>intro h0;rw[Nat.add_zero]at h0;rw[c0]at h0;simp at h0
   |succ k=>have:=h2 k x (by simpa using hx);rwa[Nat.add_right_comm]at this
  ·cases hq:(ZDB (ZDw y.Exts.l (P.getD i (false,0)).2) (ZGb y) c P).1 with
   |true=>rw[hq,ZGj]at h;simp at h
   |false=>
    obtain⟨g1,g2,g3⟩:=ZGA _ _ _ _ hq
    rw[g1]at h
    obtain⟨h1,h2⟩:=ZGp r (i+1) c P h
    refine⟨g2,fun k x hx=> ?_⟩
    cases k with
    |zero=>
     simp only[List.getElem?_cons_zero,Option.some.injEq]at hx
     subst hx
     intro h0 t ht t0
     exact g3 t ht t0
    |succ k=>have:=h2 k x (by simpa using hx);rwa[Nat.add_right_comm]at this
theorem ZHh{p:Bool ×Sl}{s:Sl}(h:Js p s=p):p.1=true∧Xv p.2 s:=by
 obtain⟨r,t⟩:=p
 cases r with
 |false=>simp[Js]at h
 |true=>
  simp only[Js,if_true,Prod.mk.injEq,true_and]at h
  refine⟨rfl,fun k hk=> ?_⟩
  simp only at hk
  rw[←h,BitVec.getLsbD_and,Bool.and_eq_true]at hk
  exact hk.2
theorem ZHo{P:List (Bool ×Sl)}(h:P.getD 0 (false,0)=(true,0))(t:Nat)(s:Sl):(atP P t s).getD 0 (false,0)=(true,0):=by
 unfold atP
 rw[List.getD_eq_getElem?_getD]at h⊢
 rw[List.getElem?_set]
 split
 ·rename_i e
  subst e
  split
  ·rw[List.getD_eq_getElem?_getD,h]
   simp[Js]
  ·rename_i hl
   rw[List.getElem?_eq_none (by omega)]at h
   simp at h
 ·exact h
theorem ZGk(out:Sl): ∀(l:List Int) (c:Bool) (P:List (Bool ×Sl)),P.getD 0 (false,0)=(true,0)→(ZDB out l c P).2.getD 0 (false,0)=(true,0)
 |[],_,_,h=>h
 |t::r,c,P,h=>by
  simp only[ZDB]
  split
  ·exact ZGk out r c P h
  ·split
   ·exact ZGk out r c P h
   ·exact ZGk out r true _ (ZHo h _ _)
theorem ZGh: ∀(l:List ZJ) (i:Nat) (c:Bool) (P:List (Bool ×Sl)),P.getD 0 (false,0)=(true,0)→(ZDx l i c P).2.getD 0 (false,0)=(true,0)
 |[],_,_,_,h=>h
 |x::r,i,c,P,h=>by
  simp only[ZDx]
  split
  ·exact ZGh r _ _ P h
  ·exact ZGh r _ _ _ (ZGk _ _ _ _ h)
theorem ZHe{l:List ZJ}{P F:List (Bool ×Sl)}(h:SpR l P F)(hP:P.getD 0 (false,0)=(true,0)):F.getD 0 (false,0)=(true,0):=by
 induction h with
 |refl=>exact hP
 |step P F _ ih=>exact ih (ZGh _ _ _ _ hP)
theorem ZGQ{n:Nat}(h:0<n):(ZDX n).getD 0 (false,0)=(true,0):=by
 cases n with
 |zero=>omega
 |succ n=>rfl
theorem ZGe: ∀(l:List Ext) {s t:Sl},Xv s t→Xv (ZDw l s) (ZDw l t)
 |[],s,t,h=>h
 |x::r,s,t,h=>by
  simp only[ZDw]
  split
  ·exact ZGe r (h.with _)
  ·exact ZGe r h
theorem ZGz(F:List (Bool ×Sl)): ∀(r:List ZJ) (i:Nat) (a b:Bool ×Sl),ctR F r i a=(none,b)→(a.1=true→b.1=true∧Xv b.2 a.2)∧∀(k:Nat) x,r[k]? =some x→(F.getD (i+k) (false,0)).1=true→JO x.Keys.l (ZDw x.Exts.l (F.getD (i+k) (false,0)).2)<0∧((-1:Int)∈ZGb x→b.1=true∧Xv b.2 (ZDw x.Exts.l (F.getD (i+k) (false,0)).2))
 |[],i,a,b,h=>by
  simp only[ctR,Prod.mk.injEq,true_and]at h
  subst h
  exact⟨fun h=>⟨h,.refl _⟩,fun k x hx=>by simp at hx⟩
 |y::r,i,a,b,h=>by
  simp only[ctR]at h
  split at h
  ·rename_i c0
   obtain⟨h1,h2⟩:=ZGz F r (i+1) a b h
   refine⟨h1,fun k x hx hs=> ?_⟩
   cases k with
   |zero=>rw[Nat.add_zero]at hs;rw[c0]at hs;simp at hs
   |succ k=>have:=h2 k x (by simpa using hx) (by rwa[Nat.add_right_comm]);rwa[Nat.add_right_comm]at this
  ·split at h
   ·simp at h
   ·rename_i c1
    obtain⟨h1,h2⟩:=ZGz F r (i+1) _ b h
    have hm:(-1:Int)∈ZGb y→b.1=true∧Xv b.2 (ZDw y.Exts.l (F.getD i (false,0)).2)∧(a.1=true→Xv b.2 a.2):=fun hc=>by
     rw[if_pos hc]at h1
     obtain⟨g1,g2⟩:=h1 (by unfold Js;split<;>rfl)
     unfold Js at g2
     split at g2
     ·exact⟨g1,g2.trans (.andr _ _),fun _=>g2.trans (.andl _ _)⟩
     ·rename_i ha;exact⟨g1,g2,fun e=>absurd e ha⟩
    refine⟨fun ha=> ?_,fun k x hx hs=> ?_⟩
    ·by_cases hc:(-1:Int)∈ZGb y
     ·exact⟨(hm hc).1,(hm hc).2.2 ha⟩
     ·rw[if_neg hc]at h1;exact h1 ha
    ·cases k with
     |zero=>
      simp only[List.getElem?_cons_zero,Option.some.injEq]at hx
      subst hx
      rw[Nat.add_zero]
      exact⟨by omega,fun hc=>⟨(hm hc).1,(hm hc).2.1⟩⟩
     |succ k=>have:=h2 k x (by simpa using hx) (by rwa[Nat.add_right_comm]);rwa[Nat.add_right_comm]at this
theorem ZGS(bs:List Int): ∀(r:List Int) (a:Int),a≤mxL bs r a∧∀t∈r,0≤t→bs.getD t.toNat 0≤mxL bs r a
 |[],a=>⟨Int.le_refl _,fun t ht=>by simp at ht⟩
 |u::r,a=>by
  simp only[mxL]
  have ha:a≤(if 0≤u then mxI a (bs.getD u.toNat 0)else a):=by
   split
   ·unfold mxI;split<;>omega
   ·omega
  obtain⟨h1,h2⟩:=ZGS bs r (if 0≤u then mxI a (bs.getD u.toNat 0)else a)
  refine⟨by omega,fun t ht t0=> ?_⟩
  rcases List.mem_cons.1 ht with rfl|ht
  ·rw[if_pos t0]at h1⊢
   have:bs.getD t.toNat 0≤mxI a (bs.getD t.toNat 0):=by unfold mxI;split<;>omega
   omega
  ·exact h2 t ht t0
theorem ZGv(m:Zb): ∀(j:Nat) (bs:List Int),ZEI m (j+1) bs=m.States.l.map (ZDE m (ZEI m j bs))
 |0,_=>rfl
 |j+1,bs=>by rw[ZEI,ZGv m j];rfl
theorem ZGu(m:Zb): ∀(j:Nat) (bs:List Int),ZEN m (j+1) bs=m.States.l.map (ZDF (ZEN m j bs))
 |0,_=>rfl
 |j+1,bs=>by rw[ZEN,ZGu m j];rfl
def bAt(m:Zb)(j i:Nat):Int:=(ZEI m j (ZDy m)).getD i 0
def sAt(m:Zb)(j i:Nat):Int:=(ZEN m j (ZDy m)).getD i 0
theorem ZHi(m:Zb)(j i:Nat){x:ZJ}(hx:m.States.l[i]? =some x):ZDP m x≤bAt m (j+1) i∧∀t∈ZGb x,0≤t→ZDP m x+bAt m j t.toNat≤bAt m (j+1) i:=by
 have h:=ZGS (ZEI m j (ZDy m)) (ZGb x) 0
 have e:bAt m (j+1) i=ZDP m x+mxL (ZEI m j (ZDy m)) (ZGb x) 0:=by
  unfold bAt;rw[ZGv,List.getD_eq_getElem?_getD,List.getElem?_map,hx];rfl
 rw[e]
 refine⟨by omega,fun t ht t0=> ?_⟩
 have:=h.2 t ht t0
 unfold bAt;omega
theorem ZHd(m:Zb)(j i:Nat){x:ZJ}(hx:m.States.l[i]? =some x):ZDN x≤sAt m (j+1) i∧∀t∈ZGb x,0≤t→ZDN x+sAt m j t.toNat≤sAt m (j+1) i:=by
 have h:=ZGS (ZEN m j (ZDy m)) (ZGb x) 0
 have e:sAt m (j+1) i=ZDN x+mxL (ZEN m j (ZDy m)) (ZGb x) 0:=by
  unfold sAt;rw[ZGu,List.getD_eq_getElem?_getD,List.getElem?_map,hx];rfl
 rw[e]
 refine⟨by omega,fun t ht t0=> ?_⟩
 have:=h.2 t ht t0
 unfold sAt;omega
theorem ZHa{m:Zb}(hg: ∀x∈m.States.l,ZDI m x): ∀(j:Nat),(∀t∈ZEI m j (ZDy m),0≤t∧t≤1280*(j:Int))∧(∀t∈ZEN m j (ZDy m),0≤t∧t≤1280*(j:Int))
 |0=>by
  constructor<;>
  ·intro t ht
   obtain⟨x,_,rfl⟩:=List.mem_map.1 ht
   simp
 |j+1=>by
  obtain⟨h1,h2⟩:=ZHa hg j
  constructor
  ·intro t ht
   rw[ZGv]at ht
   obtain⟨x,hx,rfl⟩:=List.mem_map.1 ht
   have:=ZEv (by omega) h1 (hg x hx)
   omega
  ·intro t ht
   rw[ZGu]at ht
   obtain⟨x,hx,rfl⟩:=List.mem_map.1 ht
   have:=ZEy (m:=m) (by omega) h2 (hg x hx)
   omega
theorem ZGw{l:List Int}{M:Int}(hM:0≤M)(h: ∀t∈l,0≤t∧t≤M)(i:Nat):0≤l.getD i 0∧l.getD i 0≤M:=by
 rw[List.getD_eq_getElem?_getD]
 cases hx:l[i]? with
 |none=>exact⟨Int.le_refl _,hM⟩
 |some y=>exact h y (List.mem_of_getElem? hx)
end Go.VE.Un
namespace Go.VE.Un
open Go.VE
theorem ZFc(m:Zb)(hm:Clo m)(hT:Zdn m):Zc vp 708 [m.v]=some (.bool (Zac m)):=by
 have hc:=Zmw m hm hT
 have a1:=m.Headers.le;have a2:=m.Insts.le;have a3:=m.States.le;have a4:=m.Actions.le
 have a5:=m.Tables.le;have a6:=m.Ingress.le;have a7:=m.Egress.le
 have w1:IntKind.i64.wrap ((m.Headers.l.length:Int)+m.Insts.l.length)=(m.Headers.l.length:Int)+m.Insts.l.length:=ZK (by omega) (by omega)
 have w2:IntKind.i64.wrap ((m.Headers.l.length:Int)+m.Insts.l.length+m.States.l.length)=(m.Headers.l.length:Int)+m.Insts.l.length+m.States.l.length:=ZK (by omega) (by omega)
 have w3:IntKind.i64.wrap ((m.Headers.l.length:Int)+m.Insts.l.length+m.States.l.length+m.Actions.l.length)=(m.Headers.l.length:Int)+m.Insts.l.length+m.States.l.length+m.Actions.l.length:=ZK (by omega) (by omega)
 have w4:IntKind.i64.wrap ((m.Headers.l.length:Int)+m.Insts.l.length+m.States.l.length+m.Actions.l.length+m.Tables.l.length)=(m.Headers.l.length:Int)+m.Insts.l.length+m.States.l.length+m.Actions.l.length+m.Tables.l.length:=ZK (by omega) (by omega)
 have w5:IntKind.i64.wrap ((m.Headers.l.length:Int)+m.Insts.l.length+m.States.l.length+m.Actions.l.length+m.Tables.l.length+m.Ingress.l.length)=(m.Headers.l.length:Int)+m.Insts.l.length+m.States.l.length+m.Actions.l.length+m.Tables.l.length+m.Ingress.l.length:=ZK (by omega) (by omega)
 have w6:IntKind.i64.wrap ((m.Headers.l.length:Int)+m.Insts.l.length+m.States.l.length+m.Actions.l.length+m.Tables.l.length+m.Ingress.l.length+m.Egress.l.length)=(m.Headers.l.length:Int)+m.Insts.l.length+m.States.l.length+m.Actions.l.length+m.Tables.l.length+m.Ingress.l.length+m.Egress.l.length:=ZK (by omega) (by omega)
 rw[Za ZFZ]
 unfold Zac
 by_cases h:150<ZaS m
 ·have e: ¬ZaS m≤150:=by omega
  have h':=h
  unfold ZaS at h'
  simp -implicitDefEqProofs [f708,b708,w1,w2,w3,w4,w5,w6,h',e]
 ·have e:ZaS m≤150:=by omega
  have h':=h
  unfold ZaS at h'
  simp -implicitDefEqProofs [f708,b708,w1,w2,w3,w4,w5,w6,h',e,hc]
end Go.VE.Un
namespace Go.VE.Un
open Go.VE
end Go.VE.Un
namespace Go.VE.Un
open Go.VE
theorem ZG9(m:Zb)(hm:Clo m)(hsm:Z2 m)(hc:Yr m=none)(i:Int)(h0:0≤i)(h1:i<m.States.l.length):Zc vp 480 [m.v,.int .i64 i]=some (.bool true):=by
 have hck:=ZeP m hm hsm
 rw[hc]at hck
 rw[Za ZHD]
 simp -implicitDefEqProofs [f480,b480,h0,h1,hck]
theorem ZG7(m:Zb)(hm:Clo m)(hsm:Z2 m)(hc:Yr m=none)(i:Int)(x:ZJ)(hx:Zh m.States.l i=some x)(hg:ZDI m x):Zc vp 471 [m.v,.int .i64 i]=some (.tup [.int .i64 (ZDP m x),.int .i64 (ZDN x)]):=by
 have hi:=Zc0 hx
 have hth:=ZG9 m hm hsm hc i hi.1 hi.2
 have hct:=ZFj m hm hsm x hg
 have hxc:=Xc (Zki hm) hx
 have q1:ZDL m x.Exts.l 0=ZDP m x:=rfl
 have q2:1+(x.Exts.l.length:Int)=ZDN x:=rfl
 rw[q1,q2]at hct
 rw[Za ZHH]
 simp -implicitDefEqProofs [f471,b471,hth,hct,hx]
theorem ZG0{x:ZJ}{i:Int}(h0:0≤i)(h1:i<(ZGc x).length): ∃t,Zh (ZGc x) i=some t∧t∈ZGb x:=by
 rcases Zm (ZGc x) i with⟨t,_,_,h⟩|⟨h,_⟩
 ·refine⟨t,h,?_⟩
  unfold Zh at h
  rw[if_pos h0]at h
  have:=List.mem_of_getElem? h
  unfold ZGc at this
  unfold ZGb
  simp only[List.mem_append,List.mem_singleton]at this
  simp only[List.mem_cons]
  exact this.symm
 ·omega
abbrev ZGJ(w:GL I64)(p B S d:Int):Fr:=[(1,GL.v 1 I64.v w),(2,.ptr 0 1 0 0),(5,.ptr 1 1 0 0),(7,.ptr 2 1 0 0),(8,.int .i64 p),(9,.int .i64 B),(10,.int .i64 S),(11,.int .i64 d)]
set_option maxRecDepth 100000 in
set_option maxHeartbeats 4000000 in
theorem ZHm(m:Zb)(hm:Clo m)(hsm:Z2 m)(hc:Yr m=none)(w:GL I64)(F:List (Bool ×Sl))(a:Bool ×Sl)(p:Int)(x:ZJ)(hx:Zh m.States.l p=some x)(hg:ZDI m x)(hF:F.length=m.States.l.length)
 (hr:(F.getD p.toNat (false,0)).1=true) (T:Sl) (hT:Xv (F.getD p.toNat (false,0)).2 T) (hk:JO x.Keys.l (ZDw x.Exts.l (F.getD p.toNat (false,0)).2)<0) (d:Nat) (hd:(d:Int)<m.Depth.n) (B S:Int) (hB:0≤B∧B+ZDP m x≤1000000) (hS:0≤S∧S+ZDN x≤1000000): ∃t,t∈ZGb x∧(orc vp).loop 0 [1,2,5,7,8,9,10,11] ZGy (ZGJ w p B S d) [.arr [m.v],.arr [ZFp m F a],.arr [ZaU T]]=(orc vp).loop 0 [1,2,5,7,8,9,10,11] ZGy (ZGJ w t (B+ZDP m x) (S+ZDN x) ((d+1:Nat):Int)) [.arr [m.v],.arr [ZFp m F a],.arr [ZaU (ZDw x.Exts.l T)]]:=by
 have hp:=Zc0 hx
 have hp0:=hp.1
 have hxc:=Xc (Zki hm) hx
 have htk:=ZG7 m hm hsm hc p x hx hg
 have hdp:=ZEH hc
 have cb:=ZEz x.Exts.l 0 (ZD2 hg.ext)
 have q1:ZDL m x.Exts.l 0=ZDP m x:=rfl
 rw[q1]at cb
 have wb:1≤ZDN x:=by unfold ZDN;omega
 obtain⟨d1,hd1⟩: ∃d1,d+1=d1:=⟨_,rfl⟩
 have w1:IntKind.i64.wrap ((d:Int)+1)=(d1:Int):=by rw[ZK (by omega) (by omega)];omega
 have w2:IntKind.i64.wrap (B+ZDP m x)=B+ZDP m x:=ZK (by omega) (by omega)
 have w3:IntKind.i64.wrap (S+ZDN x)=S+ZDN x:=ZK (by omega) (by omega)
 have hpl:p.toNat<F.length:=by omega
 have hFp:Zh F p=some (F.getD p.toNat (false,0)):=by
  unfold Zh;rw[if_pos hp0,List.getD_eq_getElem?_getD,List.getElem?_eq_getElem hpl];rfl
 have hS1:Yb 1 (.sl 1 (bS F) .perm) (.int .i64 p)=some (.eptr (.bool true) 0 .perm):=by
  unfold bS;rw[Y7,hFp];simp only[Option.map_some,hr]
 have hS2:Yb 1 (.sl 1 (sS F) .perm) (.int .i64 p)=some (.eptr (sV (F.getD p.toNat (false,0)).2) 0 .perm):=by
  unfold sS;rw[Y7,hFp];rfl
 have h905:=ZHv (F.getD p.toNat (false,0)).2
 have hand:(F.getD p.toNat (false,0)).2&&&T=(F.getD p.toNat (false,0)).2:=by
  apply BitVec.eq_of_getLsbD_eq
  intro k hk'
  rw[BitVec.getLsbD_and]
  cases hb:(F.getD p.toNat (false,0)).2.getLsbD k with
  |false=>rfl
  |true=>rw[hT k hb];rfl
 have h902:=ZGZ (F.getD p.toNat (false,0)).2 T
 rw[hand]at h902
 have heq:=ZGV (F.getD p.toNat (false,0)).2 (F.getD p.toNat (false,0)).2
 rw[decide_eq_true rfl]at heq
 have h909:=ZG4 x (fun y hy k0=>ZHy hc (ZD2 hg.ext y hy) k0) T
 have h910:=ZHz x (ZDw x.Exts.l T) (ZHc hc hg.keys)
 have hkT:=ZjX (ZGe x.Exts.l hT) (by omega: ¬0≤JO x.Keys.l (ZDw x.Exts.l (F.getD p.toNat (false,0)).2))
 have h912:=ZHj x (by have:=hg.cases;omega)
 have hnl:1≤(ZGc x).length∧(ZGc x).length≤9:=by have:=hg.cases;unfold ZGc;simp;omega
 have hml:(((ZGc x).map (V.int .i64)).length:Int)=(ZGc x).length:=by simp
 have w4:IntKind.i64.wrap (((ZGc x).length:Int)-1)=((ZGc x).length:Int)-1:=ZK (by omega) (by omega)
 have hnb:=fun k=>Yq (k:=k) (f:=V.int .i64) (fun _=>rfl) (ZGc x)
 have hfc:ZFp m F a=.agg [.sl 1 (bS F) .perm,.sl 1 (sS F) .perm,sV a.2,.bool a.1,.int .i64 (ZEh m),.int .i64 (ZEi m)]:=rfl
 have bb: ∀k,Zo k (bS F)=true:=fun k=>Yq (fun _=>rfl) _
 have bs: ∀k,Zo k (sS F)=true:=fun k=>Yq (fun _=>rfl) _
 have hz:=ZGK
 have last: ∃t,Zh (ZGc x) (((ZGc x).length:Int)-1)=some t∧t∈ZGb x:=ZG0 (by omega) (by omega)
 have gi: ∀i t,Zh (ZGc x) i=some t→Yb 1 (.sl 1 ((ZGc x).map (V.int .i64)) .perm) (.int .i64 i)=some (.eptr (.int .i64 t) 0 .perm):=fun i t h=>by rw[Y7,h];rfl
 simp only[hd1,hfc]
 have hw:(¬(d:Int)<w.l.length)∨∃v,(d:Int)<w.l.length∧Zh w.l (d:Int)=some v:=by
  rcases ZGN w d with h|⟨v,h1,h2,_⟩
  ·exact .inl h
  ·exact .inr ⟨v,h1,h2⟩
 generalize hrl:(ZGc x).length=ll at*
 rcases hw with hwn|⟨v,hwt,hv⟩
 ·obtain⟨t,ht,hm'⟩:=last
  have g1:=gi _ _ ht
  refine⟨t,hm',?_⟩
  rw[ZGr]
  generalize (ZGc x).map (V.int .i64)=L at*
  generalize (F.getD p.toNat (false,0)).2=s at*
  generalize bS F=Q1 at*
  generalize sS F=Q2 at*
  generalize ZEh m=y1 at*
  generalize ZEi m=y2 at*
  generalize JO x.Keys.l (ZDw x.Exts.l T)=kk at*
  simp -implicitDefEqProofs [-List.reduceReplicate,ZGg,hd,hp0,hS1,hS2,h905,h902,heq,hz,hx,hxc,h909,h910,hkT,htk,w1,w2,w3,w4,h912,hml,hnb,hwn,g1,bb,bs]
 ·by_cases hv0:0≤v.n
  ·have hm0:0≤v.n.tmod ll:=Int.tmod_nonneg _ hv0
   have hm1:v.n.tmod ll<ll:=Int.tmod_lt_of_pos _ (by omega)
   obtain⟨t,ht,hm'⟩:=ZG0 (x:=x) hm0 (by rw[hrl];exact hm1)
   have g1:=gi _ _ ht
   have hrm:Yh .rem (.int .i64 v.n) (.int .i64 ll)=some (.int .i64 (v.n.tmod ll)):=JH _ _ _ (by omega)
   refine⟨t,hm',?_⟩
   rw[ZGr]
   generalize (ZGc x).map (V.int .i64)=L at*
   generalize (F.getD p.toNat (false,0)).2=s at*
   generalize bS F=Q1 at*
   generalize sS F=Q2 at*
   generalize ZEh m=y1 at*
   generalize ZEi m=y2 at*
   generalize JO x.Keys.l (ZDw x.Exts.l T)=kk at*
   simp -implicitDefEqProofs [-List.reduceReplicate,ZGg,hd,hp0,hS1,hS2,h905,h902,heq,hz,hx,hxc,h909,h910,hkT,htk,w1,w2,w3,w4,h912,hml,hnb,hwt,hv,hv0,hrm,g1,bb,bs]
  ·obtain⟨t,ht,hm'⟩:=last
   have g1:=gi _ _ ht
   refine⟨t,hm',?_⟩
   rw[ZGr]
   generalize (ZGc x).map (V.int .i64)=L at*
   generalize (F.getD p.toNat (false,0)).2=s at*
   generalize bS F=Q1 at*
   generalize sS F=Q2 at*
   generalize ZEh m=y1 at*
   generalize ZEi m=y2 at*
   generalize JO x.Keys.l (ZDw x.Exts.l T)=kk at*
   simp -implicitDefEqProofs [-List.reduceReplicate,ZGg,hd,hp0,hS1,hS2,h905,h902,heq,hz,hx,hxc,h909,h910,hkT,htk,w1,w2,w3,w4,h912,hml,hnb,hwt,hv,hv0,g1,bb,bs]
end Go.VE.Un
namespace Go.VE.Un
open Go.VE
def ZHK(m:Zb)(F:List (Bool ×Sl))(a:Bool ×Sl)(D j:Nat)(p:Int)(T:Sl)(B S:Int):Prop:=
 0≤B∧0≤S∧p<m.States.l.length∧(0≤p→(F.getD p.toNat (false,0)).1=true∧Xv (F.getD p.toNat (false,0)).2 T∧B+bAt m j p.toNat≤bAt m D 0∧S+sAt m j p.toNat≤sAt m D 0)∧(p<0→B≤bAt m D 0∧S≤sAt m D 0)∧(p= -1→a.1=true∧Xv a.2 T)
theorem ZHA(m:Zb)(hm:Clo m)(hsm:Z2 m)(hc:Yr m=none)(hg: ∀i x,Zh m.States.l i=some x→ZDI m x)(w:GL I64)(F:List (Bool ×Sl))(a:Bool ×Sl)(hF:F.length=m.States.l.length)(D:Nat)(hD:m.Depth.n=D)(hD2:D≤32)
 (hfix: ∀(k:Nat) x,m.States.l[k]? =some x→ZHu F k x) (hct: ∀(k:Nat) x,m.States.l[k]? =some x→(F.getD k (false,0)).1=true→JO x.Keys.l (ZDw x.Exts.l (F.getD k (false,0)).2)<0∧((-1:Int)∈ZGb x→a.1=true∧Xv a.2 (ZDw x.Exts.l (F.getD k (false,0)).2))): ∀(j d:Nat) (p:Int) (T:Sl) (B S:Int),d+j=D→ZHK m F a D j p T B S→∃fr p2 T2 B2 S2,B2≤bAt m D 0∧S2≤sAt m D 0∧(p2= -1→a.1=true∧Xv a.2 T2)∧(orc vp).loop 0 [1,2,5,7,8,9,10,11] ZGy (ZGJ w p B S d) [.arr [m.v],.arr [ZFp m F a],.arr [ZaU T]]=some (.brk 0,(1,GL.v 1 I64.v w)::(2,.ptr 0 1 0 0)::(5,.ptr 1 1 0 0)::(7,.ptr 2 1 0 0)::(8,.int .i64 p2)::(9,.int .i64 B2)::(10,.int .i64 S2)::fr,[.arr [m.v],.arr [ZFp m F a],.arr [ZaU T2]]):=by
 have mem: ∀x∈m.States.l,ZDI m x:=fun x hx=>by
  obtain⟨k,hk,he⟩:=List.getElem_of_mem hx
  exact hg (k:Int) x (by simp[Zh,hk,he])
 have hbd:=ZHa mem
 have bD:bAt m D 0≤1280*(D:Int):=(ZGw (by omega) (hbd D).1 0).2
 have sD:sAt m D 0≤1280*(D:Int):=(ZGw (by omega) (hbd D).2 0).2
 have bN: ∀j i,0≤bAt m j i:=fun j i=>(ZGw (by omega) (hbd j).1 i).1
 have sN: ∀j i,0≤sAt m j i:=fun j i=>(ZGw (by omega) (hbd j).2 i).1
 intro j
 induction j with
 |zero=>
  intro d p T B S hd hI
  have e: ¬(d:Int)<m.Depth.n:=by omega
  obtain⟨i1,i2,i3,i4,i5,i6⟩:=hI
  have hBS:B≤bAt m D 0∧S≤sAt m D 0:=by
   rcases Int.lt_or_le p 0 with h|h
   ·exact i5 h
   ·obtain⟨_,_,h1,h2⟩:=i4 h
    have:=bN 0 p.toNat;have:=sN 0 p.toNat
    omega
  refine⟨[(11,.int .i64 d),(54,.bool false)],p,T,B,S,hBS.1,hBS.2,i6,?_⟩
  rw[ZGr]
  simp -implicitDefEqProofs [ZGg,e]
 |succ j ih=>
  intro d p T B S hd hI
  have e:(d:Int)<m.Depth.n:=by omega
  obtain⟨i1,i2,i3,i4,i5,i6⟩:=hI
  rcases Int.lt_or_le p 0 with h|h
  ·obtain⟨h1,h2⟩:=i5 h
   refine⟨[(11,.int .i64 d),(54,.bool false)],p,T,B,S,h1,h2,i6,?_⟩
   have h': ¬0≤p:=by omega
   rw[ZGr]
   simp -implicitDefEqProofs [ZGg,e,h']
  ·obtain⟨g1,g2,g3,g4⟩:=i4 h
   have hk:p.toNat<m.States.l.length:=by omega
   have hx:m.States.l[p.toNat]? =some m.States.l[p.toNat]:=List.getElem?_eq_getElem hk
   have hx':Zh m.States.l p=some m.States.l[p.toNat]:=by unfold Zh;rw[if_pos h];exact hx
   generalize m.States.l[p.toNat]=x at hx hx'
   have hgx:=hg p x hx'
   obtain⟨c1,c2⟩:=hct _ _ hx g1
   obtain⟨b1,b2⟩:=ZHi m j p.toNat hx
   obtain⟨s1,s2⟩:=ZHd m j p.toNat hx
   have tb:=ZEz x.Exts.l 0 (ZD2 hgx.ext)
   have q1:ZDL m x.Exts.l 0=ZDP m x:=rfl
   rw[q1]at tb
   have wb:1≤ZDN x:=by unfold ZDN;omega
   obtain⟨t,ht,hl⟩:=ZHm m hm hsm hc w F a p x hx' hgx hF g1 T g2 c1 d e B S ⟨i1,by omega⟩ ⟨i2,by omega⟩
   rw[hl]
   have hmono:=ZGe x.Exts.l g2
   refine ih (d+1) t (ZDw x.Exts.l T) (B+ZDP m x) (S+ZDN x) (by omega) ⟨by omega,by omega,(hgx.nx t ht).2,fun t0=> ?_,fun _=>⟨by omega,by omega⟩,fun t1=> ?_⟩
   ·obtain⟨f1,f2⟩:=ZHh (hfix _ _ hx g1 t ht t0)
    have:=b2 t ht t0
    have:=s2 t ht t0
    exact⟨f1,f2.trans hmono,by omega,by omega⟩
   ·subst t1
    obtain⟨a1,a2⟩:=c2 ht
    exact⟨a1,a2.trans hmono⟩
set_option maxRecDepth 100000 in
set_option maxHeartbeats 4000000 in
theorem graphSound(m:Zb)(hm:Clo m)(hT:Zdn m)(hsm:Z2 m)(w:GL I64)(hlv:Zc vp 707 []=some (.bool true)):
 Zc vp 705 [m.v,GL.v 1 I64.v w]=some (.bool true):=by
 have hr:=ZFc m hm hT
 rw[Za ZHE]
 cases h:Zac m
 ·simp -implicitDefEqProofs [f705,b705,hr,h,hlv]
 obtain⟨hci,_⟩:=Znh h
 obtain⟨F,f1,f2,f3,hch⟩:=ZFk m hm hsm hci
 obtain⟨h0,h16,hg⟩:=ZDO hci
 have hdp:=ZEH hci
 obtain⟨D,hD⟩: ∃D:Nat,m.Depth.n=D:=⟨m.Depth.n.toNat,by omega⟩
 have hfix:=(ZGp m.States.l 0 false F (by rw[f3])).2
 have hF0:=ZHe f1 (ZGQ h0)
 have hcn:=fun b=>ZGz F m.States.l 0 (false,ZEx m) b
 generalize ctR F m.States.l 0 (false,ZEx m)=q at hch hcn
 obtain⟨o,a⟩:=q
 cases o with
 |some wr=>
  obtain⟨i,k⟩:=wr
  simp only at hch
  simp -implicitDefEqProofs [f705,b705,hr,h,hlv,hch]
 |none=>
  simp only at hch
  have hct:=(hcn a rfl).2
  simp only[Nat.zero_add]at hfix hct
  have eB:bAt m D 0=ZEh m:=by unfold bAt ZEh;rw[hD,Int.toNat_natCast]
  have eS:sAt m D 0=ZEi m:=by unfold sAt ZEi;rw[hD,Int.toNat_natCast]
  obtain⟨fr,p2,T2,B2,S2,r1,r2,r3,hl⟩:=ZHA m hm hsm hci hg w F a f2 D hD (by omega) hfix hct D 0 0 0#64 0 0 (by omega)
   ⟨by omega,by omega,by omega,fun _=>⟨by rw[show(0:Int).toNat=0 from rfl,hF0],by rw[show(0:Int).toNat=0 from rfl,hF0];exact .refl _,by rw[show(0:Int).toNat=0 from rfl];omega,by rw[show(0:Int).toNat=0 from rfl];omega⟩,fun h=>by omega,fun h=>by omega⟩
  rw[eB]at r1
  rw[eS]at r2
  have hst:stc (.agg [.sl 1 [] .nl,.sl 1 [] .nl,.int .u64 0,.bool false,.int .i64 0,.int .i64 0]) 6 0 (ZFp m F a)=some (ZFp m F a):=Zie rfl rfl
  have hz:=ZGK
  have k0:ldc (ZFp m F a) false 1 0=some (.sl 1 (bS F) .perm):=rfl
  have k1:ldc (ZFp m F a) false 1 1=some (.sl 1 (sS F) .perm):=rfl
  have k2:ldc (ZFp m F a) false 1 2=some (sV a.2):=rfl
  have k3:ldc (ZFp m F a) false 1 3=some (.bool a.1):=rfl
  have k4:ldc (ZFp m F a) false 1 4=some (.int .i64 (ZEh m)):=rfl
  have k5:ldc (ZFp m F a) false 1 5=some (.int .i64 (ZEi m)):=rfl
  have lb:(bS F).length=m.States.l.length:=by simp[bS,f2]
  have ls:(sS F).length=m.States.l.length:=by simp[sS,f2]
  have hz0:((0:Nat):Int)=0:=rfl
  rw[hz0]at hl
  have hbf: ∀k,Zk k (ZFp m F a)=true:=fun k=>by
   have b1:Zo k (bS F)=true:=Yq (fun _=>rfl) _
   have b2:Zo k (sS F)=true:=Yq (fun _=>rfl) _
   simp[ZFp,b1,b2]
  by_cases hp:p2= -1
  ·obtain⟨a1,a2⟩:=r3 hp
   subst hp
   have hand:a.2&&&T2=a.2:=by
    apply BitVec.eq_of_getLsbD_eq
    intro k hk'
    rw[BitVec.getLsbD_and]
    cases hb:a.2.getLsbD k with
    |false=>rfl
    |true=>rw[a2 k hb];rfl
   have h905:=ZHv a.2
   have h902:=ZGZ a.2 T2
   rw[hand]at h902
   have heq:=ZGV a.2 a.2
   rw[decide_eq_true rfl]at heq
   rw[a1]at k3
   simp only[ZGJ]at hl
   generalize ZFp m F a=X at*
   generalize bS F=Q1 at*
   generalize sS F=Q2 at*
   generalize ZEh m=y1 at*
   generalize ZEi m=y2 at*
   generalize a.2=s at*
   simp -implicitDefEqProofs [-List.reduceReplicate,f705,b705,hr,h,hlv,hch,hst,k0,k1,k2,k3,k4,k5,lb,ls,hz,hl,h905,h902,heq,r1,r2]
  ·simp only[ZGJ]at hl
   generalize ZFp m F a=X at*
   generalize bS F=Q1 at*
   generalize sS F=Q2 at*
   generalize ZEh m=y1 at*
   generalize ZEi m=y2 at*
   simp -implicitDefEqProofs [-List.reduceReplicate,f705,b705,hr,h,hlv,hch,hst,k0,k1,k2,k3,k4,k5,lb,ls,hz,hl,hp,r1,r2]
end Go.VE.Un
