/- Joined texts: PtO, PtP, PtPa. No condition: what each theorem needs stands in it. -/
import Derived.Test.YthpccfpbghhpoaaGreatCc19
namespace Go.VE.Un
open Go.VE
theorem ZHg: ∀(r:List ZE) (i s:Int) {q:Int ×Int ×ZE},ofR r i s=some q→s<Yp r
 |[],i,s,q,h=>by simp[ofR]at h
 |x::r,i,s,q,h=>by
  simp only[ofR,Yp]at h⊢
  have:=ZbW r
  split at h
  ·omega
  ·have:=ZHg r _ _ h;omega
theorem ZHp{m:Zb}{s:Int}(h:(Xl m s).isSome=true):0≤s∧s<Yp m.Insts.l:=by
 unfold Xl Wf ofI at h
 split at h
 ·simp at h
 ·rename_i c
  cases ho:ofR m.Insts.l 0 s with
  |none=>rw[ho]at h;simp at h
  |some q=>exact⟨by omega,ZHg _ _ _ ho⟩
theorem ZGU{m:Zb}(hc:Yr m=none){s:Int}(h:(Xl m s).isSome=true):0≤s∧s<64:=by
 have h1:=ZHp h
 have h2:=(ZtQ hc).2
 omega
theorem ZJM{m:Zb}(hc:Yr m=none){i:Int}{t:ZD}(hg:Zh m.Tables.l i=some t): ∀k∈t.Keys.l,k.Kind.n=0→0≤k.A.n∧k.A.n<64:=by
 have hp:=W2 hc 6 (by omega) (by omega)
 have hp:(Yw m.Tables.l.length 8 (WE m)).2=0:=by simpa[Zn]using hp
 have hi:=Zc0 hg
 have ht:=(ZaH hp).2 i hi.1 hi.2
 simp only[WE,hg,ZjM]at ht
 split at ht
 ·rename_i h0
  have hk:QW m t.Keys.l false=0:=UF h0 _ (by simp)
  unfold QW at hk
  split at hk
  ·simp at hk
  ·split at hk
   ·rename_i c1 c2
    intro k hkm h0
    have:=ZD2 c2 k hkm
    unfold Vp at this
    have hp:(Xt m k).isSome=true:=by
     cases hq:(Xt m k).isSome with
     |true=>rfl
     |false=>rw[hq]at this;simp[h0,inB]at this
    unfold Xt at hp
    rw[if_pos h0]at hp
    cases hf:field m k.A.n k.B.n with
    |none=>rw[hf]at hp;simp at hp
    |some w=>
     obtain⟨h,hh⟩:=Zgf hf
     exact ZGU hc (by rw[hh];rfl)
   ·rename_i c2;exact absurd hk c2
 ·rename_i hx;exact absurd ht hx
section
variable (m : Zb) (part i : Int) (x : Zs) (t : ZD) (s : Sl)
theorem ZJi(A:List V)(hA: ∀k,Zo k A=true)(hk: ∀k∈t.Keys.l,k.Kind.n=0→0≤k.A.n∧k.A.n<64): ∀(r:List Key) (k:Int),0≤k→k≤t.Keys.l.length→t.Keys.l.drop k.toNat=r→∃fr hh,(orc vp).loop 0 [1,2,4,5,8,11,12,13,14] ZI3 [(1,.int .i64 part),(2,.int .i64 i),(4,.sl 65 A .perm),(5,.ptr 0 1 0 0),(8,.ptr 1 1 0 0),(11,.ptr 2 1 0 0),(12,.ptr 3 1 0 0),(13,.ptr 4 1 0 0),(14,.int .i64 k)] [.arr [m.v],.arr [x.v],.arr [rwV none],.arr [t.v],.arr [ZaU s]]=
 some (if 0≤Jh (keyB s) r k then(.ret,[(10,.sl 65 A .perm),(11,.ptr 2 1 0 0)],.arr [m.v]::.arr [x.v]::.arr [rwV (some (part,i,Jh (keyB s) r k,11))]::hh)
  else(.brk 0,(1,.int .i64 part)::(2,.int .i64 i)::(4,.sl 65 A .perm)::(5,.ptr 0 1 0 0)::(8,.ptr 1 1 0 0)::(11,.ptr 2 1 0 0)::(12,.ptr 3 1 0 0)::(13,.ptr 4 1 0 0)::fr,[.arr [m.v],.arr [x.v],.arr [rwV none],.arr [t.v],.arr [ZaU s]])):=by
 have hle:=t.Keys.le
 intro r
 induction r with
 |nil=>
  intro k h0 h1 hd
  have:=Zq h0 hd
  have e:k=t.Keys.l.length:=by omega
  subst e
  refine⟨[(14,.int .i64 t.Keys.l.length),(33,.bool false)],[],?_⟩
  rw[ZIL]
  simp -implicitDefEqProofs [ZIx,Jh]
 |cons y r ih=>
  intro k h0 hl1 hd
  obtain⟨h1,h2,h3⟩:=Zp h0 hd
  have w1:IntKind.i64.wrap (k+1)=k+1:=ZK (by omega) (by omega)
  have hy:y∈t.Keys.l:=by
   have:y∈t.Keys.l.drop k.toNat:=by rw[hd];simp
   exact List.mem_of_mem_drop this
  obtain⟨fr,hh,ih⟩:=ih (k+1) (by omega) (by omega) h3
  by_cases c:y.Kind.n=0
  ·obtain⟨a0,a1⟩:=hk y hy c
   have a64:y.A.n<(64:Nat):=by omega
   have hia:=fun B ep j o=>iA (B:=B) (ep:=ep) (j:=j) (o:=o) (n:=64) a0 a64
   have hg:=ZGF s 1 y.A.n.toNat (by omega)
   have hh2:=ZHf s a0 a1
   cases hb:s.getLsbD y.A.n.toNat with
   |true=>
    rw[hb]at hg hh2
    have e:keyB s y=false:=by unfold keyB;simp[c,hh2]
    refine⟨fr,hh,?_⟩
    simp only[Jh,e,Bool.false_eq_true,if_false]
    rw[ZIL,←ih]
    simp -implicitDefEqProofs [ZIx,h1,h2,hA,c,hia,hg,w1]
   |false=>
    rw[hb]at hg hh2
    have e:keyB s y=true:=by unfold keyB;simp[c,hh2]
    refine⟨[],[.arr [t.v],.arr [ZaU s]],?_⟩
    simp only[Jh,e,if_true,if_pos h0]
    rw[ZIL]
    simp -implicitDefEqProofs [ZIx,h1,h2,hA,c,hia,hg,w1,rwV,Zf,ZC]
  ·have e:keyB s y=false:=by unfold keyB;simp[c]
   refine⟨fr,hh,?_⟩
   simp only[Jh,e,Bool.false_eq_true,if_false]
   rw[ZIL,←ih]
   simp -implicitDefEqProofs [ZIx,h1,h2,hA,c,w1]
theorem ZJr(hb:m.Insts.l.length≤10000000)(hc:Yr m=none)(n:Nat)(hn2:n≤32)(y0:0≤x.Yes.n)(y1:x.Yes.n≤n)(n0:0≤x.No.n)(n1:x.No.n≤n)(hl: ∀a∈t.Actions.l,∃act,Zh m.Actions.l a.n=some act): ∀(r:List I64) (k:Int) (P:List (Bool ×Sl)),0≤k→k≤t.Actions.l.length→t.Actions.l.drop k.toNat=r→P.length=n+1→∃fr hh,(orc vp).loop 0 [4,5,8,11,12,13,15] ZI5 [(4,.sl 65 (P.map Za9) .perm),(5,.ptr 0 1 0 0),(8,.ptr 1 1 0 0),(11,.ptr 2 1 0 0),(12,.ptr 3 1 0 0),(13,.ptr 4 1 0 0),(15,.int .i64 k)] [.arr [m.v],.arr [x.v],.arr [rwV none],.arr [t.v],.arr [ZaU s]]=
 some (match WK m t.Default.Action.n x.Yes.n x.No.n s r P with
  |(none,P')=>(.brk 2,(4,.sl 65 (P'.map Za9) .perm)::(5,.ptr 0 1 0 0)::(8,.ptr 1 1 0 0)::(11,.ptr 2 1 0 0)::fr,[.arr [m.v],.arr [x.v],.arr [rwV none],.arr [t.v],.arr [ZaU s]])
  |(some w,P')=>(.ret,[(10,.sl 65 (P'.map Za9) .perm),(11,.ptr 2 1 0 0)],.arr [m.v]::.arr [x.v]::.arr [rwV (some w)]::hh)):=by
 have hle:=t.Actions.le
 have hz:=ZGK
 intro r
 induction r with
 |nil=>
  intro k P h0 h1 hd hP
  have:=Zq h0 hd
  have e:k=t.Actions.l.length:=by omega
  subst e
  refine⟨[(12,.ptr 3 1 0 0),(13,.ptr 4 1 0 0),(15,.int .i64 t.Actions.l.length),(63,.bool false)],[],?_⟩
  have hA:=fun k=>ZIg k P
  simp only[WK]
  generalize P.map Za9=A at*
  rw[ZIK]
  simp -implicitDefEqProofs [ZIz,hA]
 |cons a r ih=>
  intro k P h0 hl1 hd hP
  obtain⟨h1,h2,h3⟩:=Zp h0 hd
  have w1:IntKind.i64.wrap (k+1)=k+1:=ZK (by omega) (by omega)
  have ha:a∈t.Actions.l:=by
   have:a∈t.Actions.l.drop k.toNat:=by rw[hd];simp
   exact List.mem_of_mem_drop this
  obtain⟨act,hact⟩:=hl a ha
  have hco:WZ m a.n=act.Code.l:=by unfold WZ;rw[hact]
  have haf:=ZIv m hb hc a.n act hact s
  rw[←hco]at haf
  simp only[WK]
  have hA:=fun k=>ZIg k P
  generalize Y1 m (WZ m a.n) s=q at haf⊢
  obtain⟨o,j,e⟩:=q
  simp only at haf⊢
  by_cases he:e=0
  ·rw[if_pos he]at haf⊢
   have m1:=ZIj P .perm x.Yes.n y0 (by omega) (by omega) o
   have hA1:=fun k=>ZIg k (atP P x.Yes.n.toNat o)
   by_cases hd2:a.n=t.Default.Action.n
   ·rw[if_pos hd2]
    have hdd:=eq_true hd2
    have m2:=ZIj (atP P x.Yes.n.toNat o) .perm x.No.n n0 (by simp[hP];omega) (by simp[hP];omega) o
    obtain⟨fr,hh,ih⟩:=ih (k+1) (atP (atP P x.Yes.n.toNat o) x.No.n.toNat o) (by omega) (by omega) h3 (by simp[hP])
    have hA2:=fun k=>ZIg k (atP (atP P x.Yes.n.toNat o) x.No.n.toNat o)
    refine⟨fr,hh,?_⟩
    rw[ZIK,←ih]
    generalize (atP (atP P x.Yes.n.toNat o) x.No.n.toNat o).map Za9=A2 at*
    generalize (atP P x.Yes.n.toNat o).map Za9=A1 at*
    generalize P.map Za9=A at*
    simp -implicitDefEqProofs [ZIz,h1,h2,hz,hA,hA1,hA2,haf,m1,m2,hdd,w1,rwV]
   ·rw[if_neg hd2]
    obtain⟨fr,hh,ih⟩:=ih (k+1) (atP P x.Yes.n.toNat o) (by omega) (by omega) h3 (by simp[hP])
    refine⟨fr,hh,?_⟩
    rw[ZIK,←ih]
    generalize (atP P x.Yes.n.toNat o).map Za9=A1 at*
    generalize P.map Za9=A at*
    simp -implicitDefEqProofs [ZIz,h1,h2,hz,hA,hA1,haf,m1,hd2,w1,rwV]
  ·rw[if_neg he]at haf⊢
   refine⟨[],[.arr [t.v],.arr [ZaU s],.arr [ZaU o],.arr [rwV (some (5,a.n,j,e))]],?_⟩
   rw[ZIK]
   dsimp only
   generalize P.map Za9=A at*
   simp -implicitDefEqProofs [ZIz,h1,h2,hz,hA,haf,rwV]
end
theorem ZIy(P:List (Bool ×Sl)):Zv (P.map Za9)=true:=by rw[YR];simp
theorem ZIN(m:Zb)(hm:Clo m)(hb:m.Insts.l.length≤10000000)(hc:Yr m=none)(n:Nat)(hn2:n≤32)(part:Int)(i:Nat)(x:Zs)(hg:JD m n i x)(k0:x.Kind.n=0)(P:List (Bool ×Sl))(hP:P.length=n+1)(hin:i<n)(r:Bool)(s:Sl)(hs:P.getD i (false,0)=(r,s)):
 Zc vp 921 [m.v,.int .i64 part,.int .i64 i,x.v,.sl 65 (P.map Za9) .perm]=some (.tup [.sl 65 ((UC m part i x P s).2.map Za9) .perm,rwV (UC m part i x P s).1]):=by
 obtain⟨t,ht⟩:=Zzn hg.nm k0
 obtain⟨t1,t2⟩:=Za3 hc ht
 have hk:=ZJM hc ht
 have hA:=fun k=>ZIg k P
 have hC: ∀h,frz 0 h 3 (.sl 65 (P.map Za9) .perm)=some (.sl 65 (P.map Za9) .perm):=fun h=>UL (by simp only[Ze,Bool.true_and];exact ZIy P)
 have hz:=ZGK
 have htc:=Xc (ZbZ hm) ht
 obtain⟨y0,y1⟩:=hg.yes
 obtain⟨n0,n1⟩:=hg.no (by omega)
 have hgP:Yb 65 (.sl 65 (P.map Za9) .perm) (.int .i64 (i:Int))=some (.eptr (Za9 (r,s)) 0 .perm):=by
  have:i<P.length:=by omega
  rw[Zfc]
  unfold Zh
  rw[if_pos (by omega),Int.toNat_natCast,List.getElem?_map,←hs,List.getD_eq_getElem?_getD,List.getElem?_eq_getElem this];rfl
 obtain⟨fr,hh,hl1⟩:=ZJi m part i x t s (P.map Za9) hA hk t.Keys.l 0 (by omega) (by omega) rfl
 obtain⟨fr2,hh2,hl2⟩:=ZJr m x t s hb hc n hn2 (by omega) y1 (by omega) n1 t2 t.Actions.l 0 P (by omega) (by omega) rfl hP
 unfold UC
 rw[ht]
 simp only
 rw[Za ZJZ]
 by_cases c:0≤Jh (keyB s) t.Keys.l 0
 ·have c':0≤JO t.Keys.l s:=c
  rw[if_pos c]at hl1
  rw[if_pos c']
  have hki:Jh (keyB s) t.Keys.l 0=JO t.Keys.l s:=rfl
  rw[hki]at hl1
  dsimp only
  generalize JO t.Keys.l s=ks at*
  generalize P.map Za9=A at*
  simp only[rwV]at hl1⊢
  simp -implicitDefEqProofs [f921,b921,ht,htc,hz,hgP,hA,hC,hl1]
 ·have c': ¬0≤JO t.Keys.l s:=c
  rw[if_neg c]at hl1
  rw[if_neg c']
  generalize WK m t.Default.Action.n x.Yes.n x.No.n s t.Actions.l P=q at hl2⊢
  obtain⟨o,P'⟩:=q
  have hA':=fun k=>ZIg k P'
  have hC': ∀h,frz 0 h 3 (.sl 65 (P'.map Za9) .perm)=some (.sl 65 (P'.map Za9) .perm):=fun h=>UL (by simp only[Ze,Bool.true_and];exact ZIy P')
  have hz0: ∀fr,Zf fr (.build [.bool false,.int .i64 0,.int .i64 0,.int .i64 0] [])=some (rwV none):=fun _=>rfl
  cases o with
  |none=>
   dsimp only at hl2⊢
   generalize P'.map Za9=A' at*
   generalize P.map Za9=A at*
   simp only[rwV]at hl1 hl2 hz0⊢
   simp -implicitDefEqProofs [f921,b921,ht,htc,hz,hz0,hgP,hA,hA',hC,hC',hl1,hl2]
  |some w=>
   obtain⟨w1,w2,w3,w4⟩:=w
   dsimp only at hl2⊢
   generalize P'.map Za9=A' at*
   generalize P.map Za9=A at*
   simp only[rwV]at hl1 hl2 hz0⊢
   simp -implicitDefEqProofs [f921,b921,ht,htc,hz,hz0,hgP,hA,hA',hC,hC',hl1,hl2]
end Go.VE.Un
namespace Go.VE
section
variable {β : Type} {O : Orc} {vp : VP} {lo : Nat} {fr : Fr} {h : Zg} {k : Fr → Zg → Option β} {d : VDt} {r : List VDt} {p : Nat} {rs : List Jf} {n a x i b c : Nat} {xl : List Nat}
theorem ZIt(hd:d.it.dst.isSome=true)(hx:d.xl=[]):
 dK O vp lo (d::r) p rs fr h k=Zt O vp lo [d.it] fr h (fun fr' h'=>dK O vp lo r (p+1) (Xg p d.it fr h (lk fr' (d.it.dst.getD 0))++rs) fr' h' k):=by
 rw[Xd hd]
 have: ∀h':Zg,(rs.all fun e=> !d.xl.contains e.p||ZT (Yv h' e.agg e.n e.a) e.v)=true:=fun h'=>by rw[List.all_eq_true];intro e _;rw[hx];rfl
 simp only[this,if_true]
theorem ZIn:dK O vp lo (⟨⟨none,.store n false (.t a) (.t x),none⟩,i,b,[]⟩::r) p rs fr h k=(Xp lo h n (lk fr a) (lk fr x)).bind fun h'=>dK O vp lo r (p+1) rs fr h' k:=by
 rw[Uk]
 have: ∀h':Zg,(rs.all fun e=> !([]:List Nat).contains e.p||ZT (Yv h' e.agg e.n e.a) e.v)=true:=fun h'=>by rw[List.all_eq_true];intro e _;rfl
 simp only[this,if_true]
theorem ZIo:dK O vp lo (⟨⟨none,.store n false (.t a) (.t x),none⟩,i,b,c::xl⟩::r) p rs fr h k=(Xp lo h n (lk fr a) (lk fr x)).bind fun h'=>if(rs.all fun e=> !(c::xl).contains e.p||ZT (Yv h' e.agg e.n e.a) e.v)=true then dK O vp lo r (p+1) rs fr h' k else none:=Uk
end
end Go.VE
namespace Go.VE.Un
open Go.VE
def fR(a b:V)(s:Sl)(n:Int):V:=.agg (a::b::((ZjA s).map V.bool++[.int .i64 n]))
section
variable (a b x a' b' : V) (s t : Sl) (n k : Int) (B ep z o l : Nat)
@[simp] theorem ZKc:okV (fR a b s n)=true:=nr rfl
@[simp] theorem ZKd:ldc (fR a b s n) false 1 0=some a:=nr rfl
@[simp] theorem ZKf:ldc (fR a b s n) false 1 1=some b:=nr rfl
@[simp] theorem ZKa:ldc (fR a b s n) false 1 66=some (.int .i64 n):=by
  unfold fR;rw[Zv6]
  simp only[List.getElem?_cons_succ]
  rw[List.getElem?_append_right (by simp)];simp
@[simp] theorem ZKe:ldc (fR a b s n) true 64 2=some (ZaU s):=by
  unfold fR
  rw[ZqL _ _ _ (by simp)]
  simp only[List.drop_succ_cons,List.drop_zero]
  rw[List.take_left' (by simp)];rfl
@[simp] theorem ZKg:ldc (fR a b s n) true 67 0=some (fR a b s n):=QE (by simp)
theorem ZJ1(h:Vv x=true):stc (fR a b s n) 1 0 x=some (fR x b s n):=by unfold fR;rw[W9 (by simp) h];rfl
theorem ZJT(h:Vv x=true):stc (fR a b s n) 1 1 x=some (fR a x s n):=by unfold fR;rw[W9 (by simp) h];rfl
@[simp] theorem ZJ6:stc (fR a b s n) 1 0 (.gsl B ep z o l)=some (fR (.gsl B ep z o l) b s n):=ZJ1 _ _ _ _ _ rfl
@[simp] theorem ZJ8:stc (fR a b s n) 1 1 (.gsl B ep z o l)=some (fR a (.gsl B ep z o l) s n):=ZJT _ _ _ _ _ rfl
@[simp] theorem ZJ7:stc (fR a b s n) 1 66 (.int .i64 k)=some (fR a b s k):=by
  unfold fR;rw[W9 (by simp) rfl]
  simp only[List.set_cons_succ]
  rw[List.set_append_right _ _ (by simp)];simp
@[simp] theorem ZKb:stc (fR a b s n) 64 2 (ZaU t)=some (fR a b t n):=by
  unfold fR stc ZaU bsV
  simp[V.cells,okV]
@[simp] theorem ZJ9:stc (fR a b s n) 67 0 (fR a' b' t k)=some (fR a' b' t k):=Zie (by simp) (by simp)
@[simp] theorem ZJY(q:Nat):Zk q (fR a b s n)=(Zk q a&&Zk q b):=by
  have h:Zo q ((ZjA s).map V.bool++[.int .i64 n])=true:=by
   have h1:=KC q (ZjA s)
   generalize (ZjA s).map V.bool=L at h1
   induction L with
   |nil=>rfl
   |cons y r ih=>simp only[Zo,Bool.and_eq_true]at h1;simp only[List.cons_append,Zo,h1.1,ih h1.2,Bool.and_true]
  simp only[fR,Zk,Zo,h,Bool.and_true]
end
theorem ZIZ:V.agg [.sl 1 [] .nl,.sl 64 [] .nl,.bool false,.bool false,.bool false,.bool false,.bool false,.bool false,.bool false,.bool false,.bool false,.bool false,.bool false,.bool false,.bool false,.bool false,.bool false,.bool false,.bool false,.bool false,.bool false,.bool false,.bool false,.bool false,.bool false,.bool false,.bool false,.bool false,.bool false,.bool false,.bool false,.bool false,.bool false,.bool false,.bool false,.bool false,.bool false,.bool false,.bool false,.bool false,.bool false,.bool false,.bool false,.bool false,.bool false,.bool false,.bool false,.bool false,.bool false,.bool false,.bool false,.bool false,.bool false,.bool false,.bool false,.bool false,.bool false,.bool false,.bool false,.bool false,.bool false,.bool false,.bool false,.bool false,.bool false,.bool false,.int .i64 0]=fR (.sl 1 [] .nl) (.sl 64 [] .nl) 0#64 0:=by
 unfold fR;rw[←ZG2];rfl
theorem ZJm(fr:Fr):Zf fr (.build [.sl 1 [] .nl,.sl 64 [] .nl,.bool false,.bool false,.bool false,.bool false,.bool false,.bool false,.bool false,.bool false,.bool false,.bool false,.bool false,.bool false,.bool false,.bool false,.bool false,.bool false,.bool false,.bool false,.bool false,.bool false,.bool false,.bool false,.bool false,.bool false,.bool false,.bool false,.bool false,.bool false,.bool false,.bool false,.bool false,.bool false,.bool false,.bool false,.bool false,.bool false,.bool false,.bool false,.bool false,.bool false,.bool false,.bool false,.bool false,.bool false,.bool false,.bool false,.bool false,.bool false,.bool false,.bool false,.bool false,.bool false,.bool false,.bool false,.bool false,.bool false,.bool false,.bool false,.bool false,.bool false,.bool false,.bool false,.bool false,.bool false,.int .i64 0] [])=some (fR (.sl 1 [] .nl) (.sl 64 [] .nl) 0#64 0):=by
 rw[←ZIZ];rfl
def rS(S:List (Bool ×Sl)):List V:=S.map fun q=>ZaU q.2
theorem ZIl(k:Nat)(S:List (Bool ×Sl)):Zo k (rS S)=true:=Yq (fun _=>Zt9 _ _) S
theorem ZIm(k:Nat)(S:List (Bool ×Sl)):Zo k (bS S)=true:=Yq (fun _=>rfl) S
section
variable (m : Zb) (hm : Clo m) (hb : m.Insts.l.length ≤ 10000000) (hc : Yr m = none) (p : Int) (N : GL Zs) (hcl : Ze (GL.v 6 Zs.v N) = true) (n : Nat) (hn : N.l.length = n) (hn2 : n ≤ 32) (hg : ∀ i x, Zh N.l i = some x → JD m n i x) (e1 e4 t0 t1 t2 t3 t4 : List V)
include hcl hn hn2 hg in
set_option maxRecDepth 100000 in
set_option maxHeartbeats 4000000 in
theorem ZJI(i i2:Nat)(hi3:i+1=i2)(hi2:i<n)(x:Zs)(hx':Zh N.l (i:Int)=some x)(P S:List (Bool ×Sl))(hP:P.length=n+1)(hS:S.length=i)(s:Sl)(hpp:P.getD i (false,0)=(false,s)):(orc vp).loop 0 [3,6,7,8,9,10,11,12] ZIk [(3,.ptr 0 1 0 0),(6,.ptr 2 1 0 0),(7,.ptr 3 1 0 0),(8,GL.v 6 Zs.v N),(9,.int .i64 p),(10,.sl 65 (P.map Za9) .perm),(11,.ptr 5 1 0 0),(12,.int .i64 i)] [.arr [m.v],.arr e1,.arr [fR (.sl 1 [] .nl) (.sl 64 [] .nl) 0#64 0],.arr [rwV none],.arr e4,.arr [fR (.gsl 6 i 1 0 i) (.gsl 7 i 64 0 i) 0#64 0],.arr (bS S),.arr (rS S),.arr t0,.arr t1,.arr t2,.arr t3,.arr t4]=(orc vp).loop 0 [3,6,7,8,9,10,11,12] ZIk [(3,.ptr 0 1 0 0),(6,.ptr 2 1 0 0),(7,.ptr 3 1 0 0),(8,GL.v 6 Zs.v N),(9,.int .i64 p),(10,.sl 65 (P.map Za9) .perm),(11,.ptr 5 1 0 0),(12,.int .i64 i2)] [.arr [m.v],.arr e1,.arr [fR (.sl 1 [] .nl) (.sl 64 [] .nl) 0#64 0],.arr [rwV none],.arr e4,.arr [fR (.gsl 6 i2 1 0 i2) (.gsl 7 i2 64 0 i2) 0#64 0],.arr (bS (S++[(false,s)])),.arr (rS (S++[(false,s)])),.arr t0,.arr t1,.arr t2,.arr t3,.arr t4]:=by
 have hlt:((i:Int):Int)<n:=by omega
 have hxc:=Xc hcl hx'
 have hgx:=hg _ _ hx'
 have w1:IntKind.i64.wrap ((i:Int)+1)=(i2:Int):=by rw[ZK (by omega) (by omega)];omega
 have hpl:i<P.length:=by omega
 have hia:Yb 65 (.sl 65 (P.map Za9) .perm) (.int .i64 (i:Int))=some (.eptr (Za9 (false,s)) 0 .perm):=by
  rw[Zfc]
  unfold Zh
  rw[if_pos (by omega),show((i:Int):Int).toNat=i from by omega,List.getElem?_map,←hpp,List.getD_eq_getElem?_getD,List.getElem?_eq_getElem hpl];rfl
 have hs1:=fun fr=>slK fr 1 44 (.bool false) rfl rfl
 have hs2:=fun fr=>slK fr 64 54 (ZaU s) (by simp[ZaU,bsV,V.cells]) (ZA1 s)
 have hb0: ∀fr,Zf fr (.build [.bool false,.int .i64 0,.int .i64 0,.int .i64 0] [])=some (.agg [.bool false,.int .i64 0,.int .i64 0,.int .i64 0]):=fun _=>rfl
 have lz1: ∀(h:Zg) v,Wl h 1 (.sl 1 [v] .ce)=some [v]:=fun _ _=>rfl
 have lz2: ∀(h:Zg) v,Wl h 64 (.sl 64 [v] .ce)=some [v]:=fun _ _=>rfl
 have hz:=ZGK
 have hfb:=ZJm
 have hfz:=ZIZ
 have hbA:=fun k=>ZIg k P
 have bb:=fun k=>ZIm k (S++[(false,s)])
 have bs:=fun k=>ZIl k (S++[(false,s)])
 have eb:bS (S++[(false,s)])=bS S++[.bool false]:=by simp[bS]
 have es:rS (S++[(false,s)])=rS S++[ZaU s]:=by simp[rS]
 have lb:(bS S).length=i:=by simp[bS,hS]
 have ls:(rS S).length=i:=by simp[rS,hS]
 have bb0:=fun k=>ZIm k S
 have bs0:=fun k=>ZIl k S
 have ab: ∀a0 a1 a2 a3 a4 a5 a7,X3 0 [a0,a1,a2,a3,a4,a5,.arr (bS S),a7,.arr t0,.arr t1,.arr t2,.arr t3,.arr t4] 1 1 (.gsl 6 i 1 0 i) [.bool false]=some (.gsl 6 i2 1 0 i2,[a0,a1,a2,a3,a4,a5,.arr (bS S++[.bool false]),a7,.arr t0,.arr t1,.arr t2,.arr t3,.arr t4]):=fun a0 a1 a2 a3 a4 a5 a7=>by
  rw[KY (es:=bS S) (by simp) lb (by omega) rfl (by unfold YC;simp;omega)]
  simp[hi3]
 have as_: ∀a0 a1 a2 a3 a4 a5 a6,X3 0 [a0,a1,a2,a3,a4,a5,a6,.arr (rS S),.arr t0,.arr t1,.arr t2,.arr t3,.arr t4] 64 64 (.gsl 7 i 64 0 i) [ZaU s]=some (.gsl 7 i2 64 0 i2,[a0,a1,a2,a3,a4,a5,a6,.arr (rS S++[ZaU s]),.arr t0,.arr t1,.arr t2,.arr t3,.arr t4]):=fun a0 a1 a2 a3 a4 a5 a6=>by
  rw[KY (es:=rS S) (by simp) ls (by omega) rfl (by unfold YC;simp;omega)]
  simp[hi3]
 rw[eb]at bb
 rw[es]at bs
 rw[eb,es]
 generalize P.map Za9=A at*
 generalize bS S=B at*
 generalize rS S=D at*
 rw[ZIh]
 simp -implicitDefEqProofs [ZIi,hn,hlt,hia,hx',hxc,hs1,hs2,hb0,lz1,lz2,hz,hfb,hfz,ab,as_,bb,bs,hbA,w1,rwV,bb0,bs0]
end
section
variable (m : Zb) (hm : Clo m) (hb : m.Insts.l.length ≤ 10000000) (hc : Yr m = none) (p : Int) (N : GL Zs) (hcl : Ze (GL.v 6 Zs.v N) = true) (n : Nat) (hn : N.l.length = n) (hn2 : n ≤ 32) (hg : ∀ i x, Zh N.l i = some x → JD m n i x) (e1 e4 t0 t1 t2 t3 t4 t5 : List V)
include hcl hn hn2 hg in
set_option maxRecDepth 100000 in
set_option maxHeartbeats 4000000 in
theorem ZJK(i i2:Nat)(hi3:i+1=i2)(hi2:i<n)(x:Zs)(hx':Zh N.l (i:Int)=some x)(P S:List (Bool ×Sl))(hP:P.length=n+1)(hS:S.length=i)(s:Sl)(hpp:P.getD i (false,0)=(false,s)):(orc vp).loop 0 [3,6,7,8,9,10,11,12] ZIk [(3,.ptr 0 1 0 0),(6,.ptr 2 1 0 0),(7,.ptr 3 1 0 0),(8,GL.v 6 Zs.v N),(9,.int .i64 p),(10,.sl 65 (P.map Za9) .perm),(11,.ptr 5 1 0 0),(12,.int .i64 i)] [.arr [m.v],.arr e1,.arr [fR (.sl 1 [] .nl) (.sl 64 [] .nl) 0#64 0],.arr [rwV none],.arr e4,.arr [fR (.gsl 6 i 1 0 i) (.gsl 7 i 64 0 i) 0#64 0],.arr (bS S),.arr (rS S),.arr t0,.arr t1,.arr t2,.arr t3,.arr t4,.arr t5]=(orc vp).loop 0 [3,6,7,8,9,10,11,12] ZIk [(3,.ptr 0 1 0 0),(6,.ptr 2 1 0 0),(7,.ptr 3 1 0 0),(8,GL.v 6 Zs.v N),(9,.int .i64 p),(10,.sl 65 (P.map Za9) .perm),(11,.ptr 5 1 0 0),(12,.int .i64 i2)] [.arr [m.v],.arr e1,.arr [fR (.sl 1 [] .nl) (.sl 64 [] .nl) 0#64 0],.arr [rwV none],.arr e4,.arr [fR (.gsl 6 i2 1 0 i2) (.gsl 7 i2 64 0 i2) 0#64 0],.arr (bS (S++[(false,s)])),.arr (rS (S++[(false,s)])),.arr t0,.arr t1,.arr t2,.arr t3,.arr t4,.arr t5]:=by
 have hlt:((i:Int):Int)<n:=by omega
 have hxc:=Xc hcl hx'
 have hgx:=hg _ _ hx'
 have w1:IntKind.i64.wrap ((i:Int)+1)=(i2:Int):=by rw[ZK (by omega) (by omega)];omega
 have hpl:i<P.length:=by omega
 have hia:Yb 65 (.sl 65 (P.map Za9) .perm) (.int .i64 (i:Int))=some (.eptr (Za9 (false,s)) 0 .perm):=by
  rw[Zfc]
  unfold Zh
  rw[if_pos (by omega),show((i:Int):Int).toNat=i from by omega,List.getElem?_map,←hpp,List.getD_eq_getElem?_getD,List.getElem?_eq_getElem hpl];rfl
 have hs1:=fun fr=>slK fr 1 44 (.bool false) rfl rfl
 have hs2:=fun fr=>slK fr 64 54 (ZaU s) (by simp[ZaU,bsV,V.cells]) (ZA1 s)
 have hb0: ∀fr,Zf fr (.build [.bool false,.int .i64 0,.int .i64 0,.int .i64 0] [])=some (.agg [.bool false,.int .i64 0,.int .i64 0,.int .i64 0]):=fun _=>rfl
 have lz1: ∀(h:Zg) v,Wl h 1 (.sl 1 [v] .ce)=some [v]:=fun _ _=>rfl
 have lz2: ∀(h:Zg) v,Wl h 64 (.sl 64 [v] .ce)=some [v]:=fun _ _=>rfl
 have hz:=ZGK
 have hfb:=ZJm
 have hfz:=ZIZ
 have hbA:=fun k=>ZIg k P
 have bb:=fun k=>ZIm k (S++[(false,s)])
 have bs:=fun k=>ZIl k (S++[(false,s)])
 have eb:bS (S++[(false,s)])=bS S++[.bool false]:=by simp[bS]
 have es:rS (S++[(false,s)])=rS S++[ZaU s]:=by simp[rS]
 have lb:(bS S).length=i:=by simp[bS,hS]
 have ls:(rS S).length=i:=by simp[rS,hS]
 have bb0:=fun k=>ZIm k S
 have bs0:=fun k=>ZIl k S
 have ab: ∀a0 a1 a2 a3 a4 a5 a7,X3 0 [a0,a1,a2,a3,a4,a5,.arr (bS S),a7,.arr t0,.arr t1,.arr t2,.arr t3,.arr t4,.arr t5] 1 1 (.gsl 6 i 1 0 i) [.bool false]=some (.gsl 6 i2 1 0 i2,[a0,a1,a2,a3,a4,a5,.arr (bS S++[.bool false]),a7,.arr t0,.arr t1,.arr t2,.arr t3,.arr t4,.arr t5]):=fun a0 a1 a2 a3 a4 a5 a7=>by
  rw[KY (es:=bS S) (by simp) lb (by omega) rfl (by unfold YC;simp;omega)]
  simp[hi3]
 have as_: ∀a0 a1 a2 a3 a4 a5 a6,X3 0 [a0,a1,a2,a3,a4,a5,a6,.arr (rS S),.arr t0,.arr t1,.arr t2,.arr t3,.arr t4,.arr t5] 64 64 (.gsl 7 i 64 0 i) [ZaU s]=some (.gsl 7 i2 64 0 i2,[a0,a1,a2,a3,a4,a5,a6,.arr (rS S++[ZaU s]),.arr t0,.arr t1,.arr t2,.arr t3,.arr t4,.arr t5]):=fun a0 a1 a2 a3 a4 a5 a6=>by
  rw[KY (es:=rS S) (by simp) ls (by omega) rfl (by unfold YC;simp;omega)]
  simp[hi3]
 rw[eb]at bb
 rw[es]at bs
 rw[eb,es]
 generalize P.map Za9=A at*
 generalize bS S=B at*
 generalize rS S=D at*
 rw[ZIh]
 simp -implicitDefEqProofs [ZIi,hn,hlt,hia,hx',hxc,hs1,hs2,hb0,lz1,lz2,hz,hfb,hfz,ab,as_,bb,bs,hbA,w1,rwV,bb0,bs0]
end
end Go.VE.Un
namespace Go.VE.Un
open Go.VE
section
variable (m : Zb) (hm : Clo m) (hb : m.Insts.l.length ≤ 10000000) (hc : Yr m = none) (p : Int) (N : GL Zs) (hcl : Ze (GL.v 6 Zs.v N) = true) (n : Nat) (hn : N.l.length = n) (hn2 : n ≤ 32) (hg : ∀ i x, Zh N.l i = some x → JD m n i x) (e1 e4 t0 t1 t2 t3 t4 : List V)
include hm hb hc hcl hn hn2 hg in
set_option maxRecDepth 100000 in
set_option maxHeartbeats 4000000 in
theorem ZJu(i i2:Nat)(hi3:i+1=i2)(hi2:i<n)(x:Zs)(hx':Zh N.l (i:Int)=some x)(P S:List (Bool ×Sl))(hP:P.length=n+1)(hS:S.length=i)(s:Sl)(hpp:P.getD i (false,0)=(true,s)): ∃hh,(orc vp).loop 0 [3,6,7,8,9,10,11,12] ZIk [(3,.ptr 0 1 0 0),(6,.ptr 2 1 0 0),(7,.ptr 3 1 0 0),(8,GL.v 6 Zs.v N),(9,.int .i64 p),(10,.sl 65 (P.map Za9) .perm),(11,.ptr 5 1 0 0),(12,.int .i64 i)] [.arr [m.v],.arr e1,.arr [fR (.sl 1 [] .nl) (.sl 64 [] .nl) 0#64 0],.arr [rwV none],.arr e4,.arr [fR (.gsl 6 i 1 0 i) (.gsl 7 i 64 0 i) 0#64 0],.arr (bS S),.arr (rS S),.arr t0,.arr t1,.arr t2,.arr t3,.arr t4]=match Vr m p i x P s with
 |(none,P')=>(orc vp).loop 0 [3,6,7,8,9,10,11,12] ZIk [(3,.ptr 0 1 0 0),(6,.ptr 2 1 0 0),(7,.ptr 3 1 0 0),(8,GL.v 6 Zs.v N),(9,.int .i64 p),(10,.sl 65 (P'.map Za9) .perm),(11,.ptr 5 1 0 0),(12,.int .i64 i2)] [.arr [m.v],.arr e1,.arr [fR (.sl 1 [] .nl) (.sl 64 [] .nl) 0#64 0],.arr [rwV none],.arr e4,.arr [fR (.gsl 6 i2 1 0 i2) (.gsl 7 i2 64 0 i2) 0#64 0],.arr (bS (S++[(true,s)])),.arr (rS (S++[(true,s)])),.arr t0,.arr t1,.arr t2,.arr t3,.arr t4]
 |(some w,_)=>some (.ret,[(6,.ptr 2 1 0 0),(7,.ptr 3 1 0 0)],.arr [m.v]::.arr e1::.arr [fR (.sl 1 [] .nl) (.sl 64 [] .nl) 0#64 0]::.arr [rwV (some w)]::hh):=by
 have hlt:((i:Int):Int)<n:=by omega
 have hxc:=Xc hcl hx'
 have hgx:=hg _ _ hx'
 have w1:IntKind.i64.wrap ((i:Int)+1)=(i2:Int):=by rw[ZK (by omega) (by omega)];omega
 have hpl:i<P.length:=by omega
 have hia:Yb 65 (.sl 65 (P.map Za9) .perm) (.int .i64 (i:Int))=some (.eptr (Za9 (true,s)) 0 .perm):=by
  rw[Zfc]
  unfold Zh
  rw[if_pos (by omega),show((i:Int):Int).toNat=i from by omega,List.getElem?_map,←hpp,List.getD_eq_getElem?_getD,List.getElem?_eq_getElem hpl];rfl
 have hs1:=fun fr=>slK fr 1 44 (.bool true) rfl rfl
 have hs2:=fun fr=>slK fr 64 54 (ZaU s) (by simp[ZaU,bsV,V.cells]) (ZA1 s)
 have hb0: ∀fr,Zf fr (.build [.bool false,.int .i64 0,.int .i64 0,.int .i64 0] [])=some (.agg [.bool false,.int .i64 0,.int .i64 0,.int .i64 0]):=fun _=>rfl
 have lz1: ∀(h:Zg) v,Wl h 1 (.sl 1 [v] .ce)=some [v]:=fun _ _=>rfl
 have lz2: ∀(h:Zg) v,Wl h 64 (.sl 64 [v] .ce)=some [v]:=fun _ _=>rfl
 have hz:=ZGK
 have hfb:=ZJm
 have hfz:=ZIZ
 have hbA:=fun k=>ZIg k P
 have bb:=fun k=>ZIm k (S++[(true,s)])
 have bs:=fun k=>ZIl k (S++[(true,s)])
 have eb:bS (S++[(true,s)])=bS S++[.bool true]:=by simp[bS]
 have es:rS (S++[(true,s)])=rS S++[ZaU s]:=by simp[rS]
 have lb:(bS S).length=i:=by simp[bS,hS]
 have ls:(rS S).length=i:=by simp[rS,hS]
 have bb0:=fun k=>ZIm k S
 have bs0:=fun k=>ZIl k S
 have ab: ∀a0 a1 a2 a3 a4 a5 a7,X3 0 [a0,a1,a2,a3,a4,a5,.arr (bS S),a7,.arr t0,.arr t1,.arr t2,.arr t3,.arr t4] 1 1 (.gsl 6 i 1 0 i) [.bool true]=some (.gsl 6 i2 1 0 i2,[a0,a1,a2,a3,a4,a5,.arr (bS S++[.bool true]),a7,.arr t0,.arr t1,.arr t2,.arr t3,.arr t4]):=fun a0 a1 a2 a3 a4 a5 a7=>by
  rw[KY (es:=bS S) (by simp) lb (by omega) rfl (by unfold YC;simp;omega)]
  simp[hi3]
 have as_: ∀a0 a1 a2 a3 a4 a5 a6,X3 0 [a0,a1,a2,a3,a4,a5,a6,.arr (rS S),.arr t0,.arr t1,.arr t2,.arr t3,.arr t4] 64 64 (.gsl 7 i 64 0 i) [ZaU s]=some (.gsl 7 i2 64 0 i2,[a0,a1,a2,a3,a4,a5,a6,.arr (rS S++[ZaU s]),.arr t0,.arr t1,.arr t2,.arr t3,.arr t4]):=fun a0 a1 a2 a3 a4 a5 a6=>by
  rw[KY (es:=rS S) (by simp) ls (by omega) rfl (by unfold YC;simp;omega)]
  simp[hi3]
 rw[eb]at bb
 rw[es]at bs
 simp only[eb,es]
 obtain⟨y0,y1⟩:=hgx.yes
 unfold Vr
 by_cases k0:x.Kind.n=0
 ·obtain⟨n0,n1⟩:=hgx.no (by omega)
  have hap:=ZIN m hm hb hc n hn2 p i x hgx k0 P hP hi2 true s hpp
  skip
  rw[if_pos k0]
  have hQ:=ZIg
  generalize UC m p (i:Int) x P s=q at hap⊢
  obtain⟨o,P'⟩:=q
  have hbQ:=fun k=>ZIg k P'
  cases o with
  |none=>
   dsimp only at hap
   refine⟨[],?_⟩
   dsimp only
   generalize P'.map Za9=Q at*
   generalize P.map Za9=A at*
   generalize bS S=B at*
   generalize rS S=D at*
   rw[ZIh]
   simp(maxSteps:=2000000) -implicitDefEqProofs [ZIi,hn,hlt,hia,hx',hxc,hs1,hs2,hb0,lz1,lz2,hz,hfb,hfz,ab,as_,bb,bs,hbA,w1,rwV,bb0,bs0,hxc,ZIt,ZIn,ZIo,UE,Tx.E,Tx.D,Tx.mv,Tx.nk,Tx.fa,Tx.ld,Tx.ia,Tx.la,Tx.al,Tx.ct,Tx.ex,Tx.it,Tx.st,Xg,ZT,hap,k0,hbQ]
  |some w=>
   obtain⟨q1,q2,q3,q4⟩:=w
   dsimp only at hap
   refine⟨[.arr e4,.arr [fR (.gsl 6 i2 1 0 i2) (.gsl 7 i2 64 0 i2) 0#64 0],.arr (bS S++[.bool true]),.arr (rS S++[ZaU s]),.arr t0,.arr t1,.arr t2,.arr t3,.arr t4,.arr [x.v],.arr [ZaU s],.arr [rwV (some (q1,q2,q3,q4))],.arr [ZaU s],.arr [ZaU s]],?_⟩
   dsimp only
   generalize P'.map Za9=Q at*
   generalize P.map Za9=A at*
   generalize bS S=B at*
   generalize rS S=D at*
   rw[ZIh]
   simp(maxSteps:=2000000) -implicitDefEqProofs [ZIi,hn,hlt,hia,hx',hxc,hs1,hs2,hb0,lz1,lz2,hz,hfb,hfz,ab,as_,bb,bs,hbA,w1,rwV,bb0,bs0,hxc,ZIt,ZIn,ZIo,UE,Tx.E,Tx.D,Tx.mv,Tx.nk,Tx.fa,Tx.ld,Tx.ia,Tx.la,Tx.al,Tx.ct,Tx.ex,Tx.it,Tx.st,Xg,ZT,hap,k0,hbQ]
 rw[if_neg k0]
 by_cases k2:x.Kind.n=2
 ·rw[if_pos k2]
  obtain⟨act,hact⟩:=ZyL hgx.nm k2
  have hco:WZ m x.A.n=act.Code.l:=by unfold WZ;rw[hact]
  have haf:=ZIv m hb hc x.A.n act hact s
  rw[←hco]at haf
  generalize Y1 m (WZ m x.A.n) s=q at haf⊢
  obtain⟨o,j,e⟩:=q
  simp only at haf⊢
  have m1:=ZIj P .perm x.Yes.n (by omega) (by omega) (by omega) o
  have hb1:=fun k=>ZIg k (atP P x.Yes.n.toNat o)
  by_cases he:e=0
  ·rw[if_pos he]at haf⊢
   refine⟨[],?_⟩
   dsimp only
   generalize (atP P x.Yes.n.toNat o).map Za9=A1 at*
   generalize P.map Za9=A at*
   generalize bS S=B at*
   generalize rS S=D at*
   rw[ZIh]
   simp(maxSteps:=2000000) -implicitDefEqProofs [ZIi,hn,hlt,hia,hx',hxc,hs1,hs2,hb0,lz1,lz2,hz,hfb,hfz,ab,as_,bb,bs,hbA,w1,rwV,bb0,bs0,hxc,ZIt,ZIn,ZIo,UE,Tx.E,Tx.D,Tx.mv,Tx.nk,Tx.fa,Tx.ld,Tx.ia,Tx.la,Tx.al,Tx.ct,Tx.ex,Tx.it,Tx.st,Xg,ZT,haf,m1,hb1,k2]
  ·rw[if_neg he]at haf⊢
   refine⟨[.arr e4,.arr [fR (.gsl 6 i2 1 0 i2) (.gsl 7 i2 64 0 i2) 0#64 0],.arr (bS S++[.bool true]),.arr (rS S++[ZaU s]),.arr t0,.arr t1,.arr t2,.arr t3,.arr t4,.arr [x.v],.arr [ZaU s],.arr [rwV (some (5,x.A.n,j,e))],.arr [ZaU o],.arr [ZaU s]],?_⟩
   dsimp only
   generalize (atP P x.Yes.n.toNat o).map Za9=A1 at*
   generalize P.map Za9=A at*
   generalize bS S=B at*
   generalize rS S=D at*
   rw[ZIh]
   simp(maxSteps:=2000000) -implicitDefEqProofs [ZIi,hn,hlt,hia,hx',hxc,hs1,hs2,hb0,lz1,lz2,hz,hfb,hfz,ab,as_,bb,bs,hbA,w1,rwV,bb0,bs0,hxc,ZIt,ZIn,ZIo,UE,Tx.E,Tx.D,Tx.mv,Tx.nk,Tx.fa,Tx.ld,Tx.ia,Tx.la,Tx.al,Tx.ct,Tx.ex,Tx.it,Tx.st,Xg,ZT,haf,m1,hb1,k2]
 rw[if_neg k2]
 obtain⟨n0,n1⟩:=hgx.no k2
 by_cases k1:x.Kind.n=1
 ·rw[if_pos k1]
  have haf:=ZIB m hb hc x.Code (ZfN (hgx.code k1) (by omega)) s
  generalize Y1 m x.Code.l s=q at haf⊢
  obtain⟨o,j,e⟩:=q
  simp only at haf⊢
  have m1:=ZIj P .perm x.Yes.n (by omega) (by omega) (by omega) o
  have m2:=ZIj (atP P x.Yes.n.toNat o) .perm x.No.n (by omega) (by simp[hP];omega) (by simp[hP];omega) o
  have hb1:=fun k=>ZIg k (atP P x.Yes.n.toNat o)
  have hb2:=fun k=>ZIg k (atP (atP P x.Yes.n.toNat o) x.No.n.toNat o)
  have hbw: ∀fr,Zf ((134,.int .i64 j)::(133,.int .i64 (i:Int))::(132,.int .i64 p)::fr) (.build [.bool false,.int .i64 0,.int .i64 0,.int .i64 0] [(0,1,.c (.bool true)),(1,1,.t 132),(2,1,.t 133),(3,1,.t 134)])=some (.agg [.bool true,.int .i64 p,.int .i64 (i:Int),.int .i64 j]):=fun fr=>by simp[Zf,ZC]
  by_cases he:e=0
  ·rw[if_pos he]
   refine⟨[],?_⟩
   dsimp only
   generalize (atP (atP P x.Yes.n.toNat o) x.No.n.toNat o).map Za9=A2 at*
   generalize (atP P x.Yes.n.toNat o).map Za9=A1 at*
   generalize P.map Za9=A at*
   generalize bS S=B at*
   generalize rS S=D at*
   rw[ZIh]
   simp(maxSteps:=2000000) -implicitDefEqProofs [ZIi,hn,hlt,hia,hx',hxc,hs1,hs2,hb0,lz1,lz2,hz,hfb,hfz,ab,as_,bb,bs,hbA,w1,rwV,bb0,bs0,hxc,ZIt,ZIn,ZIo,UE,Tx.E,Tx.D,Tx.mv,Tx.nk,Tx.fa,Tx.ld,Tx.ia,Tx.la,Tx.al,Tx.ct,Tx.ex,Tx.it,Tx.st,Xg,ZT,haf,m1,m2,hb1,hb2,he,k1]
  ·rw[if_neg he]
   refine⟨[.arr e4,.arr [fR (.gsl 6 i2 1 0 i2) (.gsl 7 i2 64 0 i2) 0#64 0],.arr (bS S++[.bool true]),.arr (rS S++[ZaU s]),.arr t0,.arr t1,.arr t2,.arr t3,.arr t4,.arr [x.v],.arr [ZaU s],.arr [rwV (some (p,(i:Int),j,e))],.arr [ZaU s],.arr [ZaU s],.arr [ZaU o]],?_⟩
   dsimp only
   generalize (atP (atP P x.Yes.n.toNat o) x.No.n.toNat o).map Za9=A2 at*
   generalize (atP P x.Yes.n.toNat o).map Za9=A1 at*
   generalize P.map Za9=A at*
   generalize bS S=B at*
   generalize rS S=D at*
   rw[ZIh]
   simp(maxSteps:=2000000) -implicitDefEqProofs [ZIi,hn,hlt,hia,hx',hxc,hs1,hs2,hb0,lz1,lz2,hz,hfb,hfz,ab,as_,bb,bs,hbA,w1,rwV,bb0,bs0,hxc,ZIt,ZIn,ZIo,UE,Tx.E,Tx.D,Tx.mv,Tx.nk,Tx.fa,Tx.ld,Tx.ia,Tx.la,Tx.al,Tx.ct,Tx.ex,Tx.it,Tx.st,Xg,ZT,haf,m1,m2,hb1,hb2,hbw,he,k1]
 rw[if_neg k1]
 have hsl:(Xl m x.A.n).isSome=true:=by
  have:=hgx.nm
  unfold YZ at this
  rwa[if_neg k0,if_neg k2,if_neg k1]at this
 obtain⟨a0,a1⟩:=ZGU hc hsl
 have a64:x.A.n<(64:Nat):=by omega
 have hi64:=fun B ep j o=>iA (B:=B) (ep:=ep) (j:=j) (o:=o) (n:=64) a0 a64
 have sw:=ZG3 s a0 a1
 have sg:=ZIs s a0 a1
 have m1:=ZIj P .perm x.Yes.n (by omega) (by omega) (by omega) (VY s x.A.n)
 have m2:=ZIj (atP P x.Yes.n.toNat (VY s x.A.n)) .perm x.No.n (by omega) (by simp[hP];omega) (by simp[hP];omega) (Va s x.A.n)
 have hb1:=fun k=>ZIg k (atP P x.Yes.n.toNat (VY s x.A.n))
 have hb2:=fun k=>ZIg k (atP (atP P x.Yes.n.toNat (VY s x.A.n)) x.No.n.toNat (Va s x.A.n))
 refine⟨[],?_⟩
 dsimp only
 generalize (atP (atP P x.Yes.n.toNat (VY s x.A.n)) x.No.n.toNat (Va s x.A.n)).map Za9=A2 at*
 generalize (atP P x.Yes.n.toNat (VY s x.A.n)).map Za9=A1 at*
 generalize P.map Za9=A at*
 generalize bS S=B at*
 generalize rS S=D at*
 rw[ZIh]
 simp(maxSteps:=2000000) -implicitDefEqProofs [ZIi,hn,hlt,hia,hx',hxc,hs1,hs2,hb0,lz1,lz2,hz,hfb,hfz,ab,as_,bb,bs,hbA,w1,rwV,bb0,bs0,hxc,ZIt,ZIn,ZIo,UE,Tx.E,Tx.D,Tx.mv,Tx.nk,Tx.fa,Tx.ld,Tx.ia,Tx.la,Tx.al,Tx.ct,Tx.ex,Tx.it,Tx.st,Xg,ZT,m1,m2,hb1,hb2,hi64,sw,sg,k0,k1,k2]
end
end Go.VE.Un
