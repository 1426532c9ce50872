/- Joined texts: CfL, PtJ, PtK. No condition: what each theorem needs stands in it. -/
import Derived.Test.YthpccfpbghhpoaaGreatCc16
import Derived.Test.YthpccfpbghhpoaaGreatCc18
namespace Go.VE.Un
open Go.VE
def ofL:List I64→Sl→Sl
 |[],s=>s
 |x::r,s=>ofL r (VY s x.n)
theorem ZH7(l:GL I64): ∀(r:List I64) (k:Int) (s:Sl),0≤k→k≤l.l.length→l.l.drop k.toNat=r→(orc vp).loop 0 [3,6,7,8] ZHZ [(3,sV s),(6,GL.v 1 I64.v l),(7,.int .i64 l.l.length),(8,.int .i64 k)] []=
 some (.brk 0,[(3,sV (ofL r s)),(6,GL.v 1 I64.v l),(7,.int .i64 l.l.length),(8,.int .i64 l.l.length),(9,.bool false)],[]):=by
 have hle:=l.le
 intro r
 induction r with
 |nil=>
  intro k s hk hk2 hd
  have:=Zq hk hd
  have e:k=l.l.length:=by omega
  subst e
  rw[ZH0]
  simp -implicitDefEqProofs [ofL]
 |cons x r ih=>
  intro k s hk hk2 hd
  obtain⟨h1,h2,h3⟩:=Zp hk hd
  have w1:=w64 (n:=k+1) (by omega)
  have ih:=ih (k+1) (VY s x.n) (by omega) (by omega) h3
  rw[ZH0]
  simp -implicitDefEqProofs [h1,h2,w1,ofL,ih]
theorem ZIc(l:GL I64):Zc vp 463 [GL.v 1 I64.v l]=some (sV (ofL l.l 0#64)):=by
 have hl:=ZH7 l l.l 0 0#64 (by omega) (by omega) rfl
 rw[Za ZIf]
 simp -implicitDefEqProofs [Zcc,hl]
def rd(P:List (Bool ×Sl))(i:Nat):Bool:=(P.getD i (false,0)).1
def st(P:List (Bool ×Sl))(i:Nat):Sl:=(P.getD i (false,0)).2
def Dn(P Q:List (Bool ×Sl)):Prop:= ∀k,rd P k=true→rd Q k=true∧Xv (st Q k) (st P k)
theorem Dn.refl(P:List (Bool ×Sl)):Dn P P:=fun _ h=>⟨h,.refl _⟩
theorem Dn.trans{P Q R:List (Bool ×Sl)}(h:Dn P Q)(g:Dn Q R):Dn P R:=fun k e=>⟨(g k (h k e).1).1,(g k (h k e).1).2.trans (h k e).2⟩
theorem Xv.andl(a b:Sl):Xv (a&&&b) a:=fun k e=>by rw[BitVec.getLsbD_and,Bool.and_eq_true]at e;exact e.1
theorem Xv.andr(a b:Sl):Xv (a&&&b) b:=fun k e=>by rw[BitVec.getLsbD_and,Bool.and_eq_true]at e;exact e.2
theorem ZHQ(P:List (Bool ×Sl))(i:Nat)(s:Sl):Dn P (atP P i s):=by
 intro k e
 unfold rd st at*
 unfold atP
 rw[ZfH]
 by_cases c:i=k∧i<P.length
 ·obtain⟨rfl,c⟩:=c
  rw[if_pos ⟨rfl,c⟩]
  unfold Js
  rw[if_pos e];exact⟨rfl,.andl _ _⟩
 ·rw[if_neg c];exact⟨e,.refl _⟩
theorem ZHV(P:List (Bool ×Sl))(i:Nat)(s:Sl)(h:i<P.length):rd (atP P i s) i=true∧Xv (st (atP P i s) i) s:=by
 unfold rd st atP
 rw[ZfH,if_pos ⟨rfl,h⟩]
 unfold Js
 split
 ·exact⟨rfl,.andr _ _⟩
 ·exact⟨rfl,.refl _⟩
theorem ZHO(P:List (Bool ×Sl))(i k:Nat)(s:Sl)(h:i≠k):(atP P i s).getD k (false,0)=P.getD k (false,0):=by
 unfold atP;rw[ZfH,if_neg (fun c=>h c.1)]
structure Snd (m:Zb) (n:Nat) (x:Ins) (k:Nat) (F:List (Bool ×Sl)):Prop where
 ok:(YY m x (st F k)).2.2=0
 stop:x.Op.n=34→rd F n=true∧Xv (st F n) (st F k)
 jump: ∀t,YL x=some t→rd F t.toNat=true∧Xv (st F t.toNat) (YY m x (st F k)).2.1
 next:x.Op.n≠34→x.Op.n≠31→rd F (k+1)=true∧Xv (st F (k+1)) (YY m x (st F k)).1
inductive ZHb (m:Zb) (n:Nat) (x:Ins) (k:Nat) (T:Sl):Nat→Sl→Prop
 |stop:x.Op.n=34→ZHb m n x k T n T
 |jump (t:Int):YL x=some t→x.Op.n≠33→ZHb m n x k T t.toNat T
 |gone (t:Int):YL x=some t→x.Op.n=33→JW T x.A.n=false→ZHb m n x k T t.toNat T
 |here:x.Op.n=33→JW T x.A.n=true→ZHb m n x k T (k+1) T
 |next:x.Op.n≠33→x.Op.n≠34→x.Op.n≠31→ZHb m n x k T (k+1) (YY m x T).1
theorem ZGN(w:GL I64)(k:Nat):(¬(k:Int)<w.l.length)∨∃v,(k:Int)<w.l.length∧Zh w.l (k:Int)=some v∧Yh .rem (.int .i64 v.n) (.int .i64 2)=some (.int .i64 (v.n.tmod 2))∧(v.n.tmod 2=0∨v.n.tmod 2≠0):=by
 rcases Zm w.l (k:Int)with⟨v,h0,h1,h2⟩|⟨h0,h1⟩
 ·exact .inr ⟨v,h1,h2,JH _ _ _ (by decide),by omega⟩
 ·exact .inl (by omega)
end Go.VE.Un
namespace Go.VE.Un
open Go.VE
theorem ZH4(m:Zb)(hm:Clo m)(x:Zs)(k0:0≤x.Kind.n)(k3:x.Kind.n≤3)(h:YZ m x=true):Zc vp 625 [m.v,x.v]=some (.bool true):=by
 rw[Za ZIa]
 by_cases c0:x.Kind.n=0
 ·have h':=h;unfold YZ at h';rw[if_pos c0]at h';simp[inB]at h'
  have a0:0≤x.A.n:=by omega
  have a1:x.A.n<m.Tables.l.length:=by omega
  simp -implicitDefEqProofs [f625,b625,c0,a0,a1]
 by_cases c2:x.Kind.n=2
 ·have h':=h;unfold YZ at h';rw[if_neg c0,if_pos c2]at h';simp[inB]at h'
  have a0:0≤x.A.n:=by omega
  have a1:x.A.n<m.Actions.l.length:=by omega
  simp -implicitDefEqProofs [f625,b625,c2,a0,a1]
 by_cases c1:x.Kind.n=1
 ·simp -implicitDefEqProofs [f625,b625,c1]
 have c3:x.Kind.n=3:=by omega
 have h':=h;unfold YZ at h';rw[if_neg c0,if_neg c2,if_neg c1]at h'
 have hf:=JI m x.A.n hm x.A.hi
 have hz:=Wg hm x.A.n
 simp -implicitDefEqProofs [f625,b625,c3,hf,hz,h',Ye]
theorem ZH8(m:Zb)(hm:Clo m)(hsm:Z2 m)(hc:Yr m=none){n i:Int}(x:Zs)(hg:JD m n i x):Zc vp 621 [m.v,x.v]=some (.int .i64 (Qk m x)):=by
 have hck:=ZeP m hm hsm
 rw[hc]at hck
 have h1:=ZH4 m hm x hg.k0 hg.k3 hg.nm
 have h2:=Zod m hc x hg.nm
 rw[Za ZIb]
 simp -implicitDefEqProofs [f621,b621,hck,h1,h2]
theorem ZH5(m:Zb)(hm:Clo m)(eg:Bool):Zc vp 918 [m.v,.bool eg]=some (GL.v 6 Zs.v (ndP m eg)):=by
 have h1:=ZgZ hm
 have h2:=ZjO hm
 rw[Za ZIe]
 cases eg
 ·simp -implicitDefEqProofs [f918,b918,ndP,h1]
 ·simp -implicitDefEqProofs [f918,b918,ndP,h2]
theorem ZHM(m:Zb)(nd:List Zs): ∀(j:Nat) (M:List Int) (k:Nat),j≤k→(VO m nd j M).getD k 0=M.getD k 0
 |0,_,_,_=>rfl
 |j+1,M,k,h=>by
  simp only[VO]
  rw[ZHM m nd j _ k (by omega)]
  split
  ·unfold Ky
   rw[List.getD_eq_getElem?_getD,List.getElem?_set,if_neg (by omega),←List.getD_eq_getElem?_getD]
  ·rfl
theorem ZHU(m:Zb)(nd:List Zs)(n:Nat)(hg: ∀(k:Nat) x,nd[k]? =some x→JD m n k x): ∀(j:Nat) (M:List Int) (k:Nat) (x:Zs),k<j→nd[k]? =some x→k<M.length→
 (VO m nd j M).getD k 0=(if x.Kind.n=2 then(VO m nd j M).getD x.Yes.n.toNat 0 else max ((VO m nd j M).getD x.Yes.n.toNat 0) ((VO m nd j M).getD x.No.n.toNat 0))+Qk m x
 |0,_,_,_,h,_,_=>by omega
 |j+1,M,k,x,h,hx,hM=>by
  have hG:=hg k x hx
  simp only[VO]
  by_cases c:k=j
  ·subst c
   rw[hx]
   simp only
   have e1:=ZHM m nd k (Ky m x k M) k (Nat.le_refl _)
   have ey:=ZHM m nd k (Ky m x k M) x.Yes.n.toNat (by have:=hG.yes;omega)
   have gy:(Ky m x k M).getD x.Yes.n.toNat 0=M.getD x.Yes.n.toNat 0:=by
    unfold Ky
    rw[List.getD_eq_getElem?_getD,List.getElem?_set,if_neg (by have:=hG.yes;omega),←List.getD_eq_getElem?_getD]
   rw[e1,ey,gy]
   have g1:(Ky m x k M).getD k 0=(if x.Kind.n=2 then M.getD x.Yes.n.toNat 0 else max (M.getD x.Yes.n.toNat 0) (M.getD x.No.n.toNat 0))+Qk m x:=by
    unfold Ky
    rw[List.getD_eq_getElem?_getD,List.getElem?_set,if_pos rfl,if_pos hM];rfl
   rw[g1]
   by_cases k2:x.Kind.n=2
   ·rw[if_pos k2,if_pos k2]
   ·have en:=ZHM m nd k (Ky m x k M) x.No.n.toNat (by have:=hG.no k2;omega)
    have gn:(Ky m x k M).getD x.No.n.toNat 0=M.getD x.No.n.toNat 0:=by
     unfold Ky
     rw[List.getD_eq_getElem?_getD,List.getElem?_set,if_neg (by have:=hG.no k2;omega),←List.getD_eq_getElem?_getD]
    rw[if_neg k2,if_neg k2,en,gn]
  ·exact ZHU m nd n hg j _ k x (by omega) hx (by split<;>simp[ZbC,hM])
structure ZHL (m:Zb) (x:Zs) (k:Nat) (F:List (Bool ×Sl)):Prop where
 app:x.Kind.n=0→∀t,Zh m.Tables.l x.A.n=some t→∀a∈t.Actions.l,(Y1 m (WZ m a.n) (st F k)).2.2=0∧rd F x.Yes.n.toNat=true∧Xv (st F x.Yes.n.toNat) (Y1 m (WZ m a.n) (st F k)).1∧(a.n=t.Default.Action.n→rd F x.No.n.toNat=true∧Xv (st F x.No.n.toNat) (Y1 m (WZ m a.n) (st F k)).1)
 act:x.Kind.n=2→(Y1 m (WZ m x.A.n) (st F k)).2.2=0∧rd F x.Yes.n.toNat=true∧Xv (st F x.Yes.n.toNat) (Y1 m (WZ m x.A.n) (st F k)).1
 cnd:x.Kind.n=1→(Y1 m x.Code.l (st F k)).2.2=0∧rd F x.Yes.n.toNat=true∧Xv (st F x.Yes.n.toNat) (Y1 m x.Code.l (st F k)).1∧rd F x.No.n.toNat=true∧Xv (st F x.No.n.toNat) (Y1 m x.Code.l (st F k)).1
 vld:x.Kind.n=3→rd F x.Yes.n.toNat=true∧Xv (st F x.Yes.n.toNat) (VY (st F k) x.A.n)∧rd F x.No.n.toNat=true∧Xv (st F x.No.n.toNat) (Va (st F k) x.A.n)
theorem ZHS{P Q:List (Bool ×Sl)}{i:Nat}{s:Sl}(h:i<P.length)(g:Dn (atP P i s) Q):rd Q i=true∧Xv (st Q i) s:=by
 obtain⟨a,b⟩:=ZHV P i s h
 obtain⟨c,d⟩:=g i a
 exact⟨c,d.trans b⟩
theorem ZHP(m:Zb)(d y no:Int)(s:Sl)(k:Nat)(hy:(k:Int)<y)(hno:(k:Int)<no): ∀(l:List I64) (P:List (Bool ×Sl)),y.toNat<P.length→no.toNat<P.length→(WK m d y no s l P).1=none→Dn P (WK m d y no s l P).2∧(∀j,j≤k→(WK m d y no s l P).2.getD j (false,0)=P.getD j (false,0))∧∀a∈l,(Y1 m (WZ m a.n) s).2.2=0∧rd (WK m d y no s l P).2 y.toNat=true∧Xv (st (WK m d y no s l P).2 y.toNat) (Y1 m (WZ m a.n) s).1∧(a.n=d→rd (WK m d y no s l P).2 no.toNat=true∧Xv (st (WK m d y no s l P).2 no.toNat) (Y1 m (WZ m a.n) s).1)
 |[],P,_,_,_=>⟨.refl _,fun _ _=>rfl,fun a ha=>by simp at ha⟩
 |a::r,P,hy2,hn2,e=>by
  simp only[WK]at e⊢
  by_cases c:(Y1 m (WZ m a.n) s).2.2=0
  ·rw[if_pos c]at e⊢
   by_cases hd:a.n=d
   ·rw[if_pos hd]at e⊢
    obtain⟨h1,h2,h3⟩:=ZHP m d y no s k hy hno r _ (by simp[hy2]) (by simp[hn2]) e
    refine⟨((ZHQ _ _ _).trans (ZHQ _ _ _)).trans h1,fun j hj=>by rw[h2 j hj,ZHO _ _ _ _ (by omega),ZHO _ _ _ _ (by omega)],fun b hb=> ?_⟩
    rcases List.mem_cons.1 hb with rfl|hb
    ·have g1:=ZHS hy2 ((ZHQ _ _ _).trans h1)
     have g2:=ZHS (P:=atP P y.toNat (Y1 m (WZ m b.n) s).1) (by simp[hn2]) h1
     exact⟨c,g1.1,g1.2,fun _=>g2⟩
    ·exact h3 b hb
   ·rw[if_neg hd]at e⊢
    obtain⟨h1,h2,h3⟩:=ZHP m d y no s k hy hno r _ (by simp[hy2]) (by simp[hn2]) e
    refine⟨(ZHQ _ _ _).trans h1,fun j hj=>by rw[h2 j hj,ZHO _ _ _ _ (by omega)],fun b hb=> ?_⟩
    rcases List.mem_cons.1 hb with rfl|hb
    ·have g1:=ZHS hy2 h1
     exact⟨c,g1.1,g1.2,fun q=>absurd q hd⟩
    ·exact h3 b hb
  ·rw[if_neg c]at e;simp at e
theorem ZHX(m:Zb)(p:Int)(n k:Nat)(x:Zs)(hg:JD m n k x)(P:List (Bool ×Sl))(hP:P.length=n+1)(s:Sl)(e:(Vr m p k x P s).1=none):
 Dn P (Vr m p k x P s).2∧(∀j,j≤k→(Vr m p k x P s).2.getD j (false,0)=P.getD j (false,0))∧(st (Vr m p k x P s).2 k=s→ZHL m x k (Vr m p k x P s).2):=by
 have hy:=hg.yes
 have hno:=hg.no
 unfold Vr at e⊢
 by_cases k0:x.Kind.n=0
 ·simp only[if_pos k0]at e⊢
  obtain⟨t,ht⟩:=Zzn hg.nm k0
  have hno:=hno (by omega)
  unfold UC at e⊢
  rw[ht]at e⊢
  simp only at e⊢
  by_cases c:0≤JO t.Keys.l s
  ·rw[if_pos c]at e;simp at e
  ·rw[if_neg c]at e⊢
   obtain⟨h1,h2,h3⟩:=ZHP m t.Default.Action.n x.Yes.n x.No.n s k (by omega) (by omega) t.Actions.l P (by omega) (by omega) e
   refine⟨h1,h2,fun hs=>⟨fun _ t' ht' a ha=> ?_,fun q=>by omega,fun q=>by omega,fun q=>by omega⟩⟩
   rw[ht]at ht';obtain rfl:=Option.some.inj ht'
   rw[hs];exact h3 a ha
 simp only[if_neg k0]at e⊢
 by_cases k2:x.Kind.n=2
 ·simp only[if_pos k2]at e⊢
  by_cases c:(Y1 m (WZ m x.A.n) s).2.2=0
  ·rw[if_pos c]at e⊢
   refine⟨ZHQ _ _ _,fun j hj=>ZHO _ _ _ _ (by omega),fun hs=>⟨fun q=>by omega,fun _=> ?_,fun q=>by omega,fun q=>by omega⟩⟩
   have g:=ZHV P x.Yes.n.toNat (Y1 m (WZ m x.A.n) s).1 (by omega)
   rw[hs];exact⟨c,g⟩
  ·rw[if_neg c]at e;simp at e
 simp only[if_neg k2]at e⊢
 have hno:=hno k2
 by_cases k1:x.Kind.n=1
 ·simp only[if_pos k1]at e⊢
  by_cases c:(Y1 m x.Code.l s).2.2=0
  ·rw[if_pos c]at e⊢
   refine⟨(ZHQ _ _ _).trans (ZHQ _ _ _),fun j hj=>by rw[ZHO _ _ _ _ (by omega),ZHO _ _ _ _ (by omega)],fun hs=>⟨fun q=>by omega,fun q=>by omega,fun _=> ?_,fun q=>by omega⟩⟩
   have g1:=ZHS (P:=P) (i:=x.Yes.n.toNat) (s:=(Y1 m x.Code.l s).1) (by omega) (ZHQ _ x.No.n.toNat (Y1 m x.Code.l s).1)
   have g2:=ZHV (atP P x.Yes.n.toNat (Y1 m x.Code.l s).1) x.No.n.toNat (Y1 m x.Code.l s).1 (by simp;omega)
   rw[hs];exact⟨c,g1.1,g1.2,g2⟩
  ·rw[if_neg c]at e;simp at e
 simp only[if_neg k1]at e⊢
 refine⟨(ZHQ _ _ _).trans (ZHQ _ _ _),fun j hj=>by rw[ZHO _ _ _ _ (by omega),ZHO _ _ _ _ (by omega)],fun hs=>⟨fun q=>by omega,fun q=>by omega,fun q=>by omega,fun _=> ?_⟩⟩
 have g1:=ZHS (P:=P) (i:=x.Yes.n.toNat) (s:=VY s x.A.n) (by omega) (ZHQ _ x.No.n.toNat (Va s x.A.n))
 have g2:=ZHV (atP P x.Yes.n.toNat (VY s x.A.n)) x.No.n.toNat (Va s x.A.n) (by simp;omega)
 rw[hs];exact⟨g1.1,g1.2,g2⟩
theorem ZHL.dn{m:Zb}{x:Zs}{k:Nat}{F G:List (Bool ×Sl)}(h:ZHL m x k F)(hd:Dn F G)(hs:st G k=st F k):ZHL m x k G where
 app:=fun k0 t ht a ha=>by
  obtain⟨h1,h2,h3,h4⟩:=h.app k0 t ht a ha
  rw[hs]
  exact⟨h1,(hd _ h2).1,(hd _ h2).2.trans h3,fun q=>⟨(hd _ (h4 q).1).1,(hd _ (h4 q).1).2.trans (h4 q).2⟩⟩
 act:=fun k2=>by
  obtain⟨h1,h2,h3⟩:=h.act k2
  rw[hs];exact⟨h1,(hd _ h2).1,(hd _ h2).2.trans h3⟩
 cnd:=fun k1=>by
  obtain⟨h1,h2,h3,h4,h5⟩:=h.cnd k1
  rw[hs];exact⟨h1,(hd _ h2).1,(hd _ h2).2.trans h3,(hd _ h4).1,(hd _ h4).2.trans h5⟩
 vld:=fun k3=>by
  obtain⟨h2,h3,h4,h5⟩:=h.vld k3
  rw[hs];exact⟨(hd _ h2).1,(hd _ h2).2.trans h3,(hd _ h4).1,(hd _ h4).2.trans h5⟩
theorem ZHT(m:Zb)(p:Int)(n:Nat)(nd:List Zs)(hn:nd.length=n)(hg: ∀(k:Nat) x,nd[k]? =some x→JD m n k x): ∀(r:List Zs) (i:Nat) (P:List (Bool ×Sl)),nd.drop i=r→i≤n→P.length=n+1→(X2 m p r i P).1=none→Dn P (X2 m p r i P).2.1∧(∀k,k≤i→(X2 m p r i P).2.1.getD k (false,0)=P.getD k (false,0))∧(∀(k:Nat) x,i≤k→nd[k]? =some x→rd (X2 m p r i P).2.1 k=true→ZHL m x k (X2 m p r i P).2.1)∧(∀k,i≤k→k<n→(X2 m p r i P).2.2[k-i]? =some ((X2 m p r i P).2.1.getD k (false,0)))
 |[],i,P,hd,hi,hP,e=>by
  have hl:nd.length≤i:=List.drop_eq_nil_iff.1 hd
  exact⟨.refl _,fun _ _=>rfl,fun k x hk hx _=>by rw[List.getElem?_eq_none (by omega)]at hx;simp at hx,fun k h1 h2=>by omega⟩
 |x::r,i,P,hd,hi,hP,e=>by
  have hi2:i<n:=by
   have:i<nd.length:=by
    rcases Nat.lt_or_ge i nd.length with h|h
    ·exact h
    ·rw[List.drop_eq_nil_of_le h]at hd;simp at hd
   omega
  have hx:nd[i]? =some x:=by
   have:=congrArg (fun q=>q[0]?) hd
   simpa using this
  have hd':nd.drop (i+1)=r:=by
   have:=congrArg (List.drop 1) hd
   simpa using this
  have ih:=ZHT m p n nd hn hg r (i+1)
  simp only[X2]at e⊢
  by_cases c:(P.getD i (false,0)).1=false
  ·rw[if_pos c]at e⊢
   obtain⟨h1,h2,h3,h4⟩:=ih P hd' (by omega) hP e
   refine⟨h1,fun k hk=>h2 k (by omega),fun k y hk hy hr=> ?_,fun k k1 k2=> ?_⟩
   ·by_cases q:k=i
    ·subst q
     unfold rd at hr;rw[h2 k (by omega),c]at hr;simp at hr
    ·exact h3 k y (by omega) hy hr
   ·by_cases q:k=i
    ·subst q
     rw[Nat.sub_self];simp only[List.getElem?_cons_zero];rw[h2 k (by omega)]
    ·rw[show k-i=(k-(i+1))+1 by omega,List.getElem?_cons_succ];exact h4 k (by omega) k2
  ·rw[if_neg c]at e⊢
   have hns:=ZHX m p n i x (hg i x hx) P hP (P.getD i (false,0)).2
   have hl:=J3 m p i x P (P.getD i (false,0)).2
   generalize Vr m p i x P (P.getD i (false,0)).2=q at e hns hl⊢
   obtain⟨o,P'⟩:=q
   cases o with
   |some w=>simp at e
   |none=>
    simp only at e hns hl⊢
    obtain⟨n1,n2,n3⟩:=hns trivial
    obtain⟨h1,h2,h3,h4⟩:=ih P' hd' (by omega) (by rw[hl,hP]) e
    have hF: ∀k,k≤i→(X2 m p r (i+1) P').2.1.getD k (false,0)=P.getD k (false,0):=fun k hk=>by rw[h2 k (by omega),n2 k hk]
    refine⟨n1.trans h1,hF,fun k y hk hy hr=> ?_,fun k k1 k2=> ?_⟩
    ·by_cases q:k=i
     ·subst q
      rw[hx]at hy;obtain rfl:=Option.some.inj hy
      exact(n3 (by unfold st;rw[n2 k (by omega)])).dn h1 (by unfold st;rw[h2 k (by omega)])
     ·exact h3 k y (by omega) hy hr
    ·by_cases q:k=i
     ·subst q
      rw[Nat.sub_self];simp only[List.getElem?_cons_zero];rw[hF k (by omega)]
     ·rw[show k-i=(k-(i+1))+1 by omega,List.getElem?_cons_succ];exact h4 k (by omega) k2
end Go.VE.Un
namespace Go.VE.Un
open Go.VE
theorem ZH2{m:Zb}(h:Yr m=none){i:Int}{t:ZD}(hg:Zh m.Tables.l i=some t):0<t.Actions.l.length∧∃a∈t.Actions.l,a.n=t.Default.Action.n:=by
 have hp:=W2 h 6 (by omega) (by omega)
 have hp:(Yw m.Tables.l.length 8 (WE m)).2=0:=by simpa[Zn]using hp
 have hi:=Zc0 hg
 have ht:=(ZaH hp).2 i hi.1 hi.2
 simp only[WE,hg,ZjM]at ht
 split at ht
 ·rename_i h0
  have hc:=JP (by omega) (UF h0 _ (by simp):Zl (decide (t.Default.Action.n∈t.Actions.l.map (·.n))) 16=0)
  have hm:=of_decide_eq_true hc
  obtain⟨a,ha,he⟩:=List.mem_map.1 hm
  exact⟨List.length_pos_of_mem ha,a,ha,he⟩
 ·rename_i hx;exact absurd ht hx
theorem ZHY{m:Zb}{l:List Ins}{s T:Sl}(h:Yr m=none)(hc:Y3 m l 8=0)(hS:Xv s T)(e:(Y1 m l s).2.2=0):Y1 m l T=((Y1 m l T).1,0,0)∧Xv (Y1 m l s).1 (Y1 m l T).1:=by
 obtain⟨h1,h2⟩:=Ja hS e
 refine⟨?_,h2⟩
 rcases ZH3 h hc T with⟨a,b⟩|⟨a,_⟩
 ·generalize Y1 m l T=q at*
  obtain⟨q1,q2,q3⟩:=q
  simp only at a b;subst a;subst b;rfl
 ·omega
set_option maxRecDepth 100000 in
set_option maxHeartbeats 40000000 in
theorem ZH6(m:Zb)(hm:Clo m)(hsm:Z2 m)(hc:Yr m=none)(N:GL Zs)(hcl:Ze (GL.v 6 Zs.v N)=true)(w:GL I64)(e1:List V)(n:Nat)(hn:N.l.length=n)(hn2:n≤32)(F S:List (Bool ×Sl))(hSl:S.length=n)(out:V)(stp:Int)
 (p:Int) (x:Zs) (hx:Zh N.l p=some x) (hg:JD m n p x) (hF:ZHL m x p.toNat F) (hSp:Zh S p=some (F.getD p.toNat (false,0))) (hrd:rd F p.toNat=true) (T:Sl) (hT:Xv (st F p.toNat) T) (tn:Nat) (htn:(tn:Int)≤p) (c:Int) (c0:0≤c) (c1:c≤66*p): ∃p2 T2,(p2=x.Yes.n∨(x.Kind.n≠2∧p2=x.No.n))∧rd F p2.toNat=true∧Xv (st F p2.toNat) T2∧(orc vp).loop 0 [3,8,9,11,12,13,14,15] ZHR [(3,.ptr 0 1 0 0),(8,GL.v 1 I64.v w),(9,.ptr 2 1 0 0),(11,GL.v 6 Zs.v N),(12,sV T),(13,.int .i64 p),(14,.int .i64 c),(15,.int .i64 tn)] [.arr [m.v],.arr e1,.arr [.agg [.sl 1 (bS S) (tg n),.sl 1 (sS S) (tg n),out,.int .i64 stp]]]=(orc vp).loop 0 [3,8,9,11,12,13,14,15] ZHR [(3,.ptr 0 1 0 0),(8,GL.v 1 I64.v w),(9,.ptr 2 1 0 0),(11,GL.v 6 Zs.v N),(12,sV T2),(13,.int .i64 p2),(14,.int .i64 (c+Qk m x)),(15,.int .i64 (tn+1:Nat))] [.arr [m.v],.arr e1,.arr [.agg [.sl 1 (bS S) (tg n),.sl 1 (sS S) (tg n),out,.int .i64 stp]]]:=by
 have hp:=Zc0 hx
 have hlt:p<N.l.length:=hp.2
 have hxc:=Xc hcl hx
 have hcost:=ZH8 m hm hsm hc x hg
 have hcb:=Zox hc hg
 obtain⟨t1,ht1⟩: ∃t1,tn+1=t1:=⟨_,rfl⟩
 have w2:IntKind.i64.wrap ((tn:Int)+1)=(t1:Int):=by rw[ZK (by omega) (by omega)];omega
 have w3:IntKind.i64.wrap (c+Qk m x)=c+Qk m x:=ZK (by omega) (by omega)
 have hf:F.getD p.toNat (false,0)=(true,st F p.toNat):=by
  have:(F.getD p.toNat (false,0)).1=true:=hrd
  unfold st
  generalize F.getD p.toNat (false,0)=q at*
  obtain⟨a,b⟩:=q
  simp only at this;subst this;rfl
 rw[hf]at hSp
 have hS1:Yb 1 (.sl 1 (bS S) (tg n)) (.int .i64 p)=some (.eptr (.bool true) 0 (tg n)):=by
  unfold bS;rw[Y7,hSp];rfl
 have hS2:Yb 1 (.sl 1 (sS S) (tg n)) (.int .i64 p)=some (.eptr (sV (st F p.toNat)) 0 (tg n)):=by
  unfold sS;rw[Y7,hSp];rfl
 have hw7:=beq_iff_eq.1 ((ZmQ _ _).2 hT)
 have hbe:Zo 0 e1=Zo 0 e1:=rfl
 have hw:=ZGN w tn
 have hw:(¬(tn:Int)<w.l.length)∨∃v,(tn:Int)<w.l.length∧Zh w.l (tn:Int)=some v:=by
  rcases hw with h|⟨v,h1,h2,_⟩
  ·exact .inl h
  ·exact .inr ⟨v,h1,h2⟩
 have hN0:IntKind.i64.wrap 0=0:=ZK (by omega) (by omega)
 have act: ∀a act,Zh m.Actions.l a=some act→(Y1 m (WZ m a) (st F p.toNat)).2.2=0→∃o,Zc vp 461 [m.v,GL.v 6 Ins.v act.Code,sV T]=some (.tup [sV o,.int .i64 0,.int .i64 0])∧Xv (Y1 m (WZ m a) (st F p.toNat)).1 o:=fun a act ha he=>by
  have hcd:=Zfo m hm hsm act.Code T
  have hco:WZ m a=act.Code.l:=by unfold WZ;rw[ha]
  rw[hco]at he⊢
  obtain⟨g1,g2⟩:=ZHY hc (Znw hc ha) hT he
  rw[g1]at hcd
  exact⟨_,hcd,g2⟩
 have happ:x.Kind.n=0→∃t,Zh m.Tables.l x.A.n=some t∧Ze t.v=true∧(∀u:Int,0≤u→u≤9223372036854775807→∃a act o,Yh .quo (.int .i64 u) (.int .i64 2)=some (.int .i64 (u.tdiv 2))∧Yh .rem (.int .i64 (u.tdiv 2)) (.int .i64 t.Actions.l.length)=some (.int .i64 ((u.tdiv 2).tmod t.Actions.l.length))∧Zh t.Actions.l ((u.tdiv 2).tmod t.Actions.l.length)=some a∧Zh m.Actions.l a.n=some act∧Zc vp 461 [m.v,GL.v 6 Ins.v act.Code,sV T]=some (.tup [sV o,.int .i64 0,.int .i64 0])∧rd F x.Yes.n.toNat=true∧Xv (st F x.Yes.n.toNat) o)∧
  (∃act o,Zh m.Actions.l t.Default.Action.n=some act∧Zc vp 461 [m.v,GL.v 6 Ins.v act.Code,sV T]=some (.tup [sV o,.int .i64 0,.int .i64 0])∧rd F x.No.n.toNat=true∧Xv (st F x.No.n.toNat) o):=fun k0=>by
  obtain⟨t,ht⟩:=Zzn hg.nm k0
  obtain⟨t1,t2⟩:=Za3 hc ht
  obtain⟨t3,b,hb,hbe⟩:=ZH2 hc ht
  refine⟨t,ht,Xc (ZbZ hm) ht,fun u u0 u1=> ?_,?_⟩
  ·have hq:0≤u.tdiv 2∧u.tdiv 2≤9223372036854775807:=by rw[Int.tdiv_eq_ediv_of_nonneg u0];omega
   have hr0:0≤(u.tdiv 2).tmod t.Actions.l.length:=Int.tmod_nonneg _ hq.1
   have hr1:(u.tdiv 2).tmod t.Actions.l.length<t.Actions.l.length:=Int.tmod_lt_of_pos _ (by omega)
   rcases Zm t.Actions.l ((u.tdiv 2).tmod t.Actions.l.length)with⟨a,_,_,ha⟩|⟨h1,_⟩
   ·have hma:a∈t.Actions.l:=by
     unfold Zh at ha;rw[if_pos hr0]at ha;exact List.mem_of_getElem? ha
    obtain⟨act',hact⟩:=t2 a hma
    obtain⟨s1,s2,s3,s4⟩:=hF.app k0 t ht a hma
    obtain⟨o,o1,o2⟩:=act a.n act' hact s1
    exact⟨a,act',o,by rw[ZoX _ _ _ (by decide:(2:Int)≠0),ZK (by omega) hq.2],JH _ _ _ (by omega),ha,hact,o1,s2,s3.trans o2⟩
   ·omega
  ·obtain⟨act',hact⟩:=t2 b hb
   obtain⟨s1,s2,s3,s4⟩:=hF.app k0 t ht b hb
   obtain⟨o,o1,o2⟩:=act b.n act' hact s1
   rw[hbe]at hact
   obtain⟨s5,s6⟩:=s4 hbe
   exact⟨act',o,hact,o1,s5,s6.trans o2⟩
 have hdo:x.Kind.n=2→∃act o,Zh m.Actions.l x.A.n=some act∧Zc vp 461 [m.v,GL.v 6 Ins.v act.Code,sV T]=some (.tup [sV o,.int .i64 0,.int .i64 0])∧rd F x.Yes.n.toNat=true∧Xv (st F x.Yes.n.toNat) o:=fun k2=>by
  obtain⟨act',hact⟩:=ZyL hg.nm k2
  obtain⟨s1,s2,s3⟩:=hF.act k2
  obtain⟨o,o1,o2⟩:=act x.A.n act' hact s1
  exact⟨act',o,hact,o1,s2,s3.trans o2⟩
 have hif:x.Kind.n=1→∃o,Zc vp 461 [m.v,GL.v 6 Ins.v x.Code,sV T]=some (.tup [sV o,.int .i64 0,.int .i64 0])∧rd F x.Yes.n.toNat=true∧Xv (st F x.Yes.n.toNat) o∧rd F x.No.n.toNat=true∧Xv (st F x.No.n.toNat) o:=fun k1=>by
  obtain⟨s1,s2,s3,s4,s5⟩:=hF.cnd k1
  obtain⟨g1,g2⟩:=ZHY hc (ZfN (hg.code k1) (by omega)) hT s1
  have hcd:=Zfo m hm hsm x.Code T
  rw[g1]at hcd
  exact⟨_,hcd,s2,s3.trans g2,s4,s5.trans g2⟩
 have hvl:x.Kind.n=3→rd F x.Yes.n.toNat=true∧Xv (st F x.Yes.n.toNat) (VY T x.A.n)∧rd F x.No.n.toNat=true∧Xv (st F x.No.n.toNat) (Va T x.A.n):=fun k3=>by
  obtain⟨s1,s2,s3,s4⟩:=hF.vld k3
  exact⟨s1,s2.trans (hT.with _),s3,s4.trans (hT.gone _)⟩
 have k0:=hg.k0
 have k3:=hg.k3
 rw[ht1]
 clear act hF
 rcases hw with hwn|⟨v,hwt,hv⟩
 ·have hr0:Yh .rem (.int .i64 0) (.int .i64 2)=some (.int .i64 0):=JH _ _ _ (by decide)
  by_cases k0:x.Kind.n=0
  ·obtain⟨t,ht,htc,hj,hd⟩:=happ k0
   obtain⟨a,act,o,e1,e2,e3,e4,e5,e6,e7⟩:=hj 0 (by omega) (by omega)
   refine⟨x.Yes.n,o,.inl rfl,e6,e7,?_⟩
   rw[Q2]
   simp only[Int.zero_tdiv,Int.zero_tmod]at e1 e2 e3
   simp -implicitDefEqProofs [Q1,hlt,hS1,hS2,hw7,hx,hxc,hcost,w2,w3,hN0,hwn,hr0,k0,ht,htc,e1,e2,e3,e4,e5]
  by_cases k2:x.Kind.n=2
  ·obtain⟨act,o,d1,d2,d3,d4⟩:=hdo k2
   refine⟨x.Yes.n,o,.inl rfl,d3,d4,?_⟩
   rw[Q2]
   simp -implicitDefEqProofs [Q1,hlt,hS1,hS2,hw7,hx,hxc,hcost,w2,w3,hN0,hwn,hr0,k2,d1,d2]
  by_cases k1:x.Kind.n=1
  ·obtain⟨o,d2,d3,d4,d5,d6⟩:=hif k1
   refine⟨x.Yes.n,o,.inl rfl,d3,d4,?_⟩
   rw[Q2]
   simp -implicitDefEqProofs [Q1,hlt,hS1,hS2,hw7,hx,hxc,hcost,w2,w3,hN0,hwn,hr0,k1,d2]
  obtain⟨d3,d4,d5,d6⟩:=hvl (by omega)
  refine⟨x.Yes.n,VY T x.A.n,.inl rfl,d3,d4,?_⟩
  rw[Q2]
  simp -implicitDefEqProofs [Q1,hlt,hS1,hS2,hw7,hx,hxc,hcost,w2,w3,hN0,hwn,hr0,k0,k1,k2]
 ·have hmx:Vq (fun a b=>if b>a then b else a) [.int .i64 0,.int .i64 v.n]=some (.int .i64 (max 0 v.n)):=by rw[JG];congr 2;omega
  have hrw:Yh .rem (.int .i64 (max 0 v.n)) (.int .i64 2)=some (.int .i64 ((max 0 v.n).tmod 2)):=JH _ _ _ (by decide)
  by_cases k0:x.Kind.n=0
  ·obtain⟨t,ht,htc,hj,hd⟩:=happ k0
   by_cases hy:(max 0 v.n).tmod 2=0
   ·obtain⟨a,act,o,e1,e2,e3,e4,e5,e6,e7⟩:=hj (max 0 v.n) (by omega) (by have:=v.hi;omega)
    refine⟨x.Yes.n,o,.inl rfl,e6,e7,?_⟩
    rw[Q2]
    generalize max 0 v.n=w at*
    simp -implicitDefEqProofs [Q1,hlt,hS1,hS2,hw7,hx,hxc,hcost,w2,w3,hN0,hwt,hv,hmx,hrw,k0,hy,ht,htc,e1,e2,e3,e4,e5]
   ·obtain⟨a,act,o,e1,e2,e3,e4,e5,e6,e7⟩:=hj (max 0 v.n) (by omega) (by have:=v.hi;omega)
    obtain⟨act2,o2,d1,d2,d3,d4⟩:=hd
    refine⟨x.No.n,o2,.inr ⟨by omega,rfl⟩,d3,d4,?_⟩
    rw[Q2]
    generalize max 0 v.n=w at*
    simp -implicitDefEqProofs [Q1,hlt,hS1,hS2,hw7,hx,hxc,hcost,w2,w3,hN0,hwt,hv,hmx,hrw,k0,hy,ht,htc,e1,e2,e3,d1,d2]
  by_cases k2:x.Kind.n=2
  ·obtain⟨act,o,d1,d2,d3,d4⟩:=hdo k2
   refine⟨x.Yes.n,o,.inl rfl,d3,d4,?_⟩
   rw[Q2]
   generalize max 0 v.n=w at*
   simp -implicitDefEqProofs [Q1,hlt,hS1,hS2,hw7,hx,hxc,hcost,w2,w3,hN0,hwt,hv,hmx,hrw,k2,d1,d2]
  by_cases k1:x.Kind.n=1
  ·obtain⟨o,d2,d3,d4,d5,d6⟩:=hif k1
   by_cases hy:(max 0 v.n).tmod 2=0
   ·refine⟨x.Yes.n,o,.inl rfl,d3,d4,?_⟩
    rw[Q2]
    generalize max 0 v.n=w at*
    simp -implicitDefEqProofs [Q1,hlt,hS1,hS2,hw7,hx,hxc,hcost,w2,w3,hN0,hwt,hv,hmx,hrw,k1,hy,d2]
   ·refine⟨x.No.n,o,.inr ⟨by omega,rfl⟩,d5,d6,?_⟩
    rw[Q2]
    generalize max 0 v.n=w at*
    simp -implicitDefEqProofs [Q1,hlt,hS1,hS2,hw7,hx,hxc,hcost,w2,w3,hN0,hwt,hv,hmx,hrw,k1,hy,d2]
  obtain⟨d3,d4,d5,d6⟩:=hvl (by omega)
  by_cases hy:(max 0 v.n).tmod 2=0
  ·refine⟨x.Yes.n,VY T x.A.n,.inl rfl,d3,d4,?_⟩
   rw[Q2]
   generalize max 0 v.n=w at*
   simp -implicitDefEqProofs [Q1,hlt,hS1,hS2,hw7,hx,hxc,hcost,w2,w3,hN0,hwt,hv,hmx,hrw,k0,k1,k2,hy]
  ·refine⟨x.No.n,Va T x.A.n,.inr ⟨by omega,rfl⟩,d5,d6,?_⟩
   rw[Q2]
   generalize max 0 v.n=w at*
   simp -implicitDefEqProofs [Q1,hlt,hS1,hS2,hw7,hx,hxc,hcost,w2,w3,hN0,hwt,hv,hmx,hrw,k0,k1,k2,hy]
end Go.VE.Un
