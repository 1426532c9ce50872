/- Joined texts: CfL, PtJ, PtM, PtN, PtO, GrE. No condition: what each theorem needs stands in it. -/
import Derived.Test.YtlekfkibeafdiaaGreatCc15
import Derived.Test.YtlekfkibeafdiaaGreatCc16
import Derived.Test.YtlekfkibeafdiaaGreatCc17
namespace Go.VE.Un
open Go.VE
def rd(P:List (Bool ×Sl))(i:Nat):Bool:=(P.getD i (false,0)).1
def st(P:List (Bool ×Sl))(i:Nat):Sl:=(P.getD i (false,0)).2
def Dn(P Q:List (Bool ×Sl)):Prop:= ∀k,rd P k=true→rd Q k=true∧Xv (st Q k) (st P k)
theorem Dn.refl(P:List (Bool ×Sl)):Dn P P:=fun _ h=>⟨h,.refl _⟩
theorem Dn.trans{P Q R:List (Bool ×Sl)}(h:Dn P Q)(g:Dn Q R):Dn P R:=fun k e=>⟨(g k (h k e).1).1,(g k (h k e).1).2.trans (h k e).2⟩
theorem Xv.andl(a b:Sl):Xv (a&&&b) a:=fun k e=>by rw[BitVec.getLsbD_and,Bool.and_eq_true]at e;exact e.1
theorem Xv.andr(a b:Sl):Xv (a&&&b) b:=fun k e=>by rw[BitVec.getLsbD_and,Bool.and_eq_true]at e;exact e.2
structure Snd (m:Zb) (n:Nat) (x:Ins) (k:Nat) (F:List (Bool ×Sl)):Prop where
 ok:(YY m x (st F k)).2.2=0
 stop:x.Op.n=34→rd F n=true∧Xv (st F n) (st F k)
 jump: ∀t,YL x=some t→rd F t.toNat=true∧Xv (st F t.toNat) (YY m x (st F k)).2.1
 next:x.Op.n≠34→x.Op.n≠31→rd F (k+1)=true∧Xv (st F (k+1)) (YY m x (st F k)).1
inductive ZHb (m:Zb) (n:Nat) (x:Ins) (k:Nat) (T:Sl):Nat→Sl→Prop
 |stop:x.Op.n=34→ZHb m n x k T n T
 |jump (t:Int):YL x=some t→x.Op.n≠33→ZHb m n x k T t.toNat T
 |gone (t:Int):YL x=some t→x.Op.n=33→JW T x.A.n=false→ZHb m n x k T t.toNat T
 |here:x.Op.n=33→JW T x.A.n=true→ZHb m n x k T (k+1) T
 |next:x.Op.n≠33→x.Op.n≠34→x.Op.n≠31→ZHb m n x k T (k+1) (YY m x T).1
theorem ZGN(w:GL I64)(k:Nat):(¬(k:Int)<w.l.length)∨∃v,(k:Int)<w.l.length∧Zh w.l (k:Int)=some v∧Yh .rem (.int .i64 v.n) (.int .i64 2)=some (.int .i64 (v.n.tmod 2))∧(v.n.tmod 2=0∨v.n.tmod 2≠0):=by
 rcases Zm w.l (k:Int)with⟨v,h0,h1,h2⟩|⟨h0,h1⟩
 ·exact .inr ⟨v,h1,h2,JH _ _ _ (by decide),by omega⟩
 ·exact .inl (by omega)
end Go.VE.Un
namespace Go.VE.Un
open Go.VE
structure ZHL (m:Zb) (x:Zs) (k:Nat) (F:List (Bool ×Sl)):Prop where
 app:x.Kind.n=0→∀t,Zh m.Tables.l x.A.n=some t→∀a∈t.Actions.l,(Y1 m (WZ m a.n) (st F k)).2.2=0∧rd F x.Yes.n.toNat=true∧Xv (st F x.Yes.n.toNat) (Y1 m (WZ m a.n) (st F k)).1∧(a.n=t.Default.Action.n→rd F x.No.n.toNat=true∧Xv (st F x.No.n.toNat) (Y1 m (WZ m a.n) (st F k)).1)
 act:x.Kind.n=2→(Y1 m (WZ m x.A.n) (st F k)).2.2=0∧rd F x.Yes.n.toNat=true∧Xv (st F x.Yes.n.toNat) (Y1 m (WZ m x.A.n) (st F k)).1
 cnd:x.Kind.n=1→(Y1 m x.Code.l (st F k)).2.2=0∧rd F x.Yes.n.toNat=true∧Xv (st F x.Yes.n.toNat) (Y1 m x.Code.l (st F k)).1∧rd F x.No.n.toNat=true∧Xv (st F x.No.n.toNat) (Y1 m x.Code.l (st F k)).1
 vld:x.Kind.n=3→rd F x.Yes.n.toNat=true∧Xv (st F x.Yes.n.toNat) (VY (st F k) x.A.n)∧rd F x.No.n.toNat=true∧Xv (st F x.No.n.toNat) (Va (st F k) x.A.n)
end Go.VE.Un
namespace Go.VE.Un
open Go.VE
end Go.VE.Un
namespace Go.VE.Un
open Go.VE
def rwV:Option Wr→V
 |none=>.agg [.bool false,.int .i64 0,.int .i64 0,.int .i64 0]
 |some (p,n,a,_)=>.agg [.bool true,.int .i64 p,.int .i64 n,.int .i64 a]
@[simp] theorem ZHx(w:Option Wr):Ze (rwV w)=true:=by cases w<;>rfl
@[simp] theorem ZHB(k:Nat)(w:Option Wr):Zk k (rwV w)=true:=by cases w<;>rfl
end Go.VE.Un
namespace Go.VE.Un
open Go.VE
theorem ZHg: ∀(r:List ZE) (i s:Int) {q:Int ×Int ×ZE},ofR r i s=some q→s<Yp r
 |[],i,s,q,h=>by simp[ofR]at h
 |x::r,i,s,q,h=>by
  simp only[ofR,Yp]at h⊢
  have:=ZbW r
  split at h
  ·omega
  ·have:=ZHg r _ _ h;omega
theorem ZHp{m:Zb}{s:Int}(h:(Xl m s).isSome=true):0≤s∧s<Yp m.Insts.l:=by
 unfold Xl Wf ofI at h
 split at h
 ·simp at h
 ·rename_i c
  cases ho:ofR m.Insts.l 0 s with
  |none=>rw[ho]at h;simp at h
  |some q=>exact⟨by omega,ZHg _ _ _ ho⟩
theorem ZGU{m:Zb}(hc:Yr m=none){s:Int}(h:(Xl m s).isSome=true):0≤s∧s<64:=by
 have h1:=ZHp h
 have h2:=(ZtQ hc).2
 omega
section
variable (m : Zb) (part i : Int) (x : Zs) (t : ZD) (s : Sl)
end
end Go.VE.Un
namespace Go.VE.Un
open Go.VE
theorem ZHy{m:Zb}(hc:Yr m=none){x:Ext}(he:WY m x=0)(k:x.Kind.n=0):0≤x.N.n∧x.N.n<64:=by
 unfold WY at he
 rw[if_pos k]at he
 have:=JP (by omega) he
 have hs:(Xl m x.N.n).isSome=true:=by
  cases hi:Q3 m x.N.n with
  |none=>rw[hi]at this;simp at this
  |some p=>
   unfold Q3 at hi
   cases hs:Xl m x.N.n with
   |none=>rw[hs]at hi;simp at hi
   |some h=>rfl
 exact ZGU hc hs
theorem ZHc{m:Zb}(hc:Yr m=none){l:List Key}{b:Bool}(hk:QW m l b=0): ∀k∈l,k.Kind.n=0→0≤k.A.n∧k.A.n<64:=by
 unfold QW at hk
 split at hk
 ·simp at hk
 ·split at hk
  ·rename_i c1 c2
   intro k hkm h0
   have:=ZD2 c2 k hkm
   unfold Vp at this
   have hp:(Xt m k).isSome=true:=by
    cases hq:(Xt m k).isSome with
    |true=>rfl
    |false=>rw[hq]at this;simp[h0,inB]at this
   unfold Xt at hp
   rw[if_pos h0]at hp
   cases hf:field m k.A.n k.B.n with
   |none=>rw[hf]at hp;simp at hp
   |some w=>
    obtain⟨h,hh⟩:=Zgf hf
    exact ZGU hc (by rw[hh];rfl)
  ·rename_i c2;exact absurd hk c2
theorem ZHs(x:ZJ)(hx: ∀y∈x.Exts.l,y.Kind.n=0→0≤y.N.n∧y.N.n<64): ∀(r:List Ext) (k:Int) (s:Sl),0≤k→k≤x.Exts.l.length→x.Exts.l.drop k.toNat=r→∃fr,(orc vp).loop 0 [2,3,4,5] ZGL [(2,.ptr 0 1 0 0),(3,.ptr 1 1 0 0),(4,.ptr 2 1 0 0),(5,.int .i64 k)] [.arr [x.v],.arr [ZaU s],.arr [ZaU 0#64]]=
 some (.brk 0,(2,.ptr 0 1 0 0)::(3,.ptr 1 1 0 0)::(4,.ptr 2 1 0 0)::fr,[.arr [x.v],.arr [ZaU (ZDw r s)],.arr [ZaU 0#64]]):=by
 have hle:=x.Exts.le
 intro r
 induction r with
 |nil=>
  intro k s hk hk2 hd
  have:=Zq hk hd
  have e:k=x.Exts.l.length:=by omega
  subst e
  refine⟨[(5,.int .i64 x.Exts.l.length),(10,.bool false)],?_⟩
  rw[ZGI]
  simp -implicitDefEqProofs [ZGq,ZDw]
 |cons y r ih=>
  intro k s hk hk2 hd
  obtain⟨h1,h2,h3⟩:=Zp hk hd
  have w1:IntKind.i64.wrap (k+1)=k+1:=ZK (by omega) (by omega)
  have hy:y∈x.Exts.l:=by
   have:y∈x.Exts.l.drop k.toNat:=by rw[hd];simp
   exact List.mem_of_mem_drop this
  simp only[ZDw]
  by_cases c:y.Kind.n=0
  ·rw[if_pos c]
   obtain⟨a0,a1⟩:=hx y hy c
   have a64:y.N.n<(64:Nat):=by omega
   have hia:=fun B ep j o=>iA (B:=B) (ep:=ep) (j:=j) (o:=o) (n:=64) a0 a64
   have sw:=ZG3 s a0 a1
   obtain⟨fr,ih⟩:=ih (k+1) (VY s y.N.n) (by omega) (by omega) h3
   refine⟨fr,?_⟩
   rw[ZGI,←ih]
   simp -implicitDefEqProofs [ZGq,h1,h2,w1,c,hia,sw]
  ·rw[if_neg c]
   obtain⟨fr,ih⟩:=ih (k+1) s (by omega) (by omega) h3
   refine⟨fr,?_⟩
   rw[ZGI,←ih]
   simp -implicitDefEqProofs [ZGq,h1,h2,w1,c]
theorem ZG4(x:ZJ)(hx: ∀y∈x.Exts.l,y.Kind.n=0→0≤y.N.n∧y.N.n<64)(s:Sl):Zc vp 909 [x.v,ZaU s]=some (ZaU (ZDw x.Exts.l s)):=by
 obtain⟨fr,hl⟩:=ZHs x hx x.Exts.l 0 s (by omega) (by omega) rfl
 have hz:=ZGK
 rw[Za ZHG]
 simp -implicitDefEqProofs [f909,b909,hz,hl]
theorem ZHr(x:ZJ)(s:Sl)(hx: ∀y∈x.Keys.l,y.Kind.n=0→0≤y.A.n∧y.A.n<64): ∀(r:List Key) (k:Int),0≤k→k≤x.Keys.l.length→x.Keys.l.drop k.toNat=r→∃fr,(orc vp).loop 0 [2,3,5] ZGR [(2,.ptr 0 1 0 0),(3,.ptr 1 1 0 0),(5,.int .i64 k)] [.arr [x.v],.arr [ZaU s]]=
 some (if Jh (keyB s) r k= -1 then .brk 0 else .ret,(if Jh (keyB s) r k= -1 then fr else[(4,.int .i64 (Jh (keyB s) r k))]),[.arr [x.v],.arr [ZaU s]]):=by
 have hle:=x.Keys.le
 intro r
 induction r with
 |nil=>
  intro k hk hk2 hd
  have:=Zq hk hd
  have e:k=x.Keys.l.length:=by omega
  subst e
  refine⟨[(2,.ptr 0 1 0 0),(3,.ptr 1 1 0 0),(5,.int .i64 x.Keys.l.length),(10,.bool false)],?_⟩
  rw[ZGx]
  simp -implicitDefEqProofs [ZGi,Jh]
 |cons y r ih=>
  intro k hk hk2 hd
  obtain⟨h1,h2,h3⟩:=Zp hk hd
  have w1:IntKind.i64.wrap (k+1)=k+1:=ZK (by omega) (by omega)
  have hy:y∈x.Keys.l:=by
   have:y∈x.Keys.l.drop k.toNat:=by rw[hd];simp
   exact List.mem_of_mem_drop this
  have hne: ¬k= -1:=by omega
  obtain⟨fr,ih⟩:=ih (k+1) (by omega) (by omega) h3
  by_cases c:y.Kind.n=0
  ·obtain⟨a0,a1⟩:=hx y hy c
   have a64:y.A.n<(64:Nat):=by omega
   have hia:=fun B ep j o=>iA (B:=B) (ep:=ep) (j:=j) (o:=o) (n:=64) a0 a64
   have hg:=ZGF s 1 y.A.n.toNat (by omega)
   have hh2:=ZHf s a0 a1
   cases hb:s.getLsbD y.A.n.toNat with
   |true=>
    rw[hb]at hg hh2
    have e:keyB s y=false:=by unfold keyB;simp[c,hh2]
    refine⟨fr,?_⟩
    simp only[Jh,e,Bool.false_eq_true,if_false]
    rw[ZGx,←ih]
    simp -implicitDefEqProofs [ZGi,h1,h2,c,hia,hg,w1]
   |false=>
    rw[hb]at hg hh2
    have e:keyB s y=true:=by unfold keyB;simp[c,hh2]
    refine⟨[],?_⟩
    simp only[Jh,e,if_true,if_neg hne]
    rw[ZGx]
    simp -implicitDefEqProofs [ZGi,h1,h2,c,hia,hg,w1]
  ·have e:keyB s y=false:=by unfold keyB;simp[c]
   refine⟨fr,?_⟩
   simp only[Jh,e,Bool.false_eq_true,if_false]
   rw[ZGx,←ih]
   simp -implicitDefEqProofs [ZGi,h1,h2,c,w1]
theorem ZHz(x:ZJ)(s:Sl)(hx: ∀y∈x.Keys.l,y.Kind.n=0→0≤y.A.n∧y.A.n<64):Zc vp 910 [x.v,ZaU s]=some (.int .i64 (JO x.Keys.l s)):=by
 obtain⟨fr,hl⟩:=ZHr x s hx x.Keys.l 0 (by omega) (by omega) rfl
 rw[Za ZHC]
 unfold JO
 by_cases c:Jh (keyB s) x.Keys.l 0= -1
 ·rw[if_pos c,if_pos c]at hl
  simp -implicitDefEqProofs [f910,b910,hl,c]
 ·rw[if_neg c,if_neg c]at hl
  simp -implicitDefEqProofs [f910,b910,hl]
def ZGc(x:ZJ):List Int:=x.Cases.l.map (·.Next.n)++[x.Next.n]
theorem ZHl(x:ZJ): ∀(r:List Z7) (k:Int) (n:Nat) (L:List Int),0≤k→k≤x.Cases.l.length→x.Cases.l.drop k.toNat=r→L.length=n→n+r.length≤10000000→∃fr n',n'=n+r.length∧(orc vp).loop 0 [1,3,4] ZGO [(1,.ptr 0 1 0 0),(3,.gsl 1 n 1 0 n),(4,.int .i64 k)] [.arr [x.v],.arr (L.map (V.int .i64))]=
 some (.brk 0,(1,.ptr 0 1 0 0)::(3,.gsl 1 n' 1 0 n')::fr,[.arr [x.v],.arr ((L++r.map (·.Next.n)).map (V.int .i64))]):=by
 have hle:=x.Cases.le
 intro r
 induction r with
 |nil=>
  intro k n L hk hk2 hd hL hb
  have:=Zq hk hd
  have e:k=x.Cases.l.length:=by omega
  subst e
  refine⟨[(4,.int .i64 x.Cases.l.length),(9,.bool false)],n,rfl,?_⟩
  rw[ZGX]
  simp -implicitDefEqProofs [ZGt]
 |cons y r ih=>
  intro k n L hk hk2 hd hL hb
  obtain⟨h1,h2,h3⟩:=Zp hk hd
  have w1:IntKind.i64.wrap (k+1)=k+1:=ZK (by omega) (by omega)
  obtain⟨n2,hn2⟩: ∃n2,n+1=n2:=⟨_,rfl⟩
  simp only[List.length_cons]at hb
  obtain⟨fr,n',e',ih⟩:=ih (k+1) n2 (L++[y.Next.n]) (by omega) (by omega) h3 (by simp[hL,hn2]) (by omega)
  refine⟨fr,n',by simp only[List.length_cons];omega,?_⟩
  have hap: ∀a,X3 0 [a,.arr (L.map (V.int .i64))] 1 8 (.gsl 1 n 1 0 n) [.int .i64 y.Next.n]=some (.gsl 1 n2 1 0 n2,[a,.arr (L.map (V.int .i64)++[.int .i64 y.Next.n])]):=fun a=>by
   rw[KY (es:=L.map (V.int .i64)) (by simp) (by simp[hL]) (by omega) rfl (by unfold YC;simp;omega)]
   simp[hn2]
  have hs1:=fun fr=>slK fr 1 18 (.int .i64 y.Next.n) rfl rfl
  have lz1: ∀(h:Zg) v,Wl h 1 (.sl 1 [v] .ce)=some [v]:=fun _ _=>rfl
  have e1:(L++(y::r).map (·.Next.n)).map (V.int .i64)=((L++[y.Next.n])++r.map (·.Next.n)).map (V.int .i64):=by simp
  have e2:(L++[y.Next.n]).map (V.int .i64)=L.map (V.int .i64)++[.int .i64 y.Next.n]:=by simp
  have hbl:=fun k=>Yq (k:=k) (f:=V.int .i64) (fun _=>rfl) L
  have hb2:=fun k=>Yq (k:=k) (f:=V.int .i64) (fun _=>rfl) (L++[y.Next.n])
  rw[e2]at hb2
  rw[ZGX,e1,←ih,e2]
  generalize L.map (V.int .i64)=A at*
  simp -implicitDefEqProofs [ZGt,h1,h2,w1,hap,hs1,lz1,hbl,hb2]
theorem ZHj(x:ZJ)(hb:x.Cases.l.length≤1000000):Zc vp 912 [x.v]=some (.sl 1 ((ZGc x).map (V.int .i64)) .perm):=by
 obtain⟨fr,n',e',hl⟩:=ZHl x x.Cases.l 0 0 [] (by omega) (by omega) rfl rfl (by omega)
 obtain⟨n2,hn2⟩: ∃n2,n'+1=n2:=⟨_,rfl⟩
 have hlen:(x.Cases.l.map (·.Next.n)).length=n':=by simp[e']
 have e1:(ZGc x).map (V.int .i64)=(x.Cases.l.map (·.Next.n)).map (V.int .i64)++[.int .i64 x.Next.n]:=by unfold ZGc;simp
 have e0:([]++x.Cases.l.map (·.Next.n))=x.Cases.l.map (·.Next.n):=rfl
 have ez:([]:List Int).map (V.int .i64)=[]:=rfl
 rw[e0,ez]at hl
 have hap: ∀a,X3 0 [a,.arr ((x.Cases.l.map (·.Next.n)).map (V.int .i64))] 1 8 (.gsl 1 n' 1 0 n') [.int .i64 x.Next.n]=some (.gsl 1 n2 1 0 n2,[a,.arr ((x.Cases.l.map (·.Next.n)).map (V.int .i64)++[.int .i64 x.Next.n])]):=fun a=>by
  rw[KY (es:=(x.Cases.l.map (·.Next.n)).map (V.int .i64)) (by simp) (by rw[List.length_map,hlen]) (by omega) rfl (by unfold YC;simp;omega)]
  simp[hn2]
 have hs1:=fun fr=>slK fr 1 23 (.int .i64 x.Next.n) rfl rfl
 have lz1: ∀(h:Zg) v,Wl h 1 (.sl 1 [v] .ce)=some [v]:=fun _ _=>rfl
 have k1:YG ((x.Cases.l.map (·.Next.n)).map (V.int .i64)++[.int .i64 x.Next.n]) n2=some ((x.Cases.l.map (·.Next.n)).map (V.int .i64)++[.int .i64 x.Next.n]):=Yt (by simp[e',←hn2])
 have k2:ZaK n2 0 n2 ((x.Cases.l.map (·.Next.n)).map (V.int .i64)++[.int .i64 x.Next.n])=some ((x.Cases.l.map (·.Next.n)).map (V.int .i64)++[.int .i64 x.Next.n]):=Qy (by simp[e',←hn2])
 have k3:Zv ((ZGc x).map (V.int .i64))=true:=by rw[YR];simp
 rw[e1]at k3⊢
 rw[Za ZHI]
 generalize (x.Cases.l.map (·.Next.n)).map (V.int .i64)=A at*
 simp -implicitDefEqProofs [f912,b912,hl,hap,hs1,lz1,k1,k2,k3]
end Go.VE.Un
