/- Joined texts: PtJ, PtM, PtN, PtO, GrE, GrF. No condition: what each theorem needs stands in it. -/
import Derived.Test.YtlekfkibeafdiaaGreatCc16
import Derived.Test.YtlekfkibeafdiaaGreatCc17
namespace Go.VE.Un
open Go.VE
structure ZHL (m:Zb) (x:Zs) (k:Nat) (F:List (Bool ×Sl)):Prop where
 app:x.Kind.n=0→∀t,Zh m.Tables.l x.A.n=some t→∀a∈t.Actions.l,(Y1 m (WZ m a.n) (st F k)).2.2=0∧rd F x.Yes.n.toNat=true∧Xv (st F x.Yes.n.toNat) (Y1 m (WZ m a.n) (st F k)).1∧(a.n=t.Default.Action.n→rd F x.No.n.toNat=true∧Xv (st F x.No.n.toNat) (Y1 m (WZ m a.n) (st F k)).1)
 act:x.Kind.n=2→(Y1 m (WZ m x.A.n) (st F k)).2.2=0∧rd F x.Yes.n.toNat=true∧Xv (st F x.Yes.n.toNat) (Y1 m (WZ m x.A.n) (st F k)).1
 cnd:x.Kind.n=1→(Y1 m x.Code.l (st F k)).2.2=0∧rd F x.Yes.n.toNat=true∧Xv (st F x.Yes.n.toNat) (Y1 m x.Code.l (st F k)).1∧rd F x.No.n.toNat=true∧Xv (st F x.No.n.toNat) (Y1 m x.Code.l (st F k)).1
 vld:x.Kind.n=3→rd F x.Yes.n.toNat=true∧Xv (st F x.Yes.n.toNat) (VY (st F k) x.A.n)∧rd F x.No.n.toNat=true∧Xv (st F x.No.n.toNat) (Va (st F k) x.A.n)
end Go.VE.Un
namespace Go.VE.Un
open Go.VE
end Go.VE.Un
namespace Go.VE.Un
open Go.VE
def rwV:Option Wr→V
 |none=>.agg [.bool false,.int .i64 0,.int .i64 0,.int .i64 0]
 |some (p,n,a,_)=>.agg [.bool true,.int .i64 p,.int .i64 n,.int .i64 a]
@[simp] theorem ZHx(w:Option Wr):Ze (rwV w)=true:=by cases w<;>rfl
@[simp] theorem ZHB(k:Nat)(w:Option Wr):Zk k (rwV w)=true:=by cases w<;>rfl
end Go.VE.Un
namespace Go.VE.Un
open Go.VE
theorem ZHg: ∀(r:List ZE) (i s:Int) {q:Int ×Int ×ZE},ofR r i s=some q→s<Yp r
 |[],i,s,q,h=>by simp[ofR]at h
 |x::r,i,s,q,h=>by
  simp only[ofR,Yp]at h⊢
  have:=ZbW r
  split at h
  ·omega
  ·have:=ZHg r _ _ h;omega
theorem ZHp{m:Zb}{s:Int}(h:(Xl m s).isSome=true):0≤s∧s<Yp m.Insts.l:=by
 unfold Xl Wf ofI at h
 split at h
 ·simp at h
 ·rename_i c
  cases ho:ofR m.Insts.l 0 s with
  |none=>rw[ho]at h;simp at h
  |some q=>exact⟨by omega,ZHg _ _ _ ho⟩
theorem ZGU{m:Zb}(hc:Yr m=none){s:Int}(h:(Xl m s).isSome=true):0≤s∧s<64:=by
 have h1:=ZHp h
 have h2:=(ZtQ hc).2
 omega
section
variable (m : Zb) (part i : Int) (x : Zs) (t : ZD) (s : Sl)
end
end Go.VE.Un
namespace Go.VE.Un
open Go.VE
theorem ZHy{m:Zb}(hc:Yr m=none){x:Ext}(he:WY m x=0)(k:x.Kind.n=0):0≤x.N.n∧x.N.n<64:=by
 unfold WY at he
 rw[if_pos k]at he
 have:=JP (by omega) he
 have hs:(Xl m x.N.n).isSome=true:=by
  cases hi:ZKt m x.N.n with
  |none=>rw[hi]at this;simp at this
  |some p=>
   unfold ZKt at hi
   cases hs:Xl m x.N.n with
   |none=>rw[hs]at hi;simp at hi
   |some h=>rfl
 exact ZGU hc hs
theorem ZHc{m:Zb}(hc:Yr m=none){l:List Key}{b:Bool}(hk:QW m l b=0): ∀k∈l,k.Kind.n=0→0≤k.A.n∧k.A.n<64:=by
 unfold QW at hk
 split at hk
 ·simp at hk
 ·split at hk
  ·rename_i c1 c2
   intro k hkm h0
   have:=ZD2 c2 k hkm
   unfold Vp at this
   have hp:(Xt m k).isSome=true:=by
    cases hq:(Xt m k).isSome with
    |true=>rfl
    |false=>rw[hq]at this;simp[h0,inB]at this
   unfold Xt at hp
   rw[if_pos h0]at hp
   cases hf:field m k.A.n k.B.n with
   |none=>rw[hf]at hp;simp at hp
   |some w=>
    obtain⟨h,hh⟩:=Zgf hf
    exact ZGU hc (by rw[hh];rfl)
  ·rename_i c2;exact absurd hk c2
theorem ZHs(x:ZJ)(hx: ∀y∈x.Exts.l,y.Kind.n=0→0≤y.N.n∧y.N.n<64): ∀(r:List Ext) (k:Int) (s:Sl),0≤k→k≤x.Exts.l.length→x.Exts.l.drop k.toNat=r→∃fr,(orc vp).loop 0 [2,3,4,5] ZGL [(2,.ptr 0 1 0 0),(3,.ptr 1 1 0 0),(4,.ptr 2 1 0 0),(5,.int .i64 k)] [.arr [x.v],.arr [ZaU s],.arr [ZaU 0#64]]=
 some (.brk 0,(2,.ptr 0 1 0 0)::(3,.ptr 1 1 0 0)::(4,.ptr 2 1 0 0)::fr,[.arr [x.v],.arr [ZaU (ZDw r s)],.arr [ZaU 0#64]]):=by
 have hle:=x.Exts.le
 intro r
 induction r with
 |nil=>
  intro k s hk hk2 hd
  have:=Zq hk hd
  have e:k=x.Exts.l.length:=by omega
  subst e
  refine⟨[(5,.int .i64 x.Exts.l.length),(10,.bool false)],?_⟩
  rw[ZGI]
  simp -implicitDefEqProofs [ZGq,ZDw]
 |cons y r ih=>
  intro k s hk hk2 hd
  obtain⟨h1,h2,h3⟩:=Zp hk hd
  have w1:IntKind.i64.wrap (k+1)=k+1:=ZK (by omega) (by omega)
  have hy:y∈x.Exts.l:=by
   have:y∈x.Exts.l.drop k.toNat:=by rw[hd];simp
   exact List.mem_of_mem_drop this
  simp only[ZDw]
  by_cases c:y.Kind.n=0
  ·rw[if_pos c]
   obtain⟨a0,a1⟩:=hx y hy c
   have a64:y.N.n<(64:Nat):=by omega
   have hia:=fun B ep j o=>iA (B:=B) (ep:=ep) (j:=j) (o:=o) (n:=64) a0 a64
   have sw:=ZG3 s a0 a1
   obtain⟨fr,ih⟩:=ih (k+1) (VY s y.N.n) (by omega) (by omega) h3
   refine⟨fr,?_⟩
   rw[ZGI,←ih]
   simp -implicitDefEqProofs [ZGq,h1,h2,w1,c,hia,sw]
  ·rw[if_neg c]
   obtain⟨fr,ih⟩:=ih (k+1) s (by omega) (by omega) h3
   refine⟨fr,?_⟩
   rw[ZGI,←ih]
   simp -implicitDefEqProofs [ZGq,h1,h2,w1,c]
theorem ZG4(x:ZJ)(hx: ∀y∈x.Exts.l,y.Kind.n=0→0≤y.N.n∧y.N.n<64)(s:Sl):Zc vp 909 [x.v,ZaU s]=some (ZaU (ZDw x.Exts.l s)):=by
 obtain⟨fr,hl⟩:=ZHs x hx x.Exts.l 0 s (by omega) (by omega) rfl
 have hz:=ZGK
 rw[Za ZHG]
 simp -implicitDefEqProofs [f909,b909,hz,hl]
theorem ZHr(x:ZJ)(s:Sl)(hx: ∀y∈x.Keys.l,y.Kind.n=0→0≤y.A.n∧y.A.n<64): ∀(r:List Key) (k:Int),0≤k→k≤x.Keys.l.length→x.Keys.l.drop k.toNat=r→∃fr,(orc vp).loop 0 [2,3,5] ZGR [(2,.ptr 0 1 0 0),(3,.ptr 1 1 0 0),(5,.int .i64 k)] [.arr [x.v],.arr [ZaU s]]=
 some (if Jh (keyB s) r k= -1 then .brk 0 else .ret,(if Jh (keyB s) r k= -1 then fr else[(4,.int .i64 (Jh (keyB s) r k))]),[.arr [x.v],.arr [ZaU s]]):=by
 have hle:=x.Keys.le
 intro r
 induction r with
 |nil=>
  intro k hk hk2 hd
  have:=Zq hk hd
  have e:k=x.Keys.l.length:=by omega
  subst e
  refine⟨[(2,.ptr 0 1 0 0),(3,.ptr 1 1 0 0),(5,.int .i64 x.Keys.l.length),(10,.bool false)],?_⟩
  rw[ZGx]
  simp -implicitDefEqProofs [ZGi,Jh]
 |cons y r ih=>
  intro k hk hk2 hd
  obtain⟨h1,h2,h3⟩:=Zp hk hd
  have w1:IntKind.i64.wrap (k+1)=k+1:=ZK (by omega) (by omega)
  have hy:y∈x.Keys.l:=by
   have:y∈x.Keys.l.drop k.toNat:=by rw[hd];simp
   exact List.mem_of_mem_drop this
  have hne: ¬k= -1:=by omega
  obtain⟨fr,ih⟩:=ih (k+1) (by omega) (by omega) h3
  by_cases c:y.Kind.n=0
  ·obtain⟨a0,a1⟩:=hx y hy c
   have a64:y.A.n<(64:Nat):=by omega
   have hia:=fun B ep j o=>iA (B:=B) (ep:=ep) (j:=j) (o:=o) (n:=64) a0 a64
   have hg:=ZGF s 1 y.A.n.toNat (by omega)
   have hh2:=ZHf s a0 a1
   cases hb:s.getLsbD y.A.n.toNat with
   |true=>
    rw[hb]at hg hh2
    have e:keyB s y=false:=by unfold keyB;simp[c,hh2]
    refine⟨fr,?_⟩
    simp only[Jh,e,Bool.false_eq_true,if_false]
    rw[ZGx,←ih]
    simp -implicitDefEqProofs [ZGi,h1,h2,c,hia,hg,w1]
   |false=>
    rw[hb]at hg hh2
    have e:keyB s y=true:=by unfold keyB;simp[c,hh2]
    refine⟨[],?_⟩
    simp only[Jh,e,if_true,if_neg hne]
    rw[ZGx]
    simp -implicitDefEqProofs [ZGi,h1,h2,c,hia,hg,w1]
  ·have e:keyB s y=false:=by unfold keyB;simp[c]
   refine⟨fr,?_⟩
   simp only[Jh,e,Bool.false_eq_true,if_false]
   rw[ZGx,←ih]
   simp -implicitDefEqProofs [ZGi,h1,h2,c,w1]
theorem ZHz(x:ZJ)(s:Sl)(hx: ∀y∈x.Keys.l,y.Kind.n=0→0≤y.A.n∧y.A.n<64):Zc vp 910 [x.v,ZaU s]=some (.int .i64 (JO x.Keys.l s)):=by
 obtain⟨fr,hl⟩:=ZHr x s hx x.Keys.l 0 (by omega) (by omega) rfl
 rw[Za ZHC]
 unfold JO
 by_cases c:Jh (keyB s) x.Keys.l 0= -1
 ·rw[if_pos c,if_pos c]at hl
  simp -implicitDefEqProofs [f910,b910,hl,c]
 ·rw[if_neg c,if_neg c]at hl
  simp -implicitDefEqProofs [f910,b910,hl]
theorem ZMa(e0:List V)(n:Int)(hn:n≤64): ∀(j:Nat) (i:Int) (o:Sl),0≤i→i≤n→(n-i).toNat=j→∃fr,(orc vp).loop 0 [2,3,4,5] ZLJ [(2,.ptr 1 1 0 0),(3,.ptr 2 1 0 0),(4,.int .i64 n),(5,.int .i64 i)] [.arr e0,.arr [ZaU 0#64],.arr [ZaU o]]=
 some (.brk 0,(2,.ptr 1 1 0 0)::(3,.ptr 2 1 0 0)::fr,[.arr e0,.arr [ZaU 0#64],.arr [ZaU (ZFh j i o)]]):=by
 intro j
 induction j with
 |zero=>
  intro i o h0 h1 h2
  have hlt: ¬i<n:=by omega
  have e:i=n:=by omega
  subst e
  refine⟨[(4,.int .i64 i),(5,.int .i64 i),(16,.bool false)],?_⟩
  rw[ZLM]
  simp -implicitDefEqProofs [ZK7,hlt,ZFh]
 |succ j ih=>
  intro i o h0 h1 h2
  have hlt:i<n:=by omega
  have w1:IntKind.i64.wrap (i+1)=i+1:=ZK (by omega) (by omega)
  have h64:i<64:=by omega
  have a64:i<(64:Nat):=by omega
  have hia:=fun B ep j o=>iA (B:=B) (ep:=ep) (j:=j) (o:=o) (n:=64) h0 a64
  have sw:=ZG3 o h0 h64
  obtain⟨fr,ih⟩:=ih (i+1) (VY o i) (by omega) (by omega) (by omega)
  refine⟨fr,?_⟩
  simp only[ZFh]
  rw[ZLM,←ih]
  simp -implicitDefEqProofs [ZK7,hlt,h64,w1,hia,sw]
theorem ZL6(m:Zb)(hb:m.Insts.l.length≤10000000)(hc:Yr m=none):Zc vp 908 [m.v]=some (ZaU (ZEx m)):=by
 have h32:=(ZtQ hc).2
 have h0:=(ZbW m.Insts.l).1
 obtain⟨fr,hl⟩:=ZMa [m.v] (Yp m.Insts.l) (by omega) (Yp m.Insts.l).toNat 0 0#64 (by omega) h0 (by omega)
 have hs:=Zal m.Insts hb
 have hln:(((Wy 0 m.Insts.l).map XA).length:Int)=Yp m.Insts.l:=by rw[List.length_map];exact ZbQ 0 m.Insts.l
 have hz:=ZGK
 rw[Za ZMi]
 unfold ZEx
 generalize (Wy 0 m.Insts.l).map XA=A at*
 have e0:(0:Sl)=0#64:=rfl
 rw[e0]
 generalize Yp m.Insts.l=q at*
 subst hln
 simp -implicitDefEqProofs [f908,b908,hz,hs,hl]
def ZGc(x:ZJ):List Int:=x.Cases.l.map (·.Next.n)++[x.Next.n]
theorem ZHl(x:ZJ): ∀(r:List Z7) (k:Int) (n:Nat) (L:List Int),0≤k→k≤x.Cases.l.length→x.Cases.l.drop k.toNat=r→L.length=n→n+r.length≤10000000→∃fr n',n'=n+r.length∧(orc vp).loop 0 [1,3,4] ZGO [(1,.ptr 0 1 0 0),(3,.gsl 1 n 1 0 n),(4,.int .i64 k)] [.arr [x.v],.arr (L.map (V.int .i64))]=
 some (.brk 0,(1,.ptr 0 1 0 0)::(3,.gsl 1 n' 1 0 n')::fr,[.arr [x.v],.arr ((L++r.map (·.Next.n)).map (V.int .i64))]):=by
 have hle:=x.Cases.le
 intro r
 induction r with
 |nil=>
  intro k n L hk hk2 hd hL hb
  have:=Zq hk hd
  have e:k=x.Cases.l.length:=by omega
  subst e
  refine⟨[(4,.int .i64 x.Cases.l.length),(9,.bool false)],n,rfl,?_⟩
  rw[ZGX]
  simp -implicitDefEqProofs [ZGt]
 |cons y r ih=>
  intro k n L hk hk2 hd hL hb
  obtain⟨h1,h2,h3⟩:=Zp hk hd
  have w1:IntKind.i64.wrap (k+1)=k+1:=ZK (by omega) (by omega)
  obtain⟨n2,hn2⟩: ∃n2,n+1=n2:=⟨_,rfl⟩
  simp only[List.length_cons]at hb
  obtain⟨fr,n',e',ih⟩:=ih (k+1) n2 (L++[y.Next.n]) (by omega) (by omega) h3 (by simp[hL,hn2]) (by omega)
  refine⟨fr,n',by simp only[List.length_cons];omega,?_⟩
  have hap: ∀a,X3 0 [a,.arr (L.map (V.int .i64))] 1 8 (.gsl 1 n 1 0 n) [.int .i64 y.Next.n]=some (.gsl 1 n2 1 0 n2,[a,.arr (L.map (V.int .i64)++[.int .i64 y.Next.n])]):=fun a=>by
   rw[KY (es:=L.map (V.int .i64)) (by simp) (by simp[hL]) (by omega) rfl (by unfold YC;simp;omega)]
   simp[hn2]
  have hs1:=fun fr=>slK fr 1 18 (.int .i64 y.Next.n) rfl rfl
  have lz1: ∀(h:Zg) v,Wl h 1 (.sl 1 [v] .ce)=some [v]:=fun _ _=>rfl
  have e1:(L++(y::r).map (·.Next.n)).map (V.int .i64)=((L++[y.Next.n])++r.map (·.Next.n)).map (V.int .i64):=by simp
  have e2:(L++[y.Next.n]).map (V.int .i64)=L.map (V.int .i64)++[.int .i64 y.Next.n]:=by simp
  have hbl:=fun k=>Yq (k:=k) (f:=V.int .i64) (fun _=>rfl) L
  have hb2:=fun k=>Yq (k:=k) (f:=V.int .i64) (fun _=>rfl) (L++[y.Next.n])
  rw[e2]at hb2
  rw[ZGX,e1,←ih,e2]
  generalize L.map (V.int .i64)=A at*
  simp -implicitDefEqProofs [ZGt,h1,h2,w1,hap,hs1,lz1,hbl,hb2]
theorem ZHj(x:ZJ)(hb:x.Cases.l.length≤1000000):Zc vp 912 [x.v]=some (.sl 1 ((ZGc x).map (V.int .i64)) .perm):=by
 obtain⟨fr,n',e',hl⟩:=ZHl x x.Cases.l 0 0 [] (by omega) (by omega) rfl rfl (by omega)
 obtain⟨n2,hn2⟩: ∃n2,n'+1=n2:=⟨_,rfl⟩
 have hlen:(x.Cases.l.map (·.Next.n)).length=n':=by simp[e']
 have e1:(ZGc x).map (V.int .i64)=(x.Cases.l.map (·.Next.n)).map (V.int .i64)++[.int .i64 x.Next.n]:=by unfold ZGc;simp
 have e0:([]++x.Cases.l.map (·.Next.n))=x.Cases.l.map (·.Next.n):=rfl
 have ez:([]:List Int).map (V.int .i64)=[]:=rfl
 rw[e0,ez]at hl
 have hap: ∀a,X3 0 [a,.arr ((x.Cases.l.map (·.Next.n)).map (V.int .i64))] 1 8 (.gsl 1 n' 1 0 n') [.int .i64 x.Next.n]=some (.gsl 1 n2 1 0 n2,[a,.arr ((x.Cases.l.map (·.Next.n)).map (V.int .i64)++[.int .i64 x.Next.n])]):=fun a=>by
  rw[KY (es:=(x.Cases.l.map (·.Next.n)).map (V.int .i64)) (by simp) (by rw[List.length_map,hlen]) (by omega) rfl (by unfold YC;simp;omega)]
  simp[hn2]
 have hs1:=fun fr=>slK fr 1 23 (.int .i64 x.Next.n) rfl rfl
 have lz1: ∀(h:Zg) v,Wl h 1 (.sl 1 [v] .ce)=some [v]:=fun _ _=>rfl
 have k1:YG ((x.Cases.l.map (·.Next.n)).map (V.int .i64)++[.int .i64 x.Next.n]) n2=some ((x.Cases.l.map (·.Next.n)).map (V.int .i64)++[.int .i64 x.Next.n]):=Yt (by simp[e',←hn2])
 have k2:ZaK n2 0 n2 ((x.Cases.l.map (·.Next.n)).map (V.int .i64)++[.int .i64 x.Next.n])=some ((x.Cases.l.map (·.Next.n)).map (V.int .i64)++[.int .i64 x.Next.n]):=Qy (by simp[e',←hn2])
 have k3:Zv ((ZGc x).map (V.int .i64))=true:=by rw[YR];simp
 rw[e1]at k3⊢
 rw[Za ZHI]
 generalize (x.Cases.l.map (·.Next.n)).map (V.int .i64)=A at*
 simp -implicitDefEqProofs [f912,b912,hl,hap,hs1,lz1,k1,k2,k3]
end Go.VE.Un
namespace Go.VE.Un
open Go.VE
def ZKk(i:Nat):List Int→List Bool→List Bool
 |[],B=>B
 |t::r,B=>if B.getD i false=true then ZKk i r (if 0≤t then B.set t.toNat true else B)else B
def ZKj:List ZJ→Nat→List Bool→List Bool
 |[],_,B=>B
 |x::r,i,B=>ZKj r (i+1) (ZKk i (ZGc x) B)
def ZKm(l:List ZJ):Nat→List Bool→List Bool
 |0,B=>B
 |j+1,B=>ZKm l j (ZKj l 0 B)
theorem ZKP(i:Nat): ∀(l:List Int) (B:List Bool),(ZKk i l B).length=B.length
 |[],_=>rfl
 |t::r,B=>by
  simp only[ZKk]
  split
  ·rw[ZKP i r];split<;>simp
  ·rfl
theorem ZKs: ∀(l:List ZJ) (i:Nat) (B:List Bool),(ZKj l i B).length=B.length
 |[],_,_=>rfl
 |x::r,i,B=>by simp only[ZKj];rw[ZKs r,ZKP]
theorem ZKR(l:List ZJ): ∀(j:Nat) (B:List Bool),(ZKm l j B).length=B.length
 |0,_=>rfl
 |j+1,B=>by simp only[ZKm];rw[ZKR l j,ZKs]
section
variable (m : Zb) (hm : Clo m) (n : Nat) (hn : m.States.l.length = n) (hn2 : n ≤ 16) (hg : ∀ i x, Zh m.States.l i = some x → ZDI m x)
include hn2 in
theorem ZL2(q:Int)(i:Nat)(hi:i<n)(L:List Int)(hL:L.length≤9)(hb: ∀t∈L,t<(n:Int)): ∀(r:List Int) (k:Int) (B:List Bool),0≤k→k≤L.length→L.drop k.toNat=r→B.length=n→∃fr,(orc vp).loop 0 [1,3,4,5,6,7] ZLz [(1,.ptr 0 1 0 0),(3,.gsl 1 n 1 0 n),(4,.int .i64 q),(5,.int .i64 i),(6,.sl 1 (L.map (V.int .i64)) .perm),(7,.int .i64 k)] [.arr [m.v],.arr (B.map V.bool)]=
 some (.brk 4,(1,.ptr 0 1 0 0)::(3,.gsl 1 n 1 0 n)::(4,.int .i64 q)::(5,.int .i64 i)::fr,[.arr [m.v],.arr ((ZKk i r B).map V.bool)]):=by
 have hbl:=fun k=>Yq (k:=k) (f:=V.int .i64) (fun _=>rfl) L
 have hia:=iaG (B:=1) (z:=1) (ep:=n) (i:=(i:Int)) (by omega) (by omega)
 rw[Int.toNat_natCast]at hia
 have hml:((L.map (V.int .i64)).length:Int)=L.length:=by simp
 intro r
 induction r with
 |nil=>
  intro k B hk hk2 hd hB
  have:=Zq hk hd
  have e:k=L.length:=by omega
  subst e
  refine⟨[(6,.sl 1 (L.map (V.int .i64)) .perm),(7,.int .i64 L.length),(43,.bool false)],?_⟩
  simp only[ZKk]
  rw[ZK8]
  have h9:=hbl 0
  generalize L.map (V.int .i64)=A at*
  simp -implicitDefEqProofs [ZKC,hml]
 |cons y r ih=>
  intro k B hk hk2 hd hB
  obtain⟨h1,h2,h3⟩:=Zp hk hd
  have w1:IntKind.i64.wrap (k+1)=k+1:=ZK (by omega) (by omega)
  have hy:y∈L:=by
   have:y∈L.drop k.toNat:=by rw[hd];simp
   exact List.mem_of_mem_drop this
  have hyn:=hb y hy
  have g1:Yb 1 (.sl 1 (L.map (V.int .i64)) .perm) (.int .i64 k)=some (.eptr (.int .i64 y) 0 .perm):=by
   rw[Y7,h1];rfl
  have cA:YG (B.map V.bool) n=some (B.map V.bool):=Yt (by simp[hB])
  have gA:(B.map V.bool)[i]? =some (.bool (B.getD i false)):=by
   have:i<B.length:=by omega
   rw[List.getElem?_map,List.getD_eq_getElem?_getD,List.getElem?_eq_getElem this];rfl
  have bB:=fun k=>Yq (k:=k) (f:=V.bool) (fun _=>rfl) B
  simp only[ZKk]
  cases hs:B.getD i false with
  |false=>
   rw[hs]at gA
   simp only[Bool.false_eq_true,if_false]
   refine⟨[(6,.sl 1 (L.map (V.int .i64)) .perm),(7,.int .i64 k),(43,.bool false)],?_⟩
   rw[ZK8]
   generalize L.map (V.int .i64)=A at*
   generalize B.map V.bool=D at*
   simp -implicitDefEqProofs [ZKC,hml,h2,hia,cA,gA]
  |true=>
   rw[hs]at gA
   simp only[if_true]
   by_cases c0:0≤y
   ·rw[if_pos c0]
    obtain⟨fr,ih⟩:=ih (k+1) (B.set y.toNat true) (by omega) (by omega) h3 (by simp[hB])
    refine⟨fr,?_⟩
    have hiy:=iaG (B:=1) (z:=1) (ep:=n) (i:=y) c0 hyn
    have hat:(B.set y.toNat true).map V.bool=(B.map V.bool).set y.toNat (.bool true):=by rw[List.map_set]
    have bB2:=fun k=>Yq (k:=k) (f:=V.bool) (fun _=>rfl) (B.set y.toNat true)
    have gy:(B.map V.bool)[y.toNat]? =some (.bool (B.getD y.toNat false)):=by
     have:y.toNat<B.length:=by omega
     rw[List.getElem?_map,List.getD_eq_getElem?_getD,List.getElem?_eq_getElem this];rfl
    rw[ZK8,←ih]
    rw[hat]at bB2⊢
    generalize B.getD y.toNat false=bb at*
    generalize L.map (V.int .i64)=A at*
    generalize B.map V.bool=D at*
    simp -implicitDefEqProofs [ZKC,hml,h2,hia,hiy,cA,gA,gy,g1,w1,c0,hbl,bB,bB2]
   ·rw[if_neg c0]
    obtain⟨fr,ih⟩:=ih (k+1) B (by omega) (by omega) h3 hB
    refine⟨fr,?_⟩
    rw[ZK8,←ih]
    generalize L.map (V.int .i64)=A at*
    generalize B.map V.bool=D at*
    simp -implicitDefEqProofs [ZKC,hml,h2,hia,cA,gA,g1,w1,c0,hbl,bB]
include hm hn hn2 hg in
theorem ZLS(q:Int): ∀(r:List ZJ) (i:Nat) (B:List Bool),i≤n→m.States.l.drop i=r→B.length=n→∃fr,(orc vp).loop 0 [1,3,4,5] ZLI [(1,.ptr 0 1 0 0),(3,.gsl 1 n 1 0 n),(4,.int .i64 q),(5,.int .i64 i)] [.arr [m.v],.arr (B.map V.bool)]=
 some (.brk 2,(1,.ptr 0 1 0 0)::(3,.gsl 1 n 1 0 n)::(4,.int .i64 q)::fr,[.arr [m.v],.arr ((ZKj r i B).map V.bool)]):=by
 intro r
 induction r with
 |nil=>
  intro i B hi hd hB
  have hin:i=n:=by
   have:m.States.l.length≤i:=List.drop_eq_nil_iff.1 hd
   omega
  subst hin
  refine⟨[(5,.int .i64 i),(25,.bool false)],?_⟩
  simp only[ZKj]
  rw[ZLR]
  simp -implicitDefEqProofs [ZK3,hn]
 |cons x r ih=>
  intro i B hi hd hB
  have hi2:i<n:=by
   have:i<m.States.l.length:=by
    rcases Nat.lt_or_ge i m.States.l.length with h|h
    ·exact h
    ·rw[List.drop_eq_nil_of_le h]at hd;simp at hd
   omega
  have hlt:(i:Int)<n:=by omega
  have hx:m.States.l[i]? =some x:=by
   have:=congrArg (fun q=>q[0]?) hd
   simpa using this
  have hx':Zh m.States.l (i:Int)=some x:=by simp[Zh,hx]
  have hd':m.States.l.drop (i+1)=r:=by
   have:=congrArg (List.drop 1) hd
   simpa using this
  have hcl:Ze (GL.v 5 ZJ.v m.States)=true:=by
   simp only[Clo,Zb.closed,Bool.and_eq_true]at hm;simp[hm]
  have hxc:=Xc hcl hx'
  have hgx:=hg _ _ hx'
  obtain⟨i2,hi3⟩: ∃i2,i+1=i2:=⟨_,rfl⟩
  have w1:IntKind.i64.wrap ((i:Int)+1)=(i2:Int):=by rw[ZK (by omega) (by omega)];omega
  have hnx:=ZHj x (by have:=hgx.cases;omega)
  have hnl:(ZGc x).length≤9:=by have:=hgx.cases;unfold ZGc;simp;omega
  have hnb: ∀t∈ZGc x,t<(n:Int):=fun t ht=>by
   have:=(hgx.nx t (by unfold ZGc at ht;unfold ZGb;simp only[List.mem_append,List.mem_singleton]at ht;simp only[List.mem_cons];exact ht.symm)).2
   omega
  obtain⟨fr2,hl⟩:=ZL2 m n hn2 q i hi2 (ZGc x) hnl hnb (ZGc x) 0 B (by omega) (by omega) rfl hB
  have hrl:=ZKP i (ZGc x) B
  obtain⟨fr,ih⟩:=ih i2 (ZKk i (ZGc x) B) (by omega) (by rw[←hi3];exact hd') (by omega)
  have bB:=fun k=>Yq (k:=k) (f:=V.bool) (fun _=>rfl) B
  have bB2:=fun k=>Yq (k:=k) (f:=V.bool) (fun _=>rfl) (ZKk i (ZGc x) B)
  refine⟨fr,?_⟩
  simp only[ZKj,hi3]
  rw[ZLR,←ih]
  generalize (ZKk i (ZGc x) B).map V.bool=D2 at*
  generalize (ZGc x).map (V.int .i64)=A at*
  generalize B.map V.bool=D at*
  simp -implicitDefEqProofs [ZK3,hn,hlt,hx',hxc,hnx,hl,w1,bB,bB2]
include hm hn hn2 hg in
theorem ZL0: ∀(j q:Nat) (B:List Bool),q+j=n→B.length=n→∃fr,(orc vp).loop 0 [1,3,4] ZLG [(1,.ptr 0 1 0 0),(3,.gsl 1 n 1 0 n),(4,.int .i64 q)] [.arr [m.v],.arr (B.map V.bool)]=
 some (.brk 0,(1,.ptr 0 1 0 0)::(3,.gsl 1 n 1 0 n)::fr,[.arr [m.v],.arr ((ZKm m.States.l j B).map V.bool)]):=by
 intro j
 induction j with
 |zero=>
  intro q B hq hB
  have e:q=n:=by omega
  subst e
  refine⟨[(4,.int .i64 q),(18,.bool false)],?_⟩
  simp only[ZKm]
  rw[ZLO]
  simp -implicitDefEqProofs [ZK6,hn]
 |succ j ih=>
  intro q B hq hB
  have hlt:(q:Int)<n:=by omega
  obtain⟨i2,hi3⟩: ∃i2,q+1=i2:=⟨_,rfl⟩
  have w1:IntKind.i64.wrap ((q:Int)+1)=(i2:Int):=by rw[ZK (by omega) (by omega)];omega
  obtain⟨fr2,hl⟩:=ZLS m hm n hn hn2 hg q m.States.l 0 B (by omega) rfl hB
  have hz0:((0:Nat):Int)=0:=rfl
  rw[hz0]at hl
  have hrl:=ZKs m.States.l 0 B
  obtain⟨fr,ih⟩:=ih i2 (ZKj m.States.l 0 B) (by omega) (by omega)
  have bB:=fun k=>Yq (k:=k) (f:=V.bool) (fun _=>rfl) B
  have bB2:=fun k=>Yq (k:=k) (f:=V.bool) (fun _=>rfl) (ZKj m.States.l 0 B)
  refine⟨fr,?_⟩
  simp only[ZKm]
  rw[ZLO,←ih]
  generalize (ZKj m.States.l 0 B).map V.bool=D2 at*
  generalize B.map V.bool=D at*
  simp -implicitDefEqProofs [ZK6,hn,hlt,hl,w1,bB,bB2]
end
def ZKi(n:Nat):List Bool:=(List.replicate n false).set 0 true
def ZKh(m:Zb):List Bool:=ZKm m.States.l m.States.l.length (ZKi m.States.l.length)
theorem ZLf(m:Zb)(hm:Clo m)(hc:Yr m=none):Zc vp 913 [m.v]=some (.sl 1 ((ZKh m).map V.bool) .perm):=by
 obtain⟨h0,h16,hg⟩:=ZDO hc
 unfold ZKh
 obtain⟨n,hn⟩: ∃n,m.States.l.length=n:=⟨_,rfl⟩
 rw[hn]at h0 h16⊢
 obtain⟨fr,hl⟩:=ZL0 m hm n hn h16 hg n 0 (ZKi n) (by omega) (by simp[ZKi])
 have hz0:((0:Nat):Int)=0:=rfl
 rw[hz0]at hl
 have hmk: ∀a,UW [a] (.bool false) 1 (.int .i64 (n:Int)) (.int .i64 (n:Int))=some (.gsl 1 n 1 0 n,[a,.arr ((List.replicate n false).map V.bool)]):=fun a=>by
  unfold UW
  simp only
  rw[if_pos (by unfold YC;omega),Int.toNat_natCast,List.map_replicate];rfl
 have hi0:=iaG (B:=1) (z:=1) (ep:=n) (i:=0) (by omega) (by omega)
 rw[Int.toNat_zero]at hi0
 have c0:YG ((List.replicate n false).map V.bool) n=some ((List.replicate n false).map V.bool):=Yt (by simp)
 have g0:((List.replicate n false).map V.bool)[0]? =some (.bool false):=by
  rw[List.getElem?_map,List.getElem?_replicate,if_pos h0];rfl
 have hst:(ZKi n).map V.bool=((List.replicate n false).map V.bool).set 0 (.bool true):=by unfold ZKi;rw[List.map_set]
 rw[hst]at hl
 have hrl:(ZKm m.States.l n (ZKi n)).length=n:=by rw[ZKR];simp[ZKi]
 have cF:YG ((ZKm m.States.l n (ZKi n)).map V.bool) n=some ((ZKm m.States.l n (ZKi n)).map V.bool):=Yt (by simp[hrl])
 have sF:ZaK n 0 n ((ZKm m.States.l n (ZKi n)).map V.bool)=some ((ZKm m.States.l n (ZKi n)).map V.bool):=Qy (by simp[hrl])
 have hcF:=JC (ZKm m.States.l n (ZKi n))
 rw[Za ZMh]
 generalize (ZKm m.States.l n (ZKi n)).map V.bool=A at*
 generalize (List.replicate n false).map V.bool=R at*
 simp -implicitDefEqProofs [f913,b913,hn,hmk,hi0,c0,g0,hl,cF,sF,hcF]
end Go.VE.Un
