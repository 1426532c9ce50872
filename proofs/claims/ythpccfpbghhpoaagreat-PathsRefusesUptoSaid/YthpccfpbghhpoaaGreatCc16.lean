/- Joined texts: CfJ, CfK, CkQ, CkR, PtA. No condition: what each theorem needs stands in it. -/
import Derived.Test.YthpccfpbghhpoaaGreatCc15
import Derived.Test.YthpccfpbghhpoaaGreatCc10
namespace Go.VE.Un
open Go.VE
def Za6(p:Bool ×Sl):V:=.agg (.bool p.1::(Zji p.2).map V.bool)
@[simp] theorem Zrv(p:Bool ×Sl):Ze (Za6 p)=true:=by simp[Za6,JK]
@[simp] theorem ZsQ(k:Nat)(p:Bool ×Sl):Zk k (Za6 p)=true:=by simp[Za6,Kr]
@[simp] theorem Zzy(p:Bool ×Sl):okV (Za6 p)=true:=nr rfl
@[simp] theorem ZxS(p:Bool ×Sl):ldc (Za6 p) true 65 0=some (Za6 p):=QD (by simp)
@[simp] theorem ZxP(p:Bool ×Sl)(n:Nat):ldc (Za6 p) false n 0=some (.bool p.1):=rfl
@[simp] theorem ZwY(p:Bool ×Sl):ldc (Za6 p) true 64 1=some (ZaH p.2):=by
  unfold Za6
  rw[Zqk _ _ _ (by simp)]
  simp only[List.drop_succ_cons,List.drop_zero]
  rw[List.take_of_length_le (by simp)];rfl
section
variable (m : Zb) (l : GL Ins) (n : Nat) (e1 e2 : List V)
end
theorem Zlq(m:Zb)(x:Ins)(s:Sl)(h:(XA m x s).2.2≠0):(XA m x s).2.2=11:=by
 unfold XA at h⊢
 repeat' split at h
 all_goals simp_all
end Go.VE.Un
namespace Go.VE.Un
open Go.VE
theorem V6(m:Zb)(n:Nat): ∀(r:List Ins) (i:Nat) (P:List (Bool ×Sl)) {j:Nat} {e:Int},(YI m n r i P).1=some (j,e)→e=11
 |[],_,_,_,_,h=>by simp[YI]at h
 |x::r,i,P,j,e,h=>by
  simp only[YI]at h
  split at h
  ·exact V6 m n r _ _ h
  ·split at h
   ·rename_i c;simp at h;rw[←h.2];exact Zlq m x _ c
   ·split at h
    ·exact V6 m n r _ _ h
    ·exact V6 m n r _ _ h
end Go.VE.Un
namespace Go.VE.Un
open Go.VE
theorem Zco{α:Type}{l:List α}{i:Int}{a:α}(h:Zh l i=some a):0≤i∧i<l.length:=by
 rcases Zm l i with⟨_,h0,h1,_⟩|⟨_,h1⟩
 ·exact⟨h0,h1⟩
 ·rw[h1]at h;simp at h
end Go.VE.Un
namespace Go.VE.Un
open Go.VE
theorem Jp{b:Bool}{e:Int}(he:e≠0)(h:Zl b e=0):b=true:=by
 unfold Zl at h;split at h
 ·assumption
 ·exact absurd h he
theorem Zho{m:Zb}(hm:Clo m):Ze (GL.v 6 Zs.v m.Ingress)=true:=by
 simp only[Clo,Zb.closed,Bool.and_eq_true]at hm;simp[hm]
end Go.VE.Un
namespace Go.VE.Un
open Go.VE
theorem ZhH{m:Zb}{x:Ins}{p q:Int}(h:Yo m x p=true)(hpq:p≤q):Yo m x q=true:=by
 unfold Yo at h⊢
 split
 ·rename_i c;rw[if_pos c]at h;exact h
 ·rename_i c;rw[if_neg c]at h
  split
  ·rename_i c;rw[if_pos c]at h;simp at h⊢;omega
  ·rename_i c;rw[if_neg c]at h;exact h
theorem ZdN{m:Zb}{x:Ins}{p q:Int}(h:Zj m x p=true)(hpq:p≤q):Zj m x q=true:=by
 unfold Zj at h⊢
 generalize (Zh Yg x.Op.n).getD 0=k at h⊢
 split at h<;>first|exact h|exact ZhH h hpq|(split<;>simp_all)
theorem Zgf{m:Zb}{p q n i:Int}{x:Ins}(h:V1 m p n i x=0)(hpq:p≤q):V1 m q n i x=0:=by
 unfold V1 at h⊢
 cases hr:Zj m x p
 ·rw[hr]at h;simp at h
 ·rw[ZdN hr hpq]
  rw[hr]at h
  simpa using h
theorem Kx{m:Zb}{p q n:Int}(hpq:p≤q): ∀(l:List Ins) (i:Int),Y3 m p n l i=0→Y3 m q n l i=0
 |[],_,_=>rfl
 |x::l,i,h=>by
  simp only[Y3]at h⊢
  split at h
  ·rename_i c;rw[if_pos (Zgf c hpq)];exact Kx hpq l _ h
  ·rename_i c;exact absurd h c
theorem ZaE{m:Zb}{l:List Ins}{p q:Int}(h:YO m l p=0)(hpq:p≤q):YO m l q=0:=by
 unfold YO at h⊢
 cases ha:QS l with
 |some r=>rw[ha]at h;exact h
 |none=>rw[ha]at h;exact Kx hpq l 0 h
theorem ZbF{m:Zb}{l:List Ins}{p:Int}(h:YO m l p=0):l.length≤64:=by
 unfold YO at h
 cases ha:QS l with
 |some r=>obtain⟨i,e⟩:=r;rw[ha]at h;exact absurd h (J9 ha)
 |none=>exact(QI ha).1
theorem ZeQ{m:Zb}(h:Yb m=none){i:Int}{a:Action}(hg:Zh m.Actions.l i=some a):YO m a.Code.l 8=0:=by
 have hc:=ZeZ h hg
 have hp:=WT h 5 (by omega) (by omega)
 have hp:(Yu m.Actions.l.length 32 (Y6 m)).2=0:=by simpa[Zn]using hp
 have hi:=Zco hg
 have ha:=(Zat hp).2 i hi.1 hi.2
 simp only[Y6,hg]at ha
 split at ha
 ·rename_i h0
  have:=(Qy h0).2
  have:=Jp (by omega) this
  simp at this
  exact ZaE hc this
 ·rename_i hx;exact absurd ha hx
structure JL (m:Zb) (n i:Int) (x:Zs):Prop where
 k0:0≤x.Kind.n
 k3:x.Kind.n≤3
 nm:YR m x=true
 yes:i+1≤x.Yes.n∧x.Yes.n≤n
 no:x.Kind.n≠2→i+1≤x.No.n∧x.No.n≤n
 code:x.Kind.n=1→YO m x.Code.l 0=0
theorem Zj8{m:Zb}{x:Zs}{i n:Int}(h:X5 m x i n=0):JL m n i x:=by
 unfold X5 at h
 split at h
 ·rename_i ha
  split at h
  ·rename_i hb
   obtain⟨h1,h2⟩:=Qy h
   obtain⟨a1,a2⟩:=Qy ha
   have a1:=Jp (by omega) a1
   have a2:=Jp (by omega) a2
   have h2:=Jp (by omega) h2
   simp at a1 h2
   refine⟨a1.1,a1.2,a2,h2,fun hk=> ?_,fun hk=> ?_⟩
   ·unfold Qm at h1
    rw[if_neg hk]at h1
    have:=Jp (by omega) (Qy h1).2
    simpa using this
   ·unfold UB at hb;rw[if_pos hk]at hb;exact hb
  ·rename_i hx;exact absurd h hx
 ·rename_i hx;exact absurd h hx
theorem Je{m:Zb}{l:List Zs}(h:(X0 m l).2=0):l.length≤32∧∀i x,Zh l i=some x→JL m l.length i x:=by
 obtain⟨h1,h2⟩:=Zat h
 refine⟨by omega,fun i x hg=> ?_⟩
 have hi:=Zco hg
 have:=h2 i hi.1 hi.2
 simp only[hg]at this
 exact Zj8 this
theorem Zbg{m:Zb}(h:Yb m=none):(X0 m m.Ingress.l).2=0:=by
 have:=WT h 7 (by omega) (by omega);simpa[Zn]using this
theorem ZeH{m:Zb}(h:Yb m=none):(X0 m m.Egress.l).2=0:=by
 have:=WT h 8 (by omega) (by omega);simpa[Zn]using this
theorem Ji{m:Zb}(h:Yb m=none){i:Int}{t:ZD}(hg:Zh m.Tables.l i=some t):t.Actions.l.length≤8∧∀a∈t.Actions.l,∃act,Zh m.Actions.l a.n=some act:=by
 have hp:=WT h 6 (by omega) (by omega)
 have hp:(Yu m.Tables.l.length 8 (WB m)).2=0:=by simpa[Zn]using hp
 have hi:=Zco hg
 have ht:=(Zat hp).2 i hi.1 hi.2
 simp only[WB,hg,ZjW]at ht
 split at ht
 ·rename_i h0
  have hc:Uh m t.Actions.l=0:=UW h0 _ (by simp)
  unfold Uh at hc
  split at hc
  ·simp at hc
  ·split at hc
   ·rename_i c1 c2
    refine⟨by omega,fun a ha=> ?_⟩
    have:=Zaz m t.Actions.l _ _ c2 a ha
    rcases Zm m.Actions.l a.n with⟨x,_,_,hx⟩|⟨h1,_⟩
    ·exact⟨x,hx⟩
    ·omega
   ·rename_i c2;exact absurd hc c2
 ·rename_i hx;exact absurd ht hx
def Xi(m:Zb)(l:List Ins)(s:Sl):Sl ×Int ×Int:=
 if Yb m=none∧YO m l 8=0 then(match YI m l.length l 0 (Yy l.length s)with
  |(some (j,e),_)=>(0,j,e)
  |(none,P)=>((P.getD l.length (false,0)).2,0,0))else(0,0,1)
theorem Zfj(m:Zb)(hm:Clo m)(hsm:Z2 m)(l:GL Ins)(s:Sl):Zc vp 461 [m.v,GL.v 6 Ins.v l,sV s]=some (.tup [sV (Xi m l.l s).1,.int .i64 (Xi m l.l s).2.1,.int .i64 (Xi m l.l s).2.2]):=by
 rw[ZoF m hm hsm (fun h=>(Zsj h).1) l s]
 unfold ZmQ Xi
 split
 ·generalize YI m l.l.length l.l 0 (Yy l.l.length s)=q
  obtain⟨o,P⟩:=q
  cases o with
  |some je=>obtain⟨j,e⟩:=je;rfl
  |none=>rfl
 ·rfl
theorem JY{m:Zb}(h:Yb m=none){l:List Ins}(hc:YO m l 8=0)(s:Sl):((Xi m l s).2.2=0∧(Xi m l s).2.1=0)∨((Xi m l s).2.2=11∧(Xi m l s).1=0#64):=by
 unfold Xi
 rw[if_pos ⟨h,hc⟩]
 have he:=fun {j e}=>V6 m l.length l 0 (Yy l.length s) (j:=j) (e:=e)
 generalize YI m l.length l 0 (Yy l.length s)=q at he
 obtain⟨o,P⟩:=q
 cases o with
 |some je=>obtain⟨j,e⟩:=je;exact .inr ⟨he rfl,rfl⟩
 |none=>exact .inl ⟨rfl,rfl⟩
def wkV(m:Zb)(p:Int)(nd w:V):V:=.agg (m.cs++[.int .i64 p,nd,w])
section
variable (m : Zb) (p : Int) (nd w : V)
@[simp] theorem ZDn:ldc (wkV m p nd w) true 18 0=some m.v:=rfl
@[simp] theorem ZDj:ldc (wkV m p nd w) false 1 5=some (GL.v 3 Action.v m.Actions):=rfl
@[simp] theorem ZDm:ldc (wkV m p nd w) false 1 6=some (GL.v 7 ZD.v m.Tables):=rfl
@[simp] theorem ZCX:ldc (wkV m p nd w) false 1 18=some (.int .i64 p):=rfl
@[simp] theorem ZC0:ldc (wkV m p nd w) false 1 19=some nd:=rfl
@[simp] theorem ZCR:ldc (wkV m p nd w) false 1 20=some w:=rfl
@[simp] theorem ZCZ:okV (wkV m p nd w)=true:=nr rfl
end
def wrV(p n a e:Int):V:=.agg [.int .i64 p,.int .i64 n,.int .i64 a,.int .i64 e]
@[simp] theorem ZrO(p n a e:Int):Ze (wrV p n a e)=true:=nr rfl
@[simp] theorem Zuj(k:Nat)(p n a e:Int):Zk k (wrV p n a e)=true:=nr rfl
theorem Ze6(m:Zb)(hm:Clo m)(hsm:Z2 m)(p:Int)(nd w:V)(a:Int)(act:Action)(hg:Zh m.Actions.l a=some act)(s:Sl):
 Zc vp 170 [.eptr (wkV m p nd w) 0 .brw,.int .i64 a,sV s]=some (if(Xi m act.Code.l s).2.2=0 then .tup [sV (Xi m act.Code.l s).1,.nilp]else .tup [.int .u64 0,.eptr (wrV 5 a (Xi m act.Code.l s).2.1 (Xi m act.Code.l s).2.2) 0 .perm]):=by
 have hc:=Zfj m hm hsm act.Code s
 generalize Xi m act.Code.l s=q at hc⊢
 obtain⟨o,j,e⟩:=q
 simp only at hc⊢
 rw[Za ZvE]
 by_cases he:e=0
 ·rw[if_pos he]
  simp -implicitDefEqProofs [f170,b170,Zf,hg,hc,he]
 ·rw[if_neg he]
  simp -implicitDefEqProofs [f170,b170,Zf,ZC,hg,hc,he,wrV]
def keyB(s:Sl)(k:Key):Bool:=decide (k.Kind.n=0)&& !KL s k.A.n
def KI(g:Key→Bool):List Key→Int→Int
 |[],_=> -1
 |k::r,i=>if g k=true then i else KI g r (i+1)
theorem ZsF(k:Key)(s:Sl):Zc vp 624 [k.v,.eptr (sV s) 0 .brw]=some (.bool (keyB s k)):=by
 rw[Za ZyS]
 unfold keyB
 by_cases c:k.Kind.n=0
 ·simp -implicitDefEqProofs [f624,b624,c]
 ·simp -implicitDefEqProofs [f624,b624,c]
theorem ZnI(f:Nat)(C:V)(g:Key→Bool)(hro:U3 vp f=true)(hcall: ∀(h:Zg) (args:List V) (kv:V→Zg→Option (Ex ×Fr ×Zg)),YU (orc vp) vp 0 h f args kv=roK vp h f args kv)(hC:Zk 0 C=true)(hg: ∀k:Key,Zc vp f [k.v,C]=some (.bool (g k)))(l:GL Key): ∀(r:List Key) (i:Int),0≤i→i≤l.l.length→l.l.drop i.toNat=r→∃fr,(orc vp).loop 0 [0,1,7,8] Zcw [(0,GL.v 3 Key.v l),(1,.func f [] [C]),(7,.int .i64 l.l.length),(8,.int .i64 i)] []=
 some (if KI g r i= -1 then .brk 0 else .ret,(if KI g r i= -1 then fr else[(4,.int .i64 (KI g r i))]),[]):=by
 have hle:=l.le
 intro r
 induction r with
 |nil=>
  intro i hi hi2 hd
  have:=Zq hi hd
  have e:i=l.l.length:=by omega
  subst e
  refine⟨[(0,GL.v 3 Key.v l),(1,.func f [] [C]),(7,.int .i64 l.l.length),(8,.int .i64 l.l.length),(9,.bool false)],?_⟩
  rw[K5]
  simp -implicitDefEqProofs [UR,KI]
 |cons k r ih=>
  intro i hi hi2 hd
  obtain⟨h1,h2,h3⟩:=Zp hi hd
  have w1:IntKind.i64.wrap (i+1)=i+1:=ZE (by omega) (by omega)
  obtain⟨fr,ih⟩:=ih (i+1) (by omega) (by omega) h3
  have hk:=hg k
  have hne: ¬i= -1:=by omega
  by_cases c:g k=true
  ·refine⟨[],?_⟩
   rw[K5]
   simp -implicitDefEqProofs [UR,h1,h2,hro,hcall,hC,hk,c,KI,hne]
  ·have e:KI g (k::r) i=KI g r (i+1):=by simp only[KI];rw[if_neg c]
   refine⟨fr,?_⟩
   rw[K5,e,←ih]
   simp -implicitDefEqProofs [UR,h1,h2,hro,hcall,hC,hk,c,w1]
theorem ZqG(f:Nat)(C:V)(g:Key→Bool)(hro:U3 vp f=true)(hcall: ∀(h:Zg) (args:List V) (kv:V→Zg→Option (Ex ×Fr ×Zg)),YU (orc vp) vp 0 h f args kv=roK vp h f args kv)(hC:Zk 0 C=true)(hg: ∀k:Key,Zc vp f [k.v,C]=some (.bool (g k)))(l:GL Key):
 Zc vp 1198 [GL.v 3 Key.v l,.func f [] [C]]=some (.int .i64 (KI g l.l 0)):=by
 obtain⟨fr,hl⟩:=ZnI f C g hro hcall hC hg l l.l 0 (by omega) (by omega) rfl
 rw[Za ZrU]
 by_cases c:KI g l.l 0= -1
 ·rw[if_pos c,if_pos c]at hl
  simp -implicitDefEqProofs [f1198,b1198,hl,c]
 ·rw[if_neg c,if_neg c]at hl
  simp -implicitDefEqProofs [f1198,b1198,hl]
def Za7(l:List Key)(s:Sl):Int:=KI (keyB s) l 0
theorem ZsU(l:GL Key)(s:Sl):Zc vp 623 [GL.v 3 Key.v l,sV s]=some (.int .i64 (Za7 l.l s)):=by
 have h:=ZqG 624 (.eptr (sV s) 0 .brw) (keyB s) (by simp) (fun h args kv=>by simp) rfl (fun k=>ZsF k s) l
 rw[Za Zvo]
 simp -implicitDefEqProofs [f623,b623,h,Za7]
def WG(m:Zb)(a:Int):Int:=match Zh m.Actions.l a with|some x=>x.Code.l.length|none=>0
def Zbc(m:Zb):List I64→Int→Int
 |[],n=>n
 |a::r,n=>Zbc m r (max n (WG m a.n))
def Qr(m:Zb)(x:Zs):Int:=
 if x.Kind.n=0 then 2+(match Zh m.Tables.l x.A.n with|some t=>Zbc m t.Actions.l 0|none=>0)else if x.Kind.n=2 then 1+WG m x.A.n else if x.Kind.n=1 then 1+x.Code.l.length else 1
theorem ZoC(m:Zb)(x:V)(l:GL I64)(hl: ∀a∈l.l,∃act,Zh m.Actions.l a.n=some act): ∀(r:List I64) (i n:Int),0≤i→i≤l.l.length→l.l.drop i.toNat=r→∃fr,(orc vp).loop 0 [2,5,18,19,20] Zge [(2,.ptr 0 1 0 0),(5,.int .i64 n),(18,GL.v 1 I64.v l),(19,.int .i64 l.l.length),(20,.int .i64 i)] [.arr [m.v],.arr [x]]=
 some (.brk 1,(2,.ptr 0 1 0 0)::(5,.int .i64 (Zbc m r n))::fr,[.arr [m.v],.arr [x]]):=by
 have hle:=l.le
 intro r
 induction r with
 |nil=>
  intro i n hi hi2 hd
  have:=Zq hi hd
  have e:i=l.l.length:=by omega
  subst e
  refine⟨[(18,GL.v 1 I64.v l),(19,.int .i64 l.l.length),(20,.int .i64 l.l.length),(21,.bool false)],?_⟩
  rw[Zit]
  simp -implicitDefEqProofs [J4,Zbc]
 |cons a r ih=>
  intro i n hi hi2 hd
  obtain⟨h1,h2,h3⟩:=Zp hi hd
  have w1:IntKind.i64.wrap (i+1)=i+1:=ZE (by omega) (by omega)
  have ha:a∈l.l:=by
   have:a∈l.l.drop i.toNat:=by rw[hd];simp
   exact List.mem_of_mem_drop this
  obtain⟨act,hact⟩:=hl a ha
  obtain⟨fr,ih⟩:=ih (i+1) (max n (WG m a.n)) (by omega) (by omega) h3
  have hcl:WG m a.n=act.Code.l.length:=by unfold WG;rw[hact]
  have hmx:Vr (fun a b=>if b>a then b else a) [.int .i64 n,.int .i64 act.Code.l.length]=some (.int .i64 (max n (WG m a.n))):=by rw[Jz,hcl];congr 2;omega
  refine⟨fr,?_⟩
  rw[Zit]
  simp -implicitDefEqProofs [J4,h1,h2,hact,hmx,w1,Zbc,ih]
theorem Jg{m:Zb}(h:Yb m=none)(a:Int):0≤WG m a∧WG m a≤64:=by
 unfold WG
 cases hg:Zh m.Actions.l a with
 |none=>simp
 |some x=>have:=ZbF (ZeQ h hg);simp;omega
theorem ZdP{m:Zb}(h:Yb m=none): ∀(l:List I64) (n:Int),0≤n→n≤64→0≤Zbc m l n∧Zbc m l n≤64
 |[],n,h0,h1=>⟨h0,h1⟩
 |a::r,n,h0,h1=>by
  have:=Jg h a.n
  simp only[Zbc]
  exact ZdP h r _ (by omega) (by omega)
theorem Zsf{m:Zb}{x:Zs}(h:YR m x=true)(hk:x.Kind.n=0): ∃t,Zh m.Tables.l x.A.n=some t:=by
 unfold YR at h;rw[if_pos hk]at h
 simp[inB]at h
 rcases Zm m.Tables.l x.A.n with⟨t,_,_,ht⟩|⟨h1,_⟩
 ·exact⟨t,ht⟩
 ·omega
theorem Zt4{m:Zb}{x:Zs}(h:YR m x=true)(hk:x.Kind.n=2): ∃a,Zh m.Actions.l x.A.n=some a:=by
 unfold YR at h;rw[if_neg (by omega),if_pos hk]at h
 simp[inB]at h
 rcases Zm m.Actions.l x.A.n with⟨t,_,_,ht⟩|⟨h1,_⟩
 ·exact⟨t,ht⟩
 ·omega
theorem Zpc(m:Zb)(hc:Yb m=none)(x:Zs)(hnm:YR m x=true):Zc vp 622 [m.v,x.v]=some (.int .i64 (Qr m x)):=by
 rw[Za Zv3]
 unfold Qr
 by_cases k0:x.Kind.n=0
 ·obtain⟨t,ht⟩:=Zsf hnm k0
  obtain⟨t1,t2⟩:=Ji hc ht
  obtain⟨fr,hl⟩:=ZoC m x.v t.Actions t2 t.Actions.l 0 0 (by omega) (by omega) rfl
  have hb:=ZdP hc t.Actions.l 0 (by omega) (by omega)
  have w1:IntKind.i64.wrap (2+Zbc m t.Actions.l 0)=2+Zbc m t.Actions.l 0:=ZE (by omega) (by omega)
  simp -implicitDefEqProofs [f622,b622,k0,ht,hl,w1]
 by_cases k2:x.Kind.n=2
 ·obtain⟨a,ha⟩:=Zt4 hnm k2
  have hb:=Jg hc x.A.n
  have hcl:WG m x.A.n=a.Code.l.length:=by unfold WG;rw[ha]
  rw[hcl]at hb⊢
  have w1:IntKind.i64.wrap (1+(a.Code.l.length:Int))=1+a.Code.l.length:=ZE (by omega) (by omega)
  simp -implicitDefEqProofs [f622,b622,k2,ha,w1]
 by_cases k1:x.Kind.n=1
 ·have hle:=x.Code.le
  have w1:IntKind.i64.wrap (1+(x.Code.l.length:Int))=1+x.Code.l.length:=ZE (by omega) (by omega)
  simp -implicitDefEqProofs [f622,b622,k1,w1]
 ·simp -implicitDefEqProofs [f622,b622,k0,k1,k2]
theorem Zo2{m:Zb}(h:Yb m=none){n i:Int}{x:Zs}(hg:JL m n i x):1≤Qr m x∧Qr m x≤66:=by
 unfold Qr
 split
 ·cases Zh m.Tables.l x.A.n with
  |none=>simp
  |some t=>have:=ZdP h t.Actions.l 0 (by omega) (by omega);simp only;omega
 ·split
  ·have:=Jg h x.A.n;omega
  ·split
   ·have:=ZbF (hg.code ‹_›);omega
   ·omega
end Go.VE.Un
