/- Joined texts: CfJ, CfK, CkQ, CkR, PtA. No condition: what each theorem needs stands in it. -/
import Derived.Test.YthpccfpbghhpoaaGreatCc15
import Derived.Test.YthpccfpbghhpoaaGreatCc10
namespace Go.VE.Un
open Go.VE
def Za9(p:Bool ×Sl):V:=.agg (.bool p.1::(ZjA p.2).map V.bool)
@[simp] theorem Zra(p:Bool ×Sl):Ze (Za9 p)=true:=by simp[Za9,JC]
@[simp] theorem ZsM(k:Nat)(p:Bool ×Sl):Zk k (Za9 p)=true:=by simp[Za9,KC]
@[simp] theorem ZAg(p:Bool ×Sl):okV (Za9 p)=true:=nr rfl
@[simp] theorem Zy2(p:Bool ×Sl):ldc (Za9 p) true 65 0=some (Za9 p):=QE (by simp)
@[simp] theorem ZvS(p:Bool ×Sl)(n:Nat):ldc (Za9 p) false n 0=some (.bool p.1):=rfl
@[simp] theorem Zww(p:Bool ×Sl):ldc (Za9 p) true 64 1=some (ZaU p.2):=by
  unfold Za9
  rw[ZqL _ _ _ (by simp)]
  simp only[List.drop_succ_cons,List.drop_zero]
  rw[List.take_of_length_le (by simp)];rfl
section
variable (m : Zb) (l : GL Ins) (n : Nat) (e1 e2 : List V)
end
theorem ZH1(m:Zb)(x:Ins)(s:Sl)(h:(YY m x s).2.2≠0):(YY m x s).2.2=11:=by
 unfold YY at h⊢
 repeat' split at h
 all_goals simp_all
end Go.VE.Un
namespace Go.VE.Un
open Go.VE
theorem ZHN(m:Zb)(n:Nat): ∀(r:List Ins) (i:Nat) (P:List (Bool ×Sl)) {j:Nat} {e:Int},(Ys m n r i P).1=some (j,e)→e=11
 |[],_,_,_,_,h=>by simp[Ys]at h
 |x::r,i,P,j,e,h=>by
  simp only[Ys]at h
  split at h
  ·exact ZHN m n r _ _ h
  ·split at h
   ·rename_i c;simp at h;rw[←h.2];exact ZH1 m x _ c
   ·split at h
    ·exact ZHN m n r _ _ h
    ·exact ZHN m n r _ _ h
end Go.VE.Un
namespace Go.VE.Un
open Go.VE
theorem Zc0{α:Type}{l:List α}{i:Int}{a:α}(h:Zh l i=some a):0≤i∧i<l.length:=by
 rcases Zm l i with⟨_,h0,h1,_⟩|⟨_,h1⟩
 ·exact⟨h0,h1⟩
 ·rw[h1]at h;simp at h
end Go.VE.Un
namespace Go.VE.Un
open Go.VE
theorem JP{b:Bool}{e:Int}(he:e≠0)(h:Zl b e=0):b=true:=by
 unfold Zl at h;split at h
 ·assumption
 ·exact absurd h he
theorem ZgZ{m:Zb}(hm:Clo m):Ze (GL.v 6 Zs.v m.Ingress)=true:=by
 simp only[Clo,Zb.closed,Bool.and_eq_true]at hm;simp[hm]
end Go.VE.Un
namespace Go.VE.Un
open Go.VE
theorem Zhu{m:Zb}{x:Ins}{p q:Int}(h:Yo m x p=true)(hpq:p≤q):Yo m x q=true:=by
 unfold Yo at h⊢
 split
 ·rename_i c;rw[if_pos c]at h;exact h
 ·rename_i c;rw[if_neg c]at h
  split
  ·rename_i c;rw[if_pos c]at h;simp at h⊢;omega
  ·rename_i c;rw[if_neg c]at h;exact h
theorem Zcx{m:Zb}{x:Ins}{p q:Int}(h:Zj m x p=true)(hpq:p≤q):Zj m x q=true:=by
 unfold Zj at h⊢
 generalize (Zh Yf x.Op.n).getD 0=k at h⊢
 split at h<;>first|exact h|exact Zhu h hpq|(split<;>simp_all)
theorem Zf6{m:Zb}{p q n i:Int}{x:Ins}(h:V0 m p n i x=0)(hpq:p≤q):V0 m q n i x=0:=by
 unfold V0 at h⊢
 cases hr:Zj m x p
 ·rw[hr]at h;simp at h
 ·rw[Zcx hr hpq]
  rw[hr]at h
  simpa using h
theorem Kn{m:Zb}{p q n:Int}(hpq:p≤q): ∀(l:List Ins) (i:Int),Y6 m p n l i=0→Y6 m q n l i=0
 |[],_,_=>rfl
 |x::l,i,h=>by
  simp only[Y6]at h⊢
  split at h
  ·rename_i c;rw[if_pos (Zf6 c hpq)];exact Kn hpq l _ h
  ·rename_i c;exact absurd h c
theorem ZfN{m:Zb}{l:List Ins}{p q:Int}(h:Y3 m l p=0)(hpq:p≤q):Y3 m l q=0:=by
 unfold Y3 at h⊢
 cases ha:QS l with
 |some r=>rw[ha]at h;exact h
 |none=>rw[ha]at h;exact Kn hpq l 0 h
theorem ZbK{m:Zb}{l:List Ins}{p:Int}(h:Y3 m l p=0):l.length≤64:=by
 unfold Y3 at h
 cases ha:QS l with
 |some r=>obtain⟨i,e⟩:=r;rw[ha]at h;exact absurd h (J9 ha)
 |none=>exact(Qz ha).1
theorem Znw{m:Zb}(h:Yr m=none){i:Int}{a:Action}(hg:Zh m.Actions.l i=some a):Y3 m a.Code.l 8=0:=by
 have hc:=ZfD h hg
 have hp:=W2 h 5 (by omega) (by omega)
 have hp:(Yw m.Actions.l.length 32 (Xa m)).2=0:=by simpa[Zn]using hp
 have hi:=Zc0 hg
 have ha:=(ZaH hp).2 i hi.1 hi.2
 simp only[Xa,hg]at ha
 split at ha
 ·rename_i h0
  have:=(Qb h0).2
  have:=JP (by omega) this
  simp at this
  exact ZfN hc this
 ·rename_i hx;exact absurd ha hx
structure JD (m:Zb) (n i:Int) (x:Zs):Prop where
 k0:0≤x.Kind.n
 k3:x.Kind.n≤3
 nm:YZ m x=true
 yes:i+1≤x.Yes.n∧x.Yes.n≤n
 no:x.Kind.n≠2→i+1≤x.No.n∧x.No.n≤n
 code:x.Kind.n=1→Y3 m x.Code.l 0=0
theorem Zkh{m:Zb}{x:Zs}{i n:Int}(h:Wb m x i n=0):JD m n i x:=by
 unfold Wb at h
 split at h
 ·rename_i ha
  split at h
  ·rename_i hb
   obtain⟨h1,h2⟩:=Qb h
   obtain⟨a1,a2⟩:=Qb ha
   have a1:=JP (by omega) a1
   have a2:=JP (by omega) a2
   have h2:=JP (by omega) h2
   simp at a1 h2
   refine⟨a1.1,a1.2,a2,h2,fun hk=> ?_,fun hk=> ?_⟩
   ·unfold Qa at h1
    rw[if_neg hk]at h1
    have:=JP (by omega) (Qb h1).2
    simpa using this
   ·unfold UV at hb;rw[if_pos hk]at hb;exact hb
  ·rename_i hx;exact absurd h hx
 ·rename_i hx;exact absurd h hx
theorem ZaQ{m:Zb}{l:List Zs}(h:(Wj m l).2=0):l.length≤32∧∀i x,Zh l i=some x→JD m l.length i x:=by
 obtain⟨h1,h2⟩:=ZaH h
 refine⟨by omega,fun i x hg=> ?_⟩
 have hi:=Zc0 hg
 have:=h2 i hi.1 hi.2
 simp only[hg]at this
 exact Zkh this
theorem Zld{m:Zb}(h:Yr m=none):(Wj m m.Ingress.l).2=0:=by
 have:=W2 h 7 (by omega) (by omega);simpa[Zn]using this
theorem ZlT{m:Zb}(h:Yr m=none):(Wj m m.Egress.l).2=0:=by
 have:=W2 h 8 (by omega) (by omega);simpa[Zn]using this
theorem Za3{m:Zb}(h:Yr m=none){i:Int}{t:ZD}(hg:Zh m.Tables.l i=some t):t.Actions.l.length≤8∧∀a∈t.Actions.l,∃act,Zh m.Actions.l a.n=some act:=by
 have hp:=W2 h 6 (by omega) (by omega)
 have hp:(Yw m.Tables.l.length 8 (WE m)).2=0:=by simpa[Zn]using hp
 have hi:=Zc0 hg
 have ht:=(ZaH hp).2 i hi.1 hi.2
 simp only[WE,hg,ZjM]at ht
 split at ht
 ·rename_i h0
  have hc:Ug m t.Actions.l=0:=UF h0 _ (by simp)
  unfold Ug at hc
  split at hc
  ·simp at hc
  ·split at hc
   ·rename_i c1 c2
    refine⟨by omega,fun a ha=> ?_⟩
    have:=Zan m t.Actions.l _ _ c2 a ha
    rcases Zm m.Actions.l a.n with⟨x,_,_,hx⟩|⟨h1,_⟩
    ·exact⟨x,hx⟩
    ·omega
   ·rename_i c2;exact absurd hc c2
 ·rename_i hx;exact absurd ht hx
def Y1(m:Zb)(l:List Ins)(s:Sl):Sl ×Int ×Int:=
 if Yr m=none∧Y3 m l 8=0 then(match Ys m l.length l 0 (Yk l.length s)with
  |(some (j,e),_)=>(0,j,e)
  |(none,P)=>((P.getD l.length (false,0)).2,0,0))else(0,0,1)
theorem Zfo(m:Zb)(hm:Clo m)(hsm:Z2 m)(l:GL Ins)(s:Sl):Zc vp 461 [m.v,GL.v 6 Ins.v l,sV s]=some (.tup [sV (Y1 m l.l s).1,.int .i64 (Y1 m l.l s).2.1,.int .i64 (Y1 m l.l s).2.2]):=by
 rw[Zoo m hm hsm (fun h=>(ZtQ h).1) l s]
 unfold Znq Y1
 split
 ·generalize Ys m l.l.length l.l 0 (Yk l.l.length s)=q
  obtain⟨o,P⟩:=q
  cases o with
  |some je=>obtain⟨j,e⟩:=je;rfl
  |none=>rfl
 ·rfl
theorem ZH3{m:Zb}(h:Yr m=none){l:List Ins}(hc:Y3 m l 8=0)(s:Sl):((Y1 m l s).2.2=0∧(Y1 m l s).2.1=0)∨((Y1 m l s).2.2=11∧(Y1 m l s).1=0#64):=by
 unfold Y1
 rw[if_pos ⟨h,hc⟩]
 have he:=fun {j e}=>ZHN m l.length l 0 (Yk l.length s) (j:=j) (e:=e)
 generalize Ys m l.length l 0 (Yk l.length s)=q at he
 obtain⟨o,P⟩:=q
 cases o with
 |some je=>obtain⟨j,e⟩:=je;exact .inr ⟨he rfl,rfl⟩
 |none=>exact .inl ⟨rfl,rfl⟩
theorem Ja{m:Zb}{l:List Ins}{s t:Sl}(h:Xv s t)(e:(Y1 m l s).2.2=0):(Y1 m l t).2.2=0∧Xv (Y1 m l s).1 (Y1 m l t).1:=by
 unfold Y1 at e⊢
 by_cases c:Yr m=none∧Y3 m l 8=0
 ·simp only[if_pos c]at e⊢
  have hmono:=UA m l.length l 0 _ _ (ZbT l.length h)
  have herr:=fun {j e}=>QB m l.length l 0 (Yk l.length s) (j:=j) (e:=e)
  generalize Ys m l.length l 0 (Yk l.length s)=q at e hmono herr⊢
  generalize Ys m l.length l 0 (Yk l.length t)=q2 at hmono⊢
  obtain⟨o,P⟩:=q
  obtain⟨o2,P2⟩:=q2
  cases o with
  |some je=>obtain⟨j,er⟩:=je;exact absurd e (herr rfl)
  |none=>
   obtain⟨h1,h2⟩:=hmono rfl
   simp only at h1;subst h1
   exact⟨rfl,(h2.2 l.length).2⟩
 ·rw[if_neg c]at e;simp at e
def wkV(m:Zb)(p:Int)(nd w:V):V:=.agg (m.cs++[.int .i64 p,nd,w])
section
variable (m : Zb) (p : Int) (nd w : V)
@[simp] theorem ZDp:ldc (wkV m p nd w) true 18 0=some m.v:=rfl
@[simp] theorem ZDs:ldc (wkV m p nd w) false 1 5=some (GL.v 3 Action.v m.Actions):=rfl
@[simp] theorem ZDv:ldc (wkV m p nd w) false 1 6=some (GL.v 7 ZD.v m.Tables):=rfl
@[simp] theorem ZDf:ldc (wkV m p nd w) false 1 18=some (.int .i64 p):=rfl
@[simp] theorem ZDb:ldc (wkV m p nd w) false 1 19=some nd:=rfl
@[simp] theorem ZC5:ldc (wkV m p nd w) false 1 20=some w:=rfl
@[simp] theorem ZDl:okV (wkV m p nd w)=true:=nr rfl
end
def wrV(p n a e:Int):V:=.agg [.int .i64 p,.int .i64 n,.int .i64 a,.int .i64 e]
@[simp] theorem Zs5(p n a e:Int):Ze (wrV p n a e)=true:=nr rfl
@[simp] theorem Zug(k:Nat)(p n a e:Int):Zk k (wrV p n a e)=true:=nr rfl
theorem Zek(m:Zb)(hm:Clo m)(hsm:Z2 m)(p:Int)(nd w:V)(a:Int)(act:Action)(hg:Zh m.Actions.l a=some act)(s:Sl):
 Zc vp 170 [.eptr (wkV m p nd w) 0 .brw,.int .i64 a,sV s]=some (if(Y1 m act.Code.l s).2.2=0 then .tup [sV (Y1 m act.Code.l s).1,.nilp]else .tup [.int .u64 0,.eptr (wrV 5 a (Y1 m act.Code.l s).2.1 (Y1 m act.Code.l s).2.2) 0 .perm]):=by
 have hc:=Zfo m hm hsm act.Code s
 generalize Y1 m act.Code.l s=q at hc⊢
 obtain⟨o,j,e⟩:=q
 simp only at hc⊢
 rw[Za Zwz]
 by_cases he:e=0
 ·rw[if_pos he]
  simp -implicitDefEqProofs [f170,b170,Zf,hg,hc,he]
 ·rw[if_neg he]
  simp -implicitDefEqProofs [f170,b170,Zf,ZC,hg,hc,he,wrV]
def keyB(s:Sl)(k:Key):Bool:=decide (k.Kind.n=0)&& !JW s k.A.n
def Jh(g:Key→Bool):List Key→Int→Int
 |[],_=> -1
 |k::r,i=>if g k=true then i else Jh g r (i+1)
theorem Zr6(k:Key)(s:Sl):Zc vp 624 [k.v,.eptr (sV s) 0 .brw]=some (.bool (keyB s k)):=by
 rw[Za Zy4]
 unfold keyB
 by_cases c:k.Kind.n=0
 ·simp -implicitDefEqProofs [f624,b624,c]
 ·simp -implicitDefEqProofs [f624,b624,c]
theorem Znl(f:Nat)(C:V)(g:Key→Bool)(hro:U1 vp f=true)(hcall: ∀(h:Zg) (args:List V) (kv:V→Zg→Option (Ex ×Fr ×Zg)),YU (orc vp) vp 0 h f args kv=roK vp h f args kv)(hC:Zk 0 C=true)(hg: ∀k:Key,Zc vp f [k.v,C]=some (.bool (g k)))(l:GL Key): ∀(r:List Key) (i:Int),0≤i→i≤l.l.length→l.l.drop i.toNat=r→∃fr,(orc vp).loop 0 [0,1,7,8] Zc5 [(0,GL.v 3 Key.v l),(1,.func f [] [C]),(7,.int .i64 l.l.length),(8,.int .i64 i)] []=
 some (if Jh g r i= -1 then .brk 0 else .ret,(if Jh g r i= -1 then fr else[(4,.int .i64 (Jh g r i))]),[]):=by
 have hle:=l.le
 intro r
 induction r with
 |nil=>
  intro i hi hi2 hd
  have:=Zq hi hd
  have e:i=l.l.length:=by omega
  subst e
  refine⟨[(0,GL.v 3 Key.v l),(1,.func f [] [C]),(7,.int .i64 l.l.length),(8,.int .i64 l.l.length),(9,.bool false)],?_⟩
  rw[Zas]
  simp -implicitDefEqProofs [UQ,Jh]
 |cons k r ih=>
  intro i hi hi2 hd
  obtain⟨h1,h2,h3⟩:=Zp hi hd
  have w1:IntKind.i64.wrap (i+1)=i+1:=ZK (by omega) (by omega)
  obtain⟨fr,ih⟩:=ih (i+1) (by omega) (by omega) h3
  have hk:=hg k
  have hne: ¬i= -1:=by omega
  by_cases c:g k=true
  ·refine⟨[],?_⟩
   rw[Zas]
   simp -implicitDefEqProofs [UQ,h1,h2,hro,hcall,hC,hk,c,Jh,hne]
  ·have e:Jh g (k::r) i=Jh g r (i+1):=by simp only[Jh];rw[if_neg c]
   refine⟨fr,?_⟩
   rw[Zas,e,←ih]
   simp -implicitDefEqProofs [UQ,h1,h2,hro,hcall,hC,hk,c,w1]
theorem Zoy(f:Nat)(C:V)(g:Key→Bool)(hro:U1 vp f=true)(hcall: ∀(h:Zg) (args:List V) (kv:V→Zg→Option (Ex ×Fr ×Zg)),YU (orc vp) vp 0 h f args kv=roK vp h f args kv)(hC:Zk 0 C=true)(hg: ∀k:Key,Zc vp f [k.v,C]=some (.bool (g k)))(l:GL Key):
 Zc vp 1198 [GL.v 3 Key.v l,.func f [] [C]]=some (.int .i64 (Jh g l.l 0)):=by
 obtain⟨fr,hl⟩:=Znl f C g hro hcall hC hg l l.l 0 (by omega) (by omega) rfl
 rw[Za Zr5]
 by_cases c:Jh g l.l 0= -1
 ·rw[if_pos c,if_pos c]at hl
  simp -implicitDefEqProofs [f1198,b1198,hl,c]
 ·rw[if_neg c,if_neg c]at hl
  simp -implicitDefEqProofs [f1198,b1198,hl]
def JO(l:List Key)(s:Sl):Int:=Jh (keyB s) l 0
theorem ZrW(l:GL Key)(s:Sl):Zc vp 623 [GL.v 3 Key.v l,sV s]=some (.int .i64 (JO l.l s)):=by
 have h:=Zoy 624 (.eptr (sV s) 0 .brw) (keyB s) (by simp) (fun h args kv=>by simp) rfl (fun k=>Zr6 k s) l
 rw[Za Zzu]
 simp -implicitDefEqProofs [f623,b623,h,JO]
def WI(m:Zb)(a:Int):Int:=match Zh m.Actions.l a with|some x=>x.Code.l.length|none=>0
def Zbf(m:Zb):List I64→Int→Int
 |[],n=>n
 |a::r,n=>Zbf m r (max n (WI m a.n))
def Qk(m:Zb)(x:Zs):Int:=
 if x.Kind.n=0 then 2+(match Zh m.Tables.l x.A.n with|some t=>Zbf m t.Actions.l 0|none=>0)else if x.Kind.n=2 then 1+WI m x.A.n else if x.Kind.n=1 then 1+x.Code.l.length else 1
theorem ZoH(m:Zb)(x:V)(l:GL I64)(hl: ∀a∈l.l,∃act,Zh m.Actions.l a.n=some act): ∀(r:List I64) (i n:Int),0≤i→i≤l.l.length→l.l.drop i.toNat=r→∃fr,(orc vp).loop 0 [2,5,18,19,20] ZhN [(2,.ptr 0 1 0 0),(5,.int .i64 n),(18,GL.v 1 I64.v l),(19,.int .i64 l.l.length),(20,.int .i64 i)] [.arr [m.v],.arr [x]]=
 some (.brk 1,(2,.ptr 0 1 0 0)::(5,.int .i64 (Zbf m r n))::fr,[.arr [m.v],.arr [x]]):=by
 have hle:=l.le
 intro r
 induction r with
 |nil=>
  intro i n hi hi2 hd
  have:=Zq hi hd
  have e:i=l.l.length:=by omega
  subst e
  refine⟨[(18,GL.v 1 I64.v l),(19,.int .i64 l.l.length),(20,.int .i64 l.l.length),(21,.bool false)],?_⟩
  rw[ZiU]
  simp -implicitDefEqProofs [Ka,Zbf]
 |cons a r ih=>
  intro i n hi hi2 hd
  obtain⟨h1,h2,h3⟩:=Zp hi hd
  have w1:IntKind.i64.wrap (i+1)=i+1:=ZK (by omega) (by omega)
  have ha:a∈l.l:=by
   have:a∈l.l.drop i.toNat:=by rw[hd];simp
   exact List.mem_of_mem_drop this
  obtain⟨act,hact⟩:=hl a ha
  obtain⟨fr,ih⟩:=ih (i+1) (max n (WI m a.n)) (by omega) (by omega) h3
  have hcl:WI m a.n=act.Code.l.length:=by unfold WI;rw[hact]
  have hmx:Vq (fun a b=>if b>a then b else a) [.int .i64 n,.int .i64 act.Code.l.length]=some (.int .i64 (max n (WI m a.n))):=by rw[JG,hcl];congr 2;omega
  refine⟨fr,?_⟩
  rw[ZiU]
  simp -implicitDefEqProofs [Ka,h1,h2,hact,hmx,w1,Zbf,ih]
theorem Q9{m:Zb}(h:Yr m=none)(a:Int):0≤WI m a∧WI m a≤64:=by
 unfold WI
 cases hg:Zh m.Actions.l a with
 |none=>simp
 |some x=>have:=ZbK (Znw h hg);simp;omega
theorem ZdV{m:Zb}(h:Yr m=none): ∀(l:List I64) (n:Int),0≤n→n≤64→0≤Zbf m l n∧Zbf m l n≤64
 |[],n,h0,h1=>⟨h0,h1⟩
 |a::r,n,h0,h1=>by
  have:=Q9 h a.n
  simp only[Zbf]
  exact ZdV h r _ (by omega) (by omega)
theorem Zzn{m:Zb}{x:Zs}(h:YZ m x=true)(hk:x.Kind.n=0): ∃t,Zh m.Tables.l x.A.n=some t:=by
 unfold YZ at h;rw[if_pos hk]at h
 simp[inB]at h
 rcases Zm m.Tables.l x.A.n with⟨t,_,_,ht⟩|⟨h1,_⟩
 ·exact⟨t,ht⟩
 ·omega
theorem ZyL{m:Zb}{x:Zs}(h:YZ m x=true)(hk:x.Kind.n=2): ∃a,Zh m.Actions.l x.A.n=some a:=by
 unfold YZ at h;rw[if_neg (by omega),if_pos hk]at h
 simp[inB]at h
 rcases Zm m.Actions.l x.A.n with⟨t,_,_,ht⟩|⟨h1,_⟩
 ·exact⟨t,ht⟩
 ·omega
theorem Zod(m:Zb)(hc:Yr m=none)(x:Zs)(hnm:YZ m x=true):Zc vp 622 [m.v,x.v]=some (.int .i64 (Qk m x)):=by
 rw[Za Zx0]
 unfold Qk
 by_cases k0:x.Kind.n=0
 ·obtain⟨t,ht⟩:=Zzn hnm k0
  obtain⟨t1,t2⟩:=Za3 hc ht
  obtain⟨fr,hl⟩:=ZoH m x.v t.Actions t2 t.Actions.l 0 0 (by omega) (by omega) rfl
  have hb:=ZdV hc t.Actions.l 0 (by omega) (by omega)
  have w1:IntKind.i64.wrap (2+Zbf m t.Actions.l 0)=2+Zbf m t.Actions.l 0:=ZK (by omega) (by omega)
  simp -implicitDefEqProofs [f622,b622,k0,ht,hl,w1]
 by_cases k2:x.Kind.n=2
 ·obtain⟨a,ha⟩:=ZyL hnm k2
  have hb:=Q9 hc x.A.n
  have hcl:WI m x.A.n=a.Code.l.length:=by unfold WI;rw[ha]
  rw[hcl]at hb⊢
  have w1:IntKind.i64.wrap (1+(a.Code.l.length:Int))=1+a.Code.l.length:=ZK (by omega) (by omega)
  simp -implicitDefEqProofs [f622,b622,k2,ha,w1]
 by_cases k1:x.Kind.n=1
 ·have hle:=x.Code.le
  have w1:IntKind.i64.wrap (1+(x.Code.l.length:Int))=1+x.Code.l.length:=ZK (by omega) (by omega)
  simp -implicitDefEqProofs [f622,b622,k1,w1]
 ·simp -implicitDefEqProofs [f622,b622,k0,k1,k2]
theorem Zox{m:Zb}(h:Yr m=none){n i:Int}{x:Zs}(hg:JD m n i x):1≤Qk m x∧Qk m x≤66:=by
 unfold Qk
 split
 ·cases Zh m.Tables.l x.A.n with
  |none=>simp
  |some t=>have:=ZdV h t.Actions.l 0 (by omega) (by omega);simp only;omega
 ·split
  ·have:=Q9 h x.A.n;omega
  ·split
   ·have:=ZbK (hg.code ‹_›);omega
   ·omega
end Go.VE.Un
