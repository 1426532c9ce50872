/- Joined texts: CkR, PtA, PtB, PtC, PtD. No condition: what each theorem needs stands in it. -/
import Derived.Test.YthpccfpbghhpoaaGreatCc16
namespace Go.VE.Un
open Go.VE
theorem ZD2{α:Type}{f:α→Int}: ∀{l:List α},Zx f l=0→∀x∈l,f x=0
 |[],_,x,hx=>by simp at hx
 |a::r,h,x,hx=>by
  simp only[Zx]at h;split at h
  ·rename_i h1;rcases List.mem_cons.1 hx with rfl|hx
   ·exact h1
   ·exact ZD2 h x hx
  ·rename_i h1;exact absurd h h1
theorem JP{b:Bool}{e:Int}(he:e≠0)(h:Zl b e=0):b=true:=by
 unfold Zl at h;split at h
 ·assumption
 ·exact absurd h he
theorem ZgZ{m:Zb}(hm:Clo m):Ze (GL.v 6 Zs.v m.Ingress)=true:=by
 simp only[Clo,Zb.closed,Bool.and_eq_true]at hm;simp[hm]
end Go.VE.Un
namespace Go.VE.Un
open Go.VE
theorem Zhu{m:Zb}{x:Ins}{p q:Int}(h:Yo m x p=true)(hpq:p≤q):Yo m x q=true:=by
 unfold Yo at h⊢
 split
 ·rename_i c;rw[if_pos c]at h;exact h
 ·rename_i c;rw[if_neg c]at h
  split
  ·rename_i c;rw[if_pos c]at h;simp at h⊢;omega
  ·rename_i c;rw[if_neg c]at h;exact h
theorem Zcx{m:Zb}{x:Ins}{p q:Int}(h:Zj m x p=true)(hpq:p≤q):Zj m x q=true:=by
 unfold Zj at h⊢
 generalize (Zh Yf x.Op.n).getD 0=k at h⊢
 split at h<;>first|exact h|exact Zhu h hpq|(split<;>simp_all)
theorem Zf6{m:Zb}{p q n i:Int}{x:Ins}(h:V0 m p n i x=0)(hpq:p≤q):V0 m q n i x=0:=by
 unfold V0 at h⊢
 cases hr:Zj m x p
 ·rw[hr]at h;simp at h
 ·rw[Zcx hr hpq]
  rw[hr]at h
  simpa using h
theorem Kn{m:Zb}{p q n:Int}(hpq:p≤q): ∀(l:List Ins) (i:Int),Y6 m p n l i=0→Y6 m q n l i=0
 |[],_,_=>rfl
 |x::l,i,h=>by
  simp only[Y6]at h⊢
  split at h
  ·rename_i c;rw[if_pos (Zf6 c hpq)];exact Kn hpq l _ h
  ·rename_i c;exact absurd h c
theorem ZfN{m:Zb}{l:List Ins}{p q:Int}(h:Y3 m l p=0)(hpq:p≤q):Y3 m l q=0:=by
 unfold Y3 at h⊢
 cases ha:QS l with
 |some r=>rw[ha]at h;exact h
 |none=>rw[ha]at h;exact Kn hpq l 0 h
theorem ZbK{m:Zb}{l:List Ins}{p:Int}(h:Y3 m l p=0):l.length≤64:=by
 unfold Y3 at h
 cases ha:QS l with
 |some r=>obtain⟨i,e⟩:=r;rw[ha]at h;exact absurd h (J9 ha)
 |none=>exact(Qz ha).1
theorem Znw{m:Zb}(h:Yr m=none){i:Int}{a:Action}(hg:Zh m.Actions.l i=some a):Y3 m a.Code.l 8=0:=by
 have hc:=ZfD h hg
 have hp:=W2 h 5 (by omega) (by omega)
 have hp:(Yw m.Actions.l.length 32 (Xa m)).2=0:=by simpa[Zn]using hp
 have hi:=Zc0 hg
 have ha:=(ZaH hp).2 i hi.1 hi.2
 simp only[Xa,hg]at ha
 split at ha
 ·rename_i h0
  have:=(Qb h0).2
  have:=JP (by omega) this
  simp at this
  exact ZfN hc this
 ·rename_i hx;exact absurd ha hx
structure JD (m:Zb) (n i:Int) (x:Zs):Prop where
 k0:0≤x.Kind.n
 k3:x.Kind.n≤3
 nm:YZ m x=true
 yes:i+1≤x.Yes.n∧x.Yes.n≤n
 no:x.Kind.n≠2→i+1≤x.No.n∧x.No.n≤n
 code:x.Kind.n=1→Y3 m x.Code.l 0=0
theorem Zkh{m:Zb}{x:Zs}{i n:Int}(h:Wb m x i n=0):JD m n i x:=by
 unfold Wb at h
 split at h
 ·rename_i ha
  split at h
  ·rename_i hb
   obtain⟨h1,h2⟩:=Qb h
   obtain⟨a1,a2⟩:=Qb ha
   have a1:=JP (by omega) a1
   have a2:=JP (by omega) a2
   have h2:=JP (by omega) h2
   simp at a1 h2
   refine⟨a1.1,a1.2,a2,h2,fun hk=> ?_,fun hk=> ?_⟩
   ·unfold Qa at h1
    rw[if_neg hk]at h1
    have:=JP (by omega) (Qb h1).2
    simpa using this
   ·unfold UV at hb;rw[if_pos hk]at hb;exact hb
  ·rename_i hx;exact absurd h hx
 ·rename_i hx;exact absurd h hx
theorem ZaQ{m:Zb}{l:List Zs}(h:(Wj m l).2=0):l.length≤32∧∀i x,Zh l i=some x→JD m l.length i x:=by
 obtain⟨h1,h2⟩:=ZaH h
 refine⟨by omega,fun i x hg=> ?_⟩
 have hi:=Zc0 hg
 have:=h2 i hi.1 hi.2
 simp only[hg]at this
 exact Zkh this
theorem Zld{m:Zb}(h:Yr m=none):(Wj m m.Ingress.l).2=0:=by
 have:=W2 h 7 (by omega) (by omega);simpa[Zn]using this
theorem ZlT{m:Zb}(h:Yr m=none):(Wj m m.Egress.l).2=0:=by
 have:=W2 h 8 (by omega) (by omega);simpa[Zn]using this
theorem Za3{m:Zb}(h:Yr m=none){i:Int}{t:ZD}(hg:Zh m.Tables.l i=some t):t.Actions.l.length≤8∧∀a∈t.Actions.l,∃act,Zh m.Actions.l a.n=some act:=by
 have hp:=W2 h 6 (by omega) (by omega)
 have hp:(Yw m.Tables.l.length 8 (WE m)).2=0:=by simpa[Zn]using hp
 have hi:=Zc0 hg
 have ht:=(ZaH hp).2 i hi.1 hi.2
 simp only[WE,hg,ZjM]at ht
 split at ht
 ·rename_i h0
  have hc:Ug m t.Actions.l=0:=UF h0 _ (by simp)
  unfold Ug at hc
  split at hc
  ·simp at hc
  ·split at hc
   ·rename_i c1 c2
    refine⟨by omega,fun a ha=> ?_⟩
    have:=Zan m t.Actions.l _ _ c2 a ha
    rcases Zm m.Actions.l a.n with⟨x,_,_,hx⟩|⟨h1,_⟩
    ·exact⟨x,hx⟩
    ·omega
   ·rename_i c2;exact absurd hc c2
 ·rename_i hx;exact absurd ht hx
def Y1(m:Zb)(l:List Ins)(s:Sl):Sl ×Int ×Int:=
 if Yr m=none∧Y3 m l 8=0 then(match Ys m l.length l 0 (Yk l.length s)with
  |(some (j,e),_)=>(0,j,e)
  |(none,P)=>((P.getD l.length (false,0)).2,0,0))else(0,0,1)
theorem Zfo(m:Zb)(hm:Clo m)(hsm:Z2 m)(l:GL Ins)(s:Sl):Zc vp 461 [m.v,GL.v 6 Ins.v l,sV s]=some (.tup [sV (Y1 m l.l s).1,.int .i64 (Y1 m l.l s).2.1,.int .i64 (Y1 m l.l s).2.2]):=by
 rw[Zoo m hm hsm (fun h=>(ZtQ h).1) l s]
 unfold Znq Y1
 split
 ·generalize Ys m l.l.length l.l 0 (Yk l.l.length s)=q
  obtain⟨o,P⟩:=q
  cases o with
  |some je=>obtain⟨j,e⟩:=je;rfl
  |none=>rfl
 ·rfl
theorem ZH3{m:Zb}(h:Yr m=none){l:List Ins}(hc:Y3 m l 8=0)(s:Sl):((Y1 m l s).2.2=0∧(Y1 m l s).2.1=0)∨((Y1 m l s).2.2=11∧(Y1 m l s).1=0#64):=by
 unfold Y1
 rw[if_pos ⟨h,hc⟩]
 have he:=fun {j e}=>ZHN m l.length l 0 (Yk l.length s) (j:=j) (e:=e)
 generalize Ys m l.length l 0 (Yk l.length s)=q at he
 obtain⟨o,P⟩:=q
 cases o with
 |some je=>obtain⟨j,e⟩:=je;exact .inr ⟨he rfl,rfl⟩
 |none=>exact .inl ⟨rfl,rfl⟩
def wkV(m:Zb)(p:Int)(nd w:V):V:=.agg (m.cs++[.int .i64 p,nd,w])
section
variable (m : Zb) (p : Int) (nd w : V)
@[simp] theorem ZDp:ldc (wkV m p nd w) true 18 0=some m.v:=rfl
@[simp] theorem ZDs:ldc (wkV m p nd w) false 1 5=some (GL.v 3 Action.v m.Actions):=rfl
@[simp] theorem ZDv:ldc (wkV m p nd w) false 1 6=some (GL.v 7 ZD.v m.Tables):=rfl
@[simp] theorem ZDf:ldc (wkV m p nd w) false 1 18=some (.int .i64 p):=rfl
@[simp] theorem ZDb:ldc (wkV m p nd w) false 1 19=some nd:=rfl
@[simp] theorem ZC5:ldc (wkV m p nd w) false 1 20=some w:=rfl
@[simp] theorem ZDl:okV (wkV m p nd w)=true:=nr rfl
end
def wrV(p n a e:Int):V:=.agg [.int .i64 p,.int .i64 n,.int .i64 a,.int .i64 e]
@[simp] theorem Zs5(p n a e:Int):Ze (wrV p n a e)=true:=nr rfl
@[simp] theorem Zug(k:Nat)(p n a e:Int):Zk k (wrV p n a e)=true:=nr rfl
theorem Zek(m:Zb)(hm:Clo m)(hsm:Z2 m)(p:Int)(nd w:V)(a:Int)(act:Action)(hg:Zh m.Actions.l a=some act)(s:Sl):
 Zc vp 170 [.eptr (wkV m p nd w) 0 .brw,.int .i64 a,sV s]=some (if(Y1 m act.Code.l s).2.2=0 then .tup [sV (Y1 m act.Code.l s).1,.nilp]else .tup [.int .u64 0,.eptr (wrV 5 a (Y1 m act.Code.l s).2.1 (Y1 m act.Code.l s).2.2) 0 .perm]):=by
 have hc:=Zfo m hm hsm act.Code s
 generalize Y1 m act.Code.l s=q at hc⊢
 obtain⟨o,j,e⟩:=q
 simp only at hc⊢
 rw[Za Zwz]
 by_cases he:e=0
 ·rw[if_pos he]
  simp -implicitDefEqProofs [f170,b170,Zf,hg,hc,he]
 ·rw[if_neg he]
  simp -implicitDefEqProofs [f170,b170,Zf,ZC,hg,hc,he,wrV]
def keyB(s:Sl)(k:Key):Bool:=decide (k.Kind.n=0)&& !JW s k.A.n
def Jh(g:Key→Bool):List Key→Int→Int
 |[],_=> -1
 |k::r,i=>if g k=true then i else Jh g r (i+1)
theorem Zr6(k:Key)(s:Sl):Zc vp 624 [k.v,.eptr (sV s) 0 .brw]=some (.bool (keyB s k)):=by
 rw[Za Zy4]
 unfold keyB
 by_cases c:k.Kind.n=0
 ·simp -implicitDefEqProofs [f624,b624,c]
 ·simp -implicitDefEqProofs [f624,b624,c]
theorem Znl(f:Nat)(C:V)(g:Key→Bool)(hro:U1 vp f=true)(hcall: ∀(h:Zg) (args:List V) (kv:V→Zg→Option (Ex ×Fr ×Zg)),YU (orc vp) vp 0 h f args kv=roK vp h f args kv)(hC:Zk 0 C=true)(hg: ∀k:Key,Zc vp f [k.v,C]=some (.bool (g k)))(l:GL Key): ∀(r:List Key) (i:Int),0≤i→i≤l.l.length→l.l.drop i.toNat=r→∃fr,(orc vp).loop 0 [0,1,7,8] Zc5 [(0,GL.v 3 Key.v l),(1,.func f [] [C]),(7,.int .i64 l.l.length),(8,.int .i64 i)] []=
 some (if Jh g r i= -1 then .brk 0 else .ret,(if Jh g r i= -1 then fr else[(4,.int .i64 (Jh g r i))]),[]):=by
 have hle:=l.le
 intro r
 induction r with
 |nil=>
  intro i hi hi2 hd
  have:=Zq hi hd
  have e:i=l.l.length:=by omega
  subst e
  refine⟨[(0,GL.v 3 Key.v l),(1,.func f [] [C]),(7,.int .i64 l.l.length),(8,.int .i64 l.l.length),(9,.bool false)],?_⟩
  rw[Zas]
  simp -implicitDefEqProofs [UQ,Jh]
 |cons k r ih=>
  intro i hi hi2 hd
  obtain⟨h1,h2,h3⟩:=Zp hi hd
  have w1:IntKind.i64.wrap (i+1)=i+1:=ZK (by omega) (by omega)
  obtain⟨fr,ih⟩:=ih (i+1) (by omega) (by omega) h3
  have hk:=hg k
  have hne: ¬i= -1:=by omega
  by_cases c:g k=true
  ·refine⟨[],?_⟩
   rw[Zas]
   simp -implicitDefEqProofs [UQ,h1,h2,hro,hcall,hC,hk,c,Jh,hne]
  ·have e:Jh g (k::r) i=Jh g r (i+1):=by simp only[Jh];rw[if_neg c]
   refine⟨fr,?_⟩
   rw[Zas,e,←ih]
   simp -implicitDefEqProofs [UQ,h1,h2,hro,hcall,hC,hk,c,w1]
theorem Zoy(f:Nat)(C:V)(g:Key→Bool)(hro:U1 vp f=true)(hcall: ∀(h:Zg) (args:List V) (kv:V→Zg→Option (Ex ×Fr ×Zg)),YU (orc vp) vp 0 h f args kv=roK vp h f args kv)(hC:Zk 0 C=true)(hg: ∀k:Key,Zc vp f [k.v,C]=some (.bool (g k)))(l:GL Key):
 Zc vp 1198 [GL.v 3 Key.v l,.func f [] [C]]=some (.int .i64 (Jh g l.l 0)):=by
 obtain⟨fr,hl⟩:=Znl f C g hro hcall hC hg l l.l 0 (by omega) (by omega) rfl
 rw[Za Zr5]
 by_cases c:Jh g l.l 0= -1
 ·rw[if_pos c,if_pos c]at hl
  simp -implicitDefEqProofs [f1198,b1198,hl,c]
 ·rw[if_neg c,if_neg c]at hl
  simp -implicitDefEqProofs [f1198,b1198,hl]
def JO(l:List Key)(s:Sl):Int:=Jh (keyB s) l 0
theorem ZrW(l:GL Key)(s:Sl):Zc vp 623 [GL.v 3 Key.v l,sV s]=some (.int .i64 (JO l.l s)):=by
 have h:=Zoy 624 (.eptr (sV s) 0 .brw) (keyB s) (by simp) (fun h args kv=>by simp) rfl (fun k=>Zr6 k s) l
 rw[Za Zzu]
 simp -implicitDefEqProofs [f623,b623,h,JO]
def WI(m:Zb)(a:Int):Int:=match Zh m.Actions.l a with|some x=>x.Code.l.length|none=>0
def Zbf(m:Zb):List I64→Int→Int
 |[],n=>n
 |a::r,n=>Zbf m r (max n (WI m a.n))
def Qk(m:Zb)(x:Zs):Int:=
 if x.Kind.n=0 then 2+(match Zh m.Tables.l x.A.n with|some t=>Zbf m t.Actions.l 0|none=>0)else if x.Kind.n=2 then 1+WI m x.A.n else if x.Kind.n=1 then 1+x.Code.l.length else 1
theorem ZoH(m:Zb)(x:V)(l:GL I64)(hl: ∀a∈l.l,∃act,Zh m.Actions.l a.n=some act): ∀(r:List I64) (i n:Int),0≤i→i≤l.l.length→l.l.drop i.toNat=r→∃fr,(orc vp).loop 0 [2,5,18,19,20] ZhN [(2,.ptr 0 1 0 0),(5,.int .i64 n),(18,GL.v 1 I64.v l),(19,.int .i64 l.l.length),(20,.int .i64 i)] [.arr [m.v],.arr [x]]=
 some (.brk 1,(2,.ptr 0 1 0 0)::(5,.int .i64 (Zbf m r n))::fr,[.arr [m.v],.arr [x]]):=by
 have hle:=l.le
 intro r
 induction r with
 |nil=>
  intro i n hi hi2 hd
  have:=Zq hi hd
  have e:i=l.l.length:=by omega
  subst e
  refine⟨[(18,GL.v 1 I64.v l),(19,.int .i64 l.l.length),(20,.int .i64 l.l.length),(21,.bool false)],?_⟩
  rw[ZiU]
  simp -implicitDefEqProofs [Ka,Zbf]
 |cons a r ih=>
  intro i n hi hi2 hd
  obtain⟨h1,h2,h3⟩:=Zp hi hd
  have w1:IntKind.i64.wrap (i+1)=i+1:=ZK (by omega) (by omega)
  have ha:a∈l.l:=by
   have:a∈l.l.drop i.toNat:=by rw[hd];simp
   exact List.mem_of_mem_drop this
  obtain⟨act,hact⟩:=hl a ha
  obtain⟨fr,ih⟩:=ih (i+1) (max n (WI m a.n)) (by omega) (by omega) h3
  have hcl:WI m a.n=act.Code.l.length:=by unfold WI;rw[hact]
  have hmx:Vq (fun a b=>if b>a then b else a) [.int .i64 n,.int .i64 act.Code.l.length]=some (.int .i64 (max n (WI m a.n))):=by rw[JG,hcl];congr 2;omega
  refine⟨fr,?_⟩
  rw[ZiU]
  simp -implicitDefEqProofs [Ka,h1,h2,hact,hmx,w1,Zbf,ih]
theorem Q9{m:Zb}(h:Yr m=none)(a:Int):0≤WI m a∧WI m a≤64:=by
 unfold WI
 cases hg:Zh m.Actions.l a with
 |none=>simp
 |some x=>have:=ZbK (Znw h hg);simp;omega
theorem ZdV{m:Zb}(h:Yr m=none): ∀(l:List I64) (n:Int),0≤n→n≤64→0≤Zbf m l n∧Zbf m l n≤64
 |[],n,h0,h1=>⟨h0,h1⟩
 |a::r,n,h0,h1=>by
  have:=Q9 h a.n
  simp only[Zbf]
  exact ZdV h r _ (by omega) (by omega)
theorem Zzn{m:Zb}{x:Zs}(h:YZ m x=true)(hk:x.Kind.n=0): ∃t,Zh m.Tables.l x.A.n=some t:=by
 unfold YZ at h;rw[if_pos hk]at h
 simp[inB]at h
 rcases Zm m.Tables.l x.A.n with⟨t,_,_,ht⟩|⟨h1,_⟩
 ·exact⟨t,ht⟩
 ·omega
theorem ZyL{m:Zb}{x:Zs}(h:YZ m x=true)(hk:x.Kind.n=2): ∃a,Zh m.Actions.l x.A.n=some a:=by
 unfold YZ at h;rw[if_neg (by omega),if_pos hk]at h
 simp[inB]at h
 rcases Zm m.Actions.l x.A.n with⟨t,_,_,ht⟩|⟨h1,_⟩
 ·exact⟨t,ht⟩
 ·omega
theorem Zod(m:Zb)(hc:Yr m=none)(x:Zs)(hnm:YZ m x=true):Zc vp 622 [m.v,x.v]=some (.int .i64 (Qk m x)):=by
 rw[Za Zx0]
 unfold Qk
 by_cases k0:x.Kind.n=0
 ·obtain⟨t,ht⟩:=Zzn hnm k0
  obtain⟨t1,t2⟩:=Za3 hc ht
  obtain⟨fr,hl⟩:=ZoH m x.v t.Actions t2 t.Actions.l 0 0 (by omega) (by omega) rfl
  have hb:=ZdV hc t.Actions.l 0 (by omega) (by omega)
  have w1:IntKind.i64.wrap (2+Zbf m t.Actions.l 0)=2+Zbf m t.Actions.l 0:=ZK (by omega) (by omega)
  simp -implicitDefEqProofs [f622,b622,k0,ht,hl,w1]
 by_cases k2:x.Kind.n=2
 ·obtain⟨a,ha⟩:=ZyL hnm k2
  have hb:=Q9 hc x.A.n
  have hcl:WI m x.A.n=a.Code.l.length:=by unfold WI;rw[ha]
  rw[hcl]at hb⊢
  have w1:IntKind.i64.wrap (1+(a.Code.l.length:Int))=1+a.Code.l.length:=ZK (by omega) (by omega)
  simp -implicitDefEqProofs [f622,b622,k2,ha,w1]
 by_cases k1:x.Kind.n=1
 ·have hle:=x.Code.le
  have w1:IntKind.i64.wrap (1+(x.Code.l.length:Int))=1+x.Code.l.length:=ZK (by omega) (by omega)
  simp -implicitDefEqProofs [f622,b622,k1,w1]
 ·simp -implicitDefEqProofs [f622,b622,k0,k1,k2]
theorem Zox{m:Zb}(h:Yr m=none){n i:Int}{x:Zs}(hg:JD m n i x):1≤Qk m x∧Qk m x≤66:=by
 unfold Qk
 split
 ·cases Zh m.Tables.l x.A.n with
  |none=>simp
  |some t=>have:=ZdV h t.Actions.l 0 (by omega) (by omega);simp only;omega
 ·split
  ·have:=Q9 h x.A.n;omega
  ·split
   ·have:=ZbK (hg.code ‹_›);omega
   ·omega
end Go.VE.Un
namespace Go.VE
theorem ZeB{lo:Nat}{h:Zg}{d B ep i o:Nat}(hB:lo≤B):frz lo h (d+1) (.ptr B ep i o)=(XR h B ep).bind fun es=>(es[i]?).bind fun e=>(frz lo h d e).map fun e=>.eptr e o .perm:=by
 conv=>lhs;unfold frz
 rw[if_neg (by simp[Qv])]
 simp only
 rw[if_neg (by omega)]
 unfold XR YG
 cases h[B]? with
 |none=>rfl
 |some b=>
  cases b<;>try rfl
  rename_i es;simp only;split<;>rfl
theorem Qw{vp:VP}{h h1:Zg}{r r':V}(hg:vp.gc=true)(ho:Qu h h1=true)(hf:frz h.length h1 4 r=some r'):WP vp false h r h1=(r',h1.take h.length):=by
 unfold WP
 rw[if_pos (by simp[hg,ho]),hf]
theorem UE{β:Type}{O:Orc}{vp:VP}{lo:Nat}{fr:Fr}{h:Zg}{k:Fr→Zg→Option β}{n a x i b:Nat}{xl:List Nat}{r:List VDt}{p:Nat}{rs:List Jf}:
 dK O vp lo (⟨⟨none,.store n true (.t a) (.t x),none⟩,i,b,xl⟩::r) p rs fr h k=((fzV lo h (lk fr x)).bind fun q=>Xp lo q.2 n (lk fr a) q.1).bind fun h'=>if(rs.all fun e=> !xl.contains e.p||ZT (Yv h' e.agg e.n e.a) e.v)=true then dK O vp lo r (p+1) rs fr h' k else none:=by
 unfold dK
 simp only[Ur,ZY,ZM,ZnK,if_true]
 cases fzV lo h (lk fr x)with
 |none=>rfl
 |some q=>
  simp only[Option.bind_some]
  cases Xp lo q.2 n (lk fr a) q.1 with
  |none=>rfl
  |some h'=>
   simp only[Option.map_some,Option.bind_some,ZaR,Xg,List.nil_append]
   split<;>rfl
end Go.VE
namespace Go.VE.Un
open Go.VE
def Ky(m:Zb)(x:Zs)(i:Nat)(M:List Int):List Int:=M.set i ((if x.Kind.n=2 then M.getD x.Yes.n.toNat 0 else max (M.getD x.Yes.n.toNat 0) (M.getD x.No.n.toNat 0))+Qk m x)
def VO(m:Zb)(nd:List Zs):Nat→List Int→List Int
 |0,M=>M
 |j+1,M=>VO m nd j (match nd[j]? with|some x=>Ky m x j M|none=>M)
theorem ZbC(m:Zb)(x:Zs)(i:Nat)(M:List Int):(Ky m x i M).length=M.length:=by simp[Ky]
theorem iaG{B ep z:Nat}{i:Int}(h0:0≤i)(h1:i<(ep:Int)):Yb z (.gsl B ep z 0 ep) (.int .i64 i)=some (.ptr B ep i.toNat 0):=by simp[Yb,h0,h1]
set_option maxHeartbeats 1000000 in
theorem Zob(m:Zb)(hc:Yr m=none)(nd:GL Zs)(hcl:Ze (GL.v 6 Zs.v nd)=true)(n:Nat)(hn:nd.l.length=n)(hn2:n≤32)(hg: ∀i x,Zh nd.l i=some x→JD m n i x): ∀(j:Nat) (i:Int) (M:List Int),i+1=j→j≤n→M.length=n+1→(∀k:Nat,0≤M.getD k 0∧M.getD k 0≤66*(n-j))→∃fr,(orc vp).loop 0 [1,2,5,6] ZhC [(1,GL.v 6 Zs.v nd),(2,.ptr 0 1 0 0),(5,.gsl 1 (n+1) 1 0 (n+1)),(6,.int .i64 i)] [.arr [m.v],.arr (M.map (V.int .i64))]=
 some (.brk 0,(1,GL.v 6 Zs.v nd)::(2,.ptr 0 1 0 0)::(5,.gsl 1 (n+1) 1 0 (n+1))::fr,[.arr [m.v],.arr ((VO m nd.l j M).map (V.int .i64))]):=by
 intro j
 induction j with
 |zero=>
  intro i M hi hj hM hb
  have:i= -1:=by omega
  subst this
  refine⟨[(6,.int .i64 (-1)),(16,.bool false)],?_⟩
  rw[Zjx]
  simp -implicitDefEqProofs [Q7,VO]
 |succ j ih=>
  intro i M hi hj hM hb
  have hij:i=j:=by omega
  subst hij
  have hlt:(j:Int)<nd.l.length:=by omega
  obtain⟨x,hx⟩: ∃x,nd.l[j]? =some x:=⟨_,List.getElem?_eq_getElem (by omega)⟩
  have hx':Zh nd.l (j:Int)=some x:=by simp[Zh,hx]
  obtain⟨k0,k3,hnm,hy,hno,hcd⟩:=hg _ _ hx'
  have hcost:=Zod m hc x hnm
  have hcb:=Zox hc (hg _ _ hx')
  have hxc:=Xc hcl hx'
  obtain⟨i2,hi2⟩: ∃i2:Int,(j:Int)-1=i2:=⟨_,rfl⟩
  have w1:IntKind.i64.wrap ((j:Int)-1)=i2:=by rw[ZK (by omega) (by omega),hi2]
  have hia:=iaG (B:=1) (z:=1) (ep:=n+1) (i:=(j:Int)) (by omega) (by omega)
  have hiy:=iaG (B:=1) (z:=1) (ep:=n+1) (i:=x.Yes.n) (by omega) (by omega)
  rw[Int.toNat_natCast]at hia
  have hjl:j<M.length:=by omega
  have gy:(M.map (V.int .i64))[x.Yes.n.toNat]? =some (.int .i64 (M.getD x.Yes.n.toNat 0)):=by
   have:x.Yes.n.toNat<M.length:=by omega
   rw[List.getElem?_map,List.getD_eq_getElem?_getD,List.getElem?_eq_getElem this];rfl
  have cA:YG (M.map (V.int .i64)) (n+1)=some (M.map (V.int .i64)):=Yt (by simp[hM])
  have cS: ∀v,YG ((M.map (V.int .i64)).set j v) (n+1)=some ((M.map (V.int .i64)).set j v):=fun v=>Yt (by simp[hM])
  have gS: ∀v,((M.map (V.int .i64)).set j v)[j]? =some v:=fun v=>by simp[hjl]
  have gA:(M.map (V.int .i64))[j]? =some (.int .i64 (M.getD j 0)):=by
   rw[List.getElem?_map,List.getD_eq_getElem?_getD,List.getElem?_eq_getElem hjl];rfl
  have sS: ∀v w,((M.map (V.int .i64)).set j v).set j w=(M.map (V.int .i64)).set j w:=fun v w=>by simp
  have bA:Zo 2 (M.map (V.int .i64))=true:=Yq (fun _=>rfl) _
  have bS: ∀v,Zo 2 ((M.map (V.int .i64)).set j (.int .i64 v))=true:=fun v=>by rw[←List.map_set];exact Yq (fun _=>rfl) _
  have hby:=hb x.Yes.n.toNat
  have hst:VO m nd.l (j+1) M=VO m nd.l j (Ky m x j M):=by simp only[VO,hx]
  have ih:=ih i2 (Ky m x j M) (by omega) (by omega) (by rw[ZbC,hM]) (fun k=>by
   unfold Ky
   rw[List.getD_eq_getElem?_getD,List.getElem?_set]
   have hbn:=hb x.No.n.toNat
   have hbk:=hb k
   by_cases c:j=k
   ·subst c
    rw[if_pos rfl,if_pos hjl]
    simp only[Option.getD_some]
    split<;>omega
   ·rw[if_neg c,←List.getD_eq_getElem?_getD];omega)
  have hmap:(Ky m x j M).map (V.int .i64)=(M.map (V.int .i64)).set j (.int .i64 ((if x.Kind.n=2 then M.getD x.Yes.n.toNat 0 else max (M.getD x.Yes.n.toNat 0) (M.getD x.No.n.toNat 0))+Qk m x)):=by unfold Ky;rw[List.map_set]
  obtain⟨fr,ih⟩:=ih
  rw[hmap]at ih
  rw[hst]
  refine⟨fr,?_⟩
  rw[Zjx]
  by_cases c:x.Kind.n=2
  ·rw[if_pos c]at ih
   have w2:IntKind.i64.wrap (M.getD x.Yes.n.toNat 0+Qk m x)=M.getD x.Yes.n.toNat 0+Qk m x:=ZK (by omega) (by omega)
   generalize M.getD x.Yes.n.toNat 0=a at*
   generalize (M.map (V.int .i64))=A at*
   simp -implicitDefEqProofs [Q7,hx',hia,hiy,gy,cA,cS,gS,gA,sS,bA,bS,hcost,hxc,c,w1,w2,ih]
  ·rw[if_neg c]at ih
   obtain⟨n0,n1⟩:=hno c
   have hin:=iaG (B:=1) (z:=1) (ep:=n+1) (i:=x.No.n) (by omega) (by omega)
   have gN: ∀v,((M.map (V.int .i64)).set j v)[x.No.n.toNat]? =some (.int .i64 (M.getD x.No.n.toNat 0)):=fun v=>by
    have h1:x.No.n.toNat<M.length:=by omega
    rw[List.getElem?_set,if_neg (by omega),List.getElem?_map,List.getD_eq_getElem?_getD,List.getElem?_eq_getElem h1];rfl
   have hbn:=hb x.No.n.toNat
   have hmx:Vq (fun a b=>if b>a then b else a) [.int .i64 (M.getD x.Yes.n.toNat 0),.int .i64 (M.getD x.No.n.toNat 0)]=some (.int .i64 (max (M.getD x.Yes.n.toNat 0) (M.getD x.No.n.toNat 0))):=by rw[JG];congr 2;omega
   have w2:IntKind.i64.wrap (max (M.getD x.Yes.n.toNat 0) (M.getD x.No.n.toNat 0)+Qk m x)=max (M.getD x.Yes.n.toNat 0) (M.getD x.No.n.toNat 0)+Qk m x:=ZK (by omega) (by omega)
   generalize max (M.getD x.Yes.n.toNat 0) (M.getD x.No.n.toNat 0)=mx at*
   generalize M.getD x.Yes.n.toNat 0=a at*
   generalize M.getD x.No.n.toNat 0=a2 at*
   generalize (M.map (V.int .i64))=A at*
   simp -implicitDefEqProofs [Q7,hx',hia,hiy,hin,gy,cA,cS,gS,gA,gN,sS,bA,bS,hcost,hxc,c,w1,w2,hmx,ih]
theorem ZaM(m:Zb)(nd:List Zs): ∀(j:Nat) (M:List Int),(VO m nd j M).length=M.length
 |0,_=>rfl
 |j+1,M=>by
  simp only[VO]
  rw[ZaM m nd j]
  split
  ·exact ZbC ..
  ·rfl
def Zau(m:Zb)(nd:List Zs):Int:=(VO m nd nd.length (List.replicate (nd.length+1) 0)).getD 0 0
theorem Zmy(m:Zb)(hc:Yr m=none)(nd:GL Zs)(hcl:Ze (GL.v 6 Zs.v nd)=true)(hn2:nd.l.length≤32)(hg: ∀i x,Zh nd.l i=some x→JD m nd.l.length i x):Zc vp 626 [m.v,GL.v 6 Zs.v nd]=some (.int .i64 (Zau m nd.l)):=by
 obtain⟨n,hn⟩: ∃n,nd.l.length=n:=⟨_,rfl⟩
 have hsI:Zau m nd.l=(VO m nd.l n (List.replicate (n+1) 0)).getD 0 0:=by unfold Zau;rw[hn]
 have hg': ∀i x,Zh nd.l i=some x→JD m n i x:=fun i x h=>hn▸hg i x h
 obtain⟨fr,hl⟩:=Zob m hc nd hcl n hn (by omega) hg' n ((n:Int)-1) (List.replicate (n+1) 0) (by omega) (by omega) (by simp) (fun k=>by
  rw[List.getD_eq_getElem?_getD,List.getElem?_replicate];split<;>simp)
 have hlen:=ZaM m nd.l n (List.replicate (n+1) 0)
 rw[List.length_replicate]at hlen
 rw[hsI,Za Zyj]
 have w1:IntKind.i64.wrap ((n:Int)+1)=(n:Int)+1:=ZK (by omega) (by omega)
 have w2:IntKind.i64.wrap ((n:Int)-1)=(n:Int)-1:=ZK (by omega) (by omega)
 have hmk: ∀a,UW [a] (.int .i64 0) 8 (.int .i64 ((n:Int)+1)) (.int .i64 ((n:Int)+1))=some (.gsl 1 (n+1) 1 0 (n+1),[a,.arr ((List.replicate (n+1) (0:Int)).map (V.int .i64))]):=fun a=>by
  unfold UW
  simp only
  have e3:((n:Int)+1).toNat=n+1:=by omega
  rw[if_pos (by unfold YC;omega),e3,List.map_replicate];rfl
 have hi0:=iaG (B:=1) (z:=1) (ep:=n+1) (i:=0) (by omega) (by omega)
 generalize VO m nd.l n (List.replicate (n+1) 0)=M at*
 have c1:YG (M.map (V.int .i64)) (n+1)=some (M.map (V.int .i64)):=Yt (by simp[hlen])
 have g1:(M.map (V.int .i64))[0]? =some (.int .i64 (M.getD 0 0)):=by
  have:0<M.length:=by omega
  rw[List.getElem?_map,List.getD_eq_getElem?_getD,List.getElem?_eq_getElem this];rfl
 generalize M.getD 0 0=r at*
 generalize (List.replicate (n+1) (0:Int)).map (V.int .i64)=R at*
 generalize M.map (V.int .i64)=A at*
 simp -implicitDefEqProofs [f626,b626,hn,w1,w2,hmk,hl,hi0,c1,g1]
theorem ZfI{b0 b1 b2:Blk}{T:Zg}{m:Zb}{p:Int}{nd:V}{n:Nat}{P:List (Bool ×Sl)}(hP:P.length=n+1)(hnd:Zk 0 nd=true):
 Yd (b0::b1::b2::.arr (P.map plV)::T) 3 (wkV m p nd (.gsl 3 (n+1) 2 0 (n+1)))=some (wkV m p nd (.sl 2 (P.map plV) .brw)):=by
 have c0:YG (P.map plV) (n+1)=some (P.map plV):=Yt (by simp[hP])
 have hs:ZaK (n+1) 0 (n+1) (P.map plV)=some (P.map plV):=Qy (by simp[hP])
 have hg:Yd (b0::b1::b2::.arr (P.map plV)::T) 2 (.gsl 3 (n+1) 2 0 (n+1))=some (.sl 2 (P.map plV) .brw):=by
  rw[ZbY,ZqT]
  simp only[ZgA,Zhp,c0,Option.bind_some,hs]
  rw[Jj (Yq (fun _=>Uy 0 _) P)];rfl
 have hn:Yd (b0::b1::b2::.arr (P.map plV)::T) 2 nd=some nd:=V1 hnd
 unfold wkV
 rw[Zla]
 unfold Zb.cs
 simp[hg,hn]
section
variable (m : Zb) (p : Int) (nd : V) (n : Nat)
theorem ZqM(b0 b1:Blk)(T:Zg)(P:List (Bool ×Sl))(hP:P.length=n+1)(a:Int)(h0:0≤a)(h1:a≤n)(s:Sl):(orc vp).call 172 0 [.ptr 2 1 0 0,.int .i64 a,sV s] (b0::b1::.arr [wkV m p nd (.gsl 3 (n+1) 2 0 (n+1))]::.arr (P.map plV)::T)=
 some (.tup [],b0::b1::.arr [wkV m p nd (.gsl 3 (n+1) 2 0 (n+1))]::.arr ((atP P a.toNat s).map plV)::T):=by
 have hia:=iaG (B:=3) (z:=2) (ep:=n+1) (i:=a) h0 (by omega)
 have hi:a.toNat<P.length:=by omega
 generalize hk:a.toNat=i at*
 have hp:P[i]? =some (P.getD i (false,0)):=by rw[List.getD_eq_getElem?_getD,List.getElem?_eq_getElem hi];rfl
 have c0:YG (P.map plV) (n+1)=some (P.map plV):=Yt (by simp[hP])
 have g0:(P.map plV)[i]? =some (plV (P.getD i (false,0))):=by rw[List.getElem?_map,hp];rfl
 have s1: ∀v,(P.map plV).set i (plV v)=(P.set i v).map plV:=fun v=>by rw[List.map_set]
 have c1: ∀v,YG ((P.map plV).set i v) (n+1)=some ((P.map plV).set i v):=fun v=>Yt (by simp[hP])
 have g1: ∀v,((P.map plV).set i v)[i]? =some v:=fun v=>by simp[hi]
 have s2: ∀v w,((P.map plV).set i v).set i w=(P.map plV).set i w:=fun v w=>by simp
 have rN: ∀fr h,Ub fr h []=some (.tup []):=fun _ _=>rfl
 unfold atP
 rw[←s1]
 generalize P.getD i (false,0)=q at g0⊢
 obtain⟨r,q⟩:=q
 rw[K9 ZrE]
 generalize P.map plV=A at*
 cases r
 ·simp -implicitDefEqProofs [f172,b172,Zf,hia,c0,g0,plV,W9,c1,g1,s2,Js,rN]
 ·simp -implicitDefEqProofs [f172,b172,Zf,hia,c0,g0,plV,W9,c1,g1,s2,Js,rN]
theorem Zao{β:Type}(b0 b1:Blk)(T:Zg)(P:List (Bool ×Sl))(hP:P.length=n+1)(a:Int)(h0:0≤a)(h1:a≤n)(s:Sl)(kv:V→Zg→Option β):rwK vp 0 (b0::b1::.arr [wkV m p nd (.gsl 3 (n+1) 2 0 (n+1))]::.arr (P.map plV)::T) 172 [.ptr 2 1 0 0,.int .i64 a,sV s] kv=
 kv (.tup []) (b0::b1::.arr [wkV m p nd (.gsl 3 (n+1) 2 0 (n+1))]::.arr ((atP P a.toNat s).map plV)::T):=by
 unfold rwK
 rw[ZqM m p nd n b0 b1 T P hP a h0 h1 s]
 simp only[Option.bind_some]
 rw[Zb0 (by simp)]
end
end Go.VE.Un
namespace Go.VE.Un
open Go.VE
abbrev Wr:=Int ×Int ×Int ×Int
def wrO:Option Wr→V
 |none=>.nilp
 |some (p,n,a,e)=>.eptr (wrV p n a e) 0 .perm
def WZ(m:Zb)(a:Int):List Ins:=match Zh m.Actions.l a with|some x=>x.Code.l|none=>[]
def WK(m:Zb)(d y no:Int)(s:Sl):List I64→List (Bool ×Sl)→Option Wr ×List (Bool ×Sl)
 |[],P=>(none,P)
 |a::r,P=>
  let q:=Y1 m (WZ m a.n) s
  if q.2.2=0 then WK m d y no s r (if a.n=d then atP (atP P y.toNat q.1) no.toNat q.1 else atP P y.toNat q.1)else(some (5,a.n,q.2.1,q.2.2),P)
theorem K6(m:Zb)(d y no:Int)(s:Sl): ∀(l:List I64) (P:List (Bool ×Sl)),(WK m d y no s l P).2.length=P.length
 |[],_=>rfl
 |a::r,P=>by
  simp only[WK]
  split
  ·rw[K6 m d y no s r];split<;>simp
  ·rfl
def UC(m:Zb)(p i:Int)(x:Zs)(P:List (Bool ×Sl))(s:Sl):Option Wr ×List (Bool ×Sl):=
 match Zh m.Tables.l x.A.n with
 |none=>(none,P)
 |some t=>if 0≤JO t.Keys.l s then(some (p,i,JO t.Keys.l s,11),P)else WK m t.Default.Action.n x.Yes.n x.No.n s t.Actions.l P
section
variable (m : Zb) (hm : Clo m) (hsm : Z2 m) (p : Int) (nd : V) (hnd : Zk 0 nd = true) (n : Nat) (e0 e1 e4 e5 e6 e7 : List V)
include hm hsm hnd in
theorem Zqr(x:Zs)(t:ZD)(y0:0≤x.Yes.n)(y1:x.Yes.n≤n)(n0:0≤x.No.n)(n1:x.No.n≤n)(s:Sl)(hl: ∀a∈t.Actions.l,∃act,Zh m.Actions.l a.n=some act): ∀(r:List I64) (i:Int) (P:List (Bool ×Sl)),0≤i→i≤t.Actions.l.length→t.Actions.l.drop i.toNat=r→P.length=n+1→∃fr,(orc vp).loop 0 [0,3,6,9,39,40,41] ZgF [(0,.ptr 2 1 0 0),(3,sV s),(6,.ptr 8 1 0 0),(9,.ptr 9 1 0 0),(39,GL.v 1 I64.v t.Actions),(40,.int .i64 t.Actions.l.length),(41,.int .i64 i)]
 [.arr e0,.arr e1,.arr [wkV m p nd (.gsl 3 (n+1) 2 0 (n+1))],.arr (P.map plV),.arr e4,.arr e5,.arr e6,.arr e7,.arr [x.v],.arr [t.v]]=some (match WK m t.Default.Action.n x.Yes.n x.No.n s r P with
 |(none,P')=>(.brk 0,fr,[.arr e0,.arr e1,.arr [wkV m p nd (.gsl 3 (n+1) 2 0 (n+1))],.arr (P'.map plV),.arr e4,.arr e5,.arr e6,.arr e7,.arr [x.v],.arr [t.v]])
 |(some w,P')=>(.ret,[(8,wrO (some w))],[.arr e0,.arr e1,.arr [wkV m p nd (.gsl 3 (n+1) 2 0 (n+1))],.arr (P'.map plV),.arr e4,.arr e5,.arr e6,.arr e7,.arr [x.v],.arr [t.v]])):=by
 have hle:=t.Actions.le
 intro r
 induction r with
 |nil=>
  intro i P hi hi2 hd hP
  have:=Zq hi hd
  have e:i=t.Actions.l.length:=by omega
  subst e
  refine⟨[(0,.ptr 2 1 0 0),(3,sV s),(6,.ptr 8 1 0 0),(9,.ptr 9 1 0 0),(39,GL.v 1 I64.v t.Actions),(40,.int .i64 t.Actions.l.length),(41,.int .i64 t.Actions.l.length),(42,.bool false)],?_⟩
  rw[KP]
  simp -implicitDefEqProofs [Qc,WK]
 |cons a r ih=>
  intro i P hi hi2 hd hP
  obtain⟨h1,h2,h3⟩:=Zp hi hd
  have w1:IntKind.i64.wrap (i+1)=i+1:=ZK (by omega) (by omega)
  have ha:a∈t.Actions.l:=by
   have:a∈t.Actions.l.drop i.toNat:=by rw[hd];simp
   exact List.mem_of_mem_drop this
  obtain⟨act,hact⟩:=hl a ha
  have hco:WZ m a.n=act.Code.l:=by unfold WZ;rw[hact]
  have haf:=Zek m hm hsm p nd (.sl 2 (P.map plV) .brw) a.n act hact s
  have hv:=fun {b0 b1 b2 T}=>ZfI (b0:=b0) (b1:=b1) (b2:=b2) (T:=T) (m:=m) (p:=p) (nd:=nd) hP hnd
  have hwb:Zk 0 (wkV m p nd (.sl 2 (P.map plV) .brw))=true:=by
   have:=Yq (k:=0) (fun q=>Uy 0 q) P
   unfold wkV Zb.cs;simp[hnd,this]
  have em:=fun b0 b1 T Q hQ=>Zao (β:=Ex ×Fr ×Zg) m p nd n b0 b1 T Q hQ
  rw[←hco]at haf
  simp only[WK]
  generalize Y1 m (WZ m a.n) s=q at haf⊢
  obtain⟨o,j,e⟩:=q
  simp only at haf⊢
  by_cases he:e=0
  ·rw[if_pos he]at haf⊢
   have m1:=fun kv=>em (.arr e0) (.arr e1) [.arr e4,.arr e5,.arr e6,.arr e7,.arr [x.v],.arr [t.v]] P hP x.Yes.n y0 y1 o kv
   by_cases hd2:a.n=t.Default.Action.n
   ·rw[if_pos hd2]
    have hdd:=eq_true hd2
    have m2:=fun kv=>em (.arr e0) (.arr e1) [.arr e4,.arr e5,.arr e6,.arr e7,.arr [x.v],.arr [t.v]] (atP P x.Yes.n.toNat o) (by simp[hP]) x.No.n n0 n1 o kv
    obtain⟨fr,ih⟩:=ih (i+1) (atP (atP P x.Yes.n.toNat o) x.No.n.toNat o) (by omega) (by omega) h3 (by simp[hP])
    refine⟨fr,?_⟩
    rw[KP,←ih]
    simp -implicitDefEqProofs [Qc,h1,h2,hv,hwb,haf,m1,m2,hdd,w1]
   ·rw[if_neg hd2]
    obtain⟨fr,ih⟩:=ih (i+1) (atP P x.Yes.n.toNat o) (by omega) (by omega) h3 (by simp[hP])
    refine⟨fr,?_⟩
    rw[KP,←ih]
    simp -implicitDefEqProofs [Qc,h1,h2,hv,hwb,haf,m1,hd2,w1]
  ·rw[if_neg he]at haf⊢
   refine⟨[],?_⟩
   rw[KP]
   simp -implicitDefEqProofs [Qc,h1,h2,hv,hwb,haf,wrO]
end
end Go.VE.Un
namespace Go.VE.Un
open Go.VE
section
variable (m : Zb) (hm : Clo m) (hsm : Z2 m) (hc : Yr m = none) (p : Int) (nd : V) (hnd : Zk 0 nd = true) (n : Nat) (e0 e1 e4 e5 e6 e7 : List V)
include hm hsm hc hnd in
set_option maxHeartbeats 1000000 in
theorem ZmD{β:Type}(i:Int)(x:Zs)(hg:JD m n i x)(hi:0≤i)(k0:x.Kind.n=0)(P:List (Bool ×Sl))(hP:P.length=n+1)(s:Sl)(kv:V→Zg→Option β):rwK vp 0 [.arr e0,.arr e1,.arr [wkV m p nd (.gsl 3 (n+1) 2 0 (n+1))],.arr (P.map plV),.arr e4,.arr e5,.arr e6,.arr e7] 171 [.ptr 2 1 0 0,.int .i64 i,x.v,sV s] kv=
 kv (wrO (UC m p i x P s).1) [.arr e0,.arr e1,.arr [wkV m p nd (.gsl 3 (n+1) 2 0 (n+1))],.arr ((UC m p i x P s).2.map plV),.arr e4,.arr e5,.arr e6,.arr e7]:=by
 obtain⟨t,ht⟩:=Zzn hg.nm k0
 have htc:=Xc (ZbZ hm) ht
 obtain⟨ta,tb⟩:=Za3 hc ht
 have hky:=ZrW t.Keys s
 have hn:=hg.no (by omega)
 have hy:=hg.yes
 have hap:UC m p i x P s=if 0≤JO t.Keys.l s then(some (p,i,JO t.Keys.l s,11),P)else WK m t.Default.Action.n x.Yes.n x.No.n s t.Actions.l P:=by unfold UC;rw[ht]
 obtain⟨fr,hl⟩:=Zqr m hm hsm p nd hnd n e0 e1 e4 e5 e6 e7 x t (by omega) hy.2 (by omega) hn.2 s tb t.Actions.l 0 P (by omega) (by omega) rfl hP
 have bP:=fun(P:List (Bool ×Sl))=>Yq (k:=8) (fun q=>Uy 8 q) P
 rw[hap]
 unfold rwK
 rw[K9 Zrc]
 by_cases hk:0≤JO t.Keys.l s
 ·rw[if_pos hk]
  have hgc:WP vp false [.arr e0,.arr e1,.arr [wkV m p nd (.gsl 3 (n+1) 2 0 (n+1))],.arr (P.map plV),.arr e4,.arr e5,.arr e6,.arr e7] (.ptr 10 1 0 0)
   [.arr e0,.arr e1,.arr [wkV m p nd (.gsl 3 (n+1) 2 0 (n+1))],.arr (P.map plV),.arr e4,.arr e5,.arr e6,.arr e7,.arr [x.v],.arr [t.v],.arr [wrV p i (JO t.Keys.l s) 11]]=(wrO (some (p,i,JO t.Keys.l s,11)),[.arr e0,.arr e1,.arr [wkV m p nd (.gsl 3 (n+1) 2 0 (n+1))],.arr (P.map plV),.arr e4,.arr e5,.arr e6,.arr e7]):=by
   rw[Qw (r':=wrO (some (p,i,JO t.Keys.l s,11))) Zes (by simp) (by
    rw[ZeB (by simp)]
    simp[wrO])]
   rfl
  unfold wrV at hgc
  simp -implicitDefEqProofs [f171,b171,Zf,ZC,ht,htc,hky,hk,hgc]
 ·rw[if_neg hk]
  generalize WK m t.Default.Action.n x.Yes.n x.No.n s t.Actions.l P=q at hl⊢
  obtain⟨o,P2⟩:=q
  cases o with
  |none=>
   have hgc:WP vp false [.arr e0,.arr e1,.arr [wkV m p nd (.gsl 3 (n+1) 2 0 (n+1))],.arr (P.map plV),.arr e4,.arr e5,.arr e6,.arr e7] .nilp
    [.arr e0,.arr e1,.arr [wkV m p nd (.gsl 3 (n+1) 2 0 (n+1))],.arr (P2.map plV),.arr e4,.arr e5,.arr e6,.arr e7,.arr [x.v],.arr [t.v]]=(wrO none,[.arr e0,.arr e1,.arr [wkV m p nd (.gsl 3 (n+1) 2 0 (n+1))],.arr (P2.map plV),.arr e4,.arr e5,.arr e6,.arr e7]):=by
    rw[Qw (r':=wrO none) Zes (by simp[bP]) (by simp[wrO])]
    rfl
   simp -implicitDefEqProofs [f171,b171,Zf,ht,htc,hky,hk,hl,hgc]
  |some w=>
   obtain⟨w1,w2,w3,w4⟩:=w
   have hgc:WP vp false [.arr e0,.arr e1,.arr [wkV m p nd (.gsl 3 (n+1) 2 0 (n+1))],.arr (P.map plV),.arr e4,.arr e5,.arr e6,.arr e7] (wrO (some (w1,w2,w3,w4)))
    [.arr e0,.arr e1,.arr [wkV m p nd (.gsl 3 (n+1) 2 0 (n+1))],.arr (P2.map plV),.arr e4,.arr e5,.arr e6,.arr e7,.arr [x.v],.arr [t.v]]=(wrO (some (w1,w2,w3,w4)),[.arr e0,.arr e1,.arr [wkV m p nd (.gsl 3 (n+1) 2 0 (n+1))],.arr (P2.map plV),.arr e4,.arr e5,.arr e6,.arr e7]):=by
    rw[Qw (r':=wrO (some (w1,w2,w3,w4))) Zes (by simp[bP]) (by simp[wrO,Ze])]
    rfl
   simp -implicitDefEqProofs [f171,b171,Zf,ht,htc,hky,hk,hl,hgc]
end
end Go.VE.Un
