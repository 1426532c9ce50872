/- Joined texts: CrL, CrM, CrN. No condition: what each theorem needs stands in it. -/
import Derived.Test.YtlekfkibeafdiaaGreatCc11
namespace Go.VE.Un
open Go.VE
theorem ZoF(m:Zb)(l:GL Vec)(q:GL I64)(hlen:l.l.length=q.l.length): ∀(r:List Vec) (t:List I64) (k:Int),0≤k→k≤l.l.length→l.l.drop k.toNat=r→q.l.drop k.toNat=t→(orc vp).loop 0 [2,7,8] ZfL [(2,GL.v 3 Vec.v l),(7,GL.v 1 I64.v q),(8,.int .i64 k)] [.arr [m.v]]=
 (if X8 r t=0 then some (.brk 0,[(2,GL.v 3 Vec.v l),(7,GL.v 1 I64.v q),(8,.int .i64 l.l.length),(23,.bool false)],[.arr [m.v]])else some (.ret,[(6,.int .i64 9)],[.arr [m.v]])):=by
 have hle:=l.le
 intro r
 induction r with
 |nil=>
  intro t k hk hkl hd hd2
  have hle:=Zq hk hd
  obtain⟨hlt,he⟩: ¬k<l.l.length∧k=l.l.length:=by and_intros<;>omega
  rw[ZiI]
  simp -implicitDefEqProofs [hlt,he,X8]
 |cons x r ih=>
  intro t k hk hkl hd hd2
  obtain⟨hg,hlt,hd'⟩:=Zp hk hd
  obtain⟨y,t',rfl⟩: ∃y t',t=y::t':=by
   cases t with
   |nil=>have:=Zq hk hd2;omega
   |cons y t'=>exact⟨y,t',rfl⟩
  obtain⟨hg2,hlt2,hd2'⟩:=Zp hk hd2
  have w1:=w64 (n:=k+1) (by omega)
  have ih:=ih t' (k+1) (by omega) (by omega) hd' hd2'
  have hm:=Kc x
  rw[ZiI]
  cases g:x.good with
  |false=>
   rw[g]at hm
   simp -implicitDefEqProofs [hlt,hg,hg2,hm,X8,g]
  |true=>
   rw[g]at hm
   by_cases c:x.W.n=y.n
   ·simp -implicitDefEqProofs [hlt,hg,hg2,hm,X8,g,c,w1,ih]
   ·simp -implicitDefEqProofs [hlt,hg,hg2,hm,X8,g,c]
theorem Zjp: ∀(r:List Vec) (t:List I64),X8 r t=0∨X8 r t=9
 |[],_=>.inl rfl
 |_::_,[]=>.inl rfl
 |v::r,p::q=>by
  simp only[X8]
  split
  ·exact Zjp r q
  ·exact .inr rfl
theorem Ze3(m:Zb)(i:Int)(a:Action)(hg:Zh m.Actions.l i=some a)(l:GL Vec):Zc vp 837 [m.v,.int .i64 i,GL.v 3 Vec.v l]=some (.int .i64 (WR m i l.l)):=by
 rw[Za ZxQ]
 unfold WR
 rw[hg]
 by_cases c:l.l.length=a.Params.l.length
 ·have c':(l.l.length:Int)=a.Params.l.length:=by omega
  have hl:=ZoF m l a.Params c l.l a.Params.l 0 (by omega) (by omega) rfl rfl
  by_cases d:X8 l.l a.Params.l=0
  ·rw[if_pos d]at hl
   simp -implicitDefEqProofs [hg,c,c',hl,d]
  ·rw[if_neg d]at hl
   have d9:=(Zjp l.l a.Params.l).resolve_left d
   simp -implicitDefEqProofs [hg,c,c',hl,d9]
 ·have c': ¬(l.l.length:Int)=a.Params.l.length:=by omega
  simp -implicitDefEqProofs [hg,c,c']
theorem Zk6(m:Zb)(looks:Bool)(k:Key):Vp m looks k=(if k.Kind.n≠0∧k.Kind.n≠1∧¬(k.Kind.n=2∧looks=true)then 10 else if(Xt m k).isSome=false∧k.Kind.n=2 then 7 else if(Xt m k).isSome=false then 5 else if k.Kind.n=1∧k.B.n≠0 then 7 else 0):=by
 unfold Vp inB
 cases looks<;>cases(Xt m k).isSome<;>by_cases h0:k.Kind.n=0<;>by_cases h1:k.Kind.n=1<;>by_cases h2:k.Kind.n=2<;>simp[h0,h1,h2]<;>try omega
 all_goals (by_cases h3:0≤k.Kind.n<;>by_cases h4:k.Kind.n≤2<;>simp[h3,h4]<;>omega)
theorem Zqc(m:Zb)(hm:Clo m)(hb:m.Insts.l.length≤10000000)(l:GL Key)(looks:Bool): ∀(r:List Key) (k:Int),0≤k→k≤l.l.length→l.l.drop k.toNat=r→∃h,(orc vp).loop 0 [1,2,3,7] Zg0 [(1,GL.v 3 Key.v l),(2,.bool looks),(3,.ptr 0 1 0 0),(7,.int .i64 k)] [.arr [m.v]]=
 (if Zx (Vp m looks) r=0 then some (.brk 0,[(1,GL.v 3 Key.v l),(2,.bool looks),(3,.ptr 0 1 0 0),(7,.int .i64 l.l.length),(19,.bool false)],[.arr [m.v]])
  else some (.ret,[(6,.int .i64 (Zx (Vp m looks) r))],h)):=by
 have hle:=l.le
 intro r
 induction r with
 |nil=>
  intro k hk hkl hd
  refine⟨[],?_⟩
  have hle:=Zq hk hd
  obtain⟨hlt,he⟩: ¬k<l.l.length∧k=l.l.length:=by and_intros<;>omega
  rw[Zjn]
  simp -implicitDefEqProofs [hlt,he,Zx]
 |cons x r ih=>
  intro k hk hkl hd
  obtain⟨hg,hlt,hd'⟩:=Zp hk hd
  have w1:=w64 (n:=k+1) (by omega)
  replace ih:=ih (k+1) (by omega) (by omega) hd'
  obtain⟨h,ih⟩:=ih
  have hp:=Zni m x hm hb
  have hs:=Zk6 m looks x
  have hst:Zx (Vp m looks) (x::r)=if Vp m looks x=0 then Zx (Vp m looks) r else Vp m looks x:=rfl
  generalize Zx (Vp m looks) r=S at*
  generalize Vp m looks x=E at*
  rw[hst,Zjn]
  by_cases c0:x.Kind.n=0
  ·cases d:(Xt m x).isSome with
   |false=>
    rw[d]at hp hs
    simp[c0]at hs
    subst hs
    refine⟨_,by simp -implicitDefEqProofs [hlt,hg,c0,hp];rfl⟩
   |true=>
    rw[d]at hp hs
    simp[c0]at hs
    subst hs
    refine⟨h,?_⟩
    rw[if_pos rfl]
    by_cases d:S=0<;>simp only[d,eq_self,if_true,if_false]at ih⊢ <;>
    simp -implicitDefEqProofs [hlt,hg,c0,hp,w1,ih]
  ·by_cases c1:x.Kind.n=1
   ·cases d:(Xt m x).isSome with
    |false=>
     rw[d]at hp hs
     simp[c1]at hs
     subst hs
     refine⟨_,by simp -implicitDefEqProofs [hlt,hg,c1,hp];rfl⟩
    |true=>
     rw[d]at hp hs
     by_cases c2:x.B.n=0
     ·simp[c1,c2]at hs
      subst hs
      refine⟨h,?_⟩
      rw[if_pos rfl]
      by_cases d:S=0<;>simp only[d,eq_self,if_true,if_false]at ih⊢ <;>
      simp -implicitDefEqProofs [hlt,hg,c1,c2,hp,w1,ih]
     ·simp[c1,c2]at hs
      subst hs
      refine⟨_,by simp -implicitDefEqProofs [hlt,hg,c1,c2,hp];rfl⟩
   ·by_cases c2:x.Kind.n=2
    ·cases looks with
     |false=>
      simp[c2]at hs
      subst hs
      refine⟨_,by simp -implicitDefEqProofs [hlt,hg,c2];rfl⟩
     |true=>
      cases d:(Xt m x).isSome with
      |false=>
       rw[d]at hp hs
       simp[c2]at hs
       subst hs
       refine⟨_,by simp -implicitDefEqProofs [hlt,hg,c2,hp];rfl⟩
      |true=>
       rw[d]at hp hs
       simp[c2]at hs
       subst hs
       refine⟨h,?_⟩
       rw[if_pos rfl]
       by_cases d:S=0<;>simp only[d,eq_self,if_true,if_false]at ih⊢ <;>
       simp -implicitDefEqProofs [hlt,hg,c2,hp,w1,ih]
    ·simp[c0,c1,c2]at hs
     subst hs
     refine⟨_,by simp -implicitDefEqProofs [hlt,hg,c0,c1,c2];rfl⟩
theorem Zit(m:Zb)(hm:Clo m)(hb:m.Insts.l.length≤10000000)(l:GL Key)(looks:Bool):Zc vp 839 [m.v,GL.v 3 Key.v l,.bool looks]=some (.int .i64 (QW m l.l looks)):=by
 have hk:=ZiN m l hm hb
 obtain⟨h,hl⟩:=Zqc m hm hb l looks l.l 0 (by omega) (by omega) rfl
 rw[Za ZwP]
 unfold QW
 by_cases c:4<l.l.length
 ·have c':(4:Int)<l.l.length:=by omega
  simp -implicitDefEqProofs [c,c']
 ·have c': ¬(4:Int)<l.l.length:=by omega
  rw[if_neg c]
  by_cases d:Zx (Vp m looks) l.l=0
  ·rw[if_pos d]at hl
   cases e:(WW m l.l 0).isSome<;>rw[e]at hk<;>simp -implicitDefEqProofs [c',hl,d,hk,Zl]
  ·rw[if_neg d]at hl
   simp -implicitDefEqProofs [c',hl,d]
theorem Zjc(m:Zb)(n:Int):Zc vp 840 [m.v,.int .i64 n]=some (.bool (inB n (-2) (m.States.l.length-1))):=by
 rw[Za Zw7]
 by_cases c: -2≤n
 ·by_cases d:n<m.States.l.length
  ·have e:inB n (-2) (m.States.l.length-1)=true:=by unfold inB;simp;omega
   simp -implicitDefEqProofs [c,d,e]
  ·have e:inB n (-2) (m.States.l.length-1)=false:=Zr.2 (.inr (by omega))
   simp -implicitDefEqProofs [c,d,e]
 ·have e:inB n (-2) (m.States.l.length-1)=false:=Zr.2 (.inl (by omega))
  simp -implicitDefEqProofs [c,e]
def Jx(m:Zb):Prop:= ∀x∈m.Insts.l,0≤x.Header.n∧x.Header.n<m.Headers.l.length
theorem Zkn{m:Zb}(hh:Jx m)(s:Int):ZKt m s=(ofI m.Insts.l s).map fun r=>(r.1,r.2.2):=by
 unfold ZKt Xl Wf
 cases ho:ofI m.Insts.l s with
 |none=>rfl
 |some r=>
  obtain⟨i,j,x⟩:=r
  have hx:Zh m.Insts.l i=some x:=by
   unfold ofI at ho
   split at ho
   ·simp at ho
   ·exact QI (Int.le_refl 0) rfl ho
  have h:=hh x (Y9 hx)
  rcases Zm m.Headers.l x.Header.n with⟨a,_,_,hg⟩|⟨h2,_⟩
  ·simp[hg]
  ·omega
theorem ZqP(m:Zb)(hh:Jx m)(hb:m.Insts.l.length≤10000000)(x:Ext):Zc vp 838 [m.v,x.v]=some (.int .i64 (WY m x)):=by
 have hsl:=Zal m.Insts hb
 have hst: ∃a b,Zc vp 835 [m.v,.int .i64 x.N.n]=some (.tup [.int .i64 a,.int .i64 b,.bool (Z8 m x.N.n).isSome]):=by
  have:=Qf m x.N.n hb
  cases hs:Z8 m x.N.n with
  |none=>rw[hs]at this;exact⟨0,0,this⟩
  |some q=>obtain⟨a,b⟩:=q;rw[hs]at this;exact⟨a,b,this⟩
 obtain⟨sa,sb,hst⟩:=hst
 have hi:=Zkn hh x.N.n
 rw[Za Zw8]
 unfold WY
 by_cases c0:x.Kind.n=0
 ·rw[if_pos c0,hi]
  unfold ofI
  by_cases d0:x.N.n<0
  ·rw[if_pos d0]
   simp -implicitDefEqProofs [c0,hsl,d0,Zl]
  ·rw[if_neg d0]
   have hg:=ZbX 0 m.Insts.l x.N.n (by omega)
   generalize Wy 0 m.Insts.l=sp at*
   cases ho:ofR m.Insts.l 0 x.N.n with
   |none=>
    rw[ho]at hg
    rcases Zm sp x.N.n with⟨a,_,_,h⟩|⟨h,_⟩
    ·rw[h]at hg;simp at hg
    ·have h:(sp.length:Int)≤x.N.n:=by omega
     simp -implicitDefEqProofs [c0,hsl,d0,h,Zl]
   |some r=>
    obtain⟨i,j,y⟩:=r
    rw[ho]at hg
    have hx:Zh m.Insts.l i=some y:=QI (Int.le_refl 0) rfl ho
    have h:=Ul hg
    have h': ¬(sp.length:Int)≤x.N.n:=by omega
    by_cases e:y.Depth.n=0<;>simp -implicitDefEqProofs [c0,hsl,d0,h',hg,hx,XA,e,Zl,iaddrA]
 ·rw[if_neg c0]
  by_cases c1:x.Kind.n=1
  ·rw[if_pos c1]
   cases e:(Z8 m x.N.n).isSome<;>rw[e]at hst<;>simp -implicitDefEqProofs [c1,hst,Zl]
  ·rw[if_neg c1]
   by_cases c2:x.Kind.n=2
   ·rw[if_pos c2]
    by_cases d1:x.N.n<1
    ·have e:inB x.N.n 1 64=false:=Zr.2 (.inl d1)
     simp -implicitDefEqProofs [c2,d1,e,Zl]
    ·by_cases d2:64<x.N.n
     ·have e:inB x.N.n 1 64=false:=Zr.2 (.inr d2)
      simp -implicitDefEqProofs [c2,d1,d2,e,Zl]
     ·have e:inB x.N.n 1 64=true:=by unfold inB;simp;omega
      simp -implicitDefEqProofs [c2,d1,d2,e,Zl]
   ·rw[if_neg c2]
    simp -implicitDefEqProofs [c0,c1,c2]
end Go.VE.Un
namespace Go.VE.Un
open Go.VE
theorem Zj3(m:Zb)(hh:Jx m)(hb:m.Insts.l.length≤10000000)(s:ZJ): ∀(r:List Ext) (k:Int),0≤k→k≤s.Exts.l.length→s.Exts.l.drop k.toNat=r→∃h,(orc vp).loop 0 [2,3,5] ZhK [(2,.ptr 0 1 0 0),(3,.ptr 1 1 0 0),(5,.int .i64 k)] [.arr [m.v],.arr [s.v]]=
 (if Zx (WY m) r=0 then some (.brk 0,[(2,.ptr 0 1 0 0),(3,.ptr 1 1 0 0),(5,.int .i64 s.Exts.l.length),(22,.bool false)],[.arr [m.v],.arr [s.v]])
  else some (.ret,[(4,.int .i64 (Zx (WY m) r))],h)):=by
 have hle:=s.Exts.le
 intro r
 induction r with
 |nil=>
  intro k hk hkl hd
  refine⟨[],?_⟩
  have hle:=Zq hk hd
  obtain⟨hlt,he⟩: ¬k<s.Exts.l.length∧k=s.Exts.l.length:=by and_intros<;>omega
  rw[Zi1]
  simp -implicitDefEqProofs [hlt,he,Zx]
 |cons x r ih=>
  intro k hk hkl hd
  obtain⟨hg,hlt,hd'⟩:=Zp hk hd
  have w1:=w64 (n:=k+1) (by omega)
  replace ih:=ih (k+1) (by omega) (by omega) hd'
  obtain⟨h,ih⟩:=ih
  have hx:=ZqP m hh hb x
  have hst:Zx (WY m) (x::r)=if WY m x=0 then Zx (WY m) r else WY m x:=rfl
  generalize Zx (WY m) r=S at*
  generalize WY m x=E at*
  rw[hst,Zi1]
  by_cases c:E=0
  ·subst c
   refine⟨h,?_⟩
   rw[if_pos rfl]
   by_cases d:S=0<;>simp only[d,eq_self,if_true,if_false]at ih⊢ <;>
   simp -implicitDefEqProofs [hlt,hg,hx,w1,ih]
  ·refine⟨[.arr [m.v],.arr [s.v]],?_⟩
   simp -implicitDefEqProofs [hlt,hg,hx,c]
theorem ZlL{m:Zb}{x:Z7}{w:Int}(h: ¬(x.Value.good=true∧x.Mask.good=true∧x.Value.W.n=w∧x.Mask.W.n=w)):Vx m x w=9:=by unfold Vx;rw[if_neg h]
theorem Zkz(m:Zb)(s:ZJ)(w:Int): ∀(r:List Z7) (k:Int),0≤k→k≤s.Cases.l.length→s.Cases.l.drop k.toNat=r→∃h,(orc vp).loop 0 [2,3,8,10] Zhs [(2,.ptr 0 1 0 0),(3,.ptr 1 1 0 0),(8,.int .i64 w),(10,.int .i64 k)] [.arr [m.v],.arr [s.v]]=
 (if Zx (fun x=>Vx m x w) r=0 then some (.brk 2,[(2,.ptr 0 1 0 0),(3,.ptr 1 1 0 0),(8,.int .i64 w),(10,.int .i64 s.Cases.l.length),(67,.bool false)],[.arr [m.v],.arr [s.v]])
  else some (.ret,[(4,.int .i64 (Zx (fun x=>Vx m x w) r))],h)):=by
 have hle:=s.Cases.le
 intro r
 induction r with
 |nil=>
  intro k hk hkl hd
  refine⟨[],?_⟩
  have hle:=Zq hk hd
  obtain⟨hlt,he⟩: ¬k<s.Cases.l.length∧k=s.Cases.l.length:=by and_intros<;>omega
  rw[ZiV]
  simp -implicitDefEqProofs [hlt,he,Zx]
 |cons x r ih=>
  intro k hk hkl hd
  obtain⟨hg,hlt,hd'⟩:=Zp hk hd
  have w1:=w64 (n:=k+1) (by omega)
  replace ih:=ih (k+1) (by omega) (by omega) hd'
  obtain⟨h,ih⟩:=ih
  have hst:Zx (fun x=>Vx m x w) (x::r)=if Vx m x w=0 then Zx (fun x=>Vx m x w) r else Vx m x w:=rfl
  have hE:=Eq.refl (Vx m x w)
  conv at hE=>rhs;unfold Vx
  have hbad:=ZlL (m:=m) (x:=x) (w:=w)
  have m1:=Kc x.Value
  have m2:=Kc x.Mask
  have ha:=Zhq x.Value x.Mask
  have hn:=Zjc m x.Next.n
  have heq:=Vec.eqv (U4 x.Value x.Mask).1 x.Value
  generalize Zx (fun x=>Vx m x w) r=S at*
  generalize Vx m x w=E at*
  simp only[WO]at ha
  rw[hst,ZiV]
  by_cases g1:x.Value.good=true
  ·by_cases g2:x.Mask.good=true
   ·by_cases g3:x.Value.W.n=w
    ·by_cases g4:x.Mask.W.n=w
     ·rw[if_pos ⟨g1,g2,g3,g4⟩]at hE
      rw[g1]at m1;rw[g2]at m2
      by_cases g5:(U4 x.Value x.Mask).1.same x.Value=true
      ·by_cases g6:inB x.Next.n (-2) (m.States.l.length-1)=true
       ·have hE0:E=0:=by rw[hE];simp[ZI,Zl,g5,UX,g6]
        rw[g6]at hn
        subst hE0
        refine⟨h,?_⟩
        rw[if_pos rfl]
        by_cases d:S=0<;>simp only[d,eq_self,if_true,if_false]at ih⊢ <;>
        simp -implicitDefEqProofs [hlt,hg,m1,m2,g3,g4,ha,heq,g5,hn,U2,w1,ih]
       ·simp only[Bool.not_eq_true]at g6
        have hE0:E=5:=by rw[hE];simp[ZI,Zl,g5,UX,g6]
        rw[g6]at hn
        subst hE0
        refine⟨_,by simp -implicitDefEqProofs [hlt,hg,m1,m2,g3,g4,ha,heq,g5,hn,U2];rfl⟩
      ·simp only[Bool.not_eq_true]at g5
       have hE0:E=14:=by rw[hE];simp[ZI,Zl,g5]
       subst hE0
       refine⟨_,by simp -implicitDefEqProofs [hlt,hg,m1,m2,g3,g4,ha,heq,g5,U2];rfl⟩
     ·have hE0:=hbad fun q=>g4 q.2.2.2
      subst hE0
      rw[g1]at m1;rw[g2]at m2
      refine⟨_,by simp -implicitDefEqProofs [hlt,hg,m1,m2,g3,g4];rfl⟩
    ·have hE0:=hbad fun q=>g3 q.2.2.1
     subst hE0
     rw[g1]at m1;rw[g2]at m2
     refine⟨_,by simp -implicitDefEqProofs [hlt,hg,m1,m2,g3];rfl⟩
   ·have hE0:=hbad fun q=>g2 q.2.1
    simp only[Bool.not_eq_true]at g2
    subst hE0
    rw[g1]at m1;rw[g2]at m2
    refine⟨_,by simp -implicitDefEqProofs [hlt,hg,m1,m2];rfl⟩
  ·have hE0:=hbad fun q=>g1 q.1
   simp only[Bool.not_eq_true]at g1
   subst hE0
   rw[g1]at m1
   refine⟨_,by simp -implicitDefEqProofs [hlt,hg,m1];rfl⟩
def stN(m:Zb)(s:ZJ):Int:=
 if 4<s.Exts.l.length then 2 else if Zx (WY m) s.Exts.l≠0 then Zx (WY m) s.Exts.l else if QW m s.Keys.l true≠0 then QW m s.Keys.l true else if 8<s.Cases.l.length then 2
 else if s.Cases.l.length≠0∧s.Keys.l.length=0 then 4 else if stO m s≠0 then stO m s else UX m s.Next.n
theorem Zly(m:Zb)(hm:Clo m)(hh:Jx m)(hb:m.Insts.l.length≤10000000)(s:ZJ):Zc vp 845 [m.v,s.v]=some (.int .i64 (stN m s)):=by
 obtain⟨h1,l1⟩:=Zj3 m hh hb s s.Exts.l 0 (by omega) (by omega) rfl
 have hk:=Zit m hm hb s.Keys true
 have hw:=ZiN m s.Keys hm hb
 obtain⟨h0,l0⟩:=Zkz m s ((WW m s.Keys.l 0).getD 0) s.Cases.l 0 (by omega) (by omega) rfl
 have hn:=Zjc m s.Next.n
 unfold stN
 have ho:stO m s=Zx (fun x=>Vx m x ((WW m s.Keys.l 0).getD 0)) s.Cases.l:=rfl
 rw[←ho]at l0
 generalize stO m s=O at*
 generalize Zx (WY m) s.Exts.l=X at*
 generalize QW m s.Keys.l true=K at*
 generalize (WW m s.Keys.l 0).getD 0=w at*
 rw[Za ZwN]
 by_cases c1:4<s.Exts.l.length
 ·have c1':(4:Int)<s.Exts.l.length:=by omega
  rw[if_pos c1]
  simp -implicitDefEqProofs [c1']
 ·have c1': ¬(4:Int)<s.Exts.l.length:=by omega
  rw[if_neg c1]
  by_cases c2:X=0
  ·rw[if_pos c2]at l1
   rw[if_neg (by simpa using c2)]
   by_cases c3:K=0
   ·rw[if_neg (by simpa using c3)]
    rw[c3]at hk
    by_cases c4:8<s.Cases.l.length
    ·have c4':(8:Int)<s.Cases.l.length:=by omega
     rw[if_pos c4]
     simp -implicitDefEqProofs [c1',l1,hk,c4']
    ·have c4': ¬(8:Int)<s.Cases.l.length:=by omega
     rw[if_neg c4]
     by_cases c5:s.Cases.l.length=0
     ·have c5':(0<s.Cases.l.length)=False:=eq_false (by omega)
      have e0:O=0:=by
       have:s.Cases.l=[]:=List.length_eq_zero_iff.1 c5
       rw[this]at ho;rw[ho];rfl
      rw[if_neg (by simp[c5]),if_neg (by simpa using e0)]
      rw[if_pos e0]at l0
      cases c6:inB s.Next.n (-2) (m.States.l.length-1)<;>rw[c6]at hn<;>simp -implicitDefEqProofs [c1',l1,hk,c4',c5',hw,l0,hn,UX,Zl,c6]
     ·have c5':(0<s.Cases.l.length)=True:=eq_true (by omega)
      by_cases c6:s.Keys.l=[]
      ·rw[if_pos ⟨c5,by rw[c6];rfl⟩]
       simp -implicitDefEqProofs [c1',l1,hk,c4',c5',c6]
      ·rw[if_neg (by simp[c6])]
       by_cases c7:O=0
       ·rw[if_pos c7]at l0
        rw[if_neg (by simpa using c7)]
        cases c8:inB s.Next.n (-2) (m.States.l.length-1)<;>rw[c8]at hn<;>simp -implicitDefEqProofs [c1',l1,hk,c4',c5',c6,hw,l0,hn,UX,Zl,c8]
       ·rw[if_neg c7]at l0
        rw[if_pos (by simpa using c7)]
        simp -implicitDefEqProofs [c1',l1,hk,c4',c5',c6,hw,l0]
   ·rw[if_pos (by simpa using c3)]
    simp -implicitDefEqProofs [c1',l1,hk,c3]
  ·rw[if_neg c2]at l1
   rw[if_pos (by simpa using c2)]
   simp -implicitDefEqProofs [c1',l1]
theorem Zj4(m:Zb)(t:ZD)(a i:Int)(own:V)(hi:0≤i)(hil:i≤t.Actions.l.length): ∀(r:List I64) (k:Int),0≤k→k≤i→(t.Actions.l.take i.toNat).drop k.toNat=r→(orc vp).loop 0 [2,3,6,7,8,9] Zgy [(2,.ptr 0 1 0 0),(3,.ptr 1 1 0 0),(6,own),(7,.int .i64 i),(8,.int .i64 a),(9,.int .i64 k)] [.arr [m.v],.arr [t.v]]=
 (if a∈r.map (·.n)then some (.ret,[(4,.int .i64 6)],[.arr [m.v],.arr [t.v]])else some (.brk 2,[(2,.ptr 0 1 0 0),(3,.ptr 1 1 0 0),(6,own),(7,.int .i64 i),(8,.int .i64 a),(9,.int .i64 i),(56,.bool false)],[.arr [m.v],.arr [t.v]])):=by
 have hle:=t.Actions.le
 intro r
 induction r with
 |nil=>
  intro k hk hkl hd
  have hle:=Zq hk hd
  have hlt: ¬k<i:=by simp at hle;omega
  have he:k=i:=by omega
  rw[Zjb]
  simp -implicitDefEqProofs [hlt,he]
 |cons y r ih=>
  intro k hk hkl hd
  obtain⟨hg,hlt,hd'⟩:=Zp hk hd
  have hlt:k<i:=by simp at hlt;omega
  rw[WT hk hlt]at hg
  have w1:=w64 (n:=k+1) (by omega)
  have ih:=ih (k+1) (by omega) (by omega) hd'
  rw[Zjb]
  by_cases c:y.n=a
  ·simp -implicitDefEqProofs [hlt,hg,c]
  ·have c': ¬a=y.n:=fun e=>c e.symm
   by_cases d:a∈r.map (·.n)
   ·rw[if_pos d]at ih
    rw[if_pos (by simp only[List.map_cons,List.mem_cons];exact .inr d)]
    simp -implicitDefEqProofs [hlt,hg,c,w1,ih]
   ·rw[if_neg d]at ih
    rw[if_neg (by simp only[List.map_cons,List.mem_cons];exact fun e=>e.elim c' d)]
    simp -implicitDefEqProofs [hlt,hg,c,w1,ih]
theorem Zkq(m:Zb)(t:ZD): ∀(r:List I64) (k:Int) (own:Bool),0≤k→k≤t.Actions.l.length→t.Actions.l.drop k.toNat=r→∃h,(orc vp).loop 0 [2,3,6,7] Zgo [(2,.ptr 0 1 0 0),(3,.ptr 1 1 0 0),(6,.bool own),(7,.int .i64 k)] [.arr [m.v],.arr [t.v]]=
 (if Y2 m t.Actions.l r k=0 then some (.brk 0,[(2,.ptr 0 1 0 0),(3,.ptr 1 1 0 0),(6,.bool (own||decide (t.Default.Action.n∈r.map (·.n)))),(7,.int .i64 t.Actions.l.length),(37,.bool false)],[.arr [m.v],.arr [t.v]])
  else some (.ret,[(4,.int .i64 (Y2 m t.Actions.l r k))],h)):=by
 have hle:=t.Actions.le
 intro r
 induction r with
 |nil=>
  intro k own hk hkl hd
  refine⟨[],?_⟩
  have hle:=Zq hk hd
  obtain⟨hlt,he⟩: ¬k<t.Actions.l.length∧k=t.Actions.l.length:=by and_intros<;>omega
  rw[Ziw]
  simp -implicitDefEqProofs [hlt,he,Y2]
 |cons x r ih=>
  intro k own hk hkl hd
  obtain⟨hg,hlt,hd'⟩:=Zp hk hd
  have w1:=w64 (n:=k+1) (by omega)
  replace ih:=fun own=>ih (k+1) own (by omega) (by omega) hd'
  have hi:=fun own=>Zj4 m t x.n k own hk hkl _ 0 (by omega) hk rfl
  simp only[show(0:Int).toNat=0 from rfl,List.drop_zero]at hi
  have hst:Y2 m t.Actions.l (x::r) k=if inB x.n 0 (m.Actions.l.length-1)=false then 5 else if(x.n∈(t.Actions.l.take k.toNat).map (·.n))then 6 else Y2 m t.Actions.l r (k+1):=rfl
  have hown: ∀b:Bool,(b||decide (t.Default.Action.n∈(x::r).map (·.n)))=((b||decide (x.n=t.Default.Action.n))||decide (t.Default.Action.n∈r.map (·.n))):=fun b=>by
   rw[Bool.eq_iff_iff]
   simp only[List.map_cons,List.mem_cons,Bool.or_eq_true,decide_eq_true_eq]
   constructor
   ·rintro(h|h|h)
    ·exact .inl (.inl h)
    ·exact .inl (.inr h.symm)
    ·exact .inr h
   ·rintro((h|h)|h)
    ·exact .inl h
    ·exact .inr (.inl h.symm)
    ·exact .inr (.inr h)
  rw[hown own]
  generalize Y2 m t.Actions.l r (k+1)=S at*
  rw[hst,Ziw]
  by_cases c1:x.n<0
  ·have e:inB x.n 0 (m.Actions.l.length-1)=false:=Zr.2 (.inl c1)
   rw[if_pos e]
   refine⟨_,by simp -implicitDefEqProofs [hlt,hg,c1];rfl⟩
  ·by_cases c2:(m.Actions.l.length:Int)≤x.n
   ·have e:inB x.n 0 (m.Actions.l.length-1)=false:=Zr.2 (.inr (by omega))
    rw[if_pos e]
    refine⟨_,by simp -implicitDefEqProofs [hlt,hg,c1,c2];rfl⟩
   ·have e: ¬inB x.n 0 (m.Actions.l.length-1)=false:=by unfold inB;simp;omega
    rw[if_neg e]
    by_cases c3:x.n∈(t.Actions.l.take k.toNat).map (·.n)
    ·have hi:=fun own=>(hi own).trans (if_pos c3)
     rw[if_pos c3]
     refine⟨_,by simp -implicitDefEqProofs [hlt,hg,c1,c2,hi];rfl⟩
    ·have hi:=fun own=>(hi own).trans (if_neg c3)
     rw[if_neg c3]
     cases own with
     |true=>
      obtain⟨h,ih⟩:=ih true
      refine⟨h,?_⟩
      simp only[Bool.true_or]at ih⊢
      by_cases d:S=0<;>simp only[d,eq_self,if_true,if_false]at ih⊢ <;>
      simp -implicitDefEqProofs [hlt,hg,c1,c2,hi,w1,ih]
     |false=>
      by_cases c4:x.n=t.Default.Action.n
      ·obtain⟨h,ih⟩:=ih true
       refine⟨h,?_⟩
       have c4':decide (x.n=t.Default.Action.n)=true:=by simp[c4]
       rw[c4']
       simp only[Bool.or_true,Bool.true_or]at ih⊢
       by_cases d:S=0<;>simp only[d,eq_self,if_true,if_false]at ih⊢ <;>
       simp -implicitDefEqProofs [hlt,hg,c1,c2,hi,w1,ih,c4',-decide_eq_true_eq]
      ·obtain⟨h,ih⟩:=ih false
       refine⟨h,?_⟩
       have c4':decide (x.n=t.Default.Action.n)=false:=by simp[c4]
       rw[c4']
       simp only[Bool.or_false,Bool.false_or]at ih⊢
       by_cases d:S=0<;>simp only[d,eq_self,if_true,if_false]at ih⊢ <;>
       simp -implicitDefEqProofs [hlt,hg,c1,c2,hi,w1,ih,c4',-decide_eq_false_iff_not]
end Go.VE.Un
namespace Go.VE.Un
open Go.VE
def Zk1(m:Zb)(t:ZD):Int:=
 if inB t.Kind.n 0 3=false then 10 else if t.Keys.l.length=0 then 5 else if QW m t.Keys.l false≠0 then QW m t.Keys.l false else if 8<t.Actions.l.length then 2
 else if Y2 m t.Actions.l t.Actions.l 0≠0 then Y2 m t.Actions.l t.Actions.l 0 else if t.Actions.l.length=0 then 5 else if decide (t.Default.Action.n∈t.Actions.l.map (·.n))=false then 16
 else if WR m t.Default.Action.n t.Default.Args.l≠0 then WR m t.Default.Action.n t.Default.Args.l else if inB t.Size.n 1 256=false then 7 else 0
theorem Zbs(m:Zb)(l:List I64): ∀(r:List I64) (i:Int),Y2 m l r i=0→∀x∈r,0≤x.n∧x.n<m.Actions.l.length
 |[],_,_,x,h=>by simp at h
 |y::r,i,h,x,hx=>by
  simp only[Y2]at h
  split at h
  ·simp at h
  ·rename_i h1
   split at h
   ·simp at h
   ·rcases List.mem_cons.1 hx with rfl|hx
    ·simp[inB]at h1;omega
    ·exact Zbs m l r (i+1) h x hx
theorem Zk2(m:Zb)(hm:Clo m)(hb:m.Insts.l.length≤10000000)(t:ZD):Zc vp 847 [m.v,t.v]=some (.int .i64 (Zk1 m t)):=by
 have hk:=Zit m hm hb t.Keys false
 obtain⟨h1,l1⟩:=Zkq m t t.Actions.l 0 false (by omega) (by omega) rfl
 have hin:=Zbs m t.Actions.l t.Actions.l 0
 have hz:t.Actions.l.length=0→Y2 m t.Actions.l t.Actions.l 0=0:=fun h=>by rw[List.length_eq_zero_iff.1 h];rfl
 have ha:t.Default.Action.n∈t.Actions.l.map (·.n)→Y2 m t.Actions.l t.Actions.l 0=0→Zc vp 837 [m.v,.int .i64 t.Default.Action.n,GL.v 3 Vec.v t.Default.Args]=some (.int .i64 (WR m t.Default.Action.n t.Default.Args.l)):=fun h e=>by
  obtain⟨x,hx,e2⟩:=List.mem_map.1 h
  have h:=hin e x hx
  rw[e2]at h
  rcases Zm m.Actions.l t.Default.Action.n with⟨a,_,_,hg⟩|⟨h2,_⟩
  ·exact Ze3 m _ a hg _
  ·omega
 rw[Bool.false_or]at l1
 unfold Zk1
 generalize Y2 m t.Actions.l t.Actions.l 0=C at*
 generalize QW m t.Keys.l false=K at*
 generalize WR m t.Default.Action.n t.Default.Args.l=A at*
 rw[Za Zx9]
 by_cases c1:t.Kind.n<0
 ·rw[if_pos (Zr.2 (.inl c1))]
  simp -implicitDefEqProofs [c1]
 by_cases c2:3<t.Kind.n
 ·rw[if_pos (Zr.2 (.inr c2))]
  simp -implicitDefEqProofs [c1,c2]
 rw[if_neg (by unfold inB;simp;omega)]
 by_cases c3:t.Keys.l=[]
 ·rw[if_pos (by rw[c3];rfl)]
  simp -implicitDefEqProofs [c1,c2,c3]
 rw[if_neg (by simpa using c3)]
 by_cases c4:K=0
 ·rw[if_neg (by simpa using c4)]
  rw[c4]at hk
  by_cases c5:8<t.Actions.l.length
  ·have c5':(8:Int)<t.Actions.l.length:=by omega
   rw[if_pos c5]
   simp -implicitDefEqProofs [c1,c2,c3,hk,c5']
  ·have c5': ¬(8:Int)<t.Actions.l.length:=by omega
   rw[if_neg c5]
   by_cases c6:C=0
   ·rw[if_neg (by simpa using c6)]
    rw[if_pos c6]at l1
    by_cases c7:t.Actions.l=[]
    ·rw[if_pos (by rw[c7];rfl)]
     rw[c7]at l1
     simp -implicitDefEqProofs at l1
     simp -implicitDefEqProofs [c1,c2,c3,hk,c5',l1,c7]
    ·rw[if_neg (by simpa using c7)]
     by_cases c8:t.Default.Action.n∈t.Actions.l.map (·.n)
     ·have hA:=ha c8 c6
      rw[decide_eq_true c8]at l1⊢
      rw[if_neg (by simp)]
      by_cases c9:A=0
      ·rw[if_neg (by simpa using c9)]
       rw[c9]at hA
       by_cases d1:t.Size.n<1
       ·rw[if_pos (Zr.2 (.inl d1))]
        simp -implicitDefEqProofs [c1,c2,c3,hk,c5',l1,c7,hA,d1]
       ·by_cases d2:256<t.Size.n
        ·rw[if_pos (Zr.2 (.inr d2))]
         simp -implicitDefEqProofs [c1,c2,c3,hk,c5',l1,c7,hA,d1,d2]
        ·rw[if_neg (by unfold inB;simp;omega)]
         simp -implicitDefEqProofs [c1,c2,c3,hk,c5',l1,c7,hA,d1,d2]
      ·rw[if_pos (by simpa using c9)]
       simp -implicitDefEqProofs [c1,c2,c3,hk,c5',l1,c7,hA,c9]
     ·rw[decide_eq_false c8]at l1⊢
      rw[if_pos rfl]
      simp -implicitDefEqProofs [c1,c2,c3,hk,c5',l1,c7]
   ·rw[if_pos (by simpa using c6)]
    rw[if_neg c6]at l1
    simp -implicitDefEqProofs [c1,c2,c3,hk,c5',l1]
 ·rw[if_pos (by simpa using c4)]
  simp -implicitDefEqProofs [c1,c2,c3,hk,c4]
theorem Jn(a b c:Int):Zl (decide (a+1≤b)&&decide (b≤c)) 12=if b≤a∨c<b then 12 else 0:=by
 unfold Zl
 by_cases h1:b≤a
 ·have e:(decide (a+1≤b)&&decide (b≤c))=false:=by simp;omega
  simp[e,h1]
 ·by_cases h2:c<b
  ·have e:(decide (a+1≤b)&&decide (b≤c))=false:=by simp;omega
   simp[e,h2]
  ·have e:(decide (a+1≤b)&&decide (b≤c))=true:=by simp;omega
   simp[e,h1,h2]
theorem Zm7{f:Int}{a b c:Int}:ZI [f,Zl (decide (a+1≤b)&&decide (b≤c)) 12]=if f≠0 then f else if b≤a∨c<b then 12 else 0:=by
 rw[Jn]
 simp only[ZI]
 by_cases h:f=0
 ·subst h;simp
 ·simp[h]
set_option maxHeartbeats 4000000 in
theorem ZmK(m:Zb)(hm:Clo m)(hb:m.Insts.l.length≤10000000)(x:Zs)(i n:Int):Zc vp 841 [m.v,x.v,.int .i64 i,.int .i64 n]=some (.int .i64 (Wb m x i n)):=by
 have hs:=VU m x.A.n hm hb
 have hz:=Wg hm x.A.n
 have hc:=ZfC m hm hb x.Code 0
 have ha:0≤x.A.n→x.A.n<m.Actions.l.length→Zc vp 837 [m.v,.int .i64 x.A.n,GL.v 3 Vec.v x.Args]=some (.int .i64 (WR m x.A.n x.Args.l)):=fun h1 h2=>by
  rcases Zm m.Actions.l x.A.n with⟨a,_,_,hg⟩|⟨h2,_⟩
  ·exact Ze3 m _ a hg _
  ·omega
 have hE:Wb m x i n=if WU m x=0 then(if UV m x=0 then(if Qa m x i n≠0 then Qa m x i n else if x.Yes.n≤i∨n<x.Yes.n then 12 else 0)else UV m x)else WU m x:=by
  unfold Wb;rw[Zm7]
 rw[hE,Za ZxM]
 by_cases k1:x.Kind.n<0
 ·have e:WU m x=10:=by unfold WU;simp[ZI,Zl];omega
  rw[e]
  simp -implicitDefEqProofs [k1]
 by_cases k2:3<x.Kind.n
 ·have e:WU m x=10:=by unfold WU;simp[ZI,Zl];omega
  rw[e]
  simp -implicitDefEqProofs [k1,k2]
 have eA:WU m x=Zl (YZ m x) 5:=by
  unfold WU
  have:Zl (decide (0≤x.Kind.n)&&decide (x.Kind.n≤3)) 10=0:=by unfold Zl;rw[if_pos (by simp;omega)]
  rw[this];simp only[ZI,if_true];split<;>simp_all
 rw[eA]
 have hK:x.Kind.n=0∨x.Kind.n=1∨x.Kind.n=2∨x.Kind.n=3:=by omega
 have hy: ∃Y:Int,(if x.Yes.n≤i∨n<x.Yes.n then(12:Int)else 0)=Y∧((x.Yes.n≤i∧Y=12)∨(¬x.Yes.n≤i∧n<x.Yes.n∧Y=12)∨(¬x.Yes.n≤i∧¬n<x.Yes.n∧Y=0)):=by
  refine⟨_,rfl,?_⟩
  by_cases y1:x.Yes.n≤i
  ·exact .inl ⟨y1,if_pos (.inl y1)⟩
  ·by_cases y2:n<x.Yes.n
   ·exact .inr (.inl ⟨y1,y2,if_pos (.inr y2)⟩)
   ·exact .inr (.inr ⟨y1,y2,if_neg (by omega)⟩)
 obtain⟨Y,hY,hy⟩:=hy
 rw[hY]
 rcases hK with k|k|k|k
 ·
  have eB:UV m x=Zl x.Code.l.isEmpty 4:=by unfold UV;rw[if_neg (by omega)]
  have eC:Qa m x i n=if x.Args.l=[]then(if x.No.n≤i∨n<x.No.n then 12 else 0)else 4:=by
   unfold Qa;rw[if_neg (by omega),Jn];cases x.Args.l<;>simp[ZI,Zl]
   try (split<;>simp_all)
  have eN:YZ m x=inB x.A.n 0 (m.Tables.l.length-1):=by unfold YZ;rw[if_pos k]
  rw[eB,eC,eN]
  by_cases a1:x.A.n<0
  ·rw[Zr.2 (.inl a1)]
   simp -implicitDefEqProofs [k,hs,hz,Ye,a1,Zl]
  by_cases a2:(m.Tables.l.length:Int)≤x.A.n
  ·rw[Zr.2 (.inr (by omega))]
   simp -implicitDefEqProofs [k,hs,hz,Ye,a1,a2,Zl]
  have e1:inB x.A.n 0 (m.Tables.l.length-1)=true:=by unfold inB;simp;omega
  rw[e1]
  by_cases c1:x.Code.l=[]
  ·by_cases c2:x.Args.l=[]
   ·by_cases n1:x.No.n≤i
    ·simp -implicitDefEqProofs [k,hs,hz,Ye,a1,a2,Zl,c1,c2,n1]
    ·by_cases n2:n<x.No.n
     ·simp -implicitDefEqProofs [k,hs,hz,Ye,a1,a2,Zl,c1,c2,n1,n2]
     ·rcases hy with⟨y1,e⟩|⟨y1,y2,e⟩|⟨y1,y2,e⟩
      ·simp -implicitDefEqProofs [k,hs,hz,Ye,a1,a2,c1,c2,n1,n2,Zl,y1,e]
      ·simp -implicitDefEqProofs [k,hs,hz,Ye,a1,a2,c1,c2,n1,n2,Zl,y1,y2,e]
      ·simp -implicitDefEqProofs [k,hs,hz,Ye,a1,a2,c1,c2,n1,n2,Zl,y1,y2,e]
   ·have c2':(0<x.Args.l.length)=True:=eq_true (List.length_pos_iff.2 c2)
    simp -implicitDefEqProofs [k,hs,hz,Ye,a1,a2,Zl,c1,c2,c2']
  ·have c1':(0<x.Code.l.length)=True:=eq_true (List.length_pos_iff.2 c1)
   simp -implicitDefEqProofs [k,hs,hz,Ye,a1,a2,Zl,c1,c1']
 ·
  have eB:UV m x=Y3 m x.Code.l 0:=by unfold UV;rw[if_pos k]
  have eC:Qa m x i n=if x.Args.l=[]then(if x.No.n≤i∨n<x.No.n then 12 else 0)else 4:=by
   unfold Qa;rw[if_neg (by omega),Jn];cases x.Args.l<;>simp[ZI,Zl]
   try (split<;>simp_all)
  have eN:YZ m x=decide (x.A.n=0):=by unfold YZ;rw[if_neg (by omega),if_neg (by omega),if_pos k]
  rw[eB,eC,eN]
  generalize Y3 m x.Code.l 0=F at*
  by_cases a1:x.A.n=0
  ·by_cases c1:F=0
   ·subst c1
    by_cases c2:x.Args.l=[]
    ·by_cases n1:x.No.n≤i
     ·simp -implicitDefEqProofs [a1]at hs hz
      simp -implicitDefEqProofs [k,hs,hz,Ye,a1,Zl,hc,c2,n1]
     ·by_cases n2:n<x.No.n
      ·simp -implicitDefEqProofs [a1]at hs hz
       simp -implicitDefEqProofs [k,hs,hz,Ye,a1,Zl,hc,c2,n1,n2]
      ·simp -implicitDefEqProofs [a1]at hs hz
       rcases hy with⟨y1,e⟩|⟨y1,y2,e⟩|⟨y1,y2,e⟩
       ·simp -implicitDefEqProofs [k,hs,hz,Ye,a1,hc,c2,n1,n2,Zl,y1,e]
       ·simp -implicitDefEqProofs [k,hs,hz,Ye,a1,hc,c2,n1,n2,Zl,y1,y2,e]
       ·simp -implicitDefEqProofs [k,hs,hz,Ye,a1,hc,c2,n1,n2,Zl,y1,y2,e]
    ·have c2':(0<x.Args.l.length)=True:=eq_true (List.length_pos_iff.2 c2)
     simp -implicitDefEqProofs [a1]at hs hz
     simp -implicitDefEqProofs [k,hs,hz,Ye,a1,Zl,hc,c2,c2']
   ·simp -implicitDefEqProofs [a1]at hs hz
    simp -implicitDefEqProofs [k,hs,hz,Ye,a1,Zl,hc,c1]
  ·simp -implicitDefEqProofs [k,hs,hz,Ye,a1,Zl]
 ·
  have eB:UV m x=Zl x.Code.l.isEmpty 4:=by unfold UV;rw[if_neg (by omega)]
  have eC:Qa m x i n=if WR m x.A.n x.Args.l≠0 then WR m x.A.n x.Args.l else if x.No.n=0 then 0 else 4:=by
   unfold Qa;rw[if_pos k];simp only[ZI,Zl,decide_eq_true_eq]
   by_cases q:WR m x.A.n x.Args.l=0
   ·simp[q];try (split<;>simp_all)
   ·simp[q]
  have eN:YZ m x=inB x.A.n 0 (m.Actions.l.length-1):=by unfold YZ;rw[if_neg (by omega),if_pos k]
  rw[eB,eC,eN]
  by_cases a1:x.A.n<0
  ·rw[Zr.2 (.inl a1)]
   simp -implicitDefEqProofs [k,hs,hz,Ye,a1,Zl]
  by_cases a2:(m.Actions.l.length:Int)≤x.A.n
  ·rw[Zr.2 (.inr (by omega))]
   simp -implicitDefEqProofs [k,hs,hz,Ye,a1,a2,Zl]
  have e1:inB x.A.n 0 (m.Actions.l.length-1)=true:=by unfold inB;simp;omega
  have ha:=ha (by omega) (by omega)
  generalize WR m x.A.n x.Args.l=F at*
  rw[e1]
  by_cases c1:x.Code.l=[]
  ·by_cases c2:F=0
   ·subst c2
    by_cases n1:x.No.n=0
    ·rcases hy with⟨y1,e⟩|⟨y1,y2,e⟩|⟨y1,y2,e⟩
     ·simp -implicitDefEqProofs [k,hs,hz,Ye,a1,a2,c1,ha,n1,Zl,y1,e]
     ·simp -implicitDefEqProofs [k,hs,hz,Ye,a1,a2,c1,ha,n1,Zl,y1,y2,e]
     ·simp -implicitDefEqProofs [k,hs,hz,Ye,a1,a2,c1,ha,n1,Zl,y1,y2,e]
    ·simp -implicitDefEqProofs [k,hs,hz,Ye,a1,a2,Zl,c1,ha,n1]
   ·simp -implicitDefEqProofs [k,hs,hz,Ye,a1,a2,Zl,c1,ha,c2]
  ·have c1':(0<x.Code.l.length)=True:=eq_true (List.length_pos_iff.2 c1)
   simp -implicitDefEqProofs [k,hs,hz,Ye,a1,a2,Zl,c1,c1']
 ·
  have eB:UV m x=Zl x.Code.l.isEmpty 4:=by unfold UV;rw[if_neg (by omega)]
  have eC:Qa m x i n=if x.Args.l=[]then(if x.No.n≤i∨n<x.No.n then 12 else 0)else 4:=by
   unfold Qa;rw[if_neg (by omega),Jn];cases x.Args.l<;>simp[ZI,Zl]
   try (split<;>simp_all)
  have eN:YZ m x=(Xl m x.A.n).isSome:=by unfold YZ;rw[if_neg (by omega),if_neg (by omega),if_neg (by omega)]
  rw[eB,eC,eN]
  generalize (Xl m x.A.n).isSome=F at*
  cases F with
  |false=>simp -implicitDefEqProofs [k,hs,hz,Ye,Zl]
  |true=>
   by_cases c1:x.Code.l=[]
   ·by_cases c2:x.Args.l=[]
    ·by_cases n1:x.No.n≤i
     ·simp -implicitDefEqProofs [k,hs,hz,Ye,Zl,c1,c2,n1]
     ·by_cases n2:n<x.No.n
      ·simp -implicitDefEqProofs [k,hs,hz,Ye,Zl,c1,c2,n1,n2]
      ·rcases hy with⟨y1,e⟩|⟨y1,y2,e⟩|⟨y1,y2,e⟩
       ·simp -implicitDefEqProofs [k,hs,hz,Ye,c1,c2,n1,n2,Zl,y1,e]
       ·simp -implicitDefEqProofs [k,hs,hz,Ye,c1,c2,n1,n2,Zl,y1,y2,e]
       ·simp -implicitDefEqProofs [k,hs,hz,Ye,c1,c2,n1,n2,Zl,y1,y2,e]
    ·have c2':(0<x.Args.l.length)=True:=eq_true (List.length_pos_iff.2 c2)
     simp -implicitDefEqProofs [k,hs,hz,Ye,Zl,c1,c2,c2']
   ·have c1':(0<x.Code.l.length)=True:=eq_true (List.length_pos_iff.2 c1)
    simp -implicitDefEqProofs [k,hs,hz,Ye,Zl,c1,c1']
end Go.VE.Un
