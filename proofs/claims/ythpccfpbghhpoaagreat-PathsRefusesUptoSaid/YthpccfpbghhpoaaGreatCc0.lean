/- Joined texts: CtA, CtB, CtC, CtD. No condition: what each theorem needs stands in it. -/
import Derived.Test.YthpccfpbghhpoaaGreatVc0
import Derived.Test.YthpccfpbghhpoaaGreatUnT
namespace Go.VE.Un
open Go.VE
@[simp] theorem ZuS(a b c:Int):Zc vp 522 [.int .i64 a,.int .i64 b,.int .i64 c]=some (.bool (decide (b≤a)&&decide (a≤c))):=by
  rw[Za Zyo]
  by_cases h:b≤a<;>simp -implicitDefEqProofs [h]
@[simp] theorem ZuJ(a b c:Int):Zc vp 652 [.int .i64 a,.int .i64 b,.int .i64 c]=some (.bool (decide (b≤a)&&decide (a≤c))):=by
  rw[Za ZxE]
  by_cases h:b≤a<;>simp -implicitDefEqProofs [h]
@[simp] theorem Zvm:Zc vp 508 []=some (.agg [.int .i64 8,.int .i64 8,.int .i64 8,.int .i64 1,.int .i64 8,.int .i64 1,.int .i64 16,.int .i64 8]):=by
  rw[Za ZwK]
  simp -implicitDefEqProofs [Zf,ZC]
def many(d:Int):Int:=if 0≤d∧d≤4 then(if d=0 then 1 else d)else 0
@[simp] theorem ZAs(x:ZF):Zc vp 649 [x.v]=some (.int .i64 (many x.Depth.n)):=by
  rw[Za ZyK]
  simp +contextual [many]
  grind
def Yq:List ZF→Int
 |[]=>0
 |x::l=>many x.Depth.n+Yq l
theorem UG(d:Int):0≤many d∧many d≤4:=by unfold many;split<;>(try split)<;>omega
theorem ZbD(l:List ZF):0≤Yq l∧Yq l≤4*l.length:=by
 induction l with
 |nil=>simp -implicitDefEqProofs [Yq]
 |cons x l ih=>have:=UG x.Depth.n;simp only[Yq,List.length_cons];omega
theorem Zoe(l:GL ZF): ∀(r:List ZF) (k n:Int),0≤k→k≤l.l.length→l.l.drop k.toNat=r→0≤n→n≤4*k→(orc vp).loop 0 [3,6,7,8] ZfU [(3,.int .i64 n),(6,GL.v 3 ZF.v l),(7,.int .i64 l.l.length),(8,.int .i64 k)] []=
 some (.brk 0,[(3,.int .i64 (n+Yq r)),(6,GL.v 3 ZF.v l),(7,.int .i64 l.l.length),(8,.int .i64 l.l.length),(9,.bool false)],[]):=by
 intro r
 induction r with
 |nil=>
  intro k n hk hkl hd h0 h1
  have hle:=Zq hk hd
  have hlt: ¬k<l.l.length:=by omega
  rw[Zjm]
  simp -implicitDefEqProofs [hlt,Yq]
  omega
 |cons x r ih=>
  intro k n hk hkl hd h0 h1
  obtain⟨hg,hlt,hd'⟩:=Zp hk hd
  have hle:=l.le
  have hm:=UG x.Depth.n
  have w1:=w64 (n:=k+1) (by omega)
  have w2:=w64 (n:=n+many x.Depth.n) (by omega)
  rw[Zjm]
  simp -implicitDefEqProofs [hlt,Yq,hg,w1,w2,ih (k+1) (n+many x.Depth.n) (by omega) (by omega) hd' (by omega) (by omega),Int.add_assoc]
@[simp] theorem Zyj(l:GL ZF):Zc vp 645 [GL.v 3 ZF.v l]=some (.int .i64 (Yq l.l)):=by
  rw[Za ZwN]
  simp -implicitDefEqProofs [Zoe l l.l 0 0]
end Go.VE.Un
namespace Go.VE
@[simp] theorem slice_hi(z:Nat)(es:List V)(t:Tag)(k:IntKind)(i:Int)(hz:0<z)(h0:0≤i)(h1:i≤es.length):Ua z (.sl z es t) none (some (.int k i)) none=some (.sl z (es.take i.toNat) (Xk t (i.toNat==es.length) false)):=by
  simp -implicitDefEqProofs [Ua,hz,bnd,h0,h1]
def GL.take{α:Type}(x:GL α)(i:Int):GL α:=⟨x.l.take i.toNat,Xk x.t (i.toNat==x.l.length) false,by rw[List.length_take];have:=x.le;omega⟩
@[simp] theorem GL.take_l{α:Type}(x:GL α)(i:Int):(x.take i).l=x.l.take i.toNat:=rfl
theorem GL.slice_hi{α:Type}(z:Nat)(f:α→V)(x:GL α)(k:IntKind)(i:Int)(hz:0<z)(h0:0≤i)(h1:i≤x.l.length):Ua z (GL.v z f x) none (some (.int k i)) none=some (GL.v z f (x.take i)):=by
 simp only[GL.v];rw[Go.VE.slice_hi _ _ _ _ _ hz h0 (by simpa using h1)];simp -implicitDefEqProofs [GL.take,List.map_take]
end Go.VE
namespace Go.VE.Un
def Wh(l:List ZF)(i:Int):Option Int:=(Zh l i).bind fun x=>if many x.Depth.n=0 then none else some (Yq (l.take i.toNat))
@[simp] theorem ZxX(l:GL ZF)(i:Int):Zc vp 638 [GL.v 3 ZF.v l,.int .i64 i]=some (.tup [.int .i64 ((Wh l.l i).getD 0),.bool (Wh l.l i).isSome]):=by
  have hle:=l.le
  have w:=w64 (n:=l.l.length-1) (by omega)
  rw[Za Zyi]
  rcases Zm l.l i with⟨x,h0,h1,hg⟩|⟨h0,hg⟩
  ·have h1':i≤l.l.length-1:=by omega
   by_cases hm:many x.Depth.n=0
   ·simp -implicitDefEqProofs [w,hg,h0,h1',hm,Wh]
   ·simp -implicitDefEqProofs [w,hg,h0,h1',hm,Wh,GL.slice_hi 3 ZF.v l .i64 i (by omega) h0 (by omega)]
  ·have hn: ¬(0≤i∧i≤l.l.length-1):=by omega
   by_cases h2:0≤i
   ·have h3: ¬i≤l.l.length-1:=by omega
    have h4: ¬i<l.l.length:=by omega
    simp -implicitDefEqProofs [w,hg,h2,h3,Wh]
   ·simp -implicitDefEqProofs [w,hg,h2,Wh]
def ofR:List ZF→Int→Int→Option (Int ×Int ×ZF)
 |[],_,_=>none
 |x::r,i,s=>if s<many x.Depth.n then some (i,s,x)else ofR r (i+1) (s-many x.Depth.n)
def ofI(l:List ZF)(s:Int):Option (Int ×Int ×ZF):=if s<0 then none else ofR l 0 s
theorem QO{l:List ZF}: ∀{r:List ZF} {i s:Int} {j k:Int} {x:ZF},0≤i→l.drop i.toNat=r→ofR r i s=some (j,k,x)→Zh l j=some x
 |[],_,_,_,_,_,_,_,h=>by simp -implicitDefEqProofs [ofR]at h
 |y::r,i,s,j,k,x,hi,hd,h=>by
  obtain⟨hg,hlt,hd'⟩:=Zp hi hd
  simp only[ofR]at h
  split at h
  ·simp only[Option.some.injEq,Prod.mk.injEq]at h
   obtain⟨rfl,rfl,rfl⟩:=h
   exact hg
  ·exact QO (by omega) hd' h
theorem Zo9(l:GL ZF): ∀(r:List ZF) (k s:Int),0≤k→k≤l.l.length→l.l.drop k.toNat=r→0≤s→s≤9223372036854775807→(orc vp).loop 0 [1,11,12,13] ZgW [(1,.int .i64 s),(11,GL.v 3 ZF.v l),(12,.int .i64 l.l.length),(13,.int .i64 k)] []=
 (match ofR r k s with
  |some (i,j,x)=>some (.ret,[(4,.int .i64 i),(5,.int .i64 j),(6,.bool true)],[.arr [x.v]])
  |none=>some (.brk 0,[(1,.int .i64 (s-Yq r)),(11,GL.v 3 ZF.v l),(12,.int .i64 l.l.length),(13,.int .i64 l.l.length),(14,.bool false)],[])):=by
 intro r
 induction r with
 |nil=>
  intro k s hk hkl hd h0 h1
  have hle:=Zq hk hd
  have hlt: ¬k<l.l.length:=by omega
  rw[Zio]
  simp -implicitDefEqProofs [hlt,Yq,ofR]
  omega
 |cons x r ih=>
  intro k s hk hkl hd h0 h1
  obtain⟨hg,hlt,hd'⟩:=Zp hk hd
  have hle:=l.le
  have hm:=UG x.Depth.n
  have w1:=w64 (n:=k+1) (by omega)
  rw[Zio]
  by_cases hs:s<many x.Depth.n
  ·simp -implicitDefEqProofs [hlt,ofR,hg,hs]
  ·have w2:IntKind.i64.wrap (s-many x.Depth.n)=s-many x.Depth.n:=ZE (by omega) (by omega)
   simp -implicitDefEqProofs [hlt,hg,w1,w2,ih (k+1) (s-many x.Depth.n) (by omega) (by omega) hd' (by omega) (by omega),hs,ofR,Yq,Int.sub_sub]
@[simp] theorem ZC7(l:GL ZF)(s:Int)(hs:s≤9223372036854775807):Zc vp 643 [GL.v 3 ZF.v l,.int .i64 s]=
   some (match ofI l.l s with|some (i,j,_x)=>.tup [.int .i64 i,.int .i64 j,.bool true]|none=>.tup [.int .i64 0,.int .i64 0,.bool false]):=by
  rw[Za Zv4]
  by_cases h:s<0
  ·simp -implicitDefEqProofs [h,ofI]
  ·rcases ho:ofR l.l 0 s with _|⟨i,j,x⟩<;>simp -implicitDefEqProofs [h,ofI,Zo9 l l.l 0 s (by omega) (by omega) rfl (by omega) hs,ho]
end Go.VE.Un
namespace Go.VE.Un
open Go.VE
def GS.nil:GS:=⟨[],by simp⟩
def I64.z:I64:=⟨0,by omega,by omega⟩
def Header.z:Header:=⟨GS.nil,⟨[],.nl,by simp⟩,I64.z,I64.z,I64.z,I64.z⟩
theorem Yf:VE.V.agg [.str [],.sl 2 [] .nl,.int .i64 0,.int .i64 0,.int .i64 0,.int .i64 0]=Header.z.v:=rfl
@[simp] theorem zfc:Ze (GL.v 2 Field.v Header.z.Fields)=true:=by simp[GL.closed,Header.z,Tag.cl]
theorem Xd{α:Type}{z:Nat}{f:α→VE.V}{x:GL α}(h:Ze (GL.v z f x)=true){i:Int}{a:α}(hg:Zh x.l i=some a):Ze (f a)=true:=by
 rw[GL.closed]at h
 simp only[Bool.and_eq_true,List.all_eq_true]at h
 refine h.2 a ?_
 unfold Zh at hg
 split at hg
 ·exact List.mem_of_getElem? hg
 ·simp at hg
def X3(hs:List Header)(l:List ZF)(s:Int):Option Header:=(ofI l s).bind fun r=>Zh hs r.2.2.Header.n
@[simp] theorem Zun(hs:GL Header)(l:GL ZF)(s:Int)(hc:Ze (GL.v 6 Header.v hs)=true)(hsb:s≤9223372036854775807):
   Zc vp 639 [GL.v 6 Header.v hs,GL.v 3 ZF.v l,.int .i64 s]=some (.tup [((X3 hs.l l.l s).getD Header.z).v,.bool (X3 hs.l l.l s).isSome]):=by
  have hle:=hs.le
  have w:=w64 (n:=hs.l.length-1) (by omega)
  rw[Za ZxC]
  rcases ho:ofI l.l s with _|⟨i,j,x⟩
  ·simp -implicitDefEqProofs [ho,hsb,X3,Zf,ZC,Yf]
  ·have hx:Zh l.l i=some x:=by
    unfold ofI at ho
    split at ho
    ·simp at ho
    ·exact QO (Int.le_refl 0) rfl ho
   rcases Zm hs.l x.Header.n with⟨a,h0,h1,hg⟩|⟨h0,hg⟩
   ·have h2:x.Header.n≤hs.l.length-1:=by omega
    have hca:=Xd hc hg
    simp only[Header.closed]at hca
    simp -implicitDefEqProofs [ho,hsb,X3,hx,w,hg,h0,h2,hca,Yf]
   ·by_cases h2:0≤x.Header.n
    ·have h3: ¬x.Header.n≤hs.l.length-1:=by omega
     simp -implicitDefEqProofs [ho,hsb,X3,hx,w,hg,h2,h3,Zf,ZC,Yf]
    ·simp -implicitDefEqProofs [ho,hsb,X3,hx,w,hg,h2,Zf,ZC,Yf]
def Clo(m:Zb):Prop:=Ze (Zb.v m)=true
theorem VI{m:Zb}(hm:Clo m):Ze (GL.v 6 Header.v m.Headers)=true:=by
 simp only[Clo,Zb.closed,Bool.and_eq_true]at hm;simp[hm]
theorem Vb{hs:GL Header}{l:List ZF}{s:Int}(hc:Ze (GL.v 6 Header.v hs)=true):Ze ((X3 hs.l l s).getD Header.z).v=true:=by
 unfold X3
 cases ofI l s with
 |none=>simp[Header.closed]
 |some r=>
  simp only[Option.bind_some]
  cases hg:Zh hs.l r.2.2.Header.n with
  |none=>simp[Header.closed]
  |some a=>exact Xd hc hg
def Xl(m:Zb)(s:Int):Option Header:=X3 m.Headers.l m.Insts.l s
@[simp] theorem JP(m:Zb)(s:Int)(hm:Clo m)(hsb:s≤9223372036854775807):Zc vp 493 [m.v,.int .i64 s]=some (.tup [((Xl m s).getD Header.z).v,.bool (Xl m s).isSome]):=by
  have hc:=VI hm
  have hz:=Vb (l:=m.Insts.l) (s:=s) hc
  simp only[Header.closed]at hz
  rw[Za ZyM]
  simp -implicitDefEqProofs [hc,hsb,hz,Yf,Xl]
def field(m:Zb)(s f:Int):Option Int:=(Xl m s).bind fun h=>(Zh h.Fields.l f).map fun x=>x.W.n
@[simp] theorem Zfg(m:Zb)(s f:Int)(hm:Clo m)(hsb:s≤9223372036854775807):Zc vp 489 [m.v,.int .i64 s,.int .i64 f]=some (.tup [.int .i64 ((field m s f).getD 0),.bool (field m s f).isSome]):=by
  have hz:=Vb (l:=m.Insts.l) (s:=s) (VI hm)
  simp only[Header.closed]at hz
  rw[Za Zyw]
  rcases hs:Xl m s with _|h
  ·simp -implicitDefEqProofs [hm,hsb,hs,field,Yf]
  ·have hle:=h.Fields.le
   have hs':X3 m.Headers.l m.Insts.l s=some h:=hs
   simp only[hs',Option.getD_some]at hz
   have w:=w64 (n:=h.Fields.l.length-1) (by omega)
   rcases Zm h.Fields.l f with⟨a,h0,h1,hg⟩|⟨h0,hg⟩
   ·have h2:f≤h.Fields.l.length-1:=by omega
    simp -implicitDefEqProofs [hm,hsb,hs,field,Yf,w,hg,h0,h2,hz]
   ·by_cases h2:0≤f
    ·have h3: ¬f≤h.Fields.l.length-1:=by omega
     simp -implicitDefEqProofs [hm,hsb,hs,field,Yf,w,hg,h2,h3,hz]
    ·simp -implicitDefEqProofs [hm,hsb,hs,field,Yf,w,hg,h2,hz]
def Vp(m:Zb)(i:Int):Option Int:=if i<8 then Zh [8,8,8,1,8,1,16,8] i else(Zh m.Metas.l (i-8)).map fun x=>x.W.n
theorem ZmO(cs:List V)(len:Nat)(k:IntKind)(i:Int)(hl:cs.length=len):idxA len 1 false (.agg cs) (.int k i)=Zh cs i:=by
 subst hl
 unfold idxA Zh
 by_cases h0:0≤i
 ·by_cases h1:i<cs.length
  ·simp[h0,h1]
  ·simp[h0,h1]
 ·simp[h0]
@[simp] theorem ZpJ(m:Zb)(i:Int)(hlo: -9223372036854775808≤i)(hhi:i≤9223372036854775807):Zc vp 491 [m.v,.int .i64 i]=some (.tup [.int .i64 ((Vp m i).getD 0),.bool (Vp m i).isSome]):=by
  rw[Za ZxA]
  by_cases h0:0≤i
  ·by_cases h7:i≤7
   ·have h8:i<8:=by omega
    have:i=0∨i=1∨i=2∨i=3∨i=4∨i=5∨i=6∨i=7:=by omega
    rcases this with rfl|rfl|rfl|rfl|rfl|rfl|rfl|rfl<;>simp -implicitDefEqProofs [Vp,ZmO,Zh]
   ·have h8: ¬i<8:=by omega
    have w:=w64 (n:=i-8) (by omega)
    rcases Zm m.Metas.l (i-8)with⟨a,g0,g1,hg⟩|⟨g0,hg⟩
    ·simp -implicitDefEqProofs [Vp,h0,h7,h8,w,g1,hg]
    ·have g1: ¬i-8<m.Metas.l.length:=by omega
     simp -implicitDefEqProofs [Vp,h0,h7,h8,w,g1,hg]
  ·have h8:i<8:=by omega
   simp -implicitDefEqProofs [Vp,h0,h8,Zh]
def Z7(m:Zb)(i:Int):Option (Int ×Int):=(Wh m.Insts.l i).bind fun a=>(Zh m.Insts.l i).bind fun x=>if x.Depth.n=0 then none else some (a,x.Depth.n)
@[simp] theorem Zai(m:Zb)(i:Int):Zc vp 494 [m.v,.int .i64 i]=some (match Z7 m i with|some (a,d)=>.tup [.int .i64 a,.int .i64 d,.bool true]|none=>.tup [.int .i64 0,.int .i64 0,.bool false]):=by
  rw[Za Zwr]
  rcases hf:Wh m.Insts.l i with _|a
  ·simp -implicitDefEqProofs [hf,Z7]
  ·rcases hg:Zh m.Insts.l i with _|x
   ·simp[Wh,hg]at hf
   ·by_cases hd:x.Depth.n=0
    ·simp -implicitDefEqProofs [hf,Z7,hg,hd]
    ·simp -implicitDefEqProofs [hf,Z7,hg,hd]
def Xs(m:Zb)(k:Key):Option Int:=
 if k.Kind.n=0 then field m k.A.n k.B.n else if k.Kind.n=1 then Vp m k.A.n else
 if k.Kind.n=2 then(if 0≤k.A.n∧k.A.n≤1024∧1≤k.B.n∧k.B.n≤64 then some k.B.n else none)else none
def ZaQ(m:Zb)(k:Key):Int:=if k.Kind.n=2 then k.B.n else(Xs m k).getD 0
@[simp] theorem Zjs(m:Zb)(k:Key)(hm:Clo m):Zc vp 510 [m.v,k.v]=some (.tup [.int .i64 (ZaQ m k),.bool (Xs m k).isSome]):=by
  have ha:=k.A.hi
  have hb:=k.A.lo
  rw[Za Zzd]
  by_cases h0:k.Kind.n=0
  ·simp -implicitDefEqProofs [h0,Xs,ZaQ,hm,ha]
  ·by_cases h1:k.Kind.n=1
   ·simp -implicitDefEqProofs [h0,h1,Xs,ZaQ,hm,ha,hb]
   ·by_cases h2:k.Kind.n=2
    ·by_cases h3:0≤k.A.n<;>by_cases h4:k.A.n≤1024<;>by_cases h5:1≤k.B.n<;>by_cases h6:k.B.n≤64<;>simp -implicitDefEqProofs [h0,h1,h2,h3,h4,h5,h6,Xs,ZaQ,hm]
    ·simp -implicitDefEqProofs [h0,h1,h2,Xs,ZaQ,hm]
def WR(m:Zb):List Key→Int→Option Int
 |[],n=>some n
 |k::r,n=>(Xs m k).bind fun w=>if 1≤w∧w≤128-n then WR m r (n+w)else none
theorem ZmS{m:Zb}{k:Key}{w:Int}(h:Xs m k=some w):ZaQ m k=w:=by
 unfold ZaQ
 split
 ·rename_i h2
  obtain⟨h0,h1⟩: ¬k.Kind.n=0∧¬k.Kind.n=1:=by and_intros<;>omega
  simp only[Xs,h2]at h
  simp at h
  exact h.2
 ·simp[h]
theorem Zqp(m:Zb)(hm:Clo m)(l:GL Key): ∀(r:List Key) (k n:Int),0≤k→k≤l.l.length→l.l.drop k.toNat=r→0≤n→n≤128→∃h,(orc vp).loop 0 [2,6,11,12,13] ZhD [(2,.ptr 0 1 0 0),(6,.int .i64 n),(11,GL.v 3 Key.v l),(12,.int .i64 l.l.length),(13,.int .i64 k)] [.arr [m.v]]=
 some (match WR m r n with
  |some w=>(.brk 0,[(2,.ptr 0 1 0 0),(6,.int .i64 w),(11,GL.v 3 Key.v l),(12,.int .i64 l.l.length),(13,.int .i64 l.l.length),(14,.bool false)],[.arr [m.v]])
  |none=>(.ret,[(4,.int .i64 0),(5,.bool false)],h)):=by
 intro r
 induction r with
 |nil=>
  intro k n hk hkl hd h0 h1
  have hle:=Zq hk hd
  obtain⟨hlt,he⟩: ¬k<l.l.length∧k=l.l.length:=by and_intros<;>omega
  refine⟨[],?_⟩
  rw[Zjt]
  simp -implicitDefEqProofs [hlt,WR,he]
 |cons x r ih=>
  intro k n hk hkl hd h0 h1
  obtain⟨hg,hlt,hd'⟩:=Zp hk hd
  have hle:=l.le
  have w1:=w64 (n:=k+1) (by omega)
  have w3:=w64 (n:=128-n) (by omega)
  rw[Zjt]
  rcases hp:Xs m x with _|w
  ·simp -implicitDefEqProofs [hlt,hg,hp,hm,WR]
  ·have hv:=ZmS hp
   by_cases hw:1≤w
   ·by_cases hw2:w≤128-n
    ·have w2:IntKind.i64.wrap (n+w)=n+w:=ZE (by omega) (by omega)
     obtain⟨h,hi⟩:=ih (k+1) (n+w) (by omega) (by omega) hd' (by omega) (by omega)
     exact⟨h,by simp -implicitDefEqProofs [hlt,hg,hp,hm,hv,w1,w2,w3,hw,hw2,hi,WR]⟩
    ·simp -implicitDefEqProofs [hlt,hg,hp,hm,hv,w3,hw,hw2,WR]
   ·simp -implicitDefEqProofs [hlt,hg,hp,hm,hv,w3,hw,WR]
@[simp] theorem Zl6(m:Zb)(l:GL Key)(hm:Clo m):Zc vp 490 [m.v,GL.v 3 Key.v l]=some (.tup [.int .i64 ((WR m l.l 0).getD 0),.bool (WR m l.l 0).isSome]):=by
  obtain⟨h,h1⟩:=Zqp m hm l l.l 0 0 (by omega) (by omega) rfl (by omega) (by omega)
  rw[Za ZyL]
  rcases hk:WR m l.l 0 with _|w<;>rw[hk]at h1<;>simp -implicitDefEqProofs [h1]
end Go.VE.Un
namespace Go.VE
theorem Zct{lo z bytes:Nat}{es ns:List V}{h:Zg}(hlo:lo≤0)(hn:ns.isEmpty=false)(hr:(es.length+ns.length)*bytes≤YB):
 XY lo (.arr es::h) z bytes (.gsl 0 es.length z 0 es.length) ns=some (.gsl 0 (es.length+ns.length) z 0 (es.length+ns.length),.arr (es++ns)::h):=by
 simp[XY,hn,hlo,hr]
theorem Qf{lo z bytes:Nat}{es ns:List V}{b:Blk}{h:Zg}(hlo:lo≤1)(hn:ns.isEmpty=false)(hr:(es.length+ns.length)*bytes≤YB):
 XY lo (b::.arr es::h) z bytes (.gsl 1 es.length z 0 es.length) ns=some (.gsl 1 (es.length+ns.length) z 0 (es.length+ns.length),b::.arr (es++ns)::h):=by
 simp[XY,hn,hlo,hr]
theorem Zt3{lo z bytes:Nat}{es ns:List V}{b c:Blk}{h:Zg}(hlo:lo≤2)(hn:ns.isEmpty=false)(hr:(es.length+ns.length)*bytes≤YB):
 XY lo (b::c::.arr es::h) z bytes (.gsl 2 es.length z 0 es.length) ns=some (.gsl 2 (es.length+ns.length) z 0 (es.length+ns.length),b::c::.arr (es++ns)::h):=by
 simp[XY,hn,hlo,hr]
theorem Yw(h:Zg)(z:Nat)(es:List V)(t:Tag):Wj h z (.sl z es t)=some es:=by simp[Wj]
theorem Z9(fr:Fr)(n:Nat)(ps:List Z3)(h:((ps.map (opd fr)).all fun v=>v.cells.length==n&&okV v)=true):Zf fr (.buildSl n ps)=some (.sl n (ps.map (opd fr)) .ce):=by
 simp only[Zf,h,if_true]
end Go.VE
namespace Go.VE.Un
open Go.VE
def XB(p:Int ×Int):V:=.agg [.int .i64 p.1,.int .i64 p.2]
@[simp] theorem ZuG(p:Int ×Int):(XB p).cells.length=2:=nr rfl
@[simp] theorem ZzD(p:Int ×Int):okV (XB p)=true:=nr rfl
@[simp] theorem Ztw(k:Nat)(p:Int ×Int):Zk k (XB p)=true:=by simp[XB]
@[simp] theorem Zrr(p:Int ×Int):Ze (XB p)=true:=by simp[XB]
def QV(i k:Int):Nat→List (Int ×Int)
 |0=>[]
 |j+1=>(i,k)::QV i (k+1) j
def Ww(i:Int):List ZF→List (Int ×Int)
 |[]=>[]
 |x::r=>QV i 0 (many x.Depth.n).toNat++Ww (i+1) r
theorem Qd(i k:Int)(j:Nat):(QV i k j).length=j:=by
 induction j generalizing k with
 |zero=>rfl
 |succ j ih=>simp[QV,ih]
theorem ZbP(i:Int)(l:List ZF):((Ww i l).length:Int)=Yq l:=by
 induction l generalizing i with
 |nil=>rfl
 |cons x r ih=>have:=UG x.Depth.n;simp[Ww,Yq,Qd,ih (i+1)];omega
theorem ZnA(i k:Int)(j:Nat)(s:Nat):(QV i k j)[s]? =if s<j then some (i,k+s)else none:=by
 induction j generalizing k s with
 |zero=>simp[QV]
 |succ j ih=>
  cases s with
  |zero=>simp[QV]
  |succ s=>simp only[QV,List.getElem?_cons_succ,ih];simp;split<;>simp;omega
theorem ZbC(i:Int)(l:List ZF)(s:Int)(hs:0≤s):Zh (Ww i l) s=(ofR l i s).map fun r=>(r.1,r.2.1):=by
 induction l generalizing i s with
 |nil=>simp[Ww,ofR,Zh]
 |cons x r ih=>
  have hm:=UG x.Depth.n
  simp only[Ww,ofR]
  by_cases h:s<many x.Depth.n
  ·rw[if_pos h]
   unfold Zh
   rw[if_pos hs,List.getElem?_append_left (by rw[Qd];omega),ZnA,if_pos (by omega)]
   simp;omega
  ·rw[if_neg h,←ih (i+1) (s-many x.Depth.n) (by omega)]
   unfold Zh
   rw[if_pos hs,if_pos (by omega),List.getElem?_append_right (by rw[Qd];omega),Qd]
   congr 1;omega
theorem Zj5(xs:V)(i n:Int): ∀(j:Nat) (k:Int) (es:List V),0≤k→k≤n∨j=0→(n≤4→(n-k).toNat=j)→(4<n→j=0)→es.length+j≤100000000→(orc vp).loop 0 [0,3,4,5,6] ZgX [(0,xs),(3,.gsl 0 es.length 2 0 es.length),(4,.int .i64 i),(5,.int .i64 n),(6,.int .i64 k)] [.arr es]=
 some (.brk 2,[(0,xs),(3,.gsl 0 (es++(QV i k j).map XB).length 2 0 (es++(QV i k j).map XB).length),(4,.int .i64 i),(5,.int .i64 n),(6,.int .i64 (k+j)),(26,.bool false)],[.arr (es++(QV i k j).map XB)]):=by
 intro j
 induction j with
 |zero=>
  intro k es hk hkn h1 h2 hr
  rw[Zjc]
  by_cases h4:n≤4
  ·have hlt: ¬k<n:=by have:=h1 h4;omega
   simp -implicitDefEqProofs [hlt,QV]
  ·by_cases hlt:k<n<;>simp -implicitDefEqProofs [hlt,QV,h4]
 |succ j ih=>
  intro k es hk hkn h1 h2 hr
  have h4:n≤4:=by
   rcases Int.lt_or_le 4 n with h|h
   ·have:=h2 h;omega
   ·exact h
  have hj:=h1 h4
  have hlt:k<n:=by omega
  have w1:=w64 (n:=k+1) (by omega)
  have hi:=ih (k+1) (es++[XB (i,k)]) (by omega) (by omega) (fun _=>by omega) (fun h=>by omega) (by simp;omega)
  have ha:XY 0 [.arr es] 2 16 (.gsl 0 es.length 2 0 es.length) [XB (i,k)]=some (.gsl 0 (es.length+1) 2 0 (es.length+1),[.arr (es++[XB (i,k)])]):=
   Zct (Nat.le_refl _) rfl (by simp[YB];omega)
  simp only[XB]at ha
  rw[Zjc]
  simp -implicitDefEqProofs [XB,QV]at hi
  simp -implicitDefEqProofs [hlt,h4,QV,Zf,ZC,Yw,ha,w1,hi,XB]
  omega
theorem Zk9(l:GL ZF)(hb:l.l.length≤10000000): ∀(r:List ZF) (k:Int) (es:List V),0≤k→k≤l.l.length→l.l.drop k.toNat=r→es.length≤4*k→(orc vp).loop 0 [0,3,4] Zg0 [(0,GL.v 3 ZF.v l),(3,.gsl 0 es.length 2 0 es.length),(4,.int .i64 k)] [.arr es]=
 some (.brk 0,[(0,GL.v 3 ZF.v l),(3,.gsl 0 (es++(Ww k r).map XB).length 2 0 (es++(Ww k r).map XB).length),(4,.int .i64 l.l.length),(10,.bool false)],[.arr (es++(Ww k r).map XB)]):=by
 intro r
 induction r with
 |nil=>
  intro k es hk hkl hd hr
  have hle:=Zq hk hd
  obtain⟨hlt,he⟩: ¬k<l.l.length∧k=l.l.length:=by and_intros<;>omega
  rw[Zjp]
  simp -implicitDefEqProofs [hlt,he,Ww]
 |cons x r ih=>
  intro k es hk hkl hd hr
  obtain⟨hg,hlt,hd'⟩:=Zp hk hd
  have hm:=UG x.Depth.n
  have w1:=w64 (n:=k+1) (by omega)
  have hi:=ih (k+1) (es++(QV k 0 (many x.Depth.n).toNat).map XB) (by omega) (by omega) hd' (by simp[Qd];omega)
  have h0:=Zj5 (GL.v 3 ZF.v l) k (if x.Depth.n=0 then 1 else x.Depth.n) (many x.Depth.n).toNat 0 es (by omega) (by unfold many;split<;>split<;>omega) (by unfold many;split<;>split<;>omega) (by unfold many;split<;>split<;>omega) (by omega)
  rw[Zjp]
  simp -implicitDefEqProofs at hi
  simp -implicitDefEqProofs at h0
  by_cases hz:x.Depth.n=0
  ·simp -implicitDefEqProofs [hz]at h0 hi
   simp -implicitDefEqProofs [hlt,hg,Ww,hz,h0,w1,hi]
  ·simp -implicitDefEqProofs [hz]at h0
   simp -implicitDefEqProofs [hlt,hg,Ww,hz,h0,w1,hi]
@[simp] theorem K1(l:GL ZF)(hb:l.l.length≤10000000):Zc vp 823 [GL.v 3 ZF.v l]=some (.sl 2 ((Ww 0 l.l).map XB) .perm):=by
  have h:=Zk9 l hb l.l 0 [] (by omega) (by omega) rfl (by simp)
  rw[Za Zwn]
  simp -implicitDefEqProofs at h
  have hc:Zv ((Ww 0 l.l).map XB)=true:=by rw[YW];simp
  simp -implicitDefEqProofs [h,hc]
end Go.VE.Un
namespace Go.VE.Un
open Go.VE
@[simp] theorem ZwM(p:Int ×Int):ldc (XB p) false 1 0=some (.int .i64 p.1):=rfl
@[simp] theorem Zy3(p:Int ×Int):ldc (XB p) false 1 1=some (.int .i64 p.2):=rfl
theorem Qh(len n:Nat)(e:VE.V)(o:Nat)(t:Tag)(k:IntKind)(i:Int)(h0:0≤i)(h1:i<len):iaddrA len n (.eptr e o t) (.int k i)=some (.eptr e (o+i.toNat*n) t):=by
 simp[iaddrA,h0,h1]
@[simp] theorem VL(m:Zb)(s:Int)(hm:Clo m)(hb:m.Insts.l.length≤10000000):Zc vp 834 [m.v,.int .i64 s]=some (.tup [((Xl m s).getD Header.z).v,.bool (Xl m s).isSome]):=by
  have hz:=Vb (l:=m.Insts.l) (s:=s) (VI hm)
  simp only[Header.closed]at hz
  rw[Za Zxo]
  by_cases h0:s<0
  ·simp -implicitDefEqProofs [hb,h0,Xl,X3,ofI,Zf,ZC,Yf]
  ·have hg:=ZbC 0 m.Insts.l s (by omega)
   rcases ho:ofR m.Insts.l 0 s with _|⟨i,j,x⟩
   ·simp only[ho,Option.map_none]at hg
    have h1:(Ww 0 m.Insts.l).length≤s:=by rcases Zm (Ww 0 m.Insts.l) s with⟨a,_,_,h⟩|⟨h,_⟩;simp[h]at hg;omega
    simp -implicitDefEqProofs [hb,h0,h1,Xl,X3,ofI,ho,Zf,ZC,Yf]
   ·simp only[ho,Option.map_some]at hg
    have h1: ¬(Ww 0 m.Insts.l).length≤s:=by rcases Zm (Ww 0 m.Insts.l) s with⟨a,_,_,h⟩|⟨_,h⟩;omega;simp[h]at hg
    have hx:Zh m.Insts.l i=some x:=QO (Int.le_refl 0) rfl ho
    simp only[Xl,X3,ofI,h0,ho]at hz
    simp at hz
    rcases Zm m.Headers.l x.Header.n with⟨a,g0,g1,hh⟩|⟨g0,hh⟩
    ·have g2: ¬x.Header.n<0:=by omega
     have g3: ¬m.Headers.l.length≤x.Header.n:=by omega
     simp[hh]at hz
     simp -implicitDefEqProofs [hb,h0,h1,Xl,X3,ofI,ho,Zf,ZC,Yf,hg,hx,Qh,hh,g2,g3,hz]
    ·by_cases g2:x.Header.n<0
     ·simp -implicitDefEqProofs [hb,h0,h1,Xl,X3,ofI,ho,Zf,ZC,Yf,hg,hx,Qh,hh,g2]
     ·have g3:m.Headers.l.length≤x.Header.n:=by omega
      simp -implicitDefEqProofs [hb,h0,h1,Xl,X3,ofI,ho,Zf,ZC,Yf,hg,hx,Qh,hh,g2,g3]
@[simp] theorem JZ(m:Zb)(s f:Int)(hm:Clo m)(hb:m.Insts.l.length≤10000000):Zc vp 830 [m.v,.int .i64 s,.int .i64 f]=some (.tup [.int .i64 ((field m s f).getD 0),.bool (field m s f).isSome]):=by
  have hz:=Vb (l:=m.Insts.l) (s:=s) (VI hm)
  simp only[Header.closed]at hz
  rw[Za Zw1]
  rcases hs:Xl m s with _|h
  ·simp -implicitDefEqProofs [hm,hb,hs,field,Yf]
  ·have hs':X3 m.Headers.l m.Insts.l s=some h:=hs
   simp only[hs',Option.getD_some]at hz
   rcases Zm h.Fields.l f with⟨a,h0,h1,hg⟩|⟨h0,hg⟩
   ·have h2: ¬f<0:=by omega
    have h3: ¬h.Fields.l.length≤f:=by omega
    simp -implicitDefEqProofs [hm,hb,hs,field,Yf,hg,h2,h3,hz]
   ·by_cases h2:f<0
    ·simp -implicitDefEqProofs [hm,hb,hs,field,Yf,hg,h2,hz]
    ·have h3:h.Fields.l.length≤f:=by omega
     simp -implicitDefEqProofs [hm,hb,hs,field,Yf,hg,h2,h3,hz]
@[simp] theorem Zeu(m:Zb)(i:Int)(hlo: -9223372036854775808≤i)(hhi:i≤9223372036854775807):Zc vp 832 [m.v,.int .i64 i]=some (.tup [.int .i64 ((Vp m i).getD 0),.bool (Vp m i).isSome]):=by
  rw[Za ZyZ]
  by_cases h0:0≤i
  ·by_cases h7:i<8
   ·have h8: ¬8≤i:=by omega
    have:i=0∨i=1∨i=2∨i=3∨i=4∨i=5∨i=6∨i=7:=by omega
    rcases this with rfl|rfl|rfl|rfl|rfl|rfl|rfl|rfl<;>simp -implicitDefEqProofs [Vp,Zh,Z9,Zek]
   ·have h8:8≤i:=by omega
    have w:=w64 (n:=i-8) (by omega)
    rcases Zm m.Metas.l (i-8)with⟨a,g0,g1,hg⟩|⟨g0,hg⟩
    ·simp -implicitDefEqProofs [Vp,h0,h7,h8,w,g1,hg,Z9]
    ·have g1: ¬i-8<m.Metas.l.length:=by omega
     simp -implicitDefEqProofs [Vp,h0,h7,h8,w,g1,hg,Z9]
  ·have h8:i<8:=by omega
   have h9: ¬8≤i:=by omega
   simp -implicitDefEqProofs [Vp,h0,h8,h9,Zh,Z9]
@[simp] theorem Qq(m:Zb)(i:Int)(hb:m.Insts.l.length≤10000000):Zc vp 835 [m.v,.int .i64 i]=some (match Z7 m i with|some (a,d)=>.tup [.int .i64 a,.int .i64 d,.bool true]|none=>.tup [.int .i64 0,.int .i64 0,.bool false]):=by
  rw[Za Zu3]
  rcases Zm m.Insts.l i with⟨x,h0,h1,hg⟩|⟨h0,hg⟩
  ·have h2: ¬i<0:=by omega
   have h3: ¬m.Insts.l.length≤i:=by omega
   by_cases d1:x.Depth.n<1
   ·have:Z7 m i=none:=by simp[Z7,Wh,hg,many];grind
    simp -implicitDefEqProofs [h2,h3,hg,d1,this]
   ·by_cases d4:4<x.Depth.n
    ·have:Z7 m i=none:=by simp[Z7,Wh,hg,many];grind
     simp -implicitDefEqProofs [h2,h3,hg,d1,d4,this]
    ·have:Z7 m i=some (Yq (m.Insts.l.take i.toNat),x.Depth.n):=by simp[Z7,Wh,hg,many];grind
     have hs:=ZbP 0 (m.Insts.l.take i.toNat)
     have hb2:=K1 (m.Insts.take i) (by simp;omega)
     simp -implicitDefEqProofs [h2,h3,hg,d1,d4,this,GL.slice_hi 3 ZF.v m.Insts .i64 i (by omega) h0 (by omega),hb2,hs]
  ·by_cases h2:i<0
   ·simp -implicitDefEqProofs [h2,hg,Z7,Wh]
   ·have h3:m.Insts.l.length≤i:=by omega
    simp -implicitDefEqProofs [h2,h3,hg,Z7,Wh]
@[simp] theorem Zno(m:Zb)(k:Key)(hm:Clo m)(hb:m.Insts.l.length≤10000000):Zc vp 833 [m.v,k.v]=some (.tup [.int .i64 ((Xs m k).getD 0),.bool (Xs m k).isSome]):=by
  have ha:=k.A.hi
  have hl:=k.A.lo
  rw[Za ZyH]
  by_cases h0:k.Kind.n=0
  ·simp -implicitDefEqProofs [h0,Xs,hm,hb]
  ·by_cases h1:k.Kind.n=1
   ·simp -implicitDefEqProofs [h0,h1,Xs,hm,hb,ha,hl]
   ·by_cases h2:k.Kind.n=2
    ·by_cases h3:0≤k.A.n<;>by_cases h4:k.A.n≤1024<;>by_cases h5:1≤k.B.n<;>by_cases h6:k.B.n≤64<;>simp -implicitDefEqProofs [h0,h1,h2,h3,h4,h5,h6,Xs,hm]
    ·simp -implicitDefEqProofs [h0,h1,h2,Xs,hm]
theorem Zqt(m:Zb)(hm:Clo m)(hb:m.Insts.l.length≤10000000)(l:GL Key): ∀(r:List Key) (k n:Int),0≤k→k≤l.l.length→l.l.drop k.toNat=r→0≤n→n≤128→∃h,(orc vp).loop 0 [1,2,6,7] ZhI [(1,GL.v 3 Key.v l),(2,.ptr 0 1 0 0),(6,.int .i64 n),(7,.int .i64 k)] [.arr [m.v]]=
 some (match WR m r n with
  |some w=>(.brk 0,[(1,GL.v 3 Key.v l),(2,.ptr 0 1 0 0),(6,.int .i64 w),(7,.int .i64 l.l.length),(13,.bool false)],[.arr [m.v]])
  |none=>(.ret,[(4,.int .i64 0),(5,.bool false)],h)):=by
 intro r
 induction r with
 |nil=>
  intro k n hk hkl hd h0 h1
  have hle:=Zq hk hd
  obtain⟨hlt,he⟩: ¬k<l.l.length∧k=l.l.length:=by and_intros<;>omega
  refine⟨[],?_⟩
  rw[ZiV]
  simp -implicitDefEqProofs [hlt,WR,he]
 |cons x r ih=>
  intro k n hk hkl hd h0 h1
  obtain⟨hg,hlt,hd'⟩:=Zp hk hd
  have hle:=l.le
  have w1:=w64 (n:=k+1) (by omega)
  have w3:=w64 (n:=128-n) (by omega)
  rw[ZiV]
  rcases hp:Xs m x with _|w
  ·simp -implicitDefEqProofs [hlt,hg,hp,hm,hb,WR]
  ·by_cases hw:w<1
   ·have hw': ¬1≤w:=by omega
    simp -implicitDefEqProofs [hlt,hg,hp,hm,hb,w3,hw,hw',WR]
   ·have hw':1≤w:=by omega
    by_cases hw2:128-n<w
    ·have hw3: ¬w≤128-n:=by omega
     simp -implicitDefEqProofs [hlt,hg,hp,hm,hb,w3,hw,hw',hw2,hw3,WR]
    ·have hw3:w≤128-n:=by omega
     have w2:=w64 (n:=n+w) (by omega)
     obtain⟨h,hi⟩:=ih (k+1) (n+w) (by omega) (by omega) hd' (by omega) (by omega)
     exact⟨h,by simp -implicitDefEqProofs [hlt,hg,hp,hm,hb,w1,w2,w3,hw,hw',hw2,hw3,hi,WR]⟩
@[simp] theorem Zh6(m:Zb)(l:GL Key)(hm:Clo m)(hb:m.Insts.l.length≤10000000):Zc vp 831 [m.v,GL.v 3 Key.v l]=some (.tup [.int .i64 ((WR m l.l 0).getD 0),.bool (WR m l.l 0).isSome]):=by
  obtain⟨h,h1⟩:=Zqt m hm hb l l.l 0 0 (by omega) (by omega) rfl (by omega) (by omega)
  rw[Za Zx3]
  rcases hk:WR m l.l 0 with _|w<;>rw[hk]at h1<;>simp -implicitDefEqProofs [h1]
end Go.VE.Un
