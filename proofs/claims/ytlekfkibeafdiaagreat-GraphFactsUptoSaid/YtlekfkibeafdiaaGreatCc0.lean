/- Joined texts: CtA, CtB, CtC, CtD. No condition: what each theorem needs stands in it. -/
import Derived.Test.YtlekfkibeafdiaaGreatVc0
import Derived.Test.YtlekfkibeafdiaaGreatUnT
namespace Go.VE.Un
open Go.VE
@[simp] theorem Zui(a b c:Int):Zc vp 522 [.int .i64 a,.int .i64 b,.int .i64 c]=some (.bool (decide (b≤a)&&decide (a≤c))):=by
  rw[Za Zya]
  by_cases h:b≤a<;>simp -implicitDefEqProofs [h]
@[simp] theorem Zuq(a b c:Int):Zc vp 652 [.int .i64 a,.int .i64 b,.int .i64 c]=some (.bool (decide (b≤a)&&decide (a≤c))):=by
  rw[Za Zy8]
  by_cases h:b≤a<;>simp -implicitDefEqProofs [h]
@[simp] theorem Zu6:Zc vp 508 []=some (.agg [.int .i64 8,.int .i64 8,.int .i64 8,.int .i64 1,.int .i64 8,.int .i64 1,.int .i64 16,.int .i64 8]):=by
  rw[Za Zyt]
  simp -implicitDefEqProofs [Zf,ZC]
def many(d:Int):Int:=if 0≤d∧d≤4 then(if d=0 then 1 else d)else 0
@[simp] theorem ZAu(x:ZE):Zc vp 649 [x.v]=some (.int .i64 (many x.Depth.n)):=by
  rw[Za Zxq]
  simp +contextual [many]
  grind
def Yp:List ZE→Int
 |[]=>0
 |x::l=>many x.Depth.n+Yp l
theorem UP(d:Int):0≤many d∧many d≤4:=by unfold many;split<;>(try split)<;>omega
theorem ZbW(l:List ZE):0≤Yp l∧Yp l≤4*l.length:=by
 induction l with
 |nil=>simp -implicitDefEqProofs [Yp]
 |cons x l ih=>have:=UP x.Depth.n;simp only[Yp,List.length_cons];omega
theorem ZoE(l:GL ZE): ∀(r:List ZE) (k n:Int),0≤k→k≤l.l.length→l.l.drop k.toNat=r→0≤n→n≤4*k→(orc vp).loop 0 [3,6,7,8] ZgR [(3,.int .i64 n),(6,GL.v 3 ZE.v l),(7,.int .i64 l.l.length),(8,.int .i64 k)] []=
 some (.brk 0,[(3,.int .i64 (n+Yp r)),(6,GL.v 3 ZE.v l),(7,.int .i64 l.l.length),(8,.int .i64 l.l.length),(9,.bool false)],[]):=by
 intro r
 induction r with
 |nil=>
  intro k n hk hkl hd h0 h1
  have hle:=Zq hk hd
  have hlt: ¬k<l.l.length:=by omega
  rw[ZiE]
  simp -implicitDefEqProofs [hlt,Yp]
  omega
 |cons x r ih=>
  intro k n hk hkl hd h0 h1
  obtain⟨hg,hlt,hd'⟩:=Zp hk hd
  have hle:=l.le
  have hm:=UP x.Depth.n
  have w1:=w64 (n:=k+1) (by omega)
  have w2:=w64 (n:=n+many x.Depth.n) (by omega)
  rw[ZiE]
  simp -implicitDefEqProofs [hlt,Yp,hg,w1,w2,ih (k+1) (n+many x.Depth.n) (by omega) (by omega) hd' (by omega) (by omega),Int.add_assoc]
@[simp] theorem Zw6(l:GL ZE):Zc vp 645 [GL.v 3 ZE.v l]=some (.int .i64 (Yp l.l)):=by
  rw[Za Zv0]
  simp -implicitDefEqProofs [ZoE l l.l 0 0]
end Go.VE.Un
namespace Go.VE
@[simp] theorem slice_hi(z:Nat)(es:List V)(t:Tag)(k:IntKind)(i:Int)(hz:0<z)(h0:0≤i)(h1:i≤es.length):Uh z (.sl z es t) none (some (.int k i)) none=some (.sl z (es.take i.toNat) (Xj t (i.toNat==es.length) false)):=by
  simp -implicitDefEqProofs [Uh,hz,bnd,h0,h1]
def GL.take{α:Type}(x:GL α)(i:Int):GL α:=⟨x.l.take i.toNat,Xj x.t (i.toNat==x.l.length) false,by rw[List.length_take];have:=x.le;omega⟩
@[simp] theorem GL.take_l{α:Type}(x:GL α)(i:Int):(x.take i).l=x.l.take i.toNat:=rfl
theorem GL.slice_hi{α:Type}(z:Nat)(f:α→V)(x:GL α)(k:IntKind)(i:Int)(hz:0<z)(h0:0≤i)(h1:i≤x.l.length):Uh z (GL.v z f x) none (some (.int k i)) none=some (GL.v z f (x.take i)):=by
 simp only[GL.v];rw[Go.VE.slice_hi _ _ _ _ _ hz h0 (by simpa using h1)];simp -implicitDefEqProofs [GL.take,List.map_take]
end Go.VE
namespace Go.VE.Un
def Wi(l:List ZE)(i:Int):Option Int:=(Zh l i).bind fun x=>if many x.Depth.n=0 then none else some (Yp (l.take i.toNat))
@[simp] theorem ZxG(l:GL ZE)(i:Int):Zc vp 638 [GL.v 3 ZE.v l,.int .i64 i]=some (.tup [.int .i64 ((Wi l.l i).getD 0),.bool (Wi l.l i).isSome]):=by
  have hle:=l.le
  have w:=w64 (n:=l.l.length-1) (by omega)
  rw[Za Zu9]
  rcases Zm l.l i with⟨x,h0,h1,hg⟩|⟨h0,hg⟩
  ·have h1':i≤l.l.length-1:=by omega
   by_cases hm:many x.Depth.n=0
   ·simp -implicitDefEqProofs [w,hg,h0,h1',hm,Wi]
   ·simp -implicitDefEqProofs [w,hg,h0,h1',hm,Wi,GL.slice_hi 3 ZE.v l .i64 i (by omega) h0 (by omega)]
  ·have hn: ¬(0≤i∧i≤l.l.length-1):=by omega
   by_cases h2:0≤i
   ·have h3: ¬i≤l.l.length-1:=by omega
    have h4: ¬i<l.l.length:=by omega
    simp -implicitDefEqProofs [w,hg,h2,h3,Wi]
   ·simp -implicitDefEqProofs [w,hg,h2,Wi]
def ofR:List ZE→Int→Int→Option (Int ×Int ×ZE)
 |[],_,_=>none
 |x::r,i,s=>if s<many x.Depth.n then some (i,s,x)else ofR r (i+1) (s-many x.Depth.n)
def ofI(l:List ZE)(s:Int):Option (Int ×Int ×ZE):=if s<0 then none else ofR l 0 s
theorem QI{l:List ZE}: ∀{r:List ZE} {i s:Int} {j k:Int} {x:ZE},0≤i→l.drop i.toNat=r→ofR r i s=some (j,k,x)→Zh l j=some x
 |[],_,_,_,_,_,_,_,h=>by simp -implicitDefEqProofs [ofR]at h
 |y::r,i,s,j,k,x,hi,hd,h=>by
  obtain⟨hg,hlt,hd'⟩:=Zp hi hd
  simp only[ofR]at h
  split at h
  ·simp only[Option.some.injEq,Prod.mk.injEq]at h
   obtain⟨rfl,rfl,rfl⟩:=h
   exact hg
  ·exact QI (by omega) hd' h
theorem Zow(l:GL ZE): ∀(r:List ZE) (k s:Int),0≤k→k≤l.l.length→l.l.drop k.toNat=r→0≤s→s≤9223372036854775807→(orc vp).loop 0 [1,11,12,13] Zga [(1,.int .i64 s),(11,GL.v 3 ZE.v l),(12,.int .i64 l.l.length),(13,.int .i64 k)] []=
 (match ofR r k s with
  |some (i,j,x)=>some (.ret,[(4,.int .i64 i),(5,.int .i64 j),(6,.bool true)],[.arr [x.v]])
  |none=>some (.brk 0,[(1,.int .i64 (s-Yp r)),(11,GL.v 3 ZE.v l),(12,.int .i64 l.l.length),(13,.int .i64 l.l.length),(14,.bool false)],[])):=by
 intro r
 induction r with
 |nil=>
  intro k s hk hkl hd h0 h1
  have hle:=Zq hk hd
  have hlt: ¬k<l.l.length:=by omega
  rw[Zia]
  simp -implicitDefEqProofs [hlt,Yp,ofR]
  omega
 |cons x r ih=>
  intro k s hk hkl hd h0 h1
  obtain⟨hg,hlt,hd'⟩:=Zp hk hd
  have hle:=l.le
  have hm:=UP x.Depth.n
  have w1:=w64 (n:=k+1) (by omega)
  rw[Zia]
  by_cases hs:s<many x.Depth.n
  ·simp -implicitDefEqProofs [hlt,ofR,hg,hs]
  ·have w2:IntKind.i64.wrap (s-many x.Depth.n)=s-many x.Depth.n:=ZK (by omega) (by omega)
   simp -implicitDefEqProofs [hlt,hg,w1,w2,ih (k+1) (s-many x.Depth.n) (by omega) (by omega) hd' (by omega) (by omega),hs,ofR,Yp,Int.sub_sub]
@[simp] theorem ZC8(l:GL ZE)(s:Int)(hs:s≤9223372036854775807):Zc vp 643 [GL.v 3 ZE.v l,.int .i64 s]=
   some (match ofI l.l s with|some (i,j,_x)=>.tup [.int .i64 i,.int .i64 j,.bool true]|none=>.tup [.int .i64 0,.int .i64 0,.bool false]):=by
  rw[Za ZvZ]
  by_cases h:s<0
  ·simp -implicitDefEqProofs [h,ofI]
  ·rcases ho:ofR l.l 0 s with _|⟨i,j,x⟩<;>simp -implicitDefEqProofs [h,ofI,Zow l l.l 0 s (by omega) (by omega) rfl (by omega) hs,ho]
end Go.VE.Un
namespace Go.VE.Un
open Go.VE
def GS.nil:GS:=⟨[],by simp⟩
def I64.z:I64:=⟨0,by omega,by omega⟩
def Header.z:Header:=⟨GS.nil,⟨[],.nl,by simp⟩,I64.z,I64.z,I64.z,I64.z⟩
theorem Ye:VE.V.agg [.str [],.sl 2 [] .nl,.int .i64 0,.int .i64 0,.int .i64 0,.int .i64 0]=Header.z.v:=rfl
@[simp] theorem zfc:Ze (GL.v 2 Field.v Header.z.Fields)=true:=by simp[GL.closed,Header.z,Tag.cl]
theorem Xc{α:Type}{z:Nat}{f:α→VE.V}{x:GL α}(h:Ze (GL.v z f x)=true){i:Int}{a:α}(hg:Zh x.l i=some a):Ze (f a)=true:=by
 rw[GL.closed]at h
 simp only[Bool.and_eq_true,List.all_eq_true]at h
 refine h.2 a ?_
 unfold Zh at hg
 split at hg
 ·exact List.mem_of_getElem? hg
 ·simp at hg
def Wf(hs:List Header)(l:List ZE)(s:Int):Option Header:=(ofI l s).bind fun r=>Zh hs r.2.2.Header.n
@[simp] theorem Zup(hs:GL Header)(l:GL ZE)(s:Int)(hc:Ze (GL.v 6 Header.v hs)=true)(hsb:s≤9223372036854775807):
   Zc vp 639 [GL.v 6 Header.v hs,GL.v 3 ZE.v l,.int .i64 s]=some (.tup [((Wf hs.l l.l s).getD Header.z).v,.bool (Wf hs.l l.l s).isSome]):=by
  have hle:=hs.le
  have w:=w64 (n:=hs.l.length-1) (by omega)
  rw[Za Zwv]
  rcases ho:ofI l.l s with _|⟨i,j,x⟩
  ·simp -implicitDefEqProofs [ho,hsb,Wf,Zf,ZC,Ye]
  ·have hx:Zh l.l i=some x:=by
    unfold ofI at ho
    split at ho
    ·simp at ho
    ·exact QI (Int.le_refl 0) rfl ho
   rcases Zm hs.l x.Header.n with⟨a,h0,h1,hg⟩|⟨h0,hg⟩
   ·have h2:x.Header.n≤hs.l.length-1:=by omega
    have hca:=Xc hc hg
    simp only[Header.closed]at hca
    simp -implicitDefEqProofs [ho,hsb,Wf,hx,w,hg,h0,h2,hca,Ye]
   ·by_cases h2:0≤x.Header.n
    ·have h3: ¬x.Header.n≤hs.l.length-1:=by omega
     simp -implicitDefEqProofs [ho,hsb,Wf,hx,w,hg,h2,h3,Zf,ZC,Ye]
    ·simp -implicitDefEqProofs [ho,hsb,Wf,hx,w,hg,h2,Zf,ZC,Ye]
def Clo(m:Zb):Prop:=Ze (Zb.v m)=true
theorem VD{m:Zb}(hm:Clo m):Ze (GL.v 6 Header.v m.Headers)=true:=by
 simp only[Clo,Zb.closed,Bool.and_eq_true]at hm;simp[hm]
theorem Vi{hs:GL Header}{l:List ZE}{s:Int}(hc:Ze (GL.v 6 Header.v hs)=true):Ze ((Wf hs.l l s).getD Header.z).v=true:=by
 unfold Wf
 cases ofI l s with
 |none=>simp[Header.closed]
 |some r=>
  simp only[Option.bind_some]
  cases hg:Zh hs.l r.2.2.Header.n with
  |none=>simp[Header.closed]
  |some a=>exact Xc hc hg
def Xl(m:Zb)(s:Int):Option Header:=Wf m.Headers.l m.Insts.l s
@[simp] theorem JI(m:Zb)(s:Int)(hm:Clo m)(hsb:s≤9223372036854775807):Zc vp 493 [m.v,.int .i64 s]=some (.tup [((Xl m s).getD Header.z).v,.bool (Xl m s).isSome]):=by
  have hc:=VD hm
  have hz:=Vi (l:=m.Insts.l) (s:=s) hc
  simp only[Header.closed]at hz
  rw[Za ZxI]
  simp -implicitDefEqProofs [hc,hsb,hz,Ye,Xl]
def field(m:Zb)(s f:Int):Option Int:=(Xl m s).bind fun h=>(Zh h.Fields.l f).map fun x=>x.W.n
@[simp] theorem ZeS(m:Zb)(s f:Int)(hm:Clo m)(hsb:s≤9223372036854775807):Zc vp 489 [m.v,.int .i64 s,.int .i64 f]=some (.tup [.int .i64 ((field m s f).getD 0),.bool (field m s f).isSome]):=by
  have hz:=Vi (l:=m.Insts.l) (s:=s) (VD hm)
  simp only[Header.closed]at hz
  rw[Za ZyS]
  rcases hs:Xl m s with _|h
  ·simp -implicitDefEqProofs [hm,hsb,hs,field,Ye]
  ·have hle:=h.Fields.le
   have hs':Wf m.Headers.l m.Insts.l s=some h:=hs
   simp only[hs',Option.getD_some]at hz
   have w:=w64 (n:=h.Fields.l.length-1) (by omega)
   rcases Zm h.Fields.l f with⟨a,h0,h1,hg⟩|⟨h0,hg⟩
   ·have h2:f≤h.Fields.l.length-1:=by omega
    simp -implicitDefEqProofs [hm,hsb,hs,field,Ye,w,hg,h0,h2,hz]
   ·by_cases h2:0≤f
    ·have h3: ¬f≤h.Fields.l.length-1:=by omega
     simp -implicitDefEqProofs [hm,hsb,hs,field,Ye,w,hg,h2,h3,hz]
    ·simp -implicitDefEqProofs [hm,hsb,hs,field,Ye,w,hg,h2,hz]
def Vs(m:Zb)(i:Int):Option Int:=if i<8 then Zh [8,8,8,1,8,1,16,8] i else(Zh m.Metas.l (i-8)).map fun x=>x.W.n
theorem Zne(cs:List V)(len:Nat)(k:IntKind)(i:Int)(hl:cs.length=len):idxA len 1 false (.agg cs) (.int k i)=Zh cs i:=by
 subst hl
 unfold idxA Zh
 by_cases h0:0≤i
 ·by_cases h1:i<cs.length
  ·simp[h0,h1]
  ·simp[h0,h1]
 ·simp[h0]
@[simp] theorem Zp1(m:Zb)(i:Int)(hlo: -9223372036854775808≤i)(hhi:i≤9223372036854775807):Zc vp 491 [m.v,.int .i64 i]=some (.tup [.int .i64 ((Vs m i).getD 0),.bool (Vs m i).isSome]):=by
  rw[Za ZxV]
  by_cases h0:0≤i
  ·by_cases h7:i≤7
   ·have h8:i<8:=by omega
    have:i=0∨i=1∨i=2∨i=3∨i=4∨i=5∨i=6∨i=7:=by omega
    rcases this with rfl|rfl|rfl|rfl|rfl|rfl|rfl|rfl<;>simp -implicitDefEqProofs [Vs,Zne,Zh]
   ·have h8: ¬i<8:=by omega
    have w:=w64 (n:=i-8) (by omega)
    rcases Zm m.Metas.l (i-8)with⟨a,g0,g1,hg⟩|⟨g0,hg⟩
    ·simp -implicitDefEqProofs [Vs,h0,h7,h8,w,g1,hg]
    ·have g1: ¬i-8<m.Metas.l.length:=by omega
     simp -implicitDefEqProofs [Vs,h0,h7,h8,w,g1,hg]
  ·have h8:i<8:=by omega
   simp -implicitDefEqProofs [Vs,h0,h8,Zh]
def Z8(m:Zb)(i:Int):Option (Int ×Int):=(Wi m.Insts.l i).bind fun a=>(Zh m.Insts.l i).bind fun x=>if x.Depth.n=0 then none else some (a,x.Depth.n)
@[simp] theorem Za0(m:Zb)(i:Int):Zc vp 494 [m.v,.int .i64 i]=some (match Z8 m i with|some (a,d)=>.tup [.int .i64 a,.int .i64 d,.bool true]|none=>.tup [.int .i64 0,.int .i64 0,.bool false]):=by
  rw[Za Zvv]
  rcases hf:Wi m.Insts.l i with _|a
  ·simp -implicitDefEqProofs [hf,Z8]
  ·rcases hg:Zh m.Insts.l i with _|x
   ·simp[Wi,hg]at hf
   ·by_cases hd:x.Depth.n=0
    ·simp -implicitDefEqProofs [hf,Z8,hg,hd]
    ·simp -implicitDefEqProofs [hf,Z8,hg,hd]
def Xt(m:Zb)(k:Key):Option Int:=
 if k.Kind.n=0 then field m k.A.n k.B.n else if k.Kind.n=1 then Vs m k.A.n else
 if k.Kind.n=2 then(if 0≤k.A.n∧k.A.n≤1024∧1≤k.B.n∧k.B.n≤64 then some k.B.n else none)else none
def Zai(m:Zb)(k:Key):Int:=if k.Kind.n=2 then k.B.n else(Xt m k).getD 0
@[simp] theorem ZiZ(m:Zb)(k:Key)(hm:Clo m):Zc vp 510 [m.v,k.v]=some (.tup [.int .i64 (Zai m k),.bool (Xt m k).isSome]):=by
  have ha:=k.A.hi
  have hb:=k.A.lo
  rw[Za Zyl]
  by_cases h0:k.Kind.n=0
  ·simp -implicitDefEqProofs [h0,Xt,Zai,hm,ha]
  ·by_cases h1:k.Kind.n=1
   ·simp -implicitDefEqProofs [h0,h1,Xt,Zai,hm,ha,hb]
   ·by_cases h2:k.Kind.n=2
    ·by_cases h3:0≤k.A.n<;>by_cases h4:k.A.n≤1024<;>by_cases h5:1≤k.B.n<;>by_cases h6:k.B.n≤64<;>simp -implicitDefEqProofs [h0,h1,h2,h3,h4,h5,h6,Xt,Zai,hm]
    ·simp -implicitDefEqProofs [h0,h1,h2,Xt,Zai,hm]
def WW(m:Zb):List Key→Int→Option Int
 |[],n=>some n
 |k::r,n=>(Xt m k).bind fun w=>if 1≤w∧w≤128-n then WW m r (n+w)else none
theorem Zmj{m:Zb}{k:Key}{w:Int}(h:Xt m k=some w):Zai m k=w:=by
 unfold Zai
 split
 ·rename_i h2
  obtain⟨h0,h1⟩: ¬k.Kind.n=0∧¬k.Kind.n=1:=by and_intros<;>omega
  simp only[Xt,h2]at h
  simp at h
  exact h.2
 ·simp[h]
theorem Zom(m:Zb)(hm:Clo m)(l:GL Key): ∀(r:List Key) (k n:Int),0≤k→k≤l.l.length→l.l.drop k.toNat=r→0≤n→n≤128→∃h,(orc vp).loop 0 [2,6,11,12,13] ZgV [(2,.ptr 0 1 0 0),(6,.int .i64 n),(11,GL.v 3 Key.v l),(12,.int .i64 l.l.length),(13,.int .i64 k)] [.arr [m.v]]=
 some (match WW m r n with
  |some w=>(.brk 0,[(2,.ptr 0 1 0 0),(6,.int .i64 w),(11,GL.v 3 Key.v l),(12,.int .i64 l.l.length),(13,.int .i64 l.l.length),(14,.bool false)],[.arr [m.v]])
  |none=>(.ret,[(4,.int .i64 0),(5,.bool false)],h)):=by
 intro r
 induction r with
 |nil=>
  intro k n hk hkl hd h0 h1
  have hle:=Zq hk hd
  obtain⟨hlt,he⟩: ¬k<l.l.length∧k=l.l.length:=by and_intros<;>omega
  refine⟨[],?_⟩
  rw[ZiL]
  simp -implicitDefEqProofs [hlt,WW,he]
 |cons x r ih=>
  intro k n hk hkl hd h0 h1
  obtain⟨hg,hlt,hd'⟩:=Zp hk hd
  have hle:=l.le
  have w1:=w64 (n:=k+1) (by omega)
  have w3:=w64 (n:=128-n) (by omega)
  rw[ZiL]
  rcases hp:Xt m x with _|w
  ·simp -implicitDefEqProofs [hlt,hg,hp,hm,WW]
  ·have hv:=Zmj hp
   by_cases hw:1≤w
   ·by_cases hw2:w≤128-n
    ·have w2:IntKind.i64.wrap (n+w)=n+w:=ZK (by omega) (by omega)
     obtain⟨h,hi⟩:=ih (k+1) (n+w) (by omega) (by omega) hd' (by omega) (by omega)
     exact⟨h,by simp -implicitDefEqProofs [hlt,hg,hp,hm,hv,w1,w2,w3,hw,hw2,hi,WW]⟩
    ·simp -implicitDefEqProofs [hlt,hg,hp,hm,hv,w3,hw,hw2,WW]
   ·simp -implicitDefEqProofs [hlt,hg,hp,hm,hv,w3,hw,WW]
@[simp] theorem Zn0(m:Zb)(l:GL Key)(hm:Clo m):Zc vp 490 [m.v,GL.v 3 Key.v l]=some (.tup [.int .i64 ((WW m l.l 0).getD 0),.bool (WW m l.l 0).isSome]):=by
  obtain⟨h,h1⟩:=Zom m hm l l.l 0 0 (by omega) (by omega) rfl (by omega) (by omega)
  rw[Za Zwe]
  rcases hk:WW m l.l 0 with _|w<;>rw[hk]at h1<;>simp -implicitDefEqProofs [h1]
end Go.VE.Un
namespace Go.VE
theorem ZdS{lo z bytes:Nat}{es ns:List V}{h:Zg}(hlo:lo≤0)(hn:ns.isEmpty=false)(hr:(es.length+ns.length)*bytes≤YC):
 X3 lo (.arr es::h) z bytes (.gsl 0 es.length z 0 es.length) ns=some (.gsl 0 (es.length+ns.length) z 0 (es.length+ns.length),.arr (es++ns)::h):=by
 simp[X3,hn,hlo,hr]
theorem Qr{lo z bytes:Nat}{es ns:List V}{b:Blk}{h:Zg}(hlo:lo≤1)(hn:ns.isEmpty=false)(hr:(es.length+ns.length)*bytes≤YC):
 X3 lo (b::.arr es::h) z bytes (.gsl 1 es.length z 0 es.length) ns=some (.gsl 1 (es.length+ns.length) z 0 (es.length+ns.length),b::.arr (es++ns)::h):=by
 simp[X3,hn,hlo,hr]
theorem Zsf{lo z bytes:Nat}{es ns:List V}{b c:Blk}{h:Zg}(hlo:lo≤2)(hn:ns.isEmpty=false)(hr:(es.length+ns.length)*bytes≤YC):
 X3 lo (b::c::.arr es::h) z bytes (.gsl 2 es.length z 0 es.length) ns=some (.gsl 2 (es.length+ns.length) z 0 (es.length+ns.length),b::c::.arr (es++ns)::h):=by
 simp[X3,hn,hlo,hr]
theorem Yy(h:Zg)(z:Nat)(es:List V)(t:Tag):Wl h z (.sl z es t)=some es:=by simp[Wl]
theorem Z9(fr:Fr)(n:Nat)(ps:List Z3)(h:((ps.map (opd fr)).all fun v=>v.cells.length==n&&okV v)=true):Zf fr (.buildSl n ps)=some (.sl n (ps.map (opd fr)) .ce):=by
 simp only[Zf,h,if_true]
end Go.VE
namespace Go.VE.Un
open Go.VE
def XA(p:Int ×Int):V:=.agg [.int .i64 p.1,.int .i64 p.2]
@[simp] theorem ZuJ(p:Int ×Int):(XA p).cells.length=2:=nr rfl
@[simp] theorem Zz8(p:Int ×Int):okV (XA p)=true:=nr rfl
@[simp] theorem Zte(k:Nat)(p:Int ×Int):Zk k (XA p)=true:=by simp[XA]
@[simp] theorem ZrN(p:Int ×Int):Ze (XA p)=true:=by simp[XA]
def QV(i k:Int):Nat→List (Int ×Int)
 |0=>[]
 |j+1=>(i,k)::QV i (k+1) j
def Wy(i:Int):List ZE→List (Int ×Int)
 |[]=>[]
 |x::r=>QV i 0 (many x.Depth.n).toNat++Wy (i+1) r
theorem Qg(i k:Int)(j:Nat):(QV i k j).length=j:=by
 induction j generalizing k with
 |zero=>rfl
 |succ j ih=>simp[QV,ih]
theorem ZbQ(i:Int)(l:List ZE):((Wy i l).length:Int)=Yp l:=by
 induction l generalizing i with
 |nil=>rfl
 |cons x r ih=>have:=UP x.Depth.n;simp[Wy,Yp,Qg,ih (i+1)];omega
theorem ZnY(i k:Int)(j:Nat)(s:Nat):(QV i k j)[s]? =if s<j then some (i,k+s)else none:=by
 induction j generalizing k s with
 |zero=>simp[QV]
 |succ j ih=>
  cases s with
  |zero=>simp[QV]
  |succ s=>simp only[QV,List.getElem?_cons_succ,ih];simp;split<;>simp;omega
theorem ZbX(i:Int)(l:List ZE)(s:Int)(hs:0≤s):Zh (Wy i l) s=(ofR l i s).map fun r=>(r.1,r.2.1):=by
 induction l generalizing i s with
 |nil=>simp[Wy,ofR,Zh]
 |cons x r ih=>
  have hm:=UP x.Depth.n
  simp only[Wy,ofR]
  by_cases h:s<many x.Depth.n
  ·rw[if_pos h]
   unfold Zh
   rw[if_pos hs,List.getElem?_append_left (by rw[Qg];omega),ZnY,if_pos (by omega)]
   simp;omega
  ·rw[if_neg h,←ih (i+1) (s-many x.Depth.n) (by omega)]
   unfold Zh
   rw[if_pos hs,if_pos (by omega),List.getElem?_append_right (by rw[Qg];omega),Qg]
   congr 1;omega
theorem ZkZ(xs:V)(i n:Int): ∀(j:Nat) (k:Int) (es:List V),0≤k→k≤n∨j=0→(n≤4→(n-k).toNat=j)→(4<n→j=0)→es.length+j≤100000000→(orc vp).loop 0 [0,3,4,5,6] Zgp [(0,xs),(3,.gsl 0 es.length 2 0 es.length),(4,.int .i64 i),(5,.int .i64 n),(6,.int .i64 k)] [.arr es]=
 some (.brk 2,[(0,xs),(3,.gsl 0 (es++(QV i k j).map XA).length 2 0 (es++(QV i k j).map XA).length),(4,.int .i64 i),(5,.int .i64 n),(6,.int .i64 (k+j)),(26,.bool false)],[.arr (es++(QV i k j).map XA)]):=by
 intro j
 induction j with
 |zero=>
  intro k es hk hkn h1 h2 hr
  rw[Zif]
  by_cases h4:n≤4
  ·have hlt: ¬k<n:=by have:=h1 h4;omega
   simp -implicitDefEqProofs [hlt,QV]
  ·by_cases hlt:k<n<;>simp -implicitDefEqProofs [hlt,QV,h4]
 |succ j ih=>
  intro k es hk hkn h1 h2 hr
  have h4:n≤4:=by
   rcases Int.lt_or_le 4 n with h|h
   ·have:=h2 h;omega
   ·exact h
  have hj:=h1 h4
  have hlt:k<n:=by omega
  have w1:=w64 (n:=k+1) (by omega)
  have hi:=ih (k+1) (es++[XA (i,k)]) (by omega) (by omega) (fun _=>by omega) (fun h=>by omega) (by simp;omega)
  have ha:X3 0 [.arr es] 2 16 (.gsl 0 es.length 2 0 es.length) [XA (i,k)]=some (.gsl 0 (es.length+1) 2 0 (es.length+1),[.arr (es++[XA (i,k)])]):=
   ZdS (Nat.le_refl _) rfl (by simp[YC];omega)
  simp only[XA]at ha
  rw[Zif]
  simp -implicitDefEqProofs [XA,QV]at hi
  simp -implicitDefEqProofs [hlt,h4,QV,Zf,ZC,Yy,ha,w1,hi,XA]
  omega
theorem ZjW(l:GL ZE)(hb:l.l.length≤10000000): ∀(r:List ZE) (k:Int) (es:List V),0≤k→k≤l.l.length→l.l.drop k.toNat=r→es.length≤4*k→(orc vp).loop 0 [0,3,4] ZhQ [(0,GL.v 3 ZE.v l),(3,.gsl 0 es.length 2 0 es.length),(4,.int .i64 k)] [.arr es]=
 some (.brk 0,[(0,GL.v 3 ZE.v l),(3,.gsl 0 (es++(Wy k r).map XA).length 2 0 (es++(Wy k r).map XA).length),(4,.int .i64 l.l.length),(10,.bool false)],[.arr (es++(Wy k r).map XA)]):=by
 intro r
 induction r with
 |nil=>
  intro k es hk hkl hd hr
  have hle:=Zq hk hd
  obtain⟨hlt,he⟩: ¬k<l.l.length∧k=l.l.length:=by and_intros<;>omega
  rw[ZiM]
  simp -implicitDefEqProofs [hlt,he,Wy]
 |cons x r ih=>
  intro k es hk hkl hd hr
  obtain⟨hg,hlt,hd'⟩:=Zp hk hd
  have hm:=UP x.Depth.n
  have w1:=w64 (n:=k+1) (by omega)
  have hi:=ih (k+1) (es++(QV k 0 (many x.Depth.n).toNat).map XA) (by omega) (by omega) hd' (by simp[Qg];omega)
  have h0:=ZkZ (GL.v 3 ZE.v l) k (if x.Depth.n=0 then 1 else x.Depth.n) (many x.Depth.n).toNat 0 es (by omega) (by unfold many;split<;>split<;>omega) (by unfold many;split<;>split<;>omega) (by unfold many;split<;>split<;>omega) (by omega)
  rw[ZiM]
  simp -implicitDefEqProofs at hi
  simp -implicitDefEqProofs at h0
  by_cases hz:x.Depth.n=0
  ·simp -implicitDefEqProofs [hz]at h0 hi
   simp -implicitDefEqProofs [hlt,hg,Wy,hz,h0,w1,hi]
  ·simp -implicitDefEqProofs [hz]at h0
   simp -implicitDefEqProofs [hlt,hg,Wy,hz,h0,w1,hi]
@[simp] theorem Zal(l:GL ZE)(hb:l.l.length≤10000000):Zc vp 823 [GL.v 3 ZE.v l]=some (.sl 2 ((Wy 0 l.l).map XA) .perm):=by
  have h:=ZjW l hb l.l 0 [] (by omega) (by omega) rfl (by simp)
  rw[Za ZvY]
  simp -implicitDefEqProofs at h
  have hc:Zv ((Wy 0 l.l).map XA)=true:=by rw[YR];simp
  simp -implicitDefEqProofs [h,hc]
end Go.VE.Un
namespace Go.VE.Un
open Go.VE
@[simp] theorem Zwr(p:Int ×Int):ldc (XA p) false 1 0=some (.int .i64 p.1):=rfl
@[simp] theorem Zx8(p:Int ×Int):ldc (XA p) false 1 1=some (.int .i64 p.2):=rfl
theorem Qi(len n:Nat)(e:VE.V)(o:Nat)(t:Tag)(k:IntKind)(i:Int)(h0:0≤i)(h1:i<len):iaddrA len n (.eptr e o t) (.int k i)=some (.eptr e (o+i.toNat*n) t):=by
 simp[iaddrA,h0,h1]
@[simp] theorem VU(m:Zb)(s:Int)(hm:Clo m)(hb:m.Insts.l.length≤10000000):Zc vp 834 [m.v,.int .i64 s]=some (.tup [((Xl m s).getD Header.z).v,.bool (Xl m s).isSome]):=by
  have hz:=Vi (l:=m.Insts.l) (s:=s) (VD hm)
  simp only[Header.closed]at hz
  rw[Za Zxw]
  by_cases h0:s<0
  ·simp -implicitDefEqProofs [hb,h0,Xl,Wf,ofI,Zf,ZC,Ye]
  ·have hg:=ZbX 0 m.Insts.l s (by omega)
   rcases ho:ofR m.Insts.l 0 s with _|⟨i,j,x⟩
   ·simp only[ho,Option.map_none]at hg
    have h1:(Wy 0 m.Insts.l).length≤s:=by rcases Zm (Wy 0 m.Insts.l) s with⟨a,_,_,h⟩|⟨h,_⟩;simp[h]at hg;omega
    simp -implicitDefEqProofs [hb,h0,h1,Xl,Wf,ofI,ho,Zf,ZC,Ye]
   ·simp only[ho,Option.map_some]at hg
    have h1: ¬(Wy 0 m.Insts.l).length≤s:=by rcases Zm (Wy 0 m.Insts.l) s with⟨a,_,_,h⟩|⟨_,h⟩;omega;simp[h]at hg
    have hx:Zh m.Insts.l i=some x:=QI (Int.le_refl 0) rfl ho
    simp only[Xl,Wf,ofI,h0,ho]at hz
    simp at hz
    rcases Zm m.Headers.l x.Header.n with⟨a,g0,g1,hh⟩|⟨g0,hh⟩
    ·have g2: ¬x.Header.n<0:=by omega
     have g3: ¬m.Headers.l.length≤x.Header.n:=by omega
     simp[hh]at hz
     simp -implicitDefEqProofs [hb,h0,h1,Xl,Wf,ofI,ho,Zf,ZC,Ye,hg,hx,Qi,hh,g2,g3,hz]
    ·by_cases g2:x.Header.n<0
     ·simp -implicitDefEqProofs [hb,h0,h1,Xl,Wf,ofI,ho,Zf,ZC,Ye,hg,hx,Qi,hh,g2]
     ·have g3:m.Headers.l.length≤x.Header.n:=by omega
      simp -implicitDefEqProofs [hb,h0,h1,Xl,Wf,ofI,ho,Zf,ZC,Ye,hg,hx,Qi,hh,g2,g3]
@[simp] theorem JY(m:Zb)(s f:Int)(hm:Clo m)(hb:m.Insts.l.length≤10000000):Zc vp 830 [m.v,.int .i64 s,.int .i64 f]=some (.tup [.int .i64 ((field m s f).getD 0),.bool (field m s f).isSome]):=by
  have hz:=Vi (l:=m.Insts.l) (s:=s) (VD hm)
  simp only[Header.closed]at hz
  rw[Za Zxm]
  rcases hs:Xl m s with _|h
  ·simp -implicitDefEqProofs [hm,hb,hs,field,Ye]
  ·have hs':Wf m.Headers.l m.Insts.l s=some h:=hs
   simp only[hs',Option.getD_some]at hz
   rcases Zm h.Fields.l f with⟨a,h0,h1,hg⟩|⟨h0,hg⟩
   ·have h2: ¬f<0:=by omega
    have h3: ¬h.Fields.l.length≤f:=by omega
    simp -implicitDefEqProofs [hm,hb,hs,field,Ye,hg,h2,h3,hz]
   ·by_cases h2:f<0
    ·simp -implicitDefEqProofs [hm,hb,hs,field,Ye,hg,h2,hz]
    ·have h3:h.Fields.l.length≤f:=by omega
     simp -implicitDefEqProofs [hm,hb,hs,field,Ye,hg,h2,h3,hz]
@[simp] theorem Zfb(m:Zb)(i:Int)(hlo: -9223372036854775808≤i)(hhi:i≤9223372036854775807):Zc vp 832 [m.v,.int .i64 i]=some (.tup [.int .i64 ((Vs m i).getD 0),.bool (Vs m i).isSome]):=by
  rw[Za Zxe]
  by_cases h0:0≤i
  ·by_cases h7:i<8
   ·have h8: ¬8≤i:=by omega
    have:i=0∨i=1∨i=2∨i=3∨i=4∨i=5∨i=6∨i=7:=by omega
    rcases this with rfl|rfl|rfl|rfl|rfl|rfl|rfl|rfl<;>simp -implicitDefEqProofs [Vs,Zh,Z9,Zfc]
   ·have h8:8≤i:=by omega
    have w:=w64 (n:=i-8) (by omega)
    rcases Zm m.Metas.l (i-8)with⟨a,g0,g1,hg⟩|⟨g0,hg⟩
    ·simp -implicitDefEqProofs [Vs,h0,h7,h8,w,g1,hg,Z9]
    ·have g1: ¬i-8<m.Metas.l.length:=by omega
     simp -implicitDefEqProofs [Vs,h0,h7,h8,w,g1,hg,Z9]
  ·have h8:i<8:=by omega
   have h9: ¬8≤i:=by omega
   simp -implicitDefEqProofs [Vs,h0,h8,h9,Zh,Z9]
@[simp] theorem Qf(m:Zb)(i:Int)(hb:m.Insts.l.length≤10000000):Zc vp 835 [m.v,.int .i64 i]=some (match Z8 m i with|some (a,d)=>.tup [.int .i64 a,.int .i64 d,.bool true]|none=>.tup [.int .i64 0,.int .i64 0,.bool false]):=by
  rw[Za Zwh]
  rcases Zm m.Insts.l i with⟨x,h0,h1,hg⟩|⟨h0,hg⟩
  ·have h2: ¬i<0:=by omega
   have h3: ¬m.Insts.l.length≤i:=by omega
   by_cases d1:x.Depth.n<1
   ·have:Z8 m i=none:=by simp[Z8,Wi,hg,many];grind
    simp -implicitDefEqProofs [h2,h3,hg,d1,this]
   ·by_cases d4:4<x.Depth.n
    ·have:Z8 m i=none:=by simp[Z8,Wi,hg,many];grind
     simp -implicitDefEqProofs [h2,h3,hg,d1,d4,this]
    ·have:Z8 m i=some (Yp (m.Insts.l.take i.toNat),x.Depth.n):=by simp[Z8,Wi,hg,many];grind
     have hs:=ZbQ 0 (m.Insts.l.take i.toNat)
     have hb2:=Zal (m.Insts.take i) (by simp;omega)
     simp -implicitDefEqProofs [h2,h3,hg,d1,d4,this,GL.slice_hi 3 ZE.v m.Insts .i64 i (by omega) h0 (by omega),hb2,hs]
  ·by_cases h2:i<0
   ·simp -implicitDefEqProofs [h2,hg,Z8,Wi]
   ·have h3:m.Insts.l.length≤i:=by omega
    simp -implicitDefEqProofs [h2,h3,hg,Z8,Wi]
@[simp] theorem Zni(m:Zb)(k:Key)(hm:Clo m)(hb:m.Insts.l.length≤10000000):Zc vp 833 [m.v,k.v]=some (.tup [.int .i64 ((Xt m k).getD 0),.bool (Xt m k).isSome]):=by
  have ha:=k.A.hi
  have hl:=k.A.lo
  rw[Za ZxU]
  by_cases h0:k.Kind.n=0
  ·simp -implicitDefEqProofs [h0,Xt,hm,hb]
  ·by_cases h1:k.Kind.n=1
   ·simp -implicitDefEqProofs [h0,h1,Xt,hm,hb,ha,hl]
   ·by_cases h2:k.Kind.n=2
    ·by_cases h3:0≤k.A.n<;>by_cases h4:k.A.n≤1024<;>by_cases h5:1≤k.B.n<;>by_cases h6:k.B.n≤64<;>simp -implicitDefEqProofs [h0,h1,h2,h3,h4,h5,h6,Xt,hm]
    ·simp -implicitDefEqProofs [h0,h1,h2,Xt,hm]
theorem ZpV(m:Zb)(hm:Clo m)(hb:m.Insts.l.length≤10000000)(l:GL Key): ∀(r:List Key) (k n:Int),0≤k→k≤l.l.length→l.l.drop k.toNat=r→0≤n→n≤128→∃h,(orc vp).loop 0 [1,2,6,7] Zhk [(1,GL.v 3 Key.v l),(2,.ptr 0 1 0 0),(6,.int .i64 n),(7,.int .i64 k)] [.arr [m.v]]=
 some (match WW m r n with
  |some w=>(.brk 0,[(1,GL.v 3 Key.v l),(2,.ptr 0 1 0 0),(6,.int .i64 w),(7,.int .i64 l.l.length),(13,.bool false)],[.arr [m.v]])
  |none=>(.ret,[(4,.int .i64 0),(5,.bool false)],h)):=by
 intro r
 induction r with
 |nil=>
  intro k n hk hkl hd h0 h1
  have hle:=Zq hk hd
  obtain⟨hlt,he⟩: ¬k<l.l.length∧k=l.l.length:=by and_intros<;>omega
  refine⟨[],?_⟩
  rw[ZiD]
  simp -implicitDefEqProofs [hlt,WW,he]
 |cons x r ih=>
  intro k n hk hkl hd h0 h1
  obtain⟨hg,hlt,hd'⟩:=Zp hk hd
  have hle:=l.le
  have w1:=w64 (n:=k+1) (by omega)
  have w3:=w64 (n:=128-n) (by omega)
  rw[ZiD]
  rcases hp:Xt m x with _|w
  ·simp -implicitDefEqProofs [hlt,hg,hp,hm,hb,WW]
  ·by_cases hw:w<1
   ·have hw': ¬1≤w:=by omega
    simp -implicitDefEqProofs [hlt,hg,hp,hm,hb,w3,hw,hw',WW]
   ·have hw':1≤w:=by omega
    by_cases hw2:128-n<w
    ·have hw3: ¬w≤128-n:=by omega
     simp -implicitDefEqProofs [hlt,hg,hp,hm,hb,w3,hw,hw',hw2,hw3,WW]
    ·have hw3:w≤128-n:=by omega
     have w2:=w64 (n:=n+w) (by omega)
     obtain⟨h,hi⟩:=ih (k+1) (n+w) (by omega) (by omega) hd' (by omega) (by omega)
     exact⟨h,by simp -implicitDefEqProofs [hlt,hg,hp,hm,hb,w1,w2,w3,hw,hw',hw2,hw3,hi,WW]⟩
@[simp] theorem ZiN(m:Zb)(l:GL Key)(hm:Clo m)(hb:m.Insts.l.length≤10000000):Zc vp 831 [m.v,GL.v 3 Key.v l]=some (.tup [.int .i64 ((WW m l.l 0).getD 0),.bool (WW m l.l 0).isSome]):=by
  obtain⟨h,h1⟩:=ZpV m hm hb l l.l 0 0 (by omega) (by omega) rfl (by omega) (by omega)
  rw[Za Zxl]
  rcases hk:WW m l.l 0 with _|w<;>rw[hk]at h1<;>simp -implicitDefEqProofs [h1]
end Go.VE.Un
