/- Joined texts: CtA, CtB, CtC, CtD. No condition: what each theorem needs stands in it. -/
import Derived.Test.YtieifgngaaccmaaGreatVc0
import Derived.Test.YtieifgngaaccmaaGreatUnT
namespace Go.VE.Un
open Go.VE
@[simp] theorem within522(a b c:Int):callRO vp 522 [.int .i64 a,.int .i64 b,.int .i64 c]=some (.bool (decide (b≤a)&&decide (a≤c))):=by
  rw[callRO_K fn522]
  by_cases h:b≤a<;>simp -implicitDefEqProofs [h]
@[simp] theorem within652(a b c:Int):callRO vp 652 [.int .i64 a,.int .i64 b,.int .i64 c]=some (.bool (decide (b≤a)&&decide (a≤c))):=by
  rw[callRO_K fn652]
  by_cases h:b≤a<;>simp -implicitDefEqProofs [h]
@[simp] theorem given508:callRO vp 508 []=some (.agg [.int .i64 8,.int .i64 8,.int .i64 8,.int .i64 1,.int .i64 8,.int .i64 1,.int .i64 16,.int .i64 8]):=by
  rw[callRO_K fn508]
  simp -implicitDefEqProofs [pureOp,fillV]
def many(d:Int):Int:=if 0≤d∧d≤4 then(if d=0 then 1 else d)else 0
@[simp] theorem many649(x:Inst):callRO vp 649 [x.v]=some (.int .i64 (many x.Depth.n)):=by
  rw[callRO_K fn649]
  simp +contextual [many]
  grind
def slotsN:List Inst→Int
 |[]=>0
 |x::l=>many x.Depth.n+slotsN l
theorem many_bd(d:Int):0≤many d∧many d≤4:=by unfold many;split<;>(try split)<;>omega
theorem slotsN_bd(l:List Inst):0≤slotsN l∧slotsN l≤4*l.length:=by
 induction l with
 |nil=>simp -implicitDefEqProofs [slotsN]
 |cons x l ih=>have:=many_bd x.Depth.n;simp only[slotsN,List.length_cons];omega
theorem loop645(l:GL Inst): ∀(r:List Inst) (k n:Int),0≤k→k≤l.l.length→l.l.drop k.toNat=r→0≤n→n≤4*k→(orc vp).loop 0 [3,6,7,8] L645_0 [(3,.int .i64 n),(6,GL.v 3 Inst.v l),(7,.int .i64 l.l.length),(8,.int .i64 k)] []=
 some (.brk 0,[(3,.int .i64 (n+slotsN r)),(6,GL.v 3 Inst.v l),(7,.int .i64 l.l.length),(8,.int .i64 l.l.length),(9,.bool false)],[]):=by
 intro r
 induction r with
 |nil=>
  intro k n hk hkl hd h0 h1
  have hle:=drop_nil hk hd
  have hlt: ¬k<l.l.length:=by omega
  rw[lp645_0]
  simp -implicitDefEqProofs [hlt,slotsN]
  omega
 |cons x r ih=>
  intro k n hk hkl hd h0 h1
  obtain⟨hg,hlt,hd'⟩:=drop_cons hk hd
  have hle:=l.le
  have hm:=many_bd x.Depth.n
  have w1:IntKind.i64.wrap (k+1)=k+1:=wrap64 (by omega) (by omega)
  have w2:IntKind.i64.wrap (n+many x.Depth.n)=n+many x.Depth.n:=wrap64 (by omega) (by omega)
  rw[lp645_0]
  simp -implicitDefEqProofs [hlt,slotsN,hg,w1,w2,ih (k+1) (n+many x.Depth.n) (by omega) (by omega) hd' (by omega) (by omega),Int.add_assoc]
@[simp] theorem slots645(l:GL Inst):callRO vp 645 [GL.v 3 Inst.v l]=some (.int .i64 (slotsN l.l)):=by
  rw[callRO_K fn645]
  simp -implicitDefEqProofs [loop645 l l.l 0 0]
end Go.VE.Un
namespace Go.VE
@[simp] theorem slice_hi(z:Nat)(es:List V)(t:Tag)(k:IntKind)(i:Int)(hz:0<z)(h0:0≤i)(h1:i≤es.length):sliceV z (.sl z es t) none (some (.int k i)) none=some (.sl z (es.take i.toNat) (sliceTag t (i.toNat==es.length) false)):=by
  simp -implicitDefEqProofs [sliceV,hz,bnd,h0,h1]
def GL.take{α:Type}(x:GL α)(i:Int):GL α:=⟨x.l.take i.toNat,sliceTag x.t (i.toNat==x.l.length) false,by rw[List.length_take];have:=x.le;omega⟩
@[simp] theorem GL.take_l{α:Type}(x:GL α)(i:Int):(x.take i).l=x.l.take i.toNat:=rfl
theorem GL.slice_hi{α:Type}(z:Nat)(f:α→V)(x:GL α)(k:IntKind)(i:Int)(hz:0<z)(h0:0≤i)(h1:i≤x.l.length):sliceV z (GL.v z f x) none (some (.int k i)) none=some (GL.v z f (x.take i)):=by
 simp only[GL.v];rw[Go.VE.slice_hi _ _ _ _ _ hz h0 (by simpa using h1)];simp -implicitDefEqProofs [GL.take,List.map_take]
end Go.VE
namespace Go.VE.Un
def firstI(l:List Inst)(i:Int):Option Int:=(getI l i).bind fun x=>if many x.Depth.n=0 then none else some (slotsN (l.take i.toNat))
@[simp] theorem first638(l:GL Inst)(i:Int):callRO vp 638 [GL.v 3 Inst.v l,.int .i64 i]=some (.tup [.int .i64 ((firstI l.l i).getD 0),.bool (firstI l.l i).isSome]):=by
  have hle:=l.le
  have w:IntKind.i64.wrap (l.l.length-1)=l.l.length-1:=wrap64 (by omega) (by omega)
  rw[callRO_K fn638]
  rcases getI_cases l.l i with⟨x,h0,h1,hg⟩|⟨h0,hg⟩
  ·have h1':i≤l.l.length-1:=by omega
   by_cases hm:many x.Depth.n=0
   ·simp -implicitDefEqProofs [w,hg,h0,h1',hm,firstI]
   ·simp -implicitDefEqProofs [w,hg,h0,h1',hm,firstI,GL.slice_hi 3 Inst.v l .i64 i (by omega) h0 (by omega)]
  ·have hn: ¬(0≤i∧i≤l.l.length-1):=by omega
   by_cases h2:0≤i
   ·have h3: ¬i≤l.l.length-1:=by omega
    have h4: ¬i<l.l.length:=by omega
    simp -implicitDefEqProofs [w,hg,h2,h3,firstI]
   ·simp -implicitDefEqProofs [w,hg,h2,firstI]
def ofR:List Inst→Int→Int→Option (Int ×Int ×Inst)
 |[],_,_=>none
 |x::r,i,s=>if s<many x.Depth.n then some (i,s,x)else ofR r (i+1) (s-many x.Depth.n)
def ofI(l:List Inst)(s:Int):Option (Int ×Int ×Inst):=if s<0 then none else ofR l 0 s
theorem ofR_get{l:List Inst}: ∀{r:List Inst} {i s:Int} {j k:Int} {x:Inst},0≤i→l.drop i.toNat=r→ofR r i s=some (j,k,x)→getI l j=some x
 |[],_,_,_,_,_,_,_,h=>by simp -implicitDefEqProofs [ofR]at h
 |y::r,i,s,j,k,x,hi,hd,h=>by
  obtain⟨hg,hlt,hd'⟩:=drop_cons hi hd
  simp only[ofR]at h
  split at h
  ·simp only[Option.some.injEq,Prod.mk.injEq]at h
   obtain⟨rfl,rfl,rfl⟩:=h
   exact hg
  ·exact ofR_get (by omega) hd' h
theorem loop643(l:GL Inst): ∀(r:List Inst) (k s:Int),0≤k→k≤l.l.length→l.l.drop k.toNat=r→0≤s→s≤9223372036854775807→(orc vp).loop 0 [1,11,12,13] L643_0 [(1,.int .i64 s),(11,GL.v 3 Inst.v l),(12,.int .i64 l.l.length),(13,.int .i64 k)] []=
 (match ofR r k s with
  |some (i,j,x)=>some (.ret,[(4,.int .i64 i),(5,.int .i64 j),(6,.bool true)],[.arr [x.v]])
  |none=>some (.brk 0,[(1,.int .i64 (s-slotsN r)),(11,GL.v 3 Inst.v l),(12,.int .i64 l.l.length),(13,.int .i64 l.l.length),(14,.bool false)],[])):=by
 intro r
 induction r with
 |nil=>
  intro k s hk hkl hd h0 h1
  have hle:=drop_nil hk hd
  have hlt: ¬k<l.l.length:=by omega
  rw[lp643_0]
  simp -implicitDefEqProofs [hlt,slotsN,ofR]
  omega
 |cons x r ih=>
  intro k s hk hkl hd h0 h1
  obtain⟨hg,hlt,hd'⟩:=drop_cons hk hd
  have hle:=l.le
  have hm:=many_bd x.Depth.n
  have w1:IntKind.i64.wrap (k+1)=k+1:=wrap64 (by omega) (by omega)
  rw[lp643_0]
  by_cases hs:s<many x.Depth.n
  ·simp -implicitDefEqProofs [hlt,ofR,hg,hs]
  ·have w2:IntKind.i64.wrap (s-many x.Depth.n)=s-many x.Depth.n:=wrap64 (by omega) (by omega)
   simp -implicitDefEqProofs [hlt,hg,w1,w2,ih (k+1) (s-many x.Depth.n) (by omega) (by omega) hd' (by omega) (by omega),hs,ofR,slotsN,Int.sub_sub]
@[simp] theorem of643(l:GL Inst)(s:Int)(hs:s≤9223372036854775807):callRO vp 643 [GL.v 3 Inst.v l,.int .i64 s]=
   some (match ofI l.l s with|some (i,j,_x)=>.tup [.int .i64 i,.int .i64 j,.bool true]|none=>.tup [.int .i64 0,.int .i64 0,.bool false]):=by
  rw[callRO_K fn643]
  by_cases h:s<0
  ·simp -implicitDefEqProofs [h,ofI]
  ·rcases ho:ofR l.l 0 s with _|⟨i,j,x⟩<;>simp -implicitDefEqProofs [h,ofI,loop643 l l.l 0 s (by omega) (by omega) rfl (by omega) hs,ho]
end Go.VE.Un
namespace Go.VE.Un
open Go.VE
def GS.nil:GS:=⟨[],by simp⟩
def I64.z:I64:=⟨0,by omega,by omega⟩
def Header.z:Header:=⟨GS.nil,⟨[],.nl,by simp⟩,I64.z,I64.z,I64.z,I64.z⟩
theorem hdr0:VE.V.agg [.str [],.sl 2 [] .nl,.int .i64 0,.int .i64 0,.int .i64 0,.int .i64 0]=Header.z.v:=rfl
@[simp] theorem zfc:closedB (GL.v 2 Field.v Header.z.Fields)=true:=by simp[GL.closed,Header.z,Tag.cl]
theorem closed_get{α:Type}{z:Nat}{f:α→VE.V}{x:GL α}(h:closedB (GL.v z f x)=true){i:Int}{a:α}(hg:getI x.l i=some a):closedB (f a)=true:=by
 rw[GL.closed]at h
 simp only[Bool.and_eq_true,List.all_eq_true]at h
 refine h.2 a ?_
 unfold getI at hg
 split at hg
 ·exact List.mem_of_getElem? hg
 ·simp at hg
def slotH(hs:List Header)(l:List Inst)(s:Int):Option Header:=(ofI l s).bind fun r=>getI hs r.2.2.Header.n
@[simp] theorem header639(hs:GL Header)(l:GL Inst)(s:Int)(hc:closedB (GL.v 6 Header.v hs)=true)(hsb:s≤9223372036854775807):
   callRO vp 639 [GL.v 6 Header.v hs,GL.v 3 Inst.v l,.int .i64 s]=some (.tup [((slotH hs.l l.l s).getD Header.z).v,.bool (slotH hs.l l.l s).isSome]):=by
  have hle:=hs.le
  have w:IntKind.i64.wrap (hs.l.length-1)=hs.l.length-1:=wrap64 (by omega) (by omega)
  rw[callRO_K fn639]
  rcases ho:ofI l.l s with _|⟨i,j,x⟩
  ·simp -implicitDefEqProofs [ho,hsb,slotH,pureOp,fillV,hdr0]
  ·have hx:getI l.l i=some x:=by
    unfold ofI at ho
    split at ho
    ·simp at ho
    ·exact ofR_get (Int.le_refl 0) rfl ho
   rcases getI_cases hs.l x.Header.n with⟨a,h0,h1,hg⟩|⟨h0,hg⟩
   ·have h2:x.Header.n≤hs.l.length-1:=by omega
    have hca:=closed_get hc hg
    simp only[Header.closed]at hca
    simp -implicitDefEqProofs [ho,hsb,slotH,hx,w,hg,h0,h2,hca,hdr0]
   ·by_cases h2:0≤x.Header.n
    ·have h3: ¬x.Header.n≤hs.l.length-1:=by omega
     simp -implicitDefEqProofs [ho,hsb,slotH,hx,w,hg,h2,h3,pureOp,fillV,hdr0]
    ·simp -implicitDefEqProofs [ho,hsb,slotH,hx,w,hg,h2,pureOp,fillV,hdr0]
def Clo(m:Image):Prop:=closedB (Image.v m)=true
theorem cl_headers{m:Image}(hm:Clo m):closedB (GL.v 6 Header.v m.Headers)=true:=by
 simp only[Clo,Image.closed,Bool.and_eq_true]at hm;simp[hm]
theorem slot_closed{hs:GL Header}{l:List Inst}{s:Int}(hc:closedB (GL.v 6 Header.v hs)=true):closedB ((slotH hs.l l s).getD Header.z).v=true:=by
 unfold slotH
 cases ofI l s with
 |none=>simp[Header.closed]
 |some r=>
  simp only[Option.bind_some]
  cases hg:getI hs.l r.2.2.Header.n with
  |none=>simp[Header.closed]
  |some a=>exact closed_get hc hg
def slot(m:Image)(s:Int):Option Header:=slotH m.Headers.l m.Insts.l s
@[simp] theorem slot493(m:Image)(s:Int)(hm:Clo m)(hsb:s≤9223372036854775807):callRO vp 493 [m.v,.int .i64 s]=some (.tup [((slot m s).getD Header.z).v,.bool (slot m s).isSome]):=by
  have hc:=cl_headers hm
  have hz:=slot_closed (l:=m.Insts.l) (s:=s) hc
  simp only[Header.closed]at hz
  rw[callRO_K fn493]
  simp -implicitDefEqProofs [hc,hsb,hz,hdr0,slot]
def field(m:Image)(s f:Int):Option Int:=(slot m s).bind fun h=>(getI h.Fields.l f).map fun x=>x.W.n
@[simp] theorem field489(m:Image)(s f:Int)(hm:Clo m)(hsb:s≤9223372036854775807):callRO vp 489 [m.v,.int .i64 s,.int .i64 f]=some (.tup [.int .i64 ((field m s f).getD 0),.bool (field m s f).isSome]):=by
  have hz:=slot_closed (l:=m.Insts.l) (s:=s) (cl_headers hm)
  simp only[Header.closed]at hz
  rw[callRO_K fn489]
  rcases hs:slot m s with _|h
  ·simp -implicitDefEqProofs [hm,hsb,hs,field,hdr0]
  ·have hle:=h.Fields.le
   have hs':slotH m.Headers.l m.Insts.l s=some h:=hs
   simp only[hs',Option.getD_some]at hz
   have w:IntKind.i64.wrap (h.Fields.l.length-1)=h.Fields.l.length-1:=wrap64 (by omega) (by omega)
   rcases getI_cases h.Fields.l f with⟨a,h0,h1,hg⟩|⟨h0,hg⟩
   ·have h2:f≤h.Fields.l.length-1:=by omega
    simp -implicitDefEqProofs [hm,hsb,hs,field,hdr0,w,hg,h0,h2,hz]
   ·by_cases h2:0≤f
    ·have h3: ¬f≤h.Fields.l.length-1:=by omega
     simp -implicitDefEqProofs [hm,hsb,hs,field,hdr0,w,hg,h2,h3,hz]
    ·simp -implicitDefEqProofs [hm,hsb,hs,field,hdr0,w,hg,h2,hz]
def metaW(m:Image)(i:Int):Option Int:=if i<8 then getI [8,8,8,1,8,1,16,8] i else(getI m.Metas.l (i-8)).map fun x=>x.W.n
theorem idxA_get(cs:List V)(len:Nat)(k:IntKind)(i:Int)(hl:cs.length=len):idxA len 1 false (.agg cs) (.int k i)=getI cs i:=by
 subst hl
 unfold idxA getI
 by_cases h0:0≤i
 ·by_cases h1:i<cs.length
  ·simp[h0,h1]
  ·simp[h0,h1]
 ·simp[h0]
@[simp] theorem meta491(m:Image)(i:Int)(hlo: -9223372036854775808≤i)(hhi:i≤9223372036854775807):callRO vp 491 [m.v,.int .i64 i]=some (.tup [.int .i64 ((metaW m i).getD 0),.bool (metaW m i).isSome]):=by
  rw[callRO_K fn491]
  by_cases h0:0≤i
  ·by_cases h7:i≤7
   ·have h8:i<8:=by omega
    have:i=0∨i=1∨i=2∨i=3∨i=4∨i=5∨i=6∨i=7:=by omega
    rcases this with rfl|rfl|rfl|rfl|rfl|rfl|rfl|rfl<;>simp -implicitDefEqProofs [metaW,idxA_get,getI]
   ·have h8: ¬i<8:=by omega
    have w:IntKind.i64.wrap (i-8)=i-8:=wrap64 (by omega) (by omega)
    rcases getI_cases m.Metas.l (i-8)with⟨a,g0,g1,hg⟩|⟨g0,hg⟩
    ·simp -implicitDefEqProofs [metaW,h0,h7,h8,w,g1,hg]
    ·have g1: ¬i-8<m.Metas.l.length:=by omega
     simp -implicitDefEqProofs [metaW,h0,h7,h8,w,g1,hg]
  ·have h8:i<8:=by omega
   simp -implicitDefEqProofs [metaW,h0,h8,getI]
def stacked(m:Image)(i:Int):Option (Int ×Int):=(firstI m.Insts.l i).bind fun a=>(getI m.Insts.l i).bind fun x=>if x.Depth.n=0 then none else some (a,x.Depth.n)
@[simp] theorem stacked494(m:Image)(i:Int):callRO vp 494 [m.v,.int .i64 i]=some (match stacked m i with|some (a,d)=>.tup [.int .i64 a,.int .i64 d,.bool true]|none=>.tup [.int .i64 0,.int .i64 0,.bool false]):=by
  rw[callRO_K fn494]
  rcases hf:firstI m.Insts.l i with _|a
  ·simp -implicitDefEqProofs [hf,stacked]
  ·rcases hg:getI m.Insts.l i with _|x
   ·simp[firstI,hg]at hf
   ·by_cases hd:x.Depth.n=0
    ·simp -implicitDefEqProofs [hf,stacked,hg,hd]
    ·simp -implicitDefEqProofs [hf,stacked,hg,hd]
def partW(m:Image)(k:Key):Option Int:=
 if k.Kind.n=0 then field m k.A.n k.B.n else if k.Kind.n=1 then metaW m k.A.n else
 if k.Kind.n=2 then(if 0≤k.A.n∧k.A.n≤1024∧1≤k.B.n∧k.B.n≤64 then some k.B.n else none)else none
def partV(m:Image)(k:Key):Int:=if k.Kind.n=2 then k.B.n else(partW m k).getD 0
@[simp] theorem part510(m:Image)(k:Key)(hm:Clo m):callRO vp 510 [m.v,k.v]=some (.tup [.int .i64 (partV m k),.bool (partW m k).isSome]):=by
  have ha:=k.A.hi
  have hb:=k.A.lo
  rw[callRO_K fn510]
  by_cases h0:k.Kind.n=0
  ·simp -implicitDefEqProofs [h0,partW,partV,hm,ha]
  ·by_cases h1:k.Kind.n=1
   ·simp -implicitDefEqProofs [h0,h1,partW,partV,hm,ha,hb]
   ·by_cases h2:k.Kind.n=2
    ·by_cases h3:0≤k.A.n<;>by_cases h4:k.A.n≤1024<;>by_cases h5:1≤k.B.n<;>by_cases h6:k.B.n≤64<;>simp -implicitDefEqProofs [h0,h1,h2,h3,h4,h5,h6,partW,partV,hm]
    ·simp -implicitDefEqProofs [h0,h1,h2,partW,partV,hm]
def keyW(m:Image):List Key→Int→Option Int
 |[],n=>some n
 |k::r,n=>(partW m k).bind fun w=>if 1≤w∧w≤128-n then keyW m r (n+w)else none
theorem partV_eq{m:Image}{k:Key}{w:Int}(h:partW m k=some w):partV m k=w:=by
 unfold partV
 split
 ·rename_i h2
  have h0: ¬k.Kind.n=0:=by omega
  have h1: ¬k.Kind.n=1:=by omega
  simp only[partW,h2]at h
  simp at h
  exact h.2
 ·simp[h]
theorem loop490(m:Image)(hm:Clo m)(l:GL Key): ∀(r:List Key) (k n:Int),0≤k→k≤l.l.length→l.l.drop k.toNat=r→0≤n→n≤128→∃h,(orc vp).loop 0 [2,6,11,12,13] L490_0 [(2,.ptr 0 1 0 0),(6,.int .i64 n),(11,GL.v 3 Key.v l),(12,.int .i64 l.l.length),(13,.int .i64 k)] [.arr [m.v]]=
 some (match keyW m r n with
  |some w=>(.brk 0,[(2,.ptr 0 1 0 0),(6,.int .i64 w),(11,GL.v 3 Key.v l),(12,.int .i64 l.l.length),(13,.int .i64 l.l.length),(14,.bool false)],[.arr [m.v]])
  |none=>(.ret,[(4,.int .i64 0),(5,.bool false)],h)):=by
 intro r
 induction r with
 |nil=>
  intro k n hk hkl hd h0 h1
  have hle:=drop_nil hk hd
  have hlt: ¬k<l.l.length:=by omega
  have he:k=l.l.length:=by omega
  refine⟨[],?_⟩
  rw[lp490_0]
  simp -implicitDefEqProofs [hlt,keyW,he]
 |cons x r ih=>
  intro k n hk hkl hd h0 h1
  obtain⟨hg,hlt,hd'⟩:=drop_cons hk hd
  have hle:=l.le
  have w1:IntKind.i64.wrap (k+1)=k+1:=wrap64 (by omega) (by omega)
  have w3:IntKind.i64.wrap (128-n)=128-n:=wrap64 (by omega) (by omega)
  rw[lp490_0]
  rcases hp:partW m x with _|w
  ·simp -implicitDefEqProofs [hlt,hg,hp,hm,keyW]
  ·have hv:=partV_eq hp
   by_cases hw:1≤w
   ·by_cases hw2:w≤128-n
    ·have w2:IntKind.i64.wrap (n+w)=n+w:=wrap64 (by omega) (by omega)
     obtain⟨h,hi⟩:=ih (k+1) (n+w) (by omega) (by omega) hd' (by omega) (by omega)
     exact⟨h,by simp -implicitDefEqProofs [hlt,hg,hp,hm,hv,w1,w2,w3,hw,hw2,hi,keyW]⟩
    ·simp -implicitDefEqProofs [hlt,hg,hp,hm,hv,w3,hw,hw2,keyW]
   ·simp -implicitDefEqProofs [hlt,hg,hp,hm,hv,w3,hw,keyW]
@[simp] theorem key490(m:Image)(l:GL Key)(hm:Clo m):callRO vp 490 [m.v,GL.v 3 Key.v l]=some (.tup [.int .i64 ((keyW m l.l 0).getD 0),.bool (keyW m l.l 0).isSome]):=by
  obtain⟨h,h1⟩:=loop490 m hm l l.l 0 0 (by omega) (by omega) rfl (by omega) (by omega)
  rw[callRO_K fn490]
  rcases hk:keyW m l.l 0 with _|w<;>rw[hk]at h1<;>simp -implicitDefEqProofs [h1]
end Go.VE.Un
namespace Go.VE
theorem appV_0{lo z bytes:Nat}{es ns:List V}{h:Heap}(hlo:lo≤0)(hn:ns.isEmpty=false)(hr:(es.length+ns.length)*bytes≤roomB):
 appV lo (.arr es::h) z bytes (.gsl 0 es.length z 0 es.length) ns=some (.gsl 0 (es.length+ns.length) z 0 (es.length+ns.length),.arr (es++ns)::h):=by
 simp[appV,hn,hlo,hr]
theorem appV_1{lo z bytes:Nat}{es ns:List V}{b:Blk}{h:Heap}(hlo:lo≤1)(hn:ns.isEmpty=false)(hr:(es.length+ns.length)*bytes≤roomB):
 appV lo (b::.arr es::h) z bytes (.gsl 1 es.length z 0 es.length) ns=some (.gsl 1 (es.length+ns.length) z 0 (es.length+ns.length),b::.arr (es++ns)::h):=by
 simp[appV,hn,hlo,hr]
theorem appV_2{lo z bytes:Nat}{es ns:List V}{b c:Blk}{h:Heap}(hlo:lo≤2)(hn:ns.isEmpty=false)(hr:(es.length+ns.length)*bytes≤roomB):
 appV lo (b::c::.arr es::h) z bytes (.gsl 2 es.length z 0 es.length) ns=some (.gsl 2 (es.length+ns.length) z 0 (es.length+ns.length),b::c::.arr (es++ns)::h):=by
 simp[appV,hn,hlo,hr]
theorem listOf_sl(h:Heap)(z:Nat)(es:List V)(t:Tag):listOf h z (.sl z es t)=some es:=by simp[listOf]
theorem buildSl_eq(fr:Fr)(n:Nat)(ps:List VOpd)(h:((ps.map (opd fr)).all fun v=>v.cells.length==n&&okV v)=true):pureOp fr (.buildSl n ps)=some (.sl n (ps.map (opd fr)) .ce):=by
 simp only[pureOp,h,if_true]
end Go.VE
namespace Go.VE.Un
open Go.VE
def pairV(p:Int ×Int):V:=.agg [.int .i64 p.1,.int .i64 p.2]
@[simp] theorem pair_clen(p:Int ×Int):(pairV p).cells.length=2:=nr rfl
@[simp] theorem pair_ok(p:Int ×Int):okV (pairV p)=true:=nr rfl
@[simp] theorem pair_below(k:Nat)(p:Int ×Int):belowB k (pairV p)=true:=by simp[pairV]
@[simp] theorem pair_closed(p:Int ×Int):closedB (pairV p)=true:=by simp[pairV]
def insP(i k:Int):Nat→List (Int ×Int)
 |0=>[]
 |j+1=>(i,k)::insP i (k+1) j
def slotP(i:Int):List Inst→List (Int ×Int)
 |[]=>[]
 |x::r=>insP i 0 (many x.Depth.n).toNat++slotP (i+1) r
theorem insP_len(i k:Int)(j:Nat):(insP i k j).length=j:=by
 induction j generalizing k with
 |zero=>rfl
 |succ j ih=>simp[insP,ih]
theorem slotP_len(i:Int)(l:List Inst):((slotP i l).length:Int)=slotsN l:=by
 induction l generalizing i with
 |nil=>rfl
 |cons x r ih=>have:=many_bd x.Depth.n;simp[slotP,slotsN,insP_len,ih (i+1)];omega
theorem insP_get(i k:Int)(j:Nat)(s:Nat):(insP i k j)[s]? =if s<j then some (i,k+s)else none:=by
 induction j generalizing k s with
 |zero=>simp[insP]
 |succ j ih=>
  cases s with
  |zero=>simp[insP]
  |succ s=>simp only[insP,List.getElem?_cons_succ,ih];simp;split<;>simp;omega
theorem slotP_get(i:Int)(l:List Inst)(s:Int)(hs:0≤s):getI (slotP i l) s=(ofR l i s).map fun r=>(r.1,r.2.1):=by
 induction l generalizing i s with
 |nil=>simp[slotP,ofR,getI]
 |cons x r ih=>
  have hm:=many_bd x.Depth.n
  simp only[slotP,ofR]
  by_cases h:s<many x.Depth.n
  ·rw[if_pos h]
   unfold getI
   rw[if_pos hs,List.getElem?_append_left (by rw[insP_len];omega),insP_get,if_pos (by omega)]
   simp;omega
  ·rw[if_neg h,←ih (i+1) (s-many x.Depth.n) (by omega)]
   unfold getI
   rw[if_pos hs,if_pos (by omega),List.getElem?_append_right (by rw[insP_len];omega),insP_len]
   congr 1;omega
theorem loop823_0(xs:V)(i n:Int): ∀(j:Nat) (k:Int) (es:List V),0≤k→k≤n∨j=0→(n≤4→(n-k).toNat=j)→(4<n→j=0)→es.length+j≤100000000→(orc vp).loop 0 [0,3,4,5,6] L823_0 [(0,xs),(3,.gsl 0 es.length 2 0 es.length),(4,.int .i64 i),(5,.int .i64 n),(6,.int .i64 k)] [.arr es]=
 some (.brk 2,[(0,xs),(3,.gsl 0 (es++(insP i k j).map pairV).length 2 0 (es++(insP i k j).map pairV).length),(4,.int .i64 i),(5,.int .i64 n),(6,.int .i64 (k+j)),(26,.bool false)],[.arr (es++(insP i k j).map pairV)]):=by
 intro j
 induction j with
 |zero=>
  intro k es hk hkn h1 h2 hr
  rw[lp823_0]
  by_cases h4:n≤4
  ·have hlt: ¬k<n:=by have:=h1 h4;omega
   simp -implicitDefEqProofs [hlt,insP]
  ·by_cases hlt:k<n<;>simp -implicitDefEqProofs [hlt,insP,h4]
 |succ j ih=>
  intro k es hk hkn h1 h2 hr
  have h4:n≤4:=by
   rcases Int.lt_or_le 4 n with h|h
   ·have:=h2 h;omega
   ·exact h
  have hj:=h1 h4
  have hlt:k<n:=by omega
  have w1:IntKind.i64.wrap (k+1)=k+1:=wrap64 (by omega) (by omega)
  have hi:=ih (k+1) (es++[pairV (i,k)]) (by omega) (by omega) (fun _=>by omega) (fun h=>by omega) (by simp;omega)
  have ha:appV 0 [.arr es] 2 16 (.gsl 0 es.length 2 0 es.length) [pairV (i,k)]=some (.gsl 0 (es.length+1) 2 0 (es.length+1),[.arr (es++[pairV (i,k)])]):=
   appV_0 (Nat.le_refl _) rfl (by simp[roomB];omega)
  simp only[pairV]at ha
  rw[lp823_0]
  simp -implicitDefEqProofs [pairV,insP]at hi
  simp -implicitDefEqProofs [hlt,h4,insP,pureOp,fillV,listOf_sl,ha,w1,hi,pairV]
  omega
theorem loop823_1(l:GL Inst)(hb:l.l.length≤10000000): ∀(r:List Inst) (k:Int) (es:List V),0≤k→k≤l.l.length→l.l.drop k.toNat=r→es.length≤4*k→(orc vp).loop 0 [0,3,4] L823_1 [(0,GL.v 3 Inst.v l),(3,.gsl 0 es.length 2 0 es.length),(4,.int .i64 k)] [.arr es]=
 some (.brk 0,[(0,GL.v 3 Inst.v l),(3,.gsl 0 (es++(slotP k r).map pairV).length 2 0 (es++(slotP k r).map pairV).length),(4,.int .i64 l.l.length),(10,.bool false)],[.arr (es++(slotP k r).map pairV)]):=by
 intro r
 induction r with
 |nil=>
  intro k es hk hkl hd hr
  have hle:=drop_nil hk hd
  have hlt: ¬k<l.l.length:=by omega
  have he:k=l.l.length:=by omega
  rw[lp823_1]
  simp -implicitDefEqProofs [hlt,he,slotP]
 |cons x r ih=>
  intro k es hk hkl hd hr
  obtain⟨hg,hlt,hd'⟩:=drop_cons hk hd
  have hm:=many_bd x.Depth.n
  have w1:IntKind.i64.wrap (k+1)=k+1:=wrap64 (by omega) (by omega)
  have hi:=ih (k+1) (es++(insP k 0 (many x.Depth.n).toNat).map pairV) (by omega) (by omega) hd' (by simp[insP_len];omega)
  have h0:=loop823_0 (GL.v 3 Inst.v l) k (if x.Depth.n=0 then 1 else x.Depth.n) (many x.Depth.n).toNat 0 es (by omega) (by unfold many;split<;>split<;>omega) (by unfold many;split<;>split<;>omega) (by unfold many;split<;>split<;>omega) (by omega)
  rw[lp823_1]
  simp -implicitDefEqProofs at hi
  simp -implicitDefEqProofs at h0
  by_cases hz:x.Depth.n=0
  ·simp -implicitDefEqProofs [hz]at h0 hi
   simp -implicitDefEqProofs [hlt,hg,slotP,hz,h0,w1,hi]
  ·simp -implicitDefEqProofs [hz]at h0
   simp -implicitDefEqProofs [hlt,hg,slotP,hz,h0,w1,hi]
@[simp] theorem slots823(l:GL Inst)(hb:l.l.length≤10000000):callRO vp 823 [GL.v 3 Inst.v l]=some (.sl 2 ((slotP 0 l.l).map pairV) .perm):=by
  have h:=loop823_1 l hb l.l 0 [] (by omega) (by omega) rfl (by simp)
  rw[callRO_K fn823]
  simp -implicitDefEqProofs at h
  have hc:closedL ((slotP 0 l.l).map pairV)=true:=by rw[closedL_map];simp
  simp -implicitDefEqProofs [h,hc]
end Go.VE.Un
namespace Go.VE.Un
open Go.VE
@[simp] theorem pair_ld0(p:Int ×Int):ldc (pairV p) false 1 0=some (.int .i64 p.1):=rfl
@[simp] theorem pair_ld1(p:Int ×Int):ldc (pairV p) false 1 1=some (.int .i64 p.2):=rfl
theorem iaddrA_eptr(len n:Nat)(e:VE.V)(o:Nat)(t:Tag)(k:IntKind)(i:Int)(h0:0≤i)(h1:i<len):iaddrA len n (.eptr e o t) (.int k i)=some (.eptr e (o+i.toNat*n) t):=by
 simp[iaddrA,h0,h1]
@[simp] theorem rslot834(m:Image)(s:Int)(hm:Clo m)(hb:m.Insts.l.length≤10000000):callRO vp 834 [m.v,.int .i64 s]=some (.tup [((slot m s).getD Header.z).v,.bool (slot m s).isSome]):=by
  have hz:=slot_closed (l:=m.Insts.l) (s:=s) (cl_headers hm)
  simp only[Header.closed]at hz
  rw[callRO_K fn834]
  by_cases h0:s<0
  ·simp -implicitDefEqProofs [hb,h0,slot,slotH,ofI,pureOp,fillV,hdr0]
  ·have hg:=slotP_get 0 m.Insts.l s (by omega)
   rcases ho:ofR m.Insts.l 0 s with _|⟨i,j,x⟩
   ·simp only[ho,Option.map_none]at hg
    have h1:(slotP 0 m.Insts.l).length≤s:=by rcases getI_cases (slotP 0 m.Insts.l) s with⟨a,_,_,h⟩|⟨h,_⟩;simp[h]at hg;omega
    simp -implicitDefEqProofs [hb,h0,h1,slot,slotH,ofI,ho,pureOp,fillV,hdr0]
   ·simp only[ho,Option.map_some]at hg
    have h1: ¬(slotP 0 m.Insts.l).length≤s:=by rcases getI_cases (slotP 0 m.Insts.l) s with⟨a,_,_,h⟩|⟨_,h⟩;omega;simp[h]at hg
    have hx:getI m.Insts.l i=some x:=ofR_get (Int.le_refl 0) rfl ho
    simp only[slot,slotH,ofI,h0,ho]at hz
    simp at hz
    rcases getI_cases m.Headers.l x.Header.n with⟨a,g0,g1,hh⟩|⟨g0,hh⟩
    ·have g2: ¬x.Header.n<0:=by omega
     have g3: ¬m.Headers.l.length≤x.Header.n:=by omega
     simp[hh]at hz
     simp -implicitDefEqProofs [hb,h0,h1,slot,slotH,ofI,ho,pureOp,fillV,hdr0,hg,hx,iaddrA_eptr,hh,g2,g3,hz]
    ·by_cases g2:x.Header.n<0
     ·simp -implicitDefEqProofs [hb,h0,h1,slot,slotH,ofI,ho,pureOp,fillV,hdr0,hg,hx,iaddrA_eptr,hh,g2]
     ·have g3:m.Headers.l.length≤x.Header.n:=by omega
      simp -implicitDefEqProofs [hb,h0,h1,slot,slotH,ofI,ho,pureOp,fillV,hdr0,hg,hx,iaddrA_eptr,hh,g2,g3]
@[simp] theorem rfield830(m:Image)(s f:Int)(hm:Clo m)(hb:m.Insts.l.length≤10000000):callRO vp 830 [m.v,.int .i64 s,.int .i64 f]=some (.tup [.int .i64 ((field m s f).getD 0),.bool (field m s f).isSome]):=by
  have hz:=slot_closed (l:=m.Insts.l) (s:=s) (cl_headers hm)
  simp only[Header.closed]at hz
  rw[callRO_K fn830]
  rcases hs:slot m s with _|h
  ·simp -implicitDefEqProofs [hm,hb,hs,field,hdr0]
  ·have hs':slotH m.Headers.l m.Insts.l s=some h:=hs
   simp only[hs',Option.getD_some]at hz
   rcases getI_cases h.Fields.l f with⟨a,h0,h1,hg⟩|⟨h0,hg⟩
   ·have h2: ¬f<0:=by omega
    have h3: ¬h.Fields.l.length≤f:=by omega
    simp -implicitDefEqProofs [hm,hb,hs,field,hdr0,hg,h2,h3,hz]
   ·by_cases h2:f<0
    ·simp -implicitDefEqProofs [hm,hb,hs,field,hdr0,hg,h2,hz]
    ·have h3:h.Fields.l.length≤f:=by omega
     simp -implicitDefEqProofs [hm,hb,hs,field,hdr0,hg,h2,h3,hz]
@[simp] theorem rmeta832(m:Image)(i:Int)(hlo: -9223372036854775808≤i)(hhi:i≤9223372036854775807):callRO vp 832 [m.v,.int .i64 i]=some (.tup [.int .i64 ((metaW m i).getD 0),.bool (metaW m i).isSome]):=by
  rw[callRO_K fn832]
  by_cases h0:0≤i
  ·by_cases h7:i<8
   ·have h8: ¬8≤i:=by omega
    have:i=0∨i=1∨i=2∨i=3∨i=4∨i=5∨i=6∨i=7:=by omega
    rcases this with rfl|rfl|rfl|rfl|rfl|rfl|rfl|rfl<;>simp -implicitDefEqProofs [metaW,getI,buildSl_eq,iaddr_sl]
   ·have h8:8≤i:=by omega
    have w:IntKind.i64.wrap (i-8)=i-8:=wrap64 (by omega) (by omega)
    rcases getI_cases m.Metas.l (i-8)with⟨a,g0,g1,hg⟩|⟨g0,hg⟩
    ·simp -implicitDefEqProofs [metaW,h0,h7,h8,w,g1,hg,buildSl_eq]
    ·have g1: ¬i-8<m.Metas.l.length:=by omega
     simp -implicitDefEqProofs [metaW,h0,h7,h8,w,g1,hg,buildSl_eq]
  ·have h8:i<8:=by omega
   have h9: ¬8≤i:=by omega
   simp -implicitDefEqProofs [metaW,h0,h8,h9,getI,buildSl_eq]
@[simp] theorem rstacked835(m:Image)(i:Int)(hb:m.Insts.l.length≤10000000):callRO vp 835 [m.v,.int .i64 i]=some (match stacked m i with|some (a,d)=>.tup [.int .i64 a,.int .i64 d,.bool true]|none=>.tup [.int .i64 0,.int .i64 0,.bool false]):=by
  rw[callRO_K fn835]
  rcases getI_cases m.Insts.l i with⟨x,h0,h1,hg⟩|⟨h0,hg⟩
  ·have h2: ¬i<0:=by omega
   have h3: ¬m.Insts.l.length≤i:=by omega
   by_cases d1:x.Depth.n<1
   ·have:stacked m i=none:=by simp[stacked,firstI,hg,many];grind
    simp -implicitDefEqProofs [h2,h3,hg,d1,this]
   ·by_cases d4:4<x.Depth.n
    ·have:stacked m i=none:=by simp[stacked,firstI,hg,many];grind
     simp -implicitDefEqProofs [h2,h3,hg,d1,d4,this]
    ·have:stacked m i=some (slotsN (m.Insts.l.take i.toNat),x.Depth.n):=by simp[stacked,firstI,hg,many];grind
     have hs:=slotP_len 0 (m.Insts.l.take i.toNat)
     have hb2:=slots823 (m.Insts.take i) (by simp;omega)
     simp -implicitDefEqProofs [h2,h3,hg,d1,d4,this,GL.slice_hi 3 Inst.v m.Insts .i64 i (by omega) h0 (by omega),hb2,hs]
  ·by_cases h2:i<0
   ·simp -implicitDefEqProofs [h2,hg,stacked,firstI]
   ·have h3:m.Insts.l.length≤i:=by omega
    simp -implicitDefEqProofs [h2,h3,hg,stacked,firstI]
@[simp] theorem rpart833(m:Image)(k:Key)(hm:Clo m)(hb:m.Insts.l.length≤10000000):callRO vp 833 [m.v,k.v]=some (.tup [.int .i64 ((partW m k).getD 0),.bool (partW m k).isSome]):=by
  have ha:=k.A.hi
  have hl:=k.A.lo
  rw[callRO_K fn833]
  by_cases h0:k.Kind.n=0
  ·simp -implicitDefEqProofs [h0,partW,hm,hb]
  ·by_cases h1:k.Kind.n=1
   ·simp -implicitDefEqProofs [h0,h1,partW,hm,hb,ha,hl]
   ·by_cases h2:k.Kind.n=2
    ·by_cases h3:0≤k.A.n<;>by_cases h4:k.A.n≤1024<;>by_cases h5:1≤k.B.n<;>by_cases h6:k.B.n≤64<;>simp -implicitDefEqProofs [h0,h1,h2,h3,h4,h5,h6,partW,hm]
    ·simp -implicitDefEqProofs [h0,h1,h2,partW,hm]
theorem loop831(m:Image)(hm:Clo m)(hb:m.Insts.l.length≤10000000)(l:GL Key): ∀(r:List Key) (k n:Int),0≤k→k≤l.l.length→l.l.drop k.toNat=r→0≤n→n≤128→∃h,(orc vp).loop 0 [1,2,6,7] L831_0 [(1,GL.v 3 Key.v l),(2,.ptr 0 1 0 0),(6,.int .i64 n),(7,.int .i64 k)] [.arr [m.v]]=
 some (match keyW m r n with
  |some w=>(.brk 0,[(1,GL.v 3 Key.v l),(2,.ptr 0 1 0 0),(6,.int .i64 w),(7,.int .i64 l.l.length),(13,.bool false)],[.arr [m.v]])
  |none=>(.ret,[(4,.int .i64 0),(5,.bool false)],h)):=by
 intro r
 induction r with
 |nil=>
  intro k n hk hkl hd h0 h1
  have hle:=drop_nil hk hd
  have hlt: ¬k<l.l.length:=by omega
  have he:k=l.l.length:=by omega
  refine⟨[],?_⟩
  rw[lp831_0]
  simp -implicitDefEqProofs [hlt,keyW,he]
 |cons x r ih=>
  intro k n hk hkl hd h0 h1
  obtain⟨hg,hlt,hd'⟩:=drop_cons hk hd
  have hle:=l.le
  have w1:IntKind.i64.wrap (k+1)=k+1:=wrap64 (by omega) (by omega)
  have w3:IntKind.i64.wrap (128-n)=128-n:=wrap64 (by omega) (by omega)
  rw[lp831_0]
  rcases hp:partW m x with _|w
  ·simp -implicitDefEqProofs [hlt,hg,hp,hm,hb,keyW]
  ·by_cases hw:w<1
   ·have hw': ¬1≤w:=by omega
    simp -implicitDefEqProofs [hlt,hg,hp,hm,hb,w3,hw,hw',keyW]
   ·have hw':1≤w:=by omega
    by_cases hw2:128-n<w
    ·have hw3: ¬w≤128-n:=by omega
     simp -implicitDefEqProofs [hlt,hg,hp,hm,hb,w3,hw,hw',hw2,hw3,keyW]
    ·have hw3:w≤128-n:=by omega
     have w2:IntKind.i64.wrap (n+w)=n+w:=wrap64 (by omega) (by omega)
     obtain⟨h,hi⟩:=ih (k+1) (n+w) (by omega) (by omega) hd' (by omega) (by omega)
     exact⟨h,by simp -implicitDefEqProofs [hlt,hg,hp,hm,hb,w1,w2,w3,hw,hw',hw2,hw3,hi,keyW]⟩
@[simp] theorem rkey831(m:Image)(l:GL Key)(hm:Clo m)(hb:m.Insts.l.length≤10000000):callRO vp 831 [m.v,GL.v 3 Key.v l]=some (.tup [.int .i64 ((keyW m l.l 0).getD 0),.bool (keyW m l.l 0).isSome]):=by
  obtain⟨h,h1⟩:=loop831 m hm hb l l.l 0 0 (by omega) (by omega) rfl (by omega) (by omega)
  rw[callRO_K fn831]
  rcases hk:keyW m l.l 0 with _|w<;>rw[hk]at h1<;>simp -implicitDefEqProofs [h1]
end Go.VE.Un
