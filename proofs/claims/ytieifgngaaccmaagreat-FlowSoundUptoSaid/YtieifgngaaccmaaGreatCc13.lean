/- Joined texts: CrO, CrP, CrQ. No condition: what each theorem needs stands in it. -/
import Derived.Test.YtieifgngaaccmaaGreatCc12
namespace Go.VE.Un
open Go.VE
@[simp high] theorem GLcells2{α:Type}(z:Nat)(f:α→V)(x:GL α):V.cells (GL.v z f x)=[GL.v z f x]:=nr rfl
@[simp ↓ high] theorem GLcells{α:Type}(z:Nat)(f:α→V)(x:GL α):V.cells (GL.v z f x)=[GL.v z f x]:=nr rfl
theorem loop842(m:Image)(hm:Clo m)(hb:m.Insts.l.length≤10000000)(l:GL Node): ∀(j:Nat) (k:Int),0≤k→k+j=l.l.length→(orc vp).loop 0 [1,2,6] L842_0 [(1,GL.v 6 Node.v l),(2,.ptr 0 1 0 0),(6,.int .i64 k)] [.arr [m.v]]=
 (match allR (fun i=>match getI l.l i with|some x=>nodeE m x i l.l.length|none=>0) j k with
  |none=>some (.brk 0,[(1,GL.v 6 Node.v l),(2,.ptr 0 1 0 0),(6,.int .i64 l.l.length),(14,.bool false)],[.arr [m.v]])
  |some (i,e)=>some (.ret,[(4,.int .i64 i),(5,.int .i64 e)],[.arr [m.v]])):=by
 have hle:=l.le
 intro j
 induction j with
 |zero=>
  intro k hk hkl
  have hlt: ¬k<l.l.length:=by omega
  have he:k=l.l.length:=by omega
  rw[lp842_0]
  simp -implicitDefEqProofs [hlt,he,allR]
 |succ j ih=>
  intro k hk hkl
  have hlt:k<l.l.length:=by omega
  have w1:IntKind.i64.wrap (k+1)=k+1:=wrap64 (by omega) (by omega)
  have ih:=ih (k+1) (by omega) (by omega)
  rcases getI_cases l.l k with⟨x,_,_,hg⟩|⟨h,_⟩
  ·have hn:=rnode841 m hm hb x k l.l.length
   simp only[allR,hg]
   generalize allR (fun i=>match getI l.l i with|some x=>nodeE m x i l.l.length|none=>0) j (k+1)=A at*
   generalize nodeE m x k l.l.length=E at*
   rw[lp842_0]
   by_cases c:E=0
   ·subst c
    rw[if_pos rfl]
    cases A with
    |none=>simp -implicitDefEqProofs [hlt,hg,hn,w1,ih]
    |some q=>simp -implicitDefEqProofs [hlt,hg,hn,w1,ih]
   ·rw[if_neg c]
    simp -implicitDefEqProofs [hlt,hg,hn,c]
  ·omega
theorem rnodes842(m:Image)(hm:Clo m)(hb:m.Insts.l.length≤10000000)(l:GL Node):callRO vp 842 [m.v,GL.v 6 Node.v l]=some (.tup [.int .i64 (nodesE m l.l).1,.int .i64 (nodesE m l.l).2]):=by
 have hl:=loop842 m hm hb l l.l.length 0 (by omega) (by omega)
 unfold nodesE allE
 rw[show((l.l.length:Nat):Int).toNat=l.l.length from rfl]
 generalize allR (fun i=>match getI l.l i with|some x=>nodeE m x i l.l.length|none=>0) l.l.length 0=A at*
 rw[callRO_K fn842]
 by_cases c:(32:Int)<l.l.length
 ·rw[if_pos c]
  simp -implicitDefEqProofs [c]
 ·rw[if_neg c]
  cases A with
  |none=>simp -implicitDefEqProofs [c,hl]
  |some q=>simp -implicitDefEqProofs [c,hl]
def hdrF(fs:GL Field):Header:=⟨GS.nil,fs,I64.z,I64.z,I64.z,I64.z⟩
theorem hdrF_v(fs:GL Field):V.agg [.str [],GL.v 2 Field.v fs,.int .i64 0,.int .i64 0,.int .i64 0,.int .i64 0]=(hdrF fs).v:=rfl
theorem loop819(h:Header)(hl:h.Fields.l.length≤16)(hw: ∀f∈h.Fields.l,1≤f.W.n∧f.W.n≤128): ∀(r:List Field) (k sum:Int),0≤k→k≤h.Fields.l.length→h.Fields.l.drop k.toNat=r→0≤sum→sum≤128*k→(orc vp).loop 0 [1,3,4] L819_0 [(1,.ptr 0 1 0 0),(3,.int .i64 sum),(4,.int .i64 k)] [.arr [h.v]]=
 some (.brk 0,[(1,.ptr 0 1 0 0),(3,.int .i64 (sum+bitsN r)),(4,.int .i64 h.Fields.l.length),(9,.bool false)],[.arr [h.v]]):=by
 intro r
 induction r with
 |nil=>
  intro k sum hk hkl hd _ _
  have hle:=drop_nil hk hd
  have hlt: ¬k<h.Fields.l.length:=by omega
  have he:k=h.Fields.l.length:=by omega
  rw[lp819_0]
  simp -implicitDefEqProofs [hlt,he,bitsN]
 |cons y r ih=>
  intro k sum hk hkl hd h0 h1
  obtain⟨hg,hlt,hd'⟩:=drop_cons hk hd
  have w1:IntKind.i64.wrap (k+1)=k+1:=wrap64 (by omega) (by omega)
  have hy:=hw y (getI_mem hg)
  have w2:IntKind.i64.wrap (sum+y.W.n)=sum+y.W.n:=wrap64 (by omega) (by omega)
  have ih:=ih (k+1) (sum+y.W.n) (by omega) (by omega) hd' (by omega) (by omega)
  rw[lp819_0]
  simp -implicitDefEqProofs [hlt,hg,w1,w2,ih,bitsN,Int.add_assoc]
theorem rbits819(h:Header)(hl:h.Fields.l.length≤16)(hw: ∀f∈h.Fields.l,1≤f.W.n∧f.W.n≤128):callRO vp 819 [h.v]=some (.int .i64 (bitsN h.Fields.l)):=by
 have hlp:=loop819 h hl hw h.Fields.l 0 0 (by omega) (by omega) rfl (by omega) (by omega)
 rw[Int.zero_add]at hlp
 rw[callRO_K fn819]
 simp -implicitDefEqProofs [hlp]
def HdrOK(m:Image):Prop:= ∀h∈m.Headers.l,mayH h=0
theorem slot_mem2{m:Image}{s:Int}{h:Header}(e:slot m s=some h):h∈m.Headers.l:=by
 unfold slot slotH at e
 cases ho:ofI m.Insts.l s with
 |none=>rw[ho]at e;simp at e
 |some r=>rw[ho]at e;exact getI_mem e
theorem loop846(m:Image)(hm:Clo m)(hb:m.Insts.l.length≤10000000)(hH:HdrOK m)(l:GL CSum)(hl:l.l.length≤1000): ∀(j:Nat) (k:Int),0≤k→k+j=l.l.length→∃h,(orc vp).loop 0 [1,2,6] L846_0 [(1,GL.v 2 CSum.v l),(2,.ptr 0 1 0 0),(6,.int .i64 k)] [.arr [m.v]]=
 (match allR (fun i=>match getI l.l i with|some x=>sumE m x|none=>0) j k with
  |none=>some (.brk 0,[(1,GL.v 2 CSum.v l),(2,.ptr 0 1 0 0),(6,.int .i64 l.l.length),(17,.bool false)],[.arr [m.v]])
  |some (i,e)=>some (.ret,[(4,.int .i64 i),(5,.int .i64 e)],h)):=by
 have hle:=l.le
 intro j
 induction j with
 |zero=>
  intro k hk hkl
  refine⟨[],?_⟩
  have hlt: ¬k<l.l.length:=by omega
  have he:k=l.l.length:=by omega
  rw[lp846_0]
  simp -implicitDefEqProofs [hlt,he,allR]
 |succ j ih=>
  intro k hk hkl
  have hlt:k<l.l.length:=by omega
  have w1:IntKind.i64.wrap (k+1)=k+1:=wrap64 (by omega) (by omega)
  replace ih:=ih (k+1) (by omega) (by omega)
  obtain⟨hp,ih⟩:=ih
  rcases getI_cases l.l k with⟨x,_,_,hg⟩|⟨h,_⟩
  ·have hf:=rfield830 m x.Slot.n x.Field.n hm hb
   have hs:=rslot834 m x.Slot.n hm hb
   have hz:=slot_cl hm x.Slot.n
   have hE:sumE m x=match field m x.Slot.n x.Field.n with
    |none=>5
    |some w=>wantE (decide (w=16)&&decide ((offB ((slot m x.Slot.n).getD Header.z) x.Field.n).getD 0%16=0)) 9:=rfl
   simp only[allR,hg]
   generalize allR (fun i=>match getI l.l i with|some x=>sumE m x|none=>0) j (k+1)=A at*
   generalize sumE m x=E at*
   rw[lp846_0]
   cases hfd:field m x.Slot.n x.Field.n with
   |none=>
    rw[hfd]at hf hE
    simp only at hE
    subst hE
    refine⟨[.arr [m.v]],?_⟩
    simp -implicitDefEqProofs [hlt,hg,hf]
   |some w=>
    rw[hfd]at hf hE
    simp only at hE
    obtain⟨h,hsl,hfl⟩: ∃h,slot m x.Slot.n=some h∧∃y,getI h.Fields.l x.Field.n=some y:=by
     unfold field at hfd
     cases hsl:slot m x.Slot.n with
     |none=>rw[hsl]at hfd;simp at hfd
     |some h=>
      rw[hsl]at hfd
      simp only[Option.bind_some,Option.map_eq_some_iff]at hfd
      obtain⟨y,hy,_⟩:=hfd
      exact⟨h,rfl,y,hy⟩
    obtain⟨y,hy⟩:=hfl
    have hyl:=getI_lt hy
    have hok:=hH h (slot_mem2 hsl)
    obtain⟨_,_,hl16,hfe,_⟩:=mayH_0 hok
    have hwd:=fieldsE_W h.Fields.l [] 0 hfe
    have hoff:offB h x.Field.n=some (bitsN (h.Fields.l.take x.Field.n.toNat)):=by unfold offB;rw[if_pos ⟨hok,hyl.1,hyl.2⟩]
    simp only[hsl,Option.getD_some,Option.isSome_some]at hs hz hE
    simp only[hoff]at hE
    have hsi:=GL.slice_hi 2 Field.v h.Fields .i64 x.Field.n (by omega) hyl.1 (by omega)
    have hbt:=rbits819 (hdrF (h.Fields.take x.Field.n)) (by simp[hdrF];omega) (fun f hf=>hwd f (List.mem_of_mem_take hf))
    have hbd:=bitsN_bd (h.Fields.l.take x.Field.n.toNat) (fun f hf=>hwd f (List.mem_of_mem_take hf))
    have hbt:callRO vp 819 [(hdrF (h.Fields.take x.Field.n)).v]=some (.int .i64 (bitsN (h.Fields.l.take x.Field.n.toNat))):=hbt
    generalize bitsN (h.Fields.l.take x.Field.n.toNat)=B at*
    have hrem:binV .rem (.int .i64 B) (.int .i64 16)=some (.int .i64 (B%16)):=by rw[bin_rem _ _ _ (by decide),Int.tmod_eq_emod_of_nonneg hbd.1]
    simp only[Option.getD_some]at hE hf
    by_cases c1:w=16
    ·by_cases c2:B%16=0
     ·have:E=0:=by rw[hE];simp[wantE,c1,c2]
      subst this
      rw[if_pos rfl]
      refine⟨hp,?_⟩
      cases A with
      |none=>simp -implicitDefEqProofs [hlt,hg,hf,hs,hz,hdr0,c1,hsi,pureOp,fillV,hdrF_v,hbt,hrem,-V.cells,c2,w1,ih]
      |some q=>simp -implicitDefEqProofs [hlt,hg,hf,hs,hz,hdr0,c1,hsi,pureOp,fillV,hdrF_v,hbt,hrem,-V.cells,c2,w1,ih]
     ·have:E=9:=by rw[hE];simp[wantE,c1,c2]
      subst this
      refine⟨[.arr [m.v],.arr [h.v]],?_⟩
      simp -implicitDefEqProofs [hlt,hg,hf,hs,hz,hdr0,c1,hsi,pureOp,fillV,hdrF_v,hbt,hrem,-V.cells,c2]
    ·have:E=9:=by rw[hE];simp[wantE,c1]
     subst this
     refine⟨[.arr [m.v],.arr [h.v]],?_⟩
     simp -implicitDefEqProofs [hlt,hg,hf,hs,hz,hdr0,c1]
  ·omega
theorem rsums846(m:Image)(hm:Clo m)(hb:m.Insts.l.length≤10000000)(hH:HdrOK m)(l:GL CSum):callRO vp 846 [m.v,GL.v 2 CSum.v l]=some (.tup [.int .i64 (sumsE m l.l).1,.int .i64 (sumsE m l.l).2]):=by
 rw[callRO_K fn846]
 unfold sumsE allE
 by_cases c:(4:Int)<l.l.length
 ·rw[if_pos c]
  simp -implicitDefEqProofs [c]
 ·obtain⟨h,hl⟩:=loop846 m hm hb hH l (by omega) l.l.length 0 (by omega) (by omega)
  rw[show((l.l.length:Nat):Int).toNat=l.l.length from rfl,if_neg c]
  generalize allR (fun i=>match getI l.l i with|some x=>sumE m x|none=>0) l.l.length 0=A at*
  cases A with
  |none=>simp -implicitDefEqProofs [c,hl]
  |some q=>simp -implicitDefEqProofs [c,hl]
end Go.VE.Un
namespace Go.VE.Un
open Go.VE
structure Tiny (m:Image):Prop where
 name:m.Name.s.length≤17592186044416
 hf: ∀h∈m.Headers.l,h.Fields.l.length≤16→∀f∈h.Fields.l,f.Name.s.length≤17592186044416
 ins:m.Insts.l.length≤16→∀x∈m.Insts.l,x.Name.s.length≤17592186044416
 titles: ∀p,∀x∈titles m p,x.s.length≤17592186044416
 insts:m.Insts.l.length≤10000000
 held:Held m
theorem loop848(m:Image)(a:Action): ∀(r:List I64) (k:Int),0≤k→k≤a.Params.l.length→a.Params.l.drop k.toNat=r→(orc vp).loop 0 [3,8,9] L848_0 [(3,.ptr 0 1 0 0),(8,.ptr 1 1 0 0),(9,.int .i64 k)] [.arr [m.v],.arr [a.v]]=
 (if firstF parE r=0 then some (.brk 1,[(3,.ptr 0 1 0 0),(8,.ptr 1 1 0 0),(9,.int .i64 a.Params.l.length),(53,.bool false)],[.arr [m.v],.arr [a.v]])else some (.ret,[(6,.int .i64 9)],[.arr [m.v],.arr [a.v]])):=by
 have hle:=a.Params.le
 intro r
 induction r with
 |nil=>
  intro k hk hkl hd
  have hle:=drop_nil hk hd
  have hlt: ¬k<a.Params.l.length:=by omega
  have he:k=a.Params.l.length:=by omega
  rw[lp848_0]
  simp -implicitDefEqProofs [hlt,he,firstF]
 |cons x r ih=>
  intro k hk hkl hd
  obtain⟨hg,hlt,hd'⟩:=drop_cons hk hd
  have w1:IntKind.i64.wrap (k+1)=k+1:=wrap64 (by omega) (by omega)
  have ih:=ih (k+1) (by omega) (by omega) hd'
  have hst:firstF parE (x::r)=if parE x=0 then firstF parE r else parE x:=rfl
  have hp:parE x=if inB x.n 1 128=true then 0 else 9:=rfl
  generalize firstF parE r=S at*
  generalize parE x=E at*
  rw[hst,lp848_0]
  by_cases d1:x.n<1
  ·rw[if_neg (by rw[inB_split.2 (.inl d1)];simp)]at hp
   subst hp
   simp -implicitDefEqProofs [hlt,hg,d1]
  ·by_cases d2:128<x.n
   ·rw[if_neg (by rw[inB_split.2 (.inr d2)];simp)]at hp
    subst hp
    simp -implicitDefEqProofs [hlt,hg,d1,d2]
   ·rw[if_pos (by unfold inB;simp;omega)]at hp
    subst hp
    rw[if_pos rfl]
    by_cases d:S=0<;>simp only[d,eq_self,if_true,if_false]at ih⊢ <;>
    simp -implicitDefEqProofs [hlt,hg,d1,d2,w1,ih]
theorem firstF_par: ∀(r:List I64),firstF parE r=0∨firstF parE r=9
 |[]=>.inl rfl
 |x::r=>by
  simp only[firstF,parE]
  by_cases h:inB x.n 1 128=true
  ·simp only[h,if_true];exact firstF_par r
  ·simp only[h];exact .inr (by simp)
def actN(m:Image)(a:Action):Int:=if 8<a.Params.l.length then 2 else if firstF parE a.Params.l=0 then codeF m a.Code.l a.Params.l.length else firstF parE a.Params.l
section
variable (m : Image) (hm : Clo m) (hb : m.Insts.l.length ≤ 10000000)
theorem thing848_1(i:Int):callRO vp 848 [m.v,.int .i64 1,.int .i64 i]=some (.int .i64 0):=by
 rw[callRO_K fn848]
 simp -implicitDefEqProofs [b848]
theorem thing848_3(i:Int){x:Field}(hg:getI m.Metas.l i=some x):callRO vp 848 [m.v,.int .i64 3,.int .i64 i]=some (.int .i64 (wantE (inB x.W.n 1 128) 9)):=by
 rw[callRO_K fn848]
 by_cases d1:x.W.n<1
 ·rw[inB_split.2 (.inl d1)];simp -implicitDefEqProofs [hg,d1,wantE]
 ·by_cases d2:128<x.W.n
  ·rw[inB_split.2 (.inr d2)];simp -implicitDefEqProofs [hg,d1,d2,wantE]
  ·have e:inB x.W.n 1 128=true:=by unfold inB;simp;omega
   rw[e];simp -implicitDefEqProofs [hg,d1,d2,wantE]
include hm hb in
theorem thing848_4(hh:Heads m)(i:Int){x:State}(hg:getI m.States.l i=some x):callRO vp 848 [m.v,.int .i64 4,.int .i64 i]=some (.int .i64 (stN m x)):=by
 have hs:=rstate845 m hm hh hb x
 rw[callRO_K fn848]
 simp -implicitDefEqProofs [hg,hs]
include hm hb in
theorem thing848_5(i:Int){x:Action}(hg:getI m.Actions.l i=some x):callRO vp 848 [m.v,.int .i64 5,.int .i64 i]=some (.int .i64 (actN m x)):=by
 have hc:=rcode829 m hm hb x.Code x.Params.l.length
 have hl:=loop848 m x x.Params.l 0 (by omega) (by omega) rfl
 have hcl:closedB x.v=true:=by
  have h1:=hm
  simp only[Clo,Image.closed,Bool.and_eq_true]at h1
  have hA:closedB (GL.v 3 Action.v m.Actions)=true:=by simp[h1]
  exact closed_get hA hg
 simp only[Action.closed]at hcl
 have h9:=firstF_par x.Params.l
 unfold actN
 generalize firstF parE x.Params.l=S at*
 rw[callRO_K fn848]
 by_cases c1:8<x.Params.l.length
 ·have c1':(8:Int)<x.Params.l.length:=by omega
  rw[if_pos c1]
  simp -implicitDefEqProofs [hg,hcl,c1']
 ·have c1': ¬(8:Int)<x.Params.l.length:=by omega
  rw[if_neg c1]
  by_cases c2:S=0
  ·rw[if_pos c2]at hl⊢
   simp -implicitDefEqProofs [hg,hcl,c1',hl,hc]
  ·rw[if_neg c2]at hl⊢
   have h9:=h9.resolve_left c2
   simp -implicitDefEqProofs [hg,hcl,c1',hl,h9]
include hm hb in
theorem thing848_6(i:Int){x:Table}(hg:getI m.Tables.l i=some x):callRO vp 848 [m.v,.int .i64 6,.int .i64 i]=some (.int .i64 (tabN m x)):=by
 have hs:=rtable847 m hm hb x
 rw[callRO_K fn848]
 simp -implicitDefEqProofs [hg,hs]
theorem thing848_12(i:Int){x:Reg}(hg:getI m.Regs.l i=some x):callRO vp 848 [m.v,.int .i64 12,.int .i64 i]=some (.int .i64 (if inB x.W.n 1 128=false then 9 else logE x.Log.n)):=by
 rw[callRO_K fn848]
 by_cases d1:x.W.n<1
 ·rw[inB_split.2 (.inl d1)];simp -implicitDefEqProofs [hg,d1]
 ·by_cases d2:128<x.W.n
  ·rw[inB_split.2 (.inr d2)];simp -implicitDefEqProofs [hg,d1,d2]
  ·have e:inB x.W.n 1 128=true:=by unfold inB;simp;omega
   rw[e]
   by_cases e1:x.Log.n<1
   ·have:logE x.Log.n=7:=by unfold logE;rw[inB_split.2 (.inl e1)];rfl
    simp -implicitDefEqProofs [hg,d1,d2,e1,this]
   ·by_cases e2:8<x.Log.n
    ·have:logE x.Log.n=7:=by unfold logE;rw[inB_split.2 (.inr e2)];rfl
     simp -implicitDefEqProofs [hg,d1,d2,e1,e2,this]
    ·have:logE x.Log.n=0:=by unfold logE wantE;rw[if_pos (by unfold inB;simp;omega)]
     simp -implicitDefEqProofs [hg,d1,d2,e1,e2,this]
theorem thing848_13(i:Int){x:Counter}(hg:getI m.Counters.l i=some x):callRO vp 848 [m.v,.int .i64 13,.int .i64 i]=some (.int .i64 (logE x.Log.n)):=by
 rw[callRO_K fn848]
 by_cases e1:x.Log.n<1
 ·have:logE x.Log.n=7:=by unfold logE;rw[inB_split.2 (.inl e1)];rfl
  simp -implicitDefEqProofs [hg,e1,this]
 ·by_cases e2:8<x.Log.n
  ·have:logE x.Log.n=7:=by unfold logE;rw[inB_split.2 (.inr e2)];rfl
   simp -implicitDefEqProofs [hg,e1,e2,this]
  ·have:logE x.Log.n=0:=by unfold logE wantE;rw[if_pos (by unfold inB;simp;omega)]
   simp -implicitDefEqProofs [hg,e1,e2,this]
theorem thing848_14(i:Int){x:Meter}(hg:getI m.Meters.l i=some x):callRO vp 848 [m.v,.int .i64 14,.int .i64 i]=some (.int .i64 (if logE x.Log.n=0 then wantE (inB x.Rate.n 0 65535&&inB x.Burst.n 1 1048576) 7 else 7)):=by
 rw[callRO_K fn848]
 by_cases e1:x.Log.n<1
 ·have:logE x.Log.n=7:=by unfold logE;rw[inB_split.2 (.inl e1)];rfl
  have e1': ¬1≤x.Log.n:=by omega
  simp -implicitDefEqProofs [hg,e1,e1',this]
 ·have e1':1≤x.Log.n:=by omega
  by_cases e2:8<x.Log.n
  ·have:logE x.Log.n=7:=by unfold logE;rw[inB_split.2 (.inr e2)];rfl
   have e2': ¬x.Log.n≤8:=by omega
   simp -implicitDefEqProofs [hg,e1,e1',e2,e2',this]
  ·have:logE x.Log.n=0:=by unfold logE wantE;rw[if_pos (by unfold inB;simp;omega)]
   have e2':x.Log.n≤8:=by omega
   rw[if_pos this]
   by_cases r1:x.Rate.n<0
   ·have e:inB x.Rate.n 0 65535=false:=inB_split.2 (.inl r1)
    simp -implicitDefEqProofs [hg,e1,e1',e2,e2',r1,e,wantE]
   ·by_cases r2:65535<x.Rate.n
    ·have e:inB x.Rate.n 0 65535=false:=inB_split.2 (.inr r2)
     simp -implicitDefEqProofs [hg,e1,e1',e2,e2',r1,r2,e,wantE]
    ·have e:inB x.Rate.n 0 65535=true:=by unfold inB;simp;omega
     by_cases b1:x.Burst.n<1
     ·have f:inB x.Burst.n 1 1048576=false:=inB_split.2 (.inl b1)
      simp -implicitDefEqProofs [hg,e1,e1',e2,e2',r1,r2,b1,e,f,wantE]
     ·by_cases b2:1048576<x.Burst.n
      ·have f:inB x.Burst.n 1 1048576=false:=inB_split.2 (.inr b2)
       simp -implicitDefEqProofs [hg,e1,e1',e2,e2',r1,r2,b1,b2,e,f,wantE]
      ·have f:inB x.Burst.n 1 1048576=true:=by unfold inB;simp;omega
       simp -implicitDefEqProofs [hg,e1,e1',e2,e2',r1,r2,b1,b2,e,f,wantE]
end
theorem zeroL(L:Int):(if L=0 then 0 else L)=L:=by split<;>simp_all
theorem first2(a b:Int):firstE [a,b]=if a=0 then b else a:=by simp only[firstE];by_cases h:b=0<;>simp[h]
theorem metaE_eq(m:Image){i:Int}{x:Field}(hg:getI m.Metas.l i=some x):metaE m i=if titledE (nMetas m) i=0 then wantE (inB x.W.n 1 128) 9 else titledE (nMetas m) i:=by
 unfold metaE;rw[hg];exact first2 _ _
theorem regE_eq(m:Image){i:Int}{x:Reg}(hg:getI m.Regs.l i=some x):regE m i=if titledE (nRegs m) i=0 then(if inB x.W.n 1 128=false then 9 else logE x.Log.n)else titledE (nRegs m) i:=by
 unfold regE;rw[hg];simp only[firstE,wantE]
 cases inB x.W.n 1 128<;>simp[zeroL]
theorem counterE_eq(m:Image){i:Int}{x:Counter}(hg:getI m.Counters.l i=some x):counterE m i=if titledE (nCounters m) i=0 then logE x.Log.n else titledE (nCounters m) i:=by
 unfold counterE;rw[hg];exact first2 _ _
theorem logE_07(n:Int):logE n=0∨logE n=7:=by unfold logE wantE;split<;>simp
theorem meterE_eq(m:Image){i:Int}{x:Meter}(hg:getI m.Meters.l i=some x):meterE m i=if titledE (nMeters m) i=0 then(if logE x.Log.n=0 then wantE (inB x.Rate.n 0 65535&&inB x.Burst.n 1 1048576) 7 else 7)else titledE (nMeters m) i:=by
 unfold meterE;rw[hg];simp only[firstE]
 rcases logE_07 x.Log.n with h|h<;>simp[h,zeroL]
theorem actionE_eq(m:Image){i:Int}{a:Action}(hg:getI m.Actions.l i=some a):actionE m i=if titledE (nActions m) i=0 then actN m a else titledE (nActions m) i:=by
 unfold actionE actN actA;rw[hg];simp only[first2,wantE,decide_eq_true_eq]
 by_cases h:titledE (nActions m) i=0
 ·simp only[h,if_true]
  by_cases c:8<a.Params.l.length
  ·have c': ¬(a.Params.l.length:Int)≤8:=by omega
   simp[c,c']
  ·have c':(a.Params.l.length:Int)≤8:=by omega
   simp[c,c']
 ·simp[h]
theorem stateE_eq(m:Image){i:Int}{s:State}(hg:getI m.States.l i=some s):stateE m i=if titledE (nStates m) i=0 then stN m s else titledE (nStates m) i:=by
 unfold stateE stE stA stB stN stT;rw[hg];simp only[first2,wantE,decide_eq_true_eq]
 by_cases h:titledE (nStates m) i=0
 ·simp only[h,if_true]
  by_cases c:4<s.Exts.l.length
  ·have c': ¬(s.Exts.l.length:Int)≤4:=by omega
   simp[c,c']
  ·have c':(s.Exts.l.length:Int)≤4:=by omega
   simp only[c',if_true,c,if_false]
   by_cases d:firstF (extE m) s.Exts.l=0
   ·simp only[d,if_true,ne_eq,not_true,if_false]
    by_cases e:keyE m s.Keys.l true=0
    ·simp only[e,firstE,if_true]
     by_cases f:8<s.Cases.l.length
     ·have f': ¬(s.Cases.l.length:Int)≤8:=by omega
      simp[f,f']
     ·have f':(s.Cases.l.length:Int)≤8:=by omega
      by_cases g:s.Cases.l.length=0
      ·simp[g]
      ·by_cases k:s.Keys.l.length=0
       ·simp[f,f',g,k]
       ·have k':0<s.Keys.l.length:=by omega
        simp[f,f',g,k,k']
    ·simp[e,firstE]
   ·simp[d]
 ·simp[h]
theorem tableE_eq(m:Image){i:Int}{t:Table}(hg:getI m.Tables.l i=some t):tableE m i=if titledE (nTables m) i=0 then tabN m t else titledE (nTables m) i:=by
 unfold tableE tabT tabA tabN callsE;rw[hg];simp only[wantE]
 by_cases h:titledE (nTables m) i=0
 ·have hk:(decide (0≤t.Kind.n)&&decide (t.Kind.n≤3))=inB t.Kind.n 0 3:=rfl
  have hsz:(decide (1≤t.Size.n)&&decide (t.Size.n≤256))=inB t.Size.n 1 256:=rfl
  simp only[h,if_true,hk,hsz,firstE]
  cases inB t.Kind.n 0 3
  ·simp
  ·by_cases c1:t.Keys.l.length=0
   ·simp[c1]
   ·have c1':0<t.Keys.l.length:=by omega
    by_cases c2:keyE m t.Keys.l false=0
    ·by_cases c3:8<t.Actions.l.length
     ·simp[c1,c1',c2,c3]
     ·by_cases c4:callR m t.Actions.l t.Actions.l 0=0
      ·by_cases c5:t.Actions.l.length=0
       ·simp[c1,c1',c2,c3,c4,c5]
       ·have c5':(0:Int)<t.Actions.l.length:=by omega
        cases decide (t.Default.Action.n∈t.Actions.l.map (·.n))
        ·simp[c1,c1',c2,c3,c4,c5,c5']
        ·by_cases c6:argsE m t.Default.Action.n t.Default.Args.l=0
         ·cases inB t.Size.n 1 256<;>simp[c1,c1',c2,c3,c4,c5,c5',c6]
         ·simp[c1,c1',c2,c3,c4,c5,c5',c6]
      ·simp[c1,c1',c2,c3,c4]
    ·simp[c1,c1',c2]
 ·simp[h,firstE]
end Go.VE.Un
namespace Go.VE.Un
open Go.VE
theorem nm_str(l:List GS):l.map strV=(nm l).map V.str:=by unfold nm;rw[List.map_map];rfl
theorem titled_take(ns:List (List UInt8)){i:Int}(h0:0≤i)(h1:i<ns.length):titledE (ns.take (i+1).toNat) (((ns.take (i+1).toNat).length:Int)-1)=titledE ns i:=by
 have hl:((ns.take (i+1).toNat).length:Int)-1=i:=by simp;omega
 rw[hl]
 unfold titledE
 rw[getI_take h0 (by omega),List.take_take,show min i.toNat (i+1).toNat=i.toNat by omega]
theorem title849_at(ns:List (List UInt8))(t:Tag){i:Int}(h0:0≤i)(h1:i<ns.length)(hn:ns.length≤17592186044416)(hb: ∀x∈ns,x.length≤17592186044416):
 callRO vp 849 [.sl 1 ((ns.take (i+1).toNat).map V.str) t]=some (.int .i64 (titledE ns i)):=by
 have h:=title849 (ns.take (i+1).toNat) t (fun h=>by
  rcases List.take_eq_nil_iff.1 h with h|h
  ·omega
  ·subst h;simp at h1;omega) (by simp;omega) (fun x hx=>hb x (List.mem_of_mem_take hx))
 rw[titled_take ns h0 h1]at h
 exact h
theorem slice_strs(ns:List (List UInt8))(t:Tag)(k:IntKind){i:Int}(h0:0≤i)(h1:i<ns.length): ∃u,sliceV 1 (.sl 1 (ns.map V.str) t) none (some (.int k (i+1))) none=some (.sl 1 ((ns.take (i+1).toNat).map V.str) u):=by
 refine⟨sliceTag t ((i+1).toNat==(ns.map V.str).length) false,?_⟩
 rw[slice_hi 1 _ t k (i+1) (by omega) (by omega) (by simp;omega),List.map_take]
theorem loop843_0(m:Image)(p:Int)(hp:p≠1)(ns:List (List UInt8))(t:Tag)(hn:ns.length≤17592186044416)(hb: ∀x∈ns,x.length≤17592186044416)(th:Int→Int)
 (hth: ∀i:Int,0≤i→i<ns.length→callRO vp 848 [m.v,.int .i64 p,.int .i64 i]=some (.int .i64 (th i))) (ask:Int→Int) (hask: ∀i:Int,0≤i→i<ns.length→ask i=if titledE ns i=0 then th i else titledE ns i): ∀(j:Nat) (k:Int),0≤k→k+j=ns.length→(orc vp).loop 0 [1,2,10,12] L843_0 [(1,.int .i64 p),(2,.ptr 0 1 0 0),(10,.sl 1 (ns.map V.str) t),(12,.int .i64 k)] [.arr [m.v]]=
   (match allR ask j k with
    |none=>some (.brk 5,[(1,.int .i64 p),(2,.ptr 0 1 0 0),(10,.sl 1 (ns.map V.str) t),(12,.int .i64 ns.length),(152,.bool false)],[.arr [m.v]])
    |some (i,e)=>some (.ret,[(4,.int .i64 i),(5,.int .i64 e)],[.arr [m.v]])):=by
 intro j
 induction j with
 |zero=>
  intro k hk hkl
  have hlt: ¬k<ns.length:=by omega
  have he:k=ns.length:=by omega
  rw[lp843_0]
  simp -implicitDefEqProofs [hlt,he,allR]
 |succ j ih=>
  intro k hk hkl
  have hlt:k<ns.length:=by omega
  have w1:IntKind.i64.wrap (k+1)=k+1:=wrap64 (by omega) (by omega)
  have ih:=ih (k+1) (by omega) (by omega)
  obtain⟨u,hs⟩:=slice_strs ns t .i64 hk hlt
  have ht:=title849_at ns u hk hlt hn hb
  have hh:=hth k hk hlt
  have ha:=hask k hk hlt
  have hst:allR ask (j+1) k=if ask k=0 then allR ask j (k+1)else some (k,ask k):=rfl
  generalize allR ask j (k+1)=A at*
  generalize ask k=E at*
  generalize titledE ns k=T at*
  generalize th k=U at*
  have hsb:belowL 0 ((ns.take (k+1).toNat).map V.str)=true:=strs_below _ _
  generalize (ns.take (k+1).toNat).map V.str=sl at*
  rw[hst,lp843_0]
  by_cases c1:T=0
  ·subst c1
   rw[if_pos rfl]at ha
   subst ha
   by_cases c2:E=0
   ·subst c2
    rw[if_pos rfl]
    cases A with
    |none=>simp -implicitDefEqProofs [hlt,hp,w1,hs,hsb,ht,hh,ih]
    |some q=>simp -implicitDefEqProofs [hlt,hp,w1,hs,hsb,ht,hh,ih]
   ·rw[if_neg c2]
    simp -implicitDefEqProofs [hlt,hp,w1,hs,hsb,ht,hh,c2]
  ·rw[if_neg c1]at ha
   subst ha
   rw[if_neg c1]
   simp -implicitDefEqProofs [hlt,hp,w1,hs,hsb,ht,c1]
theorem loop843_h(m:Image)(hT:Tiny m)(ns:List (List UInt8))(he:ns=nHeaders m)(t:Tag)(hn:ns.length≤17592186044416)(hb: ∀x∈ns,x.length≤17592186044416): ∀(j:Nat) (k:Int),0≤k→k+j=ns.length→(orc vp).loop 0 [1,2,10,12] L843_0 [(1,.int .i64 1),(2,.ptr 0 1 0 0),(10,.sl 1 (ns.map V.str) t),(12,.int .i64 k)] [.arr [m.v]]=
 (match allR (headerE m) j k with
  |none=>some (.brk 5,[(1,.int .i64 1),(2,.ptr 0 1 0 0),(10,.sl 1 (ns.map V.str) t),(12,.int .i64 ns.length),(152,.bool false)],[.arr [m.v]])
  |some (i,e)=>some (.ret,[(4,.int .i64 i),(5,.int .i64 e)],[.arr [m.v]])):=by
 intro j
 induction j with
 |zero=>
  intro k hk hkl
  have hlt: ¬k<ns.length:=by omega
  have he:k=ns.length:=by omega
  rw[lp843_0]
  simp -implicitDefEqProofs [hlt,he,allR]
 |succ j ih=>
  intro k hk hkl
  have hlt:k<ns.length:=by omega
  have w1:IntKind.i64.wrap (k+1)=k+1:=wrap64 (by omega) (by omega)
  have ih:=ih (k+1) (by omega) (by omega)
  obtain⟨u,hs⟩:=slice_strs ns t .i64 hk hlt
  have ht:=title849_at ns u hk hlt hn hb
  have hh:=thing848_1 m k
  have hl2:ns.length=m.Headers.l.length:=by rw[he];simp[nHeaders]
  rcases getI_cases m.Headers.l k with⟨x,_,_,hg⟩|⟨hx,_⟩
  ·have hx1:x.Name.s.length≤17592186044416:=hT.titles 1 x.Name (by simp[titles];exact⟨x,getI_mem hg,rfl⟩)
   have hm:=rmay821 x hx1 (hT.hf x (getI_mem hg))
   have ha:headerE m k=if mayH x=0 then titledE ns k else mayH x:=by unfold headerE;rw[hg,he]
   have hst:allR (headerE m) (j+1) k=if headerE m k=0 then allR (headerE m) j (k+1)else some (k,headerE m k):=rfl
   generalize allR (headerE m) j (k+1)=A at*
   generalize headerE m k=E at*
   generalize titledE ns k=T at*
   generalize mayH x=M at*
   have hsb:belowL 0 ((ns.take (k+1).toNat).map V.str)=true:=strs_below _ _
   generalize (ns.take (k+1).toNat).map V.str=sl at*
   rw[hst,lp843_0]
   by_cases c0:M=0
   ·rw[if_pos c0]at ha
    subst ha
    subst c0
    by_cases c1:E=0
    ·subst c1
     rw[if_pos rfl]
     cases A with
     |none=>simp -implicitDefEqProofs [hlt,hg,hm,w1,hs,hsb,ht,hh,ih]
     |some q=>simp -implicitDefEqProofs [hlt,hg,hm,w1,hs,hsb,ht,hh,ih]
    ·rw[if_neg c1]
     simp -implicitDefEqProofs [hlt,hg,hm,w1,hs,hsb,ht,c1]
   ·rw[if_neg c0]at ha
    subst ha
    rw[if_neg c0]
    simp -implicitDefEqProofs [hlt,hg,hm,c0]
  ·omega
theorem loop843_1(m:Image)(T:Heap)(i:Int){d:I64}(hgi:getI m.Deparse.l i=some d): ∀(r:List I64) (k:Int),0≤k→k≤i→(m.Deparse.l.take i.toNat).drop k.toNat=r→(orc vp).loop 0 [2,6,9] L843_1 [(2,.ptr 0 1 0 0),(6,.int .i64 i),(9,.int .i64 k)] (.arr [m.v]::T)=
 (if r.any (fun x=>decide (x.n=d.n))=true then some (.ret,[(4,.int .i64 i),(5,.int .i64 6)],.arr [m.v]::T)else some (.brk 3,[(2,.ptr 0 1 0 0),(6,.int .i64 i),(9,.int .i64 i),(100,.bool false)],.arr [m.v]::T)):=by
 have hil:=getI_lt hgi
 have hle:=m.Deparse.le
 intro r
 induction r with
 |nil=>
  intro k hk hkl hd
  have hle:=drop_nil hk hd
  have hlt: ¬k<i:=by simp at hle;omega
  have he:k=i:=by omega
  rw[lp843_1]
  simp -implicitDefEqProofs [hlt,he]
 |cons y r ih=>
  intro k hk hkl hd
  obtain⟨hg,hlt,hd'⟩:=drop_cons hk hd
  have hlt:k<i:=by simp at hlt;omega
  rw[getI_take hk hlt]at hg
  have w1:IntKind.i64.wrap (k+1)=k+1:=wrap64 (by omega) (by omega)
  have ih:=ih (k+1) (by omega) (by omega) hd'
  rw[lp843_1]
  by_cases c:y.n=d.n
  ·simp -implicitDefEqProofs [hlt,hg,hgi,c]
  ·simp -implicitDefEqProofs [hlt,hg,hgi,c,w1,ih]
theorem loop843_2(m:Image)(hm:Clo m)(hb:m.Insts.l.length≤10000000): ∀(j:Nat) (k:Int),0≤k→k+j=m.Deparse.l.length→∃h,(orc vp).loop 0 [2,6] L843_2 [(2,.ptr 0 1 0 0),(6,.int .i64 k)] [.arr [m.v]]=
 (match allR (outE m) j k with
  |none=>some (.brk 1,[(2,.ptr 0 1 0 0),(6,.int .i64 m.Deparse.l.length),(82,.bool false)],[.arr [m.v]])
  |some (i,e)=>some (.ret,[(4,.int .i64 i),(5,.int .i64 e)],h)):=by
 have hle:=m.Deparse.le
 intro j
 induction j with
 |zero=>
  intro k hk hkl
  refine⟨[],?_⟩
  have hlt: ¬k<m.Deparse.l.length:=by omega
  have he:k=m.Deparse.l.length:=by omega
  rw[lp843_2]
  simp -implicitDefEqProofs [hlt,he,allR]
 |succ j ih=>
  intro k hk hkl
  have hlt:k<m.Deparse.l.length:=by omega
  have w1:IntKind.i64.wrap (k+1)=k+1:=wrap64 (by omega) (by omega)
  replace ih:=ih (k+1) (by omega) (by omega)
  obtain⟨h,ih⟩:=ih
  rcases getI_cases m.Deparse.l k with⟨x,_,_,hg⟩|⟨hx,_⟩
  ·have hs:=rslot834 m x.n hm hb
   have hz:=slot_cl hm x.n
   have hl:=fun T=>loop843_1 m T k hg _ 0 (by omega) hk rfl
   simp only[show(0:Int).toNat=0 from rfl,List.drop_zero]at hl
   have ha:outE m k=if(slot m x.n).isSome=false then 5 else if(m.Deparse.l.take k.toNat).any (fun y=>decide (y.n=x.n))=true then 6 else 0:=by
    unfold outE;rw[hg];simp only[]
    generalize (slot m x.n).isSome=b1
    generalize (m.Deparse.l.take k.toNat).any (fun y=>decide (y.n=x.n))=b2
    cases b1<;>cases b2<;>rfl
   have hst:allR (outE m) (j+1) k=if outE m k=0 then allR (outE m) j (k+1)else some (k,outE m k):=rfl
   generalize allR (outE m) j (k+1)=A at*
   generalize outE m k=E at*
   generalize (m.Deparse.l.take k.toNat).any (fun y=>decide (y.n=x.n))=D at*
   rw[hst,lp843_2]
   cases c0:(slot m x.n).isSome with
   |false=>
    rw[c0]at hs ha
    rw[if_pos rfl]at ha
    subst ha
    refine⟨_,by simp -implicitDefEqProofs [hlt,hg,hs,hz,hdr0];rfl⟩
   |true=>
    rw[c0]at hs ha
    rw[if_neg (by simp)]at ha
    cases D with
    |true=>
     simp only[if_true]at hl ha
     subst ha
     refine⟨_,by simp -implicitDefEqProofs [hlt,hg,hs,hz,hdr0,hl];rfl⟩
    |false=>
     simp only[Bool.false_eq_true,if_false]at hl ha
     subst ha
     rw[if_pos rfl]
     refine⟨h,?_⟩
     cases A with
     |none=>simp -implicitDefEqProofs [hlt,hg,hs,hz,hdr0,hl,w1,ih]
     |some q=>simp -implicitDefEqProofs [hlt,hg,hs,hz,hdr0,hl,w1,ih]
  ·omega
end Go.VE.Un
