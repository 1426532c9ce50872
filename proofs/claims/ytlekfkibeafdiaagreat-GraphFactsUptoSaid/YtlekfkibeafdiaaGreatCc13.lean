/- Joined texts: CrO, CrP, CrQ. No condition: what each theorem needs stands in it. -/
import Derived.Test.YtlekfkibeafdiaaGreatCc12
namespace Go.VE.Un
open Go.VE
@[simp high] theorem Zxc{α:Type}(z:Nat)(f:α→V)(x:GL α):V.cells (GL.v z f x)=[GL.v z f x]:=nr rfl
@[simp ↓ high] theorem ZAx{α:Type}(z:Nat)(f:α→V)(x:GL α):V.cells (GL.v z f x)=[GL.v z f x]:=nr rfl
theorem Zok(m:Zb)(hm:Clo m)(hb:m.Insts.l.length≤10000000)(l:GL Zs): ∀(j:Nat) (k:Int),0≤k→k+j=l.l.length→(orc vp).loop 0 [1,2,6] ZfS [(1,GL.v 6 Zs.v l),(2,.ptr 0 1 0 0),(6,.int .i64 k)] [.arr [m.v]]=
 (match Xe (fun i=>match Zh l.l i with|some x=>Wb m x i l.l.length|none=>0) j k with
  |none=>some (.brk 0,[(1,GL.v 6 Zs.v l),(2,.ptr 0 1 0 0),(6,.int .i64 l.l.length),(14,.bool false)],[.arr [m.v]])
  |some (i,e)=>some (.ret,[(4,.int .i64 i),(5,.int .i64 e)],[.arr [m.v]])):=by
 have hle:=l.le
 intro j
 induction j with
 |zero=>
  intro k hk hkl
  obtain⟨hlt,he⟩: ¬k<l.l.length∧k=l.l.length:=by and_intros<;>omega
  rw[Zjt]
  simp -implicitDefEqProofs [hlt,he,Xe]
 |succ j ih=>
  intro k hk hkl
  have hlt:k<l.l.length:=by omega
  have w1:=w64 (n:=k+1) (by omega)
  have ih:=ih (k+1) (by omega) (by omega)
  rcases Zm l.l k with⟨x,_,_,hg⟩|⟨h,_⟩
  ·have hn:=ZmK m hm hb x k l.l.length
   simp only[Xe,hg]
   generalize Xe (fun i=>match Zh l.l i with|some x=>Wb m x i l.l.length|none=>0) j (k+1)=A at*
   generalize Wb m x k l.l.length=E at*
   rw[Zjt]
   by_cases c:E=0
   ·subst c
    rw[if_pos rfl]
    cases A with
    |none=>simp -implicitDefEqProofs [hlt,hg,hn,w1,ih]
    |some q=>simp -implicitDefEqProofs [hlt,hg,hn,w1,ih]
   ·rw[if_neg c]
    simp -implicitDefEqProofs [hlt,hg,hn,c]
  ·omega
theorem Zbk(m:Zb)(hm:Clo m)(hb:m.Insts.l.length≤10000000)(l:GL Zs):Zc vp 842 [m.v,GL.v 6 Zs.v l]=some (.tup [.int .i64 (Wj m l.l).1,.int .i64 (Wj m l.l).2]):=by
 have hl:=Zok m hm hb l l.l.length 0 (by omega) (by omega)
 unfold Wj Yw
 rw[show((l.l.length:Nat):Int).toNat=l.l.length from rfl]
 generalize Xe (fun i=>match Zh l.l i with|some x=>Wb m x i l.l.length|none=>0) l.l.length 0=A at*
 rw[Za Zzk]
 by_cases c:(32:Int)<l.l.length
 ·rw[if_pos c]
  simp -implicitDefEqProofs [c]
 ·rw[if_neg c]
  cases A with
  |none=>simp -implicitDefEqProofs [c,hl]
  |some q=>simp -implicitDefEqProofs [c,hl]
def ZoZ(fs:GL Field):Header:=⟨GS.nil,fs,I64.z,I64.z,I64.z,I64.z⟩
theorem Zf2(fs:GL Field):V.agg [.str [],GL.v 2 Field.v fs,.int .i64 0,.int .i64 0,.int .i64 0,.int .i64 0]=(ZoZ fs).v:=rfl
theorem Zqh(h:Header)(hl:h.Fields.l.length≤16)(hw: ∀f∈h.Fields.l,1≤f.W.n∧f.W.n≤128): ∀(r:List Field) (k sum:Int),0≤k→k≤h.Fields.l.length→h.Fields.l.drop k.toNat=r→0≤sum→sum≤128*k→(orc vp).loop 0 [1,3,4] Zhj [(1,.ptr 0 1 0 0),(3,.int .i64 sum),(4,.int .i64 k)] [.arr [h.v]]=
 some (.brk 0,[(1,.ptr 0 1 0 0),(3,.int .i64 (sum+WQ r)),(4,.int .i64 h.Fields.l.length),(9,.bool false)],[.arr [h.v]]):=by
 intro r
 induction r with
 |nil=>
  intro k sum hk hkl hd _ _
  have hle:=Zq hk hd
  obtain⟨hlt,he⟩: ¬k<h.Fields.l.length∧k=h.Fields.l.length:=by and_intros<;>omega
  rw[Zjo]
  simp -implicitDefEqProofs [hlt,he,WQ]
 |cons y r ih=>
  intro k sum hk hkl hd h0 h1
  obtain⟨hg,hlt,hd'⟩:=Zp hk hd
  have w1:=w64 (n:=k+1) (by omega)
  have hy:=hw y (Y9 hg)
  have w2:=w64 (n:=sum+y.W.n) (by omega)
  have ih:=ih (k+1) (sum+y.W.n) (by omega) (by omega) hd' (by omega) (by omega)
  rw[Zjo]
  simp -implicitDefEqProofs [hlt,hg,w1,w2,ih,WQ,Int.add_assoc]
theorem Zl9(h:Header)(hl:h.Fields.l.length≤16)(hw: ∀f∈h.Fields.l,1≤f.W.n∧f.W.n≤128):Zc vp 819 [h.v]=some (.int .i64 (WQ h.Fields.l)):=by
 have hlp:=Zqh h hl hw h.Fields.l 0 0 (by omega) (by omega) rfl (by omega) (by omega)
 rw[Int.zero_add]at hlp
 rw[Za Zvh]
 simp -implicitDefEqProofs [hlp]
def Za7(m:Zb):Prop:= ∀h∈m.Headers.l,VW h=0
theorem ZjT{m:Zb}{s:Int}{h:Header}(e:Xl m s=some h):h∈m.Headers.l:=by
 unfold Xl Wf at e
 cases ho:ofI m.Insts.l s with
 |none=>rw[ho]at e;simp at e
 |some r=>rw[ho]at e;exact Y9 e
theorem ZpC(m:Zb)(hm:Clo m)(hb:m.Insts.l.length≤10000000)(hH:Za7 m)(l:GL Yj)(hl:l.l.length≤1000): ∀(j:Nat) (k:Int),0≤k→k+j=l.l.length→∃h,(orc vp).loop 0 [1,2,6] ZfU [(1,GL.v 2 Yj.v l),(2,.ptr 0 1 0 0),(6,.int .i64 k)] [.arr [m.v]]=
 (match Xe (fun i=>match Zh l.l i with|some x=>K4 m x|none=>0) j k with
  |none=>some (.brk 0,[(1,GL.v 2 Yj.v l),(2,.ptr 0 1 0 0),(6,.int .i64 l.l.length),(17,.bool false)],[.arr [m.v]])
  |some (i,e)=>some (.ret,[(4,.int .i64 i),(5,.int .i64 e)],h)):=by
 have hle:=l.le
 intro j
 induction j with
 |zero=>
  intro k hk hkl
  refine⟨[],?_⟩
  obtain⟨hlt,he⟩: ¬k<l.l.length∧k=l.l.length:=by and_intros<;>omega
  rw[ZiH]
  simp -implicitDefEqProofs [hlt,he,Xe]
 |succ j ih=>
  intro k hk hkl
  have hlt:k<l.l.length:=by omega
  have w1:=w64 (n:=k+1) (by omega)
  replace ih:=ih (k+1) (by omega) (by omega)
  obtain⟨hp,ih⟩:=ih
  rcases Zm l.l k with⟨x,_,_,hg⟩|⟨h,_⟩
  ·have hf:=JY m x.Slot.n x.Field.n hm hb
   have hs:=VU m x.Slot.n hm hb
   have hz:=Wg hm x.Slot.n
   have hE:K4 m x=match field m x.Slot.n x.Field.n with
    |none=>5
    |some w=>Zl (decide (w=16)&&decide ((QT ((Xl m x.Slot.n).getD Header.z) x.Field.n).getD 0%16=0)) 9:=rfl
   simp only[Xe,hg]
   generalize Xe (fun i=>match Zh l.l i with|some x=>K4 m x|none=>0) j (k+1)=A at*
   generalize K4 m x=E at*
   rw[ZiH]
   cases hfd:field m x.Slot.n x.Field.n with
   |none=>
    rw[hfd]at hf hE
    simp only at hE
    subst hE
    refine⟨[.arr [m.v]],?_⟩
    simp -implicitDefEqProofs [hlt,hg,hf]
   |some w=>
    rw[hfd]at hf hE
    simp only at hE
    obtain⟨h,hsl,hfl⟩: ∃h,Xl m x.Slot.n=some h∧∃y,Zh h.Fields.l x.Field.n=some y:=by
     unfold field at hfd
     cases hsl:Xl m x.Slot.n with
     |none=>rw[hsl]at hfd;simp at hfd
     |some h=>
      rw[hsl]at hfd
      simp only[Option.bind_some,Option.map_eq_some_iff]at hfd
      obtain⟨y,hy,_⟩:=hfd
      exact⟨h,rfl,y,hy⟩
    obtain⟨y,hy⟩:=hfl
    have hyl:=Ul hy
    have hok:=hH h (ZjT hsl)
    obtain⟨_,_,hl16,hfe,_⟩:=ZhV hok
    have hwd:=QA h.Fields.l [] 0 hfe
    have hoff:QT h x.Field.n=some (WQ (h.Fields.l.take x.Field.n.toNat)):=by unfold QT;rw[if_pos ⟨hok,hyl.1,hyl.2⟩]
    simp only[hsl,Option.getD_some,Option.isSome_some]at hs hz hE
    simp only[hoff]at hE
    have hsi:=GL.slice_hi 2 Field.v h.Fields .i64 x.Field.n (by omega) hyl.1 (by omega)
    have hbt:=Zl9 (ZoZ (h.Fields.take x.Field.n)) (by simp[ZoZ];omega) (fun f hf=>hwd f (List.mem_of_mem_take hf))
    have hbd:=Zad (h.Fields.l.take x.Field.n.toNat) (fun f hf=>hwd f (List.mem_of_mem_take hf))
    have hbt:Zc vp 819 [(ZoZ (h.Fields.take x.Field.n)).v]=some (.int .i64 (WQ (h.Fields.l.take x.Field.n.toNat))):=hbt
    generalize WQ (h.Fields.l.take x.Field.n.toNat)=B at*
    have hrem:Yh .rem (.int .i64 B) (.int .i64 16)=some (.int .i64 (B%16)):=by rw[JH _ _ _ (by decide),Int.tmod_eq_emod_of_nonneg hbd.1]
    simp only[Option.getD_some]at hE hf
    by_cases c1:w=16
    ·by_cases c2:B%16=0
     ·have:E=0:=by rw[hE];simp[Zl,c1,c2]
      subst this
      rw[if_pos rfl]
      refine⟨hp,?_⟩
      cases A with
      |none=>simp -implicitDefEqProofs [hlt,hg,hf,hs,hz,Ye,c1,hsi,Zf,ZC,Zf2,hbt,hrem,-V.cells,c2,w1,ih]
      |some q=>simp -implicitDefEqProofs [hlt,hg,hf,hs,hz,Ye,c1,hsi,Zf,ZC,Zf2,hbt,hrem,-V.cells,c2,w1,ih]
     ·have:E=9:=by rw[hE];simp[Zl,c1,c2]
      subst this
      refine⟨[.arr [m.v],.arr [h.v]],?_⟩
      simp -implicitDefEqProofs [hlt,hg,hf,hs,hz,Ye,c1,hsi,Zf,ZC,Zf2,hbt,hrem,-V.cells,c2]
    ·have:E=9:=by rw[hE];simp[Zl,c1]
     subst this
     refine⟨[.arr [m.v],.arr [h.v]],?_⟩
     simp -implicitDefEqProofs [hlt,hg,hf,hs,hz,Ye,c1]
  ·omega
theorem Zfl(m:Zb)(hm:Clo m)(hb:m.Insts.l.length≤10000000)(hH:Za7 m)(l:GL Yj):Zc vp 846 [m.v,GL.v 2 Yj.v l]=some (.tup [.int .i64 (Q4 m l.l).1,.int .i64 (Q4 m l.l).2]):=by
 rw[Za Zx5]
 unfold Q4 Yw
 by_cases c:(4:Int)<l.l.length
 ·rw[if_pos c]
  simp -implicitDefEqProofs [c]
 ·obtain⟨h,hl⟩:=ZpC m hm hb hH l (by omega) l.l.length 0 (by omega) (by omega)
  rw[show((l.l.length:Nat):Int).toNat=l.l.length from rfl,if_neg c]
  generalize Xe (fun i=>match Zh l.l i with|some x=>K4 m x|none=>0) l.l.length 0=A at*
  cases A with
  |none=>simp -implicitDefEqProofs [c,hl]
  |some q=>simp -implicitDefEqProofs [c,hl]
end Go.VE.Un
namespace Go.VE.Un
open Go.VE
structure Zdn (m:Zb):Prop where
 name:m.Name.s.length≤17592186044416
 hf: ∀h∈m.Headers.l,h.Fields.l.length≤16→∀f∈h.Fields.l,f.Name.s.length≤17592186044416
 ins:m.Insts.l.length≤16→∀x∈m.Insts.l,x.Name.s.length≤17592186044416
 titles: ∀p,∀x∈titles m p,x.s.length≤17592186044416
 insts:m.Insts.l.length≤10000000
 held:ZaG m
theorem Zoz(m:Zb)(a:Action): ∀(r:List I64) (k:Int),0≤k→k≤a.Params.l.length→a.Params.l.drop k.toNat=r→(orc vp).loop 0 [3,8,9] ZfX [(3,.ptr 0 1 0 0),(8,.ptr 1 1 0 0),(9,.int .i64 k)] [.arr [m.v],.arr [a.v]]=
 (if Zx Ud r=0 then some (.brk 1,[(3,.ptr 0 1 0 0),(8,.ptr 1 1 0 0),(9,.int .i64 a.Params.l.length),(53,.bool false)],[.arr [m.v],.arr [a.v]])else some (.ret,[(6,.int .i64 9)],[.arr [m.v],.arr [a.v]])):=by
 have hle:=a.Params.le
 intro r
 induction r with
 |nil=>
  intro k hk hkl hd
  have hle:=Zq hk hd
  obtain⟨hlt,he⟩: ¬k<a.Params.l.length∧k=a.Params.l.length:=by and_intros<;>omega
  rw[Zib]
  simp -implicitDefEqProofs [hlt,he,Zx]
 |cons x r ih=>
  intro k hk hkl hd
  obtain⟨hg,hlt,hd'⟩:=Zp hk hd
  have w1:=w64 (n:=k+1) (by omega)
  have ih:=ih (k+1) (by omega) (by omega) hd'
  have hst:Zx Ud (x::r)=if Ud x=0 then Zx Ud r else Ud x:=rfl
  have hp:Ud x=if inB x.n 1 128=true then 0 else 9:=rfl
  generalize Zx Ud r=S at*
  generalize Ud x=E at*
  rw[hst,Zib]
  by_cases d1:x.n<1
  ·rw[if_neg (by rw[Zr.2 (.inl d1)];simp)]at hp
   subst hp
   simp -implicitDefEqProofs [hlt,hg,d1]
  ·by_cases d2:128<x.n
   ·rw[if_neg (by rw[Zr.2 (.inr d2)];simp)]at hp
    subst hp
    simp -implicitDefEqProofs [hlt,hg,d1,d2]
   ·rw[if_pos (by unfold inB;simp;omega)]at hp
    subst hp
    rw[if_pos rfl]
    by_cases d:S=0<;>simp only[d,eq_self,if_true,if_false]at ih⊢ <;>
    simp -implicitDefEqProofs [hlt,hg,d1,d2,w1,ih]
theorem Za5: ∀(r:List I64),Zx Ud r=0∨Zx Ud r=9
 |[]=>.inl rfl
 |x::r=>by
  simp only[Zx,Ud]
  by_cases h:inB x.n 1 128=true
  ·simp only[h,if_true];exact Za5 r
  ·simp only[h];exact .inr (by simp)
def ZmI(m:Zb)(a:Action):Int:=if 8<a.Params.l.length then 2 else if Zx Ud a.Params.l=0 then Y3 m a.Code.l a.Params.l.length else Zx Ud a.Params.l
section
variable (m : Zb) (hm : Clo m) (hb : m.Insts.l.length ≤ 10000000)
theorem ZhO(i:Int):Zc vp 848 [m.v,.int .i64 1,.int .i64 i]=some (.int .i64 0):=by
 rw[Za Kx]
 simp -implicitDefEqProofs [b848]
theorem Zgk(i:Int){x:Field}(hg:Zh m.Metas.l i=some x):Zc vp 848 [m.v,.int .i64 3,.int .i64 i]=some (.int .i64 (Zl (inB x.W.n 1 128) 9)):=by
 rw[Za Kx]
 by_cases d1:x.W.n<1
 ·rw[Zr.2 (.inl d1)];simp -implicitDefEqProofs [hg,d1,Zl]
 ·by_cases d2:128<x.W.n
  ·rw[Zr.2 (.inr d2)];simp -implicitDefEqProofs [hg,d1,d2,Zl]
  ·have e:inB x.W.n 1 128=true:=by unfold inB;simp;omega
   rw[e];simp -implicitDefEqProofs [hg,d1,d2,Zl]
include hm hb in
theorem Zh4(hh:Jx m)(i:Int){x:ZJ}(hg:Zh m.States.l i=some x):Zc vp 848 [m.v,.int .i64 4,.int .i64 i]=some (.int .i64 (stN m x)):=by
 have hs:=Zly m hm hh hb x
 rw[Za Kx]
 simp -implicitDefEqProofs [hg,hs]
include hm hb in
theorem Zhz(i:Int){x:Action}(hg:Zh m.Actions.l i=some x):Zc vp 848 [m.v,.int .i64 5,.int .i64 i]=some (.int .i64 (ZmI m x)):=by
 have hc:=ZfC m hm hb x.Code x.Params.l.length
 have hl:=Zoz m x x.Params.l 0 (by omega) (by omega) rfl
 have hcl:Ze x.v=true:=by
  have h1:=hm
  simp only[Clo,Zb.closed,Bool.and_eq_true]at h1
  have hA:Ze (GL.v 3 Action.v m.Actions)=true:=by simp[h1]
  exact Xc hA hg
 simp only[Action.closed]at hcl
 have h9:=Za5 x.Params.l
 unfold ZmI
 generalize Zx Ud x.Params.l=S at*
 rw[Za Kx]
 by_cases c1:8<x.Params.l.length
 ·have c1':(8:Int)<x.Params.l.length:=by omega
  rw[if_pos c1]
  simp -implicitDefEqProofs [hg,hcl,c1']
 ·have c1': ¬(8:Int)<x.Params.l.length:=by omega
  rw[if_neg c1]
  by_cases c2:S=0
  ·rw[if_pos c2]at hl⊢
   simp -implicitDefEqProofs [hg,hcl,c1',hl,hc]
  ·rw[if_neg c2]at hl⊢
   have h9:=h9.resolve_left c2
   simp -implicitDefEqProofs [hg,hcl,c1',hl,h9]
include hm hb in
theorem Zh7(i:Int){x:ZD}(hg:Zh m.Tables.l i=some x):Zc vp 848 [m.v,.int .i64 6,.int .i64 i]=some (.int .i64 (Zk1 m x)):=by
 have hs:=Zk2 m hm hb x
 rw[Za Kx]
 simp -implicitDefEqProofs [hg,hs]
theorem Zep(i:Int){x:Reg}(hg:Zh m.Regs.l i=some x):Zc vp 848 [m.v,.int .i64 12,.int .i64 i]=some (.int .i64 (if inB x.W.n 1 128=false then 9 else XL x.Log.n)):=by
 rw[Za Kx]
 by_cases d1:x.W.n<1
 ·rw[Zr.2 (.inl d1)];simp -implicitDefEqProofs [hg,d1]
 ·by_cases d2:128<x.W.n
  ·rw[Zr.2 (.inr d2)];simp -implicitDefEqProofs [hg,d1,d2]
  ·have e:inB x.W.n 1 128=true:=by unfold inB;simp;omega
   rw[e]
   by_cases e1:x.Log.n<1
   ·have:XL x.Log.n=7:=by unfold XL;rw[Zr.2 (.inl e1)];rfl
    simp -implicitDefEqProofs [hg,d1,d2,e1,this]
   ·by_cases e2:8<x.Log.n
    ·have:XL x.Log.n=7:=by unfold XL;rw[Zr.2 (.inr e2)];rfl
     simp -implicitDefEqProofs [hg,d1,d2,e1,e2,this]
    ·have:XL x.Log.n=0:=by unfold XL Zl;rw[if_pos (by unfold inB;simp;omega)]
     simp -implicitDefEqProofs [hg,d1,d2,e1,e2,this]
theorem ZfK(i:Int){x:ZA}(hg:Zh m.Counters.l i=some x):Zc vp 848 [m.v,.int .i64 13,.int .i64 i]=some (.int .i64 (XL x.Log.n)):=by
 rw[Za Kx]
 by_cases e1:x.Log.n<1
 ·have:XL x.Log.n=7:=by unfold XL;rw[Zr.2 (.inl e1)];rfl
  simp -implicitDefEqProofs [hg,e1,this]
 ·by_cases e2:8<x.Log.n
  ·have:XL x.Log.n=7:=by unfold XL;rw[Zr.2 (.inr e2)];rfl
   simp -implicitDefEqProofs [hg,e1,e2,this]
  ·have:XL x.Log.n=0:=by unfold XL Zl;rw[if_pos (by unfold inB;simp;omega)]
   simp -implicitDefEqProofs [hg,e1,e2,this]
theorem ZeW(i:Int){x:ZX}(hg:Zh m.Meters.l i=some x):Zc vp 848 [m.v,.int .i64 14,.int .i64 i]=some (.int .i64 (if XL x.Log.n=0 then Zl (inB x.Rate.n 0 65535&&inB x.Burst.n 1 1048576) 7 else 7)):=by
 rw[Za Kx]
 by_cases e1:x.Log.n<1
 ·have:XL x.Log.n=7:=by unfold XL;rw[Zr.2 (.inl e1)];rfl
  have e1': ¬1≤x.Log.n:=by omega
  simp -implicitDefEqProofs [hg,e1,e1',this]
 ·have e1':1≤x.Log.n:=by omega
  by_cases e2:8<x.Log.n
  ·have:XL x.Log.n=7:=by unfold XL;rw[Zr.2 (.inr e2)];rfl
   have e2': ¬x.Log.n≤8:=by omega
   simp -implicitDefEqProofs [hg,e1,e1',e2,e2',this]
  ·have:XL x.Log.n=0:=by unfold XL Zl;rw[if_pos (by unfold inB;simp;omega)]
   have e2':x.Log.n≤8:=by omega
   rw[if_pos this]
   by_cases r1:x.Rate.n<0
   ·have e:inB x.Rate.n 0 65535=false:=Zr.2 (.inl r1)
    simp -implicitDefEqProofs [hg,e1,e1',e2,e2',r1,e,Zl]
   ·by_cases r2:65535<x.Rate.n
    ·have e:inB x.Rate.n 0 65535=false:=Zr.2 (.inr r2)
     simp -implicitDefEqProofs [hg,e1,e1',e2,e2',r1,r2,e,Zl]
    ·have e:inB x.Rate.n 0 65535=true:=by unfold inB;simp;omega
     by_cases b1:x.Burst.n<1
     ·have f:inB x.Burst.n 1 1048576=false:=Zr.2 (.inl b1)
      simp -implicitDefEqProofs [hg,e1,e1',e2,e2',r1,r2,b1,e,f,Zl]
     ·by_cases b2:1048576<x.Burst.n
      ·have f:inB x.Burst.n 1 1048576=false:=Zr.2 (.inr b2)
       simp -implicitDefEqProofs [hg,e1,e1',e2,e2',r1,r2,b1,b2,e,f,Zl]
      ·have f:inB x.Burst.n 1 1048576=true:=by unfold inB;simp;omega
       simp -implicitDefEqProofs [hg,e1,e1',e2,e2',r1,r2,b1,b2,e,f,Zl]
end
theorem Zq5(L:Int):(if L=0 then 0 else L)=L:=by split<;>simp_all
theorem Zdj(a b:Int):ZI [a,b]=if a=0 then b else a:=by simp only[ZI];by_cases h:b=0<;>simp[h]
theorem Zn3(m:Zb){i:Int}{x:Field}(hg:Zh m.Metas.l i=some x):Qe m i=if ZH (nMetas m) i=0 then Zl (inB x.W.n 1 128) 9 else ZH (nMetas m) i:=by
 unfold Qe;rw[hg];exact Zdj _ _
theorem Zp9(m:Zb){i:Int}{x:Reg}(hg:Zh m.Regs.l i=some x):Zaq m i=if ZH (nRegs m) i=0 then(if inB x.W.n 1 128=false then 9 else XL x.Log.n)else ZH (nRegs m) i:=by
 unfold Zaq;rw[hg];simp only[ZI,Zl]
 cases inB x.W.n 1 128<;>simp[Zq5]
theorem Zev(m:Zb){i:Int}{x:ZA}(hg:Zh m.Counters.l i=some x):XH m i=if ZH (nCounters m) i=0 then XL x.Log.n else ZH (nCounters m) i:=by
 unfold XH;rw[hg];exact Zdj _ _
theorem ZqE(n:Int):XL n=0∨XL n=7:=by unfold XL Zl;split<;>simp
theorem ZjS(m:Zb){i:Int}{x:ZX}(hg:Zh m.Meters.l i=some x):Vm m i=if ZH (nMeters m) i=0 then(if XL x.Log.n=0 then Zl (inB x.Rate.n 0 65535&&inB x.Burst.n 1 1048576) 7 else 7)else ZH (nMeters m) i:=by
 unfold Vm;rw[hg];simp only[ZI]
 rcases ZqE x.Log.n with h|h<;>simp[h,Zq5]
theorem ZhL(m:Zb){i:Int}{a:Action}(hg:Zh m.Actions.l i=some a):Xa m i=if ZH (nActions m) i=0 then ZmI m a else ZH (nActions m) i:=by
 unfold Xa ZmI Zb9;rw[hg];simp only[Zdj,Zl,decide_eq_true_eq]
 by_cases h:ZH (nActions m) i=0
 ·simp only[h,if_true]
  by_cases c:8<a.Params.l.length
  ·have c': ¬(a.Params.l.length:Int)≤8:=by omega
   simp[c,c']
  ·have c':(a.Params.l.length:Int)≤8:=by omega
   simp[c,c']
 ·simp[h]
theorem Zlf(m:Zb){i:Int}{s:ZJ}(hg:Zh m.States.l i=some s):W6 m i=if ZH (nStates m) i=0 then stN m s else ZH (nStates m) i:=by
 unfold W6 stE stA stB stN stT;rw[hg];simp only[Zdj,Zl,decide_eq_true_eq]
 by_cases h:ZH (nStates m) i=0
 ·simp only[h,if_true]
  by_cases c:4<s.Exts.l.length
  ·have c': ¬(s.Exts.l.length:Int)≤4:=by omega
   simp[c,c']
  ·have c':(s.Exts.l.length:Int)≤4:=by omega
   simp only[c',if_true,c,if_false]
   by_cases d:Zx (WY m) s.Exts.l=0
   ·simp only[d,if_true,ne_eq,not_true,if_false]
    by_cases e:QW m s.Keys.l true=0
    ·simp only[e,ZI,if_true]
     by_cases f:8<s.Cases.l.length
     ·have f': ¬(s.Cases.l.length:Int)≤8:=by omega
      simp[f,f']
     ·have f':(s.Cases.l.length:Int)≤8:=by omega
      by_cases g:s.Cases.l.length=0
      ·simp[g]
      ·by_cases k:s.Keys.l.length=0
       ·simp[f,f',g,k]
       ·have k':0<s.Keys.l.length:=by omega
        simp[f,f',g,k,k']
    ·simp[e,ZI]
   ·simp[d]
 ·simp[h]
theorem Zk9(m:Zb){i:Int}{t:ZD}(hg:Zh m.Tables.l i=some t):WE m i=if ZH (nTables m) i=0 then Zk1 m t else ZH (nTables m) i:=by
 unfold WE ZjM Zc6 Zk1 Ug;rw[hg];simp only[Zl]
 by_cases h:ZH (nTables m) i=0
 ·have hk:(decide (0≤t.Kind.n)&&decide (t.Kind.n≤3))=inB t.Kind.n 0 3:=rfl
  have hsz:(decide (1≤t.Size.n)&&decide (t.Size.n≤256))=inB t.Size.n 1 256:=rfl
  simp only[h,if_true,hk,hsz,ZI]
  cases inB t.Kind.n 0 3
  ·simp
  ·by_cases c1:t.Keys.l.length=0
   ·simp[c1]
   ·have c1':0<t.Keys.l.length:=by omega
    by_cases c2:QW m t.Keys.l false=0
    ·by_cases c3:8<t.Actions.l.length
     ·simp[c1,c1',c2,c3]
     ·by_cases c4:Y2 m t.Actions.l t.Actions.l 0=0
      ·by_cases c5:t.Actions.l.length=0
       ·simp[c1,c1',c2,c3,c4,c5]
       ·have c5':(0:Int)<t.Actions.l.length:=by omega
        cases decide (t.Default.Action.n∈t.Actions.l.map (·.n))
        ·simp[c1,c1',c2,c3,c4,c5,c5']
        ·by_cases c6:WR m t.Default.Action.n t.Default.Args.l=0
         ·cases inB t.Size.n 1 256<;>simp[c1,c1',c2,c3,c4,c5,c5',c6]
         ·simp[c1,c1',c2,c3,c4,c5,c5',c6]
      ·simp[c1,c1',c2,c3,c4]
    ·simp[c1,c1',c2]
 ·simp[h,ZI]
end Go.VE.Un
namespace Go.VE.Un
open Go.VE
theorem Qm(l:List GS):l.map ZP=(nm l).map V.str:=by unfold nm;rw[List.map_map];rfl
theorem Zfh(ns:List (List UInt8)){i:Int}(h0:0≤i)(h1:i<ns.length):ZH (ns.take (i+1).toNat) (((ns.take (i+1).toNat).length:Int)-1)=ZH ns i:=by
 have hl:((ns.take (i+1).toNat).length:Int)-1=i:=by simp;omega
 rw[hl]
 unfold ZH
 rw[WT h0 (by omega),List.take_take,show min i.toNat (i+1).toNat=i.toNat by omega]
theorem Kp(ns:List (List UInt8))(t:Tag){i:Int}(h0:0≤i)(h1:i<ns.length)(hn:ns.length≤17592186044416)(hb: ∀x∈ns,x.length≤17592186044416):
 Zc vp 849 [.sl 1 ((ns.take (i+1).toNat).map V.str) t]=some (.int .i64 (ZH ns i)):=by
 have h:=ZmN (ns.take (i+1).toNat) t (fun h=>by
  rcases List.take_eq_nil_iff.1 h with h|h
  ·omega
  ·subst h;simp at h1;omega) (by simp;omega) (fun x hx=>hb x (List.mem_of_mem_take hx))
 rw[Zfh ns h0 h1]at h
 exact h
theorem Zav(ns:List (List UInt8))(t:Tag)(k:IntKind){i:Int}(h0:0≤i)(h1:i<ns.length): ∃u,Uh 1 (.sl 1 (ns.map V.str) t) none (some (.int k (i+1))) none=some (.sl 1 ((ns.take (i+1).toNat).map V.str) u):=by
 refine⟨Xj t ((i+1).toNat==(ns.map V.str).length) false,?_⟩
 rw[slice_hi 1 _ t k (i+1) (by omega) (by omega) (by simp;omega),List.map_take]
theorem WV(m:Zb)(p:Int)(hp:p≠1)(ns:List (List UInt8))(t:Tag)(hn:ns.length≤17592186044416)(hb: ∀x∈ns,x.length≤17592186044416)(th:Int→Int)
 (hth: ∀i:Int,0≤i→i<ns.length→Zc vp 848 [m.v,.int .i64 p,.int .i64 i]=some (.int .i64 (th i))) (ask:Int→Int) (hask: ∀i:Int,0≤i→i<ns.length→ask i=if ZH ns i=0 then th i else ZH ns i): ∀(j:Nat) (k:Int),0≤k→k+j=ns.length→(orc vp).loop 0 [1,2,10,12] Zc2 [(1,.int .i64 p),(2,.ptr 0 1 0 0),(10,.sl 1 (ns.map V.str) t),(12,.int .i64 k)] [.arr [m.v]]=
   (match Xe ask j k with
    |none=>some (.brk 5,[(1,.int .i64 p),(2,.ptr 0 1 0 0),(10,.sl 1 (ns.map V.str) t),(12,.int .i64 ns.length),(152,.bool false)],[.arr [m.v]])
    |some (i,e)=>some (.ret,[(4,.int .i64 i),(5,.int .i64 e)],[.arr [m.v]])):=by
 intro j
 induction j with
 |zero=>
  intro k hk hkl
  obtain⟨hlt,he⟩: ¬k<ns.length∧k=ns.length:=by and_intros<;>omega
  rw[KT]
  simp -implicitDefEqProofs [hlt,he,Xe]
 |succ j ih=>
  intro k hk hkl
  have hlt:k<ns.length:=by omega
  have w1:=w64 (n:=k+1) (by omega)
  have ih:=ih (k+1) (by omega) (by omega)
  obtain⟨u,hs⟩:=Zav ns t .i64 hk hlt
  have ht:=Kp ns u hk hlt hn hb
  have hh:=hth k hk hlt
  have ha:=hask k hk hlt
  have hst:Xe ask (j+1) k=if ask k=0 then Xe ask j (k+1)else some (k,ask k):=rfl
  generalize Xe ask j (k+1)=A at*
  generalize ask k=E at*
  generalize ZH ns k=T at*
  generalize th k=U at*
  have hsb:Zo 0 ((ns.take (k+1).toNat).map V.str)=true:=Z6 _ _
  generalize (ns.take (k+1).toNat).map V.str=sl at*
  rw[hst,KT]
  by_cases c1:T=0
  ·subst c1
   rw[if_pos rfl]at ha
   subst ha
   by_cases c2:E=0
   ·subst c2
    rw[if_pos rfl]
    cases A with
    |none=>simp -implicitDefEqProofs [hlt,hp,w1,hs,hsb,ht,hh,ih]
    |some q=>simp -implicitDefEqProofs [hlt,hp,w1,hs,hsb,ht,hh,ih]
   ·rw[if_neg c2]
    simp -implicitDefEqProofs [hlt,hp,w1,hs,hsb,ht,hh,c2]
  ·rw[if_neg c1]at ha
   subst ha
   rw[if_neg c1]
   simp -implicitDefEqProofs [hlt,hp,w1,hs,hsb,ht,c1]
theorem ZkD(m:Zb)(hT:Zdn m)(ns:List (List UInt8))(he:ns=nHeaders m)(t:Tag)(hn:ns.length≤17592186044416)(hb: ∀x∈ns,x.length≤17592186044416): ∀(j:Nat) (k:Int),0≤k→k+j=ns.length→(orc vp).loop 0 [1,2,10,12] Zc2 [(1,.int .i64 1),(2,.ptr 0 1 0 0),(10,.sl 1 (ns.map V.str) t),(12,.int .i64 k)] [.arr [m.v]]=
 (match Xe (YM m) j k with
  |none=>some (.brk 5,[(1,.int .i64 1),(2,.ptr 0 1 0 0),(10,.sl 1 (ns.map V.str) t),(12,.int .i64 ns.length),(152,.bool false)],[.arr [m.v]])
  |some (i,e)=>some (.ret,[(4,.int .i64 i),(5,.int .i64 e)],[.arr [m.v]])):=by
 intro j
 induction j with
 |zero=>
  intro k hk hkl
  obtain⟨hlt,he⟩: ¬k<ns.length∧k=ns.length:=by and_intros<;>omega
  rw[KT]
  simp -implicitDefEqProofs [hlt,he,Xe]
 |succ j ih=>
  intro k hk hkl
  have hlt:k<ns.length:=by omega
  have w1:=w64 (n:=k+1) (by omega)
  have ih:=ih (k+1) (by omega) (by omega)
  obtain⟨u,hs⟩:=Zav ns t .i64 hk hlt
  have ht:=Kp ns u hk hlt hn hb
  have hh:=ZhO m k
  have hl2:ns.length=m.Headers.l.length:=by rw[he];simp[nHeaders]
  rcases Zm m.Headers.l k with⟨x,_,_,hg⟩|⟨hx,_⟩
  ·have hx1:x.Name.s.length≤17592186044416:=hT.titles 1 x.Name (by simp[titles];exact⟨x,Y9 hg,rfl⟩)
   have hm:=Zpd x hx1 (hT.hf x (Y9 hg))
   have ha:YM m k=if VW x=0 then ZH ns k else VW x:=by unfold YM;rw[hg,he]
   have hst:Xe (YM m) (j+1) k=if YM m k=0 then Xe (YM m) j (k+1)else some (k,YM m k):=rfl
   generalize Xe (YM m) j (k+1)=A at*
   generalize YM m k=E at*
   generalize ZH ns k=T at*
   generalize VW x=M at*
   have hsb:Zo 0 ((ns.take (k+1).toNat).map V.str)=true:=Z6 _ _
   generalize (ns.take (k+1).toNat).map V.str=sl at*
   rw[hst,KT]
   by_cases c0:M=0
   ·rw[if_pos c0]at ha
    subst ha
    subst c0
    by_cases c1:E=0
    ·subst c1
     rw[if_pos rfl]
     cases A with
     |none=>simp -implicitDefEqProofs [hlt,hg,hm,w1,hs,hsb,ht,hh,ih]
     |some q=>simp -implicitDefEqProofs [hlt,hg,hm,w1,hs,hsb,ht,hh,ih]
    ·rw[if_neg c1]
     simp -implicitDefEqProofs [hlt,hg,hm,w1,hs,hsb,ht,c1]
   ·rw[if_neg c0]at ha
    subst ha
    rw[if_neg c0]
    simp -implicitDefEqProofs [hlt,hg,hm,c0]
  ·omega
theorem ZlI(m:Zb)(T:Zg)(i:Int){d:I64}(hgi:Zh m.Deparse.l i=some d): ∀(r:List I64) (k:Int),0≤k→k≤i→(m.Deparse.l.take i.toNat).drop k.toNat=r→(orc vp).loop 0 [2,6,9] Zhf [(2,.ptr 0 1 0 0),(6,.int .i64 i),(9,.int .i64 k)] (.arr [m.v]::T)=
 (if r.any (fun x=>decide (x.n=d.n))=true then some (.ret,[(4,.int .i64 i),(5,.int .i64 6)],.arr [m.v]::T)else some (.brk 3,[(2,.ptr 0 1 0 0),(6,.int .i64 i),(9,.int .i64 i),(100,.bool false)],.arr [m.v]::T)):=by
 have hil:=Ul hgi
 have hle:=m.Deparse.le
 intro r
 induction r with
 |nil=>
  intro k hk hkl hd
  have hle:=Zq hk hd
  have hlt: ¬k<i:=by simp at hle;omega
  have he:k=i:=by omega
  rw[ZjC]
  simp -implicitDefEqProofs [hlt,he]
 |cons y r ih=>
  intro k hk hkl hd
  obtain⟨hg,hlt,hd'⟩:=Zp hk hd
  have hlt:k<i:=by simp at hlt;omega
  rw[WT hk hlt]at hg
  have w1:=w64 (n:=k+1) (by omega)
  have ih:=ih (k+1) (by omega) (by omega) hd'
  rw[ZjC]
  by_cases c:y.n=d.n
  ·simp -implicitDefEqProofs [hlt,hg,hgi,c]
  ·simp -implicitDefEqProofs [hlt,hg,hgi,c,w1,ih]
theorem Zkd(m:Zb)(hm:Clo m)(hb:m.Insts.l.length≤10000000): ∀(j:Nat) (k:Int),0≤k→k+j=m.Deparse.l.length→∃h,(orc vp).loop 0 [2,6] ZgK [(2,.ptr 0 1 0 0),(6,.int .i64 k)] [.arr [m.v]]=
 (match Xe (Qs m) j k with
  |none=>some (.brk 1,[(2,.ptr 0 1 0 0),(6,.int .i64 m.Deparse.l.length),(82,.bool false)],[.arr [m.v]])
  |some (i,e)=>some (.ret,[(4,.int .i64 i),(5,.int .i64 e)],h)):=by
 have hle:=m.Deparse.le
 intro j
 induction j with
 |zero=>
  intro k hk hkl
  refine⟨[],?_⟩
  obtain⟨hlt,he⟩: ¬k<m.Deparse.l.length∧k=m.Deparse.l.length:=by and_intros<;>omega
  rw[ZiC]
  simp -implicitDefEqProofs [hlt,he,Xe]
 |succ j ih=>
  intro k hk hkl
  have hlt:k<m.Deparse.l.length:=by omega
  have w1:=w64 (n:=k+1) (by omega)
  replace ih:=ih (k+1) (by omega) (by omega)
  obtain⟨h,ih⟩:=ih
  rcases Zm m.Deparse.l k with⟨x,_,_,hg⟩|⟨hx,_⟩
  ·have hs:=VU m x.n hm hb
   have hz:=Wg hm x.n
   have hl:=fun T=>ZlI m T k hg _ 0 (by omega) hk rfl
   simp only[show(0:Int).toNat=0 from rfl,List.drop_zero]at hl
   have ha:Qs m k=if(Xl m x.n).isSome=false then 5 else if(m.Deparse.l.take k.toNat).any (fun y=>decide (y.n=x.n))=true then 6 else 0:=by
    unfold Qs;rw[hg];simp only[]
    generalize (Xl m x.n).isSome=b1
    generalize (m.Deparse.l.take k.toNat).any (fun y=>decide (y.n=x.n))=b2
    cases b1<;>cases b2<;>rfl
   have hst:Xe (Qs m) (j+1) k=if Qs m k=0 then Xe (Qs m) j (k+1)else some (k,Qs m k):=rfl
   generalize Xe (Qs m) j (k+1)=A at*
   generalize Qs m k=E at*
   generalize (m.Deparse.l.take k.toNat).any (fun y=>decide (y.n=x.n))=D at*
   rw[hst,ZiC]
   cases c0:(Xl m x.n).isSome with
   |false=>
    rw[c0]at hs ha
    rw[if_pos rfl]at ha
    subst ha
    refine⟨_,by simp -implicitDefEqProofs [hlt,hg,hs,hz,Ye];rfl⟩
   |true=>
    rw[c0]at hs ha
    rw[if_neg (by simp)]at ha
    cases D with
    |true=>
     simp only[if_true]at hl ha
     subst ha
     refine⟨_,by simp -implicitDefEqProofs [hlt,hg,hs,hz,Ye,hl];rfl⟩
    |false=>
     simp only[Bool.false_eq_true,if_false]at hl ha
     subst ha
     rw[if_pos rfl]
     refine⟨h,?_⟩
     cases A with
     |none=>simp -implicitDefEqProofs [hlt,hg,hs,hz,Ye,hl,w1,ih]
     |some q=>simp -implicitDefEqProofs [hlt,hg,hs,hz,Ye,hl,w1,ih]
  ·omega
end Go.VE.Un
