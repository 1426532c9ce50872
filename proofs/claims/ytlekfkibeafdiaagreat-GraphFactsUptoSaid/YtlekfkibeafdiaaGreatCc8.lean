/- Joined texts: CkF, CkG, CrH. No condition: what each theorem needs stands in it. -/
import Derived.Test.YtlekfkibeafdiaaGreatCc7
import Derived.Test.YtlekfkibeafdiaaGreatCc6
namespace Go.VE.Un
open Go.VE
structure Z2 (m:Zb):Prop where
 hf: ∀h∈m.Headers.l,h.Fields.l.length≤16→∀f∈h.Fields.l,f.Name.s.length≤35184372088831
 ins:m.Insts.l.length≤16→∀x∈m.Insts.l,x.Name.s.length≤35184372088831
 nHeaders: ∀x∈m.Headers.l,x.Name.s.length≤35184372088831
 nMetas: ∀x∈m.Metas.l,x.Name.s.length≤35184372088831
 nRegs: ∀x∈m.Regs.l,x.Name.s.length≤35184372088831
 nCounters: ∀x∈m.Counters.l,x.Name.s.length≤35184372088831
 nMeters: ∀x∈m.Meters.l,x.Name.s.length≤35184372088831
 nStates: ∀x∈m.States.l,x.Name.s.length≤35184372088831
 nActions: ∀x∈m.Actions.l,x.Name.s.length≤35184372088831
 nTables: ∀x∈m.Tables.l,x.Name.s.length≤35184372088831
abbrev ZN(m:Zb):V:=.eptr m.v 0 .brw
def nHeaders(m:Zb):List (List UInt8):=m.Headers.l.map fun x=>x.Name.s
theorem ZpE(m:Zb)(i:Int)(x:List UInt8)(h:Zh (nHeaders m) i=some x):Zc vp 119 [.int .i64 i,.eptr (ZN m) 0 .brw]=some (.str x):=by
 simp only[nHeaders,YF,Option.map_eq_some_iff]at h
 obtain⟨a,ha,rfl⟩:=h
 rw[Za Zrk]
 simp -implicitDefEqProofs [ha,Zf]
theorem Zlu(m:Zb)(hs:Z2 m)(i:Int){a:Header}(h:Zh m.Headers.l i=some a):Zc vp 520 [.int .i64 i,.func 119 [] [.eptr (ZN m) 0 .brw]]=some (.int .i64 (ZH (nHeaders m) i)):=by
 have hle:=m.Headers.le
 exact Wo 119 [.eptr (ZN m) 0 .brw] Zrk rfl rfl (by simp) (nHeaders m) i (by simpa[nHeaders]using hle) (fun t ht=>by
  simp only[nHeaders,List.mem_map]at ht
  obtain⟨x,hx,rfl⟩:=ht
  exact hs.nHeaders x hx) (fun i t h=>ZpE m i t h) (s:=a.Name.s) (by simp[nHeaders,YF,h])
def nMetas(m:Zb):List (List UInt8):=m.Metas.l.map fun x=>x.Name.s
theorem ZoM(m:Zb)(i:Int)(x:List UInt8)(h:Zh (nMetas m) i=some x):Zc vp 123 [.int .i64 i,.eptr (ZN m) 0 .brw]=some (.str x):=by
 simp only[nMetas,YF,Option.map_eq_some_iff]at h
 obtain⟨a,ha,rfl⟩:=h
 rw[Za Zrj]
 simp -implicitDefEqProofs [ha,Zf]
theorem ZjL(m:Zb)(hs:Z2 m)(i:Int){a:Field}(h:Zh m.Metas.l i=some a):Zc vp 520 [.int .i64 i,.func 123 [] [.eptr (ZN m) 0 .brw]]=some (.int .i64 (ZH (nMetas m) i)):=by
 have hle:=m.Metas.le
 exact Wo 123 [.eptr (ZN m) 0 .brw] Zrj rfl rfl (by simp) (nMetas m) i (by simpa[nMetas]using hle) (fun t ht=>by
  simp only[nMetas,List.mem_map]at ht
  obtain⟨x,hx,rfl⟩:=ht
  exact hs.nMetas x hx) (fun i t h=>ZoM m i t h) (s:=a.Name.s) (by simp[nMetas,YF,h])
def nRegs(m:Zb):List (List UInt8):=m.Regs.l.map fun x=>x.Name.s
theorem ZoB(m:Zb)(i:Int)(x:List UInt8)(h:Zh (nRegs m) i=some x):Zc vp 136 [.int .i64 i,.eptr (ZN m) 0 .brw]=some (.str x):=by
 simp only[nRegs,YF,Option.map_eq_some_iff]at h
 obtain⟨a,ha,rfl⟩:=h
 rw[Za ZrI]
 simp -implicitDefEqProofs [ha,Zf]
theorem Zkx(m:Zb)(hs:Z2 m)(i:Int){a:Reg}(h:Zh m.Regs.l i=some a):Zc vp 520 [.int .i64 i,.func 136 [] [.eptr (ZN m) 0 .brw]]=some (.int .i64 (ZH (nRegs m) i)):=by
 have hle:=m.Regs.le
 exact Wo 136 [.eptr (ZN m) 0 .brw] ZrI rfl rfl (by simp) (nRegs m) i (by simpa[nRegs]using hle) (fun t ht=>by
  simp only[nRegs,List.mem_map]at ht
  obtain⟨x,hx,rfl⟩:=ht
  exact hs.nRegs x hx) (fun i t h=>ZoB m i t h) (s:=a.Name.s) (by simp[nRegs,YF,h])
def nCounters(m:Zb):List (List UInt8):=m.Counters.l.map fun x=>x.Name.s
theorem Zoc(m:Zb)(i:Int)(x:List UInt8)(h:Zh (nCounters m) i=some x):Zc vp 116 [.int .i64 i,.eptr (ZN m) 0 .brw]=some (.str x):=by
 simp only[nCounters,YF,Option.map_eq_some_iff]at h
 obtain⟨a,ha,rfl⟩:=h
 rw[Za Zrh]
 simp -implicitDefEqProofs [ha,Zf]
theorem Zkj(m:Zb)(hs:Z2 m)(i:Int){a:ZA}(h:Zh m.Counters.l i=some a):Zc vp 520 [.int .i64 i,.func 116 [] [.eptr (ZN m) 0 .brw]]=some (.int .i64 (ZH (nCounters m) i)):=by
 have hle:=m.Counters.le
 exact Wo 116 [.eptr (ZN m) 0 .brw] Zrh rfl rfl (by simp) (nCounters m) i (by simpa[nCounters]using hle) (fun t ht=>by
  simp only[nCounters,List.mem_map]at ht
  obtain⟨x,hx,rfl⟩:=ht
  exact hs.nCounters x hx) (fun i t h=>Zoc m i t h) (s:=a.Name.s) (by simp[nCounters,YF,h])
def nMeters(m:Zb):List (List UInt8):=m.Meters.l.map fun x=>x.Name.s
theorem Zpx(m:Zb)(i:Int)(x:List UInt8)(h:Zh (nMeters m) i=some x):Zc vp 125 [.int .i64 i,.eptr (ZN m) 0 .brw]=some (.str x):=by
 simp only[nMeters,YF,Option.map_eq_some_iff]at h
 obtain⟨a,ha,rfl⟩:=h
 rw[Za ZrR]
 simp -implicitDefEqProofs [ha,Zf]
theorem ZjZ(m:Zb)(hs:Z2 m)(i:Int){a:ZX}(h:Zh m.Meters.l i=some a):Zc vp 520 [.int .i64 i,.func 125 [] [.eptr (ZN m) 0 .brw]]=some (.int .i64 (ZH (nMeters m) i)):=by
 have hle:=m.Meters.le
 exact Wo 125 [.eptr (ZN m) 0 .brw] ZrR rfl rfl (by simp) (nMeters m) i (by simpa[nMeters]using hle) (fun t ht=>by
  simp only[nMeters,List.mem_map]at ht
  obtain⟨x,hx,rfl⟩:=ht
  exact hs.nMeters x hx) (fun i t h=>Zpx m i t h) (s:=a.Name.s) (by simp[nMeters,YF,h])
def nStates(m:Zb):List (List UInt8):=m.States.l.map fun x=>x.Name.s
theorem ZoK(m:Zb)(i:Int)(x:List UInt8)(h:Zh (nStates m) i=some x):Zc vp 138 [.int .i64 i,.eptr (ZN m) 0 .brw]=some (.str x):=by
 simp only[nStates,YF,Option.map_eq_some_iff]at h
 obtain⟨a,ha,rfl⟩:=h
 rw[Za Zrt]
 simp -implicitDefEqProofs [ha,Zf]
theorem ZjE(m:Zb)(hs:Z2 m)(i:Int){a:ZJ}(h:Zh m.States.l i=some a):Zc vp 520 [.int .i64 i,.func 138 [] [.eptr (ZN m) 0 .brw]]=some (.int .i64 (ZH (nStates m) i)):=by
 have hle:=m.States.le
 exact Wo 138 [.eptr (ZN m) 0 .brw] Zrt rfl rfl (by simp) (nStates m) i (by simpa[nStates]using hle) (fun t ht=>by
  simp only[nStates,List.mem_map]at ht
  obtain⟨x,hx,rfl⟩:=ht
  exact hs.nStates x hx) (fun i t h=>ZoK m i t h) (s:=a.Name.s) (by simp[nStates,YF,h])
def nActions(m:Zb):List (List UInt8):=m.Actions.l.map fun x=>x.Name.s
theorem Zoi(m:Zb)(i:Int)(x:List UInt8)(h:Zh (nActions m) i=some x):Zc vp 110 [.int .i64 i,.eptr (ZN m) 0 .brw]=some (.str x):=by
 simp only[nActions,YF,Option.map_eq_some_iff]at h
 obtain⟨a,ha,rfl⟩:=h
 rw[Za ZrJ]
 simp -implicitDefEqProofs [ha,Zf]
theorem ZjP(m:Zb)(hs:Z2 m)(i:Int){a:Action}(h:Zh m.Actions.l i=some a):Zc vp 520 [.int .i64 i,.func 110 [] [.eptr (ZN m) 0 .brw]]=some (.int .i64 (ZH (nActions m) i)):=by
 have hle:=m.Actions.le
 exact Wo 110 [.eptr (ZN m) 0 .brw] ZrJ rfl rfl (by simp) (nActions m) i (by simpa[nActions]using hle) (fun t ht=>by
  simp only[nActions,List.mem_map]at ht
  obtain⟨x,hx,rfl⟩:=ht
  exact hs.nActions x hx) (fun i t h=>Zoi m i t h) (s:=a.Name.s) (by simp[nActions,YF,h])
def nTables(m:Zb):List (List UInt8):=m.Tables.l.map fun x=>x.Name.s
theorem Zqy(m:Zb)(i:Int)(x:List UInt8)(h:Zh (nTables m) i=some x):Zc vp 142 [.int .i64 i,.eptr (ZN m) 0 .brw]=some (.str x):=by
 simp only[nTables,YF,Option.map_eq_some_iff]at h
 obtain⟨a,ha,rfl⟩:=h
 rw[Za Zrw]
 simp -implicitDefEqProofs [ha,Zf]
theorem Zlh(m:Zb)(hs:Z2 m)(i:Int){a:ZD}(h:Zh m.Tables.l i=some a):Zc vp 520 [.int .i64 i,.func 142 [] [.eptr (ZN m) 0 .brw]]=some (.int .i64 (ZH (nTables m) i)):=by
 have hle:=m.Tables.le
 exact Wo 142 [.eptr (ZN m) 0 .brw] Zrw rfl rfl (by simp) (nTables m) i (by simpa[nTables]using hle) (fun t ht=>by
  simp only[nTables,List.mem_map]at ht
  obtain⟨x,hx,rfl⟩:=ht
  exact hs.nTables x hx) (fun i t h=>Zqy m i t h) (s:=a.Name.s) (by simp[nTables,YF,h])
end Go.VE.Un
namespace Go.VE.Un
open Go.VE
def YM(m:Zb)(i:Int):Int:=match Zh m.Headers.l i with|some h=>if VW h=0 then ZH (nHeaders m) i else VW h|none=>0
theorem Zlz(m:Zb)(hs:Z2 m)(i:Int){a:Header}(h:Zh m.Headers.l i=some a):Zc vp 118 [ZN m,.int .i64 i]=some (.int .i64 (YM m i)):=by
 have hm:=Zgs a (hs.hf a (by unfold Zh at h;split at h;exact List.mem_of_getElem? h;simp at h))
 have ht:=Zlu m hs i h
 rw[Za Zrx]
 by_cases h0:VW a=0
 ·simp -implicitDefEqProofs [h,Zf,hm,h0,ht,YM]
 ·simp -implicitDefEqProofs [h,Zf,hm,h0,YM]
def Qe(m:Zb)(i:Int):Int:=match Zh m.Metas.l i with|some x=>ZI [ZH (nMetas m) i,Zl (inB x.W.n 1 128) 9]|none=>0
theorem Zps(m:Zb)(hs:Z2 m)(i:Int){a:Field}(h:Zh m.Metas.l i=some a):Zc vp 122 [ZN m,.int .i64 i]=some (.int .i64 (Qe m i)):=by
 have ht:=ZjL m hs i h
 rw[Za ZrP]
 simp -implicitDefEqProofs [h,Zf,ht,Qe,inB]
def Zaq(m:Zb)(i:Int):Int:=match Zh m.Regs.l i with|some x=>ZI [ZH (nRegs m) i,Zl (inB x.W.n 1 128) 9,XL x.Log.n]|none=>0
theorem Zt7(m:Zb)(hs:Z2 m)(i:Int){a:Reg}(h:Zh m.Regs.l i=some a):Zc vp 135 [ZN m,.int .i64 i]=some (.int .i64 (Zaq m i)):=by
 have ht:=Zkx m hs i h
 rw[Za Zq7]
 simp -implicitDefEqProofs [h,Zf,ht,Zaq,inB]
def XH(m:Zb)(i:Int):Int:=match Zh m.Counters.l i with|some x=>ZI [ZH (nCounters m) i,XL x.Log.n]|none=>0
theorem ZgT(m:Zb)(hs:Z2 m)(i:Int){a:ZA}(h:Zh m.Counters.l i=some a):Zc vp 115 [ZN m,.int .i64 i]=some (.int .i64 (XH m i)):=by
 have ht:=Zkj m hs i h
 rw[Za ZrK]
 simp -implicitDefEqProofs [h,Zf,ht,XH]
def Vm(m:Zb)(i:Int):Int:=match Zh m.Meters.l i with|some x=>ZI [ZH (nMeters m) i,XL x.Log.n,Zl (inB x.Rate.n 0 65535&&inB x.Burst.n 1 1048576) 7]|none=>0
theorem ZlP(m:Zb)(hs:Z2 m)(i:Int){a:ZX}(h:Zh m.Meters.l i=some a):Zc vp 124 [ZN m,.int .i64 i]=some (.int .i64 (Vm m i)):=by
 have ht:=ZjZ m hs i h
 rw[Za ZrG]
 by_cases h1:(decide (0≤a.Rate.n)&&decide (a.Rate.n≤65535))=true
 ·simp -implicitDefEqProofs [h,Zf,ht,Vm,h1,inB]
 ·simp only[Bool.not_eq_true]at h1
  simp -implicitDefEqProofs [h,Zf,ht,Vm,h1,inB]
def UX(m:Zb)(n:Int):Int:=Zl (inB n (-2) (m.States.l.length-1)) 5
theorem Zjq(m:Zb)(n:Int):Zc vp 127 [ZN m,.int .i64 n]=some (.int .i64 (UX m n)):=by
 have hle:=m.States.le
 have w:=w64 (n:=m.States.l.length-1) (by omega)
 rw[Za Zv3]
 by_cases h0:(decide (0≤n)&&decide (n≤(m.States.l.length:Int)-1))=true
 ·have:inB n (-2) (m.States.l.length-1)=true:=by simp[inB]at h0⊢;omega
  simp -implicitDefEqProofs [Zf,w,h0,UX,this]
 ·simp only[Bool.not_eq_true]at h0
  by_cases h1:n= -1
  ·have:inB n (-2) (m.States.l.length-1)=true:=by simp[inB];omega
   have h1':(n= -1)=True:=eq_true h1
   simp -implicitDefEqProofs [Zf,w,h0,UX,this,h1']
  ·by_cases h2:n= -2
   ·have h2':(n= -2)=True:=eq_true h2
    have h3':(n= -1)=False:=eq_false h1
    have:inB n (-2) (m.States.l.length-1)=true:=by simp[inB];omega
    simp -implicitDefEqProofs [Zf,w,h0,UX,this,h3',h2']
   ·have:inB n (-2) (m.States.l.length-1)=false:=by simp[inB]at h0⊢;omega
    simp -implicitDefEqProofs [Zf,w,h0,UX,this,h1,h2]
theorem Wg{m:Zb}(hm:Clo m)(s:Int):Ze (GL.v 2 Field.v ((Xl m s).getD Header.z).Fields)=true:=by
 have hz:=Vi (l:=m.Insts.l) (s:=s) (VD hm)
 simp only[Header.closed]at hz
 exact hz
theorem Zpv(m:Zb)(i:Int){d:I64}(hd:Zh m.Deparse.l i=some d)(b6:V)(hh:Zg): ∀(j:Nat) (k:Int) (tw:Bool),0≤k→k+j=i→(orc vp).loop 0 [0,1,6,7,25,26] ZhJ [(0,ZN m),(1,.int .i64 i),(6,b6),(7,.bool tw),(25,.int .i64 i),(26,.int .i64 k)] hh=
 some (.brk 0,[(0,ZN m),(1,.int .i64 i),(6,b6),(7,.bool (tw||((m.Deparse.l.drop k.toNat).take j).any fun x=>decide (x.n=d.n))),(25,.int .i64 i),(26,.int .i64 i),(27,.bool false)],hh):=by
 have hi:0≤i∧i<m.Deparse.l.length:=by
  rcases Zm m.Deparse.l i with⟨a,h0,h1,_⟩|⟨_,h1⟩
  ·exact⟨h0,h1⟩
  ·rw[h1]at hd;simp at hd
 have hle:=m.Deparse.le
 intro j
 induction j with
 |zero=>
  intro k tw hk hkn
  obtain⟨hlt,he⟩: ¬k<i∧k=i:=by and_intros<;>omega
  rw[ZiT]
  simp -implicitDefEqProofs [hlt,he]
 |succ j ih=>
  intro k tw hk hkn
  have hlt:k<i:=by omega
  have w1:=w64 (n:=k+1) (by omega)
  have hk':k.toNat<m.Deparse.l.length:=by omega
  have hg:Zh m.Deparse.l k=some m.Deparse.l[k.toNat]:=by simp[Zh,hk,hk']
  have hdr:m.Deparse.l.drop k.toNat=m.Deparse.l[k.toNat]::m.Deparse.l.drop (k+1).toNat:=by
   rw[show(k+1).toNat=k.toNat+1 by omega];exact List.drop_eq_getElem_cons hk'
  have hi:=fun tw=>ih (k+1) tw (by omega) (by omega)
  rw[ZiT,hdr,List.take_succ_cons,List.any_cons]
  cases tw with
  |true=>simp -implicitDefEqProofs [hlt,w1,hg,hd,hi,Zf]
  |false=>
   by_cases hq:m.Deparse.l[k.toNat].n=d.n
   ·have hq':(m.Deparse.l[k.toNat].n=d.n)=True:=eq_true hq
    simp -implicitDefEqProofs [hlt,w1,hg,hd,hi,Zf,hq']
   ·simp -implicitDefEqProofs [hlt,w1,hg,hd,hi,Zf,hq]
def Qs(m:Zb)(i:Int):Int:=match Zh m.Deparse.l i with
 |some d=>ZI [Zl (Xl m d.n).isSome 5,Zl (!(m.Deparse.l.take i.toNat).any fun x=>decide (x.n=d.n)) 6]
 |none=>0
theorem Zsv(m:Zb)(hm:Clo m)(i:Int){d:I64}(hd:Zh m.Deparse.l i=some d):Zc vp 132 [ZN m,.int .i64 i]=some (.int .i64 (Qs m i)):=by
 have hi:0≤i∧i<m.Deparse.l.length:=by
  rcases Zm m.Deparse.l i with⟨a,h0,h1,_⟩|⟨_,h1⟩
  ·exact⟨h0,h1⟩
  ·rw[h1]at hd;simp at hd
 have hsl:=JI m d.n hm d.hi
 have hz:=Wg hm d.n
 have hlp:=fun b6 hh=>Zpv m i hd b6 hh i.toNat 0 false (by omega) (by omega)
 simp only[Int.toNat_zero,List.drop_zero,Bool.false_or]at hlp
 rw[Za Zrp]
 simp -implicitDefEqProofs [hd,hm,Zf,hsl,Ye,hz,hlp,Qs]
def Deep(m:Zb):Prop:= ∀x∈m.Insts.l,0≤x.Depth.n∧x.Depth.n≤4
theorem Zn6{d:Int}(h0:0≤d)(h1:d≤4):(if d<1 then 1 else d)=many d:=by
 unfold many;split<;>split<;>(try split)<;>omega
theorem Zqz(l:GL ZE)(hI: ∀x∈l.l,0≤x.Depth.n∧x.Depth.n≤4)(s:Int)(v0:V): ∀(r:List ZE) (k n:Int),0≤k→k≤l.l.length→l.l.drop k.toNat=r→0≤n→n≤4*k→∃hh,(orc vp).loop 0 [1,8,26,27,28] Zgr [(1,.int .i64 s),(8,.int .i64 n),(26,GL.v 3 ZE.v l),(27,.int .i64 l.l.length),(28,.int .i64 k)] [.arr [v0]]=
 (match ofR r k (s-n)with
  |some (i,_,_)=>some (.ret,[(4,.int .i64 i),(5,.bool true)],hh)
  |none=>some (.brk 0,[(1,.int .i64 s),(8,.int .i64 (n+Yp r)),(26,GL.v 3 ZE.v l),(27,.int .i64 l.l.length),(28,.int .i64 l.l.length),(29,.bool false)],[.arr [v0]])):=by
 have hle:=l.le
 intro r
 induction r with
 |nil=>
  intro k n hk hkl hd h0 h1
  have hlt: ¬k<l.l.length:=by have:=Zq hk hd;omega
  have he:k=l.l.length:=by have:=Zq hk hd;omega
  refine⟨[],?_⟩
  rw[Zb7]
  simp -implicitDefEqProofs [hlt,he,ofR,Yp]
 |cons x r ih=>
  intro k n hk hkl hd h0 h1
  obtain⟨hg,hlt,hd'⟩:=Zp hk hd
  have hx:=hI x (List.mem_of_getElem? (by rw[Zh,if_pos hk]at hg;exact hg))
  have hmm:=Zn6 hx.1 hx.2
  have hm:=UP x.Depth.n
  have w1:=w64 (n:=k+1) (by omega)
  have w2:=w64 (n:=n+many x.Depth.n) (by omega)
  have hmx:Vq (fun a b=>if b>a then b else a) [.int .i64 x.Depth.n,.int .i64 1]=some (.int .i64 (many x.Depth.n)):=by
   rw[JG,←hmm]
  by_cases h:s<n+many x.Depth.n
  ·have h':s-n<many x.Depth.n:=by omega
   refine⟨[.arr [v0],.arr [x.v]],?_⟩
   rw[Zb7]
   simp -implicitDefEqProofs [hlt,hg,hmx,w2,h,h',ofR]
  ·have h': ¬s-n<many x.Depth.n:=by omega
   obtain⟨hh,ih⟩:=ih (k+1) (n+many x.Depth.n) (by omega) (by omega) hd' (by omega) (by omega)
   rw[←Int.sub_sub]at ih
   refine⟨hh,?_⟩
   rw[Zb7]
   simp -implicitDefEqProofs [hlt,hg,hmx,w1,w2,h,h',ofR,Yp,ih,Int.add_assoc]
def ZKt(m:Zb)(s:Int):Option (Int ×ZE):=(Xl m s).bind fun _=>(ofI m.Insts.l s).map fun r=>(r.1,r.2.2)
theorem Zff(m:Zb)(hm:Clo m)(hI:Deep m)(s:Int)(hs:s≤9223372036854775807):Zc vp 120 [ZN m,.int .i64 s]=some (match ZKt m s with|some (i,_)=>.tup [.int .i64 i,.bool true]|none=>.tup [.int .i64 0,.bool false]):=by
 have hsl:=JI m s hm hs
 have hz:=Wg hm s
 rw[Za Zwa]
 cases hv:Xl m s with
 |none=>
  rw[hv]at hsl hz
  simp only[Option.getD_none]at hsl hz
  simp -implicitDefEqProofs [hm,Zf,hsl,Ye,hz,ZKt,hv]
 |some h=>
  rw[hv]at hsl hz
  simp only[Option.getD_some]at hsl hz
  obtain⟨hh,hlp⟩:=Zqz m.Insts hI s h.v m.Insts.l 0 0 (by omega) (by omega) rfl (by omega) (by omega)
  rw[Int.sub_zero]at hlp
  have hs0: ¬s<0:=by
   intro hneg
   unfold Xl Wf ofI at hv
   rw[if_pos hneg]at hv;simp at hv
  have ho:ofI m.Insts.l s=ofR m.Insts.l 0 s:=by unfold ofI;rw[if_neg hs0]
  cases hr:ofR m.Insts.l 0 s with
  |none=>
   rw[hr]at hlp
   simp -implicitDefEqProofs [hm,Zf,hsl,Ye,hz,hlp,ZKt,hv,ho,hr]
  |some p=>
   obtain⟨i,j,y⟩:=p
   rw[hr]at hlp
   simp -implicitDefEqProofs [hm,Zf,hsl,Ye,hz,hlp,ZKt,hv,ho,hr]
theorem ZkR{m:Zb}{s i:Int}{y:ZE}(h:ZKt m s=some (i,y)):Zh m.Insts.l i=some y:=by
 simp only[ZKt,Option.bind_eq_some_iff,Option.map_eq_some_iff]at h
 obtain⟨_,_,r,hr,he⟩:=h
 obtain⟨a,b,c⟩:=r
 simp only[Prod.mk.injEq]at he
 obtain⟨rfl,rfl⟩:=he
 unfold ofI at hr
 split at hr
 ·simp at hr
 ·exact QI (Int.le_refl 0) rfl hr
def WY(m:Zb)(x:Ext):Int:=
 if x.Kind.n=0 then Zl (match ZKt m x.N.n with|some (_,y)=>decide (y.Depth.n=0)|none=>false) 5
 else if x.Kind.n=1 then Zl (Z8 m x.N.n).isSome 5
 else if x.Kind.n=2 then Zl (inB x.N.n 1 64) 7 else 10
theorem Zsr(m:Zb)(hm:Clo m)(hI:Deep m)(x:Ext):Zc vp 117 [ZN m,x.v]=some (.int .i64 (WY m x)):=by
 have hin:=Zff m hm hI x.N.n x.N.hi
 rw[Za Zyk]
 by_cases h0:x.Kind.n=0
 ·cases hi:ZKt m x.N.n with
  |none=>
   rw[hi]at hin
   simp -implicitDefEqProofs [h0,hin,hi,WY]
  |some p=>
   obtain⟨i,y⟩:=p
   rw[hi]at hin
   have hg:=ZkR hi
   simp -implicitDefEqProofs [h0,hin,hi,hg,WY,Zf]
 ·by_cases h1:x.Kind.n=1
  ·have hst:=Za0 m x.N.n
   cases hs:Z8 m x.N.n with
   |none=>
    rw[hs]at hst
    simp -implicitDefEqProofs [h1,hst,hs,WY,Zf]
   |some p=>
    obtain⟨a,d⟩:=p
    rw[hs]at hst
    simp -implicitDefEqProofs [h1,hst,hs,WY,Zf]
  ·by_cases h2:x.Kind.n=2
   ·simp -implicitDefEqProofs [h2,WY,inB]
   ·simp -implicitDefEqProofs [h0,h1,h2,WY]
end Go.VE.Un
namespace Go.VE.Un
open Go.VE
theorem Ul{α:Type}{l:List α}{i:Int}{a:α}(h:Zh l i=some a):0≤i∧i<l.length:=by
 rcases Zm l i with⟨_,h0,h1,_⟩|⟨_,h1⟩
 ·exact⟨h0,h1⟩
 ·rw[h1]at h;simp at h
theorem Y9{α:Type}{l:List α}{i:Int}{a:α}(h:Zh l i=some a):a∈l:=by
 have:=Ul h
 rw[Zh,if_pos this.1]at h;exact List.mem_of_getElem? h
theorem WT{α:Type}{l:List α}{i n:Int}(h0:0≤i)(h:i<n):Zh (l.take n.toNat) i=Zh l i:=by
 unfold Zh;rw[if_pos h0,if_pos h0,List.getElem?_take,if_pos (by omega)]
theorem ZpX(ns:List (List UInt8))(t:Tag)(s:List UInt8)(hn:ns.length≤17592186044416)(hb: ∀x∈ns,x.length≤17592186044416)(hs:s.length≤17592186044416): ∀(r:List (List UInt8)) (k:Int),0≤k→k≤(ns.length:Int)-1→(ns.take (ns.length-1)).drop k.toNat=r→(orc vp).loop 0 [0,3,4] ZfO [(0,.sl 1 (ns.map V.str) t),(3,.str s),(4,.int .i64 k)] []=
 (if r.any (fun x=>decide (Yl x=Yl s))=true then some (.ret,[(2,.int .i64 6)],[])else some (.brk 0,[(0,.sl 1 (ns.map V.str) t),(3,.str s),(4,.int .i64 ((ns.length:Int)-1)),(18,.bool false)],[])):=by
 have w0:=w64 (n:=(ns.length:Int)-1) (by omega)
 intro r
 induction r with
 |nil=>
  intro k hk hkl hd
  have hle:=Zq hk hd
  have hlt: ¬k<(ns.length:Int)-1:=by simp at hle;omega
  have he:k=(ns.length:Int)-1:=by omega
  rw[Zim]
  simp -implicitDefEqProofs [w0,hlt,he]
 |cons y r ih=>
  intro k hk hkl hd
  obtain⟨hg,hlt,hd'⟩:=Zp hk hd
  have hlt:k<(ns.length:Int)-1:=by simp at hlt;omega
  have e1:ns.length-1=((ns.length:Int)-1).toNat:=by omega
  rw[e1,WT hk hlt]at hg
  have hy:=hb y (Y9 hg)
  have w1:=w64 (n:=k+1) (by omega)
  have ih:=ih (k+1) (by omega) (by omega) hd'
  have ha:=Za8 y s hy hs
  rw[Zim]
  by_cases c:Yl y=Yl s
  ·simp -implicitDefEqProofs [w0,hlt,hg,ha,c]
  ·simp -implicitDefEqProofs [w0,w1,hlt,hg,ha,c,ih]
theorem ZmN(ns:List (List UInt8))(t:Tag)(hne:ns≠[])(hn:ns.length≤17592186044416)(hb: ∀x∈ns,x.length≤17592186044416):
 Zc vp 849 [.sl 1 (ns.map V.str) t]=some (.int .i64 (ZH ns ((ns.length:Int)-1))):=by
 have hl:=List.length_pos_iff.2 hne
 have w0:=w64 (n:=(ns.length:Int)-1) (by omega)
 obtain⟨s,hg⟩: ∃s,Zh ns ((ns.length:Int)-1)=some s:=by
  rcases Zm ns ((ns.length:Int)-1)with⟨a,_,_,h⟩|⟨h,_⟩
  ·exact⟨a,h⟩
  ·omega
 have hs:=hb s (Y9 hg)
 have hp:=QF s hs
 have hlp:=ZpX ns t s hn hb hs _ 0 (by omega) (by omega) rfl
 have e1:((ns.length:Int)-1).toNat=ns.length-1:=by omega
 rw[show(0:Int).toNat=0 from rfl,List.drop_zero]at hlp
 rw[Za ZxA]
 have ht:ZH ns ((ns.length:Int)-1)=if YB s=false then 4 else if(ns.take (ns.length-1)).any (fun x=>decide (Yl x=Yl s))=true then 6 else 0:=by unfold ZH;rw[hg,e1]
 rw[ht]
 generalize (ns.take (ns.length-1)).any (fun x=>decide (Yl x=Yl s))=c at*
 cases c1:YB s with
 |false=>
  rw[c1]at hp
  simp -implicitDefEqProofs [w0,hg,hp]
 |true=>
  rw[c1]at hp
  cases c with
  |true=>
   rw[if_pos rfl]at hlp
   simp -implicitDefEqProofs [w0,hg,hp,hlp]
  |false=>
   rw[if_neg (by simp)]at hlp
   simp -implicitDefEqProofs [w0,hg,hp,hlp]
theorem Zay(k:List UInt8): ∀(r:List (List UInt8)) (i:Int),0≤i→(0≤Vw k r i↔r.any (fun x=>decide (Yl x=k))=true)
 |[],i,_=>by simp[Vw]
 |t::r,i,h=>by
  simp only[Vw,List.any_cons,Bool.or_eq_true,decide_eq_true_eq]
  split
  ·rename_i e;simp[e,h]
  ·rename_i e;rw[Zay k r (i+1) (by omega)];simp[e]
theorem Zk0(h:Header)(y:Field)(i:Int)(sum:V)(hi:Zh h.Fields.l i=some y)(hl:h.Fields.l.length≤16)(hb: ∀f∈h.Fields.l,f.Name.s.length≤17592186044416): ∀(r:List Field) (k:Int),0≤k→k≤i→(h.Fields.l.take i.toNat).drop k.toNat=r→(orc vp).loop 0 [1,3,4,5,6] Zgi [(1,.ptr 0 1 0 0),(3,sum),(4,.int .i64 i),(5,.ptr 1 1 0 0),(6,.int .i64 k)] [.arr [h.v],.arr [y.v]]=
 (if r.any (fun x=>decide (Yl x.Name.s=Yl y.Name.s))=true then some (.ret,[(2,.int .i64 6)],[.arr [h.v],.arr [y.v]])else some (.brk 2,[(1,.ptr 0 1 0 0),(3,sum),(4,.int .i64 i),(5,.ptr 1 1 0 0),(6,.int .i64 i),(37,.bool false)],[.arr [h.v],.arr [y.v]])):=by
 have hil:=Ul hi
 intro r
 induction r with
 |nil=>
  intro k hk hkl hd
  have hle:=Zq hk hd
  have hlt: ¬k<i:=by simp at hle;omega
  have he:k=i:=by omega
  rw[ZiO]
  simp -implicitDefEqProofs [hlt,he]
 |cons x r ih=>
  intro k hk hkl hd
  obtain⟨hg,hlt,hd'⟩:=Zp hk hd
  have hlt:k<i:=by simp at hlt;omega
  rw[WT hk hlt]at hg
  have w1:=w64 (n:=k+1) (by omega)
  have ih:=ih (k+1) (by omega) (by omega) hd'
  have ha:=Za8 x.Name.s y.Name.s (hb x (Y9 hg)) (hb y (Y9 hi))
  rw[ZiO]
  by_cases c:Yl x.Name.s=Yl y.Name.s
  ·simp -implicitDefEqProofs [hlt,hg,ha,c]
  ·simp -implicitDefEqProofs [w1,hlt,hg,ha,c,ih]
theorem ZkI(h:Header)(hl:h.Fields.l.length≤16)(hb: ∀f∈h.Fields.l,f.Name.s.length≤17592186044416): ∀(r:List Field) (k sum:Int),0≤k→k≤h.Fields.l.length→h.Fields.l.drop k.toNat=r→0≤sum→sum≤128*k→∃h1 s1,(orc vp).loop 0 [1,3,4] ZgW [(1,.ptr 0 1 0 0),(3,.int .i64 sum),(4,.int .i64 k)] [.arr [h.v]]=
 (match Yn r ((h.Fields.l.take k.toNat).map fun f=>f.Name.s) sum with
  |none=>some (.ret,[(2,.int .i64 (Ym r ((h.Fields.l.take k.toNat).map fun f=>f.Name.s) sum))],h1)
  |some (_,s)=>some (.brk 0,[(1,.ptr 0 1 0 0),(3,.int .i64 s),(4,.int .i64 s1),(23,.bool false)],[.arr [h.v]])):=by
 intro r
 induction r with
 |nil=>
  intro k sum hk hkl hd _ _
  have hle:=Zq hk hd
  have hlt: ¬k<h.Fields.l.length:=by omega
  refine⟨[],k,?_⟩
  rw[ZjD]
  simp -implicitDefEqProofs [hlt,Yn]
 |cons y r ih=>
  intro k sum hk hkl hd h0 h1
  obtain⟨hg,hlt,hd'⟩:=Zp hk hd
  have w1:=w64 (n:=k+1) (by omega)
  have hp:=QF y.Name.s (hb y (Y9 hg))
  have hi:=Zk0 h y k (.int .i64 sum) hg hl hb _ 0 (by omega) hk rfl
  rw[show(0:Int).toNat=0 from rfl,List.drop_zero]at hi
  have hany:(0≤Vw (Yl y.Name.s) ((h.Fields.l.take k.toNat).map fun f=>f.Name.s) 0)↔(h.Fields.l.take k.toNat).any (fun x=>decide (Yl x.Name.s=Yl y.Name.s))=true:=by
   rw[Zay _ _ 0 (by omega),List.any_map];rfl
  have ih:=ih (k+1)
  have ht:((h.Fields.l.take (k+1).toNat).map fun f=>f.Name.s)=((h.Fields.l.take k.toNat).map fun f=>f.Name.s)++[y.Name.s]:=by
   rw[show(k+1).toNat=k.toNat+1 by omega,List.take_add_one]
   rw[Zh,if_pos hk]at hg
   simp[hg]
  rw[ht]at ih
  generalize (h.Fields.l.take k.toNat).map (fun f=>f.Name.s)=ns at*
  generalize (h.Fields.l.take k.toNat).any (fun x=>decide (Yl x.Name.s=Yl y.Name.s))=dup at*
  rw[ZjD]
  cases c1:YB y.Name.s with
  |false=>
   rw[c1]at hp
   refine⟨[.arr [h.v],.arr [y.v]],0,?_⟩
   simp -implicitDefEqProofs [hlt,hg,hp,Yn,Ym,c1]
  |true=>
   rw[c1]at hp
   by_cases c2:dup=true
   ·rw[if_pos c2]at hi
    have c3:=hany.2 c2
    refine⟨[.arr [h.v],.arr [y.v]],0,?_⟩
    simp -implicitDefEqProofs [hlt,hg,hp,hi,Yn,Ym,c1,c3]
   ·rw[if_neg c2]at hi
    have c3: ¬0≤Vw (Yl y.Name.s) ns 0:=fun e=>c2 (hany.1 e)
    by_cases c4:1≤y.W.n
    ·by_cases c5:y.W.n≤128
     ·have c4': ¬y.W.n<1:=by omega
      have c5': ¬128<y.W.n:=by omega
      have w2:=w64 (n:=sum+y.W.n) (by omega)
      obtain⟨h1,s1,ih⟩:=ih (sum+y.W.n) (by omega) (by omega) hd' (by omega) (by omega)
      refine⟨h1,s1,?_⟩
      simp -implicitDefEqProofs [hlt,hg,hp,hi,Yn,Ym,c1,c3,c4,c5,c4',c5',w1,w2,ih]
     ·have c4': ¬y.W.n<1:=by omega
      refine⟨[.arr [h.v],.arr [y.v]],0,?_⟩
      simp -implicitDefEqProofs [hlt,hg,hp,hi,Yn,Ym,c1,c3,c4,c4',c5]
    ·refine⟨[.arr [h.v],.arr [y.v]],0,?_⟩
     simp -implicitDefEqProofs [hlt,hg,hp,hi,Yn,Ym,c1,c3,c4]
theorem JL: ∀(r:List Field) (ns:List (List UInt8)) (sum:Int),Yn r ns sum=none→Ym r ns sum≠0
 |[],_,_,h=>by simp[Yn]at h
 |f::r,ns,sum,h=>by
  simp only[Yn,Ym]at h⊢
  split
  ·omega
  ·split
   ·omega
   ·split
    ·rename_i h1 h2 h3
     rw[if_neg h1,if_neg h2,if_pos h3]at h
     exact JL r _ _ h
    ·omega
set_option maxHeartbeats 2000000 in
set_option maxRecDepth 100000 in
theorem Zpd(h:Header)(hn:h.Name.s.length≤17592186044416)(hb:h.Fields.l.length≤16→∀f∈h.Fields.l,f.Name.s.length≤17592186044416):Zc vp 821 [h.v]=some (.int .i64 (VW h)):=by
 have hp:=QF h.Name.s hn
 rw[Za ZyB]
 unfold VW
 cases c1:YB h.Name.s with
 |false=>
  rw[c1]at hp
  simp -implicitDefEqProofs [hp]
 |true=>
  rw[c1]at hp
  by_cases c2:16<h.Fields.l.length
  ·have c2':(16:Int)<h.Fields.l.length:=by omega
   simp -implicitDefEqProofs [hp,c2,c2']
  ·have c2': ¬(16:Int)<h.Fields.l.length:=by omega
   by_cases c3:h.Fields.l=[]
   ·simp -implicitDefEqProofs [hp,c2,c2',c3]
   ·have hb:=hb (by omega)
    obtain⟨h1,s1,hl⟩:=ZkI h (by omega) hb h.Fields.l 0 0 (by omega) (by omega) rfl (by omega) (by omega)
    simp only[show(0:Int).toNat=0 from rfl,List.take_zero,List.map_nil]at hl
    cases hr:Yn h.Fields.l [] 0 with
    |none=>
     rw[hr]at hl
     have hne:=JL _ _ _ hr
     simp -implicitDefEqProofs [hp,c2,c2',c3,hl,hne]
    |some q=>
     obtain⟨ns,s⟩:=q
     rw[hr]at hl
     have he:=Kd _ _ _ hr
     have hs:=Ji _ _ _ (by omega) hr
     have hm:=ZrM hs
     have hrem:Yh .rem (.int .i64 s) (.int .i64 8)=some (.int .i64 (s%8)):=by rw[JH _ _ _ (by decide),hm]
     rw[he]
     by_cases c4:s%8=0
     ·have c4': ¬¬(s%8=0):=fun x=>x c4
      simp only[c4,if_true]
      unfold XC
      by_cases d0:h.Var.n=0
      ·by_cases d1:h.By.n=0<;>by_cases d2:h.Mul.n=0<;>by_cases d3:h.Sub.n=0<;>simp -implicitDefEqProofs [hp,c2,c2',c3,hl,hrem,c4,d0,d1,d2,d3]
      ·by_cases d1:1≤h.Var.n
       ·by_cases d2:h.Var.n≤64
        ·have d2': ¬64<h.Var.n:=by omega
         have d1': ¬h.Var.n<1:=by omega
         rcases Zm h.Fields.l h.By.n with⟨y,e0,e1,eg⟩|⟨e0,eg⟩
         ·have e0': ¬h.By.n<0:=by omega
          have e1': ¬(h.Fields.l.length:Int)≤h.By.n:=by omega
          by_cases g1:y.W.n≤16
          ·have g1': ¬16<y.W.n:=by omega
           by_cases g2:1≤h.Mul.n
           ·have g2': ¬h.Mul.n<1:=by omega
            by_cases g3:h.Mul.n≤64
            ·have g3': ¬64<h.Mul.n:=by omega
             by_cases g4:0≤h.Sub.n
             ·have g4': ¬h.Sub.n<0:=by omega
              by_cases g5:h.Sub.n≤4096
              ·have g5': ¬4096<h.Sub.n:=by omega
               simp -implicitDefEqProofs [hp,c2,c2',c3,hl,hrem,c4,d0,d1,d2,d1',d2',eg,e0',e1',g1,g1',g2,g2',g3,g3',g4,g4',g5,g5',inB]
              ·have g5':4096<h.Sub.n:=by omega
               simp -implicitDefEqProofs [hp,c2,c2',c3,hl,hrem,c4,d0,d1,d2,d1',d2',eg,e0',e1',g1,g1',g2,g2',g3,g3',g4,g4',g5,g5',inB]
             ·have g4':h.Sub.n<0:=by omega
              simp -implicitDefEqProofs [hp,c2,c2',c3,hl,hrem,c4,d0,d1,d2,d1',d2',eg,e0',e1',g1,g1',g2,g2',g3,g3',g4,g4',inB]
            ·have g3':64<h.Mul.n:=by omega
             simp -implicitDefEqProofs [hp,c2,c2',c3,hl,hrem,c4,d0,d1,d2,d1',d2',eg,e0',e1',g1,g1',g2,g2',g3,g3',inB]
           ·have g2':h.Mul.n<1:=by omega
            simp -implicitDefEqProofs [hp,c2,c2',c3,hl,hrem,c4,d0,d1,d2,d1',d2',eg,e0',e1',g1,g1',g2,g2',inB]
          ·have g1':16<y.W.n:=by omega
           simp -implicitDefEqProofs [hp,c2,c2',c3,hl,hrem,c4,d0,d1,d2,d1',d2',eg,e0',e1',g1,g1',inB]
         ·by_cases e1:h.By.n<0
          ·simp -implicitDefEqProofs [hp,c2,c2',c3,hl,hrem,c4,d0,d1,d2,d1',d2',eg,e1,inB]
          ·have e2:(h.Fields.l.length:Int)≤h.By.n:=by omega
           simp -implicitDefEqProofs [hp,c2,c2',c3,hl,hrem,c4,d0,d1,d2,d1',d2',eg,e1,e2,inB]
        ·have d2':64<h.Var.n:=by omega
         have d1': ¬h.Var.n<1:=by omega
         simp -implicitDefEqProofs [hp,c2,c2',c3,hl,hrem,c4,d0,d1,d2,d1',d2',inB]
       ·have d1':h.Var.n<1:=by omega
        simp -implicitDefEqProofs [hp,c2,c2',c3,hl,hrem,c4,d0,d1,d1',inB]
     ·simp -implicitDefEqProofs [hp,c2,c2',c3,hl,hrem,c4]
end Go.VE.Un
