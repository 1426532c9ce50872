/- Joined texts: CkF, CkG, CrH. No condition: what each theorem needs stands in it. -/
import Derived.Test.YtieifgngaaccmaaGreatCc7
import Derived.Test.YtieifgngaaccmaaGreatCc6
namespace Go.VE.Un
open Go.VE
structure Small (m:Image):Prop where
 hf: ∀h∈m.Headers.l,h.Fields.l.length≤16→∀f∈h.Fields.l,f.Name.s.length≤35184372088831
 ins:m.Insts.l.length≤16→∀x∈m.Insts.l,x.Name.s.length≤35184372088831
 nHeaders: ∀x∈m.Headers.l,x.Name.s.length≤35184372088831
 nMetas: ∀x∈m.Metas.l,x.Name.s.length≤35184372088831
 nRegs: ∀x∈m.Regs.l,x.Name.s.length≤35184372088831
 nCounters: ∀x∈m.Counters.l,x.Name.s.length≤35184372088831
 nMeters: ∀x∈m.Meters.l,x.Name.s.length≤35184372088831
 nStates: ∀x∈m.States.l,x.Name.s.length≤35184372088831
 nActions: ∀x∈m.Actions.l,x.Name.s.length≤35184372088831
 nTables: ∀x∈m.Tables.l,x.Name.s.length≤35184372088831
abbrev chkV(m:Image):V:=.eptr m.v 0 .brw
def nHeaders(m:Image):List (List UInt8):=m.Headers.l.map fun x=>x.Name.s
theorem name119(m:Image)(i:Int)(x:List UInt8)(h:getI (nHeaders m) i=some x):callRO vp 119 [.int .i64 i,.eptr (chkV m) 0 .brw]=some (.str x):=by
 simp only[nHeaders,getI_map,Option.map_eq_some_iff]at h
 obtain⟨a,ha,rfl⟩:=h
 rw[callRO_K fn119]
 simp -implicitDefEqProofs [ha,pureOp]
theorem titled119(m:Image)(hs:Small m)(i:Int){a:Header}(h:getI m.Headers.l i=some a):callRO vp 520 [.int .i64 i,.func 119 [] [.eptr (chkV m) 0 .brw]]=some (.int .i64 (titledE (nHeaders m) i)):=by
 have hle:=m.Headers.le
 exact titled520 119 [.eptr (chkV m) 0 .brw] fn119 rfl rfl (by simp) (nHeaders m) i (by simpa[nHeaders]using hle) (fun t ht=>by
  simp only[nHeaders,List.mem_map]at ht
  obtain⟨x,hx,rfl⟩:=ht
  exact hs.nHeaders x hx) (fun i t h=>name119 m i t h) (s:=a.Name.s) (by simp[nHeaders,getI_map,h])
def nMetas(m:Image):List (List UInt8):=m.Metas.l.map fun x=>x.Name.s
theorem name123(m:Image)(i:Int)(x:List UInt8)(h:getI (nMetas m) i=some x):callRO vp 123 [.int .i64 i,.eptr (chkV m) 0 .brw]=some (.str x):=by
 simp only[nMetas,getI_map,Option.map_eq_some_iff]at h
 obtain⟨a,ha,rfl⟩:=h
 rw[callRO_K fn123]
 simp -implicitDefEqProofs [ha,pureOp]
theorem titled123(m:Image)(hs:Small m)(i:Int){a:Field}(h:getI m.Metas.l i=some a):callRO vp 520 [.int .i64 i,.func 123 [] [.eptr (chkV m) 0 .brw]]=some (.int .i64 (titledE (nMetas m) i)):=by
 have hle:=m.Metas.le
 exact titled520 123 [.eptr (chkV m) 0 .brw] fn123 rfl rfl (by simp) (nMetas m) i (by simpa[nMetas]using hle) (fun t ht=>by
  simp only[nMetas,List.mem_map]at ht
  obtain⟨x,hx,rfl⟩:=ht
  exact hs.nMetas x hx) (fun i t h=>name123 m i t h) (s:=a.Name.s) (by simp[nMetas,getI_map,h])
def nRegs(m:Image):List (List UInt8):=m.Regs.l.map fun x=>x.Name.s
theorem name136(m:Image)(i:Int)(x:List UInt8)(h:getI (nRegs m) i=some x):callRO vp 136 [.int .i64 i,.eptr (chkV m) 0 .brw]=some (.str x):=by
 simp only[nRegs,getI_map,Option.map_eq_some_iff]at h
 obtain⟨a,ha,rfl⟩:=h
 rw[callRO_K fn136]
 simp -implicitDefEqProofs [ha,pureOp]
theorem titled136(m:Image)(hs:Small m)(i:Int){a:Reg}(h:getI m.Regs.l i=some a):callRO vp 520 [.int .i64 i,.func 136 [] [.eptr (chkV m) 0 .brw]]=some (.int .i64 (titledE (nRegs m) i)):=by
 have hle:=m.Regs.le
 exact titled520 136 [.eptr (chkV m) 0 .brw] fn136 rfl rfl (by simp) (nRegs m) i (by simpa[nRegs]using hle) (fun t ht=>by
  simp only[nRegs,List.mem_map]at ht
  obtain⟨x,hx,rfl⟩:=ht
  exact hs.nRegs x hx) (fun i t h=>name136 m i t h) (s:=a.Name.s) (by simp[nRegs,getI_map,h])
def nCounters(m:Image):List (List UInt8):=m.Counters.l.map fun x=>x.Name.s
theorem name116(m:Image)(i:Int)(x:List UInt8)(h:getI (nCounters m) i=some x):callRO vp 116 [.int .i64 i,.eptr (chkV m) 0 .brw]=some (.str x):=by
 simp only[nCounters,getI_map,Option.map_eq_some_iff]at h
 obtain⟨a,ha,rfl⟩:=h
 rw[callRO_K fn116]
 simp -implicitDefEqProofs [ha,pureOp]
theorem titled116(m:Image)(hs:Small m)(i:Int){a:Counter}(h:getI m.Counters.l i=some a):callRO vp 520 [.int .i64 i,.func 116 [] [.eptr (chkV m) 0 .brw]]=some (.int .i64 (titledE (nCounters m) i)):=by
 have hle:=m.Counters.le
 exact titled520 116 [.eptr (chkV m) 0 .brw] fn116 rfl rfl (by simp) (nCounters m) i (by simpa[nCounters]using hle) (fun t ht=>by
  simp only[nCounters,List.mem_map]at ht
  obtain⟨x,hx,rfl⟩:=ht
  exact hs.nCounters x hx) (fun i t h=>name116 m i t h) (s:=a.Name.s) (by simp[nCounters,getI_map,h])
def nMeters(m:Image):List (List UInt8):=m.Meters.l.map fun x=>x.Name.s
theorem name125(m:Image)(i:Int)(x:List UInt8)(h:getI (nMeters m) i=some x):callRO vp 125 [.int .i64 i,.eptr (chkV m) 0 .brw]=some (.str x):=by
 simp only[nMeters,getI_map,Option.map_eq_some_iff]at h
 obtain⟨a,ha,rfl⟩:=h
 rw[callRO_K fn125]
 simp -implicitDefEqProofs [ha,pureOp]
theorem titled125(m:Image)(hs:Small m)(i:Int){a:Meter}(h:getI m.Meters.l i=some a):callRO vp 520 [.int .i64 i,.func 125 [] [.eptr (chkV m) 0 .brw]]=some (.int .i64 (titledE (nMeters m) i)):=by
 have hle:=m.Meters.le
 exact titled520 125 [.eptr (chkV m) 0 .brw] fn125 rfl rfl (by simp) (nMeters m) i (by simpa[nMeters]using hle) (fun t ht=>by
  simp only[nMeters,List.mem_map]at ht
  obtain⟨x,hx,rfl⟩:=ht
  exact hs.nMeters x hx) (fun i t h=>name125 m i t h) (s:=a.Name.s) (by simp[nMeters,getI_map,h])
def nStates(m:Image):List (List UInt8):=m.States.l.map fun x=>x.Name.s
theorem name138(m:Image)(i:Int)(x:List UInt8)(h:getI (nStates m) i=some x):callRO vp 138 [.int .i64 i,.eptr (chkV m) 0 .brw]=some (.str x):=by
 simp only[nStates,getI_map,Option.map_eq_some_iff]at h
 obtain⟨a,ha,rfl⟩:=h
 rw[callRO_K fn138]
 simp -implicitDefEqProofs [ha,pureOp]
theorem titled138(m:Image)(hs:Small m)(i:Int){a:State}(h:getI m.States.l i=some a):callRO vp 520 [.int .i64 i,.func 138 [] [.eptr (chkV m) 0 .brw]]=some (.int .i64 (titledE (nStates m) i)):=by
 have hle:=m.States.le
 exact titled520 138 [.eptr (chkV m) 0 .brw] fn138 rfl rfl (by simp) (nStates m) i (by simpa[nStates]using hle) (fun t ht=>by
  simp only[nStates,List.mem_map]at ht
  obtain⟨x,hx,rfl⟩:=ht
  exact hs.nStates x hx) (fun i t h=>name138 m i t h) (s:=a.Name.s) (by simp[nStates,getI_map,h])
def nActions(m:Image):List (List UInt8):=m.Actions.l.map fun x=>x.Name.s
theorem name110(m:Image)(i:Int)(x:List UInt8)(h:getI (nActions m) i=some x):callRO vp 110 [.int .i64 i,.eptr (chkV m) 0 .brw]=some (.str x):=by
 simp only[nActions,getI_map,Option.map_eq_some_iff]at h
 obtain⟨a,ha,rfl⟩:=h
 rw[callRO_K fn110]
 simp -implicitDefEqProofs [ha,pureOp]
theorem titled110(m:Image)(hs:Small m)(i:Int){a:Action}(h:getI m.Actions.l i=some a):callRO vp 520 [.int .i64 i,.func 110 [] [.eptr (chkV m) 0 .brw]]=some (.int .i64 (titledE (nActions m) i)):=by
 have hle:=m.Actions.le
 exact titled520 110 [.eptr (chkV m) 0 .brw] fn110 rfl rfl (by simp) (nActions m) i (by simpa[nActions]using hle) (fun t ht=>by
  simp only[nActions,List.mem_map]at ht
  obtain⟨x,hx,rfl⟩:=ht
  exact hs.nActions x hx) (fun i t h=>name110 m i t h) (s:=a.Name.s) (by simp[nActions,getI_map,h])
def nTables(m:Image):List (List UInt8):=m.Tables.l.map fun x=>x.Name.s
theorem name142(m:Image)(i:Int)(x:List UInt8)(h:getI (nTables m) i=some x):callRO vp 142 [.int .i64 i,.eptr (chkV m) 0 .brw]=some (.str x):=by
 simp only[nTables,getI_map,Option.map_eq_some_iff]at h
 obtain⟨a,ha,rfl⟩:=h
 rw[callRO_K fn142]
 simp -implicitDefEqProofs [ha,pureOp]
theorem titled142(m:Image)(hs:Small m)(i:Int){a:Table}(h:getI m.Tables.l i=some a):callRO vp 520 [.int .i64 i,.func 142 [] [.eptr (chkV m) 0 .brw]]=some (.int .i64 (titledE (nTables m) i)):=by
 have hle:=m.Tables.le
 exact titled520 142 [.eptr (chkV m) 0 .brw] fn142 rfl rfl (by simp) (nTables m) i (by simpa[nTables]using hle) (fun t ht=>by
  simp only[nTables,List.mem_map]at ht
  obtain⟨x,hx,rfl⟩:=ht
  exact hs.nTables x hx) (fun i t h=>name142 m i t h) (s:=a.Name.s) (by simp[nTables,getI_map,h])
end Go.VE.Un
namespace Go.VE.Un
open Go.VE
def headerE(m:Image)(i:Int):Int:=match getI m.Headers.l i with|some h=>if mayH h=0 then titledE (nHeaders m) i else mayH h|none=>0
theorem header118(m:Image)(hs:Small m)(i:Int){a:Header}(h:getI m.Headers.l i=some a):callRO vp 118 [chkV m,.int .i64 i]=some (.int .i64 (headerE m i)):=by
 have hm:=may641 a (hs.hf a (by unfold getI at h;split at h;exact List.mem_of_getElem? h;simp at h))
 have ht:=titled119 m hs i h
 rw[callRO_K fn118]
 by_cases h0:mayH a=0
 ·simp -implicitDefEqProofs [h,pureOp,hm,h0,ht,headerE]
 ·simp -implicitDefEqProofs [h,pureOp,hm,h0,headerE]
def metaE(m:Image)(i:Int):Int:=match getI m.Metas.l i with|some x=>firstE [titledE (nMetas m) i,wantE (inB x.W.n 1 128) 9]|none=>0
theorem meta122(m:Image)(hs:Small m)(i:Int){a:Field}(h:getI m.Metas.l i=some a):callRO vp 122 [chkV m,.int .i64 i]=some (.int .i64 (metaE m i)):=by
 have ht:=titled123 m hs i h
 rw[callRO_K fn122]
 simp -implicitDefEqProofs [h,pureOp,ht,metaE,inB]
def regE(m:Image)(i:Int):Int:=match getI m.Regs.l i with|some x=>firstE [titledE (nRegs m) i,wantE (inB x.W.n 1 128) 9,logE x.Log.n]|none=>0
theorem reg135(m:Image)(hs:Small m)(i:Int){a:Reg}(h:getI m.Regs.l i=some a):callRO vp 135 [chkV m,.int .i64 i]=some (.int .i64 (regE m i)):=by
 have ht:=titled136 m hs i h
 rw[callRO_K fn135]
 simp -implicitDefEqProofs [h,pureOp,ht,regE,inB]
def counterE(m:Image)(i:Int):Int:=match getI m.Counters.l i with|some x=>firstE [titledE (nCounters m) i,logE x.Log.n]|none=>0
theorem counter115(m:Image)(hs:Small m)(i:Int){a:Counter}(h:getI m.Counters.l i=some a):callRO vp 115 [chkV m,.int .i64 i]=some (.int .i64 (counterE m i)):=by
 have ht:=titled116 m hs i h
 rw[callRO_K fn115]
 simp -implicitDefEqProofs [h,pureOp,ht,counterE]
def meterE(m:Image)(i:Int):Int:=match getI m.Meters.l i with|some x=>firstE [titledE (nMeters m) i,logE x.Log.n,wantE (inB x.Rate.n 0 65535&&inB x.Burst.n 1 1048576) 7]|none=>0
theorem meter124(m:Image)(hs:Small m)(i:Int){a:Meter}(h:getI m.Meters.l i=some a):callRO vp 124 [chkV m,.int .i64 i]=some (.int .i64 (meterE m i)):=by
 have ht:=titled125 m hs i h
 rw[callRO_K fn124]
 by_cases h1:(decide (0≤a.Rate.n)&&decide (a.Rate.n≤65535))=true
 ·simp -implicitDefEqProofs [h,pureOp,ht,meterE,h1,inB]
 ·simp only[Bool.not_eq_true]at h1
  simp -implicitDefEqProofs [h,pureOp,ht,meterE,h1,inB]
def nextE(m:Image)(n:Int):Int:=wantE (inB n (-2) (m.States.l.length-1)) 5
theorem next127(m:Image)(n:Int):callRO vp 127 [chkV m,.int .i64 n]=some (.int .i64 (nextE m n)):=by
 have hle:=m.States.le
 have w:IntKind.i64.wrap (m.States.l.length-1)=m.States.l.length-1:=wrap64 (by omega) (by omega)
 rw[callRO_K fn127]
 by_cases h0:(decide (0≤n)&&decide (n≤(m.States.l.length:Int)-1))=true
 ·have:inB n (-2) (m.States.l.length-1)=true:=by simp[inB]at h0⊢;omega
  simp -implicitDefEqProofs [pureOp,w,h0,nextE,this]
 ·simp only[Bool.not_eq_true]at h0
  by_cases h1:n= -1
  ·have:inB n (-2) (m.States.l.length-1)=true:=by simp[inB];omega
   have h1':(n= -1)=True:=eq_true h1
   simp -implicitDefEqProofs [pureOp,w,h0,nextE,this,h1']
  ·by_cases h2:n= -2
   ·have h2':(n= -2)=True:=eq_true h2
    have h3':(n= -1)=False:=eq_false h1
    have:inB n (-2) (m.States.l.length-1)=true:=by simp[inB];omega
    simp -implicitDefEqProofs [pureOp,w,h0,nextE,this,h3',h2']
   ·have:inB n (-2) (m.States.l.length-1)=false:=by simp[inB]at h0⊢;omega
    simp -implicitDefEqProofs [pureOp,w,h0,nextE,this,h1,h2]
theorem slot_cl{m:Image}(hm:Clo m)(s:Int):closedB (GL.v 2 Field.v ((slot m s).getD Header.z).Fields)=true:=by
 have hz:=slot_closed (l:=m.Insts.l) (s:=s) (cl_headers hm)
 simp only[Header.closed]at hz
 exact hz
theorem loop132(m:Image)(i:Int){d:I64}(hd:getI m.Deparse.l i=some d)(b6:V)(hh:Heap): ∀(j:Nat) (k:Int) (tw:Bool),0≤k→k+j=i→(orc vp).loop 0 [0,1,6,7,25,26] L132_0 [(0,chkV m),(1,.int .i64 i),(6,b6),(7,.bool tw),(25,.int .i64 i),(26,.int .i64 k)] hh=
 some (.brk 0,[(0,chkV m),(1,.int .i64 i),(6,b6),(7,.bool (tw||((m.Deparse.l.drop k.toNat).take j).any fun x=>decide (x.n=d.n))),(25,.int .i64 i),(26,.int .i64 i),(27,.bool false)],hh):=by
 have hi:0≤i∧i<m.Deparse.l.length:=by
  rcases getI_cases m.Deparse.l i with⟨a,h0,h1,_⟩|⟨_,h1⟩
  ·exact⟨h0,h1⟩
  ·rw[h1]at hd;simp at hd
 have hle:=m.Deparse.le
 intro j
 induction j with
 |zero=>
  intro k tw hk hkn
  have hlt: ¬k<i:=by omega
  have he:k=i:=by omega
  rw[lp132_0]
  simp -implicitDefEqProofs [hlt,he]
 |succ j ih=>
  intro k tw hk hkn
  have hlt:k<i:=by omega
  have w1:IntKind.i64.wrap (k+1)=k+1:=wrap64 (by omega) (by omega)
  have hk':k.toNat<m.Deparse.l.length:=by omega
  have hg:getI m.Deparse.l k=some m.Deparse.l[k.toNat]:=by simp[getI,hk,hk']
  have hdr:m.Deparse.l.drop k.toNat=m.Deparse.l[k.toNat]::m.Deparse.l.drop (k+1).toNat:=by
   rw[show(k+1).toNat=k.toNat+1 by omega];exact List.drop_eq_getElem_cons hk'
  have hi:=fun tw=>ih (k+1) tw (by omega) (by omega)
  rw[lp132_0,hdr,List.take_succ_cons,List.any_cons]
  cases tw with
  |true=>simp -implicitDefEqProofs [hlt,w1,hg,hd,hi,pureOp]
  |false=>
   by_cases hq:m.Deparse.l[k.toNat].n=d.n
   ·have hq':(m.Deparse.l[k.toNat].n=d.n)=True:=eq_true hq
    simp -implicitDefEqProofs [hlt,w1,hg,hd,hi,pureOp,hq']
   ·simp -implicitDefEqProofs [hlt,w1,hg,hd,hi,pureOp,hq]
def outE(m:Image)(i:Int):Int:=match getI m.Deparse.l i with
 |some d=>firstE [wantE (slot m d.n).isSome 5,wantE (!(m.Deparse.l.take i.toNat).any fun x=>decide (x.n=d.n)) 6]
 |none=>0
theorem out132(m:Image)(hm:Clo m)(i:Int){d:I64}(hd:getI m.Deparse.l i=some d):callRO vp 132 [chkV m,.int .i64 i]=some (.int .i64 (outE m i)):=by
 have hi:0≤i∧i<m.Deparse.l.length:=by
  rcases getI_cases m.Deparse.l i with⟨a,h0,h1,_⟩|⟨_,h1⟩
  ·exact⟨h0,h1⟩
  ·rw[h1]at hd;simp at hd
 have hsl:=slot493 m d.n hm d.hi
 have hz:=slot_cl hm d.n
 have hlp:=fun b6 hh=>loop132 m i hd b6 hh i.toNat 0 false (by omega) (by omega)
 simp only[Int.toNat_zero,List.drop_zero,Bool.false_or]at hlp
 rw[callRO_K fn132]
 simp -implicitDefEqProofs [hd,hm,pureOp,hsl,hdr0,hz,hlp,outE]
def Deep(m:Image):Prop:= ∀x∈m.Insts.l,0≤x.Depth.n∧x.Depth.n≤4
theorem max_many{d:Int}(h0:0≤d)(h1:d≤4):(if d<1 then 1 else d)=many d:=by
 unfold many;split<;>split<;>(try split)<;>omega
theorem loop120(l:GL Inst)(hI: ∀x∈l.l,0≤x.Depth.n∧x.Depth.n≤4)(s:Int)(v0:V): ∀(r:List Inst) (k n:Int),0≤k→k≤l.l.length→l.l.drop k.toNat=r→0≤n→n≤4*k→∃hh,(orc vp).loop 0 [1,8,26,27,28] L120_0 [(1,.int .i64 s),(8,.int .i64 n),(26,GL.v 3 Inst.v l),(27,.int .i64 l.l.length),(28,.int .i64 k)] [.arr [v0]]=
 (match ofR r k (s-n)with
  |some (i,_,_)=>some (.ret,[(4,.int .i64 i),(5,.bool true)],hh)
  |none=>some (.brk 0,[(1,.int .i64 s),(8,.int .i64 (n+slotsN r)),(26,GL.v 3 Inst.v l),(27,.int .i64 l.l.length),(28,.int .i64 l.l.length),(29,.bool false)],[.arr [v0]])):=by
 have hle:=l.le
 intro r
 induction r with
 |nil=>
  intro k n hk hkl hd h0 h1
  have hlt: ¬k<l.l.length:=by have:=drop_nil hk hd;omega
  have he:k=l.l.length:=by have:=drop_nil hk hd;omega
  refine⟨[],?_⟩
  rw[lp120_0]
  simp -implicitDefEqProofs [hlt,he,ofR,slotsN]
 |cons x r ih=>
  intro k n hk hkl hd h0 h1
  obtain⟨hg,hlt,hd'⟩:=drop_cons hk hd
  have hx:=hI x (List.mem_of_getElem? (by rw[getI,if_pos hk]at hg;exact hg))
  have hmm:=max_many hx.1 hx.2
  have hm:=many_bd x.Depth.n
  have w1:IntKind.i64.wrap (k+1)=k+1:=wrap64 (by omega) (by omega)
  have w2:IntKind.i64.wrap (n+many x.Depth.n)=n+many x.Depth.n:=wrap64 (by omega) (by omega)
  have hmx:foldV (fun a b=>if b>a then b else a) [.int .i64 x.Depth.n,.int .i64 1]=some (.int .i64 (many x.Depth.n)):=by
   rw[fold_two,←hmm]
  by_cases h:s<n+many x.Depth.n
  ·have h':s-n<many x.Depth.n:=by omega
   refine⟨[.arr [v0],.arr [x.v]],?_⟩
   rw[lp120_0]
   simp -implicitDefEqProofs [hlt,hg,hmx,w2,h,h',ofR]
  ·have h': ¬s-n<many x.Depth.n:=by omega
   obtain⟨hh,ih⟩:=ih (k+1) (n+many x.Depth.n) (by omega) (by omega) hd' (by omega) (by omega)
   rw[←Int.sub_sub]at ih
   refine⟨hh,?_⟩
   rw[lp120_0]
   simp -implicitDefEqProofs [hlt,hg,hmx,w1,w2,h,h',ofR,slotsN,ih,Int.add_assoc]
def instI(m:Image)(s:Int):Option (Int ×Inst):=(slot m s).bind fun _=>(ofI m.Insts.l s).map fun r=>(r.1,r.2.2)
theorem instance120(m:Image)(hm:Clo m)(hI:Deep m)(s:Int)(hs:s≤9223372036854775807):callRO vp 120 [chkV m,.int .i64 s]=some (match instI m s with|some (i,_)=>.tup [.int .i64 i,.bool true]|none=>.tup [.int .i64 0,.bool false]):=by
 have hsl:=slot493 m s hm hs
 have hz:=slot_cl hm s
 rw[callRO_K fn120]
 cases hv:slot m s with
 |none=>
  rw[hv]at hsl hz
  simp only[Option.getD_none]at hsl hz
  simp -implicitDefEqProofs [hm,pureOp,hsl,hdr0,hz,instI,hv]
 |some h=>
  rw[hv]at hsl hz
  simp only[Option.getD_some]at hsl hz
  obtain⟨hh,hlp⟩:=loop120 m.Insts hI s h.v m.Insts.l 0 0 (by omega) (by omega) rfl (by omega) (by omega)
  rw[Int.sub_zero]at hlp
  have hs0: ¬s<0:=by
   intro hneg
   unfold slot slotH ofI at hv
   rw[if_pos hneg]at hv;simp at hv
  have ho:ofI m.Insts.l s=ofR m.Insts.l 0 s:=by unfold ofI;rw[if_neg hs0]
  cases hr:ofR m.Insts.l 0 s with
  |none=>
   rw[hr]at hlp
   simp -implicitDefEqProofs [hm,pureOp,hsl,hdr0,hz,hlp,instI,hv,ho,hr]
  |some p=>
   obtain⟨i,j,y⟩:=p
   rw[hr]at hlp
   simp -implicitDefEqProofs [hm,pureOp,hsl,hdr0,hz,hlp,instI,hv,ho,hr]
theorem instI_get{m:Image}{s i:Int}{y:Inst}(h:instI m s=some (i,y)):getI m.Insts.l i=some y:=by
 simp only[instI,Option.bind_eq_some_iff,Option.map_eq_some_iff]at h
 obtain⟨_,_,r,hr,he⟩:=h
 obtain⟨a,b,c⟩:=r
 simp only[Prod.mk.injEq]at he
 obtain⟨rfl,rfl⟩:=he
 unfold ofI at hr
 split at hr
 ·simp at hr
 ·exact ofR_get (Int.le_refl 0) rfl hr
def extE(m:Image)(x:Ext):Int:=
 if x.Kind.n=0 then wantE (match instI m x.N.n with|some (_,y)=>decide (y.Depth.n=0)|none=>false) 5
 else if x.Kind.n=1 then wantE (stacked m x.N.n).isSome 5
 else if x.Kind.n=2 then wantE (inB x.N.n 1 64) 7 else 10
theorem ext117(m:Image)(hm:Clo m)(hI:Deep m)(x:Ext):callRO vp 117 [chkV m,x.v]=some (.int .i64 (extE m x)):=by
 have hin:=instance120 m hm hI x.N.n x.N.hi
 rw[callRO_K fn117]
 by_cases h0:x.Kind.n=0
 ·cases hi:instI m x.N.n with
  |none=>
   rw[hi]at hin
   simp -implicitDefEqProofs [h0,hin,hi,extE]
  |some p=>
   obtain⟨i,y⟩:=p
   rw[hi]at hin
   have hg:=instI_get hi
   simp -implicitDefEqProofs [h0,hin,hi,hg,extE,pureOp]
 ·by_cases h1:x.Kind.n=1
  ·have hst:=stacked494 m x.N.n
   cases hs:stacked m x.N.n with
   |none=>
    rw[hs]at hst
    simp -implicitDefEqProofs [h1,hst,hs,extE,pureOp]
   |some p=>
    obtain⟨a,d⟩:=p
    rw[hs]at hst
    simp -implicitDefEqProofs [h1,hst,hs,extE,pureOp]
  ·by_cases h2:x.Kind.n=2
   ·simp -implicitDefEqProofs [h2,extE,inB]
   ·simp -implicitDefEqProofs [h0,h1,h2,extE]
end Go.VE.Un
namespace Go.VE.Un
open Go.VE
theorem getI_lt{α:Type}{l:List α}{i:Int}{a:α}(h:getI l i=some a):0≤i∧i<l.length:=by
 rcases getI_cases l i with⟨_,h0,h1,_⟩|⟨_,h1⟩
 ·exact⟨h0,h1⟩
 ·rw[h1]at h;simp at h
theorem getI_mem{α:Type}{l:List α}{i:Int}{a:α}(h:getI l i=some a):a∈l:=by
 have:=getI_lt h
 rw[getI,if_pos this.1]at h;exact List.mem_of_getElem? h
theorem getI_take{α:Type}{l:List α}{i n:Int}(h0:0≤i)(h:i<n):getI (l.take n.toNat) i=getI l i:=by
 unfold getI;rw[if_pos h0,if_pos h0,List.getElem?_take,if_pos (by omega)]
theorem loop849(ns:List (List UInt8))(t:Tag)(s:List UInt8)(hn:ns.length≤17592186044416)(hb: ∀x∈ns,x.length≤17592186044416)(hs:s.length≤17592186044416): ∀(r:List (List UInt8)) (k:Int),0≤k→k≤(ns.length:Int)-1→(ns.take (ns.length-1)).drop k.toNat=r→(orc vp).loop 0 [0,3,4] L849_0 [(0,.sl 1 (ns.map V.str) t),(3,.str s),(4,.int .i64 k)] []=
 (if r.any (fun x=>decide (keyL x=keyL s))=true then some (.ret,[(2,.int .i64 6)],[])else some (.brk 0,[(0,.sl 1 (ns.map V.str) t),(3,.str s),(4,.int .i64 ((ns.length:Int)-1)),(18,.bool false)],[])):=by
 have w0:IntKind.i64.wrap ((ns.length:Int)-1)=(ns.length:Int)-1:=wrap64 (by omega) (by omega)
 intro r
 induction r with
 |nil=>
  intro k hk hkl hd
  have hle:=drop_nil hk hd
  have hlt: ¬k<(ns.length:Int)-1:=by simp at hle;omega
  have he:k=(ns.length:Int)-1:=by omega
  rw[lp849_0]
  simp -implicitDefEqProofs [w0,hlt,he]
 |cons y r ih=>
  intro k hk hkl hd
  obtain⟨hg,hlt,hd'⟩:=drop_cons hk hd
  have hlt:k<(ns.length:Int)-1:=by simp at hlt;omega
  have e1:ns.length-1=((ns.length:Int)-1).toNat:=by omega
  rw[e1,getI_take hk hlt]at hg
  have hy:=hb y (getI_mem hg)
  have w1:IntKind.i64.wrap (k+1)=k+1:=wrap64 (by omega) (by omega)
  have ih:=ih (k+1) (by omega) (by omega) hd'
  have ha:=alike818 y s hy hs
  rw[lp849_0]
  by_cases c:keyL y=keyL s
  ·simp -implicitDefEqProofs [w0,hlt,hg,ha,c]
  ·simp -implicitDefEqProofs [w0,w1,hlt,hg,ha,c,ih]
theorem title849(ns:List (List UInt8))(t:Tag)(hne:ns≠[])(hn:ns.length≤17592186044416)(hb: ∀x∈ns,x.length≤17592186044416):
 callRO vp 849 [.sl 1 (ns.map V.str) t]=some (.int .i64 (titledE ns ((ns.length:Int)-1))):=by
 have hl:=List.length_pos_iff.2 hne
 have w0:IntKind.i64.wrap ((ns.length:Int)-1)=(ns.length:Int)-1:=wrap64 (by omega) (by omega)
 obtain⟨s,hg⟩: ∃s,getI ns ((ns.length:Int)-1)=some s:=by
  rcases getI_cases ns ((ns.length:Int)-1)with⟨a,_,_,h⟩|⟨h,_⟩
  ·exact⟨a,h⟩
  ·omega
 have hs:=hb s (getI_mem hg)
 have hp:=rplain822 s hs
 have hlp:=loop849 ns t s hn hb hs _ 0 (by omega) (by omega) rfl
 have e1:((ns.length:Int)-1).toNat=ns.length-1:=by omega
 rw[show(0:Int).toNat=0 from rfl,List.drop_zero]at hlp
 rw[callRO_K fn849]
 have ht:titledE ns ((ns.length:Int)-1)=if plainN s=false then 4 else if(ns.take (ns.length-1)).any (fun x=>decide (keyL x=keyL s))=true then 6 else 0:=by unfold titledE;rw[hg,e1]
 rw[ht]
 generalize (ns.take (ns.length-1)).any (fun x=>decide (keyL x=keyL s))=c at*
 cases c1:plainN s with
 |false=>
  rw[c1]at hp
  simp -implicitDefEqProofs [w0,hg,hp]
 |true=>
  rw[c1]at hp
  cases c with
  |true=>
   rw[if_pos rfl]at hlp
   simp -implicitDefEqProofs [w0,hg,hp,hlp]
  |false=>
   rw[if_neg (by simp)]at hlp
   simp -implicitDefEqProofs [w0,hg,hp,hlp]
theorem idxK_any(k:List UInt8): ∀(r:List (List UInt8)) (i:Int),0≤i→(0≤idxK k r i↔r.any (fun x=>decide (keyL x=k))=true)
 |[],i,_=>by simp[idxK]
 |t::r,i,h=>by
  simp only[idxK,List.any_cons,Bool.or_eq_true,decide_eq_true_eq]
  split
  ·rename_i e;simp[e,h]
  ·rename_i e;rw[idxK_any k r (i+1) (by omega)];simp[e]
theorem loop821_0(h:Header)(y:Field)(i:Int)(sum:V)(hi:getI h.Fields.l i=some y)(hl:h.Fields.l.length≤16)(hb: ∀f∈h.Fields.l,f.Name.s.length≤17592186044416): ∀(r:List Field) (k:Int),0≤k→k≤i→(h.Fields.l.take i.toNat).drop k.toNat=r→(orc vp).loop 0 [1,3,4,5,6] L821_0 [(1,.ptr 0 1 0 0),(3,sum),(4,.int .i64 i),(5,.ptr 1 1 0 0),(6,.int .i64 k)] [.arr [h.v],.arr [y.v]]=
 (if r.any (fun x=>decide (keyL x.Name.s=keyL y.Name.s))=true then some (.ret,[(2,.int .i64 6)],[.arr [h.v],.arr [y.v]])else some (.brk 2,[(1,.ptr 0 1 0 0),(3,sum),(4,.int .i64 i),(5,.ptr 1 1 0 0),(6,.int .i64 i),(37,.bool false)],[.arr [h.v],.arr [y.v]])):=by
 have hil:=getI_lt hi
 intro r
 induction r with
 |nil=>
  intro k hk hkl hd
  have hle:=drop_nil hk hd
  have hlt: ¬k<i:=by simp at hle;omega
  have he:k=i:=by omega
  rw[lp821_0]
  simp -implicitDefEqProofs [hlt,he]
 |cons x r ih=>
  intro k hk hkl hd
  obtain⟨hg,hlt,hd'⟩:=drop_cons hk hd
  have hlt:k<i:=by simp at hlt;omega
  rw[getI_take hk hlt]at hg
  have w1:IntKind.i64.wrap (k+1)=k+1:=wrap64 (by omega) (by omega)
  have ih:=ih (k+1) (by omega) (by omega) hd'
  have ha:=alike818 x.Name.s y.Name.s (hb x (getI_mem hg)) (hb y (getI_mem hi))
  rw[lp821_0]
  by_cases c:keyL x.Name.s=keyL y.Name.s
  ·simp -implicitDefEqProofs [hlt,hg,ha,c]
  ·simp -implicitDefEqProofs [w1,hlt,hg,ha,c,ih]
theorem loop821_1(h:Header)(hl:h.Fields.l.length≤16)(hb: ∀f∈h.Fields.l,f.Name.s.length≤17592186044416): ∀(r:List Field) (k sum:Int),0≤k→k≤h.Fields.l.length→h.Fields.l.drop k.toNat=r→0≤sum→sum≤128*k→∃h1 s1,(orc vp).loop 0 [1,3,4] L821_1 [(1,.ptr 0 1 0 0),(3,.int .i64 sum),(4,.int .i64 k)] [.arr [h.v]]=
 (match fieldsR r ((h.Fields.l.take k.toNat).map fun f=>f.Name.s) sum with
  |none=>some (.ret,[(2,.int .i64 (fieldsE r ((h.Fields.l.take k.toNat).map fun f=>f.Name.s) sum))],h1)
  |some (_,s)=>some (.brk 0,[(1,.ptr 0 1 0 0),(3,.int .i64 s),(4,.int .i64 s1),(23,.bool false)],[.arr [h.v]])):=by
 intro r
 induction r with
 |nil=>
  intro k sum hk hkl hd _ _
  have hle:=drop_nil hk hd
  have hlt: ¬k<h.Fields.l.length:=by omega
  refine⟨[],k,?_⟩
  rw[lp821_1]
  simp -implicitDefEqProofs [hlt,fieldsR]
 |cons y r ih=>
  intro k sum hk hkl hd h0 h1
  obtain⟨hg,hlt,hd'⟩:=drop_cons hk hd
  have w1:IntKind.i64.wrap (k+1)=k+1:=wrap64 (by omega) (by omega)
  have hp:=rplain822 y.Name.s (hb y (getI_mem hg))
  have hi:=loop821_0 h y k (.int .i64 sum) hg hl hb _ 0 (by omega) hk rfl
  rw[show(0:Int).toNat=0 from rfl,List.drop_zero]at hi
  have hany:(0≤idxK (keyL y.Name.s) ((h.Fields.l.take k.toNat).map fun f=>f.Name.s) 0)↔(h.Fields.l.take k.toNat).any (fun x=>decide (keyL x.Name.s=keyL y.Name.s))=true:=by
   rw[idxK_any _ _ 0 (by omega),List.any_map];rfl
  have ih:=ih (k+1)
  have ht:((h.Fields.l.take (k+1).toNat).map fun f=>f.Name.s)=((h.Fields.l.take k.toNat).map fun f=>f.Name.s)++[y.Name.s]:=by
   rw[show(k+1).toNat=k.toNat+1 by omega,List.take_add_one]
   rw[getI,if_pos hk]at hg
   simp[hg]
  rw[ht]at ih
  generalize (h.Fields.l.take k.toNat).map (fun f=>f.Name.s)=ns at*
  generalize (h.Fields.l.take k.toNat).any (fun x=>decide (keyL x.Name.s=keyL y.Name.s))=dup at*
  rw[lp821_1]
  cases c1:plainN y.Name.s with
  |false=>
   rw[c1]at hp
   refine⟨[.arr [h.v],.arr [y.v]],0,?_⟩
   simp -implicitDefEqProofs [hlt,hg,hp,fieldsR,fieldsE,c1]
  |true=>
   rw[c1]at hp
   by_cases c2:dup=true
   ·rw[if_pos c2]at hi
    have c3:=hany.2 c2
    refine⟨[.arr [h.v],.arr [y.v]],0,?_⟩
    simp -implicitDefEqProofs [hlt,hg,hp,hi,fieldsR,fieldsE,c1,c3]
   ·rw[if_neg c2]at hi
    have c3: ¬0≤idxK (keyL y.Name.s) ns 0:=fun e=>c2 (hany.1 e)
    by_cases c4:1≤y.W.n
    ·by_cases c5:y.W.n≤128
     ·have c4': ¬y.W.n<1:=by omega
      have c5': ¬128<y.W.n:=by omega
      have w2:IntKind.i64.wrap (sum+y.W.n)=sum+y.W.n:=wrap64 (by omega) (by omega)
      obtain⟨h1,s1,ih⟩:=ih (sum+y.W.n) (by omega) (by omega) hd' (by omega) (by omega)
      refine⟨h1,s1,?_⟩
      simp -implicitDefEqProofs [hlt,hg,hp,hi,fieldsR,fieldsE,c1,c3,c4,c5,c4',c5',w1,w2,ih]
     ·have c4': ¬y.W.n<1:=by omega
      refine⟨[.arr [h.v],.arr [y.v]],0,?_⟩
      simp -implicitDefEqProofs [hlt,hg,hp,hi,fieldsR,fieldsE,c1,c3,c4,c4',c5]
    ·refine⟨[.arr [h.v],.arr [y.v]],0,?_⟩
     simp -implicitDefEqProofs [hlt,hg,hp,hi,fieldsR,fieldsE,c1,c3,c4]
theorem fieldsR_none: ∀(r:List Field) (ns:List (List UInt8)) (sum:Int),fieldsR r ns sum=none→fieldsE r ns sum≠0
 |[],_,_,h=>by simp[fieldsR]at h
 |f::r,ns,sum,h=>by
  simp only[fieldsR,fieldsE]at h⊢
  split
  ·omega
  ·split
   ·omega
   ·split
    ·rename_i h1 h2 h3
     rw[if_neg h1,if_neg h2,if_pos h3]at h
     exact fieldsR_none r _ _ h
    ·omega
set_option maxHeartbeats 2000000 in
set_option maxRecDepth 100000 in
theorem rmay821(h:Header)(hn:h.Name.s.length≤17592186044416)(hb:h.Fields.l.length≤16→∀f∈h.Fields.l,f.Name.s.length≤17592186044416):callRO vp 821 [h.v]=some (.int .i64 (mayH h)):=by
 have hp:=rplain822 h.Name.s hn
 rw[callRO_K fn821]
 unfold mayH
 cases c1:plainN h.Name.s with
 |false=>
  rw[c1]at hp
  simp -implicitDefEqProofs [hp]
 |true=>
  rw[c1]at hp
  by_cases c2:16<h.Fields.l.length
  ·have c2':(16:Int)<h.Fields.l.length:=by omega
   simp -implicitDefEqProofs [hp,c2,c2']
  ·have c2': ¬(16:Int)<h.Fields.l.length:=by omega
   by_cases c3:h.Fields.l=[]
   ·simp -implicitDefEqProofs [hp,c2,c2',c3]
   ·have hb:=hb (by omega)
    obtain⟨h1,s1,hl⟩:=loop821_1 h (by omega) hb h.Fields.l 0 0 (by omega) (by omega) rfl (by omega) (by omega)
    simp only[show(0:Int).toNat=0 from rfl,List.take_zero,List.map_nil]at hl
    cases hr:fieldsR h.Fields.l [] 0 with
    |none=>
     rw[hr]at hl
     have hne:=fieldsR_none _ _ _ hr
     simp -implicitDefEqProofs [hp,c2,c2',c3,hl,hne]
    |some q=>
     obtain⟨ns,s⟩:=q
     rw[hr]at hl
     have he:=fieldsR_E _ _ _ hr
     have hs:=fieldsR_nn _ _ _ (by omega) hr
     have hm:=tmod8 hs
     have hrem:binV .rem (.int .i64 s) (.int .i64 8)=some (.int .i64 (s%8)):=by rw[bin_rem _ _ _ (by decide),hm]
     rw[he]
     by_cases c4:s%8=0
     ·have c4': ¬¬(s%8=0):=fun x=>x c4
      simp only[c4,if_true]
      unfold variesB
      by_cases d0:h.Var.n=0
      ·by_cases d1:h.By.n=0<;>by_cases d2:h.Mul.n=0<;>by_cases d3:h.Sub.n=0<;>simp -implicitDefEqProofs [hp,c2,c2',c3,hl,hrem,c4,d0,d1,d2,d3]
      ·by_cases d1:1≤h.Var.n
       ·by_cases d2:h.Var.n≤64
        ·have d2': ¬64<h.Var.n:=by omega
         have d1': ¬h.Var.n<1:=by omega
         rcases getI_cases h.Fields.l h.By.n with⟨y,e0,e1,eg⟩|⟨e0,eg⟩
         ·have e0': ¬h.By.n<0:=by omega
          have e1': ¬(h.Fields.l.length:Int)≤h.By.n:=by omega
          by_cases g1:y.W.n≤16
          ·have g1': ¬16<y.W.n:=by omega
           by_cases g2:1≤h.Mul.n
           ·have g2': ¬h.Mul.n<1:=by omega
            by_cases g3:h.Mul.n≤64
            ·have g3': ¬64<h.Mul.n:=by omega
             by_cases g4:0≤h.Sub.n
             ·have g4': ¬h.Sub.n<0:=by omega
              by_cases g5:h.Sub.n≤4096
              ·have g5': ¬4096<h.Sub.n:=by omega
               simp -implicitDefEqProofs [hp,c2,c2',c3,hl,hrem,c4,d0,d1,d2,d1',d2',eg,e0',e1',g1,g1',g2,g2',g3,g3',g4,g4',g5,g5',inB]
              ·have g5':4096<h.Sub.n:=by omega
               simp -implicitDefEqProofs [hp,c2,c2',c3,hl,hrem,c4,d0,d1,d2,d1',d2',eg,e0',e1',g1,g1',g2,g2',g3,g3',g4,g4',g5,g5',inB]
             ·have g4':h.Sub.n<0:=by omega
              simp -implicitDefEqProofs [hp,c2,c2',c3,hl,hrem,c4,d0,d1,d2,d1',d2',eg,e0',e1',g1,g1',g2,g2',g3,g3',g4,g4',inB]
            ·have g3':64<h.Mul.n:=by omega
             simp -implicitDefEqProofs [hp,c2,c2',c3,hl,hrem,c4,d0,d1,d2,d1',d2',eg,e0',e1',g1,g1',g2,g2',g3,g3',inB]
           ·have g2':h.Mul.n<1:=by omega
            simp -implicitDefEqProofs [hp,c2,c2',c3,hl,hrem,c4,d0,d1,d2,d1',d2',eg,e0',e1',g1,g1',g2,g2',inB]
          ·have g1':16<y.W.n:=by omega
           simp -implicitDefEqProofs [hp,c2,c2',c3,hl,hrem,c4,d0,d1,d2,d1',d2',eg,e0',e1',g1,g1',inB]
         ·by_cases e1:h.By.n<0
          ·simp -implicitDefEqProofs [hp,c2,c2',c3,hl,hrem,c4,d0,d1,d2,d1',d2',eg,e1,inB]
          ·have e2:(h.Fields.l.length:Int)≤h.By.n:=by omega
           simp -implicitDefEqProofs [hp,c2,c2',c3,hl,hrem,c4,d0,d1,d2,d1',d2',eg,e1,e2,inB]
        ·have d2':64<h.Var.n:=by omega
         have d1': ¬h.Var.n<1:=by omega
         simp -implicitDefEqProofs [hp,c2,c2',c3,hl,hrem,c4,d0,d1,d2,d1',d2',inB]
       ·have d1':h.Var.n<1:=by omega
        simp -implicitDefEqProofs [hp,c2,c2',c3,hl,hrem,c4,d0,d1,d1',inB]
     ·simp -implicitDefEqProofs [hp,c2,c2',c3,hl,hrem,c4]
end Go.VE.Un
