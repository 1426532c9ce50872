/- Joined texts: CkM, CkN, CkO, CtG, CkP, CrI. No condition: what each theorem needs stands in it. -/
import Derived.Test.YtlekfkibeafdiaaGreatCc9
import Derived.Test.YtlekfkibeafdiaaGreatCc1
import Derived.Test.YtlekfkibeafdiaaGreatCc8
namespace Go.VE.Un
open Go.VE
theorem Zan(m:Zb)(l:List I64): ∀(r:List I64) (k:Int),Y2 m l r k=0→∀x∈r,0≤x.n∧x.n<m.Actions.l.length
 |[],_,_,x,hx=>by simp at hx
 |y::r,k,h,x,hx=>by
  simp only[Y2]at h
  split at h
  ·simp at h
  ·rename_i h1
   split at h
   ·simp at h
   ·rcases List.mem_cons.1 hx with rfl|hx
    ·simp[inB]at h1;omega
    ·exact Zan m l r _ h x hx
def Zc6(m:Zb)(i:Int)(t:ZD)(b c:Bool):Int:=
 ZI [ZH (nTables m) i,Zl (decide (0≤t.Kind.n)&&decide (t.Kind.n≤3)) 10,Zl b 5,QW m t.Keys.l false,Ug m t.Actions.l,Zl c 16]
def ZjM(m:Zb)(i:Int)(t:ZD)(b c:Bool):Int:=
 if Zc6 m i t b c=0 then ZI [WR m t.Default.Action.n t.Default.Args.l,Zl (decide (1≤t.Size.n)&&decide (t.Size.n≤256)) 7]else Zc6 m i t b c
def WE(m:Zb)(i:Int):Int:=match Zh m.Tables.l i with|none=>0|some t=>ZjM m i t (decide (0<t.Keys.l.length)) (decide (t.Default.Action.n∈t.Actions.l.map (·.n)))
theorem ZbZ{m:Zb}(hm:Clo m):Ze (GL.v 7 ZD.v m.Tables)=true:=by
 simp only[Clo,Zb.closed,Bool.and_eq_true]at hm;simp[hm]
theorem UF: ∀{l:List Int},ZI l=0→∀x∈l,x=0
 |[],_,x,hx=>by simp at hx
 |a::r,h,x,hx=>by
  simp only[ZI]at h;split at h
  ·rename_i h1;rcases List.mem_cons.1 hx with rfl|hx
   ·exact h1
   ·exact UF h x hx
  ·omega
theorem Zpy{m:Zb}{i:Int}{t:ZD}{b c:Bool}(hc:c=decide (t.Default.Action.n∈t.Actions.l.map (·.n)))(h:Zc6 m i t b c=0): ∃a,Zh m.Actions.l t.Default.Action.n=some a:=by
 have h1:=UF h (Ug m t.Actions.l) (by simp)
 have h2:=UF h (Zl c 16) (by simp)
 have hc1:c=true:=by unfold Zl at h2;split at h2;assumption;omega
 rw[hc1]at hc
 have hmem:=of_decide_eq_true hc.symm
 unfold Ug at h1
 split at h1
 ·omega
 ·split at h1
  ·rename_i hr
   simp only[List.mem_map]at hmem
   obtain⟨x,hx,hxe⟩:=hmem
   have:=Zan m _ _ _ hr x hx
   rcases Zm m.Actions.l t.Default.Action.n with⟨a,_,_,hg⟩|⟨hg,_⟩
   ·exact⟨a,hg⟩
   ·omega
  ·omega
set_option maxHeartbeats 4000000 in
set_option maxRecDepth 100000 in
theorem Znu(m:Zb)(hm:Clo m)(hs:Z2 m)(i:Int){t:ZD}(h:Zh m.Tables.l i=some t):Zc vp 141 [ZN m,.int .i64 i]=some (.int .i64 (WE m i)):=by
 have hc:=Xc (ZbZ hm) h
 simp only[ZD.closed,Bool.and_eq_true]at hc
 have ht:=Zlh m hs i h
 have hk:=Znc m hm t.Keys false
 have hcl:=ZnL m t.Actions
 have hcn:=JE t.Default.Action.n t.Actions
 have hr:WE m i=ZjM m i t (decide (0<t.Keys.l.length)) (decide (t.Default.Action.n∈t.Actions.l.map (·.n))):=by simp only[WE,h]
 rw[Za ZrB,hr]
 have hb: ∀b,decide (0<t.Keys.l.length)=b→(0<t.Keys.l.length)=(b=true)∧((0:Int)<t.Keys.l.length)=(b=true):=fun b e=>by
  subst e;simp
 generalize hbe:decide (0<t.Keys.l.length)=b
 obtain⟨b1,b2⟩:=hb b hbe
 have hh:=fun h=>Zpy (m:=m) (i:=i) (t:=t) (b:=b) (c:=decide (t.Default.Action.n∈t.Actions.l.map (·.n))) rfl h
 generalize decide (t.Default.Action.n∈t.Actions.l.map (·.n))=c at hcn hh⊢
 by_cases ca:Zc6 m i t b c=0
 ·obtain⟨a,hA⟩:=hh ca
  have har:=Zi2 m t.Default.Action.n hA t.Default.Args
  unfold Zc6 at ca
  cases b<;>simp -implicitDefEqProofs [h,hc,Zf,ht,hk,hcl,hcn,b1,b2,ca,har,ZjM,Zc6]
 ·unfold Zc6 at ca
  cases b<;>simp -implicitDefEqProofs [h,hc,Zf,ht,hk,hcl,hcn,b1,b2,ca,ZjM,Zc6]
end Go.VE.Un
namespace Go.VE.Un
open Go.VE
def Zn(m:Zb)(p:Int):Int ×Int:=
 if p=0 then(0,ZI [Zl (J1 m.Name.s) 4,Zl (inB m.Ports.n 1 64&&(inB m.Depth.n 1 32&&inB m.Rounds.n 0 4)) 7])
 else if p=2 then(0,U3 m.Headers.l.length m.Insts.l)
 else if p=4 then(if m.States.l.length=0 then(0,5)else Yw m.States.l.length 16 (W6 m))
 else if p=7 then Wj m m.Ingress.l else if p=8 then Wj m m.Egress.l else if p=10 then Q4 m m.Checks.l else if p=11 then Q4 m m.Updates.l
 else if p=1 then Yw m.Headers.l.length 16 (YM m)
 else if p=3 then Yw m.Metas.l.length 16 (Qe m)
 else if p=5 then Yw m.Actions.l.length 32 (Xa m)
 else if p=6 then Yw m.Tables.l.length 8 (WE m)
 else if p=9 then Yw m.Deparse.l.length 32 (Qs m)
 else if p=12 then Yw m.Regs.l.length 8 (Zaq m)
 else if p=13 then Yw m.Counters.l.length 8 (XH m)
 else if p=14 then Yw m.Meters.l.length 8 (Vm m)
 else(0,0)
theorem ZvR(m:Zb)(hm:Clo m)(hs:Z2 m):Zc vp 501 [.int .i64 m.Headers.l.length,.int .i64 16,.func 118 [ZN m] []]=some (.tup [.int .i64 (Yw m.Headers.l.length 16 (YM m)).1,.int .i64 (Yw m.Headers.l.length 16 (YM m)).2]):=by
 have hle:=m.Headers.le
 exact VM 118 [ZN m] [] Zrx rfl rfl (by simp) rfl m.Headers.l.length 16 (by omega) (by omega) (YM m) (fun _ i h0 h1=>by
  rcases Zm m.Headers.l i with⟨x,_,_,hg⟩|⟨hg,_⟩
  ·exact Zlz m hs i hg
  ·omega)
theorem Zvq(m:Zb)(hm:Clo m)(hs:Z2 m):Zc vp 501 [.int .i64 m.Metas.l.length,.int .i64 16,.func 122 [ZN m] []]=some (.tup [.int .i64 (Yw m.Metas.l.length 16 (Qe m)).1,.int .i64 (Yw m.Metas.l.length 16 (Qe m)).2]):=by
 have hle:=m.Metas.le
 exact VM 122 [ZN m] [] ZrP rfl rfl (by simp) rfl m.Metas.l.length 16 (by omega) (by omega) (Qe m) (fun _ i h0 h1=>by
  rcases Zm m.Metas.l i with⟨x,_,_,hg⟩|⟨hg,_⟩
  ·exact Zps m hs i hg
  ·omega)
theorem Zzv(m:Zb)(hm:Clo m)(hs:Z2 m)(hI:(4:Int)=4→Deep m):Zc vp 501 [.int .i64 m.States.l.length,.int .i64 16,.func 137 [ZN m] []]=some (.tup [.int .i64 (Yw m.States.l.length 16 (W6 m)).1,.int .i64 (Yw m.States.l.length 16 (W6 m)).2]):=by
 have hle:=m.States.le
 exact VM 137 [ZN m] [] Zri rfl rfl (by simp) rfl m.States.l.length 16 (by omega) (by omega) (W6 m) (fun _ i h0 h1=>by
  rcases Zm m.States.l i with⟨x,_,_,hg⟩|⟨hg,_⟩
  ·exact ZmM m hm (hI rfl) hs i hg
  ·omega)
theorem Zws(m:Zb)(hm:Clo m)(hs:Z2 m):Zc vp 501 [.int .i64 m.Actions.l.length,.int .i64 32,.func 109 [ZN m] []]=some (.tup [.int .i64 (Yw m.Actions.l.length 32 (Xa m)).1,.int .i64 (Yw m.Actions.l.length 32 (Xa m)).2]):=by
 have hle:=m.Actions.le
 exact VM 109 [ZN m] [] Zro rfl rfl (by simp) rfl m.Actions.l.length 32 (by omega) (by omega) (Xa m) (fun _ i h0 h1=>by
  rcases Zm m.Actions.l i with⟨x,_,_,hg⟩|⟨hg,_⟩
  ·exact ZlF m hm hs i hg
  ·omega)
theorem Zx2(m:Zb)(hm:Clo m)(hs:Z2 m):Zc vp 501 [.int .i64 m.Tables.l.length,.int .i64 8,.func 141 [ZN m] []]=some (.tup [.int .i64 (Yw m.Tables.l.length 8 (WE m)).1,.int .i64 (Yw m.Tables.l.length 8 (WE m)).2]):=by
 have hle:=m.Tables.le
 exact VM 141 [ZN m] [] ZrB rfl rfl (by simp) rfl m.Tables.l.length 8 (by omega) (by omega) (WE m) (fun _ i h0 h1=>by
  rcases Zm m.Tables.l i with⟨x,_,_,hg⟩|⟨hg,_⟩
  ·exact Znu m hm hs i hg
  ·omega)
theorem Zy6(m:Zb)(hm:Clo m)(hs:Z2 m):Zc vp 501 [.int .i64 m.Deparse.l.length,.int .i64 32,.func 132 [ZN m] []]=some (.tup [.int .i64 (Yw m.Deparse.l.length 32 (Qs m)).1,.int .i64 (Yw m.Deparse.l.length 32 (Qs m)).2]):=by
 have hle:=m.Deparse.le
 exact VM 132 [ZN m] [] Zrp rfl rfl (by simp) rfl m.Deparse.l.length 32 (by omega) (by omega) (Qs m) (fun _ i h0 h1=>by
  rcases Zm m.Deparse.l i with⟨x,_,_,hg⟩|⟨hg,_⟩
  ·exact Zsv m hm i hg
  ·omega)
theorem ZrT(m:Zb)(hm:Clo m)(hs:Z2 m):Zc vp 501 [.int .i64 m.Regs.l.length,.int .i64 8,.func 135 [ZN m] []]=some (.tup [.int .i64 (Yw m.Regs.l.length 8 (Zaq m)).1,.int .i64 (Yw m.Regs.l.length 8 (Zaq m)).2]):=by
 have hle:=m.Regs.le
 exact VM 135 [ZN m] [] Zq7 rfl rfl (by simp) rfl m.Regs.l.length 8 (by omega) (by omega) (Zaq m) (fun _ i h0 h1=>by
  rcases Zm m.Regs.l i with⟨x,_,_,hg⟩|⟨hg,_⟩
  ·exact Zt7 m hs i hg
  ·omega)
theorem ZsH(m:Zb)(hm:Clo m)(hs:Z2 m):Zc vp 501 [.int .i64 m.Counters.l.length,.int .i64 8,.func 115 [ZN m] []]=some (.tup [.int .i64 (Yw m.Counters.l.length 8 (XH m)).1,.int .i64 (Yw m.Counters.l.length 8 (XH m)).2]):=by
 have hle:=m.Counters.le
 exact VM 115 [ZN m] [] ZrK rfl rfl (by simp) rfl m.Counters.l.length 8 (by omega) (by omega) (XH m) (fun _ i h0 h1=>by
  rcases Zm m.Counters.l i with⟨x,_,_,hg⟩|⟨hg,_⟩
  ·exact ZgT m hs i hg
  ·omega)
theorem Zsu(m:Zb)(hm:Clo m)(hs:Z2 m):Zc vp 501 [.int .i64 m.Meters.l.length,.int .i64 8,.func 124 [ZN m] []]=some (.tup [.int .i64 (Yw m.Meters.l.length 8 (Vm m)).1,.int .i64 (Yw m.Meters.l.length 8 (Vm m)).2]):=by
 have hle:=m.Meters.le
 exact VM 124 [ZN m] [] ZrG rfl rfl (by simp) rfl m.Meters.l.length 8 (by omega) (by omega) (Vm m) (fun _ i h0 h1=>by
  rcases Zm m.Meters.l i with⟨x,_,_,hg⟩|⟨hg,_⟩
  ·exact ZlP m hs i hg
  ·omega)
set_option maxHeartbeats 2000000 in
set_option maxRecDepth 100000 in
theorem Zlo(m:Zb)(hm:Clo m)(hs:Z2 m):Zc vp 133 [ZN m,.int .i64 0]=some (.tup [.int .i64 (Zn m 0).1,.int .i64 (Zn m 0).2]):=by
 have hc:=hm
 simp only[Clo,Zb.closed,Bool.and_eq_true]at hc
 rw[Za VS]
 have hn:=m.Name.le
 have hp:Zn m 0=(0,ZI [Zl (J1 m.Name.s) 4,Zl (inB m.Ports.n 1 64&&(inB m.Depth.n 1 32&&inB m.Rounds.n 0 4)) 7]):=by unfold Zn;rw[if_pos rfl]
 rw[hp]
 by_cases c1:(decide (1≤m.Ports.n)&&decide (m.Ports.n≤64))=true
 ·by_cases c2:(decide (1≤m.Depth.n)&&decide (m.Depth.n≤32))=true
  ·simp -implicitDefEqProofs [ZG m,hc,hn,c1,c2,inB,Zf]
  ·simp only[Bool.not_eq_true]at c2
   simp -implicitDefEqProofs [ZG m,hc,hn,c1,c2,inB,Zf]
 ·simp only[Bool.not_eq_true]at c1
  simp -implicitDefEqProofs [ZG m,hc,hn,c1,inB,Zf]
set_option maxHeartbeats 2000000 in
set_option maxRecDepth 100000 in
theorem ZkC(m:Zb)(hm:Clo m)(hs:Z2 m):Zc vp 133 [ZN m,.int .i64 1]=some (.tup [.int .i64 (Zn m 1).1,.int .i64 (Zn m 1).2]):=by
 have hc:=hm
 simp only[Clo,Zb.closed,Bool.and_eq_true]at hc
 rw[Za VS]
 have ha:=ZvR m hm hs
 simp -implicitDefEqProofs [ZG m,hc,ha,Zn]
set_option maxHeartbeats 2000000 in
set_option maxRecDepth 100000 in
theorem ZkS(m:Zb)(hm:Clo m)(hs:Z2 m):Zc vp 133 [ZN m,.int .i64 2]=some (.tup [.int .i64 (Zn m 2).1,.int .i64 (Zn m 2).2]):=by
 have hc:=hm
 simp only[Clo,Zb.closed,Bool.and_eq_true]at hc
 rw[Za VS]
 have hi:=Znd m.Headers m.Insts hs.ins
 simp -implicitDefEqProofs [ZG m,hc,hi,Zn]
set_option maxHeartbeats 2000000 in
set_option maxRecDepth 100000 in
theorem ZkU(m:Zb)(hm:Clo m)(hs:Z2 m):Zc vp 133 [ZN m,.int .i64 3]=some (.tup [.int .i64 (Zn m 3).1,.int .i64 (Zn m 3).2]):=by
 have hc:=hm
 simp only[Clo,Zb.closed,Bool.and_eq_true]at hc
 rw[Za VS]
 have ha:=Zvq m hm hs
 simp -implicitDefEqProofs [ZG m,hc,ha,Zn]
set_option maxHeartbeats 2000000 in
set_option maxRecDepth 100000 in
theorem Zkl(m:Zb)(hm:Clo m)(hs:Z2 m)(hI:(4:Int)=4→Deep m):Zc vp 133 [ZN m,.int .i64 4]=some (.tup [.int .i64 (Zn m 4).1,.int .i64 (Zn m 4).2]):=by
 have hc:=hm
 simp only[Clo,Zb.closed,Bool.and_eq_true]at hc
 rw[Za VS]
 have ha:=Zzv m hm hs hI
 have hp:Zn m 4=if m.States.l.length=0 then(0,5)else Yw m.States.l.length 16 (W6 m):=by simp[Zn]
 rw[hp]
 by_cases z:m.States.l=[]
 ·have z':(m.States.l=[])=True:=eq_true z
  rw[if_pos (by rw[z];rfl)]
  simp -implicitDefEqProofs [ZG m,hc,z']
 ·have z':(m.States.l=[])=False:=eq_false z
  rw[if_neg (by simpa using z)]
  simp -implicitDefEqProofs [ZG m,hc,ha,z']
set_option maxHeartbeats 2000000 in
set_option maxRecDepth 100000 in
theorem Zlj(m:Zb)(hm:Clo m)(hs:Z2 m):Zc vp 133 [ZN m,.int .i64 5]=some (.tup [.int .i64 (Zn m 5).1,.int .i64 (Zn m 5).2]):=by
 have hc:=hm
 simp only[Clo,Zb.closed,Bool.and_eq_true]at hc
 rw[Za VS]
 have ha:=Zws m hm hs
 simp -implicitDefEqProofs [ZG m,hc,ha,Zn]
set_option maxHeartbeats 2000000 in
set_option maxRecDepth 100000 in
theorem ZjF(m:Zb)(hm:Clo m)(hs:Z2 m):Zc vp 133 [ZN m,.int .i64 6]=some (.tup [.int .i64 (Zn m 6).1,.int .i64 (Zn m 6).2]):=by
 have hc:=hm
 simp only[Clo,Zb.closed,Bool.and_eq_true]at hc
 rw[Za VS]
 have ha:=Zx2 m hm hs
 simp -implicitDefEqProofs [ZG m,hc,ha,Zn]
set_option maxHeartbeats 2000000 in
set_option maxRecDepth 100000 in
theorem Zka(m:Zb)(hm:Clo m)(hs:Z2 m):Zc vp 133 [ZN m,.int .i64 7]=some (.tup [.int .i64 (Zn m 7).1,.int .i64 (Zn m 7).2]):=by
 have hc:=hm
 simp only[Clo,Zb.closed,Bool.and_eq_true]at hc
 rw[Za VS]
 have ha:=Ze4 m hm m.Ingress
 simp -implicitDefEqProofs [ZG m,hc,ha,Zn]
set_option maxHeartbeats 2000000 in
set_option maxRecDepth 100000 in
theorem ZlD(m:Zb)(hm:Clo m)(hs:Z2 m):Zc vp 133 [ZN m,.int .i64 8]=some (.tup [.int .i64 (Zn m 8).1,.int .i64 (Zn m 8).2]):=by
 have hc:=hm
 simp only[Clo,Zb.closed,Bool.and_eq_true]at hc
 rw[Za VS]
 have ha:=Ze4 m hm m.Egress
 simp -implicitDefEqProofs [ZG m,hc,ha,Zn]
set_option maxHeartbeats 2000000 in
set_option maxRecDepth 100000 in
theorem Zli(m:Zb)(hm:Clo m)(hs:Z2 m):Zc vp 133 [ZN m,.int .i64 9]=some (.tup [.int .i64 (Zn m 9).1,.int .i64 (Zn m 9).2]):=by
 have hc:=hm
 simp only[Clo,Zb.closed,Bool.and_eq_true]at hc
 rw[Za VS]
 have ha:=Zy6 m hm hs
 simp -implicitDefEqProofs [ZG m,hc,ha,Zn]
set_option maxHeartbeats 2000000 in
set_option maxRecDepth 100000 in
theorem ZhE(m:Zb)(hm:Clo m)(hs:Z2 m):Zc vp 133 [ZN m,.int .i64 10]=some (.tup [.int .i64 (Zn m 10).1,.int .i64 (Zn m 10).2]):=by
 have hc:=hm
 simp only[Clo,Zb.closed,Bool.and_eq_true]at hc
 rw[Za VS]
 have ha:=Zio m hm hs m.Checks
 simp -implicitDefEqProofs [ZG m,hc,ha,Zn]
set_option maxHeartbeats 2000000 in
set_option maxRecDepth 100000 in
theorem ZgQ(m:Zb)(hm:Clo m)(hs:Z2 m):Zc vp 133 [ZN m,.int .i64 11]=some (.tup [.int .i64 (Zn m 11).1,.int .i64 (Zn m 11).2]):=by
 have hc:=hm
 simp only[Clo,Zb.closed,Bool.and_eq_true]at hc
 rw[Za VS]
 have ha:=Zio m hm hs m.Updates
 simp -implicitDefEqProofs [ZG m,hc,ha,Zn]
set_option maxHeartbeats 2000000 in
set_option maxRecDepth 100000 in
theorem ZhT(m:Zb)(hm:Clo m)(hs:Z2 m):Zc vp 133 [ZN m,.int .i64 12]=some (.tup [.int .i64 (Zn m 12).1,.int .i64 (Zn m 12).2]):=by
 have hc:=hm
 simp only[Clo,Zb.closed,Bool.and_eq_true]at hc
 rw[Za VS]
 have ha:=ZrT m hm hs
 simp -implicitDefEqProofs [ZG m,hc,ha,Zn]
set_option maxHeartbeats 2000000 in
set_option maxRecDepth 100000 in
theorem Zht(m:Zb)(hm:Clo m)(hs:Z2 m):Zc vp 133 [ZN m,.int .i64 13]=some (.tup [.int .i64 (Zn m 13).1,.int .i64 (Zn m 13).2]):=by
 have hc:=hm
 simp only[Clo,Zb.closed,Bool.and_eq_true]at hc
 rw[Za VS]
 have ha:=ZsH m hm hs
 simp -implicitDefEqProofs [ZG m,hc,ha,Zn]
set_option maxHeartbeats 2000000 in
set_option maxRecDepth 100000 in
theorem Zhy(m:Zb)(hm:Clo m)(hs:Z2 m):Zc vp 133 [ZN m,.int .i64 14]=some (.tup [.int .i64 (Zn m 14).1,.int .i64 (Zn m 14).2]):=by
 have hc:=hm
 simp only[Clo,Zb.closed,Bool.and_eq_true]at hc
 rw[Za VS]
 have ha:=Zsu m hm hs
 simp -implicitDefEqProofs [ZG m,hc,ha,Zn]
end Go.VE.Un
namespace Go.VE.Un
open Go.VE
theorem KF(n:Int): ∀(l:List ZE) (ns:List (List UInt8)),YX n l ns=0→∀x∈l,0≤x.Depth.n∧x.Depth.n≤4
 |[],_,_,x,hx=>by simp at hx
 |y::r,ns,h,x,hx=>by
  simp only[YX]at h
  split at h
  ·simp at h
  ·split at h
   ·simp at h
   ·split at h
    ·simp at h
    ·split at h
     ·simp at h
     ·rename_i h4
      rcases List.mem_cons.1 hx with rfl|hx
      ·simpa[inB]using h4
      ·exact KF n r _ h x hx
theorem Zqu{m:Zb}(h:(Zn m 2).2=0):Deep m:=by
 have h:U3 m.Headers.l.length m.Insts.l=0:=by simpa[Zn]using h
 unfold U3 at h
 split at h
 ·simp at h
 ·split at h
  ·rename_i h1;exact absurd h h1
  ·rename_i h1;exact KF _ _ _ (by simpa using h1)
def XS(m:Zb):Nat→Int→Option (Int ×Int ×Int)
 |0,_=>none
 |j+1,p=>if(Zn m p).2=0 then XS m j (p+1)else some (p,(Zn m p).1,(Zn m p).2)
def Yr(m:Zb):Option (Int ×Int ×Int):=XS m 15 0
theorem ZoY(m:Zb)(hm:Clo m)(hs:Z2 m)(p:Int)(h0:0≤p)(h1:p<15)(hI:p=4→Deep m):Zc vp 133 [ZN m,.int .i64 p]=some (.tup [.int .i64 (Zn m p).1,.int .i64 (Zn m p).2]):=by
 have hp:p=0∨p=1∨p=2∨p=3∨p=4∨p=5∨p=6∨p=7∨p=8∨p=9∨p=10∨p=11∨p=12∨p=13∨p=14:=by omega
 rcases hp with rfl|rfl|rfl|rfl|rfl|rfl|rfl|rfl|rfl|rfl|rfl|rfl|rfl|rfl|rfl
 ·exact Zlo m hm hs
 ·exact ZkC m hm hs
 ·exact ZkS m hm hs
 ·exact ZkU m hm hs
 ·exact Zkl m hm hs hI
 ·exact Zlj m hm hs
 ·exact ZjF m hm hs
 ·exact Zka m hm hs
 ·exact ZlD m hm hs
 ·exact Zli m hm hs
 ·exact ZhE m hm hs
 ·exact ZgQ m hm hs
 ·exact ZhT m hm hs
 ·exact Zht m hm hs
 ·exact Zhy m hm hs
def ZeT(p n e:Int):V:=.agg [.int .i64 p,.int .i64 n,.int .i64 e]
theorem ZpU(m:Zb)(hm:Clo m)(hs:Z2 m): ∀(j:Nat) (k:Int),0≤k→k+j=15→(2<k→Deep m)→(orc vp).loop 0 [3,10] Zgb [(3,.ptr 1 1 0 0),(10,.int .i64 k)] [.arr [m.v],.arr [m.v]]=
 (match XS m j k with
  |none=>some (.brk 0,[(3,.ptr 1 1 0 0),(10,.int .i64 15),(11,.bool false)],[.arr [m.v],.arr [m.v]])
  |some (p,n,e)=>some (.ret,[(2,.iface 121 (.ptr 2 1 0 0))],[.arr [m.v],.arr [m.v],.arr [ZeT p n e]])):=by
 intro j
 induction j with
 |zero=>
  intro k hk hkn _
  have:k=15:=by omega
  subst this
  rw[Zji]
  simp -implicitDefEqProofs [XS]
 |succ j ih=>
  intro k hk hkn hD
  have hlt:k<15:=by omega
  have w1:=w64 (n:=k+1) (by omega)
  have hp:=ZoY m hm hs k hk hlt (fun h=>hD (by omega))
  rw[Zji]
  by_cases c:(Zn m k).2=0
  ·have ih:=ih (k+1) (by omega) (by omega) (fun h=>by
    by_cases h2:2<k
    ·exact hD h2
    ·have:k=2:=by omega
     subst this
     exact Zqu c)
   simp -implicitDefEqProofs [hlt,hp,c,w1,ih,XS]
  ·simp -implicitDefEqProofs [hlt,hp,c,XS,Zf,ZC,ZeT]
theorem ZeP(m:Zb)(hm:Clo m)(hs:Z2 m):Zc vp 481 [m.v]=some (match Yr m with|none=>.nili|some (p,n,e)=>.iface 121 (.eptr (ZeT p n e) 0 .perm)):=by
 have hl:=ZpU m hm hs 15 0 (by omega) (by omega) (fun h=>by omega)
 have hb: ∀fr,lk fr 7=m.v→Zf fr (.build [.str [],.sl 6 [] .nl,.sl 3 [] .nl,.sl 2 [] .nl,.sl 5 [] .nl,.sl 3 [] .nl,.sl 7 [] .nl,.sl 6 [] .nl,.sl 6 [] .nl,.sl 1 [] .nl,.sl 2 [] .nl,.sl 2 [] .nl,.sl 3 [] .nl,.sl 2 [] .nl,.sl 4 [] .nl,.int .i64 0,.int .i64 0,.int .i64 0] [(0,18,.t 7)])=some m.v:=fun fr e=>by
  simp only[Zf,List.map,List.all,opd,e]
  rfl
 rw[Za ZyQ]
 unfold Yr
 cases hc:XS m 15 0 with
 |none=>
  rw[hc]at hl
  simp -implicitDefEqProofs [hb,hl]
 |some q=>
  obtain⟨p,n,e⟩:=q
  rw[hc]at hl
  have hf:Ze (ZeT p n e)=true:=by simp[ZeT]
  simp -implicitDefEqProofs [hb,hl,hf]
end Go.VE.Un
namespace Go.VE.Un
open Go.VE
end Go.VE.Un
namespace Go.VE.Un
open Go.VE
theorem Ki{m:Zb}: ∀(j:Nat) (p q:Int),XS m j p=none→p≤q→q<p+j→(Zn m q).2=0
 |0,p,q,_,h1,h2=>by omega
 |j+1,p,q,h,h1,h2=>by
  simp only[XS]at h
  split at h
  ·rename_i h0
   by_cases he:p=q
   ·subst he;exact h0
   ·exact Ki j (p+1) q h (by omega) (by omega)
  ·simp at h
theorem ZKS{m:Zb}(h:Yr m=none)(q:Int)(h0:0≤q)(h1:q<15):(Zn m q).2=0:=Ki 15 0 q h h0 (by omega)
theorem Zbl{ask:Int→Int}: ∀(j:Nat) (p q:Int),((Xe ask j p).getD (0,0)).2=0→p≤q→q<p+j→ask q=0
 |0,p,q,_,h1,h2=>by omega
 |j+1,p,q,h,h1,h2=>by
  simp only[Xe]at h
  split at h
  ·rename_i h0
   by_cases he:p=q
   ·subst he;exact h0
   ·exact Zbl j (p+1) q h (by omega) (by omega)
  ·rename_i h0;simp at h;exact absurd h h0
theorem ZaH{n most:Int}{ask:Int→Int}(h:(Yw n most ask).2=0):n≤most∧∀i,0≤i→i<n→ask i=0:=by
 unfold Yw at h
 split at h
 ·simp at h
 ·exact⟨by omega,fun i h0 h1=>Zbl n.toNat 0 i h h0 (by omega)⟩
theorem Zt4{x:Ins}(h:WB x=0){s:Sh}(hs:Zh ZR x.Op.n=some s):s.fr≤x.A.n:=by
 unfold WB at h
 rw[hs]at h
 simp only at h
 split at h
 ·simp at h
 ·rename_i hc
  simp[inB]at hc
  omega
end Go.VE.Un
namespace Go.VE.Un
open Go.VE
theorem ZjG(hs:V)(l:GL ZE)(y:ZE)(i:Int)(hi:Zh l.l i=some y)(hl:l.l.length≤16)(hb: ∀f∈l.l,f.Name.s.length≤17592186044416): ∀(r:List ZE) (k:Int),0≤k→k≤i→(l.l.take i.toNat).drop k.toNat=r→(orc vp).loop 0 [0,1,5,6] Zhg [(0,hs),(1,GL.v 3 ZE.v l),(5,.int .i64 i),(6,.int .i64 k)] []=
 (if r.any (fun x=>decide (Yl x.Name.s=Yl y.Name.s))=true then some (.ret,[(4,.int .i64 6)],[])else some (.brk 2,[(0,hs),(1,GL.v 3 ZE.v l),(5,.int .i64 i),(6,.int .i64 i),(25,.bool false)],[])):=by
 have hil:=Ul hi
 intro r
 induction r with
 |nil=>
  intro k hk hkl hd
  have hle:=Zq hk hd
  have hlt: ¬k<i:=by simp at hle;omega
  have he:k=i:=by omega
  rw[Zi8]
  simp -implicitDefEqProofs [hlt,he]
 |cons x r ih=>
  intro k hk hkl hd
  obtain⟨hg,hlt,hd'⟩:=Zp hk hd
  have hlt:k<i:=by simp at hlt;omega
  rw[WT hk hlt]at hg
  have w1:=w64 (n:=k+1) (by omega)
  have ih:=ih (k+1) (by omega) (by omega) hd'
  have ha:=Za8 x.Name.s y.Name.s (hb x (Y9 hg)) (hb y (Y9 hi))
  rw[Zi8]
  by_cases c:Yl x.Name.s=Yl y.Name.s
  ·simp -implicitDefEqProofs [hlt,hg,hi,ha,c]
  ·simp -implicitDefEqProofs [w1,hlt,hg,hi,ha,c,ih]
theorem Zr{a b c:Int}:inB a b c=false↔a<b∨c<a:=by unfold inB;simp;omega
theorem ZjQ(hs:GL Header)(l:GL ZE)(hl:l.l.length≤16)(hb: ∀f∈l.l,f.Name.s.length≤17592186044416): ∀(r:List ZE) (k:Int),0≤k→k≤l.l.length→l.l.drop k.toNat=r→(orc vp).loop 0 [0,1,5] Zf7 [(0,GL.v 6 Header.v hs),(1,GL.v 3 ZE.v l),(5,.int .i64 k)] []=
 (if YX hs.l.length r ((l.l.take k.toNat).map fun f=>f.Name.s)=0 then some (.brk 0,[(0,GL.v 6 Header.v hs),(1,GL.v 3 ZE.v l),(5,.int .i64 l.l.length),(13,.bool false)],[])
  else some (.ret,[(4,.int .i64 (YX hs.l.length r ((l.l.take k.toNat).map fun f=>f.Name.s)))],[])):=by
 intro r
 induction r with
 |nil=>
  intro k hk hkl hd
  have hle:=Zq hk hd
  obtain⟨hlt,he⟩: ¬k<l.l.length∧k=l.l.length:=by and_intros<;>omega
  rw[Zjr]
  simp -implicitDefEqProofs [hlt,he,YX]
 |cons y r ih=>
  intro k hk hkl hd
  obtain⟨hg,hlt,hd'⟩:=Zp hk hd
  have w1:=w64 (n:=k+1) (by omega)
  have hp:=QF y.Name.s (hb y (Y9 hg))
  have hi:=ZjG (GL.v 6 Header.v hs) l y k hg hl hb _ 0 (by omega) hk rfl
  rw[show(0:Int).toNat=0 from rfl,List.drop_zero]at hi
  have hany:(0≤Vw (Yl y.Name.s) ((l.l.take k.toNat).map fun f=>f.Name.s) 0)↔(l.l.take k.toNat).any (fun x=>decide (Yl x.Name.s=Yl y.Name.s))=true:=by
   rw[Zay _ _ 0 (by omega),List.any_map];rfl
  have ih:=ih (k+1) (by omega) (by omega) hd'
  have ht:((l.l.take (k+1).toNat).map fun f=>f.Name.s)=((l.l.take k.toNat).map fun f=>f.Name.s)++[y.Name.s]:=by
   rw[show(k+1).toNat=k.toNat+1 by omega,List.take_add_one]
   rw[Zh,if_pos hk]at hg
   simp[hg]
  rw[ht]at ih
  have hst:YX hs.l.length (y::r) ((l.l.take k.toNat).map fun f=>f.Name.s)=if YB y.Name.s=false then 4 else if 0≤Vw (Yl y.Name.s) ((l.l.take k.toNat).map fun f=>f.Name.s) 0 then 6 else if inB y.Header.n 0 (hs.l.length-1)=false then 5 else if inB y.Depth.n 0 4=false then 7 else YX hs.l.length r (((l.l.take k.toNat).map fun f=>f.Name.s)++[y.Name.s]):=rfl
  generalize (l.l.take k.toNat).map (fun f=>f.Name.s)=ns at*
  generalize (l.l.take k.toNat).any (fun x=>decide (Yl x.Name.s=Yl y.Name.s))=dup at*
  rw[hst,Zjr]
  cases c1:YB y.Name.s with
  |false=>
   rw[c1]at hp
   simp -implicitDefEqProofs [hlt,hg,hp]
  |true=>
   rw[c1]at hp
   by_cases c2:dup=true
   ·rw[if_pos c2]at hi
    have c3:=hany.2 c2
    simp -implicitDefEqProofs [hlt,hg,hp,hi,c3]
   ·rw[if_neg c2]at hi
    have c3: ¬0≤Vw (Yl y.Name.s) ns 0:=fun e=>c2 (hany.1 e)
    by_cases d1:y.Header.n<0
    ·have e:inB y.Header.n 0 (hs.l.length-1)=false:=Zr.2 (.inl d1)
     simp -implicitDefEqProofs [hlt,hg,hp,hi,c3,d1,e]
    ·by_cases d2:(hs.l.length:Int)≤y.Header.n
     ·have e:inB y.Header.n 0 (hs.l.length-1)=false:=Zr.2 (.inr (by omega))
      simp -implicitDefEqProofs [hlt,hg,hp,hi,c3,d1,d2,e]
     ·have e:inB y.Header.n 0 (hs.l.length-1)=true:=by unfold inB;simp;omega
      by_cases d3:y.Depth.n<0
      ·have e2:inB y.Depth.n 0 4=false:=Zr.2 (.inl d3)
       simp -implicitDefEqProofs [hlt,hg,hp,hi,c3,d1,d2,d3,e,e2]
      ·by_cases d4:4<y.Depth.n
       ·have e2:inB y.Depth.n 0 4=false:=Zr.2 (.inr d4)
        simp -implicitDefEqProofs [hlt,hg,hp,hi,c3,d1,d2,d3,d4,e,e2]
       ·have e2:inB y.Depth.n 0 4=true:=by unfold inB;simp;omega
        simp -implicitDefEqProofs [hlt,hg,hp,hi,c3,d1,d2,d3,d4,e,e2,w1,ih]
theorem Zlk(hs:GL Header)(l:GL ZE)(hb:l.l.length≤16→∀f∈l.l,f.Name.s.length≤17592186044416):Zc vp 820 [GL.v 6 Header.v hs,GL.v 3 ZE.v l]=some (.int .i64 (U3 hs.l.length l.l)):=by
 rw[Za ZvX]
 by_cases c1:16<l.l.length
 ·have c1':(16:Int)<l.l.length:=by omega
  simp -implicitDefEqProofs [c1,c1',U3]
 ·have c1': ¬(16:Int)<l.l.length:=by omega
  have hl:=ZjQ hs l (by omega) (hb (by omega)) l.l 0 (by omega) (by omega) rfl
  simp only[show(0:Int).toNat=0 from rfl,List.take_zero,List.map_nil]at hl
  by_cases c2:YX hs.l.length l.l []=0
  ·rw[if_pos c2]at hl
   have hle:=l.le
   have hsl:=Zal l (by omega)
   have hlen:=ZbQ 0 l.l
   generalize Wy 0 l.l=sp at*
   by_cases c3:32<Yp l.l
   ·have c3':(32:Int)<sp.length:=by omega
    simp -implicitDefEqProofs [c1,c1',c2,hl,U3,hsl,c3,c3']
   ·have c3': ¬(32:Int)<sp.length:=by omega
    simp -implicitDefEqProofs [c1,c1',c2,hl,U3,hsl,c3,c3']
  ·rw[if_neg c2]at hl
   simp -implicitDefEqProofs [c1,c1',c2,hl,U3]
end Go.VE.Un
