/- Joined texts: CkM, CkN, CkO, CtG, CkP, CrI. No condition: what each theorem needs stands in it. -/
import Derived.Test.YtieifgngaaccmaaGreatCc9
import Derived.Test.YtieifgngaaccmaaGreatCc1
import Derived.Test.YtieifgngaaccmaaGreatCc8
namespace Go.VE.Un
open Go.VE
theorem callR_in(m:Image)(l:List I64): ∀(r:List I64) (k:Int),callR m l r k=0→∀x∈r,0≤x.n∧x.n<m.Actions.l.length
 |[],_,_,x,hx=>by simp at hx
 |y::r,k,h,x,hx=>by
  simp only[callR]at h
  split at h
  ·simp at h
  ·rename_i h1
   split at h
   ·simp at h
   ·rcases List.mem_cons.1 hx with rfl|hx
    ·simp[inB]at h1;omega
    ·exact callR_in m l r _ h x hx
def tabA(m:Image)(i:Int)(t:Table)(b c:Bool):Int:=
 firstE [titledE (nTables m) i,wantE (decide (0≤t.Kind.n)&&decide (t.Kind.n≤3)) 10,wantE b 5,keyE m t.Keys.l false,callsE m t.Actions.l,wantE c 16]
def tabT(m:Image)(i:Int)(t:Table)(b c:Bool):Int:=
 if tabA m i t b c=0 then firstE [argsE m t.Default.Action.n t.Default.Args.l,wantE (decide (1≤t.Size.n)&&decide (t.Size.n≤256)) 7]else tabA m i t b c
def tableE(m:Image)(i:Int):Int:=match getI m.Tables.l i with|none=>0|some t=>tabT m i t (decide (0<t.Keys.l.length)) (decide (t.Default.Action.n∈t.Actions.l.map (·.n)))
theorem cl_tables{m:Image}(hm:Clo m):closedB (GL.v 7 Table.v m.Tables)=true:=by
 simp only[Clo,Image.closed,Bool.and_eq_true]at hm;simp[hm]
theorem firstE_all: ∀{l:List Int},firstE l=0→∀x∈l,x=0
 |[],_,x,hx=>by simp at hx
 |a::r,h,x,hx=>by
  simp only[firstE]at h;split at h
  ·rename_i h1;rcases List.mem_cons.1 hx with rfl|hx
   ·exact h1
   ·exact firstE_all h x hx
  ·omega
theorem tab_has{m:Image}{i:Int}{t:Table}{b c:Bool}(hc:c=decide (t.Default.Action.n∈t.Actions.l.map (·.n)))(h:tabA m i t b c=0): ∃a,getI m.Actions.l t.Default.Action.n=some a:=by
 have h1:=firstE_all h (callsE m t.Actions.l) (by simp)
 have h2:=firstE_all h (wantE c 16) (by simp)
 have hc1:c=true:=by unfold wantE at h2;split at h2;assumption;omega
 rw[hc1]at hc
 have hmem:=of_decide_eq_true hc.symm
 unfold callsE at h1
 split at h1
 ·omega
 ·split at h1
  ·rename_i hr
   simp only[List.mem_map]at hmem
   obtain⟨x,hx,hxe⟩:=hmem
   have:=callR_in m _ _ _ hr x hx
   rcases getI_cases m.Actions.l t.Default.Action.n with⟨a,_,_,hg⟩|⟨hg,_⟩
   ·exact⟨a,hg⟩
   ·omega
  ·omega
set_option maxHeartbeats 4000000 in
set_option maxRecDepth 100000 in
theorem table141(m:Image)(hm:Clo m)(hs:Small m)(i:Int){t:Table}(h:getI m.Tables.l i=some t):callRO vp 141 [chkV m,.int .i64 i]=some (.int .i64 (tableE m i)):=by
 have hc:=closed_get (cl_tables hm) h
 simp only[Table.closed,Bool.and_eq_true]at hc
 have ht:=titled142 m hs i h
 have hk:=key121 m hm t.Keys false
 have hcl:=calls112 m t.Actions
 have hcn:=contains1169 t.Default.Action.n t.Actions
 have hr:tableE m i=tabT m i t (decide (0<t.Keys.l.length)) (decide (t.Default.Action.n∈t.Actions.l.map (·.n))):=by simp only[tableE,h]
 rw[callRO_K fn141,hr]
 have hb: ∀b,decide (0<t.Keys.l.length)=b→(0<t.Keys.l.length)=(b=true)∧((0:Int)<t.Keys.l.length)=(b=true):=fun b e=>by
  subst e;simp
 generalize hbe:decide (0<t.Keys.l.length)=b
 obtain⟨b1,b2⟩:=hb b hbe
 have hh:=fun h=>tab_has (m:=m) (i:=i) (t:=t) (b:=b) (c:=decide (t.Default.Action.n∈t.Actions.l.map (·.n))) rfl h
 generalize decide (t.Default.Action.n∈t.Actions.l.map (·.n))=c at hcn hh⊢
 by_cases ca:tabA m i t b c=0
 ·obtain⟨a,hA⟩:=hh ca
  have har:=args111 m t.Default.Action.n hA t.Default.Args
  unfold tabA at ca
  cases b<;>simp -implicitDefEqProofs [h,hc,pureOp,ht,hk,hcl,hcn,b1,b2,ca,har,tabT,tabA]
 ·unfold tabA at ca
  cases b<;>simp -implicitDefEqProofs [h,hc,pureOp,ht,hk,hcl,hcn,b1,b2,ca,tabT,tabA]
end Go.VE.Un
namespace Go.VE.Un
open Go.VE
def partE(m:Image)(p:Int):Int ×Int:=
 if p=0 then(0,firstE [wantE (mayN m.Name.s) 4,wantE (inB m.Ports.n 1 64&&(inB m.Depth.n 1 32&&inB m.Rounds.n 0 4)) 7])
 else if p=2 then(0,mayI m.Headers.l.length m.Insts.l)
 else if p=4 then(if m.States.l.length=0 then(0,5)else allE m.States.l.length 16 (stateE m))
 else if p=7 then nodesE m m.Ingress.l else if p=8 then nodesE m m.Egress.l else if p=10 then sumsE m m.Checks.l else if p=11 then sumsE m m.Updates.l
 else if p=1 then allE m.Headers.l.length 16 (headerE m)
 else if p=3 then allE m.Metas.l.length 16 (metaE m)
 else if p=5 then allE m.Actions.l.length 32 (actionE m)
 else if p=6 then allE m.Tables.l.length 8 (tableE m)
 else if p=9 then allE m.Deparse.l.length 32 (outE m)
 else if p=12 then allE m.Regs.l.length 8 (regE m)
 else if p=13 then allE m.Counters.l.length 8 (counterE m)
 else if p=14 then allE m.Meters.l.length 8 (meterE m)
 else(0,0)
theorem all_1(m:Image)(hm:Clo m)(hs:Small m):callRO vp 501 [.int .i64 m.Headers.l.length,.int .i64 16,.func 118 [chkV m] []]=some (.tup [.int .i64 (allE m.Headers.l.length 16 (headerE m)).1,.int .i64 (allE m.Headers.l.length 16 (headerE m)).2]):=by
 have hle:=m.Headers.le
 exact all501 118 [chkV m] [] fn118 rfl rfl (by simp) rfl m.Headers.l.length 16 (by omega) (by omega) (headerE m) (fun _ i h0 h1=>by
  rcases getI_cases m.Headers.l i with⟨x,_,_,hg⟩|⟨hg,_⟩
  ·exact header118 m hs i hg
  ·omega)
theorem all_3(m:Image)(hm:Clo m)(hs:Small m):callRO vp 501 [.int .i64 m.Metas.l.length,.int .i64 16,.func 122 [chkV m] []]=some (.tup [.int .i64 (allE m.Metas.l.length 16 (metaE m)).1,.int .i64 (allE m.Metas.l.length 16 (metaE m)).2]):=by
 have hle:=m.Metas.le
 exact all501 122 [chkV m] [] fn122 rfl rfl (by simp) rfl m.Metas.l.length 16 (by omega) (by omega) (metaE m) (fun _ i h0 h1=>by
  rcases getI_cases m.Metas.l i with⟨x,_,_,hg⟩|⟨hg,_⟩
  ·exact meta122 m hs i hg
  ·omega)
theorem all_4(m:Image)(hm:Clo m)(hs:Small m)(hI:(4:Int)=4→Deep m):callRO vp 501 [.int .i64 m.States.l.length,.int .i64 16,.func 137 [chkV m] []]=some (.tup [.int .i64 (allE m.States.l.length 16 (stateE m)).1,.int .i64 (allE m.States.l.length 16 (stateE m)).2]):=by
 have hle:=m.States.le
 exact all501 137 [chkV m] [] fn137 rfl rfl (by simp) rfl m.States.l.length 16 (by omega) (by omega) (stateE m) (fun _ i h0 h1=>by
  rcases getI_cases m.States.l i with⟨x,_,_,hg⟩|⟨hg,_⟩
  ·exact state137 m hm (hI rfl) hs i hg
  ·omega)
theorem all_5(m:Image)(hm:Clo m)(hs:Small m):callRO vp 501 [.int .i64 m.Actions.l.length,.int .i64 32,.func 109 [chkV m] []]=some (.tup [.int .i64 (allE m.Actions.l.length 32 (actionE m)).1,.int .i64 (allE m.Actions.l.length 32 (actionE m)).2]):=by
 have hle:=m.Actions.le
 exact all501 109 [chkV m] [] fn109 rfl rfl (by simp) rfl m.Actions.l.length 32 (by omega) (by omega) (actionE m) (fun _ i h0 h1=>by
  rcases getI_cases m.Actions.l i with⟨x,_,_,hg⟩|⟨hg,_⟩
  ·exact action109 m hm hs i hg
  ·omega)
theorem all_6(m:Image)(hm:Clo m)(hs:Small m):callRO vp 501 [.int .i64 m.Tables.l.length,.int .i64 8,.func 141 [chkV m] []]=some (.tup [.int .i64 (allE m.Tables.l.length 8 (tableE m)).1,.int .i64 (allE m.Tables.l.length 8 (tableE m)).2]):=by
 have hle:=m.Tables.le
 exact all501 141 [chkV m] [] fn141 rfl rfl (by simp) rfl m.Tables.l.length 8 (by omega) (by omega) (tableE m) (fun _ i h0 h1=>by
  rcases getI_cases m.Tables.l i with⟨x,_,_,hg⟩|⟨hg,_⟩
  ·exact table141 m hm hs i hg
  ·omega)
theorem all_9(m:Image)(hm:Clo m)(hs:Small m):callRO vp 501 [.int .i64 m.Deparse.l.length,.int .i64 32,.func 132 [chkV m] []]=some (.tup [.int .i64 (allE m.Deparse.l.length 32 (outE m)).1,.int .i64 (allE m.Deparse.l.length 32 (outE m)).2]):=by
 have hle:=m.Deparse.le
 exact all501 132 [chkV m] [] fn132 rfl rfl (by simp) rfl m.Deparse.l.length 32 (by omega) (by omega) (outE m) (fun _ i h0 h1=>by
  rcases getI_cases m.Deparse.l i with⟨x,_,_,hg⟩|⟨hg,_⟩
  ·exact out132 m hm i hg
  ·omega)
theorem all_12(m:Image)(hm:Clo m)(hs:Small m):callRO vp 501 [.int .i64 m.Regs.l.length,.int .i64 8,.func 135 [chkV m] []]=some (.tup [.int .i64 (allE m.Regs.l.length 8 (regE m)).1,.int .i64 (allE m.Regs.l.length 8 (regE m)).2]):=by
 have hle:=m.Regs.le
 exact all501 135 [chkV m] [] fn135 rfl rfl (by simp) rfl m.Regs.l.length 8 (by omega) (by omega) (regE m) (fun _ i h0 h1=>by
  rcases getI_cases m.Regs.l i with⟨x,_,_,hg⟩|⟨hg,_⟩
  ·exact reg135 m hs i hg
  ·omega)
theorem all_13(m:Image)(hm:Clo m)(hs:Small m):callRO vp 501 [.int .i64 m.Counters.l.length,.int .i64 8,.func 115 [chkV m] []]=some (.tup [.int .i64 (allE m.Counters.l.length 8 (counterE m)).1,.int .i64 (allE m.Counters.l.length 8 (counterE m)).2]):=by
 have hle:=m.Counters.le
 exact all501 115 [chkV m] [] fn115 rfl rfl (by simp) rfl m.Counters.l.length 8 (by omega) (by omega) (counterE m) (fun _ i h0 h1=>by
  rcases getI_cases m.Counters.l i with⟨x,_,_,hg⟩|⟨hg,_⟩
  ·exact counter115 m hs i hg
  ·omega)
theorem all_14(m:Image)(hm:Clo m)(hs:Small m):callRO vp 501 [.int .i64 m.Meters.l.length,.int .i64 8,.func 124 [chkV m] []]=some (.tup [.int .i64 (allE m.Meters.l.length 8 (meterE m)).1,.int .i64 (allE m.Meters.l.length 8 (meterE m)).2]):=by
 have hle:=m.Meters.le
 exact all501 124 [chkV m] [] fn124 rfl rfl (by simp) rfl m.Meters.l.length 8 (by omega) (by omega) (meterE m) (fun _ i h0 h1=>by
  rcases getI_cases m.Meters.l i with⟨x,_,_,hg⟩|⟨hg,_⟩
  ·exact meter124 m hs i hg
  ·omega)
set_option maxHeartbeats 2000000 in
set_option maxRecDepth 100000 in
theorem part133_0(m:Image)(hm:Clo m)(hs:Small m):callRO vp 133 [chkV m,.int .i64 0]=some (.tup [.int .i64 (partE m 0).1,.int .i64 (partE m 0).2]):=by
 have hc:=hm
 simp only[Clo,Image.closed,Bool.and_eq_true]at hc
 rw[callRO_K fn133]
 have hn:=m.Name.le
 have hp:partE m 0=(0,firstE [wantE (mayN m.Name.s) 4,wantE (inB m.Ports.n 1 64&&(inB m.Depth.n 1 32&&inB m.Rounds.n 0 4)) 7]):=by unfold partE;rw[if_pos rfl]
 rw[hp]
 by_cases c1:(decide (1≤m.Ports.n)&&decide (m.Ports.n≤64))=true
 ·by_cases c2:(decide (1≤m.Depth.n)&&decide (m.Depth.n≤32))=true
  ·simp -implicitDefEqProofs [nilchk_m m,hc,hn,c1,c2,inB,pureOp]
  ·simp only[Bool.not_eq_true]at c2
   simp -implicitDefEqProofs [nilchk_m m,hc,hn,c1,c2,inB,pureOp]
 ·simp only[Bool.not_eq_true]at c1
  simp -implicitDefEqProofs [nilchk_m m,hc,hn,c1,inB,pureOp]
set_option maxHeartbeats 2000000 in
set_option maxRecDepth 100000 in
theorem part133_1(m:Image)(hm:Clo m)(hs:Small m):callRO vp 133 [chkV m,.int .i64 1]=some (.tup [.int .i64 (partE m 1).1,.int .i64 (partE m 1).2]):=by
 have hc:=hm
 simp only[Clo,Image.closed,Bool.and_eq_true]at hc
 rw[callRO_K fn133]
 have ha:=all_1 m hm hs
 simp -implicitDefEqProofs [nilchk_m m,hc,ha,partE]
set_option maxHeartbeats 2000000 in
set_option maxRecDepth 100000 in
theorem part133_2(m:Image)(hm:Clo m)(hs:Small m):callRO vp 133 [chkV m,.int .i64 2]=some (.tup [.int .i64 (partE m 2).1,.int .i64 (partE m 2).2]):=by
 have hc:=hm
 simp only[Clo,Image.closed,Bool.and_eq_true]at hc
 rw[callRO_K fn133]
 have hi:=insts640 m.Headers m.Insts hs.ins
 simp -implicitDefEqProofs [nilchk_m m,hc,hi,partE]
set_option maxHeartbeats 2000000 in
set_option maxRecDepth 100000 in
theorem part133_3(m:Image)(hm:Clo m)(hs:Small m):callRO vp 133 [chkV m,.int .i64 3]=some (.tup [.int .i64 (partE m 3).1,.int .i64 (partE m 3).2]):=by
 have hc:=hm
 simp only[Clo,Image.closed,Bool.and_eq_true]at hc
 rw[callRO_K fn133]
 have ha:=all_3 m hm hs
 simp -implicitDefEqProofs [nilchk_m m,hc,ha,partE]
set_option maxHeartbeats 2000000 in
set_option maxRecDepth 100000 in
theorem part133_4(m:Image)(hm:Clo m)(hs:Small m)(hI:(4:Int)=4→Deep m):callRO vp 133 [chkV m,.int .i64 4]=some (.tup [.int .i64 (partE m 4).1,.int .i64 (partE m 4).2]):=by
 have hc:=hm
 simp only[Clo,Image.closed,Bool.and_eq_true]at hc
 rw[callRO_K fn133]
 have ha:=all_4 m hm hs hI
 have hp:partE m 4=if m.States.l.length=0 then(0,5)else allE m.States.l.length 16 (stateE m):=by simp[partE]
 rw[hp]
 by_cases z:m.States.l=[]
 ·have z':(m.States.l=[])=True:=eq_true z
  rw[if_pos (by rw[z];rfl)]
  simp -implicitDefEqProofs [nilchk_m m,hc,z']
 ·have z':(m.States.l=[])=False:=eq_false z
  rw[if_neg (by simpa using z)]
  simp -implicitDefEqProofs [nilchk_m m,hc,ha,z']
set_option maxHeartbeats 2000000 in
set_option maxRecDepth 100000 in
theorem part133_5(m:Image)(hm:Clo m)(hs:Small m):callRO vp 133 [chkV m,.int .i64 5]=some (.tup [.int .i64 (partE m 5).1,.int .i64 (partE m 5).2]):=by
 have hc:=hm
 simp only[Clo,Image.closed,Bool.and_eq_true]at hc
 rw[callRO_K fn133]
 have ha:=all_5 m hm hs
 simp -implicitDefEqProofs [nilchk_m m,hc,ha,partE]
set_option maxHeartbeats 2000000 in
set_option maxRecDepth 100000 in
theorem part133_6(m:Image)(hm:Clo m)(hs:Small m):callRO vp 133 [chkV m,.int .i64 6]=some (.tup [.int .i64 (partE m 6).1,.int .i64 (partE m 6).2]):=by
 have hc:=hm
 simp only[Clo,Image.closed,Bool.and_eq_true]at hc
 rw[callRO_K fn133]
 have ha:=all_6 m hm hs
 simp -implicitDefEqProofs [nilchk_m m,hc,ha,partE]
set_option maxHeartbeats 2000000 in
set_option maxRecDepth 100000 in
theorem part133_7(m:Image)(hm:Clo m)(hs:Small m):callRO vp 133 [chkV m,.int .i64 7]=some (.tup [.int .i64 (partE m 7).1,.int .i64 (partE m 7).2]):=by
 have hc:=hm
 simp only[Clo,Image.closed,Bool.and_eq_true]at hc
 rw[callRO_K fn133]
 have ha:=nodes129 m hm m.Ingress
 simp -implicitDefEqProofs [nilchk_m m,hc,ha,partE]
set_option maxHeartbeats 2000000 in
set_option maxRecDepth 100000 in
theorem part133_8(m:Image)(hm:Clo m)(hs:Small m):callRO vp 133 [chkV m,.int .i64 8]=some (.tup [.int .i64 (partE m 8).1,.int .i64 (partE m 8).2]):=by
 have hc:=hm
 simp only[Clo,Image.closed,Bool.and_eq_true]at hc
 rw[callRO_K fn133]
 have ha:=nodes129 m hm m.Egress
 simp -implicitDefEqProofs [nilchk_m m,hc,ha,partE]
set_option maxHeartbeats 2000000 in
set_option maxRecDepth 100000 in
theorem part133_9(m:Image)(hm:Clo m)(hs:Small m):callRO vp 133 [chkV m,.int .i64 9]=some (.tup [.int .i64 (partE m 9).1,.int .i64 (partE m 9).2]):=by
 have hc:=hm
 simp only[Clo,Image.closed,Bool.and_eq_true]at hc
 rw[callRO_K fn133]
 have ha:=all_9 m hm hs
 simp -implicitDefEqProofs [nilchk_m m,hc,ha,partE]
set_option maxHeartbeats 2000000 in
set_option maxRecDepth 100000 in
theorem part133_10(m:Image)(hm:Clo m)(hs:Small m):callRO vp 133 [chkV m,.int .i64 10]=some (.tup [.int .i64 (partE m 10).1,.int .i64 (partE m 10).2]):=by
 have hc:=hm
 simp only[Clo,Image.closed,Bool.and_eq_true]at hc
 rw[callRO_K fn133]
 have ha:=sums139 m hm hs m.Checks
 simp -implicitDefEqProofs [nilchk_m m,hc,ha,partE]
set_option maxHeartbeats 2000000 in
set_option maxRecDepth 100000 in
theorem part133_11(m:Image)(hm:Clo m)(hs:Small m):callRO vp 133 [chkV m,.int .i64 11]=some (.tup [.int .i64 (partE m 11).1,.int .i64 (partE m 11).2]):=by
 have hc:=hm
 simp only[Clo,Image.closed,Bool.and_eq_true]at hc
 rw[callRO_K fn133]
 have ha:=sums139 m hm hs m.Updates
 simp -implicitDefEqProofs [nilchk_m m,hc,ha,partE]
set_option maxHeartbeats 2000000 in
set_option maxRecDepth 100000 in
theorem part133_12(m:Image)(hm:Clo m)(hs:Small m):callRO vp 133 [chkV m,.int .i64 12]=some (.tup [.int .i64 (partE m 12).1,.int .i64 (partE m 12).2]):=by
 have hc:=hm
 simp only[Clo,Image.closed,Bool.and_eq_true]at hc
 rw[callRO_K fn133]
 have ha:=all_12 m hm hs
 simp -implicitDefEqProofs [nilchk_m m,hc,ha,partE]
set_option maxHeartbeats 2000000 in
set_option maxRecDepth 100000 in
theorem part133_13(m:Image)(hm:Clo m)(hs:Small m):callRO vp 133 [chkV m,.int .i64 13]=some (.tup [.int .i64 (partE m 13).1,.int .i64 (partE m 13).2]):=by
 have hc:=hm
 simp only[Clo,Image.closed,Bool.and_eq_true]at hc
 rw[callRO_K fn133]
 have ha:=all_13 m hm hs
 simp -implicitDefEqProofs [nilchk_m m,hc,ha,partE]
set_option maxHeartbeats 2000000 in
set_option maxRecDepth 100000 in
theorem part133_14(m:Image)(hm:Clo m)(hs:Small m):callRO vp 133 [chkV m,.int .i64 14]=some (.tup [.int .i64 (partE m 14).1,.int .i64 (partE m 14).2]):=by
 have hc:=hm
 simp only[Clo,Image.closed,Bool.and_eq_true]at hc
 rw[callRO_K fn133]
 have ha:=all_14 m hm hs
 simp -implicitDefEqProofs [nilchk_m m,hc,ha,partE]
end Go.VE.Un
namespace Go.VE.Un
open Go.VE
theorem instsE_deep(n:Int): ∀(l:List Inst) (ns:List (List UInt8)),instsE n l ns=0→∀x∈l,0≤x.Depth.n∧x.Depth.n≤4
 |[],_,_,x,hx=>by simp at hx
 |y::r,ns,h,x,hx=>by
  simp only[instsE]at h
  split at h
  ·simp at h
  ·split at h
   ·simp at h
   ·split at h
    ·simp at h
    ·split at h
     ·simp at h
     ·rename_i h4
      rcases List.mem_cons.1 hx with rfl|hx
      ·simpa[inB]using h4
      ·exact instsE_deep n r _ h x hx
theorem deep_of{m:Image}(h:(partE m 2).2=0):Deep m:=by
 have h:mayI m.Headers.l.length m.Insts.l=0:=by simpa[partE]using h
 unfold mayI at h
 split at h
 ·simp at h
 ·split at h
  ·rename_i h1;exact absurd h h1
  ·rename_i h1;exact instsE_deep _ _ _ (by simpa using h1)
def checkR(m:Image):Nat→Int→Option (Int ×Int ×Int)
 |0,_=>none
 |j+1,p=>if(partE m p).2=0 then checkR m j (p+1)else some (p,(partE m p).1,(partE m p).2)
def checkI(m:Image):Option (Int ×Int ×Int):=checkR m 15 0
theorem part133(m:Image)(hm:Clo m)(hs:Small m)(p:Int)(h0:0≤p)(h1:p<15)(hI:p=4→Deep m):callRO vp 133 [chkV m,.int .i64 p]=some (.tup [.int .i64 (partE m p).1,.int .i64 (partE m p).2]):=by
 have hp:p=0∨p=1∨p=2∨p=3∨p=4∨p=5∨p=6∨p=7∨p=8∨p=9∨p=10∨p=11∨p=12∨p=13∨p=14:=by omega
 rcases hp with rfl|rfl|rfl|rfl|rfl|rfl|rfl|rfl|rfl|rfl|rfl|rfl|rfl|rfl|rfl
 ·exact part133_0 m hm hs
 ·exact part133_1 m hm hs
 ·exact part133_2 m hm hs
 ·exact part133_3 m hm hs
 ·exact part133_4 m hm hs hI
 ·exact part133_5 m hm hs
 ·exact part133_6 m hm hs
 ·exact part133_7 m hm hs
 ·exact part133_8 m hm hs
 ·exact part133_9 m hm hs
 ·exact part133_10 m hm hs
 ·exact part133_11 m hm hs
 ·exact part133_12 m hm hs
 ·exact part133_13 m hm hs
 ·exact part133_14 m hm hs
def flawV(p n e:Int):V:=.agg [.int .i64 p,.int .i64 n,.int .i64 e]
theorem loop481(m:Image)(hm:Clo m)(hs:Small m): ∀(j:Nat) (k:Int),0≤k→k+j=15→(2<k→Deep m)→(orc vp).loop 0 [3,10] L481_0 [(3,.ptr 1 1 0 0),(10,.int .i64 k)] [.arr [m.v],.arr [m.v]]=
 (match checkR m j k with
  |none=>some (.brk 0,[(3,.ptr 1 1 0 0),(10,.int .i64 15),(11,.bool false)],[.arr [m.v],.arr [m.v]])
  |some (p,n,e)=>some (.ret,[(2,.iface 121 (.ptr 2 1 0 0))],[.arr [m.v],.arr [m.v],.arr [flawV p n e]])):=by
 intro j
 induction j with
 |zero=>
  intro k hk hkn _
  have:k=15:=by omega
  subst this
  rw[lp481_0]
  simp -implicitDefEqProofs [checkR]
 |succ j ih=>
  intro k hk hkn hD
  have hlt:k<15:=by omega
  have w1:IntKind.i64.wrap (k+1)=k+1:=wrap64 (by omega) (by omega)
  have hp:=part133 m hm hs k hk hlt (fun h=>hD (by omega))
  rw[lp481_0]
  by_cases c:(partE m k).2=0
  ·have ih:=ih (k+1) (by omega) (by omega) (fun h=>by
    by_cases h2:2<k
    ·exact hD h2
    ·have:k=2:=by omega
     subst this
     exact deep_of c)
   simp -implicitDefEqProofs [hlt,hp,c,w1,ih,checkR]
  ·simp -implicitDefEqProofs [hlt,hp,c,checkR,pureOp,fillV,flawV]
theorem check481(m:Image)(hm:Clo m)(hs:Small m):callRO vp 481 [m.v]=some (match checkI m with|none=>.nili|some (p,n,e)=>.iface 121 (.eptr (flawV p n e) 0 .perm)):=by
 have hl:=loop481 m hm hs 15 0 (by omega) (by omega) (fun h=>by omega)
 have hb: ∀fr,lk fr 7=m.v→pureOp fr (.build [.str [],.sl 6 [] .nl,.sl 3 [] .nl,.sl 2 [] .nl,.sl 5 [] .nl,.sl 3 [] .nl,.sl 7 [] .nl,.sl 6 [] .nl,.sl 6 [] .nl,.sl 1 [] .nl,.sl 2 [] .nl,.sl 2 [] .nl,.sl 3 [] .nl,.sl 2 [] .nl,.sl 4 [] .nl,.int .i64 0,.int .i64 0,.int .i64 0] [(0,18,.t 7)])=some m.v:=fun fr e=>by
  simp only[pureOp,List.map,List.all,opd,e]
  rfl
 rw[callRO_K fn481]
 unfold checkI
 cases hc:checkR m 15 0 with
 |none=>
  rw[hc]at hl
  simp -implicitDefEqProofs [hb,hl]
 |some q=>
  obtain⟨p,n,e⟩:=q
  rw[hc]at hl
  have hf:closedB (flawV p n e)=true:=by simp[flawV]
  simp -implicitDefEqProofs [hb,hl,hf]
end Go.VE.Un
namespace Go.VE.Un
open Go.VE
end Go.VE.Un
namespace Go.VE.Un
open Go.VE
theorem checkR_none{m:Image}: ∀(j:Nat) (p q:Int),checkR m j p=none→p≤q→q<p+j→(partE m q).2=0
 |0,p,q,_,h1,h2=>by omega
 |j+1,p,q,h,h1,h2=>by
  simp only[checkR]at h
  split at h
  ·rename_i h0
   by_cases he:p=q
   ·subst he;exact h0
   ·exact checkR_none j (p+1) q h (by omega) (by omega)
  ·simp at h
theorem check_none{m:Image}(h:checkI m=none)(q:Int)(h0:0≤q)(h1:q<15):(partE m q).2=0:=checkR_none 15 0 q h h0 (by omega)
theorem allR_none{ask:Int→Int}: ∀(j:Nat) (p q:Int),((allR ask j p).getD (0,0)).2=0→p≤q→q<p+j→ask q=0
 |0,p,q,_,h1,h2=>by omega
 |j+1,p,q,h,h1,h2=>by
  simp only[allR]at h
  split at h
  ·rename_i h0
   by_cases he:p=q
   ·subst he;exact h0
   ·exact allR_none j (p+1) q h (by omega) (by omega)
  ·rename_i h0;simp at h;exact absurd h h0
theorem allE_0{n most:Int}{ask:Int→Int}(h:(allE n most ask).2=0):n≤most∧∀i,0≤i→i<n→ask i=0:=by
 unfold allE at h
 split at h
 ·simp at h
 ·exact⟨by omega,fun i h0 h1=>allR_none n.toNat 0 i h h0 (by omega)⟩
theorem stepsE_0{m:Image}{p n:Int}: ∀(l r:List Ins) (k:Int),0≤k→l.drop k.toNat=r→stepsE m p n r k=0→∀i x,k≤i→getI l i=some x→stepE m p n i x=0
 |l,[],k,hk,hd,h,i,x,hi,hg=>by
  have:=drop_nil hk hd
  rcases getI_cases l i with⟨_,_,h1,_⟩|⟨_,h1⟩
  ·omega
  ·rw[h1]at hg;simp at hg
 |l,y::r,k,hk,hd,h,i,x,hi,hg=>by
  obtain⟨hgk,_,hd'⟩:=drop_cons hk hd
  simp only[stepsE]at h
  split at h
  ·rename_i h0
   by_cases he:k=i
   ·subst he;rw[hgk]at hg;simp only[Option.some.injEq]at hg;subst hg;exact h0
   ·exact stepsE_0 l r (k+1) (by omega) hd' h i x (by omega) hg
  ·rename_i h0;exact absurd h h0
theorem mayC_A{x:Ins}(h:mayC x=0){s:Sh}(hs:getI shapes x.Op.n=some s):s.fr≤x.A.n:=by
 unfold mayC at h
 rw[hs]at h
 simp only at h
 split at h
 ·simp at h
 ·rename_i hc
  simp[inB]at hc
  omega
end Go.VE.Un
namespace Go.VE.Un
open Go.VE
theorem loop820_0(hs:V)(l:GL Inst)(y:Inst)(i:Int)(hi:getI l.l i=some y)(hl:l.l.length≤16)(hb: ∀f∈l.l,f.Name.s.length≤17592186044416): ∀(r:List Inst) (k:Int),0≤k→k≤i→(l.l.take i.toNat).drop k.toNat=r→(orc vp).loop 0 [0,1,5,6] L820_0 [(0,hs),(1,GL.v 3 Inst.v l),(5,.int .i64 i),(6,.int .i64 k)] []=
 (if r.any (fun x=>decide (keyL x.Name.s=keyL y.Name.s))=true then some (.ret,[(4,.int .i64 6)],[])else some (.brk 2,[(0,hs),(1,GL.v 3 Inst.v l),(5,.int .i64 i),(6,.int .i64 i),(25,.bool false)],[])):=by
 have hil:=getI_lt hi
 intro r
 induction r with
 |nil=>
  intro k hk hkl hd
  have hle:=drop_nil hk hd
  have hlt: ¬k<i:=by simp at hle;omega
  have he:k=i:=by omega
  rw[lp820_0]
  simp -implicitDefEqProofs [hlt,he]
 |cons x r ih=>
  intro k hk hkl hd
  obtain⟨hg,hlt,hd'⟩:=drop_cons hk hd
  have hlt:k<i:=by simp at hlt;omega
  rw[getI_take hk hlt]at hg
  have w1:IntKind.i64.wrap (k+1)=k+1:=wrap64 (by omega) (by omega)
  have ih:=ih (k+1) (by omega) (by omega) hd'
  have ha:=alike818 x.Name.s y.Name.s (hb x (getI_mem hg)) (hb y (getI_mem hi))
  rw[lp820_0]
  by_cases c:keyL x.Name.s=keyL y.Name.s
  ·simp -implicitDefEqProofs [hlt,hg,hi,ha,c]
  ·simp -implicitDefEqProofs [w1,hlt,hg,hi,ha,c,ih]
theorem inB_split{a b c:Int}:inB a b c=false↔a<b∨c<a:=by unfold inB;simp;omega
theorem loop820_1(hs:GL Header)(l:GL Inst)(hl:l.l.length≤16)(hb: ∀f∈l.l,f.Name.s.length≤17592186044416): ∀(r:List Inst) (k:Int),0≤k→k≤l.l.length→l.l.drop k.toNat=r→(orc vp).loop 0 [0,1,5] L820_1 [(0,GL.v 6 Header.v hs),(1,GL.v 3 Inst.v l),(5,.int .i64 k)] []=
 (if instsE hs.l.length r ((l.l.take k.toNat).map fun f=>f.Name.s)=0 then some (.brk 0,[(0,GL.v 6 Header.v hs),(1,GL.v 3 Inst.v l),(5,.int .i64 l.l.length),(13,.bool false)],[])
  else some (.ret,[(4,.int .i64 (instsE hs.l.length r ((l.l.take k.toNat).map fun f=>f.Name.s)))],[])):=by
 intro r
 induction r with
 |nil=>
  intro k hk hkl hd
  have hle:=drop_nil hk hd
  have hlt: ¬k<l.l.length:=by omega
  have he:k=l.l.length:=by omega
  rw[lp820_1]
  simp -implicitDefEqProofs [hlt,he,instsE]
 |cons y r ih=>
  intro k hk hkl hd
  obtain⟨hg,hlt,hd'⟩:=drop_cons hk hd
  have w1:IntKind.i64.wrap (k+1)=k+1:=wrap64 (by omega) (by omega)
  have hp:=rplain822 y.Name.s (hb y (getI_mem hg))
  have hi:=loop820_0 (GL.v 6 Header.v hs) l y k hg hl hb _ 0 (by omega) hk rfl
  rw[show(0:Int).toNat=0 from rfl,List.drop_zero]at hi
  have hany:(0≤idxK (keyL y.Name.s) ((l.l.take k.toNat).map fun f=>f.Name.s) 0)↔(l.l.take k.toNat).any (fun x=>decide (keyL x.Name.s=keyL y.Name.s))=true:=by
   rw[idxK_any _ _ 0 (by omega),List.any_map];rfl
  have ih:=ih (k+1) (by omega) (by omega) hd'
  have ht:((l.l.take (k+1).toNat).map fun f=>f.Name.s)=((l.l.take k.toNat).map fun f=>f.Name.s)++[y.Name.s]:=by
   rw[show(k+1).toNat=k.toNat+1 by omega,List.take_add_one]
   rw[getI,if_pos hk]at hg
   simp[hg]
  rw[ht]at ih
  have hst:instsE hs.l.length (y::r) ((l.l.take k.toNat).map fun f=>f.Name.s)=if plainN y.Name.s=false then 4 else if 0≤idxK (keyL y.Name.s) ((l.l.take k.toNat).map fun f=>f.Name.s) 0 then 6 else if inB y.Header.n 0 (hs.l.length-1)=false then 5 else if inB y.Depth.n 0 4=false then 7 else instsE hs.l.length r (((l.l.take k.toNat).map fun f=>f.Name.s)++[y.Name.s]):=rfl
  generalize (l.l.take k.toNat).map (fun f=>f.Name.s)=ns at*
  generalize (l.l.take k.toNat).any (fun x=>decide (keyL x.Name.s=keyL y.Name.s))=dup at*
  rw[hst,lp820_1]
  cases c1:plainN y.Name.s with
  |false=>
   rw[c1]at hp
   simp -implicitDefEqProofs [hlt,hg,hp]
  |true=>
   rw[c1]at hp
   by_cases c2:dup=true
   ·rw[if_pos c2]at hi
    have c3:=hany.2 c2
    simp -implicitDefEqProofs [hlt,hg,hp,hi,c3]
   ·rw[if_neg c2]at hi
    have c3: ¬0≤idxK (keyL y.Name.s) ns 0:=fun e=>c2 (hany.1 e)
    by_cases d1:y.Header.n<0
    ·have e:inB y.Header.n 0 (hs.l.length-1)=false:=inB_split.2 (.inl d1)
     simp -implicitDefEqProofs [hlt,hg,hp,hi,c3,d1,e]
    ·by_cases d2:(hs.l.length:Int)≤y.Header.n
     ·have e:inB y.Header.n 0 (hs.l.length-1)=false:=inB_split.2 (.inr (by omega))
      simp -implicitDefEqProofs [hlt,hg,hp,hi,c3,d1,d2,e]
     ·have e:inB y.Header.n 0 (hs.l.length-1)=true:=by unfold inB;simp;omega
      by_cases d3:y.Depth.n<0
      ·have e2:inB y.Depth.n 0 4=false:=inB_split.2 (.inl d3)
       simp -implicitDefEqProofs [hlt,hg,hp,hi,c3,d1,d2,d3,e,e2]
      ·by_cases d4:4<y.Depth.n
       ·have e2:inB y.Depth.n 0 4=false:=inB_split.2 (.inr d4)
        simp -implicitDefEqProofs [hlt,hg,hp,hi,c3,d1,d2,d3,d4,e,e2]
       ·have e2:inB y.Depth.n 0 4=true:=by unfold inB;simp;omega
        simp -implicitDefEqProofs [hlt,hg,hp,hi,c3,d1,d2,d3,d4,e,e2,w1,ih]
theorem rinsts820(hs:GL Header)(l:GL Inst)(hb:l.l.length≤16→∀f∈l.l,f.Name.s.length≤17592186044416):callRO vp 820 [GL.v 6 Header.v hs,GL.v 3 Inst.v l]=some (.int .i64 (mayI hs.l.length l.l)):=by
 rw[callRO_K fn820]
 by_cases c1:16<l.l.length
 ·have c1':(16:Int)<l.l.length:=by omega
  simp -implicitDefEqProofs [c1,c1',mayI]
 ·have c1': ¬(16:Int)<l.l.length:=by omega
  have hl:=loop820_1 hs l (by omega) (hb (by omega)) l.l 0 (by omega) (by omega) rfl
  simp only[show(0:Int).toNat=0 from rfl,List.take_zero,List.map_nil]at hl
  by_cases c2:instsE hs.l.length l.l []=0
  ·rw[if_pos c2]at hl
   have hle:=l.le
   have hsl:=slots823 l (by omega)
   have hlen:=slotP_len 0 l.l
   generalize slotP 0 l.l=sp at*
   by_cases c3:32<slotsN l.l
   ·have c3':(32:Int)<sp.length:=by omega
    simp -implicitDefEqProofs [c1,c1',c2,hl,mayI,hsl,c3,c3']
   ·have c3': ¬(32:Int)<sp.length:=by omega
    simp -implicitDefEqProofs [c1,c1',c2,hl,mayI,hsl,c3,c3']
  ·rw[if_neg c2]at hl
   simp -implicitDefEqProofs [c1,c1',c2,hl,mayI]
end Go.VE.Un
