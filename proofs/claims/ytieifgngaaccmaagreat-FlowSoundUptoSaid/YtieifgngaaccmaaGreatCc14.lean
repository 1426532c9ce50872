/- Joined texts: CrR, CfE, CfA. No condition: what each theorem needs stands in it. -/
import Derived.Test.YtieifgngaaccmaaGreatCc13
import Derived.Test.YtieifgngaaccmaaGreatCc10
import Derived.Test.YtieifgngaaccmaaGreatVc0
namespace Go.VE.Un
open Go.VE
theorem buildMost(fr:Fr):pureOp fr (.buildSl 1 [.c (.int .i64 0),.c (.int .i64 16),.c (.int .i64 0),.c (.int .i64 16),.c (.int .i64 16),.c (.int .i64 32),.c (.int .i64 8),.c (.int .i64 0),.c (.int .i64 0),.c (.int .i64 0),.c (.int .i64 0),.c (.int .i64 0),.c (.int .i64 8),.c (.int .i64 8),.c (.int .i64 8)])=some (.sl 1 [.int .i64 0,.int .i64 16,.int .i64 0,.int .i64 16,.int .i64 16,.int .i64 32,.int .i64 8,.int .i64 0,.int .i64 0,.int .i64 0,.int .i64 0,.int .i64 0,.int .i64 8,.int .i64 8,.int .i64 8] .ce):=rfl
theorem heads_of{m:Image}(h:(partE m 2).2=0):Heads m:=by
 have h:mayI m.Headers.l.length m.Insts.l=0:=by simpa[partE]using h
 unfold mayI at h
 split at h
 ·simp at h
 ·split at h
  ·rename_i h1;exact absurd h h1
  ·rename_i h1
   have go: ∀(l:List Inst) (ns:List (List UInt8)),instsE m.Headers.l.length l ns=0→∀x∈l,0≤x.Header.n∧x.Header.n<m.Headers.l.length:=by
    intro l
    induction l with
    |nil=>intro ns _ x hx;simp at hx
    |cons y r ih=>
     intro ns h x hx
     simp only[instsE]at h
     split at h
     ·simp at h
     ·split at h
      ·simp at h
      ·split at h
       ·simp at h
       ·rename_i h3
        split at h
        ·simp at h
        ·rcases List.mem_cons.1 hx with rfl|hx
         ·simp[inB]at h3;omega
         ·exact ih _ h x hx
   exact go m.Insts.l [] (by simpa using h1)
theorem hdrOK_of{m:Image}(h:(partE m 1).2=0):HdrOK m:=by
 have h:(allE m.Headers.l.length 16 (headerE m)).2=0:=by simpa[partE]using h
 have hh:=(allE_0 h).2
 intro x hx
 obtain⟨i,hi,he⟩:=List.getElem_of_mem hx
 have:=hh i (by omega) (by omega)
 unfold headerE at this
 rw[getI_nat,List.getElem?_eq_getElem hi,he]at this
 simp only at this
 split at this
 ·assumption
 ·rename_i h2;exact absurd this h2
theorem nm_len(l:List GS):(nm l).length=l.length:=by simp[nm]
theorem nm_small{m:Image}(hT:Tiny m)(p:Int):(nm (titles m p)).length≤17592186044416∧∀x∈nm (titles m p),x.length≤17592186044416:=by
 refine⟨?_,fun x hx=> ?_⟩
 ·rw[nm_len];have:=titles_len hT.held p;omega
 ·obtain⟨y,hy,rfl⟩:=List.mem_map.1 hx;exact hT.titles p y hy
section
variable (m : Image) (hm : Clo m) (hT : Tiny m)
include hT in
theorem part843_0:callRO vp 843 [m.v,.int .i64 0]=some (.tup [.int .i64 (partE m 0).1,.int .i64 (partE m 0).2]):=by
 have hn:=may805 m.Name.s hT.name
 have hp:partE m 0=(0,firstE [wantE (mayN m.Name.s) 4,wantE (inB m.Ports.n 1 64&&(inB m.Depth.n 1 32&&inB m.Rounds.n 0 4)) 7]):=by unfold partE;rw[if_pos rfl]
 rw[hp,callRO_K fn843]
 cases c0:mayN m.Name.s with
 |false=>
  rw[c0]at hn
  simp -implicitDefEqProofs [hn,firstE,wantE]
 |true=>
  rw[c0]at hn
  by_cases p1:m.Ports.n<1
  ·rw[inB_split.2 (.inl p1)];simp -implicitDefEqProofs [hn,firstE,wantE,p1]
  by_cases p2:64<m.Ports.n
  ·rw[inB_split.2 (.inr p2)];simp -implicitDefEqProofs [hn,firstE,wantE,p1,p2]
  have e1:inB m.Ports.n 1 64=true:=by unfold inB;simp;omega
  rw[e1]
  by_cases d1:m.Depth.n<1
  ·rw[inB_split.2 (.inl d1)];simp -implicitDefEqProofs [hn,firstE,wantE,p1,p2,d1]
  by_cases d2:32<m.Depth.n
  ·rw[inB_split.2 (.inr d2)];simp -implicitDefEqProofs [hn,firstE,wantE,p1,p2,d1,d2]
  have e2:inB m.Depth.n 1 32=true:=by unfold inB;simp;omega
  rw[e2]
  by_cases r1:m.Rounds.n<0
  ·rw[inB_split.2 (.inl r1)];simp -implicitDefEqProofs [hn,firstE,wantE,p1,p2,d1,d2,r1]
  by_cases r2:4<m.Rounds.n
  ·rw[inB_split.2 (.inr r2)];simp -implicitDefEqProofs [hn,firstE,wantE,p1,p2,d1,d2,r1,r2]
  have e3:inB m.Rounds.n 0 4=true:=by unfold inB;simp;omega
  rw[e3]
  simp -implicitDefEqProofs [hn,firstE,wantE,p1,p2,d1,d2,r1,r2]
include hT in
theorem part843_2:callRO vp 843 [m.v,.int .i64 2]=some (.tup [.int .i64 (partE m 2).1,.int .i64 (partE m 2).2]):=by
 have hi:=rinsts820 m.Headers m.Insts hT.ins
 have hp:partE m 2=(0,mayI m.Headers.l.length m.Insts.l):=by simp[partE]
 rw[hp,callRO_K fn843]
 simp -implicitDefEqProofs [hi]
include hm hT in
theorem part843_9:callRO vp 843 [m.v,.int .i64 9]=some (.tup [.int .i64 (partE m 9).1,.int .i64 (partE m 9).2]):=by
 obtain⟨h,hl⟩:=loop843_2 m hm hT.insts m.Deparse.l.length 0 (by omega) (by omega)
 have hp:partE m 9=allE m.Deparse.l.length 32 (outE m):=by simp[partE]
 rw[hp,callRO_K fn843]
 unfold allE
 rw[show((m.Deparse.l.length:Nat):Int).toNat=m.Deparse.l.length from rfl]
 generalize allR (outE m) m.Deparse.l.length 0=A at*
 by_cases c:(32:Int)<m.Deparse.l.length
 ·rw[if_pos c];simp -implicitDefEqProofs [c]
 ·rw[if_neg c]
  cases A with
  |none=>simp -implicitDefEqProofs [c,hl]
  |some q=>simp -implicitDefEqProofs [c,hl]
include hm hT in
theorem part843_7:callRO vp 843 [m.v,.int .i64 7]=some (.tup [.int .i64 (partE m 7).1,.int .i64 (partE m 7).2]):=by
 have hn:=rnodes842 m hm hT.insts m.Ingress
 have hp:partE m 7=nodesE m m.Ingress.l:=by simp[partE]
 rw[hp,callRO_K fn843]
 simp -implicitDefEqProofs [hn]
include hm hT in
theorem part843_8:callRO vp 843 [m.v,.int .i64 8]=some (.tup [.int .i64 (partE m 8).1,.int .i64 (partE m 8).2]):=by
 have hn:=rnodes842 m hm hT.insts m.Egress
 have hp:partE m 8=nodesE m m.Egress.l:=by simp[partE]
 rw[hp,callRO_K fn843]
 simp -implicitDefEqProofs [hn]
include hm hT in
theorem part843_10(hH:HdrOK m):callRO vp 843 [m.v,.int .i64 10]=some (.tup [.int .i64 (partE m 10).1,.int .i64 (partE m 10).2]):=by
 have hn:=rsums846 m hm hT.insts hH m.Checks
 have hp:partE m 10=sumsE m m.Checks.l:=by simp[partE]
 rw[hp,callRO_K fn843]
 simp -implicitDefEqProofs [hn]
include hm hT in
theorem part843_11(hH:HdrOK m):callRO vp 843 [m.v,.int .i64 11]=some (.tup [.int .i64 (partE m 11).1,.int .i64 (partE m 11).2]):=by
 have hn:=rsums846 m hm hT.insts hH m.Updates
 have hp:partE m 11=sumsE m m.Updates.l:=by simp[partE]
 rw[hp,callRO_K fn843]
 simp -implicitDefEqProofs [hn]
include hT in
theorem part843_1:callRO vp 843 [m.v,.int .i64 1]=some (.tup [.int .i64 (partE m 1).1,.int .i64 (partE m 1).2]):=by
 have ht:=titles836 m 1 hT.held
 obtain⟨hn,hb⟩:=nm_small hT 1
 have hns:nm (titles m 1)=nHeaders m:=by simp[nm,titles,nHeaders]
 rw[nm_str,hns]at ht
 rw[hns]at hn hb
 have hlen:(nHeaders m).length=m.Headers.l.length:=by simp[nHeaders]
 have hl:=loop843_h m hT (nHeaders m) rfl .perm hn hb (nHeaders m).length 0 (by omega) (by omega)
 have hp:partE m 1=allE m.Headers.l.length 16 (headerE m):=by simp[partE]
 have hg:iaddrV 1 (.sl 1 [.int .i64 0,.int .i64 16,.int .i64 0,.int .i64 16,.int .i64 16,.int .i64 32,.int .i64 8,.int .i64 0,.int .i64 0,.int .i64 0,.int .i64 0,.int .i64 0,.int .i64 8,.int .i64 8,.int .i64 8] .ce) (.int .i64 1)=some (.eptr (.int .i64 16) 0 .ce):=rfl
 rw[hp,callRO_K fn843]
 unfold allE
 rw[hlen]at hl
 rw[show((m.Headers.l.length:Nat):Int).toNat=m.Headers.l.length from rfl]
 generalize allR (headerE m) m.Headers.l.length 0=A at*
 have hsl:((nHeaders m).map V.str).length=m.Headers.l.length:=by simp[nHeaders]
 have hbl:belowL 0 ((nHeaders m).map V.str)=true:=strs_below _ _
 generalize (nHeaders m).map V.str=sl at*
 by_cases c:(16:Int)<m.Headers.l.length
 ·rw[if_pos c]
  simp -implicitDefEqProofs [ht,hsl,hbl,buildMost,hg,c]
 ·rw[if_neg c]
  cases A with
  |none=>simp -implicitDefEqProofs [ht,hsl,hbl,buildMost,hg,c,hl]
  |some q=>simp -implicitDefEqProofs [ht,hsl,hbl,buildMost,hg,c,hl]
include hT in
theorem part843_3:callRO vp 843 [m.v,.int .i64 3]=some (.tup [.int .i64 (partE m 3).1,.int .i64 (partE m 3).2]):=by
 have ht:=titles836 m 3 hT.held
 obtain⟨hn,hb⟩:=nm_small hT 3
 have hns:nm (titles m 3)=nMetas m:=by simp[nm,titles,nMetas]
 rw[nm_str,hns]at ht
 rw[hns]at hn hb
 have hlen:(nMetas m).length=m.Metas.l.length:=by simp[nMetas]
 have get: ∀i:Int,0≤i→i<(nMetas m).length→∃x,getI m.Metas.l i=some x:=fun i h0 h1=>by
  rcases getI_cases m.Metas.l i with⟨x,_,_,hg⟩|⟨h,_⟩
  ·exact⟨x,hg⟩
  ·omega
 have hl:=loop843_0 m 3 (by omega) (nMetas m) .perm hn hb (fun i=>match getI m.Metas.l i with|some x=>wantE (inB x.W.n 1 128) 9|none=>0)
  (fun i h0 h1=>by obtain⟨x,hg⟩:=get i h0 h1;have:=thing848_3 m i hg;rw[this,hg])
  (metaE m) (fun i h0 h1=>by obtain⟨x,hg⟩:=get i h0 h1;rw[metaE_eq m hg,hg]) (nMetas m).length 0 (by omega) (by omega)
 have hp:partE m 3=allE m.Metas.l.length 16 (metaE m):=by simp[partE]
 have hg:iaddrV 1 (.sl 1 [.int .i64 0,.int .i64 16,.int .i64 0,.int .i64 16,.int .i64 16,.int .i64 32,.int .i64 8,.int .i64 0,.int .i64 0,.int .i64 0,.int .i64 0,.int .i64 0,.int .i64 8,.int .i64 8,.int .i64 8] .ce) (.int .i64 3)=some (.eptr (.int .i64 16) 0 .ce):=rfl
 rw[hp,callRO_K fn843]
 unfold allE
 rw[hlen]at hl
 rw[show((m.Metas.l.length:Nat):Int).toNat=m.Metas.l.length from rfl]
 generalize allR (metaE m) m.Metas.l.length 0=A at*
 have hsl:((nMetas m).map V.str).length=m.Metas.l.length:=by simp[nMetas]
 have hbl:belowL 0 ((nMetas m).map V.str)=true:=strs_below _ _
 generalize (nMetas m).map V.str=sl at*
 by_cases c:(16:Int)<m.Metas.l.length
 ·rw[if_pos c]
  simp -implicitDefEqProofs [ht,hsl,hbl,buildMost,hg,c]
 ·rw[if_neg c]
  cases A with
  |none=>simp -implicitDefEqProofs [ht,hsl,hbl,buildMost,hg,c,hl]
  |some q=>simp -implicitDefEqProofs [ht,hsl,hbl,buildMost,hg,c,hl]
include hm hT in
theorem part843_4(hh:Heads m):callRO vp 843 [m.v,.int .i64 4]=some (.tup [.int .i64 (partE m 4).1,.int .i64 (partE m 4).2]):=by
 have ht:=titles836 m 4 hT.held
 obtain⟨hn,hb⟩:=nm_small hT 4
 have hns:nm (titles m 4)=nStates m:=by simp[nm,titles,nStates]
 rw[nm_str,hns]at ht
 rw[hns]at hn hb
 have hlen:(nStates m).length=m.States.l.length:=by simp[nStates]
 have get: ∀i:Int,0≤i→i<(nStates m).length→∃x,getI m.States.l i=some x:=fun i h0 h1=>by
  rcases getI_cases m.States.l i with⟨x,_,_,hg⟩|⟨h,_⟩
  ·exact⟨x,hg⟩
  ·omega
 have hl:=loop843_0 m 4 (by omega) (nStates m) .perm hn hb (fun i=>match getI m.States.l i with|some x=>stN m x|none=>0)
  (fun i h0 h1=>by obtain⟨x,hg⟩:=get i h0 h1;have:=thing848_4 m hm hT.insts hh i hg;rw[this,hg])
  (stateE m) (fun i h0 h1=>by obtain⟨x,hg⟩:=get i h0 h1;rw[stateE_eq m hg,hg]) (nStates m).length 0 (by omega) (by omega)
 have hp:partE m 4=(if m.States.l.length=0 then(0,5)else allE m.States.l.length 16 (stateE m)):=by simp[partE]
 have hg:iaddrV 1 (.sl 1 [.int .i64 0,.int .i64 16,.int .i64 0,.int .i64 16,.int .i64 16,.int .i64 32,.int .i64 8,.int .i64 0,.int .i64 0,.int .i64 0,.int .i64 0,.int .i64 0,.int .i64 8,.int .i64 8,.int .i64 8] .ce) (.int .i64 4)=some (.eptr (.int .i64 16) 0 .ce):=rfl
 rw[hp,callRO_K fn843]
 unfold allE
 rw[hlen]at hl
 rw[show((m.States.l.length:Nat):Int).toNat=m.States.l.length from rfl]
 generalize allR (stateE m) m.States.l.length 0=A at*
 have hsl:((nStates m).map V.str).length=m.States.l.length:=by simp[nStates]
 have hbl:belowL 0 ((nStates m).map V.str)=true:=strs_below _ _
 generalize (nStates m).map V.str=sl at*
 by_cases z:m.States.l.length=0
 ·have z':m.States.l=[]:=List.length_eq_zero_iff.1 z
  rw[if_pos z]
  rw[z]at hsl
  have hs0:sl=[]:=List.length_eq_zero_iff.1 hsl
  subst hs0
  simp -implicitDefEqProofs [ht,buildMost,hg]
 rw[if_neg z]
 have z': ¬m.States.l=[]:=fun h=>z (by rw[h];rfl)
 by_cases c:(16:Int)<m.States.l.length
 ·rw[if_pos c]
  simp -implicitDefEqProofs [ht,hsl,hbl,buildMost,hg,c,z']
 ·rw[if_neg c]
  cases A with
  |none=>simp -implicitDefEqProofs [ht,hsl,hbl,buildMost,hg,c,hl,z']
  |some q=>simp -implicitDefEqProofs [ht,hsl,hbl,buildMost,hg,c,hl,z']
include hm hT in
theorem part843_5:callRO vp 843 [m.v,.int .i64 5]=some (.tup [.int .i64 (partE m 5).1,.int .i64 (partE m 5).2]):=by
 have ht:=titles836 m 5 hT.held
 obtain⟨hn,hb⟩:=nm_small hT 5
 have hns:nm (titles m 5)=nActions m:=by simp[nm,titles,nActions]
 rw[nm_str,hns]at ht
 rw[hns]at hn hb
 have hlen:(nActions m).length=m.Actions.l.length:=by simp[nActions]
 have get: ∀i:Int,0≤i→i<(nActions m).length→∃x,getI m.Actions.l i=some x:=fun i h0 h1=>by
  rcases getI_cases m.Actions.l i with⟨x,_,_,hg⟩|⟨h,_⟩
  ·exact⟨x,hg⟩
  ·omega
 have hl:=loop843_0 m 5 (by omega) (nActions m) .perm hn hb (fun i=>match getI m.Actions.l i with|some x=>actN m x|none=>0)
  (fun i h0 h1=>by obtain⟨x,hg⟩:=get i h0 h1;have:=thing848_5 m hm hT.insts i hg;rw[this,hg])
  (actionE m) (fun i h0 h1=>by obtain⟨x,hg⟩:=get i h0 h1;rw[actionE_eq m hg,hg]) (nActions m).length 0 (by omega) (by omega)
 have hp:partE m 5=allE m.Actions.l.length 32 (actionE m):=by simp[partE]
 have hg:iaddrV 1 (.sl 1 [.int .i64 0,.int .i64 16,.int .i64 0,.int .i64 16,.int .i64 16,.int .i64 32,.int .i64 8,.int .i64 0,.int .i64 0,.int .i64 0,.int .i64 0,.int .i64 0,.int .i64 8,.int .i64 8,.int .i64 8] .ce) (.int .i64 5)=some (.eptr (.int .i64 32) 0 .ce):=rfl
 rw[hp,callRO_K fn843]
 unfold allE
 rw[hlen]at hl
 rw[show((m.Actions.l.length:Nat):Int).toNat=m.Actions.l.length from rfl]
 generalize allR (actionE m) m.Actions.l.length 0=A at*
 have hsl:((nActions m).map V.str).length=m.Actions.l.length:=by simp[nActions]
 have hbl:belowL 0 ((nActions m).map V.str)=true:=strs_below _ _
 generalize (nActions m).map V.str=sl at*
 by_cases c:(32:Int)<m.Actions.l.length
 ·rw[if_pos c]
  simp -implicitDefEqProofs [ht,hsl,hbl,buildMost,hg,c]
 ·rw[if_neg c]
  cases A with
  |none=>simp -implicitDefEqProofs [ht,hsl,hbl,buildMost,hg,c,hl]
  |some q=>simp -implicitDefEqProofs [ht,hsl,hbl,buildMost,hg,c,hl]
include hm hT in
theorem part843_6:callRO vp 843 [m.v,.int .i64 6]=some (.tup [.int .i64 (partE m 6).1,.int .i64 (partE m 6).2]):=by
 have ht:=titles836 m 6 hT.held
 obtain⟨hn,hb⟩:=nm_small hT 6
 have hns:nm (titles m 6)=nTables m:=by simp[nm,titles,nTables]
 rw[nm_str,hns]at ht
 rw[hns]at hn hb
 have hlen:(nTables m).length=m.Tables.l.length:=by simp[nTables]
 have get: ∀i:Int,0≤i→i<(nTables m).length→∃x,getI m.Tables.l i=some x:=fun i h0 h1=>by
  rcases getI_cases m.Tables.l i with⟨x,_,_,hg⟩|⟨h,_⟩
  ·exact⟨x,hg⟩
  ·omega
 have hl:=loop843_0 m 6 (by omega) (nTables m) .perm hn hb (fun i=>match getI m.Tables.l i with|some x=>tabN m x|none=>0)
  (fun i h0 h1=>by obtain⟨x,hg⟩:=get i h0 h1;have:=thing848_6 m hm hT.insts i hg;rw[this,hg])
  (tableE m) (fun i h0 h1=>by obtain⟨x,hg⟩:=get i h0 h1;rw[tableE_eq m hg,hg]) (nTables m).length 0 (by omega) (by omega)
 have hp:partE m 6=allE m.Tables.l.length 8 (tableE m):=by simp[partE]
 have hg:iaddrV 1 (.sl 1 [.int .i64 0,.int .i64 16,.int .i64 0,.int .i64 16,.int .i64 16,.int .i64 32,.int .i64 8,.int .i64 0,.int .i64 0,.int .i64 0,.int .i64 0,.int .i64 0,.int .i64 8,.int .i64 8,.int .i64 8] .ce) (.int .i64 6)=some (.eptr (.int .i64 8) 0 .ce):=rfl
 rw[hp,callRO_K fn843]
 unfold allE
 rw[hlen]at hl
 rw[show((m.Tables.l.length:Nat):Int).toNat=m.Tables.l.length from rfl]
 generalize allR (tableE m) m.Tables.l.length 0=A at*
 have hsl:((nTables m).map V.str).length=m.Tables.l.length:=by simp[nTables]
 have hbl:belowL 0 ((nTables m).map V.str)=true:=strs_below _ _
 generalize (nTables m).map V.str=sl at*
 by_cases c:(8:Int)<m.Tables.l.length
 ·rw[if_pos c]
  simp -implicitDefEqProofs [ht,hsl,hbl,buildMost,hg,c]
 ·rw[if_neg c]
  cases A with
  |none=>simp -implicitDefEqProofs [ht,hsl,hbl,buildMost,hg,c,hl]
  |some q=>simp -implicitDefEqProofs [ht,hsl,hbl,buildMost,hg,c,hl]
include hT in
theorem part843_12:callRO vp 843 [m.v,.int .i64 12]=some (.tup [.int .i64 (partE m 12).1,.int .i64 (partE m 12).2]):=by
 have ht:=titles836 m 12 hT.held
 obtain⟨hn,hb⟩:=nm_small hT 12
 have hns:nm (titles m 12)=nRegs m:=by simp[nm,titles,nRegs]
 rw[nm_str,hns]at ht
 rw[hns]at hn hb
 have hlen:(nRegs m).length=m.Regs.l.length:=by simp[nRegs]
 have get: ∀i:Int,0≤i→i<(nRegs m).length→∃x,getI m.Regs.l i=some x:=fun i h0 h1=>by
  rcases getI_cases m.Regs.l i with⟨x,_,_,hg⟩|⟨h,_⟩
  ·exact⟨x,hg⟩
  ·omega
 have hl:=loop843_0 m 12 (by omega) (nRegs m) .perm hn hb (fun i=>match getI m.Regs.l i with|some x=>if inB x.W.n 1 128=false then 9 else logE x.Log.n|none=>0)
  (fun i h0 h1=>by obtain⟨x,hg⟩:=get i h0 h1;have:=thing848_12 m i hg;rw[this,hg])
  (regE m) (fun i h0 h1=>by obtain⟨x,hg⟩:=get i h0 h1;rw[regE_eq m hg,hg]) (nRegs m).length 0 (by omega) (by omega)
 have hp:partE m 12=allE m.Regs.l.length 8 (regE m):=by simp[partE]
 have hg:iaddrV 1 (.sl 1 [.int .i64 0,.int .i64 16,.int .i64 0,.int .i64 16,.int .i64 16,.int .i64 32,.int .i64 8,.int .i64 0,.int .i64 0,.int .i64 0,.int .i64 0,.int .i64 0,.int .i64 8,.int .i64 8,.int .i64 8] .ce) (.int .i64 12)=some (.eptr (.int .i64 8) 0 .ce):=rfl
 rw[hp,callRO_K fn843]
 unfold allE
 rw[hlen]at hl
 rw[show((m.Regs.l.length:Nat):Int).toNat=m.Regs.l.length from rfl]
 generalize allR (regE m) m.Regs.l.length 0=A at*
 have hsl:((nRegs m).map V.str).length=m.Regs.l.length:=by simp[nRegs]
 have hbl:belowL 0 ((nRegs m).map V.str)=true:=strs_below _ _
 generalize (nRegs m).map V.str=sl at*
 by_cases c:(8:Int)<m.Regs.l.length
 ·rw[if_pos c]
  simp -implicitDefEqProofs [ht,hsl,hbl,buildMost,hg,c]
 ·rw[if_neg c]
  cases A with
  |none=>simp -implicitDefEqProofs [ht,hsl,hbl,buildMost,hg,c,hl]
  |some q=>simp -implicitDefEqProofs [ht,hsl,hbl,buildMost,hg,c,hl]
include hT in
theorem part843_13:callRO vp 843 [m.v,.int .i64 13]=some (.tup [.int .i64 (partE m 13).1,.int .i64 (partE m 13).2]):=by
 have ht:=titles836 m 13 hT.held
 obtain⟨hn,hb⟩:=nm_small hT 13
 have hns:nm (titles m 13)=nCounters m:=by simp[nm,titles,nCounters]
 rw[nm_str,hns]at ht
 rw[hns]at hn hb
 have hlen:(nCounters m).length=m.Counters.l.length:=by simp[nCounters]
 have get: ∀i:Int,0≤i→i<(nCounters m).length→∃x,getI m.Counters.l i=some x:=fun i h0 h1=>by
  rcases getI_cases m.Counters.l i with⟨x,_,_,hg⟩|⟨h,_⟩
  ·exact⟨x,hg⟩
  ·omega
 have hl:=loop843_0 m 13 (by omega) (nCounters m) .perm hn hb (fun i=>match getI m.Counters.l i with|some x=>logE x.Log.n|none=>0)
  (fun i h0 h1=>by obtain⟨x,hg⟩:=get i h0 h1;have:=thing848_13 m i hg;rw[this,hg])
  (counterE m) (fun i h0 h1=>by obtain⟨x,hg⟩:=get i h0 h1;rw[counterE_eq m hg,hg]) (nCounters m).length 0 (by omega) (by omega)
 have hp:partE m 13=allE m.Counters.l.length 8 (counterE m):=by simp[partE]
 have hg:iaddrV 1 (.sl 1 [.int .i64 0,.int .i64 16,.int .i64 0,.int .i64 16,.int .i64 16,.int .i64 32,.int .i64 8,.int .i64 0,.int .i64 0,.int .i64 0,.int .i64 0,.int .i64 0,.int .i64 8,.int .i64 8,.int .i64 8] .ce) (.int .i64 13)=some (.eptr (.int .i64 8) 0 .ce):=rfl
 rw[hp,callRO_K fn843]
 unfold allE
 rw[hlen]at hl
 rw[show((m.Counters.l.length:Nat):Int).toNat=m.Counters.l.length from rfl]
 generalize allR (counterE m) m.Counters.l.length 0=A at*
 have hsl:((nCounters m).map V.str).length=m.Counters.l.length:=by simp[nCounters]
 have hbl:belowL 0 ((nCounters m).map V.str)=true:=strs_below _ _
 generalize (nCounters m).map V.str=sl at*
 by_cases c:(8:Int)<m.Counters.l.length
 ·rw[if_pos c]
  simp -implicitDefEqProofs [ht,hsl,hbl,buildMost,hg,c]
 ·rw[if_neg c]
  cases A with
  |none=>simp -implicitDefEqProofs [ht,hsl,hbl,buildMost,hg,c,hl]
  |some q=>simp -implicitDefEqProofs [ht,hsl,hbl,buildMost,hg,c,hl]
include hT in
theorem part843_14:callRO vp 843 [m.v,.int .i64 14]=some (.tup [.int .i64 (partE m 14).1,.int .i64 (partE m 14).2]):=by
 have ht:=titles836 m 14 hT.held
 obtain⟨hn,hb⟩:=nm_small hT 14
 have hns:nm (titles m 14)=nMeters m:=by simp[nm,titles,nMeters]
 rw[nm_str,hns]at ht
 rw[hns]at hn hb
 have hlen:(nMeters m).length=m.Meters.l.length:=by simp[nMeters]
 have get: ∀i:Int,0≤i→i<(nMeters m).length→∃x,getI m.Meters.l i=some x:=fun i h0 h1=>by
  rcases getI_cases m.Meters.l i with⟨x,_,_,hg⟩|⟨h,_⟩
  ·exact⟨x,hg⟩
  ·omega
 have hl:=loop843_0 m 14 (by omega) (nMeters m) .perm hn hb (fun i=>match getI m.Meters.l i with|some x=>if logE x.Log.n=0 then wantE (inB x.Rate.n 0 65535&&inB x.Burst.n 1 1048576) 7 else 7|none=>0)
  (fun i h0 h1=>by obtain⟨x,hg⟩:=get i h0 h1;have:=thing848_14 m i hg;rw[this,hg])
  (meterE m) (fun i h0 h1=>by obtain⟨x,hg⟩:=get i h0 h1;rw[meterE_eq m hg,hg]) (nMeters m).length 0 (by omega) (by omega)
 have hp:partE m 14=allE m.Meters.l.length 8 (meterE m):=by simp[partE]
 have hg:iaddrV 1 (.sl 1 [.int .i64 0,.int .i64 16,.int .i64 0,.int .i64 16,.int .i64 16,.int .i64 32,.int .i64 8,.int .i64 0,.int .i64 0,.int .i64 0,.int .i64 0,.int .i64 0,.int .i64 8,.int .i64 8,.int .i64 8] .ce) (.int .i64 14)=some (.eptr (.int .i64 8) 0 .ce):=rfl
 rw[hp,callRO_K fn843]
 unfold allE
 rw[hlen]at hl
 rw[show((m.Meters.l.length:Nat):Int).toNat=m.Meters.l.length from rfl]
 generalize allR (meterE m) m.Meters.l.length 0=A at*
 have hsl:((nMeters m).map V.str).length=m.Meters.l.length:=by simp[nMeters]
 have hbl:belowL 0 ((nMeters m).map V.str)=true:=strs_below _ _
 generalize (nMeters m).map V.str=sl at*
 by_cases c:(8:Int)<m.Meters.l.length
 ·rw[if_pos c]
  simp -implicitDefEqProofs [ht,hsl,hbl,buildMost,hg,c]
 ·rw[if_neg c]
  cases A with
  |none=>simp -implicitDefEqProofs [ht,hsl,hbl,buildMost,hg,c,hl]
  |some q=>simp -implicitDefEqProofs [ht,hsl,hbl,buildMost,hg,c,hl]
end
theorem part843(m:Image)(hm:Clo m)(hT:Tiny m)(p:Int)(h0:0≤p)(h1:p<15)(hH:1<p→HdrOK m)(hI:2<p→Heads m):callRO vp 843 [m.v,.int .i64 p]=some (.tup [.int .i64 (partE m p).1,.int .i64 (partE m p).2]):=by
 have hp:p=0∨p=1∨p=2∨p=3∨p=4∨p=5∨p=6∨p=7∨p=8∨p=9∨p=10∨p=11∨p=12∨p=13∨p=14:=by omega
 rcases hp with rfl|rfl|rfl|rfl|rfl|rfl|rfl|rfl|rfl|rfl|rfl|rfl|rfl|rfl|rfl
 ·exact part843_0 m hT
 ·exact part843_1 m hT
 ·exact part843_2 m hT
 ·exact part843_3 m hT
 ·exact part843_4 m hm hT (hI (by omega))
 ·exact part843_5 m hm hT
 ·exact part843_6 m hm hT
 ·exact part843_7 m hm hT
 ·exact part843_8 m hm hT
 ·exact part843_9 m hm hT
 ·exact part843_10 m hm hT (hH (by omega))
 ·exact part843_11 m hm hT (hH (by omega))
 ·exact part843_12 m hT
 ·exact part843_13 m hT
 ·exact part843_14 m hT
theorem loop828(m:Image)(hm:Clo m)(hT:Tiny m): ∀(j:Nat) (k:Int),0≤k→k+j=15→(1<k→HdrOK m)→(2<k→Heads m)→(orc vp).loop 0 [1,5] L828_0 [(1,.ptr 0 1 0 0),(5,.int .i64 k)] [.arr [m.v]]=
 (match checkR m j k with
  |none=>some (.brk 0,[(1,.ptr 0 1 0 0),(5,.int .i64 15),(9,.bool false)],[.arr [m.v]])
  |some (p,n,e)=>some (.ret,[(2,.int .i64 p),(3,.int .i64 n),(4,.int .i64 e)],[.arr [m.v]])):=by
 intro j
 induction j with
 |zero=>
  intro k hk hkn _ _
  have:k=15:=by omega
  subst this
  rw[lp828_0]
  simp -implicitDefEqProofs [checkR]
 |succ j ih=>
  intro k hk hkn hH hI
  have hlt:k<15:=by omega
  have w1:IntKind.i64.wrap (k+1)=k+1:=wrap64 (by omega) (by omega)
  have hp:=part843 m hm hT k hk hlt hH hI
  rw[lp828_0]
  by_cases c:(partE m k).2=0
  ·have ih:=ih (k+1) (by omega) (by omega) (fun h=>by
    by_cases h2:1<k
    ·exact hH h2
    ·have:k=1:=by omega
     subst this
     exact hdrOK_of c) (fun h=>by
    by_cases h2:2<k
    ·exact hI h2
    ·have:k=2:=by omega
     subst this
     exact heads_of c)
   simp -implicitDefEqProofs [hlt,hp,c,w1,ih,checkR]
  ·simp -implicitDefEqProofs [hlt,hp,c,checkR]
def check3(m:Image):Int ×Int ×Int:=(checkI m).getD (0,0,0)
theorem check828(m:Image)(hm:Clo m)(hT:Tiny m):callRO vp 828 [m.v]=some (.tup [.int .i64 (check3 m).1,.int .i64 (check3 m).2.1,.int .i64 (check3 m).2.2]):=by
 have hl:=loop828 m hm hT 15 0 (by omega) (by omega) (by omega) (by omega)
 unfold check3 checkI
 rw[callRO_K fn828]
 cases hc:checkR m 15 0 with
 |none=>
  rw[hc]at hl
  simp -implicitDefEqProofs [hl]
 |some q=>
  obtain⟨p,n,e⟩:=q
  rw[hc]at hl
  simp -implicitDefEqProofs [hl]
end Go.VE.Un
namespace Go.VE.Un
open Go.VE
theorem fit_list{α:Type}{z:Nat}{f:α→V}{x:GL α}(h:fitV (some 1048576) (GL.v z f x)=true):x.l.length≤1048576∧∀y∈x.l,fitV (some 1048576) (f y)=true:=by
 simp only[GL.v,fitV,leO,Bool.and_eq_true,decide_eq_true_eq,List.length_map]at h
 exact⟨h.1,fun y hy=>fitL_all.1 h.2 _ (List.mem_map.2 ⟨y,hy,rfl⟩)⟩
theorem fit_name{s:List UInt8}{l:List V}(h:fitV (some 1048576) (.agg (.str s::l))=true):s.length≤1048576:=by
 simp only[fitV,fitL,leO,Bool.and_eq_true,decide_eq_true_eq]at h;exact h.1
theorem fit_two{a b:V}{l:List V}(h:fitV (some 1048576) (.agg (a::b::l))=true):fitV (some 1048576) b=true:=by
 simp only[fitV,fitL,Bool.and_eq_true]at h;exact h.2.1
theorem tiny_of_fit{m:Image}(h:fitV (some 1048576) m.v=true):Tiny m∧Small m:=by
 simp only[Image.v_eq,fitV,fitL,Bool.and_eq_true]at h
 obtain⟨h0,h1,h2,h3,h4,h5,h6,h7,h8,h9,h10,h11,h12,h13,h14,_⟩:=h
 simp only[leO,decide_eq_true_eq]at h0
 obtain⟨l1,g1⟩:=fit_list h1;obtain⟨l2,g2⟩:=fit_list h2;obtain⟨l3,g3⟩:=fit_list h3;obtain⟨l4,g4⟩:=fit_list h4
 obtain⟨l5,g5⟩:=fit_list h5;obtain⟨l6,g6⟩:=fit_list h6;obtain⟨l12,g12⟩:=fit_list h12;obtain⟨l13,g13⟩:=fit_list h13;obtain⟨l14,g14⟩:=fit_list h14
 have n1: ∀x∈m.Headers.l,x.Name.s.length≤1048576:=fun x hx=>fit_name (g1 x hx)
 have n2: ∀x∈m.Insts.l,x.Name.s.length≤1048576:=fun x hx=>fit_name (g2 x hx)
 have n3: ∀x∈m.Metas.l,x.Name.s.length≤1048576:=fun x hx=>fit_name (g3 x hx)
 have n4: ∀x∈m.States.l,x.Name.s.length≤1048576:=fun x hx=>fit_name (g4 x hx)
 have n5: ∀x∈m.Actions.l,x.Name.s.length≤1048576:=fun x hx=>fit_name (g5 x hx)
 have n6: ∀x∈m.Tables.l,x.Name.s.length≤1048576:=fun x hx=>fit_name (g6 x hx)
 have n12: ∀x∈m.Regs.l,x.Name.s.length≤1048576:=fun x hx=>fit_name (g12 x hx)
 have n13: ∀x∈m.Counters.l,x.Name.s.length≤1048576:=fun x hx=>fit_name (g13 x hx)
 have n14: ∀x∈m.Meters.l,x.Name.s.length≤1048576:=fun x hx=>fit_name (g14 x hx)
 have nf: ∀h∈m.Headers.l,∀f∈h.Fields.l,f.Name.s.length≤1048576:=fun h hh f hf=>fit_name ((fit_list (fit_two (g1 h hh))).2 f hf)
 have lt: ∀{n:Nat},n≤1048576→n≤17592186044416:=fun h=>by omega
 have lu: ∀{n:Nat},n≤1048576→n≤35184372088831:=fun h=>by omega
 refine⟨⟨lt h0,fun h hh _ f hf=>lt (nf h hh f hf),fun _ x hx=>lt (n2 x hx),fun p x hx=> ?_,by omega,⟨by omega,by omega,by omega,by omega,by omega,by omega,by omega,by omega⟩⟩,⟨fun h hh _ f hf=>lu (nf h hh f hf),fun _ x hx=>lu (n2 x hx),fun x hx=>lu (n1 x hx),fun x hx=>lu (n3 x hx),fun x hx=>lu (n12 x hx),fun x hx=>lu (n13 x hx),fun x hx=>lu (n14 x hx),fun x hx=>lu (n4 x hx),fun x hx=>lu (n5 x hx),fun x hx=>lu (n6 x hx)⟩⟩
 unfold titles at hx
 split at hx
 ·obtain⟨y,hy,rfl⟩:=List.mem_map.1 hx;exact lt (n1 y hy)
 split at hx
 ·obtain⟨y,hy,rfl⟩:=List.mem_map.1 hx;exact lt (n3 y hy)
 split at hx
 ·obtain⟨y,hy,rfl⟩:=List.mem_map.1 hx;exact lt (n4 y hy)
 split at hx
 ·obtain⟨y,hy,rfl⟩:=List.mem_map.1 hx;exact lt (n5 y hy)
 split at hx
 ·obtain⟨y,hy,rfl⟩:=List.mem_map.1 hx;exact lt (n6 y hy)
 split at hx
 ·obtain⟨y,hy,rfl⟩:=List.mem_map.1 hx;exact lt (n12 y hy)
 split at hx
 ·obtain⟨y,hy,rfl⟩:=List.mem_map.1 hx;exact lt (n13 y hy)
 split at hx
 ·obtain⟨y,hy,rfl⟩:=List.mem_map.1 hx;exact lt (n14 y hy)
 ·simp at hx
def sizeM(m:Image):Int:=(m.Headers.l.length:Int)+m.Insts.l.length+m.States.l.length+m.Actions.l.length+m.Tables.l.length+m.Ingress.l.length+m.Egress.l.length
def rightB(m:Image):Bool:=decide (sizeM m≤150)&&decide ((check3 m).2.2=0)
theorem checkR_ne{m:Image}: ∀{j:Nat} {k p n e:Int},checkR m j k=some (p,n,e)→e≠0
 |0,k,_,_,_,h=>by simp[checkR]at h
 |j+1,k,p,n,e,h=>by
  simp only[checkR]at h
  split at h
  ·exact checkR_ne h
  ·rename_i c;simp at h;rw[←h.2.2];exact c
theorem right_ok{m:Image}(h:rightB m=true):checkI m=none∧sizeM m≤150:=by
 unfold rightB at h
 simp only[Bool.and_eq_true,decide_eq_true_eq]at h
 refine⟨?_,h.1⟩
 cases hc:checkI m with
 |none=>rfl
 |some q=>obtain⟨p,n,e⟩:=q;rw[check3,hc]at h;exact absurd h.2 (checkR_ne hc)
end Go.VE.Un
namespace Go.VE.Un
open Go.VE
abbrev Sl:=BitVec 64
def sV(s:Sl):V:=.int .u64 (s.toNat:Int)
@[simp] theorem sV_below(k:Nat)(s:Sl):belowB k (sV s)=true:=rfl
@[simp] theorem sV_closed(s:Sl):closedB (sV s)=true:=rfl
@[simp] theorem sV_ok(s:Sl):okV (sV s)=true:=rfl
@[simp] theorem sV_one(s:Sl):one1 (sV s)=true:=rfl
@[simp] theorem sV_ldc(s:Sl)(n:Nat):ldc (sV s) false n 0=some (sV s):=rfl
@[simp] theorem sV_cells(s:Sl):(sV s).cells=[sV s]:=rfl
theorem sV_zero:V.int .u64 0=sV 0:=rfl
theorem ofInt_sV(s:Sl):BitVec.ofInt 64 (s.toNat:Int)=s:=by simp
theorem wrapU(n:Nat)(h:n<18446744073709551616):IntKind.u64.wrap (n:Int)=n:=wrapU64 (by omega) (by omega)
theorem sV_and(a b:Sl):binV .and (sV a) (sV b)=some (sV (a&&&b)):=by
 unfold sV;rw[bin_and]
 show some (V.int .u64 (IntKind.u64.wrap ((BitVec.ofInt 64 (a.toNat:Int)&&&BitVec.ofInt 64 (b.toNat:Int)).toNat:Int)))=_
 rw[ofInt_sV,ofInt_sV,wrapU _ (a&&&b).isLt]
theorem sV_or(a b:Sl):binV .or (sV a) (sV b)=some (sV (a|||b)):=by
 unfold sV;rw[bin_or]
 show some (V.int .u64 (IntKind.u64.wrap ((BitVec.ofInt 64 (a.toNat:Int)|||BitVec.ofInt 64 (b.toNat:Int)).toNat:Int)))=_
 rw[ofInt_sV,ofInt_sV,wrapU _ (a|||b).isLt]
theorem sV_andNot(a b:Sl):binV .andNot (sV a) (sV b)=some (sV (a&&& ~~~b)):=by
 unfold sV;rw[bin_andNot]
 show some (V.int .u64 (IntKind.u64.wrap ((BitVec.ofInt 64 (a.toNat:Int)&&& ~~~(BitVec.ofInt 64 (b.toNat:Int))).toNat:Int)))=_
 rw[ofInt_sV,ofInt_sV,wrapU _ (a&&& ~~~b).isLt]
theorem sV_neq0(a:Sl):binV .neq (sV a) (.int .u64 0)=some (.bool (a !=0)):=by
 unfold sV;rw[bin_neq]
 congr 2
 by_cases h:a=0
 ·subst h;rfl
 ·have:a.toNat≠0:=fun e=>h (BitVec.eq_of_toNat_eq (by simpa using e))
  have h2:(a !=0)=true:=bne_iff_ne.2 h
  rw[h2];simp;omega
theorem sV_eql0(a:Sl):binV .eql (sV a) (.int .u64 0)=some (.bool (a==0)):=by
 unfold sV;rw[bin_eql]
 congr 2
 by_cases h:a=0
 ·subst h;rfl
 ·have:a.toNat≠0:=fun e=>h (BitVec.eq_of_toNat_eq (by simpa using e))
  have h2:(a==0)=false:=beq_eq_false_iff_ne.2 h
  rw[h2];simp;omega
attribute [simp] sV_and sV_or sV_andNot sV_neq0 sV_eql0
def bitS(n:Int):Sl:=if 0≤n∧n<64 then BitVec.twoPow 64 n.toNat else 0
theorem bit465(n:Int):callRO vp 465 [.int .i64 n]=some (sV (bitS n)):=by
 rw[callRO_K fn465]
 by_cases h1:n<0
 ·have:bitS n=0:=if_neg (by omega)
  rw[this]
  simp -implicitDefEqProofs [h1,sV]
 ·by_cases h2:64≤n
  ·have:bitS n=0:=if_neg (by omega)
   rw[this]
   simp -implicitDefEqProofs [h1,h2,sV]
  ·have:bitS n=BitVec.twoPow 64 n.toNat:=if_pos (by omega)
   have h3:(BitVec.twoPow 64 n.toNat).toNat=2^n.toNat:=by
    rw[BitVec.toNat_twoPow];exact Nat.mod_eq_of_lt (Nat.pow_lt_pow_right (by omega) (by omega))
   have b1:binV .shl (.int .u64 1) (.int .i64 n)=some (sV (bitS n)):=by
    rw[bin_shl (a:=1) (b:=n) (k:=.u64) (k':=.i64) (by omega),this]
    have:min n.toNat IntKind.u64.bits=n.toNat:=by have:IntKind.u64.bits=64:=rfl;omega
    rw[this,Int.one_mul]
    unfold sV
    rw[h3]
    have h4:2^n.toNat<18446744073709551616:=Nat.lt_of_lt_of_eq (Nat.pow_lt_pow_right (m:=n.toNat) (n:=64) (a:=2) (by omega) (by omega)) (by decide)
    have:=wrapU (2^n.toNat) h4
    rw[←this];norm_cast
   simp -implicitDefEqProofs [h1,h2,b1]
attribute [simp] bit465
def hasS(s:Sl)(n:Int):Bool:=(s&&&bitS n) !=0
def withS(s:Sl)(n:Int):Sl:=s|||bitS n
def goneS(s:Sl)(n:Int):Sl:=s&&& ~~~bitS n
@[simp] theorem both323(a b:Sl):callRO vp 323 [sV a,sV b]=some (sV (a&&&b)):=by
  rw[callRO_K fn323];simp -implicitDefEqProofs [b323]
@[simp] theorem has324(s:Sl)(n:Int):callRO vp 324 [sV s,.int .i64 n]=some (.bool (hasS s n)):=by
  rw[callRO_K fn324];simp -implicitDefEqProofs [hasS]
@[simp] theorem with326(s:Sl)(n:Int):callRO vp 326 [sV s,.int .i64 n]=some (sV (withS s n)):=by
  rw[callRO_K fn326];simp -implicitDefEqProofs [withS]
@[simp] theorem within327(a b:Sl):callRO vp 327 [sV a,sV b]=some (.bool (a&&& ~~~b==0)):=by
  rw[callRO_K fn327];simp -implicitDefEqProofs [b327]
@[simp] theorem gone328(s:Sl)(n:Int):callRO vp 328 [sV s,.int .i64 n]=some (sV (goneS s n)):=by
  rw[callRO_K fn328];simp -implicitDefEqProofs [goneS]
def moveL(f d n:Int)(s:Sl):Nat→Int→Sl→Sl
 |0,_,o=>o
 |j+1,i,o=>moveL f d n s j (i+1) (if 0≤i-n∧i-n<d∧hasS s (f+(i-n))=true then withS (goneS o (f+i)) (f+i)else goneS o (f+i))
theorem loop462(s:Sl)(f d n:Int)(hn: -4≤n∧n≤4)(hf:0≤f)(hd:f+d≤64)(b:Blk): ∀(j:Nat) (i:Int) (o:Sl),0≤i→i≤d→(d-i).toNat=j→∃fr,(orc vp).loop 0 [2,3,9,10,12,29,30] L462_0 [(2,.int .i64 n),(3,sV s),(9,.int .i64 f),(10,.int .i64 d),(12,sV o),(29,.int .i64 d),(30,.int .i64 i)] [b]=
 some (.brk 0,(2,.int .i64 n)::(3,sV s)::(9,.int .i64 f)::(10,.int .i64 d)::(12,sV (moveL f d n s j i o))::fr,[b]):=by
 intro j
 induction j with
 |zero=>
  intro i o h0 h1 h2
  have hlt: ¬i<d:=by omega
  refine⟨[(29,.int .i64 d),(30,.int .i64 i),(31,.bool false)],?_⟩
  rw[lp462_0]
  simp -implicitDefEqProofs [hlt,moveL]
 |succ j ih=>
  intro i o h0 h1 h2
  have hlt:i<d:=by omega
  have w1:IntKind.i64.wrap (i+1)=i+1:=wrap64 (by omega) (by omega)
  have w3:IntKind.i64.wrap (f+i)=f+i:=wrap64 (by omega) (by omega)
  have ih:=ih (i+1)
  obtain⟨q,hq⟩: ∃q,i-n=q:=⟨_,rfl⟩
  have w2:IntKind.i64.wrap (i-n)=q:=by rw[wrap64 (by omega) (by omega),hq]
  simp only[moveL,hq]
  by_cases c1:0≤q
  ·by_cases c2:q<d
   ·have w4:IntKind.i64.wrap (f+q)=f+q:=wrap64 (by omega) (by omega)
    by_cases c3:hasS s (f+q)=true
    ·obtain⟨fr,ih⟩:=ih (withS (goneS o (f+i)) (f+i)) (by omega) (by omega) (by omega)
     rw[if_pos ⟨c1,c2,c3⟩]
     refine⟨fr,?_⟩
     rw[lp462_0]
     simp -implicitDefEqProofs [hlt,w1,w2,w3,w4,c1,c2,c3,ih]
    ·obtain⟨fr,ih⟩:=ih (goneS o (f+i)) (by omega) (by omega) (by omega)
     rw[if_neg (fun h=>c3 h.2.2)]
     refine⟨fr,?_⟩
     rw[lp462_0]
     simp -implicitDefEqProofs [hlt,w1,w2,w3,w4,c1,c2,c3,ih]
   ·obtain⟨fr,ih⟩:=ih (goneS o (f+i)) (by omega) (by omega) (by omega)
    rw[if_neg (fun h=>c2 h.2.1)]
    refine⟨fr,?_⟩
    rw[lp462_0]
    simp -implicitDefEqProofs [hlt,w1,w2,w3,c1,c2,ih]
  ·obtain⟨fr,ih⟩:=ih (goneS o (f+i)) (by omega) (by omega) (by omega)
   rw[if_neg (fun h=>c1 h.1)]
   refine⟨fr,?_⟩
   rw[lp462_0]
   simp -implicitDefEqProofs [hlt,w1,w2,w3,c1,ih]
def clampN(n:Int):Int:=max (-4) (min n 4)
def moveS(m:Image)(i n:Int)(s:Sl):Sl:=match stacked m i with|none=>s|some (f,d)=>moveL f d (clampN n) s d.toNat 0 s
def Stk(m:Image):Prop:= ∀i f d,stacked m i=some (f,d)→0≤f∧0≤d∧f+d≤64
theorem move462(m:Image)(hs:Stk m)(i n:Int)(s:Sl):callRO vp 462 [m.v,.int .i64 i,.int .i64 n,sV s]=some (sV (moveS m i n s)):=by
 rw[callRO_K fn462]
 rcases hst:stacked m i with _|⟨f,d⟩
 ·simp -implicitDefEqProofs [hst,moveS]
 ·obtain⟨h1,h2,h3⟩:=hs i f d hst
  obtain⟨fr,hl⟩:=loop462 s f d (clampN n) (by unfold clampN;omega) h1 h3 (.arr [m.v]) d.toNat 0 s (by omega) h2 (by omega)
  by_cases c1:4<n
  ·have e:clampN n=4:=by unfold clampN;omega
   rw[e]at hl
   simp -implicitDefEqProofs [hst,moveS,c1,e,hl]
  ·by_cases c2: -4<n
   ·have e:clampN n=n:=by unfold clampN;omega
    rw[e]at hl
    simp -implicitDefEqProofs [hst,moveS,c1,c2,e,hl]
   ·have e:clampN n= -4:=by unfold clampN;omega
    rw[e]at hl
    simp -implicitDefEqProofs [hst,moveS,c1,c2,e,hl]
def doesS(m:Image)(x:Ins)(s:Sl):Sl ×Sl ×Int:=
 if x.Op.n=1∨x.Op.n=22 then(if hasS s x.A.n=true then(s,s,0)else(0,0,11))
 else if x.Op.n=25 then(withS s x.A.n,0,0)
 else if x.Op.n=26 then(goneS s x.A.n,0,0)
 else if x.Op.n=27 then(moveS m x.A.n x.B.n s,0,0)
 else if x.Op.n=28 then(moveS m x.A.n (-x.B.n) s,0,0)
 else if x.Op.n=33 then(withS s x.A.n,goneS s x.A.n,0)
 else(s,s,0)
theorem does466(m:Image)(hs:Stk m)(x:Ins)(h:mayC x=0)(s:Sl):callRO vp 466 [m.v,stepV x,sV s]=some (.tup [sV (doesS m x s).1,sV (doesS m x s).2.1,.int .i64 (doesS m x s).2.2]):=by
 obtain⟨h0,h1⟩:=mayC_op h
 have hb:x.Op.n=28→IntKind.i64.wrap (-x.B.n)= -x.B.n:=by
  intro e
  have hg:getI shapes x.Op.n=some ⟨true,true,0,15,1,4,0,0⟩:=by rw[e];rfl
  have:inB x.B.n 1 4=true:=by
   simp only[mayC,hg]at h
   split at h
   ·simp at h
   ·rename_i hc
    have:=fun e=>hc (Or.inr (Or.inl e))
    simpa using this
  simp[inB]at this
  exact wrap64 (by omega) (by omega)
 have hm:=move462 m hs
 rw[callRO_K fn466]
 generalize he:x.Op.n=o at h0 h1
 rcases ops_cases h0 h1 with rfl|rfl|rfl|rfl|rfl|rfl|rfl|rfl|rfl|rfl|rfl|rfl|rfl|rfl|rfl|rfl|rfl|rfl|rfl|rfl|rfl|rfl|rfl|rfl|rfl|rfl|rfl|rfl|rfl|rfl|rfl|rfl|rfl|rfl|rfl
 case' inr.inl=>by_cases c:hasS s x.A.n=true
 case' inr.inr.inr.inr.inr.inr.inr.inr.inr.inr.inr.inr.inr.inr.inr.inr.inr.inr.inr.inr.inr.inr.inl=>by_cases c:hasS s x.A.n=true
 all_goals first
  |(simp -implicitDefEqProofs [he,stepV,getI,kinds,doesS,sV_zero,hm,hb he];done)
  |(simp -implicitDefEqProofs [he,stepV,getI,kinds,doesS,sV_zero,hm,c];done)
  |(simp -implicitDefEqProofs [he,stepV,getI,kinds,doesS,sV_zero,hm];done)
end Go.VE.Un
