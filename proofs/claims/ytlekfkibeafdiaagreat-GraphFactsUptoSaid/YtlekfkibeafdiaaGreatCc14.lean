/- Joined texts: CrR, CfE, CfA, CfB, CfC. No condition: what each theorem needs stands in it. -/
import Derived.Test.YtlekfkibeafdiaaGreatCc13
import Derived.Test.YtlekfkibeafdiaaGreatCc10
import Derived.Test.YtlekfkibeafdiaaGreatVc0
namespace Go.VE.Un
open Go.VE
theorem ZZ(fr:Fr):Zf fr (.buildSl 1 [.c (.int .i64 0),.c (.int .i64 16),.c (.int .i64 0),.c (.int .i64 16),.c (.int .i64 16),.c (.int .i64 32),.c (.int .i64 8),.c (.int .i64 0),.c (.int .i64 0),.c (.int .i64 0),.c (.int .i64 0),.c (.int .i64 0),.c (.int .i64 8),.c (.int .i64 8),.c (.int .i64 8)])=some (.sl 1 [.int .i64 0,.int .i64 16,.int .i64 0,.int .i64 16,.int .i64 16,.int .i64 32,.int .i64 8,.int .i64 0,.int .i64 0,.int .i64 0,.int .i64 0,.int .i64 0,.int .i64 8,.int .i64 8,.int .i64 8] .ce):=rfl
theorem Zl2{m:Zb}(h:(Zn m 2).2=0):Jx m:=by
 have h:U3 m.Headers.l.length m.Insts.l=0:=by simpa[Zn]using h
 unfold U3 at h
 split at h
 ·simp at h
 ·split at h
  ·rename_i h1;exact absurd h h1
  ·rename_i h1
   have go: ∀(l:List ZE) (ns:List (List UInt8)),YX m.Headers.l.length l ns=0→∀x∈l,0≤x.Header.n∧x.Header.n<m.Headers.l.length:=by
    intro l
    induction l with
    |nil=>intro ns _ x hx;simp at hx
    |cons y r ih=>
     intro ns h x hx
     simp only[YX]at h
     split at h
     ·simp at h
     ·split at h
      ·simp at h
      ·split at h
       ·simp at h
       ·rename_i h3
        split at h
        ·simp at h
        ·rcases List.mem_cons.1 hx with rfl|hx
         ·simp[inB]at h3;omega
         ·exact ih _ h x hx
   exact go m.Insts.l [] (by simpa using h1)
theorem Zmz{m:Zb}(h:(Zn m 1).2=0):Za7 m:=by
 have h:(Yw m.Headers.l.length 16 (YM m)).2=0:=by simpa[Zn]using h
 have hh:=(ZaH h).2
 intro x hx
 obtain⟨i,hi,he⟩:=List.getElem_of_mem hx
 have:=hh i (by omega) (by omega)
 unfold YM at this
 rw[Ut,List.getElem?_eq_getElem hi,he]at this
 simp only at this
 split at this
 ·assumption
 ·rename_i h2;exact absurd this h2
theorem ZtP(l:List GS):(nm l).length=l.length:=by simp[nm]
theorem Vf{m:Zb}(hT:Zdn m)(p:Int):(nm (titles m p)).length≤17592186044416∧∀x∈nm (titles m p),x.length≤17592186044416:=by
 refine⟨?_,fun x hx=> ?_⟩
 ·rw[ZtP];have:=Zgn hT.held p;omega
 ·obtain⟨y,hy,rfl⟩:=List.mem_map.1 hx;exact hT.titles p y hy
section
variable (m : Zb) (hm : Clo m) (hT : Zdn m)
include hT in
theorem ZkF:Zc vp 843 [m.v,.int .i64 0]=some (.tup [.int .i64 (Zn m 0).1,.int .i64 (Zn m 0).2]):=by
 have hn:=ZlS m.Name.s hT.name
 have hp:Zn m 0=(0,ZI [Zl (J1 m.Name.s) 4,Zl (inB m.Ports.n 1 64&&(inB m.Depth.n 1 32&&inB m.Rounds.n 0 4)) 7]):=by unfold Zn;rw[if_pos rfl]
 rw[hp,Za VT]
 cases c0:J1 m.Name.s with
 |false=>
  rw[c0]at hn
  simp -implicitDefEqProofs [hn,ZI,Zl]
 |true=>
  rw[c0]at hn
  by_cases p1:m.Ports.n<1
  ·rw[Zr.2 (.inl p1)];simp -implicitDefEqProofs [hn,ZI,Zl,p1]
  by_cases p2:64<m.Ports.n
  ·rw[Zr.2 (.inr p2)];simp -implicitDefEqProofs [hn,ZI,Zl,p1,p2]
  have e1:inB m.Ports.n 1 64=true:=by unfold inB;simp;omega
  rw[e1]
  by_cases d1:m.Depth.n<1
  ·rw[Zr.2 (.inl d1)];simp -implicitDefEqProofs [hn,ZI,Zl,p1,p2,d1]
  by_cases d2:32<m.Depth.n
  ·rw[Zr.2 (.inr d2)];simp -implicitDefEqProofs [hn,ZI,Zl,p1,p2,d1,d2]
  have e2:inB m.Depth.n 1 32=true:=by unfold inB;simp;omega
  rw[e2]
  by_cases r1:m.Rounds.n<0
  ·rw[Zr.2 (.inl r1)];simp -implicitDefEqProofs [hn,ZI,Zl,p1,p2,d1,d2,r1]
  by_cases r2:4<m.Rounds.n
  ·rw[Zr.2 (.inr r2)];simp -implicitDefEqProofs [hn,ZI,Zl,p1,p2,d1,d2,r1,r2]
  have e3:inB m.Rounds.n 0 4=true:=by unfold inB;simp;omega
  rw[e3]
  simp -implicitDefEqProofs [hn,ZI,Zl,p1,p2,d1,d2,r1,r2]
include hT in
theorem ZjN:Zc vp 843 [m.v,.int .i64 2]=some (.tup [.int .i64 (Zn m 2).1,.int .i64 (Zn m 2).2]):=by
 have hi:=Zlk m.Headers m.Insts hT.ins
 have hp:Zn m 2=(0,U3 m.Headers.l.length m.Insts.l):=by simp[Zn]
 rw[hp,Za VT]
 simp -implicitDefEqProofs [hi]
include hm hT in
theorem ZkL:Zc vp 843 [m.v,.int .i64 9]=some (.tup [.int .i64 (Zn m 9).1,.int .i64 (Zn m 9).2]):=by
 obtain⟨h,hl⟩:=Zkd m hm hT.insts m.Deparse.l.length 0 (by omega) (by omega)
 have hp:Zn m 9=Yw m.Deparse.l.length 32 (Qs m):=by simp[Zn]
 rw[hp,Za VT]
 unfold Yw
 rw[show((m.Deparse.l.length:Nat):Int).toNat=m.Deparse.l.length from rfl]
 generalize Xe (Qs m) m.Deparse.l.length 0=A at*
 by_cases c:(32:Int)<m.Deparse.l.length
 ·rw[if_pos c];simp -implicitDefEqProofs [c]
 ·rw[if_neg c]
  cases A with
  |none=>simp -implicitDefEqProofs [c,hl]
  |some q=>simp -implicitDefEqProofs [c,hl]
include hm hT in
theorem Zks:Zc vp 843 [m.v,.int .i64 7]=some (.tup [.int .i64 (Zn m 7).1,.int .i64 (Zn m 7).2]):=by
 have hn:=Zbk m hm hT.insts m.Ingress
 have hp:Zn m 7=Wj m m.Ingress.l:=by simp[Zn]
 rw[hp,Za VT]
 simp -implicitDefEqProofs [hn]
include hm hT in
theorem Zlw:Zc vp 843 [m.v,.int .i64 8]=some (.tup [.int .i64 (Zn m 8).1,.int .i64 (Zn m 8).2]):=by
 have hn:=Zbk m hm hT.insts m.Egress
 have hp:Zn m 8=Wj m m.Egress.l:=by simp[Zn]
 rw[hp,Za VT]
 simp -implicitDefEqProofs [hn]
include hm hT in
theorem Zhw(hH:Za7 m):Zc vp 843 [m.v,.int .i64 10]=some (.tup [.int .i64 (Zn m 10).1,.int .i64 (Zn m 10).2]):=by
 have hn:=Zfl m hm hT.insts hH m.Checks
 have hp:Zn m 10=Q4 m m.Checks.l:=by simp[Zn]
 rw[hp,Za VT]
 simp -implicitDefEqProofs [hn]
include hm hT in
theorem Zgu(hH:Za7 m):Zc vp 843 [m.v,.int .i64 11]=some (.tup [.int .i64 (Zn m 11).1,.int .i64 (Zn m 11).2]):=by
 have hn:=Zfl m hm hT.insts hH m.Updates
 have hp:Zn m 11=Q4 m m.Updates.l:=by simp[Zn]
 rw[hp,Za VT]
 simp -implicitDefEqProofs [hn]
include hT in
theorem Zk4:Zc vp 843 [m.v,.int .i64 1]=some (.tup [.int .i64 (Zn m 1).1,.int .i64 (Zn m 1).2]):=by
 have ht:=Wv m 1 hT.held
 obtain⟨hn,hb⟩:=Vf hT 1
 have hns:nm (titles m 1)=nHeaders m:=by simp[nm,titles,nHeaders]
 rw[Qm,hns]at ht
 rw[hns]at hn hb
 have hlen:(nHeaders m).length=m.Headers.l.length:=by simp[nHeaders]
 have hl:=ZkD m hT (nHeaders m) rfl .perm hn hb (nHeaders m).length 0 (by omega) (by omega)
 have hp:Zn m 1=Yw m.Headers.l.length 16 (YM m):=by simp[Zn]
 have hg:Yb 1 (.sl 1 [.int .i64 0,.int .i64 16,.int .i64 0,.int .i64 16,.int .i64 16,.int .i64 32,.int .i64 8,.int .i64 0,.int .i64 0,.int .i64 0,.int .i64 0,.int .i64 0,.int .i64 8,.int .i64 8,.int .i64 8] .ce) (.int .i64 1)=some (.eptr (.int .i64 16) 0 .ce):=rfl
 rw[hp,Za VT]
 unfold Yw
 rw[hlen]at hl
 rw[show((m.Headers.l.length:Nat):Int).toNat=m.Headers.l.length from rfl]
 generalize Xe (YM m) m.Headers.l.length 0=A at*
 have hsl:((nHeaders m).map V.str).length=m.Headers.l.length:=by simp[nHeaders]
 have hbl:Zo 0 ((nHeaders m).map V.str)=true:=Z6 _ _
 generalize (nHeaders m).map V.str=sl at*
 by_cases c:(16:Int)<m.Headers.l.length
 ·rw[if_pos c]
  simp -implicitDefEqProofs [ht,hsl,hbl,ZZ,hg,c]
 ·rw[if_neg c]
  cases A with
  |none=>simp -implicitDefEqProofs [ht,hsl,hbl,ZZ,hg,c,hl]
  |some q=>simp -implicitDefEqProofs [ht,hsl,hbl,ZZ,hg,c,hl]
include hT in
theorem ZlA:Zc vp 843 [m.v,.int .i64 3]=some (.tup [.int .i64 (Zn m 3).1,.int .i64 (Zn m 3).2]):=by
 have ht:=Wv m 3 hT.held
 obtain⟨hn,hb⟩:=Vf hT 3
 have hns:nm (titles m 3)=nMetas m:=by simp[nm,titles,nMetas]
 rw[Qm,hns]at ht
 rw[hns]at hn hb
 have hlen:(nMetas m).length=m.Metas.l.length:=by simp[nMetas]
 have get: ∀i:Int,0≤i→i<(nMetas m).length→∃x,Zh m.Metas.l i=some x:=fun i h0 h1=>by
  rcases Zm m.Metas.l i with⟨x,_,_,hg⟩|⟨h,_⟩
  ·exact⟨x,hg⟩
  ·omega
 have hl:=WV m 3 (by omega) (nMetas m) .perm hn hb (fun i=>match Zh m.Metas.l i with|some x=>Zl (inB x.W.n 1 128) 9|none=>0)
  (fun i h0 h1=>by obtain⟨x,hg⟩:=get i h0 h1;have:=Zgk m i hg;rw[this,hg])
  (Qe m) (fun i h0 h1=>by obtain⟨x,hg⟩:=get i h0 h1;rw[Zn3 m hg,hg]) (nMetas m).length 0 (by omega) (by omega)
 have hp:Zn m 3=Yw m.Metas.l.length 16 (Qe m):=by simp[Zn]
 have hg:Yb 1 (.sl 1 [.int .i64 0,.int .i64 16,.int .i64 0,.int .i64 16,.int .i64 16,.int .i64 32,.int .i64 8,.int .i64 0,.int .i64 0,.int .i64 0,.int .i64 0,.int .i64 0,.int .i64 8,.int .i64 8,.int .i64 8] .ce) (.int .i64 3)=some (.eptr (.int .i64 16) 0 .ce):=rfl
 rw[hp,Za VT]
 unfold Yw
 rw[hlen]at hl
 rw[show((m.Metas.l.length:Nat):Int).toNat=m.Metas.l.length from rfl]
 generalize Xe (Qe m) m.Metas.l.length 0=A at*
 have hsl:((nMetas m).map V.str).length=m.Metas.l.length:=by simp[nMetas]
 have hbl:Zo 0 ((nMetas m).map V.str)=true:=Z6 _ _
 generalize (nMetas m).map V.str=sl at*
 by_cases c:(16:Int)<m.Metas.l.length
 ·rw[if_pos c]
  simp -implicitDefEqProofs [ht,hsl,hbl,ZZ,hg,c]
 ·rw[if_neg c]
  cases A with
  |none=>simp -implicitDefEqProofs [ht,hsl,hbl,ZZ,hg,c,hl]
  |some q=>simp -implicitDefEqProofs [ht,hsl,hbl,ZZ,hg,c,hl]
include hm hT in
theorem Zkb(hh:Jx m):Zc vp 843 [m.v,.int .i64 4]=some (.tup [.int .i64 (Zn m 4).1,.int .i64 (Zn m 4).2]):=by
 have ht:=Wv m 4 hT.held
 obtain⟨hn,hb⟩:=Vf hT 4
 have hns:nm (titles m 4)=nStates m:=by simp[nm,titles,nStates]
 rw[Qm,hns]at ht
 rw[hns]at hn hb
 have hlen:(nStates m).length=m.States.l.length:=by simp[nStates]
 have get: ∀i:Int,0≤i→i<(nStates m).length→∃x,Zh m.States.l i=some x:=fun i h0 h1=>by
  rcases Zm m.States.l i with⟨x,_,_,hg⟩|⟨h,_⟩
  ·exact⟨x,hg⟩
  ·omega
 have hl:=WV m 4 (by omega) (nStates m) .perm hn hb (fun i=>match Zh m.States.l i with|some x=>stN m x|none=>0)
  (fun i h0 h1=>by obtain⟨x,hg⟩:=get i h0 h1;have:=Zh4 m hm hT.insts hh i hg;rw[this,hg])
  (W6 m) (fun i h0 h1=>by obtain⟨x,hg⟩:=get i h0 h1;rw[Zlf m hg,hg]) (nStates m).length 0 (by omega) (by omega)
 have hp:Zn m 4=(if m.States.l.length=0 then(0,5)else Yw m.States.l.length 16 (W6 m)):=by simp[Zn]
 have hg:Yb 1 (.sl 1 [.int .i64 0,.int .i64 16,.int .i64 0,.int .i64 16,.int .i64 16,.int .i64 32,.int .i64 8,.int .i64 0,.int .i64 0,.int .i64 0,.int .i64 0,.int .i64 0,.int .i64 8,.int .i64 8,.int .i64 8] .ce) (.int .i64 4)=some (.eptr (.int .i64 16) 0 .ce):=rfl
 rw[hp,Za VT]
 unfold Yw
 rw[hlen]at hl
 rw[show((m.States.l.length:Nat):Int).toNat=m.States.l.length from rfl]
 generalize Xe (W6 m) m.States.l.length 0=A at*
 have hsl:((nStates m).map V.str).length=m.States.l.length:=by simp[nStates]
 have hbl:Zo 0 ((nStates m).map V.str)=true:=Z6 _ _
 generalize (nStates m).map V.str=sl at*
 by_cases z:m.States.l.length=0
 ·have z':m.States.l=[]:=List.length_eq_zero_iff.1 z
  rw[if_pos z]
  rw[z]at hsl
  have hs0:sl=[]:=List.length_eq_zero_iff.1 hsl
  subst hs0
  simp -implicitDefEqProofs [ht,ZZ,hg]
 rw[if_neg z]
 have z': ¬m.States.l=[]:=fun h=>z (by rw[h];rfl)
 by_cases c:(16:Int)<m.States.l.length
 ·rw[if_pos c]
  simp -implicitDefEqProofs [ht,hsl,hbl,ZZ,hg,c,z']
 ·rw[if_neg c]
  cases A with
  |none=>simp -implicitDefEqProofs [ht,hsl,hbl,ZZ,hg,c,hl,z']
  |some q=>simp -implicitDefEqProofs [ht,hsl,hbl,ZZ,hg,c,hl,z']
include hm hT in
theorem Zkf:Zc vp 843 [m.v,.int .i64 5]=some (.tup [.int .i64 (Zn m 5).1,.int .i64 (Zn m 5).2]):=by
 have ht:=Wv m 5 hT.held
 obtain⟨hn,hb⟩:=Vf hT 5
 have hns:nm (titles m 5)=nActions m:=by simp[nm,titles,nActions]
 rw[Qm,hns]at ht
 rw[hns]at hn hb
 have hlen:(nActions m).length=m.Actions.l.length:=by simp[nActions]
 have get: ∀i:Int,0≤i→i<(nActions m).length→∃x,Zh m.Actions.l i=some x:=fun i h0 h1=>by
  rcases Zm m.Actions.l i with⟨x,_,_,hg⟩|⟨h,_⟩
  ·exact⟨x,hg⟩
  ·omega
 have hl:=WV m 5 (by omega) (nActions m) .perm hn hb (fun i=>match Zh m.Actions.l i with|some x=>ZmI m x|none=>0)
  (fun i h0 h1=>by obtain⟨x,hg⟩:=get i h0 h1;have:=Zhz m hm hT.insts i hg;rw[this,hg])
  (Xa m) (fun i h0 h1=>by obtain⟨x,hg⟩:=get i h0 h1;rw[ZhL m hg,hg]) (nActions m).length 0 (by omega) (by omega)
 have hp:Zn m 5=Yw m.Actions.l.length 32 (Xa m):=by simp[Zn]
 have hg:Yb 1 (.sl 1 [.int .i64 0,.int .i64 16,.int .i64 0,.int .i64 16,.int .i64 16,.int .i64 32,.int .i64 8,.int .i64 0,.int .i64 0,.int .i64 0,.int .i64 0,.int .i64 0,.int .i64 8,.int .i64 8,.int .i64 8] .ce) (.int .i64 5)=some (.eptr (.int .i64 32) 0 .ce):=rfl
 rw[hp,Za VT]
 unfold Yw
 rw[hlen]at hl
 rw[show((m.Actions.l.length:Nat):Int).toNat=m.Actions.l.length from rfl]
 generalize Xe (Xa m) m.Actions.l.length 0=A at*
 have hsl:((nActions m).map V.str).length=m.Actions.l.length:=by simp[nActions]
 have hbl:Zo 0 ((nActions m).map V.str)=true:=Z6 _ _
 generalize (nActions m).map V.str=sl at*
 by_cases c:(32:Int)<m.Actions.l.length
 ·rw[if_pos c]
  simp -implicitDefEqProofs [ht,hsl,hbl,ZZ,hg,c]
 ·rw[if_neg c]
  cases A with
  |none=>simp -implicitDefEqProofs [ht,hsl,hbl,ZZ,hg,c,hl]
  |some q=>simp -implicitDefEqProofs [ht,hsl,hbl,ZZ,hg,c,hl]
include hm hT in
theorem Zlp:Zc vp 843 [m.v,.int .i64 6]=some (.tup [.int .i64 (Zn m 6).1,.int .i64 (Zn m 6).2]):=by
 have ht:=Wv m 6 hT.held
 obtain⟨hn,hb⟩:=Vf hT 6
 have hns:nm (titles m 6)=nTables m:=by simp[nm,titles,nTables]
 rw[Qm,hns]at ht
 rw[hns]at hn hb
 have hlen:(nTables m).length=m.Tables.l.length:=by simp[nTables]
 have get: ∀i:Int,0≤i→i<(nTables m).length→∃x,Zh m.Tables.l i=some x:=fun i h0 h1=>by
  rcases Zm m.Tables.l i with⟨x,_,_,hg⟩|⟨h,_⟩
  ·exact⟨x,hg⟩
  ·omega
 have hl:=WV m 6 (by omega) (nTables m) .perm hn hb (fun i=>match Zh m.Tables.l i with|some x=>Zk1 m x|none=>0)
  (fun i h0 h1=>by obtain⟨x,hg⟩:=get i h0 h1;have:=Zh7 m hm hT.insts i hg;rw[this,hg])
  (WE m) (fun i h0 h1=>by obtain⟨x,hg⟩:=get i h0 h1;rw[Zk9 m hg,hg]) (nTables m).length 0 (by omega) (by omega)
 have hp:Zn m 6=Yw m.Tables.l.length 8 (WE m):=by simp[Zn]
 have hg:Yb 1 (.sl 1 [.int .i64 0,.int .i64 16,.int .i64 0,.int .i64 16,.int .i64 16,.int .i64 32,.int .i64 8,.int .i64 0,.int .i64 0,.int .i64 0,.int .i64 0,.int .i64 0,.int .i64 8,.int .i64 8,.int .i64 8] .ce) (.int .i64 6)=some (.eptr (.int .i64 8) 0 .ce):=rfl
 rw[hp,Za VT]
 unfold Yw
 rw[hlen]at hl
 rw[show((m.Tables.l.length:Nat):Int).toNat=m.Tables.l.length from rfl]
 generalize Xe (WE m) m.Tables.l.length 0=A at*
 have hsl:((nTables m).map V.str).length=m.Tables.l.length:=by simp[nTables]
 have hbl:Zo 0 ((nTables m).map V.str)=true:=Z6 _ _
 generalize (nTables m).map V.str=sl at*
 by_cases c:(8:Int)<m.Tables.l.length
 ·rw[if_pos c]
  simp -implicitDefEqProofs [ht,hsl,hbl,ZZ,hg,c]
 ·rw[if_neg c]
  cases A with
  |none=>simp -implicitDefEqProofs [ht,hsl,hbl,ZZ,hg,c,hl]
  |some q=>simp -implicitDefEqProofs [ht,hsl,hbl,ZZ,hg,c,hl]
include hT in
theorem Zgh:Zc vp 843 [m.v,.int .i64 12]=some (.tup [.int .i64 (Zn m 12).1,.int .i64 (Zn m 12).2]):=by
 have ht:=Wv m 12 hT.held
 obtain⟨hn,hb⟩:=Vf hT 12
 have hns:nm (titles m 12)=nRegs m:=by simp[nm,titles,nRegs]
 rw[Qm,hns]at ht
 rw[hns]at hn hb
 have hlen:(nRegs m).length=m.Regs.l.length:=by simp[nRegs]
 have get: ∀i:Int,0≤i→i<(nRegs m).length→∃x,Zh m.Regs.l i=some x:=fun i h0 h1=>by
  rcases Zm m.Regs.l i with⟨x,_,_,hg⟩|⟨h,_⟩
  ·exact⟨x,hg⟩
  ·omega
 have hl:=WV m 12 (by omega) (nRegs m) .perm hn hb (fun i=>match Zh m.Regs.l i with|some x=>if inB x.W.n 1 128=false then 9 else XL x.Log.n|none=>0)
  (fun i h0 h1=>by obtain⟨x,hg⟩:=get i h0 h1;have:=Zep m i hg;rw[this,hg])
  (Zaq m) (fun i h0 h1=>by obtain⟨x,hg⟩:=get i h0 h1;rw[Zp9 m hg,hg]) (nRegs m).length 0 (by omega) (by omega)
 have hp:Zn m 12=Yw m.Regs.l.length 8 (Zaq m):=by simp[Zn]
 have hg:Yb 1 (.sl 1 [.int .i64 0,.int .i64 16,.int .i64 0,.int .i64 16,.int .i64 16,.int .i64 32,.int .i64 8,.int .i64 0,.int .i64 0,.int .i64 0,.int .i64 0,.int .i64 0,.int .i64 8,.int .i64 8,.int .i64 8] .ce) (.int .i64 12)=some (.eptr (.int .i64 8) 0 .ce):=rfl
 rw[hp,Za VT]
 unfold Yw
 rw[hlen]at hl
 rw[show((m.Regs.l.length:Nat):Int).toNat=m.Regs.l.length from rfl]
 generalize Xe (Zaq m) m.Regs.l.length 0=A at*
 have hsl:((nRegs m).map V.str).length=m.Regs.l.length:=by simp[nRegs]
 have hbl:Zo 0 ((nRegs m).map V.str)=true:=Z6 _ _
 generalize (nRegs m).map V.str=sl at*
 by_cases c:(8:Int)<m.Regs.l.length
 ·rw[if_pos c]
  simp -implicitDefEqProofs [ht,hsl,hbl,ZZ,hg,c]
 ·rw[if_neg c]
  cases A with
  |none=>simp -implicitDefEqProofs [ht,hsl,hbl,ZZ,hg,c,hl]
  |some q=>simp -implicitDefEqProofs [ht,hsl,hbl,ZZ,hg,c,hl]
include hT in
theorem Zgv:Zc vp 843 [m.v,.int .i64 13]=some (.tup [.int .i64 (Zn m 13).1,.int .i64 (Zn m 13).2]):=by
 have ht:=Wv m 13 hT.held
 obtain⟨hn,hb⟩:=Vf hT 13
 have hns:nm (titles m 13)=nCounters m:=by simp[nm,titles,nCounters]
 rw[Qm,hns]at ht
 rw[hns]at hn hb
 have hlen:(nCounters m).length=m.Counters.l.length:=by simp[nCounters]
 have get: ∀i:Int,0≤i→i<(nCounters m).length→∃x,Zh m.Counters.l i=some x:=fun i h0 h1=>by
  rcases Zm m.Counters.l i with⟨x,_,_,hg⟩|⟨h,_⟩
  ·exact⟨x,hg⟩
  ·omega
 have hl:=WV m 13 (by omega) (nCounters m) .perm hn hb (fun i=>match Zh m.Counters.l i with|some x=>XL x.Log.n|none=>0)
  (fun i h0 h1=>by obtain⟨x,hg⟩:=get i h0 h1;have:=ZfK m i hg;rw[this,hg])
  (XH m) (fun i h0 h1=>by obtain⟨x,hg⟩:=get i h0 h1;rw[Zev m hg,hg]) (nCounters m).length 0 (by omega) (by omega)
 have hp:Zn m 13=Yw m.Counters.l.length 8 (XH m):=by simp[Zn]
 have hg:Yb 1 (.sl 1 [.int .i64 0,.int .i64 16,.int .i64 0,.int .i64 16,.int .i64 16,.int .i64 32,.int .i64 8,.int .i64 0,.int .i64 0,.int .i64 0,.int .i64 0,.int .i64 0,.int .i64 8,.int .i64 8,.int .i64 8] .ce) (.int .i64 13)=some (.eptr (.int .i64 8) 0 .ce):=rfl
 rw[hp,Za VT]
 unfold Yw
 rw[hlen]at hl
 rw[show((m.Counters.l.length:Nat):Int).toNat=m.Counters.l.length from rfl]
 generalize Xe (XH m) m.Counters.l.length 0=A at*
 have hsl:((nCounters m).map V.str).length=m.Counters.l.length:=by simp[nCounters]
 have hbl:Zo 0 ((nCounters m).map V.str)=true:=Z6 _ _
 generalize (nCounters m).map V.str=sl at*
 by_cases c:(8:Int)<m.Counters.l.length
 ·rw[if_pos c]
  simp -implicitDefEqProofs [ht,hsl,hbl,ZZ,hg,c]
 ·rw[if_neg c]
  cases A with
  |none=>simp -implicitDefEqProofs [ht,hsl,hbl,ZZ,hg,c,hl]
  |some q=>simp -implicitDefEqProofs [ht,hsl,hbl,ZZ,hg,c,hl]
include hT in
theorem Zgl:Zc vp 843 [m.v,.int .i64 14]=some (.tup [.int .i64 (Zn m 14).1,.int .i64 (Zn m 14).2]):=by
 have ht:=Wv m 14 hT.held
 obtain⟨hn,hb⟩:=Vf hT 14
 have hns:nm (titles m 14)=nMeters m:=by simp[nm,titles,nMeters]
 rw[Qm,hns]at ht
 rw[hns]at hn hb
 have hlen:(nMeters m).length=m.Meters.l.length:=by simp[nMeters]
 have get: ∀i:Int,0≤i→i<(nMeters m).length→∃x,Zh m.Meters.l i=some x:=fun i h0 h1=>by
  rcases Zm m.Meters.l i with⟨x,_,_,hg⟩|⟨h,_⟩
  ·exact⟨x,hg⟩
  ·omega
 have hl:=WV m 14 (by omega) (nMeters m) .perm hn hb (fun i=>match Zh m.Meters.l i with|some x=>if XL x.Log.n=0 then Zl (inB x.Rate.n 0 65535&&inB x.Burst.n 1 1048576) 7 else 7|none=>0)
  (fun i h0 h1=>by obtain⟨x,hg⟩:=get i h0 h1;have:=ZeW m i hg;rw[this,hg])
  (Vm m) (fun i h0 h1=>by obtain⟨x,hg⟩:=get i h0 h1;rw[ZjS m hg,hg]) (nMeters m).length 0 (by omega) (by omega)
 have hp:Zn m 14=Yw m.Meters.l.length 8 (Vm m):=by simp[Zn]
 have hg:Yb 1 (.sl 1 [.int .i64 0,.int .i64 16,.int .i64 0,.int .i64 16,.int .i64 16,.int .i64 32,.int .i64 8,.int .i64 0,.int .i64 0,.int .i64 0,.int .i64 0,.int .i64 0,.int .i64 8,.int .i64 8,.int .i64 8] .ce) (.int .i64 14)=some (.eptr (.int .i64 8) 0 .ce):=rfl
 rw[hp,Za VT]
 unfold Yw
 rw[hlen]at hl
 rw[show((m.Meters.l.length:Nat):Int).toNat=m.Meters.l.length from rfl]
 generalize Xe (Vm m) m.Meters.l.length 0=A at*
 have hsl:((nMeters m).map V.str).length=m.Meters.l.length:=by simp[nMeters]
 have hbl:Zo 0 ((nMeters m).map V.str)=true:=Z6 _ _
 generalize (nMeters m).map V.str=sl at*
 by_cases c:(8:Int)<m.Meters.l.length
 ·rw[if_pos c]
  simp -implicitDefEqProofs [ht,hsl,hbl,ZZ,hg,c]
 ·rw[if_neg c]
  cases A with
  |none=>simp -implicitDefEqProofs [ht,hsl,hbl,ZZ,hg,c,hl]
  |some q=>simp -implicitDefEqProofs [ht,hsl,hbl,ZZ,hg,c,hl]
end
theorem Zof(m:Zb)(hm:Clo m)(hT:Zdn m)(p:Int)(h0:0≤p)(h1:p<15)(hH:1<p→Za7 m)(hI:2<p→Jx m):Zc vp 843 [m.v,.int .i64 p]=some (.tup [.int .i64 (Zn m p).1,.int .i64 (Zn m p).2]):=by
 have hp:p=0∨p=1∨p=2∨p=3∨p=4∨p=5∨p=6∨p=7∨p=8∨p=9∨p=10∨p=11∨p=12∨p=13∨p=14:=by omega
 rcases hp with rfl|rfl|rfl|rfl|rfl|rfl|rfl|rfl|rfl|rfl|rfl|rfl|rfl|rfl|rfl
 ·exact ZkF m hT
 ·exact Zk4 m hT
 ·exact ZjN m hT
 ·exact ZlA m hT
 ·exact Zkb m hm hT (hI (by omega))
 ·exact Zkf m hm hT
 ·exact Zlp m hm hT
 ·exact Zks m hm hT
 ·exact Zlw m hm hT
 ·exact ZkL m hm hT
 ·exact Zhw m hm hT (hH (by omega))
 ·exact Zgu m hm hT (hH (by omega))
 ·exact Zgh m hT
 ·exact Zgv m hT
 ·exact Zgl m hT
theorem Zoa(m:Zb)(hm:Clo m)(hT:Zdn m): ∀(j:Nat) (k:Int),0≤k→k+j=15→(1<k→Za7 m)→(2<k→Jx m)→(orc vp).loop 0 [1,5] Zh2 [(1,.ptr 0 1 0 0),(5,.int .i64 k)] [.arr [m.v]]=
 (match XS m j k with
  |none=>some (.brk 0,[(1,.ptr 0 1 0 0),(5,.int .i64 15),(9,.bool false)],[.arr [m.v]])
  |some (p,n,e)=>some (.ret,[(2,.int .i64 p),(3,.int .i64 n),(4,.int .i64 e)],[.arr [m.v]])):=by
 intro j
 induction j with
 |zero=>
  intro k hk hkn _ _
  have:k=15:=by omega
  subst this
  rw[Zje]
  simp -implicitDefEqProofs [XS]
 |succ j ih=>
  intro k hk hkn hH hI
  have hlt:k<15:=by omega
  have w1:=w64 (n:=k+1) (by omega)
  have hp:=Zof m hm hT k hk hlt hH hI
  rw[Zje]
  by_cases c:(Zn m k).2=0
  ·have ih:=ih (k+1) (by omega) (by omega) (fun h=>by
    by_cases h2:1<k
    ·exact hH h2
    ·have:k=1:=by omega
     subst this
     exact Zmz c) (fun h=>by
    by_cases h2:2<k
    ·exact hI h2
    ·have:k=2:=by omega
     subst this
     exact Zl2 c)
   simp -implicitDefEqProofs [hlt,hp,c,w1,ih,XS]
  ·simp -implicitDefEqProofs [hlt,hp,c,XS]
def J4(m:Zb):Int ×Int ×Int:=(Yr m).getD (0,0,0)
theorem Zmw(m:Zb)(hm:Clo m)(hT:Zdn m):Zc vp 828 [m.v]=some (.tup [.int .i64 (J4 m).1,.int .i64 (J4 m).2.1,.int .i64 (J4 m).2.2]):=by
 have hl:=Zoa m hm hT 15 0 (by omega) (by omega) (by omega) (by omega)
 unfold J4 Yr
 rw[Za Zxz]
 cases hc:XS m 15 0 with
 |none=>
  rw[hc]at hl
  simp -implicitDefEqProofs [hl]
 |some q=>
  obtain⟨p,n,e⟩:=q
  rw[hc]at hl
  simp -implicitDefEqProofs [hl]
end Go.VE.Un
namespace Go.VE.Un
open Go.VE
theorem X6{α:Type}{z:Nat}{f:α→V}{x:GL α}(h:UN (some 1048576) (GL.v z f x)=true):x.l.length≤1048576∧∀y∈x.l,UN (some 1048576) (f y)=true:=by
 simp only[GL.v,UN,leO,Bool.and_eq_true,decide_eq_true_eq,List.length_map]at h
 exact⟨h.1,fun y hy=>JM.1 h.2 _ (List.mem_map.2 ⟨y,hy,rfl⟩)⟩
theorem We{s:List UInt8}{l:List V}(h:UN (some 1048576) (.agg (.str s::l))=true):s.length≤1048576:=by
 simp only[UN,Ua,leO,Bool.and_eq_true,decide_eq_true_eq]at h;exact h.1
theorem Zp5{a b:V}{l:List V}(h:UN (some 1048576) (.agg (a::b::l))=true):UN (some 1048576) b=true:=by
 simp only[UN,Ua,Bool.and_eq_true]at h;exact h.2.1
theorem Zeq{m:Zb}(h:UN (some 1048576) m.v=true):Zdn m∧Z2 m:=by
 simp only[Zb.v_eq,UN,Ua,Bool.and_eq_true]at h
 obtain⟨h0,h1,h2,h3,h4,h5,h6,h7,h8,h9,h10,h11,h12,h13,h14,_⟩:=h
 simp only[leO,decide_eq_true_eq]at h0
 obtain⟨l1,g1⟩:=X6 h1;obtain⟨l2,g2⟩:=X6 h2;obtain⟨l3,g3⟩:=X6 h3;obtain⟨l4,g4⟩:=X6 h4
 obtain⟨l5,g5⟩:=X6 h5;obtain⟨l6,g6⟩:=X6 h6;obtain⟨l12,g12⟩:=X6 h12;obtain⟨l13,g13⟩:=X6 h13;obtain⟨l14,g14⟩:=X6 h14
 have n1: ∀x∈m.Headers.l,x.Name.s.length≤1048576:=fun x hx=>We (g1 x hx)
 have n2: ∀x∈m.Insts.l,x.Name.s.length≤1048576:=fun x hx=>We (g2 x hx)
 have n3: ∀x∈m.Metas.l,x.Name.s.length≤1048576:=fun x hx=>We (g3 x hx)
 have n4: ∀x∈m.States.l,x.Name.s.length≤1048576:=fun x hx=>We (g4 x hx)
 have n5: ∀x∈m.Actions.l,x.Name.s.length≤1048576:=fun x hx=>We (g5 x hx)
 have n6: ∀x∈m.Tables.l,x.Name.s.length≤1048576:=fun x hx=>We (g6 x hx)
 have n12: ∀x∈m.Regs.l,x.Name.s.length≤1048576:=fun x hx=>We (g12 x hx)
 have n13: ∀x∈m.Counters.l,x.Name.s.length≤1048576:=fun x hx=>We (g13 x hx)
 have n14: ∀x∈m.Meters.l,x.Name.s.length≤1048576:=fun x hx=>We (g14 x hx)
 have nf: ∀h∈m.Headers.l,∀f∈h.Fields.l,f.Name.s.length≤1048576:=fun h hh f hf=>We ((X6 (Zp5 (g1 h hh))).2 f hf)
 have lt: ∀{n:Nat},n≤1048576→n≤17592186044416:=fun h=>by omega
 have lu: ∀{n:Nat},n≤1048576→n≤35184372088831:=fun h=>by omega
 refine⟨⟨lt h0,fun h hh _ f hf=>lt (nf h hh f hf),fun _ x hx=>lt (n2 x hx),fun p x hx=> ?_,by omega,⟨by omega,by omega,by omega,by omega,by omega,by omega,by omega,by omega⟩⟩,⟨fun h hh _ f hf=>lu (nf h hh f hf),fun _ x hx=>lu (n2 x hx),fun x hx=>lu (n1 x hx),fun x hx=>lu (n3 x hx),fun x hx=>lu (n12 x hx),fun x hx=>lu (n13 x hx),fun x hx=>lu (n14 x hx),fun x hx=>lu (n4 x hx),fun x hx=>lu (n5 x hx),fun x hx=>lu (n6 x hx)⟩⟩
 unfold titles at hx
 split at hx
 ·obtain⟨y,hy,rfl⟩:=List.mem_map.1 hx;exact lt (n1 y hy)
 split at hx
 ·obtain⟨y,hy,rfl⟩:=List.mem_map.1 hx;exact lt (n3 y hy)
 split at hx
 ·obtain⟨y,hy,rfl⟩:=List.mem_map.1 hx;exact lt (n4 y hy)
 split at hx
 ·obtain⟨y,hy,rfl⟩:=List.mem_map.1 hx;exact lt (n5 y hy)
 split at hx
 ·obtain⟨y,hy,rfl⟩:=List.mem_map.1 hx;exact lt (n6 y hy)
 split at hx
 ·obtain⟨y,hy,rfl⟩:=List.mem_map.1 hx;exact lt (n12 y hy)
 split at hx
 ·obtain⟨y,hy,rfl⟩:=List.mem_map.1 hx;exact lt (n13 y hy)
 split at hx
 ·obtain⟨y,hy,rfl⟩:=List.mem_map.1 hx;exact lt (n14 y hy)
 ·simp at hx
def ZaS(m:Zb):Int:=(m.Headers.l.length:Int)+m.Insts.l.length+m.States.l.length+m.Actions.l.length+m.Tables.l.length+m.Ingress.l.length+m.Egress.l.length
def Zac(m:Zb):Bool:=decide (ZaS m≤150)&&decide ((J4 m).2.2=0)
theorem Zbi{m:Zb}: ∀{j:Nat} {k p n e:Int},XS m j k=some (p,n,e)→e≠0
 |0,k,_,_,_,h=>by simp[XS]at h
 |j+1,k,p,n,e,h=>by
  simp only[XS]at h
  split at h
  ·exact Zbi h
  ·rename_i c;simp at h;rw[←h.2.2];exact c
theorem Znh{m:Zb}(h:Zac m=true):Yr m=none∧ZaS m≤150:=by
 unfold Zac at h
 simp only[Bool.and_eq_true,decide_eq_true_eq]at h
 refine⟨?_,h.1⟩
 cases hc:Yr m with
 |none=>rfl
 |some q=>obtain⟨p,n,e⟩:=q;rw[J4,hc]at h;exact absurd h.2 (Zbi hc)
end Go.VE.Un
namespace Go.VE.Un
open Go.VE
abbrev Sl:=BitVec 64
def sV(s:Sl):V:=.int .u64 (s.toNat:Int)
@[simp] theorem ZvV(k:Nat)(s:Sl):Zk k (sV s)=true:=rfl
@[simp] theorem ZuV(s:Sl):Ze (sV s)=true:=rfl
@[simp] theorem ZCX(s:Sl):okV (sV s)=true:=rfl
@[simp] theorem ZCj(s:Sl):Vv (sV s)=true:=rfl
@[simp] theorem ZCG(s:Sl)(n:Nat):ldc (sV s) false n 0=some (sV s):=rfl
@[simp] theorem Zy5(s:Sl):(sV s).cells=[sV s]:=rfl
theorem Zcc:V.int .u64 0=sV 0:=rfl
theorem Uu(s:Sl):BitVec.ofInt 64 (s.toNat:Int)=s:=by simp
theorem Zil(n:Nat)(h:n<18446744073709551616):IntKind.u64.wrap (n:Int)=n:=Zb8 (by omega) (by omega)
theorem Zt6(a b:Sl):Yh .and (sV a) (sV b)=some (sV (a&&&b)):=by
 unfold sV;rw[Zih]
 show some (V.int .u64 (IntKind.u64.wrap ((BitVec.ofInt 64 (a.toNat:Int)&&&BitVec.ofInt 64 (b.toNat:Int)).toNat:Int)))=_
 rw[Uu,Uu,Zil _ (a&&&b).isLt]
theorem Zzi(a b:Sl):Yh .or (sV a) (sV b)=some (sV (a|||b)):=by
 unfold sV;rw[Zm8]
 show some (V.int .u64 (IntKind.u64.wrap ((BitVec.ofInt 64 (a.toNat:Int)|||BitVec.ofInt 64 (b.toNat:Int)).toNat:Int)))=_
 rw[Uu,Uu,Zil _ (a|||b).isLt]
theorem ZjH(a b:Sl):Yh .andNot (sV a) (sV b)=some (sV (a&&& ~~~b)):=by
 unfold sV;rw[Zf5]
 show some (V.int .u64 (IntKind.u64.wrap ((BitVec.ofInt 64 (a.toNat:Int)&&& ~~~(BitVec.ofInt 64 (b.toNat:Int))).toNat:Int)))=_
 rw[Uu,Uu,Zil _ (a&&& ~~~b).isLt]
theorem Zql(a:Sl):Yh .neq (sV a) (.int .u64 0)=some (.bool (a !=0)):=by
 unfold sV;rw[ZpJ]
 congr 2
 by_cases h:a=0
 ·subst h;rfl
 ·have:a.toNat≠0:=fun e=>h (BitVec.eq_of_toNat_eq (by simpa using e))
  have h2:(a !=0)=true:=bne_iff_ne.2 h
  rw[h2];simp;omega
theorem Zo5(a:Sl):Yh .eql (sV a) (.int .u64 0)=some (.bool (a==0)):=by
 unfold sV;rw[ZoI]
 congr 2
 by_cases h:a=0
 ·subst h;rfl
 ·have:a.toNat≠0:=fun e=>h (BitVec.eq_of_toNat_eq (by simpa using e))
  have h2:(a==0)=false:=beq_eq_false_iff_ne.2 h
  rw[h2];simp;omega
attribute [simp] Zt6 Zzi ZjH Zql Zo5
def Zbg(n:Int):Sl:=if 0≤n∧n<64 then BitVec.twoPow 64 n.toNat else 0
theorem Ztl(n:Int):Zc vp 465 [.int .i64 n]=some (sV (Zbg n)):=by
 rw[Za Zyh]
 by_cases h1:n<0
 ·have:Zbg n=0:=if_neg (by omega)
  rw[this]
  simp -implicitDefEqProofs [h1,sV]
 ·by_cases h2:64≤n
  ·have:Zbg n=0:=if_neg (by omega)
   rw[this]
   simp -implicitDefEqProofs [h1,h2,sV]
  ·have:Zbg n=BitVec.twoPow 64 n.toNat:=if_pos (by omega)
   have h3:(BitVec.twoPow 64 n.toNat).toNat=2^n.toNat:=by
    rw[BitVec.toNat_twoPow];exact Nat.mod_eq_of_lt (Nat.pow_lt_pow_right (by omega) (by omega))
   have b1:Yh .shl (.int .u64 1) (.int .i64 n)=some (sV (Zbg n)):=by
    rw[KU (a:=1) (b:=n) (k:=.u64) (k':=.i64) (by omega),this]
    have:min n.toNat IntKind.u64.bits=n.toNat:=by have:IntKind.u64.bits=64:=rfl;omega
    rw[this,Int.one_mul]
    unfold sV
    rw[h3]
    have h4:2^n.toNat<18446744073709551616:=Nat.lt_of_lt_of_eq (Nat.pow_lt_pow_right (m:=n.toNat) (n:=64) (a:=2) (by omega) (by omega)) (by decide)
    have:=Zil (2^n.toNat) h4
    rw[←this];norm_cast
   simp -implicitDefEqProofs [h1,h2,b1]
attribute [simp] Ztl
def JW(s:Sl)(n:Int):Bool:=(s&&&Zbg n) !=0
def VY(s:Sl)(n:Int):Sl:=s|||Zbg n
def Va(s:Sl)(n:Int):Sl:=s&&& ~~~Zbg n
@[simp] theorem ZA5(a b:Sl):Zc vp 323 [sV a,sV b]=some (sV (a&&&b)):=by
  rw[Za Zwi];simp -implicitDefEqProofs [b323]
@[simp] theorem ZCS(s:Sl)(n:Int):Zc vp 324 [sV s,.int .i64 n]=some (.bool (JW s n)):=by
  rw[Za ZyJ];simp -implicitDefEqProofs [JW]
@[simp] theorem ZAn(s:Sl)(n:Int):Zc vp 326 [sV s,.int .i64 n]=some (sV (VY s n)):=by
  rw[Za Zzj];simp -implicitDefEqProofs [VY]
def Km(f d n:Int)(s:Sl):Nat→Int→Sl→Sl
 |0,_,o=>o
 |j+1,i,o=>Km f d n s j (i+1) (if 0≤i-n∧i-n<d∧JW s (f+(i-n))=true then VY (Va o (f+i)) (f+i)else Va o (f+i))
def Uz(n:Int):Int:=max (-4) (min n 4)
def Q0(m:Zb)(i n:Int)(s:Sl):Sl:=match Z8 m i with|none=>s|some (f,d)=>Km f d (Uz n) s d.toNat 0 s
def Stk(m:Zb):Prop:= ∀i f d,Z8 m i=some (f,d)→0≤f∧0≤d∧f+d≤64
def YY(m:Zb)(x:Ins)(s:Sl):Sl ×Sl ×Int:=
 if x.Op.n=1∨x.Op.n=22 then(if JW s x.A.n=true then(s,s,0)else(0,0,11))
 else if x.Op.n=25 then(VY s x.A.n,0,0)
 else if x.Op.n=26 then(Va s x.A.n,0,0)
 else if x.Op.n=27 then(Q0 m x.A.n x.B.n s,0,0)
 else if x.Op.n=28 then(Q0 m x.A.n (-x.B.n) s,0,0)
 else if x.Op.n=33 then(VY s x.A.n,Va s x.A.n,0)
 else(s,s,0)
end Go.VE.Un
namespace Go.VE.Un
open Go.VE
def plV(p:Bool ×Sl):V:=.agg [.bool p.1,sV p.2]
@[simp] theorem Uy(k:Nat)(p:Bool ×Sl):Zk k (plV p)=true:=rfl
theorem ZDD(k:Nat): ∀P:List (Bool ×Sl),Zo k (P.map plV)=true
 |[]=>rfl
 |p::P=>by simp[ZDD k P]
def Js(p:Bool ×Sl)(s:Sl):Bool ×Sl:=if p.1=true then(true,p.2&&&s)else(true,s)
def atP(P:List (Bool ×Sl))(i:Nat)(s:Sl):List (Bool ×Sl):=P.set i (Js (P.getD i (false,0)) s)
@[simp] theorem ZAq(P:List (Bool ×Sl))(i:Nat)(s:Sl):(atP P i s).length=P.length:=by simp[atP]
def Ys(m:Zb)(n:Nat):List Ins→Nat→List (Bool ×Sl)→Option (Nat ×Int)×List (Bool ×Sl)
 |[],_,P=>(none,P)
 |x::r,i,P=>
  let p:=P.getD i (false,0)
  if p.1=false then Ys m n r (i+1) P else
  let q:=YY m x p.2
  if q.2.2≠0 then(some (i,q.2.2),P)else
  if x.Op.n=34 then Ys m n r (i+1) (atP P n p.2)else
  let P1:=match YL x with|some t=>atP P t.toNat q.2.1|none=>P
  Ys m n r (i+1) (if x.Op.n=31 then P1 else atP P1 (i+1) q.1)
def Yk(n:Nat)(s:Sl):List (Bool ×Sl):=(true,s)::List.replicate n (false,0)
end Go.VE.Un
namespace Go.VE
theorem Xd{β:Type}{O:Orc}{vp:VP}{lo:Nat}{fr:Fr}{h:Zg}{k:Fr→Zg→Option β}{d:VDt}{r:List VDt}{p:Nat}{rs:List Jf}(hd:d.it.dst.isSome=true):
 dK O vp lo (d::r) p rs fr h k=Zt O vp lo [d.it] fr h (fun fr' h'=>if(rs.all fun e=> !d.xl.contains e.p||ZT (Yv h' e.agg e.n e.a) e.v)=true then dK O vp lo r (p+1) (Xg p d.it fr h (lk fr' (d.it.dst.getD 0))++rs) fr' h' k else none):=by
 obtain⟨t,hd⟩:=Option.isSome_iff_exists.1 hd
 unfold dK Zt
 simp only[Ur,YN]
 cases ZY O vp lo d.it fr h with
 |none=>rfl
 |some x=>
  simp only[Option.bind_some,hd,ZnF,Option.getD_some,Zto]
  split<;>rfl
end Go.VE
namespace Go.VE.Un
open Go.VE
end Go.VE.Un
