/- Joined texts: PtL. No condition: what each theorem needs stands in it. -/
import Derived.Test.YthpccfpbghhpoaaGreatCc19
namespace Go.VE.Un
open Go.VE
theorem ZH9(m:Zb)(hm:Clo m)(hsm:Z2 m)(hc:Yr m=none)(N:GL Zs)(hcl:Ze (GL.v 6 Zs.v N)=true)(w:GL I64)(e1:List V)(n:Nat)(hn:N.l.length=n)(hn2:n≤32)(hg: ∀i x,Zh N.l i=some x→JD m n i x)(F S:List (Bool ×Sl))(hSl:S.length=n)(out:V)(stp:Int)
 (M:List Int) (hMn:M.getD n 0=0) (hM: ∀(k:Nat) x,N.l[k]? =some x→M.getD k 0=(if x.Kind.n=2 then M.getD x.Yes.n.toNat 0 else max (M.getD x.Yes.n.toNat 0) (M.getD x.No.n.toNat 0))+Qk m x)
 (hF: ∀(k:Nat) x,N.l[k]? =some x→rd F k=true→ZHL m x k F) (hS: ∀k,k<n→S[k]? =some (F.getD k (false,0))): ∀(j tn:Nat) (p:Int) (T:Sl) (c:Int),(n:Int)-p≤j→0≤p→p≤n→(tn:Int)≤p→rd F p.toNat=true→Xv (st F p.toNat) T→0≤c→c≤66*p→c+M.getD p.toNat 0≤stp→∃fr T2 c2 p2,Xv (st F n) T2∧c2≤stp∧(orc vp).loop 0 [3,8,9,11,12,13,14,15] ZHR [(3,.ptr 0 1 0 0),(8,GL.v 1 I64.v w),(9,.ptr 2 1 0 0),(11,GL.v 6 Zs.v N),(12,sV T),(13,.int .i64 p),(14,.int .i64 c),(15,.int .i64 tn)] [.arr [m.v],.arr e1,.arr [.agg [.sl 1 (bS S) (tg n),.sl 1 (sS S) (tg n),out,.int .i64 stp]]]=some (.brk 0,(3,.ptr 0 1 0 0)::(8,GL.v 1 I64.v w)::(9,.ptr 2 1 0 0)::(11,GL.v 6 Zs.v N)::(12,sV T2)::(13,p2)::(14,.int .i64 c2)::fr,[.arr [m.v],.arr e1,.arr [.agg [.sl 1 (bS S) (tg n),.sl 1 (sS S) (tg n),out,.int .i64 stp]]]):=by
 have fin: ∀(tn:Nat) (T:Sl) (c:Int),Xv (st F n) T→c≤stp→∃fr T2 c2 p2,Xv (st F n) T2∧c2≤stp∧(orc vp).loop 0 [3,8,9,11,12,13,14,15] ZHR [(3,.ptr 0 1 0 0),(8,GL.v 1 I64.v w),(9,.ptr 2 1 0 0),(11,GL.v 6 Zs.v N),(12,sV T),(13,.int .i64 n),(14,.int .i64 c),(15,.int .i64 tn)] [.arr [m.v],.arr e1,.arr [.agg [.sl 1 (bS S) (tg n),.sl 1 (sS S) (tg n),out,.int .i64 stp]]]=
  some (.brk 0,(3,.ptr 0 1 0 0)::(8,GL.v 1 I64.v w)::(9,.ptr 2 1 0 0)::(11,GL.v 6 Zs.v N)::(12,sV T2)::(13,p2)::(14,.int .i64 c2)::fr,[.arr [m.v],.arr e1,.arr [.agg [.sl 1 (bS S) (tg n),.sl 1 (sS S) (tg n),out,.int .i64 stp]]]):=by
  intro tn T c hS hcs
  refine⟨[(15,.int .i64 tn),(69,.bool false)],T,c,.int .i64 n,hS,hcs,?_⟩
  rw[Q2]
  simp -implicitDefEqProofs [Q1,hn]
 intro j
 induction j with
 |zero=>
  intro tn p T c hj h0 h1 ht hr hT hc0 hc1 hcM
  have:p=n:=by omega
  subst this
  rw[Int.toNat_natCast]at hT hcM
  exact fin tn T c hT (by omega)
 |succ j ih=>
  intro tn p T c hj h0 h1 ht hr hT hc0 hc1 hcM
  by_cases hp:p=n
  ·subst hp
   rw[Int.toNat_natCast]at hT hcM
   exact fin tn T c hT (by omega)
  ·have hk:p.toNat<N.l.length:=by omega
   have hx:N.l[p.toNat]? =some N.l[p.toNat]:=List.getElem?_eq_getElem hk
   have hx':Zh N.l p=some N.l[p.toNat]:=by unfold Zh;rw[if_pos h0];exact hx
   have hgx:=hg p _ hx'
   have hSp:Zh S p=some (F.getD p.toNat (false,0)):=by unfold Zh;rw[if_pos h0];exact hS _ (by omega)
   obtain⟨p2,T2,t1,t2,t3,t4⟩:=ZH6 m hm hsm hc N hcl w e1 n hn hn2 F S hSl out stp p _ hx' hgx (hF _ _ hx hr) hSp hr T hT tn ht c hc0 hc1
   have hcb:=Zox hc hgx
   have hMk:=hM _ _ hx
   have hy:=hgx.yes
   have hno:=hgx.no
   rw[t4]
   refine ih (tn+1) p2 T2 _ ?_ ?_ ?_ ?_ t2 t3 (by omega) ?_ ?_
   ·rcases t1 with rfl|⟨k2,rfl⟩
    ·omega
    ·have:=hno k2;omega
   ·rcases t1 with rfl|⟨k2,rfl⟩
    ·omega
    ·have:=hno k2;omega
   ·rcases t1 with rfl|⟨k2,rfl⟩
    ·omega
    ·have:=hno k2;omega
   ·rcases t1 with rfl|⟨k2,rfl⟩
    ·omega
    ·have:=hno k2;omega
   ·rcases t1 with rfl|⟨k2,rfl⟩
    ·omega
    ·have:=hno k2;omega
   ·rcases t1 with rfl|⟨k2,rfl⟩
    ·split at hMk<;>omega
    ·rw[if_neg k2]at hMk;omega
set_option maxRecDepth 100000 in
set_option maxHeartbeats 4000000 in
theorem pathsSound(m:Zb)(hm:Clo m)(hT:Zdn m)(hsm:Z2 m)(eg:Bool)(a w:GL I64)(hlv:Zc vp 714 []=some (.bool true)):
 Zc vp 713 [m.v,.bool eg,.agg [GL.v 1 I64.v a,GL.v 1 I64.v w]]=some (.bool true):=by
 have hr:=Znk m hm hT
 rw[Za ZId]
 cases h:Zac m
 ·simp -implicitDefEqProofs [f713,b713,hr,h,hlv]
 by_cases h2:(70:Int)<a.l.length
 ·simp -implicitDefEqProofs [f713,b713,hr,h,hlv,h2]
 obtain⟨hci,_⟩:=Znh h
 have ca:=ZIc a
 generalize ofL a.l 0#64=s at ca
 have c1:=ZaB m hm hsm eg s
 have c2:=ZH5 m hm eg
 unfold ZhD Zqo at c1
 rw[if_pos hci]at c1
 have hok:(Wj m (ndP m eg).l).2=0:=by
  cases eg
  ·exact Zld hci
  ·exact ZlT hci
 have hcl:Ze (GL.v 6 Zs.v (ndP m eg))=true:=by
  cases eg
  ·exact ZgZ hm
  ·exact ZjO hm
 obtain⟨hn2,hg⟩:=ZaQ hok
 have hg': ∀(k:Nat) x,(ndP m eg).l[k]? =some x→JD m (ndP m eg).l.length k x:=fun k x hx=>hg k x (by simp[Zh,hx])
 have hso:=ZHT m (pP eg) (ndP m eg).l.length (ndP m eg).l rfl hg' (ndP m eg).l 0 (Yk (ndP m eg).l.length s) rfl (by omega) (by simp[Yk])
 have hSl:=ZfP m (pP eg) (ndP m eg).l 0 (Yk (ndP m eg).l.length s)
 generalize X2 m (pP eg) (ndP m eg).l 0 (Yk (ndP m eg).l.length s)=q at c1 hso hSl
 obtain⟨o,P,S⟩:=q
 cases o with
 |some wr=>
  simp only at c1
  simp -implicitDefEqProofs [f713,b713,hr,h,hlv,h2,ca,c1]
 |none=>
  simp only[ZmB]at c1
  obtain⟨g1,g2,g3,g4⟩:=hso rfl
  have hSl:=(hSl rfl).1
  simp only at g2 g3 g4 hSl
  have gs:P.getD 0 (false,0)=(true,s):=g2 0 (by omega)
  have hMl:=ZaM m (ndP m eg).l (ndP m eg).l.length (List.replicate ((ndP m eg).l.length+1) 0)
  have hMn:=ZHM m (ndP m eg).l (ndP m eg).l.length (List.replicate ((ndP m eg).l.length+1) 0) (ndP m eg).l.length (Nat.le_refl _)
  have hM:=fun(k:Nat) x hx=>ZHU m (ndP m eg).l (ndP m eg).l.length hg' (ndP m eg).l.length (List.replicate ((ndP m eg).l.length+1) 0) k x (List.getElem?_eq_some_iff.1 hx).1 hx (by simp;have:=(List.getElem?_eq_some_iff.1 hx).1;omega)
  have hMs:Zau m (ndP m eg).l=(VO m (ndP m eg).l (ndP m eg).l.length (List.replicate ((ndP m eg).l.length+1) 0)).getD 0 0:=rfl
  generalize VO m (ndP m eg).l (ndP m eg).l.length (List.replicate ((ndP m eg).l.length+1) 0)=M at*
  have hMn:M.getD (ndP m eg).l.length 0=0:=by
   rw[hMn,List.getD_eq_getElem?_getD,List.getElem?_replicate];split<;>rfl
  obtain⟨fr,T2,cc,p2,r1,r2,r3⟩:=ZH9 m hm hsm hci (ndP m eg) hcl w [.agg [GL.v 1 I64.v a,GL.v 1 I64.v w]] (ndP m eg).l.length rfl hn2 hg P S hSl (sV (P.getD (ndP m eg).l.length (false,0)).2) (Zau m (ndP m eg).l) M hMn hM
   (fun k x hx hrd=>g3 k x (by omega) hx hrd) (fun k hk=>by have:=g4 k (by omega) hk;simpa using this) (ndP m eg).l.length 0 0 s 0 (by omega) (by omega) (by omega) (by omega) (by unfold rd;rw[show(0:Int).toNat=0 from rfl,gs]) (by unfold st;rw[show(0:Int).toNat=0 from rfl,gs];exact .refl _) (by omega) (by omega) (by rw[hMs];simp)
  have hz0:((0:Nat):Int)=0:=rfl
  rw[hz0]at r3
  have ho:(P.getD (ndP m eg).l.length (false,0)).2=st P (ndP m eg).l.length:=rfl
  rw[ho]at c1 r3
  have c7:=beq_iff_eq.1 ((ZmQ _ _).2 r1)
  have lb:(bS S).length=(ndP m eg).l.length:=by simp[bS,hSl]
  have ls:(sS S).length=(ndP m eg).l.length:=by simp[sS,hSl]
  generalize st P (ndP m eg).l.length=out at*
  generalize bS S=B at*
  generalize sS S=D at*
  generalize Zau m (ndP m eg).l=sp at*
  generalize tg (ndP m eg).l.length=tt at*
  generalize hNg:ndP m eg=N at*
  simp -implicitDefEqProofs [f713,b713,hr,h,hlv,h2,ca,c1,c2,lb,ls,r3,c7,r2]
end Go.VE.Un
