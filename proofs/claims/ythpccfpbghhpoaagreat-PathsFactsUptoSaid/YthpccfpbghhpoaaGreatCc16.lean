/- Joined texts: CfI, CfG, CfJ, CfK, CkQ. No condition: what each theorem needs stands in it. -/
import Derived.Test.YthpccfpbghhpoaaGreatCc15
import Derived.Test.YthpccfpbghhpoaaGreatCc14
import Derived.Test.YthpccfpbghhpoaaGreatCc10
namespace Go.VE
theorem Uk{β:Type}{O:Orc}{vp:VP}{lo:Nat}{fr:Fr}{h:Zg}{k:Fr→Zg→Option β}{n a x i b:Nat}{xl:List Nat}{r:List VDt}{p:Nat}{rs:List Jf}:
 dK O vp lo (⟨⟨none,.store n false (.t a) (.t x),none⟩,i,b,xl⟩::r) p rs fr h k=(Xp lo h n (lk fr a) (lk fr x)).bind fun h'=>if(rs.all fun e=> !xl.contains e.p||ZT (Yv h' e.agg e.n e.a) e.v)=true then dK O vp lo r (p+1) rs fr h' k else none:=by
 have e1:=UU (β:=β) O vp lo fr h (fun fr h=>if(rs.all fun e=> !xl.contains e.p||ZT (Yv h e.agg e.n e.a) e.v)=true then dK O vp lo r (p+1) rs fr h k else none) (.store n false (.t a) (.t x)) []
 rw[Zel]at e1
 have e2:(fun h':Zg=>if(rs.all fun e=> !xl.contains e.p||ZT (Yv h' e.agg e.n e.a) e.v)=true then dK O vp lo r (p+1) rs fr h' k else none)=fun h'=>Zt O vp lo [] fr h' (fun fr h=>if(rs.all fun e=> !xl.contains e.p||ZT (Yv h e.agg e.n e.a) e.v)=true then dK O vp lo r (p+1) rs fr h k else none):=rfl
 rw[e2]
 simp only[ZnK]at e1
 rw[←e1]
 unfold dK Zt
 simp only[Ur,YN]
 cases ZY O vp lo ⟨none,.store n false (.t a) (.t x),none⟩ fr h with
 |none=>rfl
 |some x=>
  simp only[Option.bind_some,ZaR,Xg,List.nil_append]
  split<;>rfl
end Go.VE
namespace Go.VE.Un
open Go.VE
@[simp] theorem ZCU(z:Nat)(es:List V):Ze (.sl z es .ce)=Zv es:=by simp[Ze]
theorem ZIW{o:Int}(h0:0≤o)(h1:o<35): ∃r,Zh rws o=some r∧(r.name=[102,105,101,108,100]↔o=1)∧(r.name=[112,117,116,45,102,105,101,108,100]↔o=22)∧(r.name=[115,104,111,119]↔o=25)∧(r.name=[104,105,100,101]↔o=26)∧
 (r.name=[112,117,115,104,45,104,101,97,100]↔o=27)∧(r.name=[112,111,112,45,104,101,97,100]↔o=28)∧(r.name=[106,117,109,112,45,103,111,110,101]↔o=33)∧(r.name=[115,116,111,112]↔o=34)∧(r.name=[106,117,109,112]↔o=31)∧(r.name=[106,117,109,112,45,122,101,114,111]↔o=32):=by
 rcases XZ h0 h1 with rfl|rfl|rfl|rfl|rfl|rfl|rfl|rfl|rfl|rfl|rfl|rfl|rfl|rfl|rfl|rfl|rfl|rfl|rfl|rfl|rfl|rfl|rfl|rfl|rfl|rfl|rfl|rfl|rfl|rfl|rfl|rfl|rfl|rfl|rfl
 all_goals exact⟨_,rfl,by decide,by decide,by decide,by decide,by decide,by decide,by decide,by decide,by decide,by decide⟩
theorem ZIY{x:Ins}(h:WB x=0): ∃s,Zh ZR x.Op.n=some s∧s.fr≤x.A.n∧x.A.n≤s.to∧s.least≤x.B.n∧x.B.n≤s.most:=by
 unfold WB at h
 cases hg:Zh ZR x.Op.n with
 |none=>rw[hg]at h;simp at h
 |some s=>
  rw[hg]at h
  simp only at h
  split at h
  ·simp at h
  ·rename_i c
   refine⟨s,rfl,?_⟩
   have c1:inB x.A.n s.fr s.to=true:=by
    cases e:inB x.A.n s.fr s.to
    ·exact absurd (.inl e) c
    ·rfl
   have c2:inB x.B.n s.least s.most=true:=by
    cases e:inB x.B.n s.least s.most
    ·exact absurd (.inr (.inl e)) c
    ·rfl
   simp[inB]at c1 c2
   omega
theorem ZIF{x:Ins}(h:WB x=0)(e:x.Op.n=1∨x.Op.n=22∨x.Op.n=25∨x.Op.n=26∨x.Op.n=33):0≤x.A.n∧x.A.n<64:=by
 obtain⟨s,hg,h1,h2,_⟩:=ZIY h
 rcases e with e|e|e|e|e<;>(rw[e]at hg;have:some s=_:=hg.symm.trans rfl;cases this;simp at h1 h2;omega)
theorem ZJx{x:Ins}(h:WB x=0)(e:x.Op.n=27∨x.Op.n=28):1≤x.B.n∧x.B.n≤4:=by
 obtain⟨s,hg,_,_,h1,h2⟩:=ZIY h
 rcases e with e|e<;>(rw[e]at hg;have:some s=_:=hg.symm.trans rfl;cases this;simp at h1 h2;omega)
def ZIp(x:Ins)(i:Int):List Int:=if x.Op.n=34 then[]else if x.Op.n=31 then[x.A.n]else if x.Op.n=32 then[i+1,x.A.n]else if x.Op.n=33 then[i+1,x.B.n]else[i+1]
def ZIw(x:Ins)(i:Int):V:=if x.Op.n=34 then .sl 1 [] .nl else .sl 1 ((ZIp x i).map (.int .i64)) .ce
theorem ZJs(x:Ins)(h0:0≤x.Op.n)(h1:x.Op.n<35)(i:Int)(hi:0≤i∧i≤1000):Zc vp 899 [x.v,.int .i64 i]=some (ZIw x i):=by
 obtain⟨r,hr,r1,r2,r3,r4,r5,r6,r7,r8,r9,r10⟩:=ZIW h0 h1
 have w1:=w64 (n:=i+1) (by omega)
 rw[Za ZJQ]
 by_cases c1:x.Op.n=34
 ·have hv:ZIw x i=.sl 1 [] .nl:=if_pos c1
  have r8:=r8.2 c1
  simp -implicitDefEqProofs [Zu,hr,Rw.v_eq,r8,hv]
 have hv0:ZIw x i=.sl 1 ((ZIp x i).map (.int .i64)) .ce:=if_neg c1
 by_cases c2:x.Op.n=31
 ·have r9:=r9.2 c2
  have hv:ZIw x i=.sl 1 [.int .i64 x.A.n] .ce:=by rw[hv0,ZIp,if_neg c1,if_pos c2];rfl
  simp -implicitDefEqProofs [Zu,hr,Rw.v_eq,r9,hv,Zf,ZC]
 have e8: ¬r.name=[115,116,111,112]:=fun h=>c1 (r8.1 h)
 have e9: ¬r.name=[106,117,109,112]:=fun h=>c2 (r9.1 h)
 by_cases c3:x.Op.n=32
 ·have r10:=r10.2 c3
  have hv:ZIw x i=.sl 1 [.int .i64 (i+1),.int .i64 x.A.n] .ce:=by rw[hv0,ZIp,if_neg c1,if_neg c2,if_pos c3];rfl
  simp -implicitDefEqProofs [Zu,hr,Rw.v_eq,r10,hv,w1,Zf,ZC]
 have e10: ¬r.name=[106,117,109,112,45,122,101,114,111]:=fun h=>c3 (r10.1 h)
 by_cases c4:x.Op.n=33
 ·have r7:=r7.2 c4
  have hv:ZIw x i=.sl 1 [.int .i64 (i+1),.int .i64 x.B.n] .ce:=by rw[hv0,ZIp,if_neg c1,if_neg c2,if_neg c3,if_pos c4];rfl
  simp -implicitDefEqProofs [Zu,hr,Rw.v_eq,r7,hv,w1,Zf,ZC]
 have e7: ¬r.name=[106,117,109,112,45,103,111,110,101]:=fun h=>c4 (r7.1 h)
 have hv:ZIw x i=.sl 1 [.int .i64 (i+1)] .ce:=by rw[hv0,ZIp,if_neg c1,if_neg c2,if_neg c3,if_neg c4];rfl
 simp -implicitDefEqProofs [Zu,hr,Rw.v_eq,e7,e8,e9,e10,hv,w1,Zf,ZC]
theorem ZJj(s:Sl)(n:Int):VY (Va s n) n=VY s n:=by
 apply BitVec.eq_of_getLsbD_eq
 intro k _
 rw[ZbO,ZbO,ZjI]
 cases s.getLsbD k<;>cases isS n k<;>rfl
theorem ZJH(m:Zb)(s:Sl)(f d n:Int)(hn: -4≤n∧n≤4)(hf:0≤f)(hd:f+d≤64)(z:Blk): ∀(j:Nat) (i:Int) (o:Sl),0≤i→i≤d→(d-i).toNat=j→(orc vp).loop 0 [2,7,8,9,10,12,13] ZI2 [(2,.int .i64 n),(7,.ptr 1 1 0 0),(8,.ptr 2 1 0 0),(9,.int .i64 f),(10,.int .i64 d),(12,.ptr 3 1 0 0),(13,.int .i64 i)] [.arr [m.v],.arr [ZaU s],z,.arr [ZaU o]]=
 some (.brk 0,[(2,.int .i64 n),(7,.ptr 1 1 0 0),(8,.ptr 2 1 0 0),(9,.int .i64 f),(10,.int .i64 d),(12,.ptr 3 1 0 0),(13,.int .i64 d),(27,.bool false)],[.arr [m.v],.arr [ZaU s],z,.arr [ZaU (Km f d n s j i o)]]):=by
 intro j
 induction j with
 |zero=>
  intro i o h0 h1 h2
  obtain⟨hlt,e⟩: ¬i<d∧i=d:=by and_intros<;>omega
  subst e
  rw[ZIE]
  simp -implicitDefEqProofs [Km]
 |succ j ih=>
  intro i o h0 h1 h2
  have hlt:i<d:=by omega
  have w1:=w64 (n:=i+1) (by omega)
  have w3:=w64 (n:=f+i) (by omega)
  obtain⟨q,hq⟩: ∃q,i-n=q:=⟨_,rfl⟩
  have w2:IntKind.i64.wrap (i-n)=q:=by rw[ZK (by omega) (by omega),hq]
  have w4:IntKind.i64.wrap (f+i-n)=f+q:=by rw[ZK (by omega) (by omega)];omega
  obtain⟨k1,k0⟩:f+i<64∧0≤f+i:=by and_intros<;>omega
  have sg:=ZIs o (n:=f+i) k0 k1
  have sw:=ZG3 o (n:=f+i) k0 k1
  have ih:=ih (i+1)
  simp only[Km,hq]
  by_cases c1:0≤q
  ·by_cases c2:q<d
   ·have c5:f+q<64:=by omega
    have c6:0≤f+q:=by omega
    have hg:=ZGF s 1 (f+q).toNat (by omega)
    have hh:=ZHf s c6 c5
    by_cases c3:JW s (f+q)=true
    ·rw[if_pos ⟨c1,c2,c3⟩,ZJj]
     rw[hh]at c3
     rw[c3]at hg
     have ih:=ih (VY o (f+i)) (by omega) (by omega) (by omega)
     rw[ZIE]
     simp -implicitDefEqProofs [hlt,w1,w2,w3,w4,c1,c2,k0,k1,c5,c6,hg,sw,ih]
    ·rw[if_neg (fun h=>c3 h.2.2)]
     rw[hh]at c3
     simp only[Bool.not_eq_true]at c3
     rw[c3]at hg
     have ih:=ih (Va o (f+i)) (by omega) (by omega) (by omega)
     rw[ZIE]
     simp -implicitDefEqProofs [hlt,w1,w2,w3,w4,c1,c2,k0,k1,c5,c6,hg,sg,ih]
   ·rw[if_neg (fun h=>c2 h.2.1)]
    have ih:=ih (Va o (f+i)) (by omega) (by omega) (by omega)
    rw[ZIE]
    simp -implicitDefEqProofs [hlt,w1,w2,w3,c1,c2,k0,k1,sg,ih]
  ·rw[if_neg (fun h=>c1 h.1)]
   have ih:=ih (Va o (f+i)) (by omega) (by omega) (by omega)
   rw[ZIE]
   simp -implicitDefEqProofs [hlt,w1,w2,w3,c1,k0,k1,sg,ih]
theorem ZIX(m:Zb)(hb:m.Insts.l.length≤10000000)(hs:Stk m)(i n:Int)(hn: -4≤n∧n≤4)(s:Sl):Zc vp 904 [m.v,.int .i64 i,.int .i64 n,ZaU s]=some (ZaU (Q0 m i n s)):=by
 have hr:=ZGK
 have hst:=Qf m i hb
 rw[Za ZJ2]
 rcases e:Z8 m i with _|⟨f,d⟩
 ·rw[e]at hst
  simp -implicitDefEqProofs [hst,hr,Q0,e]
 ·obtain⟨h1,h2,h3⟩:=hs i f d e
  rw[e]at hst
  have ec:Uz n=n:=by unfold Uz;omega
  have hl:=ZJH m s f d n hn h1 h3 (.arr [ZaU 0#64]) d.toNat 0 s (by omega) h2 (by omega)
  simp -implicitDefEqProofs [hst,hr,Q0,e,ec,hl]
def ZIr(x:Ins)(s:Sl):Sl:=if x.Op.n=33 then Va s x.A.n else s
theorem iA{B ep j o n:Nat}{i:Int}(h0:0≤i)(h1:i<(n:Int)):iaddrA n 1 (.ptr B ep j o) (.int .i64 i)=some (.ptr B ep j (o+i.toNat)):=by
 rw[Zs2 _ _ _ _ _ _ _ _ h0 h1,Nat.mul_one]
set_option maxHeartbeats 2000000 in
theorem ZJt(m:Zb)(hb:m.Insts.l.length≤10000000)(hs:Stk m)(x:Ins)(h:WB x=0)(s:Sl):
 Zc vp 903 [m.v,x.v,ZaU s]=some (if(YY m x s).2.2=0 then .tup [ZaU (YY m x s).1,ZaU (ZIr x s),.bool true]else .tup [ZaU s,ZaU s,.bool false]):=by
 obtain⟨h0,h1⟩:=QO h
 obtain⟨r,hr,r1,r2,r3,r4,r5,r6,r7,r8,r9,r10⟩:=ZIW h0 h1
 have hz:=ZGK
 rw[Za ZJ3]
 by_cases c1:x.Op.n=1∨x.Op.n=22
 ·obtain⟨a0,a1⟩:=ZIF h (by omega)
  have hh:=ZHf s a0 a1
  have hg:=ZGF s 1 x.A.n.toNat (by omega)
  have hd:YY m x s=if JW s x.A.n=true then(s,s,0)else(0,0,11):=by unfold YY;rw[if_pos c1]
  have h33:ZIr x s=s:=if_neg (by omega)
  have hn:(decide (r.name=[102,105,101,108,100])=true)∨(decide (r.name=[102,105,101,108,100])=false∧decide (r.name=[112,117,116,45,102,105,101,108,100])=true):=by
   rcases c1 with c|c
   ·left;simpa using r1.2 c
   ·right;exact⟨by simpa using fun e=>by have:=r1.1 e;omega,by simpa using r2.2 c⟩
  have e1:(if(YY m x s).2.2=0 then V.tup [ZaU (YY m x s).1,ZaU (ZIr x s),.bool true]else .tup [ZaU s,ZaU s,.bool false])=.tup [ZaU s,ZaU s,.bool (s.getLsbD x.A.n.toNat)]:=by
   rw[hd,h33,hh]
   cases s.getLsbD x.A.n.toNat<;>simp
  rw[e1]
  have a0':(0:Int)≤x.A.n:=a0
  rcases hn with n1|⟨n1,n2⟩
  ·simp -implicitDefEqProofs [Zu,hr,Rw.v_eq,hz,n1,a0,a1,hg,Xd,Uk,Tx.E,Tx.D,Tx.la,Tx.ct,Tx.it,Tx.mv,Tx.fa,Tx.ld,Tx.ia,Tx.al,Tx.st,Tx.mc,Xg,ZT]
  ·simp -implicitDefEqProofs [Zu,hr,Rw.v_eq,hz,n1,n2,a0,a1,hg,Xd,Uk,Tx.E,Tx.D,Tx.la,Tx.ct,Tx.it,Tx.mv,Tx.fa,Tx.ld,Tx.ia,Tx.al,Tx.st,Tx.mc,Xg,ZT]
 have n1: ¬r.name=[102,105,101,108,100]:=fun e=>c1 (.inl (r1.1 e))
 have n2: ¬r.name=[112,117,116,45,102,105,101,108,100]:=fun e=>c1 (.inr (r2.1 e))
 have hd:YY m x s=if x.Op.n=25 then(VY s x.A.n,0,0)else if x.Op.n=26 then(Va s x.A.n,0,0)else if x.Op.n=27 then(Q0 m x.A.n x.B.n s,0,0)
  else if x.Op.n=28 then(Q0 m x.A.n (-x.B.n) s,0,0)else if x.Op.n=33 then(VY s x.A.n,Va s x.A.n,0)else(s,s,0):=by unfold YY;rw[if_neg c1]
 by_cases c2:x.Op.n=25
 ·have hE:YY m x s=(VY s x.A.n,0,0):=by rw[hd,if_pos c2]
  obtain⟨a0,a1⟩:=ZIF h (by omega)
  have n3:=r3.2 c2
  have sw:=ZG3 s a0 a1
  have h33:ZIr x s=s:=if_neg (by omega)
  simp -implicitDefEqProofs [Zu,hr,Rw.v_eq,hz,n3,a0,a1,sw,hE,h33,Xd,Uk,Tx.E,Tx.D,Tx.la,Tx.ct,Tx.it,Tx.mv,Tx.fa,Tx.ld,Tx.ia,Tx.al,Tx.st,Tx.mc,Xg,ZT]
 have n3: ¬r.name=[115,104,111,119]:=fun e=>c2 (r3.1 e)
 by_cases c3:x.Op.n=26
 ·have hE:YY m x s=(Va s x.A.n,0,0):=by rw[hd,if_neg c2,if_pos c3]
  obtain⟨a0,a1⟩:=ZIF h (by omega)
  have n4:=r4.2 c3
  have sw:=ZIs s a0 a1
  have h33:ZIr x s=s:=if_neg (by omega)
  simp -implicitDefEqProofs [Zu,hr,Rw.v_eq,hz,n4,a0,a1,sw,hE,h33,Xd,Uk,Tx.E,Tx.D,Tx.la,Tx.ct,Tx.it,Tx.mv,Tx.fa,Tx.ld,Tx.ia,Tx.al,Tx.st,Tx.mc,Xg,ZT]
 have n4: ¬r.name=[104,105,100,101]:=fun e=>c3 (r4.1 e)
 by_cases c4:x.Op.n=27
 ·have hE:YY m x s=(Q0 m x.A.n x.B.n s,0,0):=by rw[hd,if_neg c2,if_neg c3,if_pos c4]
  have hB:=ZJx h (by omega)
  have n5:=r5.2 c4
  have hm:=ZIX m hb hs x.A.n x.B.n (by omega) s
  have h33:ZIr x s=s:=if_neg (by omega)
  simp -implicitDefEqProofs [Zu,hr,Rw.v_eq,hz,n5,hm,hE,h33,Xd,Uk,Tx.E,Tx.D,Tx.la,Tx.ct,Tx.it,Tx.mv,Tx.fa,Tx.ld,Tx.ia,Tx.al,Tx.st,Tx.mc,Xg,ZT]
 have n5: ¬r.name=[112,117,115,104,45,104,101,97,100]:=fun e=>c4 (r5.1 e)
 by_cases c5:x.Op.n=28
 ·have hE:YY m x s=(Q0 m x.A.n (-x.B.n) s,0,0):=by rw[hd,if_neg c2,if_neg c3,if_neg c4,if_pos c5]
  have hB:=ZJx h (by omega)
  have n6:=r6.2 c5
  have hm:=ZIX m hb hs x.A.n (-x.B.n) (by omega) s
  have wn:=w64 (n:= -x.B.n) (by omega)
  have h33:ZIr x s=s:=if_neg (by omega)
  simp -implicitDefEqProofs [Zu,hr,Rw.v_eq,hz,n6,hm,wn,hE,h33,Xd,Uk,Tx.E,Tx.D,Tx.la,Tx.ct,Tx.it,Tx.mv,Tx.fa,Tx.ld,Tx.ia,Tx.al,Tx.st,Tx.mc,Xg,ZT]
 have n6: ¬r.name=[112,111,112,45,104,101,97,100]:=fun e=>c5 (r6.1 e)
 by_cases c6:x.Op.n=33
 ·have hE:YY m x s=(VY s x.A.n,Va s x.A.n,0):=by rw[hd,if_neg c2,if_neg c3,if_neg c4,if_neg c5,if_pos c6]
  obtain⟨a0,a1⟩:=ZIF h (by omega)
  have n7:=r7.2 c6
  have sw:=ZG3 s a0 a1
  have sg:=ZIs s a0 a1
  have h33:ZIr x s=Va s x.A.n:=if_pos c6
  simp -implicitDefEqProofs [Zu,hr,Rw.v_eq,hz,n7,a0,a1,sw,sg,hE,h33,Xd,Uk,Tx.E,Tx.D,Tx.la,Tx.ct,Tx.it,Tx.mv,Tx.fa,Tx.ld,Tx.ia,Tx.al,Tx.st,Tx.mc,Xg,ZT]
 have n7: ¬r.name=[106,117,109,112,45,103,111,110,101]:=fun e=>c6 (r7.1 e)
 have h33:ZIr x s=s:=if_neg c6
 have hE:YY m x s=(s,s,0):=by rw[hd,if_neg c2,if_neg c3,if_neg c4,if_neg c5,if_neg c6]
 simp -implicitDefEqProofs [Zu,hr,Rw.v_eq,hz,n1,n2,n3,n4,n5,n6,n7,hE,h33,Xd,Uk,Tx.E,Tx.D,Tx.la,Tx.ct,Tx.it,Tx.mv,Tx.fa,Tx.ld,Tx.ia,Tx.al,Tx.st,Tx.mc,Xg,ZT]
end Go.VE.Un
namespace Go.VE.Un
open Go.VE
theorem ZmW(a:U64):V.int .u64 a.n=sV (BitVec.ofInt 64 a.n):=by
 unfold sV
 have h0:=a.lo
 have h1:=a.hi
 congr 1
 rw[BitVec.toNat_ofInt]
 omega
end Go.VE.Un
namespace Go.VE.Un
open Go.VE
def Za9(p:Bool ×Sl):V:=.agg (.bool p.1::(ZjA p.2).map V.bool)
@[simp] theorem Zra(p:Bool ×Sl):Ze (Za9 p)=true:=by simp[Za9,JC]
@[simp] theorem ZsM(k:Nat)(p:Bool ×Sl):Zk k (Za9 p)=true:=by simp[Za9,KC]
@[simp] theorem ZAg(p:Bool ×Sl):okV (Za9 p)=true:=nr rfl
theorem ZIg(k:Nat)(P:List (Bool ×Sl)):Zo k (P.map Za9)=true:=Yq (fun _=>ZsM _ _) P
@[simp] theorem Zy2(p:Bool ×Sl):ldc (Za9 p) true 65 0=some (Za9 p):=QE (by simp)
@[simp] theorem ZvS(p:Bool ×Sl)(n:Nat):ldc (Za9 p) false n 0=some (.bool p.1):=rfl
@[simp] theorem Zww(p:Bool ×Sl):ldc (Za9 p) true 64 1=some (ZaU p.2):=by
  unfold Za9
  rw[ZqL _ _ _ (by simp)]
  simp only[List.drop_succ_cons,List.drop_zero]
  rw[List.take_of_length_le (by simp)];rfl
theorem ZIq(q p:Bool ×Sl):stc (Za9 q) 65 0 (Za9 p)=some (Za9 p):=Zie (by simp) (by simp)
theorem ZI1:V.agg (rp 65 (.bool false))=Za9 (false,0#64):=by
 have:=ZGK
 simp only[ZaU,bsV,V.agg.injEq]at this
 unfold Za9
 rw[←this];simp only[rp,List.replicate_succ]
theorem ZJq(fr:Fr)(k:Nat)(R A:List V)(hR:R.length=65)(hA:A.length=64)(e:lk fr k=.agg A):Zf fr (.build R [(0,1,.c (.bool true)),(1,64,.t k)])=some (.agg (.bool true::A)):=by
 have h1:List.drop 65 (V.bool true::List.drop 1 R)=[]:=List.drop_eq_nil_of_le (by simp[hR])
 simp[Zf,ZC,e,hA,hR,h1]
theorem ZIu(fr:Fr)(k:Nat)(s:Sl)(e:lk fr k=ZaU s):Zf fr (.build (rp 65 (.bool false)) [(0,1,.c (.bool true)),(1,64,.t k)])=some (Za9 (true,s)):=
 ZJq fr k _ _ (by simp) (by simp) e
theorem ZJB(p:Bool ×Sl)(s:Sl):Zc vp 907 [Za9 p,ZaU s]=some (Za9 (Js p s)):=by
 have hb:=ZGZ p.2 s
 have hz:=ZI1
 rw[Za ZJX]
 unfold Js
 obtain⟨r,q⟩:=p
 cases r
 ·have hd:=fun fr=>ZIu ((12,ZaU s)::fr) 12 s (by simp)
  simp -implicitDefEqProofs [hz,hd,ZIq]
 ·have hd:=fun fr=>ZIu ((10,ZaU (q&&&s))::fr) 10 (q&&&s) (by simp)
  simp -implicitDefEqProofs [hz,hd,ZIq,hb]
theorem ZI0(P:List (Bool ×Sl))(i j:Nat)(s t:Sl):atP (atP P i s) j t=atP (atP P j t) i s:=by
 unfold atP
 by_cases e:i=j
 ·subst e
  rw[List.set_set,List.set_set,ZfH,ZfH]
  by_cases c:i<P.length
  ·rw[if_pos ⟨rfl,c⟩,if_pos ⟨rfl,c⟩]
   congr 1
   unfold Js
   cases(P.getD i (false,0)).1
   ·simp[BitVec.and_comm]
   ·simp[BitVec.and_assoc,BitVec.and_comm]
    rw[←BitVec.and_assoc,←BitVec.and_assoc,BitVec.and_comm t s]
  ·rw[List.set_eq_of_length_le (by omega),List.set_eq_of_length_le (by omega)]
 ·rw[ZfH,ZfH,if_neg (fun h=>e h.1),if_neg (fun h=>e h.1.symm),List.set_comm _ _ e]
section
variable (m : Zb) (l : GL Ins) (n : Nat) (e1 e2 : List V)
theorem ZII(i:Nat)(hi:i<n)(hn:n≤64)(L:List Int)(to:V)(hto:to=.sl 1 (L.map (.int .i64)) .ce)(k:Nat)(t u out:Sl)(P:List (Bool ×Sl))(hP:P.length=n+1)(a:Int)(hk:Zh L (k:Int)=some a)(hkl:k<L.length)(hL:L.length≤2)(a0:0≤a)(a1:a≤n)
 (ho:out=if a≠i+1∨k=1 then u else t):(orc vp).loop 0 [1,3,6,9,10,11,12,14,15] ZIG [(1,GL.v 6 Ins.v l),(3,.ptr 0 1 0 0),(6,.ptr 2 1 0 0),(9,.gsl 3 (n+1) 65 0 (n+1)),(10,.int .i64 i),(11,.ptr 4 1 0 0),(12,.ptr 5 1 0 0),(14,to),(15,.int .i64 k)] [.arr [m.v],.arr e1,.arr e2,.arr (P.map Za9),.arr [ZaU t],.arr [ZaU u]]=(orc vp).loop 0 [1,3,6,9,10,11,12,14,15] ZIG [(1,GL.v 6 Ins.v l),(3,.ptr 0 1 0 0),(6,.ptr 2 1 0 0),(9,.gsl 3 (n+1) 65 0 (n+1)),(10,.int .i64 i),(11,.ptr 4 1 0 0),(12,.ptr 5 1 0 0),(14,to),(15,.int .i64 (k+1:Nat))] [.arr [m.v],.arr e1,.arr e2,.arr ((atP P a.toNat out).map Za9),.arr [ZaU t],.arr [ZaU u]]:=by
 have hlt:(k:Int)<L.length:=by omega
 have hz:=ZGK
 have hia:Yb 65 (.gsl 3 (n+1) 65 0 (n+1)) (.int .i64 a)=some (.ptr 3 (n+1) a.toNat 0):=by simp[Yb,a0];omega
 have hit:Yb 1 (.sl 1 (L.map (.int .i64)) .ce) (.int .i64 (k:Int))=some (.eptr (.int .i64 a) 0 .ce):=by rw[Y7,hk];rfl
 obtain⟨k2,hk2⟩: ∃k2,k+1=k2:=⟨_,rfl⟩
 obtain⟨i2,hi2⟩: ∃i2:Int,(i:Int)+1=i2:=⟨_,rfl⟩
 have w1:IntKind.i64.wrap ((k:Int)+1)=(k2:Int):=by rw[ZK (by omega) (by omega)];omega
 have w2:IntKind.i64.wrap ((i:Int)+1)=i2:=by rw[ZK (by omega) (by omega)];omega
 have c0:YG (P.map Za9) (n+1)=some (P.map Za9):=Yt (by simp[hP])
 have g0:(P.map Za9)[a.toNat]? =some (Za9 (P.getD a.toNat (false,0))):=by
  have:a.toNat<P.length:=by omega
  rw[List.getElem?_map,List.getD_eq_getElem?_getD,List.getElem?_eq_getElem this];rfl
 have s1:(P.map Za9).set a.toNat (Za9 (Js (P.getD a.toNat (false,0)) out))=(atP P a.toNat out).map Za9:=by unfold atP;rw[List.map_set]
 have hm:=ZJB (P.getD a.toNat (false,0)) out
 have hbl:=ZIg 6 (atP P a.toNat out)
 have hbt:Zk 6 (.sl 1 (L.map (V.int .i64)) .ce)=true:=by rw[ZC0];exact Yq (fun _=>rfl) _
 generalize P.getD a.toNat (false,0)=p at g0 s1 hm
 generalize (atP P a.toNat out).map Za9=Q at*
 rw[hk2,ZJf,hto]
 rw[hi2]at ho
 by_cases c:a≠i2∨k=1
 ·rw[if_pos c]at ho
  subst ho
  by_cases c1:a=i2
  ·have c2:k=1:=by rcases c with c|c;exact absurd c1 c;exact c
   subst c2
   have h1:((1:Nat):Int)=1:=rfl
   have hk3:k2=2:=by omega
   subst hk3
   have w3:IntKind.i64.wrap 2=2:=ZK (by omega) (by omega)
   rw[h1]at hit hlt⊢
   subst c1
   simp -implicitDefEqProofs [hlt,hz,hia,hit,w3,w2,c0,g0,s1,hm,hbl,hbt,ZIq]
  ·simp -implicitDefEqProofs [hlt,hz,hia,hit,w1,w2,c0,g0,s1,hm,hbl,hbt,c1,ZIq]
 ·rw[if_neg c]at ho
  subst ho
  have c1:a=i2:=by
   by_cases h:a=i2
   ·exact h
   ·exact absurd (.inl h) c
  have c2: ¬(k:Int)=1:=fun h=>c (.inr (by omega))
  subst c1
  simp -implicitDefEqProofs [hlt,hz,hia,hit,w1,w2,c0,g0,s1,hm,hbl,hbt,c2,ZIq]
theorem ZIP(i:Nat)(L:List Int)(to:V)(hto:to=.sl 1 (L.map (.int .i64)) .ce)(k:Nat)(hk:k=L.length)(b4 b5 b6:Blk):(orc vp).loop 0 [1,3,6,9,10,11,12,14,15] ZIG [(1,GL.v 6 Ins.v l),(3,.ptr 0 1 0 0),(6,.ptr 2 1 0 0),(9,.gsl 3 (n+1) 65 0 (n+1)),(10,.int .i64 i),(11,.ptr 4 1 0 0),(12,.ptr 5 1 0 0),(14,to),(15,.int .i64 k)] [.arr [m.v],.arr e1,.arr e2,b4,b5,b6]=
 some (.brk 2,[(1,GL.v 6 Ins.v l),(3,.ptr 0 1 0 0),(6,.ptr 2 1 0 0),(9,.gsl 3 (n+1) 65 0 (n+1)),(10,.int .i64 i),(11,.ptr 4 1 0 0),(12,.ptr 5 1 0 0),(14,to),(15,.int .i64 k),(71,.bool false)],[.arr [m.v],.arr e1,.arr e2,b4,b5,b6]):=by
 rw[ZJf,hto]
 simp -implicitDefEqProofs [hk]
def inL(P:List (Bool ×Sl))(i:Nat)(t u:Sl):List Int→List (Bool ×Sl)
 |[a]=>atP P a.toNat (if a≠i+1 then u else t)
 |[a,b]=>atP (atP P a.toNat (if a≠i+1 then u else t)) b.toNat u
 |_=>P
theorem ZJL(P:List (Bool ×Sl))(i:Nat)(t u:Sl)(L:List Int):(inL P i t u L).length=P.length:=by
 unfold inL;split<;>simp
theorem ZI4(i:Nat)(hi:i<n)(hn:n≤64)(L:List Int)(to:V)(hto:to=.sl 1 (L.map (.int .i64)) .ce)(t u:Sl)(P:List (Bool ×Sl))(hP:P.length=n+1)(hL:L.length=1∨L.length=2)(hb: ∀a∈L,0≤a∧a≤(n:Int)): ∃fr,(orc vp).loop 0 [1,3,6,9,10,11,12,14,15] ZIG [(1,GL.v 6 Ins.v l),(3,.ptr 0 1 0 0),(6,.ptr 2 1 0 0),(9,.gsl 3 (n+1) 65 0 (n+1)),(10,.int .i64 i),(11,.ptr 4 1 0 0),(12,.ptr 5 1 0 0),(14,to),(15,.int .i64 0)] [.arr [m.v],.arr e1,.arr e2,.arr (P.map Za9),.arr [ZaU t],.arr [ZaU u]]=
 some (.brk 2,(1,GL.v 6 Ins.v l)::(3,.ptr 0 1 0 0)::(6,.ptr 2 1 0 0)::(9,.gsl 3 (n+1) 65 0 (n+1))::(10,.int .i64 i)::fr,[.arr [m.v],.arr e1,.arr e2,.arr ((inL P i t u L).map Za9),.arr [ZaU t],.arr [ZaU u]]):=by
 have hz:(0:Int)=((0:Nat):Int):=rfl
 match L,hL,hb,hto with
 |[a],_,hb,hto=>
  have ha:=hb a (by simp)
  refine⟨[(11,.ptr 4 1 0 0),(12,.ptr 5 1 0 0),(14,to),(15,.int .i64 (0+1:Nat)),(71,.bool false)],?_⟩
  rw[hz,ZII m l n e1 e2 i hi hn [a] to hto 0 t u (if a≠i+1 then u else t) P hP a (by simp) (by simp) (by simp) ha.1 ha.2 (by simp),ZIP m l n e1 e2 i [a] to hto (0+1) rfl]
  rfl
 |[a,b],_,hb,hto=>
  have ha:=hb a (by simp)
  have hb':=hb b (by simp)
  refine⟨[(11,.ptr 4 1 0 0),(12,.ptr 5 1 0 0),(14,to),(15,.int .i64 (0+1+1:Nat)),(71,.bool false)],?_⟩
  rw[hz,ZII m l n e1 e2 i hi hn [a,b] to hto 0 t u (if a≠i+1 then u else t) P hP a (by simp) (by simp) (by simp) ha.1 ha.2 (by simp),ZII m l n e1 e2 i hi hn [a,b] to hto (0+1) t u u _ (by simp[hP]) b (by simp[Zh]) (by simp) (by simp) hb'.1 hb'.2 (by simp),ZIP m l n e1 e2 i [a,b] to hto (0+1+1) rfl]
  rfl
end
def toL(x:Ins)(i n:Nat):List Int:=if x.Op.n=34 then[(n:Int)]else ZIp x i
theorem ZIR(x:Ins):YL x=if x.Op.n=31∨x.Op.n=32 then some x.A.n else if x.Op.n=33 then some x.B.n else none:=rfl
theorem ZIC(m:Zb)(x:Ins)(s:Sl)(h:x.Op.n=31∨x.Op.n=32∨x.Op.n=34):YY m x s=(s,s,0):=by
 unfold YY
 rw[if_neg (by omega),if_neg (by omega),if_neg (by omega),if_neg (by omega),if_neg (by omega),if_neg (by omega)]
theorem ZI8(m:Zb)(x:Ins)(s:Sl)(P:List (Bool ×Sl))(i n:Nat)(hm:WB x=0):
 (if x.Op.n=34 then atP P n s else(if x.Op.n=31 then(match YL x with|some t=>atP P t.toNat (YY m x s).2.1|none=>P)else atP (match YL x with|some t=>atP P t.toNat (YY m x s).2.1|none=>P) (i+1) (YY m x s).1))=inL P i (YY m x s).1 (ZIr x s) (toL x i n):=by
 have ht:=ZIR x
 have i1:((i:Int)+1).toNat=i+1:=by omega
 unfold toL ZIp
 by_cases c1:x.Op.n=34
 ·have hd:=ZIC m x s (by omega)
  have h2:ZIr x s=s:=if_neg (by omega)
  rw[if_pos c1,if_pos c1,hd,h2];simp[inL]
 rw[if_neg c1,if_neg c1,if_neg c1]
 by_cases c2:x.Op.n=31
 ·have hd:=ZIC m x s (by omega)
  have h2:ZIr x s=s:=if_neg (by omega)
  rw[if_pos (.inl c2)]at ht
  rw[if_pos c2,if_pos c2,hd,h2,ht];simp[inL]
 rw[if_neg c2,if_neg c2]
 by_cases c3:x.Op.n=32
 ·have hd:=ZIC m x s (by omega)
  have h2:ZIr x s=s:=if_neg (by omega)
  rw[if_pos (.inr c3)]at ht
  rw[if_pos c3,hd,h2,ht];simp only[inL]
  rw[ZI0,i1];simp
 rw[if_neg (by omega)]at ht
 rw[if_neg c3]
 by_cases c4:x.Op.n=33
 ·have h2:ZIr x s=Va s x.A.n:=if_pos c4
  have hd:YY m x s=(VY s x.A.n,Va s x.A.n,0):=by
   unfold YY
   rw[if_neg (by omega),if_neg (by omega),if_neg (by omega),if_neg (by omega),if_neg (by omega),if_pos c4]
  rw[if_pos c4]at ht
  rw[if_pos c4,hd,h2,ht];simp only[inL]
  rw[ZI0,i1];simp
 ·rw[if_neg c4]at ht
  rw[if_neg c4,ht];simp only[inL];rw[i1];simp
theorem ZH1(m:Zb)(x:Ins)(s:Sl)(h:(YY m x s).2.2≠0):(YY m x s).2.2=11:=by
 unfold YY at h⊢
 repeat' split at h
 all_goals simp_all
theorem ZJh(m:Zb)(hb:m.Insts.l.length≤10000000)(hs:Stk m)(l:GL Ins)(hl: ∀x∈l.l,WB x=0)(n:Nat)(hn:l.l.length=n)(hn2:n≤64)(ht: ∀x∈l.l,∀t,YL x=some t→0≤t∧t≤n)(e1:List V): ∀(r:List Ins) (i:Nat) (P:List (Bool ×Sl)),l.l.drop i=r→i≤n→P.length=n+1→∃fr hh,(orc vp).loop 0 [1,3,6,9,10] ZI9 [(1,GL.v 6 Ins.v l),(3,.ptr 0 1 0 0),(6,.ptr 2 1 0 0),(9,.gsl 3 (n+1) 65 0 (n+1)),(10,.int .i64 i)] [.arr [m.v],.arr e1,.arr [ZaU 0#64],.arr (P.map Za9)]=
 some (match Ys m n r i P with
  |(none,P')=>(.brk 0,(1,GL.v 6 Ins.v l)::(3,.ptr 0 1 0 0)::(6,.ptr 2 1 0 0)::(9,.gsl 3 (n+1) 65 0 (n+1))::fr,[.arr [m.v],.arr e1,.arr [ZaU 0#64],.arr (P'.map Za9)])
  |(some (j,_),_)=>(.ret,[(6,.ptr 2 1 0 0),(7,.int .i64 j),(8,.int .i64 11)],.arr [m.v]::.arr e1::.arr [ZaU 0#64]::hh)):=by
 intro r
 induction r with
 |nil=>
  intro i P hd hi hP
  have hlt: ¬(i:Int)<n:=by
   have:l.l.length≤i:=List.drop_eq_nil_iff.1 hd
   omega
  refine⟨[(10,.int .i64 i),(28,.bool false)],[],?_⟩
  rw[ZIJ]
  simp -implicitDefEqProofs [hn,hlt,Ys]
 |cons x r ih=>
  intro i P hd hi hP
  have hi2:i<n:=by
   have:i<l.l.length:=by
    rcases Nat.lt_or_ge i l.l.length with h|h
    ·exact h
    ·rw[List.drop_eq_nil_of_le h]at hd;simp at hd
   omega
  have hlt:(i:Int)<n:=by omega
  have hx:l.l[i]? =some x:=by
   have:=congrArg (fun q=>q[0]?) hd
   simpa using this
  have hm:=hl x (List.mem_of_getElem? hx)
  obtain⟨o0,o1⟩:=QO hm
  have hd':l.l.drop (i+1)=r:=by
   have:=congrArg (List.drop 1) hd
   simpa using this
  obtain⟨i2,hi3⟩: ∃i2,i+1=i2:=⟨_,rfl⟩
  have w1:IntKind.i64.wrap ((i:Int)+1)=(i2:Int):=by rw[ZK (by omega) (by omega)];omega
  have hx':Zh l.l (i:Int)=some x:=by simp[Zh,hx]
  have hia:Yb 65 (.gsl 3 (n+1) 65 0 (n+1)) (.int .i64 (i:Int))=some (.ptr 3 (n+1) i 0):=by simp[Yb];omega
  have hp:P[i]? =some (P.getD i (false,0)):=by
   rw[List.getD_eq_getElem?_getD,List.getElem?_eq_getElem (by omega)];rfl
  have c0:YG (P.map Za9) (n+1)=some (P.map Za9):=Yt (by simp[hP])
  have g0:(P.map Za9)[i]? =some (Za9 (P.getD i (false,0))):=by rw[List.getElem?_map,hp];rfl
  have hz:=ZGK
  have hbl:=fun Q=>ZIg 4 Q
  have hbP:=hbl P
  generalize hpp:P.getD i (false,0)=p at g0
  obtain⟨re,s⟩:=p
  cases re with
  |false=>
   obtain⟨fr,hh,ih⟩:=ih (i+1) P hd' (by omega) hP
   have e:Ys m n (x::r) i P=Ys m n r (i+1) P:=by simp only[Ys,hpp,if_true]
   rw[hi3]at ih e
   refine⟨fr,hh,?_⟩
   rw[ZIJ,e,←ih]
   simp -implicitDefEqProofs [hn,hlt,w1,hia,c0,g0,hbP]
  |true=>
   have hdo:=ZJt m hb hs x hm s
   have hld:=ZJs x o0 o1 (i:Int) (by omega)
   have hpp':P[i]?.getD (false,0#64)=(true,s):=by rw[←List.getD_eq_getElem?_getD];exact hpp
   by_cases he:(YY m x s).2.2=0
   ·rw[if_pos he]at hdo
    have e:Ys m n (x::r) i P=Ys m n r (i+1) (inL P i (YY m x s).1 (ZIr x s) (toL x i n)):=by
     rw[←ZI8 m x s P i n hm]
     simp only[Ys,hpp,he]
     by_cases c:x.Op.n=34
     ·simp[c]
     ·simp[c];rfl
    have hLl:(toL x i n).length=1∨(toL x i n).length=2:=by
     unfold toL ZIp
     repeat' split
     all_goals simp_all
    have hLb: ∀a∈toL x i n,0≤a∧a≤(n:Int):=by
     have htg:=ZIR x
     have h1:=ht x (List.mem_of_getElem? hx)
     unfold toL ZIp
     intro a ha
     split at ha
     ·simp at ha;omega
     ·split at ha
      ·rename_i c _;simp at ha;subst ha;rw[if_pos (.inl ‹_›)]at htg;exact h1 _ htg
      ·split at ha
       ·simp at ha;rw[if_pos (.inr ‹_›)]at htg
        rcases ha with rfl|rfl
        ·omega
        ·exact h1 _ htg
       ·split at ha
        ·simp at ha;rw[if_neg (by omega),if_pos ‹_›]at htg
         rcases ha with rfl|rfl
         ·omega
         ·exact h1 _ htg
        ·simp at ha;omega
    obtain⟨fr2,hin⟩:=ZI4 m l n e1 [ZaU 0#64] i hi2 hn2 (toL x i n) _ rfl (YY m x s).1 (ZIr x s) P hP hLl hLb
    obtain⟨fr,hh,ih⟩:=ih (i+1) (inL P i (YY m x s).1 (ZIr x s) (toL x i n)) hd' (by omega) (by rw[ZJL,hP])
    have hbQ:=hbl (inL P i (YY m x s).1 (ZIr x s) (toL x i n))
    rw[hi3]at ih e
    refine⟨fr,hh,?_⟩
    rw[ZIJ,e,←ih]
    generalize (inL P i (YY m x s).1 (ZIr x s) (toL x i n)).map Za9=Q at*
    by_cases c34:x.Op.n=34
    ·have e2:ZIw x i=.sl 1 [] .nl:=if_pos c34
     have e3:(toL x i n).map (V.int .i64)=[.int .i64 n]:=by unfold toL;rw[if_pos c34];rfl
     rw[e2]at hld
     rw[e3]at hin
     simp -implicitDefEqProofs [hn,hlt,w1,hia,c0,g0,hbP,hbQ,hz,hx',hdo,hld,Zf,ZC,hin]
    ·have e2:ZIw x i=.sl 1 ((ZIp x i).map (.int .i64)) .ce:=if_neg c34
     have e3:toL x i n=ZIp x i:=if_neg c34
     rw[e2]at hld
     rw[e3]at hin hLl
     have hne: ¬(ZIp x i).length=0:=by omega
     have hne2: ¬ZIp x i=[]:=fun h=>by rw[h]at hne;exact hne rfl
     simp -implicitDefEqProofs [hn,hlt,w1,hia,c0,g0,hbP,hbQ,hz,hx',hdo,hld,hin,hne,hne2]
   ·rw[if_neg he]at hdo
    have e:Ys m n (x::r) i P=(some (i,(YY m x s).2.2),P):=by simp[Ys,hpp',he]
    refine⟨[],[.arr (P.map Za9),.arr [ZaU s],.arr [ZaU s]],?_⟩
    rw[ZIJ,e]
    have hbd: ∀fr,Zf fr (.build (rp 64 (.bool false)) [])=some (ZaU 0#64):=fun fr=>by rw[←hz];rfl
    simp -implicitDefEqProofs [hn,hlt,w1,hia,c0,g0,hz,hx',hdo,hbd]
def ZJw(n:Nat)(q:Option (Nat ×Int)×List (Bool ×Sl)):V:=
 match q with
 |(some (j,_),_)=>.tup [ZaU 0#64,.int .i64 j,.int .i64 11]
 |(none,P)=>.tup [ZaU (P.getD n (false,0)).2,.int .i64 0,.int .i64 0]
theorem ZJv(m:Zb)(hb:m.Insts.l.length≤10000000)(hs:Stk m)(l:GL Ins)(hl: ∀x∈l.l,WB x=0)(hn2:l.l.length≤64)(ht: ∀x∈l.l,∀t,YL x=some t→0≤t∧t≤l.l.length)(s:Sl):
 Zc vp 906 [m.v,GL.v 6 Ins.v l,ZaU s]=some (ZJw l.l.length (Ys m l.l.length l.l 0 (Yk l.l.length s))):=by
 obtain⟨n,hn⟩: ∃n,l.l.length=n:=⟨_,rfl⟩
 rw[hn]at hn2 ht⊢
 obtain⟨fr,hh,hl⟩:=ZJh m hb hs l hl n hn hn2 ht [ZaU s] l.l 0 (Yk n s) rfl (by omega) (by simp[Yk])
 have hz0:((0:Nat):Int)=0:=rfl
 rw[hz0]at hl
 have w1:=w64 (n:=(n:Int)+1) (by omega)
 have hz:=ZGK
 have hz1:=ZI1
 have e1:(List.replicate (n+1) (false,(0:Sl))).set 0 (true,s)=Yk n s:=by simp[Yk,List.replicate_succ]
 have hmk: ∀a b,UW [a,b,.arr [ZaU 0#64]] (Za9 (false,0#64)) 65 (.int .i64 ((n:Int)+1)) (.int .i64 ((n:Int)+1))=some (.gsl 3 (n+1) 65 0 (n+1),[a,b,.arr [ZaU 0#64],.arr ((List.replicate (n+1) (false,(0:Sl))).map Za9)]):=fun a b=>by
  unfold UW
  simp only
  have e3:((n:Int)+1).toNat=n+1:=by omega
  have e4:(Za9 (false,0#64)).cells.length=65:=by simp[Za9]
  rw[if_pos (by unfold YC;omega),e3,List.map_replicate,e4];rfl
 have hi0:Yb 65 (.gsl 3 (n+1) 65 0 (n+1)) (.int .i64 0)=some (.ptr 3 (n+1) 0 0):=by simp[Yb]
 have hi1:Yb 65 (.gsl 3 (n+1) 65 0 (n+1)) (.int .i64 (n:Int))=some (.ptr 3 (n+1) n 0):=by simp[Yb];omega
 have hd:=fun fr=>ZIu ((22,ZaU s)::fr) 22 s (by simp)
 have c0:YG ((List.replicate (n+1) (false,(0:Sl))).map Za9) (n+1)=some ((List.replicate (n+1) (false,(0:Sl))).map Za9):=Yt (by simp)
 have g0:((List.replicate (n+1) (false,(0:Sl))).map Za9)[0]? =some (Za9 (false,0)):=by simp[List.replicate_succ]
 have s0:((List.replicate (n+1) (false,(0:Sl))).map Za9).set 0 (Za9 (true,s))=(Yk n s).map Za9:=by rw[←e1,List.map_set]
 have hlen:=Uj m n l.l 0 (Yk n s)
 generalize (List.replicate (n+1) (false,(0:Sl))).map Za9=R at*
 rw[Za ZJ5]
 generalize Ys m n l.l 0 (Yk n s)=q at hl hlen
 obtain⟨o,P⟩:=q
 cases o with
 |some je=>
  obtain⟨j,e⟩:=je
  simp only at hl
  simp -implicitDefEqProofs [hn,w1,hz,hz1,hmk,hi0,hd,c0,g0,s0,ZIq,hl,ZJw]
 |none=>
  simp only at hl hlen
  have c1:YG (P.map Za9) (n+1)=some (P.map Za9):=Yt (by simp[hlen,Yk])
  have g1:(P.map Za9)[n]? =some (Za9 (P.getD n (false,0))):=by
   have:n<P.length:=by rw[hlen];simp[Yk]
   rw[List.getElem?_map,List.getD_eq_getElem?_getD,List.getElem?_eq_getElem this];rfl
  have hA: ∃p,P.getD n (false,0)=p∧ZJw n (none,P)=.tup [ZaU p.2,.int .i64 0,.int .i64 0]:=⟨_,rfl,rfl⟩
  obtain⟨p,hp,hA⟩:=hA
  rw[hp]at g1
  simp -implicitDefEqProofs [hn,w1,hz,hz1,hmk,hi0,hi1,hd,c0,g0,s0,ZIq,hl,hA,c1,g1]
end Go.VE.Un
namespace Go.VE.Un
open Go.VE
theorem ZG8: ∀(a b:List Bool),a.length=b.length→Ux (List.replicate a.length .b) (a.map V.bool) (b.map V.bool)=some (decide (a=b))
 |[],[],_=>rfl
 |x::a,y::b,h=>by
  have ih:=ZG8 a b (by simpa using h)
  simp only[List.length_cons,List.replicate_succ,List.map_cons,Ux,eqK,Option.bind_some,ih]
  cases x<;>cases y<;>simp
 |[],_::_,h=>by simp at h
 |_::_,[],h=>by simp at h
theorem ZHk{a b:Sl}(h:ZjA a=ZjA b):a=b:=BitVec.eq_of_getLsbD_eq fun k hk=>by
 have:=congrArg (·[k]?) h
 simp only[ZGd a k hk,ZGd b k hk]at this
 exact Option.some.inj this
theorem ZGV(a b:Sl):eqV (some (List.replicate 64 .b)) (ZaU a) (ZaU b)=some (decide (a=b)):=by
 have h:=ZG8 (ZjA a) (ZjA b) (by simp)
 rw[QK]at h
 have e:eqV (some (List.replicate 64 .b)) (ZaU a) (ZaU b)=Ux (List.replicate 64 .b) ((ZjA a).map V.bool) ((ZjA b).map V.bool):=by
  unfold ZaU bsV eqV
  simp only
  rw[if_pos ⟨by simp,by simp⟩]
 rw[e,h]
 congr 1
 by_cases c:a=b
 ·simp[c]
 ·simp[c];exact fun q=>c (ZHk q)
theorem ZHN(m:Zb)(n:Nat): ∀(r:List Ins) (i:Nat) (P:List (Bool ×Sl)) {j:Nat} {e:Int},(Ys m n r i P).1=some (j,e)→e=11
 |[],_,_,_,_,h=>by simp[Ys]at h
 |x::r,i,P,j,e,h=>by
  simp only[Ys]at h
  split at h
  ·exact ZHN m n r _ _ h
  ·split at h
   ·rename_i c;simp at h;rw[←h.2];exact ZH1 m x _ c
   ·split at h
    ·exact ZHN m n r _ _ h
    ·exact ZHN m n r _ _ h
end Go.VE.Un
namespace Go.VE.Un
open Go.VE
theorem Zc0{α:Type}{l:List α}{i:Int}{a:α}(h:Zh l i=some a):0≤i∧i<l.length:=by
 rcases Zm l i with⟨_,h0,h1,_⟩|⟨_,h1⟩
 ·exact⟨h0,h1⟩
 ·rw[h1]at h;simp at h
end Go.VE.Un
