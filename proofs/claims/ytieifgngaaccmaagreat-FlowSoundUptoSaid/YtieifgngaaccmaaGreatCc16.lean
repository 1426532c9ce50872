/- Joined texts: CfI, CfG, CfJ, CfK. No condition: what each theorem needs stands in it. -/
import Derived.Test.YtieifgngaaccmaaGreatCc15
import Derived.Test.YtieifgngaaccmaaGreatCc14
namespace Go.VE
theorem dK_no{β:Type}{O:Orc}{vp:VP}{lo:Nat}{fr:Fr}{h:Heap}{k:Fr→Heap→Option β}{n a x i b:Nat}{xl:List Nat}{r:List VDt}{p:Nat}{rs:List LRec}:
 dK O vp lo (⟨⟨none,.store n false (.t a) (.t x),none⟩,i,b,xl⟩::r) p rs fr h k=(storeV lo h n (lk fr a) (lk fr x)).bind fun h'=>if(rs.all fun e=> !xl.contains e.p||isSomeV (loadV h' e.agg e.n e.a) e.v)=true then dK O vp lo r (p+1) rs fr h' k else none:=by
 have e1:=runK_cons0 (β:=β) O vp lo fr h (fun fr h=>if(rs.all fun e=> !xl.contains e.p||isSomeV (loadV h e.agg e.n e.a) e.v)=true then dK O vp lo r (p+1) rs fr h k else none) (.store n false (.t a) (.t x)) []
 rw[eK_store]at e1
 have e2:(fun h':Heap=>if(rs.all fun e=> !xl.contains e.p||isSomeV (loadV h' e.agg e.n e.a) e.v)=true then dK O vp lo r (p+1) rs fr h' k else none)=fun h'=>runK O vp lo [] fr h' (fun fr h=>if(rs.all fun e=> !xl.contains e.p||isSomeV (loadV h e.agg e.n e.a) e.v)=true then dK O vp lo r (p+1) rs fr h k else none):=rfl
 rw[e2]
 simp only[opd_t]at e1
 rw[←e1]
 unfold dK runK
 simp only[runD,runOps]
 cases stepIt O vp lo ⟨none,.store n false (.t a) (.t x),none⟩ fr h with
 |none=>rfl
 |some x=>
  simp only[Option.bind_some,put_none,recOf,List.nil_append]
  split<;>rfl
end Go.VE
namespace Go.VE.Un
open Go.VE
@[simp] theorem cb_ce(z:Nat)(es:List V):closedB (.sl z es .ce)=closedL es:=by simp[closedB]
theorem row_flow{o:Int}(h0:0≤o)(h1:o<35): ∃r,getI rws o=some r∧(r.name=[102,105,101,108,100]↔o=1)∧(r.name=[112,117,116,45,102,105,101,108,100]↔o=22)∧(r.name=[115,104,111,119]↔o=25)∧(r.name=[104,105,100,101]↔o=26)∧
 (r.name=[112,117,115,104,45,104,101,97,100]↔o=27)∧(r.name=[112,111,112,45,104,101,97,100]↔o=28)∧(r.name=[106,117,109,112,45,103,111,110,101]↔o=33)∧(r.name=[115,116,111,112]↔o=34)∧(r.name=[106,117,109,112]↔o=31)∧(r.name=[106,117,109,112,45,122,101,114,111]↔o=32):=by
 rcases ops_cases h0 h1 with rfl|rfl|rfl|rfl|rfl|rfl|rfl|rfl|rfl|rfl|rfl|rfl|rfl|rfl|rfl|rfl|rfl|rfl|rfl|rfl|rfl|rfl|rfl|rfl|rfl|rfl|rfl|rfl|rfl|rfl|rfl|rfl|rfl|rfl|rfl
 all_goals exact⟨_,rfl,by decide,by decide,by decide,by decide,by decide,by decide,by decide,by decide,by decide,by decide⟩
theorem mayC_rng{x:Ins}(h:mayC x=0): ∃s,getI shapes x.Op.n=some s∧s.fr≤x.A.n∧x.A.n≤s.to∧s.least≤x.B.n∧x.B.n≤s.most:=by
 unfold mayC at h
 cases hg:getI shapes x.Op.n with
 |none=>rw[hg]at h;simp at h
 |some s=>
  rw[hg]at h
  simp only at h
  split at h
  ·simp at h
  ·rename_i c
   refine⟨s,rfl,?_⟩
   have c1:inB x.A.n s.fr s.to=true:=by
    cases e:inB x.A.n s.fr s.to
    ·exact absurd (.inl e) c
    ·rfl
   have c2:inB x.B.n s.least s.most=true:=by
    cases e:inB x.B.n s.least s.most
    ·exact absurd (.inr (.inl e)) c
    ·rfl
   simp[inB]at c1 c2
   omega
theorem mayC_A64{x:Ins}(h:mayC x=0)(e:x.Op.n=1∨x.Op.n=22∨x.Op.n=25∨x.Op.n=26∨x.Op.n=33):0≤x.A.n∧x.A.n<64:=by
 obtain⟨s,hg,h1,h2,_⟩:=mayC_rng h
 rcases e with e|e|e|e|e<;>(rw[e]at hg;have:some s=_:=hg.symm.trans rfl;cases this;simp at h1 h2;omega)
theorem mayC_B{x:Ins}(h:mayC x=0)(e:x.Op.n=27∨x.Op.n=28):1≤x.B.n∧x.B.n≤4:=by
 obtain⟨s,hg,_,_,h1,h2⟩:=mayC_rng h
 rcases e with e|e<;>(rw[e]at hg;have:some s=_:=hg.symm.trans rfl;cases this;simp at h1 h2;omega)
def leadsL(x:Ins)(i:Int):List Int:=if x.Op.n=34 then[]else if x.Op.n=31 then[x.A.n]else if x.Op.n=32 then[i+1,x.A.n]else if x.Op.n=33 then[i+1,x.B.n]else[i+1]
def leadsV(x:Ins)(i:Int):V:=if x.Op.n=34 then .sl 1 [] .nl else .sl 1 ((leadsL x i).map (.int .i64)) .ce
theorem leads899(x:Ins)(h0:0≤x.Op.n)(h1:x.Op.n<35)(i:Int)(hi:0≤i∧i≤1000):callRO vp 899 [x.v,.int .i64 i]=some (leadsV x i):=by
 obtain⟨r,hr,r1,r2,r3,r4,r5,r6,r7,r8,r9,r10⟩:=row_flow h0 h1
 have w1:IntKind.i64.wrap (i+1)=i+1:=wrap64 (by omega) (by omega)
 rw[callRO_K fn899]
 by_cases c1:x.Op.n=34
 ·have hv:leadsV x i=.sl 1 [] .nl:=if_pos c1
  have r8:=r8.2 c1
  simp -implicitDefEqProofs [table827,hr,Rw.v_eq,r8,hv]
 have hv0:leadsV x i=.sl 1 ((leadsL x i).map (.int .i64)) .ce:=if_neg c1
 by_cases c2:x.Op.n=31
 ·have r9:=r9.2 c2
  have hv:leadsV x i=.sl 1 [.int .i64 x.A.n] .ce:=by rw[hv0,leadsL,if_neg c1,if_pos c2];rfl
  simp -implicitDefEqProofs [table827,hr,Rw.v_eq,r9,hv,pureOp,fillV]
 have e8: ¬r.name=[115,116,111,112]:=fun h=>c1 (r8.1 h)
 have e9: ¬r.name=[106,117,109,112]:=fun h=>c2 (r9.1 h)
 by_cases c3:x.Op.n=32
 ·have r10:=r10.2 c3
  have hv:leadsV x i=.sl 1 [.int .i64 (i+1),.int .i64 x.A.n] .ce:=by rw[hv0,leadsL,if_neg c1,if_neg c2,if_pos c3];rfl
  simp -implicitDefEqProofs [table827,hr,Rw.v_eq,r10,hv,w1,pureOp,fillV]
 have e10: ¬r.name=[106,117,109,112,45,122,101,114,111]:=fun h=>c3 (r10.1 h)
 by_cases c4:x.Op.n=33
 ·have r7:=r7.2 c4
  have hv:leadsV x i=.sl 1 [.int .i64 (i+1),.int .i64 x.B.n] .ce:=by rw[hv0,leadsL,if_neg c1,if_neg c2,if_neg c3,if_pos c4];rfl
  simp -implicitDefEqProofs [table827,hr,Rw.v_eq,r7,hv,w1,pureOp,fillV]
 have e7: ¬r.name=[106,117,109,112,45,103,111,110,101]:=fun h=>c4 (r7.1 h)
 have hv:leadsV x i=.sl 1 [.int .i64 (i+1)] .ce:=by rw[hv0,leadsL,if_neg c1,if_neg c2,if_neg c3,if_neg c4];rfl
 simp -implicitDefEqProofs [table827,hr,Rw.v_eq,e7,e8,e9,e10,hv,w1,pureOp,fillV]
theorem with_gone(s:Sl)(n:Int):withS (goneS s n) n=withS s n:=by
 apply BitVec.eq_of_getLsbD_eq
 intro k _
 rw[withS_get,withS_get,goneS_get]
 cases s.getLsbD k<;>cases isS n k<;>rfl
theorem loop904(m:Image)(s:Sl)(f d n:Int)(hn: -4≤n∧n≤4)(hf:0≤f)(hd:f+d≤64)(z:Blk): ∀(j:Nat) (i:Int) (o:Sl),0≤i→i≤d→(d-i).toNat=j→(orc vp).loop 0 [2,7,8,9,10,12,13] L904_0 [(2,.int .i64 n),(7,.ptr 1 1 0 0),(8,.ptr 2 1 0 0),(9,.int .i64 f),(10,.int .i64 d),(12,.ptr 3 1 0 0),(13,.int .i64 i)] [.arr [m.v],.arr [setV s],z,.arr [setV o]]=
 some (.brk 0,[(2,.int .i64 n),(7,.ptr 1 1 0 0),(8,.ptr 2 1 0 0),(9,.int .i64 f),(10,.int .i64 d),(12,.ptr 3 1 0 0),(13,.int .i64 d),(27,.bool false)],[.arr [m.v],.arr [setV s],z,.arr [setV (moveL f d n s j i o)]]):=by
 intro j
 induction j with
 |zero=>
  intro i o h0 h1 h2
  have hlt: ¬i<d:=by omega
  have e:i=d:=by omega
  subst e
  rw[lp904_0]
  simp -implicitDefEqProofs [moveL]
 |succ j ih=>
  intro i o h0 h1 h2
  have hlt:i<d:=by omega
  have w1:IntKind.i64.wrap (i+1)=i+1:=wrap64 (by omega) (by omega)
  have w3:IntKind.i64.wrap (f+i)=f+i:=wrap64 (by omega) (by omega)
  obtain⟨q,hq⟩: ∃q,i-n=q:=⟨_,rfl⟩
  have w2:IntKind.i64.wrap (i-n)=q:=by rw[wrap64 (by omega) (by omega),hq]
  have w4:IntKind.i64.wrap (f+i-n)=f+q:=by rw[wrap64 (by omega) (by omega)];omega
  have k1:f+i<64:=by omega
  have k0:0≤f+i:=by omega
  have sg:=setV_gone o (n:=f+i) k0 k1
  have sw:=setV_with o (n:=f+i) k0 k1
  have ih:=ih (i+1)
  simp only[moveL,hq]
  by_cases c1:0≤q
  ·by_cases c2:q<d
   ·have c5:f+q<64:=by omega
    have c6:0≤f+q:=by omega
    have hg:=setV_ld s 1 (f+q).toNat (by omega)
    have hh:=hasS_nat s c6 c5
    by_cases c3:hasS s (f+q)=true
    ·rw[if_pos ⟨c1,c2,c3⟩,with_gone]
     rw[hh]at c3
     rw[c3]at hg
     have ih:=ih (withS o (f+i)) (by omega) (by omega) (by omega)
     rw[lp904_0]
     simp -implicitDefEqProofs [hlt,w1,w2,w3,w4,c1,c2,k0,k1,c5,c6,hg,sw,ih]
    ·rw[if_neg (fun h=>c3 h.2.2)]
     rw[hh]at c3
     simp only[Bool.not_eq_true]at c3
     rw[c3]at hg
     have ih:=ih (goneS o (f+i)) (by omega) (by omega) (by omega)
     rw[lp904_0]
     simp -implicitDefEqProofs [hlt,w1,w2,w3,w4,c1,c2,k0,k1,c5,c6,hg,sg,ih]
   ·rw[if_neg (fun h=>c2 h.2.1)]
    have ih:=ih (goneS o (f+i)) (by omega) (by omega) (by omega)
    rw[lp904_0]
    simp -implicitDefEqProofs [hlt,w1,w2,w3,c1,c2,k0,k1,sg,ih]
  ·rw[if_neg (fun h=>c1 h.1)]
   have ih:=ih (goneS o (f+i)) (by omega) (by omega) (by omega)
   rw[lp904_0]
   simp -implicitDefEqProofs [hlt,w1,w2,w3,c1,k0,k1,sg,ih]
theorem rmove904(m:Image)(hb:m.Insts.l.length≤10000000)(hs:Stk m)(i n:Int)(hn: -4≤n∧n≤4)(s:Sl):callRO vp 904 [m.v,.int .i64 i,.int .i64 n,setV s]=some (setV (moveS m i n s)):=by
 have hr:=rp_bs
 have hst:=rstacked835 m i hb
 rw[callRO_K fn904]
 rcases e:stacked m i with _|⟨f,d⟩
 ·rw[e]at hst
  simp -implicitDefEqProofs [hst,hr,moveS,e]
 ·obtain⟨h1,h2,h3⟩:=hs i f d e
  rw[e]at hst
  have ec:clampN n=n:=by unfold clampN;omega
  have hl:=loop904 m s f d n hn h1 h3 (.arr [setV 0#64]) d.toNat 0 s (by omega) h2 (by omega)
  simp -implicitDefEqProofs [hst,hr,moveS,e,ec,hl]
def does2(x:Ins)(s:Sl):Sl:=if x.Op.n=33 then goneS s x.A.n else s
theorem iA{B ep j o n:Nat}{i:Int}(h0:0≤i)(h1:i<(n:Int)):iaddrA n 1 (.ptr B ep j o) (.int .i64 i)=some (.ptr B ep j (o+i.toNat)):=by
 rw[iaddrA_ptr _ _ _ _ _ _ _ _ h0 h1,Nat.mul_one]
set_option maxHeartbeats 2000000 in
theorem rdoes903(m:Image)(hb:m.Insts.l.length≤10000000)(hs:Stk m)(x:Ins)(h:mayC x=0)(s:Sl):
 callRO vp 903 [m.v,x.v,setV s]=some (if(doesS m x s).2.2=0 then .tup [setV (doesS m x s).1,setV (does2 x s),.bool true]else .tup [setV s,setV s,.bool false]):=by
 obtain⟨h0,h1⟩:=mayC_op h
 obtain⟨r,hr,r1,r2,r3,r4,r5,r6,r7,r8,r9,r10⟩:=row_flow h0 h1
 have hz:=rp_bs
 rw[callRO_K fn903]
 by_cases c1:x.Op.n=1∨x.Op.n=22
 ·obtain⟨a0,a1⟩:=mayC_A64 h (by omega)
  have hh:=hasS_nat s a0 a1
  have hg:=setV_ld s 1 x.A.n.toNat (by omega)
  have hd:doesS m x s=if hasS s x.A.n=true then(s,s,0)else(0,0,11):=by unfold doesS;rw[if_pos c1]
  have h33:does2 x s=s:=if_neg (by omega)
  have hn:(decide (r.name=[102,105,101,108,100])=true)∨(decide (r.name=[102,105,101,108,100])=false∧decide (r.name=[112,117,116,45,102,105,101,108,100])=true):=by
   rcases c1 with c|c
   ·left;simpa using r1.2 c
   ·right;exact⟨by simpa using fun e=>by have:=r1.1 e;omega,by simpa using r2.2 c⟩
  have e1:(if(doesS m x s).2.2=0 then V.tup [setV (doesS m x s).1,setV (does2 x s),.bool true]else .tup [setV s,setV s,.bool false])=.tup [setV s,setV s,.bool (s.getLsbD x.A.n.toNat)]:=by
   rw[hd,h33,hh]
   cases s.getLsbD x.A.n.toNat<;>simp
  rw[e1]
  have a0':(0:Int)≤x.A.n:=a0
  rcases hn with n1|⟨n1,n2⟩
  ·simp -implicitDefEqProofs [table827,hr,Rw.v_eq,hz,n1,a0,a1,hg,dK_one,dK_no,Tx.E,Tx.D,Tx.la,Tx.ct,Tx.it,Tx.mv,Tx.fa,Tx.ld,Tx.ia,Tx.al,Tx.st,Tx.mc,recOf,isSomeV]
  ·simp -implicitDefEqProofs [table827,hr,Rw.v_eq,hz,n1,n2,a0,a1,hg,dK_one,dK_no,Tx.E,Tx.D,Tx.la,Tx.ct,Tx.it,Tx.mv,Tx.fa,Tx.ld,Tx.ia,Tx.al,Tx.st,Tx.mc,recOf,isSomeV]
 have n1: ¬r.name=[102,105,101,108,100]:=fun e=>c1 (.inl (r1.1 e))
 have n2: ¬r.name=[112,117,116,45,102,105,101,108,100]:=fun e=>c1 (.inr (r2.1 e))
 have hd:doesS m x s=if x.Op.n=25 then(withS s x.A.n,0,0)else if x.Op.n=26 then(goneS s x.A.n,0,0)else if x.Op.n=27 then(moveS m x.A.n x.B.n s,0,0)
  else if x.Op.n=28 then(moveS m x.A.n (-x.B.n) s,0,0)else if x.Op.n=33 then(withS s x.A.n,goneS s x.A.n,0)else(s,s,0):=by unfold doesS;rw[if_neg c1]
 by_cases c2:x.Op.n=25
 ·have hE:doesS m x s=(withS s x.A.n,0,0):=by rw[hd,if_pos c2]
  obtain⟨a0,a1⟩:=mayC_A64 h (by omega)
  have n3:=r3.2 c2
  have sw:=setV_with s a0 a1
  have h33:does2 x s=s:=if_neg (by omega)
  simp -implicitDefEqProofs [table827,hr,Rw.v_eq,hz,n3,a0,a1,sw,hE,h33,dK_one,dK_no,Tx.E,Tx.D,Tx.la,Tx.ct,Tx.it,Tx.mv,Tx.fa,Tx.ld,Tx.ia,Tx.al,Tx.st,Tx.mc,recOf,isSomeV]
 have n3: ¬r.name=[115,104,111,119]:=fun e=>c2 (r3.1 e)
 by_cases c3:x.Op.n=26
 ·have hE:doesS m x s=(goneS s x.A.n,0,0):=by rw[hd,if_neg c2,if_pos c3]
  obtain⟨a0,a1⟩:=mayC_A64 h (by omega)
  have n4:=r4.2 c3
  have sw:=setV_gone s a0 a1
  have h33:does2 x s=s:=if_neg (by omega)
  simp -implicitDefEqProofs [table827,hr,Rw.v_eq,hz,n4,a0,a1,sw,hE,h33,dK_one,dK_no,Tx.E,Tx.D,Tx.la,Tx.ct,Tx.it,Tx.mv,Tx.fa,Tx.ld,Tx.ia,Tx.al,Tx.st,Tx.mc,recOf,isSomeV]
 have n4: ¬r.name=[104,105,100,101]:=fun e=>c3 (r4.1 e)
 by_cases c4:x.Op.n=27
 ·have hE:doesS m x s=(moveS m x.A.n x.B.n s,0,0):=by rw[hd,if_neg c2,if_neg c3,if_pos c4]
  have hB:=mayC_B h (by omega)
  have n5:=r5.2 c4
  have hm:=rmove904 m hb hs x.A.n x.B.n (by omega) s
  have h33:does2 x s=s:=if_neg (by omega)
  simp -implicitDefEqProofs [table827,hr,Rw.v_eq,hz,n5,hm,hE,h33,dK_one,dK_no,Tx.E,Tx.D,Tx.la,Tx.ct,Tx.it,Tx.mv,Tx.fa,Tx.ld,Tx.ia,Tx.al,Tx.st,Tx.mc,recOf,isSomeV]
 have n5: ¬r.name=[112,117,115,104,45,104,101,97,100]:=fun e=>c4 (r5.1 e)
 by_cases c5:x.Op.n=28
 ·have hE:doesS m x s=(moveS m x.A.n (-x.B.n) s,0,0):=by rw[hd,if_neg c2,if_neg c3,if_neg c4,if_pos c5]
  have hB:=mayC_B h (by omega)
  have n6:=r6.2 c5
  have hm:=rmove904 m hb hs x.A.n (-x.B.n) (by omega) s
  have wn:IntKind.i64.wrap (-x.B.n)= -x.B.n:=wrap64 (by omega) (by omega)
  have h33:does2 x s=s:=if_neg (by omega)
  simp -implicitDefEqProofs [table827,hr,Rw.v_eq,hz,n6,hm,wn,hE,h33,dK_one,dK_no,Tx.E,Tx.D,Tx.la,Tx.ct,Tx.it,Tx.mv,Tx.fa,Tx.ld,Tx.ia,Tx.al,Tx.st,Tx.mc,recOf,isSomeV]
 have n6: ¬r.name=[112,111,112,45,104,101,97,100]:=fun e=>c5 (r6.1 e)
 by_cases c6:x.Op.n=33
 ·have hE:doesS m x s=(withS s x.A.n,goneS s x.A.n,0):=by rw[hd,if_neg c2,if_neg c3,if_neg c4,if_neg c5,if_pos c6]
  obtain⟨a0,a1⟩:=mayC_A64 h (by omega)
  have n7:=r7.2 c6
  have sw:=setV_with s a0 a1
  have sg:=setV_gone s a0 a1
  have h33:does2 x s=goneS s x.A.n:=if_pos c6
  simp -implicitDefEqProofs [table827,hr,Rw.v_eq,hz,n7,a0,a1,sw,sg,hE,h33,dK_one,dK_no,Tx.E,Tx.D,Tx.la,Tx.ct,Tx.it,Tx.mv,Tx.fa,Tx.ld,Tx.ia,Tx.al,Tx.st,Tx.mc,recOf,isSomeV]
 have n7: ¬r.name=[106,117,109,112,45,103,111,110,101]:=fun e=>c6 (r7.1 e)
 have h33:does2 x s=s:=if_neg c6
 have hE:doesS m x s=(s,s,0):=by rw[hd,if_neg c2,if_neg c3,if_neg c4,if_neg c5,if_neg c6]
 simp -implicitDefEqProofs [table827,hr,Rw.v_eq,hz,n1,n2,n3,n4,n5,n6,n7,hE,h33,dK_one,dK_no,Tx.E,Tx.D,Tx.la,Tx.ct,Tx.it,Tx.mv,Tx.fa,Tx.ld,Tx.ia,Tx.al,Tx.st,Tx.mc,recOf,isSomeV]
end Go.VE.Un
namespace Go.VE.Un
open Go.VE
theorem right701(m:Image)(hm:Clo m)(hT:Tiny m):callRO vp 701 [m.v]=some (.bool (rightB m)):=by
 have hc:=check828 m hm hT
 have a1:=m.Headers.le;have a2:=m.Insts.le;have a3:=m.States.le;have a4:=m.Actions.le
 have a5:=m.Tables.le;have a6:=m.Ingress.le;have a7:=m.Egress.le
 have w1:IntKind.i64.wrap ((m.Headers.l.length:Int)+m.Insts.l.length)=(m.Headers.l.length:Int)+m.Insts.l.length:=wrap64 (by omega) (by omega)
 have w2:IntKind.i64.wrap ((m.Headers.l.length:Int)+m.Insts.l.length+m.States.l.length)=(m.Headers.l.length:Int)+m.Insts.l.length+m.States.l.length:=wrap64 (by omega) (by omega)
 have w3:IntKind.i64.wrap ((m.Headers.l.length:Int)+m.Insts.l.length+m.States.l.length+m.Actions.l.length)=(m.Headers.l.length:Int)+m.Insts.l.length+m.States.l.length+m.Actions.l.length:=wrap64 (by omega) (by omega)
 have w4:IntKind.i64.wrap ((m.Headers.l.length:Int)+m.Insts.l.length+m.States.l.length+m.Actions.l.length+m.Tables.l.length)=(m.Headers.l.length:Int)+m.Insts.l.length+m.States.l.length+m.Actions.l.length+m.Tables.l.length:=wrap64 (by omega) (by omega)
 have w5:IntKind.i64.wrap ((m.Headers.l.length:Int)+m.Insts.l.length+m.States.l.length+m.Actions.l.length+m.Tables.l.length+m.Ingress.l.length)=(m.Headers.l.length:Int)+m.Insts.l.length+m.States.l.length+m.Actions.l.length+m.Tables.l.length+m.Ingress.l.length:=wrap64 (by omega) (by omega)
 have w6:IntKind.i64.wrap ((m.Headers.l.length:Int)+m.Insts.l.length+m.States.l.length+m.Actions.l.length+m.Tables.l.length+m.Ingress.l.length+m.Egress.l.length)=(m.Headers.l.length:Int)+m.Insts.l.length+m.States.l.length+m.Actions.l.length+m.Tables.l.length+m.Ingress.l.length+m.Egress.l.length:=wrap64 (by omega) (by omega)
 rw[callRO_K fn701]
 unfold rightB
 by_cases h:150<sizeM m
 ·have e: ¬sizeM m≤150:=by omega
  have h':=h
  unfold sizeM at h'
  simp -implicitDefEqProofs [w1,w2,w3,w4,w5,w6,h',e]
 ·have e:sizeM m≤150:=by omega
  have h':=h
  unfold sizeM at h'
  simp -implicitDefEqProofs [w1,w2,w3,w4,w5,w6,h',e,hc]
end Go.VE.Un
namespace Go.VE.Un
open Go.VE
def plcV(p:Bool ×Sl):V:=.agg (.bool p.1::(bitsS p.2).map V.bool)
@[simp] theorem plcV_closed(p:Bool ×Sl):closedB (plcV p)=true:=by simp[plcV,bools_closed]
@[simp] theorem plcV_below(k:Nat)(p:Bool ×Sl):belowB k (plcV p)=true:=by simp[plcV,bools_below]
@[simp] theorem plcV_ok(p:Bool ×Sl):okV (plcV p)=true:=nr rfl
@[simp] theorem plcV_ldw(p:Bool ×Sl):ldc (plcV p) true 65 0=some (plcV p):=ldc_all (by simp)
@[simp] theorem plcV_ld0(p:Bool ×Sl)(n:Nat):ldc (plcV p) false n 0=some (.bool p.1):=rfl
@[simp] theorem plcV_ld1(p:Bool ×Sl):ldc (plcV p) true 64 1=some (setV p.2):=by
  unfold plcV
  rw[ldc_agg _ _ _ (by simp)]
  simp only[List.drop_succ_cons,List.drop_zero]
  rw[List.take_of_length_le (by simp)];rfl
section
variable (m : Image) (l : GL Ins) (n : Nat) (e1 e2 : List V)
end
theorem doesS_jump(m:Image)(x:Ins)(s:Sl)(h:x.Op.n=31∨x.Op.n=32∨x.Op.n=34):doesS m x s=(s,s,0):=by
 unfold doesS
 rw[if_neg (by omega),if_neg (by omega),if_neg (by omega),if_neg (by omega),if_neg (by omega),if_neg (by omega)]
theorem doesS_err(m:Image)(x:Ins)(s:Sl)(h:(doesS m x s).2.2≠0):(doesS m x s).2.2=11:=by
 unfold doesS at h⊢
 repeat' split at h
 all_goals simp_all
end Go.VE.Un
namespace Go.VE.Un
open Go.VE
theorem overS_err11(m:Image)(n:Nat): ∀(r:List Ins) (i:Nat) (P:List (Bool ×Sl)) {j:Nat} {e:Int},(overS m n r i P).1=some (j,e)→e=11
 |[],_,_,_,_,h=>by simp[overS]at h
 |x::r,i,P,j,e,h=>by
  simp only[overS]at h
  split at h
  ·exact overS_err11 m n r _ _ h
  ·split at h
   ·rename_i c;simp at h;rw[←h.2];exact doesS_err m x _ c
   ·split at h
    ·exact overS_err11 m n r _ _ h
    ·exact overS_err11 m n r _ _ h
theorem iaddrA3{k:Nat}(B ep j o:Nat)(hk:k<3):iaddrA 3 1 (.ptr B ep j o) (.int .i64 (k:Int))=some (.ptr B ep j (o+k)):=by
 rw[iaddrA_ptr _ _ _ _ _ _ _ _ (by omega) (by omega)];simp
end Go.VE.Un
