/- Joined texts: CfL, CfM. No condition: what each theorem needs stands in it. -/
import Derived.Test.YtieifgngaaccmaaGreatCc16
namespace Go.VE.Un
open Go.VE
def ofL:List I64→Sl→Sl
 |[],s=>s
 |x::r,s=>ofL r (withS s x.n)
theorem loop463(l:GL I64): ∀(r:List I64) (k:Int) (s:Sl),0≤k→k≤l.l.length→l.l.drop k.toNat=r→(orc vp).loop 0 [3,6,7,8] L463_0 [(3,sV s),(6,GL.v 1 I64.v l),(7,.int .i64 l.l.length),(8,.int .i64 k)] []=
 some (.brk 0,[(3,sV (ofL r s)),(6,GL.v 1 I64.v l),(7,.int .i64 l.l.length),(8,.int .i64 l.l.length),(9,.bool false)],[]):=by
 have hle:=l.le
 intro r
 induction r with
 |nil=>
  intro k s hk hk2 hd
  have:=drop_nil hk hd
  have e:k=l.l.length:=by omega
  subst e
  rw[lp463_0]
  simp -implicitDefEqProofs [ofL]
 |cons x r ih=>
  intro k s hk hk2 hd
  obtain⟨h1,h2,h3⟩:=drop_cons hk hd
  have w1:IntKind.i64.wrap (k+1)=k+1:=wrap64 (by omega) (by omega)
  have ih:=ih (k+1) (withS s x.n) (by omega) (by omega) h3
  rw[lp463_0]
  simp -implicitDefEqProofs [h1,h2,w1,ofL,ih]
theorem of463(l:GL I64):callRO vp 463 [GL.v 1 I64.v l]=some (sV (ofL l.l 0#64)):=by
 have hl:=loop463 l l.l 0 0#64 (by omega) (by omega) rfl
 rw[callRO_K fn463]
 simp -implicitDefEqProofs [sV_zero,hl]
theorem loop700(s:Sl): ∀(j:Nat) (i:Int) (n:Nat),i+1=j→j≤64→n=s.toNat/2^j→(orc vp).loop 0 [1,3,4] L700_0 [(1,.ptr 0 1 0 0),(3,.int .u64 n),(4,.int .i64 i)] [.arr [setV s]]=
 some (.brk 0,[(1,.ptr 0 1 0 0),(3,sV s),(4,.int .i64 (-1)),(6,.bool false)],[.arr [setV s]]):=by
 intro j
 induction j with
 |zero=>
  intro i n h hj hn
  have hi:i= -1:=by omega
  subst hi
  have:n=s.toNat:=by rw[hn];simp
  subst this
  rw[lp700_0]
  simp -implicitDefEqProofs [sV]
 |succ j ih=>
  intro i n h hj hn
  have h0:0≤i:=by omega
  have h64:i<(64:Nat):=by omega
  have w1:IntKind.i64.wrap (i-1)=i-1:=wrap64 (by omega) (by omega)
  have hg:=setV_ld s 1 i.toNat (by omega)
  have hia:=fun B ep j o=>iA (B:=B) (ep:=ep) (j:=j) (o:=o) (n:=64) h0 h64
  have hlt:=s.isLt
  have hi2:i.toNat=j:=by omega
  have hdiv:s.toNat/2^j/2=n:=by rw[hn,Nat.pow_succ,Nat.div_div_eq_div_mul]
  have hmod:s.getLsbD i.toNat=decide (s.toNat/2^j%2=1):=by
   rw[hi2,←BitVec.testBit_toNat,Nat.testBit_eq_decide_div_mod_eq]
  have hle:s.toNat/2^j≤s.toNat:=Nat.div_le_self _ _
  generalize s.toNat/2^j=q at*
  have wm:IntKind.u64.wrap (2*(n:Int))=((2*n:Nat):Int):=by rw[wrapU64 (by omega) (by omega)];omega
  rw[lp700_0]
  rw[hmod]at hg
  by_cases c:q%2=1
  ·have ih:=ih (i-1) q (by omega) (by omega) rfl
   have wa:IntKind.u64.wrap (((2*n:Nat):Int)+1)=(q:Int):=by rw[wrapU64 (by omega) (by omega)];omega
   rw[decide_eq_true c]at hg
   generalize ((2*n:Nat):Int)=t at*
   simp -implicitDefEqProofs [h0,wm,hia,hg,wa,w1,ih]
  ·have ih:=ih (i-1) q (by omega) (by omega) rfl
   have e:((2*n:Nat):Int)=(q:Int):=by omega
   rw[decide_eq_false c]at hg
   rw[e]at wm
   simp -implicitDefEqProofs [h0,wm,hia,hg,w1,ih]
theorem number700(s:Sl):callRO vp 700 [setV s]=some (sV s):=by
 have hl:=loop700 s 64 63 0 (by omega) (by omega) (by rw[Nat.div_eq_of_lt s.isLt])
 have hz:((0:Nat):Int)=0:=rfl
 rw[hz]at hl
 rw[callRO_K fn700]
 simp -implicitDefEqProofs [hl]
def rd(P:List (Bool ×Sl))(i:Nat):Bool:=(P.getD i (false,0)).1
def st(P:List (Bool ×Sl))(i:Nat):Sl:=(P.getD i (false,0)).2
def Dn(P Q:List (Bool ×Sl)):Prop:= ∀k,rd P k=true→rd Q k=true∧SubS (st Q k) (st P k)
theorem Dn.refl(P:List (Bool ×Sl)):Dn P P:=fun _ h=>⟨h,.refl _⟩
theorem Dn.trans{P Q R:List (Bool ×Sl)}(h:Dn P Q)(g:Dn Q R):Dn P R:=fun k e=>⟨(g k (h k e).1).1,(g k (h k e).1).2.trans (h k e).2⟩
theorem SubS.andl(a b:Sl):SubS (a&&&b) a:=fun k e=>by rw[BitVec.getLsbD_and,Bool.and_eq_true]at e;exact e.1
theorem SubS.andr(a b:Sl):SubS (a&&&b) b:=fun k e=>by rw[BitVec.getLsbD_and,Bool.and_eq_true]at e;exact e.2
theorem at_dn(P:List (Bool ×Sl))(i:Nat)(s:Sl):Dn P (atP P i s):=by
 intro k e
 unfold rd st at*
 unfold atP
 rw[getD_set]
 by_cases c:i=k∧i<P.length
 ·obtain⟨rfl,c⟩:=c
  rw[if_pos ⟨rfl,c⟩]
  unfold meetP
  rw[if_pos e];exact⟨rfl,.andl _ _⟩
 ·rw[if_neg c];exact⟨e,.refl _⟩
theorem at_hit(P:List (Bool ×Sl))(i:Nat)(s:Sl)(h:i<P.length):rd (atP P i s) i=true∧SubS (st (atP P i s) i) s:=by
 unfold rd st atP
 rw[getD_set,if_pos ⟨rfl,h⟩]
 unfold meetP
 split
 ·exact⟨rfl,.andr _ _⟩
 ·exact⟨rfl,.refl _⟩
theorem at_miss(P:List (Bool ×Sl))(i k:Nat)(s:Sl)(h:i≠k):(atP P i s).getD k (false,0)=P.getD k (false,0):=by
 unfold atP;rw[getD_set,if_neg (fun c=>h c.1)]
structure Snd (m:Image) (n:Nat) (x:Ins) (k:Nat) (F:List (Bool ×Sl)):Prop where
 ok:(doesS m x (st F k)).2.2=0
 stop:x.Op.n=34→rd F n=true∧SubS (st F n) (st F k)
 jump: ∀t,targetB x=some t→rd F t.toNat=true∧SubS (st F t.toNat) (doesS m x (st F k)).2.1
 next:x.Op.n≠34→x.Op.n≠31→rd F (k+1)=true∧SubS (st F (k+1)) (doesS m x (st F k)).1
theorem overS_sound(m:Image)(n:Nat)(l:List Ins)(hn:l.length=n)(ht: ∀(k:Nat) x t,l[k]? =some x→targetB x=some t→(k:Int)+1≤t∧t≤n): ∀(r:List Ins) (i:Nat) (P:List (Bool ×Sl)),l.drop i=r→i≤n→P.length=n+1→(overS m n r i P).1=none→(∀k,k≤i→(overS m n r i P).2.getD k (false,0)=P.getD k (false,0))∧Dn P (overS m n r i P).2∧∀(k:Nat) x,i≤k→l[k]? =some x→rd (overS m n r i P).2 k=true→Snd m n x k (overS m n r i P).2
 |[],i,P,hd,hi,hP,h=>⟨fun _ _=>rfl,.refl _,fun k x hk hx _=>by
    have:l.length≤i:=List.drop_eq_nil_iff.1 hd
    rw[List.getElem?_eq_none (by omega)]at hx;simp at hx⟩
 |x::r,i,P,hd,hi,hP,h=>by
  have hi2:i<n:=by
   have:i<l.length:=by
    rcases Nat.lt_or_ge i l.length with h|h
    ·exact h
    ·rw[List.drop_eq_nil_of_le h]at hd;simp at hd
   omega
  have hx:l[i]? =some x:=by
   have:=congrArg (fun q=>q[0]?) hd
   simpa using this
  have hd':l.drop (i+1)=r:=by
   have:=congrArg (List.drop 1) hd
   simpa using this
  have ih:=overS_sound m n l hn ht r (i+1)
  simp only[overS]at h⊢
  by_cases c1:(P.getD i (false,0)).1=false
  ·rw[if_pos c1]at h⊢
   obtain⟨h1,h2,h3⟩:=ih P hd' (by omega) hP h
   refine⟨fun k hk=>h1 k (by omega),h2,fun k y hk hy hr=> ?_⟩
   by_cases e:k=i
   ·subst e
    unfold rd at hr;rw[h1 k (by omega),c1]at hr;simp at hr
   ·exact h3 k y (by omega) hy hr
  rw[if_neg c1]at h⊢
  by_cases c2:(doesS m x (P.getD i (false,0)).2).2.2=0
  ·have f2: ¬(doesS m x (P.getD i (false,0)).2).2.2≠0:=fun h=>h c2
   rw[if_neg f2]at h⊢
   by_cases c3:x.Op.n=34
   ·rw[if_pos c3]at h⊢
    obtain⟨h1,h2,h3⟩:=ih (atP P n (P.getD i (false,0)).2) hd' (by omega) (by simp[hP]) h
    have hF: ∀k,k≤i→(overS m n r (i+1) (atP P n (P.getD i (false,0)).2)).2.getD k (false,0)=P.getD k (false,0):=fun k hk=>by rw[h1 k (by omega),at_miss _ _ _ _ (by omega)]
    have hs:st (overS m n r (i+1) (atP P n (P.getD i (false,0)).2)).2 i=(P.getD i (false,0)).2:=by unfold st;rw[hF i (by omega)]
    refine⟨hF,(at_dn _ _ _).trans h2,fun k y hk hy hr=> ?_⟩
    by_cases e:k=i
    ·subst e
     rw[hx]at hy;obtain rfl:=Option.some.inj hy
     obtain⟨g1,g2⟩:=at_hit P n (P.getD k (false,0)).2 (by omega)
     obtain⟨g3,g4⟩:=h2 n g1
     exact⟨by rw[hs];exact c2,fun _=>⟨g3,by rw[hs];exact g4.trans g2⟩,fun t e=>by rw[targetB,if_neg (by omega),if_neg (by omega)]at e;simp at e,fun e=>absurd c3 e⟩
    ·exact h3 k y (by omega) hy hr
   ·rw[if_neg c3]at h⊢
    have htx:=ht i x
    generalize hP2:(if x.Op.n=31 then(match targetB x with|some t=>atP P t.toNat (doesS m x (P.getD i (false,0)).2).2.1|none=>P)else atP (match targetB x with|some t=>atP P t.toNat (doesS m x (P.getD i (false,0)).2).2.1|none=>P) (i+1) (doesS m x (P.getD i (false,0)).2).1)=P2 at*
    have hp:P2.length=n+1∧(∀k,k≤i→P2.getD k (false,0)=P.getD k (false,0))∧Dn P P2∧(∀t,targetB x=some t→rd P2 t.toNat=true∧SubS (st P2 t.toNat) (doesS m x (P.getD i (false,0)).2).2.1)∧
     (x.Op.n≠31→rd P2 (i+1)=true∧SubS (st P2 (i+1)) (doesS m x (P.getD i (false,0)).2).1):=by
     generalize (doesS m x (P.getD i (false,0)).2).1=d1 at*
     generalize (doesS m x (P.getD i (false,0)).2).2.1=d2 at*
     subst hP2
     cases hT:targetB x with
     |none=>
      dsimp only
      split
      ·exact⟨hP,fun _ _=>rfl,.refl _,fun t e=>by simp at e,fun e=>absurd ‹_› e⟩
      ·exact⟨by simp[hP],fun k hk=>at_miss _ _ _ _ (by omega),at_dn _ _ _,fun t e=>by simp at e,fun _=>at_hit _ _ _ (by omega)⟩
     |some t=>
      obtain⟨t0,t1⟩:=htx t hx hT
      have g:=at_hit P t.toNat d2 (by omega)
      dsimp only
      split
      ·exact⟨by simp[hP],fun k hk=>at_miss _ _ _ _ (by omega),at_dn _ _ _,fun u e=>by simp at e;subst e;exact g,fun e=>absurd ‹_› e⟩
      ·refine⟨by simp[hP],fun k hk=>by rw[at_miss _ _ _ _ (by omega),at_miss _ _ _ _ (by omega)],(at_dn _ _ _).trans (at_dn _ _ _),fun u e=> ?_,fun _=>at_hit _ _ _ (by simp;omega)⟩
       simp at e;subst e
       have g2:=at_dn (atP P t.toNat d2) (i+1) d1 _ g.1
       exact⟨g2.1,g2.2.trans g.2⟩
    obtain⟨p1,p2,p3,p4,p5⟩:=hp
    obtain⟨h1,h2,h3⟩:=ih P2 hd' (by omega) p1 h
    have hF: ∀k,k≤i→(overS m n r (i+1) P2).2.getD k (false,0)=P.getD k (false,0):=fun k hk=>by rw[h1 k (by omega),p2 k hk]
    have hs:st (overS m n r (i+1) P2).2 i=(P.getD i (false,0)).2:=by unfold st;rw[hF i (by omega)]
    refine⟨hF,p3.trans h2,fun k y hk hy hr=> ?_⟩
    by_cases e:k=i
    ·subst e
     rw[hx]at hy;obtain rfl:=Option.some.inj hy
     refine⟨by rw[hs];exact c2,fun e=>absurd e c3,fun t e=> ?_,fun _ e=> ?_⟩
     ·obtain⟨g1,g2⟩:=p4 t e
      obtain⟨g3,g4⟩:=h2 _ g1
      rw[hs];exact⟨g3,g4.trans g2⟩
     ·obtain⟨g1,g2⟩:=p5 e
      obtain⟨g3,g4⟩:=h2 _ g1
      rw[hs];exact⟨g3,g4.trans g2⟩
    ·exact h3 k y (by omega) hy hr
  ·rw[if_pos c2]at h;simp at h
theorem code_ahead{m:Image}{l:List Ins}(h:codeF m l 8=0)(k:Nat)(x:Ins)(t:Int)(hx:l[k]? =some x)(ht:targetB x=some t):(k:Int)+1≤t∧t≤l.length:=by
 unfold codeF at h
 cases ha:allC l with
 |some q=>obtain⟨i,e⟩:=q;rw[ha]at h;exact absurd h (allC_some ha)
 |none=>
  rw[ha]at h
  have:=stepsE_0 l l 0 (by omega) rfl h (k:Int) x (by omega) (by simp[getI,hx])
  simp only[stepE,ht]at this
  split at this
  ·simp at this
  ·cases hb:inB t ((k:Int)+1) l.length
   ·rw[hb]at this;simp[wantE]at this
   ·simp[inB]at hb;exact hb
theorem with_in{s:Sl}{n:Int}(h:hasS s n=true):withS s n=s:=BitVec.eq_of_getLsbD_eq fun k hk=>by
 rw[withS_get]
 rw[hasS_get]at h
 simp only[Bool.and_eq_true,decide_eq_true_eq]at h
 by_cases c:isS n k=true
 ·have:k=n.toNat:=by unfold isS at c;simp at c;exact c.2.2
  rw[this,h.2];rfl
 ·rw[(Bool.not_eq_true _).mp c,Bool.or_false]
theorem gone_sub(s:Sl)(n:Int):SubS (goneS s n) s:=fun k e=>by rw[goneS_get,Bool.and_eq_true]at e;exact e.1
theorem target_31{x:Ins}{t:Int}(ht:targetB x=some t)(c:x.Op.n≠33):x.Op.n=31∨x.Op.n=32:=by
 unfold targetB at ht
 split at ht
 ·assumption
 ·simp at ht
inductive Turn (m:Image) (n:Nat) (x:Ins) (k:Nat) (T:Sl):Nat→Sl→Prop
 |stop:x.Op.n=34→Turn m n x k T n T
 |jump (t:Int):targetB x=some t→x.Op.n≠33→Turn m n x k T t.toNat T
 |gone (t:Int):targetB x=some t→x.Op.n=33→hasS T x.A.n=false→Turn m n x k T t.toNat T
 |here:x.Op.n=33→hasS T x.A.n=true→Turn m n x k T (k+1) T
 |next:x.Op.n≠33→x.Op.n≠34→x.Op.n≠31→Turn m n x k T (k+1) (doesS m x T).1
theorem Turn.keeps{m:Image}{n:Nat}{x:Ins}{k:Nat}{F:List (Bool ×Sl)}{T:Sl}(h:Snd m n x k F)(g:SubS (st F k) T){k2:Nat}{T2:Sl}(t:Turn m n x k T k2 T2):rd F k2=true∧SubS (st F k2) T2:=by
 cases t with
 |stop c=>exact⟨(h.stop c).1,(h.stop c).2.trans g⟩
 |jump t ht c=>
  have e:=h.jump t ht
  have hd:=doesS_jump m x (st F k) (by have:=target_31 ht c;omega)
  rw[hd]at e
  exact⟨e.1,e.2.trans g⟩
 |gone t ht c hh=>
  have e:=h.jump t ht
  have hd:(doesS m x (st F k)).2.1=goneS (st F k) x.A.n:=by
   unfold doesS;rw[if_neg (by omega),if_neg (by omega),if_neg (by omega),if_neg (by omega),if_neg (by omega),if_pos c]
  rw[hd]at e
  exact⟨e.1,(e.2.trans (gone_sub _ _)).trans g⟩
 |here c hh=>
  have e:=h.next (by omega) (by omega)
  have hd:(doesS m x (st F k)).1=withS (st F k) x.A.n:=by
   unfold doesS;rw[if_neg (by omega),if_neg (by omega),if_neg (by omega),if_neg (by omega),if_neg (by omega),if_pos c]
  rw[hd]at e
  have w:=g.with x.A.n
  rw[with_in hh]at w
  exact⟨e.1,e.2.trans w⟩
 |next c1 c2 c3=>
  have e:=h.next c2 c3
  exact⟨e.1,e.2.trans (doesS_mono m x g h.ok).2.1⟩
theorem ix1(a:V):iaddrV 1 (.sl 1 [a] .ce) (.int .i64 0)=some (.eptr a 0 .ce):=rfl
theorem ix20(a b:V):iaddrV 1 (.sl 1 [a,b] .ce) (.int .i64 0)=some (.eptr a 0 .ce):=rfl
theorem ix21(a b:V):iaddrV 1 (.sl 1 [a,b] .ce) (.int .i64 1)=some (.eptr b 0 .ce):=rfl
theorem ways_cases(w:GL I64)(k:Nat):(¬(k:Int)<w.l.length)∨∃v,(k:Int)<w.l.length∧getI w.l (k:Int)=some v∧binV .rem (.int .i64 v.n) (.int .i64 2)=some (.int .i64 (v.n.tmod 2))∧(v.n.tmod 2=0∨v.n.tmod 2≠0):=by
 rcases getI_cases w.l (k:Int)with⟨v,h0,h1,h2⟩|⟨h0,h1⟩
 ·exact .inr ⟨v,h1,h2,bin_rem _ _ _ (by decide),by omega⟩
 ·exact .inl (by omega)
set_option maxRecDepth 100000 in
set_option maxHeartbeats 4000000 in
theorem turn697(m:Image)(hb:m.Insts.l.length≤10000000)(hs:Stk m)(l:GL Ins)(w:GL I64)(n:Nat)(hn:l.l.length=n)(hn2:n≤64)(ht: ∀(k:Nat) x t,l.l[k]? =some x→targetB x=some t→(k:Int)+1≤t∧t≤n)(e1:List V)(o:Sl)
 (F:List (Bool ×Sl)) (k tn:Nat) (T:Sl) (x:Ins) (hx:l.l[k]? =some x) (hm:mayC x=0) (hF:Snd m n x k F) (hT:SubS (st F k) T) (hk:k<n) (htn:tn≤k): ∃k2 tn2 T2,Turn m n x k T k2 T2∧k<k2∧k2≤n∧tn2≤k2∧(orc vp).loop 0 [1,3,9,10,13,14,15] L697_0 [(1,GL.v 6 Ins.v l),(3,.ptr 0 1 0 0),(9,GL.v 1 I64.v w),(10,sV o),(13,.ptr 2 1 0 0),(14,.int .i64 k),(15,.int .i64 tn)] [.arr [m.v],.arr e1,.arr [setV T]]=(orc vp).loop 0 [1,3,9,10,13,14,15] L697_0 [(1,GL.v 6 Ins.v l),(3,.ptr 0 1 0 0),(9,GL.v 1 I64.v w),(10,sV o),(13,.ptr 2 1 0 0),(14,.int .i64 k2),(15,.int .i64 tn2)] [.arr [m.v],.arr e1,.arr [setV T2]]:=by
 obtain⟨h0,h1⟩:=mayC_op hm
 obtain⟨r,hr,r1,r2,r3,r4,r5,r6,r7,r8,r9,r10⟩:=row_flow h0 h1
 have hlt:(k:Int)<n:=by omega
 have hx':getI l.l (k:Int)=some x:=by simp[getI,hx]
 have hld:=leads899 x h0 h1 (k:Int) (by omega)
 obtain⟨k1,hk1⟩: ∃k1,k+1=k1:=⟨_,rfl⟩
 obtain⟨t1,ht1⟩: ∃t1,tn+1=t1:=⟨_,rfl⟩
 have ek:(k:Int)+1=(k1:Int):=by omega
 have w2:IntKind.i64.wrap ((tn:Int)+1)=(t1:Int):=by rw[wrap64 (by omega) (by omega)];omega
 have hz:=rp_bs
 have htk:=ht k x
 rw[ek]at htk
 have hT2:=(doesS_mono m x hT hF.ok).1
 have hdo:=rdoes903 m hb hs x hm T
 rw[if_pos hT2]at hdo
 have hv0:x.Op.n≠34→leadsV x k=.sl 1 ((leadsL x k).map (.int .i64)) .ce:=fun c=>if_neg c
 have hw:=ways_cases w tn
 by_cases c34:x.Op.n=34
 ·have n1: ¬r.name=[102,105,101,108,100]:=fun e=>by have:=r1.1 e;omega
  have n2: ¬r.name=[112,117,116,45,102,105,101,108,100]:=fun e=>by have:=r2.1 e;omega
  have hv:leadsV x k=.sl 1 [] .nl:=if_pos c34
  rw[hv]at hld
  refine⟨n,tn,T,.stop c34,hk,Nat.le_refl _,by omega,?_⟩
  rw[lp697_0]
  simp -implicitDefEqProofs [hn,hlt,hx',table827,hr,Rw.v_eq,hz,n1,n2,hld,ix1,ix20,ix21]
 have hv:=hv0 c34
 by_cases c33:x.Op.n=33
 ·have n1: ¬r.name=[102,105,101,108,100]:=fun e=>by have:=r1.1 e;omega
  have n2: ¬r.name=[112,117,116,45,102,105,101,108,100]:=fun e=>by have:=r2.1 e;omega
  have n7:=r7.2 c33
  obtain⟨a0,a1⟩:=mayC_A64 hm (by omega)
  have hL:leadsL x k=[(k1:Int),x.B.n]:=by unfold leadsL;rw[if_neg c34,if_neg (by omega),if_neg (by omega),if_pos c33,ek]
  rw[hv,hL]at hld
  have hT33:targetB x=some x.B.n:=by unfold targetB;rw[if_neg (by omega),if_pos c33]
  obtain⟨b0,b1⟩:=htk _ hx hT33
  obtain⟨bn,hbn⟩: ∃bn:Nat,x.B.n=bn:=⟨x.B.n.toNat,by omega⟩
  have hbn2:x.B.n.toNat=bn:=by omega
  have hg:=setV_ld T 1 x.A.n.toNat (by omega)
  have hia:=fun B ep j o=>iA (B:=B) (ep:=ep) (j:=j) (o:=o) (n:=64) a0 (by omega)
  have hh:=hasS_nat T a0 a1
  rw[hbn]at hld
  cases hc:hasS T x.A.n with
  |true=>
   rw[hh]at hc
   rw[hc]at hg
   refine⟨k1,t1,T,hk1▸.here c33 (hh.trans hc),by omega,by omega,by omega,?_⟩
   rw[lp697_0]
   rcases hw with hw|⟨v,v1,v2,v3,v4⟩
   ·simp -implicitDefEqProofs [hn,hlt,hx',table827,hr,Rw.v_eq,hz,n7,hld,ix1,ix20,ix21,hia,hg,w2,hw,a0]
   ·rcases v4 with v4|v4
    ·simp -implicitDefEqProofs [hn,hlt,hx',table827,hr,Rw.v_eq,hz,n7,hld,ix1,ix20,ix21,hia,hg,w2,v1,v2,v3,v4,a0]
    ·simp -implicitDefEqProofs [hn,hlt,hx',table827,hr,Rw.v_eq,hz,n7,hld,ix1,ix20,ix21,hia,hg,w2,v1,v2,v3,v4,a0]
  |false=>
   have hcc:=hc
   rw[hh]at hc
   rw[hc]at hg
   refine⟨bn,t1,T,hbn2▸.gone _ hT33 c33 hcc,by omega,by omega,by omega,?_⟩
   rw[lp697_0]
   rcases hw with hw|⟨v,v1,v2,v3,v4⟩
   ·simp -implicitDefEqProofs [hn,hlt,hx',table827,hr,Rw.v_eq,hz,n7,hld,ix1,ix20,ix21,hia,hg,w2,hw,a0]
   ·rcases v4 with v4|v4
    ·simp -implicitDefEqProofs [hn,hlt,hx',table827,hr,Rw.v_eq,hz,n7,hld,ix1,ix20,ix21,hia,hg,w2,v1,v2,v3,v4,a0]
    ·simp -implicitDefEqProofs [hn,hlt,hx',table827,hr,Rw.v_eq,hz,n7,hld,ix1,ix20,ix21,hia,hg,w2,v1,v2,v3,v4,a0]
 have n7: ¬r.name=[106,117,109,112,45,103,111,110,101]:=fun e=>c33 (r7.1 e)
 by_cases c31:x.Op.n=31
 ·have n1: ¬r.name=[102,105,101,108,100]:=fun e=>by have:=r1.1 e;omega
  have n2: ¬r.name=[112,117,116,45,102,105,101,108,100]:=fun e=>by have:=r2.1 e;omega
  have hL:leadsL x k=[x.A.n]:=by unfold leadsL;rw[if_neg c34,if_pos c31]
  rw[hv,hL]at hld
  have hT31:targetB x=some x.A.n:=by unfold targetB;rw[if_pos (.inl c31)]
  obtain⟨b0,b1⟩:=htk _ hx hT31
  obtain⟨bn,hbn⟩: ∃bn:Nat,x.A.n=bn:=⟨x.A.n.toNat,by omega⟩
  have hbn2:x.A.n.toNat=bn:=by omega
  have hdj:=doesS_jump m x T (by omega)
  rw[hdj]at hdo
  rw[hbn]at hld
  refine⟨bn,t1,T,hbn2▸.jump _ hT31 c33,by omega,by omega,by omega,?_⟩
  rw[lp697_0]
  simp -implicitDefEqProofs [hn,hlt,hx',table827,hr,Rw.v_eq,hz,n1,n2,n7,hld,ix1,ix20,ix21,hdo,w2]
 by_cases c32:x.Op.n=32
 ·have n1: ¬r.name=[102,105,101,108,100]:=fun e=>by have:=r1.1 e;omega
  have n2: ¬r.name=[112,117,116,45,102,105,101,108,100]:=fun e=>by have:=r2.1 e;omega
  have hL:leadsL x k=[(k1:Int),x.A.n]:=by unfold leadsL;rw[if_neg c34,if_neg c31,if_pos c32,ek]
  rw[hv,hL]at hld
  have hT31:targetB x=some x.A.n:=by unfold targetB;rw[if_pos (.inr c32)]
  obtain⟨b0,b1⟩:=htk _ hx hT31
  obtain⟨bn,hbn⟩: ∃bn:Nat,x.A.n=bn:=⟨x.A.n.toNat,by omega⟩
  have hbn2:x.A.n.toNat=bn:=by omega
  have hdj:=doesS_jump m x T (by omega)
  rw[hdj]at hdo
  rw[hbn]at hld
  have hnx:Turn m n x k T k1 T:=by
   have:=Turn.next (m:=m) (n:=n) (x:=x) (k:=k) (T:=T) c33 c34 c31
   rw[hdj,hk1]at this;exact this
  rcases hw with hw|⟨v,v1,v2,v3,v4⟩
  ·refine⟨k1,t1,T,hnx,by omega,by omega,by omega,?_⟩
   rw[lp697_0]
   simp -implicitDefEqProofs [hn,hlt,hx',table827,hr,Rw.v_eq,hz,n1,n2,n7,hld,ix1,ix20,ix21,hdo,w2,hw]
  ·rcases v4 with v4|v4
   ·refine⟨k1,t1,T,hnx,by omega,by omega,by omega,?_⟩
    rw[lp697_0]
    simp -implicitDefEqProofs [hn,hlt,hx',table827,hr,Rw.v_eq,hz,n1,n2,n7,hld,ix1,ix20,ix21,hdo,w2,v1,v2,v3,v4]
   ·refine⟨bn,t1,T,hbn2▸.jump _ hT31 c33,by omega,by omega,by omega,?_⟩
    rw[lp697_0]
    simp -implicitDefEqProofs [hn,hlt,hx',table827,hr,Rw.v_eq,hz,n1,n2,n7,hld,ix1,ix20,ix21,hdo,w2,v1,v2,v3,v4]
 have hL:leadsL x k=[(k1:Int)]:=by unfold leadsL;rw[if_neg c34,if_neg c31,if_neg c32,if_neg c33,ek]
 rw[hv,hL]at hld
 have hnx:Turn m n x k T k1 (doesS m x T).1:=hk1▸.next c33 c34 c31
 refine⟨k1,t1,_,hnx,by omega,by omega,by omega,?_⟩
 rw[lp697_0]
 generalize (doesS m x T).1=T2 at*
 by_cases c1:x.Op.n=1∨x.Op.n=22
 ·obtain⟨a0,a1⟩:=mayC_A64 hm (by omega)
  have hg:=setV_ld T 1 x.A.n.toNat (by omega)
  have hia:=fun B ep j o=>iA (B:=B) (ep:=ep) (j:=j) (o:=o) (n:=64) a0 (by omega)
  have hh:=hasS_nat T a0 a1
  have hc:hasS T x.A.n=true:=by
   have:=hF.ok
   have hd:doesS m x (st F k)=if hasS (st F k) x.A.n=true then(st F k,st F k,0)else(0,0,11):=by unfold doesS;rw[if_pos c1]
   rw[hd]at this
   split at this
   ·exact hT.has ‹_›
   ·simp at this
  rw[hh]at hc
  rw[hc]at hg
  rcases c1 with c1|c1
  ·have n1:=r1.2 c1
   simp -implicitDefEqProofs [hn,hlt,hx',table827,hr,Rw.v_eq,hz,n1,hld,ix1,ix20,ix21,hdo,hia,hg,w2,a0]
  ·have n2:=r2.2 c1
   simp -implicitDefEqProofs [hn,hlt,hx',table827,hr,Rw.v_eq,hz,n2,hld,ix1,ix20,ix21,hdo,hia,hg,w2,a0]
 ·have n1: ¬r.name=[102,105,101,108,100]:=fun e=>c1 (.inl (r1.1 e))
  have n2: ¬r.name=[112,117,116,45,102,105,101,108,100]:=fun e=>c1 (.inr (r2.1 e))
  simp -implicitDefEqProofs [hn,hlt,hx',table827,hr,Rw.v_eq,hz,n1,n2,n7,hld,ix1,ix20,ix21,hdo,w2]
end Go.VE.Un
namespace Go.VE.Un
open Go.VE
theorem run697(m:Image)(hb:m.Insts.l.length≤10000000)(hs:Stk m)(l:GL Ins)(w:GL I64)(n:Nat)(hn:l.l.length=n)(hn2:n≤64)(ht: ∀(k:Nat) x t,l.l[k]? =some x→targetB x=some t→(k:Int)+1≤t∧t≤n)(hm: ∀x∈l.l,mayC x=0)(e1:List V)(o:Sl)
 (F:List (Bool ×Sl)) (hF: ∀(k:Nat) x,l.l[k]? =some x→rd F k=true→Snd m n x k F): ∀(j k tn:Nat) (T:Sl),n-k≤j→k≤n→tn≤k→rd F k=true→SubS (st F k) T→∃fr T2,SubS (st F n) T2∧(orc vp).loop 0 [1,3,9,10,13,14,15] L697_0 [(1,GL.v 6 Ins.v l),(3,.ptr 0 1 0 0),(9,GL.v 1 I64.v w),(10,sV o),(13,.ptr 2 1 0 0),(14,.int .i64 k),(15,.int .i64 tn)] [.arr [m.v],.arr e1,.arr [setV T]]=some (.brk 0,(1,GL.v 6 Ins.v l)::(3,.ptr 0 1 0 0)::(9,GL.v 1 I64.v w)::(10,sV o)::(13,.ptr 2 1 0 0)::fr,[.arr [m.v],.arr e1,.arr [setV T2]]):=by
 have fin: ∀(tn:Nat) (T:Sl),rd F n=true→SubS (st F n) T→∃fr T2,SubS (st F n) T2∧(orc vp).loop 0 [1,3,9,10,13,14,15] L697_0 [(1,GL.v 6 Ins.v l),(3,.ptr 0 1 0 0),(9,GL.v 1 I64.v w),(10,sV o),(13,.ptr 2 1 0 0),(14,.int .i64 n),(15,.int .i64 tn)] [.arr [m.v],.arr e1,.arr [setV T]]=
  some (.brk 0,(1,GL.v 6 Ins.v l)::(3,.ptr 0 1 0 0)::(9,GL.v 1 I64.v w)::(10,sV o)::(13,.ptr 2 1 0 0)::fr,[.arr [m.v],.arr e1,.arr [setV T2]]):=by
  intro tn T hr hS
  refine⟨[(14,.int .i64 n),(15,.int .i64 tn),(67,.bool false)],T,hS,?_⟩
  rw[lp697_0]
  simp -implicitDefEqProofs [hn]
 intro j
 induction j with
 |zero=>
  intro k tn T hj hk htn hr hS
  have:k=n:=by omega
  subst this
  exact fin tn T hr hS
 |succ j ih=>
  intro k tn T hj hk htn hr hS
  by_cases c:k=n
  ·subst c;exact fin tn T hr hS
  ·have hk2:k<l.l.length:=by omega
   have hx:l.l[k]? =some l.l[k]:=List.getElem?_eq_getElem hk2
   have hsn:=hF k _ hx hr
   obtain⟨k2,tn2,T2,t1,t2,t3,t4,t5⟩:=turn697 m hb hs l w n hn hn2 ht e1 o F k tn T _ hx (hm _ (List.getElem_mem hk2)) hsn hS (by omega) htn
   obtain⟨u1,u2⟩:=t1.keeps hsn hS
   rw[t5]
   exact ih k2 tn2 T2 (by omega) t3 t4 u1 u2
set_option maxRecDepth 100000 in
set_option maxHeartbeats 2000000 in
theorem flowSound(m:Image)(hm:Clo m)(hT:Tiny m)(hsm:Small m)(l:GL Ins)(a b w:GL I64)(hlv:callRO vp 699 []=some (.bool true)):
 callRO vp 697 [m.v,GL.v 6 Ins.v l,.agg [GL.v 1 I64.v a,GL.v 1 I64.v b,GL.v 1 I64.v w]]=some (.bool true):=by
 have hr:=right701 m hm hT
 have hz:=rp_bs
 have i0:=fun B ep j o=>iaddrA3 (k:=0) B ep j o (by omega)
 have i1:=fun B ep j o=>iaddrA3 (k:=1) B ep j o (by omega)
 have i2:=fun B ep j o=>iaddrA3 (k:=2) B ep j o (by omega)
 rw[callRO_K fn697]
 cases h:rightB m
 ·simp -implicitDefEqProofs [hr,h,hlv]
 by_cases h1:(100:Int)<l.l.length
 ·simp -implicitDefEqProofs [hr,h,hlv,h1]
 by_cases h2:(70:Int)<a.l.length
 ·simp -implicitDefEqProofs [hr,h,hlv,h1,i0,i1,i2,h2]
 by_cases h3:(70:Int)<b.l.length
 ·simp -implicitDefEqProofs [hr,h,hlv,h1,i0,i1,i2,h2,h3]
 obtain⟨hc,_⟩:=right_ok h
 have hs:=(stk_of hc).1
 have ca:=of463 a
 have cb:=of463 b
 generalize ofL a.l 0#64=s at ca
 generalize ofL b.l 0#64=t at cb
 have c1:=code461 m hm hsm (fun h=>(stk_of h).1) l s
 unfold flowC at c1
 by_cases hk:codeF m l.l 8=0
 ·rw[if_pos ⟨hc,hk⟩]at c1
  obtain⟨k1,k2,k3⟩:=code_fine hk
  have hso:=overS_sound m l.l.length l.l rfl (code_ahead hk) l.l 0 (startP l.l.length s) rfl (by omega) (by simp[startP])
  have he:=fun {j e}=>overS_err11 m l.l.length l.l 0 (startP l.l.length s) (j:=j) (e:=e)
  generalize overS m l.l.length l.l 0 (startP l.l.length s)=q at c1 hso he
  obtain⟨o,P⟩:=q
  cases o with
  |some je=>
   obtain⟨j,e⟩:=je
   obtain rfl:=he rfl
   simp only[flowA]at c1
   simp -implicitDefEqProofs [hr,h,hlv,h1,i0,i1,i2,h2,h3,ca,cb,c1]
  |none=>
   simp only[flowA]at c1
   obtain⟨g1,g2,g3⟩:=hso rfl
   have gs:P.getD 0 (false,0)=(true,s):=g1 0 (by omega)
   obtain⟨fr,T2,r1,r2⟩:=run697 m hT.insts hs l w l.l.length rfl (allC_none k1).1 (code_ahead hk) k2 [.agg [GL.v 1 I64.v a,GL.v 1 I64.v b,GL.v 1 I64.v w]] (st P l.l.length) P (fun k x hx hrd=>g3 k x (by omega) hx hrd) l.l.length 0 0 (s|||t) (by omega) (by omega) (by omega)
    (by unfold rd;rw[gs]) (by unfold st;rw[gs];exact SubS.or s t)
   have hz0:((0:Nat):Int)=0:=rfl
   rw[hz0]at r2
   have ho:(P.getD l.l.length (false,0)).2=st P l.l.length:=rfl
   rw[ho]at c1
   have c5:=of905 (s|||t)
   have c6:=number700 T2
   have c7:=beq_iff_eq.1 ((subS_iff _ _).2 r1)
   generalize st P l.l.length=out at*
   simp -implicitDefEqProofs [hr,h,hlv,h1,i0,i1,i2,h2,h3,hz,ca,cb,c1,c5,r2,c6,c7]
 ·rw[if_neg (fun h=>hk h.2)]at c1
  simp -implicitDefEqProofs [hr,h,hlv,h1,i0,i1,i2,h2,h3,ca,cb,c1]
end Go.VE.Un
