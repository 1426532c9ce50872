/- Joined texts: PtT, PtS. No condition: what each theorem needs stands in it. -/
import Derived.Test.YthpccfpbghhpoaaGreatCc20
import Derived.Test.YthpccfpbghhpoaaGreatCc18
import Derived.Test.YthpccfpbghhpoaaGreatCc21
namespace Go.VE.Un
open Go.VE
theorem ZJn(p n a e:Int):Zc vp 1028 [.iface 149 (.eptr (wrV p n a e) 0 .perm)]=some (.tup [wrV p n a e,.bool true]):=by
 rw[Za ZJz]
 simp -implicitDefEqProofs [f1028,b1028,Zf,wrV,QU]
theorem ZJk:Zc vp 1028 [.nili]=some (.tup [wrV 0 0 0 0,.bool false]):=by
 rw[Za ZJz]
 simp -implicitDefEqProofs [f1028,b1028,Zf,ZC,wrV,QU]
theorem ZJE(t:Tag)(e0 e3 e4:List V)(o k q:V)(u:Sl)(g:Int)(S:List (Bool ×Sl))(hS:S.length≤100): ∀(j i:Nat),i+j=S.length→∃fr,(orc vp).loop 0 [7,9,13] ZI7 [(7,.ptr 1 1 0 0),(9,.ptr 2 1 0 0),(13,.int .i64 i)] [.arr e0,.arr [.agg [.sl 1 (bS S) t,.sl 1 (sS S) t,o,k]],.arr [fR (.sl 1 (bS S) t) (.sl 64 (rS S) t) u g],.arr e3,.arr e4]=
 some (.brk 0,(7,.ptr 1 1 0 0)::(9,.ptr 2 1 0 0)::fr,[.arr e0,.arr [.agg [.sl 1 (bS S) t,.sl 1 (sS S) t,o,k]],.arr [fR (.sl 1 (bS S) t) (.sl 64 (rS S) t) u g],.arr e3,.arr e4]):=by
 intro j
 have lb:(bS S).length=S.length:=by simp[bS]
 induction j with
 |zero=>
  intro i hi
  have e:i=S.length:=by omega
  refine⟨[(13,.int .i64 i),(85,.bool false)],?_⟩
  have lt: ¬(i:Int)<(bS S).length:=by omega
  rw[ZJe]
  simp -implicitDefEqProofs [-List.reduceReplicate,ZIH,lt]
 |succ j ih=>
  intro i hi
  have hlt:i<S.length:=by omega
  have lt:(i:Int)<(bS S).length:=by omega
  obtain⟨i2,hi2⟩: ∃i2,i+1=i2:=⟨_,rfl⟩
  have w1:IntKind.i64.wrap ((i:Int)+1)=(i2:Int):=by rw[ZK (by omega) (by omega)];omega
  obtain⟨fr,ih⟩:=ih i2 (by omega)
  obtain⟨⟨re,s⟩,hs⟩: ∃x,S[i]? =some x:=⟨_,List.getElem?_eq_getElem hlt⟩
  have g1:Yb 1 (.sl 1 (bS S) t) (.int .i64 (i:Int))=some (.eptr (.bool re) 0 t):=by
   rw[Zfc];unfold Zh bS;rw[if_pos (by omega),Int.toNat_natCast,List.getElem?_map,hs];rfl
  have g2:Yb 1 (.sl 1 (sS S) t) (.int .i64 (i:Int))=some (.eptr (sV s) 0 t):=by
   rw[Zfc];unfold Zh sS;rw[if_pos (by omega),Int.toNat_natCast,List.getElem?_map,hs];rfl
  have g3:Yb 64 (.sl 64 (rS S) t) (.int .i64 (i:Int))=some (.eptr (ZaU s) 0 t):=by
   rw[Zfc];unfold Zh rS;rw[if_pos (by omega),Int.toNat_natCast,List.getElem?_map,hs];rfl
  have c5:=ZHv s
  have c6:=ZGV s s
  have b1:=fun k=>ZIm k S
  have b2:=fun k=>ZIl k S
  refine⟨fr,?_⟩
  rw[ZJe,←ih]
  generalize bS S=B at*
  generalize sS S=C at*
  generalize rS S=D at*
  cases re<;>simp -implicitDefEqProofs [-List.reduceReplicate,ZIH,lt,g1,g2,g3,c5,c6,w1]
end Go.VE.Un
namespace Go.VE.Un
open Go.VE
set_option maxRecDepth 100000 in
set_option maxHeartbeats 4000000 in
theorem pathsFacts(m:Zb)(hm:Clo m)(hT:Zdn m)(hsm:Z2 m)(eg:Bool)(a:U64)(hlv:Zc vp 714 []=some (.bool true)):Zc vp 710 [m.v,.bool eg,.int .u64 a.n]=some (.bool true):=by
 have hr:=Znk m hm hT
 rw[ZmW a,Za ZJU]
 generalize BitVec.ofInt 64 a.n=s
 cases h:Zac m
 ·simp -implicitDefEqProofs [f710,b710,hr,h,hlv]
 obtain⟨hci,_⟩:=Znh h
 have c1:=ZaB m hm hsm eg s
 have c2:=ZHv s
 have c3:=ZI6 m hm hT.insts hci eg s
 unfold ZhD Zqo at c1
 rw[if_pos hci]at c1
 have hok:(Wj m (ndP m eg).l).2=0:=by
  cases eg
  ·exact Zld hci
  ·exact ZlT hci
 obtain⟨hn2,hg⟩:=ZaQ hok
 have he:=fun {a b c e}=>ZIO hci (pP eg) (ndP m eg).l 0 (Yk (ndP m eg).l.length s) (a:=a) (b:=b) (c:=c) (e:=e) (ZJV hci eg)
 have hS:=ZfP m (pP eg) (ndP m eg).l 0 (Yk (ndP m eg).l.length s)
 generalize X2 m (pP eg) (ndP m eg).l 0 (Yk (ndP m eg).l.length s)=q at c1 c3 he hS
 obtain⟨o,P,S⟩:=q
 have hfz:=ZIZ
 cases o with
 |some w=>
  obtain⟨p,n,at_,e⟩:=w
  obtain⟨rfl,_⟩:=he rfl
  have hw:=ZJn p n at_ 11
  simp only[wrO]at c1
  simp only[ZJA,rwV]at c3
  simp only[wrV]at c1 hw
  have hq:eqV (some [.i,.i,.i,.i]) (.agg [.int .i64 p,.int .i64 n,.int .i64 at_,.int .i64 11]) (.agg [.int .i64 p,.int .i64 n,.int .i64 at_,.int .i64 11])=some true:=by simp[eqV,Ux,eqK]
  simp -implicitDefEqProofs [-List.reduceReplicate,f710,b710,hr,h,hlv,c1,c2,c3,hw,hfz,hq,Zf,ZC]
 |none=>
  have hw:=ZJk
  have hSl:=(hS rfl).1
  simp only at hSl
  simp only[ZmB]at c1
  simp only[ZJA,ZJN,rwV]at c3
  simp only[wrV]at hw
  generalize Zau m (ndP m eg).l=sp at*
  generalize (P.getD (ndP m eg).l.length (false,0)).2=x at c1 c3
  obtain⟨fr,hl⟩:=ZJE (tg (ndP m eg).l.length) [m.v] [.agg [.bool false,.int .i64 0,.int .i64 0,.int .i64 0]] [.agg [.int .i64 0,.int .i64 0,.int .i64 0,.int .i64 0]] (sV x) (.int .i64 sp) .undef x sp S (by omega) S.length 0 (by omega)
  have hz0:((0:Nat):Int)=0:=rfl
  rw[hz0]at hl
  have c5:=ZHv x
  have c6:=ZGV x x
  have l1:(sS S).length=(bS S).length:=by simp[sS,bS]
  have l2:(rS S).length=(bS S).length:=by simp[rS,bS]
  have b1:=fun k=>ZIm k S
  have b2:=fun k=>ZIl k S
  have b3:=Zle S
  generalize tg (ndP m eg).l.length=tt at*
  generalize bS S=B at*
  generalize sS S=C at*
  generalize rS S=D at*
  simp -implicitDefEqProofs [-List.reduceReplicate,f710,b710,hr,h,hlv,c1,c2,c3,c5,c6,hw,hfz,l1,l2,hl]
end Go.VE.Un
