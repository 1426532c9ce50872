/- Joined texts: CfB, CfC, CfD, CfF, CfH. No condition: what each theorem needs stands in it. -/
import Derived.Test.YtieifgngaaccmaaGreatCc14
import Derived.Test.YtieifgngaaccmaaGreatCc10
namespace Go.VE.Un
open Go.VE
def plV(p:Bool ×Sl):V:=.agg [.bool p.1,sV p.2]
@[simp] theorem plV_below(k:Nat)(p:Bool ×Sl):belowB k (plV p)=true:=rfl
def meetP(p:Bool ×Sl)(s:Sl):Bool ×Sl:=if p.1=true then(true,p.2&&&s)else(true,s)
def atP(P:List (Bool ×Sl))(i:Nat)(s:Sl):List (Bool ×Sl):=P.set i (meetP (P.getD i (false,0)) s)
@[simp] theorem atP_len(P:List (Bool ×Sl))(i:Nat)(s:Sl):(atP P i s).length=P.length:=by simp[atP]
@[simp] theorem op312(o a:Int):callRO vp 312 [.agg [.int .i64 o,.int .i64 a]]=some (.int .i64 o):=by rw[callRO_K fn312];simp -implicitDefEqProofs [b312]
@[simp] theorem op313(a b:Int):callRO vp 313 [.agg [.int .i64 a,.int .i64 b]]=some (.int .i64 33):=by rw[callRO_K fn313];simp -implicitDefEqProofs [b313]
@[simp] theorem op314(o a b:Int):callRO vp 314 [.agg [.int .i64 o,.int .i64 a,.int .i64 b]]=some (.int .i64 o):=by rw[callRO_K fn314];simp -implicitDefEqProofs [b314]
@[simp] theorem op315(o a:Int):callRO vp 315 [.agg [.int .i64 o,.int .i64 a]]=some (.int .i64 o):=by rw[callRO_K fn315];simp -implicitDefEqProofs [b315]
@[simp] theorem op316(o a:Int):callRO vp 316 [.agg [.int .i64 o,.int .i64 a]]=some (.int .i64 o):=by rw[callRO_K fn316];simp -implicitDefEqProofs [b316]
@[simp] theorem op317(a b:Int):callRO vp 317 [.agg [.int .i64 a,.int .i64 b]]=some (.int .i64 10):=by rw[callRO_K fn317];simp -implicitDefEqProofs [b317]
@[simp] theorem op318(o a b:Int):callRO vp 318 [.agg [.int .i64 o,.int .i64 a,.int .i64 b]]=some (.int .i64 o):=by rw[callRO_K fn318];simp -implicitDefEqProofs [b318]
@[simp] theorem op319(v:Vec):callRO vp 319 [v.v]=some (.int .i64 0):=by rw[callRO_K fn319];simp -implicitDefEqProofs [b319]
@[simp] theorem op320(o a:Int):callRO vp 320 [.agg [.int .i64 o,.int .i64 a]]=some (.int .i64 o):=by rw[callRO_K fn320];simp -implicitDefEqProofs [b320]
@[simp] theorem op321:callRO vp 321 [.agg []]=some (.int .i64 34):=by rw[callRO_K fn321];simp -implicitDefEqProofs [b321]
@[simp] theorem op322(o:Int):callRO vp 322 [.agg [.int .i64 o]]=some (.int .i64 o):=by rw[callRO_K fn322];simp -implicitDefEqProofs [b322]
end Go.VE.Un
namespace Go.VE
theorem dK_one{β:Type}{O:Orc}{vp:VP}{lo:Nat}{fr:Fr}{h:Heap}{k:Fr→Heap→Option β}{d:VDt}{r:List VDt}{p:Nat}{rs:List LRec}(hd:d.it.dst.isSome=true):
 dK O vp lo (d::r) p rs fr h k=runK O vp lo [d.it] fr h (fun fr' h'=>if(rs.all fun e=> !d.xl.contains e.p||isSomeV (loadV h' e.agg e.n e.a) e.v)=true then dK O vp lo r (p+1) (recOf p d.it fr h (lk fr' (d.it.dst.getD 0))++rs) fr' h' k else none):=by
 obtain⟨t,hd⟩:=Option.isSome_iff_exists.1 hd
 unfold dK runK
 simp only[runD,runOps]
 cases stepIt O vp lo d.it fr h with
 |none=>rfl
 |some x=>
  simp only[Option.bind_some,hd,put_some,Option.getD_some,lk_hit]
  split<;>rfl
end Go.VE
namespace Go.VE.Un
open Go.VE
theorem step464(m:Image)(hs:Stk m)(x:Ins)(s:Sl):callRO vp 464 [m.v,x.v,sV s]=some (if mayC x=0 then .tup [sV (doesS m x s).1,.int .i64 (doesS m x s).2.2]else .tup [.int .u64 0,.int .i64 1]):=by
 rw[callRO_K fn464]
 by_cases h:mayC x=0
 ·have hd:=does466 m hs x h s
  have hmk:=make424 x h
  simp -implicitDefEqProofs [h,hmk,hd]
 ·have hmk:=make424' x h
  simp -implicitDefEqProofs [h,hmk]
end Go.VE.Un
namespace Go.VE.Un
open Go.VE
theorem checkI_part{m:Image}(h:checkI m=none)(p:Int)(h0:0≤p)(h1:p<15):(partE m p).2=0:=check_none h p h0 h1
theorem slotsN_app: ∀a b:List Inst,slotsN (a++b)=slotsN a+slotsN b
 |[],b=>by simp[slotsN]
 |x::a,b=>by simp only[List.cons_append,slotsN,slotsN_app a b];omega
theorem stk_of{m:Image}(h:checkI m=none):Stk m∧slotsN m.Insts.l≤32:=by
 have h2:mayI m.Headers.l.length m.Insts.l=0:=by simpa[partE]using checkI_part h 2 (by omega) (by omega)
 have h3:slotsN m.Insts.l≤32:=by
  unfold mayI at h2
  split at h2
  ·simp at h2
  ·split at h2
   ·rename_i h1;exact absurd h2 h1
   ·split at h2
    ·simp at h2
    ·omega
 refine⟨fun i f d hs=> ?_,h3⟩
 unfold stacked firstI at hs
 rcases getI_cases m.Insts.l i with⟨x,h0,h1,hg⟩|⟨h0,hg⟩
 ·rw[hg]at hs
  simp only[Option.bind_some]at hs
  by_cases hmz:many x.Depth.n=0
  ·simp[hmz]at hs
  ·by_cases hd:x.Depth.n=0
   ·simp[hmz,hd]at hs
   ·simp[hmz,hd]at hs
    obtain⟨rfl,rfl⟩:=hs
    have hb:=slotsN_bd (m.Insts.l.take i.toNat)
    have hc:=slotsN_bd (m.Insts.l.drop (i.toNat+1))
    have hmd:many x.Depth.n=x.Depth.n∧0≤x.Depth.n:=by
     unfold many at hmz⊢
     split at hmz
     ·rename_i hk;rw[if_pos hk,if_neg hd];exact⟨rfl,hk.1⟩
     ·exact absurd rfl hmz
    have e:m.Insts.l=m.Insts.l.take i.toNat++x::m.Insts.l.drop (i.toNat+1):=by
     obtain⟨hi,hx⟩: ∃hi:i.toNat<m.Insts.l.length,m.Insts.l[i.toNat]=x:=by
      unfold getI at hg;rw[if_pos h0]at hg;exact List.getElem?_eq_some_iff.1 hg
     rw[←hx,List.getElem_cons_drop,List.take_append_drop]
    have e2:=congrArg slotsN e
    rw[slotsN_app]at e2
    simp only[slotsN]at e2
    omega
 ·rw[hg]at hs;simp at hs
def allL:Nat→Int→Sl→Sl
 |0,_,o=>o
 |j+1,i,o=>allL j (i+1) (withS o i)
theorem loop460(n:Int)(hn:n≤64)(b:Blk): ∀(j:Nat) (i:Int) (o:Sl),0≤i→i≤n→(n-i).toNat=j→
 (orc vp).loop 0 [3,8,9] L460_0 [(3,sV o),(8,.int .i64 n),(9,.int .i64 i)] [b]=some (.brk 0,[(3,sV (allL j i o)),(8,.int .i64 n),(9,.int .i64 n),(10,.bool false)],[b]):=by
 intro j
 induction j with
 |zero=>
  intro i o h0 h1 h2
  have hlt: ¬i<n:=by omega
  have e:i=n:=by omega
  subst e
  rw[lp460_0]
  simp -implicitDefEqProofs [hlt,allL]
 |succ j ih=>
  intro i o h0 h1 h2
  have hlt:i<n:=by omega
  have w1:IntKind.i64.wrap (i+1)=i+1:=wrap64 (by omega) (by omega)
  have ih:=ih (i+1) (withS o i) (by omega) (by omega) (by omega)
  rw[lp460_0]
  simp -implicitDefEqProofs [hlt,w1,allL,ih]
def allS(m:Image):Sl:=allL (slotsN m.Insts.l).toNat 0 0
theorem all460(m:Image)(h:slotsN m.Insts.l≤32):callRO vp 460 [m.v]=some (sV (allS m)):=by
 have hb:=slotsN_bd m.Insts.l
 have hl:=loop460 (slotsN m.Insts.l) (by omega) (.arr [m.v]) (slotsN m.Insts.l).toNat 0 0#64 (by omega) (by omega) (by omega)
 have c: ¬64<slotsN m.Insts.l:=by omega
 rw[callRO_K fn460]
 simp -implicitDefEqProofs [c,sV_zero,hl,allS]
end Go.VE.Un
namespace Go.VE.Un
open Go.VE
def isS(n:Int)(k:Nat):Bool:=decide (0≤n∧n<64∧k=n.toNat)
theorem bitS_get(n:Int)(k:Nat):(bitS n).getLsbD k=isS n k:=by
 unfold bitS isS
 by_cases h:0≤n∧n<64
 ·rw[if_pos h,BitVec.getLsbD_twoPow]
  have:n.toNat<64:=by omega
  by_cases e:k=n.toNat
  ·subst e;simp[h,this]
  ·have e2: ¬n.toNat=k:=fun q=>e q.symm
   simp[e,e2]
 ·rw[if_neg h]
  simp
  omega
theorem withS_get(s:Sl)(n:Int)(k:Nat):(withS s n).getLsbD k=(s.getLsbD k||isS n k):=by
 unfold withS;rw[BitVec.getLsbD_or,bitS_get]
theorem goneS_get(s:Sl)(n:Int)(k:Nat):(goneS s n).getLsbD k=(s.getLsbD k&& !isS n k):=by
 unfold goneS;rw[BitVec.getLsbD_and,BitVec.getLsbD_not,bitS_get]
 by_cases h:k<64
 ·simp[h]
 ·have:s.getLsbD k=false:=BitVec.getLsbD_of_ge s k (by omega)
  simp[this]
theorem ne0_get(s:Sl):(s !=0)=true↔∃k,s.getLsbD k=true:=by
 constructor
 ·intro h
  rcases Classical.em (∃k,s.getLsbD k=true)with h1|h1
  ·exact h1
  ·exfalso
   have:s=0#64:=BitVec.eq_of_getLsbD_eq fun k hk=>by
    have: ¬s.getLsbD k=true:=fun e=>h1 ⟨k,e⟩
    simpa using this
   subst this;simp at h
 ·rintro⟨k,hk⟩
  rw[bne_iff_ne]
  intro e;subst e;simp at hk
theorem hasS_get(s:Sl)(n:Int):hasS s n=(decide (0≤n∧n<64)&&s.getLsbD n.toNat):=by
 rw[Bool.eq_iff_iff]
 unfold hasS
 rw[ne0_get]
 simp only[BitVec.getLsbD_and,bitS_get,Bool.and_eq_true,isS,decide_eq_true_eq]
 constructor
 ·rintro⟨k,h1,h2,h3,rfl⟩;exact⟨⟨h2,h3⟩,h1⟩
 ·rintro⟨⟨h2,h3⟩,h1⟩;exact⟨_,h1,h2,h3,rfl⟩
def SubS(a b:Sl):Prop:= ∀k,a.getLsbD k=true→b.getLsbD k=true
theorem SubS.refl(a:Sl):SubS a a:=fun _ h=>h
theorem SubS.trans{a b c:Sl}(h:SubS a b)(g:SubS b c):SubS a c:=fun k e=>g k (h k e)
theorem SubS.with{a b:Sl}(h:SubS a b)(n:Int):SubS (withS a n) (withS b n):=fun k e=>by
 rw[withS_get,Bool.or_eq_true]at e⊢
 exact e.imp (h k) id
theorem SubS.gone{a b:Sl}(h:SubS a b)(n:Int):SubS (goneS a n) (goneS b n):=fun k e=>by
 rw[goneS_get,Bool.and_eq_true]at e⊢
 exact⟨h k e.1,e.2⟩
theorem SubS.and{a b c d:Sl}(h:SubS a b)(g:SubS c d):SubS (a&&&c) (b&&&d):=fun k e=>by
 rw[BitVec.getLsbD_and,Bool.and_eq_true]at e⊢
 exact⟨h k e.1,g k e.2⟩
theorem SubS.has{a b:Sl}(h:SubS a b){n:Int}(e:hasS a n=true):hasS b n=true:=by
 rw[hasS_get,Bool.and_eq_true]at e⊢
 exact⟨e.1,h _ e.2⟩
theorem SubS.or(a b:Sl):SubS a (a|||b):=fun k e=>by rw[BitVec.getLsbD_or,e];rfl
def LeP(P Q:List (Bool ×Sl)):Prop:=P.length=Q.length∧∀i:Nat,(P.getD i (false,0)).1=(Q.getD i (false,0)).1∧SubS (P.getD i (false,0)).2 (Q.getD i (false,0)).2
theorem getD_set(P:List (Bool ×Sl))(i j:Nat)(v:Bool ×Sl):(P.set i v).getD j (false,0)=if i=j∧i<P.length then v else P.getD j (false,0):=by
 rw[List.getD_eq_getElem?_getD,List.getElem?_set]
 by_cases e:i=j
 ·subst e
  by_cases c:i<P.length
  ·simp[c]
  ·simp[c]
 ·simp[e]
theorem LeP.at{P Q:List (Bool ×Sl)}(h:LeP P Q)(i:Nat){s t:Sl}(g:SubS s t):LeP (atP P i s) (atP Q i t):=by
 refine⟨by simp[h.1],fun j=> ?_⟩
 unfold atP
 rw[getD_set,getD_set,←h.1]
 by_cases c:i=j∧i<P.length
 ·rw[if_pos c,if_pos c]
  have hi:=h.2 i
  unfold meetP
  rw[←hi.1]
  split
  ·exact⟨rfl,hi.2.and g⟩
  ·exact⟨rfl,g⟩
 ·rw[if_neg c,if_neg c];exact h.2 j
end Go.VE.Un
namespace Go.VE.Un
open Go.VE
def bitsS(s:Sl):List Bool:=(List.range 64).map fun k=>s.getLsbD k
def bsV(l:List Bool):V:=.agg (l.map V.bool)
def setV(s:Sl):V:=bsV (bitsS s)
@[simp] theorem bitsS_len(s:Sl):(bitsS s).length=64:=by simp[bitsS]
theorem bitsS_get(s:Sl)(k:Nat)(h:k<64):(bitsS s)[k]? =some (s.getLsbD k):=by
 unfold bitsS;rw[List.getElem?_map,List.getElem?_range h];rfl
theorem bools_closed(l:List Bool):closedL (l.map V.bool)=true:=by rw[closedL_map];simp
theorem bools_below(k:Nat)(l:List Bool):belowL k (l.map V.bool)=true:=belowL_map (fun _=>rfl) l
@[simp] theorem bsV_closed(l:List Bool):closedB (bsV l)=true:=by simp[bsV,bools_closed]
@[simp] theorem bsV_below(k:Nat)(l:List Bool):belowB k (bsV l)=true:=by simp[bsV,bools_below]
@[simp] theorem bsV_ok(l:List Bool):okV (bsV l)=true:=nr rfl
@[simp] theorem setV_closed(s:Sl):closedB (setV s)=true:=bsV_closed _
@[simp] theorem setV_below(k:Nat)(s:Sl):belowB k (setV s)=true:=bsV_below _ _
@[simp] theorem setV_ok(s:Sl):okV (setV s)=true:=nr rfl
theorem bsV_ldw{l:List Bool}{n:Nat}(h:l.length=n):ldc (bsV l) true n 0=some (bsV l):=ldc_all (by simp[h])
@[simp] theorem setV_ldw(s:Sl):ldc (setV s) true 64 0=some (setV s):=bsV_ldw (bitsS_len s)
theorem bsV_ld(l:List Bool)(n o:Nat):ldc (bsV l) false n o=(l[o]?).map V.bool:=by simp[bsV]
theorem setV_ld(s:Sl)(n o:Nat)(h:o<64):ldc (setV s) false n o=some (.bool (s.getLsbD o)):=by unfold setV;rw[bsV_ld,bitsS_get s o h];rfl
theorem bsV_st{l:List Bool}{o:Nat}(h:o<l.length)(b:Bool):stc (bsV l) 1 o (.bool b)=some (bsV (l.set o b)):=by
 unfold bsV;rw[stc_cell (by simpa using h) rfl,List.map_set]
theorem bsV_stw{l l':List Bool}{n:Nat}(h:l.length=n)(h':l'.length=n):stc (bsV l) n 0 (bsV l')=some (bsV l'):=stc_all (by simp[h]) (by simp[h'])
@[simp] theorem setV_stw{l:List Bool}(h:l.length=64)(s:Sl):stc (bsV l) 64 0 (setV s)=some (setV s):=bsV_stw h (bitsS_len s)
@[simp] theorem setV_sts(t s:Sl):stc (setV t) 64 0 (setV s)=some (setV s):=bsV_stw (bitsS_len t) (bitsS_len s)
theorem bits_ext{l:List Bool}{s:Sl}(hl:l.length=64)(h: ∀k,k<64→l[k]? =some (s.getLsbD k)):l=bitsS s:=by
 apply List.ext_getElem?
 intro k
 by_cases c:k<64
 ·rw[h k c,bitsS_get s k c]
 ·rw[List.getElem?_eq_none (by omega),List.getElem?_eq_none (by simp;omega)]
theorem bits_zero:List.replicate 64 false=bitsS 0#64:=bits_ext (by simp) fun k h=>by rw[List.getElem?_replicate,if_pos h];simp
theorem rp_bs:V.agg (rp 64 (.bool false))=setV 0#64:=by unfold setV;rw[←bits_zero];simp only[rp,bsV,List.map_replicate]
theorem isS_nat{n:Int}{k:Nat}(h0:0≤n)(h1:n<64):isS n k=decide (k=n.toNat):=by unfold isS;simp[h0,h1]
theorem bits_with(s:Sl){n:Int}(h0:0≤n)(h1:n<64):(bitsS s).set n.toNat true=bitsS (withS s n):=bits_ext (by simp) fun k h=>by
 rw[withS_get,isS_nat h0 h1,List.getElem?_set]
 by_cases c:n.toNat=k
 ·subst c;simp;omega
 ·have: ¬k=n.toNat:=fun e=>c e.symm
  rw[if_neg c,bitsS_get s k h];simp[this]
theorem bits_gone(s:Sl){n:Int}(h0:0≤n)(h1:n<64):(bitsS s).set n.toNat false=bitsS (goneS s n):=bits_ext (by simp) fun k h=>by
 rw[goneS_get,isS_nat h0 h1,List.getElem?_set]
 by_cases c:n.toNat=k
 ·subst c;simp;omega
 ·have: ¬k=n.toNat:=fun e=>c e.symm
  rw[if_neg c,bitsS_get s k h];simp[this]
theorem setV_with(s:Sl){n:Int}(h0:0≤n)(h1:n<64):stc (setV s) 1 n.toNat (.bool true)=some (setV (withS s n)):=by
 unfold setV;rw[bsV_st (by simp;omega),bits_with s h0 h1]
theorem setV_gone(s:Sl){n:Int}(h0:0≤n)(h1:n<64):stc (setV s) 1 n.toNat (.bool false)=some (setV (goneS s n)):=by
 unfold setV;rw[bsV_st (by simp;omega),bits_gone s h0 h1]
theorem hasS_nat(s:Sl){n:Int}(h0:0≤n)(h1:n<64):hasS s n=s.getLsbD n.toNat:=by rw[hasS_get];simp[h0,h1]
def fillL:Nat→Nat→Nat→List Bool→List Bool
 |_,0,_,L=>L
 |n,j+1,i,L=>fillL (n/2) j (i+1) (L.set i (n%2==1))
theorem fillL_len: ∀(j n i:Nat) (L:List Bool),(fillL n j i L).length=L.length
 |0,_,_,_=>rfl
 |j+1,n,i,L=>by simp[fillL,fillL_len j]
theorem fillL_get: ∀(j n i:Nat) (L:List Bool) (k:Nat),i+j≤L.length→(fillL n j i L)[k]? =if i≤k∧k<i+j then some (n.testBit (k-i))else L[k]?
 |0,n,i,L,k,h=>by simp only[fillL];rw[if_neg (by omega)]
 |j+1,n,i,L,k,h=>by
  simp only[fillL]
  rw[fillL_get j _ _ _ k (by simp;omega)]
  by_cases c:i+1≤k∧k<i+1+j
  ·rw[if_pos c,if_pos (by omega),show k-i=(k-(i+1))+1 by omega,Nat.testBit_succ]
  ·rw[if_neg c,List.getElem?_set]
   by_cases e:i=k
   ·subst e
    rw[if_pos rfl,if_pos (by omega),if_pos (by omega)]
    congr 1
    rw[Nat.sub_self,Nat.testBit_zero]
    rw[Bool.eq_iff_iff];simp
   ·rw[if_neg e,if_neg (by omega)]
theorem fill_bits(s:Sl):fillL s.toNat 64 0 (bitsS 0#64)=bitsS s:=bits_ext (by simp[fillL_len]) fun k h=>by
 rw[fillL_get _ _ _ _ _ (by simp),if_pos (by omega)]
 simp[BitVec.testBit_toNat]
theorem loop905(b:Blk): ∀(j:Nat) (i n:Nat) (L:List Bool),i+j=64→n<18446744073709551616→L.length=64→∃fr,(orc vp).loop 0 [0,2,3,4] L905_0 [(0,.int .u64 n),(2,.ptr 0 1 0 0),(3,.ptr 1 1 0 0),(4,.int .i64 i)] [b,.arr [bsV L]]=
 some (.brk 0,(0,fr)::(2,.ptr 0 1 0 0)::(3,.ptr 1 1 0 0)::(4,.int .i64 64)::[(6,.bool false)],[b,.arr [bsV (fillL n j i L)]]):=by
 intro j
 induction j with
 |zero=>
  intro i n L h hn hL
  have hi:i=64:=by omega
  subst hi
  refine⟨.int .u64 n,?_⟩
  rw[lp905_0]
  simp -implicitDefEqProofs [fillL]
 |succ j ih=>
  intro i n L h hn hL
  have hlt:(i:Int)<64:=by omega
  obtain⟨i2,hi2⟩: ∃i2,i+1=i2:=⟨_,rfl⟩
  obtain⟨n2,hn2⟩: ∃n2,n/2=n2:=⟨_,rfl⟩
  have w1:IntKind.i64.wrap ((i:Int)+1)=(i2:Int):=by rw[wrap64 (by omega) (by omega)];omega
  have q1:binV .rem (.int .u64 n) (.int .u64 2)=some (.int .u64 ((n:Int)%2)):=by
   rw[bin_rem _ _ _ (by decide:(2:Int)≠0)];congr 2
  have q2:binV .quo (.int .u64 n) (.int .u64 2)=some (.int .u64 (n2:Int)):=by
   rw[bin_quo _ _ _ (by decide:(2:Int)≠0),Int.tdiv_eq_ediv_of_nonneg (by omega),wrapU64 (by omega) (by omega)];congr 2;omega
  have e1:decide ((n:Int)%2=1)=(n%2==1):=by
   rw[Bool.eq_iff_iff];simp;omega
  have st:=bsV_st (l:=L) (o:=i) (by omega) (n%2==1)
  obtain⟨fr,ih⟩:=ih i2 n2 (L.set i (n%2==1)) (by omega) (by omega) (by simp[hL])
  refine⟨fr,?_⟩
  rw[lp905_0]
  simp only[fillL,hi2,hn2]
  simp -implicitDefEqProofs [hlt,w1,q1,q2,e1,st,ih]
theorem of905(s:Sl):callRO vp 905 [sV s]=some (setV s):=by
 have hz:((0:Nat):Int)=0:=rfl
 obtain⟨fr,hl⟩:=loop905 (.arr [setV 0#64]) 64 0 s.toNat (bitsS 0#64) rfl s.isLt (by simp)
 rw[fill_bits,hz]at hl
 have hb: ∀s,bsV (bitsS s)=setV s:=fun _=>rfl
 rw[hb,hb]at hl
 have hr:=rp_bs
 rw[callRO_K fn905]
 unfold sV
 simp -implicitDefEqProofs [hr,hl]
end Go.VE.Un
