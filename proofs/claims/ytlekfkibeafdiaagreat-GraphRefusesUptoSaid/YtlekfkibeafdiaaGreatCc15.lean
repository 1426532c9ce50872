/- Joined texts: CfD, CfF, CfH, CfI, CfG, CfJ, CfK, CkQ, CkR. No condition: what each theorem needs stands in it. -/
import Derived.Test.YtlekfkibeafdiaaGreatCc14
import Derived.Test.YtlekfkibeafdiaaGreatCc10
namespace Go.VE.Un
open Go.VE
theorem ZeI{m:Zb}(h:Yr m=none)(p:Int)(h0:0≤p)(h1:p<15):(Zn m p).2=0:=W2 h p h0 h1
theorem Za6: ∀a b:List ZE,Yp (a++b)=Yp a+Yp b
 |[],b=>by simp[Yp]
 |x::a,b=>by simp only[List.cons_append,Yp,Za6 a b];omega
theorem ZtQ{m:Zb}(h:Yr m=none):Stk m∧Yp m.Insts.l≤32:=by
 have h2:U3 m.Headers.l.length m.Insts.l=0:=by simpa[Zn]using ZeI h 2 (by omega) (by omega)
 have h3:Yp m.Insts.l≤32:=by
  unfold U3 at h2
  split at h2
  ·simp at h2
  ·split at h2
   ·rename_i h1;exact absurd h2 h1
   ·split at h2
    ·simp at h2
    ·omega
 refine⟨fun i f d hs=> ?_,h3⟩
 unfold Z8 Wi at hs
 rcases Zm m.Insts.l i with⟨x,h0,h1,hg⟩|⟨h0,hg⟩
 ·rw[hg]at hs
  simp only[Option.bind_some]at hs
  by_cases hmz:many x.Depth.n=0
  ·simp[hmz]at hs
  ·by_cases hd:x.Depth.n=0
   ·simp[hmz,hd]at hs
   ·simp[hmz,hd]at hs
    obtain⟨rfl,rfl⟩:=hs
    have hb:=ZbW (m.Insts.l.take i.toNat)
    have hc:=ZbW (m.Insts.l.drop (i.toNat+1))
    have hmd:many x.Depth.n=x.Depth.n∧0≤x.Depth.n:=by
     unfold many at hmz⊢
     split at hmz
     ·rename_i hk;rw[if_pos hk,if_neg hd];exact⟨rfl,hk.1⟩
     ·exact absurd rfl hmz
    have e:m.Insts.l=m.Insts.l.take i.toNat++x::m.Insts.l.drop (i.toNat+1):=by
     obtain⟨hi,hx⟩: ∃hi:i.toNat<m.Insts.l.length,m.Insts.l[i.toNat]=x:=by
      unfold Zh at hg;rw[if_pos h0]at hg;exact List.getElem?_eq_some_iff.1 hg
     rw[←hx,List.getElem_cons_drop,List.take_append_drop]
    have e2:=congrArg Yp e
    rw[Za6]at e2
    simp only[Yp]at e2
    omega
 ·rw[hg]at hs;simp at hs
def ZFh:Nat→Int→Sl→Sl
 |0,_,o=>o
 |j+1,i,o=>ZFh j (i+1) (VY o i)
theorem ZFC(n:Int)(hn:n≤64)(b:Blk): ∀(j:Nat) (i:Int) (o:Sl),0≤i→i≤n→(n-i).toNat=j→
 (orc vp).loop 0 [3,8,9] ZEJ [(3,sV o),(8,.int .i64 n),(9,.int .i64 i)] [b]=some (.brk 0,[(3,sV (ZFh j i o)),(8,.int .i64 n),(9,.int .i64 n),(10,.bool false)],[b]):=by
 intro j
 induction j with
 |zero=>
  intro i o h0 h1 h2
  obtain⟨hlt,e⟩: ¬i<n∧i=n:=by and_intros<;>omega
  subst e
  rw[ZEY]
  simp -implicitDefEqProofs [hlt,ZFh]
 |succ j ih=>
  intro i o h0 h1 h2
  have hlt:i<n:=by omega
  have w1:=w64 (n:=i+1) (by omega)
  have ih:=ih (i+1) (VY o i) (by omega) (by omega) (by omega)
  rw[ZEY]
  simp -implicitDefEqProofs [hlt,w1,ZFh,ih]
def ZEx(m:Zb):Sl:=ZFh (Yp m.Insts.l).toNat 0 0
theorem ZFK(m:Zb)(h:Yp m.Insts.l≤32):Zc vp 460 [m.v]=some (sV (ZEx m)):=by
 have hb:=ZbW m.Insts.l
 have hl:=ZFC (Yp m.Insts.l) (by omega) (.arr [m.v]) (Yp m.Insts.l).toNat 0 0#64 (by omega) (by omega) (by omega)
 have c: ¬64<Yp m.Insts.l:=by omega
 rw[Za ZFW]
 simp -implicitDefEqProofs [c,Zcc,hl,ZEx]
end Go.VE.Un
namespace Go.VE.Un
open Go.VE
def isS(n:Int)(k:Nat):Bool:=decide (0≤n∧n<64∧k=n.toNat)
theorem Zar(n:Int)(k:Nat):(Zbg n).getLsbD k=isS n k:=by
 unfold Zbg isS
 by_cases h:0≤n∧n<64
 ·rw[if_pos h,BitVec.getLsbD_twoPow]
  have:n.toNat<64:=by omega
  by_cases e:k=n.toNat
  ·subst e;simp[h,this]
  ·have e2: ¬n.toNat=k:=fun q=>e q.symm
   simp[e,e2]
 ·rw[if_neg h]
  simp
  omega
theorem ZbO(s:Sl)(n:Int)(k:Nat):(VY s n).getLsbD k=(s.getLsbD k||isS n k):=by
 unfold VY;rw[BitVec.getLsbD_or,Zar]
theorem ZjI(s:Sl)(n:Int)(k:Nat):(Va s n).getLsbD k=(s.getLsbD k&& !isS n k):=by
 unfold Va;rw[BitVec.getLsbD_and,BitVec.getLsbD_not,Zar]
 by_cases h:k<64
 ·simp[h]
 ·have:s.getLsbD k=false:=BitVec.getLsbD_of_ge s k (by omega)
  simp[this]
theorem ZiJ(s:Sl):(s !=0)=true↔∃k,s.getLsbD k=true:=by
 constructor
 ·intro h
  rcases Classical.em (∃k,s.getLsbD k=true)with h1|h1
  ·exact h1
  ·exfalso
   have:s=0#64:=BitVec.eq_of_getLsbD_eq fun k hk=>by
    have: ¬s.getLsbD k=true:=fun e=>h1 ⟨k,e⟩
    simpa using this
   subst this;simp at h
 ·rintro⟨k,hk⟩
  rw[bne_iff_ne]
  intro e;subst e;simp at hk
theorem Zmx(s:Sl)(n:Int):JW s n=(decide (0≤n∧n<64)&&s.getLsbD n.toNat):=by
 rw[Bool.eq_iff_iff]
 unfold JW
 rw[ZiJ]
 simp only[BitVec.getLsbD_and,Zar,Bool.and_eq_true,isS,decide_eq_true_eq]
 constructor
 ·rintro⟨k,h1,h2,h3,rfl⟩;exact⟨⟨h2,h3⟩,h1⟩
 ·rintro⟨⟨h2,h3⟩,h1⟩;exact⟨_,h1,h2,h3,rfl⟩
def Xv(a b:Sl):Prop:= ∀k,a.getLsbD k=true→b.getLsbD k=true
theorem Xv.refl(a:Sl):Xv a a:=fun _ h=>h
theorem Xv.trans{a b c:Sl}(h:Xv a b)(g:Xv b c):Xv a c:=fun k e=>g k (h k e)
theorem Xv.with{a b:Sl}(h:Xv a b)(n:Int):Xv (VY a n) (VY b n):=fun k e=>by
 rw[ZbO,Bool.or_eq_true]at e⊢
 exact e.imp (h k) id
theorem Xv.gone{a b:Sl}(h:Xv a b)(n:Int):Xv (Va a n) (Va b n):=fun k e=>by
 rw[ZjI,Bool.and_eq_true]at e⊢
 exact⟨h k e.1,e.2⟩
theorem Xv.and{a b c d:Sl}(h:Xv a b)(g:Xv c d):Xv (a&&&c) (b&&&d):=fun k e=>by
 rw[BitVec.getLsbD_and,Bool.and_eq_true]at e⊢
 exact⟨h k e.1,g k e.2⟩
theorem Xv.has{a b:Sl}(h:Xv a b){n:Int}(e:JW a n=true):JW b n=true:=by
 rw[Zmx,Bool.and_eq_true]at e⊢
 exact⟨e.1,h _ e.2⟩
theorem Xv.or(a b:Sl):Xv a (a|||b):=fun k e=>by rw[BitVec.getLsbD_or,e];rfl
def LeP(P Q:List (Bool ×Sl)):Prop:=P.length=Q.length∧∀i:Nat,(P.getD i (false,0)).1=(Q.getD i (false,0)).1∧Xv (P.getD i (false,0)).2 (Q.getD i (false,0)).2
theorem ZfH(P:List (Bool ×Sl))(i j:Nat)(v:Bool ×Sl):(P.set i v).getD j (false,0)=if i=j∧i<P.length then v else P.getD j (false,0):=by
 rw[List.getD_eq_getElem?_getD,List.getElem?_set]
 by_cases e:i=j
 ·subst e
  by_cases c:i<P.length
  ·simp[c]
  ·simp[c]
 ·simp[e]
theorem LeP.at{P Q:List (Bool ×Sl)}(h:LeP P Q)(i:Nat){s t:Sl}(g:Xv s t):LeP (atP P i s) (atP Q i t):=by
 refine⟨by simp[h.1],fun j=> ?_⟩
 unfold atP
 rw[ZfH,ZfH,←h.1]
 by_cases c:i=j∧i<P.length
 ·rw[if_pos c,if_pos c]
  have hi:=h.2 i
  unfold Js
  rw[←hi.1]
  split
  ·exact⟨rfl,hi.2.and g⟩
  ·exact⟨rfl,g⟩
 ·rw[if_neg c,if_neg c];exact h.2 j
end Go.VE.Un
namespace Go.VE.Un
open Go.VE
def ZjA(s:Sl):List Bool:=(List.range 64).map fun k=>s.getLsbD k
def bsV(l:List Bool):V:=.agg (l.map V.bool)
def ZaU(s:Sl):V:=bsV (ZjA s)
@[simp] theorem QK(s:Sl):(ZjA s).length=64:=by simp[ZjA]
theorem JC(l:List Bool):Zv (l.map V.bool)=true:=by rw[YR];simp
theorem KC(k:Nat)(l:List Bool):Zo k (l.map V.bool)=true:=Yq (fun _=>rfl) l
@[simp] theorem Zgg(l:List Bool):Ze (bsV l)=true:=by simp[bsV,JC]
@[simp] theorem Zlb(k:Nat)(l:List Bool):Zk k (bsV l)=true:=by simp[bsV,KC]
@[simp] theorem ZBp(l:List Bool):okV (bsV l)=true:=nr rfl
@[simp] theorem Zq1(s:Sl):Ze (ZaU s)=true:=Zgg _
@[simp] theorem Zt9(k:Nat)(s:Sl):Zk k (ZaU s)=true:=Zlb _ _
@[simp] theorem ZA1(s:Sl):okV (ZaU s)=true:=nr rfl
theorem Zpw{l:List Bool}{n:Nat}(h:l.length=n):ldc (bsV l) true n 0=some (bsV l):=QE (by simp[h])
@[simp] theorem Zyq(s:Sl):ldc (ZaU s) true 64 0=some (ZaU s):=Zpw (QK s)
theorem Zin{l l':List Bool}{n:Nat}(h:l.length=n)(h':l'.length=n):stc (bsV l) n 0 (bsV l')=some (bsV l'):=Zie (by simp[h]) (by simp[h'])
@[simp] theorem ZyT{l:List Bool}(h:l.length=64)(s:Sl):stc (bsV l) 64 0 (ZaU s)=some (ZaU s):=Zin h (QK s)
@[simp] theorem Zzs(t s:Sl):stc (ZaU t) 64 0 (ZaU s)=some (ZaU s):=Zin (QK t) (QK s)
end Go.VE.Un
namespace Go.VE
theorem Uk{β:Type}{O:Orc}{vp:VP}{lo:Nat}{fr:Fr}{h:Zg}{k:Fr→Zg→Option β}{n a x i b:Nat}{xl:List Nat}{r:List VDt}{p:Nat}{rs:List Jf}:
 dK O vp lo (⟨⟨none,.store n false (.t a) (.t x),none⟩,i,b,xl⟩::r) p rs fr h k=(Xp lo h n (lk fr a) (lk fr x)).bind fun h'=>if(rs.all fun e=> !xl.contains e.p||ZT (Yv h' e.agg e.n e.a) e.v)=true then dK O vp lo r (p+1) rs fr h' k else none:=by
 have e1:=UU (β:=β) O vp lo fr h (fun fr h=>if(rs.all fun e=> !xl.contains e.p||ZT (Yv h e.agg e.n e.a) e.v)=true then dK O vp lo r (p+1) rs fr h k else none) (.store n false (.t a) (.t x)) []
 rw[Zel]at e1
 have e2:(fun h':Zg=>if(rs.all fun e=> !xl.contains e.p||ZT (Yv h' e.agg e.n e.a) e.v)=true then dK O vp lo r (p+1) rs fr h' k else none)=fun h'=>Zt O vp lo [] fr h' (fun fr h=>if(rs.all fun e=> !xl.contains e.p||ZT (Yv h e.agg e.n e.a) e.v)=true then dK O vp lo r (p+1) rs fr h k else none):=rfl
 rw[e2]
 simp only[ZnK]at e1
 rw[←e1]
 unfold dK Zt
 simp only[Ur,YN]
 cases ZY O vp lo ⟨none,.store n false (.t a) (.t x),none⟩ fr h with
 |none=>rfl
 |some x=>
  simp only[Option.bind_some,ZaR,Xg,List.nil_append]
  split<;>rfl
end Go.VE
namespace Go.VE.Un
open Go.VE
@[simp] theorem ZCU(z:Nat)(es:List V):Ze (.sl z es .ce)=Zv es:=by simp[Ze]
end Go.VE.Un
namespace Go.VE.Un
open Go.VE
end Go.VE.Un
namespace Go.VE.Un
open Go.VE
def Za9(p:Bool ×Sl):V:=.agg (.bool p.1::(ZjA p.2).map V.bool)
@[simp] theorem Zra(p:Bool ×Sl):Ze (Za9 p)=true:=by simp[Za9,JC]
@[simp] theorem ZsM(k:Nat)(p:Bool ×Sl):Zk k (Za9 p)=true:=by simp[Za9,KC]
@[simp] theorem ZAg(p:Bool ×Sl):okV (Za9 p)=true:=nr rfl
@[simp] theorem Zy2(p:Bool ×Sl):ldc (Za9 p) true 65 0=some (Za9 p):=QE (by simp)
@[simp] theorem ZvS(p:Bool ×Sl)(n:Nat):ldc (Za9 p) false n 0=some (.bool p.1):=rfl
@[simp] theorem Zww(p:Bool ×Sl):ldc (Za9 p) true 64 1=some (ZaU p.2):=by
  unfold Za9
  rw[ZqL _ _ _ (by simp)]
  simp only[List.drop_succ_cons,List.drop_zero]
  rw[List.take_of_length_le (by simp)];rfl
section
variable (m : Zb) (l : GL Ins) (n : Nat) (e1 e2 : List V)
end
end Go.VE.Un
namespace Go.VE.Un
open Go.VE
end Go.VE.Un
namespace Go.VE.Un
open Go.VE
theorem Zc0{α:Type}{l:List α}{i:Int}{a:α}(h:Zh l i=some a):0≤i∧i<l.length:=by
 rcases Zm l i with⟨_,h0,h1,_⟩|⟨_,h1⟩
 ·exact⟨h0,h1⟩
 ·rw[h1]at h;simp at h
end Go.VE.Un
namespace Go.VE.Un
open Go.VE
theorem ZD2{α:Type}{f:α→Int}: ∀{l:List α},Zx f l=0→∀x∈l,f x=0
 |[],_,x,hx=>by simp at hx
 |a::r,h,x,hx=>by
  simp only[Zx]at h;split at h
  ·rename_i h1;rcases List.mem_cons.1 hx with rfl|hx
   ·exact h1
   ·exact ZD2 h x hx
  ·rename_i h1;exact absurd h h1
theorem JP{b:Bool}{e:Int}(he:e≠0)(h:Zl b e=0):b=true:=by
 unfold Zl at h;split at h
 ·assumption
 ·exact absurd h he
end Go.VE.Un
