/- Joined texts: CrC, CkV, CkS. No condition: what each theorem needs stands in it. -/
import Derived.Test.YtlekfkibeafdiaaGreatCc3
import Derived.Test.YtlekfkibeafdiaaGreatCc1
import Derived.Lib.ItoaNum
namespace Go.VE
def Xy:Nat→List UInt8→List Int
 |0,_=>[]
 |f+1,s=>if s=[]then[]else(Yg s).1::Xy f (s.drop (Yg s).2.toNat)
theorem Kh(s:List UInt8)(pos:Nat):ZU s pos=ZU (s.drop pos) 0:=by
 have hg: ∀k,(⟨s.toArray⟩:ByteArray).get! (pos+k)=(⟨(s.drop pos).toArray⟩:ByteArray).get! (0+k):=fun k=>by
  show s.toArray[pos+k]! =(s.drop pos).toArray[0+k]!
  simp
 have hs: ∀k,(pos+k<(⟨s.toArray⟩:ByteArray).size)=(0+k<(⟨(s.drop pos).toArray⟩:ByteArray).size):=fun k=>by
  simp only[ByteArray.size,List.size_toArray,List.length_drop,eq_iff_iff];omega
 unfold ZU Utf8.decode
 simp only[hg,hs]
theorem decode_le(s:List UInt8)(h:s≠[]):(ZU s 0).2≤s.length∧((ZU s 0).1<55296∨57343<(ZU s 0).1)∧(ZU s 0).1≤1114111:=by
 have hl:0<s.length:=List.length_pos_iff.2 h
 have hs:(⟨s.toArray⟩:ByteArray).size=s.length:=by simp[ByteArray.size]
 have hb: ∀k,((⟨s.toArray⟩:ByteArray).get! k).toNat<256:=fun k=>((⟨s.toArray⟩:ByteArray).get! k).toNat_lt
 unfold ZU Utf8.decode
 simp only[hs,Nat.zero_add,Utf8.runeError,Utf8.valid,Bool.and_eq_true,Bool.or_eq_true,decide_eq_true_eq,beq_iff_eq]
 have b0:=hb 0
 repeat' split
 all_goals (dsimp only;omega)
theorem Jc(s:List UInt8)(h:s≠[]):1≤(Yg s).2∧(Yg s).2≤s.length∧0≤(Yg s).1∧((Yg s).1<55296∨57343<(Yg s).1)∧(Yg s).1≤1114111:=by
 obtain⟨e1,e2⟩:=UK s h
 have h1:=decode_le s h
 have h2:1≤(ZU s 0).2:=Lib.decode_width_pos ⟨s.toArray⟩ 0 (by simp[ByteArray.size];exact List.length_pos_iff.2 h)
 omega
theorem ZeZ(s:List UInt8): ∀(f pos:Nat),WD s f pos=Xy f (s.drop pos)
 |0,_=>rfl
 |f+1,pos=>by
  simp only[WD,Xy]
  by_cases h:pos<s.length
  ·have hne:s.drop pos≠[]:=by simp;omega
   rw[if_pos h,if_neg hne,ZeZ s f,Kh s pos]
   obtain⟨e1,e2⟩:=UK (s.drop pos) hne
   have e3:(ZU (s.drop pos) 0).2=(Yg (s.drop pos)).2.toNat:=by omega
   rw[e1,List.drop_drop,e3]
  ·rw[if_neg h,if_pos (by simp;omega)]
theorem Jz(s:List UInt8):XQ s=Xy s.length s:=by unfold XQ;rw[ZeZ];rfl
theorem JT: ∀(f:Nat) (s:List UInt8),∀c∈Xy f s,0≤c∧(c<55296∨57343<c)∧c≤1114111
 |0,_,c,h=>by simp[Xy]at h
 |f+1,s,c,h=>by
  simp only[Xy]at h
  split at h
  ·simp at h
  ·rename_i hne
   rcases List.mem_cons.1 h with rfl|h
   ·have:=Jc s hne;exact⟨this.2.2.1,this.2.2.2⟩
   ·exact JT f _ c h
theorem Jk: ∀(f:Nat) (s:List UInt8),(Xy f s).length≤s.length
 |0,_=>by simp[Xy]
 |f+1,s=>by
  simp only[Xy]
  split
  ·simp
  ·rename_i hne
   have:=Jc s hne
   have:=Jk f (s.drop (Yg s).2.toNat)
   simp only[List.length_cons,List.length_drop]at*
   omega
theorem Zby(s:List UInt8): ∀(f pos:Nat),keyFrom ⟨s.toArray⟩ f pos=((Xy f (s.drop pos)).map fun c=>Lib.encodeRune (foldR c)).flatten
 |0,_=>rfl
 |f+1,pos=>by
  simp only[keyFrom,Xy]
  have hs:(⟨s.toArray⟩:ByteArray).size=s.length:=by simp[ByteArray.size]
  rw[hs]
  by_cases h:pos<s.length
  ·have hne:s.drop pos≠[]:=by simp;omega
   have e0:Utf8.decode ⟨s.toArray⟩ pos=ZU (s.drop pos) 0:=Kh s pos
   rw[if_pos h,if_neg hne,Zby s f,e0]
   obtain⟨e1,e2⟩:=UK (s.drop pos) hne
   have e3:(ZU (s.drop pos) 0).2=(Yg (s.drop pos)).2.toNat:=by omega
   rw[e1,e3,List.map_cons,List.flatten_cons,List.drop_drop]
  ·rw[if_neg h,if_pos (by simp;omega)];rfl
theorem ZfZ(s:List UInt8):Yl s=((XQ s).map fun c=>Lib.encodeRune (foldR c)).flatten:=by
 unfold Yl keyB
 rw[Zby,Jz]
 have hs:(⟨s.toArray⟩:ByteArray).size=s.length:=by simp[ByteArray.size]
 rw[hs];rfl
def Vo(c:Int):Prop:=0≤c∧(c<55296∨57343<c)∧c≤1114111
theorem Zip{c:Int}(h:Vo c):Vo (foldR c):=by unfold Vo at*;unfold foldR;omega
theorem Yi{x y:Int}(hx:0≤x)(hx2:x<256)(hy:0≤y)(hy2:y<256)(e:x.toNat.toUInt8=y.toNat.toUInt8):x=y:=by
 have:=congrArg UInt8.toNat e
 simp at this
 omega
theorem Zap{c:Int}(h:Vo c):(c≤127∧Lib.encodeRune c=[c.toNat.toUInt8])∨(128≤c∧c≤2047∧Lib.encodeRune c=[(192+c/64).toNat.toUInt8,(128+c%64).toNat.toUInt8])∨(2048≤c∧c≤65535∧Lib.encodeRune c=[(224+c/4096).toNat.toUInt8,(128+c/64%64).toNat.toUInt8,(128+c%64).toNat.toUInt8])∨
 (65536≤c∧Lib.encodeRune c=[(240+c/262144).toNat.toUInt8,(128+c/4096%64).toNat.toUInt8,(128+c/64%64).toNat.toUInt8,(128+c%64).toNat.toUInt8]):=by
 unfold Vo at h
 by_cases h1:c≤127
 ·left;exact⟨h1,by unfold Lib.encodeRune;rw[Lib.encodeRuneZ_one (by omega) h1];rfl⟩
 ·by_cases h2:c≤2047
  ·right;left;exact⟨by omega,h2,by unfold Lib.encodeRune;rw[Lib.encodeRuneZ_two (by omega) h2];rfl⟩
  ·by_cases h3:c≤65535
   ·right;right;left;exact⟨by omega,h3,by unfold Lib.encodeRune;rw[Lib.encodeRuneZ_three (by omega)];rfl⟩
   ·right;right;right;exact⟨by omega,by unfold Lib.encodeRune;rw[Lib.encodeRuneZ_four (by omega) h.2.2];rfl⟩
theorem ZqF{c d:Int}(hc:Vo c)(hd:Vo d){t u:List UInt8}(e:Lib.encodeRune c++t=Lib.encodeRune d++u):c=d∧t=u:=by
 have fc:=Zap hc
 have fd:=Zap hd
 unfold Vo at hc hd
 rcases fc with⟨c1,c2⟩|⟨c0,c1,c2⟩|⟨c0,c1,c2⟩|⟨c1,c2⟩<;>rcases fd with⟨d1,d2⟩|⟨d0,d1,d2⟩|⟨d0,d1,d2⟩|⟨d1,d2⟩<;>rw[c2,d2]at e<;>simp only[List.cons_append,List.nil_append,List.cons.injEq]at e
 ·exact⟨Yi (by omega) (by omega) (by omega) (by omega) e.1,e.2⟩
 ·exact absurd (Yi (by omega) (by omega) (by omega) (by omega) e.1) (by omega)
 ·exact absurd (Yi (by omega) (by omega) (by omega) (by omega) e.1) (by omega)
 ·exact absurd (Yi (by omega) (by omega) (by omega) (by omega) e.1) (by omega)
 ·exact absurd (Yi (by omega) (by omega) (by omega) (by omega) e.1) (by omega)
 ·have k1:=Yi (by omega) (by omega) (by omega) (by omega) e.1
  have k2:=Yi (by omega) (by omega) (by omega) (by omega) e.2.1
  exact⟨by omega,e.2.2⟩
 ·exact absurd (Yi (by omega) (by omega) (by omega) (by omega) e.1) (by omega)
 ·exact absurd (Yi (by omega) (by omega) (by omega) (by omega) e.1) (by omega)
 ·exact absurd (Yi (by omega) (by omega) (by omega) (by omega) e.1) (by omega)
 ·exact absurd (Yi (by omega) (by omega) (by omega) (by omega) e.1) (by omega)
 ·have k1:=Yi (by omega) (by omega) (by omega) (by omega) e.1
  have k2:=Yi (by omega) (by omega) (by omega) (by omega) e.2.1
  have k3:=Yi (by omega) (by omega) (by omega) (by omega) e.2.2.1
  exact⟨by omega,e.2.2.2⟩
 ·exact absurd (Yi (by omega) (by omega) (by omega) (by omega) e.1) (by omega)
 ·exact absurd (Yi (by omega) (by omega) (by omega) (by omega) e.1) (by omega)
 ·exact absurd (Yi (by omega) (by omega) (by omega) (by omega) e.1) (by omega)
 ·exact absurd (Yi (by omega) (by omega) (by omega) (by omega) e.1) (by omega)
 ·have k1:=Yi (by omega) (by omega) (by omega) (by omega) e.1
  have k2:=Yi (by omega) (by omega) (by omega) (by omega) e.2.1
  have k3:=Yi (by omega) (by omega) (by omega) (by omega) e.2.2.1
  have k4:=Yi (by omega) (by omega) (by omega) (by omega) e.2.2.2.1
  exact⟨by omega,e.2.2.2.2⟩
theorem ZnI{c:Int}(h:Vo c):Lib.encodeRune c≠[]:=by
 rcases Zap h with⟨_,e⟩|⟨_,_,e⟩|⟨_,_,e⟩|⟨_,e⟩<;>rw[e]<;>simp
theorem Ze1: ∀(l r:List Int),(∀c∈l,Vo c)→(∀c∈r,Vo c)→(l.map Lib.encodeRune).flatten=(r.map Lib.encodeRune).flatten→l=r
 |[],[],_,_,_=>rfl
 |[],d::r,_,hr,e=>by
  simp only[List.map_nil,List.flatten_nil,List.map_cons,List.flatten_cons]at e
  exact absurd (List.append_eq_nil_iff.1 e.symm).1 (ZnI (hr d List.mem_cons_self))
 |c::l,[],hl,_,e=>by
  simp only[List.map_nil,List.flatten_nil,List.map_cons,List.flatten_cons]at e
  exact absurd (List.append_eq_nil_iff.1 e).1 (ZnI (hl c List.mem_cons_self))
 |c::l,d::r,hl,hr,e=>by
  simp only[List.map_cons,List.flatten_cons]at e
  obtain⟨rfl,e2⟩:=ZqF (hl c List.mem_cons_self) (hr d List.mem_cons_self) e
  rw[Ze1 l r (fun x h=>hl x (List.mem_cons_of_mem _ h)) (fun x h=>hr x (List.mem_cons_of_mem _ h)) e2]
def UY(s:List UInt8):List Int:=(XQ s).map foldR
theorem Zey(s:List UInt8): ∀c∈XQ s,Vo c:=by rw[Jz];exact JT _ _
theorem ZlJ(s t:List UInt8):Yl s=Yl t↔UY s=UY t:=by
 have h: ∀s,Yl s=((UY s).map Lib.encodeRune).flatten:=fun s=>by rw[ZfZ,UY,List.map_map];rfl
 rw[h,h]
 refine⟨fun e=>Ze1 _ _ (fun c hc=> ?_) (fun c hc=> ?_) e,fun e=>by rw[e]⟩
 ·obtain⟨d,hd,rfl⟩:=List.mem_map.1 hc;exact Zip (Zey s d hd)
 ·obtain⟨d,hd,rfl⟩:=List.mem_map.1 hc;exact Zip (Zey t d hd)
end Go.VE
namespace Go.VE
def wV(n:Nat):V:=.agg [.int .u64 ((n/18446744073709551616:Nat):Int),.int .u64 ((n%18446744073709551616:Nat):Int)]
@[simp] theorem ZDm(n:Nat):ldc (wV n) false 1 0=some (.int .u64 ((n/18446744073709551616:Nat):Int)):=rfl
@[simp] theorem ZC6(n:Nat):ldc (wV n) false 1 1=some (.int .u64 ((n%18446744073709551616:Nat):Int)):=rfl
@[simp] theorem ZCY(n:Nat):ldc (wV n) true 2 0=some (wV n):=rfl
@[simp] theorem ZDn(n:Nat):(wV n).cells.length=2:=nr rfl
@[simp] theorem ZC1(n:Nat):okV (wV n)=true:=nr rfl
@[simp] theorem Zv5(k n:Nat):Zk k (wV n)=true:=by simp[wV]
@[simp] theorem ZuD(n:Nat):Ze (wV n)=true:=by simp[wV]
@[simp] theorem ZCL{cs:List V}(hl:cs.length=2)(n:Nat):stc (.agg cs) 2 0 (wV n)=some (wV n):=Zy hl rfl
@[simp] theorem ZBI(m n:Nat):stc (wV m) 2 0 (wV n)=some (wV n):=Zy rfl rfl
theorem w0:V.agg [.int .u64 0,.int .u64 0]=wV 0:=rfl
theorem w1:V.agg [.int .u64 0,.int .u64 1]=wV 1:=rfl
theorem ZbA{n:Nat}(h:n<340282366920938463463374607431768211456):n/18446744073709551616<18446744073709551616:=by omega
theorem KH{n:Nat}(h:n<18446744073709551616):IntKind.u64.wrap (n:Int)=n:=Zb8 (by omega) (by omega)
theorem ZmV(a b:Nat):Yh .and (.int .u64 (a:Int)) (.int .u64 (b:Int))=some (.int .u64 (((a%18446744073709551616)&&&(b%18446744073709551616):Nat):Int)):=by
 rw[Zih]
 have e: ∀x:Nat,(BitVec.ofInt (IntKind.u64.bits) (x:Int)).toNat=x%18446744073709551616:=fun x=>by
  simp[IntKind.bits]
 rw[BitVec.toNat_and,e,e,KH]
 exact Nat.lt_of_le_of_lt Nat.and_le_left (Nat.mod_lt _ (by decide))
theorem ZoD(a b:Nat):Yh .or (.int .u64 (a:Int)) (.int .u64 (b:Int))=some (.int .u64 (((a%18446744073709551616)|||(b%18446744073709551616):Nat):Int)):=by
 rw[Zm8]
 have e: ∀x:Nat,(BitVec.ofInt (IntKind.u64.bits) (x:Int)).toNat=x%18446744073709551616:=fun x=>by
  simp[IntKind.bits]
 rw[BitVec.toNat_or,e,e,KH]
 exact Nat.or_lt_two_pow (n:=64) (Nat.mod_lt _ (by decide)) (Nat.mod_lt _ (by decide))
end Go.VE
namespace Go.VE.Un
open Go.VE
@[simp] theorem ZuK(w:Int):Zc vp 1114 [.int .i64 w]=some (.bool (decide (1≤w)&&decide (w≤128))):=by
  rw[Za ZsJ]
  by_cases h:1≤w<;>simp -implicitDefEqProofs [h]
theorem Zjs(a b:Nat)(ha:a<340282366920938463463374607431768211456)(hb:b<340282366920938463463374607431768211456):Zc vp 1130 [wV a,wV b]=some (wV (a&&&b)):=by
 obtain⟨e1,e2⟩:a/18446744073709551616%18446744073709551616=a/18446744073709551616∧b/18446744073709551616%18446744073709551616=b/18446744073709551616:=by and_intros<;>omega
 have e3:(a&&&b)/18446744073709551616=a/18446744073709551616&&&b/18446744073709551616:=Nat.and_div_two_pow (n:=64)
 have e4:(a&&&b)%18446744073709551616=(a%18446744073709551616)&&&(b%18446744073709551616):=Nat.and_mod_two_pow (n:=64)
 rw[Za Zr2,wV,wV,wV,e3,e4]
 simp -implicitDefEqProofs [ZmV,e1,e2,Nat.mod_mod,Zf,ZC,-Int.natCast_ediv,-Int.natCast_emod]
def brr(x y:Nat):Nat:=if x<y then 1 else 0
theorem ZbJ(x y:Nat):(x<y∧brr x y=1)∨(y≤x∧brr x y=0):=by unfold brr;split<;>omega
theorem ZmG(x y c:Nat)(hc:c≤1):ZlG [.int .u64 (x:Int),.int .u64 (y:Int),.int .u64 (c:Int)]=some (.tup [.int .u64 (((x+18446744073709551616-y-c)%18446744073709551616:Nat):Int),.int .u64 (brr x (y+c):Int)]):=by
 simp only[ZlG,Int.toNat_natCast]
 rw[if_pos (by omega)];rfl
theorem Zqi(a b:Nat)(ha:a<340282366920938463463374607431768211456)(hb:b<340282366920938463463374607431768211456):
 Zc vp 1142 [wV a,wV b]=some (.tup [wV ((a+340282366920938463463374607431768211456-b)%340282366920938463463374607431768211456),.bool (decide (a<b))]):=by
 have p1:=ZmG (a%18446744073709551616) (b%18446744073709551616) 0 (by omega)
 have p2:=ZmG (a/18446744073709551616) (b/18446744073709551616) (brr (a%18446744073709551616) (b%18446744073709551616)) (by unfold brr;split<;>omega)
 have c1:=ZbJ (a%18446744073709551616) (b%18446744073709551616)
 have c2:=ZbJ (a/18446744073709551616) (b/18446744073709551616+brr (a%18446744073709551616) (b%18446744073709551616))
 have e1:(a/18446744073709551616+18446744073709551616-b/18446744073709551616-brr (a%18446744073709551616) (b%18446744073709551616))%18446744073709551616=(a+340282366920938463463374607431768211456-b)%340282366920938463463374607431768211456/18446744073709551616:=by
  rcases c1 with⟨_,c1⟩|⟨_,c1⟩<;>rw[c1]<;>omega
 have e2:(a%18446744073709551616+18446744073709551616-b%18446744073709551616-0)%18446744073709551616=(a+340282366920938463463374607431768211456-b)%340282366920938463463374607431768211456%18446744073709551616:=by omega
 rw[e2,Nat.add_zero]at p1;rw[e1]at p2;simp only[Int.natCast_zero]at p1
 generalize hc:brr (a%18446744073709551616) (b%18446744073709551616)=c at*
 generalize hd:brr (a/18446744073709551616) (b/18446744073709551616+c)=d at*
 have e3:0<d↔a<b:=by omega
 rw[Za Zth,wV,wV,wV]
 simp -implicitDefEqProofs [p1,p2,e3,Zf,ZC,-Int.natCast_ediv,-Int.natCast_emod]
theorem ZiS{x:Nat}(h:x<18446744073709551616):unV .xor (.int .u64 (x:Int))=some (.int .u64 ((18446744073709551615-x:Nat):Int)):=by
 have e: ∀x:Nat,(BitVec.ofInt (IntKind.u64.bits) (x:Int)).toNat=x%18446744073709551616:=fun x=>by
  simp[IntKind.bits]
 have e':BitVec.ofInt (IntKind.u64.bits) (if IntKind.u64.signed then -1 else IntKind.u64.max)=BitVec.allOnes IntKind.u64.bits:=by rfl
 simp only[unV,Wa]
 rw[e']
 have h2:(BitVec.allOnes IntKind.u64.bits^^^BitVec.ofInt IntKind.u64.bits (x:Int)).toNat=18446744073709551615-x:=by
  have:BitVec.allOnes IntKind.u64.bits^^^BitVec.ofInt IntKind.u64.bits (x:Int)= ~~~BitVec.ofInt IntKind.u64.bits (x:Int):=BitVec.allOnes_xor
  rw[this,BitVec.toNat_not,e]
  simp only[IntKind.bits];omega
 rw[h2,KH (by omega)]
theorem ZoC(a:Nat)(ha:a<340282366920938463463374607431768211456):Zc vp 1136 [wV a]=some (wV (340282366920938463463374607431768211455-a)):=by
 obtain⟨h1,h2⟩:(340282366920938463463374607431768211455-a)/18446744073709551616=18446744073709551615-a/18446744073709551616∧(340282366920938463463374607431768211455-a)%18446744073709551616=18446744073709551615-a%18446744073709551616:=by and_intros<;>omega
 rw[Za ZsS,wV,wV,h1,h2]
 simp -implicitDefEqProofs [Zf,ZC,ZiS (ZbA ha),ZiS (Nat.mod_lt a (by decide:18446744073709551616>0)),-Int.natCast_ediv,-Int.natCast_emod]
theorem Zo0(n:Int)(h0:1≤n)(h1:n≤127):Zc vp 1140 [wV 1,.int .i64 n]=some (wV (2^n.toNat)):=by
 obtain⟨a1,a2,a3,a4⟩: ¬n≤ -128∧¬128≤n∧¬n<0∧¬n=0:=by and_intros<;>omega
 have hw:wV 1=.agg [.int .u64 0,.int .u64 1]:=rfl
 rw[Za Zti,hw,wV]
 by_cases h:64≤n
 ·have w:IntKind.i64.wrap (n-64)=n-64:=ZK (by omega) (by omega)
  have e0:(2:Nat)^n.toNat=2^(n-64).toNat*18446744073709551616:=by
   rw[show(18446744073709551616:Nat)=2^64 from rfl,←Nat.pow_add];congr 1;omega
  have e1:(2:Nat)^n.toNat/18446744073709551616=2^(n-64).toNat:=by rw[e0];omega
  have e2:(2:Nat)^n.toNat%18446744073709551616=0:=by rw[e0];omega
  have lt:(2:Nat)^(n-64).toNat<18446744073709551616:=Nat.pow_lt_pow_right (a:=2) (n:=64) (by omega) (by omega)
  have b1:Yh .shl (.int .u64 1) (.int .i64 (n-64))=some (.int .u64 ((2^(n-64).toNat:Nat):Int)):=by
   rw[KU _ _ _ (by omega)]
   have:min (n-64).toNat IntKind.u64.bits=(n-64).toNat:=by simp only[IntKind.bits];omega
   rw[this,Int.one_mul,←KH lt];simp
  rw[e1,e2]
  simp -implicitDefEqProofs [a1,a2,a3,a4,h,w,b1,Zf,ZC,-Int.natCast_ediv,-Int.natCast_emod,-Int.natCast_pow]
 ·have w:IntKind.i64.wrap (64-n)=64-n:=ZK (by omega) (by omega)
  have lt:(2:Nat)^n.toNat<18446744073709551616:=Nat.pow_lt_pow_right (a:=2) (n:=64) (by omega) (by omega)
  have e1:(2:Nat)^n.toNat/18446744073709551616=0:=Nat.div_eq_of_lt lt
  have e2:(2:Nat)^n.toNat%18446744073709551616=2^n.toNat:=Nat.mod_eq_of_lt lt
  have b1:Yh .shl (.int .u64 1) (.int .i64 n)=some (.int .u64 ((2^n.toNat:Nat):Int)):=by
   rw[KU _ _ _ (by omega)]
   have:min n.toNat IntKind.u64.bits=n.toNat:=by simp only[IntKind.bits];omega
   rw[this,Int.one_mul,←KH lt];simp
  have b2:Yh .shl (.int .u64 0) (.int .i64 n)=some (.int .u64 0):=by
   rw[KU _ _ _ (by omega)];simp;decide
  have b3:Yh .shr (.int .u64 1) (.int .i64 (64-n))=some (.int .u64 0):=by
   rw[Zo3 _ _ _ (by omega)]
   have:min (64-n).toNat IntKind.u64.bits=(63-n).toNat+1:=by simp only[IntKind.bits];omega
   rw[this]
   have:(1:Int).fdiv (2^((63-n).toNat+1))=0:=by
    rw[Int.fdiv_eq_ediv_of_nonneg _ (by exact Int.le_of_lt (Int.pow_pos (by decide)))]
    apply Int.ediv_eq_zero_of_lt (by omega)
    rw[Int.pow_succ]
    have:(0:Int)<2^(63-n).toNat:=Int.pow_pos (by decide)
    omega
   rw[this]
  have b4:Yh .or (.int .u64 0) (.int .u64 0)=some (.int .u64 0):=ZoD 0 0
  rw[e1,e2]
  simp -implicitDefEqProofs [a1,a2,a3,a4,h,w,b1,b2,b3,b4,Zf,ZC,-Int.natCast_ediv,-Int.natCast_emod,-Int.natCast_pow]
@[simp] theorem ZxK(n:Int)(h0:1≤n)(h1:n≤128):Zc vp 1137 [.int .i64 n]=some (wV (2^n.toNat-1)):=by
  have a1: ¬n≤0:=by omega
  rw[Za Zr8]
  by_cases h:128≤n
  ·have:n=128:=by omega
   subst this
   have hn:=ZoC 0 (by omega)
   have e:(2:Nat)^(128:Int).toNat-1=340282366920938463463374607431768211455:=by decide
   rw[e]
   simp -implicitDefEqProofs [Zf,ZC,w0,hn]
  ·have lt:(2:Nat)^n.toNat<340282366920938463463374607431768211456:=Nat.pow_lt_pow_right (a:=2) (n:=128) (by omega) (by omega)
   have pos:0<(2:Nat)^n.toNat:=Nat.pow_pos (by decide)
   have hs:=Zqi (2^n.toNat) 1 lt (by omega)
   have e:(2^n.toNat+340282366920938463463374607431768211456-1)%340282366920938463463374607431768211456=2^n.toNat-1:=by omega
   rw[e]at hs
   have ho:=Zo0 n h0 (by omega)
   simp -implicitDefEqProofs [a1,h,w0,w1,ho,hs,Zf,ZC]
theorem Znm(x:Nat)(h:x<18446744073709551616):Zkv [.int .u64 (x:Int)]=some (.int .i64 (Lib.bitLen x)):=by
 simp only[Zkv,Int.toNat_natCast]
 rw[if_pos (by omega)]
def ZkH(a:Nat):Nat:=if 0<a/18446744073709551616 then 64+Lib.bitLen (a/18446744073709551616)else Lib.bitLen (a%18446744073709551616)
theorem Jb(x k:Nat)(hk:k≤64)(hx:x<18446744073709551616):Lib.bitLen x≤k↔x<2^k:=by
 constructor
 ·intro h
  by_cases h0:x=0
  ·subst h0;exact Nat.pow_pos (by decide)
  ·have:=(Lib.bitLenAux_bounds 64 x hx h0).2.2
   exact Nat.lt_of_lt_of_le this (Nat.pow_le_pow_right (by decide) h)
 ·intro h;exact Lib.bitLen_le x k hk h
theorem ZbI(x:Nat)(hx:x<18446744073709551616):Lib.bitLen x≤64:=(Jb x 64 (by omega) hx).2 hx
theorem ZmX(a w:Nat)(hw:w≤128)(ha:a<340282366920938463463374607431768211456):ZkH a≤w↔a<2^w:=by
 unfold ZkH
 have h1:=ZbA ha
 split
 ·rename_i hp
  have hb:0<Lib.bitLen (a/18446744073709551616):=by
   have:=(Lib.bitLenAux_bounds 64 (a/18446744073709551616) h1 (by omega)).1
   unfold Lib.bitLen;omega
  by_cases h:64≤w
  ·have:=Jb (a/18446744073709551616) (w-64) (by omega) h1
   have e:2^w=2^(w-64)*18446744073709551616:=by
    rw[show(18446744073709551616:Nat)=2^64 from rfl,←Nat.pow_add];congr 1;omega
   rw[e,←Nat.div_lt_iff_lt_mul (by decide),←this];omega
  ·have:2^w≤2^64:=Nat.pow_le_pow_right (by decide) (by omega)
   constructor
   ·intro;omega
   ·intro;omega
 ·rename_i hp
  have e:a%18446744073709551616=a:=by omega
  rw[e]
  by_cases h:64≤w
  ·have:2^64≤2^w:=Nat.pow_le_pow_right (by decide) h
   have:=ZbI a (by omega)
   constructor<;>intro<;>omega
  ·exact Jb a w (by omega) (by omega)
@[simp] theorem ZAz(a:Nat)(ha:a<340282366920938463463374607431768211456):Zc vp 1134 [wV a]=some (.int .i64 (ZkH a)):=by
  have h1:=ZbA ha
  have l1:=Znm _ h1
  have l2:=Znm (a%18446744073709551616) (Nat.mod_lt _ (by decide))
  have hb:=ZbI _ h1
  rw[Za ZsB]
  by_cases h:0<a/18446744073709551616
  ·have w:IntKind.i64.wrap (64+(Lib.bitLen (a/18446744073709551616):Int))=64+(Lib.bitLen (a/18446744073709551616):Int):=ZK (by omega) (by omega)
   have h':(0:Int)<((a/18446744073709551616:Nat):Int):=by omega
   simp -implicitDefEqProofs [l1,ZkH,h,h',w,-Int.natCast_ediv,-Int.natCast_emod]
  ·have h': ¬(0:Int)<((a/18446744073709551616:Nat):Int):=by omega
   simp -implicitDefEqProofs [l2,ZkH,h,h',-Int.natCast_ediv,-Int.natCast_emod]
end Go.VE.Un
namespace Go.VE
def Vec.n(x:Vec):Nat:=x.Hi.n.toNat*18446744073709551616+x.Lo.n.toNat
theorem Vec.n_lt(x:Vec):x.n<340282366920938463463374607431768211456:=by
 have:=x.Hi.lo;have:=x.Hi.hi;have:=x.Lo.lo;have:=x.Lo.hi
 unfold Vec.n;omega
theorem Vec.w_eq(x:Vec):V.agg [.int .u64 x.Hi.n,.int .u64 x.Lo.n]=wV x.n:=by
 have:=x.Hi.lo;have:=x.Hi.hi;have:=x.Lo.lo;have:=x.Lo.hi
 have h1:((x.n/18446744073709551616:Nat):Int)=x.Hi.n:=by unfold Vec.n;omega
 have h2:((x.n%18446744073709551616:Nat):Int)=x.Lo.n:=by unfold Vec.n;omega
 rw[wV,h1,h2]
def Vec.of(w:I64)(n:Nat):Vec:=⟨w,⟨((n/18446744073709551616%18446744073709551616:Nat):Int),by omega,by omega⟩,⟨((n%18446744073709551616:Nat):Int),by omega,by omega⟩⟩
theorem Vec.of_v(w:I64)(n:Nat)(hn:n<340282366920938463463374607431768211456):V.agg [.int .i64 w.n,.int .u64 ((n/18446744073709551616:Nat):Int),.int .u64 ((n%18446744073709551616:Nat):Int)]=(Vec.of w n).v:=by
 have:n/18446744073709551616%18446744073709551616=n/18446744073709551616:=by omega
 rw[Vec.v_eq];simp only[Vec.of,this]
@[simp] theorem Vec.of_n(w:I64)(n:Nat)(hn:n<340282366920938463463374607431768211456):(Vec.of w n).n=n:=by
  simp only[Vec.of,Vec.n,Int.toNat_natCast];omega
@[simp] theorem Vec.of_W(w:I64)(n:Nat):(Vec.of w n).W=w:=rfl
theorem Vec.ext{x y:Vec}(hw:x.W.n=y.W.n)(hn:x.n=y.n):x=y:=by
 have:=x.Hi.lo;have:=x.Hi.hi;have:=x.Lo.lo;have:=x.Lo.hi
 have:=y.Hi.lo;have:=y.Hi.hi;have:=y.Lo.lo;have:=y.Lo.hi
 unfold Vec.n at hn
 obtain⟨h1,h2⟩:x.Hi.n=y.Hi.n∧x.Lo.n=y.Lo.n:=by and_intros<;>omega
 cases x;cases y
 simp only[Vec.mk.injEq]
 exact⟨I64.ext hw,U64.ext h1,U64.ext h2⟩
def Vec.z:Vec:=⟨⟨0,by omega,by omega⟩,⟨0,by omega,by omega⟩,⟨0,by omega,by omega⟩⟩
theorem U2:V.agg [.int .i64 0,.int .u64 0,.int .u64 0]=Vec.z.v:=rfl
def Vec.good(x:Vec):Bool:=decide (1≤x.W.n)&&decide (x.W.n≤128)&&decide (x.n<2^x.W.n.toNat)
end Go.VE
namespace Go.VE.Un
open Go.VE
@[simp] theorem Zxv(x:Vec):Zc vp 1108 [x.v]=some (wV x.n):=by
  rw[Za ZtJ]
  simp -implicitDefEqProofs [Zf,ZC,Vec.w_eq]
@[simp] theorem ZAB(x:Vec):Zc vp 1090 [x.v]=some (.bool x.good):=by
  have hn:=x.n_lt
  have hw:=x.W.lo
  rw[Za ZtZ]
  by_cases h1:1≤x.W.n
  ·by_cases h2:x.W.n≤128
   ·have h3:((ZkH x.n:Int)≤x.W.n)↔x.n<2^x.W.n.toNat:=by
     rw[←ZmX x.n x.W.n.toNat (by omega) hn];omega
    simp -implicitDefEqProofs [h1,h2,hn,h3,Vec.good]
   ·simp -implicitDefEqProofs [h1,h2,Vec.good]
  ·simp -implicitDefEqProofs [h1,Vec.good]
theorem ZoJ(w:I64)(n:Nat)(hn:n<340282366920938463463374607431768211456):Zc vp 1111 [.int .i64 w.n,wV n]=some (Vec.of w n).v:=by
 rw[Za Zs7]
 simp -implicitDefEqProofs [Zf,ZC,Vec.of_v w n hn,-Int.natCast_ediv,-Int.natCast_emod]
theorem ZnA(a n:Nat):a&&&(2^n-1)=a%2^n:=Nat.and_two_pow_sub_one_eq_mod a n
theorem ZqR(w:I64)(n:Nat)(h1:1≤w.n)(h2:w.n≤128)(hn:n<340282366920938463463374607431768211456):Zc vp 1085 [.int .i64 w.n,wV n]=some (.tup [(Vec.of w (n%2^w.n.toNat)).v,.int .i64 0]):=by
 have lt:(2:Nat)^w.n.toNat≤340282366920938463463374607431768211456:=Nat.pow_le_pow_right (n:=2) (j:=128) (by omega) (by omega)
 have pos:0<(2:Nat)^w.n.toNat:=Nat.pow_pos (by decide)
 have ha:=Zjs n (2^w.n.toNat-1) hn (by omega)
 rw[ZnA]at ha
 have hm:n%2^w.n.toNat<340282366920938463463374607431768211456:=Nat.lt_of_lt_of_le (Nat.mod_lt _ pos) lt
 have hr:=ZoJ w _ hm
 rw[Za ZsZ]
 simp -implicitDefEqProofs [h1,h2,ha,hr]
theorem ZqV(x y:Vec):Zc vp 1113 [x.v,y.v,.func 1130 [] []]=some (if x.good=true∧y.good=true then(if x.W.n=y.W.n then .tup [(Vec.of x.W (x.n&&&y.n)).v,.int .i64 0]else .tup [Vec.z.v,.int .i64 9])else .tup [Vec.z.v,.int .i64 1]):=by
 have hx:=x.n_lt
 have hy:=y.n_lt
 rw[Za Ztr]
 by_cases h1:x.good=true
 ·by_cases h2:y.good=true
  ·by_cases h3:x.W.n=y.W.n
   ·have ha:=Zjs x.n y.n hx hy
    have g:=h1
    simp only[Vec.good,Bool.and_eq_true,decide_eq_true_eq]at g
    have hc:=ZqR x.W (x.n&&&y.n) g.1.1 g.1.2 (Nat.lt_of_le_of_lt Nat.and_le_left hx)
    rw[Nat.mod_eq_of_lt (Nat.lt_of_le_of_lt Nat.and_le_left g.2)]at hc
    have h4:(x.W.n=y.W.n)=True:=eq_true h3
    simp -implicitDefEqProofs [h1,h2,h4,ha,hc]
   ·simp -implicitDefEqProofs [h1,h2,h3,U2,Zf,ZC]
  ·simp -implicitDefEqProofs [h1,h2,U2,Zf,ZC]
 ·simp -implicitDefEqProofs [h1,U2,Zf,ZC]
def U4(x y:Vec):Vec ×Int:=if x.good=true∧y.good=true then(if x.W.n=y.W.n then(Vec.of x.W (x.n&&&y.n),0)else(Vec.z,9))else(Vec.z,1)
@[simp] theorem ZA3(x y:Vec):Zc vp 1082 [x.v,y.v]=some (.tup [(U4 x y).1.v,.int .i64 (U4 x y).2]):=by
  have h:Zc vp 1113 [x.v,y.v,.func 1130 [] []]=some (.tup [(U4 x y).1.v,.int .i64 (U4 x y).2]):=by
   rw[ZqV];unfold U4
   split
   ·split<;>rfl
   ·rfl
  rw[Za ZtW]
  simp -implicitDefEqProofs [h]
end Go.VE.Un
namespace Go.VE
theorem Z6(k:Nat)(l:List (List UInt8)):Zo k (l.map V.str)=true:=Yq (fun _=>by simp) l
theorem WX(h:Zg)(d:Nat)(l:List (List UInt8)):Y5 (Yd h d) (l.map V.str)=some (l.map V.str):=Jj (Z6 0 l)
theorem VK{k:Nat}: ∀{a b:List V},Zo k a=true→Zo k b=true→Zo k (a++b)=true
 |[],_,_,hb=>hb
 |v::a,b,ha,hb=>by
  simp only[Zo,Bool.and_eq_true,List.cons_append]at ha⊢
  exact⟨ha.1,VK ha.2 hb⟩
theorem Zgq{vp:VP}(hg:vp.gc=true){es es':List V}{b:Blk}{fr:Fr}(he:Zo 1 es'=true)(hb:Zo 1 (fr.map Prod.snd)=true):X1 vp [.arr es] fr [.arr es',b]=[.arr es']:=by
 rw[ZbF (h:=[.arr es]) hg hb (by simp[Vj,he])]
 rfl
end Go.VE
namespace Go.VE.Un
open Go.VE
@[simp] theorem ZAN(s:List UInt8):ZfJ [.str s,.str [46]]=some (.bool (decide (0≤Lib.indexByte s 46))):=rfl
def YB(s:List UInt8):Bool:=J1 s&& !decide (0≤Lib.indexByte s 46)
@[simp] theorem Zxs(s:List UInt8)(hs:s.length≤140737488355328):Zc vp 650 [.str s]=some (.bool (YB s)):=by
  rw[Za ZyF]
  by_cases h:J1 s=true
  ·simp -implicitDefEqProofs [hs,h,YB]
  ·simp -implicitDefEqProofs [hs,h,YB]
def Ym:List Field→List (List UInt8)→Int→Int
 |[],_,sum=>if sum%8=0 then 0 else 9
 |f::r,ns,sum=>if YB f.Name.s=false then 4 else if 0≤Vw (Yl f.Name.s) ns 0 then 6 else if 1≤f.W.n∧f.W.n≤128 then Ym r (ns++[f.Name.s]) (sum+f.W.n)else 9
def Yn:List Field→List (List UInt8)→Int→Option (List (List UInt8)×Int)
 |[],ns,sum=>some (ns,sum)
 |f::r,ns,sum=>if YB f.Name.s=false then none else if 0≤Vw (Yl f.Name.s) ns 0 then none else if 1≤f.W.n∧f.W.n≤128 then Yn r (ns++[f.Name.s]) (sum+f.W.n)else none
theorem Zo4(l:GL Field)(hl:l.l.length≤16)(hb: ∀f∈l.l,f.Name.s.length≤35184372088831): ∀(r:List Field) (k sum:Int) (ns:List (List UInt8)),0≤k→k≤l.l.length→l.l.drop k.toNat=r→ns.length=k.toNat→0≤sum→sum≤128*k→(∀s∈ns,s.length≤35184372088831)→∃hh,(orc vp).loop 0 [3,4,7,8,9] Zhv [(3,.gsl 0 ns.length 1 0 ns.length),(4,.int .i64 sum),(7,GL.v 2 Field.v l),(8,.int .i64 l.l.length),(9,.int .i64 k)] [.arr (ns.map .str)]=
 (match Yn r ns sum with
  |some (ns,sum)=>some (.brk 0,[(3,.gsl 0 ns.length 1 0 ns.length),(4,.int .i64 sum),(7,GL.v 2 Field.v l),(8,.int .i64 l.l.length),(9,.int .i64 l.l.length),(10,.bool false)],hh)
  |none=>some (.ret,[(2,.int .i64 (Ym r ns sum))],hh)):=by
 intro r
 induction r with
 |nil=>
  intro k sum ns hk hkl hd hn h0 h1 hs
  have hle:=Zq hk hd
  obtain⟨hlt,he⟩: ¬k<l.l.length∧k=l.l.length:=by and_intros<;>omega
  refine⟨[.arr (ns.map .str)],?_⟩
  rw[JR]
  simp -implicitDefEqProofs [hlt,Yn,he]
 |cons x r ih=>
  intro k sum ns hk hkl hd hn h0 h1 hs
  obtain⟨hg,hlt,hd'⟩:=Zp hk hd
  have hx:=hb x (List.mem_of_getElem? (by rw[Zh,if_pos hk]at hg;exact hg))
  have hx':x.Name.s.length≤140737488355328:=by omega
  have hnl:ns.length≤140737488355328:=by omega
  by_cases hp:YB x.Name.s=true
  ·by_cases hi:0≤Vw (Yl x.Name.s) ns 0
   ·refine⟨[.arr (ns.map .str),.arr [x.v]],?_⟩
    rw[JR]
    simp -implicitDefEqProofs [hlt,hg,hp,hi,hx,hx',hnl,hs,WX,Yn,Ym,Z6,JA _ _ _ hnl hs hx]
   ·by_cases hw:1≤x.W.n∧x.W.n≤128
    ·have w1:IntKind.i64.wrap (k+1)=k+1:=ZK (by omega) (by omega)
     have w2:=w64 (n:=sum+x.W.n) (by omega)
     obtain⟨hh,ih⟩:=ih (k+1) (sum+x.W.n) (ns++[x.Name.s]) (by omega) (by omega) hd' (by simp;omega) (by omega) (by omega) (by
      intro s h;simp only[List.mem_append,List.mem_singleton]at h
      rcases h with h|rfl
      ·exact hs s h
      ·exact hx)
     refine⟨hh,?_⟩
     rw[JR]
     have ha:=ZdS (lo:=0) (z:=1) (bytes:=16) (es:=ns.map V.str) (ns:=[.str x.Name.s]) (h:=[.arr [x.v]]) (by omega) rfl (by simp[YC];omega)
     simp only[List.length_map]at ha
     simp -implicitDefEqProofs [hlt,hg,hp,hi,hw,hx,hx',WX,Yn,Ym,Z6,JA _ _ _ hnl hs hx,w1,w2,ha,Yy,Z9,Zgq (es:=ns.map V.str) (b:=.arr [x.v]) Zes (VK (Z6 1 ns) (by simp :Zo 1 [V.str x.Name.s]=true))]
     simpa using ih
    ·refine⟨[.arr (ns.map .str),.arr [x.v]],?_⟩
     rw[JR]
     have hw':(decide (1≤x.W.n)&&decide (x.W.n≤128))=false:=by simpa using hw
     simp -implicitDefEqProofs [hlt,hg,hp,hi,hw,hw',hx,hx',WX,Yn,Ym,Z6,JA _ _ _ hnl hs hx]
  ·refine⟨[.arr (ns.map .str),.arr [x.v]],?_⟩
   rw[JR]
   simp -implicitDefEqProofs [hlt,hg,hp,hx',Yn,Ym]
theorem Kd: ∀(r:List Field) (ns:List (List UInt8)) (sum:Int) {ns':List (List UInt8)} {s:Int},Yn r ns sum=some (ns',s)→Ym r ns sum=if s%8=0 then 0 else 9
 |[],ns,sum,ns',s,e=>by
  simp only[Yn,Option.some.injEq,Prod.mk.injEq]at e
  simp only[Ym,e.2]
 |f::r,ns,sum,ns',s,e=>by
  simp only[Yn]at e
  split at e
  ·simp at e
  ·rename_i h1
   split at e
   ·simp at e
   ·rename_i h2
    split at e
    ·rename_i h3
     simp only[Ym];rw[if_neg h1,if_neg h2,if_pos h3];exact Kd r _ _ e
    ·simp at e
theorem Ji: ∀(r:List Field) (ns:List (List UInt8)) (sum:Int) {ns':List (List UInt8)} {s:Int},0≤sum→Yn r ns sum=some (ns',s)→0≤s
 |[],ns,sum,ns',s,h,e=>by simp only[Yn,Option.some.injEq,Prod.mk.injEq]at e;omega
 |f::r,ns,sum,ns',s,h,e=>by
  simp only[Yn]at e
  split at e
  ·simp at e
  ·split at e
   ·simp at e
   ·split at e
    ·exact Ji r _ _ (by omega) e
    ·simp at e
theorem ZrM{s:Int}(h:0≤s):s.tmod 8=s%8:=Int.tmod_eq_emod_of_nonneg h
theorem Zj6(l:GL Field)(hl:l.l.length≤16)(hb: ∀f∈l.l,f.Name.s.length≤35184372088831):Zc vp 648 [GL.v 2 Field.v l]=some (.int .i64 (Ym l.l [] 0)):=by
 obtain⟨hh,h⟩:=Zo4 l hl hb l.l 0 0 [] (by omega) (by omega) rfl rfl (by omega) (by omega) (by simp)
 rw[Za Zwo]
 cases hr:Yn l.l [] 0 with
 |none=>
  rw[hr]at h
  simp -implicitDefEqProofs [b648]at h⊢
  simp -implicitDefEqProofs [h]
 |some p=>
  obtain⟨ns,s⟩:=p
  have hn:=Ji l.l [] 0 (by omega) hr
  have he:=Kd l.l [] 0 hr
  rw[hr]at h
  have ht:=ZrM hn
  have hrem:Yh .rem (.int .i64 s) (.int .i64 8)=some (.int .i64 (s%8)):=by rw[JH _ _ _ (by decide),ht]
  simp -implicitDefEqProofs [b648]at h⊢
  by_cases h8:s%8=0
  ·simp -implicitDefEqProofs [h,hrem,he,h8]
  ·simp -implicitDefEqProofs [h,hrem,he,h8]
def inB(n lo hi:Int):Bool:=decide (lo≤n)&&decide (n≤hi)
def XC(h:Header):Bool:=
 if h.Var.n=0 then decide (h.By.n=0)&&(decide (h.Mul.n=0)&&decide (h.Sub.n=0))
 else inB h.Var.n 1 64&&((match Zh h.Fields.l h.By.n with|some f=>decide (f.W.n≤16)|none=>false)&&(inB h.Mul.n 1 64&&inB h.Sub.n 0 4096))
@[simp] theorem Zud(h:Header):Zc vp 651 [h.v]=some (.bool (XC h)):=by
  have hle:=h.Fields.le
  have w:=w64 (n:=h.Fields.l.length-1) (by omega)
  rw[Za ZyZ]
  by_cases h0:h.Var.n=0
  ·by_cases h1:h.By.n=0
   ·by_cases h2:h.Mul.n=0
    ·simp -implicitDefEqProofs [h0,h1,h2,XC]
    ·simp -implicitDefEqProofs [h0,h1,h2,XC]
   ·simp -implicitDefEqProofs [h0,h1,XC]
  ·by_cases h1:(decide (1≤h.Var.n)&&decide (h.Var.n≤64))=true
   ·rcases Zm h.Fields.l h.By.n with⟨a,g0,g1,hg⟩|⟨g0,hg⟩
    ·have h2:h.By.n≤h.Fields.l.length-1:=by omega
     by_cases h3:a.W.n≤16
     ·by_cases h4:(decide (1≤h.Mul.n)&&decide (h.Mul.n≤64))=true
      ·simp -implicitDefEqProofs [h0,h1,h2,h3,h4,g0,g1,hg,w,XC,inB]
      ·simp only[Bool.not_eq_true]at h4
       simp -implicitDefEqProofs [h0,h1,h2,h3,h4,g0,g1,hg,w,XC,inB]
     ·simp -implicitDefEqProofs [h0,h1,h2,h3,g0,g1,hg,w,XC,inB]
    ·have h2:(decide (0≤h.By.n)&&decide (h.By.n≤(h.Fields.l.length:Int)-1))=false:=by
      simp;omega
     simp -implicitDefEqProofs [h0,h1,h2,hg,w,XC,inB]
   ·simp only[Bool.not_eq_true]at h1
    simp -implicitDefEqProofs [h0,h1,XC,inB]
def VW(h:Header):Int:=
 if YB h.Name.s=false then 4 else if 16<h.Fields.l.length then 2 else if h.Fields.l.length=0 then 5
 else if Ym h.Fields.l [] 0≠0 then Ym h.Fields.l [] 0 else if XC h=false then 7 else 0
@[simp] theorem Zgs(h:Header)(hb:h.Fields.l.length≤16→∀f∈h.Fields.l,f.Name.s.length≤35184372088831):Zc vp 641 [h.v]=some (.int .i64 (VW h)):=by
  have hle:=h.Fields.le
  have hn:=h.Name.le
  rw[Za ZyC]
  by_cases hp:YB h.Name.s=true
  ·by_cases h1:16<h.Fields.l.length
   ·have h1':(16:Int)<h.Fields.l.length:=by omega
    simp -implicitDefEqProofs [hn,hp,h1,h1',VW]
   ·have h1': ¬(16:Int)<h.Fields.l.length:=by omega
    by_cases h2:h.Fields.l.length=0
    ·simp -implicitDefEqProofs [hn,hp,h1,h1',h2,VW]
    ·have hf:=Zj6 h.Fields (by omega) (hb (by omega))
     by_cases h3:Ym h.Fields.l [] 0=0
     ·by_cases h4:XC h=true
      ·simp -implicitDefEqProofs [hn,hp,h1,h1',h2,hf,h3,h4,VW]
      ·simp -implicitDefEqProofs [hn,hp,h1,h1',h2,hf,h3,h4,VW]
     ·simp -implicitDefEqProofs [hn,hp,h1,h1',h2,hf,h3,VW]
  ·simp -implicitDefEqProofs [hn,hp,VW]
end Go.VE.Un
