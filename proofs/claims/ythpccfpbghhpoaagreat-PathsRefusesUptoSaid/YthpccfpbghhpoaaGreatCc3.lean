/- Joined texts: CrB. No condition: what each theorem needs stands in it. -/
import Derived.Test.YthpccfpbghhpoaaGreatCc2
namespace Go.VE.Un
open Go.VE
@[simp] theorem ZzV(c:UInt8):Zc vp 808 [WC c]=some (.bool (ZL c)):=by
  rw[Za Zxi]
  by_cases h:128≤(c.toNat:Int)<;>simp -implicitDefEqProofs [WC,h,ZL]
theorem ZW(c:UInt8):(c.toNat:Int)<256:=by have:=c.toNat_lt;omega
theorem Zxd(c:UInt8):IntKind.i64.wrap (c.toNat:Int)=c.toNat:=ZE (by omega) (by have:=ZW c;omega)
theorem ZG(c:UInt8):ZaC (.int .i64) (WC c)=some (.int .i64 c.toNat):=by rw[WC,ZnD,Zxd]
@[simp] theorem ZmL(k:Nat)(c:UInt8):Zk k (WC c)=true:=nr rfl
def OKf(s:List UInt8):Prop:=Zc vp 801 [.str s]=some (.tup [.int .i64 (Yh s).1,.int .i64 (Yh s).2])
theorem Zmz:Yh []=(65533,0):=rfl
theorem Um(a:UInt8):Yh [a]=if(a.toNat:Int)<128 then((a.toNat:Int),1)else(65533,1):=rfl
theorem VF(a b:UInt8):Yh [a,b]=if(a.toNat:Int)<128 then((a.toNat:Int),1)else if 194≤(a.toNat:Int)∧(a.toNat:Int)<224∧ZL b=true then(64*((a.toNat:Int)-192)+b.toNat-128,2)else(65533,1):=rfl
theorem XP(a b c:UInt8):Yh [a,b,c]=if(a.toNat:Int)<128 then((a.toNat:Int),1)else if 194≤(a.toNat:Int)∧(a.toNat:Int)<224∧ZL b=true then(64*((a.toNat:Int)-192)+b.toNat-128,2)else if 224≤(a.toNat:Int)∧(a.toNat:Int)<240∧ZL b=true∧ZL c=true∧2048≤4096*((a.toNat:Int)-224)+64*((b.toNat:Int)-128)+(c.toNat:Int)-128∧(4096*((a.toNat:Int)-224)+64*((b.toNat:Int)-128)+(c.toNat:Int)-128<55296∨57343<4096*((a.toNat:Int)-224)+64*((b.toNat:Int)-128)+(c.toNat:Int)-128)then(4096*((a.toNat:Int)-224)+64*((b.toNat:Int)-128)+(c.toNat:Int)-128,3)else(65533,1):=rfl
theorem YN(a b c d:UInt8)(r:List UInt8):Yh (a::b::c::d::r)=if(a.toNat:Int)<128 then((a.toNat:Int),1)else if 194≤(a.toNat:Int)∧(a.toNat:Int)<224∧ZL b=true then(64*((a.toNat:Int)-192)+b.toNat-128,2)else if 224≤(a.toNat:Int)∧(a.toNat:Int)<240∧ZL b=true∧ZL c=true∧2048≤4096*((a.toNat:Int)-224)+64*((b.toNat:Int)-128)+(c.toNat:Int)-128∧(4096*((a.toNat:Int)-224)+64*((b.toNat:Int)-128)+(c.toNat:Int)-128<55296∨57343<4096*((a.toNat:Int)-224)+64*((b.toNat:Int)-128)+(c.toNat:Int)-128)then(4096*((a.toNat:Int)-224)+64*((b.toNat:Int)-128)+(c.toNat:Int)-128,3)else if 240≤(a.toNat:Int)∧(a.toNat:Int)<245∧ZL b=true∧ZL c=true∧ZL d=true∧65536≤262144*((a.toNat:Int)-240)+4096*((b.toNat:Int)-128)+64*((c.toNat:Int)-128)+(d.toNat:Int)-128∧262144*((a.toNat:Int)-240)+4096*((b.toNat:Int)-128)+64*((c.toNat:Int)-128)+(d.toNat:Int)-128≤1114111 then(262144*((a.toNat:Int)-240)+4096*((b.toNat:Int)-128)+64*((c.toNat:Int)-128)+(d.toNat:Int)-128,4)else(65533,1):=rfl
theorem ZkM(a b:UInt8)(r:List UInt8)(h0: ¬(a.toNat:Int)<128)(h:194≤(a.toNat:Int)∧(a.toNat:Int)<224∧ZL b=true):Yh (a::b::r)=(64*((a.toNat:Int)-192)+b.toNat-128,2):=by
 match r with
 |[]=>rw[VF,if_neg h0,if_pos h]
 |[c]=>rw[XP,if_neg h0,if_pos h]
 |c::d::r=>rw[YN,if_neg h0,if_pos h]
theorem ZbL(a b c:UInt8)(r:List UInt8)(h0: ¬(a.toNat:Int)<128)(h1: ¬(194≤(a.toNat:Int)∧(a.toNat:Int)<224∧ZL b=true))(h:224≤(a.toNat:Int)∧(a.toNat:Int)<240∧ZL b=true∧ZL c=true∧2048≤4096*((a.toNat:Int)-224)+64*((b.toNat:Int)-128)+(c.toNat:Int)-128∧(4096*((a.toNat:Int)-224)+64*((b.toNat:Int)-128)+(c.toNat:Int)-128<55296∨57343<4096*((a.toNat:Int)-224)+64*((b.toNat:Int)-128)+(c.toNat:Int)-128)):Yh (a::b::c::r)=(4096*((a.toNat:Int)-224)+64*((b.toNat:Int)-128)+(c.toNat:Int)-128,3):=by
 match r with
 |[]=>rw[XP,if_neg h0,if_neg h1,if_pos h]
 |d::r=>rw[YN,if_neg h0,if_neg h1,if_pos h]
set_option maxRecDepth 20000
theorem fw1(a:UInt8):IntKind.i64.wrap ((a.toNat:Int)-192)=(a.toNat:Int)-192:=by
 have:=ZW a
 exact ZE (by omega) (by omega)
theorem fw2(a:UInt8):IntKind.i64.wrap (64*((a.toNat:Int)-192))=64*((a.toNat:Int)-192):=by
 have:=ZW a
 exact ZE (by omega) (by omega)
theorem fw3(a b:UInt8):IntKind.i64.wrap (64*((a.toNat:Int)-192)+(b.toNat:Int))=64*((a.toNat:Int)-192)+(b.toNat:Int):=by
 have:=ZW a
 have:=ZW b
 exact ZE (by omega) (by omega)
theorem fw4(a b:UInt8):IntKind.i64.wrap (64*((a.toNat:Int)-192)+(b.toNat:Int)-128)=64*((a.toNat:Int)-192)+(b.toNat:Int)-128:=by
 have:=ZW a
 have:=ZW b
 exact ZE (by omega) (by omega)
theorem fx1(a:UInt8):IntKind.i64.wrap ((a.toNat:Int)-224)=(a.toNat:Int)-224:=by
 have:=ZW a
 exact ZE (by omega) (by omega)
theorem fx2(a:UInt8):IntKind.i64.wrap (4096*((a.toNat:Int)-224))=4096*((a.toNat:Int)-224):=by
 have:=ZW a
 exact ZE (by omega) (by omega)
theorem fx3(b:UInt8):IntKind.i64.wrap ((b.toNat:Int)-128)=(b.toNat:Int)-128:=by
 have:=ZW b
 exact ZE (by omega) (by omega)
theorem fx4(b:UInt8):IntKind.i64.wrap (64*((b.toNat:Int)-128))=64*((b.toNat:Int)-128):=by
 have:=ZW b
 exact ZE (by omega) (by omega)
theorem fx5(a b:UInt8):IntKind.i64.wrap (4096*((a.toNat:Int)-224)+64*((b.toNat:Int)-128))=4096*((a.toNat:Int)-224)+64*((b.toNat:Int)-128):=by
 have:=ZW a
 have:=ZW b
 exact ZE (by omega) (by omega)
theorem fx6(a b c:UInt8):IntKind.i64.wrap (4096*((a.toNat:Int)-224)+64*((b.toNat:Int)-128)+(c.toNat:Int))=4096*((a.toNat:Int)-224)+64*((b.toNat:Int)-128)+(c.toNat:Int):=by
 have:=ZW a
 have:=ZW b
 have:=ZW c
 exact ZE (by omega) (by omega)
theorem fx7(a b c:UInt8):IntKind.i64.wrap (4096*((a.toNat:Int)-224)+64*((b.toNat:Int)-128)+(c.toNat:Int)-128)=4096*((a.toNat:Int)-224)+64*((b.toNat:Int)-128)+(c.toNat:Int)-128:=by
 have:=ZW a
 have:=ZW b
 have:=ZW c
 exact ZE (by omega) (by omega)
theorem fy1(a:UInt8):IntKind.i64.wrap ((a.toNat:Int)-240)=(a.toNat:Int)-240:=by
 have:=ZW a
 exact ZE (by omega) (by omega)
theorem fy2(a:UInt8):IntKind.i64.wrap (262144*((a.toNat:Int)-240))=262144*((a.toNat:Int)-240):=by
 have:=ZW a
 exact ZE (by omega) (by omega)
theorem fy3(b:UInt8):IntKind.i64.wrap (4096*((b.toNat:Int)-128))=4096*((b.toNat:Int)-128):=by
 have:=ZW b
 exact ZE (by omega) (by omega)
theorem fy4(a b:UInt8):IntKind.i64.wrap (262144*((a.toNat:Int)-240)+4096*((b.toNat:Int)-128))=262144*((a.toNat:Int)-240)+4096*((b.toNat:Int)-128):=by
 have:=ZW a
 have:=ZW b
 exact ZE (by omega) (by omega)
theorem fy5(c:UInt8):IntKind.i64.wrap ((c.toNat:Int)-128)=(c.toNat:Int)-128:=by
 have:=ZW c
 exact ZE (by omega) (by omega)
theorem fy6(c:UInt8):IntKind.i64.wrap (64*((c.toNat:Int)-128))=64*((c.toNat:Int)-128):=by
 have:=ZW c
 exact ZE (by omega) (by omega)
theorem fy7(a b c:UInt8):IntKind.i64.wrap (262144*((a.toNat:Int)-240)+4096*((b.toNat:Int)-128)+64*((c.toNat:Int)-128))=262144*((a.toNat:Int)-240)+4096*((b.toNat:Int)-128)+64*((c.toNat:Int)-128):=by
 have:=ZW a
 have:=ZW b
 have:=ZW c
 exact ZE (by omega) (by omega)
theorem fy8(a b c d:UInt8):IntKind.i64.wrap (262144*((a.toNat:Int)-240)+4096*((b.toNat:Int)-128)+64*((c.toNat:Int)-128)+(d.toNat:Int))=262144*((a.toNat:Int)-240)+4096*((b.toNat:Int)-128)+64*((c.toNat:Int)-128)+(d.toNat:Int):=by
 have:=ZW a
 have:=ZW b
 have:=ZW c
 have:=ZW d
 exact ZE (by omega) (by omega)
theorem fy9(a b c d:UInt8):IntKind.i64.wrap (262144*((a.toNat:Int)-240)+4096*((b.toNat:Int)-128)+64*((c.toNat:Int)-128)+(d.toNat:Int)-128)=262144*((a.toNat:Int)-240)+4096*((b.toNat:Int)-128)+64*((c.toNat:Int)-128)+(d.toNat:Int)-128:=by
 have:=ZW a
 have:=ZW b
 have:=ZW c
 have:=ZW d
 exact ZE (by omega) (by omega)
theorem gI1(a b:UInt8)(r:List UInt8):Zh (a::b::r) 1=some b:=Zt8 _
theorem gI2(a b c:UInt8)(r:List UInt8):Zh (a::b::c::r) 2=some c:=Zso _
theorem gI3(a b c d:UInt8)(r:List UInt8):Zh (a::b::c::d::r) 3=some d:=Zr3 _
section
variable {a b c d : UInt8} {r : List UInt8} (h0 : ¬ (a.toNat : Int) < 128)
include h0
theorem ZBr(h1: ¬194≤(a.toNat:Int)):OKf ([a]):=by
 obtain⟨q0,q1,q2⟩:(¬194≤(a.toNat:Int))∧(¬224≤(a.toNat:Int))∧(¬240≤(a.toNat:Int)):=by and_intros<;>omega
 rw[OKf,Za YC]
 simp -implicitDefEqProofs [Um,ZG,h0,q0,q1,q2]
theorem ZCn(h1:194≤(a.toNat:Int))(h2:(a.toNat:Int)<224):OKf ([a]):=by
 obtain⟨q0,q1,q2,q3⟩:(194≤(a.toNat:Int))∧((a.toNat:Int)<224)∧(¬224≤(a.toNat:Int))∧(¬240≤(a.toNat:Int)):=by and_intros<;>omega
 rw[OKf,Za YC]
 simp -implicitDefEqProofs [Um,ZG,h0,q0,q1,q2,q3]
theorem ZCf(h1:224≤(a.toNat:Int))(h2:(a.toNat:Int)<240):OKf ([a]):=by
 obtain⟨q0,q1,q2,q3,q4⟩:(194≤(a.toNat:Int))∧(¬(a.toNat:Int)<224)∧(224≤(a.toNat:Int))∧((a.toNat:Int)<240)∧(¬240≤(a.toNat:Int)):=by and_intros<;>omega
 rw[OKf,Za YC]
 simp -implicitDefEqProofs [Um,ZG,h0,q0,q1,q2,q3,q4]
theorem ZBA(h1:240≤(a.toNat:Int))(h2:(a.toNat:Int)<245):OKf ([a]):=by
 obtain⟨q0,q1,q2,q3,q4,q5⟩:(194≤(a.toNat:Int))∧(¬(a.toNat:Int)<224)∧(224≤(a.toNat:Int))∧(¬(a.toNat:Int)<240)∧(240≤(a.toNat:Int))∧((a.toNat:Int)<245):=by and_intros<;>omega
 rw[OKf,Za YC]
 simp -implicitDefEqProofs [Um,ZG,h0,q0,q1,q2,q3,q4,q5]
theorem ZBE(h1:245≤(a.toNat:Int)):OKf ([a]):=by
 obtain⟨q0,q1,q2,q3,q4,q5⟩:(194≤(a.toNat:Int))∧(¬(a.toNat:Int)<224)∧(224≤(a.toNat:Int))∧(¬(a.toNat:Int)<240)∧(240≤(a.toNat:Int))∧(¬(a.toNat:Int)<245):=by and_intros<;>omega
 rw[OKf,Za YC]
 simp -implicitDefEqProofs [Um,ZG,h0,q0,q1,q2,q3,q4,q5]
theorem ZCb(h1: ¬194≤(a.toNat:Int)):OKf ([a,b]):=by
 obtain⟨q0,q1,q2⟩:(¬194≤(a.toNat:Int))∧(¬224≤(a.toNat:Int))∧(¬240≤(a.toNat:Int)):=by and_intros<;>omega
 rw[OKf,Za YC]
 simp -implicitDefEqProofs [VF,ZG,h0,q0,q1,q2,gI1]
theorem ZBx(h1:224≤(a.toNat:Int))(h2:(a.toNat:Int)<240):OKf ([a,b]):=by
 obtain⟨q0,q1,q2,q3,q4⟩:(194≤(a.toNat:Int))∧(¬(a.toNat:Int)<224)∧(224≤(a.toNat:Int))∧((a.toNat:Int)<240)∧(¬240≤(a.toNat:Int)):=by and_intros<;>omega
 rw[OKf,Za YC]
 simp -implicitDefEqProofs [VF,ZG,h0,q0,q1,q2,q3,q4,gI1,fx1,fx2,fx3,fx4,fx5]
theorem ZBn(h1:240≤(a.toNat:Int))(h2:(a.toNat:Int)<245):OKf ([a,b]):=by
 obtain⟨q0,q1,q2,q3,q4,q5⟩:(194≤(a.toNat:Int))∧(¬(a.toNat:Int)<224)∧(224≤(a.toNat:Int))∧(¬(a.toNat:Int)<240)∧(240≤(a.toNat:Int))∧((a.toNat:Int)<245):=by and_intros<;>omega
 rw[OKf,Za YC]
 simp -implicitDefEqProofs [VF,ZG,h0,q0,q1,q2,q3,q4,q5,gI1,fx1,fx2,fx3,fx4,fx5,fy1,fy2,fy3,fy4]
theorem ZBK(h1:245≤(a.toNat:Int)):OKf ([a,b]):=by
 obtain⟨q0,q1,q2,q3,q4,q5⟩:(194≤(a.toNat:Int))∧(¬(a.toNat:Int)<224)∧(224≤(a.toNat:Int))∧(¬(a.toNat:Int)<240)∧(240≤(a.toNat:Int))∧(¬(a.toNat:Int)<245):=by and_intros<;>omega
 rw[OKf,Za YC]
 simp -implicitDefEqProofs [VF,ZG,h0,q0,q1,q2,q3,q4,q5,gI1]
theorem ZBp(h1: ¬194≤(a.toNat:Int)):OKf ([a,b,c]):=by
 obtain⟨q0,q1,q2⟩:(¬194≤(a.toNat:Int))∧(¬224≤(a.toNat:Int))∧(¬240≤(a.toNat:Int)):=by and_intros<;>omega
 rw[OKf,Za YC]
 simp -implicitDefEqProofs [XP,ZG,h0,q0,q1,q2,gI1,gI2]
theorem ZB7(h1:240≤(a.toNat:Int))(h2:(a.toNat:Int)<245):OKf ([a,b,c]):=by
 obtain⟨q0,q1,q2,q3,q4,q5⟩:(194≤(a.toNat:Int))∧(¬(a.toNat:Int)<224)∧(224≤(a.toNat:Int))∧(¬(a.toNat:Int)<240)∧(240≤(a.toNat:Int))∧((a.toNat:Int)<245):=by and_intros<;>omega
 rw[OKf,Za YC]
 simp -implicitDefEqProofs [XP,ZG,h0,q0,q1,q2,q3,q4,q5,gI1,gI2,fx1,fx2,fx3,fx4,fx5,fx6,fx7,fy1,fy2,fy3,fy4,fy5,fy6,fy7]
theorem ZBj(h1:245≤(a.toNat:Int)):OKf ([a,b,c]):=by
 obtain⟨q0,q1,q2,q3,q4,q5⟩:(194≤(a.toNat:Int))∧(¬(a.toNat:Int)<224)∧(224≤(a.toNat:Int))∧(¬(a.toNat:Int)<240)∧(240≤(a.toNat:Int))∧(¬(a.toNat:Int)<245):=by and_intros<;>omega
 rw[OKf,Za YC]
 simp -implicitDefEqProofs [XP,ZG,h0,q0,q1,q2,q3,q4,q5,gI1,gI2]
theorem ZB5(h1: ¬194≤(a.toNat:Int)):OKf (a::b::c::d::r):=by
 obtain⟨q0,q1,q2,z0,z2,z3,z4⟩:(¬194≤(a.toNat:Int))∧(¬224≤(a.toNat:Int))∧(¬240≤(a.toNat:Int))∧(¬(r.length:Int)+1+1+1+1=0)∧(2≤(r.length:Int)+1+1+1+1)∧(3≤(r.length:Int)+1+1+1+1)∧(4≤(r.length:Int)+1+1+1+1):=by and_intros<;>omega
 rw[OKf,Za YC]
 simp -implicitDefEqProofs [YN,ZG,h0,q0,q1,q2,z0,z2,z3,z4,gI1,gI2,gI3]
theorem ZCu(h1:245≤(a.toNat:Int)):OKf (a::b::c::d::r):=by
 obtain⟨q0,q1,q2,q3,q4,q5,z0,z2,z3,z4⟩:(194≤(a.toNat:Int))∧(¬(a.toNat:Int)<224)∧(224≤(a.toNat:Int))∧(¬(a.toNat:Int)<240)∧(240≤(a.toNat:Int))∧(¬(a.toNat:Int)<245)∧(¬(r.length:Int)+1+1+1+1=0)∧(2≤(r.length:Int)+1+1+1+1)∧(3≤(r.length:Int)+1+1+1+1)∧(4≤(r.length:Int)+1+1+1+1):=by and_intros<;>omega
 rw[OKf,Za YC]
 simp -implicitDefEqProofs [YN,ZG,h0,q0,q1,q2,q3,q4,q5,z0,z2,z3,z4,gI1,gI2,gI3]
theorem ZCt(h1:194≤(a.toNat:Int))(h2:(a.toNat:Int)<224)(mb:ZL b=true):OKf (a::b::r):=by
 obtain⟨q0,q1,q2,q3,z0,z2⟩:(194≤(a.toNat:Int))∧((a.toNat:Int)<224)∧(¬224≤(a.toNat:Int))∧(¬240≤(a.toNat:Int))∧(¬(r.length:Int)+1+1=0)∧(2≤(r.length:Int)+1+1):=by and_intros<;>omega
 rw[OKf,Za YC]
 simp -implicitDefEqProofs [ZkM a b r h0 ⟨h1,h2,mb⟩,ZG,h0,q0,q1,q2,q3,z0,z2,gI1,fw1,fw2,fw3,fw4,mb]
theorem Zxf(h1:194≤(a.toNat:Int))(h2:(a.toNat:Int)<224)(mb:ZL b=false):OKf ([a,b]):=by
 obtain⟨q0,q1,q2,q3⟩:(194≤(a.toNat:Int))∧((a.toNat:Int)<224)∧(¬224≤(a.toNat:Int))∧(¬240≤(a.toNat:Int)):=by and_intros<;>omega
 rw[OKf,Za YC]
 simp -implicitDefEqProofs [VF,ZG,h0,q0,q1,q2,q3,gI1,fw1,fw2,fw3,fw4,mb]
theorem ZxF(h1:194≤(a.toNat:Int))(h2:(a.toNat:Int)<224)(mb:ZL b=false):OKf ([a,b,c]):=by
 obtain⟨q0,q1,q2,q3⟩:(194≤(a.toNat:Int))∧((a.toNat:Int)<224)∧(¬224≤(a.toNat:Int))∧(¬240≤(a.toNat:Int)):=by and_intros<;>omega
 rw[OKf,Za YC]
 simp -implicitDefEqProofs [XP,ZG,h0,q0,q1,q2,q3,gI1,gI2,fw1,fw2,fw3,fw4,mb]
theorem ZyF(h1:194≤(a.toNat:Int))(h2:(a.toNat:Int)<224)(mb:ZL b=false):OKf (a::b::c::d::r):=by
 obtain⟨q0,q1,q2,q3,z0,z2,z3,z4⟩:(194≤(a.toNat:Int))∧((a.toNat:Int)<224)∧(¬224≤(a.toNat:Int))∧(¬240≤(a.toNat:Int))∧(¬(r.length:Int)+1+1+1+1=0)∧(2≤(r.length:Int)+1+1+1+1)∧(3≤(r.length:Int)+1+1+1+1)∧(4≤(r.length:Int)+1+1+1+1):=by and_intros<;>omega
 rw[OKf,Za YC]
 simp -implicitDefEqProofs [YN,ZG,h0,q0,q1,q2,q3,z0,z2,z3,z4,gI1,gI2,gI3,fw1,fw2,fw3,fw4,mb]
theorem Zzn(h1:224≤(a.toNat:Int))(h2:(a.toNat:Int)<240)(mb:ZL b=false):OKf ([a,b,c]):=by
 obtain⟨q0,q1,q2,q3,q4⟩:(194≤(a.toNat:Int))∧(¬(a.toNat:Int)<224)∧(224≤(a.toNat:Int))∧((a.toNat:Int)<240)∧(¬240≤(a.toNat:Int)):=by and_intros<;>omega
 rw[OKf,Za YC]
 simp -implicitDefEqProofs [XP,ZG,h0,q0,q1,q2,q3,q4,gI1,gI2,fx1,fx2,fx3,fx4,fx5,fx6,fx7,mb]
theorem Zu9(h1:224≤(a.toNat:Int))(h2:(a.toNat:Int)<240)(mb:ZL b=true)(mc:ZL c=false):OKf ([a,b,c]):=by
 obtain⟨q0,q1,q2,q3,q4⟩:(194≤(a.toNat:Int))∧(¬(a.toNat:Int)<224)∧(224≤(a.toNat:Int))∧((a.toNat:Int)<240)∧(¬240≤(a.toNat:Int)):=by and_intros<;>omega
 rw[OKf,Za YC]
 simp -implicitDefEqProofs [XP,ZG,h0,q0,q1,q2,q3,q4,gI1,gI2,fx1,fx2,fx3,fx4,fx5,fx6,fx7,mb,mc]
theorem ZvZ(h1:224≤(a.toNat:Int))(h2:(a.toNat:Int)<240)(mb:ZL b=true)(mc:ZL c=true)(n1: ¬2048≤4096*((a.toNat:Int)-224)+64*((b.toNat:Int)-128)+(c.toNat:Int)-128):OKf ([a,b,c]):=by
 obtain⟨q0,q1,q2,q3,q4⟩:(194≤(a.toNat:Int))∧(¬(a.toNat:Int)<224)∧(224≤(a.toNat:Int))∧((a.toNat:Int)<240)∧(¬240≤(a.toNat:Int)):=by and_intros<;>omega
 rw[OKf,Za YC]
 simp -implicitDefEqProofs [XP,ZG,h0,q0,q1,q2,q3,q4,gI1,gI2,fx1,fx2,fx3,fx4,fx5,fx6,fx7,mb,mc,n1]
theorem Zyg(h1:224≤(a.toNat:Int))(h2:(a.toNat:Int)<240)(mb:ZL b=true)(mc:ZL c=true)(n1:2048≤4096*((a.toNat:Int)-224)+64*((b.toNat:Int)-128)+(c.toNat:Int)-128)(n2: ¬4096*((a.toNat:Int)-224)+64*((b.toNat:Int)-128)+(c.toNat:Int)-128<55296)(n3: ¬57343<4096*((a.toNat:Int)-224)+64*((b.toNat:Int)-128)+(c.toNat:Int)-128):OKf ([a,b,c]):=by
 obtain⟨q0,q1,q2,q3,q4⟩:(194≤(a.toNat:Int))∧(¬(a.toNat:Int)<224)∧(224≤(a.toNat:Int))∧((a.toNat:Int)<240)∧(¬240≤(a.toNat:Int)):=by and_intros<;>omega
 rw[OKf,Za YC]
 simp -implicitDefEqProofs [XP,ZG,h0,q0,q1,q2,q3,q4,gI1,gI2,fx1,fx2,fx3,fx4,fx5,fx6,fx7,mb,mc,n1,n2,n3]
theorem Zwy(h1:224≤(a.toNat:Int))(h2:(a.toNat:Int)<240)(mb:ZL b=false):OKf (a::b::c::d::r):=by
 obtain⟨q0,q1,q2,q3,q4,z0,z2,z3,z4⟩:(194≤(a.toNat:Int))∧(¬(a.toNat:Int)<224)∧(224≤(a.toNat:Int))∧((a.toNat:Int)<240)∧(¬240≤(a.toNat:Int))∧(¬(r.length:Int)+1+1+1+1=0)∧(2≤(r.length:Int)+1+1+1+1)∧(3≤(r.length:Int)+1+1+1+1)∧(4≤(r.length:Int)+1+1+1+1):=by and_intros<;>omega
 rw[OKf,Za YC]
 simp -implicitDefEqProofs [YN,ZG,h0,q0,q1,q2,q3,q4,z0,z2,z3,z4,gI1,gI2,gI3,fx1,fx2,fx3,fx4,fx5,fx6,fx7,mb]
theorem ZxH(h1:224≤(a.toNat:Int))(h2:(a.toNat:Int)<240)(mb:ZL b=true)(mc:ZL c=false):OKf (a::b::c::d::r):=by
 obtain⟨q0,q1,q2,q3,q4,z0,z2,z3,z4⟩:(194≤(a.toNat:Int))∧(¬(a.toNat:Int)<224)∧(224≤(a.toNat:Int))∧((a.toNat:Int)<240)∧(¬240≤(a.toNat:Int))∧(¬(r.length:Int)+1+1+1+1=0)∧(2≤(r.length:Int)+1+1+1+1)∧(3≤(r.length:Int)+1+1+1+1)∧(4≤(r.length:Int)+1+1+1+1):=by and_intros<;>omega
 rw[OKf,Za YC]
 simp -implicitDefEqProofs [YN,ZG,h0,q0,q1,q2,q3,q4,z0,z2,z3,z4,gI1,gI2,gI3,fx1,fx2,fx3,fx4,fx5,fx6,fx7,mb,mc]
theorem ZwI(h1:224≤(a.toNat:Int))(h2:(a.toNat:Int)<240)(mb:ZL b=true)(mc:ZL c=true)(n1: ¬2048≤4096*((a.toNat:Int)-224)+64*((b.toNat:Int)-128)+(c.toNat:Int)-128):OKf (a::b::c::d::r):=by
 obtain⟨q0,q1,q2,q3,q4,z0,z2,z3,z4⟩:(194≤(a.toNat:Int))∧(¬(a.toNat:Int)<224)∧(224≤(a.toNat:Int))∧((a.toNat:Int)<240)∧(¬240≤(a.toNat:Int))∧(¬(r.length:Int)+1+1+1+1=0)∧(2≤(r.length:Int)+1+1+1+1)∧(3≤(r.length:Int)+1+1+1+1)∧(4≤(r.length:Int)+1+1+1+1):=by and_intros<;>omega
 rw[OKf,Za YC]
 simp -implicitDefEqProofs [YN,ZG,h0,q0,q1,q2,q3,q4,z0,z2,z3,z4,gI1,gI2,gI3,fx1,fx2,fx3,fx4,fx5,fx6,fx7,mb,mc,n1]
theorem ZuY(h1:224≤(a.toNat:Int))(h2:(a.toNat:Int)<240)(mb:ZL b=true)(mc:ZL c=true)(n1:2048≤4096*((a.toNat:Int)-224)+64*((b.toNat:Int)-128)+(c.toNat:Int)-128)(n2: ¬4096*((a.toNat:Int)-224)+64*((b.toNat:Int)-128)+(c.toNat:Int)-128<55296)(n3: ¬57343<4096*((a.toNat:Int)-224)+64*((b.toNat:Int)-128)+(c.toNat:Int)-128):OKf (a::b::c::d::r):=by
 obtain⟨q0,q1,q2,q3,q4,z0,z2,z3,z4⟩:(194≤(a.toNat:Int))∧(¬(a.toNat:Int)<224)∧(224≤(a.toNat:Int))∧((a.toNat:Int)<240)∧(¬240≤(a.toNat:Int))∧(¬(r.length:Int)+1+1+1+1=0)∧(2≤(r.length:Int)+1+1+1+1)∧(3≤(r.length:Int)+1+1+1+1)∧(4≤(r.length:Int)+1+1+1+1):=by and_intros<;>omega
 rw[OKf,Za YC]
 simp -implicitDefEqProofs [YN,ZG,h0,q0,q1,q2,q3,q4,z0,z2,z3,z4,gI1,gI2,gI3,fx1,fx2,fx3,fx4,fx5,fx6,fx7,mb,mc,n1,n2,n3]
theorem ZBt(h1:224≤(a.toNat:Int))(h2:(a.toNat:Int)<240)(mb:ZL b=true)(mc:ZL c=true)(n1:2048≤4096*((a.toNat:Int)-224)+64*((b.toNat:Int)-128)+(c.toNat:Int)-128)(n2:4096*((a.toNat:Int)-224)+64*((b.toNat:Int)-128)+(c.toNat:Int)-128<55296):OKf (a::b::c::r):=by
 obtain⟨q0,q1,q2,q3,q4,z0,z2,z3⟩:(194≤(a.toNat:Int))∧(¬(a.toNat:Int)<224)∧(224≤(a.toNat:Int))∧((a.toNat:Int)<240)∧(¬240≤(a.toNat:Int))∧(¬(r.length:Int)+1+1+1=0)∧(2≤(r.length:Int)+1+1+1)∧(3≤(r.length:Int)+1+1+1):=by and_intros<;>omega
 rw[OKf,Za YC]
 simp -implicitDefEqProofs [ZbL a b c r h0 (by omega) ⟨h1,h2,mb,mc,n1,.inl n2⟩,ZG,h0,q0,q1,q2,q3,q4,z0,z2,z3,gI1,gI2,fx1,fx2,fx3,fx4,fx5,fx6,fx7,mb,mc,n1,n2]
theorem ZCs(h1:224≤(a.toNat:Int))(h2:(a.toNat:Int)<240)(mb:ZL b=true)(mc:ZL c=true)(n1:2048≤4096*((a.toNat:Int)-224)+64*((b.toNat:Int)-128)+(c.toNat:Int)-128)(n2: ¬4096*((a.toNat:Int)-224)+64*((b.toNat:Int)-128)+(c.toNat:Int)-128<55296)(n3:57343<4096*((a.toNat:Int)-224)+64*((b.toNat:Int)-128)+(c.toNat:Int)-128):OKf (a::b::c::r):=by
 obtain⟨q0,q1,q2,q3,q4,z0,z2,z3⟩:(194≤(a.toNat:Int))∧(¬(a.toNat:Int)<224)∧(224≤(a.toNat:Int))∧((a.toNat:Int)<240)∧(¬240≤(a.toNat:Int))∧(¬(r.length:Int)+1+1+1=0)∧(2≤(r.length:Int)+1+1+1)∧(3≤(r.length:Int)+1+1+1):=by and_intros<;>omega
 rw[OKf,Za YC]
 simp -implicitDefEqProofs [ZbL a b c r h0 (by omega) ⟨h1,h2,mb,mc,n1,.inr n3⟩,ZG,h0,q0,q1,q2,q3,q4,z0,z2,z3,gI1,gI2,fx1,fx2,fx3,fx4,fx5,fx6,fx7,mb,mc,n1,n2,n3]
theorem ZCv(h1:240≤(a.toNat:Int))(h2:(a.toNat:Int)<245)(mb:ZL b=false):OKf (a::b::c::d::r):=by
 obtain⟨q0,q1,q2,q3,q4,q5,z0,z2,z3,z4⟩:(194≤(a.toNat:Int))∧(¬(a.toNat:Int)<224)∧(224≤(a.toNat:Int))∧(¬(a.toNat:Int)<240)∧(240≤(a.toNat:Int))∧((a.toNat:Int)<245)∧(¬(r.length:Int)+1+1+1+1=0)∧(2≤(r.length:Int)+1+1+1+1)∧(3≤(r.length:Int)+1+1+1+1)∧(4≤(r.length:Int)+1+1+1+1):=by and_intros<;>omega
 rw[OKf,Za YC]
 simp -implicitDefEqProofs [YN,ZG,h0,q0,q1,q2,q3,q4,q5,z0,z2,z3,z4,gI1,gI2,gI3,fx1,fx2,fx3,fx4,fx5,fx6,fx7,fy1,fy2,fy3,fy4,fy5,fy6,fy7,fy8,fy9,mb]
theorem ZBo(h1:240≤(a.toNat:Int))(h2:(a.toNat:Int)<245)(mb:ZL b=true)(mc:ZL c=false):OKf (a::b::c::d::r):=by
 obtain⟨q0,q1,q2,q3,q4,q5,z0,z2,z3,z4⟩:(194≤(a.toNat:Int))∧(¬(a.toNat:Int)<224)∧(224≤(a.toNat:Int))∧(¬(a.toNat:Int)<240)∧(240≤(a.toNat:Int))∧((a.toNat:Int)<245)∧(¬(r.length:Int)+1+1+1+1=0)∧(2≤(r.length:Int)+1+1+1+1)∧(3≤(r.length:Int)+1+1+1+1)∧(4≤(r.length:Int)+1+1+1+1):=by and_intros<;>omega
 rw[OKf,Za YC]
 simp -implicitDefEqProofs [YN,ZG,h0,q0,q1,q2,q3,q4,q5,z0,z2,z3,z4,gI1,gI2,gI3,fx1,fx2,fx3,fx4,fx5,fx6,fx7,fy1,fy2,fy3,fy4,fy5,fy6,fy7,fy8,fy9,mb,mc]
theorem ZCk(h1:240≤(a.toNat:Int))(h2:(a.toNat:Int)<245)(mb:ZL b=true)(mc:ZL c=true)(md:ZL d=false):OKf (a::b::c::d::r):=by
 obtain⟨q0,q1,q2,q3,q4,q5,z0,z2,z3,z4⟩:(194≤(a.toNat:Int))∧(¬(a.toNat:Int)<224)∧(224≤(a.toNat:Int))∧(¬(a.toNat:Int)<240)∧(240≤(a.toNat:Int))∧((a.toNat:Int)<245)∧(¬(r.length:Int)+1+1+1+1=0)∧(2≤(r.length:Int)+1+1+1+1)∧(3≤(r.length:Int)+1+1+1+1)∧(4≤(r.length:Int)+1+1+1+1):=by and_intros<;>omega
 rw[OKf,Za YC]
 simp -implicitDefEqProofs [YN,ZG,h0,q0,q1,q2,q3,q4,q5,z0,z2,z3,z4,gI1,gI2,gI3,fx1,fx2,fx3,fx4,fx5,fx6,fx7,fy1,fy2,fy3,fy4,fy5,fy6,fy7,fy8,fy9,mb,mc,md]
theorem ZBX(h1:240≤(a.toNat:Int))(h2:(a.toNat:Int)<245)(mb:ZL b=true)(mc:ZL c=true)(md:ZL d=true)(n1: ¬65536≤262144*((a.toNat:Int)-240)+4096*((b.toNat:Int)-128)+64*((c.toNat:Int)-128)+(d.toNat:Int)-128):OKf (a::b::c::d::r):=by
 obtain⟨q0,q1,q2,q3,q4,q5,z0,z2,z3,z4⟩:(194≤(a.toNat:Int))∧(¬(a.toNat:Int)<224)∧(224≤(a.toNat:Int))∧(¬(a.toNat:Int)<240)∧(240≤(a.toNat:Int))∧((a.toNat:Int)<245)∧(¬(r.length:Int)+1+1+1+1=0)∧(2≤(r.length:Int)+1+1+1+1)∧(3≤(r.length:Int)+1+1+1+1)∧(4≤(r.length:Int)+1+1+1+1):=by and_intros<;>omega
 rw[OKf,Za YC]
 simp -implicitDefEqProofs [YN,ZG,h0,q0,q1,q2,q3,q4,q5,z0,z2,z3,z4,gI1,gI2,gI3,fx1,fx2,fx3,fx4,fx5,fx6,fx7,fy1,fy2,fy3,fy4,fy5,fy6,fy7,fy8,fy9,mb,mc,md,n1]
theorem ZCy(h1:240≤(a.toNat:Int))(h2:(a.toNat:Int)<245)(mb:ZL b=true)(mc:ZL c=true)(md:ZL d=true)(n1:65536≤262144*((a.toNat:Int)-240)+4096*((b.toNat:Int)-128)+64*((c.toNat:Int)-128)+(d.toNat:Int)-128)(n2: ¬262144*((a.toNat:Int)-240)+4096*((b.toNat:Int)-128)+64*((c.toNat:Int)-128)+(d.toNat:Int)-128≤1114111):OKf (a::b::c::d::r):=by
 obtain⟨q0,q1,q2,q3,q4,q5,z0,z2,z3,z4⟩:(194≤(a.toNat:Int))∧(¬(a.toNat:Int)<224)∧(224≤(a.toNat:Int))∧(¬(a.toNat:Int)<240)∧(240≤(a.toNat:Int))∧((a.toNat:Int)<245)∧(¬(r.length:Int)+1+1+1+1=0)∧(2≤(r.length:Int)+1+1+1+1)∧(3≤(r.length:Int)+1+1+1+1)∧(4≤(r.length:Int)+1+1+1+1):=by and_intros<;>omega
 rw[OKf,Za YC]
 simp -implicitDefEqProofs [YN,ZG,h0,q0,q1,q2,q3,q4,q5,z0,z2,z3,z4,gI1,gI2,gI3,fx1,fx2,fx3,fx4,fx5,fx6,fx7,fy1,fy2,fy3,fy4,fy5,fy6,fy7,fy8,fy9,mb,mc,md,n1,n2]
theorem ZBQ(h1:240≤(a.toNat:Int))(h2:(a.toNat:Int)<245)(mb:ZL b=true)(mc:ZL c=true)(md:ZL d=true)(n1:65536≤262144*((a.toNat:Int)-240)+4096*((b.toNat:Int)-128)+64*((c.toNat:Int)-128)+(d.toNat:Int)-128)(n2:262144*((a.toNat:Int)-240)+4096*((b.toNat:Int)-128)+64*((c.toNat:Int)-128)+(d.toNat:Int)-128≤1114111):OKf (a::b::c::d::r):=by
 obtain⟨q0,q1,q2,q3,q4,q5,z0,z2,z3,z4⟩:(194≤(a.toNat:Int))∧(¬(a.toNat:Int)<224)∧(224≤(a.toNat:Int))∧(¬(a.toNat:Int)<240)∧(240≤(a.toNat:Int))∧((a.toNat:Int)<245)∧(¬(r.length:Int)+1+1+1+1=0)∧(2≤(r.length:Int)+1+1+1+1)∧(3≤(r.length:Int)+1+1+1+1)∧(4≤(r.length:Int)+1+1+1+1):=by and_intros<;>omega
 rw[OKf,Za YC]
 simp -implicitDefEqProofs [YN,ZG,h0,q0,q1,q2,q3,q4,q5,z0,z2,z3,z4,gI1,gI2,gI3,fx1,fx2,fx3,fx4,fx5,fx6,fx7,fy1,fy2,fy3,fy4,fy5,fy6,fy7,fy8,fy9,mb,mc,md,n1,n2]
end
theorem Zm3(s:List UInt8):Zc vp 801 [.str s]=some (.tup [.int .i64 (Yh s).1,.int .i64 (Yh s).2]):=by
 rcases s with _|⟨a,r⟩
 ·rw[Za YC];simp -implicitDefEqProofs [Zmz]
 by_cases h0:(a.toNat:Int)<128
 ·have z: ¬(r.length:Int)+1=0:=by omega
  have e:Yh (a::r)=((a.toNat:Int),1):=by
   match r with
   |[]=>rw[Um,if_pos h0]
   |[b]=>rw[VF,if_pos h0]
   |[b,c]=>rw[XP,if_pos h0]
   |b::c::d::r=>rw[YN,if_pos h0]
  rw[Za YC];simp -implicitDefEqProofs [e,ZG,z,h0]
 have hcls: ¬194≤(a.toNat:Int)∨(194≤(a.toNat:Int)∧(a.toNat:Int)<224)∨(224≤(a.toNat:Int)∧(a.toNat:Int)<240)∨(240≤(a.toNat:Int)∧(a.toNat:Int)<245)∨245≤(a.toNat:Int):=by omega
 rcases r with _|⟨b,r⟩
 ·rcases hcls with h|⟨h,h'⟩|⟨h,h'⟩|⟨h,h'⟩|h
  ·exact ZBr h0 h
  ·exact ZCn h0 h h'
  ·exact ZCf h0 h h'
  ·exact ZBA h0 h h'
  ·exact ZBE h0 h
 have dich: ∀v,ZL v=true∨ZL v=false:=fun v=>by cases ZL v<;>simp
 rcases hcls with h|⟨h,h'⟩|hD|hE|h
 ·rcases r with _|⟨c,_|⟨d,r⟩⟩
  ·exact ZCb h0 h
  ·exact ZBp h0 h
  ·exact ZB5 h0 h
 ·rcases dich b with m|m
  ·exact ZCt h0 h h' m
  ·rcases r with _|⟨c,_|⟨d,r⟩⟩
   ·exact Zxf h0 h h' m
   ·exact ZxF h0 h h' m
   ·exact ZyF h0 h h' m
 ·obtain⟨h,h'⟩:=hD
  rcases r with _|⟨c,r⟩
  ·exact ZBx h0 h h'
  rcases dich b with mb|mb
  ·rcases dich c with mc|mc
   ·by_cases n1:2048≤4096*((a.toNat:Int)-224)+64*((b.toNat:Int)-128)+(c.toNat:Int)-128
    ·by_cases n2:4096*((a.toNat:Int)-224)+64*((b.toNat:Int)-128)+(c.toNat:Int)-128<55296
     ·exact ZBt h0 h h' mb mc n1 n2
     ·by_cases n3:57343<4096*((a.toNat:Int)-224)+64*((b.toNat:Int)-128)+(c.toNat:Int)-128
      ·exact ZCs h0 h h' mb mc n1 n2 n3
      ·rcases r with _|⟨d,r⟩
       ·exact Zyg h0 h h' mb mc n1 n2 n3
       ·exact ZuY h0 h h' mb mc n1 n2 n3
    ·rcases r with _|⟨d,r⟩
     ·exact ZvZ h0 h h' mb mc n1
     ·exact ZwI h0 h h' mb mc n1
   ·rcases r with _|⟨d,r⟩
    ·exact Zu9 h0 h h' mb mc
    ·exact ZxH h0 h h' mb mc
  ·rcases r with _|⟨d,r⟩
   ·exact Zzn h0 h h' mb
   ·exact Zwy h0 h h' mb
 ·obtain⟨h,h'⟩:=hE
  rcases r with _|⟨c,_|⟨d,r⟩⟩
  ·exact ZBn h0 h h'
  ·exact ZB7 h0 h h'
  ·rcases dich b with mb|mb
   ·rcases dich c with mc|mc
    ·rcases dich d with md|md
     ·by_cases n1:65536≤262144*((a.toNat:Int)-240)+4096*((b.toNat:Int)-128)+64*((c.toNat:Int)-128)+(d.toNat:Int)-128
      ·by_cases n2:262144*((a.toNat:Int)-240)+4096*((b.toNat:Int)-128)+64*((c.toNat:Int)-128)+(d.toNat:Int)-128≤1114111
       ·exact ZBQ h0 h h' mb mc md n1 n2
       ·exact ZCy h0 h h' mb mc md n1 n2
      ·exact ZBX h0 h h' mb mc md n1
     ·exact ZCk h0 h h' mb mc md
    ·exact ZBo h0 h h' mb mc
   ·exact ZCv h0 h h' mb
 ·rcases r with _|⟨c,_|⟨d,r⟩⟩
  ·exact ZBK h0 h
  ·exact ZBj h0 h
  ·exact ZCu h0 h
end Go.VE.Un
