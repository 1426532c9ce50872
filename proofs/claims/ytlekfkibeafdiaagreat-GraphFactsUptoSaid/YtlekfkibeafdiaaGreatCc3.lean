/- Joined texts: CrB. No condition: what each theorem needs stands in it. -/
import Derived.Test.YtlekfkibeafdiaaGreatCc2
namespace Go.VE.Un
open Go.VE
@[simp] theorem ZBb(c:UInt8):Zc vp 808 [WF c]=some (.bool (ZL c)):=by
  rw[Za ZxB]
  by_cases h:128≤(c.toNat:Int)<;>simp -implicitDefEqProofs [WF,h,ZL]
theorem ZV(c:UInt8):(c.toNat:Int)<256:=by have:=c.toNat_lt;omega
theorem Zwb(c:UInt8):IntKind.i64.wrap (c.toNat:Int)=c.toNat:=ZK (by omega) (by have:=ZV c;omega)
theorem ZF(c:UInt8):ZaD (.int .i64) (WF c)=some (.int .i64 c.toNat):=by rw[WF,ZlZ,Zwb]
@[simp] theorem Znf(k:Nat)(c:UInt8):Zk k (WF c)=true:=nr rfl
def OKf(s:List UInt8):Prop:=Zc vp 801 [.str s]=some (.tup [.int .i64 (Yg s).1,.int .i64 (Yg s).2])
theorem Zmk:Yg []=(65533,0):=rfl
theorem Us(a:UInt8):Yg [a]=if(a.toNat:Int)<128 then((a.toNat:Int),1)else(65533,1):=rfl
theorem VQ(a b:UInt8):Yg [a,b]=if(a.toNat:Int)<128 then((a.toNat:Int),1)else if 194≤(a.toNat:Int)∧(a.toNat:Int)<224∧ZL b=true then(64*((a.toNat:Int)-192)+b.toNat-128,2)else(65533,1):=rfl
theorem XU(a b c:UInt8):Yg [a,b,c]=if(a.toNat:Int)<128 then((a.toNat:Int),1)else if 194≤(a.toNat:Int)∧(a.toNat:Int)<224∧ZL b=true then(64*((a.toNat:Int)-192)+b.toNat-128,2)else if 224≤(a.toNat:Int)∧(a.toNat:Int)<240∧ZL b=true∧ZL c=true∧2048≤4096*((a.toNat:Int)-224)+64*((b.toNat:Int)-128)+(c.toNat:Int)-128∧(4096*((a.toNat:Int)-224)+64*((b.toNat:Int)-128)+(c.toNat:Int)-128<55296∨57343<4096*((a.toNat:Int)-224)+64*((b.toNat:Int)-128)+(c.toNat:Int)-128)then(4096*((a.toNat:Int)-224)+64*((b.toNat:Int)-128)+(c.toNat:Int)-128,3)else(65533,1):=rfl
theorem YO(a b c d:UInt8)(r:List UInt8):Yg (a::b::c::d::r)=if(a.toNat:Int)<128 then((a.toNat:Int),1)else if 194≤(a.toNat:Int)∧(a.toNat:Int)<224∧ZL b=true then(64*((a.toNat:Int)-192)+b.toNat-128,2)else if 224≤(a.toNat:Int)∧(a.toNat:Int)<240∧ZL b=true∧ZL c=true∧2048≤4096*((a.toNat:Int)-224)+64*((b.toNat:Int)-128)+(c.toNat:Int)-128∧(4096*((a.toNat:Int)-224)+64*((b.toNat:Int)-128)+(c.toNat:Int)-128<55296∨57343<4096*((a.toNat:Int)-224)+64*((b.toNat:Int)-128)+(c.toNat:Int)-128)then(4096*((a.toNat:Int)-224)+64*((b.toNat:Int)-128)+(c.toNat:Int)-128,3)else if 240≤(a.toNat:Int)∧(a.toNat:Int)<245∧ZL b=true∧ZL c=true∧ZL d=true∧65536≤262144*((a.toNat:Int)-240)+4096*((b.toNat:Int)-128)+64*((c.toNat:Int)-128)+(d.toNat:Int)-128∧262144*((a.toNat:Int)-240)+4096*((b.toNat:Int)-128)+64*((c.toNat:Int)-128)+(d.toNat:Int)-128≤1114111 then(262144*((a.toNat:Int)-240)+4096*((b.toNat:Int)-128)+64*((c.toNat:Int)-128)+(d.toNat:Int)-128,4)else(65533,1):=rfl
theorem Zlq(a b:UInt8)(r:List UInt8)(h0: ¬(a.toNat:Int)<128)(h:194≤(a.toNat:Int)∧(a.toNat:Int)<224∧ZL b=true):Yg (a::b::r)=(64*((a.toNat:Int)-192)+b.toNat-128,2):=by
 match r with
 |[]=>rw[VQ,if_neg h0,if_pos h]
 |[c]=>rw[XU,if_neg h0,if_pos h]
 |c::d::r=>rw[YO,if_neg h0,if_pos h]
theorem ZbV(a b c:UInt8)(r:List UInt8)(h0: ¬(a.toNat:Int)<128)(h1: ¬(194≤(a.toNat:Int)∧(a.toNat:Int)<224∧ZL b=true))(h:224≤(a.toNat:Int)∧(a.toNat:Int)<240∧ZL b=true∧ZL c=true∧2048≤4096*((a.toNat:Int)-224)+64*((b.toNat:Int)-128)+(c.toNat:Int)-128∧(4096*((a.toNat:Int)-224)+64*((b.toNat:Int)-128)+(c.toNat:Int)-128<55296∨57343<4096*((a.toNat:Int)-224)+64*((b.toNat:Int)-128)+(c.toNat:Int)-128)):Yg (a::b::c::r)=(4096*((a.toNat:Int)-224)+64*((b.toNat:Int)-128)+(c.toNat:Int)-128,3):=by
 match r with
 |[]=>rw[XU,if_neg h0,if_neg h1,if_pos h]
 |d::r=>rw[YO,if_neg h0,if_neg h1,if_pos h]
set_option maxRecDepth 20000
theorem fw1(a:UInt8):IntKind.i64.wrap ((a.toNat:Int)-192)=(a.toNat:Int)-192:=by
 have:=ZV a
 exact ZK (by omega) (by omega)
theorem fw2(a:UInt8):IntKind.i64.wrap (64*((a.toNat:Int)-192))=64*((a.toNat:Int)-192):=by
 have:=ZV a
 exact ZK (by omega) (by omega)
theorem fw3(a b:UInt8):IntKind.i64.wrap (64*((a.toNat:Int)-192)+(b.toNat:Int))=64*((a.toNat:Int)-192)+(b.toNat:Int):=by
 have:=ZV a
 have:=ZV b
 exact ZK (by omega) (by omega)
theorem fw4(a b:UInt8):IntKind.i64.wrap (64*((a.toNat:Int)-192)+(b.toNat:Int)-128)=64*((a.toNat:Int)-192)+(b.toNat:Int)-128:=by
 have:=ZV a
 have:=ZV b
 exact ZK (by omega) (by omega)
theorem fx1(a:UInt8):IntKind.i64.wrap ((a.toNat:Int)-224)=(a.toNat:Int)-224:=by
 have:=ZV a
 exact ZK (by omega) (by omega)
theorem fx2(a:UInt8):IntKind.i64.wrap (4096*((a.toNat:Int)-224))=4096*((a.toNat:Int)-224):=by
 have:=ZV a
 exact ZK (by omega) (by omega)
theorem fx3(b:UInt8):IntKind.i64.wrap ((b.toNat:Int)-128)=(b.toNat:Int)-128:=by
 have:=ZV b
 exact ZK (by omega) (by omega)
theorem fx4(b:UInt8):IntKind.i64.wrap (64*((b.toNat:Int)-128))=64*((b.toNat:Int)-128):=by
 have:=ZV b
 exact ZK (by omega) (by omega)
theorem fx5(a b:UInt8):IntKind.i64.wrap (4096*((a.toNat:Int)-224)+64*((b.toNat:Int)-128))=4096*((a.toNat:Int)-224)+64*((b.toNat:Int)-128):=by
 have:=ZV a
 have:=ZV b
 exact ZK (by omega) (by omega)
theorem fx6(a b c:UInt8):IntKind.i64.wrap (4096*((a.toNat:Int)-224)+64*((b.toNat:Int)-128)+(c.toNat:Int))=4096*((a.toNat:Int)-224)+64*((b.toNat:Int)-128)+(c.toNat:Int):=by
 have:=ZV a
 have:=ZV b
 have:=ZV c
 exact ZK (by omega) (by omega)
theorem fx7(a b c:UInt8):IntKind.i64.wrap (4096*((a.toNat:Int)-224)+64*((b.toNat:Int)-128)+(c.toNat:Int)-128)=4096*((a.toNat:Int)-224)+64*((b.toNat:Int)-128)+(c.toNat:Int)-128:=by
 have:=ZV a
 have:=ZV b
 have:=ZV c
 exact ZK (by omega) (by omega)
theorem fy1(a:UInt8):IntKind.i64.wrap ((a.toNat:Int)-240)=(a.toNat:Int)-240:=by
 have:=ZV a
 exact ZK (by omega) (by omega)
theorem fy2(a:UInt8):IntKind.i64.wrap (262144*((a.toNat:Int)-240))=262144*((a.toNat:Int)-240):=by
 have:=ZV a
 exact ZK (by omega) (by omega)
theorem fy3(b:UInt8):IntKind.i64.wrap (4096*((b.toNat:Int)-128))=4096*((b.toNat:Int)-128):=by
 have:=ZV b
 exact ZK (by omega) (by omega)
theorem fy4(a b:UInt8):IntKind.i64.wrap (262144*((a.toNat:Int)-240)+4096*((b.toNat:Int)-128))=262144*((a.toNat:Int)-240)+4096*((b.toNat:Int)-128):=by
 have:=ZV a
 have:=ZV b
 exact ZK (by omega) (by omega)
theorem fy5(c:UInt8):IntKind.i64.wrap ((c.toNat:Int)-128)=(c.toNat:Int)-128:=by
 have:=ZV c
 exact ZK (by omega) (by omega)
theorem fy6(c:UInt8):IntKind.i64.wrap (64*((c.toNat:Int)-128))=64*((c.toNat:Int)-128):=by
 have:=ZV c
 exact ZK (by omega) (by omega)
theorem fy7(a b c:UInt8):IntKind.i64.wrap (262144*((a.toNat:Int)-240)+4096*((b.toNat:Int)-128)+64*((c.toNat:Int)-128))=262144*((a.toNat:Int)-240)+4096*((b.toNat:Int)-128)+64*((c.toNat:Int)-128):=by
 have:=ZV a
 have:=ZV b
 have:=ZV c
 exact ZK (by omega) (by omega)
theorem fy8(a b c d:UInt8):IntKind.i64.wrap (262144*((a.toNat:Int)-240)+4096*((b.toNat:Int)-128)+64*((c.toNat:Int)-128)+(d.toNat:Int))=262144*((a.toNat:Int)-240)+4096*((b.toNat:Int)-128)+64*((c.toNat:Int)-128)+(d.toNat:Int):=by
 have:=ZV a
 have:=ZV b
 have:=ZV c
 have:=ZV d
 exact ZK (by omega) (by omega)
theorem fy9(a b c d:UInt8):IntKind.i64.wrap (262144*((a.toNat:Int)-240)+4096*((b.toNat:Int)-128)+64*((c.toNat:Int)-128)+(d.toNat:Int)-128)=262144*((a.toNat:Int)-240)+4096*((b.toNat:Int)-128)+64*((c.toNat:Int)-128)+(d.toNat:Int)-128:=by
 have:=ZV a
 have:=ZV b
 have:=ZV c
 have:=ZV d
 exact ZK (by omega) (by omega)
theorem gI1(a b:UInt8)(r:List UInt8):Zh (a::b::r) 1=some b:=Zt0 _
theorem gI2(a b c:UInt8)(r:List UInt8):Zh (a::b::c::r) 2=some c:=ZtO _
theorem gI3(a b c d:UInt8)(r:List UInt8):Zh (a::b::c::d::r) 3=some d:=ZrS _
section
variable {a b c d : UInt8} {r : List UInt8} (h0 : ¬ (a.toNat : Int) < 128)
include h0
theorem ZCf(h1: ¬194≤(a.toNat:Int)):OKf ([a]):=by
 obtain⟨q0,q1,q2⟩:(¬194≤(a.toNat:Int))∧(¬224≤(a.toNat:Int))∧(¬240≤(a.toNat:Int)):=by and_intros<;>omega
 rw[OKf,Za YD]
 simp -implicitDefEqProofs [Us,ZF,h0,q0,q1,q2]
theorem ZCp(h1:194≤(a.toNat:Int))(h2:(a.toNat:Int)<224):OKf ([a]):=by
 obtain⟨q0,q1,q2,q3⟩:(194≤(a.toNat:Int))∧((a.toNat:Int)<224)∧(¬224≤(a.toNat:Int))∧(¬240≤(a.toNat:Int)):=by and_intros<;>omega
 rw[OKf,Za YD]
 simp -implicitDefEqProofs [Us,ZF,h0,q0,q1,q2,q3]
theorem ZBs(h1:224≤(a.toNat:Int))(h2:(a.toNat:Int)<240):OKf ([a]):=by
 obtain⟨q0,q1,q2,q3,q4⟩:(194≤(a.toNat:Int))∧(¬(a.toNat:Int)<224)∧(224≤(a.toNat:Int))∧((a.toNat:Int)<240)∧(¬240≤(a.toNat:Int)):=by and_intros<;>omega
 rw[OKf,Za YD]
 simp -implicitDefEqProofs [Us,ZF,h0,q0,q1,q2,q3,q4]
theorem ZCs(h1:240≤(a.toNat:Int))(h2:(a.toNat:Int)<245):OKf ([a]):=by
 obtain⟨q0,q1,q2,q3,q4,q5⟩:(194≤(a.toNat:Int))∧(¬(a.toNat:Int)<224)∧(224≤(a.toNat:Int))∧(¬(a.toNat:Int)<240)∧(240≤(a.toNat:Int))∧((a.toNat:Int)<245):=by and_intros<;>omega
 rw[OKf,Za YD]
 simp -implicitDefEqProofs [Us,ZF,h0,q0,q1,q2,q3,q4,q5]
theorem ZB8(h1:245≤(a.toNat:Int)):OKf ([a]):=by
 obtain⟨q0,q1,q2,q3,q4,q5⟩:(194≤(a.toNat:Int))∧(¬(a.toNat:Int)<224)∧(224≤(a.toNat:Int))∧(¬(a.toNat:Int)<240)∧(240≤(a.toNat:Int))∧(¬(a.toNat:Int)<245):=by and_intros<;>omega
 rw[OKf,Za YD]
 simp -implicitDefEqProofs [Us,ZF,h0,q0,q1,q2,q3,q4,q5]
theorem ZBH(h1: ¬194≤(a.toNat:Int)):OKf ([a,b]):=by
 obtain⟨q0,q1,q2⟩:(¬194≤(a.toNat:Int))∧(¬224≤(a.toNat:Int))∧(¬240≤(a.toNat:Int)):=by and_intros<;>omega
 rw[OKf,Za YD]
 simp -implicitDefEqProofs [VQ,ZF,h0,q0,q1,q2,gI1]
theorem ZBO(h1:224≤(a.toNat:Int))(h2:(a.toNat:Int)<240):OKf ([a,b]):=by
 obtain⟨q0,q1,q2,q3,q4⟩:(194≤(a.toNat:Int))∧(¬(a.toNat:Int)<224)∧(224≤(a.toNat:Int))∧((a.toNat:Int)<240)∧(¬240≤(a.toNat:Int)):=by and_intros<;>omega
 rw[OKf,Za YD]
 simp -implicitDefEqProofs [VQ,ZF,h0,q0,q1,q2,q3,q4,gI1,fx1,fx2,fx3,fx4,fx5]
theorem ZBY(h1:240≤(a.toNat:Int))(h2:(a.toNat:Int)<245):OKf ([a,b]):=by
 obtain⟨q0,q1,q2,q3,q4,q5⟩:(194≤(a.toNat:Int))∧(¬(a.toNat:Int)<224)∧(224≤(a.toNat:Int))∧(¬(a.toNat:Int)<240)∧(240≤(a.toNat:Int))∧((a.toNat:Int)<245):=by and_intros<;>omega
 rw[OKf,Za YD]
 simp -implicitDefEqProofs [VQ,ZF,h0,q0,q1,q2,q3,q4,q5,gI1,fx1,fx2,fx3,fx4,fx5,fy1,fy2,fy3,fy4]
theorem ZBw(h1:245≤(a.toNat:Int)):OKf ([a,b]):=by
 obtain⟨q0,q1,q2,q3,q4,q5⟩:(194≤(a.toNat:Int))∧(¬(a.toNat:Int)<224)∧(224≤(a.toNat:Int))∧(¬(a.toNat:Int)<240)∧(240≤(a.toNat:Int))∧(¬(a.toNat:Int)<245):=by and_intros<;>omega
 rw[OKf,Za YD]
 simp -implicitDefEqProofs [VQ,ZF,h0,q0,q1,q2,q3,q4,q5,gI1]
theorem ZCR(h1: ¬194≤(a.toNat:Int)):OKf ([a,b,c]):=by
 obtain⟨q0,q1,q2⟩:(¬194≤(a.toNat:Int))∧(¬224≤(a.toNat:Int))∧(¬240≤(a.toNat:Int)):=by and_intros<;>omega
 rw[OKf,Za YD]
 simp -implicitDefEqProofs [XU,ZF,h0,q0,q1,q2,gI1,gI2]
theorem ZCe(h1:240≤(a.toNat:Int))(h2:(a.toNat:Int)<245):OKf ([a,b,c]):=by
 obtain⟨q0,q1,q2,q3,q4,q5⟩:(194≤(a.toNat:Int))∧(¬(a.toNat:Int)<224)∧(224≤(a.toNat:Int))∧(¬(a.toNat:Int)<240)∧(240≤(a.toNat:Int))∧((a.toNat:Int)<245):=by and_intros<;>omega
 rw[OKf,Za YD]
 simp -implicitDefEqProofs [XU,ZF,h0,q0,q1,q2,q3,q4,q5,gI1,gI2,fx1,fx2,fx3,fx4,fx5,fx6,fx7,fy1,fy2,fy3,fy4,fy5,fy6,fy7]
theorem ZCJ(h1:245≤(a.toNat:Int)):OKf ([a,b,c]):=by
 obtain⟨q0,q1,q2,q3,q4,q5⟩:(194≤(a.toNat:Int))∧(¬(a.toNat:Int)<224)∧(224≤(a.toNat:Int))∧(¬(a.toNat:Int)<240)∧(240≤(a.toNat:Int))∧(¬(a.toNat:Int)<245):=by and_intros<;>omega
 rw[OKf,Za YD]
 simp -implicitDefEqProofs [XU,ZF,h0,q0,q1,q2,q3,q4,q5,gI1,gI2]
theorem ZCD(h1: ¬194≤(a.toNat:Int)):OKf (a::b::c::d::r):=by
 obtain⟨q0,q1,q2,z0,z2,z3,z4⟩:(¬194≤(a.toNat:Int))∧(¬224≤(a.toNat:Int))∧(¬240≤(a.toNat:Int))∧(¬(r.length:Int)+1+1+1+1=0)∧(2≤(r.length:Int)+1+1+1+1)∧(3≤(r.length:Int)+1+1+1+1)∧(4≤(r.length:Int)+1+1+1+1):=by and_intros<;>omega
 rw[OKf,Za YD]
 simp -implicitDefEqProofs [YO,ZF,h0,q0,q1,q2,z0,z2,z3,z4,gI1,gI2,gI3]
theorem ZBQ(h1:245≤(a.toNat:Int)):OKf (a::b::c::d::r):=by
 obtain⟨q0,q1,q2,q3,q4,q5,z0,z2,z3,z4⟩:(194≤(a.toNat:Int))∧(¬(a.toNat:Int)<224)∧(224≤(a.toNat:Int))∧(¬(a.toNat:Int)<240)∧(240≤(a.toNat:Int))∧(¬(a.toNat:Int)<245)∧(¬(r.length:Int)+1+1+1+1=0)∧(2≤(r.length:Int)+1+1+1+1)∧(3≤(r.length:Int)+1+1+1+1)∧(4≤(r.length:Int)+1+1+1+1):=by and_intros<;>omega
 rw[OKf,Za YD]
 simp -implicitDefEqProofs [YO,ZF,h0,q0,q1,q2,q3,q4,q5,z0,z2,z3,z4,gI1,gI2,gI3]
theorem ZBR(h1:194≤(a.toNat:Int))(h2:(a.toNat:Int)<224)(mb:ZL b=true):OKf (a::b::r):=by
 obtain⟨q0,q1,q2,q3,z0,z2⟩:(194≤(a.toNat:Int))∧((a.toNat:Int)<224)∧(¬224≤(a.toNat:Int))∧(¬240≤(a.toNat:Int))∧(¬(r.length:Int)+1+1=0)∧(2≤(r.length:Int)+1+1):=by and_intros<;>omega
 rw[OKf,Za YD]
 simp -implicitDefEqProofs [Zlq a b r h0 ⟨h1,h2,mb⟩,ZF,h0,q0,q1,q2,q3,z0,z2,gI1,fw1,fw2,fw3,fw4,mb]
theorem ZyP(h1:194≤(a.toNat:Int))(h2:(a.toNat:Int)<224)(mb:ZL b=false):OKf ([a,b]):=by
 obtain⟨q0,q1,q2,q3⟩:(194≤(a.toNat:Int))∧((a.toNat:Int)<224)∧(¬224≤(a.toNat:Int))∧(¬240≤(a.toNat:Int)):=by and_intros<;>omega
 rw[OKf,Za YD]
 simp -implicitDefEqProofs [VQ,ZF,h0,q0,q1,q2,q3,gI1,fw1,fw2,fw3,fw4,mb]
theorem ZvU(h1:194≤(a.toNat:Int))(h2:(a.toNat:Int)<224)(mb:ZL b=false):OKf ([a,b,c]):=by
 obtain⟨q0,q1,q2,q3⟩:(194≤(a.toNat:Int))∧((a.toNat:Int)<224)∧(¬224≤(a.toNat:Int))∧(¬240≤(a.toNat:Int)):=by and_intros<;>omega
 rw[OKf,Za YD]
 simp -implicitDefEqProofs [XU,ZF,h0,q0,q1,q2,q3,gI1,gI2,fw1,fw2,fw3,fw4,mb]
theorem ZwM(h1:194≤(a.toNat:Int))(h2:(a.toNat:Int)<224)(mb:ZL b=false):OKf (a::b::c::d::r):=by
 obtain⟨q0,q1,q2,q3,z0,z2,z3,z4⟩:(194≤(a.toNat:Int))∧((a.toNat:Int)<224)∧(¬224≤(a.toNat:Int))∧(¬240≤(a.toNat:Int))∧(¬(r.length:Int)+1+1+1+1=0)∧(2≤(r.length:Int)+1+1+1+1)∧(3≤(r.length:Int)+1+1+1+1)∧(4≤(r.length:Int)+1+1+1+1):=by and_intros<;>omega
 rw[OKf,Za YD]
 simp -implicitDefEqProofs [YO,ZF,h0,q0,q1,q2,q3,z0,z2,z3,z4,gI1,gI2,gI3,fw1,fw2,fw3,fw4,mb]
theorem Zu4(h1:224≤(a.toNat:Int))(h2:(a.toNat:Int)<240)(mb:ZL b=false):OKf ([a,b,c]):=by
 obtain⟨q0,q1,q2,q3,q4⟩:(194≤(a.toNat:Int))∧(¬(a.toNat:Int)<224)∧(224≤(a.toNat:Int))∧((a.toNat:Int)<240)∧(¬240≤(a.toNat:Int)):=by and_intros<;>omega
 rw[OKf,Za YD]
 simp -implicitDefEqProofs [XU,ZF,h0,q0,q1,q2,q3,q4,gI1,gI2,fx1,fx2,fx3,fx4,fx5,fx6,fx7,mb]
theorem ZwY(h1:224≤(a.toNat:Int))(h2:(a.toNat:Int)<240)(mb:ZL b=true)(mc:ZL c=false):OKf ([a,b,c]):=by
 obtain⟨q0,q1,q2,q3,q4⟩:(194≤(a.toNat:Int))∧(¬(a.toNat:Int)<224)∧(224≤(a.toNat:Int))∧((a.toNat:Int)<240)∧(¬240≤(a.toNat:Int)):=by and_intros<;>omega
 rw[OKf,Za YD]
 simp -implicitDefEqProofs [XU,ZF,h0,q0,q1,q2,q3,q4,gI1,gI2,fx1,fx2,fx3,fx4,fx5,fx6,fx7,mb,mc]
theorem Zy0(h1:224≤(a.toNat:Int))(h2:(a.toNat:Int)<240)(mb:ZL b=true)(mc:ZL c=true)(n1: ¬2048≤4096*((a.toNat:Int)-224)+64*((b.toNat:Int)-128)+(c.toNat:Int)-128):OKf ([a,b,c]):=by
 obtain⟨q0,q1,q2,q3,q4⟩:(194≤(a.toNat:Int))∧(¬(a.toNat:Int)<224)∧(224≤(a.toNat:Int))∧((a.toNat:Int)<240)∧(¬240≤(a.toNat:Int)):=by and_intros<;>omega
 rw[OKf,Za YD]
 simp -implicitDefEqProofs [XU,ZF,h0,q0,q1,q2,q3,q4,gI1,gI2,fx1,fx2,fx3,fx4,fx5,fx6,fx7,mb,mc,n1]
theorem Zvn(h1:224≤(a.toNat:Int))(h2:(a.toNat:Int)<240)(mb:ZL b=true)(mc:ZL c=true)(n1:2048≤4096*((a.toNat:Int)-224)+64*((b.toNat:Int)-128)+(c.toNat:Int)-128)(n2: ¬4096*((a.toNat:Int)-224)+64*((b.toNat:Int)-128)+(c.toNat:Int)-128<55296)(n3: ¬57343<4096*((a.toNat:Int)-224)+64*((b.toNat:Int)-128)+(c.toNat:Int)-128):OKf ([a,b,c]):=by
 obtain⟨q0,q1,q2,q3,q4⟩:(194≤(a.toNat:Int))∧(¬(a.toNat:Int)<224)∧(224≤(a.toNat:Int))∧((a.toNat:Int)<240)∧(¬240≤(a.toNat:Int)):=by and_intros<;>omega
 rw[OKf,Za YD]
 simp -implicitDefEqProofs [XU,ZF,h0,q0,q1,q2,q3,q4,gI1,gI2,fx1,fx2,fx3,fx4,fx5,fx6,fx7,mb,mc,n1,n2,n3]
theorem ZvI(h1:224≤(a.toNat:Int))(h2:(a.toNat:Int)<240)(mb:ZL b=false):OKf (a::b::c::d::r):=by
 obtain⟨q0,q1,q2,q3,q4,z0,z2,z3,z4⟩:(194≤(a.toNat:Int))∧(¬(a.toNat:Int)<224)∧(224≤(a.toNat:Int))∧((a.toNat:Int)<240)∧(¬240≤(a.toNat:Int))∧(¬(r.length:Int)+1+1+1+1=0)∧(2≤(r.length:Int)+1+1+1+1)∧(3≤(r.length:Int)+1+1+1+1)∧(4≤(r.length:Int)+1+1+1+1):=by and_intros<;>omega
 rw[OKf,Za YD]
 simp -implicitDefEqProofs [YO,ZF,h0,q0,q1,q2,q3,q4,z0,z2,z3,z4,gI1,gI2,gI3,fx1,fx2,fx3,fx4,fx5,fx6,fx7,mb]
theorem Zu1(h1:224≤(a.toNat:Int))(h2:(a.toNat:Int)<240)(mb:ZL b=true)(mc:ZL c=false):OKf (a::b::c::d::r):=by
 obtain⟨q0,q1,q2,q3,q4,z0,z2,z3,z4⟩:(194≤(a.toNat:Int))∧(¬(a.toNat:Int)<224)∧(224≤(a.toNat:Int))∧((a.toNat:Int)<240)∧(¬240≤(a.toNat:Int))∧(¬(r.length:Int)+1+1+1+1=0)∧(2≤(r.length:Int)+1+1+1+1)∧(3≤(r.length:Int)+1+1+1+1)∧(4≤(r.length:Int)+1+1+1+1):=by and_intros<;>omega
 rw[OKf,Za YD]
 simp -implicitDefEqProofs [YO,ZF,h0,q0,q1,q2,q3,q4,z0,z2,z3,z4,gI1,gI2,gI3,fx1,fx2,fx3,fx4,fx5,fx6,fx7,mb,mc]
theorem ZvC(h1:224≤(a.toNat:Int))(h2:(a.toNat:Int)<240)(mb:ZL b=true)(mc:ZL c=true)(n1: ¬2048≤4096*((a.toNat:Int)-224)+64*((b.toNat:Int)-128)+(c.toNat:Int)-128):OKf (a::b::c::d::r):=by
 obtain⟨q0,q1,q2,q3,q4,z0,z2,z3,z4⟩:(194≤(a.toNat:Int))∧(¬(a.toNat:Int)<224)∧(224≤(a.toNat:Int))∧((a.toNat:Int)<240)∧(¬240≤(a.toNat:Int))∧(¬(r.length:Int)+1+1+1+1=0)∧(2≤(r.length:Int)+1+1+1+1)∧(3≤(r.length:Int)+1+1+1+1)∧(4≤(r.length:Int)+1+1+1+1):=by and_intros<;>omega
 rw[OKf,Za YD]
 simp -implicitDefEqProofs [YO,ZF,h0,q0,q1,q2,q3,q4,z0,z2,z3,z4,gI1,gI2,gI3,fx1,fx2,fx3,fx4,fx5,fx6,fx7,mb,mc,n1]
theorem ZxH(h1:224≤(a.toNat:Int))(h2:(a.toNat:Int)<240)(mb:ZL b=true)(mc:ZL c=true)(n1:2048≤4096*((a.toNat:Int)-224)+64*((b.toNat:Int)-128)+(c.toNat:Int)-128)(n2: ¬4096*((a.toNat:Int)-224)+64*((b.toNat:Int)-128)+(c.toNat:Int)-128<55296)(n3: ¬57343<4096*((a.toNat:Int)-224)+64*((b.toNat:Int)-128)+(c.toNat:Int)-128):OKf (a::b::c::d::r):=by
 obtain⟨q0,q1,q2,q3,q4,z0,z2,z3,z4⟩:(194≤(a.toNat:Int))∧(¬(a.toNat:Int)<224)∧(224≤(a.toNat:Int))∧((a.toNat:Int)<240)∧(¬240≤(a.toNat:Int))∧(¬(r.length:Int)+1+1+1+1=0)∧(2≤(r.length:Int)+1+1+1+1)∧(3≤(r.length:Int)+1+1+1+1)∧(4≤(r.length:Int)+1+1+1+1):=by and_intros<;>omega
 rw[OKf,Za YD]
 simp -implicitDefEqProofs [YO,ZF,h0,q0,q1,q2,q3,q4,z0,z2,z3,z4,gI1,gI2,gI3,fx1,fx2,fx3,fx4,fx5,fx6,fx7,mb,mc,n1,n2,n3]
theorem ZBZ(h1:224≤(a.toNat:Int))(h2:(a.toNat:Int)<240)(mb:ZL b=true)(mc:ZL c=true)(n1:2048≤4096*((a.toNat:Int)-224)+64*((b.toNat:Int)-128)+(c.toNat:Int)-128)(n2:4096*((a.toNat:Int)-224)+64*((b.toNat:Int)-128)+(c.toNat:Int)-128<55296):OKf (a::b::c::r):=by
 obtain⟨q0,q1,q2,q3,q4,z0,z2,z3⟩:(194≤(a.toNat:Int))∧(¬(a.toNat:Int)<224)∧(224≤(a.toNat:Int))∧((a.toNat:Int)<240)∧(¬240≤(a.toNat:Int))∧(¬(r.length:Int)+1+1+1=0)∧(2≤(r.length:Int)+1+1+1)∧(3≤(r.length:Int)+1+1+1):=by and_intros<;>omega
 rw[OKf,Za YD]
 simp -implicitDefEqProofs [ZbV a b c r h0 (by omega) ⟨h1,h2,mb,mc,n1,.inl n2⟩,ZF,h0,q0,q1,q2,q3,q4,z0,z2,z3,gI1,gI2,fx1,fx2,fx3,fx4,fx5,fx6,fx7,mb,mc,n1,n2]
theorem ZB2(h1:224≤(a.toNat:Int))(h2:(a.toNat:Int)<240)(mb:ZL b=true)(mc:ZL c=true)(n1:2048≤4096*((a.toNat:Int)-224)+64*((b.toNat:Int)-128)+(c.toNat:Int)-128)(n2: ¬4096*((a.toNat:Int)-224)+64*((b.toNat:Int)-128)+(c.toNat:Int)-128<55296)(n3:57343<4096*((a.toNat:Int)-224)+64*((b.toNat:Int)-128)+(c.toNat:Int)-128):OKf (a::b::c::r):=by
 obtain⟨q0,q1,q2,q3,q4,z0,z2,z3⟩:(194≤(a.toNat:Int))∧(¬(a.toNat:Int)<224)∧(224≤(a.toNat:Int))∧((a.toNat:Int)<240)∧(¬240≤(a.toNat:Int))∧(¬(r.length:Int)+1+1+1=0)∧(2≤(r.length:Int)+1+1+1)∧(3≤(r.length:Int)+1+1+1):=by and_intros<;>omega
 rw[OKf,Za YD]
 simp -implicitDefEqProofs [ZbV a b c r h0 (by omega) ⟨h1,h2,mb,mc,n1,.inr n3⟩,ZF,h0,q0,q1,q2,q3,q4,z0,z2,z3,gI1,gI2,fx1,fx2,fx3,fx4,fx5,fx6,fx7,mb,mc,n1,n2,n3]
theorem ZBr(h1:240≤(a.toNat:Int))(h2:(a.toNat:Int)<245)(mb:ZL b=false):OKf (a::b::c::d::r):=by
 obtain⟨q0,q1,q2,q3,q4,q5,z0,z2,z3,z4⟩:(194≤(a.toNat:Int))∧(¬(a.toNat:Int)<224)∧(224≤(a.toNat:Int))∧(¬(a.toNat:Int)<240)∧(240≤(a.toNat:Int))∧((a.toNat:Int)<245)∧(¬(r.length:Int)+1+1+1+1=0)∧(2≤(r.length:Int)+1+1+1+1)∧(3≤(r.length:Int)+1+1+1+1)∧(4≤(r.length:Int)+1+1+1+1):=by and_intros<;>omega
 rw[OKf,Za YD]
 simp -implicitDefEqProofs [YO,ZF,h0,q0,q1,q2,q3,q4,q5,z0,z2,z3,z4,gI1,gI2,gI3,fx1,fx2,fx3,fx4,fx5,fx6,fx7,fy1,fy2,fy3,fy4,fy5,fy6,fy7,fy8,fy9,mb]
theorem ZCg(h1:240≤(a.toNat:Int))(h2:(a.toNat:Int)<245)(mb:ZL b=true)(mc:ZL c=false):OKf (a::b::c::d::r):=by
 obtain⟨q0,q1,q2,q3,q4,q5,z0,z2,z3,z4⟩:(194≤(a.toNat:Int))∧(¬(a.toNat:Int)<224)∧(224≤(a.toNat:Int))∧(¬(a.toNat:Int)<240)∧(240≤(a.toNat:Int))∧((a.toNat:Int)<245)∧(¬(r.length:Int)+1+1+1+1=0)∧(2≤(r.length:Int)+1+1+1+1)∧(3≤(r.length:Int)+1+1+1+1)∧(4≤(r.length:Int)+1+1+1+1):=by and_intros<;>omega
 rw[OKf,Za YD]
 simp -implicitDefEqProofs [YO,ZF,h0,q0,q1,q2,q3,q4,q5,z0,z2,z3,z4,gI1,gI2,gI3,fx1,fx2,fx3,fx4,fx5,fx6,fx7,fy1,fy2,fy3,fy4,fy5,fy6,fy7,fy8,fy9,mb,mc]
theorem ZCI(h1:240≤(a.toNat:Int))(h2:(a.toNat:Int)<245)(mb:ZL b=true)(mc:ZL c=true)(md:ZL d=false):OKf (a::b::c::d::r):=by
 obtain⟨q0,q1,q2,q3,q4,q5,z0,z2,z3,z4⟩:(194≤(a.toNat:Int))∧(¬(a.toNat:Int)<224)∧(224≤(a.toNat:Int))∧(¬(a.toNat:Int)<240)∧(240≤(a.toNat:Int))∧((a.toNat:Int)<245)∧(¬(r.length:Int)+1+1+1+1=0)∧(2≤(r.length:Int)+1+1+1+1)∧(3≤(r.length:Int)+1+1+1+1)∧(4≤(r.length:Int)+1+1+1+1):=by and_intros<;>omega
 rw[OKf,Za YD]
 simp -implicitDefEqProofs [YO,ZF,h0,q0,q1,q2,q3,q4,q5,z0,z2,z3,z4,gI1,gI2,gI3,fx1,fx2,fx3,fx4,fx5,fx6,fx7,fy1,fy2,fy3,fy4,fy5,fy6,fy7,fy8,fy9,mb,mc,md]
theorem ZCc(h1:240≤(a.toNat:Int))(h2:(a.toNat:Int)<245)(mb:ZL b=true)(mc:ZL c=true)(md:ZL d=true)(n1: ¬65536≤262144*((a.toNat:Int)-240)+4096*((b.toNat:Int)-128)+64*((c.toNat:Int)-128)+(d.toNat:Int)-128):OKf (a::b::c::d::r):=by
 obtain⟨q0,q1,q2,q3,q4,q5,z0,z2,z3,z4⟩:(194≤(a.toNat:Int))∧(¬(a.toNat:Int)<224)∧(224≤(a.toNat:Int))∧(¬(a.toNat:Int)<240)∧(240≤(a.toNat:Int))∧((a.toNat:Int)<245)∧(¬(r.length:Int)+1+1+1+1=0)∧(2≤(r.length:Int)+1+1+1+1)∧(3≤(r.length:Int)+1+1+1+1)∧(4≤(r.length:Int)+1+1+1+1):=by and_intros<;>omega
 rw[OKf,Za YD]
 simp -implicitDefEqProofs [YO,ZF,h0,q0,q1,q2,q3,q4,q5,z0,z2,z3,z4,gI1,gI2,gI3,fx1,fx2,fx3,fx4,fx5,fx6,fx7,fy1,fy2,fy3,fy4,fy5,fy6,fy7,fy8,fy9,mb,mc,md,n1]
theorem ZB5(h1:240≤(a.toNat:Int))(h2:(a.toNat:Int)<245)(mb:ZL b=true)(mc:ZL c=true)(md:ZL d=true)(n1:65536≤262144*((a.toNat:Int)-240)+4096*((b.toNat:Int)-128)+64*((c.toNat:Int)-128)+(d.toNat:Int)-128)(n2: ¬262144*((a.toNat:Int)-240)+4096*((b.toNat:Int)-128)+64*((c.toNat:Int)-128)+(d.toNat:Int)-128≤1114111):OKf (a::b::c::d::r):=by
 obtain⟨q0,q1,q2,q3,q4,q5,z0,z2,z3,z4⟩:(194≤(a.toNat:Int))∧(¬(a.toNat:Int)<224)∧(224≤(a.toNat:Int))∧(¬(a.toNat:Int)<240)∧(240≤(a.toNat:Int))∧((a.toNat:Int)<245)∧(¬(r.length:Int)+1+1+1+1=0)∧(2≤(r.length:Int)+1+1+1+1)∧(3≤(r.length:Int)+1+1+1+1)∧(4≤(r.length:Int)+1+1+1+1):=by and_intros<;>omega
 rw[OKf,Za YD]
 simp -implicitDefEqProofs [YO,ZF,h0,q0,q1,q2,q3,q4,q5,z0,z2,z3,z4,gI1,gI2,gI3,fx1,fx2,fx3,fx4,fx5,fx6,fx7,fy1,fy2,fy3,fy4,fy5,fy6,fy7,fy8,fy9,mb,mc,md,n1,n2]
theorem ZCA(h1:240≤(a.toNat:Int))(h2:(a.toNat:Int)<245)(mb:ZL b=true)(mc:ZL c=true)(md:ZL d=true)(n1:65536≤262144*((a.toNat:Int)-240)+4096*((b.toNat:Int)-128)+64*((c.toNat:Int)-128)+(d.toNat:Int)-128)(n2:262144*((a.toNat:Int)-240)+4096*((b.toNat:Int)-128)+64*((c.toNat:Int)-128)+(d.toNat:Int)-128≤1114111):OKf (a::b::c::d::r):=by
 obtain⟨q0,q1,q2,q3,q4,q5,z0,z2,z3,z4⟩:(194≤(a.toNat:Int))∧(¬(a.toNat:Int)<224)∧(224≤(a.toNat:Int))∧(¬(a.toNat:Int)<240)∧(240≤(a.toNat:Int))∧((a.toNat:Int)<245)∧(¬(r.length:Int)+1+1+1+1=0)∧(2≤(r.length:Int)+1+1+1+1)∧(3≤(r.length:Int)+1+1+1+1)∧(4≤(r.length:Int)+1+1+1+1):=by and_intros<;>omega
 rw[OKf,Za YD]
 simp -implicitDefEqProofs [YO,ZF,h0,q0,q1,q2,q3,q4,q5,z0,z2,z3,z4,gI1,gI2,gI3,fx1,fx2,fx3,fx4,fx5,fx6,fx7,fy1,fy2,fy3,fy4,fy5,fy6,fy7,fy8,fy9,mb,mc,md,n1,n2]
end
theorem Znv(s:List UInt8):Zc vp 801 [.str s]=some (.tup [.int .i64 (Yg s).1,.int .i64 (Yg s).2]):=by
 rcases s with _|⟨a,r⟩
 ·rw[Za YD];simp -implicitDefEqProofs [Zmk]
 by_cases h0:(a.toNat:Int)<128
 ·have z: ¬(r.length:Int)+1=0:=by omega
  have e:Yg (a::r)=((a.toNat:Int),1):=by
   match r with
   |[]=>rw[Us,if_pos h0]
   |[b]=>rw[VQ,if_pos h0]
   |[b,c]=>rw[XU,if_pos h0]
   |b::c::d::r=>rw[YO,if_pos h0]
  rw[Za YD];simp -implicitDefEqProofs [e,ZF,z,h0]
 have hcls: ¬194≤(a.toNat:Int)∨(194≤(a.toNat:Int)∧(a.toNat:Int)<224)∨(224≤(a.toNat:Int)∧(a.toNat:Int)<240)∨(240≤(a.toNat:Int)∧(a.toNat:Int)<245)∨245≤(a.toNat:Int):=by omega
 rcases r with _|⟨b,r⟩
 ·rcases hcls with h|⟨h,h'⟩|⟨h,h'⟩|⟨h,h'⟩|h
  ·exact ZCf h0 h
  ·exact ZCp h0 h h'
  ·exact ZBs h0 h h'
  ·exact ZCs h0 h h'
  ·exact ZB8 h0 h
 have dich: ∀v,ZL v=true∨ZL v=false:=fun v=>by cases ZL v<;>simp
 rcases hcls with h|⟨h,h'⟩|hD|hE|h
 ·rcases r with _|⟨c,_|⟨d,r⟩⟩
  ·exact ZBH h0 h
  ·exact ZCR h0 h
  ·exact ZCD h0 h
 ·rcases dich b with m|m
  ·exact ZBR h0 h h' m
  ·rcases r with _|⟨c,_|⟨d,r⟩⟩
   ·exact ZyP h0 h h' m
   ·exact ZvU h0 h h' m
   ·exact ZwM h0 h h' m
 ·obtain⟨h,h'⟩:=hD
  rcases r with _|⟨c,r⟩
  ·exact ZBO h0 h h'
  rcases dich b with mb|mb
  ·rcases dich c with mc|mc
   ·by_cases n1:2048≤4096*((a.toNat:Int)-224)+64*((b.toNat:Int)-128)+(c.toNat:Int)-128
    ·by_cases n2:4096*((a.toNat:Int)-224)+64*((b.toNat:Int)-128)+(c.toNat:Int)-128<55296
     ·exact ZBZ h0 h h' mb mc n1 n2
     ·by_cases n3:57343<4096*((a.toNat:Int)-224)+64*((b.toNat:Int)-128)+(c.toNat:Int)-128
      ·exact ZB2 h0 h h' mb mc n1 n2 n3
      ·rcases r with _|⟨d,r⟩
       ·exact Zvn h0 h h' mb mc n1 n2 n3
       ·exact ZxH h0 h h' mb mc n1 n2 n3
    ·rcases r with _|⟨d,r⟩
     ·exact Zy0 h0 h h' mb mc n1
     ·exact ZvC h0 h h' mb mc n1
   ·rcases r with _|⟨d,r⟩
    ·exact ZwY h0 h h' mb mc
    ·exact Zu1 h0 h h' mb mc
  ·rcases r with _|⟨d,r⟩
   ·exact Zu4 h0 h h' mb
   ·exact ZvI h0 h h' mb
 ·obtain⟨h,h'⟩:=hE
  rcases r with _|⟨c,_|⟨d,r⟩⟩
  ·exact ZBY h0 h h'
  ·exact ZCe h0 h h'
  ·rcases dich b with mb|mb
   ·rcases dich c with mc|mc
    ·rcases dich d with md|md
     ·by_cases n1:65536≤262144*((a.toNat:Int)-240)+4096*((b.toNat:Int)-128)+64*((c.toNat:Int)-128)+(d.toNat:Int)-128
      ·by_cases n2:262144*((a.toNat:Int)-240)+4096*((b.toNat:Int)-128)+64*((c.toNat:Int)-128)+(d.toNat:Int)-128≤1114111
       ·exact ZCA h0 h h' mb mc md n1 n2
       ·exact ZB5 h0 h h' mb mc md n1 n2
      ·exact ZCc h0 h h' mb mc md n1
     ·exact ZCI h0 h h' mb mc md
    ·exact ZCg h0 h h' mb mc
   ·exact ZBr h0 h h' mb
 ·rcases r with _|⟨c,_|⟨d,r⟩⟩
  ·exact ZBw h0 h
  ·exact ZCJ h0 h
  ·exact ZBQ h0 h
end Go.VE.Un
