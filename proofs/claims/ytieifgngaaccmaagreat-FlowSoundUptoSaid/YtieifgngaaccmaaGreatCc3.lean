/- Joined texts: CrB. No condition: what each theorem needs stands in it. -/
import Derived.Test.YtieifgngaaccmaaGreatCc2
namespace Go.VE.Un
open Go.VE
@[simp] theorem more808(c:UInt8):callRO vp 808 [byteV c]=some (.bool (moreB c)):=by
  rw[callRO_K fn808]
  by_cases h:128≤(c.toNat:Int)<;>simp -implicitDefEqProofs [byteV,h,moreB]
theorem byte_lt(c:UInt8):(c.toNat:Int)<256:=by have:=c.toNat_lt;omega
theorem wrapB(c:UInt8):IntKind.i64.wrap (c.toNat:Int)=c.toNat:=wrap64 (by omega) (by have:=byte_lt c;omega)
theorem conv_byte(c:UInt8):convV (.int .i64) (byteV c)=some (.int .i64 c.toNat):=by rw[byteV,conv_int,wrapB]
@[simp] theorem bv_below(k:Nat)(c:UInt8):belowB k (byteV c)=true:=nr rfl
def OKf(s:List UInt8):Prop:=callRO vp 801 [.str s]=some (.tup [.int .i64 (firstR s).1,.int .i64 (firstR s).2])
theorem firstR_0:firstR []=(65533,0):=rfl
theorem firstR_1(a:UInt8):firstR [a]=if(a.toNat:Int)<128 then((a.toNat:Int),1)else(65533,1):=rfl
theorem firstR_2(a b:UInt8):firstR [a,b]=if(a.toNat:Int)<128 then((a.toNat:Int),1)else if 194≤(a.toNat:Int)∧(a.toNat:Int)<224∧moreB b=true then(64*((a.toNat:Int)-192)+b.toNat-128,2)else(65533,1):=rfl
theorem firstR_3(a b c:UInt8):firstR [a,b,c]=if(a.toNat:Int)<128 then((a.toNat:Int),1)else if 194≤(a.toNat:Int)∧(a.toNat:Int)<224∧moreB b=true then(64*((a.toNat:Int)-192)+b.toNat-128,2)else if 224≤(a.toNat:Int)∧(a.toNat:Int)<240∧moreB b=true∧moreB c=true∧2048≤4096*((a.toNat:Int)-224)+64*((b.toNat:Int)-128)+(c.toNat:Int)-128∧(4096*((a.toNat:Int)-224)+64*((b.toNat:Int)-128)+(c.toNat:Int)-128<55296∨57343<4096*((a.toNat:Int)-224)+64*((b.toNat:Int)-128)+(c.toNat:Int)-128)then(4096*((a.toNat:Int)-224)+64*((b.toNat:Int)-128)+(c.toNat:Int)-128,3)else(65533,1):=rfl
theorem firstR_4(a b c d:UInt8)(r:List UInt8):firstR (a::b::c::d::r)=if(a.toNat:Int)<128 then((a.toNat:Int),1)else if 194≤(a.toNat:Int)∧(a.toNat:Int)<224∧moreB b=true then(64*((a.toNat:Int)-192)+b.toNat-128,2)else if 224≤(a.toNat:Int)∧(a.toNat:Int)<240∧moreB b=true∧moreB c=true∧2048≤4096*((a.toNat:Int)-224)+64*((b.toNat:Int)-128)+(c.toNat:Int)-128∧(4096*((a.toNat:Int)-224)+64*((b.toNat:Int)-128)+(c.toNat:Int)-128<55296∨57343<4096*((a.toNat:Int)-224)+64*((b.toNat:Int)-128)+(c.toNat:Int)-128)then(4096*((a.toNat:Int)-224)+64*((b.toNat:Int)-128)+(c.toNat:Int)-128,3)else if 240≤(a.toNat:Int)∧(a.toNat:Int)<245∧moreB b=true∧moreB c=true∧moreB d=true∧65536≤262144*((a.toNat:Int)-240)+4096*((b.toNat:Int)-128)+64*((c.toNat:Int)-128)+(d.toNat:Int)-128∧262144*((a.toNat:Int)-240)+4096*((b.toNat:Int)-128)+64*((c.toNat:Int)-128)+(d.toNat:Int)-128≤1114111 then(262144*((a.toNat:Int)-240)+4096*((b.toNat:Int)-128)+64*((c.toNat:Int)-128)+(d.toNat:Int)-128,4)else(65533,1):=rfl
theorem firstR_t2(a b:UInt8)(r:List UInt8)(h0: ¬(a.toNat:Int)<128)(h:194≤(a.toNat:Int)∧(a.toNat:Int)<224∧moreB b=true):firstR (a::b::r)=(64*((a.toNat:Int)-192)+b.toNat-128,2):=by
 match r with
 |[]=>rw[firstR_2,if_neg h0,if_pos h]
 |[c]=>rw[firstR_3,if_neg h0,if_pos h]
 |c::d::r=>rw[firstR_4,if_neg h0,if_pos h]
theorem firstR_t3(a b c:UInt8)(r:List UInt8)(h0: ¬(a.toNat:Int)<128)(h1: ¬(194≤(a.toNat:Int)∧(a.toNat:Int)<224∧moreB b=true))(h:224≤(a.toNat:Int)∧(a.toNat:Int)<240∧moreB b=true∧moreB c=true∧2048≤4096*((a.toNat:Int)-224)+64*((b.toNat:Int)-128)+(c.toNat:Int)-128∧(4096*((a.toNat:Int)-224)+64*((b.toNat:Int)-128)+(c.toNat:Int)-128<55296∨57343<4096*((a.toNat:Int)-224)+64*((b.toNat:Int)-128)+(c.toNat:Int)-128)):firstR (a::b::c::r)=(4096*((a.toNat:Int)-224)+64*((b.toNat:Int)-128)+(c.toNat:Int)-128,3):=by
 match r with
 |[]=>rw[firstR_3,if_neg h0,if_neg h1,if_pos h]
 |d::r=>rw[firstR_4,if_neg h0,if_neg h1,if_pos h]
set_option maxRecDepth 20000
theorem fw1(a:UInt8):IntKind.i64.wrap ((a.toNat:Int)-192)=(a.toNat:Int)-192:=by
 have:=byte_lt a
 exact wrap64 (by omega) (by omega)
theorem fw2(a:UInt8):IntKind.i64.wrap (64*((a.toNat:Int)-192))=64*((a.toNat:Int)-192):=by
 have:=byte_lt a
 exact wrap64 (by omega) (by omega)
theorem fw3(a b:UInt8):IntKind.i64.wrap (64*((a.toNat:Int)-192)+(b.toNat:Int))=64*((a.toNat:Int)-192)+(b.toNat:Int):=by
 have:=byte_lt a
 have:=byte_lt b
 exact wrap64 (by omega) (by omega)
theorem fw4(a b:UInt8):IntKind.i64.wrap (64*((a.toNat:Int)-192)+(b.toNat:Int)-128)=64*((a.toNat:Int)-192)+(b.toNat:Int)-128:=by
 have:=byte_lt a
 have:=byte_lt b
 exact wrap64 (by omega) (by omega)
theorem fx1(a:UInt8):IntKind.i64.wrap ((a.toNat:Int)-224)=(a.toNat:Int)-224:=by
 have:=byte_lt a
 exact wrap64 (by omega) (by omega)
theorem fx2(a:UInt8):IntKind.i64.wrap (4096*((a.toNat:Int)-224))=4096*((a.toNat:Int)-224):=by
 have:=byte_lt a
 exact wrap64 (by omega) (by omega)
theorem fx3(b:UInt8):IntKind.i64.wrap ((b.toNat:Int)-128)=(b.toNat:Int)-128:=by
 have:=byte_lt b
 exact wrap64 (by omega) (by omega)
theorem fx4(b:UInt8):IntKind.i64.wrap (64*((b.toNat:Int)-128))=64*((b.toNat:Int)-128):=by
 have:=byte_lt b
 exact wrap64 (by omega) (by omega)
theorem fx5(a b:UInt8):IntKind.i64.wrap (4096*((a.toNat:Int)-224)+64*((b.toNat:Int)-128))=4096*((a.toNat:Int)-224)+64*((b.toNat:Int)-128):=by
 have:=byte_lt a
 have:=byte_lt b
 exact wrap64 (by omega) (by omega)
theorem fx6(a b c:UInt8):IntKind.i64.wrap (4096*((a.toNat:Int)-224)+64*((b.toNat:Int)-128)+(c.toNat:Int))=4096*((a.toNat:Int)-224)+64*((b.toNat:Int)-128)+(c.toNat:Int):=by
 have:=byte_lt a
 have:=byte_lt b
 have:=byte_lt c
 exact wrap64 (by omega) (by omega)
theorem fx7(a b c:UInt8):IntKind.i64.wrap (4096*((a.toNat:Int)-224)+64*((b.toNat:Int)-128)+(c.toNat:Int)-128)=4096*((a.toNat:Int)-224)+64*((b.toNat:Int)-128)+(c.toNat:Int)-128:=by
 have:=byte_lt a
 have:=byte_lt b
 have:=byte_lt c
 exact wrap64 (by omega) (by omega)
theorem fy1(a:UInt8):IntKind.i64.wrap ((a.toNat:Int)-240)=(a.toNat:Int)-240:=by
 have:=byte_lt a
 exact wrap64 (by omega) (by omega)
theorem fy2(a:UInt8):IntKind.i64.wrap (262144*((a.toNat:Int)-240))=262144*((a.toNat:Int)-240):=by
 have:=byte_lt a
 exact wrap64 (by omega) (by omega)
theorem fy3(b:UInt8):IntKind.i64.wrap (4096*((b.toNat:Int)-128))=4096*((b.toNat:Int)-128):=by
 have:=byte_lt b
 exact wrap64 (by omega) (by omega)
theorem fy4(a b:UInt8):IntKind.i64.wrap (262144*((a.toNat:Int)-240)+4096*((b.toNat:Int)-128))=262144*((a.toNat:Int)-240)+4096*((b.toNat:Int)-128):=by
 have:=byte_lt a
 have:=byte_lt b
 exact wrap64 (by omega) (by omega)
theorem fy5(c:UInt8):IntKind.i64.wrap ((c.toNat:Int)-128)=(c.toNat:Int)-128:=by
 have:=byte_lt c
 exact wrap64 (by omega) (by omega)
theorem fy6(c:UInt8):IntKind.i64.wrap (64*((c.toNat:Int)-128))=64*((c.toNat:Int)-128):=by
 have:=byte_lt c
 exact wrap64 (by omega) (by omega)
theorem fy7(a b c:UInt8):IntKind.i64.wrap (262144*((a.toNat:Int)-240)+4096*((b.toNat:Int)-128)+64*((c.toNat:Int)-128))=262144*((a.toNat:Int)-240)+4096*((b.toNat:Int)-128)+64*((c.toNat:Int)-128):=by
 have:=byte_lt a
 have:=byte_lt b
 have:=byte_lt c
 exact wrap64 (by omega) (by omega)
theorem fy8(a b c d:UInt8):IntKind.i64.wrap (262144*((a.toNat:Int)-240)+4096*((b.toNat:Int)-128)+64*((c.toNat:Int)-128)+(d.toNat:Int))=262144*((a.toNat:Int)-240)+4096*((b.toNat:Int)-128)+64*((c.toNat:Int)-128)+(d.toNat:Int):=by
 have:=byte_lt a
 have:=byte_lt b
 have:=byte_lt c
 have:=byte_lt d
 exact wrap64 (by omega) (by omega)
theorem fy9(a b c d:UInt8):IntKind.i64.wrap (262144*((a.toNat:Int)-240)+4096*((b.toNat:Int)-128)+64*((c.toNat:Int)-128)+(d.toNat:Int)-128)=262144*((a.toNat:Int)-240)+4096*((b.toNat:Int)-128)+64*((c.toNat:Int)-128)+(d.toNat:Int)-128:=by
 have:=byte_lt a
 have:=byte_lt b
 have:=byte_lt c
 have:=byte_lt d
 exact wrap64 (by omega) (by omega)
theorem gI1(a b:UInt8)(r:List UInt8):getI (a::b::r) 1=some b:=getI_1 _
theorem gI2(a b c:UInt8)(r:List UInt8):getI (a::b::c::r) 2=some c:=getI_2 _
theorem gI3(a b c d:UInt8)(r:List UInt8):getI (a::b::c::d::r) 3=some d:=getI_3 _
section
variable {a b c d : UInt8} {r : List UInt8} (h0 : ¬ (a.toNat : Int) < 128)
include h0
theorem fiB1(h1: ¬194≤(a.toNat:Int)):OKf ([a]):=by
 have q0: ¬194≤(a.toNat:Int):=by omega
 have q1: ¬224≤(a.toNat:Int):=by omega
 have q2: ¬240≤(a.toNat:Int):=by omega
 rw[OKf,callRO_K fn801]
 simp -implicitDefEqProofs [firstR_1,conv_byte,h0,q0,q1,q2]
theorem fiC1(h1:194≤(a.toNat:Int))(h2:(a.toNat:Int)<224):OKf ([a]):=by
 have q0:194≤(a.toNat:Int):=by omega
 have q1:(a.toNat:Int)<224:=by omega
 have q2: ¬224≤(a.toNat:Int):=by omega
 have q3: ¬240≤(a.toNat:Int):=by omega
 rw[OKf,callRO_K fn801]
 simp -implicitDefEqProofs [firstR_1,conv_byte,h0,q0,q1,q2,q3]
theorem fiD1(h1:224≤(a.toNat:Int))(h2:(a.toNat:Int)<240):OKf ([a]):=by
 have q0:194≤(a.toNat:Int):=by omega
 have q1: ¬(a.toNat:Int)<224:=by omega
 have q2:224≤(a.toNat:Int):=by omega
 have q3:(a.toNat:Int)<240:=by omega
 have q4: ¬240≤(a.toNat:Int):=by omega
 rw[OKf,callRO_K fn801]
 simp -implicitDefEqProofs [firstR_1,conv_byte,h0,q0,q1,q2,q3,q4]
theorem fiE1(h1:240≤(a.toNat:Int))(h2:(a.toNat:Int)<245):OKf ([a]):=by
 have q0:194≤(a.toNat:Int):=by omega
 have q1: ¬(a.toNat:Int)<224:=by omega
 have q2:224≤(a.toNat:Int):=by omega
 have q3: ¬(a.toNat:Int)<240:=by omega
 have q4:240≤(a.toNat:Int):=by omega
 have q5:(a.toNat:Int)<245:=by omega
 rw[OKf,callRO_K fn801]
 simp -implicitDefEqProofs [firstR_1,conv_byte,h0,q0,q1,q2,q3,q4,q5]
theorem fiF1(h1:245≤(a.toNat:Int)):OKf ([a]):=by
 have q0:194≤(a.toNat:Int):=by omega
 have q1: ¬(a.toNat:Int)<224:=by omega
 have q2:224≤(a.toNat:Int):=by omega
 have q3: ¬(a.toNat:Int)<240:=by omega
 have q4:240≤(a.toNat:Int):=by omega
 have q5: ¬(a.toNat:Int)<245:=by omega
 rw[OKf,callRO_K fn801]
 simp -implicitDefEqProofs [firstR_1,conv_byte,h0,q0,q1,q2,q3,q4,q5]
theorem fiB2(h1: ¬194≤(a.toNat:Int)):OKf ([a,b]):=by
 have q0: ¬194≤(a.toNat:Int):=by omega
 have q1: ¬224≤(a.toNat:Int):=by omega
 have q2: ¬240≤(a.toNat:Int):=by omega
 rw[OKf,callRO_K fn801]
 simp -implicitDefEqProofs [firstR_2,conv_byte,h0,q0,q1,q2,gI1]
theorem fiD2(h1:224≤(a.toNat:Int))(h2:(a.toNat:Int)<240):OKf ([a,b]):=by
 have q0:194≤(a.toNat:Int):=by omega
 have q1: ¬(a.toNat:Int)<224:=by omega
 have q2:224≤(a.toNat:Int):=by omega
 have q3:(a.toNat:Int)<240:=by omega
 have q4: ¬240≤(a.toNat:Int):=by omega
 rw[OKf,callRO_K fn801]
 simp -implicitDefEqProofs [firstR_2,conv_byte,h0,q0,q1,q2,q3,q4,gI1,fx1,fx2,fx3,fx4,fx5]
theorem fiE2(h1:240≤(a.toNat:Int))(h2:(a.toNat:Int)<245):OKf ([a,b]):=by
 have q0:194≤(a.toNat:Int):=by omega
 have q1: ¬(a.toNat:Int)<224:=by omega
 have q2:224≤(a.toNat:Int):=by omega
 have q3: ¬(a.toNat:Int)<240:=by omega
 have q4:240≤(a.toNat:Int):=by omega
 have q5:(a.toNat:Int)<245:=by omega
 rw[OKf,callRO_K fn801]
 simp -implicitDefEqProofs [firstR_2,conv_byte,h0,q0,q1,q2,q3,q4,q5,gI1,fx1,fx2,fx3,fx4,fx5,fy1,fy2,fy3,fy4]
theorem fiF2(h1:245≤(a.toNat:Int)):OKf ([a,b]):=by
 have q0:194≤(a.toNat:Int):=by omega
 have q1: ¬(a.toNat:Int)<224:=by omega
 have q2:224≤(a.toNat:Int):=by omega
 have q3: ¬(a.toNat:Int)<240:=by omega
 have q4:240≤(a.toNat:Int):=by omega
 have q5: ¬(a.toNat:Int)<245:=by omega
 rw[OKf,callRO_K fn801]
 simp -implicitDefEqProofs [firstR_2,conv_byte,h0,q0,q1,q2,q3,q4,q5,gI1]
theorem fiB3(h1: ¬194≤(a.toNat:Int)):OKf ([a,b,c]):=by
 have q0: ¬194≤(a.toNat:Int):=by omega
 have q1: ¬224≤(a.toNat:Int):=by omega
 have q2: ¬240≤(a.toNat:Int):=by omega
 rw[OKf,callRO_K fn801]
 simp -implicitDefEqProofs [firstR_3,conv_byte,h0,q0,q1,q2,gI1,gI2]
theorem fiE3(h1:240≤(a.toNat:Int))(h2:(a.toNat:Int)<245):OKf ([a,b,c]):=by
 have q0:194≤(a.toNat:Int):=by omega
 have q1: ¬(a.toNat:Int)<224:=by omega
 have q2:224≤(a.toNat:Int):=by omega
 have q3: ¬(a.toNat:Int)<240:=by omega
 have q4:240≤(a.toNat:Int):=by omega
 have q5:(a.toNat:Int)<245:=by omega
 rw[OKf,callRO_K fn801]
 simp -implicitDefEqProofs [firstR_3,conv_byte,h0,q0,q1,q2,q3,q4,q5,gI1,gI2,fx1,fx2,fx3,fx4,fx5,fx6,fx7,fy1,fy2,fy3,fy4,fy5,fy6,fy7]
theorem fiF3(h1:245≤(a.toNat:Int)):OKf ([a,b,c]):=by
 have q0:194≤(a.toNat:Int):=by omega
 have q1: ¬(a.toNat:Int)<224:=by omega
 have q2:224≤(a.toNat:Int):=by omega
 have q3: ¬(a.toNat:Int)<240:=by omega
 have q4:240≤(a.toNat:Int):=by omega
 have q5: ¬(a.toNat:Int)<245:=by omega
 rw[OKf,callRO_K fn801]
 simp -implicitDefEqProofs [firstR_3,conv_byte,h0,q0,q1,q2,q3,q4,q5,gI1,gI2]
theorem fiB4(h1: ¬194≤(a.toNat:Int)):OKf (a::b::c::d::r):=by
 have q0: ¬194≤(a.toNat:Int):=by omega
 have q1: ¬224≤(a.toNat:Int):=by omega
 have q2: ¬240≤(a.toNat:Int):=by omega
 have z0: ¬(r.length:Int)+1+1+1+1=0:=by omega
 have z2:2≤(r.length:Int)+1+1+1+1:=by omega
 have z3:3≤(r.length:Int)+1+1+1+1:=by omega
 have z4:4≤(r.length:Int)+1+1+1+1:=by omega
 rw[OKf,callRO_K fn801]
 simp -implicitDefEqProofs [firstR_4,conv_byte,h0,q0,q1,q2,z0,z2,z3,z4,gI1,gI2,gI3]
theorem fiF4(h1:245≤(a.toNat:Int)):OKf (a::b::c::d::r):=by
 have q0:194≤(a.toNat:Int):=by omega
 have q1: ¬(a.toNat:Int)<224:=by omega
 have q2:224≤(a.toNat:Int):=by omega
 have q3: ¬(a.toNat:Int)<240:=by omega
 have q4:240≤(a.toNat:Int):=by omega
 have q5: ¬(a.toNat:Int)<245:=by omega
 have z0: ¬(r.length:Int)+1+1+1+1=0:=by omega
 have z2:2≤(r.length:Int)+1+1+1+1:=by omega
 have z3:3≤(r.length:Int)+1+1+1+1:=by omega
 have z4:4≤(r.length:Int)+1+1+1+1:=by omega
 rw[OKf,callRO_K fn801]
 simp -implicitDefEqProofs [firstR_4,conv_byte,h0,q0,q1,q2,q3,q4,q5,z0,z2,z3,z4,gI1,gI2,gI3]
theorem fiCt(h1:194≤(a.toNat:Int))(h2:(a.toNat:Int)<224)(mb:moreB b=true):OKf (a::b::r):=by
 have q0:194≤(a.toNat:Int):=by omega
 have q1:(a.toNat:Int)<224:=by omega
 have q2: ¬224≤(a.toNat:Int):=by omega
 have q3: ¬240≤(a.toNat:Int):=by omega
 have z0: ¬(r.length:Int)+1+1=0:=by omega
 have z2:2≤(r.length:Int)+1+1:=by omega
 rw[OKf,callRO_K fn801]
 simp -implicitDefEqProofs [firstR_t2 a b r h0 ⟨h1,h2,mb⟩,conv_byte,h0,q0,q1,q2,q3,z0,z2,gI1,fw1,fw2,fw3,fw4,mb]
theorem fiCf2(h1:194≤(a.toNat:Int))(h2:(a.toNat:Int)<224)(mb:moreB b=false):OKf ([a,b]):=by
 have q0:194≤(a.toNat:Int):=by omega
 have q1:(a.toNat:Int)<224:=by omega
 have q2: ¬224≤(a.toNat:Int):=by omega
 have q3: ¬240≤(a.toNat:Int):=by omega
 rw[OKf,callRO_K fn801]
 simp -implicitDefEqProofs [firstR_2,conv_byte,h0,q0,q1,q2,q3,gI1,fw1,fw2,fw3,fw4,mb]
theorem fiCf3(h1:194≤(a.toNat:Int))(h2:(a.toNat:Int)<224)(mb:moreB b=false):OKf ([a,b,c]):=by
 have q0:194≤(a.toNat:Int):=by omega
 have q1:(a.toNat:Int)<224:=by omega
 have q2: ¬224≤(a.toNat:Int):=by omega
 have q3: ¬240≤(a.toNat:Int):=by omega
 rw[OKf,callRO_K fn801]
 simp -implicitDefEqProofs [firstR_3,conv_byte,h0,q0,q1,q2,q3,gI1,gI2,fw1,fw2,fw3,fw4,mb]
theorem fiCf4(h1:194≤(a.toNat:Int))(h2:(a.toNat:Int)<224)(mb:moreB b=false):OKf (a::b::c::d::r):=by
 have q0:194≤(a.toNat:Int):=by omega
 have q1:(a.toNat:Int)<224:=by omega
 have q2: ¬224≤(a.toNat:Int):=by omega
 have q3: ¬240≤(a.toNat:Int):=by omega
 have z0: ¬(r.length:Int)+1+1+1+1=0:=by omega
 have z2:2≤(r.length:Int)+1+1+1+1:=by omega
 have z3:3≤(r.length:Int)+1+1+1+1:=by omega
 have z4:4≤(r.length:Int)+1+1+1+1:=by omega
 rw[OKf,callRO_K fn801]
 simp -implicitDefEqProofs [firstR_4,conv_byte,h0,q0,q1,q2,q3,z0,z2,z3,z4,gI1,gI2,gI3,fw1,fw2,fw3,fw4,mb]
theorem fiDf3(h1:224≤(a.toNat:Int))(h2:(a.toNat:Int)<240)(mb:moreB b=false):OKf ([a,b,c]):=by
 have q0:194≤(a.toNat:Int):=by omega
 have q1: ¬(a.toNat:Int)<224:=by omega
 have q2:224≤(a.toNat:Int):=by omega
 have q3:(a.toNat:Int)<240:=by omega
 have q4: ¬240≤(a.toNat:Int):=by omega
 rw[OKf,callRO_K fn801]
 simp -implicitDefEqProofs [firstR_3,conv_byte,h0,q0,q1,q2,q3,q4,gI1,gI2,fx1,fx2,fx3,fx4,fx5,fx6,fx7,mb]
theorem fiDg3(h1:224≤(a.toNat:Int))(h2:(a.toNat:Int)<240)(mb:moreB b=true)(mc:moreB c=false):OKf ([a,b,c]):=by
 have q0:194≤(a.toNat:Int):=by omega
 have q1: ¬(a.toNat:Int)<224:=by omega
 have q2:224≤(a.toNat:Int):=by omega
 have q3:(a.toNat:Int)<240:=by omega
 have q4: ¬240≤(a.toNat:Int):=by omega
 rw[OKf,callRO_K fn801]
 simp -implicitDefEqProofs [firstR_3,conv_byte,h0,q0,q1,q2,q3,q4,gI1,gI2,fx1,fx2,fx3,fx4,fx5,fx6,fx7,mb,mc]
theorem fiDl3(h1:224≤(a.toNat:Int))(h2:(a.toNat:Int)<240)(mb:moreB b=true)(mc:moreB c=true)(n1: ¬2048≤4096*((a.toNat:Int)-224)+64*((b.toNat:Int)-128)+(c.toNat:Int)-128):OKf ([a,b,c]):=by
 have q0:194≤(a.toNat:Int):=by omega
 have q1: ¬(a.toNat:Int)<224:=by omega
 have q2:224≤(a.toNat:Int):=by omega
 have q3:(a.toNat:Int)<240:=by omega
 have q4: ¬240≤(a.toNat:Int):=by omega
 rw[OKf,callRO_K fn801]
 simp -implicitDefEqProofs [firstR_3,conv_byte,h0,q0,q1,q2,q3,q4,gI1,gI2,fx1,fx2,fx3,fx4,fx5,fx6,fx7,mb,mc,n1]
theorem fiDm3(h1:224≤(a.toNat:Int))(h2:(a.toNat:Int)<240)(mb:moreB b=true)(mc:moreB c=true)(n1:2048≤4096*((a.toNat:Int)-224)+64*((b.toNat:Int)-128)+(c.toNat:Int)-128)(n2: ¬4096*((a.toNat:Int)-224)+64*((b.toNat:Int)-128)+(c.toNat:Int)-128<55296)(n3: ¬57343<4096*((a.toNat:Int)-224)+64*((b.toNat:Int)-128)+(c.toNat:Int)-128):OKf ([a,b,c]):=by
 have q0:194≤(a.toNat:Int):=by omega
 have q1: ¬(a.toNat:Int)<224:=by omega
 have q2:224≤(a.toNat:Int):=by omega
 have q3:(a.toNat:Int)<240:=by omega
 have q4: ¬240≤(a.toNat:Int):=by omega
 rw[OKf,callRO_K fn801]
 simp -implicitDefEqProofs [firstR_3,conv_byte,h0,q0,q1,q2,q3,q4,gI1,gI2,fx1,fx2,fx3,fx4,fx5,fx6,fx7,mb,mc,n1,n2,n3]
theorem fiDf4(h1:224≤(a.toNat:Int))(h2:(a.toNat:Int)<240)(mb:moreB b=false):OKf (a::b::c::d::r):=by
 have q0:194≤(a.toNat:Int):=by omega
 have q1: ¬(a.toNat:Int)<224:=by omega
 have q2:224≤(a.toNat:Int):=by omega
 have q3:(a.toNat:Int)<240:=by omega
 have q4: ¬240≤(a.toNat:Int):=by omega
 have z0: ¬(r.length:Int)+1+1+1+1=0:=by omega
 have z2:2≤(r.length:Int)+1+1+1+1:=by omega
 have z3:3≤(r.length:Int)+1+1+1+1:=by omega
 have z4:4≤(r.length:Int)+1+1+1+1:=by omega
 rw[OKf,callRO_K fn801]
 simp -implicitDefEqProofs [firstR_4,conv_byte,h0,q0,q1,q2,q3,q4,z0,z2,z3,z4,gI1,gI2,gI3,fx1,fx2,fx3,fx4,fx5,fx6,fx7,mb]
theorem fiDg4(h1:224≤(a.toNat:Int))(h2:(a.toNat:Int)<240)(mb:moreB b=true)(mc:moreB c=false):OKf (a::b::c::d::r):=by
 have q0:194≤(a.toNat:Int):=by omega
 have q1: ¬(a.toNat:Int)<224:=by omega
 have q2:224≤(a.toNat:Int):=by omega
 have q3:(a.toNat:Int)<240:=by omega
 have q4: ¬240≤(a.toNat:Int):=by omega
 have z0: ¬(r.length:Int)+1+1+1+1=0:=by omega
 have z2:2≤(r.length:Int)+1+1+1+1:=by omega
 have z3:3≤(r.length:Int)+1+1+1+1:=by omega
 have z4:4≤(r.length:Int)+1+1+1+1:=by omega
 rw[OKf,callRO_K fn801]
 simp -implicitDefEqProofs [firstR_4,conv_byte,h0,q0,q1,q2,q3,q4,z0,z2,z3,z4,gI1,gI2,gI3,fx1,fx2,fx3,fx4,fx5,fx6,fx7,mb,mc]
theorem fiDl4(h1:224≤(a.toNat:Int))(h2:(a.toNat:Int)<240)(mb:moreB b=true)(mc:moreB c=true)(n1: ¬2048≤4096*((a.toNat:Int)-224)+64*((b.toNat:Int)-128)+(c.toNat:Int)-128):OKf (a::b::c::d::r):=by
 have q0:194≤(a.toNat:Int):=by omega
 have q1: ¬(a.toNat:Int)<224:=by omega
 have q2:224≤(a.toNat:Int):=by omega
 have q3:(a.toNat:Int)<240:=by omega
 have q4: ¬240≤(a.toNat:Int):=by omega
 have z0: ¬(r.length:Int)+1+1+1+1=0:=by omega
 have z2:2≤(r.length:Int)+1+1+1+1:=by omega
 have z3:3≤(r.length:Int)+1+1+1+1:=by omega
 have z4:4≤(r.length:Int)+1+1+1+1:=by omega
 rw[OKf,callRO_K fn801]
 simp -implicitDefEqProofs [firstR_4,conv_byte,h0,q0,q1,q2,q3,q4,z0,z2,z3,z4,gI1,gI2,gI3,fx1,fx2,fx3,fx4,fx5,fx6,fx7,mb,mc,n1]
theorem fiDm4(h1:224≤(a.toNat:Int))(h2:(a.toNat:Int)<240)(mb:moreB b=true)(mc:moreB c=true)(n1:2048≤4096*((a.toNat:Int)-224)+64*((b.toNat:Int)-128)+(c.toNat:Int)-128)(n2: ¬4096*((a.toNat:Int)-224)+64*((b.toNat:Int)-128)+(c.toNat:Int)-128<55296)(n3: ¬57343<4096*((a.toNat:Int)-224)+64*((b.toNat:Int)-128)+(c.toNat:Int)-128):OKf (a::b::c::d::r):=by
 have q0:194≤(a.toNat:Int):=by omega
 have q1: ¬(a.toNat:Int)<224:=by omega
 have q2:224≤(a.toNat:Int):=by omega
 have q3:(a.toNat:Int)<240:=by omega
 have q4: ¬240≤(a.toNat:Int):=by omega
 have z0: ¬(r.length:Int)+1+1+1+1=0:=by omega
 have z2:2≤(r.length:Int)+1+1+1+1:=by omega
 have z3:3≤(r.length:Int)+1+1+1+1:=by omega
 have z4:4≤(r.length:Int)+1+1+1+1:=by omega
 rw[OKf,callRO_K fn801]
 simp -implicitDefEqProofs [firstR_4,conv_byte,h0,q0,q1,q2,q3,q4,z0,z2,z3,z4,gI1,gI2,gI3,fx1,fx2,fx3,fx4,fx5,fx6,fx7,mb,mc,n1,n2,n3]
theorem fiDs(h1:224≤(a.toNat:Int))(h2:(a.toNat:Int)<240)(mb:moreB b=true)(mc:moreB c=true)(n1:2048≤4096*((a.toNat:Int)-224)+64*((b.toNat:Int)-128)+(c.toNat:Int)-128)(n2:4096*((a.toNat:Int)-224)+64*((b.toNat:Int)-128)+(c.toNat:Int)-128<55296):OKf (a::b::c::r):=by
 have q0:194≤(a.toNat:Int):=by omega
 have q1: ¬(a.toNat:Int)<224:=by omega
 have q2:224≤(a.toNat:Int):=by omega
 have q3:(a.toNat:Int)<240:=by omega
 have q4: ¬240≤(a.toNat:Int):=by omega
 have z0: ¬(r.length:Int)+1+1+1=0:=by omega
 have z2:2≤(r.length:Int)+1+1+1:=by omega
 have z3:3≤(r.length:Int)+1+1+1:=by omega
 rw[OKf,callRO_K fn801]
 simp -implicitDefEqProofs [firstR_t3 a b c r h0 (by omega) ⟨h1,h2,mb,mc,n1,.inl n2⟩,conv_byte,h0,q0,q1,q2,q3,q4,z0,z2,z3,gI1,gI2,fx1,fx2,fx3,fx4,fx5,fx6,fx7,mb,mc,n1,n2]
theorem fiDu(h1:224≤(a.toNat:Int))(h2:(a.toNat:Int)<240)(mb:moreB b=true)(mc:moreB c=true)(n1:2048≤4096*((a.toNat:Int)-224)+64*((b.toNat:Int)-128)+(c.toNat:Int)-128)(n2: ¬4096*((a.toNat:Int)-224)+64*((b.toNat:Int)-128)+(c.toNat:Int)-128<55296)(n3:57343<4096*((a.toNat:Int)-224)+64*((b.toNat:Int)-128)+(c.toNat:Int)-128):OKf (a::b::c::r):=by
 have q0:194≤(a.toNat:Int):=by omega
 have q1: ¬(a.toNat:Int)<224:=by omega
 have q2:224≤(a.toNat:Int):=by omega
 have q3:(a.toNat:Int)<240:=by omega
 have q4: ¬240≤(a.toNat:Int):=by omega
 have z0: ¬(r.length:Int)+1+1+1=0:=by omega
 have z2:2≤(r.length:Int)+1+1+1:=by omega
 have z3:3≤(r.length:Int)+1+1+1:=by omega
 rw[OKf,callRO_K fn801]
 simp -implicitDefEqProofs [firstR_t3 a b c r h0 (by omega) ⟨h1,h2,mb,mc,n1,.inr n3⟩,conv_byte,h0,q0,q1,q2,q3,q4,z0,z2,z3,gI1,gI2,fx1,fx2,fx3,fx4,fx5,fx6,fx7,mb,mc,n1,n2,n3]
theorem fiEb(h1:240≤(a.toNat:Int))(h2:(a.toNat:Int)<245)(mb:moreB b=false):OKf (a::b::c::d::r):=by
 have q0:194≤(a.toNat:Int):=by omega
 have q1: ¬(a.toNat:Int)<224:=by omega
 have q2:224≤(a.toNat:Int):=by omega
 have q3: ¬(a.toNat:Int)<240:=by omega
 have q4:240≤(a.toNat:Int):=by omega
 have q5:(a.toNat:Int)<245:=by omega
 have z0: ¬(r.length:Int)+1+1+1+1=0:=by omega
 have z2:2≤(r.length:Int)+1+1+1+1:=by omega
 have z3:3≤(r.length:Int)+1+1+1+1:=by omega
 have z4:4≤(r.length:Int)+1+1+1+1:=by omega
 rw[OKf,callRO_K fn801]
 simp -implicitDefEqProofs [firstR_4,conv_byte,h0,q0,q1,q2,q3,q4,q5,z0,z2,z3,z4,gI1,gI2,gI3,fx1,fx2,fx3,fx4,fx5,fx6,fx7,fy1,fy2,fy3,fy4,fy5,fy6,fy7,fy8,fy9,mb]
theorem fiEc(h1:240≤(a.toNat:Int))(h2:(a.toNat:Int)<245)(mb:moreB b=true)(mc:moreB c=false):OKf (a::b::c::d::r):=by
 have q0:194≤(a.toNat:Int):=by omega
 have q1: ¬(a.toNat:Int)<224:=by omega
 have q2:224≤(a.toNat:Int):=by omega
 have q3: ¬(a.toNat:Int)<240:=by omega
 have q4:240≤(a.toNat:Int):=by omega
 have q5:(a.toNat:Int)<245:=by omega
 have z0: ¬(r.length:Int)+1+1+1+1=0:=by omega
 have z2:2≤(r.length:Int)+1+1+1+1:=by omega
 have z3:3≤(r.length:Int)+1+1+1+1:=by omega
 have z4:4≤(r.length:Int)+1+1+1+1:=by omega
 rw[OKf,callRO_K fn801]
 simp -implicitDefEqProofs [firstR_4,conv_byte,h0,q0,q1,q2,q3,q4,q5,z0,z2,z3,z4,gI1,gI2,gI3,fx1,fx2,fx3,fx4,fx5,fx6,fx7,fy1,fy2,fy3,fy4,fy5,fy6,fy7,fy8,fy9,mb,mc]
theorem fiEd(h1:240≤(a.toNat:Int))(h2:(a.toNat:Int)<245)(mb:moreB b=true)(mc:moreB c=true)(md:moreB d=false):OKf (a::b::c::d::r):=by
 have q0:194≤(a.toNat:Int):=by omega
 have q1: ¬(a.toNat:Int)<224:=by omega
 have q2:224≤(a.toNat:Int):=by omega
 have q3: ¬(a.toNat:Int)<240:=by omega
 have q4:240≤(a.toNat:Int):=by omega
 have q5:(a.toNat:Int)<245:=by omega
 have z0: ¬(r.length:Int)+1+1+1+1=0:=by omega
 have z2:2≤(r.length:Int)+1+1+1+1:=by omega
 have z3:3≤(r.length:Int)+1+1+1+1:=by omega
 have z4:4≤(r.length:Int)+1+1+1+1:=by omega
 rw[OKf,callRO_K fn801]
 simp -implicitDefEqProofs [firstR_4,conv_byte,h0,q0,q1,q2,q3,q4,q5,z0,z2,z3,z4,gI1,gI2,gI3,fx1,fx2,fx3,fx4,fx5,fx6,fx7,fy1,fy2,fy3,fy4,fy5,fy6,fy7,fy8,fy9,mb,mc,md]
theorem fiEl(h1:240≤(a.toNat:Int))(h2:(a.toNat:Int)<245)(mb:moreB b=true)(mc:moreB c=true)(md:moreB d=true)(n1: ¬65536≤262144*((a.toNat:Int)-240)+4096*((b.toNat:Int)-128)+64*((c.toNat:Int)-128)+(d.toNat:Int)-128):OKf (a::b::c::d::r):=by
 have q0:194≤(a.toNat:Int):=by omega
 have q1: ¬(a.toNat:Int)<224:=by omega
 have q2:224≤(a.toNat:Int):=by omega
 have q3: ¬(a.toNat:Int)<240:=by omega
 have q4:240≤(a.toNat:Int):=by omega
 have q5:(a.toNat:Int)<245:=by omega
 have z0: ¬(r.length:Int)+1+1+1+1=0:=by omega
 have z2:2≤(r.length:Int)+1+1+1+1:=by omega
 have z3:3≤(r.length:Int)+1+1+1+1:=by omega
 have z4:4≤(r.length:Int)+1+1+1+1:=by omega
 rw[OKf,callRO_K fn801]
 simp -implicitDefEqProofs [firstR_4,conv_byte,h0,q0,q1,q2,q3,q4,q5,z0,z2,z3,z4,gI1,gI2,gI3,fx1,fx2,fx3,fx4,fx5,fx6,fx7,fy1,fy2,fy3,fy4,fy5,fy6,fy7,fy8,fy9,mb,mc,md,n1]
theorem fiEm(h1:240≤(a.toNat:Int))(h2:(a.toNat:Int)<245)(mb:moreB b=true)(mc:moreB c=true)(md:moreB d=true)(n1:65536≤262144*((a.toNat:Int)-240)+4096*((b.toNat:Int)-128)+64*((c.toNat:Int)-128)+(d.toNat:Int)-128)(n2: ¬262144*((a.toNat:Int)-240)+4096*((b.toNat:Int)-128)+64*((c.toNat:Int)-128)+(d.toNat:Int)-128≤1114111):OKf (a::b::c::d::r):=by
 have q0:194≤(a.toNat:Int):=by omega
 have q1: ¬(a.toNat:Int)<224:=by omega
 have q2:224≤(a.toNat:Int):=by omega
 have q3: ¬(a.toNat:Int)<240:=by omega
 have q4:240≤(a.toNat:Int):=by omega
 have q5:(a.toNat:Int)<245:=by omega
 have z0: ¬(r.length:Int)+1+1+1+1=0:=by omega
 have z2:2≤(r.length:Int)+1+1+1+1:=by omega
 have z3:3≤(r.length:Int)+1+1+1+1:=by omega
 have z4:4≤(r.length:Int)+1+1+1+1:=by omega
 rw[OKf,callRO_K fn801]
 simp -implicitDefEqProofs [firstR_4,conv_byte,h0,q0,q1,q2,q3,q4,q5,z0,z2,z3,z4,gI1,gI2,gI3,fx1,fx2,fx3,fx4,fx5,fx6,fx7,fy1,fy2,fy3,fy4,fy5,fy6,fy7,fy8,fy9,mb,mc,md,n1,n2]
theorem fiEs(h1:240≤(a.toNat:Int))(h2:(a.toNat:Int)<245)(mb:moreB b=true)(mc:moreB c=true)(md:moreB d=true)(n1:65536≤262144*((a.toNat:Int)-240)+4096*((b.toNat:Int)-128)+64*((c.toNat:Int)-128)+(d.toNat:Int)-128)(n2:262144*((a.toNat:Int)-240)+4096*((b.toNat:Int)-128)+64*((c.toNat:Int)-128)+(d.toNat:Int)-128≤1114111):OKf (a::b::c::d::r):=by
 have q0:194≤(a.toNat:Int):=by omega
 have q1: ¬(a.toNat:Int)<224:=by omega
 have q2:224≤(a.toNat:Int):=by omega
 have q3: ¬(a.toNat:Int)<240:=by omega
 have q4:240≤(a.toNat:Int):=by omega
 have q5:(a.toNat:Int)<245:=by omega
 have z0: ¬(r.length:Int)+1+1+1+1=0:=by omega
 have z2:2≤(r.length:Int)+1+1+1+1:=by omega
 have z3:3≤(r.length:Int)+1+1+1+1:=by omega
 have z4:4≤(r.length:Int)+1+1+1+1:=by omega
 rw[OKf,callRO_K fn801]
 simp -implicitDefEqProofs [firstR_4,conv_byte,h0,q0,q1,q2,q3,q4,q5,z0,z2,z3,z4,gI1,gI2,gI3,fx1,fx2,fx3,fx4,fx5,fx6,fx7,fy1,fy2,fy3,fy4,fy5,fy6,fy7,fy8,fy9,mb,mc,md,n1,n2]
end
theorem first801(s:List UInt8):callRO vp 801 [.str s]=some (.tup [.int .i64 (firstR s).1,.int .i64 (firstR s).2]):=by
 rcases s with _|⟨a,r⟩
 ·rw[callRO_K fn801];simp -implicitDefEqProofs [firstR_0]
 by_cases h0:(a.toNat:Int)<128
 ·have z: ¬(r.length:Int)+1=0:=by omega
  have e:firstR (a::r)=((a.toNat:Int),1):=by
   match r with
   |[]=>rw[firstR_1,if_pos h0]
   |[b]=>rw[firstR_2,if_pos h0]
   |[b,c]=>rw[firstR_3,if_pos h0]
   |b::c::d::r=>rw[firstR_4,if_pos h0]
  rw[callRO_K fn801];simp -implicitDefEqProofs [e,conv_byte,z,h0]
 have hcls: ¬194≤(a.toNat:Int)∨(194≤(a.toNat:Int)∧(a.toNat:Int)<224)∨(224≤(a.toNat:Int)∧(a.toNat:Int)<240)∨(240≤(a.toNat:Int)∧(a.toNat:Int)<245)∨245≤(a.toNat:Int):=by omega
 rcases r with _|⟨b,r⟩
 ·rcases hcls with h|⟨h,h'⟩|⟨h,h'⟩|⟨h,h'⟩|h
  ·exact fiB1 h0 h
  ·exact fiC1 h0 h h'
  ·exact fiD1 h0 h h'
  ·exact fiE1 h0 h h'
  ·exact fiF1 h0 h
 have dich: ∀v,moreB v=true∨moreB v=false:=fun v=>by cases moreB v<;>simp
 rcases hcls with h|⟨h,h'⟩|hD|hE|h
 ·rcases r with _|⟨c,_|⟨d,r⟩⟩
  ·exact fiB2 h0 h
  ·exact fiB3 h0 h
  ·exact fiB4 h0 h
 ·rcases dich b with m|m
  ·exact fiCt h0 h h' m
  ·rcases r with _|⟨c,_|⟨d,r⟩⟩
   ·exact fiCf2 h0 h h' m
   ·exact fiCf3 h0 h h' m
   ·exact fiCf4 h0 h h' m
 ·obtain⟨h,h'⟩:=hD
  rcases r with _|⟨c,r⟩
  ·exact fiD2 h0 h h'
  rcases dich b with mb|mb
  ·rcases dich c with mc|mc
   ·by_cases n1:2048≤4096*((a.toNat:Int)-224)+64*((b.toNat:Int)-128)+(c.toNat:Int)-128
    ·by_cases n2:4096*((a.toNat:Int)-224)+64*((b.toNat:Int)-128)+(c.toNat:Int)-128<55296
     ·exact fiDs h0 h h' mb mc n1 n2
     ·by_cases n3:57343<4096*((a.toNat:Int)-224)+64*((b.toNat:Int)-128)+(c.toNat:Int)-128
      ·exact fiDu h0 h h' mb mc n1 n2 n3
      ·rcases r with _|⟨d,r⟩
       ·exact fiDm3 h0 h h' mb mc n1 n2 n3
       ·exact fiDm4 h0 h h' mb mc n1 n2 n3
    ·rcases r with _|⟨d,r⟩
     ·exact fiDl3 h0 h h' mb mc n1
     ·exact fiDl4 h0 h h' mb mc n1
   ·rcases r with _|⟨d,r⟩
    ·exact fiDg3 h0 h h' mb mc
    ·exact fiDg4 h0 h h' mb mc
  ·rcases r with _|⟨d,r⟩
   ·exact fiDf3 h0 h h' mb
   ·exact fiDf4 h0 h h' mb
 ·obtain⟨h,h'⟩:=hE
  rcases r with _|⟨c,_|⟨d,r⟩⟩
  ·exact fiE2 h0 h h'
  ·exact fiE3 h0 h h'
  ·rcases dich b with mb|mb
   ·rcases dich c with mc|mc
    ·rcases dich d with md|md
     ·by_cases n1:65536≤262144*((a.toNat:Int)-240)+4096*((b.toNat:Int)-128)+64*((c.toNat:Int)-128)+(d.toNat:Int)-128
      ·by_cases n2:262144*((a.toNat:Int)-240)+4096*((b.toNat:Int)-128)+64*((c.toNat:Int)-128)+(d.toNat:Int)-128≤1114111
       ·exact fiEs h0 h h' mb mc md n1 n2
       ·exact fiEm h0 h h' mb mc md n1 n2
      ·exact fiEl h0 h h' mb mc md n1
     ·exact fiEd h0 h h' mb mc md
    ·exact fiEc h0 h h' mb mc
   ·exact fiEb h0 h h' mb
 ·rcases r with _|⟨c,_|⟨d,r⟩⟩
  ·exact fiF2 h0 h
  ·exact fiF3 h0 h
  ·exact fiF4 h0 h
end Go.VE.Un
