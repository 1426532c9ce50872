/- Joined texts: CrA. No condition: what each theorem needs stands in it. -/
import Derived.Test.YtlekfkibeafdiaaGreatCc1
namespace Go.VE
theorem Zt0{α:Type}(l:List α):Zh l 1=l[1]? :=by simp[Zh]
theorem ZtO{α:Type}(l:List α):Zh l 2=l[2]? :=by simp[Zh]
theorem ZrS{α:Type}(l:List α):Zh l 3=l[3]? :=by simp[Zh]
def ZL(c:UInt8):Bool:=decide (128≤(c.toNat:Int))&&decide ((c.toNat:Int)<192)
def Yg(s:List UInt8):Int ×Int:=
 match s with
 |[]=>(65533,0)
 |a::r=>
  if(a.toNat:Int)<128 then(a.toNat,1)else
  match r with
  |[]=>(65533,1)
  |b::r=>
   if 194≤(a.toNat:Int)∧(a.toNat:Int)<224∧ZL b=true then(64*((a.toNat:Int)-192)+b.toNat-128,2)else
   match r with
   |[]=>(65533,1)
   |c::r=>
    if 224≤(a.toNat:Int)∧(a.toNat:Int)<240∧ZL b=true∧ZL c=true∧2048≤4096*((a.toNat:Int)-224)+64*((b.toNat:Int)-128)+c.toNat-128∧
     (4096*((a.toNat:Int)-224)+64*((b.toNat:Int)-128)+c.toNat-128<55296∨57343<4096*((a.toNat:Int)-224)+64*((b.toNat:Int)-128)+c.toNat-128)then
     (4096*((a.toNat:Int)-224)+64*((b.toNat:Int)-128)+c.toNat-128,3)else
    match r with
    |[]=>(65533,1)
    |d::r=>
     if 240≤(a.toNat:Int)∧(a.toNat:Int)<245∧ZL b=true∧ZL c=true∧ZL d=true∧65536≤262144*((a.toNat:Int)-240)+4096*((b.toNat:Int)-128)+64*((c.toNat:Int)-128)+d.toNat-128∧
      262144*((a.toNat:Int)-240)+4096*((b.toNat:Int)-128)+64*((c.toNat:Int)-128)+d.toNat-128≤1114111 then
      (262144*((a.toNat:Int)-240)+4096*((b.toNat:Int)-128)+64*((c.toNat:Int)-128)+d.toNat-128,4)else(65533,1)
set_option maxRecDepth 20000 in
theorem UK(s:List UInt8)(h:s≠[]):((ZU s 0).1:Int)=(Yg s).1∧((ZU s 0).2:Int)=(Yg s).2:=by
 have hg: ∀(l:List UInt8) (k:Nat) (x:UInt8),l[k]? =some x→(⟨l.toArray⟩:ByteArray).get! k=x:=fun l k x e=>by
  show l.toArray[k]! =x
  simp[e]
 have hs: ∀(l:List UInt8),(⟨l.toArray⟩:ByteArray).size=l.length:=fun l=>by simp[ByteArray.size]
 rcases s with _|⟨a,_|⟨b,_|⟨c,_|⟨d,r⟩⟩⟩⟩
 ·exact absurd rfl h
 ·have h0:=hg [a] 0 a rfl
  have ha:=a.toNat_lt
  have e1:((⟨[a].toArray⟩:ByteArray).size)=1:=rfl
  have e2:Yg [a]=if(a.toNat:Int)<128 then((a.toNat:Int),1)else(65533,1):=rfl
  have e3:ZU [a] 0=if a.toNat<128 then(a.toNat,1)else(65533,1):=by
   unfold ZU Utf8.decode
   simp only[Nat.zero_add,h0,e1,Nat.lt_irrefl,show¬2<1 by omega,show¬3<1 by omega,decide_false,Bool.false_and,Bool.and_false,Bool.false_eq_true,if_false]
   rfl
  rw[e2,e3]
  by_cases k:a.toNat<128
  ·rw[if_pos k,if_pos (by omega)];exact⟨rfl,rfl⟩
  ·rw[if_neg k,if_neg (by omega)];exact⟨rfl,rfl⟩
 ·have h0:=hg [a,b] 0 a rfl
  have h1:=hg [a,b] 1 b rfl
  have ha:=a.toNat_lt
  have hb:=b.toNat_lt
  have e1:((⟨[a,b].toArray⟩:ByteArray).size)=2:=rfl
  have e2:Yg [a,b]=if(a.toNat:Int)<128 then((a.toNat:Int),1)else if 194≤(a.toNat:Int)∧(a.toNat:Int)<224∧ZL b=true then(64*((a.toNat:Int)-192)+b.toNat-128,2)else(65533,1):=rfl
  have e3:ZU [a,b] 0=if a.toNat<128 then(a.toNat,1)else if(a.toNat/32==6&&b.toNat/64==2)=true then(if(a.toNat%32)*64+b.toNat%64≥128 then((a.toNat%32)*64+b.toNat%64,2)else(65533,1))else(65533,1):=by
   unfold ZU Utf8.decode
   simp only[Nat.zero_add,h0,h1,e1,Nat.lt_irrefl,show 1<2 by omega,show¬3<2 by omega,decide_true,decide_false,Bool.true_and,Bool.false_and,Bool.and_false,Bool.false_eq_true,if_false]
   rfl
  rw[e2,e3]
  simp only[ZL,Bool.and_eq_true,decide_eq_true_eq,beq_iff_eq]
  repeat' split
  all_goals (dsimp only;omega)
 ·have h0:=hg [a,b,c] 0 a rfl
  have h1:=hg [a,b,c] 1 b rfl
  have h2:=hg [a,b,c] 2 c rfl
  have ha:=a.toNat_lt
  have hb:=b.toNat_lt
  have hc:=c.toNat_lt
  have e1:((⟨[a,b,c].toArray⟩:ByteArray).size)=3:=rfl
  have e2:Yg [a,b,c]=if(a.toNat:Int)<128 then((a.toNat:Int),1)else if 194≤(a.toNat:Int)∧(a.toNat:Int)<224∧ZL b=true then(64*((a.toNat:Int)-192)+b.toNat-128,2)else if 224≤(a.toNat:Int)∧(a.toNat:Int)<240∧ZL b=true∧ZL c=true∧2048≤4096*((a.toNat:Int)-224)+64*((b.toNat:Int)-128)+c.toNat-128∧(4096*((a.toNat:Int)-224)+64*((b.toNat:Int)-128)+c.toNat-128<55296∨57343<4096*((a.toNat:Int)-224)+64*((b.toNat:Int)-128)+c.toNat-128)then(4096*((a.toNat:Int)-224)+64*((b.toNat:Int)-128)+c.toNat-128,3)else(65533,1):=rfl
  have e3:ZU [a,b,c] 0=if a.toNat<128 then(a.toNat,1)else if(a.toNat/32==6&&b.toNat/64==2)=true then(if(a.toNat%32)*64+b.toNat%64≥128 then((a.toNat%32)*64+b.toNat%64,2)else(65533,1))else if(a.toNat/16==14&&b.toNat/64==2&&c.toNat/64==2)=true then(if(a.toNat%16)*4096+(b.toNat%64)*64+c.toNat%64≥2048∧((decide (0≤(((a.toNat%16)*4096+(b.toNat%64)*64+c.toNat%64:Nat):Int))&&decide ((((a.toNat%16)*4096+(b.toNat%64)*64+c.toNat%64:Nat):Int)<55296))||(decide (57344≤(((a.toNat%16)*4096+(b.toNat%64)*64+c.toNat%64:Nat):Int))&&decide ((((a.toNat%16)*4096+(b.toNat%64)*64+c.toNat%64:Nat):Int)≤1114111)))=true then((a.toNat%16)*4096+(b.toNat%64)*64+c.toNat%64,3)else(65533,1))else(65533,1):=by
   unfold ZU Utf8.decode
   simp only[Nat.zero_add,h0,h1,h2,e1,Nat.lt_irrefl,show 1<3 by omega,show 2<3 by omega,decide_true,decide_false,Bool.true_and,Bool.false_and,Bool.and_false,Bool.false_eq_true,if_false,Bool.and_eq_true,decide_eq_true_eq,Utf8.valid,Utf8.runeError]
   try rfl
  rw[e2,e3]
  simp only[ZL,Bool.and_eq_true,Bool.or_eq_true,decide_eq_true_eq,beq_iff_eq]
  repeat' split
  all_goals (dsimp only;omega)
 ·have h0:=hg (a::b::c::d::r) 0 a rfl
  have h1:=hg (a::b::c::d::r) 1 b rfl
  have h2:=hg (a::b::c::d::r) 2 c rfl
  have h3:=hg (a::b::c::d::r) 3 d rfl
  have ha:=a.toNat_lt
  have hb:=b.toNat_lt
  have hc:=c.toNat_lt
  have hd:=d.toNat_lt
  have e1:((⟨(a::b::c::d::r).toArray⟩:ByteArray).size)=r.length+4:=by rw[hs];rfl
  have e2:Yg (a::b::c::d::r)=if(a.toNat:Int)<128 then((a.toNat:Int),1)else if 194≤(a.toNat:Int)∧(a.toNat:Int)<224∧ZL b=true then(64*((a.toNat:Int)-192)+b.toNat-128,2)else if 224≤(a.toNat:Int)∧(a.toNat:Int)<240∧ZL b=true∧ZL c=true∧2048≤4096*((a.toNat:Int)-224)+64*((b.toNat:Int)-128)+c.toNat-128∧(4096*((a.toNat:Int)-224)+64*((b.toNat:Int)-128)+c.toNat-128<55296∨57343<4096*((a.toNat:Int)-224)+64*((b.toNat:Int)-128)+c.toNat-128)then(4096*((a.toNat:Int)-224)+64*((b.toNat:Int)-128)+c.toNat-128,3)else if 240≤(a.toNat:Int)∧(a.toNat:Int)<245∧ZL b=true∧ZL c=true∧ZL d=true∧65536≤262144*((a.toNat:Int)-240)+4096*((b.toNat:Int)-128)+64*((c.toNat:Int)-128)+d.toNat-128∧262144*((a.toNat:Int)-240)+4096*((b.toNat:Int)-128)+64*((c.toNat:Int)-128)+d.toNat-128≤1114111 then(262144*((a.toNat:Int)-240)+4096*((b.toNat:Int)-128)+64*((c.toNat:Int)-128)+d.toNat-128,4)else(65533,1):=rfl
  have e3:ZU (a::b::c::d::r) 0=if a.toNat<128 then(a.toNat,1)else if(a.toNat/32==6&&b.toNat/64==2)=true then(if(a.toNat%32)*64+b.toNat%64≥128 then((a.toNat%32)*64+b.toNat%64,2)else(65533,1))else if(a.toNat/16==14&&b.toNat/64==2&&c.toNat/64==2)=true then(if(a.toNat%16)*4096+(b.toNat%64)*64+c.toNat%64≥2048∧((decide (0≤(((a.toNat%16)*4096+(b.toNat%64)*64+c.toNat%64:Nat):Int))&&decide ((((a.toNat%16)*4096+(b.toNat%64)*64+c.toNat%64:Nat):Int)<55296))||(decide (57344≤(((a.toNat%16)*4096+(b.toNat%64)*64+c.toNat%64:Nat):Int))&&decide ((((a.toNat%16)*4096+(b.toNat%64)*64+c.toNat%64:Nat):Int)≤1114111)))=true then((a.toNat%16)*4096+(b.toNat%64)*64+c.toNat%64,3)else(65533,1))else if(a.toNat/8==30&&b.toNat/64==2&&c.toNat/64==2&&d.toNat/64==2)=true then(if(a.toNat%8)*262144+(b.toNat%64)*4096+(c.toNat%64)*64+d.toNat%64≥65536∧((decide (0≤(((a.toNat%8)*262144+(b.toNat%64)*4096+(c.toNat%64)*64+d.toNat%64:Nat):Int))&&decide ((((a.toNat%8)*262144+(b.toNat%64)*4096+(c.toNat%64)*64+d.toNat%64:Nat):Int)<55296))||(decide (57344≤(((a.toNat%8)*262144+(b.toNat%64)*4096+(c.toNat%64)*64+d.toNat%64:Nat):Int))&&decide ((((a.toNat%8)*262144+(b.toNat%64)*4096+(c.toNat%64)*64+d.toNat%64:Nat):Int)≤1114111)))=true then((a.toNat%8)*262144+(b.toNat%64)*4096+(c.toNat%64)*64+d.toNat%64,4)else(65533,1))else(65533,1):=by
   unfold ZU Utf8.decode
   simp only[Nat.zero_add,h0,h1,h2,h3,e1,show 1<r.length+4 by omega,show 2<r.length+4 by omega,show 3<r.length+4 by omega,decide_true,Bool.true_and,Bool.and_eq_true,decide_eq_true_eq,Utf8.valid,Utf8.runeError]
   try rfl
  rw[e2,e3]
  simp only[ZL,Bool.and_eq_true,Bool.or_eq_true,decide_eq_true_eq,beq_iff_eq]
  repeat' split
  all_goals (dsimp only;omega)
end Go.VE
