/- The arguments of this program's laws, read as plain data. Printed by a program. -/
import Derived.Test.YthpccfpbghhpoaaGreatVc0
import Derived.Test.YthpccfpbghhpoaaGreatChecked
namespace Go.VE.Un
open Go.VE
open Go.Proofs
set_option maxRecDepth 100000
variable {n : Nat} {xs : List V}
theorem Za9(h:Shp Tryz.prog n 9 xs): ∃x:GS,xs=[.str x.s]:=Zqe Tryz.underlying9 h
theorem X6(h:Shp Tryz.prog n 3 xs): ∃x:I64,xs=[I64.v x]:=QK Tryz.underlying3 h
theorem Zkv(h:Shp Tryz.prog n 229 xs): ∃x:Field,xs=x.cs∧Ze x.v=true:=by
 obtain⟨_,_,_,rfl,h0,_,_,rfl,h1,rfl⟩:=Xw Tryz.underlying229 [9,3] rfl (by kernel_rfl) h
 obtain⟨x0,rfl⟩:=Za9 h0
 obtain⟨x1,rfl⟩:=X6 h1
 exact⟨⟨x0,x1⟩,rfl,by simp[Field.closed]⟩
theorem Zrj(h:Shp Tryz.prog n 24 xs):SL Field.v 2 24 xs:=XG Tryz.underlying24 (by kernel_rfl) (by kernel_rfl) (by decide) (fun h=>by obtain⟨a,rfl,k⟩:=Zkv h;exact⟨a,by simp only[elV,Tryz.underlying229];rfl,k⟩) h
theorem ZhM(h:Shp Tryz.prog n 152 xs): ∃x:Header,xs=x.cs∧Ze x.v=true:=by
 obtain⟨_,_,_,rfl,h0,_,_,rfl,h1,_,_,rfl,h2,_,_,rfl,h3,_,_,rfl,h4,_,_,rfl,h5,rfl⟩:=Xw Tryz.underlying152 [9,24,3,3,3,3] rfl (by kernel_rfl) h
 obtain⟨x0,rfl⟩:=Za9 h0
 obtain⟨x1,rfl,c1,b1⟩:=Zrj h1
 obtain⟨x2,rfl⟩:=X6 h2
 obtain⟨x3,rfl⟩:=X6 h3
 obtain⟨x4,rfl⟩:=X6 h4
 obtain⟨x5,rfl⟩:=X6 h5
 exact⟨⟨x0,x1,x2,x3,x4,x5⟩,rfl,by simp[Header.closed,c1]⟩
theorem ZmR(h:Shp Tryz.prog n 225 xs): ∃x:ZF,xs=x.cs∧Ze x.v=true:=by
 obtain⟨_,_,_,rfl,h0,_,_,rfl,h1,_,_,rfl,h2,rfl⟩:=Xw Tryz.underlying225 [9,3,3] rfl (by kernel_rfl) h
 obtain⟨x0,rfl⟩:=Za9 h0
 obtain⟨x1,rfl⟩:=X6 h1
 obtain⟨x2,rfl⟩:=X6 h2
 exact⟨⟨x0,x1,x2⟩,rfl,by simp[ZF.closed]⟩
theorem ZsA(h:Shp Tryz.prog n 230 xs): ∃x:I64,xs=[I64.v x]:=QK Tryz.underlying230 h
theorem ZpQ(h:Shp Tryz.prog n 232 xs): ∃x:Ext,xs=x.cs∧Ze x.v=true:=by
 obtain⟨_,_,_,rfl,h0,_,_,rfl,h1,rfl⟩:=Xw Tryz.underlying232 [230,3] rfl (by kernel_rfl) h
 obtain⟨x0,rfl⟩:=ZsA h0
 obtain⟨x1,rfl⟩:=X6 h1
 exact⟨⟨x0,x1⟩,rfl,by simp[Ext.closed]⟩
theorem ZtH(h:Shp Tryz.prog n 139 xs): ∃x:I64,xs=[I64.v x]:=QK Tryz.underlying139 h
theorem Zpl(h:Shp Tryz.prog n 141 xs): ∃x:Key,xs=x.cs∧Ze x.v=true:=by
 obtain⟨_,_,_,rfl,h0,_,_,rfl,h1,_,_,rfl,h2,rfl⟩:=Xw Tryz.underlying141 [139,3,3] rfl (by kernel_rfl) h
 obtain⟨x0,rfl⟩:=ZtH h0
 obtain⟨x1,rfl⟩:=X6 h1
 obtain⟨x2,rfl⟩:=X6 h2
 exact⟨⟨x0,x1,x2⟩,rfl,by simp[Key.closed]⟩
theorem ZnY(h:Shp Tryz.prog n 36 xs): ∃x:U64,xs=[U64.v x]:=Zqc Tryz.underlying36 h
theorem KN(h:Shp Tryz.prog n 146 xs): ∃x:Vec,xs=x.cs∧Ze x.v=true:=by
 obtain⟨_,_,_,rfl,h0,_,_,rfl,h1,_,_,rfl,h2,rfl⟩:=Xw Tryz.underlying146 [3,36,36] rfl (by kernel_rfl) h
 obtain⟨x0,rfl⟩:=X6 h0
 obtain⟨x1,rfl⟩:=ZnY h1
 obtain⟨x2,rfl⟩:=ZnY h2
 exact⟨⟨x0,x1,x2⟩,rfl,by simp[Vec.closed]⟩
theorem Zmi(h:Shp Tryz.prog n 237 xs): ∃x:Z8,xs=x.cs∧Ze x.v=true:=by
 obtain⟨_,_,_,rfl,h0,_,_,rfl,h1,_,_,rfl,h2,rfl⟩:=Xw Tryz.underlying237 [146,146,3] rfl (by kernel_rfl) h
 obtain⟨x0,rfl,c0⟩:=KN h0
 have k0:=c0;rw[Vec.closed]at k0
 obtain⟨x1,rfl,c1⟩:=KN h1
 have k1:=c1;rw[Vec.closed]at k1
 obtain⟨x2,rfl⟩:=X6 h2
 exact⟨⟨x0,x1,x2⟩,rfl,by simp[Z8.closed,c0,k0,c1,k1]⟩
theorem Zsa(h:Shp Tryz.prog n 120 xs):SL Ext.v 2 16 xs:=XG Tryz.underlying120 (by kernel_rfl) (by kernel_rfl) (by decide) (fun h=>by obtain⟨a,rfl,k⟩:=ZpQ h;exact⟨a,by simp only[elV,Tryz.underlying232];rfl,k⟩) h
theorem Zry(h:Shp Tryz.prog n 80 xs):SL Key.v 3 24 xs:=XG Tryz.underlying80 (by kernel_rfl) (by kernel_rfl) (by decide) (fun h=>by obtain⟨a,rfl,k⟩:=Zpl h;exact⟨a,by simp only[elV,Tryz.underlying141];rfl,k⟩) h
theorem ZsK(h:Shp Tryz.prog n 121 xs):SL Z8.v 7 56 xs:=XG Tryz.underlying121 (by kernel_rfl) (by kernel_rfl) (by decide) (fun h=>by obtain⟨a,rfl,k⟩:=Zmi h;exact⟨a,by simp only[elV,Tryz.underlying237];rfl,k⟩) h
theorem Zj7(h:Shp Tryz.prog n 123 xs): ∃x:ZK,xs=x.cs∧Ze x.v=true:=by
 obtain⟨_,_,_,rfl,h0,_,_,rfl,h1,_,_,rfl,h2,_,_,rfl,h3,_,_,rfl,h4,rfl⟩:=Xw Tryz.underlying123 [9,120,80,121,3] rfl (by kernel_rfl) h
 obtain⟨x0,rfl⟩:=Za9 h0
 obtain⟨x1,rfl,c1,b1⟩:=Zsa h1
 obtain⟨x2,rfl,c2,b2⟩:=Zry h2
 obtain⟨x3,rfl,c3,b3⟩:=ZsK h3
 obtain⟨x4,rfl⟩:=X6 h4
 exact⟨⟨x0,x1,x2,x3,x4⟩,rfl,by simp[ZK.closed,c1,c2,c3]⟩
theorem ZtZ(h:Shp Tryz.prog n 144 xs): ∃x:I64,xs=[I64.v x]:=QK Tryz.underlying144 h
theorem Zn3(h:Shp Tryz.prog n 148 xs): ∃x:Ins,xs=x.cs∧Ze x.v=true:=by
 obtain⟨_,_,_,rfl,h0,_,_,rfl,h1,_,_,rfl,h2,_,_,rfl,h3,rfl⟩:=Xw Tryz.underlying148 [144,3,3,146] rfl (by kernel_rfl) h
 obtain⟨x0,rfl⟩:=ZtZ h0
 obtain⟨x1,rfl⟩:=X6 h1
 obtain⟨x2,rfl⟩:=X6 h2
 obtain⟨x3,rfl,c3⟩:=KN h3
 have k3:=c3;rw[Vec.closed]at k3
 exact⟨⟨x0,x1,x2,x3⟩,rfl,by simp[Ins.closed,c3,k3]⟩
theorem Znm(h:Shp Tryz.prog n 29 xs):SL I64.v 1 8 xs:=XG Tryz.underlying29 (by kernel_rfl) (by kernel_rfl) (by decide) (fun h=>by obtain⟨a,rfl⟩:=X6 h;exact⟨a,by simp only[elV,Tryz.underlying3];rfl,by simp⟩) h
theorem Zrm(h:Shp Tryz.prog n 74 xs):SL Ins.v 6 48 xs:=XG Tryz.underlying74 (by kernel_rfl) (by kernel_rfl) (by decide) (fun h=>by obtain⟨a,rfl,k⟩:=Zn3 h;exact⟨a,by simp only[elV,Tryz.underlying148];rfl,k⟩) h
theorem ZhC(h:Shp Tryz.prog n 88 xs): ∃x:Action,xs=x.cs∧Ze x.v=true:=by
 obtain⟨_,_,_,rfl,h0,_,_,rfl,h1,_,_,rfl,h2,rfl⟩:=Xw Tryz.underlying88 [9,29,74] rfl (by kernel_rfl) h
 obtain⟨x0,rfl⟩:=Za9 h0
 obtain⟨x1,rfl,c1,b1⟩:=Znm h1
 obtain⟨x2,rfl,c2,b2⟩:=Zrm h2
 exact⟨⟨x0,x1,x2⟩,rfl,by simp[Action.closed,c1,c2]⟩
theorem Zrf(h:Shp Tryz.prog n 75 xs):SL Vec.v 3 24 xs:=XG Tryz.underlying75 (by kernel_rfl) (by kernel_rfl) (by decide) (fun h=>by obtain⟨a,rfl,k⟩:=KN h;exact⟨a,by simp only[elV,Tryz.underlying146];rfl,k⟩) h
theorem ZmI(h:Shp Tryz.prog n 82 xs): ∃x:Call,xs=x.cs∧Ze x.v=true:=by
 obtain⟨_,_,_,rfl,h0,_,_,rfl,h1,rfl⟩:=Xw Tryz.underlying82 [3,75] rfl (by kernel_rfl) h
 obtain⟨x0,rfl⟩:=X6 h0
 obtain⟨x1,rfl,c1,b1⟩:=Zrf h1
 exact⟨⟨x0,x1⟩,rfl,by simp[Call.closed,c1]⟩
theorem Zwz(h:Shp Tryz.prog n 79 xs): ∃x:I64,xs=[I64.v x]:=QK Tryz.underlying79 h
theorem Zkd(h:Shp Tryz.prog n 84 xs): ∃x:ZD,xs=x.cs∧Ze x.v=true:=by
 obtain⟨_,_,_,rfl,h0,_,_,rfl,h1,_,_,rfl,h2,_,_,rfl,h3,_,_,rfl,h4,_,_,rfl,h5,rfl⟩:=Xw Tryz.underlying84 [9,79,80,29,82,3] rfl (by kernel_rfl) h
 obtain⟨x0,rfl⟩:=Za9 h0
 obtain⟨x1,rfl⟩:=Zwz h1
 obtain⟨x2,rfl,c2,b2⟩:=Zry h2
 obtain⟨x3,rfl,c3,b3⟩:=Znm h3
 obtain⟨x4,rfl,c4⟩:=ZmI h4
 have k4:=c4;rw[Call.closed]at k4
 obtain⟨x5,rfl⟩:=X6 h5
 exact⟨⟨x0,x1,x2,x3,x4,x5⟩,rfl,by simp[ZD.closed,c2,c3,c4,k4]⟩
theorem ZxV(h:Shp Tryz.prog n 73 xs): ∃x:I64,xs=[I64.v x]:=QK Tryz.underlying73 h
theorem ZnM(h:Shp Tryz.prog n 77 xs): ∃x:Zs,xs=x.cs∧Ze x.v=true:=by
 obtain⟨_,_,_,rfl,h0,_,_,rfl,h1,_,_,rfl,h2,_,_,rfl,h3,_,_,rfl,h4,_,_,rfl,h5,rfl⟩:=Xw Tryz.underlying77 [73,3,74,75,3,3] rfl (by kernel_rfl) h
 obtain⟨x0,rfl⟩:=ZxV h0
 obtain⟨x1,rfl⟩:=X6 h1
 obtain⟨x2,rfl,c2,b2⟩:=Zrm h2
 obtain⟨x3,rfl,c3,b3⟩:=Zrf h3
 obtain⟨x4,rfl⟩:=X6 h4
 obtain⟨x5,rfl⟩:=X6 h5
 exact⟨⟨x0,x1,x2,x3,x4,x5⟩,rfl,by simp[Zs.closed,c2,c3]⟩
theorem ZmU(h:Shp Tryz.prog n 245 xs): ∃x:Yj,xs=x.cs∧Ze x.v=true:=by
 obtain⟨_,_,_,rfl,h0,_,_,rfl,h1,rfl⟩:=Xw Tryz.underlying245 [3,3] rfl (by kernel_rfl) h
 obtain⟨x0,rfl⟩:=X6 h0
 obtain⟨x1,rfl⟩:=X6 h1
 exact⟨⟨x0,x1⟩,rfl,by simp[Yj.closed]⟩
theorem Zow(h:Shp Tryz.prog n 248 xs): ∃x:Reg,xs=x.cs∧Ze x.v=true:=by
 obtain⟨_,_,_,rfl,h0,_,_,rfl,h1,_,_,rfl,h2,rfl⟩:=Xw Tryz.underlying248 [9,3,3] rfl (by kernel_rfl) h
 obtain⟨x0,rfl⟩:=Za9 h0
 obtain⟨x1,rfl⟩:=X6 h1
 obtain⟨x2,rfl⟩:=X6 h2
 exact⟨⟨x0,x1,x2⟩,rfl,by simp[Reg.closed]⟩
theorem ZfF(h:Shp Tryz.prog n 250 xs): ∃x:ZA,xs=x.cs∧Ze x.v=true:=by
 obtain⟨_,_,_,rfl,h0,_,_,rfl,h1,rfl⟩:=Xw Tryz.underlying250 [9,3] rfl (by kernel_rfl) h
 obtain⟨x0,rfl⟩:=Za9 h0
 obtain⟨x1,rfl⟩:=X6 h1
 exact⟨⟨x0,x1⟩,rfl,by simp[ZA.closed]⟩
theorem ZjN(h:Shp Tryz.prog n 252 xs): ∃x:ZX,xs=x.cs∧Ze x.v=true:=by
 obtain⟨_,_,_,rfl,h0,_,_,rfl,h1,_,_,rfl,h2,_,_,rfl,h3,rfl⟩:=Xw Tryz.underlying252 [9,3,3,3] rfl (by kernel_rfl) h
 obtain⟨x0,rfl⟩:=Za9 h0
 obtain⟨x1,rfl⟩:=X6 h1
 obtain⟨x2,rfl⟩:=X6 h2
 obtain⟨x3,rfl⟩:=X6 h3
 exact⟨⟨x0,x1,x2,x3⟩,rfl,by simp[ZX.closed]⟩
theorem Zy9(h:Shp Tryz.prog n 22 xs):SL Header.v 6 72 xs:=XG Tryz.underlying22 (by kernel_rfl) (by kernel_rfl) (by decide) (fun h=>by obtain⟨a,rfl,k⟩:=ZhM h;exact⟨a,by simp only[elV,Tryz.underlying152];rfl,k⟩) h
theorem ZwL(h:Shp Tryz.prog n 23 xs):SL ZF.v 3 32 xs:=XG Tryz.underlying23 (by kernel_rfl) (by kernel_rfl) (by decide) (fun h=>by obtain⟨a,rfl,k⟩:=ZmR h;exact⟨a,by simp only[elV,Tryz.underlying225];rfl,k⟩) h
theorem Zvf(h:Shp Tryz.prog n 25 xs):SL ZK.v 5 96 xs:=XG Tryz.underlying25 (by kernel_rfl) (by kernel_rfl) (by decide) (fun h=>by obtain⟨a,rfl,k⟩:=Zj7 h;exact⟨a,by simp only[elV,Tryz.underlying123];rfl,k⟩) h
theorem Zxn(h:Shp Tryz.prog n 26 xs):SL Action.v 3 64 xs:=XG Tryz.underlying26 (by kernel_rfl) (by kernel_rfl) (by decide) (fun h=>by obtain⟨a,rfl,k⟩:=ZhC h;exact⟨a,by simp only[elV,Tryz.underlying88];rfl,k⟩) h
theorem ZxN(h:Shp Tryz.prog n 27 xs):SL ZD.v 7 112 xs:=XG Tryz.underlying27 (by kernel_rfl) (by kernel_rfl) (by decide) (fun h=>by obtain⟨a,rfl,k⟩:=Zkd h;exact⟨a,by simp only[elV,Tryz.underlying84];rfl,k⟩) h
theorem Zru(h:Shp Tryz.prog n 28 xs):SL Zs.v 6 80 xs:=XG Tryz.underlying28 (by kernel_rfl) (by kernel_rfl) (by decide) (fun h=>by obtain⟨a,rfl,k⟩:=ZnM h;exact⟨a,by simp only[elV,Tryz.underlying77];rfl,k⟩) h
theorem Zrz(h:Shp Tryz.prog n 30 xs):SL Yj.v 2 16 xs:=XG Tryz.underlying30 (by kernel_rfl) (by kernel_rfl) (by decide) (fun h=>by obtain⟨a,rfl,k⟩:=ZmU h;exact⟨a,by simp only[elV,Tryz.underlying245];rfl,k⟩) h
theorem ZxM(h:Shp Tryz.prog n 31 xs):SL Reg.v 3 32 xs:=XG Tryz.underlying31 (by kernel_rfl) (by kernel_rfl) (by decide) (fun h=>by obtain⟨a,rfl,k⟩:=Zow h;exact⟨a,by simp only[elV,Tryz.underlying248];rfl,k⟩) h
theorem Zzr(h:Shp Tryz.prog n 32 xs):SL ZA.v 2 24 xs:=XG Tryz.underlying32 (by kernel_rfl) (by kernel_rfl) (by decide) (fun h=>by obtain⟨a,rfl,k⟩:=ZfF h;exact⟨a,by simp only[elV,Tryz.underlying250];rfl,k⟩) h
theorem ZyO(h:Shp Tryz.prog n 33 xs):SL ZX.v 4 40 xs:=XG Tryz.underlying33 (by kernel_rfl) (by kernel_rfl) (by decide) (fun h=>by obtain⟨a,rfl,k⟩:=ZjN h;exact⟨a,by simp only[elV,Tryz.underlying252];rfl,k⟩) h
theorem Zks(h:Shp Tryz.prog n 35 xs): ∃x:Zb,xs=x.cs∧Ze x.v=true∧x.Headers.l.length*72≤reachBytes∧x.Insts.l.length*32≤reachBytes∧x.Metas.l.length*24≤reachBytes∧x.States.l.length*96≤reachBytes∧x.Actions.l.length*64≤reachBytes∧x.Tables.l.length*112≤reachBytes∧x.Ingress.l.length*80≤reachBytes∧x.Egress.l.length*80≤reachBytes∧x.Deparse.l.length*8≤reachBytes∧x.Checks.l.length*16≤reachBytes∧x.Updates.l.length*16≤reachBytes∧x.Regs.l.length*32≤reachBytes∧x.Counters.l.length*24≤reachBytes∧x.Meters.l.length*40≤reachBytes:=by
 obtain⟨_,_,_,rfl,h0,_,_,rfl,h1,_,_,rfl,h2,_,_,rfl,h3,_,_,rfl,h4,_,_,rfl,h5,_,_,rfl,h6,_,_,rfl,h7,_,_,rfl,h8,_,_,rfl,h9,_,_,rfl,h10,_,_,rfl,h11,_,_,rfl,h12,_,_,rfl,h13,_,_,rfl,h14,_,_,rfl,h15,_,_,rfl,h16,_,_,rfl,h17,rfl⟩:=Xw Tryz.underlying35 [9,22,23,24,25,26,27,28,28,29,30,30,31,32,33,3,3,3] rfl (by kernel_rfl) h
 obtain⟨x0,rfl⟩:=Za9 h0
 obtain⟨x1,rfl,c1,b1⟩:=Zy9 h1
 obtain⟨x2,rfl,c2,b2⟩:=ZwL h2
 obtain⟨x3,rfl,c3,b3⟩:=Zrj h3
 obtain⟨x4,rfl,c4,b4⟩:=Zvf h4
 obtain⟨x5,rfl,c5,b5⟩:=Zxn h5
 obtain⟨x6,rfl,c6,b6⟩:=ZxN h6
 obtain⟨x7,rfl,c7,b7⟩:=Zru h7
 obtain⟨x8,rfl,c8,b8⟩:=Zru h8
 obtain⟨x9,rfl,c9,b9⟩:=Znm h9
 obtain⟨x10,rfl,c10,b10⟩:=Zrz h10
 obtain⟨x11,rfl,c11,b11⟩:=Zrz h11
 obtain⟨x12,rfl,c12,b12⟩:=ZxM h12
 obtain⟨x13,rfl,c13,b13⟩:=Zzr h13
 obtain⟨x14,rfl,c14,b14⟩:=ZyO h14
 obtain⟨x15,rfl⟩:=X6 h15
 obtain⟨x16,rfl⟩:=X6 h16
 obtain⟨x17,rfl⟩:=X6 h17
 exact⟨⟨x0,x1,x2,x3,x4,x5,x6,x7,x8,x9,x10,x11,x12,x13,x14,x15,x16,x17⟩,rfl,by simp[Zb.closed,c1,c2,c3,c4,c5,c6,c7,c8,c9,c10,c11,c12,c13,c14],b1,b2,b3,b4,b5,b6,b7,b8,b9,b10,b11,b12,b13,b14⟩
end Go.VE.Un
