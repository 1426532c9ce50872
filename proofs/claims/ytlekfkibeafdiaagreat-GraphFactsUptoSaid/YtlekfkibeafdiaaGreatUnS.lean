/- The arguments of this program's laws, read as plain data. Printed by a program. -/
import Derived.Test.YtlekfkibeafdiaaGreatVc0
import Derived.Test.YtlekfkibeafdiaaGreatChecked
namespace Go.VE.Un
open Go.VE
open Go.Proofs
set_option maxRecDepth 100000
variable {n : Nat} {xs : List V}
theorem Zbb(h:Shp Tryz.prog n 9 xs): ∃x:GS,xs=[.str x.s]:=ZqW Tryz.underlying9 h
theorem X9(h:Shp Tryz.prog n 3 xs): ∃x:I64,xs=[I64.v x]:=QH Tryz.underlying3 h
theorem Zkg(h:Shp Tryz.prog n 103 xs): ∃x:Field,xs=x.cs∧Ze x.v=true:=by
 obtain⟨_,_,_,rfl,h0,_,_,rfl,h1,rfl⟩:=Xz Tryz.underlying103 [9,3] rfl (by kernel_rfl) h
 obtain⟨x0,rfl⟩:=Zbb h0
 obtain⟨x1,rfl⟩:=X9 h1
 exact⟨⟨x0,x1⟩,rfl,by simp[Field.closed]⟩
theorem ZrH(h:Shp Tryz.prog n 24 xs):SL Field.v 2 24 xs:=XN Tryz.underlying24 (by kernel_rfl) (by kernel_rfl) (by decide) (fun h=>by obtain⟨a,rfl,k⟩:=Zkg h;exact⟨a,by simp only[elV,Tryz.underlying103];rfl,k⟩) h
theorem ZgO(h:Shp Tryz.prog n 105 xs): ∃x:Header,xs=x.cs∧Ze x.v=true:=by
 obtain⟨_,_,_,rfl,h0,_,_,rfl,h1,_,_,rfl,h2,_,_,rfl,h3,_,_,rfl,h4,_,_,rfl,h5,rfl⟩:=Xz Tryz.underlying105 [9,24,3,3,3,3] rfl (by kernel_rfl) h
 obtain⟨x0,rfl⟩:=Zbb h0
 obtain⟨x1,rfl,c1,b1⟩:=ZrH h1
 obtain⟨x2,rfl⟩:=X9 h2
 obtain⟨x3,rfl⟩:=X9 h3
 obtain⟨x4,rfl⟩:=X9 h4
 obtain⟨x5,rfl⟩:=X9 h5
 exact⟨⟨x0,x1,x2,x3,x4,x5⟩,rfl,by simp[Header.closed,c1]⟩
theorem Zn2(h:Shp Tryz.prog n 107 xs): ∃x:ZE,xs=x.cs∧Ze x.v=true:=by
 obtain⟨_,_,_,rfl,h0,_,_,rfl,h1,_,_,rfl,h2,rfl⟩:=Xz Tryz.underlying107 [9,3,3] rfl (by kernel_rfl) h
 obtain⟨x0,rfl⟩:=Zbb h0
 obtain⟨x1,rfl⟩:=X9 h1
 obtain⟨x2,rfl⟩:=X9 h2
 exact⟨⟨x0,x1,x2⟩,rfl,by simp[ZE.closed]⟩
theorem ZF6(h:Shp Tryz.prog n 91 xs): ∃x:I64,xs=[I64.v x]:=QH Tryz.underlying91 h
theorem Zpp(h:Shp Tryz.prog n 93 xs): ∃x:Ext,xs=x.cs∧Ze x.v=true:=by
 obtain⟨_,_,_,rfl,h0,_,_,rfl,h1,rfl⟩:=Xz Tryz.underlying93 [91,3] rfl (by kernel_rfl) h
 obtain⟨x0,rfl⟩:=ZF6 h0
 obtain⟨x1,rfl⟩:=X9 h1
 exact⟨⟨x0,x1⟩,rfl,by simp[Ext.closed]⟩
theorem ZF4(h:Shp Tryz.prog n 88 xs): ∃x:I64,xs=[I64.v x]:=QH Tryz.underlying88 h
theorem ZqX(h:Shp Tryz.prog n 90 xs): ∃x:Key,xs=x.cs∧Ze x.v=true:=by
 obtain⟨_,_,_,rfl,h0,_,_,rfl,h1,_,_,rfl,h2,rfl⟩:=Xz Tryz.underlying90 [88,3,3] rfl (by kernel_rfl) h
 obtain⟨x0,rfl⟩:=ZF4 h0
 obtain⟨x1,rfl⟩:=X9 h1
 obtain⟨x2,rfl⟩:=X9 h2
 exact⟨⟨x0,x1,x2⟩,rfl,by simp[Key.closed]⟩
theorem ZFH(h:Shp Tryz.prog n 39 xs): ∃x:U64,xs=[U64.v x]:=Zp7 Tryz.underlying39 h
theorem KR(h:Shp Tryz.prog n 97 xs): ∃x:Vec,xs=x.cs∧Ze x.v=true:=by
 obtain⟨_,_,_,rfl,h0,_,_,rfl,h1,_,_,rfl,h2,rfl⟩:=Xz Tryz.underlying97 [3,39,39] rfl (by kernel_rfl) h
 obtain⟨x0,rfl⟩:=X9 h0
 obtain⟨x1,rfl⟩:=ZFH h1
 obtain⟨x2,rfl⟩:=ZFH h2
 exact⟨⟨x0,x1,x2⟩,rfl,by simp[Vec.closed]⟩
theorem Znn(h:Shp Tryz.prog n 99 xs): ∃x:Z7,xs=x.cs∧Ze x.v=true:=by
 obtain⟨_,_,_,rfl,h0,_,_,rfl,h1,_,_,rfl,h2,rfl⟩:=Xz Tryz.underlying99 [97,97,3] rfl (by kernel_rfl) h
 obtain⟨x0,rfl,c0⟩:=KR h0
 have k0:=c0;rw[Vec.closed]at k0
 obtain⟨x1,rfl,c1⟩:=KR h1
 have k1:=c1;rw[Vec.closed]at k1
 obtain⟨x2,rfl⟩:=X9 h2
 exact⟨⟨x0,x1,x2⟩,rfl,by simp[Z7.closed,c0,k0,c1,k1]⟩
theorem ZF5(h:Shp Tryz.prog n 57 xs):SL Ext.v 2 16 xs:=XN Tryz.underlying57 (by kernel_rfl) (by kernel_rfl) (by decide) (fun h=>by obtain⟨a,rfl,k⟩:=Zpp h;exact⟨a,by simp only[elV,Tryz.underlying93];rfl,k⟩) h
theorem ZFG(h:Shp Tryz.prog n 58 xs):SL Key.v 3 24 xs:=XN Tryz.underlying58 (by kernel_rfl) (by kernel_rfl) (by decide) (fun h=>by obtain⟨a,rfl,k⟩:=ZqX h;exact⟨a,by simp only[elV,Tryz.underlying90];rfl,k⟩) h
theorem ZF2(h:Shp Tryz.prog n 59 xs):SL Z7.v 7 56 xs:=XN Tryz.underlying59 (by kernel_rfl) (by kernel_rfl) (by decide) (fun h=>by obtain⟨a,rfl,k⟩:=Znn h;exact⟨a,by simp only[elV,Tryz.underlying99];rfl,k⟩) h
theorem Zkm(h:Shp Tryz.prog n 61 xs): ∃x:ZJ,xs=x.cs∧Ze x.v=true:=by
 obtain⟨_,_,_,rfl,h0,_,_,rfl,h1,_,_,rfl,h2,_,_,rfl,h3,_,_,rfl,h4,rfl⟩:=Xz Tryz.underlying61 [9,57,58,59,3] rfl (by kernel_rfl) h
 obtain⟨x0,rfl⟩:=Zbb h0
 obtain⟨x1,rfl,c1,b1⟩:=ZF5 h1
 obtain⟨x2,rfl,c2,b2⟩:=ZFG h2
 obtain⟨x3,rfl,c3,b3⟩:=ZF2 h3
 obtain⟨x4,rfl⟩:=X9 h4
 exact⟨⟨x0,x1,x2,x3,x4⟩,rfl,by simp[ZJ.closed,c1,c2,c3]⟩
theorem ZFL(h:Shp Tryz.prog n 219 xs): ∃x:I64,xs=[I64.v x]:=QH Tryz.underlying219 h
theorem Zqt(h:Shp Tryz.prog n 221 xs): ∃x:Ins,xs=x.cs∧Ze x.v=true:=by
 obtain⟨_,_,_,rfl,h0,_,_,rfl,h1,_,_,rfl,h2,_,_,rfl,h3,rfl⟩:=Xz Tryz.underlying221 [219,3,3,97] rfl (by kernel_rfl) h
 obtain⟨x0,rfl⟩:=ZFL h0
 obtain⟨x1,rfl⟩:=X9 h1
 obtain⟨x2,rfl⟩:=X9 h2
 obtain⟨x3,rfl,c3⟩:=KR h3
 have k3:=c3;rw[Vec.closed]at k3
 exact⟨⟨x0,x1,x2,x3⟩,rfl,by simp[Ins.closed,c3,k3]⟩
theorem ZnC(h:Shp Tryz.prog n 29 xs):SL I64.v 1 8 xs:=XN Tryz.underlying29 (by kernel_rfl) (by kernel_rfl) (by decide) (fun h=>by obtain⟨a,rfl⟩:=X9 h;exact⟨a,by simp only[elV,Tryz.underlying3];rfl,by simp⟩) h
theorem ZFn(h:Shp Tryz.prog n 161 xs):SL Ins.v 6 48 xs:=XN Tryz.underlying161 (by kernel_rfl) (by kernel_rfl) (by decide) (fun h=>by obtain⟨a,rfl,k⟩:=Zqt h;exact⟨a,by simp only[elV,Tryz.underlying221];rfl,k⟩) h
theorem ZgC(h:Shp Tryz.prog n 163 xs): ∃x:Action,xs=x.cs∧Ze x.v=true:=by
 obtain⟨_,_,_,rfl,h0,_,_,rfl,h1,_,_,rfl,h2,rfl⟩:=Xz Tryz.underlying163 [9,29,161] rfl (by kernel_rfl) h
 obtain⟨x0,rfl⟩:=Zbb h0
 obtain⟨x1,rfl,c1,b1⟩:=ZnC h1
 obtain⟨x2,rfl,c2,b2⟩:=ZFn h2
 exact⟨⟨x0,x1,x2⟩,rfl,by simp[Action.closed,c1,c2]⟩
theorem ZFr(h:Shp Tryz.prog n 166 xs):SL Vec.v 3 24 xs:=XN Tryz.underlying166 (by kernel_rfl) (by kernel_rfl) (by decide) (fun h=>by obtain⟨a,rfl,k⟩:=KR h;exact⟨a,by simp only[elV,Tryz.underlying97];rfl,k⟩) h
theorem Zmn(h:Shp Tryz.prog n 168 xs): ∃x:Call,xs=x.cs∧Ze x.v=true:=by
 obtain⟨_,_,_,rfl,h0,_,_,rfl,h1,rfl⟩:=Xz Tryz.underlying168 [3,166] rfl (by kernel_rfl) h
 obtain⟨x0,rfl⟩:=X9 h0
 obtain⟨x1,rfl,c1,b1⟩:=ZFr h1
 exact⟨⟨x0,x1⟩,rfl,by simp[Call.closed,c1]⟩
theorem ZFP(h:Shp Tryz.prog n 165 xs): ∃x:I64,xs=[I64.v x]:=QH Tryz.underlying165 h
theorem Zj8(h:Shp Tryz.prog n 170 xs): ∃x:ZD,xs=x.cs∧Ze x.v=true:=by
 obtain⟨_,_,_,rfl,h0,_,_,rfl,h1,_,_,rfl,h2,_,_,rfl,h3,_,_,rfl,h4,_,_,rfl,h5,rfl⟩:=Xz Tryz.underlying170 [9,165,58,29,168,3] rfl (by kernel_rfl) h
 obtain⟨x0,rfl⟩:=Zbb h0
 obtain⟨x1,rfl⟩:=ZFP h1
 obtain⟨x2,rfl,c2,b2⟩:=ZFG h2
 obtain⟨x3,rfl,c3,b3⟩:=ZnC h3
 obtain⟨x4,rfl,c4⟩:=Zmn h4
 have k4:=c4;rw[Call.closed]at k4
 obtain⟨x5,rfl⟩:=X9 h5
 exact⟨⟨x0,x1,x2,x3,x4,x5⟩,rfl,by simp[ZD.closed,c2,c3,c4,k4]⟩
theorem ZFO(h:Shp Tryz.prog n 174 xs): ∃x:I64,xs=[I64.v x]:=QH Tryz.underlying174 h
theorem Zmh(h:Shp Tryz.prog n 176 xs): ∃x:Zs,xs=x.cs∧Ze x.v=true:=by
 obtain⟨_,_,_,rfl,h0,_,_,rfl,h1,_,_,rfl,h2,_,_,rfl,h3,_,_,rfl,h4,_,_,rfl,h5,rfl⟩:=Xz Tryz.underlying176 [174,3,161,166,3,3] rfl (by kernel_rfl) h
 obtain⟨x0,rfl⟩:=ZFO h0
 obtain⟨x1,rfl⟩:=X9 h1
 obtain⟨x2,rfl,c2,b2⟩:=ZFn h2
 obtain⟨x3,rfl,c3,b3⟩:=ZFr h3
 obtain⟨x4,rfl⟩:=X9 h4
 obtain⟨x5,rfl⟩:=X9 h5
 exact⟨⟨x0,x1,x2,x3,x4,x5⟩,rfl,by simp[Zs.closed,c2,c3]⟩
theorem Zme(h:Shp Tryz.prog n 179 xs): ∃x:Yj,xs=x.cs∧Ze x.v=true:=by
 obtain⟨_,_,_,rfl,h0,_,_,rfl,h1,rfl⟩:=Xz Tryz.underlying179 [3,3] rfl (by kernel_rfl) h
 obtain⟨x0,rfl⟩:=X9 h0
 obtain⟨x1,rfl⟩:=X9 h1
 exact⟨⟨x0,x1⟩,rfl,by simp[Yj.closed]⟩
theorem ZpO(h:Shp Tryz.prog n 182 xs): ∃x:Reg,xs=x.cs∧Ze x.v=true:=by
 obtain⟨_,_,_,rfl,h0,_,_,rfl,h1,_,_,rfl,h2,rfl⟩:=Xz Tryz.underlying182 [9,3,3] rfl (by kernel_rfl) h
 obtain⟨x0,rfl⟩:=Zbb h0
 obtain⟨x1,rfl⟩:=X9 h1
 obtain⟨x2,rfl⟩:=X9 h2
 exact⟨⟨x0,x1,x2⟩,rfl,by simp[Reg.closed]⟩
theorem ZfE(h:Shp Tryz.prog n 184 xs): ∃x:ZA,xs=x.cs∧Ze x.v=true:=by
 obtain⟨_,_,_,rfl,h0,_,_,rfl,h1,rfl⟩:=Xz Tryz.underlying184 [9,3] rfl (by kernel_rfl) h
 obtain⟨x0,rfl⟩:=Zbb h0
 obtain⟨x1,rfl⟩:=X9 h1
 exact⟨⟨x0,x1⟩,rfl,by simp[ZA.closed]⟩
theorem ZkN(h:Shp Tryz.prog n 186 xs): ∃x:ZX,xs=x.cs∧Ze x.v=true:=by
 obtain⟨_,_,_,rfl,h0,_,_,rfl,h1,_,_,rfl,h2,_,_,rfl,h3,rfl⟩:=Xz Tryz.underlying186 [9,3,3,3] rfl (by kernel_rfl) h
 obtain⟨x0,rfl⟩:=Zbb h0
 obtain⟨x1,rfl⟩:=X9 h1
 obtain⟨x2,rfl⟩:=X9 h2
 obtain⟨x3,rfl⟩:=X9 h3
 exact⟨⟨x0,x1,x2,x3⟩,rfl,by simp[ZX.closed]⟩
theorem Zx3(h:Shp Tryz.prog n 22 xs):SL Header.v 6 72 xs:=XN Tryz.underlying22 (by kernel_rfl) (by kernel_rfl) (by decide) (fun h=>by obtain⟨a,rfl,k⟩:=ZgO h;exact⟨a,by simp only[elV,Tryz.underlying105];rfl,k⟩) h
theorem ZvO(h:Shp Tryz.prog n 23 xs):SL ZE.v 3 32 xs:=XN Tryz.underlying23 (by kernel_rfl) (by kernel_rfl) (by decide) (fun h=>by obtain⟨a,rfl,k⟩:=Zn2 h;exact⟨a,by simp only[elV,Tryz.underlying107];rfl,k⟩) h
theorem ZyO(h:Shp Tryz.prog n 25 xs):SL ZJ.v 5 96 xs:=XN Tryz.underlying25 (by kernel_rfl) (by kernel_rfl) (by decide) (fun h=>by obtain⟨a,rfl,k⟩:=Zkm h;exact⟨a,by simp only[elV,Tryz.underlying61];rfl,k⟩) h
theorem Zy3(h:Shp Tryz.prog n 26 xs):SL Action.v 3 64 xs:=XN Tryz.underlying26 (by kernel_rfl) (by kernel_rfl) (by decide) (fun h=>by obtain⟨a,rfl,k⟩:=ZgC h;exact⟨a,by simp only[elV,Tryz.underlying163];rfl,k⟩) h
theorem ZwZ(h:Shp Tryz.prog n 27 xs):SL ZD.v 7 112 xs:=XN Tryz.underlying27 (by kernel_rfl) (by kernel_rfl) (by decide) (fun h=>by obtain⟨a,rfl,k⟩:=Zj8 h;exact⟨a,by simp only[elV,Tryz.underlying170];rfl,k⟩) h
theorem Zrg(h:Shp Tryz.prog n 28 xs):SL Zs.v 6 80 xs:=XN Tryz.underlying28 (by kernel_rfl) (by kernel_rfl) (by decide) (fun h=>by obtain⟨a,rfl,k⟩:=Zmh h;exact⟨a,by simp only[elV,Tryz.underlying176];rfl,k⟩) h
theorem ZrO(h:Shp Tryz.prog n 30 xs):SL Yj.v 2 16 xs:=XN Tryz.underlying30 (by kernel_rfl) (by kernel_rfl) (by decide) (fun h=>by obtain⟨a,rfl,k⟩:=Zme h;exact⟨a,by simp only[elV,Tryz.underlying179];rfl,k⟩) h
theorem Zvk(h:Shp Tryz.prog n 31 xs):SL Reg.v 3 32 xs:=XN Tryz.underlying31 (by kernel_rfl) (by kernel_rfl) (by decide) (fun h=>by obtain⟨a,rfl,k⟩:=ZpO h;exact⟨a,by simp only[elV,Tryz.underlying182];rfl,k⟩) h
theorem Zy7(h:Shp Tryz.prog n 32 xs):SL ZA.v 2 24 xs:=XN Tryz.underlying32 (by kernel_rfl) (by kernel_rfl) (by decide) (fun h=>by obtain⟨a,rfl,k⟩:=ZfE h;exact⟨a,by simp only[elV,Tryz.underlying184];rfl,k⟩) h
theorem Zwp(h:Shp Tryz.prog n 33 xs):SL ZX.v 4 40 xs:=XN Tryz.underlying33 (by kernel_rfl) (by kernel_rfl) (by decide) (fun h=>by obtain⟨a,rfl,k⟩:=ZkN h;exact⟨a,by simp only[elV,Tryz.underlying186];rfl,k⟩) h
theorem ZkW(h:Shp Tryz.prog n 35 xs): ∃x:Zb,xs=x.cs∧Ze x.v=true∧x.Headers.l.length*72≤reachBytes∧x.Insts.l.length*32≤reachBytes∧x.Metas.l.length*24≤reachBytes∧x.States.l.length*96≤reachBytes∧x.Actions.l.length*64≤reachBytes∧x.Tables.l.length*112≤reachBytes∧x.Ingress.l.length*80≤reachBytes∧x.Egress.l.length*80≤reachBytes∧x.Deparse.l.length*8≤reachBytes∧x.Checks.l.length*16≤reachBytes∧x.Updates.l.length*16≤reachBytes∧x.Regs.l.length*32≤reachBytes∧x.Counters.l.length*24≤reachBytes∧x.Meters.l.length*40≤reachBytes:=by
 obtain⟨_,_,_,rfl,h0,_,_,rfl,h1,_,_,rfl,h2,_,_,rfl,h3,_,_,rfl,h4,_,_,rfl,h5,_,_,rfl,h6,_,_,rfl,h7,_,_,rfl,h8,_,_,rfl,h9,_,_,rfl,h10,_,_,rfl,h11,_,_,rfl,h12,_,_,rfl,h13,_,_,rfl,h14,_,_,rfl,h15,_,_,rfl,h16,_,_,rfl,h17,rfl⟩:=Xz Tryz.underlying35 [9,22,23,24,25,26,27,28,28,29,30,30,31,32,33,3,3,3] rfl (by kernel_rfl) h
 obtain⟨x0,rfl⟩:=Zbb h0
 obtain⟨x1,rfl,c1,b1⟩:=Zx3 h1
 obtain⟨x2,rfl,c2,b2⟩:=ZvO h2
 obtain⟨x3,rfl,c3,b3⟩:=ZrH h3
 obtain⟨x4,rfl,c4,b4⟩:=ZyO h4
 obtain⟨x5,rfl,c5,b5⟩:=Zy3 h5
 obtain⟨x6,rfl,c6,b6⟩:=ZwZ h6
 obtain⟨x7,rfl,c7,b7⟩:=Zrg h7
 obtain⟨x8,rfl,c8,b8⟩:=Zrg h8
 obtain⟨x9,rfl,c9,b9⟩:=ZnC h9
 obtain⟨x10,rfl,c10,b10⟩:=ZrO h10
 obtain⟨x11,rfl,c11,b11⟩:=ZrO h11
 obtain⟨x12,rfl,c12,b12⟩:=Zvk h12
 obtain⟨x13,rfl,c13,b13⟩:=Zy7 h13
 obtain⟨x14,rfl,c14,b14⟩:=Zwp h14
 obtain⟨x15,rfl⟩:=X9 h15
 obtain⟨x16,rfl⟩:=X9 h16
 obtain⟨x17,rfl⟩:=X9 h17
 exact⟨⟨x0,x1,x2,x3,x4,x5,x6,x7,x8,x9,x10,x11,x12,x13,x14,x15,x16,x17⟩,rfl,by simp[Zb.closed,c1,c2,c3,c4,c5,c6,c7,c8,c9,c10,c11,c12,c13,c14],b1,b2,b3,b4,b5,b6,b7,b8,b9,b10,b11,b12,b13,b14⟩
end Go.VE.Un
