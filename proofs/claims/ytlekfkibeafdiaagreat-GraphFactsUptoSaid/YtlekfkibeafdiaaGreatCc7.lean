/- Joined texts: CkC, CkD, CkE. No condition: what each theorem needs stands in it. -/
import Derived.Test.YtlekfkibeafdiaaGreatCc6
namespace Go.VE
structure Sh where
 a:Bool
 b:Bool
 fr:Int
 to:Int
 least:Int
 most:Int
 takes:Int
 puts:Int
def Sh.v(s:Sh):V:=.agg [.bool s.a,.bool s.b,.int .i64 s.fr,.int .i64 s.to,.int .i64 s.least,.int .i64 s.most,.int .i64 s.takes,.int .i64 s.puts]
@[simp] theorem Sh.l0(s:Sh):ldc s.v false 1 0=some (.bool s.a):=rfl
@[simp] theorem Sh.l1(s:Sh):ldc s.v false 1 1=some (.bool s.b):=rfl
@[simp] theorem Sh.l2(s:Sh):ldc s.v false 1 2=some (.int .i64 s.fr):=rfl
@[simp] theorem Sh.l3(s:Sh):ldc s.v false 1 3=some (.int .i64 s.to):=rfl
@[simp] theorem Sh.l4(s:Sh):ldc s.v false 1 4=some (.int .i64 s.least):=rfl
@[simp] theorem Sh.l5(s:Sh):ldc s.v false 1 5=some (.int .i64 s.most):=rfl
@[simp] theorem Sh.l6(s:Sh):ldc s.v false 1 6=some (.int .i64 s.takes):=rfl
@[simp] theorem Sh.l7(s:Sh):ldc s.v false 1 7=some (.int .i64 s.puts):=rfl
@[simp] theorem Sh.lw(s:Sh):ldc s.v true 8 0=some s.v:=rfl
@[simp] theorem Sh.clen(s:Sh):s.v.cells.length=8:=nr rfl
@[simp] theorem Sh.ok(s:Sh):okV s.v=true:=nr rfl
@[simp] theorem Sh.below(k:Nat)(s:Sh):Zk k s.v=true:=by simp[Sh.v]
@[simp] theorem Sh.closed(s:Sh):Ze s.v=true:=by simp[Sh.v]
@[simp] theorem Sh.stw{cs:List V}(hl:cs.length=8)(s:Sh):stc (.agg cs) 8 0 s.v=some s.v:=Zy hl rfl
def ZR:List Sh:=[⟨false,false,0,0,0,0,0,1⟩,⟨true,true,0,31,0,15,0,1⟩,⟨true,false,0,23,0,0,0,1⟩,⟨true,false,0,7,0,0,0,1⟩,⟨true,false,0,31,0,0,0,1⟩,⟨true,false,0,7,0,0,1,1⟩,⟨false,false,0,0,0,0,1,1⟩,⟨false,false,0,0,0,0,1,1⟩,⟨true,false,0,128,0,0,1,1⟩,⟨true,false,0,128,0,0,1,1⟩,⟨true,true,0,127,0,127,1,1⟩,⟨true,false,1,128,0,0,1,1⟩,⟨false,false,0,0,0,0,2,1⟩,⟨false,false,0,0,0,0,2,1⟩,⟨false,false,0,0,0,0,2,1⟩,⟨false,false,0,0,0,0,2,1⟩,⟨false,false,0,0,0,0,2,1⟩,⟨false,false,0,0,0,0,2,1⟩,⟨false,false,0,0,0,0,2,1⟩,⟨false,false,0,0,0,0,2,1⟩,⟨false,false,0,0,0,0,2,1⟩,⟨false,false,0,0,0,0,2,1⟩,⟨true,true,0,31,0,15,1,0⟩,⟨true,false,0,23,0,0,1,0⟩,⟨true,false,0,7,0,0,2,0⟩,⟨true,false,0,31,0,0,0,0⟩,⟨true,false,0,31,0,0,0,0⟩,⟨true,true,0,15,1,4,0,0⟩,⟨true,true,0,15,1,4,0,0⟩,⟨true,false,0,7,0,0,1,0⟩,⟨true,false,0,7,0,0,1,1⟩,⟨true,false,0,64,0,0,0,0⟩,⟨true,false,0,64,0,0,1,0⟩,⟨true,true,0,31,0,64,0,0⟩,⟨false,false,0,0,0,0,0,0⟩]
def Yf:List Nat:=[282,281,275,275,283,275,279,279,279,279,280,279,286,286,286,286,286,286,286,286,286,286,281,275,275,283,283,277,277,275,275,278,278,276,285]
def Vec.same(x y:Vec):Bool:=decide (x.W.n=y.W.n)&&(decide (x.Hi.n=y.Hi.n)&&decide (x.Lo.n=y.Lo.n))
@[simp] theorem Vec.eqv(x y:Vec):eqV (some [.i,.i,.i]) x.v y.v=some (x.same y):=by
  rw[Vec.v_eq,Vec.v_eq]
  by_cases h1:x.W.n=y.W.n<;>by_cases h2:x.Hi.n=y.Hi.n<;>by_cases h3:x.Lo.n=y.Lo.n<;>simp[eqV,Ux,eqK,Vec.same,h1,h2,h3]
end Go.VE
namespace Go.VE.Un
open Go.VE
@[simp] theorem Zxp(o:Int):Zc vp 430 [.int .i64 o]=some (.bool (decide (0≤o)&&decide (o<35))):=by
  rw[Za Zxg]
  by_cases h:0≤o<;>simp -implicitDefEqProofs [h]
@[simp] theorem ZuH(a b c:Int):Zc vp 433 [.int .i64 a,.int .i64 b,.int .i64 c]=some (.bool (decide (b≤a)&&decide (a≤c))):=by
  rw[Za ZyI]
  by_cases h:b≤a<;>simp -implicitDefEqProofs [h]
@[simp] theorem ZyW(a b c d:Int):Zc vp 428 [.int .i64 a,.int .i64 b,.int .i64 c,.int .i64 d]=some (Sh.v ⟨true,false,a,b,0,0,c,d⟩):=by
  rw[Za ZwG]
  simp -implicitDefEqProofs [Zf,ZC,Sh.v]
@[simp] theorem ZBg(a b c d e:Int):Zc vp 429 [.int .i64 a,.int .i64 b,.int .i64 c,.int .i64 d,.int .i64 e]=some (Sh.v ⟨true,true,0,a,b,c,d,e⟩):=by
  rw[Za Zyv]
  simp -implicitDefEqProofs [Zf,ZC,Sh.v]
theorem XZ{o:Int}(h0:0≤o)(h1:o<35):o=0∨o=1∨o=2∨o=3∨o=4∨o=5∨o=6∨o=7∨o=8∨o=9∨o=10∨o=11∨o=12∨o=13∨o=14∨o=15∨o=16∨o=17∨o=18∨o=19∨o=20∨o=21∨o=22∨o=23∨o=24∨o=25∨o=26∨o=27∨o=28∨o=29∨o=30∨o=31∨o=32∨o=33∨o=34:=by omega
theorem Zph:Zc vp 432 [.int .i64 0]=some (Sh.v ⟨false,false,0,0,0,0,0,1⟩):=by
 rw[Za YH]
 simp -implicitDefEqProofs [Zf,ZC,Sh.v]
theorem Zoj:Zc vp 432 [.int .i64 1]=some (Sh.v ⟨true,true,0,31,0,15,0,1⟩):=by
 rw[Za YH]
 simp -implicitDefEqProofs [Zf,ZC,Sh.v]
theorem ZqD:Zc vp 432 [.int .i64 2]=some (Sh.v ⟨true,false,0,23,0,0,0,1⟩):=by
 rw[Za YH]
 simp -implicitDefEqProofs [Zf,ZC,Sh.v]
theorem ZpN:Zc vp 432 [.int .i64 3]=some (Sh.v ⟨true,false,0,7,0,0,0,1⟩):=by
 rw[Za YH]
 simp -implicitDefEqProofs [Zf,ZC,Sh.v]
theorem Zqa:Zc vp 432 [.int .i64 4]=some (Sh.v ⟨true,false,0,31,0,0,0,1⟩):=by
 rw[Za YH]
 simp -implicitDefEqProofs [Zf,ZC,Sh.v]
theorem ZqQ:Zc vp 432 [.int .i64 5]=some (Sh.v ⟨true,false,0,7,0,0,1,1⟩):=by
 rw[Za YH]
 simp -implicitDefEqProofs [Zf,ZC,Sh.v]
theorem Zoh:Zc vp 432 [.int .i64 6]=some (Sh.v ⟨false,false,0,0,0,0,1,1⟩):=by
 rw[Za YH]
 simp -implicitDefEqProofs [Zf,ZC,Sh.v]
theorem ZpI:Zc vp 432 [.int .i64 7]=some (Sh.v ⟨false,false,0,0,0,0,1,1⟩):=by
 rw[Za YH]
 simp -implicitDefEqProofs [Zf,ZC,Sh.v]
theorem Zqx:Zc vp 432 [.int .i64 8]=some (Sh.v ⟨true,false,0,128,0,0,1,1⟩):=by
 rw[Za YH]
 simp -implicitDefEqProofs [Zf,ZC,Sh.v]
theorem Zot:Zc vp 432 [.int .i64 9]=some (Sh.v ⟨true,false,0,128,0,0,1,1⟩):=by
 rw[Za YH]
 simp -implicitDefEqProofs [Zf,ZC,Sh.v]
theorem ZnB:Zc vp 432 [.int .i64 10]=some (Sh.v ⟨true,true,0,127,0,127,1,1⟩):=by
 rw[Za YH]
 simp -implicitDefEqProofs [Zf,ZC,Sh.v]
theorem Zmp:Zc vp 432 [.int .i64 11]=some (Sh.v ⟨true,false,1,128,0,0,1,1⟩):=by
 rw[Za YH]
 simp -implicitDefEqProofs [Zf,ZC,Sh.v]
theorem Zmi:Zc vp 432 [.int .i64 12]=some (Sh.v ⟨false,false,0,0,0,0,2,1⟩):=by
 rw[Za YH]
 simp -implicitDefEqProofs [Zf,ZC,Sh.v]
theorem Zm6:Zc vp 432 [.int .i64 13]=some (Sh.v ⟨false,false,0,0,0,0,2,1⟩):=by
 rw[Za YH]
 simp -implicitDefEqProofs [Zf,ZC,Sh.v]
theorem Zmt:Zc vp 432 [.int .i64 14]=some (Sh.v ⟨false,false,0,0,0,0,2,1⟩):=by
 rw[Za YH]
 simp -implicitDefEqProofs [Zf,ZC,Sh.v]
theorem ZlO:Zc vp 432 [.int .i64 15]=some (Sh.v ⟨false,false,0,0,0,0,2,1⟩):=by
 rw[Za YH]
 simp -implicitDefEqProofs [Zf,ZC,Sh.v]
theorem ZmH:Zc vp 432 [.int .i64 16]=some (Sh.v ⟨false,false,0,0,0,0,2,1⟩):=by
 rw[Za YH]
 simp -implicitDefEqProofs [Zf,ZC,Sh.v]
theorem Zm9:Zc vp 432 [.int .i64 17]=some (Sh.v ⟨false,false,0,0,0,0,2,1⟩):=by
 rw[Za YH]
 simp -implicitDefEqProofs [Zf,ZC,Sh.v]
theorem ZlX:Zc vp 432 [.int .i64 18]=some (Sh.v ⟨false,false,0,0,0,0,2,1⟩):=by
 rw[Za YH]
 simp -implicitDefEqProofs [Zf,ZC,Sh.v]
theorem Znb:Zc vp 432 [.int .i64 19]=some (Sh.v ⟨false,false,0,0,0,0,2,1⟩):=by
 rw[Za YH]
 simp -implicitDefEqProofs [Zf,ZC,Sh.v]
theorem Zm3:Zc vp 432 [.int .i64 20]=some (Sh.v ⟨false,false,0,0,0,0,2,1⟩):=by
 rw[Za YH]
 simp -implicitDefEqProofs [Zf,ZC,Sh.v]
theorem ZlW:Zc vp 432 [.int .i64 21]=some (Sh.v ⟨false,false,0,0,0,0,2,1⟩):=by
 rw[Za YH]
 simp -implicitDefEqProofs [Zf,ZC,Sh.v]
theorem Zmf:Zc vp 432 [.int .i64 22]=some (Sh.v ⟨true,true,0,31,0,15,1,0⟩):=by
 rw[Za YH]
 simp -implicitDefEqProofs [Zf,ZC,Sh.v]
theorem ZnZ:Zc vp 432 [.int .i64 23]=some (Sh.v ⟨true,false,0,23,0,0,1,0⟩):=by
 rw[Za YH]
 simp -implicitDefEqProofs [Zf,ZC,Sh.v]
theorem ZmJ:Zc vp 432 [.int .i64 24]=some (Sh.v ⟨true,false,0,7,0,0,2,0⟩):=by
 rw[Za YH]
 simp -implicitDefEqProofs [Zf,ZC,Sh.v]
theorem Zl1:Zc vp 432 [.int .i64 25]=some (Sh.v ⟨true,false,0,31,0,0,0,0⟩):=by
 rw[Za YH]
 simp -implicitDefEqProofs [Zf,ZC,Sh.v]
theorem ZmP:Zc vp 432 [.int .i64 26]=some (Sh.v ⟨true,false,0,31,0,0,0,0⟩):=by
 rw[Za YH]
 simp -implicitDefEqProofs [Zf,ZC,Sh.v]
theorem ZlY:Zc vp 432 [.int .i64 27]=some (Sh.v ⟨true,true,0,15,1,4,0,0⟩):=by
 rw[Za YH]
 simp -implicitDefEqProofs [Zf,ZC,Sh.v]
theorem Zl4:Zc vp 432 [.int .i64 28]=some (Sh.v ⟨true,true,0,15,1,4,0,0⟩):=by
 rw[Za YH]
 simp -implicitDefEqProofs [Zf,ZC,Sh.v]
theorem Zma:Zc vp 432 [.int .i64 29]=some (Sh.v ⟨true,false,0,7,0,0,1,0⟩):=by
 rw[Za YH]
 simp -implicitDefEqProofs [Zf,ZC,Sh.v]
theorem ZlU:Zc vp 432 [.int .i64 30]=some (Sh.v ⟨true,false,0,7,0,0,1,1⟩):=by
 rw[Za YH]
 simp -implicitDefEqProofs [Zf,ZC,Sh.v]
theorem Zmb:Zc vp 432 [.int .i64 31]=some (Sh.v ⟨true,false,0,64,0,0,0,0⟩):=by
 rw[Za YH]
 simp -implicitDefEqProofs [Zf,ZC,Sh.v]
theorem Zmq:Zc vp 432 [.int .i64 32]=some (Sh.v ⟨true,false,0,64,0,0,1,0⟩):=by
 rw[Za YH]
 simp -implicitDefEqProofs [Zf,ZC,Sh.v]
theorem Zm0:Zc vp 432 [.int .i64 33]=some (Sh.v ⟨true,true,0,31,0,64,0,0⟩):=by
 rw[Za YH]
 simp -implicitDefEqProofs [Zf,ZC,Sh.v]
theorem ZlN:Zc vp 432 [.int .i64 34]=some (Sh.v ⟨false,false,0,0,0,0,0,0⟩):=by
 rw[Za YH]
 simp -implicitDefEqProofs [Zf,ZC,Sh.v]
theorem ZmC(o:Int){s:Sh}(h:Zh ZR o=some s):Zc vp 432 [.int .i64 o]=some s.v:=by
 have hb:0≤o∧o<35:=by
  rcases Zm ZR o with⟨a,h0,h1,_⟩|⟨_,h1⟩
  ·exact⟨h0,h1⟩
  ·rw[h1]at h;simp at h
 rcases XZ hb.1 hb.2 with rfl|rfl|rfl|rfl|rfl|rfl|rfl|rfl|rfl|rfl|rfl|rfl|rfl|rfl|rfl|rfl|rfl|rfl|rfl|rfl|rfl|rfl|rfl|rfl|rfl|rfl|rfl|rfl|rfl|rfl|rfl|rfl|rfl|rfl|rfl
 ·obtain rfl:⟨false,false,0,0,0,0,0,1⟩=s:=by simpa[Zh,ZR]using h
  exact Zph
 ·obtain rfl:⟨true,true,0,31,0,15,0,1⟩=s:=by simpa[Zh,ZR]using h
  exact Zoj
 ·obtain rfl:⟨true,false,0,23,0,0,0,1⟩=s:=by simpa[Zh,ZR]using h
  exact ZqD
 ·obtain rfl:⟨true,false,0,7,0,0,0,1⟩=s:=by simpa[Zh,ZR]using h
  exact ZpN
 ·obtain rfl:⟨true,false,0,31,0,0,0,1⟩=s:=by simpa[Zh,ZR]using h
  exact Zqa
 ·obtain rfl:⟨true,false,0,7,0,0,1,1⟩=s:=by simpa[Zh,ZR]using h
  exact ZqQ
 ·obtain rfl:⟨false,false,0,0,0,0,1,1⟩=s:=by simpa[Zh,ZR]using h
  exact Zoh
 ·obtain rfl:⟨false,false,0,0,0,0,1,1⟩=s:=by simpa[Zh,ZR]using h
  exact ZpI
 ·obtain rfl:⟨true,false,0,128,0,0,1,1⟩=s:=by simpa[Zh,ZR]using h
  exact Zqx
 ·obtain rfl:⟨true,false,0,128,0,0,1,1⟩=s:=by simpa[Zh,ZR]using h
  exact Zot
 ·obtain rfl:⟨true,true,0,127,0,127,1,1⟩=s:=by simpa[Zh,ZR]using h
  exact ZnB
 ·obtain rfl:⟨true,false,1,128,0,0,1,1⟩=s:=by simpa[Zh,ZR]using h
  exact Zmp
 ·obtain rfl:⟨false,false,0,0,0,0,2,1⟩=s:=by simpa[Zh,ZR]using h
  exact Zmi
 ·obtain rfl:⟨false,false,0,0,0,0,2,1⟩=s:=by simpa[Zh,ZR]using h
  exact Zm6
 ·obtain rfl:⟨false,false,0,0,0,0,2,1⟩=s:=by simpa[Zh,ZR]using h
  exact Zmt
 ·obtain rfl:⟨false,false,0,0,0,0,2,1⟩=s:=by simpa[Zh,ZR]using h
  exact ZlO
 ·obtain rfl:⟨false,false,0,0,0,0,2,1⟩=s:=by simpa[Zh,ZR]using h
  exact ZmH
 ·obtain rfl:⟨false,false,0,0,0,0,2,1⟩=s:=by simpa[Zh,ZR]using h
  exact Zm9
 ·obtain rfl:⟨false,false,0,0,0,0,2,1⟩=s:=by simpa[Zh,ZR]using h
  exact ZlX
 ·obtain rfl:⟨false,false,0,0,0,0,2,1⟩=s:=by simpa[Zh,ZR]using h
  exact Znb
 ·obtain rfl:⟨false,false,0,0,0,0,2,1⟩=s:=by simpa[Zh,ZR]using h
  exact Zm3
 ·obtain rfl:⟨false,false,0,0,0,0,2,1⟩=s:=by simpa[Zh,ZR]using h
  exact ZlW
 ·obtain rfl:⟨true,true,0,31,0,15,1,0⟩=s:=by simpa[Zh,ZR]using h
  exact Zmf
 ·obtain rfl:⟨true,false,0,23,0,0,1,0⟩=s:=by simpa[Zh,ZR]using h
  exact ZnZ
 ·obtain rfl:⟨true,false,0,7,0,0,2,0⟩=s:=by simpa[Zh,ZR]using h
  exact ZmJ
 ·obtain rfl:⟨true,false,0,31,0,0,0,0⟩=s:=by simpa[Zh,ZR]using h
  exact Zl1
 ·obtain rfl:⟨true,false,0,31,0,0,0,0⟩=s:=by simpa[Zh,ZR]using h
  exact ZmP
 ·obtain rfl:⟨true,true,0,15,1,4,0,0⟩=s:=by simpa[Zh,ZR]using h
  exact ZlY
 ·obtain rfl:⟨true,true,0,15,1,4,0,0⟩=s:=by simpa[Zh,ZR]using h
  exact Zl4
 ·obtain rfl:⟨true,false,0,7,0,0,1,0⟩=s:=by simpa[Zh,ZR]using h
  exact Zma
 ·obtain rfl:⟨true,false,0,7,0,0,1,1⟩=s:=by simpa[Zh,ZR]using h
  exact ZlU
 ·obtain rfl:⟨true,false,0,64,0,0,0,0⟩=s:=by simpa[Zh,ZR]using h
  exact Zmb
 ·obtain rfl:⟨true,false,0,64,0,0,1,0⟩=s:=by simpa[Zh,ZR]using h
  exact Zmq
 ·obtain rfl:⟨true,true,0,31,0,64,0,0⟩=s:=by simpa[Zh,ZR]using h
  exact Zm0
 ·obtain rfl:⟨false,false,0,0,0,0,0,0⟩=s:=by simpa[Zh,ZR]using h
  exact ZlN
end Go.VE.Un
namespace Go.VE
theorem KA(n k:Nat)(v:V)(hc:v.cells.length=n)(ho:okV v=true)(fr:Fr)(e:lk fr k=v):Zf fr (.buildSl n [.t k])=some (.sl n [v] .ce):=by
 rw[Z9 fr n [.t k] (by simp only[List.map,opd,e,List.all,hc,ho];simp)]
 simp only[List.map,opd,e]
@[simp] theorem ZBd(z:Nat):Ze (.sl z [] .nl)=true:=nr rfl
end Go.VE
namespace Go.VE.Un
open Go.VE
def WB(x:Ins):Int:=
 match Zh ZR x.Op.n with
 |none=>10
 |some s=>if inB x.A.n s.fr s.to=false∨inB x.B.n s.least s.most=false∨(x.Op.n=10∧x.A.n<x.B.n)then 7
  else if(x.Op.n=0∧x.V.good=false)∨(x.Op.n≠0∧x.V.same Vec.z=false)then 1 else 0
theorem ZsC(x:Ins):Zc vp 425 [x.v]=some (.int .i64 (WB x)):=by
 rcases Zm ZR x.Op.n with⟨s,h0,h1,hg⟩|⟨h0,hg⟩
 ·have h1:x.Op.n<35:=h1
  have hs:=ZmC _ hg
  have hm:WB x=if inB x.A.n s.fr s.to=false∨inB x.B.n s.least s.most=false∨(x.Op.n=10∧x.A.n<x.B.n)then 7
   else if(x.Op.n=0∧x.V.good=false)∨(x.Op.n≠0∧x.V.same Vec.z=false)then 1 else 0:=by simp only[WB,hg]
  rw[Za Zre,hm]
  clear hm hg
  by_cases c1:(decide (s.fr≤x.A.n)&&decide (x.A.n≤s.to))=true
  ·by_cases c2:(decide (s.least≤x.B.n)&&decide (x.B.n≤s.most))=true
   ·have hc:(x.Op.n=10∧x.A.n<x.B.n)∨((x.Op.n=10)=False)∨((x.Op.n=10)=True∧(x.A.n<x.B.n)=False):=by
     by_cases a:x.Op.n=10<;>by_cases b:x.A.n<x.B.n<;>simp[a,b]
    have h3: ∀{c d:Prop},(c=True)→d→c:=fun h _=>h▸trivial
    rcases hc with⟨c3,c4⟩|hc|⟨hc,hc2⟩
    ·have c3':(x.Op.n=10)=True:=eq_true c3
     simp -implicitDefEqProofs [h0,h1,hs,c1,c2,c3',c4,inB]
    ·by_cases c5:x.Op.n=0
     ·have c5':(x.Op.n=0)=True:=eq_true c5
      by_cases c6:x.V.good=true
      ·simp -implicitDefEqProofs [h0,h1,hs,c1,c2,hc,c5',c6,inB]
      ·simp -implicitDefEqProofs [h0,h1,hs,c1,c2,hc,c5',c6,inB]
     ·by_cases c6:x.V.same Vec.z=true
      ·simp -implicitDefEqProofs [h0,h1,hs,c1,c2,hc,c5,c6,inB,Zf,ZC,U2]
      ·simp -implicitDefEqProofs [h0,h1,hs,c1,c2,hc,c5,c6,inB,Zf,ZC,U2]
    ·have c5:(x.Op.n=0)=False:=eq_false (by have:=of_eq_true hc;omega)
     by_cases c6:x.V.same Vec.z=true
     ·simp -implicitDefEqProofs [h0,h1,hs,c1,c2,hc,hc2,c5,c6,inB,Zf,ZC,U2]
     ·simp -implicitDefEqProofs [h0,h1,hs,c1,c2,hc,hc2,c5,c6,inB,Zf,ZC,U2]
   ·simp only[Bool.not_eq_true]at c2
    simp -implicitDefEqProofs [h0,h1,hs,c1,c2,inB]
  ·simp only[Bool.not_eq_true]at c1
   simp -implicitDefEqProofs [h0,h1,hs,c1,inB]
 ·have hk:(decide (0≤x.Op.n)&&decide (x.Op.n<35))=false:=by
   have:ZR.length=35:=rfl
   rw[this]at h0;simp;omega
  rw[Za Zre]
  simp -implicitDefEqProofs [hk,hg,WB]
attribute [simp] ZsC
theorem QO{x:Ins}(h:WB x=0):0≤x.Op.n∧x.Op.n<35:=by
 rcases Zm ZR x.Op.n with⟨s,h0,h1,hg⟩|⟨h0,hg⟩
 ·exact⟨h0,h1⟩
 ·simp[WB,hg]at h
def Yu(x:Ins):V:=
 match(Zh Yf x.Op.n).getD 0 with
 |282=>.iface 282 x.V.v
 |281=>.iface 281 (.agg [.int .i64 x.Op.n,.int .i64 x.A.n,.int .i64 x.B.n])
 |275=>.iface 275 (.agg [.int .i64 x.Op.n,.int .i64 x.A.n])
 |283=>.iface 283 (.agg [.int .i64 x.Op.n,.int .i64 x.A.n])
 |279=>.iface 279 (.agg [.int .i64 x.Op.n,.int .i64 x.A.n])
 |280=>.iface 280 (.agg [.int .i64 x.A.n,.int .i64 x.B.n])
 |277=>.iface 277 (.agg [.int .i64 x.Op.n,.int .i64 x.A.n,.int .i64 x.B.n])
 |278=>.iface 278 (.agg [.int .i64 x.Op.n,.int .i64 x.A.n])
 |276=>.iface 276 (.agg [.int .i64 x.A.n,.int .i64 x.B.n])
 |285=>.iface 285 (.agg [])
 |_=>.iface 286 (.agg [.int .i64 x.Op.n])
@[simp] theorem Ztg(k:Nat)(x:Ins):Zk k (Yu x)=true:=by
  unfold Yu;split<;>simp
@[simp] theorem Zrb(x:Ins):Ze (Yu x)=true:=by
  unfold Yu;split<;>simp
@[simp] theorem Zdy(x:Ins):okV (Yu x)=true:=by
  unfold Yu;split<;>rfl
@[simp high] theorem ZhX(x:Ins):(Yu x).cells=[Yu x]:=by
  unfold Yu;split<;>rfl
theorem Zo9(x:Ins)(h:WB x=0):Zc vp 424 [x.v]=some (.tup [Yu x,.int .i64 0]):=by
 obtain⟨h0,h1⟩:=QO h
 rw[Za Zru]
 generalize he:x.Op.n=o at h0 h1
 rcases XZ h0 h1 with rfl|rfl|rfl|rfl|rfl|rfl|rfl|rfl|rfl|rfl|rfl|rfl|rfl|rfl|rfl|rfl|rfl|rfl|rfl|rfl|rfl|rfl|rfl|rfl|rfl|rfl|rfl|rfl|rfl|rfl|rfl|rfl|rfl|rfl|rfl
 ·have hv:x.V.v.cells=[.int .i64 x.V.W.n,.int .u64 x.V.Hi.n,.int .u64 x.V.Lo.n]:=rfl
  simp -implicitDefEqProofs [h,he,Yu,Zh,Yf,Zf,ZC,Vec.v_eq]
 all_goals simp -implicitDefEqProofs [h,he,Yu,Zh,Yf,Zf,ZC]
theorem Zna(x:Ins)(h:WB x≠0):Zc vp 424 [x.v]=some (.tup [.nili,.int .i64 (WB x)]):=by
 rw[Za Zru]
 simp -implicitDefEqProofs [h]
def YL(x:Ins):Option Int:=if x.Op.n=31∨x.Op.n=32 then some x.A.n else if x.Op.n=33 then some x.B.n else none
theorem Zbo(x:Ins)(h:WB x=0):Zc vp 427 [Yu x]=some (.tup [.int .i64 ((YL x).getD 0),.bool (YL x).isSome]):=by
 obtain⟨h0,h1⟩:=QO h
 rw[Za Zwj]
 generalize he:x.Op.n=o at h0 h1
 rcases XZ h0 h1 with rfl|rfl|rfl|rfl|rfl|rfl|rfl|rfl|rfl|rfl|rfl|rfl|rfl|rfl|rfl|rfl|rfl|rfl|rfl|rfl|rfl|rfl|rfl|rfl|rfl|rfl|rfl|rfl|rfl|rfl|rfl|rfl|rfl|rfl|rfl
 all_goals simp -implicitDefEqProofs [he,Yu,Zh,Yf,YL]
def Wd:List Ins→Int→Option (Int ×Int)
 |[],_=>none
 |x::r,i=>if WB x=0 then Wd r (i+1)else some (i,WB x)
theorem Zi3(l:GL Ins)(hl:l.l.length≤64)(src:V)(hsrc:Zk 1 src=true): ∀(r:List Ins) (k:Int) (es:List V),0≤k→k≤l.l.length→l.l.drop k.toNat=r→es.length=k.toNat→Zo 1 es=true→∃hh,(orc vp).loop 0 [0,5,14,15,16] Zg9 [(0,src),(5,.gsl 0 es.length 1 0 es.length),(14,GL.v 6 Ins.v l),(15,.int .i64 l.l.length),(16,.int .i64 k)] [.arr es]=
 (match Wd r k with
  |none=>some (.brk 0,[(0,src),(5,.gsl 0 (es++r.map Yu).length 1 0 (es++r.map Yu).length),(14,GL.v 6 Ins.v l),(15,.int .i64 l.l.length),(16,.int .i64 l.l.length),(17,.bool false)],[.arr (es++r.map Yu)])
  |some (i,e)=>some (.ret,[(2,.sl 1 [] .nl),(3,.int .i64 i),(4,.int .i64 e)],hh)):=by
 intro r
 induction r with
 |nil=>
  intro k es hk hkl hd hn hb
  have hle:=Zq hk hd
  obtain⟨hlt,he⟩: ¬k<l.l.length∧k=l.l.length:=by and_intros<;>omega
  refine⟨[],?_⟩
  rw[Zdq]
  simp -implicitDefEqProofs [hlt,Wd,he]
 |cons x r ih=>
  intro k es hk hkl hd hn hb
  obtain⟨hg,hlt,hd'⟩:=Zp hk hd
  by_cases hm:WB x=0
  ·have w1:IntKind.i64.wrap (k+1)=k+1:=ZK (by omega) (by omega)
   have hb':Zo 1 (es++[Yu x])=true:=VK hb (by simp)
   obtain⟨hh,ih⟩:=ih (k+1) (es++[Yu x]) (by omega) (by omega) hd' (by simp;omega) hb'
   refine⟨hh,?_⟩
   have hmk:=Zo9 x hm
   have ha:=ZdS (lo:=0) (z:=1) (bytes:=16) (es:=es) (ns:=[Yu x]) (h:=[.arr [x.v]]) (by omega) rfl (by simp[YC];omega)
   rw[Zdq]
   simp -implicitDefEqProofs [hlt,hg,hm,w1,hmk,Wd,ha,Yy,KA 1 31 (Yu x) (by rw[ZhX];rfl) (Zdy x),Zgq (es:=es) (b:=.arr [x.v]) Zes hb',hsrc]
   simpa using ih
  ·have hmk:=Zna x hm
   refine⟨[.arr es,.arr [x.v]],?_⟩
   rw[Zdq]
   simp -implicitDefEqProofs [hlt,hg,hm,hmk,Wd]
def QS(l:List Ins):Option (Int ×Int):=match Wd (l.take 64) 0 with|some r=>some r|none=>if 64<l.length then some (64,2)else none
theorem ZmF(l:GL Ins):Zc vp 422 [GL.v 6 Ins.v l]=some (match QS l.l with
 |none=>.tup [.sl 1 (l.l.map Yu) .perm,.int .i64 l.l.length,.int .i64 0]
 |some (i,e)=>.tup [.sl 1 [] .nl,.int .i64 i,.int .i64 e]):=by
 have hle:=l.le
 rw[Za Zzh]
 by_cases h1:64<l.l.length
 ·have h1':(64:Int)<l.l.length:=by omega
  obtain⟨hh,h⟩:=Zi3 (l.take 64) (by simp[GL.take];omega) (GL.v 6 Ins.v l) (by simp) (l.take 64).l 0 [] (by omega) (by omega) rfl rfl rfl
  have hs:=GL.slice_hi 6 Ins.v l .i64 64 (by omega) (by omega) (by omega)
  cases hc:Wd (l.take 64).l 0 with
  |none=>
   rw[hc]at h
   have hc':Wd (l.l.take 64) 0=none:=hc
   simp -implicitDefEqProofs [h1,h1',hs]at h⊢
   simp -implicitDefEqProofs [h,QS,hc',h1,h1']
  |some p=>
   obtain⟨i,e⟩:=p
   rw[hc]at h
   have hc':Wd (l.l.take 64) 0=some (i,e):=hc
   simp -implicitDefEqProofs [h1,h1',hs]at h⊢
   simp -implicitDefEqProofs [h,QS,hc',h1]
 ·have h1': ¬(64:Int)<l.l.length:=by omega
  obtain⟨hh,h⟩:=Zi3 (l.take l.l.length) (by simp[GL.take];omega) (GL.v 6 Ins.v l) (by simp) (l.take l.l.length).l 0 [] (by omega) (by omega) rfl rfl rfl
  have hs:=GL.slice_hi 6 Ins.v l .i64 l.l.length (by omega) (by omega) (by omega)
  have ht:(l.take l.l.length).l=l.l:=by simp[GL.take]
  have ht':l.l.take 64=l.l:=List.take_of_length_le (by omega)
  rw[ht]at h
  have hst:Zv (l.l.map Yu)=true:=by rw[YR];simp
  have hmin:Vq (fun a b=>if b<a then b else a) [.int .i64 l.l.length,.int .i64 64]=some (.int .i64 l.l.length):=by
   rw[JG];rw[if_neg (by omega)]
  cases hc:Wd l.l 0 with
  |none=>
   rw[hc]at h
   simp -implicitDefEqProofs only[List.nil_append,List.length_nil,List.length_map]at h
   simp -implicitDefEqProofs [h1,h1',hs,hmin,h,QS,hc,ht',Kz hst]
  |some p=>
   obtain⟨i,e⟩:=p
   rw[hc]at h
   simp -implicitDefEqProofs only[List.nil_append,List.length_nil,List.length_map]at h
   simp -implicitDefEqProofs [h1,h1',hs,hmin,h,QS,hc,ht']
end Go.VE.Un
namespace Go.VE.Un
open Go.VE
def ZI:List Int→Int
 |[]=>0
 |e::r=>if e=0 then ZI r else e
def J6(n:Int):V:=.int .i64 n
theorem Zor(l:List Int)(t:Tag)(hl:l.length≤1000000): ∀(r:List Int) (k:Int),0≤k→k≤l.length→l.drop k.toNat=r→(orc vp).loop 0 [5,6,7] ZgN [(5,.sl 1 (l.map J6) t),(6,.int .i64 l.length),(7,.int .i64 k)] []=
 (if ZI r=0 then some (.brk 0,[(5,.sl 1 (l.map J6) t),(6,.int .i64 l.length),(7,.int .i64 l.length),(8,.bool false)],[])else some (.ret,[(2,.int .i64 (ZI r))],[])):=by
 intro r
 induction r with
 |nil=>
  intro k hk hkl hd
  have hle:=Zq hk hd
  obtain⟨hlt,he⟩: ¬k<l.length∧k=l.length:=by and_intros<;>omega
  rw[Zix]
  simp -implicitDefEqProofs [hlt,he,ZI]
 |cons y r ih=>
  intro k hk hkl hd
  obtain⟨hg,hlt,hd'⟩:=Zp hk hd
  have w1:=w64 (n:=k+1) (by omega)
  have hi:=ih (k+1) (by omega) (by omega) hd'
  rw[Zix]
  by_cases hy:y=0
  ·simp -implicitDefEqProofs [hlt,w1,hi,hg,hy,J6,ZI]
  ·simp -implicitDefEqProofs [hlt,hg,hy,J6,ZI]
theorem Zaf(l:List Int)(t:Tag)(hl:l.length≤1000000):Zc vp 507 [.sl 1 (l.map J6) t]=some (.int .i64 (ZI l)):=by
 have h:=Zor l t hl l 0 (by omega) (by omega) rfl
 rw[Za Zx6]
 by_cases h0:ZI l=0
 ·rw[if_pos h0]at h
  simp -implicitDefEqProofs [h,h0]
 ·rw[if_neg h0]at h
  simp -implicitDefEqProofs [h,h0]
@[simp] theorem ZtK(a b:Int)(t:Tag):Zc vp 507 [.sl 1 [.int .i64 a,.int .i64 b] t]=some (.int .i64 (ZI [a,b])):=Zaf [a,b] t (by simp)
@[simp] theorem Zty(a b c:Int)(t:Tag):Zc vp 507 [.sl 1 [.int .i64 a,.int .i64 b,.int .i64 c] t]=some (.int .i64 (ZI [a,b,c])):=Zaf [a,b,c] t (by simp)
@[simp] theorem ZrU(a b c d e f:Int)(t:Tag):Zc vp 507 [.sl 1 [.int .i64 a,.int .i64 b,.int .i64 c,.int .i64 d,.int .i64 e,.int .i64 f] t]=some (.int .i64 (ZI [a,b,c,d,e,f])):=Zaf [a,b,c,d,e,f] t (by simp)
def Zl(b:Bool)(e:Int):Int:=if b=true then 0 else e
@[simp] theorem Zvx(b:Bool)(e:Int):Zc vp 521 [.bool b,.int .i64 e]=some (.int .i64 (Zl b e)):=by
  rw[Za ZyA]
  cases b<;>simp -implicitDefEqProofs [Zl]
def XL(n:Int):Int:=Zl (inB n 1 8) 7
@[simp] theorem ZCa(n:Int):Zc vp 509 [.int .i64 n]=some (.int .i64 (XL n)):=by
  rw[Za ZxZ]
  simp -implicitDefEqProofs [XL,inB]
def Xe(ask:Int→Int):Nat→Int→Option (Int ×Int)
 |0,_=>none
 |j+1,i=>if ask i=0 then Xe ask j (i+1)else some (i,ask i)
def Yw(n most:Int)(ask:Int→Int):Int ×Int:=if most<n then(0,2)else(Xe ask n.toNat 0).getD (0,0)
theorem Zo7(g:Nat)(a c:List V){vf:Zi}(hfn:vp.fn g=some vf)(hrw:vf.rw=false)(hx:vf.ext=none)(hab:Zo 0 a=true)(hcb:Zo 0 c=true)(n:Int)(hn:n≤140737488355328)(ask:Int→Int)
 (hask: ∀i,0≤i→i<n→Zc vp g (a++.int .i64 i::c)=some (.int .i64 (ask i))): ∀(j:Nat) (k:Int),0≤k→k+j=max n k→(orc vp).loop 0 [2,13,14] Zhr [(2,.func g a c),(13,.int .i64 n),(14,.int .i64 k)] []=
   (match Xe ask j k with
    |none=>some (.brk 0,[(2,.func g a c),(13,.int .i64 n),(14,.int .i64 (k+j)),(15,.bool false)],[])
    |some (i,e)=>some (.ret,[(6,.int .i64 i),(7,.int .i64 e)],[])):=by
 have hro:U1 vp g=true:=by simp[U1,hfn,hrw,hx]
 have hcall: ∀(lo:Nat) (h:Zg) (args:List V) (kv:V→Zg→Option (Ex ×Fr ×Zg)),YU (orc vp) vp lo h g args kv=roK vp h g args kv:=fun lo h args kv=>VL hfn hrw hx lo h args kv
 intro j
 induction j with
 |zero=>
  intro k hk hkn
  have hlt: ¬k<n:=by omega
  rw[Zi4]
  simp -implicitDefEqProofs [hlt,Xe]
 |succ j ih=>
  intro k hk hkn
  have hlt:k<n:=by omega
  have w1:=w64 (n:=k+1) (by omega)
  have hi:=ih (k+1) (by omega) (by omega)
  have ha:=hask k hk hlt
  have hb:Zo 0 (a++.int .i64 k::c)=true:=VK hab (by simp[hcb])
  have hv: ∀h:Zg,Y5 (X5 h) (a++.int .i64 k::c)=some (a++.int .i64 k::c):=fun h=>XW _ fun v hv=>V8 (XJ hb v hv)
  rw[Zi4]
  by_cases h0:ask k=0
  ·simp -implicitDefEqProofs [hlt,w1,hro,hcall,hv,hb,ha,h0,Xe,hi,Int.add_assoc,Int.add_comm 1]
  ·simp -implicitDefEqProofs [hlt,w1,hro,hcall,hv,hb,ha,h0,Xe]
theorem VM(g:Nat)(a c:List V){vf:Zi}(hfn:vp.fn g=some vf)(hrw:vf.rw=false)(hx:vf.ext=none)(hab:Zo 0 a=true)(hcb:Zo 0 c=true)(n most:Int)(h0:0≤n)(hn:n≤140737488355328)(ask:Int→Int)
 (hask:n≤most→∀i,0≤i→i<n→Zc vp g (a++.int .i64 i::c)=some (.int .i64 (ask i))):Zc vp 501 [.int .i64 n,.int .i64 most,.func g a c]=some (.tup [.int .i64 (Yw n most ask).1,.int .i64 (Yw n most ask).2]):=by
 rw[Za ZwE]
 by_cases h:most<n
 ·simp -implicitDefEqProofs [h,Yw]
 ·have hl:=Zo7 g a c hfn hrw hx hab hcb n hn ask (hask (by omega)) n.toNat 0 (by omega) (by omega)
  cases hr:Xe ask n.toNat 0 with
  |none=>
   rw[hr]at hl
   simp -implicitDefEqProofs [h,Yw,hr,hl]
  |some p=>
   obtain⟨i,e⟩:=p
   rw[hr]at hl
   simp -implicitDefEqProofs [h,Yw,hr,hl]
def ZaC(x:Int):List Int→Int→Int
 |[],_=> -1
 |y::r,i=>if x=y then i else ZaC x r (i+1)
theorem ZeH(x:Int): ∀(l:List Int) (i:Int),0≤i→((0≤ZaC x l i)↔x∈l)
 |[],i,hi=>by simp[ZaC]
 |y::r,i,hi=>by
  simp only[ZaC]
  split
  ·rename_i h;simp[h,hi]
  ·rename_i h;rw[ZeH x r (i+1) (by omega)];simp[h]
theorem Znj(x:Int)(l:List Int)(t:Tag)(hl:l.length≤140737488355328): ∀(r:List Int) (i:Int),0≤i→i≤l.length→l.drop i.toNat=r→(orc vp).loop 0 [0,1,7,8] ZdN [(0,.sl 1 (l.map J6) t),(1,.int .i64 x),(7,.int .i64 l.length),(8,.int .i64 i)] []=
 (if ZaC x r i= -1 then some (.brk 0,[(0,.sl 1 (l.map J6) t),(1,.int .i64 x),(7,.int .i64 l.length),(8,.int .i64 l.length),(9,.bool false)],[])else some (.ret,[(4,.int .i64 (ZaC x r i))],[])):=by
 intro r
 induction r with
 |nil=>
  intro i hi hil hd
  have hle:=Zq hi hd
  have hlt: ¬i<l.length:=by omega
  have:i=l.length:=by omega
  rw[ZeC]
  simp -implicitDefEqProofs [hlt,ZaC,this]
 |cons y r ih=>
  intro i hi hil hd
  obtain⟨hg,hlt,hd'⟩:=Zp hi hd
  have w1:=w64 (n:=i+1) (by omega)
  rw[ZeC]
  by_cases hk:x=y
  ·have: ¬i= -1:=by omega
   have hk':(x=y)=True:=eq_true hk
   simp -implicitDefEqProofs [hlt,hg,ZaC,hk',this,J6]
  ·simp -implicitDefEqProofs [hlt,hg,ZaC,hk,w1,J6,ih (i+1) (by omega) (by omega) hd']
theorem ZlH(x:Int)(l:List Int)(t:Tag)(hl:l.length≤140737488355328):Zc vp 1204 [.sl 1 (l.map J6) t,.int .i64 x]=some (.int .i64 (ZaC x l 0)):=by
 have h:=Znj x l t hl l 0 (by omega) (by omega) rfl
 rw[Za Zr0]
 by_cases hk:ZaC x l 0= -1
 ·rw[if_pos hk]at h
  simp -implicitDefEqProofs [h,hk]
 ·rw[if_neg hk]at h
  simp -implicitDefEqProofs [h]
theorem Zbc(x:Int)(l:List Int)(t:Tag)(hl:l.length≤140737488355328):Zc vp 1169 [.sl 1 (l.map J6) t,.int .i64 x]=some (.bool (decide (x∈l))):=by
 have h:=ZlH x l t hl
 have hb:Zo 0 (l.map J6)=true:=Yq (fun _=>by simp[J6]) l
 have hm:=ZeH x l 0 (by omega)
 rw[Za Zr3]
 simp -implicitDefEqProofs [h,hb,hm]
@[simp] theorem JE(x:Int)(l:GL I64):Zc vp 1169 [GL.v 1 I64.v l,.int .i64 x]=some (.bool (decide (x∈l.l.map (·.n)))):=by
  have:=Zbc x (l.l.map (·.n)) l.t (by simpa using l.le)
  rw[List.map_map]at this
  exact this
def nm(l:List GS):List (List UInt8):=l.map (·.s)
def ZH(ns:List (List UInt8))(i:Int):Int:=
 match Zh ns i with
 |none=>0
 |some s=>if YB s=false then 4 else if(ns.take i.toNat).any (fun t=>decide (Yl t=Yl s))=true then 6 else 0
theorem ZmT(s:List UInt8)(hs:s.length≤140737488355328):Zc vp 641 [.agg [.str s,.sl 2 [.agg [.str [120],.int .i64 8]] .ce,.int .i64 0,.int .i64 0,.int .i64 0,.int .i64 0]]=some (.int .i64 (if YB s=true then 0 else 4)):=by
 have h:=Zgs ⟨⟨s,hs⟩,⟨[⟨⟨[120],by decide⟩,⟨8,by omega,by omega⟩⟩],.ce,by simp⟩,I64.z,I64.z,I64.z,I64.z⟩ (by simp)
 have hp:YB [120]=true:=by decide
 have e:VW ⟨⟨s,hs⟩,⟨[⟨⟨[120],by decide⟩,⟨8,by omega,by omega⟩⟩],.ce,by simp⟩,I64.z,I64.z,I64.z,I64.z⟩=if YB s=true then 0 else 4:=by
  simp[VW,Ym,hp,Vw,XC,I64.z]
  cases YB s<;>rfl
 rw[e]at h
 exact h
theorem Zpz(g:Nat)(c:List V){vf:Zi}(hfn:vp.fn g=some vf)(hrw:vf.rw=false)(hx:vf.ext=none)(hcb:Zo 0 c=true)(ns:List (List UInt8))(s:List UInt8)(n:Int)(hn:n≤ns.length)(hl:ns.length≤140737488355328)
 (hs:s.length≤35184372088831) (hns: ∀t∈ns,t.length≤35184372088831)
 (hask: ∀i t,Zh ns i=some t→Zc vp g (.int .i64 i::c)=some (.str t)): ∀(j:Nat) (k:Int),0≤k→k+j=n→(orc vp).loop 0 [1,5,18,19] Zhb [(1,.func g [] c),(5,.str s),(18,.int .i64 n),(19,.int .i64 k)] []=(if(((ns.drop k.toNat).take j).any fun t=>decide (Yl t=Yl s))=true then some (.ret,[(4,.int .i64 6)],[])else some (.brk 0,[(1,.func g [] c),(5,.str s),(18,.int .i64 n),(19,.int .i64 n),(20,.bool false)],[])):=by
 have hro:U1 vp g=true:=by simp[U1,hfn,hrw,hx]
 have hcall: ∀(lo:Nat) (h:Zg) (args:List V) (kv:V→Zg→Option (Ex ×Fr ×Zg)),YU (orc vp) vp lo h g args kv=roK vp h g args kv:=fun lo h args kv=>VL hfn hrw hx lo h args kv
 intro j
 induction j with
 |zero=>
  intro k hk hkn
  obtain⟨hlt,he⟩: ¬k<n∧k=n:=by and_intros<;>omega
  rw[Zjk]
  simp -implicitDefEqProofs [hlt,he]
 |succ j ih=>
  intro k hk hkn
  have hlt:k<n:=by omega
  have w1:=w64 (n:=k+1) (by omega)
  have hi:=ih (k+1) (by omega) (by omega)
  have hk':k.toNat<ns.length:=by omega
  have hg:Zh ns k=some ns[k.toNat]:=by simp[Zh,hk,hk']
  have hd:ns.drop k.toNat=ns[k.toNat]::ns.drop (k+1).toNat:=by
   rw[show(k+1).toNat=k.toNat+1 by omega];exact List.drop_eq_getElem_cons hk'
  have ha:=hask k _ hg
  have ht:=hns _ (List.getElem_mem hk')
  have hv: ∀h:Zg,Y5 (X5 h) c=some c:=fun h=>XW _ fun v hv=>V8 (XJ hcb v hv)
  rw[Zjk,hd,List.take_succ_cons,List.any_cons]
  by_cases h0:Yl ns[k.toNat]=Yl s
  ·simp -implicitDefEqProofs [hlt,hro,hcall,hv,hcb,ha,h0,hs,ht]
  ·simp -implicitDefEqProofs [hlt,w1,hro,hcall,hv,hcb,ha,h0,hs,ht,hi]
theorem Wo(g:Nat)(c:List V){vf:Zi}(hfn:vp.fn g=some vf)(hrw:vf.rw=false)(hx:vf.ext=none)(hcb:Zo 0 c=true)(ns:List (List UInt8))(n:Int)(hl:ns.length≤140737488355328)
 (hns: ∀t∈ns,t.length≤35184372088831) (hask: ∀i t,Zh ns i=some t→Zc vp g (.int .i64 i::c)=some (.str t)) {s:List UInt8} (hg:Zh ns n=some s):Zc vp 520 [.int .i64 n,.func g [] c]=some (.int .i64 (ZH ns n)):=by
 have hro:U1 vp g=true:=by simp[U1,hfn,hrw,hx]
 have hcall: ∀(lo:Nat) (h:Zg) (args:List V) (kv:V→Zg→Option V),YU (orc vp) vp lo h g args kv=roK vp h g args kv:=fun lo h args kv=>VL hfn hrw hx lo h args kv
 have hv: ∀h:Zg,Y5 (X5 h) c=some c:=fun h=>XW _ fun v hv=>V8 (XJ hcb v hv)
 have ha:=hask n s hg
 have hnn:0≤n∧n<ns.length:=by
  rcases Zm ns n with⟨a,h0,h1,_⟩|⟨_,h1⟩
  ·exact⟨h0,h1⟩
  ·rw[h1]at hg;simp at hg
 have hs:s.length≤35184372088831:=hns s (by unfold Zh at hg;rw[if_pos hnn.1]at hg;exact List.mem_of_getElem? hg)
 have hm:=ZmT s (by omega)
 have hlp:=Zpz g c hfn hrw hx hcb ns s n (by omega) hl hs hns hask n.toNat 0 (by omega) (by omega)
 simp only[Int.toNat_zero,List.drop_zero]at hlp
 rw[Za ZvG]
 by_cases hp:YB s=true
 ·rw[if_pos hp]at hm
  by_cases hq:((ns.take n.toNat).any fun t=>decide (Yl t=Yl s))=true
  ·rw[if_pos hq]at hlp
   simp -implicitDefEqProofs [hro,hcall,hv,hcb,ha,Zf,ZC,hm,hlp,ZH,hg,hp]
   simpa using hq
  ·rw[if_neg hq]at hlp
   simp -implicitDefEqProofs [hro,hcall,hv,hcb,ha,Zf,ZC,hm,hlp,ZH,hg,hp]
   simpa using hq
 ·rw[if_neg hp]at hm
  simp -implicitDefEqProofs [hro,hcall,hv,hcb,ha,Zf,ZC,hm,ZH,hg,hp]
end Go.VE.Un
