/- Joined texts: CkC, CkD, CkE. No condition: what each theorem needs stands in it. -/
import Derived.Test.YtieifgngaaccmaaGreatCc6
namespace Go.VE
structure Sh where
 a:Bool
 b:Bool
 fr:Int
 to:Int
 least:Int
 most:Int
 takes:Int
 puts:Int
def Sh.v(s:Sh):V:=.agg [.bool s.a,.bool s.b,.int .i64 s.fr,.int .i64 s.to,.int .i64 s.least,.int .i64 s.most,.int .i64 s.takes,.int .i64 s.puts]
@[simp] theorem Sh.l0(s:Sh):ldc s.v false 1 0=some (.bool s.a):=rfl
@[simp] theorem Sh.l1(s:Sh):ldc s.v false 1 1=some (.bool s.b):=rfl
@[simp] theorem Sh.l2(s:Sh):ldc s.v false 1 2=some (.int .i64 s.fr):=rfl
@[simp] theorem Sh.l3(s:Sh):ldc s.v false 1 3=some (.int .i64 s.to):=rfl
@[simp] theorem Sh.l4(s:Sh):ldc s.v false 1 4=some (.int .i64 s.least):=rfl
@[simp] theorem Sh.l5(s:Sh):ldc s.v false 1 5=some (.int .i64 s.most):=rfl
@[simp] theorem Sh.l6(s:Sh):ldc s.v false 1 6=some (.int .i64 s.takes):=rfl
@[simp] theorem Sh.l7(s:Sh):ldc s.v false 1 7=some (.int .i64 s.puts):=rfl
@[simp] theorem Sh.lw(s:Sh):ldc s.v true 8 0=some s.v:=rfl
@[simp] theorem Sh.clen(s:Sh):s.v.cells.length=8:=nr rfl
@[simp] theorem Sh.ok(s:Sh):okV s.v=true:=nr rfl
@[simp] theorem Sh.below(k:Nat)(s:Sh):belowB k s.v=true:=by simp[Sh.v]
@[simp] theorem Sh.closed(s:Sh):closedB s.v=true:=by simp[Sh.v]
@[simp] theorem Sh.stw{cs:List V}(hl:cs.length=8)(s:Sh):stc (.agg cs) 8 0 s.v=some s.v:=stc_whole hl rfl
def shapes:List Sh:=[⟨false,false,0,0,0,0,0,1⟩,⟨true,true,0,31,0,15,0,1⟩,⟨true,false,0,23,0,0,0,1⟩,⟨true,false,0,7,0,0,0,1⟩,⟨true,false,0,31,0,0,0,1⟩,⟨true,false,0,7,0,0,1,1⟩,⟨false,false,0,0,0,0,1,1⟩,⟨false,false,0,0,0,0,1,1⟩,⟨true,false,0,128,0,0,1,1⟩,⟨true,false,0,128,0,0,1,1⟩,⟨true,true,0,127,0,127,1,1⟩,⟨true,false,1,128,0,0,1,1⟩,⟨false,false,0,0,0,0,2,1⟩,⟨false,false,0,0,0,0,2,1⟩,⟨false,false,0,0,0,0,2,1⟩,⟨false,false,0,0,0,0,2,1⟩,⟨false,false,0,0,0,0,2,1⟩,⟨false,false,0,0,0,0,2,1⟩,⟨false,false,0,0,0,0,2,1⟩,⟨false,false,0,0,0,0,2,1⟩,⟨false,false,0,0,0,0,2,1⟩,⟨false,false,0,0,0,0,2,1⟩,⟨true,true,0,31,0,15,1,0⟩,⟨true,false,0,23,0,0,1,0⟩,⟨true,false,0,7,0,0,2,0⟩,⟨true,false,0,31,0,0,0,0⟩,⟨true,false,0,31,0,0,0,0⟩,⟨true,true,0,15,1,4,0,0⟩,⟨true,true,0,15,1,4,0,0⟩,⟨true,false,0,7,0,0,1,0⟩,⟨true,false,0,7,0,0,1,1⟩,⟨true,false,0,64,0,0,0,0⟩,⟨true,false,0,64,0,0,1,0⟩,⟨true,true,0,31,0,64,0,0⟩,⟨false,false,0,0,0,0,0,0⟩]
def kinds:List Nat:=[282,281,275,275,283,275,279,279,279,279,280,279,286,286,286,286,286,286,286,286,286,286,281,275,275,283,283,277,277,275,275,278,278,276,285]
def Vec.same(x y:Vec):Bool:=decide (x.W.n=y.W.n)&&(decide (x.Hi.n=y.Hi.n)&&decide (x.Lo.n=y.Lo.n))
@[simp] theorem Vec.eqv(x y:Vec):eqV (some [.i,.i,.i]) x.v y.v=some (x.same y):=by
  rw[Vec.v_eq,Vec.v_eq]
  by_cases h1:x.W.n=y.W.n<;>by_cases h2:x.Hi.n=y.Hi.n<;>by_cases h3:x.Lo.n=y.Lo.n<;>simp[eqV,eqKs,eqK,Vec.same,h1,h2,h3]
end Go.VE
namespace Go.VE.Un
open Go.VE
@[simp] theorem known430(o:Int):callRO vp 430 [.int .i64 o]=some (.bool (decide (0≤o)&&decide (o<35))):=by
  rw[callRO_K fn430]
  by_cases h:0≤o<;>simp -implicitDefEqProofs [h]
@[simp] theorem within433(a b c:Int):callRO vp 433 [.int .i64 a,.int .i64 b,.int .i64 c]=some (.bool (decide (b≤a)&&decide (a≤c))):=by
  rw[callRO_K fn433]
  by_cases h:b≤a<;>simp -implicitDefEqProofs [h]
@[simp] theorem alone428(a b c d:Int):callRO vp 428 [.int .i64 a,.int .i64 b,.int .i64 c,.int .i64 d]=some (Sh.v ⟨true,false,a,b,0,0,c,d⟩):=by
  rw[callRO_K fn428]
  simp -implicitDefEqProofs [pureOp,fillV,Sh.v]
@[simp] theorem both429(a b c d e:Int):callRO vp 429 [.int .i64 a,.int .i64 b,.int .i64 c,.int .i64 d,.int .i64 e]=some (Sh.v ⟨true,true,0,a,b,c,d,e⟩):=by
  rw[callRO_K fn429]
  simp -implicitDefEqProofs [pureOp,fillV,Sh.v]
theorem ops_cases{o:Int}(h0:0≤o)(h1:o<35):o=0∨o=1∨o=2∨o=3∨o=4∨o=5∨o=6∨o=7∨o=8∨o=9∨o=10∨o=11∨o=12∨o=13∨o=14∨o=15∨o=16∨o=17∨o=18∨o=19∨o=20∨o=21∨o=22∨o=23∨o=24∨o=25∨o=26∨o=27∨o=28∨o=29∨o=30∨o=31∨o=32∨o=33∨o=34:=by omega
theorem sh432_0:callRO vp 432 [.int .i64 0]=some (Sh.v ⟨false,false,0,0,0,0,0,1⟩):=by
 rw[callRO_K fn432]
 simp -implicitDefEqProofs [pureOp,fillV,Sh.v]
theorem sh432_1:callRO vp 432 [.int .i64 1]=some (Sh.v ⟨true,true,0,31,0,15,0,1⟩):=by
 rw[callRO_K fn432]
 simp -implicitDefEqProofs [pureOp,fillV,Sh.v]
theorem sh432_2:callRO vp 432 [.int .i64 2]=some (Sh.v ⟨true,false,0,23,0,0,0,1⟩):=by
 rw[callRO_K fn432]
 simp -implicitDefEqProofs [pureOp,fillV,Sh.v]
theorem sh432_3:callRO vp 432 [.int .i64 3]=some (Sh.v ⟨true,false,0,7,0,0,0,1⟩):=by
 rw[callRO_K fn432]
 simp -implicitDefEqProofs [pureOp,fillV,Sh.v]
theorem sh432_4:callRO vp 432 [.int .i64 4]=some (Sh.v ⟨true,false,0,31,0,0,0,1⟩):=by
 rw[callRO_K fn432]
 simp -implicitDefEqProofs [pureOp,fillV,Sh.v]
theorem sh432_5:callRO vp 432 [.int .i64 5]=some (Sh.v ⟨true,false,0,7,0,0,1,1⟩):=by
 rw[callRO_K fn432]
 simp -implicitDefEqProofs [pureOp,fillV,Sh.v]
theorem sh432_6:callRO vp 432 [.int .i64 6]=some (Sh.v ⟨false,false,0,0,0,0,1,1⟩):=by
 rw[callRO_K fn432]
 simp -implicitDefEqProofs [pureOp,fillV,Sh.v]
theorem sh432_7:callRO vp 432 [.int .i64 7]=some (Sh.v ⟨false,false,0,0,0,0,1,1⟩):=by
 rw[callRO_K fn432]
 simp -implicitDefEqProofs [pureOp,fillV,Sh.v]
theorem sh432_8:callRO vp 432 [.int .i64 8]=some (Sh.v ⟨true,false,0,128,0,0,1,1⟩):=by
 rw[callRO_K fn432]
 simp -implicitDefEqProofs [pureOp,fillV,Sh.v]
theorem sh432_9:callRO vp 432 [.int .i64 9]=some (Sh.v ⟨true,false,0,128,0,0,1,1⟩):=by
 rw[callRO_K fn432]
 simp -implicitDefEqProofs [pureOp,fillV,Sh.v]
theorem sh432_10:callRO vp 432 [.int .i64 10]=some (Sh.v ⟨true,true,0,127,0,127,1,1⟩):=by
 rw[callRO_K fn432]
 simp -implicitDefEqProofs [pureOp,fillV,Sh.v]
theorem sh432_11:callRO vp 432 [.int .i64 11]=some (Sh.v ⟨true,false,1,128,0,0,1,1⟩):=by
 rw[callRO_K fn432]
 simp -implicitDefEqProofs [pureOp,fillV,Sh.v]
theorem sh432_12:callRO vp 432 [.int .i64 12]=some (Sh.v ⟨false,false,0,0,0,0,2,1⟩):=by
 rw[callRO_K fn432]
 simp -implicitDefEqProofs [pureOp,fillV,Sh.v]
theorem sh432_13:callRO vp 432 [.int .i64 13]=some (Sh.v ⟨false,false,0,0,0,0,2,1⟩):=by
 rw[callRO_K fn432]
 simp -implicitDefEqProofs [pureOp,fillV,Sh.v]
theorem sh432_14:callRO vp 432 [.int .i64 14]=some (Sh.v ⟨false,false,0,0,0,0,2,1⟩):=by
 rw[callRO_K fn432]
 simp -implicitDefEqProofs [pureOp,fillV,Sh.v]
theorem sh432_15:callRO vp 432 [.int .i64 15]=some (Sh.v ⟨false,false,0,0,0,0,2,1⟩):=by
 rw[callRO_K fn432]
 simp -implicitDefEqProofs [pureOp,fillV,Sh.v]
theorem sh432_16:callRO vp 432 [.int .i64 16]=some (Sh.v ⟨false,false,0,0,0,0,2,1⟩):=by
 rw[callRO_K fn432]
 simp -implicitDefEqProofs [pureOp,fillV,Sh.v]
theorem sh432_17:callRO vp 432 [.int .i64 17]=some (Sh.v ⟨false,false,0,0,0,0,2,1⟩):=by
 rw[callRO_K fn432]
 simp -implicitDefEqProofs [pureOp,fillV,Sh.v]
theorem sh432_18:callRO vp 432 [.int .i64 18]=some (Sh.v ⟨false,false,0,0,0,0,2,1⟩):=by
 rw[callRO_K fn432]
 simp -implicitDefEqProofs [pureOp,fillV,Sh.v]
theorem sh432_19:callRO vp 432 [.int .i64 19]=some (Sh.v ⟨false,false,0,0,0,0,2,1⟩):=by
 rw[callRO_K fn432]
 simp -implicitDefEqProofs [pureOp,fillV,Sh.v]
theorem sh432_20:callRO vp 432 [.int .i64 20]=some (Sh.v ⟨false,false,0,0,0,0,2,1⟩):=by
 rw[callRO_K fn432]
 simp -implicitDefEqProofs [pureOp,fillV,Sh.v]
theorem sh432_21:callRO vp 432 [.int .i64 21]=some (Sh.v ⟨false,false,0,0,0,0,2,1⟩):=by
 rw[callRO_K fn432]
 simp -implicitDefEqProofs [pureOp,fillV,Sh.v]
theorem sh432_22:callRO vp 432 [.int .i64 22]=some (Sh.v ⟨true,true,0,31,0,15,1,0⟩):=by
 rw[callRO_K fn432]
 simp -implicitDefEqProofs [pureOp,fillV,Sh.v]
theorem sh432_23:callRO vp 432 [.int .i64 23]=some (Sh.v ⟨true,false,0,23,0,0,1,0⟩):=by
 rw[callRO_K fn432]
 simp -implicitDefEqProofs [pureOp,fillV,Sh.v]
theorem sh432_24:callRO vp 432 [.int .i64 24]=some (Sh.v ⟨true,false,0,7,0,0,2,0⟩):=by
 rw[callRO_K fn432]
 simp -implicitDefEqProofs [pureOp,fillV,Sh.v]
theorem sh432_25:callRO vp 432 [.int .i64 25]=some (Sh.v ⟨true,false,0,31,0,0,0,0⟩):=by
 rw[callRO_K fn432]
 simp -implicitDefEqProofs [pureOp,fillV,Sh.v]
theorem sh432_26:callRO vp 432 [.int .i64 26]=some (Sh.v ⟨true,false,0,31,0,0,0,0⟩):=by
 rw[callRO_K fn432]
 simp -implicitDefEqProofs [pureOp,fillV,Sh.v]
theorem sh432_27:callRO vp 432 [.int .i64 27]=some (Sh.v ⟨true,true,0,15,1,4,0,0⟩):=by
 rw[callRO_K fn432]
 simp -implicitDefEqProofs [pureOp,fillV,Sh.v]
theorem sh432_28:callRO vp 432 [.int .i64 28]=some (Sh.v ⟨true,true,0,15,1,4,0,0⟩):=by
 rw[callRO_K fn432]
 simp -implicitDefEqProofs [pureOp,fillV,Sh.v]
theorem sh432_29:callRO vp 432 [.int .i64 29]=some (Sh.v ⟨true,false,0,7,0,0,1,0⟩):=by
 rw[callRO_K fn432]
 simp -implicitDefEqProofs [pureOp,fillV,Sh.v]
theorem sh432_30:callRO vp 432 [.int .i64 30]=some (Sh.v ⟨true,false,0,7,0,0,1,1⟩):=by
 rw[callRO_K fn432]
 simp -implicitDefEqProofs [pureOp,fillV,Sh.v]
theorem sh432_31:callRO vp 432 [.int .i64 31]=some (Sh.v ⟨true,false,0,64,0,0,0,0⟩):=by
 rw[callRO_K fn432]
 simp -implicitDefEqProofs [pureOp,fillV,Sh.v]
theorem sh432_32:callRO vp 432 [.int .i64 32]=some (Sh.v ⟨true,false,0,64,0,0,1,0⟩):=by
 rw[callRO_K fn432]
 simp -implicitDefEqProofs [pureOp,fillV,Sh.v]
theorem sh432_33:callRO vp 432 [.int .i64 33]=some (Sh.v ⟨true,true,0,31,0,64,0,0⟩):=by
 rw[callRO_K fn432]
 simp -implicitDefEqProofs [pureOp,fillV,Sh.v]
theorem sh432_34:callRO vp 432 [.int .i64 34]=some (Sh.v ⟨false,false,0,0,0,0,0,0⟩):=by
 rw[callRO_K fn432]
 simp -implicitDefEqProofs [pureOp,fillV,Sh.v]
theorem shape432(o:Int){s:Sh}(h:getI shapes o=some s):callRO vp 432 [.int .i64 o]=some s.v:=by
 have hb:0≤o∧o<35:=by
  rcases getI_cases shapes o with⟨a,h0,h1,_⟩|⟨_,h1⟩
  ·exact⟨h0,h1⟩
  ·rw[h1]at h;simp at h
 rcases ops_cases hb.1 hb.2 with rfl|rfl|rfl|rfl|rfl|rfl|rfl|rfl|rfl|rfl|rfl|rfl|rfl|rfl|rfl|rfl|rfl|rfl|rfl|rfl|rfl|rfl|rfl|rfl|rfl|rfl|rfl|rfl|rfl|rfl|rfl|rfl|rfl|rfl|rfl
 ·obtain rfl:⟨false,false,0,0,0,0,0,1⟩=s:=by simpa[getI,shapes]using h
  exact sh432_0
 ·obtain rfl:⟨true,true,0,31,0,15,0,1⟩=s:=by simpa[getI,shapes]using h
  exact sh432_1
 ·obtain rfl:⟨true,false,0,23,0,0,0,1⟩=s:=by simpa[getI,shapes]using h
  exact sh432_2
 ·obtain rfl:⟨true,false,0,7,0,0,0,1⟩=s:=by simpa[getI,shapes]using h
  exact sh432_3
 ·obtain rfl:⟨true,false,0,31,0,0,0,1⟩=s:=by simpa[getI,shapes]using h
  exact sh432_4
 ·obtain rfl:⟨true,false,0,7,0,0,1,1⟩=s:=by simpa[getI,shapes]using h
  exact sh432_5
 ·obtain rfl:⟨false,false,0,0,0,0,1,1⟩=s:=by simpa[getI,shapes]using h
  exact sh432_6
 ·obtain rfl:⟨false,false,0,0,0,0,1,1⟩=s:=by simpa[getI,shapes]using h
  exact sh432_7
 ·obtain rfl:⟨true,false,0,128,0,0,1,1⟩=s:=by simpa[getI,shapes]using h
  exact sh432_8
 ·obtain rfl:⟨true,false,0,128,0,0,1,1⟩=s:=by simpa[getI,shapes]using h
  exact sh432_9
 ·obtain rfl:⟨true,true,0,127,0,127,1,1⟩=s:=by simpa[getI,shapes]using h
  exact sh432_10
 ·obtain rfl:⟨true,false,1,128,0,0,1,1⟩=s:=by simpa[getI,shapes]using h
  exact sh432_11
 ·obtain rfl:⟨false,false,0,0,0,0,2,1⟩=s:=by simpa[getI,shapes]using h
  exact sh432_12
 ·obtain rfl:⟨false,false,0,0,0,0,2,1⟩=s:=by simpa[getI,shapes]using h
  exact sh432_13
 ·obtain rfl:⟨false,false,0,0,0,0,2,1⟩=s:=by simpa[getI,shapes]using h
  exact sh432_14
 ·obtain rfl:⟨false,false,0,0,0,0,2,1⟩=s:=by simpa[getI,shapes]using h
  exact sh432_15
 ·obtain rfl:⟨false,false,0,0,0,0,2,1⟩=s:=by simpa[getI,shapes]using h
  exact sh432_16
 ·obtain rfl:⟨false,false,0,0,0,0,2,1⟩=s:=by simpa[getI,shapes]using h
  exact sh432_17
 ·obtain rfl:⟨false,false,0,0,0,0,2,1⟩=s:=by simpa[getI,shapes]using h
  exact sh432_18
 ·obtain rfl:⟨false,false,0,0,0,0,2,1⟩=s:=by simpa[getI,shapes]using h
  exact sh432_19
 ·obtain rfl:⟨false,false,0,0,0,0,2,1⟩=s:=by simpa[getI,shapes]using h
  exact sh432_20
 ·obtain rfl:⟨false,false,0,0,0,0,2,1⟩=s:=by simpa[getI,shapes]using h
  exact sh432_21
 ·obtain rfl:⟨true,true,0,31,0,15,1,0⟩=s:=by simpa[getI,shapes]using h
  exact sh432_22
 ·obtain rfl:⟨true,false,0,23,0,0,1,0⟩=s:=by simpa[getI,shapes]using h
  exact sh432_23
 ·obtain rfl:⟨true,false,0,7,0,0,2,0⟩=s:=by simpa[getI,shapes]using h
  exact sh432_24
 ·obtain rfl:⟨true,false,0,31,0,0,0,0⟩=s:=by simpa[getI,shapes]using h
  exact sh432_25
 ·obtain rfl:⟨true,false,0,31,0,0,0,0⟩=s:=by simpa[getI,shapes]using h
  exact sh432_26
 ·obtain rfl:⟨true,true,0,15,1,4,0,0⟩=s:=by simpa[getI,shapes]using h
  exact sh432_27
 ·obtain rfl:⟨true,true,0,15,1,4,0,0⟩=s:=by simpa[getI,shapes]using h
  exact sh432_28
 ·obtain rfl:⟨true,false,0,7,0,0,1,0⟩=s:=by simpa[getI,shapes]using h
  exact sh432_29
 ·obtain rfl:⟨true,false,0,7,0,0,1,1⟩=s:=by simpa[getI,shapes]using h
  exact sh432_30
 ·obtain rfl:⟨true,false,0,64,0,0,0,0⟩=s:=by simpa[getI,shapes]using h
  exact sh432_31
 ·obtain rfl:⟨true,false,0,64,0,0,1,0⟩=s:=by simpa[getI,shapes]using h
  exact sh432_32
 ·obtain rfl:⟨true,true,0,31,0,64,0,0⟩=s:=by simpa[getI,shapes]using h
  exact sh432_33
 ·obtain rfl:⟨false,false,0,0,0,0,0,0⟩=s:=by simpa[getI,shapes]using h
  exact sh432_34
end Go.VE.Un
namespace Go.VE
theorem buildSl_one(n k:Nat)(v:V)(hc:v.cells.length=n)(ho:okV v=true)(fr:Fr)(e:lk fr k=v):pureOp fr (.buildSl n [.t k])=some (.sl n [v] .ce):=by
 rw[buildSl_eq fr n [.t k] (by simp only[List.map,opd,e,List.all,hc,ho];simp)]
 simp only[List.map,opd,e]
@[simp] theorem cb_slnl(z:Nat):closedB (.sl z [] .nl)=true:=nr rfl
end Go.VE
namespace Go.VE.Un
open Go.VE
def mayC(x:Ins):Int:=
 match getI shapes x.Op.n with
 |none=>10
 |some s=>if inB x.A.n s.fr s.to=false∨inB x.B.n s.least s.most=false∨(x.Op.n=10∧x.A.n<x.B.n)then 7
  else if(x.Op.n=0∧x.V.good=false)∨(x.Op.n≠0∧x.V.same Vec.z=false)then 1 else 0
theorem may425(x:Ins):callRO vp 425 [x.v]=some (.int .i64 (mayC x)):=by
 rcases getI_cases shapes x.Op.n with⟨s,h0,h1,hg⟩|⟨h0,hg⟩
 ·have h1:x.Op.n<35:=h1
  have hs:=shape432 _ hg
  have hm:mayC x=if inB x.A.n s.fr s.to=false∨inB x.B.n s.least s.most=false∨(x.Op.n=10∧x.A.n<x.B.n)then 7
   else if(x.Op.n=0∧x.V.good=false)∨(x.Op.n≠0∧x.V.same Vec.z=false)then 1 else 0:=by simp only[mayC,hg]
  rw[callRO_K fn425,hm]
  clear hm hg
  by_cases c1:(decide (s.fr≤x.A.n)&&decide (x.A.n≤s.to))=true
  ·by_cases c2:(decide (s.least≤x.B.n)&&decide (x.B.n≤s.most))=true
   ·have hc:(x.Op.n=10∧x.A.n<x.B.n)∨((x.Op.n=10)=False)∨((x.Op.n=10)=True∧(x.A.n<x.B.n)=False):=by
     by_cases a:x.Op.n=10<;>by_cases b:x.A.n<x.B.n<;>simp[a,b]
    have h3: ∀{c d:Prop},(c=True)→d→c:=fun h _=>h▸trivial
    rcases hc with⟨c3,c4⟩|hc|⟨hc,hc2⟩
    ·have c3':(x.Op.n=10)=True:=eq_true c3
     simp -implicitDefEqProofs [h0,h1,hs,c1,c2,c3',c4,inB]
    ·by_cases c5:x.Op.n=0
     ·have c5':(x.Op.n=0)=True:=eq_true c5
      by_cases c6:x.V.good=true
      ·simp -implicitDefEqProofs [h0,h1,hs,c1,c2,hc,c5',c6,inB]
      ·simp -implicitDefEqProofs [h0,h1,hs,c1,c2,hc,c5',c6,inB]
     ·by_cases c6:x.V.same Vec.z=true
      ·simp -implicitDefEqProofs [h0,h1,hs,c1,c2,hc,c5,c6,inB,pureOp,fillV,vec0]
      ·simp -implicitDefEqProofs [h0,h1,hs,c1,c2,hc,c5,c6,inB,pureOp,fillV,vec0]
    ·have c5:(x.Op.n=0)=False:=eq_false (by have:=of_eq_true hc;omega)
     by_cases c6:x.V.same Vec.z=true
     ·simp -implicitDefEqProofs [h0,h1,hs,c1,c2,hc,hc2,c5,c6,inB,pureOp,fillV,vec0]
     ·simp -implicitDefEqProofs [h0,h1,hs,c1,c2,hc,hc2,c5,c6,inB,pureOp,fillV,vec0]
   ·simp only[Bool.not_eq_true]at c2
    simp -implicitDefEqProofs [h0,h1,hs,c1,c2,inB]
  ·simp only[Bool.not_eq_true]at c1
   simp -implicitDefEqProofs [h0,h1,hs,c1,inB]
 ·have hk:(decide (0≤x.Op.n)&&decide (x.Op.n<35))=false:=by
   have:shapes.length=35:=rfl
   rw[this]at h0;simp;omega
  rw[callRO_K fn425]
  simp -implicitDefEqProofs [hk,hg,mayC]
attribute [simp] may425
theorem mayC_op{x:Ins}(h:mayC x=0):0≤x.Op.n∧x.Op.n<35:=by
 rcases getI_cases shapes x.Op.n with⟨s,h0,h1,hg⟩|⟨h0,hg⟩
 ·exact⟨h0,h1⟩
 ·simp[mayC,hg]at h
def stepV(x:Ins):V:=
 match(getI kinds x.Op.n).getD 0 with
 |282=>.iface 282 x.V.v
 |281=>.iface 281 (.agg [.int .i64 x.Op.n,.int .i64 x.A.n,.int .i64 x.B.n])
 |275=>.iface 275 (.agg [.int .i64 x.Op.n,.int .i64 x.A.n])
 |283=>.iface 283 (.agg [.int .i64 x.Op.n,.int .i64 x.A.n])
 |279=>.iface 279 (.agg [.int .i64 x.Op.n,.int .i64 x.A.n])
 |280=>.iface 280 (.agg [.int .i64 x.A.n,.int .i64 x.B.n])
 |277=>.iface 277 (.agg [.int .i64 x.Op.n,.int .i64 x.A.n,.int .i64 x.B.n])
 |278=>.iface 278 (.agg [.int .i64 x.Op.n,.int .i64 x.A.n])
 |276=>.iface 276 (.agg [.int .i64 x.A.n,.int .i64 x.B.n])
 |285=>.iface 285 (.agg [])
 |_=>.iface 286 (.agg [.int .i64 x.Op.n])
@[simp] theorem step_below(k:Nat)(x:Ins):belowB k (stepV x)=true:=by
  unfold stepV;split<;>simp
@[simp] theorem step_closed(x:Ins):closedB (stepV x)=true:=by
  unfold stepV;split<;>simp
@[simp] theorem step_ok(x:Ins):okV (stepV x)=true:=by
  unfold stepV;split<;>rfl
@[simp high] theorem step_cells(x:Ins):(stepV x).cells=[stepV x]:=by
  unfold stepV;split<;>rfl
theorem make424(x:Ins)(h:mayC x=0):callRO vp 424 [x.v]=some (.tup [stepV x,.int .i64 0]):=by
 obtain⟨h0,h1⟩:=mayC_op h
 rw[callRO_K fn424]
 generalize he:x.Op.n=o at h0 h1
 rcases ops_cases h0 h1 with rfl|rfl|rfl|rfl|rfl|rfl|rfl|rfl|rfl|rfl|rfl|rfl|rfl|rfl|rfl|rfl|rfl|rfl|rfl|rfl|rfl|rfl|rfl|rfl|rfl|rfl|rfl|rfl|rfl|rfl|rfl|rfl|rfl|rfl|rfl
 ·have hv:x.V.v.cells=[.int .i64 x.V.W.n,.int .u64 x.V.Hi.n,.int .u64 x.V.Lo.n]:=rfl
  simp -implicitDefEqProofs [h,he,stepV,getI,kinds,pureOp,fillV,Vec.v_eq]
 all_goals simp -implicitDefEqProofs [h,he,stepV,getI,kinds,pureOp,fillV]
theorem make424'(x:Ins)(h:mayC x≠0):callRO vp 424 [x.v]=some (.tup [.nili,.int .i64 (mayC x)]):=by
 rw[callRO_K fn424]
 simp -implicitDefEqProofs [h]
def targetB(x:Ins):Option Int:=if x.Op.n=31∨x.Op.n=32 then some x.A.n else if x.Op.n=33 then some x.B.n else none
theorem target427(x:Ins)(h:mayC x=0):callRO vp 427 [stepV x]=some (.tup [.int .i64 ((targetB x).getD 0),.bool (targetB x).isSome]):=by
 obtain⟨h0,h1⟩:=mayC_op h
 rw[callRO_K fn427]
 generalize he:x.Op.n=o at h0 h1
 rcases ops_cases h0 h1 with rfl|rfl|rfl|rfl|rfl|rfl|rfl|rfl|rfl|rfl|rfl|rfl|rfl|rfl|rfl|rfl|rfl|rfl|rfl|rfl|rfl|rfl|rfl|rfl|rfl|rfl|rfl|rfl|rfl|rfl|rfl|rfl|rfl|rfl|rfl
 all_goals simp -implicitDefEqProofs [he,stepV,getI,kinds,targetB]
def codeE:List Ins→Int→Option (Int ×Int)
 |[],_=>none
 |x::r,i=>if mayC x=0 then codeE r (i+1)else some (i,mayC x)
theorem loop422(l:GL Ins)(hl:l.l.length≤64)(src:V)(hsrc:belowB 1 src=true): ∀(r:List Ins) (k:Int) (es:List V),0≤k→k≤l.l.length→l.l.drop k.toNat=r→es.length=k.toNat→belowL 1 es=true→∃hh,(orc vp).loop 0 [0,5,14,15,16] L422_0 [(0,src),(5,.gsl 0 es.length 1 0 es.length),(14,GL.v 6 Ins.v l),(15,.int .i64 l.l.length),(16,.int .i64 k)] [.arr es]=
 (match codeE r k with
  |none=>some (.brk 0,[(0,src),(5,.gsl 0 (es++r.map stepV).length 1 0 (es++r.map stepV).length),(14,GL.v 6 Ins.v l),(15,.int .i64 l.l.length),(16,.int .i64 l.l.length),(17,.bool false)],[.arr (es++r.map stepV)])
  |some (i,e)=>some (.ret,[(2,.sl 1 [] .nl),(3,.int .i64 i),(4,.int .i64 e)],hh)):=by
 intro r
 induction r with
 |nil=>
  intro k es hk hkl hd hn hb
  have hle:=drop_nil hk hd
  have hlt: ¬k<l.l.length:=by omega
  have he:k=l.l.length:=by omega
  refine⟨[],?_⟩
  rw[lp422_0]
  simp -implicitDefEqProofs [hlt,codeE,he]
 |cons x r ih=>
  intro k es hk hkl hd hn hb
  obtain⟨hg,hlt,hd'⟩:=drop_cons hk hd
  by_cases hm:mayC x=0
  ·have w1:IntKind.i64.wrap (k+1)=k+1:=wrap64 (by omega) (by omega)
   have hb':belowL 1 (es++[stepV x])=true:=belowL_app hb (by simp)
   obtain⟨hh,ih⟩:=ih (k+1) (es++[stepV x]) (by omega) (by omega) hd' (by simp;omega) hb'
   refine⟨hh,?_⟩
   have hmk:=make424 x hm
   have ha:=appV_0 (lo:=0) (z:=1) (bytes:=16) (es:=es) (ns:=[stepV x]) (h:=[.arr [x.v]]) (by omega) rfl (by simp[roomB];omega)
   rw[lp422_0]
   simp -implicitDefEqProofs [hlt,hg,hm,w1,hmk,codeE,ha,listOf_sl,buildSl_one 1 31 (stepV x) (by rw[step_cells];rfl) (step_ok x),gc_app (es:=es) (b:=.arr [x.v]) vpgc hb',hsrc]
   simpa using ih
  ·have hmk:=make424' x hm
   refine⟨[.arr es,.arr [x.v]],?_⟩
   rw[lp422_0]
   simp -implicitDefEqProofs [hlt,hg,hm,hmk,codeE]
def allC(l:List Ins):Option (Int ×Int):=match codeE (l.take 64) 0 with|some r=>some r|none=>if 64<l.length then some (64,2)else none
theorem all422(l:GL Ins):callRO vp 422 [GL.v 6 Ins.v l]=some (match allC l.l with
 |none=>.tup [.sl 1 (l.l.map stepV) .perm,.int .i64 l.l.length,.int .i64 0]
 |some (i,e)=>.tup [.sl 1 [] .nl,.int .i64 i,.int .i64 e]):=by
 have hle:=l.le
 rw[callRO_K fn422]
 by_cases h1:64<l.l.length
 ·have h1':(64:Int)<l.l.length:=by omega
  obtain⟨hh,h⟩:=loop422 (l.take 64) (by simp[GL.take];omega) (GL.v 6 Ins.v l) (by simp) (l.take 64).l 0 [] (by omega) (by omega) rfl rfl rfl
  have hs:=GL.slice_hi 6 Ins.v l .i64 64 (by omega) (by omega) (by omega)
  cases hc:codeE (l.take 64).l 0 with
  |none=>
   rw[hc]at h
   have hc':codeE (l.l.take 64) 0=none:=hc
   simp -implicitDefEqProofs [h1,h1',hs]at h⊢
   simp -implicitDefEqProofs [h,allC,hc',h1,h1']
  |some p=>
   obtain⟨i,e⟩:=p
   rw[hc]at h
   have hc':codeE (l.l.take 64) 0=some (i,e):=hc
   simp -implicitDefEqProofs [h1,h1',hs]at h⊢
   simp -implicitDefEqProofs [h,allC,hc',h1]
 ·have h1': ¬(64:Int)<l.l.length:=by omega
  obtain⟨hh,h⟩:=loop422 (l.take l.l.length) (by simp[GL.take];omega) (GL.v 6 Ins.v l) (by simp) (l.take l.l.length).l 0 [] (by omega) (by omega) rfl rfl rfl
  have hs:=GL.slice_hi 6 Ins.v l .i64 l.l.length (by omega) (by omega) (by omega)
  have ht:(l.take l.l.length).l=l.l:=by simp[GL.take]
  have ht':l.l.take 64=l.l:=List.take_of_length_le (by omega)
  rw[ht]at h
  have hst:closedL (l.l.map stepV)=true:=by rw[closedL_map];simp
  have hmin:foldV (fun a b=>if b<a then b else a) [.int .i64 l.l.length,.int .i64 64]=some (.int .i64 l.l.length):=by
   rw[fold_two];rw[if_neg (by omega)]
  cases hc:codeE l.l 0 with
  |none=>
   rw[hc]at h
   simp -implicitDefEqProofs only[List.nil_append,List.length_nil,List.length_map]at h
   simp -implicitDefEqProofs [h1,h1',hs,hmin,h,allC,hc,ht',optL_closed hst]
  |some p=>
   obtain⟨i,e⟩:=p
   rw[hc]at h
   simp -implicitDefEqProofs only[List.nil_append,List.length_nil,List.length_map]at h
   simp -implicitDefEqProofs [h1,h1',hs,hmin,h,allC,hc,ht']
end Go.VE.Un
namespace Go.VE.Un
open Go.VE
def firstE:List Int→Int
 |[]=>0
 |e::r=>if e=0 then firstE r else e
def intV(n:Int):V:=.int .i64 n
theorem loop507(l:List Int)(t:Tag)(hl:l.length≤1000000): ∀(r:List Int) (k:Int),0≤k→k≤l.length→l.drop k.toNat=r→(orc vp).loop 0 [5,6,7] L507_0 [(5,.sl 1 (l.map intV) t),(6,.int .i64 l.length),(7,.int .i64 k)] []=
 (if firstE r=0 then some (.brk 0,[(5,.sl 1 (l.map intV) t),(6,.int .i64 l.length),(7,.int .i64 l.length),(8,.bool false)],[])else some (.ret,[(2,.int .i64 (firstE r))],[])):=by
 intro r
 induction r with
 |nil=>
  intro k hk hkl hd
  have hle:=drop_nil hk hd
  have hlt: ¬k<l.length:=by omega
  have he:k=l.length:=by omega
  rw[lp507_0]
  simp -implicitDefEqProofs [hlt,he,firstE]
 |cons y r ih=>
  intro k hk hkl hd
  obtain⟨hg,hlt,hd'⟩:=drop_cons hk hd
  have w1:IntKind.i64.wrap (k+1)=k+1:=wrap64 (by omega) (by omega)
  have hi:=ih (k+1) (by omega) (by omega) hd'
  rw[lp507_0]
  by_cases hy:y=0
  ·simp -implicitDefEqProofs [hlt,w1,hi,hg,hy,intV,firstE]
  ·simp -implicitDefEqProofs [hlt,hg,hy,intV,firstE]
theorem first507(l:List Int)(t:Tag)(hl:l.length≤1000000):callRO vp 507 [.sl 1 (l.map intV) t]=some (.int .i64 (firstE l)):=by
 have h:=loop507 l t hl l 0 (by omega) (by omega) rfl
 rw[callRO_K fn507]
 by_cases h0:firstE l=0
 ·rw[if_pos h0]at h
  simp -implicitDefEqProofs [h,h0]
 ·rw[if_neg h0]at h
  simp -implicitDefEqProofs [h,h0]
@[simp] theorem first507_2(a b:Int)(t:Tag):callRO vp 507 [.sl 1 [.int .i64 a,.int .i64 b] t]=some (.int .i64 (firstE [a,b])):=first507 [a,b] t (by simp)
@[simp] theorem first507_3(a b c:Int)(t:Tag):callRO vp 507 [.sl 1 [.int .i64 a,.int .i64 b,.int .i64 c] t]=some (.int .i64 (firstE [a,b,c])):=first507 [a,b,c] t (by simp)
@[simp] theorem first507_6(a b c d e f:Int)(t:Tag):callRO vp 507 [.sl 1 [.int .i64 a,.int .i64 b,.int .i64 c,.int .i64 d,.int .i64 e,.int .i64 f] t]=some (.int .i64 (firstE [a,b,c,d,e,f])):=first507 [a,b,c,d,e,f] t (by simp)
def wantE(b:Bool)(e:Int):Int:=if b=true then 0 else e
@[simp] theorem wants521(b:Bool)(e:Int):callRO vp 521 [.bool b,.int .i64 e]=some (.int .i64 (wantE b e)):=by
  rw[callRO_K fn521]
  cases b<;>simp -implicitDefEqProofs [wantE]
def logE(n:Int):Int:=wantE (inB n 1 8) 7
@[simp] theorem log509(n:Int):callRO vp 509 [.int .i64 n]=some (.int .i64 (logE n)):=by
  rw[callRO_K fn509]
  simp -implicitDefEqProofs [logE,inB]
def allR(ask:Int→Int):Nat→Int→Option (Int ×Int)
 |0,_=>none
 |j+1,i=>if ask i=0 then allR ask j (i+1)else some (i,ask i)
def allE(n most:Int)(ask:Int→Int):Int ×Int:=if most<n then(0,2)else(allR ask n.toNat 0).getD (0,0)
theorem loop501(g:Nat)(a c:List V){vf:VFunc}(hfn:vp.fn g=some vf)(hrw:vf.rw=false)(hx:vf.ext=none)(hab:belowL 0 a=true)(hcb:belowL 0 c=true)(n:Int)(hn:n≤140737488355328)(ask:Int→Int)
 (hask: ∀i,0≤i→i<n→callRO vp g (a++.int .i64 i::c)=some (.int .i64 (ask i))): ∀(j:Nat) (k:Int),0≤k→k+j=max n k→(orc vp).loop 0 [2,13,14] L501_0 [(2,.func g a c),(13,.int .i64 n),(14,.int .i64 k)] []=
   (match allR ask j k with
    |none=>some (.brk 0,[(2,.func g a c),(13,.int .i64 n),(14,.int .i64 (k+j)),(15,.bool false)],[])
    |some (i,e)=>some (.ret,[(6,.int .i64 i),(7,.int .i64 e)],[])):=by
 have hro:isRO vp g=true:=by simp[isRO,hfn,hrw,hx]
 have hcall: ∀(lo:Nat) (h:Heap) (args:List V) (kv:V→Heap→Option (Ex ×Fr ×Heap)),callK (orc vp) vp lo h g args kv=roK vp h g args kv:=fun lo h args kv=>callK_ro hfn hrw hx lo h args kv
 intro j
 induction j with
 |zero=>
  intro k hk hkn
  have hlt: ¬k<n:=by omega
  rw[lp501_0]
  simp -implicitDefEqProofs [hlt,allR]
 |succ j ih=>
  intro k hk hkn
  have hlt:k<n:=by omega
  have w1:IntKind.i64.wrap (k+1)=k+1:=wrap64 (by omega) (by omega)
  have hi:=ih (k+1) (by omega) (by omega)
  have ha:=hask k hk hlt
  have hb:belowL 0 (a++.int .i64 k::c)=true:=belowL_app hab (by simp[hcb])
  have hv: ∀h:Heap,optL (viewV h) (a++.int .i64 k::c)=some (a++.int .i64 k::c):=fun h=>optL_id _ fun v hv=>viewV_below (belowL_mem hb v hv)
  rw[lp501_0]
  by_cases h0:ask k=0
  ·simp -implicitDefEqProofs [hlt,w1,hro,hcall,hv,hb,ha,h0,allR,hi,Int.add_assoc,Int.add_comm 1]
  ·simp -implicitDefEqProofs [hlt,w1,hro,hcall,hv,hb,ha,h0,allR]
theorem all501(g:Nat)(a c:List V){vf:VFunc}(hfn:vp.fn g=some vf)(hrw:vf.rw=false)(hx:vf.ext=none)(hab:belowL 0 a=true)(hcb:belowL 0 c=true)(n most:Int)(h0:0≤n)(hn:n≤140737488355328)(ask:Int→Int)
 (hask:n≤most→∀i,0≤i→i<n→callRO vp g (a++.int .i64 i::c)=some (.int .i64 (ask i))):callRO vp 501 [.int .i64 n,.int .i64 most,.func g a c]=some (.tup [.int .i64 (allE n most ask).1,.int .i64 (allE n most ask).2]):=by
 rw[callRO_K fn501]
 by_cases h:most<n
 ·simp -implicitDefEqProofs [h,allE]
 ·have hl:=loop501 g a c hfn hrw hx hab hcb n hn ask (hask (by omega)) n.toNat 0 (by omega) (by omega)
  cases hr:allR ask n.toNat 0 with
  |none=>
   rw[hr]at hl
   simp -implicitDefEqProofs [h,allE,hr,hl]
  |some p=>
   obtain⟨i,e⟩:=p
   rw[hr]at hl
   simp -implicitDefEqProofs [h,allE,hr,hl]
def idxI(x:Int):List Int→Int→Int
 |[],_=> -1
 |y::r,i=>if x=y then i else idxI x r (i+1)
theorem idxI_mem(x:Int): ∀(l:List Int) (i:Int),0≤i→((0≤idxI x l i)↔x∈l)
 |[],i,hi=>by simp[idxI]
 |y::r,i,hi=>by
  simp only[idxI]
  split
  ·rename_i h;simp[h,hi]
  ·rename_i h;rw[idxI_mem x r (i+1) (by omega)];simp[h]
theorem loop1204(x:Int)(l:List Int)(t:Tag)(hl:l.length≤140737488355328): ∀(r:List Int) (i:Int),0≤i→i≤l.length→l.drop i.toNat=r→(orc vp).loop 0 [0,1,7,8] L1204_0 [(0,.sl 1 (l.map intV) t),(1,.int .i64 x),(7,.int .i64 l.length),(8,.int .i64 i)] []=
 (if idxI x r i= -1 then some (.brk 0,[(0,.sl 1 (l.map intV) t),(1,.int .i64 x),(7,.int .i64 l.length),(8,.int .i64 l.length),(9,.bool false)],[])else some (.ret,[(4,.int .i64 (idxI x r i))],[])):=by
 intro r
 induction r with
 |nil=>
  intro i hi hil hd
  have hle:=drop_nil hi hd
  have hlt: ¬i<l.length:=by omega
  have:i=l.length:=by omega
  rw[lp1204_0]
  simp -implicitDefEqProofs [hlt,idxI,this]
 |cons y r ih=>
  intro i hi hil hd
  obtain⟨hg,hlt,hd'⟩:=drop_cons hi hd
  have w1:IntKind.i64.wrap (i+1)=i+1:=wrap64 (by omega) (by omega)
  rw[lp1204_0]
  by_cases hk:x=y
  ·have: ¬i= -1:=by omega
   have hk':(x=y)=True:=eq_true hk
   simp -implicitDefEqProofs [hlt,hg,idxI,hk',this,intV]
  ·simp -implicitDefEqProofs [hlt,hg,idxI,hk,w1,intV,ih (i+1) (by omega) (by omega) hd']
theorem index1204(x:Int)(l:List Int)(t:Tag)(hl:l.length≤140737488355328):callRO vp 1204 [.sl 1 (l.map intV) t,.int .i64 x]=some (.int .i64 (idxI x l 0)):=by
 have h:=loop1204 x l t hl l 0 (by omega) (by omega) rfl
 rw[callRO_K fn1204]
 by_cases hk:idxI x l 0= -1
 ·rw[if_pos hk]at h
  simp -implicitDefEqProofs [h,hk]
 ·rw[if_neg hk]at h
  simp -implicitDefEqProofs [h]
theorem contains1169'(x:Int)(l:List Int)(t:Tag)(hl:l.length≤140737488355328):callRO vp 1169 [.sl 1 (l.map intV) t,.int .i64 x]=some (.bool (decide (x∈l))):=by
 have h:=index1204 x l t hl
 have hb:belowL 0 (l.map intV)=true:=belowL_map (fun _=>by simp[intV]) l
 have hm:=idxI_mem x l 0 (by omega)
 rw[callRO_K fn1169]
 simp -implicitDefEqProofs [h,hb,hm]
@[simp] theorem contains1169(x:Int)(l:GL I64):callRO vp 1169 [GL.v 1 I64.v l,.int .i64 x]=some (.bool (decide (x∈l.l.map (·.n)))):=by
  have:=contains1169' x (l.l.map (·.n)) l.t (by simpa using l.le)
  rw[List.map_map]at this
  exact this
def nm(l:List GS):List (List UInt8):=l.map (·.s)
def titledE(ns:List (List UInt8))(i:Int):Int:=
 match getI ns i with
 |none=>0
 |some s=>if plainN s=false then 4 else if(ns.take i.toNat).any (fun t=>decide (keyL t=keyL s))=true then 6 else 0
theorem may641_t(s:List UInt8)(hs:s.length≤140737488355328):callRO vp 641 [.agg [.str s,.sl 2 [.agg [.str [120],.int .i64 8]] .ce,.int .i64 0,.int .i64 0,.int .i64 0,.int .i64 0]]=some (.int .i64 (if plainN s=true then 0 else 4)):=by
 have h:=may641 ⟨⟨s,hs⟩,⟨[⟨⟨[120],by decide⟩,⟨8,by omega,by omega⟩⟩],.ce,by simp⟩,I64.z,I64.z,I64.z,I64.z⟩ (by simp)
 have hp:plainN [120]=true:=by decide
 have e:mayH ⟨⟨s,hs⟩,⟨[⟨⟨[120],by decide⟩,⟨8,by omega,by omega⟩⟩],.ce,by simp⟩,I64.z,I64.z,I64.z,I64.z⟩=if plainN s=true then 0 else 4:=by
  simp[mayH,fieldsE,hp,idxK,variesB,I64.z]
  cases plainN s<;>rfl
 rw[e]at h
 exact h
theorem loop520(g:Nat)(c:List V){vf:VFunc}(hfn:vp.fn g=some vf)(hrw:vf.rw=false)(hx:vf.ext=none)(hcb:belowL 0 c=true)(ns:List (List UInt8))(s:List UInt8)(n:Int)(hn:n≤ns.length)(hl:ns.length≤140737488355328)
 (hs:s.length≤35184372088831) (hns: ∀t∈ns,t.length≤35184372088831)
 (hask: ∀i t,getI ns i=some t→callRO vp g (.int .i64 i::c)=some (.str t)): ∀(j:Nat) (k:Int),0≤k→k+j=n→(orc vp).loop 0 [1,5,18,19] L520_0 [(1,.func g [] c),(5,.str s),(18,.int .i64 n),(19,.int .i64 k)] []=(if(((ns.drop k.toNat).take j).any fun t=>decide (keyL t=keyL s))=true then some (.ret,[(4,.int .i64 6)],[])else some (.brk 0,[(1,.func g [] c),(5,.str s),(18,.int .i64 n),(19,.int .i64 n),(20,.bool false)],[])):=by
 have hro:isRO vp g=true:=by simp[isRO,hfn,hrw,hx]
 have hcall: ∀(lo:Nat) (h:Heap) (args:List V) (kv:V→Heap→Option (Ex ×Fr ×Heap)),callK (orc vp) vp lo h g args kv=roK vp h g args kv:=fun lo h args kv=>callK_ro hfn hrw hx lo h args kv
 intro j
 induction j with
 |zero=>
  intro k hk hkn
  have hlt: ¬k<n:=by omega
  have he:k=n:=by omega
  rw[lp520_0]
  simp -implicitDefEqProofs [hlt,he]
 |succ j ih=>
  intro k hk hkn
  have hlt:k<n:=by omega
  have w1:IntKind.i64.wrap (k+1)=k+1:=wrap64 (by omega) (by omega)
  have hi:=ih (k+1) (by omega) (by omega)
  have hk':k.toNat<ns.length:=by omega
  have hg:getI ns k=some ns[k.toNat]:=by simp[getI,hk,hk']
  have hd:ns.drop k.toNat=ns[k.toNat]::ns.drop (k+1).toNat:=by
   rw[show(k+1).toNat=k.toNat+1 by omega];exact List.drop_eq_getElem_cons hk'
  have ha:=hask k _ hg
  have ht:=hns _ (List.getElem_mem hk')
  have hv: ∀h:Heap,optL (viewV h) c=some c:=fun h=>optL_id _ fun v hv=>viewV_below (belowL_mem hcb v hv)
  rw[lp520_0,hd,List.take_succ_cons,List.any_cons]
  by_cases h0:keyL ns[k.toNat]=keyL s
  ·simp -implicitDefEqProofs [hlt,hro,hcall,hv,hcb,ha,h0,hs,ht]
  ·simp -implicitDefEqProofs [hlt,w1,hro,hcall,hv,hcb,ha,h0,hs,ht,hi]
theorem titled520(g:Nat)(c:List V){vf:VFunc}(hfn:vp.fn g=some vf)(hrw:vf.rw=false)(hx:vf.ext=none)(hcb:belowL 0 c=true)(ns:List (List UInt8))(n:Int)(hl:ns.length≤140737488355328)
 (hns: ∀t∈ns,t.length≤35184372088831) (hask: ∀i t,getI ns i=some t→callRO vp g (.int .i64 i::c)=some (.str t)) {s:List UInt8} (hg:getI ns n=some s):callRO vp 520 [.int .i64 n,.func g [] c]=some (.int .i64 (titledE ns n)):=by
 have hro:isRO vp g=true:=by simp[isRO,hfn,hrw,hx]
 have hcall: ∀(lo:Nat) (h:Heap) (args:List V) (kv:V→Heap→Option V),callK (orc vp) vp lo h g args kv=roK vp h g args kv:=fun lo h args kv=>callK_ro hfn hrw hx lo h args kv
 have hv: ∀h:Heap,optL (viewV h) c=some c:=fun h=>optL_id _ fun v hv=>viewV_below (belowL_mem hcb v hv)
 have ha:=hask n s hg
 have hnn:0≤n∧n<ns.length:=by
  rcases getI_cases ns n with⟨a,h0,h1,_⟩|⟨_,h1⟩
  ·exact⟨h0,h1⟩
  ·rw[h1]at hg;simp at hg
 have hs:s.length≤35184372088831:=hns s (by unfold getI at hg;rw[if_pos hnn.1]at hg;exact List.mem_of_getElem? hg)
 have hm:=may641_t s (by omega)
 have hlp:=loop520 g c hfn hrw hx hcb ns s n (by omega) hl hs hns hask n.toNat 0 (by omega) (by omega)
 simp only[Int.toNat_zero,List.drop_zero]at hlp
 rw[callRO_K fn520]
 by_cases hp:plainN s=true
 ·rw[if_pos hp]at hm
  by_cases hq:((ns.take n.toNat).any fun t=>decide (keyL t=keyL s))=true
  ·rw[if_pos hq]at hlp
   simp -implicitDefEqProofs [hro,hcall,hv,hcb,ha,pureOp,fillV,hm,hlp,titledE,hg,hp]
   simpa using hq
  ·rw[if_neg hq]at hlp
   simp -implicitDefEqProofs [hro,hcall,hv,hcb,ha,pureOp,fillV,hm,hlp,titledE,hg,hp]
   simpa using hq
 ·rw[if_neg hp]at hm
  simp -implicitDefEqProofs [hro,hcall,hv,hcb,ha,pureOp,fillV,hm,titledE,hg,hp]
end Go.VE.Un
