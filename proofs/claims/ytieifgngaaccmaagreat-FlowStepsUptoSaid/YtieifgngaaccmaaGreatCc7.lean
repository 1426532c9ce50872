/- Joined texts: CkC, CkD, CkE. No condition: what each theorem needs stands in it. -/
import Derived.Test.YtieifgngaaccmaaGreatCc6
namespace Go.VE
structure Sh where
 a:Bool
 b:Bool
 fr:Int
 to:Int
 least:Int
 most:Int
 takes:Int
 puts:Int
def Sh.v(s:Sh):V:=.agg [.bool s.a,.bool s.b,.int .i64 s.fr,.int .i64 s.to,.int .i64 s.least,.int .i64 s.most,.int .i64 s.takes,.int .i64 s.puts]
@[simp] theorem Sh.l0(s:Sh):ldc s.v false 1 0=some (.bool s.a):=rfl
@[simp] theorem Sh.l1(s:Sh):ldc s.v false 1 1=some (.bool s.b):=rfl
@[simp] theorem Sh.l2(s:Sh):ldc s.v false 1 2=some (.int .i64 s.fr):=rfl
@[simp] theorem Sh.l3(s:Sh):ldc s.v false 1 3=some (.int .i64 s.to):=rfl
@[simp] theorem Sh.l4(s:Sh):ldc s.v false 1 4=some (.int .i64 s.least):=rfl
@[simp] theorem Sh.l5(s:Sh):ldc s.v false 1 5=some (.int .i64 s.most):=rfl
@[simp] theorem Sh.l6(s:Sh):ldc s.v false 1 6=some (.int .i64 s.takes):=rfl
@[simp] theorem Sh.l7(s:Sh):ldc s.v false 1 7=some (.int .i64 s.puts):=rfl
@[simp] theorem Sh.lw(s:Sh):ldc s.v true 8 0=some s.v:=rfl
@[simp] theorem Sh.clen(s:Sh):s.v.cells.length=8:=nr rfl
@[simp] theorem Sh.ok(s:Sh):okV s.v=true:=nr rfl
@[simp] theorem Sh.below(k:Nat)(s:Sh):belowB k s.v=true:=by simp[Sh.v]
@[simp] theorem Sh.closed(s:Sh):closedB s.v=true:=by simp[Sh.v]
@[simp] theorem Sh.stw{cs:List V}(hl:cs.length=8)(s:Sh):stc (.agg cs) 8 0 s.v=some s.v:=stc_whole hl rfl
def shapes:List Sh:=[⟨false,false,0,0,0,0,0,1⟩,⟨true,true,0,31,0,15,0,1⟩,⟨true,false,0,23,0,0,0,1⟩,⟨true,false,0,7,0,0,0,1⟩,⟨true,false,0,31,0,0,0,1⟩,⟨true,false,0,7,0,0,1,1⟩,⟨false,false,0,0,0,0,1,1⟩,⟨false,false,0,0,0,0,1,1⟩,⟨true,false,0,128,0,0,1,1⟩,⟨true,false,0,128,0,0,1,1⟩,⟨true,true,0,127,0,127,1,1⟩,⟨true,false,1,128,0,0,1,1⟩,⟨false,false,0,0,0,0,2,1⟩,⟨false,false,0,0,0,0,2,1⟩,⟨false,false,0,0,0,0,2,1⟩,⟨false,false,0,0,0,0,2,1⟩,⟨false,false,0,0,0,0,2,1⟩,⟨false,false,0,0,0,0,2,1⟩,⟨false,false,0,0,0,0,2,1⟩,⟨false,false,0,0,0,0,2,1⟩,⟨false,false,0,0,0,0,2,1⟩,⟨false,false,0,0,0,0,2,1⟩,⟨true,true,0,31,0,15,1,0⟩,⟨true,false,0,23,0,0,1,0⟩,⟨true,false,0,7,0,0,2,0⟩,⟨true,false,0,31,0,0,0,0⟩,⟨true,false,0,31,0,0,0,0⟩,⟨true,true,0,15,1,4,0,0⟩,⟨true,true,0,15,1,4,0,0⟩,⟨true,false,0,7,0,0,1,0⟩,⟨true,false,0,7,0,0,1,1⟩,⟨true,false,0,64,0,0,0,0⟩,⟨true,false,0,64,0,0,1,0⟩,⟨true,true,0,31,0,64,0,0⟩,⟨false,false,0,0,0,0,0,0⟩]
def kinds:List Nat:=[282,281,275,275,283,275,279,279,279,279,280,279,286,286,286,286,286,286,286,286,286,286,281,275,275,283,283,277,277,275,275,278,278,276,285]
def Vec.same(x y:Vec):Bool:=decide (x.W.n=y.W.n)&&(decide (x.Hi.n=y.Hi.n)&&decide (x.Lo.n=y.Lo.n))
@[simp] theorem Vec.eqv(x y:Vec):eqV (some [.i,.i,.i]) x.v y.v=some (x.same y):=by
  rw[Vec.v_eq,Vec.v_eq]
  by_cases h1:x.W.n=y.W.n<;>by_cases h2:x.Hi.n=y.Hi.n<;>by_cases h3:x.Lo.n=y.Lo.n<;>simp[eqV,eqKs,eqK,Vec.same,h1,h2,h3]
end Go.VE
namespace Go.VE.Un
open Go.VE
@[simp] theorem known430(o:Int):callRO vp 430 [.int .i64 o]=some (.bool (decide (0≤o)&&decide (o<35))):=by
  rw[callRO_K fn430]
  by_cases h:0≤o<;>simp -implicitDefEqProofs [h]
@[simp] theorem within433(a b c:Int):callRO vp 433 [.int .i64 a,.int .i64 b,.int .i64 c]=some (.bool (decide (b≤a)&&decide (a≤c))):=by
  rw[callRO_K fn433]
  by_cases h:b≤a<;>simp -implicitDefEqProofs [h]
@[simp] theorem alone428(a b c d:Int):callRO vp 428 [.int .i64 a,.int .i64 b,.int .i64 c,.int .i64 d]=some (Sh.v ⟨true,false,a,b,0,0,c,d⟩):=by
  rw[callRO_K fn428]
  simp -implicitDefEqProofs [pureOp,fillV,Sh.v]
@[simp] theorem both429(a b c d e:Int):callRO vp 429 [.int .i64 a,.int .i64 b,.int .i64 c,.int .i64 d,.int .i64 e]=some (Sh.v ⟨true,true,0,a,b,c,d,e⟩):=by
  rw[callRO_K fn429]
  simp -implicitDefEqProofs [pureOp,fillV,Sh.v]
theorem ops_cases{o:Int}(h0:0≤o)(h1:o<35):o=0∨o=1∨o=2∨o=3∨o=4∨o=5∨o=6∨o=7∨o=8∨o=9∨o=10∨o=11∨o=12∨o=13∨o=14∨o=15∨o=16∨o=17∨o=18∨o=19∨o=20∨o=21∨o=22∨o=23∨o=24∨o=25∨o=26∨o=27∨o=28∨o=29∨o=30∨o=31∨o=32∨o=33∨o=34:=by omega
theorem sh432_0:callRO vp 432 [.int .i64 0]=some (Sh.v ⟨false,false,0,0,0,0,0,1⟩):=by
 rw[callRO_K fn432]
 simp -implicitDefEqProofs [pureOp,fillV,Sh.v]
theorem sh432_1:callRO vp 432 [.int .i64 1]=some (Sh.v ⟨true,true,0,31,0,15,0,1⟩):=by
 rw[callRO_K fn432]
 simp -implicitDefEqProofs [pureOp,fillV,Sh.v]
theorem sh432_2:callRO vp 432 [.int .i64 2]=some (Sh.v ⟨true,false,0,23,0,0,0,1⟩):=by
 rw[callRO_K fn432]
 simp -implicitDefEqProofs [pureOp,fillV,Sh.v]
theorem sh432_3:callRO vp 432 [.int .i64 3]=some (Sh.v ⟨true,false,0,7,0,0,0,1⟩):=by
 rw[callRO_K fn432]
 simp -implicitDefEqProofs [pureOp,fillV,Sh.v]
theorem sh432_4:callRO vp 432 [.int .i64 4]=some (Sh.v ⟨true,false,0,31,0,0,0,1⟩):=by
 rw[callRO_K fn432]
 simp -implicitDefEqProofs [pureOp,fillV,Sh.v]
theorem sh432_5:callRO vp 432 [.int .i64 5]=some (Sh.v ⟨true,false,0,7,0,0,1,1⟩):=by
 rw[callRO_K fn432]
 simp -implicitDefEqProofs [pureOp,fillV,Sh.v]
theorem sh432_6:callRO vp 432 [.int .i64 6]=some (Sh.v ⟨false,false,0,0,0,0,1,1⟩):=by
 rw[callRO_K fn432]
 simp -implicitDefEqProofs [pureOp,fillV,Sh.v]
theorem sh432_7:callRO vp 432 [.int .i64 7]=some (Sh.v ⟨false,false,0,0,0,0,1,1⟩):=by
 rw[callRO_K fn432]
 simp -implicitDefEqProofs [pureOp,fillV,Sh.v]
theorem sh432_8:callRO vp 432 [.int .i64 8]=some (Sh.v ⟨true,false,0,128,0,0,1,1⟩):=by
 rw[callRO_K fn432]
 simp -implicitDefEqProofs [pureOp,fillV,Sh.v]
theorem sh432_9:callRO vp 432 [.int .i64 9]=some (Sh.v ⟨true,false,0,128,0,0,1,1⟩):=by
 rw[callRO_K fn432]
 simp -implicitDefEqProofs [pureOp,fillV,Sh.v]
theorem sh432_10:callRO vp 432 [.int .i64 10]=some (Sh.v ⟨true,true,0,127,0,127,1,1⟩):=by
 rw[callRO_K fn432]
 simp -implicitDefEqProofs [pureOp,fillV,Sh.v]
theorem sh432_11:callRO vp 432 [.int .i64 11]=some (Sh.v ⟨true,false,1,128,0,0,1,1⟩):=by
 rw[callRO_K fn432]
 simp -implicitDefEqProofs [pureOp,fillV,Sh.v]
theorem sh432_12:callRO vp 432 [.int .i64 12]=some (Sh.v ⟨false,false,0,0,0,0,2,1⟩):=by
 rw[callRO_K fn432]
 simp -implicitDefEqProofs [pureOp,fillV,Sh.v]
theorem sh432_13:callRO vp 432 [.int .i64 13]=some (Sh.v ⟨false,false,0,0,0,0,2,1⟩):=by
 rw[callRO_K fn432]
 simp -implicitDefEqProofs [pureOp,fillV,Sh.v]
theorem sh432_14:callRO vp 432 [.int .i64 14]=some (Sh.v ⟨false,false,0,0,0,0,2,1⟩):=by
 rw[callRO_K fn432]
 simp -implicitDefEqProofs [pureOp,fillV,Sh.v]
theorem sh432_15:callRO vp 432 [.int .i64 15]=some (Sh.v ⟨false,false,0,0,0,0,2,1⟩):=by
 rw[callRO_K fn432]
 simp -implicitDefEqProofs [pureOp,fillV,Sh.v]
theorem sh432_16:callRO vp 432 [.int .i64 16]=some (Sh.v ⟨false,false,0,0,0,0,2,1⟩):=by
 rw[callRO_K fn432]
 simp -implicitDefEqProofs [pureOp,fillV,Sh.v]
theorem sh432_17:callRO vp 432 [.int .i64 17]=some (Sh.v ⟨false,false,0,0,0,0,2,1⟩):=by
 rw[callRO_K fn432]
 simp -implicitDefEqProofs [pureOp,fillV,Sh.v]
theorem sh432_18:callRO vp 432 [.int .i64 18]=some (Sh.v ⟨false,false,0,0,0,0,2,1⟩):=by
 rw[callRO_K fn432]
 simp -implicitDefEqProofs [pureOp,fillV,Sh.v]
theorem sh432_19:callRO vp 432 [.int .i64 19]=some (Sh.v ⟨false,false,0,0,0,0,2,1⟩):=by
 rw[callRO_K fn432]
 simp -implicitDefEqProofs [pureOp,fillV,Sh.v]
theorem sh432_20:callRO vp 432 [.int .i64 20]=some (Sh.v ⟨false,false,0,0,0,0,2,1⟩):=by
 rw[callRO_K fn432]
 simp -implicitDefEqProofs [pureOp,fillV,Sh.v]
theorem sh432_21:callRO vp 432 [.int .i64 21]=some (Sh.v ⟨false,false,0,0,0,0,2,1⟩):=by
 rw[callRO_K fn432]
 simp -implicitDefEqProofs [pureOp,fillV,Sh.v]
theorem sh432_22:callRO vp 432 [.int .i64 22]=some (Sh.v ⟨true,true,0,31,0,15,1,0⟩):=by
 rw[callRO_K fn432]
 simp -implicitDefEqProofs [pureOp,fillV,Sh.v]
theorem sh432_23:callRO vp 432 [.int .i64 23]=some (Sh.v ⟨true,false,0,23,0,0,1,0⟩):=by
 rw[callRO_K fn432]
 simp -implicitDefEqProofs [pureOp,fillV,Sh.v]
theorem sh432_24:callRO vp 432 [.int .i64 24]=some (Sh.v ⟨true,false,0,7,0,0,2,0⟩):=by
 rw[callRO_K fn432]
 simp -implicitDefEqProofs [pureOp,fillV,Sh.v]
theorem sh432_25:callRO vp 432 [.int .i64 25]=some (Sh.v ⟨true,false,0,31,0,0,0,0⟩):=by
 rw[callRO_K fn432]
 simp -implicitDefEqProofs [pureOp,fillV,Sh.v]
theorem sh432_26:callRO vp 432 [.int .i64 26]=some (Sh.v ⟨true,false,0,31,0,0,0,0⟩):=by
 rw[callRO_K fn432]
 simp -implicitDefEqProofs [pureOp,fillV,Sh.v]
theorem sh432_27:callRO vp 432 [.int .i64 27]=some (Sh.v ⟨true,true,0,15,1,4,0,0⟩):=by
 rw[callRO_K fn432]
 simp -implicitDefEqProofs [pureOp,fillV,Sh.v]
theorem sh432_28:callRO vp 432 [.int .i64 28]=some (Sh.v ⟨true,true,0,15,1,4,0,0⟩):=by
 rw[callRO_K fn432]
 simp -implicitDefEqProofs [pureOp,fillV,Sh.v]
theorem sh432_29:callRO vp 432 [.int .i64 29]=some (Sh.v ⟨true,false,0,7,0,0,1,0⟩):=by
 rw[callRO_K fn432]
 simp -implicitDefEqProofs [pureOp,fillV,Sh.v]
theorem sh432_30:callRO vp 432 [.int .i64 30]=some (Sh.v ⟨true,false,0,7,0,0,1,1⟩):=by
 rw[callRO_K fn432]
 simp -implicitDefEqProofs [pureOp,fillV,Sh.v]
theorem sh432_31:callRO vp 432 [.int .i64 31]=some (Sh.v ⟨true,false,0,64,0,0,0,0⟩):=by
 rw[callRO_K fn432]
 simp -implicitDefEqProofs [pureOp,fillV,Sh.v]
theorem sh432_32:callRO vp 432 [.int .i64 32]=some (Sh.v ⟨true,false,0,64,0,0,1,0⟩):=by
 rw[callRO_K fn432]
 simp -implicitDefEqProofs [pureOp,fillV,Sh.v]
theorem sh432_33:callRO vp 432 [.int .i64 33]=some (Sh.v ⟨true,true,0,31,0,64,0,0⟩):=by
 rw[callRO_K fn432]
 simp -implicitDefEqProofs [pureOp,fillV,Sh.v]
theorem sh432_34:callRO vp 432 [.int .i64 34]=some (Sh.v ⟨false,false,0,0,0,0,0,0⟩):=by
 rw[callRO_K fn432]
 simp -implicitDefEqProofs [pureOp,fillV,Sh.v]
theorem shape432(o:Int){s:Sh}(h:getI shapes o=some s):callRO vp 432 [.int .i64 o]=some s.v:=by
 have hb:0≤o∧o<35:=by
  rcases getI_cases shapes o with⟨a,h0,h1,_⟩|⟨_,h1⟩
  ·exact⟨h0,h1⟩
  ·rw[h1]at h;simp at h
 rcases ops_cases hb.1 hb.2 with rfl|rfl|rfl|rfl|rfl|rfl|rfl|rfl|rfl|rfl|rfl|rfl|rfl|rfl|rfl|rfl|rfl|rfl|rfl|rfl|rfl|rfl|rfl|rfl|rfl|rfl|rfl|rfl|rfl|rfl|rfl|rfl|rfl|rfl|rfl
 ·obtain rfl:⟨false,false,0,0,0,0,0,1⟩=s:=by simpa[getI,shapes]using h
  exact sh432_0
 ·obtain rfl:⟨true,true,0,31,0,15,0,1⟩=s:=by simpa[getI,shapes]using h
  exact sh432_1
 ·obtain rfl:⟨true,false,0,23,0,0,0,1⟩=s:=by simpa[getI,shapes]using h
  exact sh432_2
 ·obtain rfl:⟨true,false,0,7,0,0,0,1⟩=s:=by simpa[getI,shapes]using h
  exact sh432_3
 ·obtain rfl:⟨true,false,0,31,0,0,0,1⟩=s:=by simpa[getI,shapes]using h
  exact sh432_4
 ·obtain rfl:⟨true,false,0,7,0,0,1,1⟩=s:=by simpa[getI,shapes]using h
  exact sh432_5
 ·obtain rfl:⟨false,false,0,0,0,0,1,1⟩=s:=by simpa[getI,shapes]using h
  exact sh432_6
 ·obtain rfl:⟨false,false,0,0,0,0,1,1⟩=s:=by simpa[getI,shapes]using h
  exact sh432_7
 ·obtain rfl:⟨true,false,0,128,0,0,1,1⟩=s:=by simpa[getI,shapes]using h
  exact sh432_8
 ·obtain rfl:⟨true,false,0,128,0,0,1,1⟩=s:=by simpa[getI,shapes]using h
  exact sh432_9
 ·obtain rfl:⟨true,true,0,127,0,127,1,1⟩=s:=by simpa[getI,shapes]using h
  exact sh432_10
 ·obtain rfl:⟨true,false,1,128,0,0,1,1⟩=s:=by simpa[getI,shapes]using h
  exact sh432_11
 ·obtain rfl:⟨false,false,0,0,0,0,2,1⟩=s:=by simpa[getI,shapes]using h
  exact sh432_12
 ·obtain rfl:⟨false,false,0,0,0,0,2,1⟩=s:=by simpa[getI,shapes]using h
  exact sh432_13
 ·obtain rfl:⟨false,false,0,0,0,0,2,1⟩=s:=by simpa[getI,shapes]using h
  exact sh432_14
 ·obtain rfl:⟨false,false,0,0,0,0,2,1⟩=s:=by simpa[getI,shapes]using h
  exact sh432_15
 ·obtain rfl:⟨false,false,0,0,0,0,2,1⟩=s:=by simpa[getI,shapes]using h
  exact sh432_16
 ·obtain rfl:⟨false,false,0,0,0,0,2,1⟩=s:=by simpa[getI,shapes]using h
  exact sh432_17
 ·obtain rfl:⟨false,false,0,0,0,0,2,1⟩=s:=by simpa[getI,shapes]using h
  exact sh432_18
 ·obtain rfl:⟨false,false,0,0,0,0,2,1⟩=s:=by simpa[getI,shapes]using h
  exact sh432_19
 ·obtain rfl:⟨false,false,0,0,0,0,2,1⟩=s:=by simpa[getI,shapes]using h
  exact sh432_20
 ·obtain rfl:⟨false,false,0,0,0,0,2,1⟩=s:=by simpa[getI,shapes]using h
  exact sh432_21
 ·obtain rfl:⟨true,true,0,31,0,15,1,0⟩=s:=by simpa[getI,shapes]using h
  exact sh432_22
 ·obtain rfl:⟨true,false,0,23,0,0,1,0⟩=s:=by simpa[getI,shapes]using h
  exact sh432_23
 ·obtain rfl:⟨true,false,0,7,0,0,2,0⟩=s:=by simpa[getI,shapes]using h
  exact sh432_24
 ·obtain rfl:⟨true,false,0,31,0,0,0,0⟩=s:=by simpa[getI,shapes]using h
  exact sh432_25
 ·obtain rfl:⟨true,false,0,31,0,0,0,0⟩=s:=by simpa[getI,shapes]using h
  exact sh432_26
 ·obtain rfl:⟨true,true,0,15,1,4,0,0⟩=s:=by simpa[getI,shapes]using h
  exact sh432_27
 ·obtain rfl:⟨true,true,0,15,1,4,0,0⟩=s:=by simpa[getI,shapes]using h
  exact sh432_28
 ·obtain rfl:⟨true,false,0,7,0,0,1,0⟩=s:=by simpa[getI,shapes]using h
  exact sh432_29
 ·obtain rfl:⟨true,false,0,7,0,0,1,1⟩=s:=by simpa[getI,shapes]using h
  exact sh432_30
 ·obtain rfl:⟨true,false,0,64,0,0,0,0⟩=s:=by simpa[getI,shapes]using h
  exact sh432_31
 ·obtain rfl:⟨true,false,0,64,0,0,1,0⟩=s:=by simpa[getI,shapes]using h
  exact sh432_32
 ·obtain rfl:⟨true,true,0,31,0,64,0,0⟩=s:=by simpa[getI,shapes]using h
  exact sh432_33
 ·obtain rfl:⟨false,false,0,0,0,0,0,0⟩=s:=by simpa[getI,shapes]using h
  exact sh432_34
end Go.VE.Un
namespace Go.VE
@[simp] theorem cb_slnl(z:Nat):closedB (.sl z [] .nl)=true:=nr rfl
end Go.VE
namespace Go.VE.Un
open Go.VE
def mayC(x:Ins):Int:=
 match getI shapes x.Op.n with
 |none=>10
 |some s=>if inB x.A.n s.fr s.to=false∨inB x.B.n s.least s.most=false∨(x.Op.n=10∧x.A.n<x.B.n)then 7
  else if(x.Op.n=0∧x.V.good=false)∨(x.Op.n≠0∧x.V.same Vec.z=false)then 1 else 0
theorem may425(x:Ins):callRO vp 425 [x.v]=some (.int .i64 (mayC x)):=by
 rcases getI_cases shapes x.Op.n with⟨s,h0,h1,hg⟩|⟨h0,hg⟩
 ·have h1:x.Op.n<35:=h1
  have hs:=shape432 _ hg
  have hm:mayC x=if inB x.A.n s.fr s.to=false∨inB x.B.n s.least s.most=false∨(x.Op.n=10∧x.A.n<x.B.n)then 7
   else if(x.Op.n=0∧x.V.good=false)∨(x.Op.n≠0∧x.V.same Vec.z=false)then 1 else 0:=by simp only[mayC,hg]
  rw[callRO_K fn425,hm]
  clear hm hg
  by_cases c1:(decide (s.fr≤x.A.n)&&decide (x.A.n≤s.to))=true
  ·by_cases c2:(decide (s.least≤x.B.n)&&decide (x.B.n≤s.most))=true
   ·have hc:(x.Op.n=10∧x.A.n<x.B.n)∨((x.Op.n=10)=False)∨((x.Op.n=10)=True∧(x.A.n<x.B.n)=False):=by
     by_cases a:x.Op.n=10<;>by_cases b:x.A.n<x.B.n<;>simp[a,b]
    have h3: ∀{c d:Prop},(c=True)→d→c:=fun h _=>h▸trivial
    rcases hc with⟨c3,c4⟩|hc|⟨hc,hc2⟩
    ·have c3':(x.Op.n=10)=True:=eq_true c3
     simp -implicitDefEqProofs [h0,h1,hs,c1,c2,c3',c4,inB]
    ·by_cases c5:x.Op.n=0
     ·have c5':(x.Op.n=0)=True:=eq_true c5
      by_cases c6:x.V.good=true
      ·simp -implicitDefEqProofs [h0,h1,hs,c1,c2,hc,c5',c6,inB]
      ·simp -implicitDefEqProofs [h0,h1,hs,c1,c2,hc,c5',c6,inB]
     ·by_cases c6:x.V.same Vec.z=true
      ·simp -implicitDefEqProofs [h0,h1,hs,c1,c2,hc,c5,c6,inB,pureOp,fillV,vec0]
      ·simp -implicitDefEqProofs [h0,h1,hs,c1,c2,hc,c5,c6,inB,pureOp,fillV,vec0]
    ·have c5:(x.Op.n=0)=False:=eq_false (by have:=of_eq_true hc;omega)
     by_cases c6:x.V.same Vec.z=true
     ·simp -implicitDefEqProofs [h0,h1,hs,c1,c2,hc,hc2,c5,c6,inB,pureOp,fillV,vec0]
     ·simp -implicitDefEqProofs [h0,h1,hs,c1,c2,hc,hc2,c5,c6,inB,pureOp,fillV,vec0]
   ·simp only[Bool.not_eq_true]at c2
    simp -implicitDefEqProofs [h0,h1,hs,c1,c2,inB]
  ·simp only[Bool.not_eq_true]at c1
   simp -implicitDefEqProofs [h0,h1,hs,c1,inB]
 ·have hk:(decide (0≤x.Op.n)&&decide (x.Op.n<35))=false:=by
   have:shapes.length=35:=rfl
   rw[this]at h0;simp;omega
  rw[callRO_K fn425]
  simp -implicitDefEqProofs [hk,hg,mayC]
attribute [simp] may425
theorem mayC_op{x:Ins}(h:mayC x=0):0≤x.Op.n∧x.Op.n<35:=by
 rcases getI_cases shapes x.Op.n with⟨s,h0,h1,hg⟩|⟨h0,hg⟩
 ·exact⟨h0,h1⟩
 ·simp[mayC,hg]at h
def stepV(x:Ins):V:=
 match(getI kinds x.Op.n).getD 0 with
 |282=>.iface 282 x.V.v
 |281=>.iface 281 (.agg [.int .i64 x.Op.n,.int .i64 x.A.n,.int .i64 x.B.n])
 |275=>.iface 275 (.agg [.int .i64 x.Op.n,.int .i64 x.A.n])
 |283=>.iface 283 (.agg [.int .i64 x.Op.n,.int .i64 x.A.n])
 |279=>.iface 279 (.agg [.int .i64 x.Op.n,.int .i64 x.A.n])
 |280=>.iface 280 (.agg [.int .i64 x.A.n,.int .i64 x.B.n])
 |277=>.iface 277 (.agg [.int .i64 x.Op.n,.int .i64 x.A.n,.int .i64 x.B.n])
 |278=>.iface 278 (.agg [.int .i64 x.Op.n,.int .i64 x.A.n])
 |276=>.iface 276 (.agg [.int .i64 x.A.n,.int .i64 x.B.n])
 |285=>.iface 285 (.agg [])
 |_=>.iface 286 (.agg [.int .i64 x.Op.n])
@[simp] theorem step_below(k:Nat)(x:Ins):belowB k (stepV x)=true:=by
  unfold stepV;split<;>simp
@[simp] theorem step_closed(x:Ins):closedB (stepV x)=true:=by
  unfold stepV;split<;>simp
@[simp] theorem step_ok(x:Ins):okV (stepV x)=true:=by
  unfold stepV;split<;>rfl
@[simp high] theorem step_cells(x:Ins):(stepV x).cells=[stepV x]:=by
  unfold stepV;split<;>rfl
theorem make424(x:Ins)(h:mayC x=0):callRO vp 424 [x.v]=some (.tup [stepV x,.int .i64 0]):=by
 obtain⟨h0,h1⟩:=mayC_op h
 rw[callRO_K fn424]
 generalize he:x.Op.n=o at h0 h1
 rcases ops_cases h0 h1 with rfl|rfl|rfl|rfl|rfl|rfl|rfl|rfl|rfl|rfl|rfl|rfl|rfl|rfl|rfl|rfl|rfl|rfl|rfl|rfl|rfl|rfl|rfl|rfl|rfl|rfl|rfl|rfl|rfl|rfl|rfl|rfl|rfl|rfl|rfl
 ·have hv:x.V.v.cells=[.int .i64 x.V.W.n,.int .u64 x.V.Hi.n,.int .u64 x.V.Lo.n]:=rfl
  simp -implicitDefEqProofs [h,he,stepV,getI,kinds,pureOp,fillV,Vec.v_eq]
 all_goals simp -implicitDefEqProofs [h,he,stepV,getI,kinds,pureOp,fillV]
theorem make424'(x:Ins)(h:mayC x≠0):callRO vp 424 [x.v]=some (.tup [.nili,.int .i64 (mayC x)]):=by
 rw[callRO_K fn424]
 simp -implicitDefEqProofs [h]
def targetB(x:Ins):Option Int:=if x.Op.n=31∨x.Op.n=32 then some x.A.n else if x.Op.n=33 then some x.B.n else none
def codeE:List Ins→Int→Option (Int ×Int)
 |[],_=>none
 |x::r,i=>if mayC x=0 then codeE r (i+1)else some (i,mayC x)
def allC(l:List Ins):Option (Int ×Int):=match codeE (l.take 64) 0 with|some r=>some r|none=>if 64<l.length then some (64,2)else none
end Go.VE.Un
namespace Go.VE.Un
open Go.VE
def firstE:List Int→Int
 |[]=>0
 |e::r=>if e=0 then firstE r else e
def intV(n:Int):V:=.int .i64 n
theorem loop507(l:List Int)(t:Tag)(hl:l.length≤1000000): ∀(r:List Int) (k:Int),0≤k→k≤l.length→l.drop k.toNat=r→(orc vp).loop 0 [5,6,7] L507_0 [(5,.sl 1 (l.map intV) t),(6,.int .i64 l.length),(7,.int .i64 k)] []=
 (if firstE r=0 then some (.brk 0,[(5,.sl 1 (l.map intV) t),(6,.int .i64 l.length),(7,.int .i64 l.length),(8,.bool false)],[])else some (.ret,[(2,.int .i64 (firstE r))],[])):=by
 intro r
 induction r with
 |nil=>
  intro k hk hkl hd
  have hle:=drop_nil hk hd
  have hlt: ¬k<l.length:=by omega
  have he:k=l.length:=by omega
  rw[lp507_0]
  simp -implicitDefEqProofs [hlt,he,firstE]
 |cons y r ih=>
  intro k hk hkl hd
  obtain⟨hg,hlt,hd'⟩:=drop_cons hk hd
  have w1:IntKind.i64.wrap (k+1)=k+1:=wrap64 (by omega) (by omega)
  have hi:=ih (k+1) (by omega) (by omega) hd'
  rw[lp507_0]
  by_cases hy:y=0
  ·simp -implicitDefEqProofs [hlt,w1,hi,hg,hy,intV,firstE]
  ·simp -implicitDefEqProofs [hlt,hg,hy,intV,firstE]
theorem first507(l:List Int)(t:Tag)(hl:l.length≤1000000):callRO vp 507 [.sl 1 (l.map intV) t]=some (.int .i64 (firstE l)):=by
 have h:=loop507 l t hl l 0 (by omega) (by omega) rfl
 rw[callRO_K fn507]
 by_cases h0:firstE l=0
 ·rw[if_pos h0]at h
  simp -implicitDefEqProofs [h,h0]
 ·rw[if_neg h0]at h
  simp -implicitDefEqProofs [h,h0]
@[simp] theorem first507_2(a b:Int)(t:Tag):callRO vp 507 [.sl 1 [.int .i64 a,.int .i64 b] t]=some (.int .i64 (firstE [a,b])):=first507 [a,b] t (by simp)
@[simp] theorem first507_3(a b c:Int)(t:Tag):callRO vp 507 [.sl 1 [.int .i64 a,.int .i64 b,.int .i64 c] t]=some (.int .i64 (firstE [a,b,c])):=first507 [a,b,c] t (by simp)
@[simp] theorem first507_6(a b c d e f:Int)(t:Tag):callRO vp 507 [.sl 1 [.int .i64 a,.int .i64 b,.int .i64 c,.int .i64 d,.int .i64 e,.int .i64 f] t]=some (.int .i64 (firstE [a,b,c,d,e,f])):=first507 [a,b,c,d,e,f] t (by simp)
def wantE(b:Bool)(e:Int):Int:=if b=true then 0 else e
@[simp] theorem wants521(b:Bool)(e:Int):callRO vp 521 [.bool b,.int .i64 e]=some (.int .i64 (wantE b e)):=by
  rw[callRO_K fn521]
  cases b<;>simp -implicitDefEqProofs [wantE]
def logE(n:Int):Int:=wantE (inB n 1 8) 7
@[simp] theorem log509(n:Int):callRO vp 509 [.int .i64 n]=some (.int .i64 (logE n)):=by
  rw[callRO_K fn509]
  simp -implicitDefEqProofs [logE,inB]
def allR(ask:Int→Int):Nat→Int→Option (Int ×Int)
 |0,_=>none
 |j+1,i=>if ask i=0 then allR ask j (i+1)else some (i,ask i)
def allE(n most:Int)(ask:Int→Int):Int ×Int:=if most<n then(0,2)else(allR ask n.toNat 0).getD (0,0)
def idxI(x:Int):List Int→Int→Int
 |[],_=> -1
 |y::r,i=>if x=y then i else idxI x r (i+1)
theorem idxI_mem(x:Int): ∀(l:List Int) (i:Int),0≤i→((0≤idxI x l i)↔x∈l)
 |[],i,hi=>by simp[idxI]
 |y::r,i,hi=>by
  simp only[idxI]
  split
  ·rename_i h;simp[h,hi]
  ·rename_i h;rw[idxI_mem x r (i+1) (by omega)];simp[h]
theorem loop1204(x:Int)(l:List Int)(t:Tag)(hl:l.length≤140737488355328): ∀(r:List Int) (i:Int),0≤i→i≤l.length→l.drop i.toNat=r→(orc vp).loop 0 [0,1,7,8] L1204_0 [(0,.sl 1 (l.map intV) t),(1,.int .i64 x),(7,.int .i64 l.length),(8,.int .i64 i)] []=
 (if idxI x r i= -1 then some (.brk 0,[(0,.sl 1 (l.map intV) t),(1,.int .i64 x),(7,.int .i64 l.length),(8,.int .i64 l.length),(9,.bool false)],[])else some (.ret,[(4,.int .i64 (idxI x r i))],[])):=by
 intro r
 induction r with
 |nil=>
  intro i hi hil hd
  have hle:=drop_nil hi hd
  have hlt: ¬i<l.length:=by omega
  have:i=l.length:=by omega
  rw[lp1204_0]
  simp -implicitDefEqProofs [hlt,idxI,this]
 |cons y r ih=>
  intro i hi hil hd
  obtain⟨hg,hlt,hd'⟩:=drop_cons hi hd
  have w1:IntKind.i64.wrap (i+1)=i+1:=wrap64 (by omega) (by omega)
  rw[lp1204_0]
  by_cases hk:x=y
  ·have: ¬i= -1:=by omega
   have hk':(x=y)=True:=eq_true hk
   simp -implicitDefEqProofs [hlt,hg,idxI,hk',this,intV]
  ·simp -implicitDefEqProofs [hlt,hg,idxI,hk,w1,intV,ih (i+1) (by omega) (by omega) hd']
theorem index1204(x:Int)(l:List Int)(t:Tag)(hl:l.length≤140737488355328):callRO vp 1204 [.sl 1 (l.map intV) t,.int .i64 x]=some (.int .i64 (idxI x l 0)):=by
 have h:=loop1204 x l t hl l 0 (by omega) (by omega) rfl
 rw[callRO_K fn1204]
 by_cases hk:idxI x l 0= -1
 ·rw[if_pos hk]at h
  simp -implicitDefEqProofs [h,hk]
 ·rw[if_neg hk]at h
  simp -implicitDefEqProofs [h]
theorem contains1169'(x:Int)(l:List Int)(t:Tag)(hl:l.length≤140737488355328):callRO vp 1169 [.sl 1 (l.map intV) t,.int .i64 x]=some (.bool (decide (x∈l))):=by
 have h:=index1204 x l t hl
 have hb:belowL 0 (l.map intV)=true:=belowL_map (fun _=>by simp[intV]) l
 have hm:=idxI_mem x l 0 (by omega)
 rw[callRO_K fn1169]
 simp -implicitDefEqProofs [h,hb,hm]
@[simp] theorem contains1169(x:Int)(l:GL I64):callRO vp 1169 [GL.v 1 I64.v l,.int .i64 x]=some (.bool (decide (x∈l.l.map (·.n)))):=by
  have:=contains1169' x (l.l.map (·.n)) l.t (by simpa using l.le)
  rw[List.map_map]at this
  exact this
def nm(l:List GS):List (List UInt8):=l.map (·.s)
def titledE(ns:List (List UInt8))(i:Int):Int:=
 match getI ns i with
 |none=>0
 |some s=>if plainN s=false then 4 else if(ns.take i.toNat).any (fun t=>decide (keyL t=keyL s))=true then 6 else 0
end Go.VE.Un
