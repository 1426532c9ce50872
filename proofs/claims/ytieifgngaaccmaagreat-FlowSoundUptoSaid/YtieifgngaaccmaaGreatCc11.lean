/- Joined texts: CrJ, CrK. No condition: what each theorem needs stands in it. -/
import Derived.Test.YtieifgngaaccmaaGreatCc10
import Derived.Test.YtieifgngaaccmaaGreatVc0
namespace Go.VE
theorem callRO_kernel{vp:VP}{f n:Nat}{args:List V}{v:V}(h:isSomeV (((orcN vp n).call f 0 args []).bind fun r=>frz 0 r.2 4 r.1) v=true):callRO vp f args=some v:=by
 unfold callRO
 cases e:(orcN vp n).call f 0 args []with
 |none=>rw[e]at h;simp[isSomeV]at h
 |some r=>
  rw[e]at h
  rw[(orcN_le_orc vp n).call _ _ _ _ _ e]
  simp only[Option.bind_some]at h⊢
  cases e2:frz 0 r.2 4 r.1 with
  |none=>rw[e2]at h;simp[isSomeV]at h
  |some x=>rw[e2]at h;simp only[isSomeV]at h;rw[beqV_eq _ _ h]
end Go.VE
namespace Go.VE.Un
open Go.VE
structure Rw where
 name:List UInt8
 takes:Int
 puts:Int
 many:Int
 a0:Int
 a1:Int
 b0:Int
 b1:Int
 ty:List UInt8
def Rw.v(r:Rw):V:=.agg [.str r.name,.int .i64 r.takes,.int .i64 r.puts,.int .i64 r.many,.int .i64 r.a0,.int .i64 r.a1,.int .i64 r.b0,.int .i64 r.b1,.str r.ty]
def rws:List Rw:=[⟨[112,117,115,104],0,1,0,0,0,0,0,[80,117,115,104]⟩,⟨[102,105,101,108,100],0,1,2,0,31,0,15,[80,108,97,99,101]⟩,⟨[109,101,116,97],0,1,1,0,23,0,0,[67,101,108,108]⟩,⟨[112,97,114,97,109],0,1,1,0,7,0,0,[67,101,108,108]⟩,⟨[118,97,108,105,100],0,1,1,0,31,0,0,[83,108,111,116]⟩,⟨[114,101,103],1,1,1,0,7,0,0,[67,101,108,108]⟩,⟨[110,111,116],1,1,0,0,0,0,0,[79,110,101]⟩,⟨[110,101,103],1,1,0,0,0,0,0,[79,110,101]⟩,⟨[115,104,108],1,1,1,0,128,0,0,[79,110,101]⟩,⟨[115,104,114],1,1,1,0,128,0,0,[79,110,101]⟩,⟨[115,108,105,99,101],1,1,2,0,127,0,127,[80,97,114,116]⟩,⟨[99,97,115,116],1,1,1,1,128,0,0,[79,110,101]⟩,⟨[97,100,100],2,1,0,0,0,0,0,[84,119,111]⟩,⟨[115,117,98],2,1,0,0,0,0,0,[84,119,111]⟩,⟨[97,100,100,45,115,97,116],2,1,0,0,0,0,0,[84,119,111]⟩,⟨[115,117,98,45,115,97,116],2,1,0,0,0,0,0,[84,119,111]⟩,⟨[97,110,100],2,1,0,0,0,0,0,[84,119,111]⟩,⟨[111,114],2,1,0,0,0,0,0,[84,119,111]⟩,⟨[120,111,114],2,1,0,0,0,0,0,[84,119,111]⟩,⟨[99,97,116],2,1,0,0,0,0,0,[84,119,111]⟩,⟨[101,113],2,1,0,0,0,0,0,[84,119,111]⟩,⟨[108,101,115,115],2,1,0,0,0,0,0,[84,119,111]⟩,⟨[112,117,116,45,102,105,101,108,100],1,0,2,0,31,0,15,[80,108,97,99,101]⟩,
 ⟨[112,117,116,45,109,101,116,97],1,0,1,0,23,0,0,[67,101,108,108]⟩,⟨[112,117,116,45,114,101,103],2,0,1,0,7,0,0,[67,101,108,108]⟩,⟨[115,104,111,119],0,0,1,0,31,0,0,[83,108,111,116]⟩,⟨[104,105,100,101],0,0,1,0,31,0,0,[83,108,111,116]⟩,⟨[112,117,115,104,45,104,101,97,100],0,0,2,0,15,1,4,[72,101,97,100,115]⟩,⟨[112,111,112,45,104,101,97,100],0,0,2,0,15,1,4,[72,101,97,100,115]⟩,⟨[99,111,117,110,116],1,0,1,0,7,0,0,[67,101,108,108]⟩,⟨[109,101,116,101,114],1,1,1,0,7,0,0,[67,101,108,108]⟩,⟨[106,117,109,112],0,0,1,0,64,0,0,[74,117,109,112]⟩,⟨[106,117,109,112,45,122,101,114,111],1,0,1,0,64,0,0,[74,117,109,112]⟩,⟨[106,117,109,112,45,103,111,110,101],0,0,2,0,31,0,64,[71,111,110,101]⟩,⟨[115,116,111,112],0,0,0,0,0,0,0,[83,116,111,112]⟩]
theorem table827:callRO vp 827 []=some (.sl 9 (rws.map Rw.v) .ce):=callRO_kernel (n:=40) (by kernel_rfl)
theorem row_op{o:Int}(h0:0≤o)(h1:o<35): ∃r s,getI rws o=some r∧getI shapes o=some s∧r.a0=s.fr∧r.a1=s.to∧r.b0=s.least∧r.b1=s.most∧(r.name=[115,108,105,99,101]↔o=10)∧(r.name=[112,117,115,104]↔o=0):=by
 rcases ops_cases h0 h1 with rfl|rfl|rfl|rfl|rfl|rfl|rfl|rfl|rfl|rfl|rfl|rfl|rfl|rfl|rfl|rfl|rfl|rfl|rfl|rfl|rfl|rfl|rfl|rfl|rfl|rfl|rfl|rfl|rfl|rfl|rfl|rfl|rfl|rfl|rfl
 all_goals exact⟨_,_,rfl,rfl,rfl,rfl,rfl,rfl,by decide,by decide⟩
theorem shapes_len:shapes.length=35:=rfl
theorem Rw.v_eq(r:Rw):r.v=.agg [.str r.name,.int .i64 r.takes,.int .i64 r.puts,.int .i64 r.many,.int .i64 r.a0,.int .i64 r.a1,.int .i64 r.b0,.int .i64 r.b1,.str r.ty]:=rfl
theorem iaddrA_0(n B ep j o:Nat):iaddrA 2 n (.ptr B ep j o) (.int .i64 0)=some (.ptr B ep j o):=by simp[iaddrA]
theorem iaddrA_1(n B ep j o:Nat):iaddrA 2 n (.ptr B ep j o) (.int .i64 1)=some (.ptr B ep j (o+n)):=by simp[iaddrA]
set_option maxHeartbeats 1000000 in
theorem rmay826(x:Ins):callRO vp 826 [x.v]=some (.int .i64 (mayC x)):=by
 rw[callRO_K fn826]
 unfold mayC
 by_cases h0:0≤x.Op.n
 ·by_cases h1:x.Op.n<35
  ·obtain⟨r,s,hr,hs,e1,e2,e3,e4,e5,e6⟩:=row_op h0 h1
   have n0: ¬x.Op.n<0:=by omega
   have n1: ¬34<x.Op.n:=by omega
   have m1:=may785 x.V
   rw[hs]
   simp only
   have e5:(r.name=[115,108,105,99,101])=(x.Op.n=10):=propext e5
   have e6:(r.name=[112,117,115,104])=(x.Op.n=0):=propext e6
   by_cases a1:x.A.n<s.fr
   ·have i1:inB x.A.n s.fr s.to=false:=inB_split.2 (.inl a1)
    simp -implicitDefEqProofs [n0,n1,table827,hr,Rw.v_eq,iaddrA_0,iaddrA_1,e1,e2,e3,e4,a1,i1]
   ·by_cases a2:s.to<x.A.n
    ·have i1:inB x.A.n s.fr s.to=false:=inB_split.2 (.inr a2)
     simp -implicitDefEqProofs [n0,n1,table827,hr,Rw.v_eq,iaddrA_0,iaddrA_1,e1,e2,e3,e4,a1,a2,i1]
    ·have i1:inB x.A.n s.fr s.to=true:=by unfold inB;simp;omega
     by_cases a3:x.B.n<s.least
     ·have i2:inB x.B.n s.least s.most=false:=inB_split.2 (.inl a3)
      simp -implicitDefEqProofs [n0,n1,table827,hr,Rw.v_eq,iaddrA_0,iaddrA_1,e1,e2,e3,e4,a1,a2,a3,i1,i2]
     ·by_cases a4:s.most<x.B.n
      ·have i2:inB x.B.n s.least s.most=false:=inB_split.2 (.inr a4)
       simp -implicitDefEqProofs [n0,n1,table827,hr,Rw.v_eq,iaddrA_0,iaddrA_1,e1,e2,e3,e4,a1,a2,a3,a4,i1,i2]
      ·have i2:inB x.B.n s.least s.most=true:=by unfold inB;simp;omega
       by_cases o10:x.Op.n=10
       ·have o0: ¬x.Op.n=0:=by omega
        rw[eq_true o10]at e5;rw[eq_false o0]at e6
        by_cases a5:x.A.n<x.B.n
        ·rw[if_pos (.inr (.inr ⟨o10,a5⟩))]
         simp -implicitDefEqProofs [n0,n1,table827,hr,Rw.v_eq,iaddrA_0,iaddrA_1,e1,e2,e3,e4,a1,a2,a3,a4,e5,a5]
        ·rw[if_neg (by simp[i1,i2,a5])]
         by_cases v:x.V.same Vec.z=true
         ·rw[if_neg (by simp[o0,v])]
          simp -implicitDefEqProofs [n0,n1,table827,hr,Rw.v_eq,iaddrA_0,iaddrA_1,e1,e2,e3,e4,a1,a2,a3,a4,e5,a5,e6,pureOp,fillV,vec0,v]
         ·simp only[Bool.not_eq_true]at v
          rw[if_pos (by simp[o0,v])]
          simp -implicitDefEqProofs [n0,n1,table827,hr,Rw.v_eq,iaddrA_0,iaddrA_1,e1,e2,e3,e4,a1,a2,a3,a4,e5,a5,e6,pureOp,fillV,vec0,v]
       ·rw[eq_false o10]at e5
        rw[if_neg (by simp[i1,i2,o10])]
        by_cases o0:x.Op.n=0
        ·rw[eq_true o0]at e6
         cases g:x.V.good with
         |false=>
          rw[g]at m1
          rw[if_pos (by simp[o0])]
          simp -implicitDefEqProofs [n0,n1,table827,hr,Rw.v_eq,iaddrA_0,iaddrA_1,e1,e2,e3,e4,a1,a2,a3,a4,e5,e6,m1]
         |true=>
          rw[g]at m1
          rw[if_neg (by simp[o0])]
          simp -implicitDefEqProofs [n0,n1,table827,hr,Rw.v_eq,iaddrA_0,iaddrA_1,e1,e2,e3,e4,a1,a2,a3,a4,e5,e6,m1]
        ·rw[eq_false o0]at e6
         by_cases v:x.V.same Vec.z=true
         ·rw[if_neg (by simp[o0,v])]
          simp -implicitDefEqProofs [n0,n1,table827,hr,Rw.v_eq,iaddrA_0,iaddrA_1,e1,e2,e3,e4,a1,a2,a3,a4,e5,e6,pureOp,fillV,vec0,v]
         ·simp only[Bool.not_eq_true]at v
          rw[if_pos (by simp[o0,v])]
          simp -implicitDefEqProofs [n0,n1,table827,hr,Rw.v_eq,iaddrA_0,iaddrA_1,e1,e2,e3,e4,a1,a2,a3,a4,e5,e6,pureOp,fillV,vec0,v]
  ·have n1:34<x.Op.n:=by omega
   have n0: ¬x.Op.n<0:=by omega
   have hg:getI shapes x.Op.n=none:=by
    rcases getI_cases shapes x.Op.n with⟨_,_,h,_⟩|⟨_,h⟩
    ·rw[shapes_len]at h;omega
    ·exact h
   rw[hg]
   simp -implicitDefEqProofs [n0,n1]
 ·have n0:x.Op.n<0:=by omega
  have hg:getI shapes x.Op.n=none:=by
   rcases getI_cases shapes x.Op.n with⟨_,h,_,_⟩|⟨_,h⟩
   ·omega
   ·exact h
  rw[hg]
  simp -implicitDefEqProofs [n0]
end Go.VE.Un
namespace Go.VE.Un
open Go.VE
theorem row_0:rws[0]? =some ⟨[112,117,115,104],0,1,0,0,0,0,0,[80,117,115,104]⟩:=rfl
theorem refB_0(m:Image)(x:Ins)(p:Int)(he:x.Op.n=0):refersB m x p=true:=by simp[refersB,he,kinds,getI,cellB]
theorem refers844_0(m:Image)(hm:Clo m)(hb:m.Insts.l.length≤10000000)(x:Ins)(p:Int)(he:x.Op.n=0):callRO vp 844 [m.v,x.v,.int .i64 p]=some (.bool (refersB m x p)):=by
 rw[callRO_K fn844,refB_0 m x p he]
 simp -implicitDefEqProofs [table827,he,row_0,Rw.v_eq]
theorem row_1:getI rws 1=some ⟨[102,105,101,108,100],0,1,2,0,31,0,15,[80,108,97,99,101]⟩:=rfl
theorem refB_1(m:Image)(x:Ins)(p:Int)(he:x.Op.n=1):refersB m x p=(field m x.A.n x.B.n).isSome:=by simp[refersB,he,kinds,getI,cellB]
theorem refers844_1(m:Image)(hm:Clo m)(hb:m.Insts.l.length≤10000000)(x:Ins)(p:Int)(he:x.Op.n=1):callRO vp 844 [m.v,x.v,.int .i64 p]=some (.bool (refersB m x p)):=by
 have hf:=rfield830 m x.A.n x.B.n hm hb
 rw[callRO_K fn844,refB_1 m x p he]
 simp -implicitDefEqProofs [table827,he,row_1,Rw.v_eq,hf]
theorem row_2:getI rws 2=some ⟨[109,101,116,97],0,1,1,0,23,0,0,[67,101,108,108]⟩:=rfl
theorem refB_2(m:Image)(x:Ins)(p:Int)(he:x.Op.n=2):refersB m x p=(metaW m x.A.n).isSome:=by simp[refersB,he,kinds,getI,cellB]
theorem refers844_2(m:Image)(hm:Clo m)(hb:m.Insts.l.length≤10000000)(x:Ins)(p:Int)(he:x.Op.n=2):callRO vp 844 [m.v,x.v,.int .i64 p]=some (.bool (refersB m x p)):=by
 have hf:=rmeta832 m x.A.n x.A.lo x.A.hi
 rw[callRO_K fn844,refB_2 m x p he]
 simp -implicitDefEqProofs [table827,he,row_2,Rw.v_eq,hf]
theorem row_3:getI rws 3=some ⟨[112,97,114,97,109],0,1,1,0,7,0,0,[67,101,108,108]⟩:=rfl
theorem refB_3(m:Image)(x:Ins)(p:Int)(he:x.Op.n=3):refersB m x p=decide (x.A.n<p):=by simp[refersB,he,kinds,getI,cellB]
theorem refers844_3(m:Image)(hm:Clo m)(hb:m.Insts.l.length≤10000000)(x:Ins)(p:Int)(he:x.Op.n=3):callRO vp 844 [m.v,x.v,.int .i64 p]=some (.bool (refersB m x p)):=by
 rw[callRO_K fn844,refB_3 m x p he]
 simp -implicitDefEqProofs [table827,he,row_3,Rw.v_eq]
theorem row_4:getI rws 4=some ⟨[118,97,108,105,100],0,1,1,0,31,0,0,[83,108,111,116]⟩:=rfl
theorem refB_4(m:Image)(x:Ins)(p:Int)(he:x.Op.n=4):refersB m x p=(slot m x.A.n).isSome:=by simp[refersB,he,kinds,getI,cellB]
theorem refers844_4(m:Image)(hm:Clo m)(hb:m.Insts.l.length≤10000000)(x:Ins)(p:Int)(he:x.Op.n=4):callRO vp 844 [m.v,x.v,.int .i64 p]=some (.bool (refersB m x p)):=by
 have hf:=rslot834 m x.A.n hm hb
 have hz:=slot_cl hm x.A.n
 rw[callRO_K fn844,refB_4 m x p he]
 simp -implicitDefEqProofs [table827,he,row_4,Rw.v_eq,hf,hz,hdr0]
theorem row_5:getI rws 5=some ⟨[114,101,103],1,1,1,0,7,0,0,[67,101,108,108]⟩:=rfl
theorem refB_5(m:Image)(x:Ins)(p:Int)(he:x.Op.n=5):refersB m x p=decide (x.A.n<(m.Regs.l.length:Int)):=by simp[refersB,he,kinds,getI,cellB]
theorem refers844_5(m:Image)(hm:Clo m)(hb:m.Insts.l.length≤10000000)(x:Ins)(p:Int)(he:x.Op.n=5):callRO vp 844 [m.v,x.v,.int .i64 p]=some (.bool (refersB m x p)):=by
 rw[callRO_K fn844,refB_5 m x p he]
 simp -implicitDefEqProofs [table827,he,row_5,Rw.v_eq]
theorem row_6:getI rws 6=some ⟨[110,111,116],1,1,0,0,0,0,0,[79,110,101]⟩:=rfl
theorem refB_6(m:Image)(x:Ins)(p:Int)(he:x.Op.n=6):refersB m x p=true:=by simp[refersB,he,kinds,getI,cellB]
theorem refers844_6(m:Image)(hm:Clo m)(hb:m.Insts.l.length≤10000000)(x:Ins)(p:Int)(he:x.Op.n=6):callRO vp 844 [m.v,x.v,.int .i64 p]=some (.bool (refersB m x p)):=by
 rw[callRO_K fn844,refB_6 m x p he]
 simp -implicitDefEqProofs [table827,he,row_6,Rw.v_eq]
theorem row_7:getI rws 7=some ⟨[110,101,103],1,1,0,0,0,0,0,[79,110,101]⟩:=rfl
theorem refB_7(m:Image)(x:Ins)(p:Int)(he:x.Op.n=7):refersB m x p=true:=by simp[refersB,he,kinds,getI,cellB]
theorem refers844_7(m:Image)(hm:Clo m)(hb:m.Insts.l.length≤10000000)(x:Ins)(p:Int)(he:x.Op.n=7):callRO vp 844 [m.v,x.v,.int .i64 p]=some (.bool (refersB m x p)):=by
 rw[callRO_K fn844,refB_7 m x p he]
 simp -implicitDefEqProofs [table827,he,row_7,Rw.v_eq]
theorem row_8:getI rws 8=some ⟨[115,104,108],1,1,1,0,128,0,0,[79,110,101]⟩:=rfl
theorem refB_8(m:Image)(x:Ins)(p:Int)(he:x.Op.n=8):refersB m x p=true:=by simp[refersB,he,kinds,getI,cellB]
theorem refers844_8(m:Image)(hm:Clo m)(hb:m.Insts.l.length≤10000000)(x:Ins)(p:Int)(he:x.Op.n=8):callRO vp 844 [m.v,x.v,.int .i64 p]=some (.bool (refersB m x p)):=by
 rw[callRO_K fn844,refB_8 m x p he]
 simp -implicitDefEqProofs [table827,he,row_8,Rw.v_eq]
theorem row_9:getI rws 9=some ⟨[115,104,114],1,1,1,0,128,0,0,[79,110,101]⟩:=rfl
theorem refB_9(m:Image)(x:Ins)(p:Int)(he:x.Op.n=9):refersB m x p=true:=by simp[refersB,he,kinds,getI,cellB]
theorem refers844_9(m:Image)(hm:Clo m)(hb:m.Insts.l.length≤10000000)(x:Ins)(p:Int)(he:x.Op.n=9):callRO vp 844 [m.v,x.v,.int .i64 p]=some (.bool (refersB m x p)):=by
 rw[callRO_K fn844,refB_9 m x p he]
 simp -implicitDefEqProofs [table827,he,row_9,Rw.v_eq]
theorem row_10:getI rws 10=some ⟨[115,108,105,99,101],1,1,2,0,127,0,127,[80,97,114,116]⟩:=rfl
theorem refB_10(m:Image)(x:Ins)(p:Int)(he:x.Op.n=10):refersB m x p=true:=by simp[refersB,he,kinds,getI,cellB]
theorem refers844_10(m:Image)(hm:Clo m)(hb:m.Insts.l.length≤10000000)(x:Ins)(p:Int)(he:x.Op.n=10):callRO vp 844 [m.v,x.v,.int .i64 p]=some (.bool (refersB m x p)):=by
 rw[callRO_K fn844,refB_10 m x p he]
 simp -implicitDefEqProofs [table827,he,row_10,Rw.v_eq]
theorem row_11:getI rws 11=some ⟨[99,97,115,116],1,1,1,1,128,0,0,[79,110,101]⟩:=rfl
theorem refB_11(m:Image)(x:Ins)(p:Int)(he:x.Op.n=11):refersB m x p=true:=by simp[refersB,he,kinds,getI,cellB]
theorem refers844_11(m:Image)(hm:Clo m)(hb:m.Insts.l.length≤10000000)(x:Ins)(p:Int)(he:x.Op.n=11):callRO vp 844 [m.v,x.v,.int .i64 p]=some (.bool (refersB m x p)):=by
 rw[callRO_K fn844,refB_11 m x p he]
 simp -implicitDefEqProofs [table827,he,row_11,Rw.v_eq]
theorem row_12:getI rws 12=some ⟨[97,100,100],2,1,0,0,0,0,0,[84,119,111]⟩:=rfl
theorem refB_12(m:Image)(x:Ins)(p:Int)(he:x.Op.n=12):refersB m x p=true:=by simp[refersB,he,kinds,getI,cellB]
theorem refers844_12(m:Image)(hm:Clo m)(hb:m.Insts.l.length≤10000000)(x:Ins)(p:Int)(he:x.Op.n=12):callRO vp 844 [m.v,x.v,.int .i64 p]=some (.bool (refersB m x p)):=by
 rw[callRO_K fn844,refB_12 m x p he]
 simp -implicitDefEqProofs [table827,he,row_12,Rw.v_eq]
theorem row_13:getI rws 13=some ⟨[115,117,98],2,1,0,0,0,0,0,[84,119,111]⟩:=rfl
theorem refB_13(m:Image)(x:Ins)(p:Int)(he:x.Op.n=13):refersB m x p=true:=by simp[refersB,he,kinds,getI,cellB]
theorem refers844_13(m:Image)(hm:Clo m)(hb:m.Insts.l.length≤10000000)(x:Ins)(p:Int)(he:x.Op.n=13):callRO vp 844 [m.v,x.v,.int .i64 p]=some (.bool (refersB m x p)):=by
 rw[callRO_K fn844,refB_13 m x p he]
 simp -implicitDefEqProofs [table827,he,row_13,Rw.v_eq]
theorem row_14:getI rws 14=some ⟨[97,100,100,45,115,97,116],2,1,0,0,0,0,0,[84,119,111]⟩:=rfl
theorem refB_14(m:Image)(x:Ins)(p:Int)(he:x.Op.n=14):refersB m x p=true:=by simp[refersB,he,kinds,getI,cellB]
theorem refers844_14(m:Image)(hm:Clo m)(hb:m.Insts.l.length≤10000000)(x:Ins)(p:Int)(he:x.Op.n=14):callRO vp 844 [m.v,x.v,.int .i64 p]=some (.bool (refersB m x p)):=by
 rw[callRO_K fn844,refB_14 m x p he]
 simp -implicitDefEqProofs [table827,he,row_14,Rw.v_eq]
theorem row_15:getI rws 15=some ⟨[115,117,98,45,115,97,116],2,1,0,0,0,0,0,[84,119,111]⟩:=rfl
theorem refB_15(m:Image)(x:Ins)(p:Int)(he:x.Op.n=15):refersB m x p=true:=by simp[refersB,he,kinds,getI,cellB]
theorem refers844_15(m:Image)(hm:Clo m)(hb:m.Insts.l.length≤10000000)(x:Ins)(p:Int)(he:x.Op.n=15):callRO vp 844 [m.v,x.v,.int .i64 p]=some (.bool (refersB m x p)):=by
 rw[callRO_K fn844,refB_15 m x p he]
 simp -implicitDefEqProofs [table827,he,row_15,Rw.v_eq]
theorem row_16:getI rws 16=some ⟨[97,110,100],2,1,0,0,0,0,0,[84,119,111]⟩:=rfl
theorem refB_16(m:Image)(x:Ins)(p:Int)(he:x.Op.n=16):refersB m x p=true:=by simp[refersB,he,kinds,getI,cellB]
theorem refers844_16(m:Image)(hm:Clo m)(hb:m.Insts.l.length≤10000000)(x:Ins)(p:Int)(he:x.Op.n=16):callRO vp 844 [m.v,x.v,.int .i64 p]=some (.bool (refersB m x p)):=by
 rw[callRO_K fn844,refB_16 m x p he]
 simp -implicitDefEqProofs [table827,he,row_16,Rw.v_eq]
theorem row_17:getI rws 17=some ⟨[111,114],2,1,0,0,0,0,0,[84,119,111]⟩:=rfl
theorem refB_17(m:Image)(x:Ins)(p:Int)(he:x.Op.n=17):refersB m x p=true:=by simp[refersB,he,kinds,getI,cellB]
theorem refers844_17(m:Image)(hm:Clo m)(hb:m.Insts.l.length≤10000000)(x:Ins)(p:Int)(he:x.Op.n=17):callRO vp 844 [m.v,x.v,.int .i64 p]=some (.bool (refersB m x p)):=by
 rw[callRO_K fn844,refB_17 m x p he]
 simp -implicitDefEqProofs [table827,he,row_17,Rw.v_eq]
theorem row_18:getI rws 18=some ⟨[120,111,114],2,1,0,0,0,0,0,[84,119,111]⟩:=rfl
theorem refB_18(m:Image)(x:Ins)(p:Int)(he:x.Op.n=18):refersB m x p=true:=by simp[refersB,he,kinds,getI,cellB]
theorem refers844_18(m:Image)(hm:Clo m)(hb:m.Insts.l.length≤10000000)(x:Ins)(p:Int)(he:x.Op.n=18):callRO vp 844 [m.v,x.v,.int .i64 p]=some (.bool (refersB m x p)):=by
 rw[callRO_K fn844,refB_18 m x p he]
 simp -implicitDefEqProofs [table827,he,row_18,Rw.v_eq]
theorem row_19:getI rws 19=some ⟨[99,97,116],2,1,0,0,0,0,0,[84,119,111]⟩:=rfl
theorem refB_19(m:Image)(x:Ins)(p:Int)(he:x.Op.n=19):refersB m x p=true:=by simp[refersB,he,kinds,getI,cellB]
theorem refers844_19(m:Image)(hm:Clo m)(hb:m.Insts.l.length≤10000000)(x:Ins)(p:Int)(he:x.Op.n=19):callRO vp 844 [m.v,x.v,.int .i64 p]=some (.bool (refersB m x p)):=by
 rw[callRO_K fn844,refB_19 m x p he]
 simp -implicitDefEqProofs [table827,he,row_19,Rw.v_eq]
theorem row_20:getI rws 20=some ⟨[101,113],2,1,0,0,0,0,0,[84,119,111]⟩:=rfl
theorem refB_20(m:Image)(x:Ins)(p:Int)(he:x.Op.n=20):refersB m x p=true:=by simp[refersB,he,kinds,getI,cellB]
theorem refers844_20(m:Image)(hm:Clo m)(hb:m.Insts.l.length≤10000000)(x:Ins)(p:Int)(he:x.Op.n=20):callRO vp 844 [m.v,x.v,.int .i64 p]=some (.bool (refersB m x p)):=by
 rw[callRO_K fn844,refB_20 m x p he]
 simp -implicitDefEqProofs [table827,he,row_20,Rw.v_eq]
theorem row_21:getI rws 21=some ⟨[108,101,115,115],2,1,0,0,0,0,0,[84,119,111]⟩:=rfl
theorem refB_21(m:Image)(x:Ins)(p:Int)(he:x.Op.n=21):refersB m x p=true:=by simp[refersB,he,kinds,getI,cellB]
theorem refers844_21(m:Image)(hm:Clo m)(hb:m.Insts.l.length≤10000000)(x:Ins)(p:Int)(he:x.Op.n=21):callRO vp 844 [m.v,x.v,.int .i64 p]=some (.bool (refersB m x p)):=by
 rw[callRO_K fn844,refB_21 m x p he]
 simp -implicitDefEqProofs [table827,he,row_21,Rw.v_eq]
theorem row_22:getI rws 22=some ⟨[112,117,116,45,102,105,101,108,100],1,0,2,0,31,0,15,[80,108,97,99,101]⟩:=rfl
theorem refB_22(m:Image)(x:Ins)(p:Int)(he:x.Op.n=22):refersB m x p=(field m x.A.n x.B.n).isSome:=by simp[refersB,he,kinds,getI,cellB]
theorem refers844_22(m:Image)(hm:Clo m)(hb:m.Insts.l.length≤10000000)(x:Ins)(p:Int)(he:x.Op.n=22):callRO vp 844 [m.v,x.v,.int .i64 p]=some (.bool (refersB m x p)):=by
 have hf:=rfield830 m x.A.n x.B.n hm hb
 rw[callRO_K fn844,refB_22 m x p he]
 simp -implicitDefEqProofs [table827,he,row_22,Rw.v_eq,hf]
theorem row_23:getI rws 23=some ⟨[112,117,116,45,109,101,116,97],1,0,1,0,23,0,0,[67,101,108,108]⟩:=rfl
theorem refB_23(m:Image)(x:Ins)(p:Int)(he:x.Op.n=23):refersB m x p=(metaW m x.A.n).isSome:=by simp[refersB,he,kinds,getI,cellB]
theorem refers844_23(m:Image)(hm:Clo m)(hb:m.Insts.l.length≤10000000)(x:Ins)(p:Int)(he:x.Op.n=23):callRO vp 844 [m.v,x.v,.int .i64 p]=some (.bool (refersB m x p)):=by
 have hf:=rmeta832 m x.A.n x.A.lo x.A.hi
 rw[callRO_K fn844,refB_23 m x p he]
 simp -implicitDefEqProofs [table827,he,row_23,Rw.v_eq,hf]
theorem row_24:getI rws 24=some ⟨[112,117,116,45,114,101,103],2,0,1,0,7,0,0,[67,101,108,108]⟩:=rfl
theorem refB_24(m:Image)(x:Ins)(p:Int)(he:x.Op.n=24):refersB m x p=decide (x.A.n<(m.Regs.l.length:Int)):=by simp[refersB,he,kinds,getI,cellB]
theorem refers844_24(m:Image)(hm:Clo m)(hb:m.Insts.l.length≤10000000)(x:Ins)(p:Int)(he:x.Op.n=24):callRO vp 844 [m.v,x.v,.int .i64 p]=some (.bool (refersB m x p)):=by
 rw[callRO_K fn844,refB_24 m x p he]
 simp -implicitDefEqProofs [table827,he,row_24,Rw.v_eq]
theorem row_25:getI rws 25=some ⟨[115,104,111,119],0,0,1,0,31,0,0,[83,108,111,116]⟩:=rfl
theorem refB_25(m:Image)(x:Ins)(p:Int)(he:x.Op.n=25):refersB m x p=(slot m x.A.n).isSome:=by simp[refersB,he,kinds,getI,cellB]
theorem refers844_25(m:Image)(hm:Clo m)(hb:m.Insts.l.length≤10000000)(x:Ins)(p:Int)(he:x.Op.n=25):callRO vp 844 [m.v,x.v,.int .i64 p]=some (.bool (refersB m x p)):=by
 have hf:=rslot834 m x.A.n hm hb
 have hz:=slot_cl hm x.A.n
 rw[callRO_K fn844,refB_25 m x p he]
 simp -implicitDefEqProofs [table827,he,row_25,Rw.v_eq,hf,hz,hdr0]
theorem row_26:getI rws 26=some ⟨[104,105,100,101],0,0,1,0,31,0,0,[83,108,111,116]⟩:=rfl
theorem refB_26(m:Image)(x:Ins)(p:Int)(he:x.Op.n=26):refersB m x p=(slot m x.A.n).isSome:=by simp[refersB,he,kinds,getI,cellB]
theorem refers844_26(m:Image)(hm:Clo m)(hb:m.Insts.l.length≤10000000)(x:Ins)(p:Int)(he:x.Op.n=26):callRO vp 844 [m.v,x.v,.int .i64 p]=some (.bool (refersB m x p)):=by
 have hf:=rslot834 m x.A.n hm hb
 have hz:=slot_cl hm x.A.n
 rw[callRO_K fn844,refB_26 m x p he]
 simp -implicitDefEqProofs [table827,he,row_26,Rw.v_eq,hf,hz,hdr0]
theorem row_27:getI rws 27=some ⟨[112,117,115,104,45,104,101,97,100],0,0,2,0,15,1,4,[72,101,97,100,115]⟩:=rfl
theorem refB_27(m:Image)(x:Ins)(p:Int)(he:x.Op.n=27):refersB m x p=(stacked m x.A.n).isSome:=by simp[refersB,he,kinds,getI,cellB]
theorem refers844_27(m:Image)(hm:Clo m)(hb:m.Insts.l.length≤10000000)(x:Ins)(p:Int)(he:x.Op.n=27):callRO vp 844 [m.v,x.v,.int .i64 p]=some (.bool (refersB m x p)):=by
 have hst: ∃a b,callRO vp 835 [m.v,.int .i64 x.A.n]=some (.tup [.int .i64 a,.int .i64 b,.bool (stacked m x.A.n).isSome]):=by
  have:=rstacked835 m x.A.n hb
  cases hs:stacked m x.A.n with
  |none=>rw[hs]at this;exact⟨0,0,this⟩
  |some q=>obtain⟨a,b⟩:=q;rw[hs]at this;exact⟨a,b,this⟩
 obtain⟨sa,sb,hst⟩:=hst
 rw[callRO_K fn844,refB_27 m x p he]
 simp -implicitDefEqProofs [table827,he,row_27,Rw.v_eq,hst]
theorem row_28:getI rws 28=some ⟨[112,111,112,45,104,101,97,100],0,0,2,0,15,1,4,[72,101,97,100,115]⟩:=rfl
theorem refB_28(m:Image)(x:Ins)(p:Int)(he:x.Op.n=28):refersB m x p=(stacked m x.A.n).isSome:=by simp[refersB,he,kinds,getI,cellB]
theorem refers844_28(m:Image)(hm:Clo m)(hb:m.Insts.l.length≤10000000)(x:Ins)(p:Int)(he:x.Op.n=28):callRO vp 844 [m.v,x.v,.int .i64 p]=some (.bool (refersB m x p)):=by
 have hst: ∃a b,callRO vp 835 [m.v,.int .i64 x.A.n]=some (.tup [.int .i64 a,.int .i64 b,.bool (stacked m x.A.n).isSome]):=by
  have:=rstacked835 m x.A.n hb
  cases hs:stacked m x.A.n with
  |none=>rw[hs]at this;exact⟨0,0,this⟩
  |some q=>obtain⟨a,b⟩:=q;rw[hs]at this;exact⟨a,b,this⟩
 obtain⟨sa,sb,hst⟩:=hst
 rw[callRO_K fn844,refB_28 m x p he]
 simp -implicitDefEqProofs [table827,he,row_28,Rw.v_eq,hst]
theorem row_29:getI rws 29=some ⟨[99,111,117,110,116],1,0,1,0,7,0,0,[67,101,108,108]⟩:=rfl
theorem refB_29(m:Image)(x:Ins)(p:Int)(he:x.Op.n=29):refersB m x p=decide (x.A.n<(m.Counters.l.length:Int)):=by simp[refersB,he,kinds,getI,cellB]
theorem refers844_29(m:Image)(hm:Clo m)(hb:m.Insts.l.length≤10000000)(x:Ins)(p:Int)(he:x.Op.n=29):callRO vp 844 [m.v,x.v,.int .i64 p]=some (.bool (refersB m x p)):=by
 rw[callRO_K fn844,refB_29 m x p he]
 simp -implicitDefEqProofs [table827,he,row_29,Rw.v_eq]
theorem row_30:getI rws 30=some ⟨[109,101,116,101,114],1,1,1,0,7,0,0,[67,101,108,108]⟩:=rfl
theorem refB_30(m:Image)(x:Ins)(p:Int)(he:x.Op.n=30):refersB m x p=decide (x.A.n<(m.Meters.l.length:Int)):=by simp[refersB,he,kinds,getI,cellB]
theorem refers844_30(m:Image)(hm:Clo m)(hb:m.Insts.l.length≤10000000)(x:Ins)(p:Int)(he:x.Op.n=30):callRO vp 844 [m.v,x.v,.int .i64 p]=some (.bool (refersB m x p)):=by
 rw[callRO_K fn844,refB_30 m x p he]
 simp -implicitDefEqProofs [table827,he,row_30,Rw.v_eq]
theorem row_31:getI rws 31=some ⟨[106,117,109,112],0,0,1,0,64,0,0,[74,117,109,112]⟩:=rfl
theorem refB_31(m:Image)(x:Ins)(p:Int)(he:x.Op.n=31):refersB m x p=true:=by simp[refersB,he,kinds,getI,cellB]
theorem refers844_31(m:Image)(hm:Clo m)(hb:m.Insts.l.length≤10000000)(x:Ins)(p:Int)(he:x.Op.n=31):callRO vp 844 [m.v,x.v,.int .i64 p]=some (.bool (refersB m x p)):=by
 rw[callRO_K fn844,refB_31 m x p he]
 simp -implicitDefEqProofs [table827,he,row_31,Rw.v_eq]
theorem row_32:getI rws 32=some ⟨[106,117,109,112,45,122,101,114,111],1,0,1,0,64,0,0,[74,117,109,112]⟩:=rfl
theorem refB_32(m:Image)(x:Ins)(p:Int)(he:x.Op.n=32):refersB m x p=true:=by simp[refersB,he,kinds,getI,cellB]
theorem refers844_32(m:Image)(hm:Clo m)(hb:m.Insts.l.length≤10000000)(x:Ins)(p:Int)(he:x.Op.n=32):callRO vp 844 [m.v,x.v,.int .i64 p]=some (.bool (refersB m x p)):=by
 rw[callRO_K fn844,refB_32 m x p he]
 simp -implicitDefEqProofs [table827,he,row_32,Rw.v_eq]
theorem row_33:getI rws 33=some ⟨[106,117,109,112,45,103,111,110,101],0,0,2,0,31,0,64,[71,111,110,101]⟩:=rfl
theorem refB_33(m:Image)(x:Ins)(p:Int)(he:x.Op.n=33):refersB m x p=(slot m x.A.n).isSome:=by simp[refersB,he,kinds,getI,cellB]
theorem refers844_33(m:Image)(hm:Clo m)(hb:m.Insts.l.length≤10000000)(x:Ins)(p:Int)(he:x.Op.n=33):callRO vp 844 [m.v,x.v,.int .i64 p]=some (.bool (refersB m x p)):=by
 have hf:=rslot834 m x.A.n hm hb
 have hz:=slot_cl hm x.A.n
 rw[callRO_K fn844,refB_33 m x p he]
 simp -implicitDefEqProofs [table827,he,row_33,Rw.v_eq,hf,hz,hdr0]
theorem row_34:getI rws 34=some ⟨[115,116,111,112],0,0,0,0,0,0,0,[83,116,111,112]⟩:=rfl
theorem refB_34(m:Image)(x:Ins)(p:Int)(he:x.Op.n=34):refersB m x p=true:=by simp[refersB,he,kinds,getI,cellB]
theorem refers844_34(m:Image)(hm:Clo m)(hb:m.Insts.l.length≤10000000)(x:Ins)(p:Int)(he:x.Op.n=34):callRO vp 844 [m.v,x.v,.int .i64 p]=some (.bool (refersB m x p)):=by
 rw[callRO_K fn844,refB_34 m x p he]
 simp -implicitDefEqProofs [table827,he,row_34,Rw.v_eq]
theorem rrefers844(m:Image)(hm:Clo m)(hb:m.Insts.l.length≤10000000)(x:Ins)(p:Int)(h0:0≤x.Op.n)(h1:x.Op.n<35):callRO vp 844 [m.v,x.v,.int .i64 p]=some (.bool (refersB m x p)):=by
 rcases ops_cases h0 h1 with h|h|h|h|h|h|h|h|h|h|h|h|h|h|h|h|h|h|h|h|h|h|h|h|h|h|h|h|h|h|h|h|h|h|h
 ·exact refers844_0 m hm hb x p h
 ·exact refers844_1 m hm hb x p h
 ·exact refers844_2 m hm hb x p h
 ·exact refers844_3 m hm hb x p h
 ·exact refers844_4 m hm hb x p h
 ·exact refers844_5 m hm hb x p h
 ·exact refers844_6 m hm hb x p h
 ·exact refers844_7 m hm hb x p h
 ·exact refers844_8 m hm hb x p h
 ·exact refers844_9 m hm hb x p h
 ·exact refers844_10 m hm hb x p h
 ·exact refers844_11 m hm hb x p h
 ·exact refers844_12 m hm hb x p h
 ·exact refers844_13 m hm hb x p h
 ·exact refers844_14 m hm hb x p h
 ·exact refers844_15 m hm hb x p h
 ·exact refers844_16 m hm hb x p h
 ·exact refers844_17 m hm hb x p h
 ·exact refers844_18 m hm hb x p h
 ·exact refers844_19 m hm hb x p h
 ·exact refers844_20 m hm hb x p h
 ·exact refers844_21 m hm hb x p h
 ·exact refers844_22 m hm hb x p h
 ·exact refers844_23 m hm hb x p h
 ·exact refers844_24 m hm hb x p h
 ·exact refers844_25 m hm hb x p h
 ·exact refers844_26 m hm hb x p h
 ·exact refers844_27 m hm hb x p h
 ·exact refers844_28 m hm hb x p h
 ·exact refers844_29 m hm hb x p h
 ·exact refers844_30 m hm hb x p h
 ·exact refers844_31 m hm hb x p h
 ·exact refers844_32 m hm hb x p h
 ·exact refers844_33 m hm hb x p h
 ·exact refers844_34 m hm hb x p h
theorem row_ty{o:Int}(h0:0≤o)(h1:o<35): ∃r,getI rws o=some r∧(r.ty=[74,117,109,112]↔(o=31∨o=32))∧(r.ty=[71,111,110,101]↔o=33):=by
 rcases ops_cases h0 h1 with rfl|rfl|rfl|rfl|rfl|rfl|rfl|rfl|rfl|rfl|rfl|rfl|rfl|rfl|rfl|rfl|rfl|rfl|rfl|rfl|rfl|rfl|rfl|rfl|rfl|rfl|rfl|rfl|rfl|rfl|rfl|rfl|rfl|rfl|rfl
 all_goals exact⟨_,rfl,by decide,by decide⟩
theorem loop829_1(m:Image)(l:GL Ins)(p:V): ∀(r:List Ins) (k:Int),0≤k→k≤l.l.length→k≤64→(l.l.take 64).drop k.toNat=r→∃h,(orc vp).loop 0 [1,2,3,7] L829_1 [(1,GL.v 6 Ins.v l),(2,p),(3,.ptr 0 1 0 0),(7,.int .i64 k)] [.arr [m.v]]=
 (match codeE r k with
  |none=>some (.brk 0,[(1,GL.v 6 Ins.v l),(2,p),(3,.ptr 0 1 0 0),(7,.int .i64 (k+r.length)),(19,.bool false)],[.arr [m.v]])
  |some (_,e)=>some (.ret,[(6,.int .i64 e)],h)):=by
 have hle:=l.le
 intro r
 induction r with
 |nil=>
  intro k hk hkl h64 hd
  refine⟨[],?_⟩
  have hle:=drop_nil hk hd
  rw[lp829_1]
  by_cases c:k<l.l.length
  ·have c2: ¬k<64:=by simp at hle;omega
   simp -implicitDefEqProofs [c,c2,codeE]
  ·simp -implicitDefEqProofs [c,codeE]
 |cons x r ih=>
  intro k hk hkl h64 hd
  obtain⟨hg,hlt,hd'⟩:=drop_cons hk hd
  have c1:k<l.l.length:=by simp at hlt;omega
  have c2:k<64:=by simp at hlt;omega
  rw[show(64:Nat)=(64:Int).toNat from rfl,getI_take hk c2]at hg
  have w1:IntKind.i64.wrap (k+1)=k+1:=wrap64 (by omega) (by omega)
  have hm:=rmay826 x
  rw[lp829_1]
  by_cases c:mayC x=0
  ·obtain⟨h,ih⟩:=ih (k+1) (by omega) (by omega) (by omega) hd'
   have e:k+1+(r.length:Int)=k+((x::r).length:Nat):=by simp only[List.length_cons];omega
   rw[e]at ih
   refine⟨h,?_⟩
   simp -implicitDefEqProofs [c1,c2,hg,hm,c,w1,codeE]at ih⊢
   exact ih
  ·refine⟨[.arr [m.v]],?_⟩
   simp -implicitDefEqProofs [c1,c2,hg,hm,c,codeE]
theorem loop829_0(m:Image)(hm:Clo m)(hb:m.Insts.l.length≤10000000)(l:GL Ins)(p:Int)(hl: ∀x∈l.l,mayC x=0): ∀(r:List Ins) (k:Int),0≤k→k≤l.l.length→l.l.drop k.toNat=r→∃h,(orc vp).loop 0 [1,2,3,9] L829_0 [(1,GL.v 6 Ins.v l),(2,.int .i64 p),(3,.ptr 0 1 0 0),(9,.int .i64 k)] [.arr [m.v]]=
 (if stepsE m p l.l.length r k=0 then some (.brk 2,[(1,GL.v 6 Ins.v l),(2,.int .i64 p),(3,.ptr 0 1 0 0),(9,.int .i64 l.l.length),(36,.bool false)],[.arr [m.v]])
  else some (.ret,[(6,.int .i64 (stepsE m p l.l.length r k))],h)):=by
 have hle:=l.le
 intro r
 induction r with
 |nil=>
  intro k hk hkl hd
  refine⟨[],?_⟩
  have hle:=drop_nil hk hd
  have hlt: ¬k<l.l.length:=by omega
  have he:k=l.l.length:=by omega
  rw[lp829_0]
  simp -implicitDefEqProofs [hlt,he,stepsE]
 |cons x r ih=>
  intro k hk hkl hd
  obtain⟨hg,hlt,hd'⟩:=drop_cons hk hd
  have w1:IntKind.i64.wrap (k+1)=k+1:=wrap64 (by omega) (by omega)
  obtain⟨h,ih⟩:=ih (k+1) (by omega) (by omega) hd'
  have hx:=hl x (getI_mem hg)
  obtain⟨o0,o1⟩:=mayC_op hx
  have hr:=rrefers844 m hm hb x p o0 o1
  obtain⟨rw',hrw,t1,t2⟩:=row_ty o0 o1
  have t1:(rw'.ty=[74,117,109,112])=(x.Op.n=31∨x.Op.n=32):=propext t1
  have t2:(rw'.ty=[71,111,110,101])=(x.Op.n=33):=propext t2
  have hst:stepsE m p l.l.length (x::r) k=if stepE m p l.l.length k x=0 then stepsE m p l.l.length r (k+1)else stepE m p l.l.length k x:=rfl
  have hs2:stepE m p l.l.length k x=if refersB m x p=false then 5 else match targetB x with|some to=>wantE (inB to (k+1) l.l.length) 12|none=>0:=rfl
  generalize stepsE m p l.l.length r (k+1)=S at*
  generalize stepE m p l.l.length k x=E at*
  rw[hst,lp829_0]
  by_cases c1:refersB m x p=true
  ·rw[if_neg (by simp[c1])]at hs2
   by_cases j1:x.Op.n=31∨x.Op.n=32
   ·have j3: ¬x.Op.n=33:=by omega
    have jt:targetB x=some x.A.n:=by unfold targetB;rw[if_pos j1]
    rw[eq_true j1]at t1;rw[eq_false j3]at t2
    rw[jt]at hs2
    simp only at hs2
    by_cases g0:0≤x.A.n
    ·by_cases g1:x.A.n≤k
     ·have e:wantE (inB x.A.n (k+1) l.l.length) 12=12:=by rw[inB_split.2 (.inl (by omega))];rfl
      rw[e]at hs2;subst hs2
      refine⟨[.arr [m.v]],?_⟩
      simp -implicitDefEqProofs [hlt,hg,hr,c1,table827,hrw,Rw.v_eq,t1,t2,g0,g1,e]
     ·by_cases g2:(l.l.length:Int)<x.A.n
      ·have e:wantE (inB x.A.n (k+1) l.l.length) 12=12:=by rw[inB_split.2 (.inr g2)];rfl
       rw[e]at hs2;subst hs2
       refine⟨[.arr [m.v]],?_⟩
       simp -implicitDefEqProofs [hlt,hg,hr,c1,table827,hrw,Rw.v_eq,t1,t2,g0,g1,g2,e]
      ·have e:wantE (inB x.A.n (k+1) l.l.length) 12=0:=by unfold wantE;rw[if_pos (by unfold inB;simp;omega)]
       rw[e]at hs2;subst hs2
       refine⟨h,?_⟩
       rw[if_pos rfl]
       by_cases d:S=0<;>simp only[d,eq_self,if_true,if_false]at ih⊢ <;>
       simp -implicitDefEqProofs [hlt,hg,hr,c1,table827,hrw,Rw.v_eq,t1,t2,g0,g1,g2,e,w1,ih]
    ·have hA:=mayC_A hx (s:=(getI shapes x.Op.n).getD ⟨false,false,0,0,0,0,0,0⟩) (by rcases j1 with j|j<;>rw[j]<;>rfl)
     exfalso
     rcases j1 with j|j<;>rw[j]at hA<;>exact g0 hA
   ·by_cases j3:x.Op.n=33
    ·have jt:targetB x=some x.B.n:=by unfold targetB;rw[if_neg j1,if_pos j3]
     rw[eq_false j1]at t1;rw[eq_true j3]at t2
     rw[jt]at hs2
     simp only at hs2
     by_cases g0:0≤x.B.n
     ·by_cases g1:x.B.n≤k
      ·have e:wantE (inB x.B.n (k+1) l.l.length) 12=12:=by rw[inB_split.2 (.inl (by omega))];rfl
       rw[e]at hs2;subst hs2
       refine⟨[.arr [m.v]],?_⟩
       simp -implicitDefEqProofs [hlt,hg,hr,c1,table827,hrw,Rw.v_eq,t1,t2,g0,g1,e]
      ·by_cases g2:(l.l.length:Int)<x.B.n
       ·have e:wantE (inB x.B.n (k+1) l.l.length) 12=12:=by rw[inB_split.2 (.inr g2)];rfl
        rw[e]at hs2;subst hs2
        refine⟨[.arr [m.v]],?_⟩
        simp -implicitDefEqProofs [hlt,hg,hr,c1,table827,hrw,Rw.v_eq,t1,t2,g0,g1,g2,e]
       ·have e:wantE (inB x.B.n (k+1) l.l.length) 12=0:=by unfold wantE;rw[if_pos (by unfold inB;simp;omega)]
        rw[e]at hs2;subst hs2
        refine⟨h,?_⟩
        rw[if_pos rfl]
        by_cases d:S=0<;>simp only[d,eq_self,if_true,if_false]at ih⊢ <;>
        simp -implicitDefEqProofs [hlt,hg,hr,c1,table827,hrw,Rw.v_eq,t1,t2,g0,g1,g2,e,w1,ih]
     ·exfalso
      unfold mayC at hx
      rw[j3]at hx
      simp[getI,shapes,inB]at hx
      omega
    ·have jt:targetB x=none:=by unfold targetB;rw[if_neg j1,if_neg j3]
     rw[eq_false j1]at t1;rw[eq_false j3]at t2
     rw[jt]at hs2
     simp only at hs2
     subst hs2
     refine⟨h,?_⟩
     rw[if_pos rfl]
     by_cases d:S=0<;>simp only[d,eq_self,if_true,if_false]at ih⊢ <;>
     simp -implicitDefEqProofs [hlt,hg,hr,c1,table827,hrw,Rw.v_eq,t1,t2,w1,ih]
  ·simp only[Bool.not_eq_true]at c1
   rw[if_pos c1]at hs2
   subst hs2
   refine⟨[.arr [m.v]],?_⟩
   simp -implicitDefEqProofs [hlt,hg,hr,c1]
theorem rcode829(m:Image)(hm:Clo m)(hb:m.Insts.l.length≤10000000)(l:GL Ins)(p:Int):callRO vp 829 [m.v,GL.v 6 Ins.v l,.int .i64 p]=some (.int .i64 (codeF m l.l p)):=by
 obtain⟨h1,l1⟩:=loop829_1 m l (.int .i64 p) (l.l.take 64) 0 (by omega) (by omega) (by omega) rfl
 rw[callRO_K fn829]
 unfold codeF
 unfold allC
 cases hc:codeE (l.l.take 64) 0 with
 |some q=>
  obtain⟨i,e⟩:=q
  rw[hc]at l1
  simp -implicitDefEqProofs [l1]
 |none=>
  rw[hc]at l1
  by_cases c:64<l.l.length
  ·have c':(64:Int)<l.l.length:=by omega
   simp -implicitDefEqProofs at l1
   simp -implicitDefEqProofs [l1,c,c']
  ·have c': ¬(64:Int)<l.l.length:=by omega
   rw[List.take_of_length_le (by omega)]at hc l1
   obtain⟨h,l0⟩:=loop829_0 m hm hb l p (codeE_none _ _ hc) l.l 0 (by omega) (by omega) rfl
   rw[if_neg c]
   by_cases d:stepsE m p l.l.length l.l 0=0
   ·rw[if_pos d]at l0
    simp -implicitDefEqProofs [l1,l0,c',d]
   ·rw[if_neg d]at l0
    simp -implicitDefEqProofs [l1,l0,c',d]
end Go.VE.Un
