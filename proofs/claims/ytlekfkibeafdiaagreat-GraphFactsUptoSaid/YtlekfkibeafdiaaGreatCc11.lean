/- Joined texts: CrJ, CrK. No condition: what each theorem needs stands in it. -/
import Derived.Test.YtlekfkibeafdiaaGreatCc10
import Derived.Test.YtlekfkibeafdiaaGreatVc0
namespace Go.VE
theorem Zba{vp:VP}{f n:Nat}{args:List V}{v:V}(h:ZT (((YV vp n).call f 0 args []).bind fun r=>frz 0 r.2 4 r.1) v=true):Zc vp f args=some v:=by
 unfold Zc
 cases e:(YV vp n).call f 0 args []with
 |none=>rw[e]at h;simp[ZT]at h
 |some r=>
  rw[e]at h
  rw[(WA vp n).call _ _ _ _ _ e]
  simp only[Option.bind_some]at h⊢
  cases e2:frz 0 r.2 4 r.1 with
  |none=>rw[e2]at h;simp[ZT]at h
  |some x=>rw[e2]at h;simp only[ZT]at h;rw[JQ _ _ h]
end Go.VE
namespace Go.VE.Un
open Go.VE
structure Rw where
 name:List UInt8
 takes:Int
 puts:Int
 many:Int
 a0:Int
 a1:Int
 b0:Int
 b1:Int
 ty:List UInt8
def Rw.v(r:Rw):V:=.agg [.str r.name,.int .i64 r.takes,.int .i64 r.puts,.int .i64 r.many,.int .i64 r.a0,.int .i64 r.a1,.int .i64 r.b0,.int .i64 r.b1,.str r.ty]
def rws:List Rw:=[⟨[112,117,115,104],0,1,0,0,0,0,0,[80,117,115,104]⟩,⟨[102,105,101,108,100],0,1,2,0,31,0,15,[80,108,97,99,101]⟩,⟨[109,101,116,97],0,1,1,0,23,0,0,[67,101,108,108]⟩,⟨[112,97,114,97,109],0,1,1,0,7,0,0,[67,101,108,108]⟩,⟨[118,97,108,105,100],0,1,1,0,31,0,0,[83,108,111,116]⟩,⟨[114,101,103],1,1,1,0,7,0,0,[67,101,108,108]⟩,⟨[110,111,116],1,1,0,0,0,0,0,[79,110,101]⟩,⟨[110,101,103],1,1,0,0,0,0,0,[79,110,101]⟩,⟨[115,104,108],1,1,1,0,128,0,0,[79,110,101]⟩,⟨[115,104,114],1,1,1,0,128,0,0,[79,110,101]⟩,⟨[115,108,105,99,101],1,1,2,0,127,0,127,[80,97,114,116]⟩,⟨[99,97,115,116],1,1,1,1,128,0,0,[79,110,101]⟩,⟨[97,100,100],2,1,0,0,0,0,0,[84,119,111]⟩,⟨[115,117,98],2,1,0,0,0,0,0,[84,119,111]⟩,⟨[97,100,100,45,115,97,116],2,1,0,0,0,0,0,[84,119,111]⟩,⟨[115,117,98,45,115,97,116],2,1,0,0,0,0,0,[84,119,111]⟩,⟨[97,110,100],2,1,0,0,0,0,0,[84,119,111]⟩,⟨[111,114],2,1,0,0,0,0,0,[84,119,111]⟩,⟨[120,111,114],2,1,0,0,0,0,0,[84,119,111]⟩,⟨[99,97,116],2,1,0,0,0,0,0,[84,119,111]⟩,⟨[101,113],2,1,0,0,0,0,0,[84,119,111]⟩,⟨[108,101,115,115],2,1,0,0,0,0,0,[84,119,111]⟩,⟨[112,117,116,45,102,105,101,108,100],1,0,2,0,31,0,15,[80,108,97,99,101]⟩,
 ⟨[112,117,116,45,109,101,116,97],1,0,1,0,23,0,0,[67,101,108,108]⟩,⟨[112,117,116,45,114,101,103],2,0,1,0,7,0,0,[67,101,108,108]⟩,⟨[115,104,111,119],0,0,1,0,31,0,0,[83,108,111,116]⟩,⟨[104,105,100,101],0,0,1,0,31,0,0,[83,108,111,116]⟩,⟨[112,117,115,104,45,104,101,97,100],0,0,2,0,15,1,4,[72,101,97,100,115]⟩,⟨[112,111,112,45,104,101,97,100],0,0,2,0,15,1,4,[72,101,97,100,115]⟩,⟨[99,111,117,110,116],1,0,1,0,7,0,0,[67,101,108,108]⟩,⟨[109,101,116,101,114],1,1,1,0,7,0,0,[67,101,108,108]⟩,⟨[106,117,109,112],0,0,1,0,64,0,0,[74,117,109,112]⟩,⟨[106,117,109,112,45,122,101,114,111],1,0,1,0,64,0,0,[74,117,109,112]⟩,⟨[106,117,109,112,45,103,111,110,101],0,0,2,0,31,0,64,[71,111,110,101]⟩,⟨[115,116,111,112],0,0,0,0,0,0,0,[83,116,111,112]⟩]
theorem Zu:Zc vp 827 []=some (.sl 9 (rws.map Rw.v) .ce):=Zba (n:=40) (by kernel_rfl)
theorem ZsI{o:Int}(h0:0≤o)(h1:o<35): ∃r s,Zh rws o=some r∧Zh ZR o=some s∧r.a0=s.fr∧r.a1=s.to∧r.b0=s.least∧r.b1=s.most∧(r.name=[115,108,105,99,101]↔o=10)∧(r.name=[112,117,115,104]↔o=0):=by
 rcases XZ h0 h1 with rfl|rfl|rfl|rfl|rfl|rfl|rfl|rfl|rfl|rfl|rfl|rfl|rfl|rfl|rfl|rfl|rfl|rfl|rfl|rfl|rfl|rfl|rfl|rfl|rfl|rfl|rfl|rfl|rfl|rfl|rfl|rfl|rfl|rfl|rfl
 all_goals exact⟨_,_,rfl,rfl,rfl,rfl,rfl,rfl,by decide,by decide⟩
theorem ZhH:ZR.length=35:=rfl
theorem Rw.v_eq(r:Rw):r.v=.agg [.str r.name,.int .i64 r.takes,.int .i64 r.puts,.int .i64 r.many,.int .i64 r.a0,.int .i64 r.a1,.int .i64 r.b0,.int .i64 r.b1,.str r.ty]:=rfl
theorem XO(n B ep j o:Nat):iaddrA 2 n (.ptr B ep j o) (.int .i64 0)=some (.ptr B ep j o):=by simp[iaddrA]
theorem XP(n B ep j o:Nat):iaddrA 2 n (.ptr B ep j o) (.int .i64 1)=some (.ptr B ep j (o+n)):=by simp[iaddrA]
set_option maxHeartbeats 1000000 in
theorem Zqv(x:Ins):Zc vp 826 [x.v]=some (.int .i64 (WB x)):=by
 rw[Za ZvT]
 unfold WB
 by_cases h0:0≤x.Op.n
 ·by_cases h1:x.Op.n<35
  ·obtain⟨r,s,hr,hs,e1,e2,e3,e4,e5,e6⟩:=ZsI h0 h1
   obtain⟨n0,n1⟩: ¬x.Op.n<0∧¬34<x.Op.n:=by and_intros<;>omega
   have m1:=Kc x.V
   rw[hs]
   simp only
   have e5:(r.name=[115,108,105,99,101])=(x.Op.n=10):=propext e5
   have e6:(r.name=[112,117,115,104])=(x.Op.n=0):=propext e6
   by_cases a1:x.A.n<s.fr
   ·have i1:inB x.A.n s.fr s.to=false:=Zr.2 (.inl a1)
    simp -implicitDefEqProofs [n0,n1,Zu,hr,Rw.v_eq,XO,XP,e1,e2,e3,e4,a1,i1]
   ·by_cases a2:s.to<x.A.n
    ·have i1:inB x.A.n s.fr s.to=false:=Zr.2 (.inr a2)
     simp -implicitDefEqProofs [n0,n1,Zu,hr,Rw.v_eq,XO,XP,e1,e2,e3,e4,a1,a2,i1]
    ·have i1:inB x.A.n s.fr s.to=true:=by unfold inB;simp;omega
     by_cases a3:x.B.n<s.least
     ·have i2:inB x.B.n s.least s.most=false:=Zr.2 (.inl a3)
      simp -implicitDefEqProofs [n0,n1,Zu,hr,Rw.v_eq,XO,XP,e1,e2,e3,e4,a1,a2,a3,i1,i2]
     ·by_cases a4:s.most<x.B.n
      ·have i2:inB x.B.n s.least s.most=false:=Zr.2 (.inr a4)
       simp -implicitDefEqProofs [n0,n1,Zu,hr,Rw.v_eq,XO,XP,e1,e2,e3,e4,a1,a2,a3,a4,i1,i2]
      ·have i2:inB x.B.n s.least s.most=true:=by unfold inB;simp;omega
       by_cases o10:x.Op.n=10
       ·have o0: ¬x.Op.n=0:=by omega
        rw[eq_true o10]at e5;rw[eq_false o0]at e6
        by_cases a5:x.A.n<x.B.n
        ·rw[if_pos (.inr (.inr ⟨o10,a5⟩))]
         simp -implicitDefEqProofs [n0,n1,Zu,hr,Rw.v_eq,XO,XP,e1,e2,e3,e4,a1,a2,a3,a4,e5,a5]
        ·rw[if_neg (by simp[i1,i2,a5])]
         by_cases v:x.V.same Vec.z=true
         ·rw[if_neg (by simp[o0,v])]
          simp -implicitDefEqProofs [n0,n1,Zu,hr,Rw.v_eq,XO,XP,e1,e2,e3,e4,a1,a2,a3,a4,e5,a5,e6,Zf,ZC,U2,v]
         ·simp only[Bool.not_eq_true]at v
          rw[if_pos (by simp[o0,v])]
          simp -implicitDefEqProofs [n0,n1,Zu,hr,Rw.v_eq,XO,XP,e1,e2,e3,e4,a1,a2,a3,a4,e5,a5,e6,Zf,ZC,U2,v]
       ·rw[eq_false o10]at e5
        rw[if_neg (by simp[i1,i2,o10])]
        by_cases o0:x.Op.n=0
        ·rw[eq_true o0]at e6
         cases g:x.V.good with
         |false=>
          rw[g]at m1
          rw[if_pos (by simp[o0])]
          simp -implicitDefEqProofs [n0,n1,Zu,hr,Rw.v_eq,XO,XP,e1,e2,e3,e4,a1,a2,a3,a4,e5,e6,m1]
         |true=>
          rw[g]at m1
          rw[if_neg (by simp[o0])]
          simp -implicitDefEqProofs [n0,n1,Zu,hr,Rw.v_eq,XO,XP,e1,e2,e3,e4,a1,a2,a3,a4,e5,e6,m1]
        ·rw[eq_false o0]at e6
         by_cases v:x.V.same Vec.z=true
         ·rw[if_neg (by simp[o0,v])]
          simp -implicitDefEqProofs [n0,n1,Zu,hr,Rw.v_eq,XO,XP,e1,e2,e3,e4,a1,a2,a3,a4,e5,e6,Zf,ZC,U2,v]
         ·simp only[Bool.not_eq_true]at v
          rw[if_pos (by simp[o0,v])]
          simp -implicitDefEqProofs [n0,n1,Zu,hr,Rw.v_eq,XO,XP,e1,e2,e3,e4,a1,a2,a3,a4,e5,e6,Zf,ZC,U2,v]
  ·have n1:34<x.Op.n:=by omega
   have n0: ¬x.Op.n<0:=by omega
   have hg:Zh ZR x.Op.n=none:=by
    rcases Zm ZR x.Op.n with⟨_,_,h,_⟩|⟨_,h⟩
    ·rw[ZhH]at h;omega
    ·exact h
   rw[hg]
   simp -implicitDefEqProofs [n0,n1]
 ·have n0:x.Op.n<0:=by omega
  have hg:Zh ZR x.Op.n=none:=by
   rcases Zm ZR x.Op.n with⟨_,h,_,_⟩|⟨_,h⟩
   ·omega
   ·exact h
  rw[hg]
  simp -implicitDefEqProofs [n0]
end Go.VE.Un
namespace Go.VE.Un
open Go.VE
theorem ZyV:rws[0]? =some ⟨[112,117,115,104],0,1,0,0,0,0,0,[80,117,115,104]⟩:=rfl
theorem ZsW(m:Zb)(x:Ins)(p:Int)(he:x.Op.n=0):Zj m x p=true:=by simp[Zj,he,Yf,Zh,Yo]
theorem Zet(m:Zb)(hm:Clo m)(hb:m.Insts.l.length≤10000000)(x:Ins)(p:Int)(he:x.Op.n=0):Zc vp 844 [m.v,x.v,.int .i64 p]=some (.bool (Zj m x p)):=by
 rw[Za YI,ZsW m x p he]
 simp -implicitDefEqProofs [Zu,he,ZyV,Rw.v_eq]
theorem Zzx:Zh rws 1=some ⟨[102,105,101,108,100],0,1,2,0,31,0,15,[80,108,97,99,101]⟩:=rfl
theorem ZtL(m:Zb)(x:Ins)(p:Int)(he:x.Op.n=1):Zj m x p=(field m x.A.n x.B.n).isSome:=by simp[Zj,he,Yf,Zh,Yo]
theorem Zfy(m:Zb)(hm:Clo m)(hb:m.Insts.l.length≤10000000)(x:Ins)(p:Int)(he:x.Op.n=1):Zc vp 844 [m.v,x.v,.int .i64 p]=some (.bool (Zj m x p)):=by
 have hf:=JY m x.A.n x.B.n hm hb
 rw[Za YI,ZtL m x p he]
 simp -implicitDefEqProofs [Zu,he,Zzx,Rw.v_eq,hf]
theorem ZyH:Zh rws 2=some ⟨[109,101,116,97],0,1,1,0,23,0,0,[67,101,108,108]⟩:=rfl
theorem Zsl(m:Zb)(x:Ins)(p:Int)(he:x.Op.n=2):Zj m x p=(Vs m x.A.n).isSome:=by simp[Zj,he,Yf,Zh,Yo]
theorem Zeo(m:Zb)(hm:Clo m)(hb:m.Insts.l.length≤10000000)(x:Ins)(p:Int)(he:x.Op.n=2):Zc vp 844 [m.v,x.v,.int .i64 p]=some (.bool (Zj m x p)):=by
 have hf:=Zfb m x.A.n x.A.lo x.A.hi
 rw[Za YI,Zsl m x p he]
 simp -implicitDefEqProofs [Zu,he,ZyH,Rw.v_eq,hf]
theorem Zye:Zh rws 3=some ⟨[112,97,114,97,109],0,1,1,0,7,0,0,[67,101,108,108]⟩:=rfl
theorem ZtE(m:Zb)(x:Ins)(p:Int)(he:x.Op.n=3):Zj m x p=decide (x.A.n<p):=by simp[Zj,he,Yf,Zh,Yo]
theorem Zfs(m:Zb)(hm:Clo m)(hb:m.Insts.l.length≤10000000)(x:Ins)(p:Int)(he:x.Op.n=3):Zc vp 844 [m.v,x.v,.int .i64 p]=some (.bool (Zj m x p)):=by
 rw[Za YI,ZtE m x p he]
 simp -implicitDefEqProofs [Zu,he,Zye,Rw.v_eq]
theorem Zvi:Zh rws 4=some ⟨[118,97,108,105,100],0,1,1,0,31,0,0,[83,108,111,116]⟩:=rfl
theorem ZrX(m:Zb)(x:Ins)(p:Int)(he:x.Op.n=4):Zj m x p=(Xl m x.A.n).isSome:=by simp[Zj,he,Yf,Zh,Yo]
theorem Zeu(m:Zb)(hm:Clo m)(hb:m.Insts.l.length≤10000000)(x:Ins)(p:Int)(he:x.Op.n=4):Zc vp 844 [m.v,x.v,.int .i64 p]=some (.bool (Zj m x p)):=by
 have hf:=VU m x.A.n hm hb
 have hz:=Wg hm x.A.n
 rw[Za YI,ZrX m x p he]
 simp -implicitDefEqProofs [Zu,he,Zvi,Rw.v_eq,hf,hz,Ye]
theorem ZvE:Zh rws 5=some ⟨[114,101,103],1,1,1,0,7,0,0,[67,101,108,108]⟩:=rfl
theorem Ztz(m:Zb)(x:Ins)(p:Int)(he:x.Op.n=5):Zj m x p=decide (x.A.n<(m.Regs.l.length:Int)):=by simp[Zj,he,Yf,Zh,Yo]
theorem Zfx(m:Zb)(hm:Clo m)(hb:m.Insts.l.length≤10000000)(x:Ins)(p:Int)(he:x.Op.n=5):Zc vp 844 [m.v,x.v,.int .i64 p]=some (.bool (Zj m x p)):=by
 rw[Za YI,Ztz m x p he]
 simp -implicitDefEqProofs [Zu,he,ZvE,Rw.v_eq]
theorem Zvj:Zh rws 6=some ⟨[110,111,116],1,1,0,0,0,0,0,[79,110,101]⟩:=rfl
theorem ZrY(m:Zb)(x:Ins)(p:Int)(he:x.Op.n=6):Zj m x p=true:=by simp[Zj,he,Yf,Zh,Yo]
theorem Ze2(m:Zb)(hm:Clo m)(hb:m.Insts.l.length≤10000000)(x:Ins)(p:Int)(he:x.Op.n=6):Zc vp 844 [m.v,x.v,.int .i64 p]=some (.bool (Zj m x p)):=by
 rw[Za YI,ZrY m x p he]
 simp -implicitDefEqProofs [Zu,he,Zvj,Rw.v_eq]
theorem ZwL:Zh rws 7=some ⟨[110,101,103],1,1,0,0,0,0,0,[79,110,101]⟩:=rfl
theorem Zts(m:Zb)(x:Ins)(p:Int)(he:x.Op.n=7):Zj m x p=true:=by simp[Zj,he,Yf,Zh,Yo]
theorem ZeD(m:Zb)(hm:Clo m)(hb:m.Insts.l.length≤10000000)(x:Ins)(p:Int)(he:x.Op.n=7):Zc vp 844 [m.v,x.v,.int .i64 p]=some (.bool (Zj m x p)):=by
 rw[Za YI,Zts m x p he]
 simp -implicitDefEqProofs [Zu,he,ZwL,Rw.v_eq]
theorem ZwD:Zh rws 8=some ⟨[115,104,108],1,1,1,0,128,0,0,[79,110,101]⟩:=rfl
theorem ZtM(m:Zb)(x:Ins)(p:Int)(he:x.Op.n=8):Zj m x p=true:=by simp[Zj,he,Yf,Zh,Yo]
theorem ZeR(m:Zb)(hm:Clo m)(hb:m.Insts.l.length≤10000000)(x:Ins)(p:Int)(he:x.Op.n=8):Zc vp 844 [m.v,x.v,.int .i64 p]=some (.bool (Zj m x p)):=by
 rw[Za YI,ZtM m x p he]
 simp -implicitDefEqProofs [Zu,he,ZwD,Rw.v_eq]
theorem Zw9:Zh rws 9=some ⟨[115,104,114],1,1,1,0,128,0,0,[79,110,101]⟩:=rfl
theorem Zsj(m:Zb)(x:Ins)(p:Int)(he:x.Op.n=9):Zj m x p=true:=by simp[Zj,he,Yf,Zh,Yo]
theorem ZeQ(m:Zb)(hm:Clo m)(hb:m.Insts.l.length≤10000000)(x:Ins)(p:Int)(he:x.Op.n=9):Zc vp 844 [m.v,x.v,.int .i64 p]=some (.bool (Zj m x p)):=by
 rw[Za YI,Zsj m x p he]
 simp -implicitDefEqProofs [Zu,he,Zw9,Rw.v_eq]
theorem ZtS:Zh rws 10=some ⟨[115,108,105,99,101],1,1,2,0,127,0,127,[80,97,114,116]⟩:=rfl
theorem ZoR(m:Zb)(x:Ins)(p:Int)(he:x.Op.n=10):Zj m x p=true:=by simp[Zj,he,Yf,Zh,Yo]
theorem Zdi(m:Zb)(hm:Clo m)(hb:m.Insts.l.length≤10000000)(x:Ins)(p:Int)(he:x.Op.n=10):Zc vp 844 [m.v,x.v,.int .i64 p]=some (.bool (Zj m x p)):=by
 rw[Za YI,ZoR m x p he]
 simp -implicitDefEqProofs [Zu,he,ZtS,Rw.v_eq]
theorem ZtF:Zh rws 11=some ⟨[99,97,115,116],1,1,1,1,128,0,0,[79,110,101]⟩:=rfl
theorem ZpH(m:Zb)(x:Ins)(p:Int)(he:x.Op.n=11):Zj m x p=true:=by simp[Zj,he,Yf,Zh,Yo]
theorem ZcN(m:Zb)(hm:Clo m)(hb:m.Insts.l.length≤10000000)(x:Ins)(p:Int)(he:x.Op.n=11):Zc vp 844 [m.v,x.v,.int .i64 p]=some (.bool (Zj m x p)):=by
 rw[Za YI,ZpH m x p he]
 simp -implicitDefEqProofs [Zu,he,ZtF,Rw.v_eq]
theorem Zr4:Zh rws 12=some ⟨[97,100,100],2,1,0,0,0,0,0,[84,119,111]⟩:=rfl
theorem Zoe(m:Zb)(x:Ins)(p:Int)(he:x.Op.n=12):Zj m x p=true:=by simp[Zj,he,Yf,Zh,Yo]
theorem ZdC(m:Zb)(hm:Clo m)(hb:m.Insts.l.length≤10000000)(x:Ins)(p:Int)(he:x.Op.n=12):Zc vp 844 [m.v,x.v,.int .i64 p]=some (.bool (Zj m x p)):=by
 rw[Za YI,Zoe m x p he]
 simp -implicitDefEqProofs [Zu,he,Zr4,Rw.v_eq]
theorem ZtX:Zh rws 13=some ⟨[115,117,98],2,1,0,0,0,0,0,[84,119,111]⟩:=rfl
theorem ZqH(m:Zb)(x:Ins)(p:Int)(he:x.Op.n=13):Zj m x p=true:=by simp[Zj,he,Yf,Zh,Yo]
theorem Zc4(m:Zb)(hm:Clo m)(hb:m.Insts.l.length≤10000000)(x:Ins)(p:Int)(he:x.Op.n=13):Zc vp 844 [m.v,x.v,.int .i64 p]=some (.bool (Zj m x p)):=by
 rw[Za YI,ZqH m x p he]
 simp -implicitDefEqProofs [Zu,he,ZtX,Rw.v_eq]
theorem ZsK:Zh rws 14=some ⟨[97,100,100,45,115,97,116],2,1,0,0,0,0,0,[84,119,111]⟩:=rfl
theorem Zpf(m:Zb)(x:Ins)(p:Int)(he:x.Op.n=14):Zj m x p=true:=by simp[Zj,he,Yf,Zh,Yo]
theorem Zd0(m:Zb)(hm:Clo m)(hb:m.Insts.l.length≤10000000)(x:Ins)(p:Int)(he:x.Op.n=14):Zc vp 844 [m.v,x.v,.int .i64 p]=some (.bool (Zj m x p)):=by
 rw[Za YI,Zpf m x p he]
 simp -implicitDefEqProofs [Zu,he,ZsK,Rw.v_eq]
theorem ZtU:Zh rws 15=some ⟨[115,117,98,45,115,97,116],2,1,0,0,0,0,0,[84,119,111]⟩:=rfl
theorem ZqY(m:Zb)(x:Ins)(p:Int)(he:x.Op.n=15):Zj m x p=true:=by simp[Zj,he,Yf,Zh,Yo]
theorem ZcH(m:Zb)(hm:Clo m)(hb:m.Insts.l.length≤10000000)(x:Ins)(p:Int)(he:x.Op.n=15):Zc vp 844 [m.v,x.v,.int .i64 p]=some (.bool (Zj m x p)):=by
 rw[Za YI,ZqY m x p he]
 simp -implicitDefEqProofs [Zu,he,ZtU,Rw.v_eq]
theorem ZsR:Zh rws 16=some ⟨[97,110,100],2,1,0,0,0,0,0,[84,119,111]⟩:=rfl
theorem ZoV(m:Zb)(x:Ins)(p:Int)(he:x.Op.n=16):Zj m x p=true:=by simp[Zj,he,Yf,Zh,Yo]
theorem ZcD(m:Zb)(hm:Clo m)(hb:m.Insts.l.length≤10000000)(x:Ins)(p:Int)(he:x.Op.n=16):Zc vp 844 [m.v,x.v,.int .i64 p]=some (.bool (Zj m x p)):=by
 rw[Za YI,ZoV m x p he]
 simp -implicitDefEqProofs [Zu,he,ZsR,Rw.v_eq]
theorem Zs8:Zh rws 17=some ⟨[111,114],2,1,0,0,0,0,0,[84,119,111]⟩:=rfl
theorem ZoP(m:Zb)(x:Ins)(p:Int)(he:x.Op.n=17):Zj m x p=true:=by simp[Zj,he,Yf,Zh,Yo]
theorem ZcT(m:Zb)(hm:Clo m)(hb:m.Insts.l.length≤10000000)(x:Ins)(p:Int)(he:x.Op.n=17):Zc vp 844 [m.v,x.v,.int .i64 p]=some (.bool (Zj m x p)):=by
 rw[Za YI,ZoP m x p he]
 simp -implicitDefEqProofs [Zu,he,Zs8,Rw.v_eq]
theorem ZsU:Zh rws 18=some ⟨[120,111,114],2,1,0,0,0,0,0,[84,119,111]⟩:=rfl
theorem ZpK(m:Zb)(x:Ins)(p:Int)(he:x.Op.n=18):Zj m x p=true:=by simp[Zj,he,Yf,Zh,Yo]
theorem Zcu(m:Zb)(hm:Clo m)(hb:m.Insts.l.length≤10000000)(x:Ins)(p:Int)(he:x.Op.n=18):Zc vp 844 [m.v,x.v,.int .i64 p]=some (.bool (Zj m x p)):=by
 rw[Za YI,ZpK m x p he]
 simp -implicitDefEqProofs [Zu,he,ZsU,Rw.v_eq]
theorem ZtA:Zh rws 19=some ⟨[99,97,116],2,1,0,0,0,0,0,[84,119,111]⟩:=rfl
theorem Zqm(m:Zb)(x:Ins)(p:Int)(he:x.Op.n=19):Zj m x p=true:=by simp[Zj,he,Yf,Zh,Yo]
theorem ZcJ(m:Zb)(hm:Clo m)(hb:m.Insts.l.length≤10000000)(x:Ins)(p:Int)(he:x.Op.n=19):Zc vp 844 [m.v,x.v,.int .i64 p]=some (.bool (Zj m x p)):=by
 rw[Za YI,Zqm m x p he]
 simp -implicitDefEqProofs [Zu,he,ZtA,Rw.v_eq]
theorem Zua:Zh rws 20=some ⟨[101,113],2,1,0,0,0,0,0,[84,119,111]⟩:=rfl
theorem ZpR(m:Zb)(x:Ins)(p:Int)(he:x.Op.n=20):Zj m x p=true:=by simp[Zj,he,Yf,Zh,Yo]
theorem Zee(m:Zb)(hm:Clo m)(hb:m.Insts.l.length≤10000000)(x:Ins)(p:Int)(he:x.Op.n=20):Zc vp 844 [m.v,x.v,.int .i64 p]=some (.bool (Zj m x p)):=by
 rw[Za YI,ZpR m x p he]
 simp -implicitDefEqProofs [Zu,he,Zua,Rw.v_eq]
theorem Zt2:Zh rws 21=some ⟨[108,101,115,115],2,1,0,0,0,0,0,[84,119,111]⟩:=rfl
theorem Zqk(m:Zb)(x:Ins)(p:Int)(he:x.Op.n=21):Zj m x p=true:=by simp[Zj,he,Yf,Zh,Yo]
theorem Zcv(m:Zb)(hm:Clo m)(hb:m.Insts.l.length≤10000000)(x:Ins)(p:Int)(he:x.Op.n=21):Zc vp 844 [m.v,x.v,.int .i64 p]=some (.bool (Zj m x p)):=by
 rw[Za YI,Zqk m x p he]
 simp -implicitDefEqProofs [Zu,he,Zt2,Rw.v_eq]
theorem ZsE:Zh rws 22=some ⟨[112,117,116,45,102,105,101,108,100],1,0,2,0,31,0,15,[80,108,97,99,101]⟩:=rfl
theorem ZpY(m:Zb)(x:Ins)(p:Int)(he:x.Op.n=22):Zj m x p=(field m x.A.n x.B.n).isSome:=by simp[Zj,he,Yf,Zh,Yo]
theorem Zeh(m:Zb)(hm:Clo m)(hb:m.Insts.l.length≤10000000)(x:Ins)(p:Int)(he:x.Op.n=22):Zc vp 844 [m.v,x.v,.int .i64 p]=some (.bool (Zj m x p)):=by
 have hf:=JY m x.A.n x.B.n hm hb
 rw[Za YI,ZpY m x p he]
 simp -implicitDefEqProofs [Zu,he,ZsE,Rw.v_eq,hf]
theorem ZrZ:Zh rws 23=some ⟨[112,117,116,45,109,101,116,97],1,0,1,0,23,0,0,[67,101,108,108]⟩:=rfl
theorem ZqJ(m:Zb)(x:Ins)(p:Int)(he:x.Op.n=23):Zj m x p=(Vs m x.A.n).isSome:=by simp[Zj,he,Yf,Zh,Yo]
theorem Zdd(m:Zb)(hm:Clo m)(hb:m.Insts.l.length≤10000000)(x:Ins)(p:Int)(he:x.Op.n=23):Zc vp 844 [m.v,x.v,.int .i64 p]=some (.bool (Zj m x p)):=by
 have hf:=Zfb m x.A.n x.A.lo x.A.hi
 rw[Za YI,ZqJ m x p he]
 simp -implicitDefEqProofs [Zu,he,ZrZ,Rw.v_eq,hf]
theorem ZsG:Zh rws 24=some ⟨[112,117,116,45,114,101,103],2,0,1,0,7,0,0,[67,101,108,108]⟩:=rfl
theorem Zpu(m:Zb)(x:Ins)(p:Int)(he:x.Op.n=24):Zj m x p=decide (x.A.n<(m.Regs.l.length:Int)):=by simp[Zj,he,Yf,Zh,Yo]
theorem Zcf(m:Zb)(hm:Clo m)(hb:m.Insts.l.length≤10000000)(x:Ins)(p:Int)(he:x.Op.n=24):Zc vp 844 [m.v,x.v,.int .i64 p]=some (.bool (Zj m x p)):=by
 rw[Za YI,Zpu m x p he]
 simp -implicitDefEqProofs [Zu,he,ZsG,Rw.v_eq]
theorem Zub:Zh rws 25=some ⟨[115,104,111,119],0,0,1,0,31,0,0,[83,108,111,116]⟩:=rfl
theorem ZoN(m:Zb)(x:Ins)(p:Int)(he:x.Op.n=25):Zj m x p=(Xl m x.A.n).isSome:=by simp[Zj,he,Yf,Zh,Yo]
theorem ZcX(m:Zb)(hm:Clo m)(hb:m.Insts.l.length≤10000000)(x:Ins)(p:Int)(he:x.Op.n=25):Zc vp 844 [m.v,x.v,.int .i64 p]=some (.bool (Zj m x p)):=by
 have hf:=VU m x.A.n hm hb
 have hz:=Wg hm x.A.n
 rw[Za YI,ZoN m x p he]
 simp -implicitDefEqProofs [Zu,he,Zub,Rw.v_eq,hf,hz,Ye]
theorem ZtD:Zh rws 26=some ⟨[104,105,100,101],0,0,1,0,31,0,0,[83,108,111,116]⟩:=rfl
theorem Zpr(m:Zb)(x:Ins)(p:Int)(he:x.Op.n=26):Zj m x p=(Xl m x.A.n).isSome:=by simp[Zj,he,Yf,Zh,Yo]
theorem Zd8(m:Zb)(hm:Clo m)(hb:m.Insts.l.length≤10000000)(x:Ins)(p:Int)(he:x.Op.n=26):Zc vp 844 [m.v,x.v,.int .i64 p]=some (.bool (Zj m x p)):=by
 have hf:=VU m x.A.n hm hb
 have hz:=Wg hm x.A.n
 rw[Za YI,Zpr m x p he]
 simp -implicitDefEqProofs [Zu,he,ZtD,Rw.v_eq,hf,hz,Ye]
theorem ZtR:Zh rws 27=some ⟨[112,117,115,104,45,104,101,97,100],0,0,2,0,15,1,4,[72,101,97,100,115]⟩:=rfl
theorem ZpG(m:Zb)(x:Ins)(p:Int)(he:x.Op.n=27):Zj m x p=(Z8 m x.A.n).isSome:=by simp[Zj,he,Yf,Zh,Yo]
theorem Zcb(m:Zb)(hm:Clo m)(hb:m.Insts.l.length≤10000000)(x:Ins)(p:Int)(he:x.Op.n=27):Zc vp 844 [m.v,x.v,.int .i64 p]=some (.bool (Zj m x p)):=by
 have hst: ∃a b,Zc vp 835 [m.v,.int .i64 x.A.n]=some (.tup [.int .i64 a,.int .i64 b,.bool (Z8 m x.A.n).isSome]):=by
  have:=Qf m x.A.n hb
  cases hs:Z8 m x.A.n with
  |none=>rw[hs]at this;exact⟨0,0,this⟩
  |some q=>obtain⟨a,b⟩:=q;rw[hs]at this;exact⟨a,b,this⟩
 obtain⟨sa,sb,hst⟩:=hst
 rw[Za YI,ZpG m x p he]
 simp -implicitDefEqProofs [Zu,he,ZtR,Rw.v_eq,hst]
theorem Zst:Zh rws 28=some ⟨[112,111,112,45,104,101,97,100],0,0,2,0,15,1,4,[72,101,97,100,115]⟩:=rfl
theorem Zqj(m:Zb)(x:Ins)(p:Int)(he:x.Op.n=28):Zj m x p=(Z8 m x.A.n).isSome:=by simp[Zj,he,Yf,Zh,Yo]
theorem Zcw(m:Zb)(hm:Clo m)(hb:m.Insts.l.length≤10000000)(x:Ins)(p:Int)(he:x.Op.n=28):Zc vp 844 [m.v,x.v,.int .i64 p]=some (.bool (Zj m x p)):=by
 have hst: ∃a b,Zc vp 835 [m.v,.int .i64 x.A.n]=some (.tup [.int .i64 a,.int .i64 b,.bool (Z8 m x.A.n).isSome]):=by
  have:=Qf m x.A.n hb
  cases hs:Z8 m x.A.n with
  |none=>rw[hs]at this;exact⟨0,0,this⟩
  |some q=>obtain⟨a,b⟩:=q;rw[hs]at this;exact⟨a,b,this⟩
 obtain⟨sa,sb,hst⟩:=hst
 rw[Za YI,Zqj m x p he]
 simp -implicitDefEqProofs [Zu,he,Zst,Rw.v_eq,hst]
theorem ZsD:Zh rws 29=some ⟨[99,111,117,110,116],1,0,1,0,7,0,0,[67,101,108,108]⟩:=rfl
theorem ZpT(m:Zb)(x:Ins)(p:Int)(he:x.Op.n=29):Zj m x p=decide (x.A.n<(m.Counters.l.length:Int)):=by simp[Zj,he,Yf,Zh,Yo]
theorem ZdB(m:Zb)(hm:Clo m)(hb:m.Insts.l.length≤10000000)(x:Ins)(p:Int)(he:x.Op.n=29):Zc vp 844 [m.v,x.v,.int .i64 p]=some (.bool (Zj m x p)):=by
 rw[Za YI,ZpT m x p he]
 simp -implicitDefEqProofs [Zu,he,ZsD,Rw.v_eq]
theorem Ztv:Zh rws 30=some ⟨[109,101,116,101,114],1,1,1,0,7,0,0,[67,101,108,108]⟩:=rfl
theorem ZpZ(m:Zb)(x:Ins)(p:Int)(he:x.Op.n=30):Zj m x p=decide (x.A.n<(m.Meters.l.length:Int)):=by simp[Zj,he,Yf,Zh,Yo]
theorem Zd7(m:Zb)(hm:Clo m)(hb:m.Insts.l.length≤10000000)(x:Ins)(p:Int)(he:x.Op.n=30):Zc vp 844 [m.v,x.v,.int .i64 p]=some (.bool (Zj m x p)):=by
 rw[Za YI,ZpZ m x p he]
 simp -implicitDefEqProofs [Zu,he,Ztv,Rw.v_eq]
theorem Zs9:Zh rws 31=some ⟨[106,117,109,112],0,0,1,0,64,0,0,[74,117,109,112]⟩:=rfl
theorem ZoO(m:Zb)(x:Ins)(p:Int)(he:x.Op.n=31):Zj m x p=true:=by simp[Zj,he,Yf,Zh,Yo]
theorem ZcS(m:Zb)(hm:Clo m)(hb:m.Insts.l.length≤10000000)(x:Ins)(p:Int)(he:x.Op.n=31):Zc vp 844 [m.v,x.v,.int .i64 p]=some (.bool (Zj m x p)):=by
 rw[Za YI,ZoO m x p he]
 simp -implicitDefEqProofs [Zu,he,Zs9,Rw.v_eq]
theorem Zsk:Zh rws 32=some ⟨[106,117,109,112,45,122,101,114,111],1,0,1,0,64,0,0,[74,117,109,112]⟩:=rfl
theorem Zqd(m:Zb)(x:Ins)(p:Int)(he:x.Op.n=32):Zj m x p=true:=by simp[Zj,he,Yf,Zh,Yo]
theorem Zc1(m:Zb)(hm:Clo m)(hb:m.Insts.l.length≤10000000)(x:Ins)(p:Int)(he:x.Op.n=32):Zc vp 844 [m.v,x.v,.int .i64 p]=some (.bool (Zj m x p)):=by
 rw[Za YI,Zqd m x p he]
 simp -implicitDefEqProofs [Zu,he,Zsk,Rw.v_eq]
theorem ZtH:Zh rws 33=some ⟨[106,117,109,112,45,103,111,110,101],0,0,2,0,31,0,64,[71,111,110,101]⟩:=rfl
theorem ZqA(m:Zb)(x:Ins)(p:Int)(he:x.Op.n=33):Zj m x p=(Xl m x.A.n).isSome:=by simp[Zj,he,Yf,Zh,Yo]
theorem ZdK(m:Zb)(hm:Clo m)(hb:m.Insts.l.length≤10000000)(x:Ins)(p:Int)(he:x.Op.n=33):Zc vp 844 [m.v,x.v,.int .i64 p]=some (.bool (Zj m x p)):=by
 have hf:=VU m x.A.n hm hb
 have hz:=Wg hm x.A.n
 rw[Za YI,ZqA m x p he]
 simp -implicitDefEqProofs [Zu,he,ZtH,Rw.v_eq,hf,hz,Ye]
theorem Zsd:Zh rws 34=some ⟨[115,116,111,112],0,0,0,0,0,0,0,[83,116,111,112]⟩:=rfl
theorem Zpm(m:Zb)(x:Ins)(p:Int)(he:x.Op.n=34):Zj m x p=true:=by simp[Zj,he,Yf,Zh,Yo]
theorem Zc8(m:Zb)(hm:Clo m)(hb:m.Insts.l.length≤10000000)(x:Ins)(p:Int)(he:x.Op.n=34):Zc vp 844 [m.v,x.v,.int .i64 p]=some (.bool (Zj m x p)):=by
 rw[Za YI,Zpm m x p he]
 simp -implicitDefEqProofs [Zu,he,Zsd,Rw.v_eq]
theorem ZgM(m:Zb)(hm:Clo m)(hb:m.Insts.l.length≤10000000)(x:Ins)(p:Int)(h0:0≤x.Op.n)(h1:x.Op.n<35):Zc vp 844 [m.v,x.v,.int .i64 p]=some (.bool (Zj m x p)):=by
 rcases XZ h0 h1 with h|h|h|h|h|h|h|h|h|h|h|h|h|h|h|h|h|h|h|h|h|h|h|h|h|h|h|h|h|h|h|h|h|h|h
 ·exact Zet m hm hb x p h
 ·exact Zfy m hm hb x p h
 ·exact Zeo m hm hb x p h
 ·exact Zfs m hm hb x p h
 ·exact Zeu m hm hb x p h
 ·exact Zfx m hm hb x p h
 ·exact Ze2 m hm hb x p h
 ·exact ZeD m hm hb x p h
 ·exact ZeR m hm hb x p h
 ·exact ZeQ m hm hb x p h
 ·exact Zdi m hm hb x p h
 ·exact ZcN m hm hb x p h
 ·exact ZdC m hm hb x p h
 ·exact Zc4 m hm hb x p h
 ·exact Zd0 m hm hb x p h
 ·exact ZcH m hm hb x p h
 ·exact ZcD m hm hb x p h
 ·exact ZcT m hm hb x p h
 ·exact Zcu m hm hb x p h
 ·exact ZcJ m hm hb x p h
 ·exact Zee m hm hb x p h
 ·exact Zcv m hm hb x p h
 ·exact Zeh m hm hb x p h
 ·exact Zdd m hm hb x p h
 ·exact Zcf m hm hb x p h
 ·exact ZcX m hm hb x p h
 ·exact Zd8 m hm hb x p h
 ·exact Zcb m hm hb x p h
 ·exact Zcw m hm hb x p h
 ·exact ZdB m hm hb x p h
 ·exact Zd7 m hm hb x p h
 ·exact ZcS m hm hb x p h
 ·exact Zc1 m hm hb x p h
 ·exact ZdK m hm hb x p h
 ·exact Zc8 m hm hb x p h
theorem Zsm{o:Int}(h0:0≤o)(h1:o<35): ∃r,Zh rws o=some r∧(r.ty=[74,117,109,112]↔(o=31∨o=32))∧(r.ty=[71,111,110,101]↔o=33):=by
 rcases XZ h0 h1 with rfl|rfl|rfl|rfl|rfl|rfl|rfl|rfl|rfl|rfl|rfl|rfl|rfl|rfl|rfl|rfl|rfl|rfl|rfl|rfl|rfl|rfl|rfl|rfl|rfl|rfl|rfl|rfl|rfl|rfl|rfl|rfl|rfl|rfl|rfl
 all_goals exact⟨_,rfl,by decide,by decide⟩
theorem ZjV(m:Zb)(l:GL Ins)(p:V): ∀(r:List Ins) (k:Int),0≤k→k≤l.l.length→k≤64→(l.l.take 64).drop k.toNat=r→∃h,(orc vp).loop 0 [1,2,3,7] ZgB [(1,GL.v 6 Ins.v l),(2,p),(3,.ptr 0 1 0 0),(7,.int .i64 k)] [.arr [m.v]]=
 (match Wd r k with
  |none=>some (.brk 0,[(1,GL.v 6 Ins.v l),(2,p),(3,.ptr 0 1 0 0),(7,.int .i64 (k+r.length)),(19,.bool false)],[.arr [m.v]])
  |some (_,e)=>some (.ret,[(6,.int .i64 e)],h)):=by
 have hle:=l.le
 intro r
 induction r with
 |nil=>
  intro k hk hkl h64 hd
  refine⟨[],?_⟩
  have hle:=Zq hk hd
  rw[Ziu]
  by_cases c:k<l.l.length
  ·have c2: ¬k<64:=by simp at hle;omega
   simp -implicitDefEqProofs [c,c2,Wd]
  ·simp -implicitDefEqProofs [c,Wd]
 |cons x r ih=>
  intro k hk hkl h64 hd
  obtain⟨hg,hlt,hd'⟩:=Zp hk hd
  have c1:k<l.l.length:=by simp at hlt;omega
  have c2:k<64:=by simp at hlt;omega
  rw[show(64:Nat)=(64:Int).toNat from rfl,WT hk c2]at hg
  have w1:=w64 (n:=k+1) (by omega)
  have hm:=Zqv x
  rw[Ziu]
  by_cases c:WB x=0
  ·obtain⟨h,ih⟩:=ih (k+1) (by omega) (by omega) (by omega) hd'
   have e:k+1+(r.length:Int)=k+((x::r).length:Nat):=by simp only[List.length_cons];omega
   rw[e]at ih
   refine⟨h,?_⟩
   simp -implicitDefEqProofs [c1,c2,hg,hm,c,w1,Wd]at ih⊢
   exact ih
  ·refine⟨[.arr [m.v]],?_⟩
   simp -implicitDefEqProofs [c1,c2,hg,hm,c,Wd]
theorem Zkp(m:Zb)(hm:Clo m)(hb:m.Insts.l.length≤10000000)(l:GL Ins)(p:Int)(hl: ∀x∈l.l,WB x=0): ∀(r:List Ins) (k:Int),0≤k→k≤l.l.length→l.l.drop k.toNat=r→∃h,(orc vp).loop 0 [1,2,3,9] Zhx [(1,GL.v 6 Ins.v l),(2,.int .i64 p),(3,.ptr 0 1 0 0),(9,.int .i64 k)] [.arr [m.v]]=
 (if Y6 m p l.l.length r k=0 then some (.brk 2,[(1,GL.v 6 Ins.v l),(2,.int .i64 p),(3,.ptr 0 1 0 0),(9,.int .i64 l.l.length),(36,.bool false)],[.arr [m.v]])
  else some (.ret,[(6,.int .i64 (Y6 m p l.l.length r k))],h)):=by
 have hle:=l.le
 intro r
 induction r with
 |nil=>
  intro k hk hkl hd
  refine⟨[],?_⟩
  have hle:=Zq hk hd
  obtain⟨hlt,he⟩: ¬k<l.l.length∧k=l.l.length:=by and_intros<;>omega
  rw[Zjv]
  simp -implicitDefEqProofs [hlt,he,Y6]
 |cons x r ih=>
  intro k hk hkl hd
  obtain⟨hg,hlt,hd'⟩:=Zp hk hd
  have w1:=w64 (n:=k+1) (by omega)
  obtain⟨h,ih⟩:=ih (k+1) (by omega) (by omega) hd'
  have hx:=hl x (Y9 hg)
  obtain⟨o0,o1⟩:=QO hx
  have hr:=ZgM m hm hb x p o0 o1
  obtain⟨rw',hrw,t1,t2⟩:=Zsm o0 o1
  have t1:(rw'.ty=[74,117,109,112])=(x.Op.n=31∨x.Op.n=32):=propext t1
  have t2:(rw'.ty=[71,111,110,101])=(x.Op.n=33):=propext t2
  have hst:Y6 m p l.l.length (x::r) k=if V0 m p l.l.length k x=0 then Y6 m p l.l.length r (k+1)else V0 m p l.l.length k x:=rfl
  have hs2:V0 m p l.l.length k x=if Zj m x p=false then 5 else match YL x with|some to=>Zl (inB to (k+1) l.l.length) 12|none=>0:=rfl
  generalize Y6 m p l.l.length r (k+1)=S at*
  generalize V0 m p l.l.length k x=E at*
  rw[hst,Zjv]
  by_cases c1:Zj m x p=true
  ·rw[if_neg (by simp[c1])]at hs2
   by_cases j1:x.Op.n=31∨x.Op.n=32
   ·have j3: ¬x.Op.n=33:=by omega
    have jt:YL x=some x.A.n:=by unfold YL;rw[if_pos j1]
    rw[eq_true j1]at t1;rw[eq_false j3]at t2
    rw[jt]at hs2
    simp only at hs2
    by_cases g0:0≤x.A.n
    ·by_cases g1:x.A.n≤k
     ·have e:Zl (inB x.A.n (k+1) l.l.length) 12=12:=by rw[Zr.2 (.inl (by omega))];rfl
      rw[e]at hs2;subst hs2
      refine⟨[.arr [m.v]],?_⟩
      simp -implicitDefEqProofs [hlt,hg,hr,c1,Zu,hrw,Rw.v_eq,t1,t2,g0,g1,e]
     ·by_cases g2:(l.l.length:Int)<x.A.n
      ·have e:Zl (inB x.A.n (k+1) l.l.length) 12=12:=by rw[Zr.2 (.inr g2)];rfl
       rw[e]at hs2;subst hs2
       refine⟨[.arr [m.v]],?_⟩
       simp -implicitDefEqProofs [hlt,hg,hr,c1,Zu,hrw,Rw.v_eq,t1,t2,g0,g1,g2,e]
      ·have e:Zl (inB x.A.n (k+1) l.l.length) 12=0:=by unfold Zl;rw[if_pos (by unfold inB;simp;omega)]
       rw[e]at hs2;subst hs2
       refine⟨h,?_⟩
       rw[if_pos rfl]
       by_cases d:S=0<;>simp only[d,eq_self,if_true,if_false]at ih⊢ <;>
       simp -implicitDefEqProofs [hlt,hg,hr,c1,Zu,hrw,Rw.v_eq,t1,t2,g0,g1,g2,e,w1,ih]
    ·have hA:=Zt4 hx (s:=(Zh ZR x.Op.n).getD ⟨false,false,0,0,0,0,0,0⟩) (by rcases j1 with j|j<;>rw[j]<;>rfl)
     exfalso
     rcases j1 with j|j<;>rw[j]at hA<;>exact g0 hA
   ·by_cases j3:x.Op.n=33
    ·have jt:YL x=some x.B.n:=by unfold YL;rw[if_neg j1,if_pos j3]
     rw[eq_false j1]at t1;rw[eq_true j3]at t2
     rw[jt]at hs2
     simp only at hs2
     by_cases g0:0≤x.B.n
     ·by_cases g1:x.B.n≤k
      ·have e:Zl (inB x.B.n (k+1) l.l.length) 12=12:=by rw[Zr.2 (.inl (by omega))];rfl
       rw[e]at hs2;subst hs2
       refine⟨[.arr [m.v]],?_⟩
       simp -implicitDefEqProofs [hlt,hg,hr,c1,Zu,hrw,Rw.v_eq,t1,t2,g0,g1,e]
      ·by_cases g2:(l.l.length:Int)<x.B.n
       ·have e:Zl (inB x.B.n (k+1) l.l.length) 12=12:=by rw[Zr.2 (.inr g2)];rfl
        rw[e]at hs2;subst hs2
        refine⟨[.arr [m.v]],?_⟩
        simp -implicitDefEqProofs [hlt,hg,hr,c1,Zu,hrw,Rw.v_eq,t1,t2,g0,g1,g2,e]
       ·have e:Zl (inB x.B.n (k+1) l.l.length) 12=0:=by unfold Zl;rw[if_pos (by unfold inB;simp;omega)]
        rw[e]at hs2;subst hs2
        refine⟨h,?_⟩
        rw[if_pos rfl]
        by_cases d:S=0<;>simp only[d,eq_self,if_true,if_false]at ih⊢ <;>
        simp -implicitDefEqProofs [hlt,hg,hr,c1,Zu,hrw,Rw.v_eq,t1,t2,g0,g1,g2,e,w1,ih]
     ·exfalso
      unfold WB at hx
      rw[j3]at hx
      simp[Zh,ZR,inB]at hx
      omega
    ·have jt:YL x=none:=by unfold YL;rw[if_neg j1,if_neg j3]
     rw[eq_false j1]at t1;rw[eq_false j3]at t2
     rw[jt]at hs2
     simp only at hs2
     subst hs2
     refine⟨h,?_⟩
     rw[if_pos rfl]
     by_cases d:S=0<;>simp only[d,eq_self,if_true,if_false]at ih⊢ <;>
     simp -implicitDefEqProofs [hlt,hg,hr,c1,Zu,hrw,Rw.v_eq,t1,t2,w1,ih]
  ·simp only[Bool.not_eq_true]at c1
   rw[if_pos c1]at hs2
   subst hs2
   refine⟨[.arr [m.v]],?_⟩
   simp -implicitDefEqProofs [hlt,hg,hr,c1]
theorem ZfC(m:Zb)(hm:Clo m)(hb:m.Insts.l.length≤10000000)(l:GL Ins)(p:Int):Zc vp 829 [m.v,GL.v 6 Ins.v l,.int .i64 p]=some (.int .i64 (Y3 m l.l p)):=by
 obtain⟨h1,l1⟩:=ZjV m l (.int .i64 p) (l.l.take 64) 0 (by omega) (by omega) (by omega) rfl
 rw[Za ZxF]
 unfold Y3
 unfold QS
 cases hc:Wd (l.l.take 64) 0 with
 |some q=>
  obtain⟨i,e⟩:=q
  rw[hc]at l1
  simp -implicitDefEqProofs [l1]
 |none=>
  rw[hc]at l1
  by_cases c:64<l.l.length
  ·have c':(64:Int)<l.l.length:=by omega
   simp -implicitDefEqProofs at l1
   simp -implicitDefEqProofs [l1,c,c']
  ·have c': ¬(64:Int)<l.l.length:=by omega
   rw[List.take_of_length_le (by omega)]at hc l1
   obtain⟨h,l0⟩:=Zkp m hm hb l p (Q8 _ _ hc) l.l 0 (by omega) (by omega) rfl
   rw[if_neg c]
   by_cases d:Y6 m p l.l.length l.l 0=0
   ·rw[if_pos d]at l0
    simp -implicitDefEqProofs [l1,l0,c',d]
   ·rw[if_neg d]at l0
    simp -implicitDefEqProofs [l1,l0,c',d]
end Go.VE.Un
