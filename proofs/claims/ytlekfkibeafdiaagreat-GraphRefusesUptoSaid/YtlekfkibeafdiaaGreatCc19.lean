/- Joined texts: GrL. No condition: what each theorem needs stands in it. -/
import Derived.Test.YtlekfkibeafdiaaGreatCc18
namespace Go.VE.Un
open Go.VE
theorem ZFc(m:Zb)(hm:Clo m)(hT:Zdn m):Zc vp 708 [m.v]=some (.bool (Zac m)):=by
 have hc:=Zmw m hm hT
 have a1:=m.Headers.le;have a2:=m.Insts.le;have a3:=m.States.le;have a4:=m.Actions.le
 have a5:=m.Tables.le;have a6:=m.Ingress.le;have a7:=m.Egress.le
 have w1:IntKind.i64.wrap ((m.Headers.l.length:Int)+m.Insts.l.length)=(m.Headers.l.length:Int)+m.Insts.l.length:=ZK (by omega) (by omega)
 have w2:IntKind.i64.wrap ((m.Headers.l.length:Int)+m.Insts.l.length+m.States.l.length)=(m.Headers.l.length:Int)+m.Insts.l.length+m.States.l.length:=ZK (by omega) (by omega)
 have w3:IntKind.i64.wrap ((m.Headers.l.length:Int)+m.Insts.l.length+m.States.l.length+m.Actions.l.length)=(m.Headers.l.length:Int)+m.Insts.l.length+m.States.l.length+m.Actions.l.length:=ZK (by omega) (by omega)
 have w4:IntKind.i64.wrap ((m.Headers.l.length:Int)+m.Insts.l.length+m.States.l.length+m.Actions.l.length+m.Tables.l.length)=(m.Headers.l.length:Int)+m.Insts.l.length+m.States.l.length+m.Actions.l.length+m.Tables.l.length:=ZK (by omega) (by omega)
 have w5:IntKind.i64.wrap ((m.Headers.l.length:Int)+m.Insts.l.length+m.States.l.length+m.Actions.l.length+m.Tables.l.length+m.Ingress.l.length)=(m.Headers.l.length:Int)+m.Insts.l.length+m.States.l.length+m.Actions.l.length+m.Tables.l.length+m.Ingress.l.length:=ZK (by omega) (by omega)
 have w6:IntKind.i64.wrap ((m.Headers.l.length:Int)+m.Insts.l.length+m.States.l.length+m.Actions.l.length+m.Tables.l.length+m.Ingress.l.length+m.Egress.l.length)=(m.Headers.l.length:Int)+m.Insts.l.length+m.States.l.length+m.Actions.l.length+m.Tables.l.length+m.Ingress.l.length+m.Egress.l.length:=ZK (by omega) (by omega)
 rw[Za ZFZ]
 unfold Zac
 by_cases h:150<ZaS m
 ·have e: ¬ZaS m≤150:=by omega
  have h':=h
  unfold ZaS at h'
  simp -implicitDefEqProofs [f708,b708,w1,w2,w3,w4,w5,w6,h',e]
 ·have e:ZaS m≤150:=by omega
  have h':=h
  unfold ZaS at h'
  simp -implicitDefEqProofs [f708,b708,w1,w2,w3,w4,w5,w6,h',e,hc]
set_option maxRecDepth 100000 in
set_option maxHeartbeats 4000000 in
theorem graphRefuses(m:Zb)(hm:Clo m)(hT:Zdn m)(hsm:Z2 m)(hlv:Zc vp 707 []=some (.bool true)):Zc vp 704 [m.v]=some (.bool true):=by
 have hr:=ZFc m hm hT
 have a1:=m.Headers.le;have a2:=m.Insts.le;have a3:=m.States.le;have a4:=m.Actions.le
 have a5:=m.Tables.le;have a6:=m.Ingress.le;have a7:=m.Egress.le
 have w1:IntKind.i64.wrap ((m.Headers.l.length:Int)+m.Insts.l.length)=(m.Headers.l.length:Int)+m.Insts.l.length:=ZK (by omega) (by omega)
 have w2:IntKind.i64.wrap ((m.Headers.l.length:Int)+m.Insts.l.length+m.States.l.length)=(m.Headers.l.length:Int)+m.Insts.l.length+m.States.l.length:=ZK (by omega) (by omega)
 have w3:IntKind.i64.wrap ((m.Headers.l.length:Int)+m.Insts.l.length+m.States.l.length+m.Actions.l.length)=(m.Headers.l.length:Int)+m.Insts.l.length+m.States.l.length+m.Actions.l.length:=ZK (by omega) (by omega)
 have w4:IntKind.i64.wrap ((m.Headers.l.length:Int)+m.Insts.l.length+m.States.l.length+m.Actions.l.length+m.Tables.l.length)=(m.Headers.l.length:Int)+m.Insts.l.length+m.States.l.length+m.Actions.l.length+m.Tables.l.length:=ZK (by omega) (by omega)
 have w5:IntKind.i64.wrap ((m.Headers.l.length:Int)+m.Insts.l.length+m.States.l.length+m.Actions.l.length+m.Tables.l.length+m.Ingress.l.length)=(m.Headers.l.length:Int)+m.Insts.l.length+m.States.l.length+m.Actions.l.length+m.Tables.l.length+m.Ingress.l.length:=ZK (by omega) (by omega)
 have w6:IntKind.i64.wrap ((m.Headers.l.length:Int)+m.Insts.l.length+m.States.l.length+m.Actions.l.length+m.Tables.l.length+m.Ingress.l.length+m.Egress.l.length)=(m.Headers.l.length:Int)+m.Insts.l.length+m.States.l.length+m.Actions.l.length+m.Tables.l.length+m.Ingress.l.length+m.Egress.l.length:=ZK (by omega) (by omega)
 have w00:IntKind.i64.wrap 0=0:=ZK (by omega) (by omega)
 rw[Za ZFR]
 by_cases h:150<ZaS m
 ·have h':=h
  unfold ZaS at h'
  simp -implicitDefEqProofs [f704,b704,w1,w2,w3,w4,w5,w6,h',hlv]
 have h':=h
 unfold ZaS at h'
 have h150:ZaS m≤150:=by omega
 by_cases hci:Yr m=none
 ·obtain⟨F,f1,f2,f3,hc⟩:=ZFk m hm hsm hci
  have hrb:Zac m=true:=by unfold Zac;simp[ZFq hci,h150]
  generalize ctR F m.States.l 0 (false,ZEx m)=q at hc
  obtain⟨o,a⟩:=q
  cases o with
  |none=>
   simp only at hc
   have hst:stc (.agg [.sl 1 [] .nl,.sl 1 [] .nl,.int .u64 0,.bool false,.int .i64 0,.int .i64 0]) 6 0 (ZFp m F a)=some (ZFp m F a):=Zie rfl rfl
   generalize ZFp m F a=X at*
   simp -implicitDefEqProofs [f704,b704,w1,w2,w3,w4,w5,w6,h',hlv,hc,hr,hrb,hst]
  |some w=>
   obtain⟨i,k⟩:=w
   simp only[wrV]at hc
   simp -implicitDefEqProofs [f704,b704,w1,w2,w3,w4,w5,w6,h',hlv,hc,hr,hrb,QU,w00]
 ·have hc:=ZEF m hm hsm hci
  have hrb:Zac m=false:=by
   cases hx:Yr m with
   |none=>exact absurd hx hci
   |some t=>obtain⟨p,n,e⟩:=t;have:=ZFf hx;unfold Zac;simp[this]
  simp only[wrV]at hc
  simp -implicitDefEqProofs [f704,b704,w1,w2,w3,w4,w5,w6,h',hlv,hc,hr,hrb,QU,w00]
end Go.VE.Un
