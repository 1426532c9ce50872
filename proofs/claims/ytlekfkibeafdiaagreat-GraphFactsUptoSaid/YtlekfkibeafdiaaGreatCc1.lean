/- Joined texts: CtE, CtF, CkA. No condition: what each theorem needs stands in it. -/
import Derived.Test.YtlekfkibeafdiaaGreatCc0
import Derived.Test.YtlekfkibeafdiaaGreatCa0
import Derived.Lib.RuneCount
namespace Go.VE.Un
open Go.VE
def ZP(s:GS):VE.V:=.str s.s
@[simp] theorem Zsn(k:Nat)(s:GS):Zk k (ZP s)=true:=nr rfl
@[simp] theorem Zq4(s:GS):Ze (ZP s)=true:=nr rfl
structure ZaG (m:Zb):Prop where
 hHeaders:m.Headers.l.length≤5900000000000
 hMetas:m.Metas.l.length≤5900000000000
 hStates:m.States.l.length≤5900000000000
 hActions:m.Actions.l.length≤5900000000000
 hTables:m.Tables.l.length≤5900000000000
 hRegs:m.Regs.l.length≤5900000000000
 hCounters:m.Counters.l.length≤5900000000000
 hMeters:m.Meters.l.length≤5900000000000
theorem ZkA(m:Zb)(hm:ZaG m): ∀(r:List Header) (k:Int) (es:List V),0≤k→k≤m.Headers.l.length→m.Headers.l.drop k.toNat=r→es.length=k→(orc vp).loop 0 [1,2,5,6] ZdH [(1,.int .i64 1),(2,.ptr 0 1 0 0),(5,.gsl 1 es.length 1 0 es.length),(6,.int .i64 k)] [.arr [m.v],.arr es]=
 some (.brk 0,[(1,.int .i64 1),(2,.ptr 0 1 0 0),(5,.gsl 1 (es++r.map fun y=>ZP y.Name).length 1 0 (es++r.map fun y=>ZP y.Name).length),(6,.int .i64 m.Headers.l.length),(22,.bool false)],[.arr [m.v],.arr (es++r.map fun y=>ZP y.Name)]):=by
 intro r
 induction r with
 |nil=>
  intro k es hk hkl hd hr
  have hle:=Zq hk hd
  obtain⟨hlt,he⟩: ¬k<m.Headers.l.length∧k=m.Headers.l.length:=by and_intros<;>omega
  rw[ZcA]
  simp -implicitDefEqProofs [hlt,he]
 |cons y r ih=>
  intro k es hk hkl hd hr
  obtain⟨hg,hlt,hd'⟩:=Zp hk hd
  have hb:=hm.hHeaders
  have w1:=w64 (n:=k+1) (by omega)
  have hi:=ih (k+1) (es++[ZP y.Name]) (by omega) (by omega) hd' (by simp;omega)
  have ha:X3 0 [.arr [m.v],.arr es] 1 16 (.gsl 1 es.length 1 0 es.length) [.str y.Name.s]=some (.gsl 1 (es.length+1) 1 0 (es.length+1),[.arr [m.v],.arr (es++[.str y.Name.s])]):=
   Qr (Nat.zero_le _) rfl (by simp[YC];omega)
  rw[ZcA]
  simp -implicitDefEqProofs [ZP]at hi
  simp -implicitDefEqProofs [hlt,Z9,Yy,ha,w1,hi,hg,ZP]
theorem Wm(m:Zb)(p:Int)(hp: ¬p=1)(es:List V):(orc vp).loop 0 [1,2,5,6] ZdH [(1,.int .i64 p),(2,.ptr 0 1 0 0),(5,.gsl 1 es.length 1 0 es.length),(6,.int .i64 0)] [.arr [m.v],.arr es]=
 some (.brk 0,[(1,.int .i64 p),(2,.ptr 0 1 0 0),(5,.gsl 1 es.length 1 0 es.length),(6,.int .i64 0),(22,.bool false)],[.arr [m.v],.arr es]):=by
 rw[ZcA]
 by_cases h:0<m.Headers.l.length<;>simp -implicitDefEqProofs [hp,h]
theorem Zlv(m:Zb)(hm:ZaG m): ∀(r:List Field) (k:Int) (es:List V),0≤k→k≤m.Metas.l.length→m.Metas.l.drop k.toNat=r→es.length=k→(orc vp).loop 0 [1,2,5,7] ZdP [(1,.int .i64 3),(2,.ptr 0 1 0 0),(5,.gsl 1 es.length 1 0 es.length),(7,.int .i64 k)] [.arr [m.v],.arr es]=
 some (.brk 2,[(1,.int .i64 3),(2,.ptr 0 1 0 0),(5,.gsl 1 (es++r.map fun y=>ZP y.Name).length 1 0 (es++r.map fun y=>ZP y.Name).length),(7,.int .i64 m.Metas.l.length),(42,.bool false)],[.arr [m.v],.arr (es++r.map fun y=>ZP y.Name)]):=by
 intro r
 induction r with
 |nil=>
  intro k es hk hkl hd hr
  have hle:=Zq hk hd
  obtain⟨hlt,he⟩: ¬k<m.Metas.l.length∧k=m.Metas.l.length:=by and_intros<;>omega
  rw[Zct]
  simp -implicitDefEqProofs [hlt,he]
 |cons y r ih=>
  intro k es hk hkl hd hr
  obtain⟨hg,hlt,hd'⟩:=Zp hk hd
  have hb:=hm.hMetas
  have w1:=w64 (n:=k+1) (by omega)
  have hi:=ih (k+1) (es++[ZP y.Name]) (by omega) (by omega) hd' (by simp;omega)
  have ha:X3 0 [.arr [m.v],.arr es] 1 16 (.gsl 1 es.length 1 0 es.length) [.str y.Name.s]=some (.gsl 1 (es.length+1) 1 0 (es.length+1),[.arr [m.v],.arr (es++[.str y.Name.s])]):=
   Qr (Nat.zero_le _) rfl (by simp[YC];omega)
  rw[Zct]
  simp -implicitDefEqProofs [ZP]at hi
  simp -implicitDefEqProofs [hlt,Z9,Yy,ha,w1,hi,hg,ZP]
theorem Wt(m:Zb)(p:Int)(hp: ¬p=3)(es:List V):(orc vp).loop 0 [1,2,5,7] ZdP [(1,.int .i64 p),(2,.ptr 0 1 0 0),(5,.gsl 1 es.length 1 0 es.length),(7,.int .i64 0)] [.arr [m.v],.arr es]=
 some (.brk 2,[(1,.int .i64 p),(2,.ptr 0 1 0 0),(5,.gsl 1 es.length 1 0 es.length),(7,.int .i64 0),(42,.bool false)],[.arr [m.v],.arr es]):=by
 rw[Zct]
 by_cases h:0<m.Metas.l.length<;>simp -implicitDefEqProofs [hp,h]
theorem Zko(m:Zb)(hm:ZaG m): ∀(r:List ZJ) (k:Int) (es:List V),0≤k→k≤m.States.l.length→m.States.l.drop k.toNat=r→es.length=k→(orc vp).loop 0 [1,2,5,8] Zc7 [(1,.int .i64 4),(2,.ptr 0 1 0 0),(5,.gsl 1 es.length 1 0 es.length),(8,.int .i64 k)] [.arr [m.v],.arr es]=
 some (.brk 4,[(1,.int .i64 4),(2,.ptr 0 1 0 0),(5,.gsl 1 (es++r.map fun y=>ZP y.Name).length 1 0 (es++r.map fun y=>ZP y.Name).length),(8,.int .i64 m.States.l.length),(62,.bool false)],[.arr [m.v],.arr (es++r.map fun y=>ZP y.Name)]):=by
 intro r
 induction r with
 |nil=>
  intro k es hk hkl hd hr
  have hle:=Zq hk hd
  obtain⟨hlt,he⟩: ¬k<m.States.l.length∧k=m.States.l.length:=by and_intros<;>omega
  rw[ZdW]
  simp -implicitDefEqProofs [hlt,he]
 |cons y r ih=>
  intro k es hk hkl hd hr
  obtain⟨hg,hlt,hd'⟩:=Zp hk hd
  have hb:=hm.hStates
  have w1:=w64 (n:=k+1) (by omega)
  have hi:=ih (k+1) (es++[ZP y.Name]) (by omega) (by omega) hd' (by simp;omega)
  have ha:X3 0 [.arr [m.v],.arr es] 1 16 (.gsl 1 es.length 1 0 es.length) [.str y.Name.s]=some (.gsl 1 (es.length+1) 1 0 (es.length+1),[.arr [m.v],.arr (es++[.str y.Name.s])]):=
   Qr (Nat.zero_le _) rfl (by simp[YC];omega)
  rw[ZdW]
  simp -implicitDefEqProofs [ZP]at hi
  simp -implicitDefEqProofs [hlt,Z9,Yy,ha,w1,hi,hg,ZP]
theorem Ws(m:Zb)(p:Int)(hp: ¬p=4)(es:List V):(orc vp).loop 0 [1,2,5,8] Zc7 [(1,.int .i64 p),(2,.ptr 0 1 0 0),(5,.gsl 1 es.length 1 0 es.length),(8,.int .i64 0)] [.arr [m.v],.arr es]=
 some (.brk 4,[(1,.int .i64 p),(2,.ptr 0 1 0 0),(5,.gsl 1 es.length 1 0 es.length),(8,.int .i64 0),(62,.bool false)],[.arr [m.v],.arr es]):=by
 rw[ZdW]
 by_cases h:0<m.States.l.length<;>simp -implicitDefEqProofs [hp,h]
theorem ZkB(m:Zb)(hm:ZaG m): ∀(r:List Action) (k:Int) (es:List V),0≤k→k≤m.Actions.l.length→m.Actions.l.drop k.toNat=r→es.length=k→(orc vp).loop 0 [1,2,5,9] Zcj [(1,.int .i64 5),(2,.ptr 0 1 0 0),(5,.gsl 1 es.length 1 0 es.length),(9,.int .i64 k)] [.arr [m.v],.arr es]=
 some (.brk 6,[(1,.int .i64 5),(2,.ptr 0 1 0 0),(5,.gsl 1 (es++r.map fun y=>ZP y.Name).length 1 0 (es++r.map fun y=>ZP y.Name).length),(9,.int .i64 m.Actions.l.length),(82,.bool false)],[.arr [m.v],.arr (es++r.map fun y=>ZP y.Name)]):=by
 intro r
 induction r with
 |nil=>
  intro k es hk hkl hd hr
  have hle:=Zq hk hd
  obtain⟨hlt,he⟩: ¬k<m.Actions.l.length∧k=m.Actions.l.length:=by and_intros<;>omega
  rw[Zc3]
  simp -implicitDefEqProofs [hlt,he]
 |cons y r ih=>
  intro k es hk hkl hd hr
  obtain⟨hg,hlt,hd'⟩:=Zp hk hd
  have hb:=hm.hActions
  have w1:=w64 (n:=k+1) (by omega)
  have hi:=ih (k+1) (es++[ZP y.Name]) (by omega) (by omega) hd' (by simp;omega)
  have ha:X3 0 [.arr [m.v],.arr es] 1 16 (.gsl 1 es.length 1 0 es.length) [.str y.Name.s]=some (.gsl 1 (es.length+1) 1 0 (es.length+1),[.arr [m.v],.arr (es++[.str y.Name.s])]):=
   Qr (Nat.zero_le _) rfl (by simp[YC];omega)
  rw[Zc3]
  simp -implicitDefEqProofs [ZP]at hi
  simp -implicitDefEqProofs [hlt,Z9,Yy,ha,w1,hi,hg,ZP]
theorem Wz(m:Zb)(p:Int)(hp: ¬p=5)(es:List V):(orc vp).loop 0 [1,2,5,9] Zcj [(1,.int .i64 p),(2,.ptr 0 1 0 0),(5,.gsl 1 es.length 1 0 es.length),(9,.int .i64 0)] [.arr [m.v],.arr es]=
 some (.brk 6,[(1,.int .i64 p),(2,.ptr 0 1 0 0),(5,.gsl 1 es.length 1 0 es.length),(9,.int .i64 0),(82,.bool false)],[.arr [m.v],.arr es]):=by
 rw[Zc3]
 by_cases h:0<m.Actions.l.length<;>simp -implicitDefEqProofs [hp,h]
theorem Zlm(m:Zb)(hm:ZaG m): ∀(r:List ZD) (k:Int) (es:List V),0≤k→k≤m.Tables.l.length→m.Tables.l.drop k.toNat=r→es.length=k→(orc vp).loop 0 [1,2,5,10] Zd3 [(1,.int .i64 6),(2,.ptr 0 1 0 0),(5,.gsl 1 es.length 1 0 es.length),(10,.int .i64 k)] [.arr [m.v],.arr es]=
 some (.brk 8,[(1,.int .i64 6),(2,.ptr 0 1 0 0),(5,.gsl 1 (es++r.map fun y=>ZP y.Name).length 1 0 (es++r.map fun y=>ZP y.Name).length),(10,.int .i64 m.Tables.l.length),(102,.bool false)],[.arr [m.v],.arr (es++r.map fun y=>ZP y.Name)]):=by
 intro r
 induction r with
 |nil=>
  intro k es hk hkl hd hr
  have hle:=Zq hk hd
  obtain⟨hlt,he⟩: ¬k<m.Tables.l.length∧k=m.Tables.l.length:=by and_intros<;>omega
  rw[Zdg]
  simp -implicitDefEqProofs [hlt,he]
 |cons y r ih=>
  intro k es hk hkl hd hr
  obtain⟨hg,hlt,hd'⟩:=Zp hk hd
  have hb:=hm.hTables
  have w1:=w64 (n:=k+1) (by omega)
  have hi:=ih (k+1) (es++[ZP y.Name]) (by omega) (by omega) hd' (by simp;omega)
  have ha:X3 0 [.arr [m.v],.arr es] 1 16 (.gsl 1 es.length 1 0 es.length) [.str y.Name.s]=some (.gsl 1 (es.length+1) 1 0 (es.length+1),[.arr [m.v],.arr (es++[.str y.Name.s])]):=
   Qr (Nat.zero_le _) rfl (by simp[YC];omega)
  rw[Zdg]
  simp -implicitDefEqProofs [ZP]at hi
  simp -implicitDefEqProofs [hlt,Z9,Yy,ha,w1,hi,hg,ZP]
theorem Wq(m:Zb)(p:Int)(hp: ¬p=6)(es:List V):(orc vp).loop 0 [1,2,5,10] Zd3 [(1,.int .i64 p),(2,.ptr 0 1 0 0),(5,.gsl 1 es.length 1 0 es.length),(10,.int .i64 0)] [.arr [m.v],.arr es]=
 some (.brk 8,[(1,.int .i64 p),(2,.ptr 0 1 0 0),(5,.gsl 1 es.length 1 0 es.length),(10,.int .i64 0),(102,.bool false)],[.arr [m.v],.arr es]):=by
 rw[Zdg]
 by_cases h:0<m.Tables.l.length<;>simp -implicitDefEqProofs [hp,h]
theorem Zlc(m:Zb)(hm:ZaG m): ∀(r:List Reg) (k:Int) (es:List V),0≤k→k≤m.Regs.l.length→m.Regs.l.drop k.toNat=r→es.length=k→(orc vp).loop 0 [1,2,5,11] ZdM [(1,.int .i64 12),(2,.ptr 0 1 0 0),(5,.gsl 1 es.length 1 0 es.length),(11,.int .i64 k)] [.arr [m.v],.arr es]=
 some (.brk 10,[(1,.int .i64 12),(2,.ptr 0 1 0 0),(5,.gsl 1 (es++r.map fun y=>ZP y.Name).length 1 0 (es++r.map fun y=>ZP y.Name).length),(11,.int .i64 m.Regs.l.length),(122,.bool false)],[.arr [m.v],.arr (es++r.map fun y=>ZP y.Name)]):=by
 intro r
 induction r with
 |nil=>
  intro k es hk hkl hd hr
  have hle:=Zq hk hd
  obtain⟨hlt,he⟩: ¬k<m.Regs.l.length∧k=m.Regs.l.length:=by and_intros<;>omega
  rw[Zcm]
  simp -implicitDefEqProofs [hlt,he]
 |cons y r ih=>
  intro k es hk hkl hd hr
  obtain⟨hg,hlt,hd'⟩:=Zp hk hd
  have hb:=hm.hRegs
  have w1:=w64 (n:=k+1) (by omega)
  have hi:=ih (k+1) (es++[ZP y.Name]) (by omega) (by omega) hd' (by simp;omega)
  have ha:X3 0 [.arr [m.v],.arr es] 1 16 (.gsl 1 es.length 1 0 es.length) [.str y.Name.s]=some (.gsl 1 (es.length+1) 1 0 (es.length+1),[.arr [m.v],.arr (es++[.str y.Name.s])]):=
   Qr (Nat.zero_le _) rfl (by simp[YC];omega)
  rw[Zcm]
  simp -implicitDefEqProofs [ZP]at hi
  simp -implicitDefEqProofs [hlt,Z9,Yy,ha,w1,hi,hg,ZP]
theorem Ww(m:Zb)(p:Int)(hp: ¬p=12)(es:List V):(orc vp).loop 0 [1,2,5,11] ZdM [(1,.int .i64 p),(2,.ptr 0 1 0 0),(5,.gsl 1 es.length 1 0 es.length),(11,.int .i64 0)] [.arr [m.v],.arr es]=
 some (.brk 10,[(1,.int .i64 p),(2,.ptr 0 1 0 0),(5,.gsl 1 es.length 1 0 es.length),(11,.int .i64 0),(122,.bool false)],[.arr [m.v],.arr es]):=by
 rw[Zcm]
 by_cases h:0<m.Regs.l.length<;>simp -implicitDefEqProofs [hp,h]
theorem Zk5(m:Zb)(hm:ZaG m): ∀(r:List ZA) (k:Int) (es:List V),0≤k→k≤m.Counters.l.length→m.Counters.l.drop k.toNat=r→es.length=k→(orc vp).loop 0 [1,2,5,12] Zcl [(1,.int .i64 13),(2,.ptr 0 1 0 0),(5,.gsl 1 es.length 1 0 es.length),(12,.int .i64 k)] [.arr [m.v],.arr es]=
 some (.brk 12,[(1,.int .i64 13),(2,.ptr 0 1 0 0),(5,.gsl 1 (es++r.map fun y=>ZP y.Name).length 1 0 (es++r.map fun y=>ZP y.Name).length),(12,.int .i64 m.Counters.l.length),(142,.bool false)],[.arr [m.v],.arr (es++r.map fun y=>ZP y.Name)]):=by
 intro r
 induction r with
 |nil=>
  intro k es hk hkl hd hr
  have hle:=Zq hk hd
  obtain⟨hlt,he⟩: ¬k<m.Counters.l.length∧k=m.Counters.l.length:=by and_intros<;>omega
  rw[ZdF]
  simp -implicitDefEqProofs [hlt,he]
 |cons y r ih=>
  intro k es hk hkl hd hr
  obtain⟨hg,hlt,hd'⟩:=Zp hk hd
  have hb:=hm.hCounters
  have w1:=w64 (n:=k+1) (by omega)
  have hi:=ih (k+1) (es++[ZP y.Name]) (by omega) (by omega) hd' (by simp;omega)
  have ha:X3 0 [.arr [m.v],.arr es] 1 16 (.gsl 1 es.length 1 0 es.length) [.str y.Name.s]=some (.gsl 1 (es.length+1) 1 0 (es.length+1),[.arr [m.v],.arr (es++[.str y.Name.s])]):=
   Qr (Nat.zero_le _) rfl (by simp[YC];omega)
  rw[ZdF]
  simp -implicitDefEqProofs [ZP]at hi
  simp -implicitDefEqProofs [hlt,Z9,Yy,ha,w1,hi,hg,ZP]
theorem Wp(m:Zb)(p:Int)(hp: ¬p=13)(es:List V):(orc vp).loop 0 [1,2,5,12] Zcl [(1,.int .i64 p),(2,.ptr 0 1 0 0),(5,.gsl 1 es.length 1 0 es.length),(12,.int .i64 0)] [.arr [m.v],.arr es]=
 some (.brk 12,[(1,.int .i64 p),(2,.ptr 0 1 0 0),(5,.gsl 1 es.length 1 0 es.length),(12,.int .i64 0),(142,.bool false)],[.arr [m.v],.arr es]):=by
 rw[ZdF]
 by_cases h:0<m.Counters.l.length<;>simp -implicitDefEqProofs [hp,h]
theorem Zj0(m:Zb)(hm:ZaG m): ∀(r:List ZX) (k:Int) (es:List V),0≤k→k≤m.Meters.l.length→m.Meters.l.drop k.toNat=r→es.length=k→(orc vp).loop 0 [1,2,5,13] Zdp [(1,.int .i64 14),(2,.ptr 0 1 0 0),(5,.gsl 1 es.length 1 0 es.length),(13,.int .i64 k)] [.arr [m.v],.arr es]=
 some (.brk 14,[(1,.int .i64 14),(2,.ptr 0 1 0 0),(5,.gsl 1 (es++r.map fun y=>ZP y.Name).length 1 0 (es++r.map fun y=>ZP y.Name).length),(13,.int .i64 m.Meters.l.length),(162,.bool false)],[.arr [m.v],.arr (es++r.map fun y=>ZP y.Name)]):=by
 intro r
 induction r with
 |nil=>
  intro k es hk hkl hd hr
  have hle:=Zq hk hd
  obtain⟨hlt,he⟩: ¬k<m.Meters.l.length∧k=m.Meters.l.length:=by and_intros<;>omega
  rw[Zdx]
  simp -implicitDefEqProofs [hlt,he]
 |cons y r ih=>
  intro k es hk hkl hd hr
  obtain⟨hg,hlt,hd'⟩:=Zp hk hd
  have hb:=hm.hMeters
  have w1:=w64 (n:=k+1) (by omega)
  have hi:=ih (k+1) (es++[ZP y.Name]) (by omega) (by omega) hd' (by simp;omega)
  have ha:X3 0 [.arr [m.v],.arr es] 1 16 (.gsl 1 es.length 1 0 es.length) [.str y.Name.s]=some (.gsl 1 (es.length+1) 1 0 (es.length+1),[.arr [m.v],.arr (es++[.str y.Name.s])]):=
   Qr (Nat.zero_le _) rfl (by simp[YC];omega)
  rw[Zdx]
  simp -implicitDefEqProofs [ZP]at hi
  simp -implicitDefEqProofs [hlt,Z9,Yy,ha,w1,hi,hg,ZP]
theorem Wx(m:Zb)(p:Int)(hp: ¬p=14)(es:List V):(orc vp).loop 0 [1,2,5,13] Zdp [(1,.int .i64 p),(2,.ptr 0 1 0 0),(5,.gsl 1 es.length 1 0 es.length),(13,.int .i64 0)] [.arr [m.v],.arr es]=
 some (.brk 14,[(1,.int .i64 p),(2,.ptr 0 1 0 0),(5,.gsl 1 es.length 1 0 es.length),(13,.int .i64 0),(162,.bool false)],[.arr [m.v],.arr es]):=by
 rw[Zdx]
 by_cases h:0<m.Meters.l.length<;>simp -implicitDefEqProofs [hp,h]
def titles(m:Zb)(p:Int):List GS:=
 if p=1 then m.Headers.l.map (·.Name)else if p=3 then m.Metas.l.map (·.Name)else if p=4 then m.States.l.map (·.Name)else if p=5 then m.Actions.l.map (·.Name)else
 if p=6 then m.Tables.l.map (·.Name)else if p=12 then m.Regs.l.map (·.Name)else if p=13 then m.Counters.l.map (·.Name)else if p=14 then m.Meters.l.map (·.Name)else[]
theorem Xo(l:List GS):Zv (l.map ZP)=true:=by rw[YR];simp
@[simp] theorem Wv(m:Zb)(p:Int)(hm:ZaG m):Zc vp 836 [m.v,.int .i64 p]=some (.sl 1 ((titles m p).map ZP) .perm):=by
  rw[Za ZxO]
  by_cases h1:p=1
  ·subst h1
   have hl:=ZkA m hm m.Headers.l 0 [] (by omega) (by omega) rfl (by simp)
   have hc:=Xo (m.Headers.l.map (·.Name))
   simp -implicitDefEqProofs at hl
   simp only[List.map_map]at hc
   have a6:=Wt m 1 (by decide) (m.Headers.l.map fun y=>ZP y.Name)
   simp -implicitDefEqProofs at a6
   have a5:=Ws m 1 (by decide) (m.Headers.l.map fun y=>ZP y.Name)
   simp -implicitDefEqProofs at a5
   have a4:=Wz m 1 (by decide) (m.Headers.l.map fun y=>ZP y.Name)
   simp -implicitDefEqProofs at a4
   have a3:=Wq m 1 (by decide) (m.Headers.l.map fun y=>ZP y.Name)
   simp -implicitDefEqProofs at a3
   have a2:=Ww m 1 (by decide) (m.Headers.l.map fun y=>ZP y.Name)
   simp -implicitDefEqProofs at a2
   have a1:=Wp m 1 (by decide) (m.Headers.l.map fun y=>ZP y.Name)
   simp -implicitDefEqProofs at a1
   have a0:=Wx m 1 (by decide) (m.Headers.l.map fun y=>ZP y.Name)
   simp -implicitDefEqProofs at a0
   have e1:(List.map ((fun x=>ZP x)∘fun x=>x.Name) m.Headers.l)=m.Headers.l.map fun y=>ZP y.Name:=rfl
   have e2:Zv (m.Headers.l.map fun y=>ZP y.Name)=true:=hc
   simp -implicitDefEqProofs [hl,a6,a5,a4,a3,a2,a1,a0,e2,titles]
  by_cases h3:p=3
  ·subst h3
   have hl:=Zlv m hm m.Metas.l 0 [] (by omega) (by omega) rfl (by simp)
   have hc:=Xo (m.Metas.l.map (·.Name))
   simp -implicitDefEqProofs at hl
   simp only[List.map_map]at hc
   have a7:=Wm m 3 (by decide) []
   simp -implicitDefEqProofs at a7
   have a5:=Ws m 3 (by decide) (m.Metas.l.map fun y=>ZP y.Name)
   simp -implicitDefEqProofs at a5
   have a4:=Wz m 3 (by decide) (m.Metas.l.map fun y=>ZP y.Name)
   simp -implicitDefEqProofs at a4
   have a3:=Wq m 3 (by decide) (m.Metas.l.map fun y=>ZP y.Name)
   simp -implicitDefEqProofs at a3
   have a2:=Ww m 3 (by decide) (m.Metas.l.map fun y=>ZP y.Name)
   simp -implicitDefEqProofs at a2
   have a1:=Wp m 3 (by decide) (m.Metas.l.map fun y=>ZP y.Name)
   simp -implicitDefEqProofs at a1
   have a0:=Wx m 3 (by decide) (m.Metas.l.map fun y=>ZP y.Name)
   simp -implicitDefEqProofs at a0
   have e1:(List.map ((fun x=>ZP x)∘fun x=>x.Name) m.Metas.l)=m.Metas.l.map fun y=>ZP y.Name:=rfl
   have e2:Zv (m.Metas.l.map fun y=>ZP y.Name)=true:=hc
   simp -implicitDefEqProofs [hl,a7,a5,a4,a3,a2,a1,a0,e2,titles]
  by_cases h4:p=4
  ·subst h4
   have hl:=Zko m hm m.States.l 0 [] (by omega) (by omega) rfl (by simp)
   have hc:=Xo (m.States.l.map (·.Name))
   simp -implicitDefEqProofs at hl
   simp only[List.map_map]at hc
   have a7:=Wm m 4 (by decide) []
   simp -implicitDefEqProofs at a7
   have a6:=Wt m 4 (by decide) []
   simp -implicitDefEqProofs at a6
   have a4:=Wz m 4 (by decide) (m.States.l.map fun y=>ZP y.Name)
   simp -implicitDefEqProofs at a4
   have a3:=Wq m 4 (by decide) (m.States.l.map fun y=>ZP y.Name)
   simp -implicitDefEqProofs at a3
   have a2:=Ww m 4 (by decide) (m.States.l.map fun y=>ZP y.Name)
   simp -implicitDefEqProofs at a2
   have a1:=Wp m 4 (by decide) (m.States.l.map fun y=>ZP y.Name)
   simp -implicitDefEqProofs at a1
   have a0:=Wx m 4 (by decide) (m.States.l.map fun y=>ZP y.Name)
   simp -implicitDefEqProofs at a0
   have e1:(List.map ((fun x=>ZP x)∘fun x=>x.Name) m.States.l)=m.States.l.map fun y=>ZP y.Name:=rfl
   have e2:Zv (m.States.l.map fun y=>ZP y.Name)=true:=hc
   simp -implicitDefEqProofs [hl,a7,a6,a4,a3,a2,a1,a0,e2,titles]
  by_cases h5:p=5
  ·subst h5
   have hl:=ZkB m hm m.Actions.l 0 [] (by omega) (by omega) rfl (by simp)
   have hc:=Xo (m.Actions.l.map (·.Name))
   simp -implicitDefEqProofs at hl
   simp only[List.map_map]at hc
   have a7:=Wm m 5 (by decide) []
   simp -implicitDefEqProofs at a7
   have a6:=Wt m 5 (by decide) []
   simp -implicitDefEqProofs at a6
   have a5:=Ws m 5 (by decide) []
   simp -implicitDefEqProofs at a5
   have a3:=Wq m 5 (by decide) (m.Actions.l.map fun y=>ZP y.Name)
   simp -implicitDefEqProofs at a3
   have a2:=Ww m 5 (by decide) (m.Actions.l.map fun y=>ZP y.Name)
   simp -implicitDefEqProofs at a2
   have a1:=Wp m 5 (by decide) (m.Actions.l.map fun y=>ZP y.Name)
   simp -implicitDefEqProofs at a1
   have a0:=Wx m 5 (by decide) (m.Actions.l.map fun y=>ZP y.Name)
   simp -implicitDefEqProofs at a0
   have e1:(List.map ((fun x=>ZP x)∘fun x=>x.Name) m.Actions.l)=m.Actions.l.map fun y=>ZP y.Name:=rfl
   have e2:Zv (m.Actions.l.map fun y=>ZP y.Name)=true:=hc
   simp -implicitDefEqProofs [hl,a7,a6,a5,a3,a2,a1,a0,e2,titles]
  by_cases h6:p=6
  ·subst h6
   have hl:=Zlm m hm m.Tables.l 0 [] (by omega) (by omega) rfl (by simp)
   have hc:=Xo (m.Tables.l.map (·.Name))
   simp -implicitDefEqProofs at hl
   simp only[List.map_map]at hc
   have a7:=Wm m 6 (by decide) []
   simp -implicitDefEqProofs at a7
   have a6:=Wt m 6 (by decide) []
   simp -implicitDefEqProofs at a6
   have a5:=Ws m 6 (by decide) []
   simp -implicitDefEqProofs at a5
   have a4:=Wz m 6 (by decide) []
   simp -implicitDefEqProofs at a4
   have a2:=Ww m 6 (by decide) (m.Tables.l.map fun y=>ZP y.Name)
   simp -implicitDefEqProofs at a2
   have a1:=Wp m 6 (by decide) (m.Tables.l.map fun y=>ZP y.Name)
   simp -implicitDefEqProofs at a1
   have a0:=Wx m 6 (by decide) (m.Tables.l.map fun y=>ZP y.Name)
   simp -implicitDefEqProofs at a0
   have e1:(List.map ((fun x=>ZP x)∘fun x=>x.Name) m.Tables.l)=m.Tables.l.map fun y=>ZP y.Name:=rfl
   have e2:Zv (m.Tables.l.map fun y=>ZP y.Name)=true:=hc
   simp -implicitDefEqProofs [hl,a7,a6,a5,a4,a2,a1,a0,e2,titles]
  by_cases h12:p=12
  ·subst h12
   have hl:=Zlc m hm m.Regs.l 0 [] (by omega) (by omega) rfl (by simp)
   have hc:=Xo (m.Regs.l.map (·.Name))
   simp -implicitDefEqProofs at hl
   simp only[List.map_map]at hc
   have a7:=Wm m 12 (by decide) []
   simp -implicitDefEqProofs at a7
   have a6:=Wt m 12 (by decide) []
   simp -implicitDefEqProofs at a6
   have a5:=Ws m 12 (by decide) []
   simp -implicitDefEqProofs at a5
   have a4:=Wz m 12 (by decide) []
   simp -implicitDefEqProofs at a4
   have a3:=Wq m 12 (by decide) []
   simp -implicitDefEqProofs at a3
   have a1:=Wp m 12 (by decide) (m.Regs.l.map fun y=>ZP y.Name)
   simp -implicitDefEqProofs at a1
   have a0:=Wx m 12 (by decide) (m.Regs.l.map fun y=>ZP y.Name)
   simp -implicitDefEqProofs at a0
   have e1:(List.map ((fun x=>ZP x)∘fun x=>x.Name) m.Regs.l)=m.Regs.l.map fun y=>ZP y.Name:=rfl
   have e2:Zv (m.Regs.l.map fun y=>ZP y.Name)=true:=hc
   simp -implicitDefEqProofs [hl,a7,a6,a5,a4,a3,a1,a0,e2,titles]
  by_cases h13:p=13
  ·subst h13
   have hl:=Zk5 m hm m.Counters.l 0 [] (by omega) (by omega) rfl (by simp)
   have hc:=Xo (m.Counters.l.map (·.Name))
   simp -implicitDefEqProofs at hl
   simp only[List.map_map]at hc
   have a7:=Wm m 13 (by decide) []
   simp -implicitDefEqProofs at a7
   have a6:=Wt m 13 (by decide) []
   simp -implicitDefEqProofs at a6
   have a5:=Ws m 13 (by decide) []
   simp -implicitDefEqProofs at a5
   have a4:=Wz m 13 (by decide) []
   simp -implicitDefEqProofs at a4
   have a3:=Wq m 13 (by decide) []
   simp -implicitDefEqProofs at a3
   have a2:=Ww m 13 (by decide) []
   simp -implicitDefEqProofs at a2
   have a0:=Wx m 13 (by decide) (m.Counters.l.map fun y=>ZP y.Name)
   simp -implicitDefEqProofs at a0
   have e1:(List.map ((fun x=>ZP x)∘fun x=>x.Name) m.Counters.l)=m.Counters.l.map fun y=>ZP y.Name:=rfl
   have e2:Zv (m.Counters.l.map fun y=>ZP y.Name)=true:=hc
   simp -implicitDefEqProofs [hl,a7,a6,a5,a4,a3,a2,a0,e2,titles]
  by_cases h14:p=14
  ·subst h14
   have hl:=Zj0 m hm m.Meters.l 0 [] (by omega) (by omega) rfl (by simp)
   have hc:=Xo (m.Meters.l.map (·.Name))
   simp -implicitDefEqProofs at hl
   simp only[List.map_map]at hc
   have a7:=Wm m 14 (by decide) []
   simp -implicitDefEqProofs at a7
   have a6:=Wt m 14 (by decide) []
   simp -implicitDefEqProofs at a6
   have a5:=Ws m 14 (by decide) []
   simp -implicitDefEqProofs at a5
   have a4:=Wz m 14 (by decide) []
   simp -implicitDefEqProofs at a4
   have a3:=Wq m 14 (by decide) []
   simp -implicitDefEqProofs at a3
   have a2:=Ww m 14 (by decide) []
   simp -implicitDefEqProofs at a2
   have a1:=Wp m 14 (by decide) []
   simp -implicitDefEqProofs at a1
   have e1:(List.map ((fun x=>ZP x)∘fun x=>x.Name) m.Meters.l)=m.Meters.l.map fun y=>ZP y.Name:=rfl
   have e2:Zv (m.Meters.l.map fun y=>ZP y.Name)=true:=hc
   simp -implicitDefEqProofs [hl,a7,a6,a5,a4,a3,a2,a1,e2,titles]
  have a7:=Wm m p h1 []
  simp -implicitDefEqProofs at a7
  have a6:=Wt m p h3 []
  simp -implicitDefEqProofs at a6
  have a5:=Ws m p h4 []
  simp -implicitDefEqProofs at a5
  have a4:=Wz m p h5 []
  simp -implicitDefEqProofs at a4
  have a3:=Wq m p h6 []
  simp -implicitDefEqProofs at a3
  have a2:=Ww m p h12 []
  simp -implicitDefEqProofs at a2
  have a1:=Wp m p h13 []
  simp -implicitDefEqProofs at a1
  have a0:=Wx m p h14 []
  simp -implicitDefEqProofs at a0
  simp -implicitDefEqProofs [a7,a6,a5,a4,a3,a2,a1,a0,titles,h1,h3,h4,h5,h6,h12,h13,h14]
theorem Zgn{m:Zb}(hm:ZaG m)(p:Int):(titles m p).length≤5900000000000:=by
 unfold titles
 obtain⟨h1,h2,h3,h4,h5,h6,h7,h8⟩:=hm
 repeat' split
 all_goals simp
 all_goals assumption
end Go.VE.Un
namespace Go.VE.Un
open Go.VE
end Go.VE.Un
namespace Go.VE
def WD(s:List UInt8):Nat→Nat→List Int
 |0,_=>[]
 |f+1,pos=>if pos<s.length then(ZU s pos).1::WD s f (pos+(ZU s pos).2)else[]
def XQ(s:List UInt8):List Int:=WD s s.length 0
theorem Vz(s:List UInt8)(pos:Nat)(h:pos<s.length):Kf 0 [.iter s pos] (.itr 0)=some (.tup [.bool true,.int .i64 pos,.int .i32 (ZU s pos).1],[.iter s (pos+(ZU s pos).2)]):=by
 simp[Kf,h]
theorem ZeJ(s:List UInt8)(pos:Nat)(h: ¬pos<s.length):Kf 0 [.iter s pos] (.itr 0)=some (.tup [.bool false],[.iter s pos]):=by
 simp[Kf,h]
end Go.VE
namespace Go.VE.Un
open Go.VE
@[simp] theorem ZsP(a b c:Int):Zc vp 564 [.int .i32 a,.int .i32 b,.int .i32 c]=some (.bool (decide (b≤a)&&decide (a≤c))):=YJ Zrr a b c
@[simp] theorem ZuL(c:Int):Zc vp 561 [.int .i32 c]=some (.bool (ZO c)):=WG Zrr ZwQ c
def W7(c:Int):Bool:=decide (48≤c)&&decide (c≤57)
@[simp] theorem Zyi(c:Int):Zc vp 556 [.int .i32 c]=some (.bool (W7 c)):=by
  rw[Za Zyc]
  simp -implicitDefEqProofs [W7]
def Vc:List Int→Int→Option Int
 |[],n=>some n
 |c::r,n=>if ZO c=false∧(n=0∨W7 c=false∧c≠45∧c≠46)then none else Vc r (n+1)
theorem Zo6(s:List UInt8)(pos:Nat)(h:pos<s.length):1≤(ZU s pos).2:=Lib.decode_width_pos ⟨s.toArray⟩ pos (by simpa[ByteArray.size]using h)
theorem ZpS(s:List UInt8)(hs:s.length≤140737488355328): ∀(fuel pos:Nat) (n:Int),s.length≤pos+fuel→0≤n→n+fuel≤140737488355328→∃q,(orc vp).loop 0 [3,7] ZgP [(3,.int .i64 n),(7,.itr 0)] [.iter s pos]=
 (match Vc (WD s fuel pos) n with
  |some k=>some (.brk 0,[(3,.int .i64 k),(7,.itr 0),(8,.tup [.bool false]),(9,.bool false)],[.iter s q])
  |none=>some (.ret,[(2,.bool false)],[.iter s q])):=by
 intro fuel
 induction fuel with
 |zero=>
  intro pos n hp h0 h2
  have hn: ¬pos<s.length:=by omega
  refine⟨pos,?_⟩
  rw[VX]
  simp -implicitDefEqProofs [ZeJ s pos hn,WD,Vc]
 |succ f ih=>
  intro pos n hp h0 h2
  by_cases hn:pos<s.length
  ·have hw:=Zo6 s pos hn
   have w:=ZK (n:=n+1) (by omega) (by omega)
   obtain⟨q,ih⟩:=ih (pos+(ZU s pos).2) (n+1) (by omega) (by omega) (by omega)
   by_cases hl:ZO (ZU s pos).1=true
   ·exact⟨q,by rw[VX];simp -implicitDefEqProofs [Vz s pos hn,WD,Vc,hn,hl,w,ih]⟩
   ·by_cases hz:n=0
    ·exact⟨_,by rw[VX];simp -implicitDefEqProofs [Vz s pos hn,WD,Vc,hn,hl,hz];rfl⟩
    ·by_cases hd:W7 (ZU s pos).1=true
     ·exact⟨q,by rw[VX];simp -implicitDefEqProofs [Vz s pos hn,WD,Vc,hn,hl,hz,hd,w,ih]⟩
     ·by_cases h5:((ZU s pos).1:Int)=45
      ·have h6:ZO 45=false:=by decide
       have h7:W7 45=false:=by decide
       exact⟨q,by rw[VX];simp -implicitDefEqProofs [Vz s pos hn,WD,Vc,hn,h6,h7,hz,h5,w,ih]⟩
      ·by_cases h6:((ZU s pos).1:Int)=46
       ·have h8:ZO 46=false:=by decide
        have h7:W7 46=false:=by decide
        exact⟨q,by rw[VX];simp -implicitDefEqProofs [Vz s pos hn,WD,Vc,hn,h8,h7,hz,h6,w,ih]⟩
       ·exact⟨_,by rw[VX];simp -implicitDefEqProofs [Vz s pos hn,WD,Vc,hn,hl,hz,hd,h5,h6];rfl⟩
  ·exact⟨pos,by rw[VX];simp -implicitDefEqProofs [ZeJ s pos hn,WD,Vc,hn]⟩
def J1(s:List UInt8):Bool:=match Vc (XQ s) 0 with|some k=>decide (1≤k)&&decide (k≤24)|none=>false
@[simp] theorem ZBN(s:List UInt8)(hs:s.length≤140737488355328):Zc vp 562 [.str s]=some (.bool (J1 s)):=by
  rw[Za ZxC]
  obtain⟨q,h⟩:=ZpS s hs s.length 0 0 (by omega) (by omega) (by omega)
  cases hn:Vc (WD s s.length 0) 0 with
  |none=>
   rw[hn]at h
   simp -implicitDefEqProofs [h,J1,XQ,hn]
  |some k=>
   rw[hn]at h
   by_cases h1:1≤k
   ·simp -implicitDefEqProofs [h,J1,XQ,hn,h1]
   ·simp -implicitDefEqProofs [h,J1,XQ,hn,h1]
@[simp] theorem ZBL(s:List UInt8)(hs:s.length≤35184372088831):ZkM [.str s]=some (.str (Yl s)):=by simp[ZkM,hs]
@[simp] theorem Zv9(s t:List UInt8)(hs:s.length≤35184372088831)(ht:t.length≤35184372088831):Zc vp 554 [.str s,.str t]=some (.bool (decide (Yl s=Yl t))):=by
  rw[Za Zyr]
  simp -implicitDefEqProofs [hs,ht]
@[simp] theorem ZBC(s k:List UInt8)(hs:s.length≤35184372088831):Zc vp 559 [.str s,.eptr (.str k) 0 .brw]=some (.bool (decide (Yl s=k))):=by
  rw[Za ZvQ]
  simp -implicitDefEqProofs [hs]
def Vw(k:List UInt8):List (List UInt8)→Int→Int
 |[],_=> -1
 |t::r,i=>if Yl t=k then i else Vw k r (i+1)
theorem Zms(k:List UInt8)(l:List (List UInt8))(t:Tag)(hl:l.length≤140737488355328)(hb: ∀x∈l,x.length≤35184372088831): ∀(r:List (List UInt8)) (i:Int),0≤i→i≤l.length→l.drop i.toNat=r→(orc vp).loop 0 [0,1,7,8] ZcK [(0,.sl 1 (l.map V.str) t),(1,.func 559 [] [.eptr (.str k) 0 .brw]),(7,.int .i64 l.length),(8,.int .i64 i)] []=
 (if Vw k r i= -1 then some (.brk 0,[(0,.sl 1 (l.map V.str) t),(1,.func 559 [] [.eptr (.str k) 0 .brw]),(7,.int .i64 l.length),(8,.int .i64 l.length),(9,.bool false)],[])else some (.ret,[(4,.int .i64 (Vw k r i))],[])):=by
 intro r
 induction r with
 |nil=>
  intro i hi hil hd
  have hle:=Zq hi hd
  have hlt: ¬i<l.length:=by omega
  have:i=l.length:=by omega
  rw[Zfe]
  simp -implicitDefEqProofs [hlt,Vw,this]
 |cons x r ih=>
  intro i hi hil hd
  obtain⟨hg,hlt,hd'⟩:=Zp hi hd
  have hx:=hb x (List.mem_of_getElem? (by rw[Zh,if_pos hi]at hg;exact hg))
  have w1:=w64 (n:=i+1) (by omega)
  rw[Zfe]
  by_cases hk:Yl x=k
  ·have: ¬i= -1:=by omega
   simp -implicitDefEqProofs [hlt,hg,Vw,hk,this,hx]
  ·simp -implicitDefEqProofs [hlt,hg,Vw,hk,w1,hx,ih (i+1) (by omega) (by omega) hd']
theorem Zmc(k:List UInt8)(l:List (List UInt8))(t:Tag)(hl:l.length≤140737488355328)(hb: ∀x∈l,x.length≤35184372088831):
 Zc vp 1203 [.sl 1 (l.map V.str) t,.func 559 [] [.eptr (.str k) 0 .brw]]=some (.int .i64 (Vw k l 0)):=by
 have h:=Zms k l t hl hb l 0 (by omega) (by omega) rfl
 rw[Za Ztu]
 by_cases hk:Vw k l 0= -1
 ·rw[if_pos hk]at h
  simp -implicitDefEqProofs [h,hk]
 ·rw[if_neg hk]at h
  simp -implicitDefEqProofs [h]
@[simp] theorem JA(l:List (List UInt8))(s:List UInt8)(t:Tag)(hl:l.length≤140737488355328)(hb: ∀x∈l,x.length≤35184372088831)(hs:s.length≤35184372088831):
   Zc vp 558 [.sl 1 (l.map V.str) t,.str s]=some (.int .i64 (Vw (Yl s) l 0)):=by
  rw[Za Zwc]
  simp -implicitDefEqProofs [hs,Zmc (Yl s) l t hl hb]
end Go.VE.Un
