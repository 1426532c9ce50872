/- Joined texts: CtE, CtF, CkA. No condition: what each theorem needs stands in it. -/
import Derived.Test.YtieifgngaaccmaaGreatCc0
import Derived.Test.YtieifgngaaccmaaGreatCa0
import Derived.Lib.RuneCount
namespace Go.VE.Un
open Go.VE
def strV(s:GS):VE.V:=.str s.s
@[simp] theorem strV_below(k:Nat)(s:GS):belowB k (strV s)=true:=nr rfl
@[simp] theorem strV_closed(s:GS):closedB (strV s)=true:=nr rfl
structure Held (m:Image):Prop where
 hHeaders:m.Headers.l.length≤5900000000000
 hMetas:m.Metas.l.length≤5900000000000
 hStates:m.States.l.length≤5900000000000
 hActions:m.Actions.l.length≤5900000000000
 hTables:m.Tables.l.length≤5900000000000
 hRegs:m.Regs.l.length≤5900000000000
 hCounters:m.Counters.l.length≤5900000000000
 hMeters:m.Meters.l.length≤5900000000000
theorem loop836_7(m:Image)(hm:Held m): ∀(r:List Header) (k:Int) (es:List V),0≤k→k≤m.Headers.l.length→m.Headers.l.drop k.toNat=r→es.length=k→(orc vp).loop 0 [1,2,5,6] L836_7 [(1,.int .i64 1),(2,.ptr 0 1 0 0),(5,.gsl 1 es.length 1 0 es.length),(6,.int .i64 k)] [.arr [m.v],.arr es]=
 some (.brk 0,[(1,.int .i64 1),(2,.ptr 0 1 0 0),(5,.gsl 1 (es++r.map fun y=>strV y.Name).length 1 0 (es++r.map fun y=>strV y.Name).length),(6,.int .i64 m.Headers.l.length),(22,.bool false)],[.arr [m.v],.arr (es++r.map fun y=>strV y.Name)]):=by
 intro r
 induction r with
 |nil=>
  intro k es hk hkl hd hr
  have hle:=drop_nil hk hd
  have hlt: ¬k<m.Headers.l.length:=by omega
  have he:k=m.Headers.l.length:=by omega
  rw[lp836_7]
  simp -implicitDefEqProofs [hlt,he]
 |cons y r ih=>
  intro k es hk hkl hd hr
  obtain⟨hg,hlt,hd'⟩:=drop_cons hk hd
  have hb:=hm.hHeaders
  have w1:IntKind.i64.wrap (k+1)=k+1:=wrap64 (by omega) (by omega)
  have hi:=ih (k+1) (es++[strV y.Name]) (by omega) (by omega) hd' (by simp;omega)
  have ha:appV 0 [.arr [m.v],.arr es] 1 16 (.gsl 1 es.length 1 0 es.length) [.str y.Name.s]=some (.gsl 1 (es.length+1) 1 0 (es.length+1),[.arr [m.v],.arr (es++[.str y.Name.s])]):=
   appV_1 (Nat.zero_le _) rfl (by simp[roomB];omega)
  rw[lp836_7]
  simp -implicitDefEqProofs [strV]at hi
  simp -implicitDefEqProofs [hlt,buildSl_eq,listOf_sl,ha,w1,hi,hg,strV]
theorem skip836_7(m:Image)(p:Int)(hp: ¬p=1)(es:List V):(orc vp).loop 0 [1,2,5,6] L836_7 [(1,.int .i64 p),(2,.ptr 0 1 0 0),(5,.gsl 1 es.length 1 0 es.length),(6,.int .i64 0)] [.arr [m.v],.arr es]=
 some (.brk 0,[(1,.int .i64 p),(2,.ptr 0 1 0 0),(5,.gsl 1 es.length 1 0 es.length),(6,.int .i64 0),(22,.bool false)],[.arr [m.v],.arr es]):=by
 rw[lp836_7]
 by_cases h:0<m.Headers.l.length<;>simp -implicitDefEqProofs [hp,h]
theorem loop836_6(m:Image)(hm:Held m): ∀(r:List Field) (k:Int) (es:List V),0≤k→k≤m.Metas.l.length→m.Metas.l.drop k.toNat=r→es.length=k→(orc vp).loop 0 [1,2,5,7] L836_6 [(1,.int .i64 3),(2,.ptr 0 1 0 0),(5,.gsl 1 es.length 1 0 es.length),(7,.int .i64 k)] [.arr [m.v],.arr es]=
 some (.brk 2,[(1,.int .i64 3),(2,.ptr 0 1 0 0),(5,.gsl 1 (es++r.map fun y=>strV y.Name).length 1 0 (es++r.map fun y=>strV y.Name).length),(7,.int .i64 m.Metas.l.length),(42,.bool false)],[.arr [m.v],.arr (es++r.map fun y=>strV y.Name)]):=by
 intro r
 induction r with
 |nil=>
  intro k es hk hkl hd hr
  have hle:=drop_nil hk hd
  have hlt: ¬k<m.Metas.l.length:=by omega
  have he:k=m.Metas.l.length:=by omega
  rw[lp836_6]
  simp -implicitDefEqProofs [hlt,he]
 |cons y r ih=>
  intro k es hk hkl hd hr
  obtain⟨hg,hlt,hd'⟩:=drop_cons hk hd
  have hb:=hm.hMetas
  have w1:IntKind.i64.wrap (k+1)=k+1:=wrap64 (by omega) (by omega)
  have hi:=ih (k+1) (es++[strV y.Name]) (by omega) (by omega) hd' (by simp;omega)
  have ha:appV 0 [.arr [m.v],.arr es] 1 16 (.gsl 1 es.length 1 0 es.length) [.str y.Name.s]=some (.gsl 1 (es.length+1) 1 0 (es.length+1),[.arr [m.v],.arr (es++[.str y.Name.s])]):=
   appV_1 (Nat.zero_le _) rfl (by simp[roomB];omega)
  rw[lp836_6]
  simp -implicitDefEqProofs [strV]at hi
  simp -implicitDefEqProofs [hlt,buildSl_eq,listOf_sl,ha,w1,hi,hg,strV]
theorem skip836_6(m:Image)(p:Int)(hp: ¬p=3)(es:List V):(orc vp).loop 0 [1,2,5,7] L836_6 [(1,.int .i64 p),(2,.ptr 0 1 0 0),(5,.gsl 1 es.length 1 0 es.length),(7,.int .i64 0)] [.arr [m.v],.arr es]=
 some (.brk 2,[(1,.int .i64 p),(2,.ptr 0 1 0 0),(5,.gsl 1 es.length 1 0 es.length),(7,.int .i64 0),(42,.bool false)],[.arr [m.v],.arr es]):=by
 rw[lp836_6]
 by_cases h:0<m.Metas.l.length<;>simp -implicitDefEqProofs [hp,h]
theorem loop836_5(m:Image)(hm:Held m): ∀(r:List State) (k:Int) (es:List V),0≤k→k≤m.States.l.length→m.States.l.drop k.toNat=r→es.length=k→(orc vp).loop 0 [1,2,5,8] L836_5 [(1,.int .i64 4),(2,.ptr 0 1 0 0),(5,.gsl 1 es.length 1 0 es.length),(8,.int .i64 k)] [.arr [m.v],.arr es]=
 some (.brk 4,[(1,.int .i64 4),(2,.ptr 0 1 0 0),(5,.gsl 1 (es++r.map fun y=>strV y.Name).length 1 0 (es++r.map fun y=>strV y.Name).length),(8,.int .i64 m.States.l.length),(62,.bool false)],[.arr [m.v],.arr (es++r.map fun y=>strV y.Name)]):=by
 intro r
 induction r with
 |nil=>
  intro k es hk hkl hd hr
  have hle:=drop_nil hk hd
  have hlt: ¬k<m.States.l.length:=by omega
  have he:k=m.States.l.length:=by omega
  rw[lp836_5]
  simp -implicitDefEqProofs [hlt,he]
 |cons y r ih=>
  intro k es hk hkl hd hr
  obtain⟨hg,hlt,hd'⟩:=drop_cons hk hd
  have hb:=hm.hStates
  have w1:IntKind.i64.wrap (k+1)=k+1:=wrap64 (by omega) (by omega)
  have hi:=ih (k+1) (es++[strV y.Name]) (by omega) (by omega) hd' (by simp;omega)
  have ha:appV 0 [.arr [m.v],.arr es] 1 16 (.gsl 1 es.length 1 0 es.length) [.str y.Name.s]=some (.gsl 1 (es.length+1) 1 0 (es.length+1),[.arr [m.v],.arr (es++[.str y.Name.s])]):=
   appV_1 (Nat.zero_le _) rfl (by simp[roomB];omega)
  rw[lp836_5]
  simp -implicitDefEqProofs [strV]at hi
  simp -implicitDefEqProofs [hlt,buildSl_eq,listOf_sl,ha,w1,hi,hg,strV]
theorem skip836_5(m:Image)(p:Int)(hp: ¬p=4)(es:List V):(orc vp).loop 0 [1,2,5,8] L836_5 [(1,.int .i64 p),(2,.ptr 0 1 0 0),(5,.gsl 1 es.length 1 0 es.length),(8,.int .i64 0)] [.arr [m.v],.arr es]=
 some (.brk 4,[(1,.int .i64 p),(2,.ptr 0 1 0 0),(5,.gsl 1 es.length 1 0 es.length),(8,.int .i64 0),(62,.bool false)],[.arr [m.v],.arr es]):=by
 rw[lp836_5]
 by_cases h:0<m.States.l.length<;>simp -implicitDefEqProofs [hp,h]
theorem loop836_4(m:Image)(hm:Held m): ∀(r:List Action) (k:Int) (es:List V),0≤k→k≤m.Actions.l.length→m.Actions.l.drop k.toNat=r→es.length=k→(orc vp).loop 0 [1,2,5,9] L836_4 [(1,.int .i64 5),(2,.ptr 0 1 0 0),(5,.gsl 1 es.length 1 0 es.length),(9,.int .i64 k)] [.arr [m.v],.arr es]=
 some (.brk 6,[(1,.int .i64 5),(2,.ptr 0 1 0 0),(5,.gsl 1 (es++r.map fun y=>strV y.Name).length 1 0 (es++r.map fun y=>strV y.Name).length),(9,.int .i64 m.Actions.l.length),(82,.bool false)],[.arr [m.v],.arr (es++r.map fun y=>strV y.Name)]):=by
 intro r
 induction r with
 |nil=>
  intro k es hk hkl hd hr
  have hle:=drop_nil hk hd
  have hlt: ¬k<m.Actions.l.length:=by omega
  have he:k=m.Actions.l.length:=by omega
  rw[lp836_4]
  simp -implicitDefEqProofs [hlt,he]
 |cons y r ih=>
  intro k es hk hkl hd hr
  obtain⟨hg,hlt,hd'⟩:=drop_cons hk hd
  have hb:=hm.hActions
  have w1:IntKind.i64.wrap (k+1)=k+1:=wrap64 (by omega) (by omega)
  have hi:=ih (k+1) (es++[strV y.Name]) (by omega) (by omega) hd' (by simp;omega)
  have ha:appV 0 [.arr [m.v],.arr es] 1 16 (.gsl 1 es.length 1 0 es.length) [.str y.Name.s]=some (.gsl 1 (es.length+1) 1 0 (es.length+1),[.arr [m.v],.arr (es++[.str y.Name.s])]):=
   appV_1 (Nat.zero_le _) rfl (by simp[roomB];omega)
  rw[lp836_4]
  simp -implicitDefEqProofs [strV]at hi
  simp -implicitDefEqProofs [hlt,buildSl_eq,listOf_sl,ha,w1,hi,hg,strV]
theorem skip836_4(m:Image)(p:Int)(hp: ¬p=5)(es:List V):(orc vp).loop 0 [1,2,5,9] L836_4 [(1,.int .i64 p),(2,.ptr 0 1 0 0),(5,.gsl 1 es.length 1 0 es.length),(9,.int .i64 0)] [.arr [m.v],.arr es]=
 some (.brk 6,[(1,.int .i64 p),(2,.ptr 0 1 0 0),(5,.gsl 1 es.length 1 0 es.length),(9,.int .i64 0),(82,.bool false)],[.arr [m.v],.arr es]):=by
 rw[lp836_4]
 by_cases h:0<m.Actions.l.length<;>simp -implicitDefEqProofs [hp,h]
theorem loop836_3(m:Image)(hm:Held m): ∀(r:List Table) (k:Int) (es:List V),0≤k→k≤m.Tables.l.length→m.Tables.l.drop k.toNat=r→es.length=k→(orc vp).loop 0 [1,2,5,10] L836_3 [(1,.int .i64 6),(2,.ptr 0 1 0 0),(5,.gsl 1 es.length 1 0 es.length),(10,.int .i64 k)] [.arr [m.v],.arr es]=
 some (.brk 8,[(1,.int .i64 6),(2,.ptr 0 1 0 0),(5,.gsl 1 (es++r.map fun y=>strV y.Name).length 1 0 (es++r.map fun y=>strV y.Name).length),(10,.int .i64 m.Tables.l.length),(102,.bool false)],[.arr [m.v],.arr (es++r.map fun y=>strV y.Name)]):=by
 intro r
 induction r with
 |nil=>
  intro k es hk hkl hd hr
  have hle:=drop_nil hk hd
  have hlt: ¬k<m.Tables.l.length:=by omega
  have he:k=m.Tables.l.length:=by omega
  rw[lp836_3]
  simp -implicitDefEqProofs [hlt,he]
 |cons y r ih=>
  intro k es hk hkl hd hr
  obtain⟨hg,hlt,hd'⟩:=drop_cons hk hd
  have hb:=hm.hTables
  have w1:IntKind.i64.wrap (k+1)=k+1:=wrap64 (by omega) (by omega)
  have hi:=ih (k+1) (es++[strV y.Name]) (by omega) (by omega) hd' (by simp;omega)
  have ha:appV 0 [.arr [m.v],.arr es] 1 16 (.gsl 1 es.length 1 0 es.length) [.str y.Name.s]=some (.gsl 1 (es.length+1) 1 0 (es.length+1),[.arr [m.v],.arr (es++[.str y.Name.s])]):=
   appV_1 (Nat.zero_le _) rfl (by simp[roomB];omega)
  rw[lp836_3]
  simp -implicitDefEqProofs [strV]at hi
  simp -implicitDefEqProofs [hlt,buildSl_eq,listOf_sl,ha,w1,hi,hg,strV]
theorem skip836_3(m:Image)(p:Int)(hp: ¬p=6)(es:List V):(orc vp).loop 0 [1,2,5,10] L836_3 [(1,.int .i64 p),(2,.ptr 0 1 0 0),(5,.gsl 1 es.length 1 0 es.length),(10,.int .i64 0)] [.arr [m.v],.arr es]=
 some (.brk 8,[(1,.int .i64 p),(2,.ptr 0 1 0 0),(5,.gsl 1 es.length 1 0 es.length),(10,.int .i64 0),(102,.bool false)],[.arr [m.v],.arr es]):=by
 rw[lp836_3]
 by_cases h:0<m.Tables.l.length<;>simp -implicitDefEqProofs [hp,h]
theorem loop836_2(m:Image)(hm:Held m): ∀(r:List Reg) (k:Int) (es:List V),0≤k→k≤m.Regs.l.length→m.Regs.l.drop k.toNat=r→es.length=k→(orc vp).loop 0 [1,2,5,11] L836_2 [(1,.int .i64 12),(2,.ptr 0 1 0 0),(5,.gsl 1 es.length 1 0 es.length),(11,.int .i64 k)] [.arr [m.v],.arr es]=
 some (.brk 10,[(1,.int .i64 12),(2,.ptr 0 1 0 0),(5,.gsl 1 (es++r.map fun y=>strV y.Name).length 1 0 (es++r.map fun y=>strV y.Name).length),(11,.int .i64 m.Regs.l.length),(122,.bool false)],[.arr [m.v],.arr (es++r.map fun y=>strV y.Name)]):=by
 intro r
 induction r with
 |nil=>
  intro k es hk hkl hd hr
  have hle:=drop_nil hk hd
  have hlt: ¬k<m.Regs.l.length:=by omega
  have he:k=m.Regs.l.length:=by omega
  rw[lp836_2]
  simp -implicitDefEqProofs [hlt,he]
 |cons y r ih=>
  intro k es hk hkl hd hr
  obtain⟨hg,hlt,hd'⟩:=drop_cons hk hd
  have hb:=hm.hRegs
  have w1:IntKind.i64.wrap (k+1)=k+1:=wrap64 (by omega) (by omega)
  have hi:=ih (k+1) (es++[strV y.Name]) (by omega) (by omega) hd' (by simp;omega)
  have ha:appV 0 [.arr [m.v],.arr es] 1 16 (.gsl 1 es.length 1 0 es.length) [.str y.Name.s]=some (.gsl 1 (es.length+1) 1 0 (es.length+1),[.arr [m.v],.arr (es++[.str y.Name.s])]):=
   appV_1 (Nat.zero_le _) rfl (by simp[roomB];omega)
  rw[lp836_2]
  simp -implicitDefEqProofs [strV]at hi
  simp -implicitDefEqProofs [hlt,buildSl_eq,listOf_sl,ha,w1,hi,hg,strV]
theorem skip836_2(m:Image)(p:Int)(hp: ¬p=12)(es:List V):(orc vp).loop 0 [1,2,5,11] L836_2 [(1,.int .i64 p),(2,.ptr 0 1 0 0),(5,.gsl 1 es.length 1 0 es.length),(11,.int .i64 0)] [.arr [m.v],.arr es]=
 some (.brk 10,[(1,.int .i64 p),(2,.ptr 0 1 0 0),(5,.gsl 1 es.length 1 0 es.length),(11,.int .i64 0),(122,.bool false)],[.arr [m.v],.arr es]):=by
 rw[lp836_2]
 by_cases h:0<m.Regs.l.length<;>simp -implicitDefEqProofs [hp,h]
theorem loop836_1(m:Image)(hm:Held m): ∀(r:List Counter) (k:Int) (es:List V),0≤k→k≤m.Counters.l.length→m.Counters.l.drop k.toNat=r→es.length=k→(orc vp).loop 0 [1,2,5,12] L836_1 [(1,.int .i64 13),(2,.ptr 0 1 0 0),(5,.gsl 1 es.length 1 0 es.length),(12,.int .i64 k)] [.arr [m.v],.arr es]=
 some (.brk 12,[(1,.int .i64 13),(2,.ptr 0 1 0 0),(5,.gsl 1 (es++r.map fun y=>strV y.Name).length 1 0 (es++r.map fun y=>strV y.Name).length),(12,.int .i64 m.Counters.l.length),(142,.bool false)],[.arr [m.v],.arr (es++r.map fun y=>strV y.Name)]):=by
 intro r
 induction r with
 |nil=>
  intro k es hk hkl hd hr
  have hle:=drop_nil hk hd
  have hlt: ¬k<m.Counters.l.length:=by omega
  have he:k=m.Counters.l.length:=by omega
  rw[lp836_1]
  simp -implicitDefEqProofs [hlt,he]
 |cons y r ih=>
  intro k es hk hkl hd hr
  obtain⟨hg,hlt,hd'⟩:=drop_cons hk hd
  have hb:=hm.hCounters
  have w1:IntKind.i64.wrap (k+1)=k+1:=wrap64 (by omega) (by omega)
  have hi:=ih (k+1) (es++[strV y.Name]) (by omega) (by omega) hd' (by simp;omega)
  have ha:appV 0 [.arr [m.v],.arr es] 1 16 (.gsl 1 es.length 1 0 es.length) [.str y.Name.s]=some (.gsl 1 (es.length+1) 1 0 (es.length+1),[.arr [m.v],.arr (es++[.str y.Name.s])]):=
   appV_1 (Nat.zero_le _) rfl (by simp[roomB];omega)
  rw[lp836_1]
  simp -implicitDefEqProofs [strV]at hi
  simp -implicitDefEqProofs [hlt,buildSl_eq,listOf_sl,ha,w1,hi,hg,strV]
theorem skip836_1(m:Image)(p:Int)(hp: ¬p=13)(es:List V):(orc vp).loop 0 [1,2,5,12] L836_1 [(1,.int .i64 p),(2,.ptr 0 1 0 0),(5,.gsl 1 es.length 1 0 es.length),(12,.int .i64 0)] [.arr [m.v],.arr es]=
 some (.brk 12,[(1,.int .i64 p),(2,.ptr 0 1 0 0),(5,.gsl 1 es.length 1 0 es.length),(12,.int .i64 0),(142,.bool false)],[.arr [m.v],.arr es]):=by
 rw[lp836_1]
 by_cases h:0<m.Counters.l.length<;>simp -implicitDefEqProofs [hp,h]
theorem loop836_0(m:Image)(hm:Held m): ∀(r:List Meter) (k:Int) (es:List V),0≤k→k≤m.Meters.l.length→m.Meters.l.drop k.toNat=r→es.length=k→(orc vp).loop 0 [1,2,5,13] L836_0 [(1,.int .i64 14),(2,.ptr 0 1 0 0),(5,.gsl 1 es.length 1 0 es.length),(13,.int .i64 k)] [.arr [m.v],.arr es]=
 some (.brk 14,[(1,.int .i64 14),(2,.ptr 0 1 0 0),(5,.gsl 1 (es++r.map fun y=>strV y.Name).length 1 0 (es++r.map fun y=>strV y.Name).length),(13,.int .i64 m.Meters.l.length),(162,.bool false)],[.arr [m.v],.arr (es++r.map fun y=>strV y.Name)]):=by
 intro r
 induction r with
 |nil=>
  intro k es hk hkl hd hr
  have hle:=drop_nil hk hd
  have hlt: ¬k<m.Meters.l.length:=by omega
  have he:k=m.Meters.l.length:=by omega
  rw[lp836_0]
  simp -implicitDefEqProofs [hlt,he]
 |cons y r ih=>
  intro k es hk hkl hd hr
  obtain⟨hg,hlt,hd'⟩:=drop_cons hk hd
  have hb:=hm.hMeters
  have w1:IntKind.i64.wrap (k+1)=k+1:=wrap64 (by omega) (by omega)
  have hi:=ih (k+1) (es++[strV y.Name]) (by omega) (by omega) hd' (by simp;omega)
  have ha:appV 0 [.arr [m.v],.arr es] 1 16 (.gsl 1 es.length 1 0 es.length) [.str y.Name.s]=some (.gsl 1 (es.length+1) 1 0 (es.length+1),[.arr [m.v],.arr (es++[.str y.Name.s])]):=
   appV_1 (Nat.zero_le _) rfl (by simp[roomB];omega)
  rw[lp836_0]
  simp -implicitDefEqProofs [strV]at hi
  simp -implicitDefEqProofs [hlt,buildSl_eq,listOf_sl,ha,w1,hi,hg,strV]
theorem skip836_0(m:Image)(p:Int)(hp: ¬p=14)(es:List V):(orc vp).loop 0 [1,2,5,13] L836_0 [(1,.int .i64 p),(2,.ptr 0 1 0 0),(5,.gsl 1 es.length 1 0 es.length),(13,.int .i64 0)] [.arr [m.v],.arr es]=
 some (.brk 14,[(1,.int .i64 p),(2,.ptr 0 1 0 0),(5,.gsl 1 es.length 1 0 es.length),(13,.int .i64 0),(162,.bool false)],[.arr [m.v],.arr es]):=by
 rw[lp836_0]
 by_cases h:0<m.Meters.l.length<;>simp -implicitDefEqProofs [hp,h]
def titles(m:Image)(p:Int):List GS:=
 if p=1 then m.Headers.l.map (·.Name)else if p=3 then m.Metas.l.map (·.Name)else if p=4 then m.States.l.map (·.Name)else if p=5 then m.Actions.l.map (·.Name)else
 if p=6 then m.Tables.l.map (·.Name)else if p=12 then m.Regs.l.map (·.Name)else if p=13 then m.Counters.l.map (·.Name)else if p=14 then m.Meters.l.map (·.Name)else[]
theorem closed_strs(l:List GS):closedL (l.map strV)=true:=by rw[closedL_map];simp
@[simp] theorem titles836(m:Image)(p:Int)(hm:Held m):callRO vp 836 [m.v,.int .i64 p]=some (.sl 1 ((titles m p).map strV) .perm):=by
  rw[callRO_K fn836]
  by_cases h1:p=1
  ·subst h1
   have hl:=loop836_7 m hm m.Headers.l 0 [] (by omega) (by omega) rfl (by simp)
   have hc:=closed_strs (m.Headers.l.map (·.Name))
   simp -implicitDefEqProofs at hl
   simp only[List.map_map]at hc
   have a6:=skip836_6 m 1 (by decide) (m.Headers.l.map fun y=>strV y.Name)
   simp -implicitDefEqProofs at a6
   have a5:=skip836_5 m 1 (by decide) (m.Headers.l.map fun y=>strV y.Name)
   simp -implicitDefEqProofs at a5
   have a4:=skip836_4 m 1 (by decide) (m.Headers.l.map fun y=>strV y.Name)
   simp -implicitDefEqProofs at a4
   have a3:=skip836_3 m 1 (by decide) (m.Headers.l.map fun y=>strV y.Name)
   simp -implicitDefEqProofs at a3
   have a2:=skip836_2 m 1 (by decide) (m.Headers.l.map fun y=>strV y.Name)
   simp -implicitDefEqProofs at a2
   have a1:=skip836_1 m 1 (by decide) (m.Headers.l.map fun y=>strV y.Name)
   simp -implicitDefEqProofs at a1
   have a0:=skip836_0 m 1 (by decide) (m.Headers.l.map fun y=>strV y.Name)
   simp -implicitDefEqProofs at a0
   have e1:(List.map ((fun x=>strV x)∘fun x=>x.Name) m.Headers.l)=m.Headers.l.map fun y=>strV y.Name:=rfl
   have e2:closedL (m.Headers.l.map fun y=>strV y.Name)=true:=hc
   simp -implicitDefEqProofs [hl,a6,a5,a4,a3,a2,a1,a0,e2,titles]
  by_cases h3:p=3
  ·subst h3
   have hl:=loop836_6 m hm m.Metas.l 0 [] (by omega) (by omega) rfl (by simp)
   have hc:=closed_strs (m.Metas.l.map (·.Name))
   simp -implicitDefEqProofs at hl
   simp only[List.map_map]at hc
   have a7:=skip836_7 m 3 (by decide) []
   simp -implicitDefEqProofs at a7
   have a5:=skip836_5 m 3 (by decide) (m.Metas.l.map fun y=>strV y.Name)
   simp -implicitDefEqProofs at a5
   have a4:=skip836_4 m 3 (by decide) (m.Metas.l.map fun y=>strV y.Name)
   simp -implicitDefEqProofs at a4
   have a3:=skip836_3 m 3 (by decide) (m.Metas.l.map fun y=>strV y.Name)
   simp -implicitDefEqProofs at a3
   have a2:=skip836_2 m 3 (by decide) (m.Metas.l.map fun y=>strV y.Name)
   simp -implicitDefEqProofs at a2
   have a1:=skip836_1 m 3 (by decide) (m.Metas.l.map fun y=>strV y.Name)
   simp -implicitDefEqProofs at a1
   have a0:=skip836_0 m 3 (by decide) (m.Metas.l.map fun y=>strV y.Name)
   simp -implicitDefEqProofs at a0
   have e1:(List.map ((fun x=>strV x)∘fun x=>x.Name) m.Metas.l)=m.Metas.l.map fun y=>strV y.Name:=rfl
   have e2:closedL (m.Metas.l.map fun y=>strV y.Name)=true:=hc
   simp -implicitDefEqProofs [hl,a7,a5,a4,a3,a2,a1,a0,e2,titles]
  by_cases h4:p=4
  ·subst h4
   have hl:=loop836_5 m hm m.States.l 0 [] (by omega) (by omega) rfl (by simp)
   have hc:=closed_strs (m.States.l.map (·.Name))
   simp -implicitDefEqProofs at hl
   simp only[List.map_map]at hc
   have a7:=skip836_7 m 4 (by decide) []
   simp -implicitDefEqProofs at a7
   have a6:=skip836_6 m 4 (by decide) []
   simp -implicitDefEqProofs at a6
   have a4:=skip836_4 m 4 (by decide) (m.States.l.map fun y=>strV y.Name)
   simp -implicitDefEqProofs at a4
   have a3:=skip836_3 m 4 (by decide) (m.States.l.map fun y=>strV y.Name)
   simp -implicitDefEqProofs at a3
   have a2:=skip836_2 m 4 (by decide) (m.States.l.map fun y=>strV y.Name)
   simp -implicitDefEqProofs at a2
   have a1:=skip836_1 m 4 (by decide) (m.States.l.map fun y=>strV y.Name)
   simp -implicitDefEqProofs at a1
   have a0:=skip836_0 m 4 (by decide) (m.States.l.map fun y=>strV y.Name)
   simp -implicitDefEqProofs at a0
   have e1:(List.map ((fun x=>strV x)∘fun x=>x.Name) m.States.l)=m.States.l.map fun y=>strV y.Name:=rfl
   have e2:closedL (m.States.l.map fun y=>strV y.Name)=true:=hc
   simp -implicitDefEqProofs [hl,a7,a6,a4,a3,a2,a1,a0,e2,titles]
  by_cases h5:p=5
  ·subst h5
   have hl:=loop836_4 m hm m.Actions.l 0 [] (by omega) (by omega) rfl (by simp)
   have hc:=closed_strs (m.Actions.l.map (·.Name))
   simp -implicitDefEqProofs at hl
   simp only[List.map_map]at hc
   have a7:=skip836_7 m 5 (by decide) []
   simp -implicitDefEqProofs at a7
   have a6:=skip836_6 m 5 (by decide) []
   simp -implicitDefEqProofs at a6
   have a5:=skip836_5 m 5 (by decide) []
   simp -implicitDefEqProofs at a5
   have a3:=skip836_3 m 5 (by decide) (m.Actions.l.map fun y=>strV y.Name)
   simp -implicitDefEqProofs at a3
   have a2:=skip836_2 m 5 (by decide) (m.Actions.l.map fun y=>strV y.Name)
   simp -implicitDefEqProofs at a2
   have a1:=skip836_1 m 5 (by decide) (m.Actions.l.map fun y=>strV y.Name)
   simp -implicitDefEqProofs at a1
   have a0:=skip836_0 m 5 (by decide) (m.Actions.l.map fun y=>strV y.Name)
   simp -implicitDefEqProofs at a0
   have e1:(List.map ((fun x=>strV x)∘fun x=>x.Name) m.Actions.l)=m.Actions.l.map fun y=>strV y.Name:=rfl
   have e2:closedL (m.Actions.l.map fun y=>strV y.Name)=true:=hc
   simp -implicitDefEqProofs [hl,a7,a6,a5,a3,a2,a1,a0,e2,titles]
  by_cases h6:p=6
  ·subst h6
   have hl:=loop836_3 m hm m.Tables.l 0 [] (by omega) (by omega) rfl (by simp)
   have hc:=closed_strs (m.Tables.l.map (·.Name))
   simp -implicitDefEqProofs at hl
   simp only[List.map_map]at hc
   have a7:=skip836_7 m 6 (by decide) []
   simp -implicitDefEqProofs at a7
   have a6:=skip836_6 m 6 (by decide) []
   simp -implicitDefEqProofs at a6
   have a5:=skip836_5 m 6 (by decide) []
   simp -implicitDefEqProofs at a5
   have a4:=skip836_4 m 6 (by decide) []
   simp -implicitDefEqProofs at a4
   have a2:=skip836_2 m 6 (by decide) (m.Tables.l.map fun y=>strV y.Name)
   simp -implicitDefEqProofs at a2
   have a1:=skip836_1 m 6 (by decide) (m.Tables.l.map fun y=>strV y.Name)
   simp -implicitDefEqProofs at a1
   have a0:=skip836_0 m 6 (by decide) (m.Tables.l.map fun y=>strV y.Name)
   simp -implicitDefEqProofs at a0
   have e1:(List.map ((fun x=>strV x)∘fun x=>x.Name) m.Tables.l)=m.Tables.l.map fun y=>strV y.Name:=rfl
   have e2:closedL (m.Tables.l.map fun y=>strV y.Name)=true:=hc
   simp -implicitDefEqProofs [hl,a7,a6,a5,a4,a2,a1,a0,e2,titles]
  by_cases h12:p=12
  ·subst h12
   have hl:=loop836_2 m hm m.Regs.l 0 [] (by omega) (by omega) rfl (by simp)
   have hc:=closed_strs (m.Regs.l.map (·.Name))
   simp -implicitDefEqProofs at hl
   simp only[List.map_map]at hc
   have a7:=skip836_7 m 12 (by decide) []
   simp -implicitDefEqProofs at a7
   have a6:=skip836_6 m 12 (by decide) []
   simp -implicitDefEqProofs at a6
   have a5:=skip836_5 m 12 (by decide) []
   simp -implicitDefEqProofs at a5
   have a4:=skip836_4 m 12 (by decide) []
   simp -implicitDefEqProofs at a4
   have a3:=skip836_3 m 12 (by decide) []
   simp -implicitDefEqProofs at a3
   have a1:=skip836_1 m 12 (by decide) (m.Regs.l.map fun y=>strV y.Name)
   simp -implicitDefEqProofs at a1
   have a0:=skip836_0 m 12 (by decide) (m.Regs.l.map fun y=>strV y.Name)
   simp -implicitDefEqProofs at a0
   have e1:(List.map ((fun x=>strV x)∘fun x=>x.Name) m.Regs.l)=m.Regs.l.map fun y=>strV y.Name:=rfl
   have e2:closedL (m.Regs.l.map fun y=>strV y.Name)=true:=hc
   simp -implicitDefEqProofs [hl,a7,a6,a5,a4,a3,a1,a0,e2,titles]
  by_cases h13:p=13
  ·subst h13
   have hl:=loop836_1 m hm m.Counters.l 0 [] (by omega) (by omega) rfl (by simp)
   have hc:=closed_strs (m.Counters.l.map (·.Name))
   simp -implicitDefEqProofs at hl
   simp only[List.map_map]at hc
   have a7:=skip836_7 m 13 (by decide) []
   simp -implicitDefEqProofs at a7
   have a6:=skip836_6 m 13 (by decide) []
   simp -implicitDefEqProofs at a6
   have a5:=skip836_5 m 13 (by decide) []
   simp -implicitDefEqProofs at a5
   have a4:=skip836_4 m 13 (by decide) []
   simp -implicitDefEqProofs at a4
   have a3:=skip836_3 m 13 (by decide) []
   simp -implicitDefEqProofs at a3
   have a2:=skip836_2 m 13 (by decide) []
   simp -implicitDefEqProofs at a2
   have a0:=skip836_0 m 13 (by decide) (m.Counters.l.map fun y=>strV y.Name)
   simp -implicitDefEqProofs at a0
   have e1:(List.map ((fun x=>strV x)∘fun x=>x.Name) m.Counters.l)=m.Counters.l.map fun y=>strV y.Name:=rfl
   have e2:closedL (m.Counters.l.map fun y=>strV y.Name)=true:=hc
   simp -implicitDefEqProofs [hl,a7,a6,a5,a4,a3,a2,a0,e2,titles]
  by_cases h14:p=14
  ·subst h14
   have hl:=loop836_0 m hm m.Meters.l 0 [] (by omega) (by omega) rfl (by simp)
   have hc:=closed_strs (m.Meters.l.map (·.Name))
   simp -implicitDefEqProofs at hl
   simp only[List.map_map]at hc
   have a7:=skip836_7 m 14 (by decide) []
   simp -implicitDefEqProofs at a7
   have a6:=skip836_6 m 14 (by decide) []
   simp -implicitDefEqProofs at a6
   have a5:=skip836_5 m 14 (by decide) []
   simp -implicitDefEqProofs at a5
   have a4:=skip836_4 m 14 (by decide) []
   simp -implicitDefEqProofs at a4
   have a3:=skip836_3 m 14 (by decide) []
   simp -implicitDefEqProofs at a3
   have a2:=skip836_2 m 14 (by decide) []
   simp -implicitDefEqProofs at a2
   have a1:=skip836_1 m 14 (by decide) []
   simp -implicitDefEqProofs at a1
   have e1:(List.map ((fun x=>strV x)∘fun x=>x.Name) m.Meters.l)=m.Meters.l.map fun y=>strV y.Name:=rfl
   have e2:closedL (m.Meters.l.map fun y=>strV y.Name)=true:=hc
   simp -implicitDefEqProofs [hl,a7,a6,a5,a4,a3,a2,a1,e2,titles]
  have a7:=skip836_7 m p h1 []
  simp -implicitDefEqProofs at a7
  have a6:=skip836_6 m p h3 []
  simp -implicitDefEqProofs at a6
  have a5:=skip836_5 m p h4 []
  simp -implicitDefEqProofs at a5
  have a4:=skip836_4 m p h5 []
  simp -implicitDefEqProofs at a4
  have a3:=skip836_3 m p h6 []
  simp -implicitDefEqProofs at a3
  have a2:=skip836_2 m p h12 []
  simp -implicitDefEqProofs at a2
  have a1:=skip836_1 m p h13 []
  simp -implicitDefEqProofs at a1
  have a0:=skip836_0 m p h14 []
  simp -implicitDefEqProofs at a0
  simp -implicitDefEqProofs [a7,a6,a5,a4,a3,a2,a1,a0,titles,h1,h3,h4,h5,h6,h12,h13,h14]
theorem titles_len{m:Image}(hm:Held m)(p:Int):(titles m p).length≤5900000000000:=by
 unfold titles
 obtain⟨h1,h2,h3,h4,h5,h6,h7,h8⟩:=hm
 repeat' split
 all_goals simp
 all_goals assumption
end Go.VE.Un
namespace Go.VE.Un
open Go.VE
end Go.VE.Un
namespace Go.VE
def runesF(s:List UInt8):Nat→Nat→List Int
 |0,_=>[]
 |f+1,pos=>if pos<s.length then(decodeL s pos).1::runesF s f (pos+(decodeL s pos).2)else[]
def runes(s:List UInt8):List Int:=runesF s s.length 0
theorem next_more(s:List UInt8)(pos:Nat)(h:pos<s.length):nextV 0 [.iter s pos] (.itr 0)=some (.tup [.bool true,.int .i64 pos,.int .i32 (decodeL s pos).1],[.iter s (pos+(decodeL s pos).2)]):=by
 simp[nextV,h]
theorem next_end(s:List UInt8)(pos:Nat)(h: ¬pos<s.length):nextV 0 [.iter s pos] (.itr 0)=some (.tup [.bool false],[.iter s pos]):=by
 simp[nextV,h]
end Go.VE
namespace Go.VE.Un
open Go.VE
@[simp] theorem between564(a b c:Int):callRO vp 564 [.int .i32 a,.int .i32 b,.int .i32 c]=some (.bool (decide (b≤a)&&decide (a≤c))):=between_g fn564 a b c
@[simp] theorem letter561(c:Int):callRO vp 561 [.int .i32 c]=some (.bool (letterB c)):=letter_g fn564 fn561 c
def digitB(c:Int):Bool:=decide (48≤c)&&decide (c≤57)
@[simp] theorem digit556(c:Int):callRO vp 556 [.int .i32 c]=some (.bool (digitB c)):=by
  rw[callRO_K fn556]
  simp -implicitDefEqProofs [digitB]
def nameN:List Int→Int→Option Int
 |[],n=>some n
 |c::r,n=>if letterB c=false∧(n=0∨digitB c=false∧c≠45∧c≠46)then none else nameN r (n+1)
theorem dec_pos(s:List UInt8)(pos:Nat)(h:pos<s.length):1≤(decodeL s pos).2:=Lib.decode_width_pos ⟨s.toArray⟩ pos (by simpa[ByteArray.size]using h)
theorem loop562(s:List UInt8)(hs:s.length≤140737488355328): ∀(fuel pos:Nat) (n:Int),s.length≤pos+fuel→0≤n→n+fuel≤140737488355328→∃q,(orc vp).loop 0 [3,7] L562_0 [(3,.int .i64 n),(7,.itr 0)] [.iter s pos]=
 (match nameN (runesF s fuel pos) n with
  |some k=>some (.brk 0,[(3,.int .i64 k),(7,.itr 0),(8,.tup [.bool false]),(9,.bool false)],[.iter s q])
  |none=>some (.ret,[(2,.bool false)],[.iter s q])):=by
 intro fuel
 induction fuel with
 |zero=>
  intro pos n hp h0 h2
  have hn: ¬pos<s.length:=by omega
  refine⟨pos,?_⟩
  rw[lp562_0]
  simp -implicitDefEqProofs [next_end s pos hn,runesF,nameN]
 |succ f ih=>
  intro pos n hp h0 h2
  by_cases hn:pos<s.length
  ·have hw:=dec_pos s pos hn
   have w:=wrap64 (n:=n+1) (by omega) (by omega)
   obtain⟨q,ih⟩:=ih (pos+(decodeL s pos).2) (n+1) (by omega) (by omega) (by omega)
   by_cases hl:letterB (decodeL s pos).1=true
   ·exact⟨q,by rw[lp562_0];simp -implicitDefEqProofs [next_more s pos hn,runesF,nameN,hn,hl,w,ih]⟩
   ·by_cases hz:n=0
    ·exact⟨_,by rw[lp562_0];simp -implicitDefEqProofs [next_more s pos hn,runesF,nameN,hn,hl,hz];rfl⟩
    ·by_cases hd:digitB (decodeL s pos).1=true
     ·exact⟨q,by rw[lp562_0];simp -implicitDefEqProofs [next_more s pos hn,runesF,nameN,hn,hl,hz,hd,w,ih]⟩
     ·by_cases h5:((decodeL s pos).1:Int)=45
      ·have h6:letterB 45=false:=by decide
       have h7:digitB 45=false:=by decide
       exact⟨q,by rw[lp562_0];simp -implicitDefEqProofs [next_more s pos hn,runesF,nameN,hn,h6,h7,hz,h5,w,ih]⟩
      ·by_cases h6:((decodeL s pos).1:Int)=46
       ·have h8:letterB 46=false:=by decide
        have h7:digitB 46=false:=by decide
        exact⟨q,by rw[lp562_0];simp -implicitDefEqProofs [next_more s pos hn,runesF,nameN,hn,h8,h7,hz,h6,w,ih]⟩
       ·exact⟨_,by rw[lp562_0];simp -implicitDefEqProofs [next_more s pos hn,runesF,nameN,hn,hl,hz,hd,h5,h6];rfl⟩
  ·exact⟨pos,by rw[lp562_0];simp -implicitDefEqProofs [next_end s pos hn,runesF,nameN,hn]⟩
def mayN(s:List UInt8):Bool:=match nameN (runes s) 0 with|some k=>decide (1≤k)&&decide (k≤24)|none=>false
@[simp] theorem may562(s:List UInt8)(hs:s.length≤140737488355328):callRO vp 562 [.str s]=some (.bool (mayN s)):=by
  rw[callRO_K fn562]
  obtain⟨q,h⟩:=loop562 s hs s.length 0 0 (by omega) (by omega) (by omega)
  cases hn:nameN (runesF s s.length 0) 0 with
  |none=>
   rw[hn]at h
   simp -implicitDefEqProofs [h,mayN,runes,hn]
  |some k=>
   rw[hn]at h
   by_cases h1:1≤k
   ·simp -implicitDefEqProofs [h,mayN,runes,hn,h1]
   ·simp -implicitDefEqProofs [h,mayN,runes,hn,h1]
@[simp] theorem key560(s:List UInt8)(hs:s.length≤35184372088831):p560 [.str s]=some (.str (keyL s)):=by simp[p560,hs]
@[simp] theorem alike554(s t:List UInt8)(hs:s.length≤35184372088831)(ht:t.length≤35184372088831):callRO vp 554 [.str s,.str t]=some (.bool (decide (keyL s=keyL t))):=by
  rw[callRO_K fn554]
  simp -implicitDefEqProofs [hs,ht]
@[simp] theorem eqk559(s k:List UInt8)(hs:s.length≤35184372088831):callRO vp 559 [.str s,.eptr (.str k) 0 .brw]=some (.bool (decide (keyL s=k))):=by
  rw[callRO_K fn559]
  simp -implicitDefEqProofs [hs]
def idxK(k:List UInt8):List (List UInt8)→Int→Int
 |[],_=> -1
 |t::r,i=>if keyL t=k then i else idxK k r (i+1)
theorem loop1203(k:List UInt8)(l:List (List UInt8))(t:Tag)(hl:l.length≤140737488355328)(hb: ∀x∈l,x.length≤35184372088831): ∀(r:List (List UInt8)) (i:Int),0≤i→i≤l.length→l.drop i.toNat=r→(orc vp).loop 0 [0,1,7,8] L1203_0 [(0,.sl 1 (l.map V.str) t),(1,.func 559 [] [.eptr (.str k) 0 .brw]),(7,.int .i64 l.length),(8,.int .i64 i)] []=
 (if idxK k r i= -1 then some (.brk 0,[(0,.sl 1 (l.map V.str) t),(1,.func 559 [] [.eptr (.str k) 0 .brw]),(7,.int .i64 l.length),(8,.int .i64 l.length),(9,.bool false)],[])else some (.ret,[(4,.int .i64 (idxK k r i))],[])):=by
 intro r
 induction r with
 |nil=>
  intro i hi hil hd
  have hle:=drop_nil hi hd
  have hlt: ¬i<l.length:=by omega
  have:i=l.length:=by omega
  rw[lp1203_0]
  simp -implicitDefEqProofs [hlt,idxK,this]
 |cons x r ih=>
  intro i hi hil hd
  obtain⟨hg,hlt,hd'⟩:=drop_cons hi hd
  have hx:=hb x (List.mem_of_getElem? (by rw[getI,if_pos hi]at hg;exact hg))
  have w1:IntKind.i64.wrap (i+1)=i+1:=wrap64 (by omega) (by omega)
  rw[lp1203_0]
  by_cases hk:keyL x=k
  ·have: ¬i= -1:=by omega
   simp -implicitDefEqProofs [hlt,hg,idxK,hk,this,hx]
  ·simp -implicitDefEqProofs [hlt,hg,idxK,hk,w1,hx,ih (i+1) (by omega) (by omega) hd']
theorem idxf1203(k:List UInt8)(l:List (List UInt8))(t:Tag)(hl:l.length≤140737488355328)(hb: ∀x∈l,x.length≤35184372088831):
 callRO vp 1203 [.sl 1 (l.map V.str) t,.func 559 [] [.eptr (.str k) 0 .brw]]=some (.int .i64 (idxK k l 0)):=by
 have h:=loop1203 k l t hl hb l 0 (by omega) (by omega) rfl
 rw[callRO_K fn1203]
 by_cases hk:idxK k l 0= -1
 ·rw[if_pos hk]at h
  simp -implicitDefEqProofs [h,hk]
 ·rw[if_neg hk]at h
  simp -implicitDefEqProofs [h]
@[simp] theorem index558(l:List (List UInt8))(s:List UInt8)(t:Tag)(hl:l.length≤140737488355328)(hb: ∀x∈l,x.length≤35184372088831)(hs:s.length≤35184372088831):
   callRO vp 558 [.sl 1 (l.map V.str) t,.str s]=some (.int .i64 (idxK (keyL s) l 0)):=by
  rw[callRO_K fn558]
  simp -implicitDefEqProofs [hs,idxf1203 (keyL s) l t hl hb]
end Go.VE.Un
