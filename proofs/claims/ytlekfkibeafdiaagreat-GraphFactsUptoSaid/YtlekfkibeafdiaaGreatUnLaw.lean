/- GraphFacts holds: whatever its arguments, the call returns true and leaves each argument as it was. No condition. -/
import Derived.Test.YtlekfkibeafdiaaGreatRows
import Derived.Test.YtlekfkibeafdiaaGreatUnW
import Derived.Test.YtlekfkibeafdiaaGreatUnS
import Derived.Test.YtlekfkibeafdiaaGreatVc0
import Derived.Test.YtlekfkibeafdiaaGreatCc23
import Derived.WalkKit
import Derived.ProofKit
import Derived.OpenShut
import Derived.ShutString
import Derived.ChangeOld
import Derived.Below
import Derived.SizedLaws
import Derived.JoinedCond
import Derived.Deep.CondSized
namespace Go.VE.Un
open Go.VE Go.RowKit
set_option maxRecDepth 1000000
theorem Zmu:Zc vp 707 []=some (.bool true):=ZaP (n:=300) (by kernel_rfl)
theorem ZmO{H:Type}(d:DataW H):1≤Go.Proofs.YtlekfkibeafdiaaGreat.Rows.uptoBulk d:=by
 cases d with
 |lit l=>cases l<;>simp[Go.Proofs.YtlekfkibeafdiaaGreat.Rows.uptoBulk]
 |_=>simp[Go.Proofs.YtlekfkibeafdiaaGreat.Rows.uptoBulk]
theorem ZbM{H:Type}{d:DataW H}{l:List (DataW H)}(h:d∈l):Go.Proofs.YtlekfkibeafdiaaGreat.Rows.uptoBulk d≤Go.Proofs.YtlekfkibeafdiaaGreat.Rows.uptoBulkAll l:=by
 induction l with
 |nil=>cases h
 |cons x r ih=>
  simp only[Go.Proofs.YtlekfkibeafdiaaGreat.Rows.uptoBulkAll]
  rcases List.mem_cons.1 h with e|e
  ·subst e;omega
  ·have:=ih e;omega
theorem ZlM{H:Type}(l:List (DataW H)):l.length≤Go.Proofs.YtlekfkibeafdiaaGreat.Rows.uptoBulkAll l:=by
 induction l with
 |nil=>simp
 |cons x r ih=>have:=ZmO x;simp only[Go.Proofs.YtlekfkibeafdiaaGreat.Rows.uptoBulkAll,List.length_cons];omega
theorem Zeg{H:Type}:Znz (some 1048576) (fun d:DataW H=>Go.Proofs.YtlekfkibeafdiaaGreat.Rows.uptoBulk d≤1048576) where
 str:=fun bs h=>by simp only[Go.Proofs.YtlekfkibeafdiaaGreat.Rows.uptoBulk]at h;simp only[leO,decide_eq_true_eq];omega
 slice:=fun es sp h=>by
  simp only[Go.Proofs.YtlekfkibeafdiaaGreat.Rows.uptoBulk]at h
  have:=ZlM es
  refine⟨by simp only[leO,decide_eq_true_eq];omega,fun d hd=> ?_⟩
  have:=ZbM hd
  omega
 agg:=fun ps h d hd=>by
  simp only[Go.Proofs.YtlekfkibeafdiaaGreat.Rows.uptoBulk]at h
  have:=ZbM hd
  omega
theorem walk_graphFacts{H:Type}{enc:TypeId ×Value→H}(W:World){v0:Value}{d0:DataW H}{p0:List MemPlace}{g0:Nat}(hv0:Value.okWide Go.Proofs.Tryz.prog W .any g0 35 v0)(h0:DataW.Trod enc Go.Proofs.Tryz.prog W 0 (fun _=>true) true 35 v0 d0 p0){ts:List TypeId}{ds:List (DataW H)}
 (hsz:(DataW.weightsEach Go.Proofs.Tryz.prog (35::ts) (d0::ds)).all (· ≤reachBytes)=true) (hk:Go.Proofs.YtlekfkibeafdiaaGreat.Rows.uptoSmall H (d0::ds)=true):Calls Go.Proofs.Tryz.prog 4 #[v0] W fun e w1=>e=.returned (.bool true)∧Below W.heap.size W w1:=by
 have hbk:Go.Proofs.YtlekfkibeafdiaaGreat.Rows.uptoBulkAll (d0::ds)≤1048576:=of_decide_eq_true hk
 simp only[Go.Proofs.YtlekfkibeafdiaaGreat.Rows.uptoBulkAll]at hbk
 obtain⟨n0,xs0,r0,s0,q0⟩:=Zg5 (T:=tbl) (k:=12) Zeg (by kernel_rfl) hv0 h0 (Xs hsz 0 35 d0 rfl rfl) (by omega)
 obtain⟨m0,rfl,c0,b0_Headers,b0_Insts,b0_Metas,b0_States,b0_Actions,b0_Tables,b0_Ingress,b0_Egress,b0_Deparse,b0_Checks,b0_Updates,b0_Regs,b0_Counters,b0_Meters⟩:=ZkW s0
 have e0:elV Go.Proofs.Tryz.prog 35 m0.cs=m0.v:=by simp only[elV,Go.Proofs.Tryz.underlying35];rfl
 rw[e0]at r0 q0
 have hR:RA tbl (G0 W) [m0.v] #[v0]:=(RA.one r0)
 have hrb:reachBytes=140737488351232:=rfl
 obtain⟨hT,hsm⟩:=Zeq q0
 have hlaw:=graphFacts m0 c0 hT hsm Zmu
 exact ZkE tied (vf:=f703) (by rfl) rfl (by kernel_rfl) hR hlaw
end Go.VE.Un
namespace Go.Proofs.YtlekfkibeafdiaaGreat.graphFacts
open Go.ChangeShapes Go.WideShapes Go.ChangeAt Go.RowKit
theorem own:ownKnob Go.Proofs.Tryz.prog.godebug=none:=by kernel_rfl
theorem laidOut:laidOutB Go.Proofs.Tryz.prog=true:=by kernel_rfl
set_option maxRecDepth 100000 in
theorem lifted(os:Os)(started:os.Started)(H:Type)(enc:TypeId ×Value→H)(F:Stop.Interp):
 ReturnsInHanded {} Go.Proofs.Tryz.checked os 4 .any ((Rows.OpenSpec.upto Rows.graphFactsSpec).pre6 enc Go.Proofs.Tryz.prog Go.Proofs.Tryz.f4 Rows.graphFactsUptoRow.domain false) (((Rows.OpenSpec.upto Rows.graphFactsSpec).at F).post enc Go.Proofs.Tryz.prog Go.Proofs.Tryz.f4 false true false false):=by
 refine returnsInHanded_of_cond_sized (C:=Go.Proofs.Tryz.checked) (s:=Rows.OpenSpec.upto Rows.graphFactsSpec) (k:=Rows.uptoSmall) rfl own started (by kernel_rfl) Go.Proofs.Tryz.func4
  (OpenSpec.witness (enc:=enc) (C:=Go.Proofs.Tryz.checked) (s:=Rows.OpenSpec.upto Rows.graphFactsSpec) (k:=Rows.uptoSmall) rfl false ⟨#[],#[.agg #[.string ByteArray.empty,.slice none 0 0,.slice none 0 0,.slice none 0 0,.slice none 0 0,.slice none 0 0,.slice none 0 0,.slice none 0 0,.slice none 0 0,.slice none 0 0,.slice none 0 0,.slice none 0 0,.slice none 0 0,.slice none 0 0,.slice none 0 0,.int .i64 0,.int .i64 0,.int .i64 0]],[]⟩ 8 (by kernel_rfl) (by kernel_rfl) (by kernel_rfl) (x:=([.agg [.lit (.string []),.nil,.nil,.nil,.nil,.nil,.nil,.nil,.nil,.nil,.nil,.nil,.nil,.nil,.nil,.lit (.int .i64 0),.lit (.int .i64 0),.lit (.int .i64 0)]],[],[])) (by kernel_rfl) rfl (by kernel_rfl)) ?_
 intro W base args ds gs before hval0 hW hcnd hk0 hsz0 _
 have hsz:(DataW.weightsEach Go.Proofs.Tryz.prog (Go.Proofs.Tryz.f4.params.toList++Rows.graphFactsSpec.plain.varTypes Go.Proofs.Tryz.prog) (ds++gs)).all (· ≤reachBytes)=true:=hsz0
 have hk:Rows.uptoSmall H (ds++gs)=true:=hk0
 have hval: ∀(j:Nat) t v,Go.Proofs.Tryz.f4.params[j]? =some t→args[j]? =some v→Value.okWide Go.Proofs.Tryz.prog W .any base t v:=hval0
 have hW2:=hW
 obtain⟨p,q,hA0,hV,rfl,hfz,hnd⟩:=hW
 have hA:DataW.TrodAll enc Go.Proofs.Tryz.prog W 0 (fun _=>true) true Go.Proofs.Tryz.f4.params.toList args.toList ds p:=hA0
 rw[Go.Proofs.Tryz.params4]at hA hval hsz
 obtain⟨v0,vs0,d0,ds0,p0,q0,hargs,rfl,rfl,h0,r0⟩:=trodAll_cons hA
 obtain⟨rfl,rfl,rfl⟩:=trodAll_nil r0
 obtain rfl:args= #[v0]:=by cases args;simp_all
 obtain⟨rfl,rfl⟩:=trodVars_none hV
 have lt0: ∀x∈p0,x.block<W.heap.size:=by obtain⟨m,hm⟩:=h0;exact DataW.trod_lt m _ _ _ hm
 refine(Go.VE.Un.walk_graphFacts W (hval 0 35 v0 rfl rfl) h0 hsz hk).mono fun e W1 ⟨he,bel⟩=> ?_
 subst he
 exact⟨_,rfl,_,_,_,[],_,[],hW2,trodAll_mk1 (shut_bool Go.Proofs.Tryz.underlying4 _),(trodAll_cons_mk (Below.trod laidOut (by kernel_rfl) (of_decide_eq_true (by kernel_rfl)) h0 bel lt0) trodAll_mk0),rfl,bel.frame _,fun h=>by cases h⟩
set_option maxHeartbeats 40000000 in
theorem proved:Rows.GraphFactsUptoSaid:=
 OpenClaim.holds_of_cond 4 Go.Proofs.Tryz.f4 rfl rfl rfl rfl rfl rfl rfl ⟨rfl,rfl,rfl,rfl,rfl⟩ rfl rfl rfl rfl rfl (by kernel_rfl) Go.Proofs.Tryz.func4 (by
  unfold joinedFacts
  simp only[Bool.and_eq_true]
  repeat' apply And.intro
  all_goals (as_aux_lemma=>kernel_rfl))
   (of_decide_eq_true (by kernel_rfl)) (by unfold Func.isWrapper;first|(rw[if_pos (by decide+kernel)];kernel_rfl)|(rw[if_neg (by decide+kernel)];exact⟨rfl,rfl⟩))
   (fun os started H enc _ F=>lifted os started H enc F)
#print axioms proved
end Go.Proofs.YtlekfkibeafdiaaGreat.graphFacts
namespace Go.Proofs.YtlekfkibeafdiaaGreat
end Go.Proofs.YtlekfkibeafdiaaGreat
