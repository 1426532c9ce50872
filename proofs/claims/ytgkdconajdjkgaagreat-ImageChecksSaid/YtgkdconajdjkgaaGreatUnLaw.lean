/- ImageChecks holds: whatever its arguments, the call returns true and leaves each argument as it was. No condition. -/
import Derived.Test.YtgkdconajdjkgaaGreatRows
import Derived.Test.YtgkdconajdjkgaaGreatUnW
import Derived.Test.YtgkdconajdjkgaaGreatUnS
import Derived.Test.YtgkdconajdjkgaaGreatVc0
import Derived.Test.YtgkdconajdjkgaaGreatCc11
import Derived.WalkKit
import Derived.ProofKit
import Derived.OpenShut
import Derived.ShutString
import Derived.ChangeOld
import Derived.Below
import Derived.SizedLaws
namespace Go.VE.Un
open Go.VE Go.RowKit
set_option linter.unusedVariables false
set_option maxRecDepth 1000000
theorem lives_ok : callRO vp 659 [] = some (.bool true) := callRO_of_runs (n := 300) (by kernel_rfl)
theorem walk_imageChecks {H : Type} {enc : TypeId × Value → H} (W : World) {v0 : Value} {d0 : DataW H} {p0 : List MemPlace} {g0 : Nat} (hv0 : Value.okWide Go.Proofs.Tryz.prog W .any g0 35 v0) (h0 : DataW.Trod enc Go.Proofs.Tryz.prog W 0 (fun _ => true) true 35 v0 d0 p0) {ts : List TypeId} {ds : List (DataW H)}
  (hsz : (DataW.weightsEach Go.Proofs.Tryz.prog (35 :: ts) (d0 :: ds)).all (· ≤ reachBytes) = true) :
  Calls Go.Proofs.Tryz.prog 5 #[v0] W fun e w1 => e = .returned (.bool true) ∧ Below W.heap.size W w1 := by
 obtain ⟨n0,xs0,r0,s0⟩ := arg_R (T := tbl) (k := 12) (by kernel_rfl) hv0 h0 (weightsEach_get hsz 0 35 d0 rfl rfl)
 obtain ⟨m0,rfl,c0,b0_Headers,b0_Insts,b0_Metas,b0_States,b0_Actions,b0_Tables,b0_Ingress,b0_Egress,b0_Deparse,b0_Checks,b0_Updates,b0_Regs,b0_Counters,b0_Meters⟩ := shp_Image s0
 have e0 : elV Go.Proofs.Tryz.prog 35 m0.cs = m0.v := by simp only [elV,Go.Proofs.Tryz.underlying35]; rfl
 rw [e0] at r0
 have hR : RA tbl (G0 W) [m0.v] #[v0] := (RA.one r0)
 have hrb : reachBytes = 140737488351232 := rfl
 have hh : Held m0 := ⟨by omega,by omega,by omega,by omega,by omega,by omega,by omega,by omega⟩
 have hlaw := imageChecks m0 c0 hh lives_ok
 exact law_of_RO tied (vf := f653) (by rfl) rfl (by kernel_rfl) hR hlaw
end Go.VE.Un
namespace Go.Proofs.YtgkdconajdjkgaaGreat.imageChecks
open Go.ChangeShapes Go.WideShapes Go.ChangeAt Go.RowKit
set_option linter.unusedVariables false
theorem own : ownKnob Go.Proofs.Tryz.prog.godebug = none := by kernel_rfl
theorem laidOut : laidOutB Go.Proofs.Tryz.prog = true := by kernel_rfl
set_option maxRecDepth 100000 in
theorem lifted (os : Os) (started : os.Started) (H : Type) (enc : TypeId × Value → H) :
  ReturnsInHanded {} Go.Proofs.Tryz.checked os 5 .any (Rows.imageChecksSpec.pre6 enc Go.Proofs.Tryz.prog Go.Proofs.Tryz.f5 Rows.imageChecksRow.domain false) (Rows.imageChecksSpec.post enc Go.Proofs.Tryz.prog Go.Proofs.Tryz.f5 false true false false) := by
 refine returnsInHanded_of_change_sized (C := Go.Proofs.Tryz.checked) own started (by kernel_rfl) Go.Proofs.Tryz.func5
  (ChangeSpec.witness6 (enc := enc) (C := Go.Proofs.Tryz.checked) false ⟨#[],#[.agg #[.string ByteArray.empty,.slice none 0 0,.slice none 0 0,.slice none 0 0,.slice none 0 0,.slice none 0 0,.slice none 0 0,.slice none 0 0,.slice none 0 0,.slice none 0 0,.slice none 0 0,.slice none 0 0,.slice none 0 0,.slice none 0 0,.slice none 0 0,.int .i64 0,.int .i64 0,.int .i64 0]],[]⟩ 8 (by kernel_rfl) (by kernel_rfl) (by kernel_rfl) (by kernel_rfl)) ?_
 intro W base args ds gs before hval0 hW hcnd hsz0 _
 have hsz : (DataW.weightsEach Go.Proofs.Tryz.prog (Go.Proofs.Tryz.f5.params.toList ++ Rows.imageChecksSpec.plain.varTypes Go.Proofs.Tryz.prog) (ds ++ gs)).all (· ≤ reachBytes) = true := hsz0
 have hval : ∀ (j : Nat) t v,Go.Proofs.Tryz.f5.params[j]? = some t → args[j]? = some v → Value.okWide Go.Proofs.Tryz.prog W .any base t v := hval0
 have hW2 := hW
 obtain ⟨p,q,hA0,hV,rfl,hfz,hnd⟩ := hW
 have hA : DataW.TrodAll enc Go.Proofs.Tryz.prog W 0 (fun _ => true) true Go.Proofs.Tryz.f5.params.toList args.toList ds p := hA0
 rw [Go.Proofs.Tryz.params5] at hA hval hsz
 obtain ⟨v0,vs0,d0,ds0,p0,q0,hargs,rfl,rfl,h0,r0⟩ := trodAll_cons hA
 obtain ⟨rfl,rfl,rfl⟩ := trodAll_nil r0
 obtain rfl : args = #[v0] := by cases args; simp_all
 obtain ⟨rfl,rfl⟩ := trodVars_none hV
 have lt0 : ∀ x ∈ p0,x.block < W.heap.size := by obtain ⟨m,hm⟩ := h0; exact DataW.trod_lt m _ _ _ hm
 refine (Go.VE.Un.walk_imageChecks W (hval 0 35 v0 rfl rfl) h0 hsz).mono fun e W1 ⟨he,bel⟩ => ?_
 subst he
 exact ⟨_,rfl,_,_,_,[],_,[],hW2,trodAll_mk1 (shut_bool Go.Proofs.Tryz.underlying4 _),(trodAll_cons_mk (Below.trod laidOut (by kernel_rfl) (of_decide_eq_true (by kernel_rfl)) h0 bel lt0) trodAll_mk0),rfl,bel.frame _,fun h => by cases h⟩
theorem over : Rows.imageChecksRow.holds Go.Proofs.YtgkdconajdjkgaaGreat.Tryz.pinned (OpenSpec.ofChange Rows.imageChecksSpec) :=
 OpenClaim.holds_of_wide 5 Go.Proofs.Tryz.f5 rfl rfl rfl rfl rfl rfl rfl ⟨rfl,rfl,rfl,rfl,rfl⟩ rfl rfl rfl rfl rfl (by kernel_rfl) Go.Proofs.Tryz.func5 (by kernel_rfl)
  (of_decide_eq_true (by kernel_rfl)) (by unfold Func.isWrapper; first | (rw [if_pos (by decide +kernel)]; kernel_rfl) | (rw [if_neg (by decide +kernel)]; exact ⟨rfl,rfl⟩))
  (fun os started H enc _ => lifted os started H enc)
theorem proved : Rows.ImageChecksSaid := over
#print axioms proved
end Go.Proofs.YtgkdconajdjkgaaGreat.imageChecks
namespace Go.Proofs.YtgkdconajdjkgaaGreat
end Go.Proofs.YtgkdconajdjkgaaGreat
