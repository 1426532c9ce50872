/- ImageWidths holds: whatever its arguments, the call returns true and leaves each argument as it was. No condition. -/
import Derived.Test.YtgkdconajdjkgaaGreatRows
import Derived.Test.YtgkdconajdjkgaaGreatUnW
import Derived.Test.YtgkdconajdjkgaaGreatUnS
import Derived.Test.YtgkdconajdjkgaaGreatVeLives
import Derived.Test.YtgkdconajdjkgaaGreatCtG
import Derived.WalkKit
import Derived.ProofKit
import Derived.OpenShut
import Derived.ShutString
import Derived.ChangeOld
import Derived.Below
import Derived.SizedLaws
namespace Go.VE.Un
open Go.VE Go.RowKit
set_option linter.unusedVariables false
set_option maxRecDepth 1000000
theorem lives_ok : callRO vp 659 [] = some (.bool true) := callRO_of_runs (n := 300) (by kernel_rfl)
theorem walk_imageWidths {H : Type} {enc : TypeId × Value → H} (W : World) {v0 : Value} {d0 : DataW H} {p0 : List MemPlace} {g0 : Nat} {v1 : Value} {d1 : DataW H} {p1 : List MemPlace} {g1 : Nat} {v2 : Value} {d2 : DataW H} {p2 : List MemPlace} {g2 : Nat} (hv0 : Value.okWide Go.Proofs.Tryz.prog W .any g0 35 v0) (h0 : DataW.Trod enc Go.Proofs.Tryz.prog W 0 (fun _ => true) true 35 v0 d0 p0) (hv1 : Value.okWide Go.Proofs.Tryz.prog W .any g1 36 v1) (h1 : DataW.Trod enc Go.Proofs.Tryz.prog W 0 (fun _ => true) true 36 v1 d1 p1) (hv2 : Value.okWide Go.Proofs.Tryz.prog W .any g2 37 v2) (h2 : DataW.Trod enc Go.Proofs.Tryz.prog W 0 (fun _ => true) true 37 v2 d2 p2) {ts : List TypeId} {ds : List (DataW H)}
    (hsz : (DataW.weightsEach Go.Proofs.Tryz.prog (35 :: 36 :: 37 :: ts) (d0 :: d1 :: d2 :: ds)).all (· ≤ reachBytes) = true) :
    Calls Go.Proofs.Tryz.prog 3 #[v0, v1, v2] W fun e w1 => e = .returned (.bool true) ∧ Below W.heap.size W w1 := by
  obtain ⟨n0, xs0, r0, s0⟩ := arg_R (T := tbl) (k := 12) (by kernel_rfl) hv0 h0 (weightsEach_get hsz 0 35 d0 rfl rfl)
  obtain ⟨m0, rfl, c0, b0_Headers, b0_Insts, b0_Metas, b0_States, b0_Actions, b0_Tables, b0_Ingress, b0_Egress, b0_Deparse, b0_Checks, b0_Updates, b0_Regs, b0_Counters, b0_Meters⟩ := shp_Image s0
  have e0 : elV Go.Proofs.Tryz.prog 35 m0.cs = m0.v := by simp only [elV, Go.Proofs.Tryz.underlying35]; rfl
  rw [e0] at r0
  obtain ⟨n1, xs1, r1, s1⟩ := arg_R (T := tbl) (k := 12) (by kernel_rfl) hv1 h1 (weightsEach_get hsz 1 36 d1 rfl rfl)
  obtain ⟨m1_0, m1_1, rfl⟩ : ∃ x0 x1 : I64, xs1 = [.int .i64 x0.n, .int .i64 x1.n] := by
    cases n1 with
    | zero => exact s1.elim
    | succ n =>
      simp only [Shp, Go.Proofs.Tryz.underlying36, show Go.Proofs.Tryz.prog.cellsOf 36 = 2 by kernel_rfl, show Go.Proofs.Tryz.prog.cellsOf 3 = 1 by kernel_rfl] at s1
      obtain ⟨hl, hf⟩ := s1
      obtain ⟨x0, q0⟩ := shp3 (hf 0 (by decide))
      obtain ⟨x1, q1⟩ := shp3 (hf 1 (by decide))
      refine ⟨x0, x1, ?_⟩
      match xs1, hl with
      | [y0, y1], _ => simp at q0 q1; simp [q0, q1]
  have e1 : elV Go.Proofs.Tryz.prog 36 [.int .i64 m1_0.n, .int .i64 m1_1.n] = .agg [.int .i64 m1_0.n, .int .i64 m1_1.n] := by simp only [elV, Go.Proofs.Tryz.underlying36]
  rw [e1] at r1
  obtain ⟨n2, xs2, r2, s2⟩ := arg_R (T := tbl) (k := 12) (by kernel_rfl) hv2 h2 (weightsEach_get hsz 2 37 d2 rfl rfl)
  obtain ⟨m2, rfl, c2, b2⟩ := shp37 s2
  have e2 : elV Go.Proofs.Tryz.prog 37 [GL.v 3 Key.v m2] = GL.v 3 Key.v m2 := by simp only [elV, Go.Proofs.Tryz.underlying37]; rfl
  rw [e2] at r2
  have hR : RA tbl (G0 W) [m0.v, .agg [.int .i64 m1_0.n, .int .i64 m1_1.n], GL.v 3 Key.v m2] #[v0, v1, v2] := (RA.append (RA.append (RA.one r0) (RA.one r1)) (RA.one r2))
  have hrb : reachBytes = 140737488351232 := rfl
  have hh : Held m0 := ⟨by omega, by omega, by omega, by omega, by omega, by omega, by omega, by omega⟩
  have hlaw := imageWidths m0 c0 hh m1_0 m1_1 m2 lives_ok
  exact law_of_RO tied (vf := f656) (by rfl) rfl (by kernel_rfl) hR hlaw
end Go.VE.Un
namespace Go.Proofs.YtgkdconajdjkgaaGreat.imageWidths
open Go.ChangeShapes Go.WideShapes Go.ChangeAt Go.RowKit
set_option linter.unusedVariables false
theorem own : ownKnob Go.Proofs.Tryz.prog.godebug = none := by kernel_rfl
theorem laidOut : laidOutB Go.Proofs.Tryz.prog = true := by kernel_rfl
set_option maxRecDepth 100000 in
theorem lifted (os : Os) (started : os.Started) (H : Type) (enc : TypeId × Value → H) :
    ReturnsInHanded {} Go.Proofs.Tryz.checked os 3 .any (Rows.imageWidthsSpec.pre6 enc Go.Proofs.Tryz.prog Go.Proofs.Tryz.f3 Rows.imageWidthsRow.domain false) (Rows.imageWidthsSpec.post enc Go.Proofs.Tryz.prog Go.Proofs.Tryz.f3 false true false false) := by
  refine returnsInHanded_of_change_sized (C := Go.Proofs.Tryz.checked) own started (by kernel_rfl) Go.Proofs.Tryz.func3
    (ChangeSpec.witness6 (enc := enc) (C := Go.Proofs.Tryz.checked) false ⟨#[], #[.agg #[.string ByteArray.empty, .slice none 0 0, .slice none 0 0, .slice none 0 0, .slice none 0 0, .slice none 0 0, .slice none 0 0, .slice none 0 0, .slice none 0 0, .slice none 0 0, .slice none 0 0, .slice none 0 0, .slice none 0 0, .slice none 0 0, .slice none 0 0, .int .i64 0, .int .i64 0, .int .i64 0], .agg #[.int .i64 0, .int .i64 0], .slice none 0 0], []⟩ 8 (by kernel_rfl) (by kernel_rfl) (by kernel_rfl) (by kernel_rfl)) ?_
  intro W base args ds gs before hval0 hW hcnd hsz0 _
  have hsz : (DataW.weightsEach Go.Proofs.Tryz.prog (Go.Proofs.Tryz.f3.params.toList ++ Rows.imageWidthsSpec.plain.varTypes Go.Proofs.Tryz.prog) (ds ++ gs)).all (· ≤ reachBytes) = true := hsz0
  have hval : ∀ (j : Nat) t v, Go.Proofs.Tryz.f3.params[j]? = some t → args[j]? = some v → Value.okWide Go.Proofs.Tryz.prog W .any base t v := hval0
  have hW2 := hW
  obtain ⟨p, q, hA0, hV, rfl, hfz, hnd⟩ := hW
  have hA : DataW.TrodAll enc Go.Proofs.Tryz.prog W 0 (fun _ => true) true Go.Proofs.Tryz.f3.params.toList args.toList ds p := hA0
  rw [Go.Proofs.Tryz.params3] at hA hval hsz
  obtain ⟨v0, vs0, d0, ds0, p0, q0, hargs, rfl, rfl, h0, r0⟩ := trodAll_cons hA
  obtain ⟨v1, vs1, d1, ds1, p1, q1, rfl, rfl, rfl, h1, r1⟩ := trodAll_cons r0
  obtain ⟨v2, vs2, d2, ds2, p2, q2, rfl, rfl, rfl, h2, r2⟩ := trodAll_cons r1
  obtain ⟨rfl, rfl, rfl⟩ := trodAll_nil r2
  obtain rfl : args = #[v0, v1, v2] := by cases args; simp_all
  obtain ⟨rfl, rfl⟩ := trodVars_none hV
  have lt0 : ∀ x ∈ p0, x.block < W.heap.size := by obtain ⟨m, hm⟩ := h0; exact DataW.trod_lt m _ _ _ hm
  have lt1 : ∀ x ∈ p1, x.block < W.heap.size := by obtain ⟨m, hm⟩ := h1; exact DataW.trod_lt m _ _ _ hm
  have lt2 : ∀ x ∈ p2, x.block < W.heap.size := by obtain ⟨m, hm⟩ := h2; exact DataW.trod_lt m _ _ _ hm
  refine (Go.VE.Un.walk_imageWidths W (hval 0 35 v0 rfl rfl) h0 (hval 1 36 v1 rfl rfl) h1 (hval 2 37 v2 rfl rfl) h2 hsz).mono fun e W1 ⟨he, bel⟩ => ?_
  subst he
  exact ⟨_, rfl, _, _, _, [], _, [], hW2, trodAll_mk1 (shut_bool Go.Proofs.Tryz.underlying4 _), (trodAll_cons_mk (Below.trod laidOut (by kernel_rfl) (of_decide_eq_true (by kernel_rfl)) h0 bel lt0) (trodAll_cons_mk (Below.trod laidOut (by kernel_rfl) (of_decide_eq_true (by kernel_rfl)) h1 bel lt1) (trodAll_cons_mk (Below.trod laidOut (by kernel_rfl) (of_decide_eq_true (by kernel_rfl)) h2 bel lt2) trodAll_mk0))), rfl, bel.frame _, fun h => by cases h⟩
theorem over : Rows.imageWidthsRow.holds Go.Proofs.YtgkdconajdjkgaaGreat.Tryz.pinned (OpenSpec.ofChange Rows.imageWidthsSpec) :=
  OpenClaim.holds_of_wide 3 Go.Proofs.Tryz.f3 rfl rfl rfl rfl rfl rfl rfl ⟨rfl, rfl, rfl, rfl, rfl⟩ rfl rfl rfl rfl rfl (by kernel_rfl) Go.Proofs.Tryz.func3 (by kernel_rfl)
    (of_decide_eq_true (by kernel_rfl)) (by unfold Func.isWrapper; first | (rw [if_pos (by decide +kernel)]; kernel_rfl) | (rw [if_neg (by decide +kernel)]; exact ⟨rfl, rfl⟩))
    (fun os started H enc _ => lifted os started H enc)
theorem proved : Rows.ImageWidthsSaid := over
#print axioms proved
end Go.Proofs.YtgkdconajdjkgaaGreat.imageWidths
namespace Go.Proofs.YtgkdconajdjkgaaGreat
/-- The law, under a short name. -/
theorem imageWidths_holds : Rows.ImageWidthsSaid := imageWidths.proved
end Go.Proofs.YtgkdconajdjkgaaGreat
