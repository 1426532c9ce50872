/- From the evaluator's answer to a law's call in the first world. -/
import Derived.Test.YtgkdconajdjkgaaGreatVeTab
import Derived.Carry
import Derived.WalkKit
import Derived.ProofKit
import Derived.OpenShut
import Derived.ShutString
import Derived.ChangeOld
import Derived.Below
import Derived.SizedLaws
namespace Go.VE
set_option linter.unusedVariables false
open Go.RowKit

/-- What is known when a law is called: every cell that is there stays. -/
def G0 (W : World) : Gh := ⟨fun b off => W.cell? ⟨b, off, none⟩, fun _ _ => none, fun _ _ => none, fun _ => none, 0⟩

theorem start (T : Tbl) (W : World) : HInv T (G0 W) 0 [] W :=
  ⟨fun _ _ _ e => e, fun _ _ _ e => by simp [G0] at e, Nat.le_refl _, Nat.le_refl _, fun _ _ _ e => by simp [G0] at e, fun _ _ e => by simp [G0] at e, fun _ _ _ _ e => by simp at e, fun _ _ _ e => by simp at e, fun _ _ _ _ e => by simp at e,
    fun _ _ _ _ e => by simp at e, fun _ _ _ _ _ e => by simp at e⟩

theorem Stp.below {G G' : Gh} {W w' : World} {h' : Heap} (st : Stp 0 G [] W G' h' w') : Below W.heap.size W w' :=
  ⟨st.os, st.tape, st.output, st.size, fun k hk => (st.keep k hk (by rintro ⟨B, _, ⟨_, _, e, _⟩ | ⟨_, _, e, _⟩⟩ <;> simp at e)).1⟩

theorem law_calls {P : Program} {T : Tbl} {vp : VP} (tied : Tied P T vp) {f : Nat} {vf : VFunc} (hv : vp.fn f = some vf) (hx : vf.ext = none) {fid : FuncId} (hf : T.fid f = some fid) {W : World} {vs : List V} {as : Array Value} (hR : RA T (G0 W) vs as)
    {h' : Heap} (e : callF vp f 0 vs [] = some (.bool true, h')) : Calls P fid as W fun e w' => e = .returned (.bool true) ∧ Below W.heap.size W w' :=
  (callF_ok tied hv hx e (start T W) hf hR).mono fun e w' ⟨rv, G', h1, h2, h3, h4⟩ => ⟨by rw [h1, h2.bool_inv], h4.below⟩

/-- A row of reads behind a call that turned nothing of what was there. -/
theorem trodAll_back {H : Type} {enc : TypeId × Value → H} {P : Program} (hl : laidOutB P = true) {W W' : World} (hb : Below W.heap.size W W') :
    ∀ {ts : List TypeId} {vs : List Value} {ds : List (DataW H)} {p : List MemPlace}, (∀ t ∈ ts, P.readableRec t = true ∧ t < P.types.size) → DataW.TrodAll enc P W 0 (fun _ => true) true ts vs ds p →
      DataW.TrodAll enc P W' 0 (fun b => decide (b < W.heap.size)) true ts vs ds p
  | [], [], [], p, _, h => h
  | [], _ :: _, _, _, _, h => h.elim
  | [], [], _ :: _, _, _, h => h.elim
  | _ :: _, [], _, _, _, h => h.elim
  | _ :: _, _ :: _, [], _, _, h => h.elim
  | t :: ts, v :: vs, d :: ds, p, ht, h => by
    obtain ⟨p1, q1, h1, h2, rfl⟩ := h
    have hlt : ∀ x ∈ p1, x.block < W.heap.size := by
      obtain ⟨m, hm⟩ := h1
      exact DataW.trod_lt m _ _ _ hm
    exact ⟨p1, q1, Below.trod hl (ht t List.mem_cons_self).1 (ht t List.mem_cons_self).2 h1 hb hlt, trodAll_back hl hb (fun t' h' => ht t' (List.mem_cons_of_mem _ h')) h2, rfl⟩

end Go.VE
