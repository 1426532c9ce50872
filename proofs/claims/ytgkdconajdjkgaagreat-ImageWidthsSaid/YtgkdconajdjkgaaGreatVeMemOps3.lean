/- Values that are given away; append; make; the rest of the operations that make memory. -/
import Derived.Test.YtgkdconajdjkgaaGreatVeMemOps2
namespace Go.VE
set_option linter.unusedVariables false
set_option linter.unnecessarySimpa false
set_option linter.unusedSimpArgs false
open Classical

section
variable {P : Program} {T : Tbl} {lo : Nat} {w : World}

/-- A value and what became of it. -/
def Gave (T : Tbl) (G G' : Gh) (v v' : V) : Prop :=
  v'.cells.length = v.cells.length ∧ (∀ (j : Nat) (c' : V), v'.cells[j]? = some c' → ∃ c, v.cells[j]? = some c ∧ ∀ rv, R T G c rv → R T G' c' rv) ∧ ∀ rv, R T G v rv → R T G' v' rv

theorem Gave.same {G G' : Gh} (hle : G.le G') (v : V) : Gave T G G' v v := ⟨rfl, fun j c hj => ⟨c, hj, fun rv h => h.mono hle⟩, fun rv h => h.mono hle⟩

mutual
theorem fzV_R : ∀ (v : V) {G : Gh} {h : Heap} {v' : V} {h' : Heap}, HInv T G lo h w → fzV lo h v = some (v', h') → ∃ G', HInv T G' lo h' w ∧ Stp lo G h w G' h' w ∧ Gave T G G' v v'
  | .agg cs, G, h, v', h', hi, e => by
    simp only [fzV] at e
    split at e
    · simp at e
      obtain ⟨rfl, rfl⟩ := e
      exact ⟨G, hi, .refl _ _ _ _, .same G.le_refl _⟩
    · simp only [Option.map_eq_some_iff, Prod.mk.injEq] at e
      obtain ⟨⟨cs', h1⟩, e1, rfl, rfl⟩ := e
      obtain ⟨G', k1, k2, k3, k4⟩ := fzL_R cs hi e1
      refine ⟨G', k1, k2, k3, fun j c' hj => ?_, fun rv hR => ?_⟩
      · obtain ⟨c, hc, hg⟩ := k4 j c' hj
        exact ⟨c, hc, hg.2.2⟩
      · obtain ⟨c, rfl, t1, t2, t3⟩ := hR.agg_inv
        refine .agg cs' c (by rw [← t1]; exact k3) (fun i v rv e1 e2 => ?_) t3
        obtain ⟨v0, q1, q2⟩ := k4 i v e1
        exact q2.2.2 rv (t2 i v0 rv q1 e2)
  | .gsl B ep z off len, G, h, v', h', hi, e => by
    simp only [fzV] at e
    split at e
    · rename_i hlo
      simp only [Option.bind_eq_some_iff] at e
      obtain ⟨es, h1, h2⟩ := e
      split at h2
      · rename_i hcl
        simp at h2
        obtain ⟨rfl, rfl⟩ := h2
        obtain ⟨es0, e0, e1, e2, rfl⟩ := seen_some h1
        obtain ⟨G', k1, k2, k3⟩ := kill_block hi hlo e0
        have hlen : ((es0.drop off).take len).length = len := by simp; omega
        have conv : ∀ rv, R T G (.gsl B ep z off len) rv → R T G' (.sl z ((es0.drop off).take len) .perm) rv := by
          intro rv hR
          obtain ⟨a, cap, rfl, hB, hl, hg⟩ := hR.gsl_inv
          rcases hg with rfl | ⟨g, q1, q2, rfl, q3⟩
          · have h0 : (es0.drop off).take len = [] := List.eq_nil_of_length_eq_zero (by omega)
            have hl0 : len = 0 := by omega
            rw [h0, hl0]
            exact .sl z [] .perm a 0 0 0 (fun _ _ => undef) (by simp) (.plain rfl (by simp) rfl _ _ _) (by simp) (by simp) (by simp) (by simp) (by simp)
          · subst q2; subst e1
            obtain ⟨c, t, fz, l1, l2, l3, l4, l5⟩ := hi.live B es0 g e0 q1
            have key : ∀ i e, ((es0.drop off).take len)[i]? = some e → es0[off + i]? = some e := by
              intro i e hi'
              rw [List.getElem?_take, List.getElem?_drop] at hi'
              split at hi'
              · exact hi'
              · simp at hi'
            have cellv : ∀ i e j x, ((es0.drop off).take len)[i]? = some e → e.cells[j]? = some x → ∃ rv, w.cell? ⟨g.b, g.o + off * g.z + i * g.z + j, none⟩ = some rv ∧ R T G x rv ∧ oc rv = true := by
              intro i e j x hi' hj
              obtain ⟨rv, r1, r2, r3⟩ := (l5 _ e (key i e hi')).2 j x hj
              refine ⟨rv, ?_, r2, r3⟩
              simp only [World.cell?, l1]
              rw [show g.o + off * g.z + i * g.z + j = g.o + (off + i) * g.z + j by rw [Nat.add_mul]; omega]
              exact r1
            have := R.sl (T := T) (G := G') g.z ((es0.drop off).take len) .perm (some ⟨g.b, g.o + off * g.z, none⟩) cap g.b (g.o + off * g.z) (fun i j => (w.cell? ⟨g.b, g.o + off * g.z + i * g.z + j, none⟩).getD undef) (by omega) (.plain rfl (by simp) rfl _ _ _) (fun _ => rfl)
              (fun i e hi' => (l5 _ e (key i e hi')).1) (fun i e j x hi' hj => by obtain ⟨rv, r1, r2, r3⟩ := cellv i e j x hi' hj; rw [r1]; exact k3 g q1 _ _ r1)
              (fun i e j x hi' hj => by obtain ⟨rv, r1, r2, r3⟩ := cellv i e j x hi' hj; rw [r1]; exact r2.mono k2.le)
              (fun i e j x hi' hj => by obtain ⟨rv, r1, r2, r3⟩ := cellv i e j x hi' hj; rw [r1]; exact r3)
            rw [hlen] at this
            exact this
        refine ⟨G', k1, k2, rfl, fun j c' hj => ?_, conv⟩
        cases j with
        | succ j => simp [V.cells] at hj
        | zero => simp [V.cells] at hj; subst hj; exact ⟨_, rfl, conv⟩
      · simp at h2
    · simp at e
  | .undef, G, h, v', h', hi, e => fz_plain hi (by simpa [fzV] using e)
  | .bool _, G, h, v', h', hi, e => fz_plain hi (by simpa [fzV] using e)
  | .int _ _, G, h, v', h', hi, e => fz_plain hi (by simpa [fzV] using e)
  | .str _, G, h, v', h', hi, e => fz_plain hi (by simpa [fzV] using e)
  | .tup _, G, h, v', h', hi, e => fz_plain hi (by simpa [fzV] using e)
  | .sl .., G, h, v', h', hi, e => fz_plain hi (by simpa [fzV] using e)
  | .eptr .., G, h, v', h', hi, e => fz_plain hi (by simpa [fzV] using e)
  | .ptr .., G, h, v', h', hi, e => fz_plain hi (by simpa [fzV] using e)
  | .nilp, G, h, v', h', hi, e => fz_plain hi (by simpa [fzV] using e)
  | .func .., G, h, v', h', hi, e => fz_plain hi (by simpa [fzV] using e)
  | .nilf, G, h, v', h', hi, e => fz_plain hi (by simpa [fzV] using e)
  | .iface .., G, h, v', h', hi, e => fz_plain hi (by simpa [fzV] using e)
  | .nili, G, h, v', h', hi, e => fz_plain hi (by simpa [fzV] using e)
  | .itr _, G, h, v', h', hi, e => fz_plain hi (by simpa [fzV] using e)
  | .mapr _, G, h, v', h', hi, e => fz_plain hi (by simpa [fzV] using e)
  | .nilm, G, h, v', h', hi, e => fz_plain hi (by simpa [fzV] using e)
theorem fzL_R : ∀ (l : List V) {G : Gh} {h : Heap} {l' : List V} {h' : Heap}, HInv T G lo h w → fzL lo h l = some (l', h') → ∃ G', HInv T G' lo h' w ∧ Stp lo G h w G' h' w ∧ l'.length = l.length ∧
    ∀ (i : Nat) (v' : V), l'[i]? = some v' → ∃ v, l[i]? = some v ∧ Gave T G G' v v'
  | [], G, h, l', h', hi, e => by
    simp [fzL] at e
    obtain ⟨rfl, rfl⟩ := e
    exact ⟨G, hi, .refl _ _ _ _, rfl, by simp⟩
  | v :: l, G, h, l', h', hi, e => by
    simp only [fzL, Option.bind_eq_some_iff, Option.map_eq_some_iff, Prod.mk.injEq] at e
    obtain ⟨⟨v1, h1⟩, e1, ⟨l1, h2⟩, e2, rfl, rfl⟩ := e
    obtain ⟨G1, a1, a2, a3⟩ := fzV_R v hi e1
    obtain ⟨G2, b1, b2, b3, b4⟩ := fzL_R l a1 e2
    refine ⟨G2, b1, a2.trans b2, by simp [b3], fun i v' hv => ?_⟩
    cases i with
    | zero =>
      simp at hv; subst hv
      refine ⟨v, by simp, a3.1, fun j c' hj => ?_, fun rv h => (a3.2.2 rv h).mono b2.le⟩
      obtain ⟨c, c1, c2⟩ := a3.2.1 j c' hj
      exact ⟨c, c1, fun rv h => (c2 rv h).mono b2.le⟩
    | succ i =>
      obtain ⟨v0, q1, q2⟩ := b4 i v' (by simpa using hv)
      refine ⟨v0, by simpa using q1, q2.1, fun j c' hj => ?_, fun rv h => q2.2.2 rv (h.mono a2.le)⟩
      obtain ⟨c, c1, c2⟩ := q2.2.1 j c' hj
      exact ⟨c, c1, fun rv h => c2 rv (h.mono a2.le)⟩
theorem fz_plain {v : V} {G : Gh} {h : Heap} {v' : V} {h' : Heap} (hi : HInv T G lo h w) (e : closedB v = true ∧ v = v' ∧ h = h') : ∃ G', HInv T G' lo h' w ∧ Stp lo G h w G' h' w ∧ Gave T G G' v v' := by
  obtain ⟨_, rfl, rfl⟩ := e
  exact ⟨G, hi, .refl _ _ _ _, .same G.le_refl _⟩
end

end
end Go.VE
