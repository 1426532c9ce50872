/- The operations that look at memory, and those that make or write some. -/
import Derived.Test.YtgkdconajdjkgaaGreatVeGc2
namespace Go.VE
set_option linter.unusedVariables false
set_option linter.unnecessarySimpa false
set_option linter.unusedSimpArgs false
open Classical

section
variable {P : Program} {T : Tbl} {G : Gh} {w w' : World} {lo : Nat} {h : Heap}

theorem ldc_run {e v : V} {agg : Bool} {n o b base : Nat} {t : TypeId} (ht : isAggB P t = some agg) (hs : agg = true → szOf P t = some n) (hl : ldc e agg n o = some v)
    (hc : ∀ (j : Nat) (c : V), e.cells[j]? = some c → ∃ rv, w.cell? ⟨b, base + j, none⟩ = some rv ∧ R T G c rv ∧ oc rv = true) :
    ∃ rv, (loadVar t ⟨b, base + o, none⟩).run P w = .ok rv w ∧ R T G v rv := by
  unfold ldc at hl
  cases agg with
  | true =>
    simp only [if_true] at hl
    split at hl
    · rename_i hle
      simp only [Option.some.injEq] at hl; subst hl
      let f : Nat → Value := fun j => (w.cell? ⟨b, base + o + j, none⟩).getD undef
      have hf : ∀ j, j < n → ∃ c, ((e.cells.drop o).take n)[j]? = some c ∧ w.cell? ⟨b, base + o + j, none⟩ = some (f j) ∧ R T G c (f j) ∧ oc (f j) = true := by
        intro j hj
        have hlt : o + j < e.cells.length := by omega
        obtain ⟨rv, h1, h2, h3⟩ := hc (o + j) _ (List.getElem?_eq_getElem hlt)
        rw [← Nat.add_assoc] at h1
        refine ⟨e.cells[o + j], ?_, ?_⟩
        · rw [List.getElem?_take, if_pos hj, List.getElem?_drop, List.getElem?_eq_getElem hlt]
        · simp only [f, h1, Option.getD_some]; exact ⟨trivial, h2, h3⟩
      have hrun : (loadCells ⟨b, base + o, none⟩ n).run P w = .ok ((List.range n).map f).toArray w := by
        refine run_loadCells w _ n f fun j hj => ?_
        rw [add_spot]
        obtain ⟨c, _, h2, _⟩ := hf j hj
        exact h2
      refine ⟨.agg ((List.range n).map f).toArray, by simp [loadVar, run_agg ht, run_sz (hs rfl), hrun], .agg _ _ (by simp; omega) (fun i v rv h1 h2 => ?_) (fun i rv h2 => ?_)⟩
      · have hi : i < n := by
          have := (List.getElem?_eq_some_iff.1 h1).1
          simp at this; omega
        obtain ⟨c, k1, _, k3, _⟩ := hf i hi
        rw [k1] at h1; simp only [Option.some.injEq] at h1; subst h1
        simp [hi] at h2; subst h2; exact k3
      · by_cases hi : i < n
        · obtain ⟨c, k1, _, k3, k4⟩ := hf i hi
          simp [hi] at h2; subst h2; exact k4
        · simp [hi] at h2
    · simp at hl
  | false =>
    simp only [Bool.false_eq_true, if_false] at hl
    obtain ⟨rv, h1, h2, h3⟩ := hc o v hl
    exact ⟨rv, by simp [loadVar, run_agg ht, h1], h2⟩

theorem loadV_run (hi : HInv T G lo h w) {agg : Bool} {n : Nat} {a v : V} {ra : Value} {t : TypeId} (ht : isAggB P t = some agg) (hs : agg = true → szOf P t = some n) (e : loadV h agg n a = some v) (ha : R T G a ra) :
    ∃ rv ad, ra = .pointer (some ad) ∧ (loadVar t ad).run P w = .ok rv w ∧ R T G v rv := by
  unfold loadV at e
  split at e
  · obtain ⟨b, base, f, rfl, hg, hR, ho⟩ := ha.eptr_inv
    obtain ⟨rv, h1, h2⟩ := ldc_run (w := w) (b := b) (base := base) ht hs e (fun j c hj => ⟨f j, gAt_cell hi (hg j c hj), hR j c hj, ho j c hj⟩)
    exact ⟨rv, _, rfl, h1, h2⟩
  · rename_i B ep i o
    obtain ⟨g, hg, rfl⟩ := ha.ptr_inv
    split at e
    · rename_i es hB
      split at e
      · rename_i hep
        subst hep
        simp only [Option.bind_eq_some_iff] at e
        obtain ⟨el, h1, h2⟩ := e
        obtain ⟨c, t', fz, l1, l2, l3, l4, l5⟩ := hi.live B es g hB hg
        obtain ⟨m1, m2⟩ := l5 i el h1
        obtain ⟨rv, k1, k2⟩ := ldc_run (w := w) (b := g.b) (base := g.o + i * g.z) ht hs h2 (fun j c' hj => by
          obtain ⟨rv, r1, r2, r3⟩ := m2 j c' hj
          exact ⟨rv, by simp only [World.cell?, l1]; exact r1, r2, r3⟩)
        exact ⟨rv, _, rfl, k1, k2⟩
      · simp at e
    · simp at e
  · simp at e

/-- Cells are stored one by one, into one block. -/
theorem store_cells (b : Nat) (t : TypeId) (fz : Nat × Nat) : ∀ (vs : List Value) (k o : Nat) (cur : Array Value) (w : World), w.heap[b]? = some (.cells cur t fz) → o + k + vs.length ≤ cur.size →
    (∀ off, off < cur.size → ¬ (fz.1 ≤ off ∧ off < fz.2)) → (∀ v ∈ vs, oc v = true) →
    ∃ w' cur', (storeCells ⟨b, o, none⟩ vs k).run P w = .ok () w' ∧ w'.heap[b]? = some (.cells cur' t fz) ∧ cur'.size = cur.size ∧
      (∀ i, cur'[i]? = if o + k ≤ i ∧ i < o + k + vs.length then vs[i - (o + k)]? else cur[i]?) ∧
      w'.heap.size = w.heap.size ∧ (∀ x, x ≠ b → w'.heap[x]? = w.heap[x]?) ∧ w'.os = w.os ∧ w'.tape = w.tape ∧ w'.output = w.output
  | [], k, o, cur, w, hb, hl, hf, hv => ⟨w, cur, rfl, hb, rfl, fun i => by rw [if_neg (by simp)], rfl, fun _ _ => rfl, rfl, rfl, rfl⟩
  | v :: vs, k, o, cur, w, hb, hl, hf, hv => by
    have hlt : o + k < cur.size := by simp at hl; omega
    have hcell : w.cell? ⟨b, o + k, none⟩ = some cur[o + k] := by simp [World.cell?, hb, hlt]
    have hfr : w.frozen? ⟨b, o + k, none⟩ = false := by
      obtain ⟨f1, f2⟩ := fz
      simp only [World.frozen?, hb]
      have := hf (o + k) hlt
      simp only [Bool.and_eq_false_iff, decide_eq_false_iff_not]
      simp only [not_and] at this
      by_cases h1 : f1 ≤ o + k
      · exact .inr (this h1)
      · exact .inl h1
    let w1 := w.setCell ⟨b, o + k, none⟩ v
    have hst : (store ((⟨b, o, none⟩ : Addr).add k) v).run P w = .ok () w1 := by
      rw [add_spot, run_store P w _ v _ (by rw [← oc_iff]; exact hv v (by simp)), hcell]
      simp [hfr, w1]
    have hb1 : w1.heap[b]? = some (.cells (cur.setIfInBounds (o + k) v) t fz) := by
      simp [w1, World.setCell, Array.getElem?_modify, hb]
    have hoth : ∀ x, x ≠ b → w1.heap[x]? = w.heap[x]? := by
      intro x hx
      simp [w1, World.setCell, Array.getElem?_modify, Ne.symm hx]
    obtain ⟨w', cur', r1, r2, r3, r4, r5, r6, r7, r8, r9⟩ := store_cells b t fz vs (k + 1) o (cur.setIfInBounds (o + k) v) w1 hb1 (by simp at hl ⊢; omega) (by simpa using hf) (fun x hx => hv x (by simp [hx]))
    refine ⟨w', cur', ?_, r2, by simpa using r3, fun i => ?_, by rw [r5]; simp [w1, World.setCell], fun x hx => (r6 x hx).trans (hoth x hx), r7, r8, r9⟩
    · simp only [storeCells, Sem.run_bind, hst, Result.andThen_ok]
      exact r1
    · rw [r4 i]
      by_cases c1 : i = o + k
      · subst c1
        rw [if_neg (by omega), if_pos (by simp)]
        simp [Array.getElem?_setIfInBounds, hlt]
      · by_cases c2 : o + k ≤ i ∧ i < o + k + (v :: vs).length
        · rw [if_pos (by simp at c2; omega), if_pos c2, show i - (o + k) = (i - (o + (k + 1))) + 1 by omega, List.getElem?_cons_succ]
        · rw [if_neg (by simp at c2 ⊢; omega), if_neg c2]
          simp [Array.getElem?_setIfInBounds, Ne.symm c1]

theorem stc_cells {v x v' : V} {n o : Nat} (e : stc v n o x = some v') : okV x = true ∧ x.cells.length = n ∧ o + n ≤ v.cells.length ∧ v'.cells.length = v.cells.length ∧
    ∀ (j : Nat) (c : V), v'.cells[j]? = some c → (o ≤ j ∧ j < o + n ∧ x.cells[j - o]? = some c) ∨ ((j < o ∨ o + n ≤ j) ∧ v.cells[j]? = some c) := by
  unfold stc at e
  split at e
  · rename_i hc
    obtain ⟨h1, h2, h3⟩ := hc
    split at e
    · rename_i cs
      simp only [Option.some.injEq] at e; subst e
      have e1 : (V.agg cs).cells = cs := rfl
      have e2 : (V.agg (cs.take o ++ x.cells ++ cs.drop (o + n))).cells = cs.take o ++ x.cells ++ cs.drop (o + n) := rfl
      rw [e1] at h2 ⊢
      rw [e2]
      generalize x.cells = xs at h1 ⊢
      have hto : (List.take o cs).length = o := by rw [List.length_take]; omega
      refine ⟨h3, h1, h2, by simp only [List.length_append, List.length_drop, hto]; omega, fun j c hj => ?_⟩
      by_cases c1 : j < o
      · rw [List.append_assoc, List.getElem?_append_left (by omega), List.getElem?_take, if_pos c1] at hj
        exact .inr ⟨.inl c1, hj⟩
      · by_cases c2 : j < o + n
        · rw [List.append_assoc, List.getElem?_append_right (by omega), List.getElem?_append_left (by omega), hto] at hj
          exact .inl ⟨by omega, c2, hj⟩
        · rw [List.getElem?_append_right (by rw [List.length_append]; omega), List.getElem?_drop, List.length_append, hto] at hj
          refine .inr ⟨.inr (by omega), ?_⟩
          rw [← hj]; congr 1; omega
    · rename_i hv
      have hvc : v.cells = [v] := by cases v <;> first | rfl | exact absurd rfl (hv _)
      split at e
      · simp at e
      · rename_i hx
        simp only [Option.some.injEq] at e; subst e
        have hxc : x.cells = [x] := by cases x <;> first | rfl | exact absurd rfl (hx _)
        rw [hvc] at h2 ⊢
        rw [hxc] at h1 ⊢
        have h1' : n = 1 := by simpa using h1.symm
        have h2' : o + n ≤ 1 := by simpa using h2
        refine ⟨h3, h1, h2, rfl, fun j c hj => ?_⟩
        cases j with
        | zero => exact .inl ⟨by omega, by omega, by simpa using hj⟩
        | succ j => simp at hj
  · simp at e

/-- A value is stored. -/
theorem storeV_run (hi : HInv T G lo h w) {n : Nat} {a x : V} {ra rx : Value} {t : TypeId} {h' : Heap} (hs : szOf P t = some n) (e : storeV lo h n a x = some h') (ha : R T G a ra) (hx : R T G x rx) :
    ∃ w' G', (Instr.storeAt t ra rx).run P w = .ok () w' ∧ HInv T G' lo h' w' ∧ Stp lo G h w G' h' w' := by
  unfold storeV at e
  split at e
  · rename_i B ep i o
    obtain ⟨g, hg, rfl⟩ := ha.ptr_inv
    split at e
    · rename_i es hB
      split at e
      · rename_i hc
        obtain ⟨hlo, rfl⟩ := hc
        simp only [Option.bind_eq_some_iff, Option.map_eq_some_iff] at e
        obtain ⟨el, h1, el', h2, rfl⟩ := e
        obtain ⟨c, t', fz, l1, l2, l3, l4, l5⟩ := hi.live B es g hB hg
        obtain ⟨m1, m2⟩ := l5 i el h1
        obtain ⟨s0, s1, s2, s3, s4⟩ := stc_cells h2
        obtain ⟨x1, x2, x3⟩ := hx.cells s0
        have hil : i < es.length := (List.getElem?_eq_some_iff.1 h1).1
        have hbnd : g.o + i * g.z + o + n ≤ c.size := by
          have : (i + 1) * g.z ≤ es.length * g.z := Nat.mul_le_mul_right _ hil
          rw [Nat.add_mul] at this
          rw [m1] at s2
          omega
        have hvl : rx.cells.toList.length = n := by rw [Array.length_toList, ← x1, s1]
        obtain ⟨w', c', r1, r2, r3, r4, r5, r6, r7, r8, r9⟩ := store_cells (P := P) g.b t' fz rx.cells.toList 0 (g.o + i * g.z + o) c w l1 (by omega) l3 (fun v hv => by
          obtain ⟨k, hk, rfl⟩ := List.mem_iff_getElem.1 hv
          exact x3 k _ (by simp))
        have hst : (Instr.storeAt t (.pointer (some ⟨g.b, g.o + i * g.z + o, none⟩)) rx).run P w = .ok () w' := by
          have : rx.cells.size = n := by rw [← x1, s1]
          simp only [Instr.storeAt, Instr.sureAddr, storeVar, Sem.run_bind, Sem.run_pure, Result.andThen_ok, run_sz hs]
          rw [if_neg (by omega)]
          simpa using r1
        have hzm : ∀ i' j, j < g.z → i' ≠ i → ¬ (g.o + i * g.z + o ≤ g.o + i' * g.z + j ∧ g.o + i' * g.z + j < g.o + i * g.z + o + n) := by
          intro i' j hj hne
          rw [m1] at s2
          rcases Nat.lt_or_gt_of_ne hne with hh | hh
          · have : (i' + 1) * g.z ≤ i * g.z := Nat.mul_le_mul_right _ hh
            rw [Nat.add_mul] at this
            omega
          · have : (i + 1) * g.z ≤ i' * g.z := Nat.mul_le_mul_right _ hh
            rw [Nat.add_mul] at this
            omega
        obtain ⟨G', k1, k2, _⟩ := set_block hi (w' := w') (es' := es.set i el') hlo hB (g := g) (by omega) r7 r8 r9 (fun b _ hb => r6 b hb) (by simp) (.inl hg) r2 (by omega) (by rw [r3]; exact l3) (by simpa using l4)
          (fun i' e' hi' => by
            rw [List.getElem?_set] at hi'
            split at hi'
            · rename_i hh; subst hh
              try rw [if_pos hil] at hi'
              simp only [Option.some.injEq] at hi'; subst hi'
              refine ⟨by rw [s3, m1], fun j v hj => ?_⟩
              rw [r4, hvl]
              rcases s4 j v hj with ⟨q1, q2, q3⟩ | ⟨q1, q3⟩
              · have hjn : j - o < rx.cells.size := by rw [← x1]; exact (List.getElem?_eq_some_iff.1 q3).1
                refine ⟨rx.cells[j - o], ?_, x2 (j - o) v _ q3 (by simp [hjn]), x3 (j - o) _ (by simp [hjn])⟩
                rw [if_pos (by omega), show g.o + i * g.z + j - (g.o + i * g.z + o + 0) = j - o by omega]
                simp [hjn]
              · obtain ⟨rv, v1, v2, v3⟩ := m2 j v q3
                exact ⟨rv, by rw [if_neg (by omega)]; exact v1, v2, v3⟩
            · rename_i hh
              obtain ⟨n1, n2⟩ := l5 i' e' hi'
              refine ⟨n1, fun j v hj => ?_⟩
              obtain ⟨rv, v1, v2, v3⟩ := n2 j v hj
              have hjz : j < g.z := by rw [← n1]; exact (List.getElem?_eq_some_iff.1 hj).1
              refine ⟨rv, ?_, v2, v3⟩
              rw [r4, hvl, if_neg]
              · exact v1
              · have := hzm i' j hjz (fun hh' => hh hh'.symm)
                omega)
        exact ⟨w', G', hst, k1, k2⟩
      · simp at e
    · simp at e
  · simp at e

end
end Go.VE
