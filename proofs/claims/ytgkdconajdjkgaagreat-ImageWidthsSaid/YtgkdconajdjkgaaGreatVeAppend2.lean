/- append and make, as the evaluator has them. -/
import Derived.Test.YtgkdconajdjkgaaGreatVeAppend
namespace Go.VE
set_option linter.unusedVariables false
set_option linter.unnecessarySimpa false
set_option linter.unusedSimpArgs false
open Classical

section
variable {P : Program} {T : Tbl} {G : Gh} {w w' : World} {lo : Nat} {h : Heap}

theorem Holds.oc {c : Array Value} {z : Nat} {ns : List V} (hx : c.size = ns.length * z) (h : Holds T G c 0 z ns) : ∀ v ∈ c.toList, oc v = true := by
  intro v hv
  obtain ⟨i, hi, rfl⟩ := List.mem_iff_getElem.1 hv
  simp only [Array.length_toList] at hi
  have hz0 : 0 < z := by
    rcases Nat.eq_zero_or_pos z with h0 | h0
    · rw [h0] at hx; omega
    · exact h0
  have h1 : i / z < ns.length := (Nat.div_lt_iff_lt_mul hz0).2 (by omega)
  obtain ⟨k1, k2⟩ := h (i / z) _ (List.getElem?_eq_getElem h1)
  have h2 : i % z < (ns[i / z]).cells.length := by rw [k1]; exact Nat.mod_lt _ hz0
  obtain ⟨rv, r1, r2, r3⟩ := k2 (i % z) _ (List.getElem?_eq_getElem h2)
  have : 0 + i / z * z + i % z = i := by rw [Nat.zero_add, Nat.div_add_mod']
  rw [this] at r1
  simp only [Array.getElem_toList]
  rw [Array.getElem?_eq_getElem hi] at r1
  simp only [Option.some.injEq] at r1
  rw [r1]; exact r3

/-- Rows one behind the other. -/
theorem Holds.append {os xs c : Array Value} {z : Nat} {es ns : List V} (ho : Holds T G os 0 z es) (hx : Holds T G xs 0 z ns)
    (hc : ∀ i, i < (es.length + ns.length) * z → c[i]? = if i < es.length * z then os[i]? else xs[i - es.length * z]?) : Holds T G c 0 z (es ++ ns) := by
  intro i e hi
  rcases Nat.lt_or_ge i es.length with hl | hl
  · rw [List.getElem?_append_left hl] at hi
    obtain ⟨k1, k2⟩ := ho i e hi
    refine ⟨k1, fun j v hj => ?_⟩
    obtain ⟨rv, r1, r2, r3⟩ := k2 j v hj
    have hjz : j < z := by rw [← k1]; exact (List.getElem?_eq_some_iff.1 hj).1
    have hb : i * z + j < es.length * z := by
      have : (i + 1) * z ≤ es.length * z := Nat.mul_le_mul_right _ hl
      rw [Nat.add_mul] at this; omega
    refine ⟨rv, ?_, r2, r3⟩
    rw [hc _ (by rw [Nat.add_mul]; omega), if_pos (by omega)]
    exact r1
  · rw [List.getElem?_append_right hl] at hi
    obtain ⟨k1, k2⟩ := hx _ e hi
    refine ⟨k1, fun j v hj => ?_⟩
    obtain ⟨rv, r1, r2, r3⟩ := k2 j v hj
    have hjz : j < z := by rw [← k1]; exact (List.getElem?_eq_some_iff.1 hj).1
    have hil : i - es.length < ns.length := (List.getElem?_eq_some_iff.1 hi).1
    have hb : (i - es.length) * z + j < ns.length * z := by
      have : (i - es.length + 1) * z ≤ ns.length * z := Nat.mul_le_mul_right _ hil
      rw [Nat.add_mul] at this; omega
    have he : i * z = es.length * z + (i - es.length) * z := by rw [← Nat.add_mul]; congr 1; omega
    refine ⟨rv, ?_, r2, r3⟩
    rw [hc _ (by rw [Nat.add_mul]; omega), if_neg (by omega)]
    rw [← r1]; congr 1; omega

theorem first_none (base : Option Addr) (z : Nat) (cap : Nat) : (Builtin.firstCells z 0 (.slice base 0 cap)).run P w = .ok #[] w := by
  cases base <;> simp [Builtin.firstCells, loadCells, loadCellsFrom]

theorem HInv.drew (hi : HInv T G lo h w) : HInv T G lo h w.drew := hi.grow (Nat.le_refl _) (fun _ _ => rfl)

theorem app_run (hi : HInv T G lo h w) {z bytes : Nat} {s v : V} {ns : List V} {h' : Heap} {rs rx : Value} {xs : Array Value} {ts : Array TypeId} {t el ty : TypeId} {zv : Value}
    (e : appV lo h z bytes s ns = some (v, h')) (hs : R T G s rs)
    (h1 : ts[0]? = some t) (hu : P.underlying t = some (.slice el)) (hz : szOf P el = some z) (hby : bytesIs P el bytes = true) (hzv : (P.info? el).bind (·.zero) = some zv) (hzs : zv.cells.size = z) (h2 : noZeros P ts)
    (hz0 : 0 < z) (hb0 : 0 < bytes) (hb1 : bytes ≤ 1048576)
    (hl : (Builtin.lenOf rx).run P w = .ok ns.length w) (hf : (Builtin.firstCells z ns.length rx).run P w = .ok xs w) (hfd : (Builtin.firstCells z ns.length rx).run P w.drew = .ok xs w.drew)
    (hx : xs.size = ns.length * z) (hold : Holds T G xs 0 z ns) :
    ∃ rv w' G', (Builtin.append_ ts ty #[rs, rx]).run P w = .ok rv w' ∧ R T G' v rv ∧ HInv T G' lo h' w' ∧ Stp lo G h w G' h' w' := by
  unfold appV at e
  split at e
  · -- nothing is appended
    rename_i hemp
    have hns : ns = [] := by simpa using hemp
    subst hns
    have hxs : xs = #[] := by simpa using hx
    subst hxs
    have stay : ∀ {a : Option Addr} {len cap : Nat}, len ≤ cap → (Builtin.append_ ts ty #[.slice a len cap, rx]).run P w = .ok (.slice a len cap) w := by
      intro a len cap hle
      rw [append_eq h1 hu hz h2 hby hl (.inl (by simpa using hle))]
      simp only [List.length_nil] at hf
      simp only [append0, List.length_nil, Nat.add_zero, if_pos hle, Sem.run_bind, hf, Result.andThen_ok]
      cases a <;> simp [storeCells]
    split at e
    · simp at e
      obtain ⟨rfl, rfl⟩ := e
      have hs' := hs
      obtain ⟨a, cap, b, o, f, rfl, hc, _⟩ := hs.sl_inv
      exact ⟨_, w, G, stay hc, hs', hi, .refl _ _ _ _⟩
    · simp at e
      obtain ⟨rfl, rfl⟩ := e
      have hs' := hs
      obtain ⟨a, cap, rfl, hB, hc, _⟩ := hs.gsl_inv
      exact ⟨_, w, G, stay hc, hs', hi, .refl _ _ _ _⟩
    · simp at e
  · rename_i hemp
    have hne : 0 < ns.length := by
      rcases Nat.eq_zero_or_pos ns.length with h0 | h0
      · exact absurd (by simp [List.eq_nil_of_length_eq_zero h0]) hemp
      · exact h0
    split at e
    · -- a slice whose capacity is its length
      rename_i z' es tg
      obtain ⟨a, cap, b, o, f, rfl, hc, htg, ha, hzz, hg, hR, ho⟩ := hs.sl_inv
      split at e
      · rename_i hcond
        obtain ⟨hcl, rfl, hm⟩ := hcond
        simp only [Option.some.injEq, Prod.mk.injEq] at e
        obtain ⟨rfl, rfl⟩ := e
        have hcap := htg.1 hcl
        subst hcap
        obtain ⟨os, o1, o2, o3, o4⟩ := first_run (P := P) hi (z := z') (x := .sl z' es tg) (ns := es) (by simp [listOf]) hs
        obtain ⟨os', o1', o2', o3', o4'⟩ := first_run (P := P) hi.drew (z := z') (x := .sl z' es tg) (ns := es) (by simp [listOf]) hs
        obtain ⟨w', cap', c, r1, r2, r3, r4, r5, r6, r7, r8, r9, r10⟩ := append_grow (ty := ty) h1 hu hz hby hzv hzs h2 hl hf hx o2' hfd o3' (by omega) hb0 hb1 hm
        obtain ⟨G', g1, g2, g3, g4⟩ := new_block hi (w' := w') (es := es ++ ns) (z := z') (c := c) (t := el) (fz := (0, 0)) r3 r4 r8 r9 r10 r5 (fun off _ => by simp)
          (by rw [List.length_append, r6]; exact Nat.mul_le_mul_right _ r2) (o4'.append hold r7)
        refine ⟨_, w', G', r1, ?_, g1, g2⟩
        rw [List.length_append] at g3
        refine .gsl _ _ _ _ _ _ _ g4 r2 (.inr ⟨_, g3, rfl, by simp, ?_⟩)
        simp only [Nat.zero_add, r6]; exact Nat.le_refl _
      · simp at e
    · -- a slice of the heap, whole
      rename_i B ep z' off len
      obtain ⟨a, cap, rfl, hB, hlc, hg⟩ := hs.gsl_inv
      split at e
      · rename_i es he
        split at e
        · rename_i hcond
          obtain ⟨rfl, rfl, rfl, hlo, rfl, hm⟩ := hcond
          simp only [Option.some.injEq, Prod.mk.injEq] at e
          obtain ⟨rfl, rfl⟩ := e
          have hseen : listOf h z' (.gsl B es.length z' 0 es.length) = some es := by simp [listOf, seen, he]
          by_cases hroom : es.length + ns.length ≤ cap
          · rcases hg with rfl | ⟨g, q1, rfl, rfl, q3⟩
            · omega
            · obtain ⟨c, t', fz, l1, l2, l3, l4, l5⟩ := hi.live B es g he q1
              have hbnd : g.o + 0 * g.z + (es.length + ns.length) * g.z ≤ c.size := by
                rw [l2]
                have : (es.length + ns.length) * g.z ≤ (0 + cap) * g.z := Nat.mul_le_mul_right _ (by omega)
                omega
              obtain ⟨w', c', r1, r2, r3, r4, r5, r6, r7, r8, r9⟩ := append_in (ty := ty) h1 hu hz h2 hby hl hf hx l1 hbnd l3 (hold.oc hx) hroom
              obtain ⟨G', g1, g2, g3, g4⟩ := set_block hi (w' := w') (es' := es ++ ns) hlo he (g := g) (by omega) r7 r8 r9 (fun b _ hb => r6 b hb) (by simp) (.inl q1) r2 (by omega) (by rw [r3]; exact l3)
                (by rw [List.length_append]; omega) (fun i e' hi' => by
                  rcases Nat.lt_or_ge i es.length with hil | hil
                  · rw [List.getElem?_append_left hil] at hi'
                    obtain ⟨n1, n2⟩ := l5 i e' hi'
                    refine ⟨n1, fun j v hj => ?_⟩
                    obtain ⟨rv, v1, v2, v3⟩ := n2 j v hj
                    have hjz : j < g.z := by rw [← n1]; exact (List.getElem?_eq_some_iff.1 hj).1
                    have : (i + 1) * g.z ≤ es.length * g.z := Nat.mul_le_mul_right _ hil
                    rw [Nat.add_mul] at this
                    exact ⟨rv, by rw [r4, if_neg (by omega)]; exact v1, v2, v3⟩
                  · rw [List.getElem?_append_right hil] at hi'
                    obtain ⟨n1, n2⟩ := hold _ e' hi'
                    refine ⟨n1, fun j v hj => ?_⟩
                    obtain ⟨rv, v1, v2, v3⟩ := n2 j v hj
                    have hjz : j < g.z := by rw [← n1]; exact (List.getElem?_eq_some_iff.1 hj).1
                    have hil' : i - es.length < ns.length := (List.getElem?_eq_some_iff.1 hi').1
                    have h3 : (i - es.length + 1) * g.z ≤ ns.length * g.z := Nat.mul_le_mul_right _ hil'
                    rw [Nat.add_mul] at h3
                    have he2 : i * g.z = es.length * g.z + (i - es.length) * g.z := by rw [← Nat.add_mul]; congr 1; omega
                    refine ⟨rv, ?_, v2, v3⟩
                    rw [r4, if_pos (by omega), ← v1]; congr 1; omega)
              refine ⟨_, w', G', r1, ?_, g1, g2⟩
              rw [List.length_append] at g3
              exact .gsl _ _ _ _ _ _ _ g4 hroom (.inr ⟨g, g3, rfl, rfl, q3⟩)
          · obtain ⟨os', o1', o2', o3', o4'⟩ := first_run (P := P) hi.drew (z := z') (x := .gsl B es.length z' 0 es.length) (ns := es) hseen hs
            obtain ⟨w', cap', c, r1, r2, r3, r4, r5, r6, r7, r8, r9, r10⟩ := append_grow (ty := ty) h1 hu hz hby hzv hzs h2 hl hf hx o2' hfd o3' (by omega) hb0 hb1 hm
            obtain ⟨G', g1, g2, g3, g4⟩ := set_block hi (w' := w') (es' := es ++ ns) hlo he (g := ⟨w.heap.size, 0, z', c.size⟩) (by omega) r8 r9 r10 (fun b hb _ => r4 b hb) (by simp) (.inr ⟨rfl, by simp; omega⟩) r5 rfl (fun off _ => by simp)
              (by rw [List.length_append, r6, Nat.zero_add]; exact Nat.mul_le_mul_right _ r2) (o4'.append hold r7)
            refine ⟨_, w', G', r1, ?_, g1, g2⟩
            rw [List.length_append] at g3
            refine .gsl _ _ _ _ _ _ _ g4 r2 (.inr ⟨_, g3, rfl, by simp, ?_⟩)
            simp only [Nat.zero_add, r6]; exact Nat.le_refl _
        · simp at e
      · simp at e
    · simp at e

/-- make. -/
theorem make_run (hi : HInv T G lo h w) {z : V} {bytes : Nat} {len cap v : V} {h' : Heap} {rl rc : Value} {t el : TypeId} (e : makeV h z bytes len cap = some (v, h')) (hl : R T G len rl) (hc : R T G cap rc)
    (ht : sliceElem P t = some el) (hby : bytesIs P el bytes = true) (hz : zeroIs P el z = true) (hs : szOf P el = some z.cells.length) (hz0 : 0 < z.cells.length) (hb0 : 0 < bytes) :
    ∃ rv w' G', (Instr.makeSlice t rl rc).run P w = .ok rv w' ∧ R T G' v rv ∧ HInv T G' lo h' w' ∧ Stp lo G h w G' h' w' := by
  have hu : P.underlying t = some (.slice el) := by
    unfold sliceElem at ht; split at ht
    · simp at ht; subst ht; assumption
    · exact absurd ht (by simp)
  unfold zeroIs at hz
  cases hzv : (P.info? el).bind (·.zero) with
  | none => simp [hzv] at hz
  | some zv =>
    simp only [hzv] at hz
    have hzR : R T G z zv := valIs_R hz
    cases hinf : P.info? el with
    | none => simp [bytesIs, hinf] at hby
    | some inf =>
      have hbi : inf.bytes = bytes := by simpa [bytesIs, hinf] using hby
      unfold makeV at e
      split at e
      · rename_i l c
        obtain rfl := hl.int_inv
        obtain rfl := hc.int_inv
        split at e
        · rename_i hcond
          obtain ⟨a1, a2, a3, a4⟩ := hcond
          simp only [Option.some.injEq, Prod.mk.injEq] at e
          obtain ⟨rfl, rfl⟩ := e
          unfold roomB at a3 a4
          have hwl : IntKind.i64.wrap l = l := IntWalk.i64_in _ (by omega)
          have hwc : IntKind.i64.wrap c = c := IntWalk.i64_in _ (by omega)
          have hok : okV z = true := by
            cases z <;> first | rfl | (cases zv <;> simp [valIs, isVal] at hz)
          obtain ⟨k1, k2, k3⟩ := hzR.cells hok
          let n := c.toNat * z.cells.length
          let cs : Array Value := (Array.range n).map fun i => zv.cells[i % zv.cells.size]!
          have hn : ¬ (c < 0 ∨ ((inf.bytes : Int) * c > 2 ^ 48)) := by
            rw [hbi]
            have : (bytes : Int) * c = c * bytes := Int.mul_comm _ _
            have h48 : (2 : Int) ^ 48 = 281474976710656 := by decide
            omega
          have hrun : (Instr.makeSlice t (.int .i64 l) (.int .i64 c)).run P w = .ok (.slice (some ⟨w.heap.size, 0, none⟩) l.toNat c.toNat) (w.alloc (.cells cs el (0, 0))) := by
            have c1 : ¬ (c < 0) := by omega
            have c2 : ¬ ((2 : Int) ^ 48 < (bytes : Int) * c) := by
              intro hh; exact hn (.inr (by rw [hbi]; exact hh))
            have c3 : ¬ l < 0 := by omega
            have c4 : ¬ l > c := by omega
            unfold Instr.makeSlice
            simp only [Sem.run_bind, run_und hu, Result.andThen_ok, asInt, asIntOf, Sem.run_pure, run_info hinf, hbi, hwl, hwc]
            rw [if_neg (by simp [c1, c3, c4]; simpa using c2)]
            by_cases hn0 : c.toNat * z.cells.length = 0
            · have hcs : cs = #[] := by simp [cs, n, hn0]
              simp [run_sz hs, hn0, hcs, run_newRow]
              rw [show Array.range 0 = #[] by simp, Array.map_empty]
            · simp [run_sz hs, hn0, run_zero hzv, run_newRow, cs, n]
          obtain ⟨G', g1, g2, g3, g4⟩ := new_block hi (w' := w.alloc (.cells cs el (0, 0))) (es := List.replicate l.toNat z) (z := z.cells.length) (c := cs) (t := el) (fz := (0, 0)) (heap_push_size w _) (heap_push_old w _) rfl rfl rfl (heap_push_new w _)
            (fun off _ => by simp) (by simp only [List.length_replicate, cs, Array.size_map, Array.size_range, n]; exact Nat.mul_le_mul_right _ (by omega)) (fun i e hi' => by
              have hil : i < l.toNat := by have := (List.getElem?_eq_some_iff.1 hi').1; simpa using this
              rw [List.getElem?_replicate, if_pos hil] at hi'
              simp only [Option.some.injEq] at hi'; subst hi'
              refine ⟨rfl, fun j v hj => ?_⟩
              have hjz : j < z.cells.length := (List.getElem?_eq_some_iff.1 hj).1
              have hjs : j < zv.cells.size := by rw [← k1]; exact hjz
              refine ⟨zv.cells[j], ?_, k2 j v _ hj (by simp [hjs]), k3 j _ (by simp [hjs])⟩
              have hb : i * z.cells.length + j < n := by
                have : (i + 1) * z.cells.length ≤ c.toNat * z.cells.length := Nat.mul_le_mul_right _ (by omega)
                rw [Nat.add_mul] at this
                show _ < c.toNat * z.cells.length
                omega
              rw [Nat.zero_add]
              simp only [cs, Array.getElem?_map, Array.getElem?_range, if_pos hb, Option.map_some]
              rw [← k1, Nat.mul_comm, Nat.mul_add_mod, Nat.mod_eq_of_lt hjz]
              simp [hjs])
          refine ⟨_, _, G', hrun, ?_, g1, g2⟩
          rw [List.length_replicate] at g3
          refine .gsl _ _ _ _ _ _ _ g4 (by omega) (.inr ⟨_, g3, rfl, by simp, ?_⟩)
          simp [cs, n]
        · simp at e
      · simp at e

end
end Go.VE
