/- The operations that make memory: new variables, rows, append; and values that are given away. -/
import Derived.Test.YtgkdconajdjkgaaGreatVeMemOps
import Derived.IntWalk
namespace Go.VE
set_option linter.unusedVariables false
set_option linter.unnecessarySimpa false
set_option linter.unusedSimpArgs false
open Classical

section
variable {P : Program} {T : Tbl} {G : Gh} {w w' : World} {lo : Nat} {h : Heap}

theorem heap_push_old (w : World) (o : Obj) : ∀ b, b < w.heap.size → (w.alloc o).heap[b]? = w.heap[b]? := fun b hb => Go.RowKit.Below.heap_alloc w o b hb
theorem heap_push_new (w : World) (o : Obj) : (w.alloc o).heap[w.heap.size]? = some o := by
  show (w.heap.push o)[w.heap.size]? = _
  simp
theorem heap_push_size (w : World) (o : Obj) : (w.alloc o).heap.size = w.heap.size + 1 := by
  show (w.heap.push o).size = _
  simp

theorem run_newRow (t : TypeId) (c : Array Value) : (newRow t c).run P w = .ok ⟨w.heap.size, 0, none⟩ (w.alloc (.cells c t (0, 0))) := rfl

theorem nofz : ∀ (m off : Nat), off < m → ¬ ((0, 0) : Nat × Nat).1 ≤ off ∨ ¬ off < ((0, 0) : Nat × Nat).2 := by
  intro m off _; right; exact Nat.not_lt_zero _

/-- A new variable. -/
theorem newVar_run (hi : HInv T G lo h w) {v : V} {rv : Value} (hv : okV v = true) (hR : R T G v rv) (t : TypeId) :
    ∃ w' G', (newVar t rv).run P w = .ok ⟨w.heap.size, 0, none⟩ w' ∧ HInv T G' lo (h ++ [.arr [v]]) w' ∧ Stp lo G h w G' (h ++ [.arr [v]]) w' ∧ R T G' (.ptr h.length 1 0 0) (.pointer (some ⟨w.heap.size, 0, none⟩)) := by
  obtain ⟨k1, k2, k3⟩ := hR.cells hv
  obtain ⟨G', g1, g2, g3, g4⟩ := new_block hi (w' := w.alloc (.cells rv.cells t (0, 0))) (es := [v]) (z := v.cells.length) (c := rv.cells) (t := t) (fz := (0, 0)) (heap_push_size w _) (heap_push_old w _) rfl rfl rfl (heap_push_new w _)
    (fun off _ => by simp) (by simp [k1]) (fun i e hi' => by
      cases i with
      | succ i => simp at hi'
      | zero =>
        simp at hi'; subst hi'
        refine ⟨rfl, fun j c hj => ?_⟩
        have : j < rv.cells.size := by rw [← k1]; exact (List.getElem?_eq_some_iff.1 hj).1
        exact ⟨rv.cells[j], by simp [this], k2 j c _ hj (by simp [this]), k3 j _ (by simp [this])⟩)
  refine ⟨_, G', rfl, g1, g2, ?_⟩
  have := R.ptr (T := T) h.length 1 0 0 _ g3
  simpa using this

/-- What 'append' and 'copy' read: so many elements of z cells. -/
theorem first_run (hi : HInv T G lo h w) {z : Nat} {x : V} {rx : Value} {ns : List V} (e : listOf h z x = some ns) (hx : R T G x rx) :
    ∃ xs, (Builtin.lenOf rx).run P w = .ok ns.length w ∧ (Builtin.firstCells z ns.length rx).run P w = .ok xs w ∧ xs.size = ns.length * z ∧ Holds T G xs 0 z ns := by
  -- from cells in memory
  have mem : ∀ {b o : Nat} {a : Option Addr} {cap : Nat}, (∀ e ∈ ns, e.cells.length = z) → (ns ≠ [] → a = some ⟨b, o, none⟩) →
      (∀ i e j c, ns[i]? = some e → e.cells[j]? = some c → ∃ rv, w.cell? ⟨b, o + i * z + j, none⟩ = some rv ∧ R T G c rv ∧ oc rv = true) →
      ∃ xs, (Builtin.firstCells z ns.length (.slice a ns.length cap)).run P w = .ok xs w ∧ xs.size = ns.length * z ∧ Holds T G xs 0 z ns := by
    intro b o a cap hz ha hc
    by_cases hne : ns = []
    · rw [hne]
      refine ⟨#[], ?_, by simp, fun i e hi' => by simp at hi'⟩
      cases a <;> simp [Builtin.firstCells, loadCells, loadCellsFrom]
    · rw [ha hne]
      let f : Nat → Value := fun k => (w.cell? ⟨b, o + k, none⟩).getD undef
      have key : ∀ k, k < ns.length * z → ∃ e c, ns[k / z]? = some e ∧ e.cells[k % z]? = some c ∧ w.cell? ⟨b, o + k, none⟩ = some (f k) ∧ R T G c (f k) ∧ oc (f k) = true := by
        intro k hk
        have hz0 : 0 < z := by
          rcases Nat.eq_zero_or_pos z with h0 | h0
          · rw [h0] at hk; omega
          · exact h0
        have h1 : k / z < ns.length := (Nat.div_lt_iff_lt_mul hz0).2 hk
        have h2 : k % z < (ns[k / z]).cells.length := by rw [hz _ (List.getElem_mem h1)]; exact Nat.mod_lt _ hz0
        obtain ⟨rv, r1, r2, r3⟩ := hc (k / z) _ (k % z) _ (List.getElem?_eq_getElem h1) (List.getElem?_eq_getElem h2)
        have hkk : o + k / z * z + k % z = o + k := by rw [Nat.add_assoc, Nat.div_add_mod']
        rw [hkk] at r1
        refine ⟨_, _, List.getElem?_eq_getElem h1, List.getElem?_eq_getElem h2, ?_⟩
        simp only [f, r1, Option.getD_some]; exact ⟨trivial, r2, r3⟩
      have hrun : (loadCells ⟨b, o, none⟩ (ns.length * z)).run P w = .ok ((List.range (ns.length * z)).map f).toArray w := by
        refine run_loadCells w _ _ f fun j hj => ?_
        rw [add_spot]
        obtain ⟨_, _, _, _, h3, _⟩ := key j hj
        exact h3
      refine ⟨_, by simpa [Builtin.firstCells] using hrun, by simp, fun i e hi' => ⟨hz e (List.mem_of_getElem? hi'), fun j c hj => ?_⟩⟩
      have hil : i < ns.length := (List.getElem?_eq_some_iff.1 hi').1
      have hjz : j < z := by rw [← hz e (List.mem_of_getElem? hi')]; exact (List.getElem?_eq_some_iff.1 hj).1
      have hb : i * z + j < ns.length * z := by
        have : (i + 1) * z ≤ ns.length * z := Nat.mul_le_mul_right _ hil
        rw [Nat.add_mul] at this; omega
      obtain ⟨rv, r1, r2, r3⟩ := hc i e j c hi' hj
      refine ⟨rv, ?_, r2, r3⟩
      rw [Nat.zero_add]
      simp only [List.getElem?_toArray, List.getElem?_map, List.getElem?_range hb, Option.map_some, f]
      rw [← Nat.add_assoc, r1]; rfl
  unfold listOf at e
  split at e
  · rename_i z' es tg
    obtain ⟨a, cap, b, o, f, rfl, hc, htg, ha, hz, hg, hR, ho⟩ := hx.sl_inv
    split at e
    · rename_i hzz
      subst hzz
      simp only [Option.some.injEq] at e; subst e
      obtain ⟨xs, x1, x2, x3⟩ := mem (b := b) (o := o) (a := a) (cap := cap) (fun e he => by obtain ⟨i, hi', rfl⟩ := List.mem_iff_getElem.1 he; exact hz i _ (List.getElem?_eq_getElem hi')) ha
        (fun i e j c h1 h2 => ⟨f i j, gAt_cell hi (hg i e j c h1 h2), hR i e j c h1 h2, ho i e j c h1 h2⟩)
      exact ⟨xs, rfl, x1, x2, x3⟩
    · simp at e
  · rename_i B ep z' off len
    obtain ⟨a, cap, rfl, hB, hl, hg⟩ := hx.gsl_inv
    split at e
    · rename_i hzz
      subst hzz
      obtain ⟨es0, e0, e1, e2, rfl⟩ := seen_some e
      have hlen : ((es0.drop off).take len).length = len := by simp; omega
      have : ∃ xs, (Builtin.firstCells z' ((es0.drop off).take len).length (.slice a ((es0.drop off).take len).length cap)).run P w = .ok xs w ∧ xs.size = ((es0.drop off).take len).length * z' ∧ Holds T G xs 0 z' ((es0.drop off).take len) := by
        rcases hg with rfl | ⟨g, k1, k2, rfl, k3⟩
        · have h0 : (es0.drop off).take len = [] := List.eq_nil_of_length_eq_zero (by omega)
          exact mem (b := 0) (o := 0) (by rw [h0]; simp) (by rw [h0]; simp) (by rw [h0]; simp)
        · subst k2; subst e1
          obtain ⟨c, t, fz, l1, l2, l3, l4, l5⟩ := hi.live B es0 g e0 k1
          have key : ∀ i e, ((es0.drop off).take len)[i]? = some e → es0[off + i]? = some e := by
            intro i e hi'
            rw [List.getElem?_take, List.getElem?_drop] at hi'
            split at hi'
            · exact hi'
            · simp at hi'
          refine mem (b := g.b) (o := g.o + off * g.z) (fun e he => ?_) (fun _ => rfl) (fun i e j x hi' hj => ?_)
          · obtain ⟨i, hi', rfl⟩ := List.mem_iff_getElem.1 he
            exact (l5 _ _ (key i _ (List.getElem?_eq_getElem hi'))).1
          · obtain ⟨rv, r1, r2, r3⟩ := (l5 _ e (key i e hi')).2 j x hj
            refine ⟨rv, ?_, r2, r3⟩
            simp only [World.cell?, l1]
            rw [show g.o + off * g.z + i * g.z + j = g.o + (off + i) * g.z + j by rw [Nat.add_mul]; omega]
            exact r1
      obtain ⟨xs, x1, x2, x3⟩ := this
      rw [hlen] at x1 x2 ⊢
      exact ⟨xs, rfl, x1, x2, x3⟩
    · simp at e
  · rename_i l
    obtain ⟨s, rfl, hs⟩ := hx.str_inv
    split at e
    · rename_i hz1
      subst hz1
      simp only [Option.some.injEq] at e; subst e
      have hsl : l.length = s.size := by rw [← hs]; simp
      refine ⟨s.data.map fun b => .int .u8 b.toNat, by simp [Builtin.lenOf, hsl], ?_, by simp [hsl], fun i e hi' => ?_⟩
      · simp only [Builtin.firstCells, List.length_map, hsl, Sem.run_pure]
        congr 2
        have : (s.extract 0 s.size) = s := by
          apply ByteArray.ext
          simp
        rw [this]
      · rw [List.getElem?_map] at hi'
        simp only [Option.map_eq_some_iff] at hi'
        obtain ⟨b, hb, rfl⟩ := hi'
        refine ⟨rfl, fun j c hj => ?_⟩
        cases j with
        | succ j => simp [byteV, V.cells] at hj
        | zero =>
          simp [byteV, V.cells] at hj
          subst hj
          refine ⟨.int .u8 b.toNat, ?_, .int _ _, rfl⟩
          rw [← hs] at hb
          have hb' : s.data[i]? = some b := by simpa using hb
          simp [hb']
    · simp at e
  · simp at e

end
end Go.VE
