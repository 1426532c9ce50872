/- append and make. -/
import Derived.Test.YtgkdconajdjkgaaGreatVeMemOps3
namespace Go.VE
set_option linter.unusedVariables false
set_option linter.unnecessarySimpa false
set_option linter.unusedSimpArgs false
open Classical

section
variable {P : Program} {T : Tbl} {G : Gh} {w w' : World} {lo : Nat} {h : Heap}

/-- The second argument's type is no integer's (the translator's 'append' of a 'make'). -/
def noZeros (P : Program) (ts : Array TypeId) : Prop := ts[1]? = none ∨ ∃ t' d, ts[1]? = some t' ∧ P.underlying t' = some d ∧ (match d with | .int _ => true | _ => false) = false

theorem noZeros_of {ts : Array TypeId} (h2 : (match ts[1]? with | some t' => isKind P (fun d => !isInt d) t' | none => true) = true) : noZeros P ts := by
  cases ht : ts[1]? with
  | none => exact .inl ht
  | some t' =>
    rw [ht] at h2
    obtain ⟨d, hd, hk⟩ := kind_of h2
    refine .inr ⟨t', d, ht, hd, ?_⟩
    cases d <;> simp [isInt] at hk <;> rfl

/-- 'append' where nothing is made of zeros. -/
def append0 (el : TypeId) (base : Option Addr) (sLen sCap size n : Nat) (x : Value) : Sem Value := do
  if sLen + n ≤ sCap then
    let new ← Builtin.firstCells size n x
    if let some a := base then storeCells (a.add (sLen * size)) new.toList
    pure (.slice base (sLen + n) sCap)
  else
    let info ← typeInfo el
    if ((sLen + n : Nat) : Int) > IntKind.i64.max ∧ info.bytes = 0 then runtimePanic (.error "growslice: len out of range")
    if Builtin.nextslicecap (sLen + n) sCap * info.bytes > 2 ^ 48 then stuck "not here"
    let newCap ← choose (.appendCap (sLen + n) sCap el)
    let old ← Builtin.firstCells size sLen (.slice base sLen sCap)
    let new ← Builtin.firstCells size n x
    pure (.slice (some (← newRow el (old ++ new ++ Builtin.zeroCells (← zeroValue el).cells (newCap - (sLen + n))))) (sLen + n) newCap)

set_option maxHeartbeats 1000000 in
theorem append_eq {ts : Array TypeId} {t el ty : TypeId} {z k sLen sCap bytes : Nat} {base : Option Addr} {rx : Value}
    (h1 : ts[0]? = some t) (hu : P.underlying t = some (.slice el)) (hs : szOf P el = some z) (h2 : noZeros P ts) (hby : bytesIs P el bytes = true)
    (hl : (Builtin.lenOf rx).run P w = .ok k w) (hn : sLen + k ≤ sCap ∨ (0 < bytes ∧ Builtin.nextslicecap (sLen + k) sCap * bytes ≤ 2 ^ 48)) :
    (Builtin.append_ ts ty #[.slice base sLen sCap, rx]).run P w = (append0 el base sLen sCap z k rx).run P w := by
  cases hinf : P.info? el with
  | none => simp [bytesIs, hinf] at hby
  | some inf =>
    have hbi : inf.bytes = bytes := by simpa [bytesIs, hinf] using hby
    rcases hn with hn | ⟨hb0, hn⟩
    · rcases h2 with h2 | ⟨t', d, h2, hd, hk⟩
      · simp only [Builtin.append_, append0, h1, h2, List.getElem?_toArray, List.getElem?_cons_zero, List.getElem?_cons_succ, Sem.run_bind, run_und hu, run_sz hs, hl, Result.andThen_ok, Sem.run_pure]
        simp [hl, hn]
        cases base <;> rfl
      · cases d <;> simp at hk <;>
          (simp only [Builtin.append_, append0, h1, h2, List.getElem?_toArray, List.getElem?_cons_zero, List.getElem?_cons_succ, Sem.run_bind, run_und hu, run_und hd, run_sz hs, hl, Result.andThen_ok, Sem.run_pure]; simp [hl, hn]; cases base <;> rfl)
    · have hnx' : ¬ (281474976710656 < Builtin.nextslicecap (sLen + k) sCap * bytes) := by
        have : (2 : Nat) ^ 48 = 281474976710656 := by decide
        omega
      have hb00 : ¬ bytes = 0 := by omega
      rcases h2 with h2 | ⟨t', d, h2, hd, hk⟩
      · simp only [Builtin.append_, append0, h1, h2, List.getElem?_toArray, List.getElem?_cons_zero, List.getElem?_cons_succ, Sem.run_bind, run_und hu, run_sz hs, hl, Result.andThen_ok, Sem.run_pure]
        simp [hl, run_info hinf, hbi, hb00, hnx']
        cases base <;> rfl
      · cases d <;> simp at hk <;>
          (simp only [Builtin.append_, append0, h1, h2, List.getElem?_toArray, List.getElem?_cons_zero, List.getElem?_cons_succ, Sem.run_bind, run_und hu, run_und hd, run_sz hs, hl, Result.andThen_ok, Sem.run_pure]; simp [hl, run_info hinf, hbi, hb00, hnx']; cases base <;> rfl)

/-- Room in the row: the new cells are stored behind the old ones. -/
theorem append_in {ts : Array TypeId} {t el ty : TypeId} {z k sLen sCap : Nat} {b o : Nat} {rx : Value} {xs : Array Value} {c : Array Value} {te : TypeId} {fz : Nat × Nat}
    (h1 : ts[0]? = some t) (hu : P.underlying t = some (.slice el)) (hs : szOf P el = some z) (h2 : noZeros P ts) {bytes : Nat} (hby : bytesIs P el bytes = true)
    (hl : (Builtin.lenOf rx).run P w = .ok k w) (hf : (Builtin.firstCells z k rx).run P w = .ok xs w) (hx : xs.size = k * z)
    (hb : w.heap[b]? = some (.cells c te fz)) (hbd : o + (sLen + k) * z ≤ c.size) (hfz : ∀ off, off < c.size → ¬ (fz.1 ≤ off ∧ off < fz.2)) (ho : ∀ v ∈ xs.toList, oc v = true) (hroom : sLen + k ≤ sCap) :
    ∃ w' c', (Builtin.append_ ts ty #[.slice (some ⟨b, o, none⟩) sLen sCap, rx]).run P w = .ok (.slice (some ⟨b, o, none⟩) (sLen + k) sCap) w' ∧ w'.heap[b]? = some (.cells c' te fz) ∧ c'.size = c.size ∧
      (∀ i, c'[i]? = if o + sLen * z ≤ i ∧ i < o + sLen * z + k * z then xs[i - (o + sLen * z)]? else c[i]?) ∧
      w'.heap.size = w.heap.size ∧ (∀ x, x ≠ b → w'.heap[x]? = w.heap[x]?) ∧ w'.os = w.os ∧ w'.tape = w.tape ∧ w'.output = w.output := by
  obtain ⟨w', c', r1, r2, r3, r4, r5, r6, r7, r8, r9⟩ := store_cells (P := P) b te fz xs.toList 0 (o + sLen * z) c w hb (by rw [Array.length_toList, hx]; rw [Nat.add_mul] at hbd; omega) hfz ho
  refine ⟨w', c', ?_, r2, r3, fun i => ?_, r5, r6, r7, r8, r9⟩
  · have hrun : (storeCells ((⟨b, o, none⟩ : Addr).add (sLen * z)) xs.toList).run P w = .ok () w' := by rw [add_spot]; exact r1
    rw [append_eq h1 hu hs h2 hby hl (.inl hroom)]
    simp [append0, hroom, hf, hrun]
  · rw [r4 i]
    simp only [Nat.add_zero, Array.length_toList, hx]
    split <;> simp

theorem growBy_le (m : Nat) : ∀ (r c B : Nat), c ≤ B → m + (m + 768) / 4 ≤ B → Builtin.growBy m r c ≤ B
  | 0, c, B, h, _ => h
  | r + 1, c, B, h, hB => by
    unfold Builtin.growBy
    split
    · exact h
    · exact growBy_le m r _ B (by omega) hB

theorem next_le {m c bytes : Nat} (hc : c < m) (hb : 0 < bytes) (hb' : bytes ≤ 1048576) (hm : m * bytes ≤ roomB) : Builtin.nextslicecap m c * bytes ≤ 2 ^ 48 := by
  have hn : Builtin.nextslicecap m c ≤ m + (m + 768) / 4 + 512 := by
    unfold Builtin.nextslicecap
    split
    · omega
    · split
      · omega
      · exact growBy_le m 4 c _ (by omega) (by omega)
  have h1 : Builtin.nextslicecap m c * bytes ≤ (m + (m + 768) / 4 + 512) * bytes := Nat.mul_le_mul_right _ hn
  have h2 : (m + (m + 768) / 4 + 512) ≤ 2 * m + 704 := by omega
  have h3 : (m + (m + 768) / 4 + 512) * bytes ≤ (2 * m + 704) * bytes := Nat.mul_le_mul_right _ h2
  unfold roomB at hm
  by_cases hm1 : m ≤ 1000
  · have : (2 * m + 704) * bytes ≤ 2704 * 1048576 := Nat.mul_le_mul (by omega) hb'
    omega
  · have h4 : m + (m + 768) / 4 + 512 ≤ 2 * m := by omega
    have h5 : (m + (m + 768) / 4 + 512) * bytes ≤ 2 * m * bytes := Nat.mul_le_mul_right _ h4
    rw [Nat.mul_assoc] at h5
    omega

theorem cut_ge (need old : Nat) (e : TypeId) (t : Nat) (hn : need < 2 ^ 63) : need ≤ (Question.appendCap need old e).cut t := by
  show need ≤ need + t % (2 ^ 63 - need)
  omega

/-- No room: a new row. -/
theorem append_grow {ts : Array TypeId} {t el ty : TypeId} {z k sLen sCap bytes : Nat} {base : Option Addr} {rx zv : Value} {xs os : Array Value}
    (h1 : ts[0]? = some t) (hu : P.underlying t = some (.slice el)) (hs : szOf P el = some z) (hby : bytesIs P el bytes = true) (hzv : (P.info? el).bind (·.zero) = some zv) (hzs : zv.cells.size = z) (h2 : noZeros P ts)
    (hl : (Builtin.lenOf rx).run P w = .ok k w) (hf : (Builtin.firstCells z k rx).run P w = .ok xs w) (hx : xs.size = k * z)
    (hf' : (Builtin.firstCells z sLen (.slice base sLen sCap)).run P w.drew = .ok os w.drew) (hxd : (Builtin.firstCells z k rx).run P w.drew = .ok xs w.drew) (hos : os.size = sLen * z)
    (hroom : sCap < sLen + k) (hb0 : 0 < bytes) (hb1 : bytes ≤ 1048576) (hm : (sLen + k) * bytes ≤ roomB) :
    ∃ (w' : World) (cap : Nat) (c : Array Value), (Builtin.append_ ts ty #[.slice base sLen sCap, rx]).run P w = .ok (.slice (some ⟨w.heap.size, 0, none⟩) (sLen + k) cap) w' ∧ sLen + k ≤ cap ∧
      w'.heap.size = w.heap.size + 1 ∧ (∀ b, b < w.heap.size → w'.heap[b]? = w.heap[b]?) ∧ w'.heap[w.heap.size]? = some (.cells c el (0, 0)) ∧ c.size = cap * z ∧
      (∀ i, i < (sLen + k) * z → c[i]? = if i < sLen * z then os[i]? else xs[i - sLen * z]?) ∧ w'.os = w.os ∧ w'.tape = w.tape ∧ w'.output = w.output := by
  have hneed : sLen + k < 2 ^ 63 := by
    have : (sLen + k) * 1 ≤ (sLen + k) * bytes := Nat.mul_le_mul_left _ hb0
    unfold roomB at hm
    omega
  let cap := (Question.appendCap (sLen + k) sCap el).cut (w.tape w.drawn (Question.appendCap (sLen + k) sCap el))
  have hcap : sLen + k ≤ cap := cut_ge _ _ _ _ hneed
  let c : Array Value := os ++ (xs ++ Builtin.zeroCells zv.cells (cap - (sLen + k)))
  have hcs : c.size = cap * z := by
    simp only [c, Array.size_append, Builtin.zeroCells, Array.size_map, Array.size_range, hos, hx, hzs]
    rw [Nat.sub_mul]
    have := Nat.mul_le_mul_right z hcap
    rw [Nat.add_mul] at this ⊢
    omega
  have hnx := next_le (m := sLen + k) (c := sCap) hroom hb0 hb1 hm
  cases hinf : P.info? el with
  | none => simp [bytesIs, hinf] at hby
  | some inf =>
    have hbi : inf.bytes = bytes := by simpa [bytesIs, hinf] using hby
    have hzz : ∀ w : World, (zeroValue el).run P w = .ok zv w := fun w => run_zero hzv
    have hroom' : ¬ sLen + k ≤ sCap := by omega
    have hnx' : ¬ (281474976710656 < Builtin.nextslicecap (sLen + k) sCap * bytes) := by
      have : (2 : Nat) ^ 48 = 281474976710656 := by decide
      omega
    refine ⟨w.drew.alloc (.cells c el (0, 0)), cap, c, ?_, hcap, heap_push_size _ _, heap_push_old _ _, heap_push_new _ _, hcs, fun i hi => ?_, rfl, rfl, rfl⟩
    · rw [append_eq h1 hu hs h2 hby hl (.inr ⟨hb0, hnx⟩)]
      have hb00 : ¬ bytes = 0 := by omega
      have hch : (choose (.appendCap (sLen + k) sCap el)).run P w = .ok cap w.drew := by
        rw [run_choose]; rfl
      simp only [append0, if_neg hroom', Sem.run_bind, run_info hinf, Result.andThen_ok, hbi, hb00, and_false, if_false, Sem.run_pure, hch, hf', hxd, hzz, run_newRow]
      rw [if_neg (by simpa using hnx')]
      simp only [Sem.run_pure, Result.andThen_ok, Sem.run_bind, hch, hf', hxd, hzz, run_newRow, Array.append_assoc]
      rfl
    · simp only [c]
      by_cases c1 : i < sLen * z
      · rw [if_pos c1, Array.getElem?_append_left (by omega)]
      · rw [if_neg c1, Array.getElem?_append_right (by omega), Array.getElem?_append_left (by rw [Nat.add_mul] at hi; omega), hos]

end
end Go.VE
