/- One operation that is no call: the model's and the evaluator's. -/
import Derived.Test.YtgkdconajdjkgaaGreatVeAppend2
namespace Go.VE
set_option linter.unusedVariables false
set_option linter.unnecessarySimpa false
set_option linter.unusedSimpArgs false
open Classical

section
variable {P : Program} {T : Tbl} {G : Gh} {w : World} {lo : Nat} {h : Heap}

theorem chkElems_get (T : Tbl) : ∀ (k : Nat) (l : List (Nat × Operand)) (r : List VOpd), chkElems T k l r = true → l.length = r.length ∧
    ∀ (i : Nat) (p : Nat × Operand) (y : VOpd), l[i]? = some p → r[i]? = some y → p.1 = k + i ∧ chkOpd T p.2 y = true
  | k, [], [], _ => ⟨rfl, by simp⟩
  | k, [], _ :: _, h => by simp [chkElems] at h
  | k, _ :: _, [], h => by simp [chkElems] at h
  | k, (i, x) :: l, y :: r, h => by
    simp only [chkElems, Bool.and_eq_true, beq_iff_eq] at h
    obtain ⟨h1, h2⟩ := chkElems_get T (k + 1) l r h.2
    refine ⟨by simp [h1], fun j p q e1 e2 => ?_⟩
    cases j with
    | zero => simp at e1 e2; subst e1; subst e2; exact ⟨by simpa using h.1.1, h.1.2⟩
    | succ j =>
      obtain ⟨k1, k2⟩ := h2 j p q (by simpa using e1) (by simpa using e2)
      exact ⟨by omega, k2⟩

theorem chkParts_get (T : Tbl) (place : Nat → Option (Nat × Nat)) : ∀ (l : List (Nat × Operand)) (r : List (Nat × Nat × VOpd)), chkParts T place l r = true → l.length = r.length ∧
    ∀ (i : Nat) (p : Nat × Operand) (y : Nat × Nat × VOpd), l[i]? = some p → r[i]? = some y → place p.1 = some (y.1, y.2.1) ∧ chkOpd T p.2 y.2.2 = true
  | [], [], _ => ⟨rfl, by simp⟩
  | [], _ :: _, h => by simp [chkParts] at h
  | _ :: _, [], h => by simp [chkParts] at h
  | (i, x) :: l, (off, n, y) :: r, h => by
    simp only [chkParts, Bool.and_eq_true, decide_eq_true_eq] at h
    obtain ⟨h1, h2⟩ := chkParts_get T place l r h.2
    refine ⟨by simp [h1], fun j p q e1 e2 => ?_⟩
    cases j with
    | zero => simp at e1 e2; subst e1; subst e2; exact ⟨h.1.1, h.1.2⟩
    | succ j => exact h2 j p q (by simpa using e1) (by simpa using e2)

theorem fill_rows {n : Nat} : ∀ (ps : List (Nat × Value)) (vs : List V) (k : Nat) (c : Array Value), ps.length = vs.length →
    (∀ (i : Nat) (p : Nat × Value) (v : V), ps[i]? = some p → vs[i]? = some v → p.1 = k + i ∧ R T G v p.2 ∧ v.cells.length = n ∧ okV v = true) → (k + ps.length) * n ≤ c.size →
    ∃ c', Instr.fill (fun i => some (i * n, n)) c ps = some c' ∧ c'.size = c.size ∧ (∀ i, i < k * n → c'[i]? = c[i]?) ∧
      ∀ (i : Nat) (e : V) (j : Nat) (x : V), vs[i]? = some e → e.cells[j]? = some x → ∃ rv, c'[(k + i) * n + j]? = some rv ∧ R T G x rv ∧ oc rv = true
  | [], vs, k, c, hl, hp, hc => by
    have : vs = [] := List.eq_nil_of_length_eq_zero (by simpa using hl.symm)
    subst this
    exact ⟨c, rfl, rfl, fun _ _ => rfl, by simp⟩
  | (q, rv) :: ps, vs, k, c, hl, hp, hc => by
    cases vs with
    | nil => simp at hl
    | cons v vs =>
      obtain ⟨h1, h2, h3, h4⟩ := hp 0 _ _ rfl rfl
      simp only [Nat.add_zero] at h1
      subst h1
      obtain ⟨k1, k2, k3⟩ := h2.cells h4
      obtain ⟨z1, z2⟩ := zipFold (q * n) rv.cells.toList 0 c
      have hsz : rv.cells.size = n := by rw [← k1, h3]
      have hcq : (q + 1) * n ≤ c.size := Nat.le_trans (Nat.mul_le_mul_right n (by simp)) hc
      have e2 : rv.cells.zipIdx.foldl (fun cs x => match x with | (c, j) => cs.setIfInBounds (q * n + j) c) c = (rv.cells.toList.zipIdx 0).foldl (fun cs (x : Value × Nat) => cs.setIfInBounds (q * n + x.2) x.1) c := by
        have : rv.cells.zipIdx.foldl (fun cs (x : Value × Nat) => cs.setIfInBounds (q * n + x.2) x.1) c = (rv.cells.toList.zipIdx 0).foldl (fun cs (x : Value × Nat) => cs.setIfInBounds (q * n + x.2) x.1) c := by
          rw [← Array.foldl_toList]; simp
        exact this
      simp only [Instr.fill]
      rw [if_neg (by simp [hsz]; rw [Nat.add_mul] at hcq; omega), e2]
      generalize (rv.cells.toList.zipIdx 0).foldl (fun cs (x : Value × Nat) => cs.setIfInBounds (q * n + x.2) x.1) c = c2 at z1 z2
      obtain ⟨c', r1, r2, r3, r4⟩ := fill_rows ps vs (q + 1) c2 (by simpa using hl) (fun i p v' e1 e2 => by
        obtain ⟨a1, a2⟩ := hp (i + 1) p v' (by simpa using e1) (by simpa using e2)
        exact ⟨by omega, a2⟩) (by rw [z1]; simp only [List.length_cons] at hc; rw [show q + 1 + ps.length = q + (ps.length + 1) by omega]; exact hc)
      refine ⟨c', r1, by rw [r2, z1], fun i hi => ?_, fun i e j x he hx => ?_⟩
      · rw [r3 i (by rw [Nat.add_mul]; omega), z2 i (by rw [Nat.add_mul] at hcq; omega), if_neg (by omega)]
      · cases i with
        | zero =>
          simp at he; subst he
          have hj : j < n := by rw [← h3]; exact (List.getElem?_eq_some_iff.1 hx).1
          have hjs : j < rv.cells.size := by omega
          refine ⟨rv.cells[j], ?_, k2 j x _ hx (by simp [hjs]), k3 j _ (by simp [hjs])⟩
          rw [Nat.add_zero, r3 _ (by rw [Nat.add_mul]; omega), z2 _ (by rw [Nat.add_mul] at hcq; omega), if_pos (by simp; omega)]
          simp [hjs]
        | succ i =>
          have := r4 i e j x (by simpa using he) hx
          rw [show q + 1 + i = q + (i + 1) by omega] at this
          exact this

/-- A literal of a slice: a new row whose cells stay. -/
theorem buildSl_run (hi : HInv T G lo h w) {n len : Nat} {vs : List V} {ps : List (Nat × Value)} {t el : TypeId} {zv : Value} (ht : sliceElem P t = some el) (hs : szOf P el = some n) (hn : 0 < n) (hsz : len * n ≤ 2 ^ 24)
    (hz : (P.info? el).bind (·.zero) = some zv) (hlen : vs.length = len) (hpl : ps.length = len) (hv : ∀ v ∈ vs, v.cells.length = n ∧ okV v = true)
    (hp : ∀ (i : Nat) (p : Nat × Value) (v : V), ps[i]? = some p → vs[i]? = some v → p.1 = i ∧ R T G v p.2) :
    ∃ rv w' G', (Instr.buildSlice t len ps.toArray).run P w = .ok rv w' ∧ R T G' (.sl n vs .ce) rv ∧ HInv T G' lo h w' ∧ Stp lo G h w G' h w' := by
  have hu : P.underlying t = some (.slice el) := by
    unfold sliceElem at ht; split at ht
    · simp at ht; subst ht; assumption
    · exact absurd ht (by simp)
  obtain ⟨c, r1, r2, r3, r4⟩ := fill_rows (T := T) (G := G) (n := n) ps vs 0 ((Array.range (len * n)).map (fun i => (if len * n = 0 then #[] else zv.cells)[i % (if len * n = 0 then #[] else zv.cells).size]!)) (by omega) (fun i p v e1 e2 => by
    obtain ⟨a1, a2⟩ := hp i p v e1 e2
    obtain ⟨b1, b2⟩ := hv v (List.mem_of_getElem? e2)
    exact ⟨by omega, a2, b1, b2⟩) (by simp [hpl])
  obtain ⟨G', g1, g2, g3⟩ := new_perm hi (w' := w.alloc (.cells c el (0, 0))) (heap_push_size w _) (heap_push_old w _) rfl rfl rfl
  refine ⟨.slice (some ⟨w.heap.size, 0, none⟩) len len, _, G', ?_, ?_, g1, g2⟩
  · have h24 : ¬ (16777216 < len * n) := by
      have : (2 : Nat) ^ 24 = 16777216 := by decide
      omega
    unfold Instr.buildSlice
    by_cases h0 : len * n = 0
    · simp only [h0, if_true] at r1
      have r1' : Instr.fill (fun i => some (i * n, n)) (Array.map (fun x => default) (Array.range 0)) ps = some c := by simpa using r1
      simp [run_und hu, run_sz hs, h0, run_newRow, r1']
    · simp only [h0, if_false] at r1
      simp [run_und hu, run_sz hs, h0, h24, run_zero hz, run_newRow, r1]
  · have cellv : ∀ i e j x, vs[i]? = some e → e.cells[j]? = some x → ∃ rv, G'.Gp w.heap.size (i * n + j) = some rv ∧ R T G x rv ∧ oc rv = true := by
      intro i e j x h1 h2
      obtain ⟨rv, q1, q2, q3⟩ := r4 i e j x h1 h2
      rw [Nat.zero_add] at q1
      refine ⟨rv, g3 _ _ ?_, q2, q3⟩
      simp only [World.cell?, heap_push_new]; exact q1
    rw [← hlen]
    refine .sl n vs .ce _ _ w.heap.size 0 (fun i j => (G'.Gp w.heap.size (i * n + j)).getD undef) (Nat.le_refl _) ⟨fun _ => rfl, by simp, fun _ => rfl⟩ (fun _ => rfl) (fun i e he => (hv e (List.mem_of_getElem? he)).1) (fun i e j x h1 h2 => ?_) (fun i e j x h1 h2 => ?_) (fun i e j x h1 h2 => ?_)
    all_goals
      obtain ⟨rv, q1, q2, q3⟩ := cellv i e j x h1 h2
      first
        | (simp only [gAt, Nat.zero_add, q1, Option.getD_some]; done)
        | (simp only [q1, Option.getD_some]; first | exact q2.mono g2.le | exact q3)

/-- []byte of a text. -/
theorem s2b_run (hi : HInv T G lo h w) {s : ByteArray} {l : List UInt8} (hs : s.data.toList = l) (el : TypeId) :
    ∃ rv w' G', (Conv.stringToBytes el s).run P w = .ok rv w' ∧ R T G' (.sl 1 (l.map byteV) .perm) rv ∧ HInv T G' lo h w' ∧ Stp lo G h w G' h w' := by
  let cap := (Question.appendCap s.size 0 el).cut (w.tape w.drawn (Question.appendCap s.size 0 el))
  have hcap : s.size ≤ cap := by
    show s.size ≤ s.size + _
    omega
  let c : Array Value := (s.data.map fun b => Value.int .u8 b.toNat) ++ Array.replicate (cap - s.size) (.int .u8 0)
  have hcs : c.size = cap := by
    simp only [c, Array.size_append, Array.size_map, Array.size_replicate]
    show s.size + (cap - s.size) = cap
    omega
  let w1 := w.drew.alloc (.cells c el (0, 0))
  let w' := w1.freeze { block := w.heap.size, off := cap } 1
  have hw1 : w1.heap.size = w.heap.size + 1 := heap_push_size _ _
  have hfz : ∀ b, b ≠ w.heap.size → w'.heap[b]? = w1.heap[b]? := by
    intro b hb
    simp [w', World.freeze, Array.getElem?_modify, Ne.symm hb]
  have hfzs : w'.heap.size = w1.heap.size := by simp [w', World.freeze]
  have hnew : w'.heap[w.heap.size]? = some (.cells c el (cap, cap + 1)) := by
    have : w1.heap[w.heap.size]? = some (.cells c el (0, 0)) := heap_push_new _ _
    simp [w', World.freeze, Array.getElem?_modify, this]
  obtain ⟨G', g1, g2, g3⟩ := new_perm hi (w' := w') (by omega) (fun b hb => by rw [hfz b (by omega)]; exact heap_push_old w.drew _ b hb) rfl rfl rfl
  have hrun : (Conv.stringToBytes el s).run P w = .ok (.slice (some ⟨w.heap.size, 0, none⟩) s.size cap) w' := by
    have hch : (choose (.appendCap s.size 0 el)).run P w = .ok cap w.drew := by rw [run_choose]; rfl
    have hsh : w1.shape? w.heap.size = some (el, cap) := by
      have : w1.heap[w.heap.size]? = some (.cells c el (0, 0)) := heap_push_new _ _
      simp [World.shape?, this, hcs]
    have hms : (markStringish ⟨w.heap.size, 0, none⟩).run P w1 = .ok () w' := by
      simp [markStringish, hsh, w']
    unfold Conv.stringToBytes
    simp only [Sem.run_bind, hch, Result.andThen_ok]
    have hnr : (newRow el ((s.data.map fun b => Value.int .u8 b.toNat) ++ Array.replicate (cap - s.size) (.int .u8 0))).run P w.drew = .ok ⟨w.heap.size, 0, none⟩ w1 := rfl
    rw [hnr]
    simp only [Result.andThen_ok, hms, Sem.run_pure]
  have hsl : (l.map byteV).length = s.size := by rw [← hs]; simp
  refine ⟨_, w', G', hrun, ?_, g1, g2⟩
  have cellv : ∀ i e j x, (l.map byteV)[i]? = some e → e.cells[j]? = some x → ∃ rv, G'.Gp w.heap.size (i + j) = some rv ∧ R T G x rv ∧ oc rv = true ∧ j = 0 := by
    intro i e j x h1 h2
    rw [List.getElem?_map] at h1
    simp only [Option.map_eq_some_iff] at h1
    obtain ⟨b, hb, rfl⟩ := h1
    cases j with
    | succ j => simp [byteV, V.cells] at h2
    | zero =>
      simp [byteV, V.cells] at h2
      subst h2
      refine ⟨.int .u8 b.toNat, g3 _ _ ?_, .int _ _, rfl, rfl⟩
      simp only [World.cell?, hnew, Nat.add_zero]
      rw [← hs] at hb
      have hb' : s.data[i]? = some b := by simpa using hb
      have hil : i < s.data.size := by
        rcases Nat.lt_or_ge i s.data.size with h | h
        · exact h
        · rw [Array.getElem?_eq_none h] at hb'; simp at hb'
      simp only [c]
      rw [if_neg (by simp), Array.getElem?_append_left (by simpa using hil)]
      simp [hb']
  rw [← hsl]
  refine .sl 1 _ .perm _ cap w.heap.size 0 (fun i j => (G'.Gp w.heap.size (i + j)).getD undef) (by rw [hsl]; exact hcap) (.plain rfl (by simp) rfl _ _ _) (fun _ => rfl) (fun i e he => ?_) (fun i e j x h1 h2 => ?_) (fun i e j x h1 h2 => ?_) (fun i e j x h1 h2 => ?_)
  · rw [List.getElem?_map] at he
    simp only [Option.map_eq_some_iff] at he
    obtain ⟨b, _, rfl⟩ := he
    rfl
  all_goals
    obtain ⟨rv, q1, q2, q3, q4⟩ := cellv i e j x h1 h2
    first
      | (simp only [gAt, Nat.zero_add, Nat.mul_one, q1, Option.getD_some]; done)
      | (simp only [q1, Option.getD_some]; first | exact q2.mono g2.le | exact q3)

theorem rng_run (hi : HInv T G lo h w) {s : ByteArray} {l : List UInt8} (hs : s.data.toList = l) {t : TypeId} (hu : P.underlying t = some .string) :
    ∃ rv w' G', (Instr.range t (.string s)).run P w = .ok rv w' ∧ R T G' (.itr h.length) rv ∧ HInv T G' lo (h ++ [.iter l 0]) w' ∧ Stp lo G h w G' (h ++ [.iter l 0]) w' := by
  obtain ⟨G', g1, g2, g3⟩ := new_iter hi (w' := w.alloc (.stringIter s 0)) (heap_push_size w _) (heap_push_old w _) rfl rfl rfl hs (heap_push_new w _)
  refine ⟨.pointer (some ⟨w.heap.size, 0, none⟩), _, G', ?_, .itr _ _ g3, g1, g2⟩
  simp [Instr.range, run_und hu]

theorem nxt_run (hi : HInv T G lo h w) {it v : V} {h' : Heap} {rit : Value} (e : nextV lo h it = some (v, h')) (hR : R T G it rit) (ty : TypeId) :
    ∃ rv w', (Instr.next rit true ty).run P w = .ok rv w' ∧ R T G v rv ∧ HInv T G lo h' w' ∧ Stp lo G h w G h' w' := by
  unfold nextV at e
  split at e
  · rename_i B
    obtain ⟨r, rfl, hr⟩ := hR.itr_inv
    split at e
    · rename_i l pos hB
      obtain ⟨s, hs, hh⟩ := hi.iter B l pos r hB hr
      have hsl : l.length = s.size := by rw [← hs]; simp
      have hget : (getObj r).run P w = .ok (.stringIter s pos) w := by
        simp [getObj, Sem.run, hh]
      split at e
      · rename_i hpos
        split at e
        · rename_i hlo
          simp only [Option.some.injEq, Prod.mk.injEq] at e
          obtain ⟨rfl, rfl⟩ := e
          have hdec : decodeL l pos = Utf8.decode s pos := by
            have : (⟨l.toArray⟩ : ByteArray) = s := by
              apply ByteArray.ext
              simp [← hs]
            simp [decodeL, this]
          let w' : World := { w with heap := w.heap.setIfInBounds r (.stringIter s (pos + (Utf8.decode s pos).2)) }
          have hrl : r < w.heap.size := heap_lt hh
          have hset : (setObj r (.stringIter s (pos + (Utf8.decode s pos).2))).run P w = .ok () w' := by
            simp [setObj, Sem.run, hh, w']
          obtain ⟨k1, k2⟩ := set_iter hi (w' := w') (pos' := pos + (decodeL l pos).2) hlo hB hr (by simp [w']) (fun b _ hb => by simp [w', Array.getElem?_setIfInBounds, Ne.symm hb]) rfl rfl rfl hs (by simp [w', Array.getElem?_setIfInBounds, hrl, hdec])
          refine ⟨.tuple #[.bool true, .int .i64 pos, .int .i32 (Utf8.decode s pos).1], w', ?_, ?_, k1, k2⟩
          · have : pos < s.size := by omega
            unfold Instr.next
            simp only [Sem.run_bind, hget, Result.andThen_ok]
            simp [this, hset, goInt]
          · rw [hdec]
            refine .tup _ _ rfl fun i v rv e1 e2 => ?_
            match i with
            | 0 => simp at e1 e2; subst e1; subst e2; exact .bool _
            | 1 => simp at e1 e2; subst e1; subst e2; exact .int _ _
            | 2 => simp at e1 e2; subst e1; subst e2; exact .int _ _
            | i + 3 => simp at e1
        · simp at e
      · rename_i hpos
        simp only [Option.some.injEq, Prod.mk.injEq] at e
        obtain ⟨rfl, rfl⟩ := e
        refine ⟨.tuple #[.bool false], w, ?_, ?_, hi, .refl _ _ _ _⟩
        · have : ¬ pos < s.size := by omega
          unfold Instr.next
          simp only [Sem.run_bind, hget, Result.andThen_ok]
          simp [this]
        · refine .tup _ _ rfl fun i v rv e1 e2 => ?_
          match i with
          | 0 => simp at e1 e2; subst e1; subst e2; exact .bool _
          | i + 1 => simp at e1
    · simp at e
  · simp at e

end
end Go.VE
