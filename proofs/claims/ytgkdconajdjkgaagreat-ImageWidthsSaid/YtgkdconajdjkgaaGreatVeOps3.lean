/- The third part of the operations that look at no memory; and all of them together. -/
import Derived.Test.YtgkdconajdjkgaaGreatVeOps2
import Derived.Laws.BytesString
namespace Go.VE
set_option linter.unusedVariables false
set_option linter.unnecessarySimpa false
set_option linter.unusedSimpArgs false

section
variable {P : Program} {T : Tbl} {G : Gh} {w : World} {lo : Nat} {h : Heap}

/-- Cells and their values, one by one. -/
def RL (T : Tbl) (G : Gh) (cs : List V) (c : Array Value) : Prop :=
  cs.length = c.size ∧ (∀ (i : Nat) (v : V) (rv : Value), cs[i]? = some v → c[i]? = some rv → R T G v rv) ∧ (∀ (i : Nat) (rv : Value), c[i]? = some rv → oc rv = true)

theorem zipFold (off : Nat) : ∀ (l : List Value) (k : Nat) (arr : Array Value),
    ((l.zipIdx k).foldl (fun cs (x : Value × Nat) => cs.setIfInBounds (off + x.2) x.1) arr).size = arr.size ∧
    ∀ i, i < arr.size → ((l.zipIdx k).foldl (fun cs (x : Value × Nat) => cs.setIfInBounds (off + x.2) x.1) arr)[i]? = if off + k ≤ i ∧ i < off + k + l.length then l[i - (off + k)]? else arr[i]?
  | [], k, arr => by
    refine ⟨rfl, fun i hi => ?_⟩
    rw [if_neg (by simp)]; rfl
  | x :: l, k, arr => by
    obtain ⟨h1, h2⟩ := zipFold off l (k + 1) (arr.setIfInBounds (off + k) x)
    simp only [List.zipIdx_cons, List.foldl_cons]
    refine ⟨by rw [h1]; simp, fun i hi => ?_⟩
    rw [h2 i (by simpa using hi)]
    by_cases c1 : i = off + k
    · subst c1
      rw [if_neg (by omega), if_pos (by simp)]
      simp [Array.getElem?_setIfInBounds, hi]
    · by_cases c2 : off + k ≤ i ∧ i < off + k + (x :: l).length
      · rw [if_pos (by simp at c2; omega), if_pos c2]
        rw [show i - (off + k) = (i - (off + (k + 1))) + 1 by omega, List.getElem?_cons_succ]
      · rw [if_neg (by simp at c2 ⊢; omega), if_neg c2]
        simp [Array.getElem?_setIfInBounds, Ne.symm c1]

theorem fillV_run (place : Nat → Option (Nat × Nat)) : ∀ (ps : List (Nat × Value)) (qs : List (Nat × V)) (cells : List V) (c : Array Value) (out : List V), RL T G cells c → ps.length = qs.length →
    (∀ (i : Nat) (p : Nat × Value) (q : Nat × V), ps[i]? = some p → qs[i]? = some q → R T G q.2 p.2 ∧ place p.1 = some (q.1, q.2.cells.length)) →
    fillV cells qs = some out → ∃ c', Instr.fill place c ps = some c' ∧ RL T G out c'
  | [], qs, cells, c, out, hR, hl, hp, e => by
    cases qs with
    | cons _ _ => simp at hl
    | nil => simp [fillV] at e; subst e; exact ⟨c, rfl, hR⟩
  | p :: ps, qs, cells, c, out, hR, hl, hp, e => by
    cases qs with
    | nil => simp at hl
    | cons q qs =>
      obtain ⟨i, rv⟩ := p
      obtain ⟨off, v⟩ := q
      obtain ⟨h1, h2⟩ := hp 0 _ _ rfl rfl
      simp only at h1 h2
      simp only [fillV] at e
      split at e
      · rename_i hc
        obtain ⟨k1, k2, k3⟩ := h1.cells hc.2
        obtain ⟨r1, r2, r3⟩ := hR
        simp only [Instr.fill, h2]
        rw [if_neg (by simp [k1]; omega)]
        obtain ⟨z1, z2⟩ := zipFold off rv.cells.toList 0 c
        have hz : rv.cells.zipIdx.foldl (fun cs (x : Value × Nat) => cs.setIfInBounds (off + x.2) x.1) c = (rv.cells.toList.zipIdx 0).foldl (fun cs (x : Value × Nat) => cs.setIfInBounds (off + x.2) x.1) c := by
          rw [← Array.foldl_toList]; simp
        have e2 : rv.cells.zipIdx.foldl (fun cs x => match x with | (c, j) => cs.setIfInBounds (off + j) c) c = (rv.cells.toList.zipIdx 0).foldl (fun cs (x : Value × Nat) => cs.setIfInBounds (off + x.2) x.1) c := hz
        rw [e2]
        refine fillV_run place ps qs _ _ out ?_ (by simpa using hl) (fun i p q hp' hq' => hp (i + 1) p q (by simpa using hp') (by simpa using hq')) e
        generalize (rv.cells.toList.zipIdx 0).foldl (fun cs (x : Value × Nat) => cs.setIfInBounds (off + x.2) x.1) c = c2 at z1 z2
        have hlen : (cells.take off ++ v.cells ++ cells.drop (off + v.cells.length)).length = cells.length := by simp; omega
        refine ⟨by rw [hlen, r1, z1], fun j x rx hx hrx => ?_, fun j rx hrx => ?_⟩
        · have hj : j < c.size := by
            rw [← r1, ← hlen]
            exact (List.getElem?_eq_some_iff.1 hx).1
          rw [z2 j hj] at hrx
          simp only [Nat.add_zero, Array.length_toList] at hrx
          by_cases c1 : j < off
          · rw [if_neg (by omega)] at hrx
            rw [List.append_assoc, List.getElem?_append_left (by simp; omega), List.getElem?_take, if_pos c1] at hx
            exact r2 j x rx hx hrx
          · by_cases c3 : j < off + v.cells.length
            · rw [if_pos (by omega)] at hrx
              rw [List.append_assoc, List.getElem?_append_right (by simp; omega), List.getElem?_append_left (by simp; omega)] at hx
              have : (List.take off cells).length = off := by simp; omega
              rw [this] at hx
              exact k2 (j - off) x rx hx (by simpa using hrx)
            · rw [if_neg (by omega)] at hrx
              rw [List.getElem?_append_right (by simp; omega), List.getElem?_drop] at hx
              refine r2 j x rx ?_ hrx
              rw [← hx]
              congr 1
              simp
              omega
        · have hj : j < c.size := by
            rw [← z1]
            rcases Nat.lt_or_ge j c2.size with h | h
            · exact h
            · rw [Array.getElem?_eq_none h] at hrx; simp at hrx
          rw [z2 j hj] at hrx
          split at hrx
          · exact k3 _ rx (by simpa using hrx)
          · exact r3 j rx hrx
      · exact absurd e (by simp)

theorem gAt_cell (hi : HInv T G lo h w) {t : Tag} {b off : Nat} {v : Value} (e : gAt G t b off = some v) : w.cell? ⟨b, off, none⟩ = some v := by
  cases t <;> first | exact hi.gp _ _ _ e | exact hi.gb _ _ _ e

theorem bytesOf_get : ∀ (es : List V) (l : List UInt8), bytesOf es = some l → es.length = l.length ∧ ∀ (i : Nat) (b : UInt8), l[i]? = some b → ∃ n : Int, es[i]? = some (V.int .u8 n) ∧ b = UInt8.ofNat n.toNat
  | [], l, e => by simp [bytesOf] at e; subst e; simp
  | x :: es, l, e => by
    unfold bytesOf at e
    split at e
    · rename_i h; exact absurd h (by simp)
    · rename_i n l' h
      simp only [List.cons.injEq] at h
      obtain ⟨rfl, rfl⟩ := h
      simp only [Option.map_eq_some_iff] at e
      obtain ⟨l'', h1, rfl⟩ := e
      obtain ⟨i1, i2⟩ := bytesOf_get _ _ h1
      refine ⟨by simp [i1], fun i b hb => ?_⟩
      cases i with
      | zero => simp at hb; subst hb; exact ⟨n, by simp⟩
      | succ i => simpa using i2 i b (by simpa using hb)
    · exact absurd e (by simp)

theorem push_fold : ∀ (ns : List Int) (s : ByteArray), (ns.foldl (fun r n => r.push (UInt8.ofNat n.toNat)) s).data.toList = s.data.toList ++ ns.map fun n => UInt8.ofNat n.toNat
  | [], s => by simp
  | n :: ns, s => by
    simp only [List.foldl_cons, push_fold ns, List.map_cons]
    simp [ByteArray.push]

theorem b2s_run (hi : HInv T G lo h w) {es : List V} {tg : Tag} {l : List UInt8} (e : bytesOf es = some l) {rx : Value} (hx : R T G (.sl 1 es tg) rx) :
    ∃ s : ByteArray, (Conv.bytesToString rx).run P w = .ok (.string s) w ∧ s.data.toList = l := by
  obtain ⟨a, cap, b, o, f, rfl, hc, htg, ha, hz, hg, hR, ho⟩ := hx.sl_inv
  obtain ⟨g1, g2⟩ := bytesOf_get es l e
  by_cases hne : es = []
  · subst hne
    have : l = [] := by simpa using g1.symm
    subst this
    cases a with
    | none => exact ⟨.empty, by simp [Conv.bytesToString], rfl⟩
    | some a => exact ⟨.empty, by simp [Conv.bytesToString, loadCells, loadCellsFrom], rfl⟩
  · rw [ha hne]
    let ns : List Int := es.map fun v => match v with | .int _ n => n | _ => 0
    have hns : ∀ i, i < es.length → ∃ n : Int, es[i]? = some (V.int .u8 n) ∧ l[i]? = some (UInt8.ofNat n.toNat) ∧ ns[i]? = some n := by
      intro i hi
      have hb : l[i]? = some l[i] := List.getElem?_eq_getElem (by omega)
      obtain ⟨n, h1, h2⟩ := g2 i _ hb
      exact ⟨n, h1, by rw [hb, h2], by simp [ns, h1]⟩
    have hl : (loadCells ⟨b, o, none⟩ es.length).run P w = .ok (ns.map (Value.int .u8)).toArray w := by
      have hlen : (ns.map (Value.int .u8)).length = es.length := by simp [ns]
      rw [← hlen]
      refine run_loadCells_list w _ _ fun j v hj => ?_
      rw [add_spot]
      have hj' : j < es.length := by rw [← hlen]; exact (List.getElem?_eq_some_iff.1 hj).1
      obtain ⟨n, h1, h2, h3⟩ := hns j hj'
      have hv : v = .int .u8 n := by rw [List.getElem?_map, h3] at hj; simpa using hj.symm
      have hcell := gAt_cell hi (hg j _ 0 _ h1 rfl)
      have hrel := (hR j _ 0 _ h1 rfl).int_inv
      rw [hrel] at hcell
      rw [hv, show o + j = o + j * 1 + 0 by omega]
      exact hcell
    refine ⟨_, run_bytesToString w _ _ _ ns hl, ?_⟩
    rw [push_fold, show ByteArray.empty.data.toList = [] from rfl, List.nil_append]
    have hnl : ns.length = es.length := by simp [ns]
    apply List.ext_getElem?
    intro i
    by_cases hlt : i < es.length
    · obtain ⟨n, h1, h2, h3⟩ := hns i hlt
      rw [h2, List.getElem?_map, h3]; rfl
    · rw [List.getElem?_eq_none (by rw [List.length_map]; omega), List.getElem?_eq_none (by omega)]


theorem tassertV_run {i : Nat} {z : V} {ok : Bool} {x v : V} {rx : Value} (e : tassertV i z ok x = some v) (hx : R T G x rx) {t xt : TypeId} (inj : ∀ i j t, T.tid i = some t → T.tid j = some t → i = j) (hi : T.tid i = some t)
    (ht : isKind P (fun d => !isIface d) t = true) (hz : zeroIs P t z = true) : ∃ rv, (Instr.typeAssert rx xt t ok).run P w = .ok rv w ∧ R T G v rv := by
  obtain ⟨d, hd, hk⟩ := kind_of ht
  unfold zeroIs at hz
  cases hzv : (P.info? t).bind (·.zero) with
  | none => simp [hzv] at hz
  | some zv =>
    simp only [hzv] at hz
    have hzR : R T G z zv := valIs_R hz
    have tt : ∀ {a b : V} {ra rb : Value}, R T G a ra → R T G b rb → R T G (.tup [a, b]) (.tuple #[ra, rb]) := by
      intro a b ra rb h1 h2
      refine .tup _ _ rfl fun i v rv e1 e2 => ?_
      match i with
      | 0 => simp at e1 e2; subst e1; subst e2; exact h1
      | 1 => simp at e1 e2; subst e1; subst e2; exact h2
      | i + 2 => simp at e1
    have hrun : ∀ v', (Instr.typeAssert (.iface t v') xt t ok).run P w = .ok (if ok then .tuple #[v', .bool true] else v') w := by
      intro v'
      unfold Instr.typeAssert
      simp only [Sem.run_bind, run_und hd, Result.andThen_ok]
      cases d <;> simp [isIface] at hk <;> simp <;> cases ok <;> rfl
    have hfail : ∀ u v', u ≠ t → ok = true → (Instr.typeAssert (.iface u v') xt t ok).run P w = .ok (.tuple #[zv, .bool false]) w := by
      intro u v' hu hok
      unfold Instr.typeAssert
      simp only [Sem.run_bind, run_und hd, Result.andThen_ok]
      subst hok
      cases d <;> simp [isIface] at hk <;> simp [hu, run_zero hzv]
    have hfail' : ok = true → (Instr.typeAssert .nilIface xt t ok).run P w = .ok (.tuple #[zv, .bool false]) w := by
      intro hok
      unfold Instr.typeAssert
      simp only [Sem.run_bind, run_und hd, Result.andThen_ok]
      subst hok
      cases d <;> simp [isIface] at hk <;> simp [run_zero hzv]
    unfold tassertV at e
    split at e
    · obtain ⟨tid, rv, rfl, h1, h2⟩ := hx.iface_inv
      split at e
      · rename_i hti
        subst hti
        simp only [Option.some.injEq] at e; subst e
        rw [hi] at h1
        simp only [Option.some.injEq] at h1; subst h1
        refine ⟨_, hrun rv, ?_⟩
        cases ok
        · exact h2
        · exact tt h2 (.bool true)
      · rename_i hti
        split at e
        · rename_i hok
          simp only [Option.some.injEq] at e; subst e
          exact ⟨_, hfail tid rv (fun hh => hti (inj _ _ _ (hh ▸ h1) hi)) hok, tt hzR (.bool false)⟩
        · exact absurd e (by simp)
    · cases hx
      split at e
      · rename_i hok
        simp only [Option.some.injEq] at e; subst e
        exact ⟨_, hfail' hok, tt hzR (.bool false)⟩
      · exact absurd e (by simp)
    · exact absurd e (by simp)

theorem chkOpds_R {fr : Fr} {a : Act} (hf : FInv T G fr a.tmps) : ∀ (l : List Operand) (r : List VOpd), chkOpds T l r = true →
    (r.map (opd fr)).length = (l.map a.eval).length ∧ ∀ (i : Nat) (v : V) (rv : Value), (r.map (opd fr))[i]? = some v → (l.map a.eval)[i]? = some rv → R T G v rv
  | [], [], _ => ⟨rfl, by simp⟩
  | [], _ :: _, h => by simp [chkOpds] at h
  | _ :: _, [], h => by simp [chkOpds] at h
  | x :: l, y :: r, h => by
    simp only [chkOpds, Bool.and_eq_true] at h
    obtain ⟨h1, h2⟩ := chkOpds_R hf l r h.2
    refine ⟨by simpa using h1, fun i v rv e1 e2 => ?_⟩
    cases i with
    | zero => simp at e1 e2; subst e1; subst e2; exact chkOpd_R hf h.1
    | succ i => exact h2 i v rv (by simpa using e1) (by simpa using e2)

theorem fold_run (isMax : Bool) {k : IntKind} : ∀ (vs : List V) (rs : List Value) (a : Int) (v : V), vs.length = rs.length → (∀ (i : Nat) (v : V) (rv : Value), vs[i]? = some v → rs[i]? = some rv → R T G v rv) →
    foldV.go (if isMax then fun a b => if b > a then b else a else fun a b => if b < a then b else a) k a vs = some v →
    ∃ rv, (rs.foldlM (if isMax then Builtin.max2 else Builtin.min2) (.int k a)).run P w = .ok rv w ∧ R T G v rv
  | [], rs, a, v, hl, hR, e => by
    cases rs with
    | cons _ _ => simp at hl
    | nil => simp [foldV.go] at e; subst e; exact ⟨_, rfl, .int _ _⟩
  | x :: vs, rs, a, v, hl, hR, e => by
    cases rs with
    | nil => simp at hl
    | cons r rs =>
      have h0 := hR 0 x r rfl rfl
      unfold foldV.go at e
      split at e
      · rename_i hh; exact absurd hh (by simp)
      · rename_i k' b l hh
        simp only [List.cons.injEq] at hh
        obtain ⟨rfl, rfl⟩ := hh
        obtain rfl := h0.int_inv
        split at e
        · rename_i hk
          subst hk
          have ih := fold_run (k := k) isMax vs rs _ v (by simpa using hl) (fun i v rv h1 h2 => hR (i + 1) v rv (by simpa using h1) (by simpa using h2)) e
          obtain ⟨rv, h1, h2⟩ := ih
          refine ⟨rv, ?_, h2⟩
          rw [List.foldlM_cons]
          cases isMax
          · simpa [Builtin.min2] using h1
          · simpa [Builtin.max2] using h1
        · exact absurd e (by simp)
      · exact absurd e (by simp)

theorem foldV_run (isMax : Bool) {vs : List V} {rs : List Value} {v : V} (hl : vs.length = rs.length) (hR : ∀ (i : Nat) (v : V) (rv : Value), vs[i]? = some v → rs[i]? = some rv → R T G v rv)
    (e : foldV (if isMax then fun a b => if b > a then b else a else fun a b => if b < a then b else a) vs = some v) (ts : Array TypeId) (t : TypeId) :
    ∃ rv, (if isMax then Builtin.max_ ts t rs.toArray else Builtin.min_ ts t rs.toArray).run P w = .ok rv w ∧ R T G v rv := by
  unfold foldV at e
  split at e
  · exact absurd e (by simp)
  · rename_i k a r
    cases rs with
    | nil => simp at hl
    | cons q rs =>
      obtain rfl := (hR 0 _ q rfl rfl).int_inv
      obtain ⟨rv, h1, h2⟩ := fold_run (P := P) (w := w) isMax r rs a v (by simpa using hl) (fun i v rv h1 h2 => hR (i + 1) v rv (by simpa using h1) (by simpa using h2)) e
      refine ⟨rv, ?_, h2⟩
      cases isMax
      · simpa [Builtin.min_] using h1
      · simpa [Builtin.max_] using h1
  · exact absurd e (by simp)

end
end Go.VE
