/- One operation that is no call, all cases. -/
import Derived.Test.YtgkdconajdjkgaaGreatVeStep
namespace Go.VE
set_option linter.unusedVariables false
set_option linter.unnecessarySimpa false
set_option linter.unusedSimpArgs false
open Classical

section
variable {P : Program} {T : Tbl} {G : Gh} {w : World} {lo : Nat} {h : Heap}

def isCall : VOp → Bool
  | .call .. | .calld .. | .inv .. => true
  | _ => false

theorem Good.of {s : Sem Value} {x : V} {h' : Heap} (hx : ∃ rv w' G', s.run P w = .ok rv w' ∧ R T G' x rv ∧ HInv T G' lo h' w' ∧ Stp lo G h w G' h' w') :
    Good P T lo G h w (do pure (.value (← s))) x h' := by
  obtain ⟨rv, w', G', h1, h2, h3, h4⟩ := hx
  exact ⟨.value rv, rv, w', G', by simp [h1], .inl rfl, h2, h3, h4⟩

theorem Good.of' {s : Sem Value} {x : V} (hi : HInv T G lo h w) (hx : ∃ rv, s.run P w = .ok rv w ∧ R T G x rv) :
    Good P T lo G h w (do pure (.value (← s))) x h := by
  obtain ⟨rv, h1, h2⟩ := hx
  exact .of ⟨rv, w, G, h1, h2, hi, .refl _ _ _ _⟩

theorem Good.unit {s : Sem Unit} {h' : Heap} (hx : ∃ w' G', s.run P w = .ok () w' ∧ HInv T G' lo h' w' ∧ Stp lo G h w G' h' w') :
    Good P T lo G h w (do s; pure .skip) passed h' := by
  obtain ⟨w', G', h1, h3, h4⟩ := hx
  exact ⟨.skip, undef, w', G', by simp [h1], .inr ⟨rfl, rfl⟩, .tup [] #[] rfl (by simp), h3, h4⟩

theorem sliceElem_und {t el : TypeId} (ht : sliceElem P t = some el) : P.underlying t = some (.slice el) := by
  unfold sliceElem at ht; split at ht
  · simp at ht; subst ht; assumption
  · exact absurd ht (by simp)

theorem RO_of {fr : Fr} {a : Act} (hf : FInv T G fr a.tmps) {x : Option Operand} {y : Option VOpd} (hc : chkOpt T x y = true) : RO T G (y.map (opd fr)) (x.map a.eval) := by
  cases x <;> cases y <;> simp [chkOpt] at hc
  · trivial
  · exact chkOpd_R hf hc

theorem part_run {agg : Bool} {n o : Nat} {cs : List V} {c : Array Value} {v : V} {t : TypeId} (ht : isAggB P t = some agg) (hs : agg = true → szOf P t = some n) (e : ldc (.agg cs) agg n o = some v) (hR : RL T G cs c) :
    ∃ rv, (part t c o).run P w = .ok rv w ∧ R T G v rv := by
  obtain ⟨t1, t2, t3⟩ := hR
  unfold ldc at e
  cases agg with
  | true =>
    simp only [if_true] at e
    have e' : (if o + n ≤ cs.length then some (V.agg ((cs.drop o).take n)) else none) = some v := e
    by_cases hle : o + n ≤ cs.length
    · rw [if_pos hle] at e'
      have e := e'
      simp only [Option.some.injEq] at e; subst e
      refine ⟨.agg (c.extract o (o + n)), by simp [part, run_agg ht, run_sz (hs rfl)], .agg _ _ (by simp; omega) (fun i v rv e1 e2 => ?_) (fun i rv e2 => ?_)⟩
      · rw [List.getElem?_take] at e1
        split at e1
        · rw [List.getElem?_drop] at e1
          refine t2 _ v rv e1 ?_
          rw [Array.getElem?_extract] at e2
          split at e2
          · exact e2
          · simp at e2
        · simp at e1
      · rw [Array.getElem?_extract] at e2
        split at e2
        · exact t3 _ rv e2
        · simp at e2
    · rw [if_neg hle] at e'; simp at e'
  | false =>
    have e : cs[o]? = some v := e
    have hol : o < c.size := by rw [← t1]; exact (List.getElem?_eq_some_iff.1 e).1
    exact ⟨c[o], run_part_scalar ht (by simp [hol]), t2 _ _ _ e (by simp [hol])⟩

/-- A pure operation. -/
theorem pure_ok (inj : ∀ i j t, T.tid i = some t → T.tid j = some t → i = j) {op : Op} {v : VOp} (hc : chkOp P T op v = true) {fr : Fr} {a : Act} (hf : FInv T G fr a.tmps) (hi : HInv T G lo h w) {x : V}
    (e : pureOp fr v = some x) (dst : Option Tmp) (ty : TypeId) (pos : String) (after : Array Edge) (gd : Option (Nat × Bool)) : Good P T lo G h w (execOp a.eval ⟨dst, op, ty, pos, after, gd⟩) x h := by
  have ro : ∀ {x y}, chkOpd T x y = true → R T G (opd fr y) (a.eval x) := fun h => chkOpd_R hf h
  unfold chkOp at hc
  split at hc
  · -- move
    simp [pureOp] at e; subst e
    exact .same hi rfl (ro hc)
  · -- assign
    simp [pureOp] at e; subst e
    exact .same hi rfl (ro hc)
  · simp [pureOp] at e
  · -- pick
    simp only [Bool.and_eq_true] at hc
    simp only [pureOp] at e
    split at e
    · rename_i b hb
      simp only [Option.some.injEq] at e; subst e
      have := ro hc.1.1
      rw [hb] at this
      have hv := this.bool_inv
      cases b
      · exact .same hi (by simp [execOp, hv, asBool]) (ro hc.2)
      · exact .same hi (by simp [execOp, hv, asBool]) (ro hc.1.2)
    · simp at e
  · simp [pureOp] at e
  · simp [pureOp] at e
  · -- build
    rename_i t ps z ps'
    simp only [Bool.and_eq_true] at hc
    simp only [pureOp, Option.bind_eq_some_iff] at e
    obtain ⟨cs, h1, h2⟩ := e
    split at h2
    · rename_i hall
      simp only [Option.some.injEq] at h2; subst h2
      obtain ⟨hz, hc⟩ := hc
      unfold zeroIs at hz
      cases hzv : (P.info? t).bind (·.zero) with
      | none => simp [hzv] at hz
      | some zv =>
        simp only [hzv] at hz
        have hzR : R T G (.agg z) zv := valIs_R hz
        have hcells := hzR.cells rfl
        have fin : ∀ place : Nat → Option (Nat × Nat), chkParts T place ps.toList ps' = true → ∃ c', Instr.fill place zv.cells (ps.toList.map fun (i, x) => (i, a.eval x)) = some c' ∧ RL T G cs c' := by
          intro place hp
          obtain ⟨l1, l2⟩ := chkParts_get T place _ _ hp
          refine fillV_run place _ _ z zv.cells cs hcells (by simpa using l1) (fun i p q hp' hq' => ?_) h1
          rw [List.getElem?_map] at hp' hq'
          simp only [Option.map_eq_some_iff] at hp' hq'
          obtain ⟨p0, hp0, rfl⟩ := hp'
          obtain ⟨q0, hq0, rfl⟩ := hq'
          obtain ⟨k1, k2⟩ := l2 i p0 q0 hp0 hq0
          have hsz := List.all_eq_true.1 hall q0 (List.mem_of_getElem? hq0)
          simp only [beq_iff_eq] at hsz
          exact ⟨ro k2, by rw [k1, hsz]⟩
        have done : ∀ c', RL T G cs c' → R T G (.agg cs) (.agg c') := fun c' hr => .agg cs c' hr.1 hr.2.1 hr.2.2
        have hmap : (ps.map fun (i, x) => (i, a.eval x)).toList = ps.toList.map fun (i, x) => (i, a.eval x) := by simp
        split at hc
        · rename_i fs hu
          simp only [Bool.and_eq_true] at hc
          obtain ⟨c', f1, f2⟩ := fin _ hc.2
          have hpl : ∀ (fs : List Field), (fs.all fun f => (szOf P f.type).isSome) = true → (fs.mapM fun f => (do pure (f.offset, ← sizeOf f.type) : Sem (Nat × Nat))).run P w = .ok (fs.map fun f => (f.offset, (szOf P f.type).getD 0)) w := by
            intro fs
            induction fs with
            | nil => intro _; rfl
            | cons f fs ih =>
              intro hall
              simp only [List.all_cons, Bool.and_eq_true] at hall
              obtain ⟨n, hn⟩ := Option.isSome_iff_exists.1 hall.1
              rw [List.mapM_cons]
              simp only [Sem.run_bind, run_sz hn, Result.andThen_ok, Sem.run_pure, ih hall.2]
              simp [hn]
          have hpl2 : (fs.mapM fun f => (do pure (f.offset, ← sizeOf f.type) : Sem (Nat × Nat))).run P w = .ok (fs.map fun f => (f.offset, (szOf P f.type).getD 0)) w := by
            rw [Array.mapM_eq_mapM_toList]
            simp only [Sem.run_map, hpl fs.toList hc.1, Result.andThen_ok]
            congr 1
            apply Array.ext'
            simp
          have hplace : (fun i => (fs.map fun f => (f.offset, (szOf P f.type).getD 0))[i]?) = fieldsPlace P fs := by
            funext i
            simp only [fieldsPlace, Array.getElem?_map]
            cases hfi : fs[i]? with
            | none => rfl
            | some f =>
              have hm : f ∈ fs.toList := by
                have : i < fs.size := by
                  rcases Nat.lt_or_ge i fs.size with h | h
                  · exact h
                  · rw [Array.getElem?_eq_none h] at hfi; simp at hfi
                rw [Array.getElem?_eq_getElem this] at hfi
                simp only [Option.some.injEq] at hfi
                rw [← hfi]; simp
              obtain ⟨n, hn⟩ := Option.isSome_iff_exists.1 (List.all_eq_true.1 hc.1 f hm)
              simp [hn]
          refine .of' hi ⟨.agg c', ?_, done c' f2⟩
          have f1' : Instr.fill (fun i => (fs.map fun f => (f.offset, (szOf P f.type).getD 0))[i]?) zv.cells (ps.toList.map fun (i, x) => (i, a.eval x)) = some c' := by rw [hplace]; exact f1
          unfold Instr.build
          simp only [Sem.run_bind, run_zero hzv, Result.andThen_ok, run_und hu, hpl2, hmap, f1', Sem.run_pure]
        · rename_i n el hu
          split at hc
          · rename_i n' hs
            obtain ⟨c', f1, f2⟩ := fin _ hc
            refine .of' hi ⟨.agg c', ?_, done c' f2⟩
            unfold Instr.build
            simp only [Sem.run_bind, run_zero hzv, Result.andThen_ok, run_und hu, run_sz hs, hmap, f1, Sem.run_pure]
          · exact absurd hc (by simp)
        · exact absurd hc (by simp)
    · simp at h2
  · -- buildSlice
    rename_i t len ps n ps'
    simp only [Bool.and_eq_true, beq_iff_eq] at hc
    obtain ⟨⟨h1, h2⟩, h3⟩ := hc
    split at h1
    · rename_i el hel
      simp only [Bool.and_eq_true, beq_iff_eq, decide_eq_true_eq] at h1
      obtain ⟨⟨⟨k1, k2⟩, k3⟩, k4⟩ := h1
      cases hzv : (P.info? el).bind (·.zero) with
      | none => simp [hzv] at k4
      | some zv =>
        simp only [pureOp] at e
        split at e
        · rename_i hall
          simp only [Option.some.injEq] at e; subst e
          obtain ⟨l1, l2⟩ := chkElems_get T _ _ _ h3
          refine .of ?_
          have := buildSl_run (P := P) (T := T) hi (n := n) (len := len) (vs := ps'.map (opd fr)) (ps := ps.toList.map fun (i, x) => (i, a.eval x)) hel k1 k2 k3 hzv (by rw [List.length_map, ← l1]; simpa using h2) (by simpa using h2)
            (fun v hv => by
              have := List.all_eq_true.1 hall v hv
              simpa using this)
            (fun i p v hp hv => by
              rw [List.getElem?_map] at hp hv
              simp only [Option.map_eq_some_iff] at hp hv
              obtain ⟨p0, hp0, rfl⟩ := hp
              obtain ⟨v0, hv0, rfl⟩ := hv
              obtain ⟨q1, q2⟩ := l2 i p0 v0 hp0 hv0
              exact ⟨by simpa using q1, ro q2⟩)
          have hmap : (ps.map fun (i, x) => (i, a.eval x)) = (ps.toList.map fun (i, x) => (i, a.eval x)).toArray := by
            apply Array.ext'; simp
          rw [hmap]
          exact this
        · simp at e
    · exact absurd h1 (by simp)
  · simp [pureOp] at e
  · simp [pureOp] at e
  · -- nilCheck
    simp only [pureOp] at e
    have hR := ro hc
    split at e <;> rename_i hx <;> simp only [Option.some.injEq, reduceCtorEq] at e <;> subst e <;> rw [hx] at hR
    · have hR' := hR
      obtain ⟨g, _, hv⟩ := hR.ptr_inv
      refine .same hi (rv := a.eval _) ?_ hR'
      simp [execOp, hv]
    · have hR' := hR
      obtain ⟨b, base, f, hv, _⟩ := hR.eptr_inv
      refine .same hi (rv := a.eval _) ?_ hR'
      simp [execOp, hv]
    · have hR' := hR
      obtain ⟨fid, a1, b1, hv, _⟩ := hR.func_inv
      refine .same hi (rv := a.eval _) ?_ hR'
      simp [execOp, hv]
    · have hR' := hR
      obtain ⟨tid, rv, hv, _⟩ := hR.iface_inv
      refine .same hi (rv := a.eval _) ?_ hR'
      simp [execOp, hv]
  · -- binOp
    simp only [Bool.and_eq_true, decide_eq_true_eq] at hc
    obtain ⟨⟨rfl, hx⟩, hy⟩ := hc
    simp only [pureOp] at e
    exact .of' hi (binV_run e (ro hx) (ro hy) _ _ _)
  · -- ==
    simp only [Bool.and_eq_true] at hc
    obtain ⟨⟨⟨hop, hx⟩, hy⟩, ht⟩ := hc
    simp only [pureOp, Option.map_eq_some_iff] at e
    obtain ⟨b, hb, rfl⟩ := e
    rename_i op t x y yt neg ks x' y'
    obtain ⟨k1, k2, k3⟩ := eqV_run (w := w) ht (ro hx) (ro hy) hb x y op
    refine .of' hi ⟨.bool (if neg then !b else b), ?_, .bool _⟩
    simp only [Sem.run_bind, k1, Result.andThen_ok]
    rcases k3 with ⟨p, q, h1, h2⟩ | ⟨p, q, h1, h2⟩ <;> rw [h1, h2] at k2 ⊢ <;> cases op <;> simp at hop <;> subst hop <;> simp only [binOp, Sem.run_bind, k2, Result.andThen_ok, Sem.run_pure] <;> simp
  · -- == nil
    simp only [Bool.and_eq_true, Bool.or_eq_true] at hc
    obtain ⟨⟨hop, ht⟩, hxy⟩ := hc
    rename_i op t x y yt k neg x'
    simp only [pureOp, Option.map_eq_some_iff] at e
    obtain ⟨b, hb, rfl⟩ := e
    have cst : ∀ {o : Operand}, isNilConst k o = true → ∃ v, o = .const v := by
      intro o ho
      unfold isNilConst at ho
      split at ho <;> first | exact ⟨_, rfl⟩ | exact absurd ho (by simp)
    rcases hxy with ⟨hn, hx⟩ | ⟨hn, hx⟩
    · obtain ⟨nv, rfl⟩ := cst hn
      exact .of' hi ⟨_, (isNil_run hb (ro hx) ht op neg hop hn x).1, .bool _⟩
    · obtain ⟨nv, rfl⟩ := cst hn
      exact .of' hi ⟨_, (isNil_run hb (ro hx) ht op neg hop hn y).2, .bool _⟩
  · -- unOp
    simp only [Bool.and_eq_true, decide_eq_true_eq] at hc
    obtain ⟨rfl, hx⟩ := hc
    simp only [pureOp] at e
    exact .of' hi (unV_run e (ro hx))
  · -- convert
    rename_i s d x k y
    simp only [Bool.and_eq_true] at hc
    obtain ⟨hx, hk⟩ := hc
    simp only [pureOp] at e
    unfold convV at e
    split at e
    · rename_i k k' n hv
      simp only [Option.some.injEq] at e; subst e
      simp only [Bool.and_eq_true] at hk
      obtain ⟨ds, hds⟩ := Option.isSome_iff_exists.1 hk.1
      obtain ⟨dd, hdd, hkk⟩ := kind_of hk.2
      have hR := ro hx
      rw [hv] at hR
      have hrv := hR.int_inv
      cases dd <;> simp at hkk
      subst hkk
      refine .of' hi ⟨.int _ (_), ?_, .int _ _⟩
      rw [hrv]
      simp [convert, run_und hds, run_und hdd, Conv.intToInt]
    · rename_i l hv
      simp only [Option.some.injEq] at e; subst e
      simp only [Bool.and_eq_true] at hk
      obtain ⟨ds, hds⟩ := Option.isSome_iff_exists.1 hk.1
      obtain ⟨dd, hdd, hkk⟩ := kind_of hk.2
      have hR := ro hx
      rw [hv] at hR
      obtain ⟨sv, hrv, hs⟩ := hR.str_inv
      cases dd <;> simp [isStr] at hkk
      refine .of' hi ⟨.string sv, ?_, .str _ _ hs⟩
      rw [hrv]
      cases ds <;> simp [convert, run_und hds, run_und hdd]
    · rename_i es tg hv
      simp only [Option.map_eq_some_iff] at e
      obtain ⟨l, hl, rfl⟩ := e
      simp only [Bool.and_eq_true] at hk
      obtain ⟨dd, hdd, hkk⟩ := kind_of hk.2
      cases dd <;> simp [isStr] at hkk
      have hk1 := hk.1
      split at hk1
      · rename_i el hel
        have hu := sliceElem_und hel
        obtain ⟨de, hde, hke⟩ := kind_of hk1
        have hR := ro hx
        rw [hv] at hR
        obtain ⟨sv, h1, h2⟩ := b2s_run (P := P) hi hl hR
        obtain ⟨aa, cap, b, o, f, hrv, _⟩ := hR.sl_inv
        refine .of' hi ⟨.string sv, ?_, .str _ _ h2⟩
        have hde8 : de = .int .u8 := by cases de <;> simp [isU8] at hke; rename_i k; cases k <;> simp at hke; rfl
        subst hde8
        rw [hrv] at h1 ⊢
        simp [convert, run_und hu, run_und hdd, run_und hde, h1]
      · exact absurd hk1 (by simp)
    · rename_i l hv
      simp only [Option.some.injEq] at e; subst e
      simp only [Bool.and_eq_true] at hk
      obtain ⟨ds, hds, hks⟩ := kind_of hk.1
      cases ds <;> simp [isStr] at hks
      have hk2 := hk.2
      split at hk2
      · rename_i el hel
        have hu := sliceElem_und hel
        obtain ⟨de, hde, hke⟩ := kind_of hk2
        have hde8 : de = .int .u8 := by cases de <;> simp [isU8] at hke; rename_i k; cases k <;> simp at hke; rfl
        subst hde8
        have hR := ro hx
        rw [hv] at hR
        obtain ⟨sv, hrv, hs⟩ := hR.str_inv
        obtain ⟨rv, w', G', q1, q2, q3, q4⟩ := s2b_run (P := P) hi hs el
        refine .of ⟨rv, w', G', ?_, q2, q3, q4⟩
        rw [hrv]
        simp [convert, run_und hds, run_und hu, run_und hde, q1]
      · exact absurd hk2 (by simp)
    · simp at e
  · -- makeInterface
    simp only [Bool.and_eq_true, beq_iff_eq] at hc
    obtain ⟨⟨ht, hk⟩, hx⟩ := hc
    obtain ⟨d, hd, hkk⟩ := kind_of hk
    simp only [pureOp, Option.some.injEq] at e; subst e
    refine .of' hi ⟨.iface _ (a.eval _), ?_, .iface _ _ _ _ ht (ro hx)⟩
    cases d <;> simp [isIface] at hkk <;> simp [Instr.makeInterface, run_und hd]
  · -- makeFunc
    rename_i f as bs i as' bs'
    simp only [Bool.and_eq_true, beq_iff_eq] at hc
    obtain ⟨⟨ht, h1⟩, h2⟩ := hc
    simp only [pureOp, Option.some.injEq] at e; subst e
    obtain ⟨p1, p2⟩ := chkOpds_R hf _ _ h1
    obtain ⟨q1, q2⟩ := chkOpds_R hf _ _ h2
    refine .of' hi ⟨.func (.func f) (as.map a.eval) (bs.map a.eval), rfl, .func _ _ _ _ _ _ ht (by simpa using p1) (by simpa using q1) (fun j v rv e1 e2 => p2 j v rv e1 ?_) (fun j v rv e1 e2 => q2 j v rv e1 ?_)⟩
    · simpa using e2
    · simpa using e2
  · simp [pureOp] at e
  · -- slice
    rename_i t x lo' hi' mx n y lo2 hi2 mx2
    simp only [Bool.and_eq_true] at hc
    obtain ⟨⟨⟨⟨⟨ht, hx⟩, hl⟩, hh⟩, hm⟩, hmh⟩ := hc
    simp only [pureOp] at e
    refine .of' hi (sliceV_run e (ro hx) (RO_of hf hl) (RO_of hf hh) (RO_of hf hm) ?_ ht)
    cases mx <;> cases hi' <;> simp at hmh ⊢
  · -- fieldAddr
    simp only [Bool.and_eq_true] at hc
    obtain ⟨hx, hk⟩ := hc
    simp only [pureOp] at e
    split at hk
    · rename_i fs hu
      split at hk
      · rename_i fd hfd
        simp only [Bool.and_eq_true, beq_iff_eq] at hk
        obtain ⟨rfl, hk⟩ := hk
        split at hk
        · rename_i n hn
          obtain ⟨ad, h1, h2, h3⟩ := faddrV_run e (ro hx)
          refine .of' hi ⟨_, ?_, h3⟩
          have hn0 : ¬ n = 0 := by simpa using hk
          rw [h1]
          simp [Instr.fieldAt, run_und hu, hfd, Instr.sureAddr, fieldPlace, run_sz hn, hn0]
        · exact absurd hk (by simp)
      · exact absurd hk (by simp)
    · exact absurd hk (by simp)
  · -- field
    simp only [Bool.and_eq_true] at hc
    obtain ⟨hx, hk⟩ := hc
    simp only [pureOp] at e
    split at hk
    · rename_i fs hu
      split at hk
      · rename_i fd hfd
        simp only [Bool.and_eq_true, beq_iff_eq] at hk
        obtain ⟨⟨rfl, hag⟩, hsz⟩ := hk
        split at e
        · rename_i cs hv
          have hR := ro hx
          rw [hv] at hR
          obtain ⟨c, hrv, t1, t2, t3⟩ := hR.agg_inv
          refine .of' hi ?_
          have := part_run (P := P) (w := w) (T := T) (G := G) hag (fun hh => by rw [if_pos hh] at hsz; simpa using hsz) e ⟨t1, t2, t3⟩
          obtain ⟨rv, r1, r2⟩ := this
          exact ⟨rv, by rw [hrv]; simp [Instr.field, run_und hu, hfd, asAgg, r1], r2⟩
        · simp at e
      · exact absurd hk (by simp)
    · exact absurd hk (by simp)
  · -- indexAddr
    simp only [Bool.and_eq_true] at hc
    obtain ⟨⟨hk, hx⟩, hj⟩ := hc
    simp only [pureOp] at e
    split at hk
    · rename_i el hel
      simp only [Bool.and_eq_true, beq_iff_eq] at hk
      exact .of' hi (iaddrV_run e (ro hx) (ro hj) hel hk.1)
    · exact absurd hk (by simp)
  · -- indexAddr, an array
    simp only [Bool.and_eq_true] at hc
    obtain ⟨⟨hk, hx⟩, hj⟩ := hc
    simp only [pureOp] at e
    split at hk
    · rename_i l el hu
      simp only [Bool.and_eq_true, beq_iff_eq] at hk
      obtain ⟨rfl, hs⟩ := hk
      exact .of' hi (iaddrA_run e (ro hx) (ro hj) hu hs)
    · exact absurd hk (by simp)
  · -- index, a text
    simp only [Bool.and_eq_true] at hc
    obtain ⟨⟨hk, hx⟩, hj⟩ := hc
    obtain ⟨d, hd, hkk⟩ := kind_of hk
    cases d <;> simp [isStr] at hkk
    simp only [pureOp] at e
    exact .of' hi (idxS_run e (ro hx) (ro hj) hd)
  · -- index, an array
    simp only [Bool.and_eq_true] at hc
    obtain ⟨⟨hk, hx⟩, hj⟩ := hc
    simp only [pureOp] at e
    split at hk
    · rename_i l el hu
      simp only [Bool.and_eq_true, beq_iff_eq] at hk
      obtain ⟨⟨rfl, hs⟩, hag⟩ := hk
      unfold idxA at e
      split at e
      · rename_i k n hv
        split at e
        · rename_i hb
          split at e
          · rename_i cs hxv
            rw [hxv] at e
            have hR := ro hx
            rw [hxv] at hR
            obtain ⟨c, hrv, t1, t2, t3⟩ := hR.agg_inv
            have hRi := ro hj
            rw [hv] at hRi
            have hri := hRi.int_inv
            obtain ⟨rv, r1, r2⟩ := part_run (P := P) (w := w) (T := T) (G := G) hag (fun _ => hs) e ⟨t1, t2, t3⟩
            refine .of' hi ⟨rv, ?_, r2⟩
            rw [hrv, hri]
            simp [Instr.index, asIntOf, run_und hu, hb, run_sz hs, r1]
          · simp at e
        · simp at e
      · simp at e
    · exact absurd hk (by simp)
  · -- typeAssert
    simp only [Bool.and_eq_true, beq_iff_eq] at hc
    obtain ⟨⟨⟨⟨ht, hk⟩, hz⟩, rfl⟩, hx⟩ := hc
    simp only [pureOp] at e
    exact .of' hi (tassertV_run e (ro hx) inj ht hk hz)
  · -- extract
    rename_i _ ix _ _
    simp only [Bool.and_eq_true, beq_iff_eq] at hc
    obtain ⟨rfl, hx⟩ := hc
    simp only [pureOp] at e
    split at e
    · rename_i vs hv
      have hR := ro hx
      rw [hv] at hR
      obtain ⟨c, hrv, t1, t2⟩ := hR.tup_inv
      have hil : ix < c.size := by rw [← t1]; exact (List.getElem?_eq_some_iff.1 e).1
      refine .of' hi ⟨c[ix]'hil, ?_, t2 _ _ _ e (by simp [hil])⟩
      rw [hrv]
      simp [Instr.extract, hil]
    · simp at e
  · simp [pureOp] at e
  · simp [pureOp] at e
  · -- builtins
    rename_i v' c
    split at hc
    · -- len
      rename_i text y hcal
      split at hc
      · rename_i x t hargs hts
        simp only [Bool.and_eq_true] at hc
        simp only [pureOp] at e
        have hca : c.args = #[x] := Array.ext' hargs
        obtain ⟨rv, r1, r2⟩ := lenV_run (w := w) (P := P) (ty := ty) e (ro hc.2) hts hc.1
        refine .same hi (rv := rv) ?_ r2
        simp [execOp, resolve, hcal, invoke, builtin, hca, r1]
      · exact absurd hc (by simp)
    · -- len of an array
      rename_i n hcal
      simp only [pureOp, opd, Option.some.injEq] at e; subst e
      split at hc
      · rename_i x t hargs hts
        have hca : c.args = #[x] := Array.ext' hargs
        refine .same hi (rv := .int .i64 n) ?_ (.int _ _)
        split at hc
        · rename_i m el hu
          have hn : n = (m : Int) := by simpa using hc
          subst hn
          simp [execOp, resolve, hcal, invoke, builtin, hca, Builtin.len_, hts, run_und hu, goInt]
        · rename_i ar hu
          split at hc
          · rename_i m el hu2
            have hn : n = (m : Int) := by simpa using hc
            subst hn
            simp [execOp, resolve, hcal, invoke, builtin, hca, Builtin.len_, hts, run_und hu, run_und hu2, goInt]
          · exact absurd hc (by simp)
        · exact absurd hc (by simp)
      · exact absurd hc (by simp)
    · simp [pureOp] at e
    · -- min
      rename_i xs hcal
      simp only [pureOp] at e
      obtain ⟨p1, p2⟩ := chkOpds_R hf _ _ hc
      obtain ⟨rv, r1, r2⟩ := foldV_run (P := P) (w := w) false p1 p2 e c.argTypes ty
      refine .same hi (rv := rv) ?_ r2
      have hm : (c.args.toList.map a.eval).toArray = c.args.map a.eval := by apply Array.ext'; simp
      simp only [Bool.false_eq_true, if_false, hm] at r1
      simp [execOp, resolve, hcal, invoke, builtin, r1]
    · -- max
      rename_i xs hcal
      simp only [pureOp] at e
      obtain ⟨p1, p2⟩ := chkOpds_R hf _ _ hc
      obtain ⟨rv, r1, r2⟩ := foldV_run (P := P) (w := w) true p1 p2 e c.argTypes ty
      refine .same hi (rv := rv) ?_ r2
      have hm : (c.args.toList.map a.eval).toArray = c.args.map a.eval := by apply Array.ext'; simp
      simp only [if_true, hm] at r1
      simp [execOp, resolve, hcal, invoke, builtin, r1]
    · simp [pureOp] at e
    · simp [pureOp] at e
    · simp [pureOp] at e
    · simp [pureOp] at e
    · exact absurd hc (by simp)
  · simp [pureOp] at e
  · exact absurd hc (by simp)

end
end Go.VE
