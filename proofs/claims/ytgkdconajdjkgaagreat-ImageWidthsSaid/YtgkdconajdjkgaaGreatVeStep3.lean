/- One operation that looks at memory or writes it. -/
import Derived.Test.YtgkdconajdjkgaaGreatVeStep2
namespace Go.VE
set_option linter.unusedVariables false
set_option linter.unnecessarySimpa false
set_option linter.unusedSimpArgs false
open Classical

section
variable {P : Program} {T : Tbl} {G : Gh} {w : World} {lo : Nat} {h : Heap}

theorem isVal_ok {z : V} {v : Value} (hz : isVal z v = true) : okV z = true := by
  cases z <;> simp [isVal] at hz <;> rfl

theorem load_drew (a : Addr) {v : Value} {w' : World} (hl : (load a).run P w = .ok v w') : w' = w ∧ (load a).run P w.drew = .ok v w.drew := by
  have e1 : w.drew.cell? a = w.cell? a := rfl
  have e2 : ∀ b, w.drew.farLoad P a b = w.farLoad P a b := fun _ => rfl
  simp only [load, Sem.run, e1, e2] at hl ⊢
  cases hc : w.cell? a with
  | some x => simp [hc] at hl ⊢; exact ⟨hl.2.symm, hl.1⟩
  | none =>
    simp only [hc] at hl ⊢
    split at hl
    · rename_i x y hx
      simp [hx] at hl ⊢; exact ⟨hl.2.symm, hl.1⟩
    · simp at hl

theorem lcf_drew (a : Addr) : ∀ (n i : Nat) (acc xs : Array Value) (w' : World), (loadCellsFrom a i n acc).run P w = .ok xs w' →
    (loadCellsFrom a i n acc).run P w.drew = .ok xs w.drew
  | 0, i, acc, xs, w', h => by
    simp [loadCellsFrom] at h ⊢; exact h.1
  | n + 1, i, acc, xs, w', h => by
    simp only [loadCellsFrom, Sem.run_bind] at h ⊢
    cases hl : (load (a.add i)).run P w with
    | ok v w1 =>
      obtain ⟨hw, hd⟩ := load_drew _ hl
      simp only [hl, Result.andThen_ok, hw] at h
      simp only [hd, Result.andThen_ok]
      exact lcf_drew a n (i + 1) _ xs w' h
    | _ => simp [hl] at h

theorem firstCells_drew {z n : Nat} {rx : Value} {xs : Array Value} {w' : World}
    (h1 : (Builtin.firstCells z n rx).run P w = .ok xs w') : (Builtin.firstCells z n rx).run P w.drew = .ok xs w.drew := by
  unfold Builtin.firstCells at h1 ⊢
  split at h1
  · exact lcf_drew _ _ _ _ _ _ h1
  · simp at h1 ⊢; exact h1.1
  · simp at h1 ⊢; exact h1.1
  · simp at h1

/-- Loads, stores, new variables, new rows, iterators: everything but calls. -/
theorem mem_ok (inj : ∀ i j t, T.tid i = some t → T.tid j = some t → i = j) {O : Orc} {vp : VP} {op : Op} {v : VOp} (hc : chkOp P T op v = true) (hn : isCall v = false) {fr : Fr} {a : Act} (hf : FInv T G fr a.tmps) (hi : HInv T G lo h w) {x : V} {h' : Heap}
    (e : evalOp O vp lo fr h v = some (x, h')) (dst : Option Tmp) (ty : TypeId) (pos : String) (after : Array Edge) (gd : Option (Nat × Bool)) : Good P T lo G h w (execOp a.eval ⟨dst, op, ty, pos, after, gd⟩) x h' := by
  have ro : ∀ {x y}, chkOpd T x y = true → R T G (opd fr y) (a.eval x) := fun h => chkOpd_R hf h
  have hc0 := hc
  unfold chkOp at hc
  have pure_case : evalOp O vp lo fr h v = (pureOp fr v).map (fun y => (y, h)) → Good P T lo G h w (execOp a.eval ⟨dst, op, ty, pos, after, gd⟩) x h' := by
    intro hev
    rw [hev, Option.map_eq_some_iff] at e
    obtain ⟨y, hy, he⟩ := e
    simp only [Prod.mk.injEq] at he
    obtain ⟨rfl, rfl⟩ := he
    exact pure_ok inj hc0 hf hi hy dst ty pos after gd
  split at hc
  · exact pure_case rfl
  · exact pure_case rfl
  · -- nilacc
    simp only [evalOp, Option.some.injEq, Prod.mk.injEq] at e
    obtain ⟨rfl, rfl⟩ := e
    obtain ⟨G', g1, g2, g3⟩ := new_virtual hi
    exact ⟨.value (.slice none 0 0), .slice none 0 0, w, G', rfl, .inl rfl, .gsl _ _ _ _ _ _ _ g3 (Nat.le_refl _) (.inl rfl), g1, g2⟩
  · exact pure_case rfl
  · -- alloc
    rename_i t z
    simp only [evalOp, Option.some.injEq, Prod.mk.injEq] at e
    obtain ⟨rfl, rfl⟩ := e
    unfold zeroIs at hc
    split at hc
    · rename_i zv hzv
      obtain ⟨w', G', h1, h2, h3, h4⟩ := newVar_run (P := P) hi (isVal_ok hc) (isVal_R _ _ hc) t
      refine .of ⟨_, w', G', ?_, h4, h2, h3⟩
      simp [Instr.alloc, run_zero hzv, h1]
    · simp at hc
  · -- box
    rename_i t xx y
    simp only [evalOp] at e
    split at e
    · rename_i hok
      simp only [Option.some.injEq, Prod.mk.injEq] at e
      obtain ⟨rfl, rfl⟩ := e
      obtain ⟨w', G', h1, h2, h3, h4⟩ := newVar_run (P := P) hi hok (ro hc) t
      refine .of ⟨_, w', G', ?_, h4, h2, h3⟩
      simp [Instr.box, h1]
    · simp at e
  · exact pure_case rfl
  · exact pure_case rfl
  · -- load
    simp only [Bool.and_eq_true, beq_iff_eq] at hc
    obtain ⟨⟨ha, hs⟩, hx⟩ := hc
    simp only [evalOp, Option.map_eq_some_iff] at e
    obtain ⟨y, hy, he⟩ := e
    simp only [Prod.mk.injEq] at he
    obtain ⟨rfl, rfl⟩ := he
    obtain ⟨rv, ad, h1, h2, h3⟩ := loadV_run (P := P) hi ha (fun hagg => by rw [hagg] at hs; simpa using hs) hy (ro hx)
    refine .of' hi ⟨rv, ?_, h3⟩
    simp [h1, Instr.loadAt, Instr.sureAddr, h2]
  · -- store
    rename_i t aa xx n fz b y
    simp only [Bool.and_eq_true, beq_iff_eq] at hc
    obtain ⟨⟨hs, ha⟩, hx⟩ := hc
    simp only [evalOp] at e
    cases fz with
    | true =>
      simp only [if_true, Option.bind_eq_some_iff, Option.map_eq_some_iff] at e
      obtain ⟨r, hr, h2, hst, he⟩ := e
      simp only [Prod.mk.injEq] at he
      obtain ⟨rfl, rfl⟩ := he
      obtain ⟨G1, k1, k2, k3⟩ := fzV_R _ hi (v' := r.1) (h' := r.2) hr
      obtain ⟨w', G', m1, m2, m3⟩ := storeV_run (P := P) k1 hs hst ((ro ha).mono k2.le) (k3.2.2 _ (ro hx))
      exact .unit ⟨w', G', m1, m2, k2.trans m3⟩
    | false =>
      simp only [Bool.false_eq_true, if_false, Option.map_eq_some_iff] at e
      obtain ⟨h2, hst, he⟩ := e
      simp only [Prod.mk.injEq] at he
      obtain ⟨rfl, rfl⟩ := he
      obtain ⟨w', G', m1, m2, m3⟩ := storeV_run (P := P) hi hs hst (ro ha) (ro hx)
      exact .unit ⟨w', G', m1, m2, m3⟩
  · exact pure_case rfl
  · exact pure_case rfl
  · exact pure_case rfl
  · exact pure_case rfl
  · exact pure_case rfl
  · exact pure_case rfl
  · exact pure_case rfl
  · exact pure_case rfl
  · -- mksl
    simp only [Bool.and_eq_true] at hc
    obtain ⟨⟨ht, hl⟩, hcp⟩ := hc
    simp only [evalOp] at e
    split at ht
    · rename_i el hel
      simp only [Bool.and_eq_true, beq_iff_eq, decide_eq_true_eq] at ht
      obtain ⟨⟨⟨⟨h1, h2⟩, h3⟩, h4⟩, h5⟩ := ht
      exact .of (make_run hi e (ro hl) (ro hcp) hel h1 h2 h3 h4 h5)
    · simp at ht
  · exact pure_case rfl
  · exact pure_case rfl
  · exact pure_case rfl
  · exact pure_case rfl
  · exact pure_case rfl
  · exact pure_case rfl
  · exact pure_case rfl
  · exact pure_case rfl
  · exact pure_case rfl
  · -- rng
    rename_i t xx y
    simp only [Bool.and_eq_true] at hc
    obtain ⟨hk, hx⟩ := hc
    simp only [evalOp] at e
    split at e
    · rename_i l hl
      simp only [Option.some.injEq, Prod.mk.injEq] at e
      obtain ⟨rfl, rfl⟩ := e
      have hR := ro hx
      rw [hl] at hR
      obtain ⟨s, hs1, hs2⟩ := hR.str_inv
      have hu : P.underlying t = some .string := by
        obtain ⟨d, hd, hk⟩ := kind_of hk
        cases d <;> simp [isStr] at hk
        exact hd
      have := rng_run (P := P) (t := t) hi hs2 hu
      refine .of ?_
      simp only [hs1]
      exact this
    · simp at e
  · -- nxt
    simp only [evalOp] at e
    obtain ⟨rv, w', h1, h2, h3, h4⟩ := nxt_run (P := P) hi e (ro hc) ty
    exact .of ⟨rv, w', G, h1, h2, h3, h4⟩
  · rename_i v' c
    split at hc
    · exact pure_case rfl
    · exact pure_case rfl
    · -- app
      rename_i z bytes fz s xx hcal
      split at hc
      · rename_i s' x' t hargs hts
        have hca : c.args = #[s', x'] := Array.ext' hargs
        simp only [Bool.and_eq_true] at hc
        obtain ⟨⟨⟨hel, h2⟩, hs⟩, hx⟩ := hc
        split at hel
        · rename_i el hel2
          simp only [Bool.and_eq_true, beq_iff_eq, decide_eq_true_eq] at hel
          obtain ⟨⟨⟨⟨⟨h3, h4⟩, h5⟩, h6⟩, h7⟩, h8⟩ := hel
          split at h8
          · rename_i zv hzv
            have hzs : zv.cells.size = z := by simpa using h8
            simp only [evalOp, Option.bind_eq_some_iff] at e
            obtain ⟨ns, hns, e⟩ := e
            obtain ⟨xs, f1, f2, f3, f4⟩ := first_run (P := P) hi hns (ro hx)
            have fin : ∀ {G1 h1 ns1}, HInv T G1 lo h1 w → Stp lo G h w G1 h1 w → ns1.length = ns.length → Holds T G1 xs 0 z ns1 → appV lo h1 z bytes (opd fr s) ns1 = some (x, h') →
                Good P T lo G h w (execOp a.eval ⟨dst, .call c, ty, pos, after, gd⟩) x h' := by
              intro G1 h1 ns1 hi1 st hl hold ea
              have hfd : (Builtin.firstCells z ns.length (a.eval x')).run P w.drew = .ok xs w.drew := firstCells_drew f2
              obtain ⟨rv, w', G', m1, m2, m3, m4⟩ := app_run (P := P) (ts := c.argTypes) (ty := ty) hi1 ea ((ro hs).mono st.le) hts (sliceElem_und hel2) h3 h5 hzv hzs (noZeros_of h2) h4 h6 h7
                (by rw [hl]; exact f1) (by rw [hl]; exact f2) (by rw [hl]; exact hfd) (by rw [hl]; exact f3) hold
              refine ⟨.value rv, rv, w', G', ?_, .inl rfl, m2, m3, st.trans m4⟩
              simp [execOp, resolve, hcal, invoke, builtin, hca, m1]
            cases fz with
            | true =>
              simp only [if_true, Option.bind_eq_some_iff] at e
              obtain ⟨r, hr, e⟩ := e
              obtain ⟨G1, k1, k2, k3, k4⟩ := fzL_R _ hi (l' := r.1) (h' := r.2) hr
              refine fin k1 k2 k3 (fun i e' hi' => ?_) e
              obtain ⟨v0, v1, v2, v3, v4⟩ := k4 i e' hi'
              obtain ⟨q1, q2⟩ := f4 i v0 v1
              refine ⟨by rw [v2, q1], fun j c' hj => ?_⟩
              obtain ⟨c0, c1, c2⟩ := v3 j c' hj
              obtain ⟨rv, r1, r2, r3⟩ := q2 j c0 c1
              exact ⟨rv, r1, c2 rv r2, r3⟩
            | false =>
              simp only [Bool.false_eq_true, if_false] at e
              exact fin hi (.refl _ _ _ _) rfl f4 e
          · simp at h8
        · simp at hel
      · exact absurd hc (by simp)
    · exact pure_case rfl
    · exact pure_case rfl
    · simp [isCall] at hn
    · simp [isCall] at hn
    · simp [isCall] at hn
    · exact pure_case rfl
    · exact absurd hc (by simp)
  · exact pure_case rfl
  · exact absurd hc (by simp)

end
end Go.VE
