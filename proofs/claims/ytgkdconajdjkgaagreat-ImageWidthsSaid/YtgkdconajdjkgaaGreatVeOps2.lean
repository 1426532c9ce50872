/- The second half of the operations that look at no memory. -/
import Derived.Test.YtgkdconajdjkgaaGreatVeOps
namespace Go.VE
set_option linter.unusedVariables false
set_option linter.unnecessarySimpa false
set_option linter.unusedSimpArgs false

section
variable {P : Program} {T : Tbl} {G : Gh} {w : World} {lo : Nat} {h : Heap}

/-- An operand that may lack. -/
def RO (T : Tbl) (G : Gh) : Option V → Option Value → Prop
  | none, none => True
  | some v, some rv => R T G v rv
  | _, _ => False

theorem bnd_none {d top : Nat} : bnd none d top = some d := rfl

theorem sliceBound_run {x : V} {rx : Value} (hx : R T G x rx) {y d n : Nat} {code : BoundsCode} (e : bnd (some x) d y = some n) : (Instr.sliceBound rx y code).run P w = .ok n w ∧ n ≤ y := by
  unfold bnd at e
  split at e
  · rename_i he; exact absurd he (by simp)
  · rename_i k i he
    simp only [Option.some.injEq] at he; subst he
    obtain rfl := hx.int_inv
    split at e
    · rename_i hi
      simp only [Option.some.injEq] at e; subst e
      refine ⟨?_, by omega⟩
      simp [Instr.sliceBound, asIntOf, hi]
    · exact absurd e (by simp)
  · exact absurd e (by simp)

theorem bnd_le {x : Option V} {d top n : Nat} (e : bnd x d top = some n) (hd : x = none → d ≤ top) : n ≤ top := by
  unfold bnd at e
  split at e
  · simp at e; subst e; exact hd rfl
  · split at e
    · simp at e; omega
    · exact absurd e (by simp)
  · exact absurd e (by simp)

theorem bnd_mono {x : Option V} {d top top' n : Nat} (e : bnd x d top = some n) (ht : top ≤ top') : bnd x d top' = some n := by
  unfold bnd at e ⊢
  split at e
  · exact e
  · split at e
    · rename_i hi
      rw [if_pos ⟨hi.1, by omega⟩]; exact e
    · exact absurd e (by simp)
  · exact absurd e (by simp)

/-- The bounds of a slice of a slice: all three. -/
theorem bounds_run {len cap m h l : Nat} {lo' hi' mx' : Option V} {rlo rhi rmx : Option Value} (hlo : RO T G lo' rlo) (hhi : RO T G hi' rhi) (hmx : RO T G mx' rmx)
    (hmh : rmx.isSome = true → rhi.isSome = true) (em : bnd mx' len cap = some m) (eh : bnd hi' len (if mx'.isSome then m else cap) = some h) (el : bnd lo' 0 h = some l) (isS : Bool) :
    (Instr.sliceBounds isS len cap rlo rhi rmx).run P w = .ok (l, h, if mx'.isSome then m else cap) w := by
  unfold Instr.sliceBounds
  cases mx' with
  | none =>
    cases rmx with
    | some _ => exact hmx.elim
    | none =>
      simp only [Option.isSome_none, Bool.false_eq_true, if_false] at eh ⊢
      cases hi' with
      | none =>
        cases rhi with
        | some _ => exact hhi.elim
        | none =>
          simp only [bnd, Option.some.injEq] at eh; subst eh
          cases lo' with
          | none =>
            cases rlo with
            | some _ => exact hlo.elim
            | none => simp only [bnd, Option.some.injEq] at el; subst el; simp
          | some x =>
            cases rlo with
            | none => exact hlo.elim
            | some rx => simp [(sliceBound_run (w := w) (P := P) hlo el).1]
      | some x =>
        cases rhi with
        | none => exact hhi.elim
        | some rx =>
          have h1 := (sliceBound_run (w := w) (P := P) (code := if isS then .sliceAcap else .sliceAlen) hhi eh).1
          cases lo' with
          | none =>
            cases rlo with
            | some _ => exact hlo.elim
            | none => simp only [bnd, Option.some.injEq] at el; subst el; simp [h1]
          | some y =>
            cases rlo with
            | none => exact hlo.elim
            | some ry => simp [h1, (sliceBound_run (w := w) (P := P) hlo el).1]
  | some q =>
    cases rmx with
    | none => exact hmx.elim
    | some rq =>
      simp only [Option.isSome_some, if_true] at eh ⊢
      have h0 := (sliceBound_run (w := w) (P := P) (code := if isS then .slice3Acap else .slice3Alen) hmx em).1
      cases hi' with
      | none =>
        cases rhi with
        | some _ => exact hhi.elim
        | none => exact absurd (hmh rfl) (by simp)
      | some x =>
        cases rhi with
        | none => exact hhi.elim
        | some rx =>
          have h1 := (sliceBound_run (w := w) (P := P) (code := .slice3B) hhi eh).1
          cases lo' with
          | none =>
            cases rlo with
            | some _ => exact hlo.elim
            | none => simp only [bnd, Option.some.injEq] at el; subst el; simp [h0, h1]
          | some y =>
            cases rlo with
            | none => exact hlo.elim
            | some ry => simp [h0, h1, (sliceBound_run (w := w) (P := P) hlo el).1]

theorem gAt_tag {t : Tag} {full given : Bool} {b off : Nat} {v : Value} (e : gAt G t b off = some v) : gAt G (sliceTag t full given) b off = some v := by
  cases t <;> cases full <;> cases given <;> exact e

theorem bnd_some_ge {mx : Option V} {d len cap m : Nat} (e : bnd mx d len = some m) (hl : len ≤ cap) : bnd mx d cap = some m := bnd_mono e hl

theorem sliceV_run {n : Nat} {x v : V} {lo' hi' mx' : Option V} {rx : Value} {rlo rhi rmx : Option Value} (e : sliceV n x lo' hi' mx' = some v) (hx : R T G x rx)
    (hlo : RO T G lo' rlo) (hhi : RO T G hi' rhi) (hmx : RO T G mx' rmx) (hmh : rmx.isSome = true → rhi.isSome = true) {t : TypeId}
    (ht : (match P.underlying t with | some .string => n == 0 | some (.slice e) => szOf P e == some n && decide (0 < n) | _ => false) = true) :
    ∃ rv, (Instr.sliceAt t rx rlo rhi rmx).run P w = .ok rv w ∧ R T G v rv := by
  have hsome : mx'.isSome = rmx.isSome := by cases mx' <;> cases rmx <;> first | rfl | exact hmx.elim
  unfold sliceV at e
  split at e
  · rename_i l
    obtain ⟨s, rfl, hs⟩ := hx.str_inv
    split at e
    · rename_i hm
      simp only [Option.bind_eq_some_iff, Option.map_eq_some_iff] at e
      obtain ⟨hh, eh, ll, el, rfl⟩ := e
      obtain ⟨hn, hm⟩ := hm
      have hm' : mx' = none := by cases mx' <;> simp_all
      subst hm'
      have hr : rmx = none := by cases rmx <;> simp_all
      subst hr
      have hsl : l.length = s.size := by rw [← hs]; simp
      split at ht
      · rename_i hu
        have := bounds_run (w := w) (P := P) (cap := l.length) (len := l.length) (m := l.length) hlo hhi (mx' := none) (rmx := none) trivial (by simp) rfl (by simpa using eh) el false
        refine ⟨.string (s.extract ll hh), ?_, .str _ _ ?_⟩
        · simp only [Option.isSome_none, Bool.false_eq_true, if_false, hsl] at this
          simp [Instr.sliceAt, Instr.slice, run_und hu, this]
        · rw [← hs]
          simp [ByteArray.data_extract, List.drop_take]
      · simp at ht; omega
      · exact absurd ht (by simp)
    · exact absurd e (by simp)
  · rename_i z es tg
    obtain ⟨a, cap, b, o, f, rfl, hc, htg, ha, hz, hg, hR, ho⟩ := hx.sl_inv
    split at e
    · rename_i hm
      obtain ⟨rfl, hn⟩ := hm
      simp only [Option.bind_eq_some_iff, Option.map_eq_some_iff] at e
      obtain ⟨m, em, hh, eh, ll, el, rfl⟩ := e
      split at ht
      · simp at ht; omega
      · rename_i el' hu
        simp only [Bool.and_eq_true, beq_iff_eq, decide_eq_true_eq] at ht
        have hml : m ≤ es.length := bnd_le em (fun _ => Nat.le_refl _)
        have hm0 : mx' = none → m = es.length := by rintro rfl; simp [bnd] at em; omega
        have hhm : hh ≤ m := bnd_le eh (fun h0 => by
          subst h0
          cases hmx' : mx' with
          | none => rw [hm0 hmx']; exact Nat.le_refl _
          | some q =>
            exfalso
            rw [hmx'] at hsome
            have := hmh (by simpa using hsome.symm)
            cases rhi with
            | none => simp at this
            | some _ => exact hhi.elim)
        have hlh : ll ≤ hh := bnd_le el (fun _ => Nat.zero_le _)
        have hB := bounds_run (w := w) (P := P) (cap := cap) (len := es.length) (m := m) hlo hhi hmx hmh (bnd_mono em hc)
          (by split
              · exact eh
              · exact bnd_mono eh (by omega)) el true
        have hmr : (if mx'.isSome = true then m else cap) ≤ cap ∧ hh ≤ (if mx'.isSome = true then m else cap) := by split <;> omega
        generalize hM : (if mx'.isSome = true then m else cap) = M at hB hmr
        refine ⟨.slice (if M = ll then a else a.map (·.add (ll * n))) (hh - ll) (M - ll), ?_, ?_⟩
        · simp [Instr.sliceAt, Instr.slice, run_und hu, hB, run_sz ht.1]
        · have hlen : ((es.take hh).drop ll).length = hh - ll := by simp; omega
          have hget : ∀ i e, ((es.take hh).drop ll)[i]? = some e → es[ll + i]? = some e := by
            intro i e hi
            rw [List.getElem?_drop, List.getElem?_take] at hi
            split at hi
            · exact hi
            · exact absurd hi (by simp)
          have := R.sl (T := T) (G := G) n ((es.take hh).drop ll) (sliceTag tg (hh == m) mx'.isSome) (if M = ll then a else a.map (·.add (ll * n))) (M - ll) b (o + ll * n) (fun i j => f (ll + i) j)
            (by rw [hlen]; omega)
            (by
              rw [hlen]
              have hnil : a = none → es = [] := fun ha0 => by
                cases es with
                | nil => rfl
                | cons e0 es0 => rw [ha (by simp)] at ha0; simp at ha0
              have hgiven : mx'.isSome = true → M = m := fun hs => by rw [if_pos hs] at hM; exact hM.symm
              have hfree : mx'.isSome = false → M = cap ∧ m = es.length := fun hs => by
                rw [hs] at hM
                exact ⟨by simpa using hM.symm, hm0 (by cases mx' <;> simp_all)⟩
              have hMc : clipB tg = true → hh = m → M - ll = hh - ll := fun hcl hq => by
                have := htg.1 hcl
                cases hs : mx'.isSome with
                | true => rw [hgiven hs]; omega
                | false => rw [(hfree hs).1]; have := (hfree hs).2; omega
              refine ⟨fun hq => ?_, fun hq => ?_, fun hq => ?_⟩
              · cases tg with
                | brw => simp [sliceTag, clipB] at hq
                | clip =>
                  simp only [sliceTag] at hq
                  split at hq
                  · rename_i hq'
                    exact hMc rfl (by simpa using hq')
                  · simp [clipB] at hq
                | ce =>
                  simp only [sliceTag] at hq
                  split at hq
                  · rename_i hq'
                    exact hMc rfl (by simpa using hq')
                  · simp [clipB] at hq
                | nl =>
                  have he := hnil (htg.2.1 rfl)
                  subst he
                  have := htg.1 rfl
                  simp at this hml
                  cases hs : mx'.isSome with
                  | true => rw [hgiven hs]; omega
                  | false => rw [(hfree hs).1]; omega
                | perm =>
                  simp only [sliceTag] at hq
                  split at hq
                  · rename_i hq'
                    simp only [Bool.and_eq_true, beq_iff_eq] at hq'
                    rw [hgiven hq'.1]; omega
                  · simp [clipB] at hq
                | em =>
                  simp only [sliceTag] at hq
                  split at hq
                  · rename_i hq'
                    simp only [Bool.and_eq_true, beq_iff_eq] at hq'
                    rw [hgiven hq'.1]; omega
                  · simp [clipB] at hq
              · have : tg = .nl := by
                  cases tg <;> simp only [sliceTag] at hq <;> first | rfl | (split at hq <;> simp at hq) | simp at hq
                rw [htg.2.1 this]; split <;> rfl
              · have : someB tg = true := by
                  cases tg <;> simp only [sliceTag] at hq <;> first | rfl | (split at hq <;> simp [someB] at hq) | simp [someB] at hq
                have := htg.2.2 this
                split
                · exact this
                · rw [Option.isSome_map]; exact this)
            (by
              intro hne
              have : 0 < hh - ll := by rw [← hlen]; exact List.length_pos_iff.2 hne
              rw [if_neg (by omega), ha (by intro h0; subst h0; simp at hne)]
              simp [add_spot])
            (fun i e hi => hz _ e (hget i e hi))
            (fun i e j c hi hj => by
              have := hg _ e j c (hget i e hi) hj
              rw [show o + ll * n + i * n + j = o + (ll + i) * n + j by rw [Nat.add_mul]; omega]
              exact gAt_tag this)
            (fun i e j c hi hj => hR _ e j c (hget i e hi) hj)
            (fun i e j c hi hj => ho _ e j c (hget i e hi) hj)
          rw [hlen] at this
          exact this
      · exact absurd ht (by simp)
    · exact absurd e (by simp)
  · rename_i B ep z off len
    obtain ⟨a, cap, rfl, hBn, hl, hg⟩ := hx.gsl_inv
    split at e
    · rename_i hm
      obtain ⟨rfl, hn⟩ := hm
      simp only [Option.bind_eq_some_iff, Option.map_eq_some_iff] at e
      obtain ⟨m, em, hh, eh, ll, el, rfl⟩ := e
      split at ht
      · simp at ht; omega
      · rename_i el' hu
        simp only [Bool.and_eq_true, beq_iff_eq, decide_eq_true_eq] at ht
        have hml : m ≤ len := bnd_le em (fun _ => Nat.le_refl _)
        have hm0 : mx' = none → m = len := by rintro rfl; simp [bnd] at em; omega
        have hhm : hh ≤ m := bnd_le eh (fun h0 => by
          subst h0
          cases hmx' : mx' with
          | none => rw [hm0 hmx']; exact Nat.le_refl _
          | some q =>
            exfalso
            rw [hmx'] at hsome
            have := hmh (by simpa using hsome.symm)
            cases rhi with
            | none => simp at this
            | some _ => exact hhi.elim)
        have hlh : ll ≤ hh := bnd_le el (fun _ => Nat.zero_le _)
        have hB := bounds_run (w := w) (P := P) (cap := cap) (len := len) (m := m) hlo hhi hmx hmh (bnd_mono em hl)
          (by split
              · exact eh
              · exact bnd_mono eh (by omega)) el true
        have hmr : (if mx'.isSome = true then m else cap) ≤ cap ∧ hh ≤ (if mx'.isSome = true then m else cap) := by split <;> omega
        generalize hM : (if mx'.isSome = true then m else cap) = M at hB hmr
        refine ⟨.slice (if M = ll then a else a.map (·.add (ll * n))) (hh - ll) (M - ll), ?_, ?_⟩
        · simp [Instr.sliceAt, Instr.slice, run_und hu, hB, run_sz ht.1]
        · refine .gsl _ _ _ _ _ _ _ hBn (by omega) ?_
          by_cases hz : M = ll
          · exact .inl (by omega)
          · right
            rcases hg with rfl | ⟨g, h1, h2, rfl, h3⟩
            · omega
            · refine ⟨g, h1, h2, ?_, ?_⟩
              · rw [if_neg hz]; simp [add_spot, Nat.add_mul, Nat.add_assoc]
              · refine Nat.le_trans (Nat.add_le_add_left (Nat.mul_le_mul_right n ?_) _) h3
                omega
      · exact absurd ht (by simp)
    · exact absurd e (by simp)
  · exact absurd e (by simp)

end
end Go.VE
