/- Regions that draw their order: the whole region. -/
import Derived.Test.YtgkdconajdjkgaaGreatVeDraw3
namespace Go.VE
set_option linter.unusedVariables false
set_option linter.unnecessarySimpa false
set_option linter.unusedSimpArgs false
open Classical

section
variable {P : Program} {T : Tbl} {vp : VP} {G : Gh} {w : World} {lo : Nat} {h : Heap} {G0 : Gh} {w0 : World} {h0 : Heap}
variable {ops : Array Oper} {nt : Nat} {ds : List VDt} {n : Nat} {F : Nat → Fr} {H : Nat → Heap} {X : Nat → V}

theorem ready_none {L : Array Bool} (spec : ∀ q d, ds[q]? = some d → PosOK P T vp ops nt ds q d) (hsz : L.size = ops.size) (hr : Region.ready .any ops L = []) : ∀ (q : Nat) (d : VDt), ds[q]? = some d → L.getD d.ix false = true := by
  intro q
  induction q using Nat.strongRecOn with
  | _ q ih =>
    intro d hd
    cases hl : L.getD d.ix false with
    | true => rfl
    | false =>
      exfalso
      have pos := spec q d hd
      have : d.ix ∈ Region.ready .any ops L := by
        rw [mem_ready]
        refine ⟨?_, ops.getD d.ix default, by rw [Array.getD_eq_getD_getElem?]; simp [pos.lt], fun e he hb => ?_⟩
        · have hlt : d.ix < L.size := by rw [hsz]; exact pos.lt
          rw [Array.getD_eq_getD_getElem?] at hl ⊢
          simp only [hlt, getElem?_pos, Option.getD_some] at hl ⊢
          exact hl
        · obtain ⟨p, d', hp, hd', hix⟩ := pos.edge e (by simpa using he) hb
          rw [← hix]; exact ih p hp d' hd'
      rw [hr] at this
      simp at this

theorem shut_set {L : Array Bool} (shut : Shut ops L) {i : Nat} (hi : ∀ e ∈ (ops.getD i default).after.toList, Region.binds .any e = true → L.getD e.on false = true) : Shut ops (L.setIfInBounds i true) := by
  intro j hj e he hb
  rcases getD_set_cases hj with rfl | hl
  · exact getD_set_of (hi e he hb)
  · exact getD_set_of (shut j hl e he hb)

theorem wpAny_ok (tied : Tied P T vp) (ih : SoundCall P T vp n) (spec : ∀ q d, ds[q]? = some d → PosOK P T vp ops nt ds q d) (surj : ∀ i, i < ops.size → ∃ (q : Nat) (d : VDt), ds[q]? = some d ∧ d.ix = i) (tr : Trc (orcN vp n) vp lo ds 0 F H X) (hb0 : h0.length ≤ (H 0).length) (hlo : lo ≤ h0.length)
    {Q : Exit → Act → World → Prop} (hQ : ∀ a w G', FInv T G' (F ds.length) a.tmps → HInv T G' lo (H ds.length) w → Stp lo G0 h0 w0 G' (H ds.length) w → a.defers = [] → nt ≤ a.tmps.size → Q .normal a w) :
    ∀ (fuel : Nat) (L : Array Bool) (k : Nat) (G : Gh) (a : Act) (w : World), DI T vp lo G0 h0 w0 nt ds F H X L k G a w → Shut ops L → L.size = ops.size → L.toList.count false ≤ fuel → wpAny P .any ops Q fuel L a w := by
  have fin : ∀ {L k G a w}, DI T vp lo G0 h0 w0 nt ds F H X L k G a w → (∀ (q : Nat) (d : VDt), ds[q]? = some d → L.getD d.ix false = true) → Q .normal a w := by
    intro L k G a w di hall
    have hH : H ds.length = H k := H_same tr ds.length di.kN (Nat.le_refl _) fun q d h1 h2 hq => by
      cases hh : heavy (clsOf vp d.it.op) with
      | false => exact .inl rfl
      | true => have := di.km q d hq (hall q d hq) hh; omega
    have hfr := di.fr
    rw [frS_all tr hall _ (Nat.le_refl _)] at hfr
    exact hQ a w G hfr (by rw [hH]; exact di.hi) (by rw [hH]; exact di.st) di.df di.sz
  intro fuel
  induction fuel with
  | zero =>
    intro L k G a w di shut hsz hc
    have hno : false ∉ L.toList := List.count_eq_zero.1 (by omega)
    have hall : ∀ i, i < L.size → L[i]? = some true := by
      intro i hi
      have : L[i] ≠ false := fun e => hno (by rw [← e]; simp)
      simp [hi]; simpa using this
    refine ⟨?_, fin di fun q d hd => ?_⟩
    · rw [List.eq_nil_iff_forall_not_mem]
      intro i hi
      obtain ⟨h1, o, ho, _⟩ := mem_ready.1 hi
      have hlt : i < L.size := by
        rw [hsz]
        rcases Nat.lt_or_ge i ops.size with hh | hh
        · exact hh
        · rw [Array.getElem?_eq_none hh] at ho; simp at ho
      rw [Array.getD_eq_getD_getElem?, hall i hlt] at h1; simp at h1
    · have := (spec q d hd).lt
      rw [Array.getD_eq_getD_getElem?, hall d.ix (by omega)]; rfl
  | succ fuel ihf =>
    intro L k G a w di shut hsz hc
    refine ⟨fun hr => fin di (ready_none spec hsz hr), fun i hi => ?_⟩
    obtain ⟨h1, o, ho, he⟩ := mem_ready.1 hi
    have hil : i < ops.size := by
      rcases Nat.lt_or_ge i ops.size with hh | hh
      · exact hh
      · rw [Array.getElem?_eq_none hh] at ho; simp at ho
    obtain ⟨j, d, hd, rfl⟩ := surj i hil
    have hoo : ops.getD d.ix default = o := by rw [Array.getD_eq_getD_getElem?, ho]; rfl
    have hl : L.getD d.ix false = false := by
      have hlt : d.ix < L.size := by omega
      rw [Array.getD_eq_getD_getElem?] at h1 ⊢
      simp only [hlt, getElem?_pos, Option.getD_some] at h1 ⊢
      exact h1
    have hr : ∀ e ∈ (ops.getD d.ix default).after.toList, Region.binds .any e = true → L.getD e.on false = true := fun e hem hb => he e (by rw [← hoo]; simpa using hem) hb
    refine step_ok tied ih spec tr shut hlo di hd (by omega) hl hr fun a' w' k' G' di' => ?_
    refine ihf _ k' G' a' w' di' (shut_set shut hr) (by simp [hsz]) ?_
    have hlt : d.ix < L.toList.length := by simp; omega
    have hgl : L.toList[d.ix] = false := by
      have hlt' : d.ix < L.size := by omega
      rw [Array.getD_eq_getD_getElem?] at hl
      simpa [hlt'] using hl
    rw [Array.toList_setIfInBounds, List.count_set hlt, hgl]
    have e1 : (false == false) = true := rfl
    have e2 : (true == false) = false := rfl
    simp only [e1, e2, if_true, Bool.false_eq_true, if_false]
    have := List.count_pos_iff.2 (show false ∈ L.toList by rw [← hgl]; exact List.getElem_mem hlt)
    omega

theorem frS_none {L : Array Bool} {F0 : Fr} (hL : ∀ i, L.getD i false = false) : ∀ m, frS L ds F0 X m = F0
  | 0 => rfl
  | m + 1 => by
    simp only [frS, hL, Bool.false_eq_true, if_false, frS_none hL m]
    split <;> rfl

theorem draw_ok (tied : Tied P T vp) (ih : SoundCall P T vp n) {id : Nat} (hc : drawOK P T vp ops nt ds = true) {fr fr' : Fr} {h' : Heap} {a : Act}
    (e : runD (orcN vp n) vp lo ds 0 [] fr h = some (fr', h')) (hs : St T lo G0 h0 w0 nt fr h a w) {Q : Exit → Act → World → Prop} (hQ : ∀ a w, St T lo G0 h0 w0 nt fr' h' a w → Q .normal a w) : (Code.region id ops true).wp P Q a w := by
  obtain ⟨spec, surj⟩ := drawOK_spec hc
  obtain ⟨F, H, X, k1, k2, k3, k4, tr, _⟩ := trc_of _ _ _ _ _ _ e
  obtain ⟨G, s1, s2, s3, s4, s5⟩ := hs
  refine wp_region_any tied.mix ?_
  let w1 : World := { w with drawn := w.drawn + 1 }
  have hi1 : HInv T G lo h w1 := s2.grow (Nat.le_refl _) (fun _ _ => rfl)
  have st1 : Stp lo G h w G h w1 := .grow rfl rfl rfl (Nat.le_refl _) (fun _ _ => rfl)
  have hL : ∀ i, (Array.replicate ops.size false).getD i false = false := by
    intro i
    rw [Array.getD_eq_getD_getElem?, Array.getElem?_replicate]
    split <;> rfl
  subst k1
  subst k2
  refine wpAny_ok (G0 := G) (h0 := H 0) (w0 := w) tied ih spec surj tr (Nat.le_refl _) s2.llo (fun a' w' G' q1 q2 q3 q4 q5 => ?_) ops.size _ 0 G a w1 ⟨Nat.zero_le _, .inl rfl, fun p d hp hl => ?_, ?_, hi1, st1, s4, s5, fun p d v hp hl hcl hHp hw => ?_⟩ ?_ (by simp) (by simp [List.count_le_length])
  · rw [k3] at q1
    rw [k4] at q2 q3
    exact hQ a' w' ⟨G', q1, q2, s3.trans q3, q4, q5⟩
  · rw [hL] at hl; simp at hl
  · rw [frS_none hL]; exact s1
  · obtain ⟨bs, hbs⟩ := H_ext tr p (Nat.zero_le _) (by have := (List.getElem?_eq_some_iff.1 hp).1; omega) hw
    refine ⟨?_, by rw [hbs]; simp⟩
    cases hsg : G.sg (H p).length 1 with
    | none => rfl
    | some g =>
      have hlt := hi1.sdomh hsg
      rw [hbs] at hlt; simp at hlt; omega
  · intro i hl
    rw [hL] at hl; simp at hl

end
end Go.VE
