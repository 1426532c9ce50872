/- Regions that draw their order: whatever order is drawn, the state is the one of the evaluator's own run. -/
import Derived.Test.YtgkdconajdjkgaaGreatVeDraw2
namespace Go.VE
set_option linter.unusedVariables false
set_option linter.unnecessarySimpa false
set_option linter.unusedSimpArgs false
open Classical

def heavy : Cls → Bool
  | .fresh | .ro | .wr => true
  | _ => false

/-- The frame when the places that L lists are done. -/
def frS (L : Array Bool) (ds : List VDt) (F0 : Fr) (X : Nat → V) : Nat → Fr
  | 0 => F0
  | n + 1 =>
    match ds[n]? with
    | some d => if L.getD d.ix false = true then put (frS L ds F0 X n) d.it.dst (X n) else frS L ds F0 X n
    | none => frS L ds F0 X n

theorem lk_put' (fr : Fr) (dst : Option Nat) (v : V) (t : Nat) : lk (put fr dst v) t = if dst = some t then v else lk fr t := by
  cases dst with
  | none => simp [put]
  | some d => rw [lk_put]; simp

theorem FInv.ext {T : Tbl} {G : Gh} {fr fr' : Fr} {tmps : Array Value} (h : FInv T G fr tmps) (he : ∀ t, lk fr' t = lk fr t) : FInv T G fr' tmps := fun t => by rw [he t]; exact h t

theorem pairOK_split {vp : VP} {p : Nat} {x y : VDt} (h : pairOK vp p x y = true) : clsFit (clsOf vp x.it.op) (clsOf vp y.it.op) = true ∧ (clsOf vp x.it.op = .ld → clsOf vp y.it.op = .wr → p ∈ y.xl) ∧
    (∀ t, x.it.dst = some t → t ∉ itReads y.it ∧ y.it.dst ≠ some t) ∧ (∀ t, y.it.dst = some t → t ∉ itReads x.it) := by
  unfold pairOK at h
  simp only [Bool.and_eq_true] at h
  obtain ⟨⟨⟨h1, h2⟩, h3⟩, h4⟩ := h
  refine ⟨h1, fun e1 e2 => ?_, fun t ht => ?_, fun t ht => ?_⟩
  · rw [e1, e2] at h2; simpa using h2
  · rw [ht] at h3; simpa using h3
  · rw [ht] at h4; simpa using h4

section
variable {P : Program} {T : Tbl} {vp : VP} {G : Gh} {w : World} {lo : Nat} {h : Heap} {G0 : Gh} {w0 : World} {h0 : Heap}
variable {ops : Array Oper} {nt : Nat} {ds : List VDt} {n : Nat} {F : Nat → Fr} {H : Nat → Heap} {X : Nat → V}

/-- Who is listed, those are that he waits for. -/
def Shut (ops : Array Oper) (L : Array Bool) : Prop := ∀ i, L.getD i false = true → ∀ e ∈ (ops.getD i default).after.toList, Region.binds .any e = true → L.getD e.on false = true

/-- No writing from place a on, below b. -/
def noW (vp : VP) (ds : List VDt) (a b : Nat) : Prop := ∀ q d, a ≤ q → q < b → ds[q]? = some d → clsOf vp d.it.op ≠ .wr

/-- The state when the places that L lists are done; k: behind the last of them that moved memory. -/
structure DI (T : Tbl) (vp : VP) (lo : Nat) (G0 : Gh) (h0 : Heap) (w0 : World) (nt : Nat) (ds : List VDt) (F : Nat → Fr) (H : Nat → Heap) (X : Nat → V) (L : Array Bool) (k : Nat) (G : Gh) (a : Act) (w : World) : Prop where
  kN : k ≤ ds.length
  kd : k = 0 ∨ ∃ d, ds[k - 1]? = some d ∧ L.getD d.ix false = true ∧ heavy (clsOf vp d.it.op) = true
  km : ∀ p d, ds[p]? = some d → L.getD d.ix false = true → heavy (clsOf vp d.it.op) = true → p < k
  fr : FInv T G (frS L ds (F 0) X ds.length) a.tmps
  hi : HInv T G lo (H k) w
  st : Stp lo G0 h0 w0 G (H k) w
  df : a.defers = []
  sz : nt ≤ a.tmps.size
  vt : ∀ p d v, ds[p]? = some d → L.getD d.ix false = false → clsOf vp d.it.op = .fresh → H (p + 1) = H p ++ [.arr [v]] → noW vp ds k p → G.sg (H p).length 1 = none ∧ h0.length ≤ (H p).length

section facts
variable {L : Array Bool} (spec : ∀ q d, ds[q]? = some d → PosOK P T vp ops nt ds q d) (tr : Trc (orcN vp n) vp lo ds 0 F H X) (shut : Shut ops L)
include spec

theorem ix_inj {p q : Nat} {d d' : VDt} (hp : ds[p]? = some d) (hq : ds[q]? = some d') (h : d.ix = d'.ix) : p = q := by
  rcases Nat.lt_trichotomy p q with hl | hl | hl
  · exact absurd h ((spec q d' hq).other p d hl hp)
  · exact hl
  · exact absurd h.symm ((spec p d hp).other q d' hl hq)

include shut in
theorem bits_listed : ∀ (q : Nat) (d : VDt), ds[q]? = some d → (∀ e ∈ (ops.getD d.ix default).after.toList, Region.binds .any e = true → L.getD e.on false = true) → ∀ i, d.bm.testBit i = true → L.getD i false = true := by
  intro q
  induction q using Nat.strongRecOn with
  | _ q ih =>
    intro d hd he i hi
    obtain ⟨e, hm, hb, hh⟩ := (spec q d hd).bits i hi
    rcases hh with rfl | ⟨p, d', hlt, hd', hix, ht⟩
    · exact he e hm hb
    · have hl : L.getD d'.ix false = true := by rw [hix]; exact he e hm hb
      exact ih p hlt d' hd' (shut _ hl) i ht

include shut in
theorem before_pair {j p : Nat} {dj d : VDt} (hj : ds[j]? = some dj) (hr : ∀ e ∈ (ops.getD dj.ix default).after.toList, Region.binds .any e = true → L.getD e.on false = true) (hlt : p < j) (hp : ds[p]? = some d)
    (hn : L.getD d.ix false = false) : pairOK vp p d dj = true := by
  rcases (spec j dj hj).pair p d hlt hp with hb | hh
  · have := bits_listed spec shut j dj hj hr d.ix hb
    rw [hn] at this; simp at this
  · exact hh

include shut in
theorem after_pair {j q : Nat} {dj d : VDt} (hj : ds[j]? = some dj) (hn : L.getD dj.ix false = false) (hlt : j < q) (hq : ds[q]? = some d) (hl : L.getD d.ix false = true) : pairOK vp j dj d = true := by
  rcases (spec q d hq).pair j dj hlt hj with hb | hh
  · have := bits_listed spec shut q d hq (shut _ hl) dj.ix hb
    rw [hn] at this; simp at this
  · exact hh

omit spec in
include tr in
theorem lk_frS {j : Nat} {dj : VDt} (hj : ds[j]? = some dj) (hn : L.getD dj.ix false = false) {t : Nat} (h1 : ∀ p d, p < j → ds[p]? = some d → L.getD d.ix false = false → d.it.dst ≠ some t)
    (h2 : ∀ p d, j < p → ds[p]? = some d → L.getD d.ix false = true → d.it.dst ≠ some t) : ∀ m, lk (frS L ds (F 0) X m) t = lk (F (min m j)) t := by
  intro m
  induction m with
  | zero => simp [frS]
  | succ m ih =>
    rcases Nat.lt_trichotomy m j with hm | hm | hm
    · have hml : m < ds.length := by have := (List.getElem?_eq_some_iff.1 hj).1; omega
      have hd : ds[m]? = some ds[m] := by simp [hml]
      rw [show min (m + 1) j = m + 1 by omega, (tr.step m _ hd).2, lk_put']
      rw [show min m j = m by omega] at ih
      simp only [frS, hd]
      split
      · rw [lk_put', ih]
      · rename_i hl
        rw [if_neg (h1 m _ hm hd (by simpa using hl)), ih]
    · subst hm
      simp only [frS, hj, hn, Bool.false_eq_true, if_false]
      rw [ih]; simp
    · rw [show min (m + 1) j = j by omega]
      rw [show min m j = j by omega] at ih
      simp only [frS]
      split
      · rename_i d hd
        split
        · rename_i hl
          rw [lk_put', if_neg (h2 m d hm hd hl), ih]
        · exact ih
      · exact ih

theorem lk_frS_set {j : Nat} {dj : VDt} (hj : ds[j]? = some dj) (hsz : dj.ix < L.size) (hn : L.getD dj.ix false = false) {t : Nat} (h2 : ∀ p d, j < p → ds[p]? = some d → L.getD d.ix false = true → dj.it.dst = some t → d.it.dst ≠ some t) :
    ∀ m, lk (frS (L.setIfInBounds dj.ix true) ds (F 0) X m) t = if j < m ∧ dj.it.dst = some t then X j else lk (frS L ds (F 0) X m) t := by
  intro m
  induction m with
  | zero => simp [frS]
  | succ m ih =>
    by_cases hm : m = j
    · subst hm
      rw [if_neg (by omega)] at ih
      have hset : (L.setIfInBounds dj.ix true).getD dj.ix false = true := by simp [Array.getD_eq_getD_getElem?, Array.getElem?_setIfInBounds, hsz]
      simp only [frS, hj, hset, hn, Bool.false_eq_true, if_true, if_false]
      rw [lk_put', ih]
      by_cases hd : dj.it.dst = some t
      · rw [if_pos hd, if_pos ⟨Nat.lt_succ_self _, hd⟩]
      · rw [if_neg hd, if_neg (fun hh => hd hh.2)]
    · have hjm : (j < m + 1) ↔ j < m := by omega
      simp only [hjm]
      simp only [frS]
      cases hd : ds[m]? with
      | none => exact ih
      | some d =>
        have hne : dj.ix ≠ d.ix := fun e => hm (ix_inj spec hj hd e).symm
        have hget : (L.setIfInBounds dj.ix true).getD d.ix false = L.getD d.ix false := by simp [Array.getD_eq_getD_getElem?, Array.getElem?_setIfInBounds, hne]
        simp only [hget]
        split
        · rename_i hl
          rw [lk_put', lk_put', ih]
          by_cases hc : j < m ∧ dj.it.dst = some t
          · rw [if_pos hc, if_neg (h2 m d hc.1 hd hl hc.2), if_pos hc]
          · rw [if_neg hc, if_neg hc]
        · exact ih

omit spec in
include tr in
theorem frS_all (hall : ∀ (q : Nat) (d : VDt), ds[q]? = some d → L.getD d.ix false = true) : ∀ m, m ≤ ds.length → frS L ds (F 0) X m = F m
  | 0, _ => rfl
  | m + 1, hm => by
    have hd : ds[m]? = some ds[m] := List.getElem?_eq_getElem (by omega)
    simp only [frS, hd, hall m _ hd, if_true, frS_all hall m (by omega)]
    exact ((tr.step m _ hd).2).symm

omit spec in
include tr in
theorem H_ext1 {p : Nat} {d : VDt} (hd : ds[p]? = some d) (hc : clsOf vp d.it.op ≠ .wr) : ∃ bs, H (p + 1) = H p ++ bs := by
  have hs := (tr.step p d hd).1
  cases hcl : clsOf vp d.it.op with
  | reg => exact ⟨[], by rw [(step_reg hcl hs).1]; simp⟩
  | ld => exact ⟨[], by rw [(step_ld hcl hs).1]; simp⟩
  | ro => exact ⟨[], by rw [(step_ro hcl hs).1]; simp⟩
  | fresh =>
    rcases step_fresh hcl hs with ⟨v, _, _, hh⟩ | ⟨_, hh, _⟩
    · exact ⟨_, hh⟩
    · exact ⟨[], by rw [hh]; simp⟩
  | wr => exact absurd hcl hc

omit spec in
include tr in
theorem H_ext {a : Nat} : ∀ b, a ≤ b → b ≤ ds.length → noW vp ds a b → ∃ bs, H b = H a ++ bs
  | 0, hab, _, _ => ⟨[], by obtain rfl : a = 0 := by omega
                            simp⟩
  | b + 1, hab, hb, hw => by
    rcases Nat.eq_or_lt_of_le hab with rfl | hlt
    · exact ⟨[], by simp⟩
    · obtain ⟨bs, h1⟩ := H_ext b (by omega) (by omega) fun q d h1 h2 h3 => hw q d h1 (by omega) h3
      have hd : ds[b]? = some ds[b] := List.getElem?_eq_getElem (by omega)
      obtain ⟨bs', h2⟩ := H_ext1 tr hd (hw b _ (by omega) (Nat.lt_succ_self _) hd)
      exact ⟨bs ++ bs', by rw [h2, h1, List.append_assoc]⟩

omit spec in
include tr in
theorem H_same {a : Nat} : ∀ b, a ≤ b → b ≤ ds.length → (∀ q d, a ≤ q → q < b → ds[q]? = some d → heavy (clsOf vp d.it.op) = false ∨ clsOf vp d.it.op = .ro) → H b = H a
  | 0, hab, _, _ => by obtain rfl : a = 0 := by omega
                       rfl
  | b + 1, hab, hb, hw => by
    rcases Nat.eq_or_lt_of_le hab with rfl | hlt
    · rfl
    · have h1 := H_same b (by omega) (by omega) fun q d h1 h2 h3 => hw q d h1 (by omega) h3
      have hd : ds[b]? = some ds[b] := List.getElem?_eq_getElem (by omega)
      have hs := (tr.step b _ hd).1
      rw [← h1]
      have := hw b _ (by omega) (Nat.lt_succ_self _) hd
      cases hcl : clsOf vp (ds[b]).it.op with
      | reg => exact (step_reg hcl hs).1
      | ld => exact (step_ld hcl hs).1
      | ro => exact (step_ro hcl hs).1
      | fresh => rw [hcl] at this; simp [heavy] at this
      | wr => rw [hcl] at this; simp [heavy] at this

end facts

theorem clsFit_wr {c : Cls} (h : clsFit c .wr = true) : c = .reg ∨ c = .ld := by cases c <;> simp [clsFit] at h <;> simp
theorem clsFit_of_wr {c : Cls} (h : clsFit .wr c = true) : c = .reg := by cases c <;> simp [clsFit] at h <;> simp
theorem clsFit_ro {c : Cls} (h : clsFit c .ro = true) : c = .reg ∨ c = .ld ∨ c = .fresh := by cases c <;> simp [clsFit] at h <;> simp
theorem clsFit_of_ro {c : Cls} (h : clsFit .ro c = true) : c = .reg ∨ c = .ld := by cases c <;> simp [clsFit] at h <;> simp
theorem clsFit_of_fresh {c : Cls} (h : clsFit .fresh c = true) : c ≠ .wr := by cases c <;> simp [clsFit] at h <;> simp
theorem clsFit_fresh {c : Cls} (h : clsFit c .fresh = true) : c ≠ .wr ∧ c ≠ .ro := by cases c <;> simp [clsFit] at h <;> simp

end
end Go.VE
