/- Contracts: the reference's widths of an image's fields, metadata and keys are the program's. -/
import Derived.Test.YtgkdconajdjkgaaGreatCtC
namespace Go.VE.Un
open Go.VE
set_option linter.unusedVariables false
set_option linter.unusedSimpArgs false

@[simp] theorem pair_ld0 (p : Int × Int) : ldc (pairV p) false 1 0 = some (.int .i64 p.1) := rfl
@[simp] theorem pair_ld1 (p : Int × Int) : ldc (pairV p) false 1 1 = some (.int .i64 p.2) := rfl
theorem iaddrA_eptr (len n : Nat) (e : VE.V) (o : Nat) (t : Tag) (k : IntKind) (i : Int) (h0 : 0 ≤ i) (h1 : i < len) : iaddrA len n (.eptr e o t) (.int k i) = some (.eptr e (o + i.toNat * n) t) := by
  simp [iaddrA, h0, h1]
@[simp] theorem rslot834 (m : Image) (s : Int) (hm : Clo m) (hb : m.Insts.l.length ≤ 10000000) : callRO vp 834 [m.v, .int .i64 s] = some (.tup [((slot m s).getD Header.z).v, .bool (slot m s).isSome]) := by
  have hz := slot_closed (l := m.Insts.l) (s := s) (cl_headers hm)
  simp only [Header.closed] at hz
  rw [callRO_K fn834]
  by_cases h0 : s < 0
  · simp -implicitDefEqProofs [f834, b834, hb, h0, slot, slotH, ofI, pureOp, fillV, hdr0]
  · have hg := slotP_get 0 m.Insts.l s (by omega)
    rcases ho : ofR m.Insts.l 0 s with _ | ⟨i, j, x⟩
    · simp only [ho, Option.map_none] at hg
      have h1 : (slotP 0 m.Insts.l).length ≤ s := by rcases getI_cases (slotP 0 m.Insts.l) s with ⟨a, _, _, h⟩ | ⟨h, _⟩; simp [h] at hg; omega
      simp -implicitDefEqProofs [f834, b834, hb, h0, h1, slot, slotH, ofI, ho, pureOp, fillV, hdr0]
    · simp only [ho, Option.map_some] at hg
      have h1 : ¬ (slotP 0 m.Insts.l).length ≤ s := by rcases getI_cases (slotP 0 m.Insts.l) s with ⟨a, _, _, h⟩ | ⟨_, h⟩; omega; simp [h] at hg
      have hx : getI m.Insts.l i = some x := ofR_get (Int.le_refl 0) rfl ho
      simp only [slot, slotH, ofI, h0, ho] at hz
      simp at hz
      rcases getI_cases m.Headers.l x.Header.n with ⟨a, g0, g1, hh⟩ | ⟨g0, hh⟩
      · have g2 : ¬ x.Header.n < 0 := by omega
        have g3 : ¬ m.Headers.l.length ≤ x.Header.n := by omega
        simp [hh] at hz
        simp -implicitDefEqProofs [f834, b834, hb, h0, h1, slot, slotH, ofI, ho, pureOp, fillV, hdr0, hg, hx, iaddrA_eptr, hh, g2, g3, hz]
      · by_cases g2 : x.Header.n < 0
        · simp -implicitDefEqProofs [f834, b834, hb, h0, h1, slot, slotH, ofI, ho, pureOp, fillV, hdr0, hg, hx, iaddrA_eptr, hh, g2]
        · have g3 : m.Headers.l.length ≤ x.Header.n := by omega
          simp -implicitDefEqProofs [f834, b834, hb, h0, h1, slot, slotH, ofI, ho, pureOp, fillV, hdr0, hg, hx, iaddrA_eptr, hh, g2, g3]
@[simp] theorem rfield830 (m : Image) (s f : Int) (hm : Clo m) (hb : m.Insts.l.length ≤ 10000000) : callRO vp 830 [m.v, .int .i64 s, .int .i64 f] = some (.tup [.int .i64 ((field m s f).getD 0), .bool (field m s f).isSome]) := by
  have hz := slot_closed (l := m.Insts.l) (s := s) (cl_headers hm)
  simp only [Header.closed] at hz
  rw [callRO_K fn830]
  rcases hs : slot m s with _ | h
  · simp -implicitDefEqProofs [f830, b830, hm, hb, hs, field, hdr0]
  · have hs' : slotH m.Headers.l m.Insts.l s = some h := hs
    simp only [hs', Option.getD_some] at hz
    rcases getI_cases h.Fields.l f with ⟨a, h0, h1, hg⟩ | ⟨h0, hg⟩
    · have h2 : ¬ f < 0 := by omega
      have h3 : ¬ h.Fields.l.length ≤ f := by omega
      simp -implicitDefEqProofs [f830, b830, hm, hb, hs, field, hdr0, hg, h2, h3, hz]
    · by_cases h2 : f < 0
      · simp -implicitDefEqProofs [f830, b830, hm, hb, hs, field, hdr0, hg, h2, hz]
      · have h3 : h.Fields.l.length ≤ f := by omega
        simp -implicitDefEqProofs [f830, b830, hm, hb, hs, field, hdr0, hg, h2, h3, hz]
@[simp] theorem rmeta832 (m : Image) (i : Int) (hlo : -9223372036854775808 ≤ i) (hhi : i ≤ 9223372036854775807) : callRO vp 832 [m.v, .int .i64 i] = some (.tup [.int .i64 ((metaW m i).getD 0), .bool (metaW m i).isSome]) := by
  rw [callRO_K fn832]
  by_cases h0 : 0 ≤ i
  · by_cases h7 : i < 8
    · have h8 : ¬ 8 ≤ i := by omega
      have : i = 0 ∨ i = 1 ∨ i = 2 ∨ i = 3 ∨ i = 4 ∨ i = 5 ∨ i = 6 ∨ i = 7 := by omega
      rcases this with rfl | rfl | rfl | rfl | rfl | rfl | rfl | rfl <;> simp -implicitDefEqProofs [f832, b832, metaW, getI, buildSl_eq, iaddr_sl]
    · have h8 : 8 ≤ i := by omega
      have w : IntKind.i64.wrap (i - 8) = i - 8 := wrap64 (by omega) (by omega)
      rcases getI_cases m.Metas.l (i - 8) with ⟨a, g0, g1, hg⟩ | ⟨g0, hg⟩
      · simp -implicitDefEqProofs [f832, b832, metaW, h0, h7, h8, w, g1, hg, buildSl_eq]
      · have g1 : ¬ i - 8 < m.Metas.l.length := by omega
        simp -implicitDefEqProofs [f832, b832, metaW, h0, h7, h8, w, g1, hg, buildSl_eq]
  · have h8 : i < 8 := by omega
    have h9 : ¬ 8 ≤ i := by omega
    simp -implicitDefEqProofs [f832, b832, metaW, h0, h8, h9, getI, buildSl_eq]
@[simp] theorem rstacked835 (m : Image) (i : Int) (hb : m.Insts.l.length ≤ 10000000) : callRO vp 835 [m.v, .int .i64 i] = some (match stacked m i with | some (a, d) => .tup [.int .i64 a, .int .i64 d, .bool true] | none => .tup [.int .i64 0, .int .i64 0, .bool false]) := by
  rw [callRO_K fn835]
  rcases getI_cases m.Insts.l i with ⟨x, h0, h1, hg⟩ | ⟨h0, hg⟩
  · have h2 : ¬ i < 0 := by omega
    have h3 : ¬ m.Insts.l.length ≤ i := by omega
    by_cases d1 : x.Depth.n < 1
    · have : stacked m i = none := by simp [stacked, firstI, hg, many]; grind
      simp -implicitDefEqProofs [f835, b835, h2, h3, hg, d1, this]
    · by_cases d4 : 4 < x.Depth.n
      · have : stacked m i = none := by simp [stacked, firstI, hg, many]; grind
        simp -implicitDefEqProofs [f835, b835, h2, h3, hg, d1, d4, this]
      · have : stacked m i = some (slotsN (m.Insts.l.take i.toNat), x.Depth.n) := by simp [stacked, firstI, hg, many]; grind
        have hs := slotP_len 0 (m.Insts.l.take i.toNat)
        have hb2 := slots823 (m.Insts.take i) (by simp; omega)
        simp -implicitDefEqProofs [f835, b835, h2, h3, hg, d1, d4, this, GL.slice_hi 3 Inst.v m.Insts .i64 i (by omega) h0 (by omega), hb2, hs]
  · by_cases h2 : i < 0
    · simp -implicitDefEqProofs [f835, b835, h2, hg, stacked, firstI]
    · have h3 : m.Insts.l.length ≤ i := by omega
      simp -implicitDefEqProofs [f835, b835, h2, h3, hg, stacked, firstI]
@[simp] theorem rpart833 (m : Image) (k : Key) (hm : Clo m) (hb : m.Insts.l.length ≤ 10000000) : callRO vp 833 [m.v, k.v] = some (.tup [.int .i64 ((partW m k).getD 0), .bool (partW m k).isSome]) := by
  have ha := k.A.hi
  have hl := k.A.lo
  rw [callRO_K fn833]
  by_cases h0 : k.Kind.n = 0
  · simp -implicitDefEqProofs [f833, b833, h0, partW, hm, hb]
  · by_cases h1 : k.Kind.n = 1
    · simp -implicitDefEqProofs [f833, b833, h0, h1, partW, hm, hb, ha, hl]
    · by_cases h2 : k.Kind.n = 2
      · by_cases h3 : 0 ≤ k.A.n <;> by_cases h4 : k.A.n ≤ 1024 <;> by_cases h5 : 1 ≤ k.B.n <;> by_cases h6 : k.B.n ≤ 64 <;> simp -implicitDefEqProofs [f833, b833, h0, h1, h2, h3, h4, h5, h6, partW, hm]
      · simp -implicitDefEqProofs [f833, b833, h0, h1, h2, partW, hm]
theorem loop831 (m : Image) (hm : Clo m) (hb : m.Insts.l.length ≤ 10000000) (l : GL Key) : ∀ (r : List Key) (k n : Int), 0 ≤ k → k ≤ l.l.length → l.l.drop k.toNat = r → 0 ≤ n → n ≤ 128 → ∃ h,
    (orc vp).loop 0 [1, 2, 6, 7] L831_0 [(1, GL.v 3 Key.v l), (2, .ptr 0 1 0 0), (6, .int .i64 n), (7, .int .i64 k)] [.arr [m.v]] =
     some (match keyW m r n with
      | some w => (.brk 0, [(1, GL.v 3 Key.v l), (2, .ptr 0 1 0 0), (6, .int .i64 w), (7, .int .i64 l.l.length), (13, .bool false)], [.arr [m.v]])
      | none => (.ret, [(4, .int .i64 0), (5, .bool false)], h)) := by
  intro r
  induction r with
  | nil =>
    intro k n hk hkl hd h0 h1
    have hle := drop_nil hk hd
    have hlt : ¬ k < l.l.length := by omega
    have he : k = l.l.length := by omega
    refine ⟨[], ?_⟩
    rw [lp831_0]
    simp -implicitDefEqProofs [l831_0, hlt, keyW, he]
  | cons x r ih =>
    intro k n hk hkl hd h0 h1
    obtain ⟨hg, hlt, hd'⟩ := drop_cons hk hd
    have hle := l.le
    have w1 : IntKind.i64.wrap (k + 1) = k + 1 := wrap64 (by omega) (by omega)
    have w3 : IntKind.i64.wrap (128 - n) = 128 - n := wrap64 (by omega) (by omega)
    rw [lp831_0]
    rcases hp : partW m x with _ | w
    · simp -implicitDefEqProofs [l831_0, hlt, hg, hp, hm, hb, keyW]
    · by_cases hw : w < 1
      · have hw' : ¬ 1 ≤ w := by omega
        simp -implicitDefEqProofs [l831_0, hlt, hg, hp, hm, hb, w3, hw, hw', keyW]
      · have hw' : 1 ≤ w := by omega
        by_cases hw2 : 128 - n < w
        · have hw3 : ¬ w ≤ 128 - n := by omega
          simp -implicitDefEqProofs [l831_0, hlt, hg, hp, hm, hb, w3, hw, hw', hw2, hw3, keyW]
        · have hw3 : w ≤ 128 - n := by omega
          have w2 : IntKind.i64.wrap (n + w) = n + w := wrap64 (by omega) (by omega)
          obtain ⟨h, hi⟩ := ih (k + 1) (n + w) (by omega) (by omega) hd' (by omega) (by omega)
          exact ⟨h, by simp -implicitDefEqProofs [l831_0, hlt, hg, hp, hm, hb, w1, w2, w3, hw, hw', hw2, hw3, hi, keyW]⟩
@[simp] theorem rkey831 (m : Image) (l : GL Key) (hm : Clo m) (hb : m.Insts.l.length ≤ 10000000) : callRO vp 831 [m.v, GL.v 3 Key.v l] = some (.tup [.int .i64 ((keyW m l.l 0).getD 0), .bool (keyW m l.l 0).isSome]) := by
  obtain ⟨h, h1⟩ := loop831 m hm hb l l.l 0 0 (by omega) (by omega) rfl (by omega) (by omega)
  rw [callRO_K fn831]
  rcases hk : keyW m l.l 0 with _ | w <;> rw [hk] at h1 <;> simp -implicitDefEqProofs [f831, b831, h1]
end Go.VE.Un
