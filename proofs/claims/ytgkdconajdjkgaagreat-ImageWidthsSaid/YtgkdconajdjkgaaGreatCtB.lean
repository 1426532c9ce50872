/- Contracts: widths of an image's fields, metadata and keys. -/
import Derived.Test.YtgkdconajdjkgaaGreatCtA
namespace Go.VE.Un
open Go.VE
set_option linter.unusedVariables false
set_option linter.unusedSimpArgs false

def GS.nil : GS := ⟨[], by simp⟩
def I64.z : I64 := ⟨0, by omega, by omega⟩
def Header.z : Header := ⟨GS.nil, ⟨[], .nl, by simp⟩, I64.z, I64.z, I64.z, I64.z⟩
theorem hdr0 : VE.V.agg [.str [], .sl 2 [] .nl, .int .i64 0, .int .i64 0, .int .i64 0, .int .i64 0] = Header.z.v := rfl

@[simp] theorem zfc : closedB (GL.v 2 Field.v Header.z.Fields) = true := by simp [GL.closed, Header.z, Tag.cl]
theorem closed_get {α : Type} {z : Nat} {f : α → VE.V} {x : GL α} (h : closedB (GL.v z f x) = true) {i : Int} {a : α} (hg : getI x.l i = some a) : closedB (f a) = true := by
  rw [GL.closed] at h
  simp only [Bool.and_eq_true, List.all_eq_true] at h
  refine h.2 a ?_
  unfold getI at hg
  split at hg
  · exact List.mem_of_getElem? hg
  · simp at hg

def slotH (hs : List Header) (l : List Inst) (s : Int) : Option Header := (ofI l s).bind fun r => getI hs r.2.2.Header.n
@[simp] theorem header639 (hs : GL Header) (l : GL Inst) (s : Int) (hc : closedB (GL.v 6 Header.v hs) = true) (hsb : s ≤ 9223372036854775807) :
    callRO vp 639 [GL.v 6 Header.v hs, GL.v 3 Inst.v l, .int .i64 s] = some (.tup [((slotH hs.l l.l s).getD Header.z).v, .bool (slotH hs.l l.l s).isSome]) := by
  have hle := hs.le
  have w : IntKind.i64.wrap (hs.l.length - 1) = hs.l.length - 1 := wrap64 (by omega) (by omega)
  rw [callRO_K fn639]
  rcases ho : ofI l.l s with _ | ⟨i, j, x⟩
  · simp -implicitDefEqProofs [f639, b639, ho, hsb, slotH, pureOp, fillV, hdr0]
  · have hx : getI l.l i = some x := by
      unfold ofI at ho
      split at ho
      · simp at ho
      · exact ofR_get (Int.le_refl 0) rfl ho
    rcases getI_cases hs.l x.Header.n with ⟨a, h0, h1, hg⟩ | ⟨h0, hg⟩
    · have h2 : x.Header.n ≤ hs.l.length - 1 := by omega
      have hca := closed_get hc hg
      simp only [Header.closed] at hca
      simp -implicitDefEqProofs [f639, b639, ho, hsb, slotH, hx, w, hg, h0, h2, hca, hdr0]
    · by_cases h2 : 0 ≤ x.Header.n
      · have h3 : ¬ x.Header.n ≤ hs.l.length - 1 := by omega
        simp -implicitDefEqProofs [f639, b639, ho, hsb, slotH, hx, w, hg, h2, h3, pureOp, fillV, hdr0]
      · simp -implicitDefEqProofs [f639, b639, ho, hsb, slotH, hx, w, hg, h2, pureOp, fillV, hdr0]

def Clo (m : Image) : Prop := closedB (Image.v m) = true
theorem cl_headers {m : Image} (hm : Clo m) : closedB (GL.v 6 Header.v m.Headers) = true := by
  simp only [Clo, Image.closed, Bool.and_eq_true] at hm; simp [hm]
theorem slot_closed {hs : GL Header} {l : List Inst} {s : Int} (hc : closedB (GL.v 6 Header.v hs) = true) : closedB ((slotH hs.l l s).getD Header.z).v = true := by
  unfold slotH
  cases ofI l s with
  | none => simp [Header.closed]
  | some r =>
    simp only [Option.bind_some]
    cases hg : getI hs.l r.2.2.Header.n with
    | none => simp [Header.closed]
    | some a => exact closed_get hc hg
def slot (m : Image) (s : Int) : Option Header := slotH m.Headers.l m.Insts.l s
@[simp] theorem slot493 (m : Image) (s : Int) (hm : Clo m) (hsb : s ≤ 9223372036854775807) : callRO vp 493 [m.v, .int .i64 s] = some (.tup [((slot m s).getD Header.z).v, .bool (slot m s).isSome]) := by
  have hc := cl_headers hm
  have hz := slot_closed (l := m.Insts.l) (s := s) hc
  simp only [Header.closed] at hz
  rw [callRO_K fn493]
  simp -implicitDefEqProofs [f493, b493, hc, hsb, hz, hdr0, slot]
/-- A field's width. -/
def field (m : Image) (s f : Int) : Option Int := (slot m s).bind fun h => (getI h.Fields.l f).map fun x => x.W.n
@[simp] theorem field489 (m : Image) (s f : Int) (hm : Clo m) (hsb : s ≤ 9223372036854775807) : callRO vp 489 [m.v, .int .i64 s, .int .i64 f] = some (.tup [.int .i64 ((field m s f).getD 0), .bool (field m s f).isSome]) := by
  have hz := slot_closed (l := m.Insts.l) (s := s) (cl_headers hm)
  simp only [Header.closed] at hz
  rw [callRO_K fn489]
  rcases hs : slot m s with _ | h
  · simp -implicitDefEqProofs [f489, b489, hm, hsb, hs, field, hdr0]
  · have hle := h.Fields.le
    have hs' : slotH m.Headers.l m.Insts.l s = some h := hs
    simp only [hs', Option.getD_some] at hz
    have w : IntKind.i64.wrap (h.Fields.l.length - 1) = h.Fields.l.length - 1 := wrap64 (by omega) (by omega)
    rcases getI_cases h.Fields.l f with ⟨a, h0, h1, hg⟩ | ⟨h0, hg⟩
    · have h2 : f ≤ h.Fields.l.length - 1 := by omega
      simp -implicitDefEqProofs [f489, b489, hm, hsb, hs, field, hdr0, w, hg, h0, h2, hz]
    · by_cases h2 : 0 ≤ f
      · have h3 : ¬ f ≤ h.Fields.l.length - 1 := by omega
        simp -implicitDefEqProofs [f489, b489, hm, hsb, hs, field, hdr0, w, hg, h2, h3, hz]
      · simp -implicitDefEqProofs [f489, b489, hm, hsb, hs, field, hdr0, w, hg, h2, hz]
/-- A metadata's width. -/
def metaW (m : Image) (i : Int) : Option Int := if i < 8 then getI [8, 8, 8, 1, 8, 1, 16, 8] i else (getI m.Metas.l (i - 8)).map fun x => x.W.n
theorem idxA_get (cs : List V) (len : Nat) (k : IntKind) (i : Int) (hl : cs.length = len) : idxA len 1 false (.agg cs) (.int k i) = getI cs i := by
  subst hl
  unfold idxA getI
  by_cases h0 : 0 ≤ i
  · by_cases h1 : i < cs.length
    · simp [h0, h1]
    · simp [h0, h1]
  · simp [h0]
@[simp] theorem meta491 (m : Image) (i : Int) (hlo : -9223372036854775808 ≤ i) (hhi : i ≤ 9223372036854775807) : callRO vp 491 [m.v, .int .i64 i] = some (.tup [.int .i64 ((metaW m i).getD 0), .bool (metaW m i).isSome]) := by
  rw [callRO_K fn491]
  by_cases h0 : 0 ≤ i
  · by_cases h7 : i ≤ 7
    · have h8 : i < 8 := by omega
      have : i = 0 ∨ i = 1 ∨ i = 2 ∨ i = 3 ∨ i = 4 ∨ i = 5 ∨ i = 6 ∨ i = 7 := by omega
      rcases this with rfl | rfl | rfl | rfl | rfl | rfl | rfl | rfl <;> simp -implicitDefEqProofs [f491, b491, metaW, idxA_get, getI]
    · have h8 : ¬ i < 8 := by omega
      have w : IntKind.i64.wrap (i - 8) = i - 8 := wrap64 (by omega) (by omega)
      rcases getI_cases m.Metas.l (i - 8) with ⟨a, g0, g1, hg⟩ | ⟨g0, hg⟩
      · simp -implicitDefEqProofs [f491, b491, metaW, h0, h7, h8, w, g1, hg]
      · have g1 : ¬ i - 8 < m.Metas.l.length := by omega
        simp -implicitDefEqProofs [f491, b491, metaW, h0, h7, h8, w, g1, hg]
  · have h8 : i < 8 := by omega
    simp -implicitDefEqProofs [f491, b491, metaW, h0, h8, getI]
/-- A stack's first slot, and its depth. -/
def stacked (m : Image) (i : Int) : Option (Int × Int) := (firstI m.Insts.l i).bind fun a => (getI m.Insts.l i).bind fun x => if x.Depth.n = 0 then none else some (a, x.Depth.n)
@[simp] theorem stacked494 (m : Image) (i : Int) : callRO vp 494 [m.v, .int .i64 i] = some (match stacked m i with | some (a, d) => .tup [.int .i64 a, .int .i64 d, .bool true] | none => .tup [.int .i64 0, .int .i64 0, .bool false]) := by
  rw [callRO_K fn494]
  rcases hf : firstI m.Insts.l i with _ | a
  · simp -implicitDefEqProofs [f494, b494, hf, stacked]
  · rcases hg : getI m.Insts.l i with _ | x
    · simp [firstI, hg] at hf
    · by_cases hd : x.Depth.n = 0
      · simp -implicitDefEqProofs [f494, b494, hf, stacked, hg, hd]
      · simp -implicitDefEqProofs [f494, b494, hf, stacked, hg, hd]
/-- The width of a key's part. -/
def partW (m : Image) (k : Key) : Option Int :=
  if k.Kind.n = 0 then field m k.A.n k.B.n else if k.Kind.n = 1 then metaW m k.A.n else
  if k.Kind.n = 2 then (if 0 ≤ k.A.n ∧ k.A.n ≤ 1024 ∧ 1 ≤ k.B.n ∧ k.B.n ≤ 64 then some k.B.n else none) else none
/-- What image.part answers beside the truth: of bits ahead it is their number in any case. -/
def partV (m : Image) (k : Key) : Int := if k.Kind.n = 2 then k.B.n else (partW m k).getD 0
@[simp] theorem part510 (m : Image) (k : Key) (hm : Clo m) : callRO vp 510 [m.v, k.v] = some (.tup [.int .i64 (partV m k), .bool (partW m k).isSome]) := by
  have ha := k.A.hi
  have hb := k.A.lo
  rw [callRO_K fn510]
  by_cases h0 : k.Kind.n = 0
  · simp -implicitDefEqProofs [f510, b510, h0, partW, partV, hm, ha]
  · by_cases h1 : k.Kind.n = 1
    · simp -implicitDefEqProofs [f510, b510, h0, h1, partW, partV, hm, ha, hb]
    · by_cases h2 : k.Kind.n = 2
      · by_cases h3 : 0 ≤ k.A.n <;> by_cases h4 : k.A.n ≤ 1024 <;> by_cases h5 : 1 ≤ k.B.n <;> by_cases h6 : k.B.n ≤ 64 <;> simp -implicitDefEqProofs [f510, b510, h0, h1, h2, h3, h4, h5, h6, partW, partV, hm]
      · simp -implicitDefEqProofs [f510, b510, h0, h1, h2, partW, partV, hm]

/-- How wide a key is, from a width on. -/
def keyW (m : Image) : List Key → Int → Option Int
  | [], n => some n
  | k :: r, n => (partW m k).bind fun w => if 1 ≤ w ∧ w ≤ 128 - n then keyW m r (n + w) else none
theorem partV_eq {m : Image} {k : Key} {w : Int} (h : partW m k = some w) : partV m k = w := by
  unfold partV
  split
  · rename_i h2
    have h0 : ¬ k.Kind.n = 0 := by omega
    have h1 : ¬ k.Kind.n = 1 := by omega
    simp only [partW, h2] at h
    simp at h
    exact h.2
  · simp [h]
theorem loop490 (m : Image) (hm : Clo m) (l : GL Key) : ∀ (r : List Key) (k n : Int), 0 ≤ k → k ≤ l.l.length → l.l.drop k.toNat = r → 0 ≤ n → n ≤ 128 → ∃ h,
    (orc vp).loop 0 [2, 6, 11, 12, 13] L490_0 [(2, .ptr 0 1 0 0), (6, .int .i64 n), (11, GL.v 3 Key.v l), (12, .int .i64 l.l.length), (13, .int .i64 k)] [.arr [m.v]] =
     some (match keyW m r n with
      | some w => (.brk 0, [(2, .ptr 0 1 0 0), (6, .int .i64 w), (11, GL.v 3 Key.v l), (12, .int .i64 l.l.length), (13, .int .i64 l.l.length), (14, .bool false)], [.arr [m.v]])
      | none => (.ret, [(4, .int .i64 0), (5, .bool false)], h)) := by
  intro r
  induction r with
  | nil =>
    intro k n hk hkl hd h0 h1
    have hle := drop_nil hk hd
    have hlt : ¬ k < l.l.length := by omega
    have he : k = l.l.length := by omega
    refine ⟨[], ?_⟩
    rw [lp490_0]
    simp -implicitDefEqProofs [l490_0, hlt, keyW, he]
  | cons x r ih =>
    intro k n hk hkl hd h0 h1
    obtain ⟨hg, hlt, hd'⟩ := drop_cons hk hd
    have hle := l.le
    have w1 : IntKind.i64.wrap (k + 1) = k + 1 := wrap64 (by omega) (by omega)
    have w3 : IntKind.i64.wrap (128 - n) = 128 - n := wrap64 (by omega) (by omega)
    rw [lp490_0]
    rcases hp : partW m x with _ | w
    · simp -implicitDefEqProofs [l490_0, hlt, hg, hp, hm, keyW]
    · have hv := partV_eq hp
      by_cases hw : 1 ≤ w
      · by_cases hw2 : w ≤ 128 - n
        · have w2 : IntKind.i64.wrap (n + w) = n + w := wrap64 (by omega) (by omega)
          obtain ⟨h, hi⟩ := ih (k + 1) (n + w) (by omega) (by omega) hd' (by omega) (by omega)
          exact ⟨h, by simp -implicitDefEqProofs [l490_0, hlt, hg, hp, hm, hv, w1, w2, w3, hw, hw2, hi, keyW]⟩
        · simp -implicitDefEqProofs [l490_0, hlt, hg, hp, hm, hv, w3, hw, hw2, keyW]
      · simp -implicitDefEqProofs [l490_0, hlt, hg, hp, hm, hv, w3, hw, keyW]
@[simp] theorem key490 (m : Image) (l : GL Key) (hm : Clo m) : callRO vp 490 [m.v, GL.v 3 Key.v l] = some (.tup [.int .i64 ((keyW m l.l 0).getD 0), .bool (keyW m l.l 0).isSome]) := by
  obtain ⟨h, h1⟩ := loop490 m hm l l.l 0 0 (by omega) (by omega) rfl (by omega) (by omega)
  rw [callRO_K fn490]
  rcases hk : keyW m l.l 0 with _ | w <;> rw [hk] at h1 <;> simp -implicitDefEqProofs [f490, b490, h1]
end Go.VE.Un
