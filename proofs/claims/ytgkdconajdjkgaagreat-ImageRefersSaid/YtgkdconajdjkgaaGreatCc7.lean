/- Joined texts: CkP, CkQ, CkR. No condition: what each theorem needs stands in it. -/
import Derived.Test.YtgkdconajdjkgaaGreatCc6
/- What an image without a flaw has. -/
namespace Go.VE.Un
open Go.VE
set_option linter.unusedVariables false
set_option linter.unusedSimpArgs false
theorem brief_mem {l : List GS} (h : briefB l = true) : ∀ s ∈ l, s.s.length ≤ 100 := by
  simp only [briefB, Bool.and_eq_true, List.all_eq_true, decide_eq_true_eq] at h
  exact h.1
theorem small_of_light {m : Image} (h : lightB m = true) : Small m := by
  simp only [lightB, Bool.and_eq_true] at h
  obtain ⟨⟨⟨⟨hp, hh⟩, hi⟩, _⟩, _⟩ := h
  have hb : ∀ q, 0 ≤ q → q < 15 → ∀ s ∈ titles m q, s.s.length ≤ 100 := fun q h0 h1 => brief_mem (parts_brief 15 0 q hp h0 (by omega))
  have hh' : ∀ h ∈ m.Headers.l, ∀ f ∈ h.Fields.l.take 300, f.Name.s.length ≤ 100 := by
    simp only [hdrsB, namesB, List.all_eq_true, decide_eq_true_eq] at hh
    exact hh
  have hi' : ∀ x ∈ m.Insts.l.take 300, x.Name.s.length ≤ 100 := by
    simp only [instsB, List.all_eq_true, decide_eq_true_eq] at hi
    exact hi
  refine ⟨fun h hm hl f hf => ?_, fun hl x hx => ?_, fun x hx => ?_, fun x hx => ?_, fun x hx => ?_, fun x hx => ?_, fun x hx => ?_, fun x hx => ?_, fun x hx => ?_, fun x hx => ?_⟩
  · have := hh' h hm f (by rw [List.take_of_length_le (by omega)]; exact hf); omega
  · have := hi' x (by rw [List.take_of_length_le (by omega)]; exact hx); omega
  · have := hb 1 (by omega) (by omega) x.Name (by simp [titles]; exact ⟨x, hx, rfl⟩); omega
  · have := hb 3 (by omega) (by omega) x.Name (by simp [titles]; exact ⟨x, hx, rfl⟩); omega
  · have := hb 12 (by omega) (by omega) x.Name (by simp [titles]; exact ⟨x, hx, rfl⟩); omega
  · have := hb 13 (by omega) (by omega) x.Name (by simp [titles]; exact ⟨x, hx, rfl⟩); omega
  · have := hb 14 (by omega) (by omega) x.Name (by simp [titles]; exact ⟨x, hx, rfl⟩); omega
  · have := hb 4 (by omega) (by omega) x.Name (by simp [titles]; exact ⟨x, hx, rfl⟩); omega
  · have := hb 5 (by omega) (by omega) x.Name (by simp [titles]; exact ⟨x, hx, rfl⟩); omega
  · have := hb 6 (by omega) (by omega) x.Name (by simp [titles]; exact ⟨x, hx, rfl⟩); omega
theorem checkR_none {m : Image} : ∀ (j : Nat) (p q : Int), checkR m j p = none → p ≤ q → q < p + j → (partE m q).2 = 0
  | 0, p, q, _, h1, h2 => by omega
  | j + 1, p, q, h, h1, h2 => by
    simp only [checkR] at h
    split at h
    · rename_i h0
      by_cases he : p = q
      · subst he; exact h0
      · exact checkR_none j (p + 1) q h (by omega) (by omega)
    · simp at h
theorem check_none {m : Image} (h : checkI m = none) (q : Int) (h0 : 0 ≤ q) (h1 : q < 15) : (partE m q).2 = 0 := checkR_none 15 0 q h h0 (by omega)
theorem allR_none {ask : Int → Int} : ∀ (j : Nat) (p q : Int), ((allR ask j p).getD (0, 0)).2 = 0 → p ≤ q → q < p + j → ask q = 0
  | 0, p, q, _, h1, h2 => by omega
  | j + 1, p, q, h, h1, h2 => by
    simp only [allR] at h
    split at h
    · rename_i h0
      by_cases he : p = q
      · subst he; exact h0
      · exact allR_none j (p + 1) q h (by omega) (by omega)
    · rename_i h0; simp at h; exact absurd h h0
theorem allE_0 {n most : Int} {ask : Int → Int} (h : (allE n most ask).2 = 0) : n ≤ most ∧ ∀ i, 0 ≤ i → i < n → ask i = 0 := by
  unfold allE at h
  split at h
  · simp at h
  · exact ⟨by omega, fun i h0 h1 => allR_none n.toNat 0 i h h0 (by omega)⟩
theorem stepsE_0 {m : Image} {p n : Int} : ∀ (l r : List Ins) (k : Int), 0 ≤ k → l.drop k.toNat = r → stepsE m p n r k = 0 → ∀ i x, k ≤ i → getI l i = some x → stepE m p n i x = 0
  | l, [], k, hk, hd, h, i, x, hi, hg => by
    have := drop_nil hk hd
    rcases getI_cases l i with ⟨_, _, h1, _⟩ | ⟨_, h1⟩
    · omega
    · rw [h1] at hg; simp at hg
  | l, y :: r, k, hk, hd, h, i, x, hi, hg => by
    obtain ⟨hgk, _, hd'⟩ := drop_cons hk hd
    simp only [stepsE] at h
    split at h
    · rename_i h0
      by_cases he : k = i
      · subst he; rw [hgk] at hg; simp only [Option.some.injEq] at hg; subst hg; exact h0
      · exact stepsE_0 l r (k + 1) (by omega) hd' h i x (by omega) hg
    · rename_i h0; exact absurd h h0
theorem codeF_0 {m : Image} {l : List Ins} {p : Int} (h : codeF m l p = 0) : ∀ i x, getI l i = some x → mayC x = 0 ∧ stepE m p l.length i x = 0 := by
  unfold codeF at h
  cases hc : allC l with
  | some q => obtain ⟨a, e⟩ := q; rw [hc] at h; exact absurd h (allC_some hc)
  | none =>
    rw [hc] at h
    obtain ⟨_, h2⟩ := allC_none hc
    intro i x hg
    have hi : 0 ≤ i := by
      rcases getI_cases l i with ⟨_, h0, _, _⟩ | ⟨_, h1⟩
      · exact h0
      · rw [h1] at hg; simp at hg
    refine ⟨h2 x (by unfold getI at hg; rw [if_pos hi] at hg; exact List.mem_of_getElem? hg), stepsE_0 l l 0 (by omega) rfl h i x hi hg⟩
theorem action_code {m : Image} (h : checkI m = none) {i : Int} {a : Action} (hg : getI m.Actions.l i = some a) : codeF m a.Code.l a.Params.l.length = 0 := by
  have hp := check_none h 5 (by omega) (by omega)
  have hp : (allE m.Actions.l.length 32 (actionE m)).2 = 0 := by simpa [partE] using hp
  have hi : 0 ≤ i ∧ i < m.Actions.l.length := by
    rcases getI_cases m.Actions.l i with ⟨_, h0, h1, _⟩ | ⟨_, h1⟩
    · exact ⟨h0, h1⟩
    · rw [h1] at hg; simp at hg
  have ha := (allE_0 hp).2 i hi.1 hi.2
  simp only [actionE, hg] at ha
  split at ha
  · split at ha
    · exact ha
    · rename_i hx; exact absurd ha hx
  · rename_i hx; exact absurd ha hx
/-- What the law asks of an instruction. -/
def okI (m : Image) (p n k : Int) (x : Ins) : Bool :=
  if x.Op.n = 1 ∨ x.Op.n = 22 then (field m x.A.n x.B.n).isSome else if x.Op.n = 2 ∨ x.Op.n = 23 then (metaW m x.A.n).isSome
  else if x.Op.n = 3 then decide (0 ≤ x.A.n) && decide (x.A.n < p) else if x.Op.n = 5 ∨ x.Op.n = 24 then decide (0 ≤ x.A.n) && decide (x.A.n < (m.Regs.l.length : Int))
  else if x.Op.n = 31 ∨ x.Op.n = 32 then decide (k < x.A.n) && decide (x.A.n ≤ n) else true
theorem mayC_A {x : Ins} (h : mayC x = 0) {s : Sh} (hs : getI shapes x.Op.n = some s) : s.fr ≤ x.A.n := by
  unfold mayC at h
  rw [hs] at h
  simp only at h
  split at h
  · simp at h
  · rename_i hc
    simp [inB] at hc
    omega
theorem okI_true {m : Image} {p n k : Int} {x : Ins} (h : mayC x = 0) (hs : stepE m p n k x = 0) : okI m p n k x = true := by
  obtain ⟨h0, h1⟩ := mayC_op h
  have hr : refersB m x p = true := by
    unfold stepE at hs; split at hs
    · simp at hs
    · rename_i hh; simpa using hh
  have ht : ∀ to, targetB x = some to → k + 1 ≤ to ∧ to ≤ n := fun to e => by
    unfold stepE at hs; rw [hr, e] at hs
    simp [wantE, inB] at hs
    omega
  have hA := fun s (hs : getI shapes x.Op.n = some s) => mayC_A h hs
  generalize he : x.Op.n = o at h0 h1 hA
  rcases ops_cases h0 h1 with rfl | rfl | rfl | rfl | rfl | rfl | rfl | rfl | rfl | rfl | rfl | rfl | rfl | rfl | rfl | rfl | rfl | rfl | rfl | rfl | rfl | rfl | rfl | rfl | rfl | rfl | rfl | rfl | rfl | rfl | rfl | rfl | rfl | rfl | rfl
  all_goals simp [okI, he, refersB, kinds, getI, shapes, cellB, targetB] at hr ht hA ⊢
  all_goals first | done | exact hr | omega
end Go.VE.Un

/- ImageRefers: an image without a flaw refers only to what is there. -/
namespace Go.VE.Un
open Go.VE
set_option linter.unusedVariables false
set_option linter.unusedSimpArgs false
theorem getI_lt {α : Type} {l : List α} {i : Int} {a : α} (h : getI l i = some a) : 0 ≤ i ∧ i < l.length := by
  rcases getI_cases l i with ⟨_, h0, h1, _⟩ | ⟨_, h1⟩
  · exact ⟨h0, h1⟩
  · rw [h1] at h; simp at h
set_option maxHeartbeats 4000000 in
set_option maxRecDepth 100000 in
theorem loop655_3 (m : Image) (hm : Clo m) (i : Int) {a : Action} (ha : getI m.Actions.l i = some a) (hok : ∀ k x, getI a.Code.l k = some x → okI m a.Params.l.length a.Code.l.length k x = true) : ∀ (r : List Ins) (k : Int), 0 ≤ k → k ≤ a.Code.l.length → a.Code.l.drop k.toNat = r →
    (orc vp).loop 0 [1, 3, 4] L655_3 [(1, .ptr 0 1 0 0), (3, .int .i64 i), (4, .int .i64 k)] [.arr [m.v]] =
      some (.brk 2, [(1, .ptr 0 1 0 0), (3, .int .i64 i), (4, .int .i64 a.Code.l.length), (35, .bool false)], [.arr [m.v]]) := by
  have hle := a.Code.le
  intro r
  induction r with
  | nil =>
    intro k hk hkl hd
    have hlt : ¬ k < a.Code.l.length := by have := drop_nil hk hd; omega
    have he : k = a.Code.l.length := by have := drop_nil hk hd; omega
    rw [lp655_3]
    simp -implicitDefEqProofs [l655_3, ha, hlt, he]
  | cons x r ih =>
    intro k hk hkl hd
    obtain ⟨hg, hlt, hd'⟩ := drop_cons hk hd
    have w1 : IntKind.i64.wrap (k + 1) = k + 1 := wrap64 (by omega) (by omega)
    have ih := ih (k + 1) (by omega) (by omega) hd'
    have ho := hok k x hg
    have hf := field489 m x.A.n x.B.n hm x.A.hi
    have hmt := meta491 m x.A.n x.A.lo x.A.hi
    unfold okI at ho
    rw [lp655_3]
    by_cases c1 : x.Op.n = 1
    · rw [if_pos (.inl c1)] at ho
      rw [ho] at hf
      simp -implicitDefEqProofs [l655_3, ha, hlt, hg, c1, hf, w1, ih]
    · by_cases c2 : x.Op.n = 22
      · rw [if_pos (.inr c2)] at ho
        rw [ho] at hf
        simp -implicitDefEqProofs [l655_3, ha, hlt, hg, c2, hf, w1, ih]
      · rw [if_neg (by omega)] at ho
        by_cases c3 : x.Op.n = 2
        · rw [if_pos (.inl c3)] at ho
          rw [ho] at hmt
          simp -implicitDefEqProofs [l655_3, ha, hlt, hg, c3, hmt, w1, ih]
        · by_cases c4 : x.Op.n = 23
          · rw [if_pos (.inr c4)] at ho
            rw [ho] at hmt
            simp -implicitDefEqProofs [l655_3, ha, hlt, hg, c4, hmt, w1, ih]
          · rw [if_neg (by omega)] at ho
            by_cases c5 : x.Op.n = 3
            · rw [if_pos c5] at ho
              simp at ho
              simp -implicitDefEqProofs [l655_3, ha, hlt, hg, c5, ho, w1, ih]
            · rw [if_neg c5] at ho
              by_cases c6 : x.Op.n = 5
              · rw [if_pos (.inl c6)] at ho
                simp at ho
                simp -implicitDefEqProofs [l655_3, ha, hlt, hg, c6, ho, w1, ih]
              · by_cases c7 : x.Op.n = 24
                · rw [if_pos (.inr c7)] at ho
                  simp at ho
                  simp -implicitDefEqProofs [l655_3, ha, hlt, hg, c7, ho, w1, ih]
                · rw [if_neg (by omega)] at ho
                  by_cases c8 : x.Op.n = 31
                  · rw [if_pos (.inl c8)] at ho
                    simp at ho
                    simp -implicitDefEqProofs [l655_3, ha, hlt, hg, c8, ho, w1, ih]
                  · by_cases c9 : x.Op.n = 32
                    · rw [if_pos (.inr c9)] at ho
                      simp at ho
                      simp -implicitDefEqProofs [l655_3, ha, hlt, hg, c9, ho, w1, ih]
                    · simp -implicitDefEqProofs [l655_3, ha, hlt, hg, c1, c2, c3, c4, c5, c6, c7, c8, c9, w1, ih]
theorem loop655_4 (m : Image) (hm : Clo m) (hc : checkI m = none) : ∀ (r : List Action) (k : Int), 0 ≤ k → k ≤ m.Actions.l.length → m.Actions.l.drop k.toNat = r →
    (orc vp).loop 0 [1, 3] L655_4 [(1, .ptr 0 1 0 0), (3, .int .i64 k)] [.arr [m.v]] =
      some (.brk 0, [(1, .ptr 0 1 0 0), (3, .int .i64 m.Actions.l.length), (24, .bool false)], [.arr [m.v]]) := by
  have hle := m.Actions.le
  intro r
  induction r with
  | nil =>
    intro k hk hkl hd
    have hlt : ¬ k < m.Actions.l.length := by have := drop_nil hk hd; omega
    have he : k = m.Actions.l.length := by have := drop_nil hk hd; omega
    rw [lp655_4]
    simp -implicitDefEqProofs [l655_4, hlt, he]
  | cons x r ih =>
    intro k hk hkl hd
    obtain ⟨hg, hlt, hd'⟩ := drop_cons hk hd
    have w1 : IntKind.i64.wrap (k + 1) = k + 1 := wrap64 (by omega) (by omega)
    have ih := ih (k + 1) (by omega) (by omega) hd'
    have hcode := codeF_0 (action_code hc hg)
    have h3 := loop655_3 m hm k hg (fun j y hy => okI_true (hcode j y hy).1 (hcode j y hy).2) x.Code.l 0 (by omega) (by omega) rfl
    rw [lp655_4]
    simp -implicitDefEqProofs [l655_4, hlt, h3, w1, ih]
end Go.VE.Un

/- ImageRefers: states, nodes, and the law. -/
namespace Go.VE.Un
open Go.VE
set_option linter.unusedVariables false
set_option linter.unusedSimpArgs false
theorem firstF_0 {α : Type} {f : α → Int} : ∀ {l : List α}, firstF f l = 0 → ∀ x ∈ l, f x = 0
  | [], _, x, hx => by simp at hx
  | a :: r, h, x, hx => by
    simp only [firstF] at h; split at h
    · rename_i h1; rcases List.mem_cons.1 hx with rfl | hx
      · exact h1
      · exact firstF_0 h x hx
    · rename_i h1; exact absurd h h1
theorem wantE_0 {b : Bool} {e : Int} (he : e ≠ 0) (h : wantE b e = 0) : b = true := by
  unfold wantE at h; split at h
  · assumption
  · exact absurd h he
theorem state_next {m : Image} (h : checkI m = none) {i : Int} {s : State} (hg : getI m.States.l i = some s) : ∀ x ∈ s.Cases.l, -2 ≤ x.Next.n ∧ x.Next.n < m.States.l.length := by
  have hp := check_none h 4 (by omega) (by omega)
  have hi := getI_lt hg
  have hp : (allE m.States.l.length 16 (stateE m)).2 = 0 := by
    simp [partE] at hp
    split at hp
    · simp at hp
    · exact hp
  have ha := (allE_0 hp).2 i hi.1 hi.2
  simp only [stateE, hg, stE] at ha
  split at ha
  · split at ha
    · split at ha
      · split at ha
        · rename_i ho
          intro x hx
          have h1 := firstF_0 ho x hx
          simp only [oneE] at h1
          split at h1
          · have h2 := (firstE_0 h1).2
            have := wantE_0 (by decide) h2
            simp [inB] at this
            omega
          · simp at h1
        · rename_i hx; exact absurd ha hx
      · rename_i hx; exact absurd ha hx
    · rename_i hx; exact absurd ha hx
  · rename_i hx; exact absurd ha hx
theorem node_ok {m : Image} (h : checkI m = none) {i : Int} {x : Node} (hg : getI m.Ingress.l i = some x) : i < x.Yes.n ∧ x.Yes.n ≤ m.Ingress.l.length ∧ (x.Kind.n = 0 → 0 ≤ x.A.n ∧ x.A.n < m.Tables.l.length) := by
  have hp := check_none h 7 (by omega) (by omega)
  have hi := getI_lt hg
  have hp : (nodesE m m.Ingress.l).2 = 0 := by simpa [partE] using hp
  have ha := (allE_0 hp).2 i hi.1 hi.2
  simp only [hg, nodeE] at ha
  split at ha
  · rename_i hA
    split at ha
    · have h2 := wantE_0 (by decide) (firstE_0 ha).2
      have h3 := wantE_0 (by decide) (firstE_0 hA).2
      simp at h2
      refine ⟨by omega, by omega, fun hk => ?_⟩
      unfold nodeNm at h3
      rw [if_pos hk] at h3
      simp [inB] at h3
      omega
    · rename_i hx; exact absurd ha hx
  · rename_i hx; exact absurd ha hx
theorem loop655_1 (m : Image) (hc : checkI m = none) (i : Int) {s : State} (hs : getI m.States.l i = some s) : ∀ (r : List Case) (k : Int), 0 ≤ k → k ≤ s.Cases.l.length → s.Cases.l.drop k.toNat = r →
    (orc vp).loop 0 [1, 7, 8] L655_1 [(1, .ptr 0 1 0 0), (7, .int .i64 i), (8, .int .i64 k)] [.arr [m.v]] =
      some (.brk 7, [(1, .ptr 0 1 0 0), (7, .int .i64 i), (8, .int .i64 s.Cases.l.length), (138, .bool false)], [.arr [m.v]]) := by
  have hle := s.Cases.le
  intro r
  induction r with
  | nil =>
    intro k hk hkl hd
    have hlt : ¬ k < s.Cases.l.length := by have := drop_nil hk hd; omega
    have he : k = s.Cases.l.length := by have := drop_nil hk hd; omega
    rw [lp655_1]
    simp -implicitDefEqProofs [l655_1, hs, hlt, he]
  | cons x r ih =>
    intro k hk hkl hd
    obtain ⟨hg, hlt, hd'⟩ := drop_cons hk hd
    have w1 : IntKind.i64.wrap (k + 1) = k + 1 := wrap64 (by omega) (by omega)
    have ih := ih (k + 1) (by omega) (by omega) hd'
    have hn := state_next hc hs x (List.mem_of_getElem? (by rw [getI, if_pos hk] at hg; exact hg))
    have n1 : ¬ x.Next.n < -2 := by omega
    have n2 : ¬ (m.States.l.length : Int) ≤ x.Next.n := by omega
    rw [lp655_1]
    simp -implicitDefEqProofs [l655_1, hs, hlt, hg, n1, n2, w1, ih]
theorem loop655_2 (m : Image) (hc : checkI m = none) : ∀ (r : List State) (k : Int), 0 ≤ k → k ≤ m.States.l.length → m.States.l.drop k.toNat = r →
    (orc vp).loop 0 [1, 7] L655_2 [(1, .ptr 0 1 0 0), (7, .int .i64 k)] [.arr [m.v]] =
      some (.brk 5, [(1, .ptr 0 1 0 0), (7, .int .i64 m.States.l.length), (127, .bool false)], [.arr [m.v]]) := by
  have hle := m.States.le
  intro r
  induction r with
  | nil =>
    intro k hk hkl hd
    have hlt : ¬ k < m.States.l.length := by have := drop_nil hk hd; omega
    have he : k = m.States.l.length := by have := drop_nil hk hd; omega
    rw [lp655_2]
    simp -implicitDefEqProofs [l655_2, hlt, he]
  | cons x r ih =>
    intro k hk hkl hd
    obtain ⟨hg, hlt, hd'⟩ := drop_cons hk hd
    have w1 : IntKind.i64.wrap (k + 1) = k + 1 := wrap64 (by omega) (by omega)
    have ih := ih (k + 1) (by omega) (by omega) hd'
    have h3 := loop655_1 m hc k hg x.Cases.l 0 (by omega) (by omega) rfl
    rw [lp655_2]
    simp -implicitDefEqProofs [l655_2, hlt, h3, w1, ih]
theorem cl_ingress {m : Image} (hm : Clo m) : closedB (GL.v 6 Node.v m.Ingress) = true := by
  simp only [Clo, Image.closed, Bool.and_eq_true] at hm; simp [hm]
set_option maxRecDepth 100000 in
theorem loop655_0 (m : Image) (hm : Clo m) (hc : checkI m = none) : ∀ (r : List Node) (k : Int), 0 ≤ k → k ≤ m.Ingress.l.length → m.Ingress.l.drop k.toNat = r →
    (orc vp).loop 0 [1, 9] L655_0 [(1, .ptr 0 1 0 0), (9, .int .i64 k)] [.arr [m.v]] =
      some (.brk 9, [(1, .ptr 0 1 0 0), (9, .int .i64 m.Ingress.l.length), (172, .bool false)], [.arr [m.v]]) := by
  have hle := m.Ingress.le
  intro r
  induction r with
  | nil =>
    intro k hk hkl hd
    have hlt : ¬ k < m.Ingress.l.length := by have := drop_nil hk hd; omega
    have he : k = m.Ingress.l.length := by have := drop_nil hk hd; omega
    rw [lp655_0]
    simp -implicitDefEqProofs [l655_0, hlt, he]
  | cons x r ih =>
    intro k hk hkl hd
    obtain ⟨hg, hlt, hd'⟩ := drop_cons hk hd
    have w1 : IntKind.i64.wrap (k + 1) = k + 1 := wrap64 (by omega) (by omega)
    have ih := ih (k + 1) (by omega) (by omega) hd'
    have hcl := closed_get (cl_ingress hm) hg
    simp only [Node.closed, Bool.and_eq_true] at hcl
    obtain ⟨y1, y2, y3⟩ := node_ok hc hg
    have n1 : ¬ x.Yes.n ≤ k := by omega
    have n2 : ¬ (m.Ingress.l.length : Int) < x.Yes.n := by omega
    rw [lp655_0]
    by_cases c : x.Kind.n = 0
    · have n3 : ¬ x.A.n < 0 := by have := y3 c; omega
      have n4 : ¬ (m.Tables.l.length : Int) ≤ x.A.n := by have := y3 c; omega
      simp -implicitDefEqProofs [l655_0, hlt, hg, hcl, c, n1, n2, n3, n4, w1, ih]
    · simp -implicitDefEqProofs [l655_0, hlt, hg, hcl, c, n1, n2, w1, ih]
set_option maxRecDepth 100000 in
theorem imageRefers (m : Image) (hm : Clo m) (hh : Held m) (hlv : callRO vp 659 [] = some (.bool true)) : callRO vp 655 [m.v] = some (.bool true) := by
  rw [callRO_K fn655]
  cases hl : lightB m
  · simp -implicitDefEqProofs [f655, b655, hh, hl, hlv]
  · have hck := check481 m hm (small_of_light hl)
    cases hc : checkI m with
    | some q =>
      obtain ⟨p, n, e⟩ := q
      rw [hc] at hck
      simp -implicitDefEqProofs [f655, b655, hh, hl, hlv, hck]
    | none =>
      rw [hc] at hck
      have l4 := loop655_4 m hm hc m.Actions.l 0 (by omega) (by omega) rfl
      have l2 := loop655_2 m hc m.States.l 0 (by omega) (by omega) rfl
      have l0 := loop655_0 m hm hc m.Ingress.l 0 (by omega) (by omega) rfl
      have h0 := check_none hc 0 (by omega) (by omega)
      have h0 : firstE [wantE (mayN m.Name.s) 4, wantE (inB m.Ports.n 1 64 && (inB m.Depth.n 1 32 && inB m.Rounds.n 0 4)) 7] = 0 := by simpa [partE] using h0
      have g1 := wantE_0 (by decide) (firstE_0 h0).1
      have g2 := wantE_0 (by decide) (firstE_0 h0).2
      have p1 : 1 ≤ m.Ports.n := by simp [inB] at g2; omega
      have p2 : 0 < m.Name.s.length := by
        rcases Nat.eq_zero_or_pos m.Name.s.length with hz | hz
        · have : m.Name.s = [] := List.length_eq_zero_iff.1 hz
          rw [this] at g1
          simp [mayN, runes, runesF, nameN] at g1
        · exact hz
      have p3 : (0 : Int) < m.Name.s.length := by omega
      simp -implicitDefEqProofs [f655, b655, hh, hl, hlv, hck, l4, l2, l0, p1, p2, p3]
end Go.VE.Un

