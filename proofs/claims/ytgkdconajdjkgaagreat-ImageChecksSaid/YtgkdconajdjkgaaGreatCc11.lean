/- Joined texts: CrR. No condition: what each theorem needs stands in it. -/
import Derived.Test.YtgkdconajdjkgaaGreatCc10
import Derived.Test.YtgkdconajdjkgaaGreatCc8
namespace Go.VE.Un
open Go.VE
set_option linter.unusedVariables false
set_option linter.unusedSimpArgs false
theorem buildMost (fr : Fr) : pureOp fr (.buildSl 1 [.c (.int .i64 0),.c (.int .i64 16),.c (.int .i64 0),.c (.int .i64 16),.c (.int .i64 16),.c (.int .i64 32),.c (.int .i64 8),.c (.int .i64 0),.c (.int .i64 0),.c (.int .i64 0),.c (.int .i64 0),.c (.int .i64 0),.c (.int .i64 8),.c (.int .i64 8),.c (.int .i64 8)]) =
 some (.sl 1 [.int .i64 0,.int .i64 16,.int .i64 0,.int .i64 16,.int .i64 16,.int .i64 32,.int .i64 8,.int .i64 0,.int .i64 0,.int .i64 0,.int .i64 0,.int .i64 0,.int .i64 8,.int .i64 8,.int .i64 8] .ce) := rfl
theorem heads_of {m : Image} (h : (partE m 2).2 = 0) : Heads m := by
  have h : mayI m.Headers.l.length m.Insts.l = 0 := by simpa [partE] using h
  unfold mayI at h
  split at h
  · simp at h
  · split at h
    · rename_i h1; exact absurd h h1
    · rename_i h1
      have go : ∀ (l : List Inst) (ns : List (List UInt8)), instsE m.Headers.l.length l ns = 0 → ∀ x ∈ l, 0 ≤ x.Header.n ∧ x.Header.n < m.Headers.l.length := by
        intro l
        induction l with
        | nil => intro ns _ x hx; simp at hx
        | cons y r ih =>
          intro ns h x hx
          simp only [instsE] at h
          split at h
          · simp at h
          · split at h
            · simp at h
            · split at h
              · simp at h
              · rename_i h3
                split at h
                · simp at h
                · rcases List.mem_cons.1 hx with rfl | hx
                  · simp [inB] at h3; omega
                  · exact ih _ h x hx
      exact go m.Insts.l [] (by simpa using h1)
theorem hdrOK_of {m : Image} (h : (partE m 1).2 = 0) : HdrOK m := by
 have h : (allE m.Headers.l.length 16 (headerE m)).2 = 0 := by simpa [partE] using h
 have hh := (allE_0 h).2
 intro x hx
 obtain ⟨i,hi,he⟩ := List.getElem_of_mem hx
 have := hh i (by omega) (by omega)
 unfold headerE at this
 rw [getI_nat,List.getElem?_eq_getElem hi,he] at this
 simp only at this
 split at this
 ·assumption
 ·rename_i h2; exact absurd this h2
theorem nm_len (l : List GS) : (nm l).length = l.length := by simp [nm]
theorem nm_small {m : Image} (hT : Tiny m) (p : Int) : (nm (titles m p)).length ≤ 17592186044416 ∧ ∀ x ∈ nm (titles m p),x.length ≤ 17592186044416 := by
 refine ⟨?_,fun x hx => ?_⟩
 ·rw [nm_len]; have := titles_len hT.held p; omega
 ·obtain ⟨y,hy,rfl⟩ := List.mem_map.1 hx; exact hT.titles p y hy
section
variable (m : Image) (hm : Clo m) (hT : Tiny m)
include hT in
theorem part843_0 : callRO vp 843 [m.v, .int .i64 0] = some (.tup [.int .i64 (partE m 0).1, .int .i64 (partE m 0).2]) := by
  have hn := may805 m.Name.s hT.name
  have hp : partE m 0 = (0, firstE [wantE (mayN m.Name.s) 4, wantE (inB m.Ports.n 1 64 && (inB m.Depth.n 1 32 && inB m.Rounds.n 0 4)) 7]) := by unfold partE; rw [if_pos rfl]
  rw [hp, callRO_K fn843]
  cases c0 : mayN m.Name.s with
  | false =>
    rw [c0] at hn
    simp -implicitDefEqProofs [hn, firstE, wantE]
  | true =>
    rw [c0] at hn
    by_cases p1 : m.Ports.n < 1
    · rw [inB_split.2 (.inl p1)]; simp -implicitDefEqProofs [hn, firstE, wantE, p1]
    by_cases p2 : 64 < m.Ports.n
    · rw [inB_split.2 (.inr p2)]; simp -implicitDefEqProofs [hn, firstE, wantE, p1, p2]
    have e1 : inB m.Ports.n 1 64 = true := by unfold inB; simp; omega
    rw [e1]
    by_cases d1 : m.Depth.n < 1
    · rw [inB_split.2 (.inl d1)]; simp -implicitDefEqProofs [hn, firstE, wantE, p1, p2, d1]
    by_cases d2 : 32 < m.Depth.n
    · rw [inB_split.2 (.inr d2)]; simp -implicitDefEqProofs [hn, firstE, wantE, p1, p2, d1, d2]
    have e2 : inB m.Depth.n 1 32 = true := by unfold inB; simp; omega
    rw [e2]
    by_cases r1 : m.Rounds.n < 0
    · rw [inB_split.2 (.inl r1)]; simp -implicitDefEqProofs [hn, firstE, wantE, p1, p2, d1, d2, r1]
    by_cases r2 : 4 < m.Rounds.n
    · rw [inB_split.2 (.inr r2)]; simp -implicitDefEqProofs [hn, firstE, wantE, p1, p2, d1, d2, r1, r2]
    have e3 : inB m.Rounds.n 0 4 = true := by unfold inB; simp; omega
    rw [e3]
    simp -implicitDefEqProofs [hn, firstE, wantE, p1, p2, d1, d2, r1, r2]
include hT in
theorem part843_2 : callRO vp 843 [m.v,.int .i64 2] = some (.tup [.int .i64 (partE m 2).1,.int .i64 (partE m 2).2]) := by
 have hi := rinsts820 m.Headers m.Insts hT.ins
 have hp : partE m 2 = (0,mayI m.Headers.l.length m.Insts.l) := by simp [partE]
 rw [hp,callRO_K fn843]
 simp -implicitDefEqProofs [hi]
include hm hT in
theorem part843_9 : callRO vp 843 [m.v,.int .i64 9] = some (.tup [.int .i64 (partE m 9).1,.int .i64 (partE m 9).2]) := by
 obtain ⟨h,hl⟩ := loop843_2 m hm hT.insts m.Deparse.l.length 0 (by omega) (by omega)
 have hp : partE m 9 = allE m.Deparse.l.length 32 (outE m) := by simp [partE]
 rw [hp,callRO_K fn843]
 unfold allE
 rw [show ((m.Deparse.l.length : Nat) : Int).toNat = m.Deparse.l.length from rfl]
 generalize allR (outE m) m.Deparse.l.length 0 = A at *
 by_cases c : (32 : Int) < m.Deparse.l.length
 ·rw [if_pos c]; simp -implicitDefEqProofs [c]
 ·rw [if_neg c]
  cases A with
  | none => simp -implicitDefEqProofs [c,hl]
  | some q => simp -implicitDefEqProofs [c,hl]
include hm hT in
theorem part843_7 : callRO vp 843 [m.v,.int .i64 7] = some (.tup [.int .i64 (partE m 7).1,.int .i64 (partE m 7).2]) := by
 have hn := rnodes842 m hm hT.insts m.Ingress
 have hp : partE m 7 = nodesE m m.Ingress.l := by simp [partE]
 rw [hp,callRO_K fn843]
 simp -implicitDefEqProofs [hn]
include hm hT in
theorem part843_8 : callRO vp 843 [m.v,.int .i64 8] = some (.tup [.int .i64 (partE m 8).1,.int .i64 (partE m 8).2]) := by
 have hn := rnodes842 m hm hT.insts m.Egress
 have hp : partE m 8 = nodesE m m.Egress.l := by simp [partE]
 rw [hp,callRO_K fn843]
 simp -implicitDefEqProofs [hn]
include hm hT in
theorem part843_10 (hH : HdrOK m) : callRO vp 843 [m.v,.int .i64 10] = some (.tup [.int .i64 (partE m 10).1,.int .i64 (partE m 10).2]) := by
 have hn := rsums846 m hm hT.insts hH m.Checks
 have hp : partE m 10 = sumsE m m.Checks.l := by simp [partE]
 rw [hp,callRO_K fn843]
 simp -implicitDefEqProofs [hn]
include hm hT in
theorem part843_11 (hH : HdrOK m) : callRO vp 843 [m.v,.int .i64 11] = some (.tup [.int .i64 (partE m 11).1,.int .i64 (partE m 11).2]) := by
 have hn := rsums846 m hm hT.insts hH m.Updates
 have hp : partE m 11 = sumsE m m.Updates.l := by simp [partE]
 rw [hp,callRO_K fn843]
 simp -implicitDefEqProofs [hn]
include hT in
theorem part843_1 : callRO vp 843 [m.v,.int .i64 1] = some (.tup [.int .i64 (partE m 1).1,.int .i64 (partE m 1).2]) := by
 have ht := titles836 m 1 hT.held
 obtain ⟨hn,hb⟩ := nm_small hT 1
 have hns : nm (titles m 1) = nHeaders m := by simp [nm,titles,nHeaders]
 rw [nm_str,hns] at ht
 rw [hns] at hn hb
 have hlen : (nHeaders m).length = m.Headers.l.length := by simp [nHeaders]
 have hl := loop843_h m hT (nHeaders m) rfl .perm hn hb (nHeaders m).length 0 (by omega) (by omega)
 have hp : partE m 1 = allE m.Headers.l.length 16 (headerE m) := by simp [partE]
 have hg : iaddrV 1 (.sl 1 [.int .i64 0,.int .i64 16,.int .i64 0,.int .i64 16,.int .i64 16,.int .i64 32,.int .i64 8,.int .i64 0,.int .i64 0,.int .i64 0,.int .i64 0,.int .i64 0,.int .i64 8,.int .i64 8,.int .i64 8] .ce) (.int .i64 1) = some (.eptr (.int .i64 16) 0 .ce) := rfl
 rw [hp,callRO_K fn843]
 unfold allE
 rw [hlen] at hl
 rw [show ((m.Headers.l.length : Nat) : Int).toNat = m.Headers.l.length from rfl]
 generalize allR (headerE m) m.Headers.l.length 0 = A at *
 have hsl : ((nHeaders m).map V.str).length = m.Headers.l.length := by simp [nHeaders]
 have hbl : belowL 0 ((nHeaders m).map V.str) = true := strs_below _ _
 generalize (nHeaders m).map V.str = sl at *
 by_cases c : (16 : Int) < m.Headers.l.length
 ·rw [if_pos c]
  simp -implicitDefEqProofs [ht,hsl,hbl,buildMost,hg,c]
 ·rw [if_neg c]
  cases A with
  | none => simp -implicitDefEqProofs [ht,hsl,hbl,buildMost,hg,c,hl]
  | some q => simp -implicitDefEqProofs [ht,hsl,hbl,buildMost,hg,c,hl]
include hT in
theorem part843_3 : callRO vp 843 [m.v,.int .i64 3] = some (.tup [.int .i64 (partE m 3).1,.int .i64 (partE m 3).2]) := by
 have ht := titles836 m 3 hT.held
 obtain ⟨hn,hb⟩ := nm_small hT 3
 have hns : nm (titles m 3) = nMetas m := by simp [nm,titles,nMetas]
 rw [nm_str,hns] at ht
 rw [hns] at hn hb
 have hlen : (nMetas m).length = m.Metas.l.length := by simp [nMetas]
 have get : ∀ i : Int,0 ≤ i → i < (nMetas m).length → ∃ x,getI m.Metas.l i = some x := fun i h0 h1 => by
  rcases getI_cases m.Metas.l i with ⟨x,_,_,hg⟩ | ⟨h,_⟩
  ·exact ⟨x,hg⟩
  ·omega
 have hl := loop843_0 m 3 (by omega) (nMetas m) .perm hn hb (fun i => match getI m.Metas.l i with | some x => wantE (inB x.W.n 1 128) 9 | none => 0)
  (fun i h0 h1 => by obtain ⟨x,hg⟩ := get i h0 h1; have := thing848_3 m i hg; rw [this,hg])
  (metaE m) (fun i h0 h1 => by obtain ⟨x,hg⟩ := get i h0 h1; rw [metaE_eq m hg,hg]) (nMetas m).length 0 (by omega) (by omega)
 have hp : partE m 3 = allE m.Metas.l.length 16 (metaE m) := by simp [partE]
 have hg : iaddrV 1 (.sl 1 [.int .i64 0,.int .i64 16,.int .i64 0,.int .i64 16,.int .i64 16,.int .i64 32,.int .i64 8,.int .i64 0,.int .i64 0,.int .i64 0,.int .i64 0,.int .i64 0,.int .i64 8,.int .i64 8,.int .i64 8] .ce) (.int .i64 3) = some (.eptr (.int .i64 16) 0 .ce) := rfl
 rw [hp,callRO_K fn843]
 unfold allE
 rw [hlen] at hl
 rw [show ((m.Metas.l.length : Nat) : Int).toNat = m.Metas.l.length from rfl]
 generalize allR (metaE m) m.Metas.l.length 0 = A at *
 have hsl : ((nMetas m).map V.str).length = m.Metas.l.length := by simp [nMetas]
 have hbl : belowL 0 ((nMetas m).map V.str) = true := strs_below _ _
 generalize (nMetas m).map V.str = sl at *
 by_cases c : (16 : Int) < m.Metas.l.length
 ·rw [if_pos c]
  simp -implicitDefEqProofs [ht,hsl,hbl,buildMost,hg,c]
 ·rw [if_neg c]
  cases A with
  | none => simp -implicitDefEqProofs [ht,hsl,hbl,buildMost,hg,c,hl]
  | some q => simp -implicitDefEqProofs [ht,hsl,hbl,buildMost,hg,c,hl]
include hm hT in
theorem part843_4 (hh : Heads m) : callRO vp 843 [m.v,.int .i64 4] = some (.tup [.int .i64 (partE m 4).1,.int .i64 (partE m 4).2]) := by
 have ht := titles836 m 4 hT.held
 obtain ⟨hn,hb⟩ := nm_small hT 4
 have hns : nm (titles m 4) = nStates m := by simp [nm,titles,nStates]
 rw [nm_str,hns] at ht
 rw [hns] at hn hb
 have hlen : (nStates m).length = m.States.l.length := by simp [nStates]
 have get : ∀ i : Int,0 ≤ i → i < (nStates m).length → ∃ x,getI m.States.l i = some x := fun i h0 h1 => by
  rcases getI_cases m.States.l i with ⟨x,_,_,hg⟩ | ⟨h,_⟩
  ·exact ⟨x,hg⟩
  ·omega
 have hl := loop843_0 m 4 (by omega) (nStates m) .perm hn hb (fun i => match getI m.States.l i with | some x => stN m x | none => 0)
  (fun i h0 h1 => by obtain ⟨x,hg⟩ := get i h0 h1; have := thing848_4 m hm hT.insts hh i hg; rw [this,hg])
  (stateE m) (fun i h0 h1 => by obtain ⟨x,hg⟩ := get i h0 h1; rw [stateE_eq m hg,hg]) (nStates m).length 0 (by omega) (by omega)
 have hp : partE m 4 = (if m.States.l.length = 0 then (0,5) else allE m.States.l.length 16 (stateE m)) := by simp [partE]
 have hg : iaddrV 1 (.sl 1 [.int .i64 0,.int .i64 16,.int .i64 0,.int .i64 16,.int .i64 16,.int .i64 32,.int .i64 8,.int .i64 0,.int .i64 0,.int .i64 0,.int .i64 0,.int .i64 0,.int .i64 8,.int .i64 8,.int .i64 8] .ce) (.int .i64 4) = some (.eptr (.int .i64 16) 0 .ce) := rfl
 rw [hp,callRO_K fn843]
 unfold allE
 rw [hlen] at hl
 rw [show ((m.States.l.length : Nat) : Int).toNat = m.States.l.length from rfl]
 generalize allR (stateE m) m.States.l.length 0 = A at *
 have hsl : ((nStates m).map V.str).length = m.States.l.length := by simp [nStates]
 have hbl : belowL 0 ((nStates m).map V.str) = true := strs_below _ _
 generalize (nStates m).map V.str = sl at *
 by_cases z : m.States.l.length = 0
 ·have z' : m.States.l = [] := List.length_eq_zero_iff.1 z
  rw [if_pos z]
  rw [z] at hsl
  have hs0 : sl = [] := List.length_eq_zero_iff.1 hsl
  subst hs0
  simp -implicitDefEqProofs [ht,buildMost,hg]
 rw [if_neg z]
 have z' : ¬ m.States.l = [] := fun h => z (by rw [h]; rfl)
 by_cases c : (16 : Int) < m.States.l.length
 ·rw [if_pos c]
  simp -implicitDefEqProofs [ht,hsl,hbl,buildMost,hg,c,z']
 ·rw [if_neg c]
  cases A with
  | none => simp -implicitDefEqProofs [ht,hsl,hbl,buildMost,hg,c,hl,z']
  | some q => simp -implicitDefEqProofs [ht,hsl,hbl,buildMost,hg,c,hl,z']
include hm hT in
theorem part843_5 : callRO vp 843 [m.v,.int .i64 5] = some (.tup [.int .i64 (partE m 5).1,.int .i64 (partE m 5).2]) := by
 have ht := titles836 m 5 hT.held
 obtain ⟨hn,hb⟩ := nm_small hT 5
 have hns : nm (titles m 5) = nActions m := by simp [nm,titles,nActions]
 rw [nm_str,hns] at ht
 rw [hns] at hn hb
 have hlen : (nActions m).length = m.Actions.l.length := by simp [nActions]
 have get : ∀ i : Int,0 ≤ i → i < (nActions m).length → ∃ x,getI m.Actions.l i = some x := fun i h0 h1 => by
  rcases getI_cases m.Actions.l i with ⟨x,_,_,hg⟩ | ⟨h,_⟩
  ·exact ⟨x,hg⟩
  ·omega
 have hl := loop843_0 m 5 (by omega) (nActions m) .perm hn hb (fun i => match getI m.Actions.l i with | some x => actN m x | none => 0)
  (fun i h0 h1 => by obtain ⟨x,hg⟩ := get i h0 h1; have := thing848_5 m hm hT.insts i hg; rw [this,hg])
  (actionE m) (fun i h0 h1 => by obtain ⟨x,hg⟩ := get i h0 h1; rw [actionE_eq m hg,hg]) (nActions m).length 0 (by omega) (by omega)
 have hp : partE m 5 = allE m.Actions.l.length 32 (actionE m) := by simp [partE]
 have hg : iaddrV 1 (.sl 1 [.int .i64 0,.int .i64 16,.int .i64 0,.int .i64 16,.int .i64 16,.int .i64 32,.int .i64 8,.int .i64 0,.int .i64 0,.int .i64 0,.int .i64 0,.int .i64 0,.int .i64 8,.int .i64 8,.int .i64 8] .ce) (.int .i64 5) = some (.eptr (.int .i64 32) 0 .ce) := rfl
 rw [hp,callRO_K fn843]
 unfold allE
 rw [hlen] at hl
 rw [show ((m.Actions.l.length : Nat) : Int).toNat = m.Actions.l.length from rfl]
 generalize allR (actionE m) m.Actions.l.length 0 = A at *
 have hsl : ((nActions m).map V.str).length = m.Actions.l.length := by simp [nActions]
 have hbl : belowL 0 ((nActions m).map V.str) = true := strs_below _ _
 generalize (nActions m).map V.str = sl at *
 by_cases c : (32 : Int) < m.Actions.l.length
 ·rw [if_pos c]
  simp -implicitDefEqProofs [ht,hsl,hbl,buildMost,hg,c]
 ·rw [if_neg c]
  cases A with
  | none => simp -implicitDefEqProofs [ht,hsl,hbl,buildMost,hg,c,hl]
  | some q => simp -implicitDefEqProofs [ht,hsl,hbl,buildMost,hg,c,hl]
include hm hT in
theorem part843_6 : callRO vp 843 [m.v,.int .i64 6] = some (.tup [.int .i64 (partE m 6).1,.int .i64 (partE m 6).2]) := by
 have ht := titles836 m 6 hT.held
 obtain ⟨hn,hb⟩ := nm_small hT 6
 have hns : nm (titles m 6) = nTables m := by simp [nm,titles,nTables]
 rw [nm_str,hns] at ht
 rw [hns] at hn hb
 have hlen : (nTables m).length = m.Tables.l.length := by simp [nTables]
 have get : ∀ i : Int,0 ≤ i → i < (nTables m).length → ∃ x,getI m.Tables.l i = some x := fun i h0 h1 => by
  rcases getI_cases m.Tables.l i with ⟨x,_,_,hg⟩ | ⟨h,_⟩
  ·exact ⟨x,hg⟩
  ·omega
 have hl := loop843_0 m 6 (by omega) (nTables m) .perm hn hb (fun i => match getI m.Tables.l i with | some x => tabN m x | none => 0)
  (fun i h0 h1 => by obtain ⟨x,hg⟩ := get i h0 h1; have := thing848_6 m hm hT.insts i hg; rw [this,hg])
  (tableE m) (fun i h0 h1 => by obtain ⟨x,hg⟩ := get i h0 h1; rw [tableE_eq m hg,hg]) (nTables m).length 0 (by omega) (by omega)
 have hp : partE m 6 = allE m.Tables.l.length 8 (tableE m) := by simp [partE]
 have hg : iaddrV 1 (.sl 1 [.int .i64 0,.int .i64 16,.int .i64 0,.int .i64 16,.int .i64 16,.int .i64 32,.int .i64 8,.int .i64 0,.int .i64 0,.int .i64 0,.int .i64 0,.int .i64 0,.int .i64 8,.int .i64 8,.int .i64 8] .ce) (.int .i64 6) = some (.eptr (.int .i64 8) 0 .ce) := rfl
 rw [hp,callRO_K fn843]
 unfold allE
 rw [hlen] at hl
 rw [show ((m.Tables.l.length : Nat) : Int).toNat = m.Tables.l.length from rfl]
 generalize allR (tableE m) m.Tables.l.length 0 = A at *
 have hsl : ((nTables m).map V.str).length = m.Tables.l.length := by simp [nTables]
 have hbl : belowL 0 ((nTables m).map V.str) = true := strs_below _ _
 generalize (nTables m).map V.str = sl at *
 by_cases c : (8 : Int) < m.Tables.l.length
 ·rw [if_pos c]
  simp -implicitDefEqProofs [ht,hsl,hbl,buildMost,hg,c]
 ·rw [if_neg c]
  cases A with
  | none => simp -implicitDefEqProofs [ht,hsl,hbl,buildMost,hg,c,hl]
  | some q => simp -implicitDefEqProofs [ht,hsl,hbl,buildMost,hg,c,hl]
include hT in
theorem part843_12 : callRO vp 843 [m.v,.int .i64 12] = some (.tup [.int .i64 (partE m 12).1,.int .i64 (partE m 12).2]) := by
 have ht := titles836 m 12 hT.held
 obtain ⟨hn,hb⟩ := nm_small hT 12
 have hns : nm (titles m 12) = nRegs m := by simp [nm,titles,nRegs]
 rw [nm_str,hns] at ht
 rw [hns] at hn hb
 have hlen : (nRegs m).length = m.Regs.l.length := by simp [nRegs]
 have get : ∀ i : Int,0 ≤ i → i < (nRegs m).length → ∃ x,getI m.Regs.l i = some x := fun i h0 h1 => by
  rcases getI_cases m.Regs.l i with ⟨x,_,_,hg⟩ | ⟨h,_⟩
  ·exact ⟨x,hg⟩
  ·omega
 have hl := loop843_0 m 12 (by omega) (nRegs m) .perm hn hb (fun i => match getI m.Regs.l i with | some x => if inB x.W.n 1 128 = false then 9 else logE x.Log.n | none => 0)
  (fun i h0 h1 => by obtain ⟨x,hg⟩ := get i h0 h1; have := thing848_12 m i hg; rw [this,hg])
  (regE m) (fun i h0 h1 => by obtain ⟨x,hg⟩ := get i h0 h1; rw [regE_eq m hg,hg]) (nRegs m).length 0 (by omega) (by omega)
 have hp : partE m 12 = allE m.Regs.l.length 8 (regE m) := by simp [partE]
 have hg : iaddrV 1 (.sl 1 [.int .i64 0,.int .i64 16,.int .i64 0,.int .i64 16,.int .i64 16,.int .i64 32,.int .i64 8,.int .i64 0,.int .i64 0,.int .i64 0,.int .i64 0,.int .i64 0,.int .i64 8,.int .i64 8,.int .i64 8] .ce) (.int .i64 12) = some (.eptr (.int .i64 8) 0 .ce) := rfl
 rw [hp,callRO_K fn843]
 unfold allE
 rw [hlen] at hl
 rw [show ((m.Regs.l.length : Nat) : Int).toNat = m.Regs.l.length from rfl]
 generalize allR (regE m) m.Regs.l.length 0 = A at *
 have hsl : ((nRegs m).map V.str).length = m.Regs.l.length := by simp [nRegs]
 have hbl : belowL 0 ((nRegs m).map V.str) = true := strs_below _ _
 generalize (nRegs m).map V.str = sl at *
 by_cases c : (8 : Int) < m.Regs.l.length
 ·rw [if_pos c]
  simp -implicitDefEqProofs [ht,hsl,hbl,buildMost,hg,c]
 ·rw [if_neg c]
  cases A with
  | none => simp -implicitDefEqProofs [ht,hsl,hbl,buildMost,hg,c,hl]
  | some q => simp -implicitDefEqProofs [ht,hsl,hbl,buildMost,hg,c,hl]
include hT in
theorem part843_13 : callRO vp 843 [m.v,.int .i64 13] = some (.tup [.int .i64 (partE m 13).1,.int .i64 (partE m 13).2]) := by
 have ht := titles836 m 13 hT.held
 obtain ⟨hn,hb⟩ := nm_small hT 13
 have hns : nm (titles m 13) = nCounters m := by simp [nm,titles,nCounters]
 rw [nm_str,hns] at ht
 rw [hns] at hn hb
 have hlen : (nCounters m).length = m.Counters.l.length := by simp [nCounters]
 have get : ∀ i : Int,0 ≤ i → i < (nCounters m).length → ∃ x,getI m.Counters.l i = some x := fun i h0 h1 => by
  rcases getI_cases m.Counters.l i with ⟨x,_,_,hg⟩ | ⟨h,_⟩
  ·exact ⟨x,hg⟩
  ·omega
 have hl := loop843_0 m 13 (by omega) (nCounters m) .perm hn hb (fun i => match getI m.Counters.l i with | some x => logE x.Log.n | none => 0)
  (fun i h0 h1 => by obtain ⟨x,hg⟩ := get i h0 h1; have := thing848_13 m i hg; rw [this,hg])
  (counterE m) (fun i h0 h1 => by obtain ⟨x,hg⟩ := get i h0 h1; rw [counterE_eq m hg,hg]) (nCounters m).length 0 (by omega) (by omega)
 have hp : partE m 13 = allE m.Counters.l.length 8 (counterE m) := by simp [partE]
 have hg : iaddrV 1 (.sl 1 [.int .i64 0,.int .i64 16,.int .i64 0,.int .i64 16,.int .i64 16,.int .i64 32,.int .i64 8,.int .i64 0,.int .i64 0,.int .i64 0,.int .i64 0,.int .i64 0,.int .i64 8,.int .i64 8,.int .i64 8] .ce) (.int .i64 13) = some (.eptr (.int .i64 8) 0 .ce) := rfl
 rw [hp,callRO_K fn843]
 unfold allE
 rw [hlen] at hl
 rw [show ((m.Counters.l.length : Nat) : Int).toNat = m.Counters.l.length from rfl]
 generalize allR (counterE m) m.Counters.l.length 0 = A at *
 have hsl : ((nCounters m).map V.str).length = m.Counters.l.length := by simp [nCounters]
 have hbl : belowL 0 ((nCounters m).map V.str) = true := strs_below _ _
 generalize (nCounters m).map V.str = sl at *
 by_cases c : (8 : Int) < m.Counters.l.length
 ·rw [if_pos c]
  simp -implicitDefEqProofs [ht,hsl,hbl,buildMost,hg,c]
 ·rw [if_neg c]
  cases A with
  | none => simp -implicitDefEqProofs [ht,hsl,hbl,buildMost,hg,c,hl]
  | some q => simp -implicitDefEqProofs [ht,hsl,hbl,buildMost,hg,c,hl]
include hT in
theorem part843_14 : callRO vp 843 [m.v,.int .i64 14] = some (.tup [.int .i64 (partE m 14).1,.int .i64 (partE m 14).2]) := by
 have ht := titles836 m 14 hT.held
 obtain ⟨hn,hb⟩ := nm_small hT 14
 have hns : nm (titles m 14) = nMeters m := by simp [nm,titles,nMeters]
 rw [nm_str,hns] at ht
 rw [hns] at hn hb
 have hlen : (nMeters m).length = m.Meters.l.length := by simp [nMeters]
 have get : ∀ i : Int,0 ≤ i → i < (nMeters m).length → ∃ x,getI m.Meters.l i = some x := fun i h0 h1 => by
  rcases getI_cases m.Meters.l i with ⟨x,_,_,hg⟩ | ⟨h,_⟩
  ·exact ⟨x,hg⟩
  ·omega
 have hl := loop843_0 m 14 (by omega) (nMeters m) .perm hn hb (fun i => match getI m.Meters.l i with | some x => if logE x.Log.n = 0 then wantE (inB x.Rate.n 0 65535 && inB x.Burst.n 1 1048576) 7 else 7 | none => 0)
  (fun i h0 h1 => by obtain ⟨x,hg⟩ := get i h0 h1; have := thing848_14 m i hg; rw [this,hg])
  (meterE m) (fun i h0 h1 => by obtain ⟨x,hg⟩ := get i h0 h1; rw [meterE_eq m hg,hg]) (nMeters m).length 0 (by omega) (by omega)
 have hp : partE m 14 = allE m.Meters.l.length 8 (meterE m) := by simp [partE]
 have hg : iaddrV 1 (.sl 1 [.int .i64 0,.int .i64 16,.int .i64 0,.int .i64 16,.int .i64 16,.int .i64 32,.int .i64 8,.int .i64 0,.int .i64 0,.int .i64 0,.int .i64 0,.int .i64 0,.int .i64 8,.int .i64 8,.int .i64 8] .ce) (.int .i64 14) = some (.eptr (.int .i64 8) 0 .ce) := rfl
 rw [hp,callRO_K fn843]
 unfold allE
 rw [hlen] at hl
 rw [show ((m.Meters.l.length : Nat) : Int).toNat = m.Meters.l.length from rfl]
 generalize allR (meterE m) m.Meters.l.length 0 = A at *
 have hsl : ((nMeters m).map V.str).length = m.Meters.l.length := by simp [nMeters]
 have hbl : belowL 0 ((nMeters m).map V.str) = true := strs_below _ _
 generalize (nMeters m).map V.str = sl at *
 by_cases c : (8 : Int) < m.Meters.l.length
 ·rw [if_pos c]
  simp -implicitDefEqProofs [ht,hsl,hbl,buildMost,hg,c]
 ·rw [if_neg c]
  cases A with
  | none => simp -implicitDefEqProofs [ht,hsl,hbl,buildMost,hg,c,hl]
  | some q => simp -implicitDefEqProofs [ht,hsl,hbl,buildMost,hg,c,hl]
end
theorem part843 (m : Image) (hm : Clo m) (hT : Tiny m) (p : Int) (h0 : 0 ≤ p) (h1 : p < 15) (hH : 1 < p → HdrOK m) (hI : 2 < p → Heads m) : callRO vp 843 [m.v,.int .i64 p] = some (.tup [.int .i64 (partE m p).1,.int .i64 (partE m p).2]) := by
 have hp : p = 0 ∨ p = 1 ∨ p = 2 ∨ p = 3 ∨ p = 4 ∨ p = 5 ∨ p = 6 ∨ p = 7 ∨ p = 8 ∨ p = 9 ∨ p = 10 ∨ p = 11 ∨ p = 12 ∨ p = 13 ∨ p = 14 := by omega
 rcases hp with rfl | rfl | rfl | rfl | rfl | rfl | rfl | rfl | rfl | rfl | rfl | rfl | rfl | rfl | rfl
 ·exact part843_0 m hT
 ·exact part843_1 m hT
 ·exact part843_2 m hT
 ·exact part843_3 m hT
 ·exact part843_4 m hm hT (hI (by omega))
 ·exact part843_5 m hm hT
 ·exact part843_6 m hm hT
 ·exact part843_7 m hm hT
 ·exact part843_8 m hm hT
 ·exact part843_9 m hm hT
 ·exact part843_10 m hm hT (hH (by omega))
 ·exact part843_11 m hm hT (hH (by omega))
 ·exact part843_12 m hT
 ·exact part843_13 m hT
 ·exact part843_14 m hT
theorem loop828 (m : Image) (hm : Clo m) (hT : Tiny m) : ∀ (j : Nat) (k : Int), 0 ≤ k → k + j = 15 → (1 < k → HdrOK m) → (2 < k → Heads m) →
    (orc vp).loop 0 [1, 5] L828_0 [(1, .ptr 0 1 0 0), (5, .int .i64 k)] [.arr [m.v]] =
      (match checkR m j k with
       | none => some (.brk 0, [(1, .ptr 0 1 0 0), (5, .int .i64 15), (9, .bool false)], [.arr [m.v]])
       | some (p, n, e) => some (.ret, [(2, .int .i64 p), (3, .int .i64 n), (4, .int .i64 e)], [.arr [m.v]])) := by
  intro j
  induction j with
  | zero =>
    intro k hk hkn _ _
    have : k = 15 := by omega
    subst this
    rw [lp828_0]
    simp -implicitDefEqProofs [checkR]
  | succ j ih =>
    intro k hk hkn hH hI
    have hlt : k < 15 := by omega
    have w1 : IntKind.i64.wrap (k + 1) = k + 1 := wrap64 (by omega) (by omega)
    have hp := part843 m hm hT k hk hlt hH hI
    rw [lp828_0]
    by_cases c : (partE m k).2 = 0
    · have ih := ih (k + 1) (by omega) (by omega) (fun h => by
        by_cases h2 : 1 < k
        · exact hH h2
        · have : k = 1 := by omega
          subst this
          exact hdrOK_of c) (fun h => by
        by_cases h2 : 2 < k
        · exact hI h2
        · have : k = 2 := by omega
          subst this
          exact heads_of c)
      simp -implicitDefEqProofs [hlt, hp, c, w1, ih, checkR]
    · simp -implicitDefEqProofs [hlt, hp, c, checkR]
def check3 (m : Image) : Int × Int × Int := (checkI m).getD (0,0,0)
theorem check828 (m : Image) (hm : Clo m) (hT : Tiny m) : callRO vp 828 [m.v] = some (.tup [.int .i64 (check3 m).1, .int .i64 (check3 m).2.1, .int .i64 (check3 m).2.2]) := by
  have hl := loop828 m hm hT 15 0 (by omega) (by omega) (by omega) (by omega)
  unfold check3 checkI
  rw [callRO_K fn828]
  cases hc : checkR m 15 0 with
  | none =>
    rw [hc] at hl
    simp -implicitDefEqProofs [hl]
  | some q =>
    obtain ⟨p, n, e⟩ := q
    rw [hc] at hl
    simp -implicitDefEqProofs [hl]
theorem why495_nil : callRO vp 495 [.nili] = some (.tup [.int .i64 0,.int .i64 0,.int .i64 0]) := by
 rw [callRO_K fn495]
 simp -implicitDefEqProofs [b495]
theorem why495 (p n e : Int) (t : Tag) : callRO vp 495 [.iface 121 (.eptr (flawV p n e) 0 t)] = some (.tup [.int .i64 p,.int .i64 n,.int .i64 e]) := by
 rw [callRO_K fn495]
 simp -implicitDefEqProofs [flawV,pureOp]
theorem check_why (m : Image) (hm : Clo m) (hs : Small m) : ∃ F,callRO vp 481 [m.v] = some F ∧ callRO vp 495 [F] = some (.tup [.int .i64 (check3 m).1,.int .i64 (check3 m).2.1,.int .i64 (check3 m).2.2]) ∧ belowB 0 F = true := by
 have hc := check481 m hm hs
 unfold check3
 cases hq : checkI m with
 | none => rw [hq] at hc; exact ⟨.nili,hc,why495_nil,rfl⟩
 | some q => obtain ⟨p,n,e⟩ := q; rw [hq] at hc; exact ⟨_,hc,why495 p n e .perm,by simp [flawV]⟩
theorem tiny_of_light {m : Image} (hh : Held m) (h : lightB m = true) : Tiny m := by
 have hins := light_insts h
 have hs := small_of_light h
 simp only [lightB,Bool.and_eq_true,decide_eq_true_eq] at h
 obtain ⟨⟨⟨⟨hp,hf⟩,hi⟩,_⟩,hn⟩ := h
 have hb : ∀ q,0 ≤ q → q < 15 → ∀ s ∈ titles m q,s.s.length ≤ 100 := fun q h0 h1 => brief_mem (parts_brief 15 0 q hp h0 (by omega))
 refine ⟨by omega,fun x hx hl f hf2 => ?_,fun hl x hx => ?_,fun p x hx => ?_,by omega,hh⟩
 ·simp only [hdrsB,namesB,List.all_eq_true,decide_eq_true_eq] at hf
  have := hf x hx f (by rw [List.take_of_length_le (by omega)]; exact hf2); omega
 ·simp only [instsB,List.all_eq_true,decide_eq_true_eq] at hi
  have := hi x (by rw [List.take_of_length_le (by omega)]; exact hx); omega
 ·by_cases h0 : 0 ≤ p ∧ p < 15
  ·have := hb p h0.1 h0.2 x hx; omega
  ·exfalso
   unfold titles at hx
   rw [if_neg (by omega),if_neg (by omega),if_neg (by omega),if_neg (by omega),if_neg (by omega),if_neg (by omega),if_neg (by omega),if_neg (by omega)] at hx
   simp at hx
set_option maxRecDepth 100000 in
theorem imageChecks (m : Image) (hm : Clo m) (hh : Held m) (hlv : callRO vp 659 [] = some (.bool true)) : callRO vp 653 [m.v] = some (.bool true) := by
 rw [callRO_K fn653]
 cases hl : lightB m
 ·simp -implicitDefEqProofs [hh,hl,hlv]
 ·have hT := tiny_of_light hh hl
  obtain ⟨F,hc,hw,hcl⟩ := check_why m hm (small_of_light hl)
  have hr := check828 m hm hT
  simp -implicitDefEqProofs [hh,hl,hlv,hc,hr,hw,hcl]
end Go.VE.Un
