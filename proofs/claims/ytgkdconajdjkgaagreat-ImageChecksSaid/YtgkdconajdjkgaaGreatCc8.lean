/- Joined texts: CkO, CtG, CkP, CrI, CrJ. No condition: what each theorem needs stands in it. -/
import Derived.Test.YtgkdconajdjkgaaGreatCc7
import Derived.Test.YtgkdconajdjkgaaGreatCc1
import Derived.Test.YtgkdconajdjkgaaGreatCc6
import Derived.Test.YtgkdconajdjkgaaGreatVc0
namespace Go.VE.Un
open Go.VE
set_option linter.unusedVariables false
set_option linter.unusedSimpArgs false
theorem instsE_deep (n : Int) : ∀ (l : List Inst) (ns : List (List UInt8)), instsE n l ns = 0 → ∀ x ∈ l, 0 ≤ x.Depth.n ∧ x.Depth.n ≤ 4
  | [], _, _, x, hx => by simp at hx
  | y :: r, ns, h, x, hx => by
    simp only [instsE] at h
    split at h
    · simp at h
    · split at h
      · simp at h
      · split at h
        · simp at h
        · split at h
          · simp at h
          · rename_i h4
            rcases List.mem_cons.1 hx with rfl | hx
            · simpa [inB] using h4
            · exact instsE_deep n r _ h x hx
theorem deep_of {m : Image} (h : (partE m 2).2 = 0) : Deep m := by
 have h : mayI m.Headers.l.length m.Insts.l = 0 := by simpa [partE] using h
 unfold mayI at h
 split at h
 ·simp at h
 ·split at h
  ·rename_i h1; exact absurd h h1
  ·rename_i h1; exact instsE_deep _ _ _ (by simpa using h1)
def checkR (m : Image) : Nat → Int → Option (Int × Int × Int)
 | 0,_ => none
 | j + 1,p => if (partE m p).2 = 0 then checkR m j (p + 1) else some (p,(partE m p).1,(partE m p).2)
def checkI (m : Image) : Option (Int × Int × Int) := checkR m 15 0
theorem part133 (m : Image) (hm : Clo m) (hs : Small m) (p : Int) (h0 : 0 ≤ p) (h1 : p < 15) (hI : p = 4 → Deep m) : callRO vp 133 [chkV m,.int .i64 p] = some (.tup [.int .i64 (partE m p).1,.int .i64 (partE m p).2]) := by
 have hp : p = 0 ∨ p = 1 ∨ p = 2 ∨ p = 3 ∨ p = 4 ∨ p = 5 ∨ p = 6 ∨ p = 7 ∨ p = 8 ∨ p = 9 ∨ p = 10 ∨ p = 11 ∨ p = 12 ∨ p = 13 ∨ p = 14 := by omega
 rcases hp with rfl | rfl | rfl | rfl | rfl | rfl | rfl | rfl | rfl | rfl | rfl | rfl | rfl | rfl | rfl
 ·exact part133_0 m hm hs
 ·exact part133_1 m hm hs
 ·exact part133_2 m hm hs
 ·exact part133_3 m hm hs
 ·exact part133_4 m hm hs hI
 ·exact part133_5 m hm hs
 ·exact part133_6 m hm hs
 ·exact part133_7 m hm hs
 ·exact part133_8 m hm hs
 ·exact part133_9 m hm hs
 ·exact part133_10 m hm hs
 ·exact part133_11 m hm hs
 ·exact part133_12 m hm hs
 ·exact part133_13 m hm hs
 ·exact part133_14 m hm hs
def flawV (p n e : Int) : V := .agg [.int .i64 p,.int .i64 n,.int .i64 e]
theorem loop481 (m : Image) (hm : Clo m) (hs : Small m) : ∀ (j : Nat) (k : Int), 0 ≤ k → k + j = 15 → (2 < k → Deep m) →
    (orc vp).loop 0 [3, 10] L481_0 [(3, .ptr 1 1 0 0), (10, .int .i64 k)] [.arr [m.v], .arr [m.v]] =
      (match checkR m j k with
       | none => some (.brk 0, [(3, .ptr 1 1 0 0), (10, .int .i64 15), (11, .bool false)], [.arr [m.v], .arr [m.v]])
       | some (p, n, e) => some (.ret, [(2, .iface 121 (.ptr 2 1 0 0))], [.arr [m.v], .arr [m.v], .arr [flawV p n e]])) := by
  intro j
  induction j with
  | zero =>
    intro k hk hkn _
    have : k = 15 := by omega
    subst this
    rw [lp481_0]
    simp -implicitDefEqProofs [checkR]
  | succ j ih =>
    intro k hk hkn hD
    have hlt : k < 15 := by omega
    have w1 : IntKind.i64.wrap (k + 1) = k + 1 := wrap64 (by omega) (by omega)
    have hp := part133 m hm hs k hk hlt (fun h => hD (by omega))
    rw [lp481_0]
    by_cases c : (partE m k).2 = 0
    · have ih := ih (k + 1) (by omega) (by omega) (fun h => by
        by_cases h2 : 2 < k
        · exact hD h2
        · have : k = 2 := by omega
          subst this
          exact deep_of c)
      simp -implicitDefEqProofs [hlt, hp, c, w1, ih, checkR]
    · simp -implicitDefEqProofs [hlt, hp, c, checkR, pureOp, fillV, flawV]
theorem check481 (m : Image) (hm : Clo m) (hs : Small m) : callRO vp 481 [m.v] = some (match checkI m with | none => .nili | some (p, n, e) => .iface 121 (.eptr (flawV p n e) 0 .perm)) := by
  have hl := loop481 m hm hs 15 0 (by omega) (by omega) (fun h => by omega)
  have hb : ∀ fr, lk fr 7 = m.v → pureOp fr (.build [.str [], .sl 6 [] .nl, .sl 3 [] .nl, .sl 2 [] .nl, .sl 5 [] .nl, .sl 3 [] .nl, .sl 7 [] .nl, .sl 6 [] .nl, .sl 6 [] .nl, .sl 1 [] .nl, .sl 2 [] .nl, .sl 2 [] .nl, .sl 3 [] .nl, .sl 2 [] .nl, .sl 4 [] .nl, .int .i64 0, .int .i64 0, .int .i64 0] [(0, 18, .t 7)]) = some m.v := fun fr e => by
    simp only [pureOp, List.map, List.all, opd, e]
    rfl
  rw [callRO_K fn481]
  unfold checkI
  cases hc : checkR m 15 0 with
  | none =>
    rw [hc] at hl
    simp -implicitDefEqProofs [hb, hl]
  | some q =>
    obtain ⟨p, n, e⟩ := q
    rw [hc] at hl
    have hf : closedB (flawV p n e) = true := by simp [flawV]
    simp -implicitDefEqProofs [hb, hl, hf]
end Go.VE.Un
namespace Go.VE.Un
open Go.VE
set_option linter.unusedVariables false
set_option linter.unusedSimpArgs false
theorem light_insts {m : Image} (h : lightB m = true) : m.Insts.l.length ≤ 900 := by
 simp only [lightB,Bool.and_eq_true,decide_eq_true_eq] at h
 have := h.1.2
 unfold sizeN at this
 omega
end Go.VE.Un
namespace Go.VE.Un
open Go.VE
set_option linter.unusedVariables false
set_option linter.unusedSimpArgs false
theorem brief_mem {l : List GS} (h : briefB l = true) : ∀ s ∈ l,s.s.length ≤ 100 := by
 simp only [briefB,Bool.and_eq_true,List.all_eq_true,decide_eq_true_eq] at h
 exact h.1
theorem small_of_light {m : Image} (h : lightB m = true) : Small m := by
 simp only [lightB,Bool.and_eq_true] at h
 obtain ⟨⟨⟨⟨hp,hh⟩,hi⟩,_⟩,_⟩ := h
 have hb : ∀ q,0 ≤ q → q < 15 → ∀ s ∈ titles m q,s.s.length ≤ 100 := fun q h0 h1 => brief_mem (parts_brief 15 0 q hp h0 (by omega))
 have hh' : ∀ h ∈ m.Headers.l,∀ f ∈ h.Fields.l.take 300,f.Name.s.length ≤ 100 := by
  simp only [hdrsB,namesB,List.all_eq_true,decide_eq_true_eq] at hh
  exact hh
 have hi' : ∀ x ∈ m.Insts.l.take 300,x.Name.s.length ≤ 100 := by
  simp only [instsB,List.all_eq_true,decide_eq_true_eq] at hi
  exact hi
 refine ⟨fun h hm hl f hf => ?_,fun hl x hx => ?_,fun x hx => ?_,fun x hx => ?_,fun x hx => ?_,fun x hx => ?_,fun x hx => ?_,fun x hx => ?_,fun x hx => ?_,fun x hx => ?_⟩
 ·have := hh' h hm f (by rw [List.take_of_length_le (by omega)]; exact hf); omega
 ·have := hi' x (by rw [List.take_of_length_le (by omega)]; exact hx); omega
 ·have := hb 1 (by omega) (by omega) x.Name (by simp [titles]; exact ⟨x,hx,rfl⟩); omega
 ·have := hb 3 (by omega) (by omega) x.Name (by simp [titles]; exact ⟨x,hx,rfl⟩); omega
 ·have := hb 12 (by omega) (by omega) x.Name (by simp [titles]; exact ⟨x,hx,rfl⟩); omega
 ·have := hb 13 (by omega) (by omega) x.Name (by simp [titles]; exact ⟨x,hx,rfl⟩); omega
 ·have := hb 14 (by omega) (by omega) x.Name (by simp [titles]; exact ⟨x,hx,rfl⟩); omega
 ·have := hb 4 (by omega) (by omega) x.Name (by simp [titles]; exact ⟨x,hx,rfl⟩); omega
 ·have := hb 5 (by omega) (by omega) x.Name (by simp [titles]; exact ⟨x,hx,rfl⟩); omega
 ·have := hb 6 (by omega) (by omega) x.Name (by simp [titles]; exact ⟨x,hx,rfl⟩); omega
theorem allR_none {ask : Int → Int} : ∀ (j : Nat) (p q : Int), ((allR ask j p).getD (0, 0)).2 = 0 → p ≤ q → q < p + j → ask q = 0
  | 0, p, q, _, h1, h2 => by omega
  | j + 1, p, q, h, h1, h2 => by
    simp only [allR] at h
    split at h
    · rename_i h0
      by_cases he : p = q
      · subst he; exact h0
      · exact allR_none j (p + 1) q h (by omega) (by omega)
    · rename_i h0; simp at h; exact absurd h h0
theorem allE_0 {n most : Int} {ask : Int → Int} (h : (allE n most ask).2 = 0) : n ≤ most ∧ ∀ i,0 ≤ i → i < n → ask i = 0 := by
 unfold allE at h
 split at h
 ·simp at h
 ·exact ⟨by omega,fun i h0 h1 => allR_none n.toNat 0 i h h0 (by omega)⟩
theorem mayC_A {x : Ins} (h : mayC x = 0) {s : Sh} (hs : getI shapes x.Op.n = some s) : s.fr ≤ x.A.n := by
 unfold mayC at h
 rw [hs] at h
 simp only at h
 split at h
 ·simp at h
 ·rename_i hc
  simp [inB] at hc
  omega
end Go.VE.Un
namespace Go.VE.Un
open Go.VE
set_option linter.unusedVariables false
set_option linter.unusedSimpArgs false
theorem loop820_0 (hs : V) (l : GL Inst) (y : Inst) (i : Int) (hi : getI l.l i = some y) (hl : l.l.length ≤ 16) (hb : ∀ f ∈ l.l, f.Name.s.length ≤ 17592186044416) : ∀ (r : List Inst) (k : Int), 0 ≤ k → k ≤ i → (l.l.take i.toNat).drop k.toNat = r →
    (orc vp).loop 0 [0, 1, 5, 6] L820_0 [(0, hs), (1, GL.v 3 Inst.v l), (5, .int .i64 i), (6, .int .i64 k)] [] =
      (if r.any (fun x => decide (keyL x.Name.s = keyL y.Name.s)) = true then some (.ret, [(4, .int .i64 6)], []) else some (.brk 2, [(0, hs), (1, GL.v 3 Inst.v l), (5, .int .i64 i), (6, .int .i64 i), (25, .bool false)], [])) := by
  have hil := getI_lt hi
  intro r
  induction r with
  | nil =>
    intro k hk hkl hd
    have hle := drop_nil hk hd
    have hlt : ¬ k < i := by simp at hle; omega
    have he : k = i := by omega
    rw [lp820_0]
    simp -implicitDefEqProofs [hlt, he]
  | cons x r ih =>
    intro k hk hkl hd
    obtain ⟨hg, hlt, hd'⟩ := drop_cons hk hd
    have hlt : k < i := by simp at hlt; omega
    rw [getI_take hk hlt] at hg
    have w1 : IntKind.i64.wrap (k + 1) = k + 1 := wrap64 (by omega) (by omega)
    have ih := ih (k + 1) (by omega) (by omega) hd'
    have ha := alike818 x.Name.s y.Name.s (hb x (getI_mem hg)) (hb y (getI_mem hi))
    rw [lp820_0]
    by_cases c : keyL x.Name.s = keyL y.Name.s
    · simp -implicitDefEqProofs [hlt, hg, hi, ha, c]
    · simp -implicitDefEqProofs [w1, hlt, hg, hi, ha, c, ih]
theorem inB_split {a b c : Int} : inB a b c = false ↔ a < b ∨ c < a := by unfold inB; simp; omega
theorem loop820_1 (hs : GL Header) (l : GL Inst) (hl : l.l.length ≤ 16) (hb : ∀ f ∈ l.l, f.Name.s.length ≤ 17592186044416) : ∀ (r : List Inst) (k : Int), 0 ≤ k → k ≤ l.l.length → l.l.drop k.toNat = r →
    (orc vp).loop 0 [0, 1, 5] L820_1 [(0, GL.v 6 Header.v hs), (1, GL.v 3 Inst.v l), (5, .int .i64 k)] [] =
      (if instsE hs.l.length r ((l.l.take k.toNat).map fun f => f.Name.s) = 0 then some (.brk 0, [(0, GL.v 6 Header.v hs), (1, GL.v 3 Inst.v l), (5, .int .i64 l.l.length), (13, .bool false)], [])
       else some (.ret, [(4, .int .i64 (instsE hs.l.length r ((l.l.take k.toNat).map fun f => f.Name.s)))], [])) := by
  intro r
  induction r with
  | nil =>
    intro k hk hkl hd
    have hle := drop_nil hk hd
    have hlt : ¬ k < l.l.length := by omega
    have he : k = l.l.length := by omega
    rw [lp820_1]
    simp -implicitDefEqProofs [hlt, he, instsE]
  | cons y r ih =>
    intro k hk hkl hd
    obtain ⟨hg, hlt, hd'⟩ := drop_cons hk hd
    have w1 : IntKind.i64.wrap (k + 1) = k + 1 := wrap64 (by omega) (by omega)
    have hp := rplain822 y.Name.s (hb y (getI_mem hg))
    have hi := loop820_0 (GL.v 6 Header.v hs) l y k hg hl hb _ 0 (by omega) hk rfl
    rw [show (0 : Int).toNat = 0 from rfl, List.drop_zero] at hi
    have hany : (0 ≤ idxK (keyL y.Name.s) ((l.l.take k.toNat).map fun f => f.Name.s) 0) ↔ (l.l.take k.toNat).any (fun x => decide (keyL x.Name.s = keyL y.Name.s)) = true := by
      rw [idxK_any _ _ 0 (by omega), List.any_map]; rfl
    have ih := ih (k + 1) (by omega) (by omega) hd'
    have ht : ((l.l.take (k + 1).toNat).map fun f => f.Name.s) = ((l.l.take k.toNat).map fun f => f.Name.s) ++ [y.Name.s] := by
      rw [show (k + 1).toNat = k.toNat + 1 by omega, List.take_add_one]
      rw [getI, if_pos hk] at hg
      simp [hg]
    rw [ht] at ih
    have hst : instsE hs.l.length (y :: r) ((l.l.take k.toNat).map fun f => f.Name.s) = if plainN y.Name.s = false then 4 else if 0 ≤ idxK (keyL y.Name.s) ((l.l.take k.toNat).map fun f => f.Name.s) 0 then 6 else if inB y.Header.n 0 (hs.l.length - 1) = false then 5 else if inB y.Depth.n 0 4 = false then 7 else instsE hs.l.length r (((l.l.take k.toNat).map fun f => f.Name.s) ++ [y.Name.s]) := rfl
    generalize (l.l.take k.toNat).map (fun f => f.Name.s) = ns at *
    generalize (l.l.take k.toNat).any (fun x => decide (keyL x.Name.s = keyL y.Name.s)) = dup at *
    rw [hst, lp820_1]
    cases c1 : plainN y.Name.s with
    | false =>
      rw [c1] at hp
      simp -implicitDefEqProofs [hlt, hg, hp]
    | true =>
      rw [c1] at hp
      by_cases c2 : dup = true
      · rw [if_pos c2] at hi
        have c3 := hany.2 c2
        simp -implicitDefEqProofs [hlt, hg, hp, hi, c3]
      · rw [if_neg c2] at hi
        have c3 : ¬ 0 ≤ idxK (keyL y.Name.s) ns 0 := fun e => c2 (hany.1 e)
        by_cases d1 : y.Header.n < 0
        · have e : inB y.Header.n 0 (hs.l.length - 1) = false := inB_split.2 (.inl d1)
          simp -implicitDefEqProofs [hlt, hg, hp, hi, c3, d1, e]
        · by_cases d2 : (hs.l.length : Int) ≤ y.Header.n
          · have e : inB y.Header.n 0 (hs.l.length - 1) = false := inB_split.2 (.inr (by omega))
            simp -implicitDefEqProofs [hlt, hg, hp, hi, c3, d1, d2, e]
          · have e : inB y.Header.n 0 (hs.l.length - 1) = true := by unfold inB; simp; omega
            by_cases d3 : y.Depth.n < 0
            · have e2 : inB y.Depth.n 0 4 = false := inB_split.2 (.inl d3)
              simp -implicitDefEqProofs [hlt, hg, hp, hi, c3, d1, d2, d3, e, e2]
            · by_cases d4 : 4 < y.Depth.n
              · have e2 : inB y.Depth.n 0 4 = false := inB_split.2 (.inr d4)
                simp -implicitDefEqProofs [hlt, hg, hp, hi, c3, d1, d2, d3, d4, e, e2]
              · have e2 : inB y.Depth.n 0 4 = true := by unfold inB; simp; omega
                simp -implicitDefEqProofs [hlt, hg, hp, hi, c3, d1, d2, d3, d4, e, e2, w1, ih]
theorem rinsts820 (hs : GL Header) (l : GL Inst) (hb : l.l.length ≤ 16 → ∀ f ∈ l.l,f.Name.s.length ≤ 17592186044416) : callRO vp 820 [GL.v 6 Header.v hs,GL.v 3 Inst.v l] = some (.int .i64 (mayI hs.l.length l.l)) := by
 rw [callRO_K fn820]
 by_cases c1 : 16 < l.l.length
 ·have c1' : (16 : Int) < l.l.length := by omega
  simp -implicitDefEqProofs [c1,c1',mayI]
 ·have c1' : ¬ (16 : Int) < l.l.length := by omega
  have hl := loop820_1 hs l (by omega) (hb (by omega)) l.l 0 (by omega) (by omega) rfl
  simp only [show (0 : Int).toNat = 0 from rfl,List.take_zero,List.map_nil] at hl
  by_cases c2 : instsE hs.l.length l.l [] = 0
  ·rw [if_pos c2] at hl
   have hle := l.le
   have hsl := slots823 l (by omega)
   have hlen := slotP_len 0 l.l
   generalize slotP 0 l.l = sp at *
   by_cases c3 : 32 < slotsN l.l
   ·have c3' : (32 : Int) < sp.length := by omega
    simp -implicitDefEqProofs [c1,c1',c2,hl,mayI,hsl,c3,c3']
   ·have c3' : ¬ (32 : Int) < sp.length := by omega
    simp -implicitDefEqProofs [c1,c1',c2,hl,mayI,hsl,c3,c3']
  ·rw [if_neg c2] at hl
   simp -implicitDefEqProofs [c1,c1',c2,hl,mayI]
end Go.VE.Un
namespace Go.VE
set_option linter.unusedVariables false
theorem callRO_kernel {vp : VP} {f n : Nat} {args : List V} {v : V} (h : isSomeV (((orcN vp n).call f 0 args []).bind fun r => frz 0 r.2 4 r.1) v = true) : callRO vp f args = some v := by
  unfold callRO
  cases e : (orcN vp n).call f 0 args [] with
  | none => rw [e] at h; simp [isSomeV] at h
  | some r =>
    rw [e] at h
    rw [(orcN_le_orc vp n).call _ _ _ _ _ e]
    simp only [Option.bind_some] at h ⊢
    cases e2 : frz 0 r.2 4 r.1 with
    | none => rw [e2] at h; simp [isSomeV] at h
    | some x => rw [e2] at h; simp only [isSomeV] at h; rw [beqV_eq _ _ h]
end Go.VE
namespace Go.VE.Un
open Go.VE
set_option linter.unusedVariables false
set_option linter.unusedSimpArgs false
structure Rw where
 name : List UInt8
 takes : Int
 puts : Int
 many : Int
 a0 : Int
 a1 : Int
 b0 : Int
 b1 : Int
 ty : List UInt8
def Rw.v (r : Rw) : V := .agg [.str r.name,.int .i64 r.takes,.int .i64 r.puts,.int .i64 r.many,.int .i64 r.a0,.int .i64 r.a1,.int .i64 r.b0,.int .i64 r.b1,.str r.ty]
def rws : List Rw := [⟨[112,117,115,104],0,1,0,0,0,0,0,[80,117,115,104]⟩,
 ⟨[102,105,101,108,100],0,1,2,0,31,0,15,[80,108,97,99,101]⟩,
 ⟨[109,101,116,97],0,1,1,0,23,0,0,[67,101,108,108]⟩,
 ⟨[112,97,114,97,109],0,1,1,0,7,0,0,[67,101,108,108]⟩,
 ⟨[118,97,108,105,100],0,1,1,0,31,0,0,[83,108,111,116]⟩,
 ⟨[114,101,103],1,1,1,0,7,0,0,[67,101,108,108]⟩,
 ⟨[110,111,116],1,1,0,0,0,0,0,[79,110,101]⟩,
 ⟨[110,101,103],1,1,0,0,0,0,0,[79,110,101]⟩,
 ⟨[115,104,108],1,1,1,0,128,0,0,[79,110,101]⟩,
 ⟨[115,104,114],1,1,1,0,128,0,0,[79,110,101]⟩,
 ⟨[115,108,105,99,101],1,1,2,0,127,0,127,[80,97,114,116]⟩,
 ⟨[99,97,115,116],1,1,1,1,128,0,0,[79,110,101]⟩,
 ⟨[97,100,100],2,1,0,0,0,0,0,[84,119,111]⟩,
 ⟨[115,117,98],2,1,0,0,0,0,0,[84,119,111]⟩,
 ⟨[97,100,100,45,115,97,116],2,1,0,0,0,0,0,[84,119,111]⟩,
 ⟨[115,117,98,45,115,97,116],2,1,0,0,0,0,0,[84,119,111]⟩,
 ⟨[97,110,100],2,1,0,0,0,0,0,[84,119,111]⟩,
 ⟨[111,114],2,1,0,0,0,0,0,[84,119,111]⟩,
 ⟨[120,111,114],2,1,0,0,0,0,0,[84,119,111]⟩,
 ⟨[99,97,116],2,1,0,0,0,0,0,[84,119,111]⟩,
 ⟨[101,113],2,1,0,0,0,0,0,[84,119,111]⟩,
 ⟨[108,101,115,115],2,1,0,0,0,0,0,[84,119,111]⟩,
 ⟨[112,117,116,45,102,105,101,108,100],1,0,2,0,31,0,15,[80,108,97,99,101]⟩,
 ⟨[112,117,116,45,109,101,116,97],1,0,1,0,23,0,0,[67,101,108,108]⟩,
 ⟨[112,117,116,45,114,101,103],2,0,1,0,7,0,0,[67,101,108,108]⟩,
 ⟨[115,104,111,119],0,0,1,0,31,0,0,[83,108,111,116]⟩,
 ⟨[104,105,100,101],0,0,1,0,31,0,0,[83,108,111,116]⟩,
 ⟨[112,117,115,104,45,104,101,97,100],0,0,2,0,15,1,4,[72,101,97,100,115]⟩,
 ⟨[112,111,112,45,104,101,97,100],0,0,2,0,15,1,4,[72,101,97,100,115]⟩,
 ⟨[99,111,117,110,116],1,0,1,0,7,0,0,[67,101,108,108]⟩,
 ⟨[109,101,116,101,114],1,1,1,0,7,0,0,[67,101,108,108]⟩,
 ⟨[106,117,109,112],0,0,1,0,64,0,0,[74,117,109,112]⟩,
 ⟨[106,117,109,112,45,122,101,114,111],1,0,1,0,64,0,0,[74,117,109,112]⟩,
 ⟨[106,117,109,112,45,103,111,110,101],0,0,2,0,31,0,64,[71,111,110,101]⟩,
 ⟨[115,116,111,112],0,0,0,0,0,0,0,[83,116,111,112]⟩]
theorem table827 : callRO vp 827 [] = some (.sl 9 (rws.map Rw.v) .ce) := callRO_kernel (n := 40) (by kernel_rfl)
theorem row_op {o : Int} (h0 : 0 ≤ o) (h1 : o < 35) : ∃ r s,getI rws o = some r ∧ getI shapes o = some s ∧ r.a0 = s.fr ∧ r.a1 = s.to ∧ r.b0 = s.least ∧ r.b1 = s.most ∧ (r.name = [115,108,105,99,101] ↔ o = 10) ∧ (r.name = [112,117,115,104] ↔ o = 0) := by
 rcases ops_cases h0 h1 with rfl | rfl | rfl | rfl | rfl | rfl | rfl | rfl | rfl | rfl | rfl | rfl | rfl | rfl | rfl | rfl | rfl | rfl | rfl | rfl | rfl | rfl | rfl | rfl | rfl | rfl | rfl | rfl | rfl | rfl | rfl | rfl | rfl | rfl | rfl
 all_goals exact ⟨_,_,rfl,rfl,rfl,rfl,rfl,rfl,by decide,by decide⟩
theorem shapes_len : shapes.length = 35 := rfl
theorem Rw.v_eq (r : Rw) : r.v = .agg [.str r.name,.int .i64 r.takes,.int .i64 r.puts,.int .i64 r.many,.int .i64 r.a0,.int .i64 r.a1,.int .i64 r.b0,.int .i64 r.b1,.str r.ty] := rfl
theorem iaddrA_0 (n B ep j o : Nat) : iaddrA 2 n (.ptr B ep j o) (.int .i64 0) = some (.ptr B ep j o) := by simp [iaddrA]
theorem iaddrA_1 (n B ep j o : Nat) : iaddrA 2 n (.ptr B ep j o) (.int .i64 1) = some (.ptr B ep j (o + n)) := by simp [iaddrA]
set_option maxHeartbeats 1000000 in
theorem rmay826 (x : Ins) : callRO vp 826 [x.v] = some (.int .i64 (mayC x)) := by
  rw [callRO_K fn826]
  unfold mayC
  by_cases h0 : 0 ≤ x.Op.n
  · by_cases h1 : x.Op.n < 35
    · obtain ⟨r, s, hr, hs, e1, e2, e3, e4, e5, e6⟩ := row_op h0 h1
      have n0 : ¬ x.Op.n < 0 := by omega
      have n1 : ¬ 34 < x.Op.n := by omega
      have m1 := may785 x.V
      rw [hs]
      simp only
      have e5 : (r.name = [115, 108, 105, 99, 101]) = (x.Op.n = 10) := propext e5
      have e6 : (r.name = [112, 117, 115, 104]) = (x.Op.n = 0) := propext e6
      by_cases a1 : x.A.n < s.fr
      · have i1 : inB x.A.n s.fr s.to = false := inB_split.2 (.inl a1)
        simp -implicitDefEqProofs [n0, n1, table827, hr, Rw.v_eq, iaddrA_0, iaddrA_1, e1, e2, e3, e4, a1, i1]
      · by_cases a2 : s.to < x.A.n
        · have i1 : inB x.A.n s.fr s.to = false := inB_split.2 (.inr a2)
          simp -implicitDefEqProofs [n0, n1, table827, hr, Rw.v_eq, iaddrA_0, iaddrA_1, e1, e2, e3, e4, a1, a2, i1]
        · have i1 : inB x.A.n s.fr s.to = true := by unfold inB; simp; omega
          by_cases a3 : x.B.n < s.least
          · have i2 : inB x.B.n s.least s.most = false := inB_split.2 (.inl a3)
            simp -implicitDefEqProofs [n0, n1, table827, hr, Rw.v_eq, iaddrA_0, iaddrA_1, e1, e2, e3, e4, a1, a2, a3, i1, i2]
          · by_cases a4 : s.most < x.B.n
            · have i2 : inB x.B.n s.least s.most = false := inB_split.2 (.inr a4)
              simp -implicitDefEqProofs [n0, n1, table827, hr, Rw.v_eq, iaddrA_0, iaddrA_1, e1, e2, e3, e4, a1, a2, a3, a4, i1, i2]
            · have i2 : inB x.B.n s.least s.most = true := by unfold inB; simp; omega
              by_cases o10 : x.Op.n = 10
              · have o0 : ¬ x.Op.n = 0 := by omega
                rw [eq_true o10] at e5; rw [eq_false o0] at e6
                by_cases a5 : x.A.n < x.B.n
                · rw [if_pos (.inr (.inr ⟨o10, a5⟩))]
                  simp -implicitDefEqProofs [n0, n1, table827, hr, Rw.v_eq, iaddrA_0, iaddrA_1, e1, e2, e3, e4, a1, a2, a3, a4, e5, a5]
                · rw [if_neg (by simp [i1, i2, a5])]
                  by_cases v : x.V.same Vec.z = true
                  · rw [if_neg (by simp [o0, v])]
                    simp -implicitDefEqProofs [n0, n1, table827, hr, Rw.v_eq, iaddrA_0, iaddrA_1, e1, e2, e3, e4, a1, a2, a3, a4, e5, a5, e6, pureOp, fillV, vec0, v]
                  · simp only [Bool.not_eq_true] at v
                    rw [if_pos (by simp [o0, v])]
                    simp -implicitDefEqProofs [n0, n1, table827, hr, Rw.v_eq, iaddrA_0, iaddrA_1, e1, e2, e3, e4, a1, a2, a3, a4, e5, a5, e6, pureOp, fillV, vec0, v]
              · rw [eq_false o10] at e5
                rw [if_neg (by simp [i1, i2, o10])]
                by_cases o0 : x.Op.n = 0
                · rw [eq_true o0] at e6
                  cases g : x.V.good with
                  | false =>
                    rw [g] at m1
                    rw [if_pos (by simp [o0])]
                    simp -implicitDefEqProofs [n0, n1, table827, hr, Rw.v_eq, iaddrA_0, iaddrA_1, e1, e2, e3, e4, a1, a2, a3, a4, e5, e6, m1]
                  | true =>
                    rw [g] at m1
                    rw [if_neg (by simp [o0])]
                    simp -implicitDefEqProofs [n0, n1, table827, hr, Rw.v_eq, iaddrA_0, iaddrA_1, e1, e2, e3, e4, a1, a2, a3, a4, e5, e6, m1]
                · rw [eq_false o0] at e6
                  by_cases v : x.V.same Vec.z = true
                  · rw [if_neg (by simp [o0, v])]
                    simp -implicitDefEqProofs [n0, n1, table827, hr, Rw.v_eq, iaddrA_0, iaddrA_1, e1, e2, e3, e4, a1, a2, a3, a4, e5, e6, pureOp, fillV, vec0, v]
                  · simp only [Bool.not_eq_true] at v
                    rw [if_pos (by simp [o0, v])]
                    simp -implicitDefEqProofs [n0, n1, table827, hr, Rw.v_eq, iaddrA_0, iaddrA_1, e1, e2, e3, e4, a1, a2, a3, a4, e5, e6, pureOp, fillV, vec0, v]
    · have n1 : 34 < x.Op.n := by omega
      have n0 : ¬ x.Op.n < 0 := by omega
      have hg : getI shapes x.Op.n = none := by
        rcases getI_cases shapes x.Op.n with ⟨_, _, h, _⟩ | ⟨_, h⟩
        · rw [shapes_len] at h; omega
        · exact h
      rw [hg]
      simp -implicitDefEqProofs [n0, n1]
  · have n0 : x.Op.n < 0 := by omega
    have hg : getI shapes x.Op.n = none := by
      rcases getI_cases shapes x.Op.n with ⟨_, h, _, _⟩ | ⟨_, h⟩
      · omega
      · exact h
    rw [hg]
    simp -implicitDefEqProofs [n0]
end Go.VE.Un
