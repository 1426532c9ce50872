/- Joined texts: CkA, CrA, CrB. No condition: what each theorem needs stands in it. -/
import Derived.Test.YtgkdconajdjkgaaGreatCc1
import Derived.Test.YtgkdconajdjkgaaGreatCa0
import Derived.Lib.RuneCount
namespace Go.VE
def runesF (s : List UInt8) : Nat → Nat → List Int
 | 0,_ => []
 | f + 1,pos => if pos < s.length then (decodeL s pos).1 :: runesF s f (pos + (decodeL s pos).2) else []
def runes (s : List UInt8) : List Int := runesF s s.length 0
theorem next_more (s : List UInt8) (pos : Nat) (h : pos < s.length) : nextV 0 [.iter s pos] (.itr 0) = some (.tup [.bool true,.int .i64 pos,.int .i32 (decodeL s pos).1],[.iter s (pos + (decodeL s pos).2)]) := by
 simp [nextV,h]
theorem next_end (s : List UInt8) (pos : Nat) (h : ¬ pos < s.length) : nextV 0 [.iter s pos] (.itr 0) = some (.tup [.bool false],[.iter s pos]) := by
 simp [nextV,h]
end Go.VE
namespace Go.VE.Un
open Go.VE
set_option linter.unusedVariables false
set_option linter.unusedSimpArgs false
@[simp] theorem between564 (a b c : Int) : callRO vp 564 [.int .i32 a,.int .i32 b,.int .i32 c] = some (.bool (decide (b ≤ a) && decide (a ≤ c))) := between_g fn564 a b c
@[simp] theorem letter561 (c : Int) : callRO vp 561 [.int .i32 c] = some (.bool (letterB c)) := letter_g fn564 fn561 c
def digitB (c : Int) : Bool := decide (48 ≤ c) && decide (c ≤ 57)
@[simp] theorem digit556 (c : Int) : callRO vp 556 [.int .i32 c] = some (.bool (digitB c)) := by
 rw [callRO_K fn556]
 simp -implicitDefEqProofs [digitB]
def nameN : List Int → Int → Option Int
 | [],n => some n
 | c :: r,n => if letterB c = false ∧ (n = 0 ∨ digitB c = false ∧ c ≠ 45 ∧ c ≠ 46) then none else nameN r (n + 1)
theorem dec_pos (s : List UInt8) (pos : Nat) (h : pos < s.length) : 1 ≤ (decodeL s pos).2 := Lib.decode_width_pos ⟨s.toArray⟩ pos (by simpa [ByteArray.size] using h)
theorem loop562 (s : List UInt8) (hs : s.length ≤ 140737488355328) : ∀ (fuel pos : Nat) (n : Int), s.length ≤ pos + fuel → 0 ≤ n → n + fuel ≤ 140737488355328 →
    ∃ q, (orc vp).loop 0 [3, 7] L562_0 [(3, .int .i64 n), (7, .itr 0)] [.iter s pos] =
     (match nameN (runesF s fuel pos) n with
      | some k => some (.brk 0, [(3, .int .i64 k), (7, .itr 0), (8, .tup [.bool false]), (9, .bool false)], [.iter s q])
      | none => some (.ret, [(2, .bool false)], [.iter s q])) := by
  intro fuel
  induction fuel with
  | zero =>
    intro pos n hp h0 h2
    have hn : ¬ pos < s.length := by omega
    refine ⟨pos, ?_⟩
    rw [lp562_0]
    simp -implicitDefEqProofs [next_end s pos hn, runesF, nameN]
  | succ f ih =>
    intro pos n hp h0 h2
    by_cases hn : pos < s.length
    · have hw := dec_pos s pos hn
      have w := wrap64 (n := n + 1) (by omega) (by omega)
      obtain ⟨q, ih⟩ := ih (pos + (decodeL s pos).2) (n + 1) (by omega) (by omega) (by omega)
      by_cases hl : letterB (decodeL s pos).1 = true
      · exact ⟨q, by rw [lp562_0]; simp -implicitDefEqProofs [next_more s pos hn, runesF, nameN, hn, hl, w, ih]⟩
      · by_cases hz : n = 0
        · exact ⟨_, by rw [lp562_0]; simp -implicitDefEqProofs [next_more s pos hn, runesF, nameN, hn, hl, hz]; rfl⟩
        · by_cases hd : digitB (decodeL s pos).1 = true
          · exact ⟨q, by rw [lp562_0]; simp -implicitDefEqProofs [next_more s pos hn, runesF, nameN, hn, hl, hz, hd, w, ih]⟩
          · by_cases h5 : ((decodeL s pos).1 : Int) = 45
            · have h6 : letterB 45 = false := by decide
              have h7 : digitB 45 = false := by decide
              exact ⟨q, by rw [lp562_0]; simp -implicitDefEqProofs [next_more s pos hn, runesF, nameN, hn, h6, h7, hz, h5, w, ih]⟩
            · by_cases h6 : ((decodeL s pos).1 : Int) = 46
              · have h8 : letterB 46 = false := by decide
                have h7 : digitB 46 = false := by decide
                exact ⟨q, by rw [lp562_0]; simp -implicitDefEqProofs [next_more s pos hn, runesF, nameN, hn, h8, h7, hz, h6, w, ih]⟩
              · exact ⟨_, by rw [lp562_0]; simp -implicitDefEqProofs [next_more s pos hn, runesF, nameN, hn, hl, hz, hd, h5, h6]; rfl⟩
    · exact ⟨pos, by rw [lp562_0]; simp -implicitDefEqProofs [next_end s pos hn, runesF, nameN, hn]⟩
def mayN (s : List UInt8) : Bool := match nameN (runes s) 0 with | some k => decide (1 ≤ k) && decide (k ≤ 24) | none => false
@[simp] theorem may562 (s : List UInt8) (hs : s.length ≤ 140737488355328) : callRO vp 562 [.str s] = some (.bool (mayN s)) := by
  rw [callRO_K fn562]
  obtain ⟨q, h⟩ := loop562 s hs s.length 0 0 (by omega) (by omega) (by omega)
  cases hn : nameN (runesF s s.length 0) 0 with
  | none =>
    rw [hn] at h
    simp -implicitDefEqProofs [h, mayN, runes, hn]
  | some k =>
    rw [hn] at h
    by_cases h1 : 1 ≤ k
    · simp -implicitDefEqProofs [h, mayN, runes, hn, h1]
    · simp -implicitDefEqProofs [h, mayN, runes, hn, h1]
@[simp] theorem key560 (s : List UInt8) (hs : s.length ≤ 35184372088831) : p560 [.str s] = some (.str (keyL s)) := by simp [p560,hs]
@[simp] theorem alike554 (s t : List UInt8) (hs : s.length ≤ 35184372088831) (ht : t.length ≤ 35184372088831) : callRO vp 554 [.str s,.str t] = some (.bool (decide (keyL s = keyL t))) := by
 rw [callRO_K fn554]
 simp -implicitDefEqProofs [hs,ht]
@[simp] theorem eqk559 (s k : List UInt8) (hs : s.length ≤ 35184372088831) : callRO vp 559 [.str s,.eptr (.str k) 0 .brw] = some (.bool (decide (keyL s = k))) := by
 rw [callRO_K fn559]
 simp -implicitDefEqProofs [hs]
def idxK (k : List UInt8) : List (List UInt8) → Int → Int
 | [],_ => -1
 | t :: r,i => if keyL t = k then i else idxK k r (i + 1)
theorem loop1203 (k : List UInt8) (l : List (List UInt8)) (t : Tag) (hl : l.length ≤ 140737488355328) (hb : ∀ x ∈ l, x.length ≤ 35184372088831) : ∀ (r : List (List UInt8)) (i : Int), 0 ≤ i → i ≤ l.length → l.drop i.toNat = r →
    (orc vp).loop 0 [0, 1, 7, 8] L1203_0 [(0, .sl 1 (l.map V.str) t), (1, .func 559 [] [.eptr (.str k) 0 .brw]), (7, .int .i64 l.length), (8, .int .i64 i)] [] =
     (if idxK k r i = -1 then some (.brk 0, [(0, .sl 1 (l.map V.str) t), (1, .func 559 [] [.eptr (.str k) 0 .brw]), (7, .int .i64 l.length), (8, .int .i64 l.length), (9, .bool false)], []) else some (.ret, [(4, .int .i64 (idxK k r i))], [])) := by
  intro r
  induction r with
  | nil =>
    intro i hi hil hd
    have hle := drop_nil hi hd
    have hlt : ¬ i < l.length := by omega
    have : i = l.length := by omega
    rw [lp1203_0]
    simp -implicitDefEqProofs [hlt, idxK, this]
  | cons x r ih =>
    intro i hi hil hd
    obtain ⟨hg, hlt, hd'⟩ := drop_cons hi hd
    have hx := hb x (List.mem_of_getElem? (by rw [getI, if_pos hi] at hg; exact hg))
    have w1 : IntKind.i64.wrap (i + 1) = i + 1 := wrap64 (by omega) (by omega)
    rw [lp1203_0]
    by_cases hk : keyL x = k
    · have : ¬ i = -1 := by omega
      simp -implicitDefEqProofs [hlt, hg, idxK, hk, this, hx]
    · simp -implicitDefEqProofs [hlt, hg, idxK, hk, w1, hx, ih (i + 1) (by omega) (by omega) hd']
theorem idxf1203 (k : List UInt8) (l : List (List UInt8)) (t : Tag) (hl : l.length ≤ 140737488355328) (hb : ∀ x ∈ l,x.length ≤ 35184372088831) :
  callRO vp 1203 [.sl 1 (l.map V.str) t,.func 559 [] [.eptr (.str k) 0 .brw]] = some (.int .i64 (idxK k l 0)) := by
 have h := loop1203 k l t hl hb l 0 (by omega) (by omega) rfl
 rw [callRO_K fn1203]
 by_cases hk : idxK k l 0 = -1
 ·rw [if_pos hk] at h
  simp -implicitDefEqProofs [h,hk]
 ·rw [if_neg hk] at h
  simp -implicitDefEqProofs [h]
@[simp] theorem index558 (l : List (List UInt8)) (s : List UInt8) (t : Tag) (hl : l.length ≤ 140737488355328) (hb : ∀ x ∈ l,x.length ≤ 35184372088831) (hs : s.length ≤ 35184372088831) :
  callRO vp 558 [.sl 1 (l.map V.str) t,.str s] = some (.int .i64 (idxK (keyL s) l 0)) := by
 rw [callRO_K fn558]
 simp -implicitDefEqProofs [hs,idxf1203 (keyL s) l t hl hb]
end Go.VE.Un
namespace Go.VE
set_option linter.unusedVariables false
theorem getI_1 {α : Type} (l : List α) : getI l 1 = l[1]? := by simp [getI]
theorem getI_2 {α : Type} (l : List α) : getI l 2 = l[2]? := by simp [getI]
theorem getI_3 {α : Type} (l : List α) : getI l 3 = l[3]? := by simp [getI]
def moreB (c : UInt8) : Bool := decide (128 ≤ (c.toNat : Int)) && decide ((c.toNat : Int) < 192)
def firstR (s : List UInt8) : Int × Int :=
  match s with
  | [] => (65533, 0)
  | a :: r =>
    if (a.toNat : Int) < 128 then (a.toNat, 1) else
    match r with
    | [] => (65533, 1)
    | b :: r =>
      if 194 ≤ (a.toNat : Int) ∧ (a.toNat : Int) < 224 ∧ moreB b = true then (64 * ((a.toNat : Int) - 192) + b.toNat - 128, 2) else
      match r with
      | [] => (65533, 1)
      | c :: r =>
        if 224 ≤ (a.toNat : Int) ∧ (a.toNat : Int) < 240 ∧ moreB b = true ∧ moreB c = true ∧ 2048 ≤ 4096 * ((a.toNat : Int) - 224) + 64 * ((b.toNat : Int) - 128) + c.toNat - 128 ∧
          (4096 * ((a.toNat : Int) - 224) + 64 * ((b.toNat : Int) - 128) + c.toNat - 128 < 55296 ∨ 57343 < 4096 * ((a.toNat : Int) - 224) + 64 * ((b.toNat : Int) - 128) + c.toNat - 128) then
          (4096 * ((a.toNat : Int) - 224) + 64 * ((b.toNat : Int) - 128) + c.toNat - 128, 3) else
        match r with
        | [] => (65533, 1)
        | d :: r =>
          if 240 ≤ (a.toNat : Int) ∧ (a.toNat : Int) < 245 ∧ moreB b = true ∧ moreB c = true ∧ moreB d = true ∧
            65536 ≤ 262144 * ((a.toNat : Int) - 240) + 4096 * ((b.toNat : Int) - 128) + 64 * ((c.toNat : Int) - 128) + d.toNat - 128 ∧
            262144 * ((a.toNat : Int) - 240) + 4096 * ((b.toNat : Int) - 128) + 64 * ((c.toNat : Int) - 128) + d.toNat - 128 ≤ 1114111 then
            (262144 * ((a.toNat : Int) - 240) + 4096 * ((b.toNat : Int) - 128) + 64 * ((c.toNat : Int) - 128) + d.toNat - 128, 4) else (65533, 1)
set_option maxRecDepth 20000 in
theorem decode_first (s : List UInt8) (h : s ≠ []) : ((decodeL s 0).1 : Int) = (firstR s).1 ∧ ((decodeL s 0).2 : Int) = (firstR s).2 := by
 have hg : ∀ (l : List UInt8) (k : Nat) (x : UInt8),l[k]? = some x → (⟨l.toArray⟩ : ByteArray).get! k = x := fun l k x e => by
  show l.toArray[k]! = x
  simp [e]
 have hs : ∀ (l : List UInt8),(⟨l.toArray⟩ : ByteArray).size = l.length := fun l => by simp [ByteArray.size]
 rcases s with _ | ⟨a,_ | ⟨b,_ | ⟨c,_ | ⟨d,r⟩⟩⟩⟩
 ·exact absurd rfl h
 ·have h0 := hg [a] 0 a rfl
  have ha := a.toNat_lt
  have e1 : ((⟨[a].toArray⟩ : ByteArray).size) = 1 := rfl
  have e2 : firstR [a] = if (a.toNat : Int) < 128 then ((a.toNat : Int),1) else (65533,1) := rfl
  have e3 : decodeL [a] 0 = if a.toNat < 128 then (a.toNat,1) else (65533,1) := by
   unfold decodeL Utf8.decode
   simp only [Nat.zero_add,h0,e1,Nat.lt_irrefl,show ¬ 2 < 1 by omega,show ¬ 3 < 1 by omega,decide_false,Bool.false_and,Bool.and_false,Bool.false_eq_true,if_false]
   rfl
  rw [e2,e3]
  by_cases k : a.toNat < 128
  ·rw [if_pos k,if_pos (by omega)]; exact ⟨rfl,rfl⟩
  ·rw [if_neg k,if_neg (by omega)]; exact ⟨rfl,rfl⟩
 ·have h0 := hg [a,b] 0 a rfl
  have h1 := hg [a,b] 1 b rfl
  have ha := a.toNat_lt
  have hb := b.toNat_lt
  have e1 : ((⟨[a,b].toArray⟩ : ByteArray).size) = 2 := rfl
  have e2 : firstR [a,b] = if (a.toNat : Int) < 128 then ((a.toNat : Int),1) else if 194 ≤ (a.toNat : Int) ∧ (a.toNat : Int) < 224 ∧ moreB b = true then (64 * ((a.toNat : Int) - 192) + b.toNat - 128,2) else (65533,1) := rfl
  have e3 : decodeL [a,b] 0 = if a.toNat < 128 then (a.toNat,1) else if (a.toNat / 32 == 6 && b.toNat / 64 == 2) = true then (if (a.toNat % 32) * 64 + b.toNat % 64 ≥ 128 then ((a.toNat % 32) * 64 + b.toNat % 64,2) else (65533,1)) else (65533,1) := by
   unfold decodeL Utf8.decode
   simp only [Nat.zero_add,h0,h1,e1,Nat.lt_irrefl,show 1 < 2 by omega,show ¬ 3 < 2 by omega,decide_true,decide_false,Bool.true_and,Bool.false_and,Bool.and_false,Bool.false_eq_true,if_false]
   rfl
  rw [e2,e3]
  simp only [moreB,Bool.and_eq_true,decide_eq_true_eq,beq_iff_eq]
  repeat' split
  all_goals (dsimp only; omega)
 ·have h0 := hg [a,b,c] 0 a rfl
  have h1 := hg [a,b,c] 1 b rfl
  have h2 := hg [a,b,c] 2 c rfl
  have ha := a.toNat_lt
  have hb := b.toNat_lt
  have hc := c.toNat_lt
  have e1 : ((⟨[a,b,c].toArray⟩ : ByteArray).size) = 3 := rfl
  have e2 : firstR [a,b,c] = if (a.toNat : Int) < 128 then ((a.toNat : Int),1) else if 194 ≤ (a.toNat : Int) ∧ (a.toNat : Int) < 224 ∧ moreB b = true then (64 * ((a.toNat : Int) - 192) + b.toNat - 128,2) else if 224 ≤ (a.toNat : Int) ∧ (a.toNat : Int) < 240 ∧ moreB b = true ∧ moreB c = true ∧ 2048 ≤ 4096 * ((a.toNat : Int) - 224) + 64 * ((b.toNat : Int) - 128) + c.toNat - 128 ∧ (4096 * ((a.toNat : Int) - 224) + 64 * ((b.toNat : Int) - 128) + c.toNat - 128 < 55296 ∨ 57343 < 4096 * ((a.toNat : Int) - 224) + 64 * ((b.toNat : Int) - 128) + c.toNat - 128) then (4096 * ((a.toNat : Int) - 224) + 64 * ((b.toNat : Int) - 128) + c.toNat - 128,3) else (65533,1) := rfl
  have e3 : decodeL [a,b,c] 0 = if a.toNat < 128 then (a.toNat,1) else if (a.toNat / 32 == 6 && b.toNat / 64 == 2) = true then (if (a.toNat % 32) * 64 + b.toNat % 64 ≥ 128 then ((a.toNat % 32) * 64 + b.toNat % 64,2) else (65533,1)) else if (a.toNat / 16 == 14 && b.toNat / 64 == 2 && c.toNat / 64 == 2) = true then (if (a.toNat % 16) * 4096 + (b.toNat % 64) * 64 + c.toNat % 64 ≥ 2048 ∧ ((decide (0 ≤ (((a.toNat % 16) * 4096 + (b.toNat % 64) * 64 + c.toNat % 64 : Nat) : Int)) && decide ((((a.toNat % 16) * 4096 + (b.toNat % 64) * 64 + c.toNat % 64 : Nat) : Int) < 55296)) || (decide (57344 ≤ (((a.toNat % 16) * 4096 + (b.toNat % 64) * 64 + c.toNat % 64 : Nat) : Int)) && decide ((((a.toNat % 16) * 4096 + (b.toNat % 64) * 64 + c.toNat % 64 : Nat) : Int) ≤ 1114111))) = true then ((a.toNat % 16) * 4096 + (b.toNat % 64) * 64 + c.toNat % 64,3) else (65533,1)) else (65533,1) := by
   unfold decodeL Utf8.decode
   simp only [Nat.zero_add,h0,h1,h2,e1,Nat.lt_irrefl,show 1 < 3 by omega,show 2 < 3 by omega,decide_true,decide_false,Bool.true_and,Bool.false_and,Bool.and_false,Bool.false_eq_true,if_false,Bool.and_eq_true,decide_eq_true_eq,Utf8.valid,Utf8.runeError]
   try rfl
  rw [e2,e3]
  simp only [moreB,Bool.and_eq_true,Bool.or_eq_true,decide_eq_true_eq,beq_iff_eq]
  repeat' split
  all_goals (dsimp only; omega)
 ·have h0 := hg (a :: b :: c :: d :: r) 0 a rfl
  have h1 := hg (a :: b :: c :: d :: r) 1 b rfl
  have h2 := hg (a :: b :: c :: d :: r) 2 c rfl
  have h3 := hg (a :: b :: c :: d :: r) 3 d rfl
  have ha := a.toNat_lt
  have hb := b.toNat_lt
  have hc := c.toNat_lt
  have hd := d.toNat_lt
  have e1 : ((⟨(a :: b :: c :: d :: r).toArray⟩ : ByteArray).size) = r.length + 4 := by rw [hs]; rfl
  have e2 : firstR (a :: b :: c :: d :: r) = if (a.toNat : Int) < 128 then ((a.toNat : Int),1) else if 194 ≤ (a.toNat : Int) ∧ (a.toNat : Int) < 224 ∧ moreB b = true then (64 * ((a.toNat : Int) - 192) + b.toNat - 128,2) else if 224 ≤ (a.toNat : Int) ∧ (a.toNat : Int) < 240 ∧ moreB b = true ∧ moreB c = true ∧ 2048 ≤ 4096 * ((a.toNat : Int) - 224) + 64 * ((b.toNat : Int) - 128) + c.toNat - 128 ∧ (4096 * ((a.toNat : Int) - 224) + 64 * ((b.toNat : Int) - 128) + c.toNat - 128 < 55296 ∨ 57343 < 4096 * ((a.toNat : Int) - 224) + 64 * ((b.toNat : Int) - 128) + c.toNat - 128) then (4096 * ((a.toNat : Int) - 224) + 64 * ((b.toNat : Int) - 128) + c.toNat - 128,3) else if 240 ≤ (a.toNat : Int) ∧ (a.toNat : Int) < 245 ∧ moreB b = true ∧ moreB c = true ∧ moreB d = true ∧ 65536 ≤ 262144 * ((a.toNat : Int) - 240) + 4096 * ((b.toNat : Int) - 128) + 64 * ((c.toNat : Int) - 128) + d.toNat - 128 ∧ 262144 * ((a.toNat : Int) - 240) + 4096 * ((b.toNat : Int) - 128) + 64 * ((c.toNat : Int) - 128) + d.toNat - 128 ≤ 1114111 then (262144 * ((a.toNat : Int) - 240) + 4096 * ((b.toNat : Int) - 128) + 64 * ((c.toNat : Int) - 128) + d.toNat - 128,4) else (65533,1) := rfl
  have e3 : decodeL (a :: b :: c :: d :: r) 0 = if a.toNat < 128 then (a.toNat,1) else if (a.toNat / 32 == 6 && b.toNat / 64 == 2) = true then (if (a.toNat % 32) * 64 + b.toNat % 64 ≥ 128 then ((a.toNat % 32) * 64 + b.toNat % 64,2) else (65533,1)) else if (a.toNat / 16 == 14 && b.toNat / 64 == 2 && c.toNat / 64 == 2) = true then (if (a.toNat % 16) * 4096 + (b.toNat % 64) * 64 + c.toNat % 64 ≥ 2048 ∧ ((decide (0 ≤ (((a.toNat % 16) * 4096 + (b.toNat % 64) * 64 + c.toNat % 64 : Nat) : Int)) && decide ((((a.toNat % 16) * 4096 + (b.toNat % 64) * 64 + c.toNat % 64 : Nat) : Int) < 55296)) || (decide (57344 ≤ (((a.toNat % 16) * 4096 + (b.toNat % 64) * 64 + c.toNat % 64 : Nat) : Int)) && decide ((((a.toNat % 16) * 4096 + (b.toNat % 64) * 64 + c.toNat % 64 : Nat) : Int) ≤ 1114111))) = true then ((a.toNat % 16) * 4096 + (b.toNat % 64) * 64 + c.toNat % 64,3) else (65533,1)) else if (a.toNat / 8 == 30 && b.toNat / 64 == 2 && c.toNat / 64 == 2 && d.toNat / 64 == 2) = true then (if (a.toNat % 8) * 262144 + (b.toNat % 64) * 4096 + (c.toNat % 64) * 64 + d.toNat % 64 ≥ 65536 ∧ ((decide (0 ≤ (((a.toNat % 8) * 262144 + (b.toNat % 64) * 4096 + (c.toNat % 64) * 64 + d.toNat % 64 : Nat) : Int)) && decide ((((a.toNat % 8) * 262144 + (b.toNat % 64) * 4096 + (c.toNat % 64) * 64 + d.toNat % 64 : Nat) : Int) < 55296)) || (decide (57344 ≤ (((a.toNat % 8) * 262144 + (b.toNat % 64) * 4096 + (c.toNat % 64) * 64 + d.toNat % 64 : Nat) : Int)) && decide ((((a.toNat % 8) * 262144 + (b.toNat % 64) * 4096 + (c.toNat % 64) * 64 + d.toNat % 64 : Nat) : Int) ≤ 1114111))) = true then ((a.toNat % 8) * 262144 + (b.toNat % 64) * 4096 + (c.toNat % 64) * 64 + d.toNat % 64,4) else (65533,1)) else (65533,1) := by
   unfold decodeL Utf8.decode
   simp only [Nat.zero_add,h0,h1,h2,h3,e1,show 1 < r.length + 4 by omega,show 2 < r.length + 4 by omega,show 3 < r.length + 4 by omega,decide_true,Bool.true_and,Bool.and_eq_true,decide_eq_true_eq,Utf8.valid,Utf8.runeError]
   try rfl
  rw [e2,e3]
  simp only [moreB,Bool.and_eq_true,Bool.or_eq_true,decide_eq_true_eq,beq_iff_eq]
  repeat' split
  all_goals (dsimp only; omega)
end Go.VE
namespace Go.VE.Un
open Go.VE
set_option linter.unusedVariables false
set_option linter.unusedSimpArgs false
@[simp] theorem more808 (c : UInt8) : callRO vp 808 [byteV c] = some (.bool (moreB c)) := by
 rw [callRO_K fn808]
 by_cases h : 128 ≤ (c.toNat : Int) <;> simp -implicitDefEqProofs [byteV,h,moreB]
theorem byte_lt (c : UInt8) : (c.toNat : Int) < 256 := by have := c.toNat_lt; omega
theorem wrapB (c : UInt8) : IntKind.i64.wrap (c.toNat : Int) = c.toNat := wrap64 (by omega) (by have := byte_lt c; omega)
theorem conv_byte (c : UInt8) : convV (.int .i64) (byteV c) = some (.int .i64 c.toNat) := by rw [byteV,conv_int,wrapB]
@[simp] theorem bv_below (k : Nat) (c : UInt8) : belowB k (byteV c) = true := nr rfl
def OKf (s : List UInt8) : Prop := callRO vp 801 [.str s] = some (.tup [.int .i64 (firstR s).1,.int .i64 (firstR s).2])
theorem firstR_0 : firstR [] = (65533,0) := rfl
theorem firstR_1 (a : UInt8) : firstR [a] = if (a.toNat : Int) < 128 then ((a.toNat : Int),1) else (65533,1) := rfl
theorem firstR_2 (a b : UInt8) : firstR [a,b] = if (a.toNat : Int) < 128 then ((a.toNat : Int),1) else if 194 ≤ (a.toNat : Int) ∧ (a.toNat : Int) < 224 ∧ moreB b = true then (64 * ((a.toNat : Int) - 192) + b.toNat - 128,2) else (65533,1) := rfl
theorem firstR_3 (a b c : UInt8) : firstR [a,b,c] = if (a.toNat : Int) < 128 then ((a.toNat : Int),1) else if 194 ≤ (a.toNat : Int) ∧ (a.toNat : Int) < 224 ∧ moreB b = true then (64 * ((a.toNat : Int) - 192) + b.toNat - 128,2) else if 224 ≤ (a.toNat : Int) ∧ (a.toNat : Int) < 240 ∧ moreB b = true ∧ moreB c = true ∧ 2048 ≤ 4096 * ((a.toNat : Int) - 224) + 64 * ((b.toNat : Int) - 128) + (c.toNat : Int) - 128 ∧ (4096 * ((a.toNat : Int) - 224) + 64 * ((b.toNat : Int) - 128) + (c.toNat : Int) - 128 < 55296 ∨ 57343 < 4096 * ((a.toNat : Int) - 224) + 64 * ((b.toNat : Int) - 128) + (c.toNat : Int) - 128) then (4096 * ((a.toNat : Int) - 224) + 64 * ((b.toNat : Int) - 128) + (c.toNat : Int) - 128,3) else (65533,1) := rfl
theorem firstR_4 (a b c d : UInt8) (r : List UInt8) : firstR (a :: b :: c :: d :: r) = if (a.toNat : Int) < 128 then ((a.toNat : Int),1) else if 194 ≤ (a.toNat : Int) ∧ (a.toNat : Int) < 224 ∧ moreB b = true then (64 * ((a.toNat : Int) - 192) + b.toNat - 128,2) else if 224 ≤ (a.toNat : Int) ∧ (a.toNat : Int) < 240 ∧ moreB b = true ∧ moreB c = true ∧ 2048 ≤ 4096 * ((a.toNat : Int) - 224) + 64 * ((b.toNat : Int) - 128) + (c.toNat : Int) - 128 ∧ (4096 * ((a.toNat : Int) - 224) + 64 * ((b.toNat : Int) - 128) + (c.toNat : Int) - 128 < 55296 ∨ 57343 < 4096 * ((a.toNat : Int) - 224) + 64 * ((b.toNat : Int) - 128) + (c.toNat : Int) - 128) then (4096 * ((a.toNat : Int) - 224) + 64 * ((b.toNat : Int) - 128) + (c.toNat : Int) - 128,3) else if 240 ≤ (a.toNat : Int) ∧ (a.toNat : Int) < 245 ∧ moreB b = true ∧ moreB c = true ∧ moreB d = true ∧ 65536 ≤ 262144 * ((a.toNat : Int) - 240) + 4096 * ((b.toNat : Int) - 128) + 64 * ((c.toNat : Int) - 128) + (d.toNat : Int) - 128 ∧ 262144 * ((a.toNat : Int) - 240) + 4096 * ((b.toNat : Int) - 128) + 64 * ((c.toNat : Int) - 128) + (d.toNat : Int) - 128 ≤ 1114111 then (262144 * ((a.toNat : Int) - 240) + 4096 * ((b.toNat : Int) - 128) + 64 * ((c.toNat : Int) - 128) + (d.toNat : Int) - 128,4) else (65533,1) := rfl
theorem firstR_t2 (a b : UInt8) (r : List UInt8) (h0 : ¬ (a.toNat : Int) < 128) (h : 194 ≤ (a.toNat : Int) ∧ (a.toNat : Int) < 224 ∧ moreB b = true) : firstR (a :: b :: r) = (64 * ((a.toNat : Int) - 192) + b.toNat - 128,2) := by
 match r with
 | [] => rw [firstR_2,if_neg h0,if_pos h]
 | [c] => rw [firstR_3,if_neg h0,if_pos h]
 | c :: d :: r => rw [firstR_4,if_neg h0,if_pos h]
theorem firstR_t3 (a b c : UInt8) (r : List UInt8) (h0 : ¬ (a.toNat : Int) < 128) (h1 : ¬ (194 ≤ (a.toNat : Int) ∧ (a.toNat : Int) < 224 ∧ moreB b = true)) (h : 224 ≤ (a.toNat : Int) ∧ (a.toNat : Int) < 240 ∧ moreB b = true ∧ moreB c = true ∧ 2048 ≤ 4096 * ((a.toNat : Int) - 224) + 64 * ((b.toNat : Int) - 128) + (c.toNat : Int) - 128 ∧ (4096 * ((a.toNat : Int) - 224) + 64 * ((b.toNat : Int) - 128) + (c.toNat : Int) - 128 < 55296 ∨ 57343 < 4096 * ((a.toNat : Int) - 224) + 64 * ((b.toNat : Int) - 128) + (c.toNat : Int) - 128)) : firstR (a :: b :: c :: r) = (4096 * ((a.toNat : Int) - 224) + 64 * ((b.toNat : Int) - 128) + (c.toNat : Int) - 128,3) := by
 match r with
 | [] => rw [firstR_3,if_neg h0,if_neg h1,if_pos h]
 | d :: r => rw [firstR_4,if_neg h0,if_neg h1,if_pos h]
set_option maxRecDepth 20000
theorem fw1 (a : UInt8) : IntKind.i64.wrap ((a.toNat : Int) - 192) = (a.toNat : Int) - 192 := by
 have := byte_lt a
 exact wrap64 (by omega) (by omega)
theorem fw2 (a : UInt8) : IntKind.i64.wrap (64 * ((a.toNat : Int) - 192)) = 64 * ((a.toNat : Int) - 192) := by
 have := byte_lt a
 exact wrap64 (by omega) (by omega)
theorem fw3 (a b : UInt8) : IntKind.i64.wrap (64 * ((a.toNat : Int) - 192) + (b.toNat : Int)) = 64 * ((a.toNat : Int) - 192) + (b.toNat : Int) := by
 have := byte_lt a
 have := byte_lt b
 exact wrap64 (by omega) (by omega)
theorem fw4 (a b : UInt8) : IntKind.i64.wrap (64 * ((a.toNat : Int) - 192) + (b.toNat : Int) - 128) = 64 * ((a.toNat : Int) - 192) + (b.toNat : Int) - 128 := by
 have := byte_lt a
 have := byte_lt b
 exact wrap64 (by omega) (by omega)
theorem fx1 (a : UInt8) : IntKind.i64.wrap ((a.toNat : Int) - 224) = (a.toNat : Int) - 224 := by
 have := byte_lt a
 exact wrap64 (by omega) (by omega)
theorem fx2 (a : UInt8) : IntKind.i64.wrap (4096 * ((a.toNat : Int) - 224)) = 4096 * ((a.toNat : Int) - 224) := by
 have := byte_lt a
 exact wrap64 (by omega) (by omega)
theorem fx3 (b : UInt8) : IntKind.i64.wrap ((b.toNat : Int) - 128) = (b.toNat : Int) - 128 := by
 have := byte_lt b
 exact wrap64 (by omega) (by omega)
theorem fx4 (b : UInt8) : IntKind.i64.wrap (64 * ((b.toNat : Int) - 128)) = 64 * ((b.toNat : Int) - 128) := by
 have := byte_lt b
 exact wrap64 (by omega) (by omega)
theorem fx5 (a b : UInt8) : IntKind.i64.wrap (4096 * ((a.toNat : Int) - 224) + 64 * ((b.toNat : Int) - 128)) = 4096 * ((a.toNat : Int) - 224) + 64 * ((b.toNat : Int) - 128) := by
 have := byte_lt a
 have := byte_lt b
 exact wrap64 (by omega) (by omega)
theorem fx6 (a b c : UInt8) : IntKind.i64.wrap (4096 * ((a.toNat : Int) - 224) + 64 * ((b.toNat : Int) - 128) + (c.toNat : Int)) = 4096 * ((a.toNat : Int) - 224) + 64 * ((b.toNat : Int) - 128) + (c.toNat : Int) := by
 have := byte_lt a
 have := byte_lt b
 have := byte_lt c
 exact wrap64 (by omega) (by omega)
theorem fx7 (a b c : UInt8) : IntKind.i64.wrap (4096 * ((a.toNat : Int) - 224) + 64 * ((b.toNat : Int) - 128) + (c.toNat : Int) - 128) = 4096 * ((a.toNat : Int) - 224) + 64 * ((b.toNat : Int) - 128) + (c.toNat : Int) - 128 := by
 have := byte_lt a
 have := byte_lt b
 have := byte_lt c
 exact wrap64 (by omega) (by omega)
theorem fy1 (a : UInt8) : IntKind.i64.wrap ((a.toNat : Int) - 240) = (a.toNat : Int) - 240 := by
 have := byte_lt a
 exact wrap64 (by omega) (by omega)
theorem fy2 (a : UInt8) : IntKind.i64.wrap (262144 * ((a.toNat : Int) - 240)) = 262144 * ((a.toNat : Int) - 240) := by
 have := byte_lt a
 exact wrap64 (by omega) (by omega)
theorem fy3 (b : UInt8) : IntKind.i64.wrap (4096 * ((b.toNat : Int) - 128)) = 4096 * ((b.toNat : Int) - 128) := by
 have := byte_lt b
 exact wrap64 (by omega) (by omega)
theorem fy4 (a b : UInt8) : IntKind.i64.wrap (262144 * ((a.toNat : Int) - 240) + 4096 * ((b.toNat : Int) - 128)) = 262144 * ((a.toNat : Int) - 240) + 4096 * ((b.toNat : Int) - 128) := by
 have := byte_lt a
 have := byte_lt b
 exact wrap64 (by omega) (by omega)
theorem fy5 (c : UInt8) : IntKind.i64.wrap ((c.toNat : Int) - 128) = (c.toNat : Int) - 128 := by
 have := byte_lt c
 exact wrap64 (by omega) (by omega)
theorem fy6 (c : UInt8) : IntKind.i64.wrap (64 * ((c.toNat : Int) - 128)) = 64 * ((c.toNat : Int) - 128) := by
 have := byte_lt c
 exact wrap64 (by omega) (by omega)
theorem fy7 (a b c : UInt8) : IntKind.i64.wrap (262144 * ((a.toNat : Int) - 240) + 4096 * ((b.toNat : Int) - 128) + 64 * ((c.toNat : Int) - 128)) = 262144 * ((a.toNat : Int) - 240) + 4096 * ((b.toNat : Int) - 128) + 64 * ((c.toNat : Int) - 128) := by
 have := byte_lt a
 have := byte_lt b
 have := byte_lt c
 exact wrap64 (by omega) (by omega)
theorem fy8 (a b c d : UInt8) : IntKind.i64.wrap (262144 * ((a.toNat : Int) - 240) + 4096 * ((b.toNat : Int) - 128) + 64 * ((c.toNat : Int) - 128) + (d.toNat : Int)) = 262144 * ((a.toNat : Int) - 240) + 4096 * ((b.toNat : Int) - 128) + 64 * ((c.toNat : Int) - 128) + (d.toNat : Int) := by
 have := byte_lt a
 have := byte_lt b
 have := byte_lt c
 have := byte_lt d
 exact wrap64 (by omega) (by omega)
theorem fy9 (a b c d : UInt8) : IntKind.i64.wrap (262144 * ((a.toNat : Int) - 240) + 4096 * ((b.toNat : Int) - 128) + 64 * ((c.toNat : Int) - 128) + (d.toNat : Int) - 128) = 262144 * ((a.toNat : Int) - 240) + 4096 * ((b.toNat : Int) - 128) + 64 * ((c.toNat : Int) - 128) + (d.toNat : Int) - 128 := by
 have := byte_lt a
 have := byte_lt b
 have := byte_lt c
 have := byte_lt d
 exact wrap64 (by omega) (by omega)
theorem gI1 (a b : UInt8) (r : List UInt8) : getI (a :: b :: r) 1 = some b := getI_1 _
theorem gI2 (a b c : UInt8) (r : List UInt8) : getI (a :: b :: c :: r) 2 = some c := getI_2 _
theorem gI3 (a b c d : UInt8) (r : List UInt8) : getI (a :: b :: c :: d :: r) 3 = some d := getI_3 _
section
variable {a b c d : UInt8} {r : List UInt8} (h0 : ¬ (a.toNat : Int) < 128)
include h0
theorem fiB1 (h1 : ¬ 194 ≤ (a.toNat : Int)) : OKf ([a]) := by
 have q0 : ¬ 194 ≤ (a.toNat : Int) := by omega
 have q1 : ¬ 224 ≤ (a.toNat : Int) := by omega
 have q2 : ¬ 240 ≤ (a.toNat : Int) := by omega
 rw [OKf,callRO_K fn801]
 simp -implicitDefEqProofs [firstR_1,conv_byte,h0,q0,q1,q2]
theorem fiC1 (h1 : 194 ≤ (a.toNat : Int)) (h2 : (a.toNat : Int) < 224) : OKf ([a]) := by
 have q0 : 194 ≤ (a.toNat : Int) := by omega
 have q1 : (a.toNat : Int) < 224 := by omega
 have q2 : ¬ 224 ≤ (a.toNat : Int) := by omega
 have q3 : ¬ 240 ≤ (a.toNat : Int) := by omega
 rw [OKf,callRO_K fn801]
 simp -implicitDefEqProofs [firstR_1,conv_byte,h0,q0,q1,q2,q3]
theorem fiD1 (h1 : 224 ≤ (a.toNat : Int)) (h2 : (a.toNat : Int) < 240) : OKf ([a]) := by
 have q0 : 194 ≤ (a.toNat : Int) := by omega
 have q1 : ¬ (a.toNat : Int) < 224 := by omega
 have q2 : 224 ≤ (a.toNat : Int) := by omega
 have q3 : (a.toNat : Int) < 240 := by omega
 have q4 : ¬ 240 ≤ (a.toNat : Int) := by omega
 rw [OKf,callRO_K fn801]
 simp -implicitDefEqProofs [firstR_1,conv_byte,h0,q0,q1,q2,q3,q4]
theorem fiE1 (h1 : 240 ≤ (a.toNat : Int)) (h2 : (a.toNat : Int) < 245) : OKf ([a]) := by
 have q0 : 194 ≤ (a.toNat : Int) := by omega
 have q1 : ¬ (a.toNat : Int) < 224 := by omega
 have q2 : 224 ≤ (a.toNat : Int) := by omega
 have q3 : ¬ (a.toNat : Int) < 240 := by omega
 have q4 : 240 ≤ (a.toNat : Int) := by omega
 have q5 : (a.toNat : Int) < 245 := by omega
 rw [OKf,callRO_K fn801]
 simp -implicitDefEqProofs [firstR_1,conv_byte,h0,q0,q1,q2,q3,q4,q5]
theorem fiF1 (h1 : 245 ≤ (a.toNat : Int)) : OKf ([a]) := by
 have q0 : 194 ≤ (a.toNat : Int) := by omega
 have q1 : ¬ (a.toNat : Int) < 224 := by omega
 have q2 : 224 ≤ (a.toNat : Int) := by omega
 have q3 : ¬ (a.toNat : Int) < 240 := by omega
 have q4 : 240 ≤ (a.toNat : Int) := by omega
 have q5 : ¬ (a.toNat : Int) < 245 := by omega
 rw [OKf,callRO_K fn801]
 simp -implicitDefEqProofs [firstR_1,conv_byte,h0,q0,q1,q2,q3,q4,q5]
theorem fiB2 (h1 : ¬ 194 ≤ (a.toNat : Int)) : OKf ([a,b]) := by
 have q0 : ¬ 194 ≤ (a.toNat : Int) := by omega
 have q1 : ¬ 224 ≤ (a.toNat : Int) := by omega
 have q2 : ¬ 240 ≤ (a.toNat : Int) := by omega
 rw [OKf,callRO_K fn801]
 simp -implicitDefEqProofs [firstR_2,conv_byte,h0,q0,q1,q2,gI1]
theorem fiD2 (h1 : 224 ≤ (a.toNat : Int)) (h2 : (a.toNat : Int) < 240) : OKf ([a,b]) := by
 have q0 : 194 ≤ (a.toNat : Int) := by omega
 have q1 : ¬ (a.toNat : Int) < 224 := by omega
 have q2 : 224 ≤ (a.toNat : Int) := by omega
 have q3 : (a.toNat : Int) < 240 := by omega
 have q4 : ¬ 240 ≤ (a.toNat : Int) := by omega
 rw [OKf,callRO_K fn801]
 simp -implicitDefEqProofs [firstR_2,conv_byte,h0,q0,q1,q2,q3,q4,gI1,fx1,fx2,fx3,fx4,fx5]
theorem fiE2 (h1 : 240 ≤ (a.toNat : Int)) (h2 : (a.toNat : Int) < 245) : OKf ([a,b]) := by
 have q0 : 194 ≤ (a.toNat : Int) := by omega
 have q1 : ¬ (a.toNat : Int) < 224 := by omega
 have q2 : 224 ≤ (a.toNat : Int) := by omega
 have q3 : ¬ (a.toNat : Int) < 240 := by omega
 have q4 : 240 ≤ (a.toNat : Int) := by omega
 have q5 : (a.toNat : Int) < 245 := by omega
 rw [OKf,callRO_K fn801]
 simp -implicitDefEqProofs [firstR_2,conv_byte,h0,q0,q1,q2,q3,q4,q5,gI1,fx1,fx2,fx3,fx4,fx5,fy1,fy2,fy3,fy4]
theorem fiF2 (h1 : 245 ≤ (a.toNat : Int)) : OKf ([a,b]) := by
 have q0 : 194 ≤ (a.toNat : Int) := by omega
 have q1 : ¬ (a.toNat : Int) < 224 := by omega
 have q2 : 224 ≤ (a.toNat : Int) := by omega
 have q3 : ¬ (a.toNat : Int) < 240 := by omega
 have q4 : 240 ≤ (a.toNat : Int) := by omega
 have q5 : ¬ (a.toNat : Int) < 245 := by omega
 rw [OKf,callRO_K fn801]
 simp -implicitDefEqProofs [firstR_2,conv_byte,h0,q0,q1,q2,q3,q4,q5,gI1]
theorem fiB3 (h1 : ¬ 194 ≤ (a.toNat : Int)) : OKf ([a,b,c]) := by
 have q0 : ¬ 194 ≤ (a.toNat : Int) := by omega
 have q1 : ¬ 224 ≤ (a.toNat : Int) := by omega
 have q2 : ¬ 240 ≤ (a.toNat : Int) := by omega
 rw [OKf,callRO_K fn801]
 simp -implicitDefEqProofs [firstR_3,conv_byte,h0,q0,q1,q2,gI1,gI2]
theorem fiE3 (h1 : 240 ≤ (a.toNat : Int)) (h2 : (a.toNat : Int) < 245) : OKf ([a,b,c]) := by
 have q0 : 194 ≤ (a.toNat : Int) := by omega
 have q1 : ¬ (a.toNat : Int) < 224 := by omega
 have q2 : 224 ≤ (a.toNat : Int) := by omega
 have q3 : ¬ (a.toNat : Int) < 240 := by omega
 have q4 : 240 ≤ (a.toNat : Int) := by omega
 have q5 : (a.toNat : Int) < 245 := by omega
 rw [OKf,callRO_K fn801]
 simp -implicitDefEqProofs [firstR_3,conv_byte,h0,q0,q1,q2,q3,q4,q5,gI1,gI2,fx1,fx2,fx3,fx4,fx5,fx6,fx7,fy1,fy2,fy3,fy4,fy5,fy6,fy7]
theorem fiF3 (h1 : 245 ≤ (a.toNat : Int)) : OKf ([a,b,c]) := by
 have q0 : 194 ≤ (a.toNat : Int) := by omega
 have q1 : ¬ (a.toNat : Int) < 224 := by omega
 have q2 : 224 ≤ (a.toNat : Int) := by omega
 have q3 : ¬ (a.toNat : Int) < 240 := by omega
 have q4 : 240 ≤ (a.toNat : Int) := by omega
 have q5 : ¬ (a.toNat : Int) < 245 := by omega
 rw [OKf,callRO_K fn801]
 simp -implicitDefEqProofs [firstR_3,conv_byte,h0,q0,q1,q2,q3,q4,q5,gI1,gI2]
theorem fiB4 (h1 : ¬ 194 ≤ (a.toNat : Int)) : OKf (a :: b :: c :: d :: r) := by
 have q0 : ¬ 194 ≤ (a.toNat : Int) := by omega
 have q1 : ¬ 224 ≤ (a.toNat : Int) := by omega
 have q2 : ¬ 240 ≤ (a.toNat : Int) := by omega
 have z0 : ¬ (r.length : Int) + 1 + 1 + 1 + 1 = 0 := by omega
 have z2 : 2 ≤ (r.length : Int) + 1 + 1 + 1 + 1 := by omega
 have z3 : 3 ≤ (r.length : Int) + 1 + 1 + 1 + 1 := by omega
 have z4 : 4 ≤ (r.length : Int) + 1 + 1 + 1 + 1 := by omega
 rw [OKf,callRO_K fn801]
 simp -implicitDefEqProofs [firstR_4,conv_byte,h0,q0,q1,q2,z0,z2,z3,z4,gI1,gI2,gI3]
theorem fiF4 (h1 : 245 ≤ (a.toNat : Int)) : OKf (a :: b :: c :: d :: r) := by
 have q0 : 194 ≤ (a.toNat : Int) := by omega
 have q1 : ¬ (a.toNat : Int) < 224 := by omega
 have q2 : 224 ≤ (a.toNat : Int) := by omega
 have q3 : ¬ (a.toNat : Int) < 240 := by omega
 have q4 : 240 ≤ (a.toNat : Int) := by omega
 have q5 : ¬ (a.toNat : Int) < 245 := by omega
 have z0 : ¬ (r.length : Int) + 1 + 1 + 1 + 1 = 0 := by omega
 have z2 : 2 ≤ (r.length : Int) + 1 + 1 + 1 + 1 := by omega
 have z3 : 3 ≤ (r.length : Int) + 1 + 1 + 1 + 1 := by omega
 have z4 : 4 ≤ (r.length : Int) + 1 + 1 + 1 + 1 := by omega
 rw [OKf,callRO_K fn801]
 simp -implicitDefEqProofs [firstR_4,conv_byte,h0,q0,q1,q2,q3,q4,q5,z0,z2,z3,z4,gI1,gI2,gI3]
theorem fiCt (h1 : 194 ≤ (a.toNat : Int)) (h2 : (a.toNat : Int) < 224) (mb : moreB b = true) : OKf (a :: b :: r) := by
 have q0 : 194 ≤ (a.toNat : Int) := by omega
 have q1 : (a.toNat : Int) < 224 := by omega
 have q2 : ¬ 224 ≤ (a.toNat : Int) := by omega
 have q3 : ¬ 240 ≤ (a.toNat : Int) := by omega
 have z0 : ¬ (r.length : Int) + 1 + 1 = 0 := by omega
 have z2 : 2 ≤ (r.length : Int) + 1 + 1 := by omega
 rw [OKf,callRO_K fn801]
 simp -implicitDefEqProofs [firstR_t2 a b r h0 ⟨h1,h2,mb⟩,conv_byte,h0,q0,q1,q2,q3,z0,z2,gI1,fw1,fw2,fw3,fw4,mb]
theorem fiCf2 (h1 : 194 ≤ (a.toNat : Int)) (h2 : (a.toNat : Int) < 224) (mb : moreB b = false) : OKf ([a,b]) := by
 have q0 : 194 ≤ (a.toNat : Int) := by omega
 have q1 : (a.toNat : Int) < 224 := by omega
 have q2 : ¬ 224 ≤ (a.toNat : Int) := by omega
 have q3 : ¬ 240 ≤ (a.toNat : Int) := by omega
 rw [OKf,callRO_K fn801]
 simp -implicitDefEqProofs [firstR_2,conv_byte,h0,q0,q1,q2,q3,gI1,fw1,fw2,fw3,fw4,mb]
theorem fiCf3 (h1 : 194 ≤ (a.toNat : Int)) (h2 : (a.toNat : Int) < 224) (mb : moreB b = false) : OKf ([a,b,c]) := by
 have q0 : 194 ≤ (a.toNat : Int) := by omega
 have q1 : (a.toNat : Int) < 224 := by omega
 have q2 : ¬ 224 ≤ (a.toNat : Int) := by omega
 have q3 : ¬ 240 ≤ (a.toNat : Int) := by omega
 rw [OKf,callRO_K fn801]
 simp -implicitDefEqProofs [firstR_3,conv_byte,h0,q0,q1,q2,q3,gI1,gI2,fw1,fw2,fw3,fw4,mb]
theorem fiCf4 (h1 : 194 ≤ (a.toNat : Int)) (h2 : (a.toNat : Int) < 224) (mb : moreB b = false) : OKf (a :: b :: c :: d :: r) := by
 have q0 : 194 ≤ (a.toNat : Int) := by omega
 have q1 : (a.toNat : Int) < 224 := by omega
 have q2 : ¬ 224 ≤ (a.toNat : Int) := by omega
 have q3 : ¬ 240 ≤ (a.toNat : Int) := by omega
 have z0 : ¬ (r.length : Int) + 1 + 1 + 1 + 1 = 0 := by omega
 have z2 : 2 ≤ (r.length : Int) + 1 + 1 + 1 + 1 := by omega
 have z3 : 3 ≤ (r.length : Int) + 1 + 1 + 1 + 1 := by omega
 have z4 : 4 ≤ (r.length : Int) + 1 + 1 + 1 + 1 := by omega
 rw [OKf,callRO_K fn801]
 simp -implicitDefEqProofs [firstR_4,conv_byte,h0,q0,q1,q2,q3,z0,z2,z3,z4,gI1,gI2,gI3,fw1,fw2,fw3,fw4,mb]
theorem fiDf3 (h1 : 224 ≤ (a.toNat : Int)) (h2 : (a.toNat : Int) < 240) (mb : moreB b = false) : OKf ([a,b,c]) := by
 have q0 : 194 ≤ (a.toNat : Int) := by omega
 have q1 : ¬ (a.toNat : Int) < 224 := by omega
 have q2 : 224 ≤ (a.toNat : Int) := by omega
 have q3 : (a.toNat : Int) < 240 := by omega
 have q4 : ¬ 240 ≤ (a.toNat : Int) := by omega
 rw [OKf,callRO_K fn801]
 simp -implicitDefEqProofs [firstR_3,conv_byte,h0,q0,q1,q2,q3,q4,gI1,gI2,fx1,fx2,fx3,fx4,fx5,fx6,fx7,mb]
theorem fiDg3 (h1 : 224 ≤ (a.toNat : Int)) (h2 : (a.toNat : Int) < 240) (mb : moreB b = true) (mc : moreB c = false) : OKf ([a,b,c]) := by
 have q0 : 194 ≤ (a.toNat : Int) := by omega
 have q1 : ¬ (a.toNat : Int) < 224 := by omega
 have q2 : 224 ≤ (a.toNat : Int) := by omega
 have q3 : (a.toNat : Int) < 240 := by omega
 have q4 : ¬ 240 ≤ (a.toNat : Int) := by omega
 rw [OKf,callRO_K fn801]
 simp -implicitDefEqProofs [firstR_3,conv_byte,h0,q0,q1,q2,q3,q4,gI1,gI2,fx1,fx2,fx3,fx4,fx5,fx6,fx7,mb,mc]
theorem fiDl3 (h1 : 224 ≤ (a.toNat : Int)) (h2 : (a.toNat : Int) < 240) (mb : moreB b = true) (mc : moreB c = true) (n1 : ¬ 2048 ≤ 4096 * ((a.toNat : Int) - 224) + 64 * ((b.toNat : Int) - 128) + (c.toNat : Int) - 128) : OKf ([a,b,c]) := by
 have q0 : 194 ≤ (a.toNat : Int) := by omega
 have q1 : ¬ (a.toNat : Int) < 224 := by omega
 have q2 : 224 ≤ (a.toNat : Int) := by omega
 have q3 : (a.toNat : Int) < 240 := by omega
 have q4 : ¬ 240 ≤ (a.toNat : Int) := by omega
 rw [OKf,callRO_K fn801]
 simp -implicitDefEqProofs [firstR_3,conv_byte,h0,q0,q1,q2,q3,q4,gI1,gI2,fx1,fx2,fx3,fx4,fx5,fx6,fx7,mb,mc,n1]
theorem fiDm3 (h1 : 224 ≤ (a.toNat : Int)) (h2 : (a.toNat : Int) < 240) (mb : moreB b = true) (mc : moreB c = true) (n1 : 2048 ≤ 4096 * ((a.toNat : Int) - 224) + 64 * ((b.toNat : Int) - 128) + (c.toNat : Int) - 128) (n2 : ¬ 4096 * ((a.toNat : Int) - 224) + 64 * ((b.toNat : Int) - 128) + (c.toNat : Int) - 128 < 55296) (n3 : ¬ 57343 < 4096 * ((a.toNat : Int) - 224) + 64 * ((b.toNat : Int) - 128) + (c.toNat : Int) - 128) : OKf ([a,b,c]) := by
 have q0 : 194 ≤ (a.toNat : Int) := by omega
 have q1 : ¬ (a.toNat : Int) < 224 := by omega
 have q2 : 224 ≤ (a.toNat : Int) := by omega
 have q3 : (a.toNat : Int) < 240 := by omega
 have q4 : ¬ 240 ≤ (a.toNat : Int) := by omega
 rw [OKf,callRO_K fn801]
 simp -implicitDefEqProofs [firstR_3,conv_byte,h0,q0,q1,q2,q3,q4,gI1,gI2,fx1,fx2,fx3,fx4,fx5,fx6,fx7,mb,mc,n1,n2,n3]
theorem fiDf4 (h1 : 224 ≤ (a.toNat : Int)) (h2 : (a.toNat : Int) < 240) (mb : moreB b = false) : OKf (a :: b :: c :: d :: r) := by
 have q0 : 194 ≤ (a.toNat : Int) := by omega
 have q1 : ¬ (a.toNat : Int) < 224 := by omega
 have q2 : 224 ≤ (a.toNat : Int) := by omega
 have q3 : (a.toNat : Int) < 240 := by omega
 have q4 : ¬ 240 ≤ (a.toNat : Int) := by omega
 have z0 : ¬ (r.length : Int) + 1 + 1 + 1 + 1 = 0 := by omega
 have z2 : 2 ≤ (r.length : Int) + 1 + 1 + 1 + 1 := by omega
 have z3 : 3 ≤ (r.length : Int) + 1 + 1 + 1 + 1 := by omega
 have z4 : 4 ≤ (r.length : Int) + 1 + 1 + 1 + 1 := by omega
 rw [OKf,callRO_K fn801]
 simp -implicitDefEqProofs [firstR_4,conv_byte,h0,q0,q1,q2,q3,q4,z0,z2,z3,z4,gI1,gI2,gI3,fx1,fx2,fx3,fx4,fx5,fx6,fx7,mb]
theorem fiDg4 (h1 : 224 ≤ (a.toNat : Int)) (h2 : (a.toNat : Int) < 240) (mb : moreB b = true) (mc : moreB c = false) : OKf (a :: b :: c :: d :: r) := by
 have q0 : 194 ≤ (a.toNat : Int) := by omega
 have q1 : ¬ (a.toNat : Int) < 224 := by omega
 have q2 : 224 ≤ (a.toNat : Int) := by omega
 have q3 : (a.toNat : Int) < 240 := by omega
 have q4 : ¬ 240 ≤ (a.toNat : Int) := by omega
 have z0 : ¬ (r.length : Int) + 1 + 1 + 1 + 1 = 0 := by omega
 have z2 : 2 ≤ (r.length : Int) + 1 + 1 + 1 + 1 := by omega
 have z3 : 3 ≤ (r.length : Int) + 1 + 1 + 1 + 1 := by omega
 have z4 : 4 ≤ (r.length : Int) + 1 + 1 + 1 + 1 := by omega
 rw [OKf,callRO_K fn801]
 simp -implicitDefEqProofs [firstR_4,conv_byte,h0,q0,q1,q2,q3,q4,z0,z2,z3,z4,gI1,gI2,gI3,fx1,fx2,fx3,fx4,fx5,fx6,fx7,mb,mc]
theorem fiDl4 (h1 : 224 ≤ (a.toNat : Int)) (h2 : (a.toNat : Int) < 240) (mb : moreB b = true) (mc : moreB c = true) (n1 : ¬ 2048 ≤ 4096 * ((a.toNat : Int) - 224) + 64 * ((b.toNat : Int) - 128) + (c.toNat : Int) - 128) : OKf (a :: b :: c :: d :: r) := by
 have q0 : 194 ≤ (a.toNat : Int) := by omega
 have q1 : ¬ (a.toNat : Int) < 224 := by omega
 have q2 : 224 ≤ (a.toNat : Int) := by omega
 have q3 : (a.toNat : Int) < 240 := by omega
 have q4 : ¬ 240 ≤ (a.toNat : Int) := by omega
 have z0 : ¬ (r.length : Int) + 1 + 1 + 1 + 1 = 0 := by omega
 have z2 : 2 ≤ (r.length : Int) + 1 + 1 + 1 + 1 := by omega
 have z3 : 3 ≤ (r.length : Int) + 1 + 1 + 1 + 1 := by omega
 have z4 : 4 ≤ (r.length : Int) + 1 + 1 + 1 + 1 := by omega
 rw [OKf,callRO_K fn801]
 simp -implicitDefEqProofs [firstR_4,conv_byte,h0,q0,q1,q2,q3,q4,z0,z2,z3,z4,gI1,gI2,gI3,fx1,fx2,fx3,fx4,fx5,fx6,fx7,mb,mc,n1]
theorem fiDm4 (h1 : 224 ≤ (a.toNat : Int)) (h2 : (a.toNat : Int) < 240) (mb : moreB b = true) (mc : moreB c = true) (n1 : 2048 ≤ 4096 * ((a.toNat : Int) - 224) + 64 * ((b.toNat : Int) - 128) + (c.toNat : Int) - 128) (n2 : ¬ 4096 * ((a.toNat : Int) - 224) + 64 * ((b.toNat : Int) - 128) + (c.toNat : Int) - 128 < 55296) (n3 : ¬ 57343 < 4096 * ((a.toNat : Int) - 224) + 64 * ((b.toNat : Int) - 128) + (c.toNat : Int) - 128) : OKf (a :: b :: c :: d :: r) := by
 have q0 : 194 ≤ (a.toNat : Int) := by omega
 have q1 : ¬ (a.toNat : Int) < 224 := by omega
 have q2 : 224 ≤ (a.toNat : Int) := by omega
 have q3 : (a.toNat : Int) < 240 := by omega
 have q4 : ¬ 240 ≤ (a.toNat : Int) := by omega
 have z0 : ¬ (r.length : Int) + 1 + 1 + 1 + 1 = 0 := by omega
 have z2 : 2 ≤ (r.length : Int) + 1 + 1 + 1 + 1 := by omega
 have z3 : 3 ≤ (r.length : Int) + 1 + 1 + 1 + 1 := by omega
 have z4 : 4 ≤ (r.length : Int) + 1 + 1 + 1 + 1 := by omega
 rw [OKf,callRO_K fn801]
 simp -implicitDefEqProofs [firstR_4,conv_byte,h0,q0,q1,q2,q3,q4,z0,z2,z3,z4,gI1,gI2,gI3,fx1,fx2,fx3,fx4,fx5,fx6,fx7,mb,mc,n1,n2,n3]
theorem fiDs (h1 : 224 ≤ (a.toNat : Int)) (h2 : (a.toNat : Int) < 240) (mb : moreB b = true) (mc : moreB c = true) (n1 : 2048 ≤ 4096 * ((a.toNat : Int) - 224) + 64 * ((b.toNat : Int) - 128) + (c.toNat : Int) - 128) (n2 : 4096 * ((a.toNat : Int) - 224) + 64 * ((b.toNat : Int) - 128) + (c.toNat : Int) - 128 < 55296) : OKf (a :: b :: c :: r) := by
 have q0 : 194 ≤ (a.toNat : Int) := by omega
 have q1 : ¬ (a.toNat : Int) < 224 := by omega
 have q2 : 224 ≤ (a.toNat : Int) := by omega
 have q3 : (a.toNat : Int) < 240 := by omega
 have q4 : ¬ 240 ≤ (a.toNat : Int) := by omega
 have z0 : ¬ (r.length : Int) + 1 + 1 + 1 = 0 := by omega
 have z2 : 2 ≤ (r.length : Int) + 1 + 1 + 1 := by omega
 have z3 : 3 ≤ (r.length : Int) + 1 + 1 + 1 := by omega
 rw [OKf,callRO_K fn801]
 simp -implicitDefEqProofs [firstR_t3 a b c r h0 (by omega) ⟨h1,h2,mb,mc,n1,.inl n2⟩,conv_byte,h0,q0,q1,q2,q3,q4,z0,z2,z3,gI1,gI2,fx1,fx2,fx3,fx4,fx5,fx6,fx7,mb,mc,n1,n2]
theorem fiDu (h1 : 224 ≤ (a.toNat : Int)) (h2 : (a.toNat : Int) < 240) (mb : moreB b = true) (mc : moreB c = true) (n1 : 2048 ≤ 4096 * ((a.toNat : Int) - 224) + 64 * ((b.toNat : Int) - 128) + (c.toNat : Int) - 128) (n2 : ¬ 4096 * ((a.toNat : Int) - 224) + 64 * ((b.toNat : Int) - 128) + (c.toNat : Int) - 128 < 55296) (n3 : 57343 < 4096 * ((a.toNat : Int) - 224) + 64 * ((b.toNat : Int) - 128) + (c.toNat : Int) - 128) : OKf (a :: b :: c :: r) := by
 have q0 : 194 ≤ (a.toNat : Int) := by omega
 have q1 : ¬ (a.toNat : Int) < 224 := by omega
 have q2 : 224 ≤ (a.toNat : Int) := by omega
 have q3 : (a.toNat : Int) < 240 := by omega
 have q4 : ¬ 240 ≤ (a.toNat : Int) := by omega
 have z0 : ¬ (r.length : Int) + 1 + 1 + 1 = 0 := by omega
 have z2 : 2 ≤ (r.length : Int) + 1 + 1 + 1 := by omega
 have z3 : 3 ≤ (r.length : Int) + 1 + 1 + 1 := by omega
 rw [OKf,callRO_K fn801]
 simp -implicitDefEqProofs [firstR_t3 a b c r h0 (by omega) ⟨h1,h2,mb,mc,n1,.inr n3⟩,conv_byte,h0,q0,q1,q2,q3,q4,z0,z2,z3,gI1,gI2,fx1,fx2,fx3,fx4,fx5,fx6,fx7,mb,mc,n1,n2,n3]
theorem fiEb (h1 : 240 ≤ (a.toNat : Int)) (h2 : (a.toNat : Int) < 245) (mb : moreB b = false) : OKf (a :: b :: c :: d :: r) := by
 have q0 : 194 ≤ (a.toNat : Int) := by omega
 have q1 : ¬ (a.toNat : Int) < 224 := by omega
 have q2 : 224 ≤ (a.toNat : Int) := by omega
 have q3 : ¬ (a.toNat : Int) < 240 := by omega
 have q4 : 240 ≤ (a.toNat : Int) := by omega
 have q5 : (a.toNat : Int) < 245 := by omega
 have z0 : ¬ (r.length : Int) + 1 + 1 + 1 + 1 = 0 := by omega
 have z2 : 2 ≤ (r.length : Int) + 1 + 1 + 1 + 1 := by omega
 have z3 : 3 ≤ (r.length : Int) + 1 + 1 + 1 + 1 := by omega
 have z4 : 4 ≤ (r.length : Int) + 1 + 1 + 1 + 1 := by omega
 rw [OKf,callRO_K fn801]
 simp -implicitDefEqProofs [firstR_4,conv_byte,h0,q0,q1,q2,q3,q4,q5,z0,z2,z3,z4,gI1,gI2,gI3,fx1,fx2,fx3,fx4,fx5,fx6,fx7,fy1,fy2,fy3,fy4,fy5,fy6,fy7,fy8,fy9,mb]
theorem fiEc (h1 : 240 ≤ (a.toNat : Int)) (h2 : (a.toNat : Int) < 245) (mb : moreB b = true) (mc : moreB c = false) : OKf (a :: b :: c :: d :: r) := by
 have q0 : 194 ≤ (a.toNat : Int) := by omega
 have q1 : ¬ (a.toNat : Int) < 224 := by omega
 have q2 : 224 ≤ (a.toNat : Int) := by omega
 have q3 : ¬ (a.toNat : Int) < 240 := by omega
 have q4 : 240 ≤ (a.toNat : Int) := by omega
 have q5 : (a.toNat : Int) < 245 := by omega
 have z0 : ¬ (r.length : Int) + 1 + 1 + 1 + 1 = 0 := by omega
 have z2 : 2 ≤ (r.length : Int) + 1 + 1 + 1 + 1 := by omega
 have z3 : 3 ≤ (r.length : Int) + 1 + 1 + 1 + 1 := by omega
 have z4 : 4 ≤ (r.length : Int) + 1 + 1 + 1 + 1 := by omega
 rw [OKf,callRO_K fn801]
 simp -implicitDefEqProofs [firstR_4,conv_byte,h0,q0,q1,q2,q3,q4,q5,z0,z2,z3,z4,gI1,gI2,gI3,fx1,fx2,fx3,fx4,fx5,fx6,fx7,fy1,fy2,fy3,fy4,fy5,fy6,fy7,fy8,fy9,mb,mc]
theorem fiEd (h1 : 240 ≤ (a.toNat : Int)) (h2 : (a.toNat : Int) < 245) (mb : moreB b = true) (mc : moreB c = true) (md : moreB d = false) : OKf (a :: b :: c :: d :: r) := by
 have q0 : 194 ≤ (a.toNat : Int) := by omega
 have q1 : ¬ (a.toNat : Int) < 224 := by omega
 have q2 : 224 ≤ (a.toNat : Int) := by omega
 have q3 : ¬ (a.toNat : Int) < 240 := by omega
 have q4 : 240 ≤ (a.toNat : Int) := by omega
 have q5 : (a.toNat : Int) < 245 := by omega
 have z0 : ¬ (r.length : Int) + 1 + 1 + 1 + 1 = 0 := by omega
 have z2 : 2 ≤ (r.length : Int) + 1 + 1 + 1 + 1 := by omega
 have z3 : 3 ≤ (r.length : Int) + 1 + 1 + 1 + 1 := by omega
 have z4 : 4 ≤ (r.length : Int) + 1 + 1 + 1 + 1 := by omega
 rw [OKf,callRO_K fn801]
 simp -implicitDefEqProofs [firstR_4,conv_byte,h0,q0,q1,q2,q3,q4,q5,z0,z2,z3,z4,gI1,gI2,gI3,fx1,fx2,fx3,fx4,fx5,fx6,fx7,fy1,fy2,fy3,fy4,fy5,fy6,fy7,fy8,fy9,mb,mc,md]
theorem fiEl (h1 : 240 ≤ (a.toNat : Int)) (h2 : (a.toNat : Int) < 245) (mb : moreB b = true) (mc : moreB c = true) (md : moreB d = true) (n1 : ¬ 65536 ≤ 262144 * ((a.toNat : Int) - 240) + 4096 * ((b.toNat : Int) - 128) + 64 * ((c.toNat : Int) - 128) + (d.toNat : Int) - 128) : OKf (a :: b :: c :: d :: r) := by
 have q0 : 194 ≤ (a.toNat : Int) := by omega
 have q1 : ¬ (a.toNat : Int) < 224 := by omega
 have q2 : 224 ≤ (a.toNat : Int) := by omega
 have q3 : ¬ (a.toNat : Int) < 240 := by omega
 have q4 : 240 ≤ (a.toNat : Int) := by omega
 have q5 : (a.toNat : Int) < 245 := by omega
 have z0 : ¬ (r.length : Int) + 1 + 1 + 1 + 1 = 0 := by omega
 have z2 : 2 ≤ (r.length : Int) + 1 + 1 + 1 + 1 := by omega
 have z3 : 3 ≤ (r.length : Int) + 1 + 1 + 1 + 1 := by omega
 have z4 : 4 ≤ (r.length : Int) + 1 + 1 + 1 + 1 := by omega
 rw [OKf,callRO_K fn801]
 simp -implicitDefEqProofs [firstR_4,conv_byte,h0,q0,q1,q2,q3,q4,q5,z0,z2,z3,z4,gI1,gI2,gI3,fx1,fx2,fx3,fx4,fx5,fx6,fx7,fy1,fy2,fy3,fy4,fy5,fy6,fy7,fy8,fy9,mb,mc,md,n1]
theorem fiEm (h1 : 240 ≤ (a.toNat : Int)) (h2 : (a.toNat : Int) < 245) (mb : moreB b = true) (mc : moreB c = true) (md : moreB d = true) (n1 : 65536 ≤ 262144 * ((a.toNat : Int) - 240) + 4096 * ((b.toNat : Int) - 128) + 64 * ((c.toNat : Int) - 128) + (d.toNat : Int) - 128) (n2 : ¬ 262144 * ((a.toNat : Int) - 240) + 4096 * ((b.toNat : Int) - 128) + 64 * ((c.toNat : Int) - 128) + (d.toNat : Int) - 128 ≤ 1114111) : OKf (a :: b :: c :: d :: r) := by
 have q0 : 194 ≤ (a.toNat : Int) := by omega
 have q1 : ¬ (a.toNat : Int) < 224 := by omega
 have q2 : 224 ≤ (a.toNat : Int) := by omega
 have q3 : ¬ (a.toNat : Int) < 240 := by omega
 have q4 : 240 ≤ (a.toNat : Int) := by omega
 have q5 : (a.toNat : Int) < 245 := by omega
 have z0 : ¬ (r.length : Int) + 1 + 1 + 1 + 1 = 0 := by omega
 have z2 : 2 ≤ (r.length : Int) + 1 + 1 + 1 + 1 := by omega
 have z3 : 3 ≤ (r.length : Int) + 1 + 1 + 1 + 1 := by omega
 have z4 : 4 ≤ (r.length : Int) + 1 + 1 + 1 + 1 := by omega
 rw [OKf,callRO_K fn801]
 simp -implicitDefEqProofs [firstR_4,conv_byte,h0,q0,q1,q2,q3,q4,q5,z0,z2,z3,z4,gI1,gI2,gI3,fx1,fx2,fx3,fx4,fx5,fx6,fx7,fy1,fy2,fy3,fy4,fy5,fy6,fy7,fy8,fy9,mb,mc,md,n1,n2]
theorem fiEs (h1 : 240 ≤ (a.toNat : Int)) (h2 : (a.toNat : Int) < 245) (mb : moreB b = true) (mc : moreB c = true) (md : moreB d = true) (n1 : 65536 ≤ 262144 * ((a.toNat : Int) - 240) + 4096 * ((b.toNat : Int) - 128) + 64 * ((c.toNat : Int) - 128) + (d.toNat : Int) - 128) (n2 : 262144 * ((a.toNat : Int) - 240) + 4096 * ((b.toNat : Int) - 128) + 64 * ((c.toNat : Int) - 128) + (d.toNat : Int) - 128 ≤ 1114111) : OKf (a :: b :: c :: d :: r) := by
 have q0 : 194 ≤ (a.toNat : Int) := by omega
 have q1 : ¬ (a.toNat : Int) < 224 := by omega
 have q2 : 224 ≤ (a.toNat : Int) := by omega
 have q3 : ¬ (a.toNat : Int) < 240 := by omega
 have q4 : 240 ≤ (a.toNat : Int) := by omega
 have q5 : (a.toNat : Int) < 245 := by omega
 have z0 : ¬ (r.length : Int) + 1 + 1 + 1 + 1 = 0 := by omega
 have z2 : 2 ≤ (r.length : Int) + 1 + 1 + 1 + 1 := by omega
 have z3 : 3 ≤ (r.length : Int) + 1 + 1 + 1 + 1 := by omega
 have z4 : 4 ≤ (r.length : Int) + 1 + 1 + 1 + 1 := by omega
 rw [OKf,callRO_K fn801]
 simp -implicitDefEqProofs [firstR_4,conv_byte,h0,q0,q1,q2,q3,q4,q5,z0,z2,z3,z4,gI1,gI2,gI3,fx1,fx2,fx3,fx4,fx5,fx6,fx7,fy1,fy2,fy3,fy4,fy5,fy6,fy7,fy8,fy9,mb,mc,md,n1,n2]
end
theorem first801 (s : List UInt8) : callRO vp 801 [.str s] = some (.tup [.int .i64 (firstR s).1,.int .i64 (firstR s).2]) := by
 rcases s with _ | ⟨a,r⟩
 ·rw [callRO_K fn801]; simp -implicitDefEqProofs [firstR_0]
 by_cases h0 : (a.toNat : Int) < 128
 ·have z : ¬ (r.length : Int) + 1 = 0 := by omega
  have e : firstR (a :: r) = ((a.toNat : Int),1) := by
   match r with
   | [] => rw [firstR_1,if_pos h0]
   | [b] => rw [firstR_2,if_pos h0]
   | [b,c] => rw [firstR_3,if_pos h0]
   | b :: c :: d :: r => rw [firstR_4,if_pos h0]
  rw [callRO_K fn801]; simp -implicitDefEqProofs [e,conv_byte,z,h0]
 have hcls : ¬ 194 ≤ (a.toNat : Int) ∨ (194 ≤ (a.toNat : Int) ∧ (a.toNat : Int) < 224) ∨ (224 ≤ (a.toNat : Int) ∧ (a.toNat : Int) < 240) ∨ (240 ≤ (a.toNat : Int) ∧ (a.toNat : Int) < 245) ∨ 245 ≤ (a.toNat : Int) := by omega
 rcases r with _ | ⟨b,r⟩
 ·rcases hcls with h | ⟨h,h'⟩ | ⟨h,h'⟩ | ⟨h,h'⟩ | h
  ·exact fiB1 h0 h
  ·exact fiC1 h0 h h'
  ·exact fiD1 h0 h h'
  ·exact fiE1 h0 h h'
  ·exact fiF1 h0 h
 have dich : ∀ v,moreB v = true ∨ moreB v = false := fun v => by cases moreB v <;> simp
 rcases hcls with h | ⟨h,h'⟩ | hD | hE | h
 ·rcases r with _ | ⟨c,_ | ⟨d,r⟩⟩
  ·exact fiB2 h0 h
  ·exact fiB3 h0 h
  ·exact fiB4 h0 h
 ·rcases dich b with m | m
  ·exact fiCt h0 h h' m
  ·rcases r with _ | ⟨c,_ | ⟨d,r⟩⟩
   ·exact fiCf2 h0 h h' m
   ·exact fiCf3 h0 h h' m
   ·exact fiCf4 h0 h h' m
 ·obtain ⟨h,h'⟩ := hD
  rcases r with _ | ⟨c,r⟩
  ·exact fiD2 h0 h h'
  rcases dich b with mb | mb
  ·rcases dich c with mc | mc
   ·by_cases n1 : 2048 ≤ 4096 * ((a.toNat : Int) - 224) + 64 * ((b.toNat : Int) - 128) + (c.toNat : Int) - 128
    ·by_cases n2 : 4096 * ((a.toNat : Int) - 224) + 64 * ((b.toNat : Int) - 128) + (c.toNat : Int) - 128 < 55296
     ·exact fiDs h0 h h' mb mc n1 n2
     ·by_cases n3 : 57343 < 4096 * ((a.toNat : Int) - 224) + 64 * ((b.toNat : Int) - 128) + (c.toNat : Int) - 128
      ·exact fiDu h0 h h' mb mc n1 n2 n3
      ·rcases r with _ | ⟨d,r⟩
       ·exact fiDm3 h0 h h' mb mc n1 n2 n3
       ·exact fiDm4 h0 h h' mb mc n1 n2 n3
    ·rcases r with _ | ⟨d,r⟩
     ·exact fiDl3 h0 h h' mb mc n1
     ·exact fiDl4 h0 h h' mb mc n1
   ·rcases r with _ | ⟨d,r⟩
    ·exact fiDg3 h0 h h' mb mc
    ·exact fiDg4 h0 h h' mb mc
  ·rcases r with _ | ⟨d,r⟩
   ·exact fiDf3 h0 h h' mb
   ·exact fiDf4 h0 h h' mb
 ·obtain ⟨h,h'⟩ := hE
  rcases r with _ | ⟨c,_ | ⟨d,r⟩⟩
  ·exact fiE2 h0 h h'
  ·exact fiE3 h0 h h'
  ·rcases dich b with mb | mb
   ·rcases dich c with mc | mc
    ·rcases dich d with md | md
     ·by_cases n1 : 65536 ≤ 262144 * ((a.toNat : Int) - 240) + 4096 * ((b.toNat : Int) - 128) + 64 * ((c.toNat : Int) - 128) + (d.toNat : Int) - 128
      ·by_cases n2 : 262144 * ((a.toNat : Int) - 240) + 4096 * ((b.toNat : Int) - 128) + 64 * ((c.toNat : Int) - 128) + (d.toNat : Int) - 128 ≤ 1114111
       ·exact fiEs h0 h h' mb mc md n1 n2
       ·exact fiEm h0 h h' mb mc md n1 n2
      ·exact fiEl h0 h h' mb mc md n1
     ·exact fiEd h0 h h' mb mc md
    ·exact fiEc h0 h h' mb mc
   ·exact fiEb h0 h h' mb
 ·rcases r with _ | ⟨c,_ | ⟨d,r⟩⟩
  ·exact fiF2 h0 h
  ·exact fiF3 h0 h
  ·exact fiF4 h0 h
end Go.VE.Un
