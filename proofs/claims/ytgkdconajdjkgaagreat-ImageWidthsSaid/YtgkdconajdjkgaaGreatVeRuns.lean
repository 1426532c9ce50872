/- What the model's small steps do, in the words of the test 'chk'; and what a related value must be. -/
import Derived.Test.YtgkdconajdjkgaaGreatVeRel
import Derived.Laws.Cells
import GoSem.Dispatch
namespace Go.VE
set_option linter.unusedVariables false
set_option linter.unnecessarySimpa false
set_option linter.unusedSimpArgs false

section
variable {P : Program} {T : Tbl} {G : Gh} {w : World}

theorem run_und {t : TypeId} {d : TypeDesc} (h : P.underlying t = some d) : (underlying t).run P w = .ok d w := by
  simp [underlying, h]

theorem run_info {t : TypeId} {i : TypeInfo} (h : P.info? t = some i) : (typeInfo t).run P w = .ok i w := by
  simp [typeInfo, h]

theorem run_sz {t : TypeId} {n : Nat} (h : szOf P t = some n) : (sizeOf t).run P w = .ok n w := by
  unfold szOf at h
  cases hi : P.info? t with
  | none => simp [hi] at h
  | some i => simp [hi] at h; simp [sizeOf, run_info hi, h]

theorem run_agg {t : TypeId} {b : Bool} (h : isAggB P t = some b) : (isAgg t).run P w = .ok b w := by
  unfold isAggB at h
  cases hd : P.underlying t with
  | none => simp [hd] at h
  | some d => cases d <;> simp [hd] at h <;> simp [isAgg, run_und hd, h]

theorem run_zero {t : TypeId} {v : Value} (h : (P.info? t).bind (·.zero) = some v) : (zeroValue t).run P w = .ok v w := by
  cases hi : P.info? t with
  | none => simp [hi] at h
  | some i => simp [hi] at h; simp [zeroValue, run_info hi, h]

theorem add_zero (a : Addr) : a.add 0 = a := by simp [Addr.add]
theorem add_spot (b o n : Nat) : (⟨b, o, none⟩ : Addr).add n = ⟨b, o + n, none⟩ := by
  unfold Addr.add; split <;> simp_all

theorem R.bool_inv {b : Bool} {v : Value} (h : R T G (.bool b) v) : v = .bool b := by cases h; rfl
theorem R.int_inv {k : IntKind} {n : Int} {v : Value} (h : R T G (.int k n) v) : v = .int k n := by cases h; rfl
theorem R.str_inv {l : List UInt8} {v : Value} (h : R T G (.str l) v) : ∃ s : ByteArray, v = .string s ∧ s.data.toList = l := by cases h; exact ⟨_, rfl, ‹_›⟩
theorem R.agg_inv {cs : List V} {v : Value} (h : R T G (.agg cs) v) : ∃ c, v = .agg c ∧ cs.length = c.size ∧
    (∀ (i : Nat) (v : V) (rv : Value), cs[i]? = some v → c[i]? = some rv → R T G v rv) ∧ (∀ (i : Nat) (rv : Value), c[i]? = some rv → oc rv = true) := by
  cases h with
  | agg _ c hl h ho => exact ⟨c, rfl, hl, h, ho⟩
theorem R.tup_inv {cs : List V} {v : Value} (h : R T G (.tup cs) v) : ∃ c, v = .tuple c ∧ cs.length = c.size ∧
    (∀ (i : Nat) (v : V) (rv : Value), cs[i]? = some v → c[i]? = some rv → R T G v rv) := by
  cases h with
  | tup _ c hl h => exact ⟨c, rfl, hl, h⟩
theorem R.ptr_inv {B ep i o : Nat} {v : Value} (h : R T G (.ptr B ep i o) v) : ∃ g, G.sg B ep = some g ∧ v = .pointer (some ⟨g.b, g.o + i * g.z + o, none⟩) := by
  cases h with
  | ptr _ _ _ _ g hg => exact ⟨g, hg, rfl⟩
theorem R.eptr_inv {e : V} {o : Nat} {t : Tag} {v : Value} (h : R T G (.eptr e o t) v) : ∃ (b base : Nat) (f : Nat → Value), v = .pointer (some ⟨b, base + o, none⟩) ∧
    (∀ (j : Nat) (c : V), e.cells[j]? = some c → gAt G t b (base + j) = some (f j)) ∧ (∀ (j : Nat) (c : V), e.cells[j]? = some c → R T G c (f j)) ∧
    (∀ (j : Nat) (c : V), e.cells[j]? = some c → oc (f j) = true) := by
  cases h with
  | eptr _ _ _ b base f hg h ho => exact ⟨b, base, f, rfl, hg, h, ho⟩
theorem R.gsl_inv {B ep z off len : Nat} {v : Value} (h : R T G (.gsl B ep z off len) v) : ∃ a cap, v = .slice a len cap ∧ B < G.n ∧ len ≤ cap ∧
    (cap = 0 ∨ ∃ g, G.sg B ep = some g ∧ g.z = z ∧ a = some ⟨g.b, g.o + off * z, none⟩ ∧ g.o + (off + cap) * z ≤ g.m) := by
  cases h with
  | gsl _ _ _ _ _ a cap hB hl hg => exact ⟨a, cap, rfl, hB, hl, hg⟩
theorem R.func_inv {f : Nat} {as bs : List V} {v : Value} (h : R T G (.func f as bs) v) : ∃ fid a b, v = .func (.func fid) a b ∧ T.fid f = some fid ∧
    as.length = a.size ∧ bs.length = b.size ∧ (∀ (i : Nat) (v : V) (rv : Value), as[i]? = some v → a[i]? = some rv → R T G v rv) ∧
    (∀ (i : Nat) (v : V) (rv : Value), bs[i]? = some v → b[i]? = some rv → R T G v rv) := by
  cases h with
  | func _ fid _ _ a b hf hla hlb ha hb => exact ⟨fid, a, b, rfl, hf, hla, hlb, ha, hb⟩
theorem R.iface_inv {t : Nat} {x : V} {v : Value} (h : R T G (.iface t x) v) : ∃ tid rv, v = .iface tid rv ∧ T.tid t = some tid ∧ R T G x rv := by
  cases h with
  | iface _ tid _ rv ht h => exact ⟨tid, rv, rfl, ht, h⟩
theorem R.itr_inv {B : Nat} {v : Value} (h : R T G (.itr B) v) : ∃ r, v = .pointer (some ⟨r, 0, none⟩) ∧ G.io B = some r := by
  cases h with
  | itr _ r h => exact ⟨r, rfl, h⟩
theorem R.sl_inv {z : Nat} {es : List V} {t : Tag} {v : Value} (h : R T G (.sl z es t) v) : ∃ (a : Option Addr) (cap b o : Nat) (f : Nat → Nat → Value), v = .slice a es.length cap ∧ es.length ≤ cap ∧
    tagOK t a es.length cap ∧ (es ≠ [] → a = some ⟨b, o, none⟩) ∧ (∀ (i : Nat) (e : V), es[i]? = some e → e.cells.length = z) ∧
    (∀ (i : Nat) (e : V) (j : Nat) (c : V), es[i]? = some e → e.cells[j]? = some c → gAt G t b (o + i * z + j) = some (f i j)) ∧
    (∀ (i : Nat) (e : V) (j : Nat) (c : V), es[i]? = some e → e.cells[j]? = some c → R T G c (f i j)) ∧
    (∀ (i : Nat) (e : V) (j : Nat) (c : V), es[i]? = some e → e.cells[j]? = some c → oc (f i j) = true) := by
  cases h with
  | sl _ _ _ a cap b o f hc ht ha hz hg h ho => exact ⟨a, cap, b, o, f, rfl, hc, ht, ha, hz, hg, h, ho⟩

/-- The cells of a value are those of a related one. -/
theorem R.cells {v : V} {rv : Value} (h : R T G v rv) (hv : okV v = true) : v.cells.length = rv.cells.size ∧
    (∀ (i : Nat) (c : V) (rc : Value), v.cells[i]? = some c → rv.cells[i]? = some rc → R T G c rc) ∧ (∀ (i : Nat) (rc : Value), rv.cells[i]? = some rc → oc rc = true) := by
  have one : ∀ {v : V} {rv : Value}, R T G v rv → v.cells = [v] → rv.cells = #[rv] → oc rv = true → v.cells.length = rv.cells.size ∧
    (∀ (i : Nat) (c : V) (rc : Value), v.cells[i]? = some c → rv.cells[i]? = some rc → R T G c rc) ∧ (∀ (i : Nat) (rc : Value), rv.cells[i]? = some rc → oc rc = true) := by
    intro v rv h e1 e2 e3
    rw [e1, e2]
    refine ⟨rfl, fun i c rc h1 h2 => ?_, fun i rc h2 => ?_⟩
    · cases i with
      | zero => simp at h1 h2; subst h1; subst h2; exact h
      | succ i => simp at h1
    · cases i with
      | zero => simp at h2; subst h2; exact e3
      | succ i => simp at h2
  cases h with
  | undef => simp [okV] at hv
  | tup => simp [okV] at hv
  | agg cs c hl h ho => exact ⟨hl, h, ho⟩
  | bool => exact one (.bool _) rfl rfl rfl
  | int => exact one (.int _ _) rfl rfl rfl
  | str s l hs => exact one (.str s l hs) rfl rfl rfl
  | sl z es t a cap b o f hc ht ha hz hg h ho => exact one (.sl z es t a cap b o f hc ht ha hz hg h ho) rfl rfl rfl
  | gsl B ep z off len a cap hB hl hg => exact one (.gsl B ep z off len a cap hB hl hg) rfl rfl rfl
  | eptr e o t b base f hg h ho => exact one (.eptr e o t b base f hg h ho) rfl rfl rfl
  | ptr B ep i o g hg => exact one (.ptr B ep i o g hg) rfl rfl rfl
  | nilp => exact one .nilp rfl rfl rfl
  | func f fid as bs a b hf hla hlb ha hb => exact one (.func f fid as bs a b hf hla hlb ha hb) rfl rfl rfl
  | nilf => exact one .nilf rfl rfl rfl
  | iface t tid v rv ht h => exact one (.iface t tid v rv ht h) rfl rfl rfl
  | nili => exact one .nili rfl rfl rfl
  | itr B r h => exact one (.itr B r h) rfl rfl rfl
  | mapr B r h => exact one (.mapr B r h) rfl rfl rfl
  | nilm => exact one .nilm rfl rfl rfl

mutual
theorem isVal_R : ∀ (v' : V) (v : Value), isVal v' v = true → R T G v' v
  | .bool b, v, h => by
    cases v <;> simp [isVal] at h
    subst h; exact .bool _
  | .int k n, v, h => by
    cases v <;> simp [isVal] at h
    obtain ⟨rfl, rfl⟩ := h; exact .int _ _
  | .str l, v, h => by
    cases v <;> simp [isVal] at h
    exact .str _ _ h
  | .nilp, v, h => by
    cases v <;> simp [isVal] at h
    rename_i a; cases a <;> simp at h; exact .nilp
  | .sl z es t, v, h => by
    simp only [isVal] at h
    split at h
    · cases es with
      | cons e es => simp at h
      | nil =>
        cases t <;> simp at h
        exact .sl z [] .nl none 0 0 0 (fun _ _ => undef) (by simp) ⟨fun _ => rfl, fun _ => rfl, fun h => by simp [someB] at h⟩ (by simp) (by simp) (by simp) (by simp) (by simp)
    · exact absurd h (by simp)
  | .nilm, v, h => by
    cases v <;> simp [isVal] at h
    rename_i a; cases a <;> simp at h; exact .nilm
  | .nilf, v, h => by cases v <;> simp [isVal] at h; exact .nilf
  | .nili, v, h => by cases v <;> simp [isVal] at h; exact .nili
  | .agg vs, v, h => by
    cases v <;> simp [isVal] at h
    rename_i c
    have := areVals_R vs c.toList h
    refine .agg vs c (by simpa using this.1) (fun i v rv h1 h2 => (this.2 i v rv h1 (by simpa using h2)).1) (fun i rv h2 => ?_)
    have hi : i < c.size := by
      rcases Nat.lt_or_ge i c.size with h | h
      · exact h
      · rw [Array.getElem?_eq_none h] at h2; simp at h2
    have hi' : i < vs.length := by rw [this.1]; simpa using hi
    exact (this.2 i vs[i] rv (List.getElem?_eq_getElem hi') (by simpa using h2)).2
  | .undef, v, h => by simp [isVal] at h
  | .tup _, v, h => by simp [isVal] at h
  | .gsl .., v, h => by simp [isVal] at h
  | .eptr .., v, h => by simp [isVal] at h
  | .ptr .., v, h => by simp [isVal] at h
  | .func .., v, h => by simp [isVal] at h
  | .iface .., v, h => by simp [isVal] at h
  | .itr .., v, h => by simp [isVal] at h
  | .mapr .., v, h => by simp [isVal] at h
theorem areVals_R : ∀ (l : List V) (cs : List Value), areVals l cs = true → l.length = cs.length ∧
    ∀ (i : Nat) (x : V) (rv : Value), l[i]? = some x → cs[i]? = some rv → R T G x rv ∧ oc rv = true
  | [], cs, h => by cases cs <;> simp [areVals] at h; exact ⟨rfl, by simp⟩
  | v :: l, cs, h => by
    cases cs with
    | nil => simp [areVals] at h
    | cons c cs =>
      simp only [areVals, Bool.and_eq_true] at h
      have h1 := isVal_R v c h.1.2
      have h2 := areVals_R l cs h.2
      refine ⟨by simp [h2.1], fun i x rv e1 e2 => ?_⟩
      cases i with
      | zero => simp at e1 e2; subst e1; subst e2; refine ⟨h1, ?_⟩; cases c <;> simp_all [oc]
      | succ i => exact h2.2 i x rv (by simpa using e1) (by simpa using e2)
end

theorem valIs_R {v' : V} {v : Value} (h : valIs v v' = true) : R T G v' v := isVal_R v' v h

theorem chkOpd_R {fr : Fr} {a : Act} (hf : FInv T G fr a.tmps) {x : Operand} {y : VOpd} (h : chkOpd T x y = true) : R T G (opd fr y) (a.eval x) := by
  unfold chkOpd at h
  split at h
  · simp at h; subst h; exact hf _
  · exact valIs_R h
  · simp at h; exact .func _ _ [] [] #[] #[] h rfl rfl (by simp) (by simp)
  · exact absurd h (by simp)

theorem oc_iff (v : Value) : oc v = v.oneCell' := by cases v <;> rfl

end
end Go.VE
