/- How abstract values stand to the model's values, and an abstract heap to the model's memory. -/
import Derived.Test.YtgkdconajdjkgaaGreatVeChk
import Derived.Calls
import Derived.Below
namespace Go.VE
set_option linter.unusedVariables false
set_option linter.unnecessarySimpa false

/-- The value of one cell. -/
def oc : Value → Bool
  | .agg _ | .tuple _ => false
  | _ => true

/-- Where a block lies: the model's block, the first cell, the cells of an element, the cells of the block. -/
structure Img where
  b : Nat
  o : Nat
  z : Nat
  m : Nat

/-- What is known of memory: the cells that stay for ever, those that stay while this call runs, where the blocks lie (at each length that they had), which objects the iterators are. -/
structure Gh where
  Gp : Nat → Nat → Option Value
  Gb : Nat → Nat → Option Value
  sg : Nat → Nat → Option Img
  io : Nat → Option Nat
  /-- the evaluator's blocks that there are -/
  n : Nat

def gAt (G : Gh) (t : Tag) (b off : Nat) : Option Value :=
  match t with
  | .brw => G.Gb b off
  | _ => G.Gp b off

def tagOK (t : Tag) (a : Option Addr) (n c : Nat) : Prop := (clipB t = true → c = n) ∧ (t = .nl → a = none) ∧ (someB t = true → a.isSome = true)

theorem tagOK.plain {t : Tag} (h1 : clipB t = false) (h2 : t ≠ .nl) (h3 : someB t = false) (a : Option Addr) (n c : Nat) : tagOK t a n c :=
  ⟨fun h => by rw [h1] at h; simp at h, fun h => absurd h h2, fun h => by rw [h3] at h; simp at h⟩

inductive R (T : Tbl) (G : Gh) : V → Value → Prop
  | undef (v : Value) : R T G .undef v
  | bool (b : Bool) : R T G (.bool b) (.bool b)
  | int (k : IntKind) (n : Int) : R T G (.int k n) (.int k n)
  | str (s : ByteArray) (l : List UInt8) (h : s.data.toList = l) : R T G (.str l) (.string s)
  | agg (cs : List V) (c : Array Value) (hl : cs.length = c.size) (h : ∀ (i : Nat) (v : V) (rv : Value), cs[i]? = some v → c[i]? = some rv → R T G v rv)
      (ho : ∀ (i : Nat) (rv : Value), c[i]? = some rv → oc rv = true) : R T G (.agg cs) (.agg c)
  | tup (cs : List V) (c : Array Value) (hl : cs.length = c.size) (h : ∀ (i : Nat) (v : V) (rv : Value), cs[i]? = some v → c[i]? = some rv → R T G v rv) : R T G (.tup cs) (.tuple c)
  | sl (z : Nat) (es : List V) (t : Tag) (a : Option Addr) (cap b o : Nat) (f : Nat → Nat → Value) (hc : es.length ≤ cap) (ht : tagOK t a es.length cap)
      (ha : es ≠ [] → a = some ⟨b, o, none⟩) (hz : ∀ (i : Nat) (e : V), es[i]? = some e → e.cells.length = z)
      (hg : ∀ (i : Nat) (e : V) (j : Nat) (c : V), es[i]? = some e → e.cells[j]? = some c → gAt G t b (o + i * z + j) = some (f i j))
      (h : ∀ (i : Nat) (e : V) (j : Nat) (c : V), es[i]? = some e → e.cells[j]? = some c → R T G c (f i j))
      (ho : ∀ (i : Nat) (e : V) (j : Nat) (c : V), es[i]? = some e → e.cells[j]? = some c → oc (f i j) = true) : R T G (.sl z es t) (.slice a es.length cap)
  | gsl (B ep z off len : Nat) (a : Option Addr) (cap : Nat) (hB : B < G.n) (hl : len ≤ cap)
      (hg : cap = 0 ∨ ∃ g, G.sg B ep = some g ∧ g.z = z ∧ a = some ⟨g.b, g.o + off * z, none⟩ ∧ g.o + (off + cap) * z ≤ g.m) : R T G (.gsl B ep z off len) (.slice a len cap)
  | eptr (e : V) (o : Nat) (t : Tag) (b base : Nat) (f : Nat → Value) (hg : ∀ (j : Nat) (c : V), e.cells[j]? = some c → gAt G t b (base + j) = some (f j))
      (h : ∀ (j : Nat) (c : V), e.cells[j]? = some c → R T G c (f j)) (ho : ∀ (j : Nat) (c : V), e.cells[j]? = some c → oc (f j) = true) : R T G (.eptr e o t) (.pointer (some ⟨b, base + o, none⟩))
  | ptr (B ep i o : Nat) (g : Img) (hg : G.sg B ep = some g) : R T G (.ptr B ep i o) (.pointer (some ⟨g.b, g.o + i * g.z + o, none⟩))
  | nilp : R T G .nilp (.pointer none)
  | func (f fid : Nat) (as bs : List V) (a b : Array Value) (hf : T.fid f = some fid) (hla : as.length = a.size) (hlb : bs.length = b.size)
      (ha : ∀ (i : Nat) (v : V) (rv : Value), as[i]? = some v → a[i]? = some rv → R T G v rv) (hb : ∀ (i : Nat) (v : V) (rv : Value), bs[i]? = some v → b[i]? = some rv → R T G v rv) :
      R T G (.func f as bs) (.func (.func fid) a b)
  | nilf : R T G .nilf .nilFunc
  | iface (t tid : Nat) (v : V) (rv : Value) (ht : T.tid t = some tid) (h : R T G v rv) : R T G (.iface t v) (.iface tid rv)
  | nili : R T G .nili .nilIface
  | itr (B r : Nat) (h : G.io B = some r) : R T G (.itr B) (.pointer (some ⟨r, 0, none⟩))
  | mapr (B r : Nat) (h : G.io B = some r) : R T G (.mapr B) (.map (some r))
  | nilm : R T G .nilm (.map none)

structure Gh.le (G G' : Gh) : Prop where
  gp : ∀ b off v, G.Gp b off = some v → G'.Gp b off = some v
  gb : ∀ b off v, G.Gb b off = some v → G'.Gb b off = some v
  sg : ∀ B ep g, G.sg B ep = some g → G'.sg B ep = some g
  io : ∀ B r, G.io B = some r → G'.io B = some r
  n : G.n ≤ G'.n

theorem Gh.le_refl (G : Gh) : G.le G := ⟨fun _ _ _ h => h, fun _ _ _ h => h, fun _ _ _ h => h, fun _ _ h => h, Nat.le_refl _⟩
theorem Gh.le_trans {A B C : Gh} (h : A.le B) (k : B.le C) : A.le C :=
  ⟨fun _ _ _ x => k.gp _ _ _ (h.gp _ _ _ x), fun _ _ _ x => k.gb _ _ _ (h.gb _ _ _ x), fun _ _ _ x => k.sg _ _ _ (h.sg _ _ _ x), fun _ _ x => k.io _ _ (h.io _ _ x), Nat.le_trans h.n k.n⟩

theorem gAt_mono {G G' : Gh} (h : G.le G') {t : Tag} {b off : Nat} {v : Value} (e : gAt G t b off = some v) : gAt G' t b off = some v := by
  cases t <;> simp only [gAt] at e ⊢ <;> first | exact h.gp _ _ _ e | exact h.gb _ _ _ e

theorem R.mono {T : Tbl} {G G' : Gh} (hG : G.le G') {v : V} {rv : Value} (h : R T G v rv) : R T G' v rv := by
  induction h with
  | undef v => exact .undef v
  | bool b => exact .bool b
  | int k n => exact .int k n
  | str s l h => exact .str s l h
  | agg cs c hl _ ho ih => exact .agg cs c hl ih ho
  | tup cs c hl _ ih => exact .tup cs c hl ih
  | sl z es t a cap b o f hc ht ha hz hg _ ho ih => exact .sl z es t a cap b o f hc ht ha hz (fun i e j c h1 h2 => gAt_mono hG (hg i e j c h1 h2)) ih ho
  | gsl B ep z off len a cap hB hl hg => exact .gsl B ep z off len a cap (Nat.lt_of_lt_of_le hB hG.n) hl (hg.imp id fun ⟨g, h1, h2⟩ => ⟨g, hG.sg _ _ _ h1, h2⟩)
  | eptr e o t b base f hg _ ho ih => exact .eptr e o t b base f (fun j c h => gAt_mono hG (hg j c h)) ih ho
  | ptr B ep i o g hg => exact .ptr B ep i o g (hG.sg _ _ _ hg)
  | nilp => exact .nilp
  | func f fid as bs a b hf hla hlb _ _ iha ihb => exact .func f fid as bs a b hf hla hlb iha ihb
  | nilf => exact .nilf
  | iface t tid v rv ht _ ih => exact .iface t tid v rv ht ih
  | nili => exact .nili
  | itr B r h => exact .itr B r (hG.io _ _ h)
  | mapr B r h => exact .mapr B r (hG.io _ _ h)
  | nilm => exact .nilm

theorem closedL_get {l : List V} {i : Nat} {v : V} (h : closedL l = true) (hi : l[i]? = some v) : closedB v = true := by
  induction l generalizing i with
  | nil => simp at hi
  | cons x l ih =>
    simp only [closedL, Bool.and_eq_true] at h
    cases i with
    | zero => simp at hi; exact hi ▸ h.1
    | succ i => exact ih h.2 (by simpa using hi)

theorem closed_cells {v c : V} {j : Nat} (h : closedB v = true) (hj : v.cells[j]? = some c) : closedB c = true := by
  cases v <;> simp only [V.cells] at hj <;> first
    | exact closedL_get (by simpa [closedB] using h) hj
    | (cases j with
       | zero => simp at hj; subst hj; exact h
       | succ j => simp at hj)

theorem belowL_get {n : Nat} {l : List V} {i : Nat} {v : V} (h : belowL n l = true) (hi : l[i]? = some v) : belowB n v = true := by
  induction l generalizing i with
  | nil => simp at hi
  | cons x l ih =>
    simp only [belowL, Bool.and_eq_true] at h
    cases i with
    | zero => simp at hi; exact hi ▸ h.1
    | succ i => exact ih h.2 (by simpa using hi)

theorem below_cells {n : Nat} {v c : V} {j : Nat} (h : belowB n v = true) (hj : v.cells[j]? = some c) : belowB n c = true := by
  cases v <;> simp only [V.cells] at hj <;> first
    | exact belowL_get (by simpa [belowB] using h) hj
    | (cases j with
       | zero => simp at hj; subst hj; exact h
       | succ j => simp at hj)

/-- A closed value leans on what stays for ever alone. -/
theorem R.closed {T : Tbl} {G G' : Gh} (hp : ∀ b off v, G.Gp b off = some v → G'.Gp b off = some v) {v : V} {rv : Value} (h : R T G v rv) (hc : closedB v = true) : R T G' v rv := by
  induction h with
  | undef v => exact .undef v
  | bool b => exact .bool b
  | int k n => exact .int k n
  | str s l h => exact .str s l h
  | agg cs c hl _ ho ih => exact .agg cs c hl (fun i v rv h1 h2 => ih i v rv h1 h2 (closedL_get (by simpa [closedB] using hc) h1)) ho
  | tup cs c hl _ ih => exact .tup cs c hl (fun i v rv h1 h2 => ih i v rv h1 h2 (closedL_get (by simpa [closedB] using hc) h1))
  | sl z es t a cap b o f hc' ht ha hz hg _ ho ih =>
    simp only [closedB, Bool.and_eq_true] at hc
    refine .sl z es t a cap b o f hc' ht ha hz (fun i e j c h1 h2 => ?_) (fun i e j c h1 h2 => ih i e j c h1 h2 (closed_cells (closedL_get hc.2 h1) h2)) ho
    have := hg i e j c h1 h2
    cases t <;> simp only [gAt] at this ⊢ <;> first | exact hp _ _ _ this | exact absurd hc.1 (by simp)
  | gsl => simp [closedB] at hc
  | eptr e o t b base f hg _ ho ih =>
    simp only [closedB, Bool.and_eq_true] at hc
    refine .eptr e o t b base f (fun j c h1 => ?_) (fun j c h1 => ih j c h1 (closed_cells hc.2 h1)) ho
    have := hg j c h1
    cases t <;> simp only [gAt] at this ⊢ <;> first | exact hp _ _ _ this | exact absurd hc.1 (by simp)
  | ptr => simp [closedB] at hc
  | nilp => exact .nilp
  | func f fid as bs a b hf hla hlb _ _ iha ihb =>
    simp only [closedB, Bool.and_eq_true] at hc
    exact .func f fid as bs a b hf hla hlb (fun i v rv h1 h2 => iha i v rv h1 h2 (closedL_get hc.1 h1)) (fun i v rv h1 h2 => ihb i v rv h1 h2 (closedL_get hc.2 h1))
  | nilf => exact .nilf
  | iface t tid v rv ht _ ih => exact .iface t tid v rv ht (ih (by simpa [closedB] using hc))
  | nili => exact .nili
  | itr => simp [closedB] at hc
  | mapr => simp [closedB] at hc
  | nilm => exact .nilm

/-- A value whose references lie below n leans on no block from n on. -/
theorem R.under {T : Tbl} {G G' : Gh} {n : Nat} (hp : ∀ b off v, G.Gp b off = some v → G'.Gp b off = some v) (hb : ∀ b off v, G.Gb b off = some v → G'.Gb b off = some v)
    (hs : ∀ B ep g, B < n → G.sg B ep = some g → G'.sg B ep = some g) (hi : ∀ B r, B < n → G.io B = some r → G'.io B = some r) (hn : n ≤ G'.n)
    {v : V} {rv : Value} (h : R T G v rv) (hc : belowB n v = true) : R T G' v rv := by
  have hgt : ∀ {t : Tag} {b off : Nat} {v : Value}, gAt G t b off = some v → gAt G' t b off = some v := by
    intro t b off v h
    cases t <;> simp only [gAt] at h ⊢ <;> first | exact hp _ _ _ h | exact hb _ _ _ h
  induction h with
  | undef v => exact .undef v
  | bool b => exact .bool b
  | int k n => exact .int k n
  | str s l h => exact .str s l h
  | agg cs c hl _ ho ih => exact .agg cs c hl (fun i v rv h1 h2 => ih i v rv h1 h2 (belowL_get (by simpa [belowB] using hc) h1)) ho
  | tup cs c hl _ ih => exact .tup cs c hl (fun i v rv h1 h2 => ih i v rv h1 h2 (belowL_get (by simpa [belowB] using hc) h1))
  | sl z es t a cap b o f hc' ht ha hz hg _ ho ih =>
    simp only [belowB] at hc
    exact .sl z es t a cap b o f hc' ht ha hz (fun i e j c h1 h2 => hgt (hg i e j c h1 h2)) (fun i e j c h1 h2 => ih i e j c h1 h2 (below_cells (belowL_get hc h1) h2)) ho
  | gsl B ep z off len a cap hB hl hg => exact .gsl B ep z off len a cap (Nat.lt_of_lt_of_le (by simpa [belowB] using hc) hn) hl (hg.imp id fun ⟨g, h1, h2⟩ => ⟨g, hs _ _ _ (by simpa [belowB] using hc) h1, h2⟩)
  | eptr e o t b base f hg _ ho ih =>
    simp only [belowB] at hc
    exact .eptr e o t b base f (fun j c h1 => hgt (hg j c h1)) (fun j c h1 => ih j c h1 (below_cells hc h1)) ho
  | ptr B ep i o g hg => exact .ptr B ep i o g (hs _ _ _ (by simpa [belowB] using hc) hg)
  | nilp => exact .nilp
  | func f fid as bs a b hf hla hlb _ _ iha ihb =>
    simp only [belowB, Bool.and_eq_true] at hc
    exact .func f fid as bs a b hf hla hlb (fun i v rv h1 h2 => iha i v rv h1 h2 (belowL_get hc.1 h1)) (fun i v rv h1 h2 => ihb i v rv h1 h2 (belowL_get hc.2 h1))
  | nilf => exact .nilf
  | iface t tid v rv ht _ ih => exact .iface t tid v rv ht (ih (by simpa [belowB] using hc))
  | nili => exact .nili
  | itr B r h => exact .itr B r (hi _ _ (by simpa [belowB] using hc) h)
  | mapr B r h => exact .mapr B r (hi _ _ (by simpa [belowB] using hc) h)
  | nilm => exact .nilm

mutual
theorem belowB_mono {m n : Nat} (hmn : m ≤ n) : ∀ {v : V}, belowB m v = true → belowB n v = true
  | .undef, _ | .bool _, _ | .int _ _, _ | .str _, _ | .nilp, _ | .nilf, _ | .nili, _ | .nilm, _ => rfl
  | .agg cs, h => by simp only [belowB] at h ⊢; exact belowL_mono hmn h
  | .tup cs, h => by simp only [belowB] at h ⊢; exact belowL_mono hmn h
  | .sl _ es _, h => by simp only [belowB] at h ⊢; exact belowL_mono hmn h
  | .eptr e _ _, h => by simp only [belowB] at h ⊢; exact belowB_mono hmn h
  | .func _ a b, h => by simp only [belowB, Bool.and_eq_true] at h ⊢; exact ⟨belowL_mono hmn h.1, belowL_mono hmn h.2⟩
  | .iface _ v, h => by simp only [belowB] at h ⊢; exact belowB_mono hmn h
  | .gsl .., h => by simp only [belowB, decide_eq_true_eq] at h ⊢; omega
  | .ptr .., h => by simp only [belowB, decide_eq_true_eq] at h ⊢; omega
  | .itr _, h => by simp only [belowB, decide_eq_true_eq] at h ⊢; omega
  | .mapr _, h => by simp only [belowB, decide_eq_true_eq] at h ⊢; omega
theorem belowL_mono {m n : Nat} (hmn : m ≤ n) : ∀ {l : List V}, belowL m l = true → belowL n l = true
  | [], _ => rfl
  | v :: l, h => by simp only [belowL, Bool.and_eq_true] at h ⊢; exact ⟨belowB_mono hmn h.1, belowL_mono hmn h.2⟩
end

theorem belowL_of {n : Nat} : ∀ (l : List V), (∀ (i : Nat) (v : V), l[i]? = some v → belowB n v = true) → belowL n l = true
  | [], _ => rfl
  | v :: l, h => by
    simp only [belowL, Bool.and_eq_true]
    exact ⟨h 0 v rfl, belowL_of l fun i v e => h (i + 1) v (by simpa using e)⟩

theorem below_of_cells {n : Nat} {e : V} (h : ∀ (j : Nat) (c : V), e.cells[j]? = some c → belowB n c = true) : belowB n e = true := by
  cases e with
  | agg cs => simp only [belowB]; exact belowL_of cs h
  | _ => exact h 0 _ rfl

/-- What is related refers to blocks that there are. -/
theorem R.refs {T : Tbl} {G : Gh} (hs : ∀ B ep g, G.sg B ep = some g → B < G.n) (hi : ∀ B r, G.io B = some r → B < G.n) {v : V} {rv : Value} (h : R T G v rv) : belowB G.n v = true := by
  have lists : ∀ {cs : List V} {c : Array Value}, cs.length = c.size → (∀ (i : Nat) (v : V) (rv : Value), cs[i]? = some v → c[i]? = some rv → belowB G.n v = true) → belowL G.n cs = true := by
    intro cs c hl h
    refine belowL_of cs fun i v e => ?_
    have : i < c.size := by rw [← hl]; exact (List.getElem?_eq_some_iff.1 e).1
    exact h i v c[i] e (by simp [this])
  induction h with
  | undef v => rfl
  | bool b => rfl
  | int k n => rfl
  | str s l h => rfl
  | agg cs c hl _ ho ih => simp only [belowB]; exact lists hl ih
  | tup cs c hl _ ih => simp only [belowB]; exact lists hl ih
  | sl z es t a cap b o f hc' ht ha hz hg _ ho ih =>
    simp only [belowB]
    exact belowL_of es fun i e he => below_of_cells fun j c hc => ih i e j c he hc
  | gsl B ep z off len a cap hB hl hg => simpa [belowB] using hB
  | eptr e o t b base f hg _ ho ih => simp only [belowB]; exact below_of_cells fun j c hc => ih j c hc
  | ptr B ep i o g hg => simpa [belowB] using hs _ _ _ hg
  | nilp => rfl
  | func f fid as bs a b hf hla hlb _ _ iha ihb => simp only [belowB, Bool.and_eq_true]; exact ⟨lists hla iha, lists hlb ihb⟩
  | nilf => rfl
  | iface t tid v rv ht _ ih => simpa [belowB] using ih
  | nili => rfl
  | itr B r h => simpa [belowB] using hi _ _ h
  | mapr B r h => simpa [belowB] using hi _ _ h
  | nilm => rfl

/-- The cells c hold the elements es, from o on, z cells each. -/
def Holds (T : Tbl) (G : Gh) (c : Array Value) (o z : Nat) (es : List V) : Prop :=
  ∀ i e, es[i]? = some e → e.cells.length = z ∧ ∀ j v, e.cells[j]? = some v → ∃ rv, c[o + i * z + j]? = some rv ∧ R T G v rv ∧ oc rv = true

theorem Holds.mono {T : Tbl} {G G' : Gh} (hG : G.le G') {c : Array Value} {o z : Nat} {es : List V} (h : Holds T G c o z es) : Holds T G' c o z es :=
  fun i e hi => ⟨(h i e hi).1, fun j v hj => let ⟨rv, h1, h2, h3⟩ := (h i e hi).2 j v hj; ⟨rv, h1, h2.mono hG, h3⟩⟩

/-- Block B, as it lies in memory. -/
def Lies (T : Tbl) (G : Gh) (w : World) (es : List V) (g : Img) : Prop :=
  ∃ c t fz, w.heap[g.b]? = some (.cells c t fz) ∧ c.size = g.m ∧ (∀ off, off < c.size → ¬ (fz.1 ≤ off ∧ off < fz.2)) ∧ g.o + es.length * g.z ≤ g.m ∧ Holds T G c g.o g.z es

def LiesI (w : World) (s : List UInt8) (pos r : Nat) : Prop := ∃ s' : ByteArray, s'.data.toList = s ∧ w.heap[r]? = some (.stringIter s' pos)

/-- The model's blocks that may be written: where the blocks from lo on lie. -/
def Own (G : Gh) (lo : Nat) (h : Heap) (b : Nat) : Prop :=
  ∃ B, lo ≤ B ∧ ((∃ es g, h[B]? = some (.arr es) ∧ G.sg B es.length = some g ∧ g.b = b) ∨ (∃ s pos, h[B]? = some (.iter s pos) ∧ G.io B = some b))

structure HInv (T : Tbl) (G : Gh) (lo : Nat) (h : Heap) (w : World) : Prop where
  gp : ∀ b off v, G.Gp b off = some v → w.cell? ⟨b, off, none⟩ = some v
  gb : ∀ b off v, G.Gb b off = some v → w.cell? ⟨b, off, none⟩ = some v
  llo : lo ≤ h.length
  nle : G.n ≤ h.length
  sdom : ∀ B ep g, G.sg B ep = some g → B < G.n
  idom : ∀ B r, G.io B = some r → B < G.n
  eple : ∀ B es ep g, h[B]? = some (.arr es) → G.sg B ep = some g → ep ≤ es.length
  live : ∀ B es g, h[B]? = some (.arr es) → G.sg B es.length = some g → Lies T G w es g
  iter : ∀ B s pos r, h[B]? = some (.iter s pos) → G.io B = some r → LiesI w s pos r
  own : ∀ B es g, lo ≤ B → h[B]? = some (.arr es) → G.sg B es.length = some g →
    (∀ off, G.Gp g.b off = none ∧ G.Gb g.b off = none) ∧ ∀ B' es' g', B' ≠ B → h[B']? = some (.arr es') → G.sg B' es'.length = some g' → g'.b ≠ g.b
  iown : ∀ B s pos r, lo ≤ B → h[B]? = some (.iter s pos) → G.io B = some r → ∀ B' s' pos' r', B' ≠ B → h[B']? = some (.iter s' pos') → G.io B' = some r' → r' ≠ r

/-- Blocks stay and do not shrink; what lay nowhere lies somewhere only after it grew. -/
def Mono (G : Gh) (h : Heap) (G' : Gh) (h' : Heap) : Prop :=
  h.length ≤ h'.length ∧ ∀ B es', B < h.length → h'[B]? = some (.arr es') → ∃ es, h[B]? = some (.arr es) ∧ es.length ≤ es'.length ∧
    (es.length = es'.length → (G'.sg B es'.length).isSome = true → (G.sg B es.length).isSome = true)

theorem Mono.same {G G' : Gh} {h : Heap} (hs : ∀ B ep, G'.sg B ep = G.sg B ep) : Mono G h G' h :=
  ⟨Nat.le_refl _, fun B es' _ e => ⟨es', e, Nat.le_refl _, fun _ k => by rwa [hs] at k⟩⟩

theorem Mono.trans {G G' G'' : Gh} {h h' h'' : Heap} (a : Mono G h G' h') (b : Mono G' h' G'' h'') : Mono G h G'' h'' := by
  refine ⟨Nat.le_trans a.1 b.1, fun B es2 hB e => ?_⟩
  obtain ⟨es1, e1, l1, k1⟩ := b.2 B es2 (Nat.lt_of_lt_of_le hB a.1) e
  obtain ⟨es, e0, l0, k0⟩ := a.2 B es1 hB e1
  exact ⟨es, e0, Nat.le_trans l0 l1, fun hl k => k0 (by omega) (k1 (by omega) k)⟩

theorem Mono.push {G G' : Gh} {h : Heap} {b : Blk} (hs : ∀ B ep, B < h.length → G'.sg B ep = G.sg B ep) : Mono G h G' (h ++ [b]) :=
  ⟨by simp, fun B es' hB e => by
    rw [List.getElem?_append_left hB] at e
    exact ⟨es', e, Nat.le_refl _, fun _ k => by rwa [hs _ _ hB] at k⟩⟩

theorem Mono.other {G : Gh} {h : Heap} {B : Nat} {b : Blk} (hb : ∀ es, b ≠ .arr es) {G' : Gh} (hs : ∀ B ep, G'.sg B ep = G.sg B ep) : Mono G h G' (h.set B b) := by
  refine ⟨by simp, fun B' es' hB e => ?_⟩
  rw [List.getElem?_set] at e
  split at e
  · split at e
    · simp at e; exact absurd e (hb _)
    · simp at e
  · exact ⟨es', e, Nat.le_refl _, fun _ k => by rwa [hs] at k⟩

theorem Mono.setArr {G G' : Gh} {h : Heap} {B : Nat} {es es' : List V} (hB : h[B]? = some (.arr es)) (hl : es.length ≤ es'.length) (hs : ∀ B' ep, B' ≠ B → G'.sg B' ep = G.sg B' ep)
    (hg : es.length = es'.length → (G.sg B es.length).isSome = true) : Mono G h G' (h.set B (.arr es')) := by
  refine ⟨by simp, fun B' es2 hB' e => ?_⟩
  rw [List.getElem?_set] at e
  split at e
  · rename_i hh; subst hh
    rw [if_pos (List.getElem?_eq_some_iff.1 hB).1] at e
    simp at e; subst e
    exact ⟨es, hB, hl, fun h1 _ => hg h1⟩
  · rename_i hh
    exact ⟨es2, e, Nat.le_refl _, fun _ k => by rwa [hs _ _ (fun h => hh h.symm)] at k⟩

/-- From one state to a later one. -/
structure Stp (lo : Nat) (G : Gh) (h : Heap) (w : World) (G' : Gh) (h' : Heap) (w' : World) : Prop where
  le : G.le G'
  os : w'.os = w.os
  tape : w'.tape = w.tape
  output : w'.output = w.output
  size : w.heap.size ≤ w'.heap.size
  keep : ∀ b, b < w.heap.size → ¬ Own G lo h b → w'.heap[b]? = w.heap[b]? ∧ (∀ off, G'.Gp b off = G.Gp b off) ∧ ¬ Own G' lo h' b
  gbs : G'.Gb = G.Gb
  slo : ∀ B, B < lo → (∀ ep, G'.sg B ep = G.sg B ep) ∧ G'.io B = G.io B
  mono : Mono G h G' h'

theorem Stp.refl (lo : Nat) (G : Gh) (h : Heap) (w : World) : Stp lo G h w G h w :=
  ⟨G.le_refl, rfl, rfl, rfl, Nat.le_refl _, fun _ _ hn => ⟨rfl, fun _ => rfl, hn⟩, rfl, fun _ _ => ⟨fun _ => rfl, rfl⟩, .same fun _ _ => rfl⟩

theorem Stp.trans {lo : Nat} {G h w G' h' w' G'' h'' w''} (a : Stp lo G h w G' h' w') (b : Stp lo G' h' w' G'' h'' w'') : Stp lo G h w G'' h'' w'' :=
  ⟨Gh.le_trans a.le b.le, b.os.trans a.os, b.tape.trans a.tape, b.output.trans a.output, Nat.le_trans a.size b.size,
   fun x hx hn => by
     obtain ⟨h1, h2, h3⟩ := a.keep x hx hn
     obtain ⟨k1, k2, k3⟩ := b.keep x (Nat.lt_of_lt_of_le hx a.size) h3
     exact ⟨k1.trans h1, fun off => (k2 off).trans (h2 off), k3⟩, b.gbs.trans a.gbs, fun B hB => ⟨fun ep => ((b.slo B hB).1 ep).trans ((a.slo B hB).1 ep), (b.slo B hB).2.trans (a.slo B hB).2⟩, a.mono.trans b.mono⟩

/-- The slots of a frame. -/
def FInv (T : Tbl) (G : Gh) (fr : Fr) (tmps : Array Value) : Prop := ∀ t, R T G (lk fr t) (tmps.getD t undef)

theorem FInv.mono {T : Tbl} {G G' : Gh} (hG : G.le G') {fr : Fr} {tmps : Array Value} (h : FInv T G fr tmps) : FInv T G' fr tmps := fun t => (h t).mono hG

theorem FInv.keep {T : Tbl} {G : Gh} {fr : Fr} {tmps : Array Value} (h : FInv T G fr tmps) (ks : List Nat) : FInv T G (keep ks fr) tmps := by
  intro t
  have : lk (VE.keep ks fr) t = lk fr t ∨ lk (VE.keep ks fr) t = .undef := by
    induction ks with
    | nil => exact .inr rfl
    | cons k ks ih =>
      simp only [VE.keep, List.map_cons, lk]
      split
      · rename_i hk; subst hk; exact .inl rfl
      · exact ih
  rcases this with e | e <;> rw [e]
  · exact h t
  · exact .undef _

theorem lk_put (fr : Fr) (d : Nat) (v : V) (t : Nat) : lk (put fr (some d) v) t = if d = t then v else lk fr t := rfl

theorem FInv.put {T : Tbl} {G : Gh} {fr : Fr} {tmps : Array Value} (h : FInv T G fr tmps) {v : V} {rv : Value} (hv : R T G v rv) (dst : Option Nat) (hd : ∀ d, dst = some d → d < tmps.size) :
    FInv T G (put fr dst v) (match dst with | some d => tmps.setIfInBounds d rv | none => tmps) := by
  cases dst with
  | none => exact h
  | some d =>
    intro t
    rw [lk_put]
    have hlt := hd d rfl
    split
    · rename_i e; subst e
      simp only [Array.getD_eq_getD_getElem?, Array.getElem?_setIfInBounds, if_true, hlt]
      exact hv
    · rename_i e
      simp only [Array.getD_eq_getD_getElem?, Array.getElem?_setIfInBounds, if_neg e]
      simpa [Array.getD_eq_getD_getElem?] using h t

end Go.VE
