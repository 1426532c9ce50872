/- Joined texts: VeOps, VeOps2, VeOps3, VeMem, VeMem2, VeGc, VeGc2. No condition: what each theorem needs stands in it. -/
import Derived.Test.YtgkdconajdjkgaaGreatVa0
import Derived.Laws.StructEq
import Derived.Laws.BytesString
/- Each operation that looks at no memory: what the model answers is related to what the evaluator answers. -/
namespace Go.VE
set_option linter.unusedVariables false
set_option linter.unnecessarySimpa false
set_option linter.unusedSimpArgs false

/-- An operation of the model, done in world w: its value is related to x, the heap is h' then. -/
def Good (P : Program) (T : Tbl) (lo : Nat) (G : Gh) (h : Heap) (w : World) (s : Sem Next) (x : V) (h' : Heap) : Prop :=
  ∃ nx rv w' G', s.run P w = .ok nx w' ∧ (nx = .value rv ∨ (nx = .skip ∧ rv = undef)) ∧ R T G' x rv ∧ HInv T G' lo h' w' ∧ Stp lo G h w G' h' w'

section
variable {P : Program} {T : Tbl} {G : Gh} {w : World} {lo : Nat} {h : Heap}

theorem Good.same {s : Sem Next} {x : V} {rv : Value} (hi : HInv T G lo h w) (hr : s.run P w = .ok (.value rv) w) (hR : R T G x rv) : Good P T lo G h w s x h :=
  ⟨_, rv, w, G, hr, .inl rfl, hR, hi, .refl _ _ _ _⟩

theorem run_part_scalar {t : TypeId} (ht : isAggB P t = some false) {cs : Array Value} {off : Nat} {v : Value} (hv : cs[off]? = some v) : (part t cs off).run P w = .ok v w := by
  simp [part, run_agg ht, hv]

theorem bytes_eq (a b : ByteArray) : (a.toList == b.toList) = (a.data.toList == b.data.toList) := by
  rw [ByteArray.toList_eq, ByteArray.toList_eq]

theorem eqK_run {k : EK} {t : TypeId} (hk : kindIs P k t = true) (d : Nat) {x y : V} {rx ry : Value} {r : Bool} (hx : R T G x rx) (hy : R T G y ry) (e : eqK k x y = some r) :
    isAggB P t = some false ∧ (Op.equalIn (d + 1) t rx ry).run P w = .ok r w := by
  unfold eqK at e
  split at e
  · obtain rfl := hx.bool_inv
    obtain rfl := hy.bool_inv
    simp only [Option.some.injEq] at e
    cases hu : P.underlying t with
    | none => simp [kindIs, hu] at hk
    | some u =>
      cases u <;> simp [kindIs, hu] at hk
      exact ⟨by simp [isAggB, hu], by rw [run_equalIn_bool' w d t _ _ hu, e]⟩
  · obtain rfl := hx.int_inv
    obtain rfl := hy.int_inv
    split at e
    · rename_i hkk
      subst hkk
      simp only [Option.some.injEq] at e
      cases hu : P.underlying t with
      | none => simp [kindIs, hu] at hk
      | some u =>
        cases u <;> simp [kindIs, hu] at hk
        exact ⟨by simp [isAggB, hu], by rw [run_equalIn_int w d t _ _ _ _ hu, e]⟩
    · exact absurd e (by simp)
  · obtain ⟨s, rfl, hs⟩ := hx.str_inv
    obtain ⟨s', rfl, hs'⟩ := hy.str_inv
    simp only [Option.some.injEq] at e
    cases hu : P.underlying t with
    | none => simp [kindIs, hu] at hk
    | some u =>
      cases u <;> simp [kindIs, hu] at hk
      refine ⟨by simp [isAggB, hu], ?_⟩
      rw [run_equalIn_string w d t _ _ hu, bytes_eq, hs, hs', e]
  · exact absurd e (by simp)

theorem eqFields_run (d : Nat) : ∀ (fs : List Field) (ks : List EK) (k : Nat) (as bs : List V) (xs ys : Array Value) (r : Bool), chkFields P k fs ks = true →
    xs.size = k + as.length → ys.size = k + bs.length →
    (∀ (i : Nat) (v : V) (rv : Value), as[i]? = some v → xs[k + i]? = some rv → R T G v rv) →
    (∀ (i : Nat) (v : V) (rv : Value), bs[i]? = some v → ys[k + i]? = some rv → R T G v rv) → eqKs ks as bs = some r →
    (Op.eqFields (d + 1) xs ys fs).run P w = .ok r w
  | [], ks, k, as, bs, xs, ys, r, hc, hsx, hsy, hx, hy, e => by
    cases ks with
    | cons _ _ => simp [chkFields] at hc
    | nil =>
      cases as <;> cases bs <;> simp [eqKs] at e
      subst e; simp [Op.eqFields]
  | f :: fs, ks, k, as, bs, xs, ys, r, hc, hsx, hsy, hx, hy, e => by
    cases ks with
    | nil => simp [chkFields] at hc
    | cons q ks =>
      cases as with
      | nil => simp [eqKs] at e
      | cons a as =>
        cases bs with
        | nil => simp [eqKs] at e
        | cons b bs =>
          simp only [chkFields, Bool.and_eq_true, bne_iff_ne, ne_eq, beq_iff_eq] at hc
          obtain ⟨⟨⟨hn, ho⟩, hk⟩, hc⟩ := hc
          simp only [eqKs, Option.bind_eq_some_iff] at e
          obtain ⟨q1, hq, e⟩ := e
          have hxk : k < xs.size := by simp at hsx; omega
          have hyk : k < ys.size := by simp at hsy; omega
          have hvx := hx 0 a xs[k] (by simp) (by simp [hxk])
          have hvy := hy 0 b ys[k] (by simp) (by simp [hyk])
          have hr := eqK_run (w := w) hk d hvx hvy hq
          have hpx := run_part_scalar (w := w) (P := P) hr.1 (cs := xs) (off := f.offset) (v := xs[k]) (by rw [ho]; simp [hxk])
          have hpy := run_part_scalar (w := w) (P := P) hr.1 (cs := ys) (off := f.offset) (v := ys[k]) (by rw [ho]; simp [hyk])
          have ih := eqFields_run d fs ks (k + 1) as bs xs ys r hc (by simp at hsx; omega) (by simp at hsy; omega)
            (fun i v rv h1 h2 => hx (i + 1) v rv (by simpa using h1) (by rw [← h2]; congr 1; omega))
            (fun i v rv h1 h2 => hy (i + 1) v rv (by simpa using h1) (by rw [← h2]; congr 1; omega))
          simp only [Op.eqFields]
          rw [if_pos hn]
          simp only [Sem.run_bind, hpx, hpy, hr.2, Result.andThen_ok, Sem.run_ite, Sem.run_pure]
          cases q1 with
          | true => simp only [if_true] at e; simp only [Bool.not_true, Bool.false_eq_true, if_false]; exact ih e
          | false => simp only [Bool.false_eq_true, if_false, Option.some.injEq] at e; subst e; simp

theorem eqV_run {t : TypeId} {ks : Option (List EK)} (ht : eqTy P t ks = true) {x y : V} {rx ry : Value} {r : Bool} (hx : R T G x rx) (hy : R T G y ry) (e : eqV ks x y = some r) (ox oy : Operand) (op : BinOp) :
    (eqGuard op t ox oy rx ry).run P w = .ok () w ∧ (Op.equal t rx ry).run P w = .ok r w ∧ ((∃ a b, rx = .bool a ∧ ry = .bool b) ∨ ∃ a b, rx = .agg a ∧ ry = .agg b) := by
  cases ks with
  | none =>
    simp only [eqV] at e
    have h1 := eqK_run (w := w) (k := .b) ht 9999 hx hy e
    unfold eqK at e
    split at e
    · obtain rfl := hx.bool_inv
      obtain rfl := hy.bool_inv
      refine ⟨?_, h1.2, .inl ⟨_, _, rfl, rfl⟩⟩
      unfold eqGuard; cases op <;> simp
    · rename_i hh; simp at hh
    · rename_i hh; simp at hh
    · exact absurd e (by simp)
  | some ks =>
    simp only [eqV] at e
    split at e
    · obtain ⟨a, rfl, hl, ha, _⟩ := hx.agg_inv
      obtain ⟨b, rfl, hl', hb, _⟩ := hy.agg_inv
      simp only [eqTy] at ht
      split at ht
      · rename_i fs hu
        simp only [Bool.and_eq_true, Bool.not_eq_true'] at ht
        obtain ⟨⟨hp, hg⟩, hc⟩ := ht
        refine ⟨?_, ?_, .inr ⟨_, _, rfl, rfl⟩⟩
        · unfold eqGuard; cases op <;> simp [hg]
        · have hfs : P.fieldsOf t = fs := by simp [Program.fieldsOf, hu]
          have := run_equalIn_struct w 9999 t a b (by rw [hfs]; exact hu) hp
          show (Op.equalIn (9999 + 1) t (.agg a) (.agg b)).run P w = .ok r w
          rw [this, hfs]
          exact eqFields_run 9998 fs.toList ks 0 _ _ a b r hc (by omega) (by omega) (fun i v rv h1 h2 => ha i v rv h1 (by simpa using h2)) (fun i v rv h1 h2 => hb i v rv h1 (by simpa using h2)) e
      · exact absurd ht (by simp)
    · exact absurd e (by simp)

theorem intOp_run {op : BinOp} {k : IntKind} {a b : Int} {v : V} (e : intOp op k a b = some v) (hns : op ≠ .shl) (hns' : op ≠ .shr) (t : TypeId) :
    ∃ rv, (binOp op t (.int k a) (.int k b)).run P w = .ok rv w ∧ R T G v rv := by
  cases op <;> simp only [intOp, Option.some.injEq, reduceCtorEq] at e <;> try (exact absurd rfl hns) <;> try (exact absurd rfl hns')
  all_goals first
    | (subst e; exact ⟨_, by simp only [binOp, ne_eq, not_true_eq_false, if_false]; rfl, .int _ _⟩)
    | (subst e; exact ⟨_, by simp only [binOp, ne_eq, not_true_eq_false, if_false]; rfl, .bool _⟩)
    | skip
  · split at e
    · exact absurd e (by simp)
    · rename_i hb
      simp only [Option.some.injEq] at e; subst e
      exact ⟨_, by simp [binOp, Op.intDiv, hb], .int _ _⟩
  · split at e
    · exact absurd e (by simp)
    · rename_i hb
      simp only [Option.some.injEq] at e; subst e
      exact ⟨_, by simp [binOp, Op.intDiv, hb], .int _ _⟩


theorem shiftOp_run {op : BinOp} {k k' : IntKind} {a b : Int} {v : V} (e : shiftOp op k a b = some v) (hs : op = .shl ∨ op = .shr) (t : TypeId) :
    ∃ rv, (binOp op t (.int k a) (.int k' b)).run P w = .ok rv w ∧ R T G v rv := by
  unfold shiftOp at e
  split at e
  · exact absurd e (by simp)
  · rename_i hb
    rcases hs with rfl | rfl <;> simp only [Option.some.injEq] at e <;> subst e
    · exact ⟨_, by simp [binOp, Op.shift, hb], .int _ _⟩
    · exact ⟨_, by simp [binOp, Op.shift, hb], .int _ _⟩

theorem strOp_run {op : BinOp} {x y : ByteArray} {v : V} (e : strOp op x.data.toList y.data.toList = some v) (t : TypeId) :
    ∃ rv, (binOp op t (.string x) (.string y)).run P w = .ok rv w ∧ R T G v rv := by
  have hx : x.toList = x.data.toList := ByteArray.toList_eq ..
  have hy : y.toList = y.data.toList := ByteArray.toList_eq ..
  have hsx : x.data.toList.length = x.size := by simp
  have hsy : y.data.toList.length = y.size := by simp
  cases op <;> simp only [strOp, Option.some.injEq, reduceCtorEq] at e
  · split at e
    · rename_i hl
      simp only [Option.some.injEq] at e; subst e
      refine ⟨.string (x ++ y), ?_, .str _ _ ?_⟩
      · simp only [binOp, Op.stringOp]
        rw [if_neg]
        · rfl
        · rw [hsx, hsy] at hl
          simp only [IntKind.max, gt_iff_lt]
          show ¬ ((2 : Int) ^ 63 - 1 < _)
          omega
      · simp
    · exact absurd e (by simp)
  all_goals (subst e; exact ⟨_, by simp only [binOp, Op.stringOp, hx, hy]; rfl, .bool _⟩)

theorem binV_run {op : BinOp} {x y : V} {rx ry : Value} {v : V} (e : binV op x y = some v) (hx : R T G x rx) (hy : R T G y ry) (t : TypeId) (ox oy : Operand) :
    ∃ rv, (do eqGuard op t ox oy rx ry; binOp op t rx ry : Sem Value).run P w = .ok rv w ∧ R T G v rv := by
  unfold binV at e
  split at e
  · obtain rfl := hx.int_inv
    obtain rfl := hy.int_inv
    rename_i k a k' b
    have hg : (eqGuard op t ox oy (.int k a) (.int k' b)).run P w = .ok () w := by unfold eqGuard; cases op <;> simp
    simp only [Sem.run_bind, hg, Result.andThen_ok]
    split at e
    · exact shiftOp_run e (.inl rfl) t
    · exact shiftOp_run e (.inr rfl) t
    · split at e
      · rename_i h1 h2 hk; subst hk; exact intOp_run e h1 h2 t
      · exact absurd e (by simp)
  · obtain ⟨s, rfl, hs⟩ := hx.str_inv
    obtain ⟨s', rfl, hs'⟩ := hy.str_inv
    have hg : (eqGuard op t ox oy (.string s) (.string s')).run P w = .ok () w := by unfold eqGuard; cases op <;> simp
    simp only [Sem.run_bind, hg, Result.andThen_ok]
    subst hs; subst hs'
    exact strOp_run e t
  · exact absurd e (by simp)


theorem kind_of {p : TypeDesc → Bool} {t : TypeId} (h : isKind P p t = true) : ∃ d, P.underlying t = some d ∧ p d = true := by
  unfold isKind at h
  split at h
  · exact ⟨_, ‹_›, h⟩
  · exact absurd h (by simp)

set_option maxHeartbeats 2000000 in
theorem nil_eq {k : NK} {x : V} {rx : Value} {b : Bool} (e : isNil k x = some b) (hx : R T G x rx) {t : TypeId} {d : TypeDesc} (hd : P.underlying t = some d) (hk : nilTy k d = true) (n : Nat) {nv : Value}
    (hn : isNilConst k (.const nv) = true) : (Op.equalIn (n + 1) t rx nv).run P w = .ok b w ∧ (Op.equalIn (n + 1) t nv rx).run P w = .ok b w := by
  unfold isNil at e
  split at e <;> simp only [Option.some.injEq, reduceCtorEq] at e <;> subst e
  all_goals
    cases d <;> simp [nilTy] at hk
    unfold isNilConst at hn
    split at hn <;> simp only [reduceCtorEq, Bool.false_eq_true] at hn <;> rename_i hh <;> cases hh <;> (try contradiction)
    first
      | (obtain ⟨a, cap, rfl, _, _, hg⟩ := hx.gsl_inv; rcases hg with h0 | ⟨g, _, _, rfl, _⟩ <;> first | omega | (simp [Op.equalIn, run_und hd]; done))
      | (obtain ⟨g, _, rfl⟩ := hx.ptr_inv; simp [Op.equalIn, run_und hd]; done)
      | (obtain ⟨bb, ba, f, rfl, _⟩ := hx.eptr_inv; simp [Op.equalIn, run_und hd]; done)
      | (obtain ⟨tid, rv, rfl, _⟩ := hx.iface_inv; simp [Op.equalIn, run_und hd]; done)
      | (obtain ⟨fid, a, b, rfl, _⟩ := hx.func_inv; simp [Op.equalIn, run_und hd]; done)
      | (obtain ⟨a, cap, bb, oo, f, rfl, _, htg, _⟩ := hx.sl_inv; obtain rfl := htg.2.1 rfl; simp [Op.equalIn, run_und hd]; done)
      | (obtain ⟨a, cap, bb, oo, f, rfl, _, htg, _⟩ := hx.sl_inv; obtain ⟨ad, rfl⟩ := Option.isSome_iff_exists.1 (htg.2.2 rfl); simp [Op.equalIn, run_und hd]; done)
      | (obtain ⟨a, cap, bb, oo, f, rfl, _, _, ha, _⟩ := hx.sl_inv; simp at ha; subst ha; simp [Op.equalIn, run_und hd]; done)
      | (cases hx; simp [Op.equalIn, run_und hd]; done)

theorem isNil_run {k : NK} {x : V} {rx : Value} {b : Bool} (e : isNil k x = some b) (hx : R T G x rx) {t : TypeId} (ht : isKind P (nilTy k) t = true) (op : BinOp) (neg : Bool)
    (hop : (match op with | .eql => !neg | .neq => neg | _ => false) = true) {nv : Value} (hn : isNilConst k (.const nv) = true) (ox : Operand) :
    (do eqGuard op t ox (.const nv) rx nv; binOp op t rx nv : Sem Value).run P w = .ok (.bool (if neg then !b else b)) w ∧
    (do eqGuard op t (.const nv) ox nv rx; binOp op t nv rx : Sem Value).run P w = .ok (.bool (if neg then !b else b)) w := by
  obtain ⟨d, hd, hk⟩ := kind_of ht
  obtain ⟨e1, e2⟩ := nil_eq (w := w) e hx hd hk 9999 hn
  have e1' : (Op.equal t rx nv).run P w = .ok b w := e1
  have e2' : (Op.equal t nv rx).run P w = .ok b w := e2
  have shape : ((∃ a, rx = .pointer a) ∧ nv = .pointer none) ∨ ((rx = .nilIface ∨ ∃ a c, rx = .iface a c) ∧ nv = .nilIface) ∨ ((rx = .nilFunc ∨ ∃ a c q, rx = .func a c q) ∧ nv = .nilFunc) ∨
      ((∃ a, rx = .map a) ∧ nv = .map none) ∨ ((∃ a c q, rx = .slice a c q) ∧ ∃ c q, nv = .slice none c q) := by
    unfold isNilConst at hn
    unfold isNil at e
    split at e <;> simp only [Option.some.injEq, reduceCtorEq] at e
    all_goals
      split at hn <;> simp only [reduceCtorEq, Bool.false_eq_true] at hn <;> rename_i hh <;> cases hh <;> (try contradiction)
      cases hx
      simp
  have g1 : (eqGuard op t ox (.const nv) rx nv).run P w = .ok () w := by
    unfold eqGuard
    rcases shape with ⟨⟨a, rfl⟩, rfl⟩ | ⟨rfl | ⟨a, c, rfl⟩, rfl⟩ | ⟨rfl | ⟨a, c, q, rfl⟩, rfl⟩ | ⟨⟨a, rfl⟩, rfl⟩ | ⟨⟨a, c, q, rfl⟩, c', q', rfl⟩ <;> cases op <;> simp
  have g2 : (eqGuard op t (.const nv) ox nv rx).run P w = .ok () w := by
    unfold eqGuard
    rcases shape with ⟨⟨a, rfl⟩, rfl⟩ | ⟨rfl | ⟨a, c, rfl⟩, rfl⟩ | ⟨rfl | ⟨a, c, q, rfl⟩, rfl⟩ | ⟨⟨a, rfl⟩, rfl⟩ | ⟨⟨a, c, q, rfl⟩, c', q', rfl⟩ <;> cases op <;> simp
  simp only [Sem.run_bind, g1, g2, Result.andThen_ok]
  rcases shape with ⟨⟨a, rfl⟩, rfl⟩ | ⟨rfl | ⟨a, c, rfl⟩, rfl⟩ | ⟨rfl | ⟨a, c, q, rfl⟩, rfl⟩ | ⟨⟨a, rfl⟩, rfl⟩ | ⟨⟨a, c, q, rfl⟩, c', q', rfl⟩ <;> cases op <;> simp at hop <;> subst hop <;>
    simp only [binOp, Sem.run_bind, e1', e2', Result.andThen_ok, Sem.run_pure] <;> simp

theorem unV_run {op : UnOp} {x : V} {rx : Value} {v : V} (e : unV op x = some v) (hx : R T G x rx) : ∃ rv, (Op.unary op rx).run P w = .ok rv w ∧ R T G v rv := by
  unfold unV at e
  split at e <;> simp only [Option.some.injEq, reduceCtorEq] at e <;> subst e
  · obtain rfl := hx.bool_inv; exact ⟨_, rfl, .bool _⟩
  · obtain rfl := hx.int_inv; exact ⟨_, rfl, .int _ _⟩
  · obtain rfl := hx.int_inv; exact ⟨_, rfl, .int _ _⟩

theorem faddrV_run {x v : V} {rx : Value} {off : Nat} (e : faddrV x off = some v) (hx : R T G x rx) : ∃ a : Addr, rx = .pointer (some a) ∧ a.spot = none ∧ R T G v (.pointer (some (a.add off))) := by
  unfold faddrV at e
  split at e <;> simp only [Option.some.injEq, reduceCtorEq] at e <;> subst e
  · obtain ⟨g, hg, rfl⟩ := hx.ptr_inv
    refine ⟨_, rfl, rfl, ?_⟩
    rw [add_spot, Nat.add_assoc]
    exact .ptr _ _ _ _ g hg
  · obtain ⟨b, base, f, rfl, hg, hR, ho⟩ := hx.eptr_inv
    refine ⟨_, rfl, rfl, ?_⟩
    rw [add_spot, Nat.add_assoc]
    exact .eptr _ _ _ b base f hg hR ho

theorem iaddrV_run {n : Nat} {x i v : V} {rx ri : Value} (e : iaddrV n x i = some v) (hx : R T G x rx) (hi : R T G i ri) {t el : TypeId} (ht : sliceElem P t = some el) (hs : szOf P el = some n) :
    ∃ rv, (Instr.indexAt t rx ri).run P w = .ok rv w ∧ R T G v rv := by
  have hu : P.underlying t = some (.slice el) := by
    unfold sliceElem at ht; split at ht
    · simp at ht; subst ht; assumption
    · exact absurd ht (by simp)
  unfold iaddrV at e
  split at e
  · rename_i z es tg k i
    obtain ⟨a, cap, b, o, f, rfl, hc, htg, ha, hz, hg, hR, ho⟩ := hx.sl_inv
    obtain rfl := hi.int_inv
    split at e
    · rename_i hn
      obtain ⟨rfl, hn⟩ := hn
      simp only [Option.map_eq_some_iff] at e
      obtain ⟨e', he, rfl⟩ := e
      have hlt : i.toNat < es.length := (List.getElem?_eq_some_iff.1 he).1
      have hne : es ≠ [] := by intro hh; subst hh; simp at hlt
      rw [ha hne]
      refine ⟨.pointer (some ⟨b, o + i.toNat * n, none⟩), ?_, ?_⟩
      · have : 0 ≤ i ∧ i < (es.length : Int) := ⟨hn, by omega⟩
        simp [Instr.indexAt, asIntOf, run_und hu, run_sz hs, this, add_spot]
      · exact .eptr e' 0 tg b (o + i.toNat * n) (fun j => f i.toNat j) (fun j c hc => hg _ _ _ _ he hc) (fun j c hc => hR _ _ _ _ he hc) (fun j c hc => ho _ _ _ _ he hc)
    · exact absurd e (by simp)
  · rename_i B ep z off len k i
    obtain ⟨a, cap, rfl, hB, hl, hg⟩ := hx.gsl_inv
    obtain rfl := hi.int_inv
    split at e
    · rename_i hn
      obtain ⟨rfl, hn1, hn2⟩ := hn
      simp only [Option.some.injEq] at e; subst e
      rcases hg with rfl | ⟨g, h1, h2, rfl, h3⟩
      · omega
      · refine ⟨.pointer (some ⟨g.b, g.o + off * n + i.toNat * n, none⟩), ?_, ?_⟩
        · have : 0 ≤ i ∧ i < (len : Int) := ⟨hn1, hn2⟩
          simp [Instr.indexAt, asIntOf, run_und hu, run_sz hs, this, add_spot]
        · have := R.ptr (T := T) B ep (off + i.toNat) 0 g h1
          rw [h2, Nat.add_mul, Nat.add_zero, ← Nat.add_assoc] at this
          exact this
    · exact absurd e (by simp)
  · exact absurd e (by simp)

theorem iaddrA_run {len n : Nat} {x i v : V} {rx ri : Value} (e : iaddrA len n x i = some v) (hx : R T G x rx) (hi : R T G i ri) {t el : TypeId} (hu : P.underlying t = some (.array len el)) (hs : szOf P el = some n) :
    ∃ rv, (Instr.indexAt t rx ri).run P w = .ok rv w ∧ R T G v rv := by
  unfold iaddrA at e
  split at e
  · rename_i k i
    obtain rfl := hi.int_inv
    split at e
    · rename_i hn
      obtain ⟨a, rfl, hsp, hR⟩ := faddrV_run e hx
      exact ⟨_, by simp [Instr.indexAt, Instr.sureAddr, asIntOf, run_und hu, run_sz hs, hn], hR⟩
    · exact absurd e (by simp)
  · exact absurd e (by simp)

theorem idxS_run {x i v : V} {rx ri : Value} (e : idxS x i = some v) (hx : R T G x rx) (hi : R T G i ri) {t : TypeId} (hu : P.underlying t = some .string) :
    ∃ rv, (Instr.index t rx ri).run P w = .ok rv w ∧ R T G v rv := by
  unfold idxS at e
  split at e
  · rename_i l k i
    obtain ⟨s, rfl, hs⟩ := hx.str_inv
    obtain rfl := hi.int_inv
    split at e
    · rename_i hn
      simp only [Option.map_eq_some_iff] at e
      obtain ⟨b, hb, rfl⟩ := e
      refine ⟨.int .u8 b.toNat, ?_, .int _ _⟩
      have hb' : s[i.toNat]? = some b := by
        rw [← hs] at hb
        have : i.toNat < s.size := by have := (List.getElem?_eq_some_iff.1 hb).1; simpa using this
        simp only [getElem?_def] at hb ⊢
        rw [dif_pos (by simpa using this)] at hb
        rw [dif_pos this]
        rw [← hb]; rfl
      simp [Instr.index, asIntOf, run_und hu, hn, hb']
    · exact absurd e (by simp)
  · exact absurd e (by simp)

theorem lenV_run {text : Bool} {x v : V} {rx : Value} (e : lenV text x = some v) (hx : R T G x rx) {ts : Array TypeId} {t ty : TypeId} (hts : ts[0]? = some t) (ht : isKind P (if text then isStr else isSlice) t = true) :
    ∃ rv, (Builtin.len_ ts ty #[rx]).run P w = .ok rv w ∧ R T G v rv := by
  obtain ⟨d, hd, hk⟩ := kind_of ht
  unfold lenV at e
  split at e
  · rename_i htx
    rw [if_pos htx] at hk
    split at e
    · simp only [Option.some.injEq] at e; subst e
      obtain ⟨s, rfl, hs⟩ := hx.str_inv
      cases d <;> simp [isStr] at hk
      refine ⟨.int .i64 s.size, by simp [Builtin.len_, hts, run_und hd, goInt], ?_⟩
      rw [← hs]; simpa using R.int (T := T) (G := G) .i64 (s.size : Int)
    · exact absurd e (by simp)
  · rename_i htx
    rw [if_neg htx] at hk
    cases d <;> simp [isSlice] at hk
    split at e <;> simp only [Option.some.injEq, reduceCtorEq] at e <;> subst e
    · obtain ⟨a, cap, b, o, f, rfl, _⟩ := hx.sl_inv
      exact ⟨_, by simp [Builtin.len_, hts, run_und hd, goInt]; try rfl, .int _ _⟩
    · obtain ⟨a, cap, rfl, _⟩ := hx.gsl_inv
      exact ⟨_, by simp [Builtin.len_, hts, run_und hd, goInt]; try rfl, .int _ _⟩

end
end Go.VE

/- The second half of the operations that look at no memory. -/
namespace Go.VE
set_option linter.unusedVariables false
set_option linter.unnecessarySimpa false
set_option linter.unusedSimpArgs false

section
variable {P : Program} {T : Tbl} {G : Gh} {w : World} {lo : Nat} {h : Heap}

/-- An operand that may lack. -/
def RO (T : Tbl) (G : Gh) : Option V → Option Value → Prop
  | none, none => True
  | some v, some rv => R T G v rv
  | _, _ => False

theorem bnd_none {d top : Nat} : bnd none d top = some d := rfl

theorem sliceBound_run {x : V} {rx : Value} (hx : R T G x rx) {y d n : Nat} {code : BoundsCode} (e : bnd (some x) d y = some n) : (Instr.sliceBound rx y code).run P w = .ok n w ∧ n ≤ y := by
  unfold bnd at e
  split at e
  · rename_i he; exact absurd he (by simp)
  · rename_i k i he
    simp only [Option.some.injEq] at he; subst he
    obtain rfl := hx.int_inv
    split at e
    · rename_i hi
      simp only [Option.some.injEq] at e; subst e
      refine ⟨?_, by omega⟩
      simp [Instr.sliceBound, asIntOf, hi]
    · exact absurd e (by simp)
  · exact absurd e (by simp)

theorem bnd_le {x : Option V} {d top n : Nat} (e : bnd x d top = some n) (hd : x = none → d ≤ top) : n ≤ top := by
  unfold bnd at e
  split at e
  · simp at e; subst e; exact hd rfl
  · split at e
    · simp at e; omega
    · exact absurd e (by simp)
  · exact absurd e (by simp)

theorem bnd_mono {x : Option V} {d top top' n : Nat} (e : bnd x d top = some n) (ht : top ≤ top') : bnd x d top' = some n := by
  unfold bnd at e ⊢
  split at e
  · exact e
  · split at e
    · rename_i hi
      rw [if_pos ⟨hi.1, by omega⟩]; exact e
    · exact absurd e (by simp)
  · exact absurd e (by simp)

/-- The bounds of a slice of a slice: all three. -/
theorem bounds_run {len cap m h l : Nat} {lo' hi' mx' : Option V} {rlo rhi rmx : Option Value} (hlo : RO T G lo' rlo) (hhi : RO T G hi' rhi) (hmx : RO T G mx' rmx)
    (hmh : rmx.isSome = true → rhi.isSome = true) (em : bnd mx' len cap = some m) (eh : bnd hi' len (if mx'.isSome then m else cap) = some h) (el : bnd lo' 0 h = some l) (isS : Bool) :
    (Instr.sliceBounds isS len cap rlo rhi rmx).run P w = .ok (l, h, if mx'.isSome then m else cap) w := by
  unfold Instr.sliceBounds
  cases mx' with
  | none =>
    cases rmx with
    | some _ => exact hmx.elim
    | none =>
      simp only [Option.isSome_none, Bool.false_eq_true, if_false] at eh ⊢
      cases hi' with
      | none =>
        cases rhi with
        | some _ => exact hhi.elim
        | none =>
          simp only [bnd, Option.some.injEq] at eh; subst eh
          cases lo' with
          | none =>
            cases rlo with
            | some _ => exact hlo.elim
            | none => simp only [bnd, Option.some.injEq] at el; subst el; simp
          | some x =>
            cases rlo with
            | none => exact hlo.elim
            | some rx => simp [(sliceBound_run (w := w) (P := P) hlo el).1]
      | some x =>
        cases rhi with
        | none => exact hhi.elim
        | some rx =>
          have h1 := (sliceBound_run (w := w) (P := P) (code := if isS then .sliceAcap else .sliceAlen) hhi eh).1
          cases lo' with
          | none =>
            cases rlo with
            | some _ => exact hlo.elim
            | none => simp only [bnd, Option.some.injEq] at el; subst el; simp [h1]
          | some y =>
            cases rlo with
            | none => exact hlo.elim
            | some ry => simp [h1, (sliceBound_run (w := w) (P := P) hlo el).1]
  | some q =>
    cases rmx with
    | none => exact hmx.elim
    | some rq =>
      simp only [Option.isSome_some, if_true] at eh ⊢
      have h0 := (sliceBound_run (w := w) (P := P) (code := if isS then .slice3Acap else .slice3Alen) hmx em).1
      cases hi' with
      | none =>
        cases rhi with
        | some _ => exact hhi.elim
        | none => exact absurd (hmh rfl) (by simp)
      | some x =>
        cases rhi with
        | none => exact hhi.elim
        | some rx =>
          have h1 := (sliceBound_run (w := w) (P := P) (code := .slice3B) hhi eh).1
          cases lo' with
          | none =>
            cases rlo with
            | some _ => exact hlo.elim
            | none => simp only [bnd, Option.some.injEq] at el; subst el; simp [h0, h1]
          | some y =>
            cases rlo with
            | none => exact hlo.elim
            | some ry => simp [h0, h1, (sliceBound_run (w := w) (P := P) hlo el).1]

theorem gAt_tag {t : Tag} {full given : Bool} {b off : Nat} {v : Value} (e : gAt G t b off = some v) : gAt G (sliceTag t full given) b off = some v := by
  cases t <;> cases full <;> cases given <;> exact e

theorem bnd_some_ge {mx : Option V} {d len cap m : Nat} (e : bnd mx d len = some m) (hl : len ≤ cap) : bnd mx d cap = some m := bnd_mono e hl

theorem sliceV_run {n : Nat} {x v : V} {lo' hi' mx' : Option V} {rx : Value} {rlo rhi rmx : Option Value} (e : sliceV n x lo' hi' mx' = some v) (hx : R T G x rx)
    (hlo : RO T G lo' rlo) (hhi : RO T G hi' rhi) (hmx : RO T G mx' rmx) (hmh : rmx.isSome = true → rhi.isSome = true) {t : TypeId}
    (ht : (match P.underlying t with | some .string => n == 0 | some (.slice e) => szOf P e == some n && decide (0 < n) | _ => false) = true) :
    ∃ rv, (Instr.sliceAt t rx rlo rhi rmx).run P w = .ok rv w ∧ R T G v rv := by
  have hsome : mx'.isSome = rmx.isSome := by cases mx' <;> cases rmx <;> first | rfl | exact hmx.elim
  unfold sliceV at e
  split at e
  · rename_i l
    obtain ⟨s, rfl, hs⟩ := hx.str_inv
    split at e
    · rename_i hm
      simp only [Option.bind_eq_some_iff, Option.map_eq_some_iff] at e
      obtain ⟨hh, eh, ll, el, rfl⟩ := e
      obtain ⟨hn, hm⟩ := hm
      have hm' : mx' = none := by cases mx' <;> simp_all
      subst hm'
      have hr : rmx = none := by cases rmx <;> simp_all
      subst hr
      have hsl : l.length = s.size := by rw [← hs]; simp
      split at ht
      · rename_i hu
        have := bounds_run (w := w) (P := P) (cap := l.length) (len := l.length) (m := l.length) hlo hhi (mx' := none) (rmx := none) trivial (by simp) rfl (by simpa using eh) el false
        refine ⟨.string (s.extract ll hh), ?_, .str _ _ ?_⟩
        · simp only [Option.isSome_none, Bool.false_eq_true, if_false, hsl] at this
          simp [Instr.sliceAt, Instr.slice, run_und hu, this]
        · rw [← hs]
          simp [ByteArray.data_extract, List.drop_take]
      · simp at ht; omega
      · exact absurd ht (by simp)
    · exact absurd e (by simp)
  · rename_i z es tg
    obtain ⟨a, cap, b, o, f, rfl, hc, htg, ha, hz, hg, hR, ho⟩ := hx.sl_inv
    split at e
    · rename_i hm
      obtain ⟨rfl, hn⟩ := hm
      simp only [Option.bind_eq_some_iff, Option.map_eq_some_iff] at e
      obtain ⟨m, em, hh, eh, ll, el, rfl⟩ := e
      split at ht
      · simp at ht; omega
      · rename_i el' hu
        simp only [Bool.and_eq_true, beq_iff_eq, decide_eq_true_eq] at ht
        have hml : m ≤ es.length := bnd_le em (fun _ => Nat.le_refl _)
        have hm0 : mx' = none → m = es.length := by rintro rfl; simp [bnd] at em; omega
        have hhm : hh ≤ m := bnd_le eh (fun h0 => by
          subst h0
          cases hmx' : mx' with
          | none => rw [hm0 hmx']; exact Nat.le_refl _
          | some q =>
            exfalso
            rw [hmx'] at hsome
            have := hmh (by simpa using hsome.symm)
            cases rhi with
            | none => simp at this
            | some _ => exact hhi.elim)
        have hlh : ll ≤ hh := bnd_le el (fun _ => Nat.zero_le _)
        have hB := bounds_run (w := w) (P := P) (cap := cap) (len := es.length) (m := m) hlo hhi hmx hmh (bnd_mono em hc)
          (by split
              · exact eh
              · exact bnd_mono eh (by omega)) el true
        have hmr : (if mx'.isSome = true then m else cap) ≤ cap ∧ hh ≤ (if mx'.isSome = true then m else cap) := by split <;> omega
        generalize hM : (if mx'.isSome = true then m else cap) = M at hB hmr
        refine ⟨.slice (if M = ll then a else a.map (·.add (ll * n))) (hh - ll) (M - ll), ?_, ?_⟩
        · simp [Instr.sliceAt, Instr.slice, run_und hu, hB, run_sz ht.1]
        · have hlen : ((es.take hh).drop ll).length = hh - ll := by simp; omega
          have hget : ∀ i e, ((es.take hh).drop ll)[i]? = some e → es[ll + i]? = some e := by
            intro i e hi
            rw [List.getElem?_drop, List.getElem?_take] at hi
            split at hi
            · exact hi
            · exact absurd hi (by simp)
          have := R.sl (T := T) (G := G) n ((es.take hh).drop ll) (sliceTag tg (hh == m) mx'.isSome) (if M = ll then a else a.map (·.add (ll * n))) (M - ll) b (o + ll * n) (fun i j => f (ll + i) j)
            (by rw [hlen]; omega)
            (by
              rw [hlen]
              have hnil : a = none → es = [] := fun ha0 => by
                cases es with
                | nil => rfl
                | cons e0 es0 => rw [ha (by simp)] at ha0; simp at ha0
              have hgiven : mx'.isSome = true → M = m := fun hs => by rw [if_pos hs] at hM; exact hM.symm
              have hfree : mx'.isSome = false → M = cap ∧ m = es.length := fun hs => by
                rw [hs] at hM
                exact ⟨by simpa using hM.symm, hm0 (by cases mx' <;> simp_all)⟩
              have hMc : clipB tg = true → hh = m → M - ll = hh - ll := fun hcl hq => by
                have := htg.1 hcl
                cases hs : mx'.isSome with
                | true => rw [hgiven hs]; omega
                | false => rw [(hfree hs).1]; have := (hfree hs).2; omega
              refine ⟨fun hq => ?_, fun hq => ?_, fun hq => ?_⟩
              · cases tg with
                | brw => simp [sliceTag, clipB] at hq
                | clip =>
                  simp only [sliceTag] at hq
                  split at hq
                  · rename_i hq'
                    exact hMc rfl (by simpa using hq')
                  · simp [clipB] at hq
                | ce =>
                  simp only [sliceTag] at hq
                  split at hq
                  · rename_i hq'
                    exact hMc rfl (by simpa using hq')
                  · simp [clipB] at hq
                | nl =>
                  have he := hnil (htg.2.1 rfl)
                  subst he
                  have := htg.1 rfl
                  simp at this hml
                  cases hs : mx'.isSome with
                  | true => rw [hgiven hs]; omega
                  | false => rw [(hfree hs).1]; omega
                | perm =>
                  simp only [sliceTag] at hq
                  split at hq
                  · rename_i hq'
                    simp only [Bool.and_eq_true, beq_iff_eq] at hq'
                    rw [hgiven hq'.1]; omega
                  · simp [clipB] at hq
                | em =>
                  simp only [sliceTag] at hq
                  split at hq
                  · rename_i hq'
                    simp only [Bool.and_eq_true, beq_iff_eq] at hq'
                    rw [hgiven hq'.1]; omega
                  · simp [clipB] at hq
              · have : tg = .nl := by
                  cases tg <;> simp only [sliceTag] at hq <;> first | rfl | (split at hq <;> simp at hq) | simp at hq
                rw [htg.2.1 this]; split <;> rfl
              · have : someB tg = true := by
                  cases tg <;> simp only [sliceTag] at hq <;> first | rfl | (split at hq <;> simp [someB] at hq) | simp [someB] at hq
                have := htg.2.2 this
                split
                · exact this
                · rw [Option.isSome_map]; exact this)
            (by
              intro hne
              have : 0 < hh - ll := by rw [← hlen]; exact List.length_pos_iff.2 hne
              rw [if_neg (by omega), ha (by intro h0; subst h0; simp at hne)]
              simp [add_spot])
            (fun i e hi => hz _ e (hget i e hi))
            (fun i e j c hi hj => by
              have := hg _ e j c (hget i e hi) hj
              rw [show o + ll * n + i * n + j = o + (ll + i) * n + j by rw [Nat.add_mul]; omega]
              exact gAt_tag this)
            (fun i e j c hi hj => hR _ e j c (hget i e hi) hj)
            (fun i e j c hi hj => ho _ e j c (hget i e hi) hj)
          rw [hlen] at this
          exact this
      · exact absurd ht (by simp)
    · exact absurd e (by simp)
  · rename_i B ep z off len
    obtain ⟨a, cap, rfl, hBn, hl, hg⟩ := hx.gsl_inv
    split at e
    · rename_i hm
      obtain ⟨rfl, hn⟩ := hm
      simp only [Option.bind_eq_some_iff, Option.map_eq_some_iff] at e
      obtain ⟨m, em, hh, eh, ll, el, rfl⟩ := e
      split at ht
      · simp at ht; omega
      · rename_i el' hu
        simp only [Bool.and_eq_true, beq_iff_eq, decide_eq_true_eq] at ht
        have hml : m ≤ len := bnd_le em (fun _ => Nat.le_refl _)
        have hm0 : mx' = none → m = len := by rintro rfl; simp [bnd] at em; omega
        have hhm : hh ≤ m := bnd_le eh (fun h0 => by
          subst h0
          cases hmx' : mx' with
          | none => rw [hm0 hmx']; exact Nat.le_refl _
          | some q =>
            exfalso
            rw [hmx'] at hsome
            have := hmh (by simpa using hsome.symm)
            cases rhi with
            | none => simp at this
            | some _ => exact hhi.elim)
        have hlh : ll ≤ hh := bnd_le el (fun _ => Nat.zero_le _)
        have hB := bounds_run (w := w) (P := P) (cap := cap) (len := len) (m := m) hlo hhi hmx hmh (bnd_mono em hl)
          (by split
              · exact eh
              · exact bnd_mono eh (by omega)) el true
        have hmr : (if mx'.isSome = true then m else cap) ≤ cap ∧ hh ≤ (if mx'.isSome = true then m else cap) := by split <;> omega
        generalize hM : (if mx'.isSome = true then m else cap) = M at hB hmr
        refine ⟨.slice (if M = ll then a else a.map (·.add (ll * n))) (hh - ll) (M - ll), ?_, ?_⟩
        · simp [Instr.sliceAt, Instr.slice, run_und hu, hB, run_sz ht.1]
        · refine .gsl _ _ _ _ _ _ _ hBn (by omega) ?_
          by_cases hz : M = ll
          · exact .inl (by omega)
          · right
            rcases hg with rfl | ⟨g, h1, h2, rfl, h3⟩
            · omega
            · refine ⟨g, h1, h2, ?_, ?_⟩
              · rw [if_neg hz]; simp [add_spot, Nat.add_mul, Nat.add_assoc]
              · refine Nat.le_trans (Nat.add_le_add_left (Nat.mul_le_mul_right n ?_) _) h3
                omega
      · exact absurd ht (by simp)
    · exact absurd e (by simp)
  · exact absurd e (by simp)

end
end Go.VE

/- The third part of the operations that look at no memory; and all of them together. -/
namespace Go.VE
set_option linter.unusedVariables false
set_option linter.unnecessarySimpa false
set_option linter.unusedSimpArgs false

section
variable {P : Program} {T : Tbl} {G : Gh} {w : World} {lo : Nat} {h : Heap}

/-- Cells and their values, one by one. -/
def RL (T : Tbl) (G : Gh) (cs : List V) (c : Array Value) : Prop :=
  cs.length = c.size ∧ (∀ (i : Nat) (v : V) (rv : Value), cs[i]? = some v → c[i]? = some rv → R T G v rv) ∧ (∀ (i : Nat) (rv : Value), c[i]? = some rv → oc rv = true)

theorem zipFold (off : Nat) : ∀ (l : List Value) (k : Nat) (arr : Array Value),
    ((l.zipIdx k).foldl (fun cs (x : Value × Nat) => cs.setIfInBounds (off + x.2) x.1) arr).size = arr.size ∧
    ∀ i, i < arr.size → ((l.zipIdx k).foldl (fun cs (x : Value × Nat) => cs.setIfInBounds (off + x.2) x.1) arr)[i]? = if off + k ≤ i ∧ i < off + k + l.length then l[i - (off + k)]? else arr[i]?
  | [], k, arr => by
    refine ⟨rfl, fun i hi => ?_⟩
    rw [if_neg (by simp)]; rfl
  | x :: l, k, arr => by
    obtain ⟨h1, h2⟩ := zipFold off l (k + 1) (arr.setIfInBounds (off + k) x)
    simp only [List.zipIdx_cons, List.foldl_cons]
    refine ⟨by rw [h1]; simp, fun i hi => ?_⟩
    rw [h2 i (by simpa using hi)]
    by_cases c1 : i = off + k
    · subst c1
      rw [if_neg (by omega), if_pos (by simp)]
      simp [Array.getElem?_setIfInBounds, hi]
    · by_cases c2 : off + k ≤ i ∧ i < off + k + (x :: l).length
      · rw [if_pos (by simp at c2; omega), if_pos c2]
        rw [show i - (off + k) = (i - (off + (k + 1))) + 1 by omega, List.getElem?_cons_succ]
      · rw [if_neg (by simp at c2 ⊢; omega), if_neg c2]
        simp [Array.getElem?_setIfInBounds, Ne.symm c1]

theorem fillV_run (place : Nat → Option (Nat × Nat)) : ∀ (ps : List (Nat × Value)) (qs : List (Nat × V)) (cells : List V) (c : Array Value) (out : List V), RL T G cells c → ps.length = qs.length →
    (∀ (i : Nat) (p : Nat × Value) (q : Nat × V), ps[i]? = some p → qs[i]? = some q → R T G q.2 p.2 ∧ place p.1 = some (q.1, q.2.cells.length)) →
    fillV cells qs = some out → ∃ c', Instr.fill place c ps = some c' ∧ RL T G out c'
  | [], qs, cells, c, out, hR, hl, hp, e => by
    cases qs with
    | cons _ _ => simp at hl
    | nil => simp [fillV] at e; subst e; exact ⟨c, rfl, hR⟩
  | p :: ps, qs, cells, c, out, hR, hl, hp, e => by
    cases qs with
    | nil => simp at hl
    | cons q qs =>
      obtain ⟨i, rv⟩ := p
      obtain ⟨off, v⟩ := q
      obtain ⟨h1, h2⟩ := hp 0 _ _ rfl rfl
      simp only at h1 h2
      simp only [fillV] at e
      split at e
      · rename_i hc
        obtain ⟨k1, k2, k3⟩ := h1.cells hc.2
        obtain ⟨r1, r2, r3⟩ := hR
        simp only [Instr.fill, h2]
        rw [if_neg (by simp [k1]; omega)]
        obtain ⟨z1, z2⟩ := zipFold off rv.cells.toList 0 c
        have hz : rv.cells.zipIdx.foldl (fun cs (x : Value × Nat) => cs.setIfInBounds (off + x.2) x.1) c = (rv.cells.toList.zipIdx 0).foldl (fun cs (x : Value × Nat) => cs.setIfInBounds (off + x.2) x.1) c := by
          rw [← Array.foldl_toList]; simp
        have e2 : rv.cells.zipIdx.foldl (fun cs x => match x with | (c, j) => cs.setIfInBounds (off + j) c) c = (rv.cells.toList.zipIdx 0).foldl (fun cs (x : Value × Nat) => cs.setIfInBounds (off + x.2) x.1) c := hz
        rw [e2]
        refine fillV_run place ps qs _ _ out ?_ (by simpa using hl) (fun i p q hp' hq' => hp (i + 1) p q (by simpa using hp') (by simpa using hq')) e
        generalize (rv.cells.toList.zipIdx 0).foldl (fun cs (x : Value × Nat) => cs.setIfInBounds (off + x.2) x.1) c = c2 at z1 z2
        have hlen : (cells.take off ++ v.cells ++ cells.drop (off + v.cells.length)).length = cells.length := by simp; omega
        refine ⟨by rw [hlen, r1, z1], fun j x rx hx hrx => ?_, fun j rx hrx => ?_⟩
        · have hj : j < c.size := by
            rw [← r1, ← hlen]
            exact (List.getElem?_eq_some_iff.1 hx).1
          rw [z2 j hj] at hrx
          simp only [Nat.add_zero, Array.length_toList] at hrx
          by_cases c1 : j < off
          · rw [if_neg (by omega)] at hrx
            rw [List.append_assoc, List.getElem?_append_left (by simp; omega), List.getElem?_take, if_pos c1] at hx
            exact r2 j x rx hx hrx
          · by_cases c3 : j < off + v.cells.length
            · rw [if_pos (by omega)] at hrx
              rw [List.append_assoc, List.getElem?_append_right (by simp; omega), List.getElem?_append_left (by simp; omega)] at hx
              have : (List.take off cells).length = off := by simp; omega
              rw [this] at hx
              exact k2 (j - off) x rx hx (by simpa using hrx)
            · rw [if_neg (by omega)] at hrx
              rw [List.getElem?_append_right (by simp; omega), List.getElem?_drop] at hx
              refine r2 j x rx ?_ hrx
              rw [← hx]
              congr 1
              simp
              omega
        · have hj : j < c.size := by
            rw [← z1]
            rcases Nat.lt_or_ge j c2.size with h | h
            · exact h
            · rw [Array.getElem?_eq_none h] at hrx; simp at hrx
          rw [z2 j hj] at hrx
          split at hrx
          · exact k3 _ rx (by simpa using hrx)
          · exact r3 j rx hrx
      · exact absurd e (by simp)

theorem gAt_cell (hi : HInv T G lo h w) {t : Tag} {b off : Nat} {v : Value} (e : gAt G t b off = some v) : w.cell? ⟨b, off, none⟩ = some v := by
  cases t <;> first | exact hi.gp _ _ _ e | exact hi.gb _ _ _ e

theorem bytesOf_get : ∀ (es : List V) (l : List UInt8), bytesOf es = some l → es.length = l.length ∧ ∀ (i : Nat) (b : UInt8), l[i]? = some b → ∃ n : Int, es[i]? = some (V.int .u8 n) ∧ b = UInt8.ofNat n.toNat
  | [], l, e => by simp [bytesOf] at e; subst e; simp
  | x :: es, l, e => by
    unfold bytesOf at e
    split at e
    · rename_i h; exact absurd h (by simp)
    · rename_i n l' h
      simp only [List.cons.injEq] at h
      obtain ⟨rfl, rfl⟩ := h
      simp only [Option.map_eq_some_iff] at e
      obtain ⟨l'', h1, rfl⟩ := e
      obtain ⟨i1, i2⟩ := bytesOf_get _ _ h1
      refine ⟨by simp [i1], fun i b hb => ?_⟩
      cases i with
      | zero => simp at hb; subst hb; exact ⟨n, by simp⟩
      | succ i => simpa using i2 i b (by simpa using hb)
    · exact absurd e (by simp)

theorem push_fold : ∀ (ns : List Int) (s : ByteArray), (ns.foldl (fun r n => r.push (UInt8.ofNat n.toNat)) s).data.toList = s.data.toList ++ ns.map fun n => UInt8.ofNat n.toNat
  | [], s => by simp
  | n :: ns, s => by
    simp only [List.foldl_cons, push_fold ns, List.map_cons]
    simp [ByteArray.push]

theorem b2s_run (hi : HInv T G lo h w) {es : List V} {tg : Tag} {l : List UInt8} (e : bytesOf es = some l) {rx : Value} (hx : R T G (.sl 1 es tg) rx) :
    ∃ s : ByteArray, (Conv.bytesToString rx).run P w = .ok (.string s) w ∧ s.data.toList = l := by
  obtain ⟨a, cap, b, o, f, rfl, hc, htg, ha, hz, hg, hR, ho⟩ := hx.sl_inv
  obtain ⟨g1, g2⟩ := bytesOf_get es l e
  by_cases hne : es = []
  · subst hne
    have : l = [] := by simpa using g1.symm
    subst this
    cases a with
    | none => exact ⟨.empty, by simp [Conv.bytesToString], rfl⟩
    | some a => exact ⟨.empty, by simp [Conv.bytesToString, loadCells, loadCellsFrom], rfl⟩
  · rw [ha hne]
    let ns : List Int := es.map fun v => match v with | .int _ n => n | _ => 0
    have hns : ∀ i, i < es.length → ∃ n : Int, es[i]? = some (V.int .u8 n) ∧ l[i]? = some (UInt8.ofNat n.toNat) ∧ ns[i]? = some n := by
      intro i hi
      have hb : l[i]? = some l[i] := List.getElem?_eq_getElem (by omega)
      obtain ⟨n, h1, h2⟩ := g2 i _ hb
      exact ⟨n, h1, by rw [hb, h2], by simp [ns, h1]⟩
    have hl : (loadCells ⟨b, o, none⟩ es.length).run P w = .ok (ns.map (Value.int .u8)).toArray w := by
      have hlen : (ns.map (Value.int .u8)).length = es.length := by simp [ns]
      rw [← hlen]
      refine run_loadCells_list w _ _ fun j v hj => ?_
      rw [add_spot]
      have hj' : j < es.length := by rw [← hlen]; exact (List.getElem?_eq_some_iff.1 hj).1
      obtain ⟨n, h1, h2, h3⟩ := hns j hj'
      have hv : v = .int .u8 n := by rw [List.getElem?_map, h3] at hj; simpa using hj.symm
      have hcell := gAt_cell hi (hg j _ 0 _ h1 rfl)
      have hrel := (hR j _ 0 _ h1 rfl).int_inv
      rw [hrel] at hcell
      rw [hv, show o + j = o + j * 1 + 0 by omega]
      exact hcell
    refine ⟨_, run_bytesToString w _ _ _ ns hl, ?_⟩
    rw [push_fold, show ByteArray.empty.data.toList = [] from rfl, List.nil_append]
    have hnl : ns.length = es.length := by simp [ns]
    apply List.ext_getElem?
    intro i
    by_cases hlt : i < es.length
    · obtain ⟨n, h1, h2, h3⟩ := hns i hlt
      rw [h2, List.getElem?_map, h3]; rfl
    · rw [List.getElem?_eq_none (by rw [List.length_map]; omega), List.getElem?_eq_none (by omega)]


theorem tassertV_run {i : Nat} {z : V} {ok : Bool} {x v : V} {rx : Value} (e : tassertV i z ok x = some v) (hx : R T G x rx) {t xt : TypeId} (inj : ∀ i j t, T.tid i = some t → T.tid j = some t → i = j) (hi : T.tid i = some t)
    (ht : isKind P (fun d => !isIface d) t = true) (hz : zeroIs P t z = true) : ∃ rv, (Instr.typeAssert rx xt t ok).run P w = .ok rv w ∧ R T G v rv := by
  obtain ⟨d, hd, hk⟩ := kind_of ht
  unfold zeroIs at hz
  cases hzv : (P.info? t).bind (·.zero) with
  | none => simp [hzv] at hz
  | some zv =>
    simp only [hzv] at hz
    have hzR : R T G z zv := valIs_R hz
    have tt : ∀ {a b : V} {ra rb : Value}, R T G a ra → R T G b rb → R T G (.tup [a, b]) (.tuple #[ra, rb]) := by
      intro a b ra rb h1 h2
      refine .tup _ _ rfl fun i v rv e1 e2 => ?_
      match i with
      | 0 => simp at e1 e2; subst e1; subst e2; exact h1
      | 1 => simp at e1 e2; subst e1; subst e2; exact h2
      | i + 2 => simp at e1
    have hrun : ∀ v', (Instr.typeAssert (.iface t v') xt t ok).run P w = .ok (if ok then .tuple #[v', .bool true] else v') w := by
      intro v'
      unfold Instr.typeAssert
      simp only [Sem.run_bind, run_und hd, Result.andThen_ok]
      cases d <;> simp [isIface] at hk <;> simp <;> cases ok <;> rfl
    have hfail : ∀ u v', u ≠ t → ok = true → (Instr.typeAssert (.iface u v') xt t ok).run P w = .ok (.tuple #[zv, .bool false]) w := by
      intro u v' hu hok
      unfold Instr.typeAssert
      simp only [Sem.run_bind, run_und hd, Result.andThen_ok]
      subst hok
      cases d <;> simp [isIface] at hk <;> simp [hu, run_zero hzv]
    have hfail' : ok = true → (Instr.typeAssert .nilIface xt t ok).run P w = .ok (.tuple #[zv, .bool false]) w := by
      intro hok
      unfold Instr.typeAssert
      simp only [Sem.run_bind, run_und hd, Result.andThen_ok]
      subst hok
      cases d <;> simp [isIface] at hk <;> simp [run_zero hzv]
    unfold tassertV at e
    split at e
    · obtain ⟨tid, rv, rfl, h1, h2⟩ := hx.iface_inv
      split at e
      · rename_i hti
        subst hti
        simp only [Option.some.injEq] at e; subst e
        rw [hi] at h1
        simp only [Option.some.injEq] at h1; subst h1
        refine ⟨_, hrun rv, ?_⟩
        cases ok
        · exact h2
        · exact tt h2 (.bool true)
      · rename_i hti
        split at e
        · rename_i hok
          simp only [Option.some.injEq] at e; subst e
          exact ⟨_, hfail tid rv (fun hh => hti (inj _ _ _ (hh ▸ h1) hi)) hok, tt hzR (.bool false)⟩
        · exact absurd e (by simp)
    · cases hx
      split at e
      · rename_i hok
        simp only [Option.some.injEq] at e; subst e
        exact ⟨_, hfail' hok, tt hzR (.bool false)⟩
      · exact absurd e (by simp)
    · exact absurd e (by simp)

theorem chkOpds_R {fr : Fr} {a : Act} (hf : FInv T G fr a.tmps) : ∀ (l : List Operand) (r : List VOpd), chkOpds T l r = true →
    (r.map (opd fr)).length = (l.map a.eval).length ∧ ∀ (i : Nat) (v : V) (rv : Value), (r.map (opd fr))[i]? = some v → (l.map a.eval)[i]? = some rv → R T G v rv
  | [], [], _ => ⟨rfl, by simp⟩
  | [], _ :: _, h => by simp [chkOpds] at h
  | _ :: _, [], h => by simp [chkOpds] at h
  | x :: l, y :: r, h => by
    simp only [chkOpds, Bool.and_eq_true] at h
    obtain ⟨h1, h2⟩ := chkOpds_R hf l r h.2
    refine ⟨by simpa using h1, fun i v rv e1 e2 => ?_⟩
    cases i with
    | zero => simp at e1 e2; subst e1; subst e2; exact chkOpd_R hf h.1
    | succ i => exact h2 i v rv (by simpa using e1) (by simpa using e2)

theorem fold_run (isMax : Bool) {k : IntKind} : ∀ (vs : List V) (rs : List Value) (a : Int) (v : V), vs.length = rs.length → (∀ (i : Nat) (v : V) (rv : Value), vs[i]? = some v → rs[i]? = some rv → R T G v rv) →
    foldV.go (if isMax then fun a b => if b > a then b else a else fun a b => if b < a then b else a) k a vs = some v →
    ∃ rv, (rs.foldlM (if isMax then Builtin.max2 else Builtin.min2) (.int k a)).run P w = .ok rv w ∧ R T G v rv
  | [], rs, a, v, hl, hR, e => by
    cases rs with
    | cons _ _ => simp at hl
    | nil => simp [foldV.go] at e; subst e; exact ⟨_, rfl, .int _ _⟩
  | x :: vs, rs, a, v, hl, hR, e => by
    cases rs with
    | nil => simp at hl
    | cons r rs =>
      have h0 := hR 0 x r rfl rfl
      unfold foldV.go at e
      split at e
      · rename_i hh; exact absurd hh (by simp)
      · rename_i k' b l hh
        simp only [List.cons.injEq] at hh
        obtain ⟨rfl, rfl⟩ := hh
        obtain rfl := h0.int_inv
        split at e
        · rename_i hk
          subst hk
          have ih := fold_run (k := k) isMax vs rs _ v (by simpa using hl) (fun i v rv h1 h2 => hR (i + 1) v rv (by simpa using h1) (by simpa using h2)) e
          obtain ⟨rv, h1, h2⟩ := ih
          refine ⟨rv, ?_, h2⟩
          rw [List.foldlM_cons]
          cases isMax
          · simpa [Builtin.min2] using h1
          · simpa [Builtin.max2] using h1
        · exact absurd e (by simp)
      · exact absurd e (by simp)

theorem foldV_run (isMax : Bool) {vs : List V} {rs : List Value} {v : V} (hl : vs.length = rs.length) (hR : ∀ (i : Nat) (v : V) (rv : Value), vs[i]? = some v → rs[i]? = some rv → R T G v rv)
    (e : foldV (if isMax then fun a b => if b > a then b else a else fun a b => if b < a then b else a) vs = some v) (ts : Array TypeId) (t : TypeId) :
    ∃ rv, (if isMax then Builtin.max_ ts t rs.toArray else Builtin.min_ ts t rs.toArray).run P w = .ok rv w ∧ R T G v rv := by
  unfold foldV at e
  split at e
  · exact absurd e (by simp)
  · rename_i k a r
    cases rs with
    | nil => simp at hl
    | cons q rs =>
      obtain rfl := (hR 0 _ q rfl rfl).int_inv
      obtain ⟨rv, h1, h2⟩ := fold_run (P := P) (w := w) isMax r rs a v (by simpa using hl) (fun i v rv h1 h2 => hR (i + 1) v rv (by simpa using h1) (by simpa using h2)) e
      refine ⟨rv, ?_, h2⟩
      cases isMax
      · simpa [Builtin.min_] using h1
      · simpa [Builtin.max_] using h1
  · exact absurd e (by simp)

end
end Go.VE

/- Steps of memory: a new block, a store into a block of the call's own. -/
namespace Go.VE
set_option linter.unusedVariables false
set_option linter.unnecessarySimpa false
set_option linter.unusedSimpArgs false

section
variable {P : Program} {T : Tbl} {G : Gh} {w w' : World} {lo : Nat} {h : Heap}

theorem cell_block {w w' : World} {b off : Nat} (e : w'.heap[b]? = w.heap[b]?) : w'.cell? ⟨b, off, none⟩ = w.cell? ⟨b, off, none⟩ := by
  simp only [World.cell?, e]

theorem cell_lt {w : World} {b off : Nat} {v : Value} (e : w.cell? ⟨b, off, none⟩ = some v) : b < w.heap.size := by
  rcases Nat.lt_or_ge b w.heap.size with h | h
  · exact h
  · simp [World.cell?, Array.getElem?_eq_none h] at e

theorem HInv.gp_lt (hi : HInv T G lo h w) {b off : Nat} {v : Value} (e : G.Gp b off = some v) : b < w.heap.size := cell_lt (hi.gp _ _ _ e)
theorem HInv.gb_lt (hi : HInv T G lo h w) {b off : Nat} {v : Value} (e : G.Gb b off = some v) : b < w.heap.size := cell_lt (hi.gb _ _ _ e)

theorem heap_lt {w : World} {b : Nat} {o : Obj} (e : w.heap[b]? = some o) : b < w.heap.size := by
  rcases Nat.lt_or_ge b w.heap.size with h | h
  · exact h
  · rw [Array.getElem?_eq_none h] at e; simp at e

theorem HInv.live_lt (hi : HInv T G lo h w) {B : Nat} {es : List V} {g : Img} (e : h[B]? = some (.arr es)) (hs : G.sg B es.length = some g) : g.b < w.heap.size := by
  obtain ⟨c, t, fz, h1, _⟩ := hi.live B es g e hs
  exact heap_lt h1

theorem HInv.iter_lt (hi : HInv T G lo h w) {B : Nat} {s : List UInt8} {pos r : Nat} (e : h[B]? = some (.iter s pos)) (hs : G.io B = some r) : r < w.heap.size := by
  obtain ⟨s', _, h1⟩ := hi.iter B s pos r e hs
  exact heap_lt h1

theorem HInv.own_lt (hi : HInv T G lo h w) {b : Nat} (ho : Own G lo h b) : b < w.heap.size := by
  obtain ⟨B, _, ⟨es, g, h1, h2, rfl⟩ | ⟨s, pos, h1, h2⟩⟩ := ho
  · exact hi.live_lt h1 h2
  · exact hi.iter_lt h1 h2

/-- The world may grow at its end. -/
theorem HInv.grow (hi : HInv T G lo h w) (hs : w.heap.size ≤ w'.heap.size) (hk : ∀ b, b < w.heap.size → w'.heap[b]? = w.heap[b]?) : HInv T G lo h w' where
  gp b off v e := by rw [cell_block (hk b (hi.gp_lt e))]; exact hi.gp _ _ _ e
  gb b off v e := by rw [cell_block (hk b (hi.gb_lt e))]; exact hi.gb _ _ _ e
  llo := hi.llo
  nle := hi.nle
  sdom := hi.sdom
  idom := hi.idom
  eple := hi.eple
  live B es g e hg := by
    obtain ⟨c, t, fz, h1, h2⟩ := hi.live B es g e hg
    exact ⟨c, t, fz, by rw [hk _ (heap_lt h1)]; exact h1, h2⟩
  iter B s pos r e hr := by
    obtain ⟨s', h1, h2⟩ := hi.iter B s pos r e hr
    exact ⟨s', h1, by rw [hk _ (heap_lt h2)]; exact h2⟩
  own := hi.own
  iown := hi.iown

theorem Stp.grow (hos : w'.os = w.os) (ht : w'.tape = w.tape) (ho : w'.output = w.output) (hs : w.heap.size ≤ w'.heap.size) (hk : ∀ b, b < w.heap.size → w'.heap[b]? = w.heap[b]?) :
    Stp lo G h w G h w' :=
  ⟨G.le_refl, hos, ht, ho, hs, fun b hb hn => ⟨hk b hb, fun _ => rfl, hn⟩, rfl, fun _ _ => ⟨fun _ => rfl, rfl⟩, .same fun _ _ => rfl⟩

/-- More cells are known to stay. -/
def Gh.addP (G : Gh) (n : Nat) (c : Nat → Nat → Option Value) : Gh := { G with Gp := fun b off => if b < n then G.Gp b off else c b off }

/-- Blocks from n on that nobody may write become cells that stay for ever. -/
theorem HInv.addP (hi : HInv T G lo h w) {n : Nat} {c : Nat → Nat → Option Value} (hc : ∀ b off v, n ≤ b → c b off = some v → w.cell? ⟨b, off, none⟩ = some v)
    (hg : ∀ b off v, G.Gp b off = some v → b < n) (hown : ∀ b, Own G lo h b → b < n) : HInv T (G.addP n c) lo h w ∧ G.le (G.addP n c) := by
  have hle : G.le (G.addP n c) := ⟨fun b off v e => by simp only [Gh.addP]; rw [if_pos (hg b off v e)]; exact e, fun _ _ _ e => e, fun _ _ _ e => e, fun _ _ e => e, Nat.le_refl _⟩
  refine ⟨⟨fun b off v e => ?_, hi.gb, hi.llo, hi.nle, hi.sdom, hi.idom, hi.eple, fun B es g e hs => ?_, hi.iter, fun B es g hl e hs => ?_, hi.iown⟩, hle⟩
  · simp only [Gh.addP] at e
    split at e
    · exact hi.gp _ _ _ e
    · exact hc b off v (by omega) e
  · obtain ⟨c', t, fz, h1, h2, h3, h4, h6⟩ := hi.live B es g e hs
    exact ⟨c', t, fz, h1, h2, h3, h4, h6.mono hle⟩
  · obtain ⟨h1, h2⟩ := hi.own B es g hl e hs
    refine ⟨fun off => ⟨?_, (h1 off).2⟩, h2⟩
    simp only [Gh.addP]
    rw [if_pos (hown g.b ⟨B, hl, .inl ⟨es, g, e, hs, rfl⟩⟩)]
    exact (h1 off).1

theorem Stp.addP (hi : HInv T G lo h w) {n : Nat} {c : Nat → Nat → Option Value} (hn : w.heap.size ≤ n) (hg : ∀ b off v, G.Gp b off = some v → b < n) : Stp lo G h w (G.addP n c) h w :=
  ⟨⟨fun b off v e => by simp only [Gh.addP]; rw [if_pos (hg b off v e)]; exact e, fun _ _ _ e => e, fun _ _ _ e => e, fun _ _ e => e, Nat.le_refl _⟩, rfl, rfl, rfl, Nat.le_refl _,
   fun b hb hno => ⟨rfl, fun off => by simp only [Gh.addP]; rw [if_pos (by omega)], fun ⟨B, hl, hx⟩ => hno ⟨B, hl, hx⟩⟩, rfl, fun _ _ => ⟨fun _ => rfl, rfl⟩, .same fun _ _ => rfl⟩

/-- A new block of the model whose cells stay for ever. -/
theorem new_perm (hi : HInv T G lo h w) (hs : w'.heap.size = w.heap.size + 1) (hk : ∀ b, b < w.heap.size → w'.heap[b]? = w.heap[b]?) (hos : w'.os = w.os) (ht : w'.tape = w.tape) (ho : w'.output = w.output) :
    ∃ G', HInv T G' lo h w' ∧ Stp lo G h w G' h w' ∧ ∀ off v, w'.cell? ⟨w.heap.size, off, none⟩ = some v → G'.Gp w.heap.size off = some v := by
  have hi' := hi.grow (w' := w') (by omega) hk
  have h1 := hi'.addP (n := w.heap.size) (c := fun b off => w'.cell? ⟨b, off, none⟩) (fun b off v _ e => e) (fun b off v e => hi.gp_lt e) (fun b hb => hi.own_lt hb)
  refine ⟨_, h1.1, ?_, fun off v e => ?_⟩
  · refine ⟨h1.2, hos, ht, ho, by omega, fun b hb hno => ⟨hk b hb, fun off => ?_, fun ⟨B, hl, hx⟩ => hno ⟨B, hl, hx⟩⟩, rfl, fun _ _ => ⟨fun _ => rfl, rfl⟩, .same fun _ _ => rfl⟩
    simp only [Gh.addP]; rw [if_pos hb]
  · simp only [Gh.addP]; rw [if_neg (Nat.lt_irrefl _)]; exact e

/-- A new block of the evaluator's, for a new block of the model's. -/
theorem new_block (hi : HInv T G lo h w) (hs : w'.heap.size = w.heap.size + 1) (hk : ∀ b, b < w.heap.size → w'.heap[b]? = w.heap[b]?) (hos : w'.os = w.os) (ht : w'.tape = w.tape) (ho : w'.output = w.output)
    {es : List V} {z : Nat} {c : Array Value} {t : TypeId} {fz : Nat × Nat} (hb : w'.heap[w.heap.size]? = some (.cells c t fz)) (hfz : ∀ off, off < c.size → ¬ (fz.1 ≤ off ∧ off < fz.2)) 
    (hm : es.length * z ≤ c.size) (hold : Holds T G c 0 z es) :
    ∃ G', HInv T G' lo (h ++ [.arr es]) w' ∧ Stp lo G h w G' (h ++ [.arr es]) w' ∧ G'.sg h.length es.length = some ⟨w.heap.size, 0, z, c.size⟩ ∧ h.length < G'.n := by
  let g : Img := ⟨w.heap.size, 0, z, c.size⟩
  have hsd : ∀ B ep x, G.sg B ep = some x → B < h.length := fun B ep x e => Nat.lt_of_lt_of_le (hi.sdom _ _ _ e) hi.nle
  let G' : Gh := { G with sg := fun B ep => if B = h.length ∧ ep = es.length then some g else G.sg B ep, n := h.length + 1 }
  have hle : G.le G' := ⟨fun _ _ _ e => e, fun _ _ _ e => e, fun B ep x e => by
    have : B < h.length := hsd _ _ _ e
    show (if B = h.length ∧ ep = es.length then some g else G.sg B ep) = some x
    rw [if_neg (by omega)]; exact e, fun _ _ e => e, by have := hi.nle; show G.n ≤ h.length + 1; omega⟩
  have hget : ∀ B b, (h ++ [Blk.arr es])[B]? = some b → (B < h.length ∧ h[B]? = some b) ∨ (B = h.length ∧ b = .arr es) := by
    intro B b e
    rcases Nat.lt_trichotomy B h.length with hl | hl | hl
    · rw [List.getElem?_append_left hl] at e; exact .inl ⟨hl, e⟩
    · subst hl; rw [List.getElem?_append_right (Nat.le_refl _)] at e; simp at e; exact .inr ⟨rfl, e.symm⟩
    · rw [List.getElem?_eq_none (by simp; omega)] at e; simp at e
  have hsg : ∀ B ep x, B < h.length → G'.sg B ep = some x → G.sg B ep = some x := by
    intro B ep x hB e
    have : (if B = h.length ∧ ep = es.length then some g else G.sg B ep) = some x := e
    rwa [if_neg (by omega)] at this
  have hsgn : ∀ ep x, G'.sg h.length ep = some x → x = g := by
    intro ep x e
    have e' : (if h.length = h.length ∧ ep = es.length then some g else G.sg h.length ep) = some x := e
    split at e'
    · simpa using e'.symm
    · exact absurd (hsd _ _ _ e') (Nat.lt_irrefl _)
  have hi' := hi.grow (w' := w') (by omega) hk
  refine ⟨G', ⟨hi'.gp, hi'.gb, by have := hi.llo; simp; omega, by simp [G'], fun B ep x e => ?_, fun B r e => ?_, fun B es' ep x e hs' => ?_, fun B es' x e hs' => ?_, fun B s pos r e hr => ?_, fun B es' x hl e hs' => ?_, fun B s pos r hl e hr B' s' pos' r' hne e' hr' => ?_⟩, ⟨hle, hos, ht, ho, by omega, fun b hbl hno => ⟨hk b hbl, fun _ => rfl, ?_⟩, rfl, fun B hB => ⟨fun ep => if_neg (by have := hi.llo; omega), rfl⟩, .push fun B ep hB => if_neg (by omega)⟩, ?_, Nat.lt_succ_self _⟩
  · show B < h.length + 1
    have e' : (if B = h.length ∧ ep = es.length then some g else G.sg B ep) = some x := e
    split at e'
    · omega
    · have := hsd _ _ _ e'; omega
  · have := hi.idom _ _ e; have := hi.nle; show B < h.length + 1; omega
  · rcases hget B _ e with ⟨hB, e'⟩ | ⟨rfl, e'⟩
    · exact hi.eple B es' ep x e' (hsg _ _ _ hB hs')
    · cases e'
      have e2 : (if h.length = h.length ∧ ep = es.length then some g else G.sg h.length ep) = some x := hs'
      split at e2
      · omega
      · exact absurd (hsd _ _ _ e2) (Nat.lt_irrefl _)
  · rcases hget B _ e with ⟨hB, e'⟩ | ⟨rfl, e'⟩
    · obtain ⟨c', t', fz', h1, h2, h3, h4, h6⟩ := hi'.live B es' x e' (hsg _ _ _ hB hs')
      exact ⟨c', t', fz', h1, h2, h3, h4, h6.mono hle⟩
    · obtain rfl := hsgn _ _ hs'
      cases e'
      exact ⟨c, t, fz, hb, rfl, hfz, by simpa [g] using hm, hold.mono hle⟩
  · rcases hget B _ e with ⟨hB, e'⟩ | ⟨rfl, e'⟩
    · exact hi'.iter B s pos r e' hr
    · cases e'
  · have key : ∀ B' es'' x', (h ++ [Blk.arr es])[B']? = some (.arr es'') → G'.sg B' es''.length = some x' → (B' < h.length ∧ h[B']? = some (.arr es'') ∧ G.sg B' es''.length = some x' ∧ x'.b < w.heap.size) ∨ (B' = h.length ∧ x' = g) := by
      intro B' es'' x' e1 e2
      rcases hget B' _ e1 with ⟨hB, e'⟩ | ⟨rfl, e'⟩
      · have := hsg _ _ _ hB e2
        exact .inl ⟨hB, e', this, hi.live_lt e' this⟩
      · exact .inr ⟨rfl, hsgn _ _ e2⟩
    rcases key B es' x e hs' with ⟨hB, e1, e2, e3⟩ | ⟨rfl, rfl⟩
    · obtain ⟨h1, h2⟩ := hi'.own B es' x hl e1 e2
      refine ⟨h1, fun B' es'' g' hne e1' e2' => ?_⟩
      rcases key B' es'' g' e1' e2' with ⟨hB', k1, k2, k3⟩ | ⟨rfl, rfl⟩
      · exact h2 B' es'' g' hne k1 k2
      · show w.heap.size ≠ x.b; omega
    · refine ⟨fun off => ⟨?_, ?_⟩, fun B' es'' g' hne e1' e2' => ?_⟩
      · show G.Gp w.heap.size off = none
        cases hgp : G.Gp w.heap.size off with
        | none => rfl
        | some v => exact absurd (hi.gp_lt hgp) (Nat.lt_irrefl _)
      · show G.Gb w.heap.size off = none
        cases hgp : G.Gb w.heap.size off with
        | none => rfl
        | some v => exact absurd (hi.gb_lt hgp) (Nat.lt_irrefl _)
      · rcases key B' es'' g' e1' e2' with ⟨hB', k1, k2, k3⟩ | ⟨rfl, rfl⟩
        · show g'.b ≠ w.heap.size; omega
        · exact absurd rfl hne
  · rcases hget B _ e with ⟨hB, e1⟩ | ⟨rfl, e1⟩
    · rcases hget B' _ e' with ⟨hB', e1'⟩ | ⟨rfl, e1'⟩
      · exact hi'.iown B s pos r hl e1 hr B' s' pos' r' hne e1' hr'
      · cases e1'
    · cases e1
  · rintro ⟨B, hl, ⟨es', x, e, hs', rfl⟩ | ⟨s, pos, e, hr⟩⟩
    · rcases hget B _ e with ⟨hB, e'⟩ | ⟨rfl, e'⟩
      · exact hno ⟨B, hl, .inl ⟨es', x, e', hsg _ _ _ hB hs', rfl⟩⟩
      · obtain rfl := hsgn _ _ hs'
        exact absurd hbl (Nat.lt_irrefl _)
    · rcases hget B _ e with ⟨hB, e'⟩ | ⟨rfl, e'⟩
      · exact hno ⟨B, hl, .inr ⟨s, pos, e', hr⟩⟩
      · cases e'
  · show (if h.length = h.length ∧ es.length = es.length then some g else G.sg h.length es.length) = _
    rw [if_pos ⟨rfl, rfl⟩]


theorem get_set {h : Heap} {B B' : Nat} {x b : Blk} (e : (h.set B x)[B']? = some b) : (B' = B ∧ b = x ∧ B < h.length) ∨ (B' ≠ B ∧ h[B']? = some b) := by
  rw [List.getElem?_set] at e
  split at e
  · rename_i hB
    subst hB
    split at e
    · rename_i hl; simp at e; exact .inl ⟨rfl, e.symm, hl⟩
    · simp at e
  · rename_i hB
    exact .inr ⟨fun hh => hB hh.symm, e⟩

/-- Block B, owned, gets new contents: in its place (the block of the model is written), or in a new block of the model. -/
theorem set_block (hi : HInv T G lo h w) {B : Nat} {es es' : List V} (hlo : lo ≤ B) (hB : h[B]? = some (.arr es)) {g : Img}
    (hsz : w.heap.size ≤ w'.heap.size) (hos : w'.os = w.os) (ht : w'.tape = w.tape) (ho : w'.output = w.output)
    (hk : ∀ b, b < w.heap.size → b ≠ g.b → w'.heap[b]? = w.heap[b]?)
    (hlen : es.length ≤ es'.length)
    (hg : (G.sg B es.length = some g) ∨ (g.b = w.heap.size ∧ es.length < es'.length))
    {c : Array Value} {t : TypeId} {fz : Nat × Nat} (hb : w'.heap[g.b]? = some (.cells c t fz)) (hc : c.size = g.m) (hfz : ∀ off, off < c.size → ¬ (fz.1 ≤ off ∧ off < fz.2))
    (hm : g.o + es'.length * g.z ≤ g.m) (hold : Holds T G c g.o g.z es') :
    ∃ G', HInv T G' lo (h.set B (.arr es')) w' ∧ Stp lo G h w G' (h.set B (.arr es')) w' ∧ G'.sg B es'.length = some g ∧ B < G'.n := by
  have hBl : B < h.length := (List.getElem?_eq_some_iff.1 hB).1
  let G' : Gh := { G with sg := fun B' ep => if B' = B ∧ ep = es'.length then some g else G.sg B' ep, n := max G.n (B + 1) }
  have hsgd : ∀ B' ep, G'.sg B' ep = if B' = B ∧ ep = es'.length then some g else G.sg B' ep := fun _ _ => rfl
  have hle : G.le G' := by
    refine ⟨fun _ _ _ e => e, fun _ _ _ e => e, fun B' ep x e => ?_, fun _ _ e => e, Nat.le_max_left _ _⟩
    rw [hsgd]
    split
    · rename_i hh
      obtain ⟨rfl, rfl⟩ := hh
      have := hi.eple _ _ _ _ hB e
      rcases hg with hg | ⟨_, hg⟩
      · have hl : es'.length = es.length := by omega
        rw [hl, hg] at e; exact e
      · omega
    · exact e
  -- where another live block lies
  have oth : ∀ B' es'' x, B' ≠ B → h[B']? = some (.arr es'') → G.sg B' es''.length = some x → x.b ≠ g.b ∧ x.b < w.heap.size := by
    intro B' es'' x hne e hs
    have hlt := hi.live_lt e hs
    refine ⟨?_, hlt⟩
    rcases hg with hg | ⟨hg, _⟩
    · exact (hi.own B es g hlo hB hg).2 B' es'' x hne e hs
    · omega
  have gpn : ∀ off, G.Gp g.b off = none ∧ G.Gb g.b off = none := by
    intro off
    rcases hg with hg | ⟨hg, _⟩
    · exact (hi.own B es g hlo hB hg).1 off
    · constructor
      · cases hgp : G.Gp g.b off with
        | none => rfl
        | some v => have := hi.gp_lt hgp; omega
      · cases hgp : G.Gb g.b off with
        | none => rfl
        | some v => have := hi.gb_lt hgp; omega
  have itn : ∀ B' s pos r, h[B']? = some (.iter s pos) → G.io B' = some r → r ≠ g.b := by
    intro B' s pos r e hr heq
    have hlt := hi.iter_lt e hr
    rcases hg with hg | ⟨hg, _⟩
    · obtain ⟨c', t', fz', h1, _⟩ := hi.live B es g hB hg
      obtain ⟨s', _, h2⟩ := hi.iter B' s pos r e hr
      rw [heq, h1] at h2; cases h2
    · omega
  have set_arr : ∀ B' es'', (h.set B (.arr es'))[B']? = some (.arr es'') → (B' = B ∧ es'' = es') ∨ (B' ≠ B ∧ h[B']? = some (.arr es'')) := by
    intro B' es'' e
    rcases get_set e with ⟨h1, h2, _⟩ | h1
    · cases h2; exact .inl ⟨h1, rfl⟩
    · exact .inr h1
  have set_it : ∀ B' s pos, (h.set B (.arr es'))[B']? = some (.iter s pos) → B' ≠ B ∧ h[B']? = some (.iter s pos) := by
    intro B' s pos e
    rcases get_set e with ⟨h1, h2, _⟩ | h1
    · cases h2
    · exact h1
  refine ⟨G', ⟨fun b off v e => ?_, fun b off v e => ?_, by rw [List.length_set]; exact hi.llo, by rw [List.length_set]; have := hi.nle; show max G.n (B + 1) ≤ h.length; omega, fun B' ep x e => ?_, fun B' r e => ?_, fun B' es'' ep x e hs => ?_, fun B' es'' x e hs => ?_, fun B' s pos r e hr => ?_,
    fun B' es'' x hl e hs => ?_, fun B' s pos r hl e hr B'' s' pos' r' hne e' hr' => ?_⟩, ⟨hle, hos, ht, ho, hsz, fun b hbl hno => ⟨?_, fun _ => rfl, ?_⟩, rfl, fun B' hB' => ⟨fun ep => by rw [hsgd, if_neg (by omega)], rfl⟩, .setArr hB hlen (fun B' ep hne => by rw [hsgd, if_neg (by omega)]) (fun hl => by rcases hg with hg | ⟨_, hg⟩; rw [hg]; rfl; omega)⟩, ?_, by show B < max G.n (B + 1); omega⟩
  · have e' : G.Gp b off = some v := e
    have hne : b ≠ g.b := by rintro rfl; rw [(gpn off).1] at e'; simp at e'
    rw [cell_block (hk b (hi.gp_lt e') hne)]; exact hi.gp _ _ _ e'
  · have e' : G.Gb b off = some v := e
    have hne : b ≠ g.b := by rintro rfl; rw [(gpn off).2] at e'; simp at e'
    rw [cell_block (hk b (hi.gb_lt e') hne)]; exact hi.gb _ _ _ e'
  · rw [hsgd] at e
    show B' < max G.n (B + 1)
    split at e
    · omega
    · have := hi.sdom _ _ _ e; omega
  · have := hi.idom _ _ e; show B' < max G.n (B + 1); omega
  · rw [hsgd] at hs
    rcases set_arr _ _ e with ⟨rfl, rfl⟩ | ⟨hne, e'⟩
    · split at hs
      · omega
      · have := hi.eple _ _ _ _ hB hs; omega
    · rw [if_neg (by omega)] at hs
      exact hi.eple _ _ _ _ e' hs
  · rw [hsgd] at hs
    rcases set_arr _ _ e with ⟨rfl, rfl⟩ | ⟨hne, e'⟩
    · rw [if_pos ⟨rfl, rfl⟩] at hs
      simp only [Option.some.injEq] at hs; subst hs
      exact ⟨c, t, fz, hb, hc, hfz, hm, hold.mono hle⟩
    · rw [if_neg (by omega)] at hs
      obtain ⟨c', t', fz', h1, h2, h3, h4, h6⟩ := hi.live B' es'' x e' hs
      have := oth B' es'' x hne e' hs
      exact ⟨c', t', fz', by rw [hk _ this.2 this.1]; exact h1, h2, h3, h4, h6.mono hle⟩
  · obtain ⟨hne, e'⟩ := set_it _ _ _ e
    obtain ⟨s', h1, h2⟩ := hi.iter B' s pos r e' hr
    exact ⟨s', h1, by rw [hk _ (heap_lt h2) (itn _ _ _ _ e' hr)]; exact h2⟩
  · rw [hsgd] at hs
    rcases set_arr _ _ e with ⟨rfl, rfl⟩ | ⟨hne, e'⟩
    · rw [if_pos ⟨rfl, rfl⟩] at hs
      simp only [Option.some.injEq] at hs; subst hs
      refine ⟨gpn, fun B'' es3 x' hne' e3 hs3 => ?_⟩
      rw [hsgd, if_neg (by omega)] at hs3
      rcases set_arr _ _ e3 with ⟨rfl, rfl⟩ | ⟨_, e3'⟩
      · exact absurd rfl hne'
      · exact (oth B'' es3 x' hne' e3' hs3).1
    · rw [if_neg (by omega)] at hs
      obtain ⟨h1, h2⟩ := hi.own B' es'' x hl e' hs
      refine ⟨h1, fun B'' es3 x' hne' e3 hs3 => ?_⟩
      rw [hsgd] at hs3
      rcases set_arr _ _ e3 with ⟨rfl, rfl⟩ | ⟨hne3, e3'⟩
      · rw [if_pos ⟨rfl, rfl⟩] at hs3
        simp only [Option.some.injEq] at hs3; subst hs3
        exact fun hh => (oth B' es'' x hne e' hs).1 hh.symm
      · rw [if_neg (by omega)] at hs3
        exact h2 B'' es3 x' hne' e3' hs3
  · obtain ⟨hn1, e1⟩ := set_it _ _ _ e
    obtain ⟨hn2, e2⟩ := set_it _ _ _ e'
    exact hi.iown B' s pos r hl e1 hr B'' s' pos' r' hne e2 hr'
  · refine hk b hbl fun hh => ?_
    rcases hg with hg | ⟨hg, _⟩
    · exact hno ⟨B, hlo, .inl ⟨es, g, hB, hg, hh.symm⟩⟩
    · omega
  · rintro ⟨B', hl, ⟨es'', x, e, hs, rfl⟩ | ⟨s, pos, e, hr⟩⟩
    · rw [hsgd] at hs
      rcases set_arr _ _ e with ⟨rfl, rfl⟩ | ⟨hne, e'⟩
      · rw [if_pos ⟨rfl, rfl⟩] at hs
        simp only [Option.some.injEq] at hs; subst hs
        rcases hg with hg | ⟨hg, _⟩
        · exact hno ⟨B', hl, .inl ⟨es, _, hB, hg, rfl⟩⟩
        · omega
      · rw [if_neg (by omega)] at hs
        exact hno ⟨B', hl, .inl ⟨es'', x, e', hs, rfl⟩⟩
    · obtain ⟨hne, e'⟩ := set_it _ _ _ e
      exact hno ⟨B', hl, .inr ⟨s, pos, e', hr⟩⟩
  · rw [hsgd, if_pos ⟨rfl, rfl⟩]

end
end Go.VE

/- Steps of memory, the second half: a block that dies, iterators, the end of a call, the end of a round. -/
namespace Go.VE
set_option linter.unusedVariables false
set_option linter.unnecessarySimpa false
set_option linter.unusedSimpArgs false
open Classical

section
variable {P : Program} {T : Tbl} {G : Gh} {w w' : World} {lo : Nat} {h : Heap}

theorem gap (hi : HInv T G lo h w) {B : Nat} {es : List V} {g : Img} (hlo : lo ≤ B) (hB : h[B]? = some (.arr es)) (hg : G.sg B es.length = some g) (off : Nat) : G.Gp g.b off = none :=
  ((hi.own B es g hlo hB hg).1 off).1

/-- A block of the call's own is given up: its cells stay for ever. -/
theorem kill_block (hi : HInv T G lo h w) {B : Nat} {es : List V} (hlo : lo ≤ B) (hB : h[B]? = some (.arr es)) :
    ∃ G', HInv T G' lo (h.set B .dead) w ∧ Stp lo G h w G' (h.set B .dead) w ∧ ∀ g, G.sg B es.length = some g → ∀ off v, w.cell? ⟨g.b, off, none⟩ = some v → G'.Gp g.b off = some v := by
  have set_arr : ∀ B' es'', (h.set B .dead)[B']? = some (.arr es'') → B' ≠ B ∧ h[B']? = some (.arr es'') := by
    intro B' es'' e
    rcases get_set e with ⟨_, h2, _⟩ | h1
    · cases h2
    · exact h1
  have set_it : ∀ B' s pos, (h.set B .dead)[B']? = some (.iter s pos) → B' ≠ B ∧ h[B']? = some (.iter s pos) := by
    intro B' s pos e
    rcases get_set e with ⟨_, h2, _⟩ | h1
    · cases h2
    · exact h1
  cases hg : G.sg B es.length with
  | none =>
    refine ⟨G, ⟨hi.gp, hi.gb, by rw [List.length_set]; exact hi.llo, by rw [List.length_set]; exact hi.nle, hi.sdom, hi.idom, fun B' es'' ep x e hs => ?_, fun B' es'' x e hs => ?_, fun B' s pos r e hr => ?_, fun B' es'' x hl e hs => ?_,
      fun B' s pos r hl e hr B'' s' pos' r' hne e' hr' => ?_⟩, ⟨G.le_refl, rfl, rfl, rfl, Nat.le_refl _, fun b hb hno => ⟨rfl, fun _ => rfl, ?_⟩, rfl, fun _ _ => ⟨fun _ => rfl, rfl⟩, .other (fun _ => by simp) fun _ _ => rfl⟩, fun g hh => by simp at hh⟩
    · exact hi.eple _ _ _ _ (set_arr _ _ e).2 hs
    · exact hi.live _ _ _ (set_arr _ _ e).2 hs
    · exact hi.iter _ _ _ _ (set_it _ _ _ e).2 hr
    · obtain ⟨h1, h2⟩ := hi.own _ _ _ hl (set_arr _ _ e).2 hs
      exact ⟨h1, fun B'' es3 g' hne e3 hs3 => h2 B'' es3 g' hne (set_arr _ _ e3).2 hs3⟩
    · exact hi.iown B' s pos r hl (set_it _ _ _ e).2 hr B'' s' pos' r' hne (set_it _ _ _ e').2 hr'
    · rintro ⟨B', hl, ⟨es', x, e, hs', hx⟩ | ⟨s, pos, e, hr⟩⟩
      · exact hno ⟨B', hl, .inl ⟨es', x, (set_arr _ _ e).2, hs', hx⟩⟩
      · exact hno ⟨B', hl, .inr ⟨s, pos, (set_it _ _ _ e).2, hr⟩⟩
  | some g =>
    have hown := hi.own B es g hlo hB hg
    let G' : Gh := { G with Gp := fun b off => if b = g.b then w.cell? ⟨b, off, none⟩ else G.Gp b off }
    have hgd : ∀ b off, G'.Gp b off = if b = g.b then w.cell? ⟨b, off, none⟩ else G.Gp b off := fun _ _ => rfl
    have hle : G.le G' := ⟨fun b off v e => by
      rw [hgd]; split
      · rename_i hb; subst hb; rw [(hown.1 off).1] at e; simp at e
      · exact e, fun _ _ _ e => e, fun _ _ _ e => e, fun _ _ e => e, Nat.le_refl _⟩
    refine ⟨G', ⟨fun b off v e => ?_, hi.gb, by rw [List.length_set]; exact hi.llo, by rw [List.length_set]; exact hi.nle, hi.sdom, hi.idom, fun B' es'' ep x e hs => ?_, fun B' es'' x e hs => ?_, fun B' s pos r e hr => ?_, fun B' es'' x hl e hs => ?_,
      fun B' s pos r hl e hr B'' s' pos' r' hne e' hr' => ?_⟩, ⟨hle, rfl, rfl, rfl, Nat.le_refl _, fun b hb hno => ⟨rfl, fun off => ?_, ?_⟩, rfl, fun _ _ => ⟨fun _ => rfl, rfl⟩, .other (fun _ => by simp) fun _ _ => rfl⟩, fun g' hh off v e => ?_⟩
    · rw [hgd] at e
      split at e
      · exact e
      · exact hi.gp _ _ _ e
    · exact hi.eple _ _ _ _ (set_arr _ _ e).2 hs
    · obtain ⟨c', t', fz', h1, h2, h3, h4, h6⟩ := hi.live _ _ _ (set_arr _ _ e).2 hs
      exact ⟨c', t', fz', h1, h2, h3, h4, h6.mono hle⟩
    · exact hi.iter _ _ _ _ (set_it _ _ _ e).2 hr
    · obtain ⟨h1, h2⟩ := hi.own _ _ _ hl (set_arr _ _ e).2 hs
      have hne := hown.2 B' es'' x (set_arr _ _ e).1 (set_arr _ _ e).2 hs
      exact ⟨fun off => ⟨by rw [hgd, if_neg hne]; exact (h1 off).1, (h1 off).2⟩, fun B'' es3 g' hne e3 hs3 => h2 B'' es3 g' hne (set_arr _ _ e3).2 hs3⟩
    · exact hi.iown B' s pos r hl (set_it _ _ _ e).2 hr B'' s' pos' r' hne (set_it _ _ _ e').2 hr'
    · rw [hgd, if_neg]
      rintro rfl
      exact hno ⟨B, hlo, .inl ⟨es, g, hB, hg, rfl⟩⟩
    · rintro ⟨B', hl, ⟨es', x, e, hs', hx⟩ | ⟨s, pos, e, hr⟩⟩
      · exact hno ⟨B', hl, .inl ⟨es', x, (set_arr _ _ e).2, hs', hx⟩⟩
      · exact hno ⟨B', hl, .inr ⟨s, pos, (set_it _ _ _ e).2, hr⟩⟩
    · simp only [Option.some.injEq] at hh; subst hh
      rw [hgd, if_pos rfl]; exact e

/-- A block of the evaluator's for nothing of the model's (yet). -/
theorem new_virtual (hi : HInv T G lo h w) : ∃ G', HInv T G' lo (h ++ [.arr []]) w ∧ Stp lo G h w G' (h ++ [.arr []]) w ∧ h.length < G'.n := by
  let G' : Gh := { G with n := h.length + 1 }
  have hle : G.le G' := ⟨fun _ _ _ e => e, fun _ _ _ e => e, fun _ _ _ e => e, fun _ _ e => e, by have := hi.nle; show G.n ≤ h.length + 1; omega⟩
  have hsd : ∀ B ep x, G.sg B ep = some x → B < h.length := fun B ep x e => Nat.lt_of_lt_of_le (hi.sdom _ _ _ e) hi.nle
  have hid : ∀ B x, G.io B = some x → B < h.length := fun B x e => Nat.lt_of_lt_of_le (hi.idom _ _ e) hi.nle
  have hget : ∀ B b, B < h.length → (h ++ [Blk.arr []])[B]? = some b → h[B]? = some b := by
    intro B b hl e
    rwa [List.getElem?_append_left hl] at e
  refine ⟨G', ⟨hi.gp, hi.gb, by have := hi.llo; simp; omega, by simp [G'], fun B ep x e => ?_, fun B r e => ?_, fun B es' ep x e hs' => ?_, fun B es' x e hs' => ?_, fun B s pos r e hr => ?_, fun B es' x hl e hs' => ?_,
    fun B s pos r hl e hr B' s' pos' r' hne e' hr' => ?_⟩, ⟨hle, rfl, rfl, rfl, Nat.le_refl _, fun b hb hno => ⟨rfl, fun _ => rfl, ?_⟩, rfl, fun _ _ => ⟨fun _ => rfl, rfl⟩, .push fun _ _ _ => rfl⟩, Nat.lt_succ_self _⟩
  · have := hsd _ _ _ e; show B < h.length + 1; omega
  · have := hid _ _ e; show B < h.length + 1; omega
  · exact hi.eple _ _ _ _ (hget _ _ (hsd _ _ _ hs') e) hs'
  · obtain ⟨c', t', fz', h1, h2, h3, h4, h6⟩ := hi.live _ _ _ (hget _ _ (hsd _ _ _ hs') e) hs'
    exact ⟨c', t', fz', h1, h2, h3, h4, h6.mono hle⟩
  · exact hi.iter _ _ _ _ (hget _ _ (hid _ _ hr) e) hr
  · obtain ⟨h1, h2⟩ := hi.own _ _ _ hl (hget _ _ (hsd _ _ _ hs') e) hs'
    exact ⟨h1, fun B'' es3 g' hne e3 hs3 => h2 B'' es3 g' hne (hget _ _ (hsd _ _ _ hs3) e3) hs3⟩
  · exact hi.iown B s pos r hl (hget _ _ (hid _ _ hr) e) hr B' s' pos' r' hne (hget _ _ (hid _ _ hr') e') hr'
  · rintro ⟨B, hl, ⟨es', x, e, hs', hx⟩ | ⟨s, pos, e, hr⟩⟩
    · exact hno ⟨B, hl, .inl ⟨es', x, hget _ _ (hsd _ _ _ hs') e, hs', hx⟩⟩
    · exact hno ⟨B, hl, .inr ⟨s, pos, hget _ _ (hid _ _ hr) e, hr⟩⟩

/-- A new iterator. -/
theorem new_iter (hi : HInv T G lo h w) (hs : w'.heap.size = w.heap.size + 1) (hk : ∀ b, b < w.heap.size → w'.heap[b]? = w.heap[b]?) (hos : w'.os = w.os) (ht : w'.tape = w.tape) (ho : w'.output = w.output)
    {s : List UInt8} {s' : ByteArray} {pos : Nat} (hs' : s'.data.toList = s) (hb : w'.heap[w.heap.size]? = some (.stringIter s' pos)) :
    ∃ G', HInv T G' lo (h ++ [.iter s pos]) w' ∧ Stp lo G h w G' (h ++ [.iter s pos]) w' ∧ G'.io h.length = some w.heap.size := by
  let G' : Gh := { G with io := fun B => if B = h.length then some w.heap.size else G.io B, n := h.length + 1 }
  have hio : ∀ B, G'.io B = if B = h.length then some w.heap.size else G.io B := fun _ => rfl
  have hsd : ∀ B ep x, G.sg B ep = some x → B < h.length := fun B ep x e => Nat.lt_of_lt_of_le (hi.sdom _ _ _ e) hi.nle
  have hid : ∀ B x, G.io B = some x → B < h.length := fun B x e => Nat.lt_of_lt_of_le (hi.idom _ _ e) hi.nle
  have hle : G.le G' := ⟨fun _ _ _ e => e, fun _ _ _ e => e, fun _ _ _ e => e, fun B r e => by rw [hio, if_neg (by have := hid _ _ e; omega)]; exact e, by have := hi.nle; show G.n ≤ h.length + 1; omega⟩
  have hi' := hi.grow (w' := w') (by omega) hk
  have hget : ∀ B b, B < h.length → (h ++ [Blk.iter s pos])[B]? = some b → h[B]? = some b := by
    intro B b hl e
    rwa [List.getElem?_append_left hl] at e
  have hit : ∀ B q p r, (h ++ [Blk.iter s pos])[B]? = some (.iter q p) → G'.io B = some r → (B = h.length ∧ q = s ∧ p = pos ∧ r = w.heap.size) ∨ (B < h.length ∧ h[B]? = some (.iter q p) ∧ G.io B = some r) := by
    intro B q p r e hr
    rw [hio] at hr
    split at hr
    · rename_i hB
      subst hB
      rw [List.getElem?_append_right (Nat.le_refl _)] at e
      simp at e hr
      exact .inl ⟨rfl, e.1.symm, e.2.symm, hr.symm⟩
    · have := hid _ _ hr
      exact .inr ⟨this, hget _ _ this e, hr⟩
  refine ⟨G', ⟨hi'.gp, hi'.gb, by have := hi.llo; simp; omega, by simp [G'], fun B ep x e => ?_, fun B r e => ?_, fun B es' ep x e hs' => ?_, fun B es' x e hs' => ?_, fun B q p r e hr => ?_, fun B es' x hl e hs' => ?_,
    fun B q p r hl e hr B' q' p' r' hne e' hr' => ?_⟩, ⟨hle, hos, ht, ho, by omega, fun b hbl hno => ⟨hk b hbl, fun _ => rfl, ?_⟩, rfl, fun B hB => ⟨fun _ => rfl, by rw [hio, if_neg (by have := hi.llo; omega)]⟩, .push fun _ _ _ => rfl⟩, by rw [hio, if_pos rfl]⟩
  · have := hsd _ _ _ e; show B < h.length + 1; omega
  · rw [hio] at e
    show B < h.length + 1
    split at e
    · omega
    · have := hid _ _ e; omega
  · exact hi.eple _ _ _ _ (hget _ _ (hsd _ _ _ hs') e) hs'
  · obtain ⟨c', t', fz', h1, h2, h3, h4, h6⟩ := hi'.live _ _ _ (hget _ _ (hsd _ _ _ hs') e) hs'
    exact ⟨c', t', fz', h1, h2, h3, h4, h6.mono hle⟩
  · rcases hit _ _ _ _ e hr with ⟨rfl, rfl, rfl, rfl⟩ | ⟨_, e1, r1⟩
    · exact ⟨s', hs', hb⟩
    · exact hi'.iter _ _ _ _ e1 r1
  · obtain ⟨h1, h2⟩ := hi'.own _ _ _ hl (hget _ _ (hsd _ _ _ hs') e) hs'
    exact ⟨h1, fun B'' es3 g' hne e3 hs3 => h2 B'' es3 g' hne (hget _ _ (hsd _ _ _ hs3) e3) hs3⟩
  · rcases hit _ _ _ _ e hr with ⟨rfl, rfl, rfl, rfl⟩ | ⟨_, e1, r1⟩
    · rcases hit _ _ _ _ e' hr' with ⟨rfl, _⟩ | ⟨_, e2, r2⟩
      · exact absurd rfl hne
      · have := hi.iter_lt e2 r2; omega
    · rcases hit _ _ _ _ e' hr' with ⟨rfl, rfl, rfl, rfl⟩ | ⟨_, e2, r2⟩
      · have := hi.iter_lt e1 r1; omega
      · exact hi.iown B q p r hl e1 r1 B' q' p' r' hne e2 r2
  · rintro ⟨B, hl, ⟨es', x, e, hs', hx⟩ | ⟨q, p, e, hr⟩⟩
    · exact hno ⟨B, hl, .inl ⟨es', x, hget _ _ (hsd _ _ _ hs') e, hs', hx⟩⟩
    · rcases hit _ _ _ _ e hr with ⟨rfl, rfl, rfl, rfl⟩ | ⟨_, e1, r1⟩
      · exact absurd hbl (Nat.lt_irrefl _)
      · exact hno ⟨B, hl, .inr ⟨q, p, e1, r1⟩⟩

/-- An iterator goes on. -/
theorem set_iter (hi : HInv T G lo h w) {B : Nat} {s : List UInt8} {pos pos' r : Nat} (hlo : lo ≤ B) (hB : h[B]? = some (.iter s pos)) (hr : G.io B = some r) (hs : w'.heap.size = w.heap.size)
    (hk : ∀ b, b < w.heap.size → b ≠ r → w'.heap[b]? = w.heap[b]?) (hos : w'.os = w.os) (ht : w'.tape = w.tape) (ho : w'.output = w.output) {s' : ByteArray} (hs' : s'.data.toList = s)
    (hb : w'.heap[r]? = some (.stringIter s' pos')) : HInv T G lo (h.set B (.iter s pos')) w' ∧ Stp lo G h w G (h.set B (.iter s pos')) w' := by
  have set_arr : ∀ B' es'', (h.set B (.iter s pos'))[B']? = some (.arr es'') → B' ≠ B ∧ h[B']? = some (.arr es'') := by
    intro B' es'' e
    rcases get_set e with ⟨_, h2, _⟩ | h1
    · cases h2
    · exact h1
  have set_it : ∀ B' q p, (h.set B (.iter s pos'))[B']? = some (.iter q p) → (B' = B ∧ q = s ∧ p = pos') ∨ (B' ≠ B ∧ h[B']? = some (.iter q p)) := by
    intro B' q p e
    rcases get_set e with ⟨h1, h2, _⟩ | h1
    · cases h2; exact .inl ⟨h1, rfl, rfl⟩
    · exact .inr h1
  obtain ⟨s0, _, hr0⟩ := hi.iter B s pos r hB hr
  have cellr : ∀ b off v, w.cell? ⟨b, off, none⟩ = some v → b ≠ r := by
    rintro b off v e rfl
    simp [World.cell?, hr0] at e
  have arrr : ∀ B' es'' x, h[B']? = some (.arr es'') → G.sg B' es''.length = some x → x.b ≠ r := by
    rintro B' es'' x e hx rfl
    obtain ⟨c', t', fz', h1, _⟩ := hi.live _ _ _ e hx
    rw [hr0] at h1; cases h1
  refine ⟨⟨fun b off v e => ?_, fun b off v e => ?_, by rw [List.length_set]; exact hi.llo, by rw [List.length_set]; exact hi.nle, hi.sdom, hi.idom, fun B' es'' ep x e hx => ?_, fun B' es'' x e hx => ?_, fun B' q p r' e hr' => ?_, fun B' es'' x hl e hx => ?_,
      fun B' q p r1 hl e h1 B'' q' p' r2 hne e' h2 => ?_⟩, ⟨G.le_refl, hos, ht, ho, by omega, fun b hb' hno => ⟨?_, fun _ => rfl, ?_⟩, rfl, fun _ _ => ⟨fun _ => rfl, rfl⟩, .other (fun _ => by simp) fun _ _ => rfl⟩⟩
  · have := hi.gp _ _ _ e
    rw [cell_block (hk b (hi.gp_lt e) (cellr _ _ _ this))]; exact this
  · have := hi.gb _ _ _ e
    rw [cell_block (hk b (hi.gb_lt e) (cellr _ _ _ this))]; exact this
  · exact hi.eple _ _ _ _ (set_arr _ _ e).2 hx
  · obtain ⟨c', t', fz', h1, h2⟩ := hi.live _ _ _ (set_arr _ _ e).2 hx
    exact ⟨c', t', fz', by rw [hk _ (heap_lt h1) (arrr _ _ _ (set_arr _ _ e).2 hx)]; exact h1, h2⟩
  · rcases set_it _ _ _ e with ⟨rfl, rfl, rfl⟩ | ⟨hne, e'⟩
    · rw [hr] at hr'; simp only [Option.some.injEq] at hr'; subst hr'
      exact ⟨s', hs', hb⟩
    · obtain ⟨q', h1, h2⟩ := hi.iter _ _ _ _ e' hr'
      exact ⟨q', h1, by rw [hk _ (heap_lt h2) (hi.iown B s pos r hlo hB hr B' q p r' hne e' hr')]; exact h2⟩
  · obtain ⟨h1, h2⟩ := hi.own _ _ _ hl (set_arr _ _ e).2 hx
    exact ⟨h1, fun B'' es3 g' hne e3 hs3 => h2 B'' es3 g' hne (set_arr _ _ e3).2 hs3⟩
  · have k1 : ∃ q p, h[B']? = some (.iter q p) := by
      rcases set_it _ _ _ e with ⟨rfl, rfl, rfl⟩ | ⟨_, e1⟩
      · exact ⟨_, _, hB⟩
      · exact ⟨_, _, e1⟩
    have k2 : ∃ q p, h[B'']? = some (.iter q p) := by
      rcases set_it _ _ _ e' with ⟨rfl, rfl, rfl⟩ | ⟨_, e1⟩
      · exact ⟨_, _, hB⟩
      · exact ⟨_, _, e1⟩
    obtain ⟨_, _, k1⟩ := k1
    obtain ⟨_, _, k2⟩ := k2
    exact hi.iown B' _ _ r1 hl k1 h1 B'' _ _ r2 hne k2 h2
  · exact hk b hb' fun hh => hno ⟨B, hlo, .inr ⟨s, pos, hB, by rw [hh]; exact hr⟩⟩
  · rintro ⟨B', hl, ⟨es', x, e, hx, hb2⟩ | ⟨q, p, e, h1⟩⟩
    · exact hno ⟨B', hl, .inl ⟨es', x, (set_arr _ _ e).2, hx, hb2⟩⟩
    · rcases set_it _ _ _ e with ⟨rfl, rfl, rfl⟩ | ⟨_, e1⟩
      · exact hno ⟨B', hl, .inr ⟨_, _, hB, h1⟩⟩
      · exact hno ⟨B', hl, .inr ⟨q, p, e1, h1⟩⟩

end
end Go.VE

/- The end of a call and the end of a round: blocks of which nobody speaks any more are let go; what they held stays for ever. -/
namespace Go.VE
set_option linter.unusedVariables false
set_option linter.unnecessarySimpa false
set_option linter.unusedSimpArgs false
open Classical

section
variable {P : Program} {T : Tbl} {G : Gh} {w w' : World} {lo : Nat} {h : Heap}

/-- The model's blocks where owned blocks from n on lie. -/
def Late (G : Gh) (lo n : Nat) (h : Heap) (b : Nat) : Prop := ∃ B es g, n ≤ B ∧ lo ≤ B ∧ h[B]? = some (.arr es) ∧ G.sg B es.length = some g ∧ g.b = b

theorem Late.own {n b : Nat} (hl : Late G lo n h b) : Own G lo h b := by
  obtain ⟨B, es, g, _, h2, h3, h4, h5⟩ := hl
  exact ⟨B, h2, .inl ⟨es, g, h3, h4, h5⟩⟩

/-- What is known when the blocks from n on are let go, the borrowed cells being Gb then. -/
noncomputable def Gh.drop (G : Gh) (lo n : Nat) (h : Heap) (w : World) (Gb : Nat → Nat → Option Value) : Gh where
  Gp b off := if Late G lo n h b then w.cell? ⟨b, off, none⟩ else G.Gp b off
  Gb := Gb
  sg B ep := if B < n then G.sg B ep else none
  io B := if B < n then G.io B else none
  n := n

theorem drop_gp (hi : HInv T G lo h w) {n : Nat} {Gb} {b off : Nat} {v : Value} (e : G.Gp b off = some v) : (G.drop lo n h w Gb).Gp b off = some v := by
  show (if Late G lo n h b then w.cell? ⟨b, off, none⟩ else G.Gp b off) = some v
  split
  · exact hi.gp _ _ _ e
  · exact e

/-- Blocks from n on are let go. -/
theorem drop_blocks (hi : HInv T G lo h w) {n : Nat} (hn : n ≤ h.length) (hlo : lo ≤ n)
    (hold : ∀ B es, B < n → h[B]? = some (.arr es) → (G.sg B es.length).isSome = true → belowL n es = true) :
    HInv T (G.drop lo n h w G.Gb) lo (h.take n) w := by
  have get : ∀ B b, (h.take n)[B]? = some b → B < n ∧ h[B]? = some b := by
    intro B b e
    rw [List.getElem?_take] at e
    split at e
    · exact ⟨‹_›, e⟩
    · simp at e
  have sgn : ∀ B ep x, (G.drop lo n h w G.Gb).sg B ep = some x → B < n ∧ G.sg B ep = some x := by
    intro B ep x e
    have e' : (if B < n then G.sg B ep else none) = some x := e
    split at e'
    · exact ⟨‹_›, e'⟩
    · simp at e'
  have ion : ∀ B x, (G.drop lo n h w G.Gb).io B = some x → B < n ∧ G.io B = some x := by
    intro B x e
    have e' : (if B < n then G.io B else none) = some x := e
    split at e'
    · exact ⟨‹_›, e'⟩
    · simp at e'
  refine ⟨fun b off v e => ?_, hi.gb, by simp; have := hi.llo; omega, by show n ≤ (h.take n).length; simp; omega, fun B ep x e => (sgn _ _ _ e).1, fun B x e => (ion _ _ e).1, fun B es ep x e hs => ?_, fun B es x e hs => ?_, fun B s pos r e hr => ?_,
    fun B es x hl e hs => ?_, fun B s pos r hl e hr B' s' pos' r' hne e' hr' => ?_⟩
  · have e' : (if Late G lo n h b then w.cell? ⟨b, off, none⟩ else G.Gp b off) = some v := e
    split at e'
    · exact e'
    · exact hi.gp _ _ _ e'
  · exact hi.eple _ _ _ _ (get _ _ e).2 (sgn _ _ _ hs).2
  · obtain ⟨hB, e1⟩ := get _ _ e
    obtain ⟨_, hs1⟩ := sgn _ _ _ hs
    obtain ⟨c, t, fz, h1, h2, h3, h4, h5⟩ := hi.live _ _ _ e1 hs1
    refine ⟨c, t, fz, h1, h2, h3, h4, fun i e2 hi2 => ⟨(h5 i e2 hi2).1, fun j v hj => ?_⟩⟩
    obtain ⟨rv, k1, k2, k3⟩ := (h5 i e2 hi2).2 j v hj
    have hbel := hold B _ hB e1 (by rw [hs1]; rfl)
    exact ⟨rv, k1, k2.under (n := n) (fun _ _ _ e => drop_gp hi e) (fun _ _ _ e => e) (fun B' ep x hB' e => by show (if B' < n then G.sg B' ep else none) = some x; rw [if_pos hB']; exact e)
      (fun B' r hB' e => by show (if B' < n then G.io B' else none) = some r; rw [if_pos hB']; exact e) (Nat.le_refl _) (below_cells (belowL_get hbel hi2) hj), k3⟩
  · exact hi.iter _ _ _ _ (get _ _ e).2 (ion _ _ hr).2
  · obtain ⟨hB, e1⟩ := get _ _ e
    obtain ⟨_, hs1⟩ := sgn _ _ _ hs
    obtain ⟨h1, h2⟩ := hi.own _ _ _ hl e1 hs1
    refine ⟨fun off => ⟨?_, (h1 off).2⟩, fun B' es' g' hne e' hs' => h2 B' es' g' hne (get _ _ e').2 (sgn _ _ _ hs').2⟩
    show (if Late G lo n h x.b then w.cell? ⟨x.b, off, none⟩ else G.Gp x.b off) = none
    rw [if_neg]
    · exact (h1 off).1
    · rintro ⟨B', es', g', k1, k2, k3, k4, k5⟩
      exact h2 B' es' g' (by omega) k3 k4 k5
  · exact hi.iown B s pos r hl (get _ _ e).2 (ion _ _ hr).2 B' s' pos' r' hne (get _ _ e').2 (ion _ _ hr').2

theorem drop_le {G0 : Gh} (hle : G0.le G) (hi : HInv T G lo h w) {n : Nat} (hn : G0.n ≤ n) (hs : ∀ B ep g, G0.sg B ep = some g → B < G0.n) (hio : ∀ B r, G0.io B = some r → B < G0.n) : G0.le (G.drop lo n h w G.Gb) :=
  ⟨fun b off v e => drop_gp hi (hle.gp _ _ _ e), hle.gb, fun B ep x e => by
    have := hs _ _ _ e
    show (if B < n then G.sg B ep else none) = some x
    rw [if_pos (by omega)]; exact hle.sg _ _ _ e, fun B r e => by
    have := hio _ _ e
    show (if B < n then G.io B else none) = some r
    rw [if_pos (by omega)]; exact hle.io _ _ e, hn⟩

/-- From the begin of a piece to its end with the late blocks let go. -/
theorem drop_stp {G0 : Gh} {h0 : Heap} {w0 : World} (hi0 : HInv T G0 lo h0 w0) (st : Stp lo G0 h0 w0 G h w) (hi : HInv T G lo h w) (hn : h0.length ≤ h.length) :
    Stp lo G0 h0 w0 (G.drop lo h0.length h w G.Gb) (h.take h0.length) w := by
  refine ⟨drop_le st.le hi hi0.nle hi0.sdom hi0.idom, st.os, st.tape, st.output, st.size, fun b hb hno => ?_, st.gbs, fun B hB => ?_, ⟨by simp; omega, fun B es' hB e => ?_⟩⟩
  · obtain ⟨h1, h2, h3⟩ := st.keep b hb hno
    refine ⟨h1, fun off => ?_, ?_⟩
    · show (if Late G lo h0.length h b then w.cell? ⟨b, off, none⟩ else G.Gp b off) = _
      rw [if_neg fun hl => h3 hl.own]; exact h2 off
    · rintro ⟨B, hl, ⟨es, g, e, hs, hg⟩ | ⟨s, pos, e, hr⟩⟩
      · have e' : (if B < h0.length then G.sg B es.length else none) = some g := hs
        rw [List.getElem?_take] at e
        split at e
        · rename_i hB; rw [if_pos hB] at e'; exact h3 ⟨B, hl, .inl ⟨es, g, e, e', hg⟩⟩
        · simp at e
      · have e' : (if B < h0.length then G.io B else none) = some b := hr
        rw [List.getElem?_take] at e
        split at e
        · rename_i hB; rw [if_pos hB] at e'; exact h3 ⟨B, hl, .inr ⟨s, pos, e, e'⟩⟩
        · simp at e
  · have := hi0.llo
    obtain ⟨h1, h2⟩ := st.slo B hB
    refine ⟨fun ep => ?_, ?_⟩
    · show (if B < h0.length then G.sg B ep else none) = _
      rw [if_pos (by omega)]; exact h1 ep
    · show (if B < h0.length then G.io B else none) = _
      rw [if_pos (by omega)]; exact h2
  · rw [List.getElem?_take, if_pos hB] at e
    obtain ⟨es, h1, h2, h3⟩ := st.mono.2 B es' hB e
    refine ⟨es, h1, h2, fun hl k => h3 hl ?_⟩
    have k' : (if B < h0.length then G.sg B es'.length else none).isSome = true := k
    rwa [if_pos hB] at k'

theorem HInv.belowOf {G0 : Gh} {h0 : Heap} {w0 : World} (hi0 : HInv T G0 lo h0 w0) {B : Nat} {es : List V} (e : h0[B]? = some (.arr es)) (hs : (G0.sg B es.length).isSome = true) : belowL h0.length es = true := by
  obtain ⟨g, hg⟩ := Option.isSome_iff_exists.1 hs
  obtain ⟨c, t, fz, h1, h2, h3, h4, h5⟩ := hi0.live _ _ _ e hg
  refine belowL_of es fun i v hv => ?_
  have := below_of_cells (n := G0.n) (e := v) fun j x hx => by
    obtain ⟨rv, _, k2, _⟩ := (h5 i v hv).2 j x hx
    exact k2.refs hi0.sdom hi0.idom
  exact belowB_mono hi0.nle this

/-- The old blocks refer to old blocks alone, if each is as it was or says so. -/
theorem old_below {G0 : Gh} {h0 : Heap} {w0 : World} (hi0 : HInv T G0 lo h0 w0) (st : Stp lo G0 h0 w0 G h w) (ho : okOld h0 h) :
    ∀ B es, B < h0.length → h[B]? = some (.arr es) → (G.sg B es.length).isSome = true → belowL h0.length es = true := by
  intro B es hB e hs
  rcases ho B hB with hh | ⟨b', e', hb'⟩
  · rw [e] at hh
    obtain ⟨es0, h1, h2, h3⟩ := st.mono.2 B es hB e
    rw [h1] at hh
    simp only [Option.some.injEq, Blk.arr.injEq] at hh
    subst hh
    exact hi0.belowOf h1 (h3 rfl hs)
  · rw [e] at e'
    simp only [Option.some.injEq] at e'
    rw [← e'] at hb'; exact hb'

end
end Go.VE

/- The begin and the end of a call that writes nothing of what was there; the values that go in and come out. -/
namespace Go.VE
set_option linter.unusedVariables false
set_option linter.unnecessarySimpa false
set_option linter.unusedSimpArgs false
open Classical

section
variable {P : Program} {T : Tbl} {G : Gh} {w w' : World} {lo : Nat} {h : Heap}

theorem optL_get {f : V → Option V} : ∀ {l l' : List V}, optL f l = some l' → l'.length = l.length ∧ (∀ (i : Nat) (v : V), l[i]? = some v → ∃ v', l'[i]? = some v' ∧ f v = some v') ∧
    (∀ (i : Nat) (v' : V), l'[i]? = some v' → ∃ v, l[i]? = some v ∧ f v = some v')
  | [], l', e => by simp [optL] at e; subst e; simp
  | x :: l, l', e => by
    simp only [optL, Option.bind_eq_some_iff, Option.map_eq_some_iff] at e
    obtain ⟨x', hx, l'', hl, rfl⟩ := e
    obtain ⟨h1, h2, h3⟩ := optL_get hl
    refine ⟨by simp [h1], fun i v hv => ?_, fun i v hv => ?_⟩
    · cases i with
      | zero => simp at hv; subst hv; exact ⟨x', by simp, hx⟩
      | succ i => simpa using h2 i v (by simpa using hv)
    · cases i with
      | zero => simp at hv; subst hv; exact ⟨x, by simp, hx⟩
      | succ i => simpa using h3 i v (by simpa using hv)

theorem seen_some {B ep off len : Nat} {es : List V} (e : seen h B ep off len = some es) : ∃ es0, h[B]? = some (.arr es0) ∧ es0.length = ep ∧ off + len ≤ ep ∧ es = (es0.drop off).take len := by
  unfold seen at e
  split at e
  · rename_i es0 h0
    split at e
    · rename_i hc; simp at e; exact ⟨es0, h0, hc.1, hc.2, e.symm⟩
    · simp at e
  · simp at e

theorem frz_closed {lo : Nat} {h : Heap} {d : Nat} {v : V} (hc : closedB v = true) : frz lo h d v = some v := by
  cases d <;> simp [frz, hc]

/-- The cells of a frozen value are its cells, frozen. -/
theorem frz_cells {lo : Nat} {h : Heap} {d : Nat} {e e' : V} (hf : frz lo h d e = some e') : e'.cells.length = e.cells.length ∧
    ∀ (j : Nat) (c' : V), e'.cells[j]? = some c' → ∃ d' c, d' ≤ d ∧ e.cells[j]? = some c ∧ frz lo h d' c = some c' := by
  by_cases hc : closedB e = true
  · rw [frz_closed hc] at hf
    simp only [Option.some.injEq] at hf; subst hf
    exact ⟨rfl, fun j c' hj => ⟨d, c', Nat.le_refl _, hj, frz_closed (closed_cells hc hj)⟩⟩
  · cases d with
    | zero => simp [frz, hc] at hf
    | succ d =>
      have scalar : e.cells = [e] → e'.cells = [e'] → e'.cells.length = e.cells.length ∧
          ∀ (j : Nat) (c' : V), e'.cells[j]? = some c' → ∃ d' c, d' ≤ d + 1 ∧ e.cells[j]? = some c ∧ frz lo h d' c = some c' := by
        intro h1 h2
        rw [h1, h2]
        refine ⟨rfl, fun j c' hj => ?_⟩
        cases j with
        | zero => simp at hj; subst hj; exact ⟨d + 1, e, Nat.le_refl _, by simp, hf⟩
        | succ j => simp at hj
      have hf' := hf
      simp only [frz, hc, Bool.false_eq_true, if_false] at hf
      cases e <;> simp only at hf <;> try contradiction
      case gsl B ep z off len =>
        split at hf
        · simp at hf; subst hf; exact scalar rfl rfl
        · simp only [Option.bind_eq_some_iff, Option.map_eq_some_iff] at hf
          obtain ⟨es, _, es', _, rfl⟩ := hf
          exact scalar rfl rfl
      case ptr B ep i o =>
        split at hf
        · simp at hf; subst hf; exact scalar rfl rfl
        · split at hf
          · split at hf
            · simp only [Option.bind_eq_some_iff, Option.map_eq_some_iff] at hf
              obtain ⟨_, _, _, _, rfl⟩ := hf
              exact scalar rfl rfl
            · simp at hf
          · simp at hf
      case tup vs =>
        simp only [Option.map_eq_some_iff] at hf
        obtain ⟨_, _, rfl⟩ := hf
        exact scalar rfl rfl
      case agg vs =>
        simp only [Option.map_eq_some_iff] at hf
        obtain ⟨vs', h1, rfl⟩ := hf
        obtain ⟨k1, k2, k3⟩ := optL_get h1
        refine ⟨k1, fun j c' hj => ?_⟩
        obtain ⟨c, hc1, hc2⟩ := k3 j c' hj
        exact ⟨d, c, by omega, hc1, hc2⟩
      case iface t v =>
        simp only [Option.map_eq_some_iff] at hf
        obtain ⟨_, _, rfl⟩ := hf
        exact scalar rfl rfl

/-- What comes out of a call. -/
theorem frz_R {G1 : Gh} {lo1 n : Nat} {h1 : Heap} {w1 : World} (hi : HInv T G1 lo1 h1 w1) (hlo : lo1 ≤ n) (hp : ∀ b off v, G1.Gp b off = some v → G.Gp b off = some v)
    (hs : ∀ B ep g, B < n → G1.sg B ep = some g → G.sg B ep = some g) (hn : n ≤ G.n)
    (hlate : ∀ B es g off v, n ≤ B → h1[B]? = some (.arr es) → G1.sg B es.length = some g → w1.cell? ⟨g.b, off, none⟩ = some v → G.Gp g.b off = some v) :
    ∀ (d : Nat) (v v' : V) (rv : Value), frz n h1 d v = some v' → R T G1 v rv → R T G v' rv := by
  intro d
  induction d using Nat.strongRecOn with
  | _ d ih =>
    intro v v' rv hf hR
    by_cases hc : closedB v = true
    · rw [frz_closed hc] at hf
      simp only [Option.some.injEq] at hf; subst hf
      exact hR.closed hp hc
    · cases d with
      | zero => simp [frz, hc] at hf
      | succ d =>
        -- an element of a block from n on: its cells, frozen
        have elem : ∀ {B : Nat} {es : List V} {g : Img} {i : Nat} {e e' : V}, n ≤ B → h1[B]? = some (.arr es) → G1.sg B es.length = some g → es[i]? = some e → frz n h1 d e = some e' →
            e'.cells.length = g.z ∧ ∀ (j : Nat) (c : V), e'.cells[j]? = some c → ∃ x, G.Gp g.b (g.o + i * g.z + j) = some x ∧ R T G c x ∧ oc x = true := by
          intro B es g i e e' hB he hg hi' hfe
          obtain ⟨c, t, fz, l1, l2, l3, l4, l5⟩ := hi.live B es g he hg
          obtain ⟨m1, m2⟩ := l5 i e hi'
          obtain ⟨f1, f2⟩ := frz_cells hfe
          refine ⟨by rw [f1, m1], fun j c' hj => ?_⟩
          obtain ⟨d', c0, hd', hc0, hfc⟩ := f2 j c' hj
          obtain ⟨rv, r1, r2, r3⟩ := m2 j c0 hc0
          refine ⟨rv, hlate B es g _ rv hB he hg ?_, ih d' (by omega) c0 c' rv hfc r2, r3⟩
          simp only [World.cell?, l1]; exact r1
        simp only [frz, hc, Bool.false_eq_true, if_false] at hf
        cases v <;> simp only at hf <;> try contradiction
        case gsl B ep z off len =>
          obtain ⟨a, cap, rfl, hB, hl, hg⟩ := hR.gsl_inv
          split at hf
          · rename_i hBn
            simp at hf; subst hf
            exact .gsl _ _ _ _ _ _ _ (by omega) hl (hg.imp id fun ⟨g, k1, k2⟩ => ⟨g, hs _ _ _ hBn k1, k2⟩)
          · rename_i hBn
            simp only [Option.bind_eq_some_iff, Option.map_eq_some_iff] at hf
            obtain ⟨es, h0, es', h2, rfl⟩ := hf
            obtain ⟨es0, e0, e1, e2, rfl⟩ := seen_some h0
            obtain ⟨o1, o2, o3⟩ := optL_get h2
            have hlen : es'.length = len := by rw [o1]; simp; omega
            have key : ∀ i e', es'[i]? = some e' → ∃ e, es0[off + i]? = some e ∧ frz n h1 d e = some e' := by
              intro i e' hi'
              obtain ⟨e, k1, k2⟩ := o3 i e' hi'
              rw [List.getElem?_take, List.getElem?_drop] at k1
              split at k1
              · exact ⟨e, k1, k2⟩
              · simp at k1
            rcases hg with rfl | ⟨g, k1, k2, rfl, k3⟩
            · have : es' = [] := List.eq_nil_of_length_eq_zero (by omega)
              subst this
              simp at hlen; subst hlen
              exact .sl z [] .perm a 0 0 0 (fun _ _ => undef) (by simp) (.plain rfl (by simp) rfl _ _ _) (by simp) (by simp) (by simp) (by simp) (by simp)
            · rw [← hlen]
              subst k2; subst e1
              refine .sl g.z es' .perm _ cap g.b (g.o + off * g.z) (fun i j => (G.Gp g.b (g.o + off * g.z + i * g.z + j)).getD undef) (by omega) (.plain rfl (by simp) rfl _ _ _) (fun _ => rfl) (fun i e hi' => ?_) (fun i e j c hi' hj => ?_) (fun i e j c hi' hj => ?_) (fun i e j c hi' hj => ?_)
              · obtain ⟨e0', q1, q2⟩ := key i e hi'
                exact (elem (by omega) e0 k1 q1 q2).1
              all_goals
                obtain ⟨e0', q1, q2⟩ := key i e hi'
                obtain ⟨x, x1, x2, x3⟩ := (elem (by omega) e0 k1 q1 q2).2 j c hj
                rw [show g.o + (off + i) * g.z + j = g.o + off * g.z + i * g.z + j by rw [Nat.add_mul]; omega] at x1
                first
                  | (simp only [gAt, x1, Option.getD_some]; done)
                  | (simp only [gAt, x1, Option.getD_some]; first | exact x2 | exact x3)
        case ptr B ep i o =>
          obtain ⟨g, hg, rfl⟩ := hR.ptr_inv
          split at hf
          · rename_i hBn
            simp at hf; subst hf
            exact .ptr _ _ _ _ g (hs _ _ _ hBn hg)
          · rename_i hBn
            split at hf
            · rename_i es he
              split at hf
              · rename_i hep
                subst hep
                simp only [Option.bind_eq_some_iff, Option.map_eq_some_iff] at hf
                obtain ⟨e, h0, e', h2, rfl⟩ := hf
                obtain ⟨q1, q2⟩ := elem (by omega) he hg h0 h2
                refine .eptr e' o .perm g.b (g.o + i * g.z) (fun j => (G.Gp g.b (g.o + i * g.z + j)).getD undef) (fun j c hj => ?_) (fun j c hj => ?_) (fun j c hj => ?_)
                all_goals
                  obtain ⟨x, x1, x2, x3⟩ := q2 j c hj
                  first
                    | (simp only [gAt, x1, Option.getD_some]; done)
                    | (simp only [gAt, x1, Option.getD_some]; first | exact x2 | exact x3)
              · simp at hf
            · simp at hf
        case tup vs =>
          simp only [Option.map_eq_some_iff] at hf
          obtain ⟨vs', h2, rfl⟩ := hf
          obtain ⟨c, rfl, t1, t2⟩ := hR.tup_inv
          obtain ⟨o1, o2, o3⟩ := optL_get h2
          refine .tup vs' c (by omega) fun i v rv e1 e2 => ?_
          obtain ⟨v0, k1, k2⟩ := o3 i v e1
          exact ih d (by omega) v0 v rv k2 (t2 i v0 rv k1 e2)
        case agg vs =>
          simp only [Option.map_eq_some_iff] at hf
          obtain ⟨vs', h2, rfl⟩ := hf
          obtain ⟨c, rfl, t1, t2, t3⟩ := hR.agg_inv
          obtain ⟨o1, o2, o3⟩ := optL_get h2
          refine .agg vs' c (by omega) (fun i v rv e1 e2 => ?_) t3
          obtain ⟨v0, k1, k2⟩ := o3 i v e1
          exact ih d (by omega) v0 v rv k2 (t2 i v0 rv k1 e2)
        case iface t v =>
          simp only [Option.map_eq_some_iff] at hf
          obtain ⟨x', h2, rfl⟩ := hf
          obtain ⟨tid, x, rfl, t1, t2⟩ := hR.iface_inv
          exact .iface t tid x' x t1 (ih d (by omega) _ _ _ h2 t2)

/-- As a call sees memory that writes nothing of what was there: all that is there stays while it runs. -/
def Gh.inner (G : Gh) (w : World) : Gh := { G with Gb := fun b off => w.cell? ⟨b, off, none⟩ }

theorem ro_begin (hi : HInv T G lo h w) : HInv T (G.inner w) h.length h w ∧ G.le (G.inner w) := by
  have hle : G.le (G.inner w) := ⟨fun _ _ _ e => e, fun b off v e => hi.gb _ _ _ e, fun _ _ _ e => e, fun _ _ e => e, Nat.le_refl _⟩
  refine ⟨⟨hi.gp, fun _ _ _ e => e, Nat.le_refl _, hi.nle, hi.sdom, hi.idom, hi.eple, fun B es g e hs => ?_, hi.iter, fun B es g hl e => ?_, fun B s pos r hl e => ?_⟩, hle⟩
  · obtain ⟨c', t', fz', h1, h2, h3, h4, h6⟩ := hi.live _ _ _ e hs
    exact ⟨c', t', fz', h1, h2, h3, h4, h6.mono hle⟩
  · have := (List.getElem?_eq_some_iff.1 e).1; omega
  · have := (List.getElem?_eq_some_iff.1 e).1; omega

/-- What is known behind such a call. -/
noncomputable def Gh.outer (G G1 : Gh) (h h1 : Heap) (w1 : World) : Gh where
  Gp b off := if Late G1 h.length h.length h1 b then w1.cell? ⟨b, off, none⟩ else G1.Gp b off
  Gb := G.Gb
  sg := G.sg
  io := G.io
  n := h.length

theorem ro_end {G1 : Gh} {h1 : Heap} {w1 : World} (hi : HInv T G lo h w) (hi1 : HInv T G1 h.length h1 w1) (st : Stp h.length (G.inner w) h w G1 h1 w1) :
    HInv T (G.outer G1 h h1 w1) lo h w1 ∧ Stp lo G h w (G.outer G1 h h1 w1) h w1 ∧
    ∀ (d : Nat) (v v' : V) (rv : Value), frz h.length h1 d v = some v' → R T G1 v rv → R T (G.outer G1 h h1 w1) v' rv := by
  have noown : ∀ b, ¬ Own (G.inner w) h.length h b := by
    rintro b ⟨B, hl, ⟨es, g, e, _⟩ | ⟨s, pos, e, _⟩⟩
    · have := (List.getElem?_eq_some_iff.1 e).1; omega
    · have := (List.getElem?_eq_some_iff.1 e).1; omega
  have old : ∀ b, b < w.heap.size → w1.heap[b]? = w.heap[b]? ∧ (∀ off, G1.Gp b off = G.Gp b off) ∧ ¬ Late G1 h.length h.length h1 b := fun b hb => by
    obtain ⟨k1, k2, k3⟩ := st.keep b hb (noown b)
    exact ⟨k1, k2, fun hl => k3 hl.own⟩
  have gpo : ∀ b off, b < w.heap.size → (G.outer G1 h h1 w1).Gp b off = G.Gp b off := by
    intro b off hb
    show (if Late G1 h.length h.length h1 b then w1.cell? ⟨b, off, none⟩ else G1.Gp b off) = _
    rw [if_neg (old b hb).2.2]; exact (old b hb).2.1 off
  have hle : G.le (G.outer G1 h h1 w1) := ⟨fun b off v e => by rw [gpo b off (hi.gp_lt e)]; exact e, fun _ _ _ e => e, fun _ _ _ e => e, fun _ _ e => e, hi.nle⟩
  have hp1 : ∀ b off v, G1.Gp b off = some v → (G.outer G1 h h1 w1).Gp b off = some v := by
    intro b off v e
    show (if Late G1 h.length h.length h1 b then w1.cell? ⟨b, off, none⟩ else G1.Gp b off) = some v
    split
    · exact hi1.gp _ _ _ e
    · exact e
  refine ⟨⟨fun b off v e => ?_, fun b off v e => ?_, hi.llo, Nat.le_refl _, fun B ep g e => Nat.lt_of_lt_of_le (hi.sdom _ _ _ e) hi.nle, fun B r e => Nat.lt_of_lt_of_le (hi.idom _ _ e) hi.nle, hi.eple, fun B es g e hs => ?_, fun B s pos r e hr => ?_,
    fun B es g hl e hs => ?_, hi.iown⟩, ⟨hle, st.os, st.tape, st.output, st.size, fun b hb hno => ⟨(old b hb).1, fun off => gpo b off hb, hno⟩, rfl, fun _ _ => ⟨fun _ => rfl, rfl⟩, .same fun _ _ => rfl⟩, fun d v v' rv hf hR => ?_⟩
  · have e' : (if Late G1 h.length h.length h1 b then w1.cell? ⟨b, off, none⟩ else G1.Gp b off) = some v := e
    split at e'
    · exact e'
    · exact hi1.gp _ _ _ e'
  · have e' : G.Gb b off = some v := e
    rw [cell_block (old b (hi.gb_lt e')).1]; exact hi.gb _ _ _ e'
  · obtain ⟨c', t', fz', k1, k2, k3, k4, k6⟩ := hi.live _ _ _ e hs
    exact ⟨c', t', fz', by rw [(old _ (heap_lt k1)).1]; exact k1, k2, k3, k4, k6.mono hle⟩
  · obtain ⟨s', k1, k2⟩ := hi.iter _ _ _ _ e hr
    exact ⟨s', k1, by rw [(old _ (heap_lt k2)).1]; exact k2⟩
  · obtain ⟨k1, k2⟩ := hi.own _ _ _ hl e hs
    exact ⟨fun off => ⟨by rw [gpo _ _ (hi.live_lt e hs)]; exact (k1 off).1, (k1 off).2⟩, k2⟩
  · refine frz_R hi1 (Nat.le_refl _) hp1 (fun B ep g hB e => ?_) (Nat.le_refl _) (fun B es g off x hB e hs hx => ?_) d v v' rv hf hR
    · have := (st.slo B hB).1 ep
      rw [e] at this; exact this.symm
    · show (if Late G1 h.length h.length h1 g.b then w1.cell? ⟨g.b, off, none⟩ else G1.Gp g.b off) = some x
      rw [if_pos ⟨B, es, g, hB, hB, e, hs, rfl⟩]; exact hx

theorem viewD_cells {d : Nat} {e e' : V} (h' : viewD h d e = some e') : e'.cells.length = e.cells.length ∧
    ∀ (j : Nat) (c' : V), e'.cells[j]? = some c' → ∃ c, e.cells[j]? = some c ∧ ∃ d', d' ≤ d ∧ viewD h d' c = some c' := by
  cases d with
  | zero => simp only [viewD, Option.some.injEq] at h'; subst h'; exact ⟨rfl, fun j c' hj => ⟨c', hj, 0, Nat.le_refl _, rfl⟩⟩
  | succ d =>
    have other : e.cells = [e] → e'.cells = [e'] → e'.cells.length = e.cells.length ∧ ∀ (j : Nat) (c' : V), e'.cells[j]? = some c' → ∃ c, e.cells[j]? = some c ∧ ∃ d', d' ≤ d + 1 ∧ viewD h d' c = some c' := by
      intro h1 h2
      refine ⟨by rw [h1, h2]; rfl, fun j c' hj => ?_⟩
      rw [h2] at hj
      cases j with
      | zero => simp at hj; subst hj; exact ⟨e, by rw [h1]; rfl, d + 1, Nat.le_refl _, h'⟩
      | succ j => simp at hj
    have h0 := h'
    simp only [viewD] at h'
    split at h'
    · simp only [Option.some.injEq] at h'; subst h'
      refine ⟨rfl, fun j c' hj => ⟨c', hj, 0, Nat.zero_le _, rfl⟩⟩
    · split at h'
      · simp only [Option.bind_eq_some_iff, Option.map_eq_some_iff] at h'
        obtain ⟨_, _, _, _, rfl⟩ := h'
        exact other rfl rfl
      · split at h'
        · split at h'
          · simp only [Option.bind_eq_some_iff, Option.map_eq_some_iff] at h'
            obtain ⟨_, _, _, _, rfl⟩ := h'
            exact other rfl rfl
          · simp at h'
        · simp at h'
      · simp only [Option.map_eq_some_iff] at h'
        obtain ⟨cs', h1, rfl⟩ := h'
        obtain ⟨o1, o2, o3⟩ := optL_get h1
        refine ⟨by simpa [V.cells] using o1, fun j c' hj => ?_⟩
        obtain ⟨v, k1, k2⟩ := o3 j c' (by simpa [V.cells] using hj)
        exact ⟨v, by simpa [V.cells] using k1, d, Nat.le_succ _, k2⟩
      · simp only [Option.bind_eq_some_iff, Option.map_eq_some_iff] at h'
        obtain ⟨_, _, _, _, rfl⟩ := h'
        exact other rfl rfl
      · simp only [Option.map_eq_some_iff] at h'
        obtain ⟨_, _, rfl⟩ := h'
        exact other rfl rfl
      · simp only [Option.some.injEq] at h'; subst h'
        refine ⟨rfl, fun j c' hj => ⟨c', hj, 0, Nat.zero_le _, rfl⟩⟩

/-- What goes into such a call. -/
theorem viewD_R (hi : HInv T G lo h w) : ∀ (d : Nat) {v v' : V} {rv : Value}, viewD h d v = some v' → R T G v rv → R T (G.inner w) v' rv := by
  intro d
  induction d using Nat.strongRecOn with
  | _ d ih =>
  intro v v' rv e hR
  have hle := (ro_begin hi).2
  cases d with
  | zero => simp only [viewD, Option.some.injEq] at e; subst e; exact hR.mono hle
  | succ d =>
  -- an element of a block
  have elem : ∀ {es0 : List V} {B : Nat} {g : Img} {i : Nat} {e e' : V}, h[B]? = some (.arr es0) → G.sg B es0.length = some g → es0[i]? = some e → viewD h d e = some e' →
      e'.cells.length = g.z ∧ ∀ j c, e'.cells[j]? = some c → ∃ rv, w.cell? ⟨g.b, g.o + i * g.z + j, none⟩ = some rv ∧ R T (G.inner w) c rv ∧ oc rv = true := by
    intro es0 B g i e e' e0 k1 hi' hv
    obtain ⟨c, t, fz, l1, l2, l3, l4, l5⟩ := hi.live B es0 g e0 k1
    obtain ⟨q1, q2⟩ := viewD_cells hv
    refine ⟨by rw [q1]; exact (l5 _ e hi').1, fun j x hj => ?_⟩
    obtain ⟨y, y1, d', hd', y2⟩ := q2 j x hj
    obtain ⟨rv, r1, r2, r3⟩ := (l5 _ e hi').2 j y y1
    exact ⟨rv, by simp only [World.cell?, l1]; exact r1, ih d' (by omega) y2 r2, r3⟩
  simp only [viewD] at e
  split at e
  · simp only [Option.some.injEq] at e; subst e; exact hR.mono hle
  · split at e
    · rename_i B ep z off len _
      simp only [Option.bind_eq_some_iff, Option.map_eq_some_iff] at e
      obtain ⟨es, hs, es', hv, rfl⟩ := e
      obtain ⟨a, cap, rfl, hB, hl, hg⟩ := hR.gsl_inv
      obtain ⟨es0, e0, e1, e2, rfl⟩ := seen_some hs
      obtain ⟨o1, o2, o3⟩ := optL_get hv
      have hlen : es'.length = len := by rw [o1]; simp; omega
      rcases hg with rfl | ⟨g, k1, k2, rfl, k3⟩
      · have hl0 : len = 0 := by omega
        have hnil : es' = [] := by apply List.eq_nil_of_length_eq_zero; omega
        subst hl0; subst hnil
        exact .sl z [] .brw a 0 0 0 (fun _ _ => undef) (by simp) (.plain rfl (by simp) rfl _ _ _) (by simp) (by simp) (by simp) (by simp) (by simp)
      · subst k2; subst e1
        have key : ∀ i e, ((es0.drop off).take len)[i]? = some e → es0[off + i]? = some e := by
          intro i e hi'
          rw [List.getElem?_take, List.getElem?_drop] at hi'
          split at hi'
          · exact hi'
          · simp at hi'
        have cellv : ∀ i e', es'[i]? = some e' → e'.cells.length = g.z ∧ ∀ j x, e'.cells[j]? = some x → ∃ rv, w.cell? ⟨g.b, g.o + off * g.z + i * g.z + j, none⟩ = some rv ∧ R T (G.inner w) x rv ∧ oc rv = true := by
          intro i e' hi'
          obtain ⟨e, p1, p2⟩ := o3 i e' hi'
          obtain ⟨p3, p4⟩ := elem e0 k1 (key i e p1) p2
          refine ⟨p3, fun j x hj => ?_⟩
          rw [show g.o + off * g.z + i * g.z + j = g.o + (off + i) * g.z + j by rw [Nat.add_mul]; omega]
          exact p4 j x hj
        have := R.sl (T := T) (G := G.inner w) g.z es' .brw (some ⟨g.b, g.o + off * g.z, none⟩) cap g.b (g.o + off * g.z) (fun i j => (w.cell? ⟨g.b, g.o + off * g.z + i * g.z + j, none⟩).getD undef) (by omega) (.plain rfl (by simp) rfl _ _ _) (fun _ => rfl)
          (fun i e hi' => (cellv i e hi').1) (fun i e j x hi' hj => by obtain ⟨rv, r1, r2, r3⟩ := (cellv i e hi').2 j x hj; show w.cell? _ = some _; rw [r1]; rfl)
          (fun i e j x hi' hj => by obtain ⟨rv, r1, r2, r3⟩ := (cellv i e hi').2 j x hj; rw [r1]; exact r2)
          (fun i e j x hi' hj => by obtain ⟨rv, r1, r2, r3⟩ := (cellv i e hi').2 j x hj; rw [r1]; exact r3)
        rw [hlen] at this
        exact this
    · rename_i B ep i o _
      obtain ⟨g, hg, rfl⟩ := hR.ptr_inv
      split at e
      · rename_i es he
        split at e
        · rename_i hep
          subst hep
          simp only [Option.bind_eq_some_iff, Option.map_eq_some_iff] at e
          obtain ⟨e0, h0, e', h2, rfl⟩ := e
          obtain ⟨q1, q2⟩ := elem he hg h0 h2
          refine .eptr e' o .brw g.b (g.o + i * g.z) (fun j => (w.cell? ⟨g.b, g.o + i * g.z + j, none⟩).getD undef) (fun j c hj => ?_) (fun j c hj => ?_) (fun j c hj => ?_)
          · obtain ⟨x, x1, x2, x3⟩ := q2 j c hj
            show w.cell? _ = some _
            rw [x1]; rfl
          · obtain ⟨x, x1, x2, x3⟩ := q2 j c hj
            rw [x1]; exact x2
          · obtain ⟨x, x1, x2, x3⟩ := q2 j c hj
            rw [x1]; exact x3
        · simp at e
      · simp at e
    · rename_i cs _
      simp only [Option.map_eq_some_iff] at e
      obtain ⟨cs', h1, rfl⟩ := e
      obtain ⟨c, rfl, t1, t2, t3⟩ := hR.agg_inv
      obtain ⟨o1, o2, o3⟩ := optL_get h1
      refine .agg cs' c (by omega) (fun i v rv e1 e2 => ?_) t3
      obtain ⟨v0, k1, k2⟩ := o3 i v e1
      exact ih d (by omega) k2 (t2 i v0 rv k1 e2)
    · rename_i f as bs _
      simp only [Option.bind_eq_some_iff, Option.map_eq_some_iff] at e
      obtain ⟨as', h1, bs', h2, rfl⟩ := e
      obtain ⟨fid, ra, rb, rfl, ht, t1, t3, t2, t4⟩ := hR.func_inv
      obtain ⟨o1, o2, o3⟩ := optL_get h1
      obtain ⟨p1, p2, p3⟩ := optL_get h2
      refine .func f fid as' bs' ra rb ht (by omega) (by omega) (fun i v rv e1 e2 => ?_) (fun i v rv e1 e2 => ?_)
      · obtain ⟨v0, k1, k2⟩ := o3 i v e1
        exact ih d (by omega) k2 (t2 i v0 rv k1 e2)
      · obtain ⟨v0, k1, k2⟩ := p3 i v e1
        exact ih d (by omega) k2 (t4 i v0 rv k1 e2)
    · rename_i t v0 _
      simp only [Option.map_eq_some_iff] at e
      obtain ⟨x', h2, rfl⟩ := e
      obtain ⟨tid, x, rfl, t1, t2⟩ := hR.iface_inv
      exact .iface t tid x' x t1 (ih d (by omega) h2 t2)
    · simp only [Option.some.injEq] at e; subst e; exact hR.mono hle

theorem view_R (hi : HInv T G lo h w) {v v' : V} {rv : Value} (e : viewV h v = some v') (hR : R T G v rv) : R T (G.inner w) v' rv := viewD_R hi 4 e hR

end
end Go.VE

