/- Each operation that looks at no memory: what the model answers is related to what the evaluator answers. -/
import Derived.Test.YtgkdconajdjkgaaGreatVeRuns
import Derived.Laws.StructEq
namespace Go.VE
set_option linter.unusedVariables false
set_option linter.unnecessarySimpa false
set_option linter.unusedSimpArgs false

/-- An operation of the model, done in world w: its value is related to x, the heap is h' then. -/
def Good (P : Program) (T : Tbl) (lo : Nat) (G : Gh) (h : Heap) (w : World) (s : Sem Next) (x : V) (h' : Heap) : Prop :=
  ∃ nx rv w' G', s.run P w = .ok nx w' ∧ (nx = .value rv ∨ (nx = .skip ∧ rv = undef)) ∧ R T G' x rv ∧ HInv T G' lo h' w' ∧ Stp lo G h w G' h' w'

section
variable {P : Program} {T : Tbl} {G : Gh} {w : World} {lo : Nat} {h : Heap}

theorem Good.same {s : Sem Next} {x : V} {rv : Value} (hi : HInv T G lo h w) (hr : s.run P w = .ok (.value rv) w) (hR : R T G x rv) : Good P T lo G h w s x h :=
  ⟨_, rv, w, G, hr, .inl rfl, hR, hi, .refl _ _ _ _⟩

theorem run_part_scalar {t : TypeId} (ht : isAggB P t = some false) {cs : Array Value} {off : Nat} {v : Value} (hv : cs[off]? = some v) : (part t cs off).run P w = .ok v w := by
  simp [part, run_agg ht, hv]

theorem bytes_eq (a b : ByteArray) : (a.toList == b.toList) = (a.data.toList == b.data.toList) := by
  rw [ByteArray.toList_eq, ByteArray.toList_eq]

theorem eqK_run {k : EK} {t : TypeId} (hk : kindIs P k t = true) (d : Nat) {x y : V} {rx ry : Value} {r : Bool} (hx : R T G x rx) (hy : R T G y ry) (e : eqK k x y = some r) :
    isAggB P t = some false ∧ (Op.equalIn (d + 1) t rx ry).run P w = .ok r w := by
  unfold eqK at e
  split at e
  · obtain rfl := hx.bool_inv
    obtain rfl := hy.bool_inv
    simp only [Option.some.injEq] at e
    cases hu : P.underlying t with
    | none => simp [kindIs, hu] at hk
    | some u =>
      cases u <;> simp [kindIs, hu] at hk
      exact ⟨by simp [isAggB, hu], by rw [run_equalIn_bool' w d t _ _ hu, e]⟩
  · obtain rfl := hx.int_inv
    obtain rfl := hy.int_inv
    split at e
    · rename_i hkk
      subst hkk
      simp only [Option.some.injEq] at e
      cases hu : P.underlying t with
      | none => simp [kindIs, hu] at hk
      | some u =>
        cases u <;> simp [kindIs, hu] at hk
        exact ⟨by simp [isAggB, hu], by rw [run_equalIn_int w d t _ _ _ _ hu, e]⟩
    · exact absurd e (by simp)
  · obtain ⟨s, rfl, hs⟩ := hx.str_inv
    obtain ⟨s', rfl, hs'⟩ := hy.str_inv
    simp only [Option.some.injEq] at e
    cases hu : P.underlying t with
    | none => simp [kindIs, hu] at hk
    | some u =>
      cases u <;> simp [kindIs, hu] at hk
      refine ⟨by simp [isAggB, hu], ?_⟩
      rw [run_equalIn_string w d t _ _ hu, bytes_eq, hs, hs', e]
  · exact absurd e (by simp)

theorem eqFields_run (d : Nat) : ∀ (fs : List Field) (ks : List EK) (k : Nat) (as bs : List V) (xs ys : Array Value) (r : Bool), chkFields P k fs ks = true →
    xs.size = k + as.length → ys.size = k + bs.length →
    (∀ (i : Nat) (v : V) (rv : Value), as[i]? = some v → xs[k + i]? = some rv → R T G v rv) →
    (∀ (i : Nat) (v : V) (rv : Value), bs[i]? = some v → ys[k + i]? = some rv → R T G v rv) → eqKs ks as bs = some r →
    (Op.eqFields (d + 1) xs ys fs).run P w = .ok r w
  | [], ks, k, as, bs, xs, ys, r, hc, hsx, hsy, hx, hy, e => by
    cases ks with
    | cons _ _ => simp [chkFields] at hc
    | nil =>
      cases as <;> cases bs <;> simp [eqKs] at e
      subst e; simp [Op.eqFields]
  | f :: fs, ks, k, as, bs, xs, ys, r, hc, hsx, hsy, hx, hy, e => by
    cases ks with
    | nil => simp [chkFields] at hc
    | cons q ks =>
      cases as with
      | nil => simp [eqKs] at e
      | cons a as =>
        cases bs with
        | nil => simp [eqKs] at e
        | cons b bs =>
          simp only [chkFields, Bool.and_eq_true, bne_iff_ne, ne_eq, beq_iff_eq] at hc
          obtain ⟨⟨⟨hn, ho⟩, hk⟩, hc⟩ := hc
          simp only [eqKs, Option.bind_eq_some_iff] at e
          obtain ⟨q1, hq, e⟩ := e
          have hxk : k < xs.size := by simp at hsx; omega
          have hyk : k < ys.size := by simp at hsy; omega
          have hvx := hx 0 a xs[k] (by simp) (by simp [hxk])
          have hvy := hy 0 b ys[k] (by simp) (by simp [hyk])
          have hr := eqK_run (w := w) hk d hvx hvy hq
          have hpx := run_part_scalar (w := w) (P := P) hr.1 (cs := xs) (off := f.offset) (v := xs[k]) (by rw [ho]; simp [hxk])
          have hpy := run_part_scalar (w := w) (P := P) hr.1 (cs := ys) (off := f.offset) (v := ys[k]) (by rw [ho]; simp [hyk])
          have ih := eqFields_run d fs ks (k + 1) as bs xs ys r hc (by simp at hsx; omega) (by simp at hsy; omega)
            (fun i v rv h1 h2 => hx (i + 1) v rv (by simpa using h1) (by rw [← h2]; congr 1; omega))
            (fun i v rv h1 h2 => hy (i + 1) v rv (by simpa using h1) (by rw [← h2]; congr 1; omega))
          simp only [Op.eqFields]
          rw [if_pos hn]
          simp only [Sem.run_bind, hpx, hpy, hr.2, Result.andThen_ok, Sem.run_ite, Sem.run_pure]
          cases q1 with
          | true => simp only [if_true] at e; simp only [Bool.not_true, Bool.false_eq_true, if_false]; exact ih e
          | false => simp only [Bool.false_eq_true, if_false, Option.some.injEq] at e; subst e; simp

theorem eqV_run {t : TypeId} {ks : Option (List EK)} (ht : eqTy P t ks = true) {x y : V} {rx ry : Value} {r : Bool} (hx : R T G x rx) (hy : R T G y ry) (e : eqV ks x y = some r) (ox oy : Operand) (op : BinOp) :
    (eqGuard op t ox oy rx ry).run P w = .ok () w ∧ (Op.equal t rx ry).run P w = .ok r w ∧ ((∃ a b, rx = .bool a ∧ ry = .bool b) ∨ ∃ a b, rx = .agg a ∧ ry = .agg b) := by
  cases ks with
  | none =>
    simp only [eqV] at e
    have h1 := eqK_run (w := w) (k := .b) ht 9999 hx hy e
    unfold eqK at e
    split at e
    · obtain rfl := hx.bool_inv
      obtain rfl := hy.bool_inv
      refine ⟨?_, h1.2, .inl ⟨_, _, rfl, rfl⟩⟩
      unfold eqGuard; cases op <;> simp
    · rename_i hh; simp at hh
    · rename_i hh; simp at hh
    · exact absurd e (by simp)
  | some ks =>
    simp only [eqV] at e
    split at e
    · obtain ⟨a, rfl, hl, ha, _⟩ := hx.agg_inv
      obtain ⟨b, rfl, hl', hb, _⟩ := hy.agg_inv
      simp only [eqTy] at ht
      split at ht
      · rename_i fs hu
        simp only [Bool.and_eq_true, Bool.not_eq_true'] at ht
        obtain ⟨⟨hp, hg⟩, hc⟩ := ht
        refine ⟨?_, ?_, .inr ⟨_, _, rfl, rfl⟩⟩
        · unfold eqGuard; cases op <;> simp [hg]
        · have hfs : P.fieldsOf t = fs := by simp [Program.fieldsOf, hu]
          have := run_equalIn_struct w 9999 t a b (by rw [hfs]; exact hu) hp
          show (Op.equalIn (9999 + 1) t (.agg a) (.agg b)).run P w = .ok r w
          rw [this, hfs]
          exact eqFields_run 9998 fs.toList ks 0 _ _ a b r hc (by omega) (by omega) (fun i v rv h1 h2 => ha i v rv h1 (by simpa using h2)) (fun i v rv h1 h2 => hb i v rv h1 (by simpa using h2)) e
      · exact absurd ht (by simp)
    · exact absurd e (by simp)

theorem intOp_run {op : BinOp} {k : IntKind} {a b : Int} {v : V} (e : intOp op k a b = some v) (hns : op ≠ .shl) (hns' : op ≠ .shr) (t : TypeId) :
    ∃ rv, (binOp op t (.int k a) (.int k b)).run P w = .ok rv w ∧ R T G v rv := by
  cases op <;> simp only [intOp, Option.some.injEq, reduceCtorEq] at e <;> try (exact absurd rfl hns) <;> try (exact absurd rfl hns')
  all_goals first
    | (subst e; exact ⟨_, by simp only [binOp, ne_eq, not_true_eq_false, if_false]; rfl, .int _ _⟩)
    | (subst e; exact ⟨_, by simp only [binOp, ne_eq, not_true_eq_false, if_false]; rfl, .bool _⟩)
    | skip
  · split at e
    · exact absurd e (by simp)
    · rename_i hb
      simp only [Option.some.injEq] at e; subst e
      exact ⟨_, by simp [binOp, Op.intDiv, hb], .int _ _⟩
  · split at e
    · exact absurd e (by simp)
    · rename_i hb
      simp only [Option.some.injEq] at e; subst e
      exact ⟨_, by simp [binOp, Op.intDiv, hb], .int _ _⟩


theorem shiftOp_run {op : BinOp} {k k' : IntKind} {a b : Int} {v : V} (e : shiftOp op k a b = some v) (hs : op = .shl ∨ op = .shr) (t : TypeId) :
    ∃ rv, (binOp op t (.int k a) (.int k' b)).run P w = .ok rv w ∧ R T G v rv := by
  unfold shiftOp at e
  split at e
  · exact absurd e (by simp)
  · rename_i hb
    rcases hs with rfl | rfl <;> simp only [Option.some.injEq] at e <;> subst e
    · exact ⟨_, by simp [binOp, Op.shift, hb], .int _ _⟩
    · exact ⟨_, by simp [binOp, Op.shift, hb], .int _ _⟩

theorem strOp_run {op : BinOp} {x y : ByteArray} {v : V} (e : strOp op x.data.toList y.data.toList = some v) (t : TypeId) :
    ∃ rv, (binOp op t (.string x) (.string y)).run P w = .ok rv w ∧ R T G v rv := by
  have hx : x.toList = x.data.toList := ByteArray.toList_eq ..
  have hy : y.toList = y.data.toList := ByteArray.toList_eq ..
  have hsx : x.data.toList.length = x.size := by simp
  have hsy : y.data.toList.length = y.size := by simp
  cases op <;> simp only [strOp, Option.some.injEq, reduceCtorEq] at e
  · split at e
    · rename_i hl
      simp only [Option.some.injEq] at e; subst e
      refine ⟨.string (x ++ y), ?_, .str _ _ ?_⟩
      · simp only [binOp, Op.stringOp]
        rw [if_neg]
        · rfl
        · rw [hsx, hsy] at hl
          simp only [IntKind.max, gt_iff_lt]
          show ¬ ((2 : Int) ^ 63 - 1 < _)
          omega
      · simp
    · exact absurd e (by simp)
  all_goals (subst e; exact ⟨_, by simp only [binOp, Op.stringOp, hx, hy]; rfl, .bool _⟩)

theorem binV_run {op : BinOp} {x y : V} {rx ry : Value} {v : V} (e : binV op x y = some v) (hx : R T G x rx) (hy : R T G y ry) (t : TypeId) (ox oy : Operand) :
    ∃ rv, (do eqGuard op t ox oy rx ry; binOp op t rx ry : Sem Value).run P w = .ok rv w ∧ R T G v rv := by
  unfold binV at e
  split at e
  · obtain rfl := hx.int_inv
    obtain rfl := hy.int_inv
    rename_i k a k' b
    have hg : (eqGuard op t ox oy (.int k a) (.int k' b)).run P w = .ok () w := by unfold eqGuard; cases op <;> simp
    simp only [Sem.run_bind, hg, Result.andThen_ok]
    split at e
    · exact shiftOp_run e (.inl rfl) t
    · exact shiftOp_run e (.inr rfl) t
    · split at e
      · rename_i h1 h2 hk; subst hk; exact intOp_run e h1 h2 t
      · exact absurd e (by simp)
  · obtain ⟨s, rfl, hs⟩ := hx.str_inv
    obtain ⟨s', rfl, hs'⟩ := hy.str_inv
    have hg : (eqGuard op t ox oy (.string s) (.string s')).run P w = .ok () w := by unfold eqGuard; cases op <;> simp
    simp only [Sem.run_bind, hg, Result.andThen_ok]
    subst hs; subst hs'
    exact strOp_run e t
  · exact absurd e (by simp)


theorem kind_of {p : TypeDesc → Bool} {t : TypeId} (h : isKind P p t = true) : ∃ d, P.underlying t = some d ∧ p d = true := by
  unfold isKind at h
  split at h
  · exact ⟨_, ‹_›, h⟩
  · exact absurd h (by simp)

set_option maxHeartbeats 2000000 in
theorem nil_eq {k : NK} {x : V} {rx : Value} {b : Bool} (e : isNil k x = some b) (hx : R T G x rx) {t : TypeId} {d : TypeDesc} (hd : P.underlying t = some d) (hk : nilTy k d = true) (n : Nat) {nv : Value}
    (hn : isNilConst k (.const nv) = true) : (Op.equalIn (n + 1) t rx nv).run P w = .ok b w ∧ (Op.equalIn (n + 1) t nv rx).run P w = .ok b w := by
  unfold isNil at e
  split at e <;> simp only [Option.some.injEq, reduceCtorEq] at e <;> subst e
  all_goals
    cases d <;> simp [nilTy] at hk
    unfold isNilConst at hn
    split at hn <;> simp only [reduceCtorEq, Bool.false_eq_true] at hn <;> rename_i hh <;> cases hh <;> (try contradiction)
    first
      | (obtain ⟨a, cap, rfl, _, _, hg⟩ := hx.gsl_inv; rcases hg with h0 | ⟨g, _, _, rfl, _⟩ <;> first | omega | (simp [Op.equalIn, run_und hd]; done))
      | (obtain ⟨g, _, rfl⟩ := hx.ptr_inv; simp [Op.equalIn, run_und hd]; done)
      | (obtain ⟨bb, ba, f, rfl, _⟩ := hx.eptr_inv; simp [Op.equalIn, run_und hd]; done)
      | (obtain ⟨tid, rv, rfl, _⟩ := hx.iface_inv; simp [Op.equalIn, run_und hd]; done)
      | (obtain ⟨fid, a, b, rfl, _⟩ := hx.func_inv; simp [Op.equalIn, run_und hd]; done)
      | (obtain ⟨a, cap, bb, oo, f, rfl, _, htg, _⟩ := hx.sl_inv; obtain rfl := htg.2.1 rfl; simp [Op.equalIn, run_und hd]; done)
      | (obtain ⟨a, cap, bb, oo, f, rfl, _, htg, _⟩ := hx.sl_inv; obtain ⟨ad, rfl⟩ := Option.isSome_iff_exists.1 (htg.2.2 rfl); simp [Op.equalIn, run_und hd]; done)
      | (obtain ⟨a, cap, bb, oo, f, rfl, _, _, ha, _⟩ := hx.sl_inv; simp at ha; subst ha; simp [Op.equalIn, run_und hd]; done)
      | (cases hx; simp [Op.equalIn, run_und hd]; done)

theorem isNil_run {k : NK} {x : V} {rx : Value} {b : Bool} (e : isNil k x = some b) (hx : R T G x rx) {t : TypeId} (ht : isKind P (nilTy k) t = true) (op : BinOp) (neg : Bool)
    (hop : (match op with | .eql => !neg | .neq => neg | _ => false) = true) {nv : Value} (hn : isNilConst k (.const nv) = true) (ox : Operand) :
    (do eqGuard op t ox (.const nv) rx nv; binOp op t rx nv : Sem Value).run P w = .ok (.bool (if neg then !b else b)) w ∧
    (do eqGuard op t (.const nv) ox nv rx; binOp op t nv rx : Sem Value).run P w = .ok (.bool (if neg then !b else b)) w := by
  obtain ⟨d, hd, hk⟩ := kind_of ht
  obtain ⟨e1, e2⟩ := nil_eq (w := w) e hx hd hk 9999 hn
  have e1' : (Op.equal t rx nv).run P w = .ok b w := e1
  have e2' : (Op.equal t nv rx).run P w = .ok b w := e2
  have shape : ((∃ a, rx = .pointer a) ∧ nv = .pointer none) ∨ ((rx = .nilIface ∨ ∃ a c, rx = .iface a c) ∧ nv = .nilIface) ∨ ((rx = .nilFunc ∨ ∃ a c q, rx = .func a c q) ∧ nv = .nilFunc) ∨
      ((∃ a, rx = .map a) ∧ nv = .map none) ∨ ((∃ a c q, rx = .slice a c q) ∧ ∃ c q, nv = .slice none c q) := by
    unfold isNilConst at hn
    unfold isNil at e
    split at e <;> simp only [Option.some.injEq, reduceCtorEq] at e
    all_goals
      split at hn <;> simp only [reduceCtorEq, Bool.false_eq_true] at hn <;> rename_i hh <;> cases hh <;> (try contradiction)
      cases hx
      simp
  have g1 : (eqGuard op t ox (.const nv) rx nv).run P w = .ok () w := by
    unfold eqGuard
    rcases shape with ⟨⟨a, rfl⟩, rfl⟩ | ⟨rfl | ⟨a, c, rfl⟩, rfl⟩ | ⟨rfl | ⟨a, c, q, rfl⟩, rfl⟩ | ⟨⟨a, rfl⟩, rfl⟩ | ⟨⟨a, c, q, rfl⟩, c', q', rfl⟩ <;> cases op <;> simp
  have g2 : (eqGuard op t (.const nv) ox nv rx).run P w = .ok () w := by
    unfold eqGuard
    rcases shape with ⟨⟨a, rfl⟩, rfl⟩ | ⟨rfl | ⟨a, c, rfl⟩, rfl⟩ | ⟨rfl | ⟨a, c, q, rfl⟩, rfl⟩ | ⟨⟨a, rfl⟩, rfl⟩ | ⟨⟨a, c, q, rfl⟩, c', q', rfl⟩ <;> cases op <;> simp
  simp only [Sem.run_bind, g1, g2, Result.andThen_ok]
  rcases shape with ⟨⟨a, rfl⟩, rfl⟩ | ⟨rfl | ⟨a, c, rfl⟩, rfl⟩ | ⟨rfl | ⟨a, c, q, rfl⟩, rfl⟩ | ⟨⟨a, rfl⟩, rfl⟩ | ⟨⟨a, c, q, rfl⟩, c', q', rfl⟩ <;> cases op <;> simp at hop <;> subst hop <;>
    simp only [binOp, Sem.run_bind, e1', e2', Result.andThen_ok, Sem.run_pure] <;> simp

theorem unV_run {op : UnOp} {x : V} {rx : Value} {v : V} (e : unV op x = some v) (hx : R T G x rx) : ∃ rv, (Op.unary op rx).run P w = .ok rv w ∧ R T G v rv := by
  unfold unV at e
  split at e <;> simp only [Option.some.injEq, reduceCtorEq] at e <;> subst e
  · obtain rfl := hx.bool_inv; exact ⟨_, rfl, .bool _⟩
  · obtain rfl := hx.int_inv; exact ⟨_, rfl, .int _ _⟩
  · obtain rfl := hx.int_inv; exact ⟨_, rfl, .int _ _⟩

theorem faddrV_run {x v : V} {rx : Value} {off : Nat} (e : faddrV x off = some v) (hx : R T G x rx) : ∃ a : Addr, rx = .pointer (some a) ∧ a.spot = none ∧ R T G v (.pointer (some (a.add off))) := by
  unfold faddrV at e
  split at e <;> simp only [Option.some.injEq, reduceCtorEq] at e <;> subst e
  · obtain ⟨g, hg, rfl⟩ := hx.ptr_inv
    refine ⟨_, rfl, rfl, ?_⟩
    rw [add_spot, Nat.add_assoc]
    exact .ptr _ _ _ _ g hg
  · obtain ⟨b, base, f, rfl, hg, hR, ho⟩ := hx.eptr_inv
    refine ⟨_, rfl, rfl, ?_⟩
    rw [add_spot, Nat.add_assoc]
    exact .eptr _ _ _ b base f hg hR ho

theorem iaddrV_run {n : Nat} {x i v : V} {rx ri : Value} (e : iaddrV n x i = some v) (hx : R T G x rx) (hi : R T G i ri) {t el : TypeId} (ht : sliceElem P t = some el) (hs : szOf P el = some n) :
    ∃ rv, (Instr.indexAt t rx ri).run P w = .ok rv w ∧ R T G v rv := by
  have hu : P.underlying t = some (.slice el) := by
    unfold sliceElem at ht; split at ht
    · simp at ht; subst ht; assumption
    · exact absurd ht (by simp)
  unfold iaddrV at e
  split at e
  · rename_i z es tg k i
    obtain ⟨a, cap, b, o, f, rfl, hc, htg, ha, hz, hg, hR, ho⟩ := hx.sl_inv
    obtain rfl := hi.int_inv
    split at e
    · rename_i hn
      obtain ⟨rfl, hn⟩ := hn
      simp only [Option.map_eq_some_iff] at e
      obtain ⟨e', he, rfl⟩ := e
      have hlt : i.toNat < es.length := (List.getElem?_eq_some_iff.1 he).1
      have hne : es ≠ [] := by intro hh; subst hh; simp at hlt
      rw [ha hne]
      refine ⟨.pointer (some ⟨b, o + i.toNat * n, none⟩), ?_, ?_⟩
      · have : 0 ≤ i ∧ i < (es.length : Int) := ⟨hn, by omega⟩
        simp [Instr.indexAt, asIntOf, run_und hu, run_sz hs, this, add_spot]
      · exact .eptr e' 0 tg b (o + i.toNat * n) (fun j => f i.toNat j) (fun j c hc => hg _ _ _ _ he hc) (fun j c hc => hR _ _ _ _ he hc) (fun j c hc => ho _ _ _ _ he hc)
    · exact absurd e (by simp)
  · rename_i B ep z off len k i
    obtain ⟨a, cap, rfl, hB, hl, hg⟩ := hx.gsl_inv
    obtain rfl := hi.int_inv
    split at e
    · rename_i hn
      obtain ⟨rfl, hn1, hn2⟩ := hn
      simp only [Option.some.injEq] at e; subst e
      rcases hg with rfl | ⟨g, h1, h2, rfl, h3⟩
      · omega
      · refine ⟨.pointer (some ⟨g.b, g.o + off * n + i.toNat * n, none⟩), ?_, ?_⟩
        · have : 0 ≤ i ∧ i < (len : Int) := ⟨hn1, hn2⟩
          simp [Instr.indexAt, asIntOf, run_und hu, run_sz hs, this, add_spot]
        · have := R.ptr (T := T) B ep (off + i.toNat) 0 g h1
          rw [h2, Nat.add_mul, Nat.add_zero, ← Nat.add_assoc] at this
          exact this
    · exact absurd e (by simp)
  · exact absurd e (by simp)

theorem iaddrA_run {len n : Nat} {x i v : V} {rx ri : Value} (e : iaddrA len n x i = some v) (hx : R T G x rx) (hi : R T G i ri) {t el : TypeId} (hu : P.underlying t = some (.array len el)) (hs : szOf P el = some n) :
    ∃ rv, (Instr.indexAt t rx ri).run P w = .ok rv w ∧ R T G v rv := by
  unfold iaddrA at e
  split at e
  · rename_i k i
    obtain rfl := hi.int_inv
    split at e
    · rename_i hn
      obtain ⟨a, rfl, hsp, hR⟩ := faddrV_run e hx
      exact ⟨_, by simp [Instr.indexAt, Instr.sureAddr, asIntOf, run_und hu, run_sz hs, hn], hR⟩
    · exact absurd e (by simp)
  · exact absurd e (by simp)

theorem idxS_run {x i v : V} {rx ri : Value} (e : idxS x i = some v) (hx : R T G x rx) (hi : R T G i ri) {t : TypeId} (hu : P.underlying t = some .string) :
    ∃ rv, (Instr.index t rx ri).run P w = .ok rv w ∧ R T G v rv := by
  unfold idxS at e
  split at e
  · rename_i l k i
    obtain ⟨s, rfl, hs⟩ := hx.str_inv
    obtain rfl := hi.int_inv
    split at e
    · rename_i hn
      simp only [Option.map_eq_some_iff] at e
      obtain ⟨b, hb, rfl⟩ := e
      refine ⟨.int .u8 b.toNat, ?_, .int _ _⟩
      have hb' : s[i.toNat]? = some b := by
        rw [← hs] at hb
        have : i.toNat < s.size := by have := (List.getElem?_eq_some_iff.1 hb).1; simpa using this
        simp only [getElem?_def] at hb ⊢
        rw [dif_pos (by simpa using this)] at hb
        rw [dif_pos this]
        rw [← hb]; rfl
      simp [Instr.index, asIntOf, run_und hu, hn, hb']
    · exact absurd e (by simp)
  · exact absurd e (by simp)

theorem lenV_run {text : Bool} {x v : V} {rx : Value} (e : lenV text x = some v) (hx : R T G x rx) {ts : Array TypeId} {t ty : TypeId} (hts : ts[0]? = some t) (ht : isKind P (if text then isStr else isSlice) t = true) :
    ∃ rv, (Builtin.len_ ts ty #[rx]).run P w = .ok rv w ∧ R T G v rv := by
  obtain ⟨d, hd, hk⟩ := kind_of ht
  unfold lenV at e
  split at e
  · rename_i htx
    rw [if_pos htx] at hk
    split at e
    · simp only [Option.some.injEq] at e; subst e
      obtain ⟨s, rfl, hs⟩ := hx.str_inv
      cases d <;> simp [isStr] at hk
      refine ⟨.int .i64 s.size, by simp [Builtin.len_, hts, run_und hd, goInt], ?_⟩
      rw [← hs]; simpa using R.int (T := T) (G := G) .i64 (s.size : Int)
    · exact absurd e (by simp)
  · rename_i htx
    rw [if_neg htx] at hk
    cases d <;> simp [isSlice] at hk
    split at e <;> simp only [Option.some.injEq, reduceCtorEq] at e <;> subst e
    · obtain ⟨a, cap, b, o, f, rfl, _⟩ := hx.sl_inv
      exact ⟨_, by simp [Builtin.len_, hts, run_und hd, goInt]; try rfl, .int _ _⟩
    · obtain ⟨a, cap, rfl, _⟩ := hx.gsl_inv
      exact ⟨_, by simp [Builtin.len_, hts, run_und hd, goInt]; try rfl, .int _ _⟩

end
end Go.VE
