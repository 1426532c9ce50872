/- Joined texts: VeOps, VeOps2, VeOps3, VeMem, VeMem2, VeGc. No condition: what each theorem needs stands in it. -/
import Derived.Test.YtlekfkibeafdiaaGreatVa0
import Derived.Laws.StructEq
import Derived.ChangeKeysEq
import Derived.Laws.BytesString
namespace Go.VE
set_option linter.unnecessarySimpa false
def J0(P:Program)(T:Tbl)(lo:Nat)(G:Gh)(h:Zg)(w:World)(s:Sem Next)(x:V)(h':Zg):Prop:=
 ∃nx rv w' G',s.run P w=.ok nx w'∧(nx=.value rv∨(nx=.skip∧rv=undef))∧R T G' x rv∧Zz T G' lo h' w'∧Stp lo G h w G' h' w'
section
variable {P : Program} {T : Tbl} {G : Gh} {w : World} {lo : Nat} {h : Zg}
theorem J0.same{s:Sem Next}{x:V}{rv:Value}(hi:Zz T G lo h w)(hr:s.run P w=.ok (.value rv) w)(hR:R T G x rv):J0 P T lo G h w s x h:=
 ⟨_,rv,w,G,hr,.inl rfl,hR,hi,.refl _ _ _ _⟩
theorem Vl{t:TypeId}(ht:Xf P t=some false){cs:Array Value}{off:Nat}{v:Value}(hv:cs[off]? =some v):(part t cs off).run P w=.ok v w:=by
 simp[part,Ju ht,hv]
theorem Zl8(a b:ByteArray):(a.toList==b.toList)=(a.data.toList==b.data.toList):=by
 rw[ByteArray.toList_eq,ByteArray.toList_eq]
theorem Ziv{k:EK}{t:TypeId}(hk:Vn P k t=true)(d:Nat){x y:V}{rx ry:Value}{r:Bool}(hx:R T G x rx)(hy:R T G y ry)(e:eqK k x y=some r):
 Xf P t=some false∧(Op.equalIn (d+1) t rx ry).run P w=.ok r w:=by
 unfold eqK at e
 split at e
 ·obtain rfl:=hx.bool_inv
  obtain rfl:=hy.bool_inv
  simp only[Option.some.injEq]at e
  cases hu:P.underlying t with
  |none=>simp[Vn,hu]at hk
  |some u=>
   cases u<;>simp[Vn,hu]at hk
   exact⟨by simp[Xf,hu],by rw[run_equalIn_bool' w d t _ _ hu,e]⟩
 ·obtain rfl:=hx.int_inv
  obtain rfl:=hy.int_inv
  split at e
  ·rename_i hkk
   subst hkk
   simp only[Option.some.injEq]at e
   cases hu:P.underlying t with
   |none=>simp[Vn,hu]at hk
   |some u=>
    cases u<;>simp[Vn,hu]at hk
    exact⟨by simp[Xf,hu],by rw[run_equalIn_int w d t _ _ _ _ hu,e]⟩
  ·exact absurd e (by simp)
 ·obtain⟨s,rfl,hs⟩:=hx.str_inv
  obtain⟨s',rfl,hs'⟩:=hy.str_inv
  simp only[Option.some.injEq]at e
  cases hu:P.underlying t with
  |none=>simp[Vn,hu]at hk
  |some u=>
   cases u<;>simp[Vn,hu]at hk
   refine⟨by simp[Xf,hu],?_⟩
   rw[run_equalIn_string w d t _ _ hu,Zl8,hs,hs',e]
 ·exact absurd e (by simp)
theorem Qx: ∀(k1:List EK) {k2:List EK} {a1 a2 b1 b2:List V} {r:Bool},a1.length=k1.length→b1.length=k1.length→Ux (k1++k2) (a1++a2) (b1++b2)=some r→(Ux k1 a1 b1=some true∧Ux k2 a2 b2=some r)∨(Ux k1 a1 b1=some false∧r=false)
 |[],k2,a1,a2,b1,b2,r,h1,h2,e=>by
  obtain rfl:=List.length_eq_zero_iff.1 h1
  obtain rfl:=List.length_eq_zero_iff.1 h2
  exact .inl ⟨rfl,e⟩
 |k::k1,k2,[],a2,b1,b2,r,h1,h2,e=>by simp at h1
 |k::k1,k2,a::a1,a2,[],b2,r,h1,h2,e=>by simp at h2
 |k::k1,k2,a::a1,a2,b::b1,b2,r,h1,h2,e=>by
  simp only[List.cons_append,Ux,Option.bind_eq_some_iff]at e
  obtain⟨q,hq,e⟩:=e
  cases q with
  |false=>
   simp only[Bool.false_eq_true,if_false,Option.some.injEq]at e
   exact .inr ⟨by simp[Ux,hq],e.symm⟩
  |true=>
   simp only[if_true]at e
   rcases Qx k1 (by simpa using h1) (by simpa using h2) e with⟨e1,e2⟩|⟨e1,e2⟩
   ·exact .inl ⟨by simp[Ux,hq,e1],e2⟩
   ·exact .inr ⟨by simp[Ux,hq,e1],e2⟩
def XT(T:Tbl)(G:Gh)(vs:List V)(xs:Array Value)(o:Nat):Prop:= ∀(i:Nat) (v:V) (rv:Value),vs[i]? =some v→xs[o+i]? =some rv→R T G v rv
theorem XT.take{vs:List V}{xs:Array Value}{o:Nat}(h:XT T G vs xs o)(n:Nat):XT T G (vs.take n) xs o:=fun i v rv h1 h2=>h i v rv (by
 rw[List.getElem?_take]at h1;split at h1
 ·exact h1
 ·simp at h1) h2
theorem XT.drop{vs:List V}{xs:Array Value}{o:Nat}(h:XT T G vs xs o)(n:Nat):XT T G (vs.drop n) xs (o+n):=fun i v rv h1 h2=>h (n+i) v rv (by rw[←List.getElem?_drop];exact h1) (by rw[←h2];congr 1;omega)
theorem XT.cut{vs:List V}{xs:Array Value}{o n:Nat}(h:XT T G vs xs o):XT T G vs (xs.extract o (o+n)) 0:=fun i v rv h1 h2=>h i v rv h1 (by
 simp only[Nat.zero_add,Array.getElem?_extract]at h2
 split at h2
 ·exact h2
 ·simp at h2)
def Zdo(P:Program)(T:Tbl)(G:Gh)(w:World)(d:Nat):Prop:= ∀{t:TypeId} {ks:List EK},WJ P d t=some ks→∀{xs ys:Array Value} {ox oy:Nat} {vs us:List V} {r:Bool},vs.length=ks.length→us.length=ks.length→ox+ks.length≤xs.size→oy+ks.length≤ys.size→XT T G vs xs ox→XT T G us ys oy→Ux ks vs us=some r→∀D,d≤D→∃px py,(part t xs ox).run P w=.ok px w∧(part t ys oy).run P w=.ok py w∧(Op.equalIn D t px py).run P w=.ok r w
theorem Ze7{d D:Nat}(ih:Zdo P T G w d)(hD:d≤D): ∀(fs:List Field) {k:Nat} {ks:List EK} {xs ys:Array Value} {vs us:List V} {r:Bool},Znx (WJ P d) k fs=some ks→vs.length=ks.length→us.length=ks.length→k+ks.length≤xs.size→k+ks.length≤ys.size→XT T G vs xs k→XT T G us ys k→Ux ks vs us=some r→(Op.eqFields D xs ys fs).run P w=.ok r w
 |[],k,ks,xs,ys,vs,us,r,hc,hl,hl',_,_,_,_,e=>by
  simp only[Znx,Option.some.injEq]at hc
  subst hc
  obtain rfl:=List.length_eq_zero_iff.1 hl
  obtain rfl:=List.length_eq_zero_iff.1 hl'
  simp only[Ux,Option.some.injEq]at e
  subst e;simp[Op.eqFields]
 |f::fs,k,ks,xs,ys,vs,us,r,hc,hl,hl',hx,hy,cx,cy,e=>by
  simp only[Znx]at hc
  split at hc
  ·rename_i hf
   simp only[Bool.and_eq_true,bne_iff_ne,ne_eq,beq_iff_eq]at hf
   simp only[Option.bind_eq_some_iff,Option.map_eq_some_iff]at hc
   obtain⟨k1,h1,k2,h2,rfl⟩:=hc
   simp only[List.length_append]at hl hl' hx hy
   rw[←List.take_append_drop k1.length vs,←List.take_append_drop k1.length us]at e
   have l1:(vs.take k1.length).length=k1.length:=by simp;omega
   have l2:(us.take k1.length).length=k1.length:=by simp;omega
   have key: ∀q,Ux k1 (vs.take k1.length) (us.take k1.length)=some q→(Op.eqFields D xs ys (f::fs)).run P w=if q=true then(Op.eqFields D xs ys fs).run P w else .ok false w:=fun q hq=>by
    obtain⟨px,py,p1,p2,p3⟩:=ih h1 (xs:=xs) (ys:=ys) (ox:=f.offset) (oy:=f.offset) l1 l2 (by omega) (by omega) (by rw[hf.2];exact cx.take _) (by rw[hf.2];exact cy.take _) hq D hD
    simp only[Op.eqFields]
    rw[if_pos hf.1]
    simp only[Sem.run_bind,p1,p2,p3,Result.andThen_ok,Sem.run_ite,Sem.run_pure]
    cases q<;>simp
   rcases Qx k1 l1 l2 e with⟨e1,e2⟩|⟨e1,rfl⟩
   ·rw[key _ e1,if_pos rfl]
    exact Ze7 ih hD fs h2 (by simp;omega) (by simp;omega) (by omega) (by omega) (cx.drop _) (cy.drop _) e2
   ·rw[key _ e1];simp
  ·simp at hc
theorem Zfm{d D:Nat}(ih:Zdo P T G w d)(hD:d≤D){e:TypeId}{ks:List EK}(hk:WJ P d e=some ks){xs ys:Array Value}: ∀(n k:Nat) {vs us:List V} {r:Bool},vs.length=n*ks.length→us.length=n*ks.length→(k+n)*ks.length≤xs.size→(k+n)*ks.length≤ys.size→XT T G vs xs (k*ks.length)→XT T G us ys (k*ks.length)→Ux (List.replicate n ks).flatten vs us=some r→(Op.eqItems D e ks.length xs ys (List.range' k n)).run P w=.ok r w
 |0,k,vs,us,r,hl,hl',_,_,_,_,h=>by
  rw[Nat.zero_mul]at hl hl'
  obtain rfl:=List.length_eq_zero_iff.1 hl
  obtain rfl:=List.length_eq_zero_iff.1 hl'
  simp only[List.replicate_zero,List.flatten_nil,Ux,Option.some.injEq]at h
  subst h;simp[Op.eqItems]
 |n+1,k,vs,us,r,hl,hl',hx,hy,cx,cy,h=>by
  have hm:(n+1)*ks.length=ks.length+n*ks.length:=by rw[Nat.add_mul];omega
  have hm2:(k+(n+1))*ks.length=k*ks.length+ks.length+n*ks.length:=by simp only[Nat.add_mul];omega
  have hm3:(k+1)*ks.length=k*ks.length+ks.length:=by simp only[Nat.add_mul];omega
  have hm4:(k+1+n)*ks.length=k*ks.length+ks.length+n*ks.length:=by simp only[Nat.add_mul];omega
  rw[List.replicate_succ,List.flatten_cons,←List.take_append_drop ks.length vs,←List.take_append_drop ks.length us]at h
  have l1:(vs.take ks.length).length=ks.length:=by simp;omega
  have l2:(us.take ks.length).length=ks.length:=by simp;omega
  have key: ∀q,Ux ks (vs.take ks.length) (us.take ks.length)=some q→(Op.eqItems D e ks.length xs ys (k::List.range' (k+1) n)).run P w=if q=true then(Op.eqItems D e ks.length xs ys (List.range' (k+1) n)).run P w else .ok false w:=fun q hq=>by
   obtain⟨px,py,p1,p2,p3⟩:=ih hk (xs:=xs) (ys:=ys) (ox:=k*ks.length) (oy:=k*ks.length) l1 l2 (by omega) (by omega) (cx.take _) (cy.take _) hq D hD
   simp only[Op.eqItems,Sem.run_bind,p1,p2,p3,Result.andThen_ok,Sem.run_ite,Sem.run_pure]
   cases q<;>simp
  rw[List.range'_succ]
  rcases Qx ks l1 l2 h with⟨e1,e2⟩|⟨e1,rfl⟩
  ·rw[key _ e1,if_pos rfl]
   exact Zfm ih hD hk n (k+1) (by simp;omega) (by simp;omega) (by omega) (by omega) (by rw[hm3];exact cx.drop _) (by rw[hm3];exact cy.drop _) e2
  ·rw[key _ e1];simp
theorem JN{t:TypeId}{n:Nat}(ht:Xf P t=some true)(hs:Xh P t=some n)(cs:Array Value)(off:Nat):(part t cs off).run P w=.ok (.agg (cs.extract off (off+n))) w:=by
 unfold Xh at hs
 cases hi:P.info? t with
 |none=>simp[hi]at hs
 |some i=>
  simp only[hi,Option.map_some,Option.some.injEq]at hs
  simp[part,Ju ht,run_sizeOf w hi,Program.cellsOf,hi,hs]
theorem ZbS{d D:Nat}(ih:Zdo P T G w d)(hD:d≤D){t:TypeId}{ks:List EK}(hk:WJ P (d+1) t=some ks)(ha:Xf P t=some true){xs ys:Array Value}{vs us:List V}{r:Bool}(hl:vs.length=ks.length)(hl':us.length=ks.length)
 (hx:ks.length≤xs.size) (hy:ks.length≤ys.size) (cx:XT T G vs xs 0) (cy:XT T G us ys 0) (e:Ux ks vs us=some r):Xh P t=some ks.length∧(Op.equalIn (D+1) t (.agg xs) (.agg ys)).run P w=.ok r w:=by
 simp only[WJ]at hk
 cases hu:P.underlying t with
 |none=>simp[hu]at hk
 |some u=>
  rw[hu]at hk
  cases u<;>simp only[Xf,hu,Option.some.injEq,reduceCtorEq]at ha<;>try (simp at hk;done)
  ·rename_i n el
   simp only[Option.bind_eq_some_iff]at hk
   obtain⟨ks',hf,hk⟩:=hk
   split at hk
   ·rename_i hs
    simp only[Option.some.injEq]at hk
    subst hk
    have hlen:(List.replicate n ks').flatten.length=n*ks'.length:=by simp
    refine⟨by rw[hlen];exact hs.2,?_⟩
    have hs1:=hs.1
    unfold Xh at hs1
    cases hi:P.info? el with
    |none=>simp[hi]at hs1
    |some i=>
     simp only[hi,Option.map_some,Option.some.injEq]at hs1
     rw[run_equalIn_array w D xs ys hu hi]
     have:P.cellsOf el=ks'.length:=by simp[Program.cellsOf,hi,hs1]
     rw[this,List.range_eq_range']
     rw[hlen]at hl hl' hx hy
     exact Zfm ih hD hf n 0 hl hl' (by rw[Nat.zero_add];exact hx) (by rw[Nat.zero_add];exact hy) (by rw[Nat.zero_mul];exact cx) (by rw[Nat.zero_mul];exact cy) e
   ·simp at hk
  ·rename_i fs
   simp only at hk
   split at hk
   ·rename_i hp
    simp only[Option.bind_eq_some_iff]at hk
    obtain⟨ks',hf,hk⟩:=hk
    split at hk
    ·rename_i hs
     simp only[Option.some.injEq]at hk
     subst hk
     have hfs:P.fieldsOf t=fs:=by simp[Program.fieldsOf,hu]
     refine⟨hs,?_⟩
     rw[run_equalIn_struct w D t xs ys (by rw[hfs];exact hu) hp,hfs]
     exact Ze7 ih hD _ hf hl hl' (by omega) (by omega) cx cy e
    ·simp at hk
   ·simp at hk
theorem Zak(w:World): ∀d,Zdo P T G w d
 |0=>fun hk=>by simp[WJ]at hk
 |d+1=>by
  rename_i t ks
  intro hk xs ys ox oy vs us r hl hl' hx hy cx cy e D hD
  have sc: ∀k,ks=[k]→Vn P k t=true→∃px py,(part t xs ox).run P w=.ok px w∧(part t ys oy).run P w=.ok py w∧(Op.equalIn D t px py).run P w=.ok r w:=fun k hks hkk=>by
   subst hks
   match vs,us,hl,hl' with
   |[a],[b],_,_=>
    simp only[List.length_singleton]at hx hy
    simp only[Ux,Option.bind_eq_some_iff]at e
    obtain⟨q,hq,e⟩:=e
    have e:q=r:=by cases q<;>simpa using e
    subst e
    cases D with
    |zero=>omega
    |succ D=>
     have hvx:=cx 0 a xs[ox] (by simp) (by simp)
     have hvy:=cy 0 b ys[oy] (by simp) (by simp)
     have hr:=Ziv (w:=w) hkk D hvx hvy hq
     exact⟨_,_,Vl (w:=w) (P:=P) hr.1 (by simp),Vl (w:=w) (P:=P) hr.1 (by simp),hr.2⟩
  cases ha:Xf P t with
  |none=>simp only[Xf]at ha;simp only[WJ]at hk;cases hu:P.underlying t with
   |none=>simp[hu]at hk
   |some u=>rw[hu]at ha;cases u<;>simp at ha
  |some b=>
   cases b with
   |true=>
    have hX:ks.length≤(xs.extract ox (ox+ks.length)).size:=by simp;omega
    have hY:ks.length≤(ys.extract oy (oy+ks.length)).size:=by simp;omega
    cases D with
    |zero=>omega
    |succ D=>
     obtain⟨hs,hr⟩:=ZbS (Zak w d) (by omega:d≤D) hk ha hl hl' hX hY cx.cut cy.cut e
     exact⟨_,_,JN ha hs xs ox,JN ha hs ys oy,hr⟩
   |false=>
    have hk0:=hk
    simp only[WJ]at hk
    cases hu:P.underlying t with
    |none=>simp[hu]at hk
    |some u=>
     rw[hu]at hk
     cases u<;>simp only[reduceCtorEq,Option.some.injEq]at hk
     all_goals first
      |exact sc .b hk.symm (by simp[Vn,hu])
      |exact sc .i hk.symm (by simp[Vn,hu])
      |exact sc .s hk.symm (by simp[Vn,hu])
      |(simp[Xf,hu]at ha)
theorem Zqq{t:TypeId}{ks:Option (List EK)}(ht:Zt8 P t ks=true){x y:V}{rx ry:Value}{r:Bool}(hx:R T G x rx)(hy:R T G y ry)(e:eqV ks x y=some r)(ox oy:Operand)(op:BinOp):
 (eqGuard op t ox oy rx ry).run P w=.ok () w∧(Op.equal t rx ry).run P w=.ok r w∧((∃a b,rx=.bool a∧ry=.bool b)∨∃a b,rx=.agg a∧ry=.agg b):=by
 cases ks with
 |none=>
  simp only[eqV]at e
  have h1:=Ziv (w:=w) (k:=.b) ht 9999 hx hy e
  unfold eqK at e
  split at e
  ·obtain rfl:=hx.bool_inv
   obtain rfl:=hy.bool_inv
   refine⟨?_,h1.2,.inl ⟨_,_,rfl,rfl⟩⟩
   unfold eqGuard;cases op<;>simp
  ·rename_i hh;simp at hh
  ·rename_i hh;simp at hh
  ·exact absurd e (by simp)
 |some ks=>
  simp only[eqV]at e
  split at e
  ·rename_i as bs
   obtain⟨a,rfl,hl,ha,_⟩:=hx.agg_inv
   obtain⟨b,rfl,hl',hb,_⟩:=hy.agg_inv
   simp only[Zt8,Bool.and_eq_true,Bool.not_eq_true',beq_iff_eq]at ht
   obtain⟨⟨hp,hg⟩,hc⟩:=ht
   split at e
   ·rename_i hlen
    refine⟨?_,?_,.inr ⟨_,_,rfl,rfl⟩⟩
    ·unfold eqGuard;cases op<;>simp[hg]
    ·exact(ZbS (Zak w 7) (by omega:7≤9999) hc hp hlen.1 hlen.2 (by omega) (by omega) (fun i v rv h1 h2=>ha i v rv h1 (by simpa using h2)) (fun i v rv h1 h2=>hb i v rv h1 (by simpa using h2)) e).2
   ·exact absurd e (by simp)
  ·exact absurd e (by simp)
theorem Zk3{op:BinOp}{k:IntKind}{a b:Int}{v:V}(e:Ve op k a b=some v)(hns:op≠.shl)(hns':op≠.shr)(t:TypeId):
 ∃rv,(binOp op t (.int k a) (.int k b)).run P w=.ok rv w∧R T G v rv:=by
 cases op<;>simp only[Ve,Option.some.injEq,reduceCtorEq]at e<;>try (exact absurd rfl hns)<;>try (exact absurd rfl hns')
 all_goals first
  |(subst e;exact⟨_,by simp only[binOp,ne_eq,not_true_eq_false,if_false];rfl,.int _ _⟩)
  |(subst e;exact⟨_,by simp only[binOp,ne_eq,not_true_eq_false,if_false];rfl,.bool _⟩)
  |skip
 ·split at e
  ·exact absurd e (by simp)
  ·rename_i hb
   simp only[Option.some.injEq]at e;subst e
   exact⟨_,by simp[binOp,Op.intDiv,hb],.int _ _⟩
 ·split at e
  ·exact absurd e (by simp)
  ·rename_i hb
   simp only[Option.some.injEq]at e;subst e
   exact⟨_,by simp[binOp,Op.intDiv,hb],.int _ _⟩
theorem KB{op:BinOp}{k k':IntKind}{a b:Int}{v:V}(e:JK op k a b=some v)(hs:op=.shl∨op=.shr)(t:TypeId):
 ∃rv,(binOp op t (.int k a) (.int k' b)).run P w=.ok rv w∧R T G v rv:=by
 unfold JK at e
 split at e
 ·exact absurd e (by simp)
 ·rename_i hb
  rcases hs with rfl|rfl<;>simp only[Option.some.injEq]at e<;>subst e
  ·exact⟨_,by simp[binOp,Op.shift,hb],.int _ _⟩
  ·exact⟨_,by simp[binOp,Op.shift,hb],.int _ _⟩
theorem ZkQ{op:BinOp}{x y:ByteArray}{v:V}(e:ZfA op x.data.toList y.data.toList=some v)(t:TypeId):
 ∃rv,(binOp op t (.string x) (.string y)).run P w=.ok rv w∧R T G v rv:=by
 have hx:x.toList=x.data.toList:=ByteArray.toList_eq ..
 have hy:y.toList=y.data.toList:=ByteArray.toList_eq ..
 have hsx:x.data.toList.length=x.size:=by simp
 have hsy:y.data.toList.length=y.size:=by simp
 cases op<;>simp only[ZfA,Option.some.injEq,reduceCtorEq]at e
 ·split at e
  ·rename_i hl
   simp only[Option.some.injEq]at e;subst e
   refine⟨.string (x++y),?_,.str _ _ ?_⟩
   ·simp only[binOp,Op.stringOp]
    rw[if_neg]
    ·rfl
    ·rw[hsx,hsy]at hl
     simp only[IntKind.max,gt_iff_lt]
     show¬((2:Int)^63-1<_)
     omega
   ·simp
  ·exact absurd e (by simp)
 all_goals (subst e;exact⟨_,by simp only[binOp,Op.stringOp,hx,hy];rfl,.bool _⟩)
theorem ZlQ{op:BinOp}{x y:V}{rx ry:Value}{v:V}(e:Yh op x y=some v)(hx:R T G x rx)(hy:R T G y ry)(t:TypeId)(ox oy:Operand):
 ∃rv,(do eqGuard op t ox oy rx ry;binOp op t rx ry:Sem Value).run P w=.ok rv w∧R T G v rv:=by
 unfold Yh at e
 split at e
 ·obtain rfl:=hx.int_inv
  obtain rfl:=hy.int_inv
  rename_i k a k' b
  have hg:(eqGuard op t ox oy (.int k a) (.int k' b)).run P w=.ok () w:=by unfold eqGuard;cases op<;>simp
  simp only[Sem.run_bind,hg,Result.andThen_ok]
  split at e
  ·exact KB e (.inl rfl) t
  ·exact KB e (.inr rfl) t
  ·split at e
   ·rename_i h1 h2 hk;subst hk;exact Zk3 e h1 h2 t
   ·exact absurd e (by simp)
 ·obtain⟨s,rfl,hs⟩:=hx.str_inv
  obtain⟨s',rfl,hs'⟩:=hy.str_inv
  have hg:(eqGuard op t ox oy (.string s) (.string s')).run P w=.ok () w:=by unfold eqGuard;cases op<;>simp
  simp only[Sem.run_bind,hg,Result.andThen_ok]
  subst hs;subst hs'
  exact ZkQ e t
 ·exact absurd e (by simp)
theorem XD{p:TypeDesc→Bool}{t:TypeId}(h:Xk P p t=true): ∃d,P.underlying t=some d∧p d=true:=by
 unfold Xk at h
 split at h
 ·exact⟨_,‹_›,h⟩
 ·exact absurd h (by simp)
set_option maxHeartbeats 2000000 in
theorem ZsX{k:NK}{x:V}{rx:Value}{b:Bool}(e:Ui k x=some b)(hx:R T G x rx){t:TypeId}{d:TypeDesc}(hd:P.underlying t=some d)(hk:ZiB k d=true)(n:Nat){nv:Value}
 (hn:XK k (.const nv)=true):(Op.equalIn (n+1) t rx nv).run P w=.ok b w∧(Op.equalIn (n+1) t nv rx).run P w=.ok b w:=by
 unfold Ui at e
 split at e<;>simp only[Option.some.injEq,reduceCtorEq]at e<;>subst e
 all_goals
  cases d<;>simp[ZiB]at hk
  unfold XK at hn
  split at hn<;>simp only[reduceCtorEq,Bool.false_eq_true]at hn<;>rename_i hh<;>cases hh<;>(try contradiction)
  first
   |(obtain⟨a,cap,rfl,_,_,hg⟩:=hx.gsl_inv;rcases hg with h0|⟨g,_,_,rfl,_⟩<;>first|omega|(simp[Op.equalIn,ZB hd];done))
   |(obtain⟨g,_,rfl⟩:=hx.ptr_inv;simp[Op.equalIn,ZB hd];done)
   |(obtain⟨bb,ba,f,rfl,_⟩:=hx.eptr_inv;simp[Op.equalIn,ZB hd];done)
   |(obtain⟨tid,rv,rfl,_⟩:=hx.iface_inv;simp[Op.equalIn,ZB hd];done)
   |(obtain⟨fid,a,b,rfl,_⟩:=hx.func_inv;simp[Op.equalIn,ZB hd];done)
   |(obtain⟨a,cap,bb,oo,f,rfl,_,htg,_⟩:=hx.sl_inv;obtain rfl:=htg.2.1 rfl;simp[Op.equalIn,ZB hd];done)
   |(obtain⟨a,cap,bb,oo,f,rfl,_,htg,_⟩:=hx.sl_inv;obtain⟨ad,rfl⟩:=Option.isSome_iff_exists.1 (htg.2.2 rfl);simp[Op.equalIn,ZB hd];done)
   |(obtain⟨a,cap,bb,oo,f,rfl,_,_,ha,_⟩:=hx.sl_inv;simp at ha;subst ha;simp[Op.equalIn,ZB hd];done)
   |(cases hx;simp[Op.equalIn,ZB hd];done)
theorem ZbB{k:NK}{x:V}{rx:Value}{b:Bool}(e:Ui k x=some b)(hx:R T G x rx){t:TypeId}(ht:Xk P (ZiB k) t=true)(op:BinOp)(neg:Bool)
 (hop:(match op with|.eql=> !neg|.neq=>neg|_=>false)=true) {nv:Value} (hn:XK k (.const nv)=true) (ox:Operand):(do eqGuard op t ox (.const nv) rx nv;binOp op t rx nv:Sem Value).run P w=.ok (.bool (if neg then !b else b)) w∧(do eqGuard op t (.const nv) ox nv rx;binOp op t nv rx:Sem Value).run P w=.ok (.bool (if neg then !b else b)) w:=by
 obtain⟨d,hd,hk⟩:=XD ht
 obtain⟨e1,e2⟩:=ZsX (w:=w) e hx hd hk 9999 hn
 have e1':(Op.equal t rx nv).run P w=.ok b w:=e1
 have e2':(Op.equal t nv rx).run P w=.ok b w:=e2
 have shape:((∃a,rx=.pointer a)∧nv=.pointer none)∨((rx=.nilIface∨∃a c,rx=.iface a c)∧nv=.nilIface)∨((rx=.nilFunc∨∃a c q,rx=.func a c q)∧nv=.nilFunc)∨
  ((∃a,rx=.map a)∧nv=.map none)∨((∃a c q,rx=.slice a c q)∧∃c q,nv=.slice none c q):=by
  unfold XK at hn
  unfold Ui at e
  split at e<;>simp only[Option.some.injEq,reduceCtorEq]at e
  all_goals
   split at hn<;>simp only[reduceCtorEq,Bool.false_eq_true]at hn<;>rename_i hh<;>cases hh<;>(try contradiction)
   cases hx
   simp
 have g1:(eqGuard op t ox (.const nv) rx nv).run P w=.ok () w:=by
  unfold eqGuard
  rcases shape with⟨⟨a,rfl⟩,rfl⟩|⟨rfl|⟨a,c,rfl⟩,rfl⟩|⟨rfl|⟨a,c,q,rfl⟩,rfl⟩|⟨⟨a,rfl⟩,rfl⟩|⟨⟨a,c,q,rfl⟩,c',q',rfl⟩<;>cases op<;>simp
 have g2:(eqGuard op t (.const nv) ox nv rx).run P w=.ok () w:=by
  unfold eqGuard
  rcases shape with⟨⟨a,rfl⟩,rfl⟩|⟨rfl|⟨a,c,rfl⟩,rfl⟩|⟨rfl|⟨a,c,q,rfl⟩,rfl⟩|⟨⟨a,rfl⟩,rfl⟩|⟨⟨a,c,q,rfl⟩,c',q',rfl⟩<;>cases op<;>simp
 simp only[Sem.run_bind,g1,g2,Result.andThen_ok]
 rcases shape with⟨⟨a,rfl⟩,rfl⟩|⟨rfl|⟨a,c,rfl⟩,rfl⟩|⟨rfl|⟨a,c,q,rfl⟩,rfl⟩|⟨⟨a,rfl⟩,rfl⟩|⟨⟨a,c,q,rfl⟩,c',q',rfl⟩<;>cases op<;>simp at hop<;>subst hop<;>
  simp only[binOp,Sem.run_bind,e1',e2',Result.andThen_ok,Sem.run_pure]<;>simp
theorem ZqS{op:UnOp}{x:V}{rx:Value}{v:V}(e:unV op x=some v)(hx:R T G x rx): ∃rv,(Op.unary op rx).run P w=.ok rv w∧R T G v rv:=by
 unfold unV at e
 split at e<;>simp only[Option.some.injEq,reduceCtorEq]at e<;>subst e
 ·obtain rfl:=hx.bool_inv;exact⟨_,rfl,.bool _⟩
 ·obtain rfl:=hx.int_inv;exact⟨_,rfl,.int _ _⟩
 ·obtain rfl:=hx.int_inv;exact⟨_,rfl,.int _ _⟩
theorem K5{x v:V}{rx:Value}{off:Nat}(e:Ue x off=some v)(hx:R T G x rx): ∃a:Addr,rx=.pointer (some a)∧a.spot=none∧R T G v (.pointer (some (a.add off))):=by
 unfold Ue at e
 split at e<;>simp only[Option.some.injEq,reduceCtorEq]at e<;>subst e
 ·obtain⟨g,hg,rfl⟩:=hx.ptr_inv
  refine⟨_,rfl,rfl,?_⟩
  rw[XV,Nat.add_assoc]
  exact .ptr _ _ _ _ g hg
 ·obtain⟨b,base,f,rfl,hg,hR,ho⟩:=hx.eptr_inv
  refine⟨_,rfl,rfl,?_⟩
  rw[XV,Nat.add_assoc]
  exact .eptr _ _ _ b base f hg hR ho
theorem ZfQ{n:Nat}{x i v:V}{rx ri:Value}(e:Yb n x i=some v)(hx:R T G x rx)(hi:R T G i ri){t el:TypeId}(ht:YK P t=some el)(hs:Xh P el=some n):
 ∃rv,(Instr.indexAt t rx ri).run P w=.ok rv w∧R T G v rv:=by
 have hu:P.underlying t=some (.slice el):=by
  unfold YK at ht;split at ht
  ·simp at ht;subst ht;assumption
  ·exact absurd ht (by simp)
 unfold Yb at e
 split at e
 ·rename_i z es tg k i
  obtain⟨a,cap,b,o,f,rfl,hc,htg,ha,hz,hg,hR,ho⟩:=hx.sl_inv
  obtain rfl:=hi.int_inv
  split at e
  ·rename_i hn
   obtain⟨rfl,hn⟩:=hn
   simp only[Option.map_eq_some_iff]at e
   obtain⟨e',he,rfl⟩:=e
   have hlt:i.toNat<es.length:=(List.getElem?_eq_some_iff.1 he).1
   have hne:es≠[]:=by intro hh;subst hh;simp at hlt
   rw[ha hne]
   refine⟨.pointer (some ⟨b,o+i.toNat*n,none⟩),?_,?_⟩
   ·have:0≤i∧i<(es.length:Int):=⟨hn,by omega⟩
    simp[Instr.indexAt,asIntOf,ZB hu,Xm hs,this,XV]
   ·exact .eptr e' 0 tg b (o+i.toNat*n) (fun j=>f i.toNat j) (fun j c hc=>hg _ _ _ _ he hc) (fun j c hc=>hR _ _ _ _ he hc) (fun j c hc=>ho _ _ _ _ he hc)
  ·exact absurd e (by simp)
 ·rename_i B ep z off len k i
  obtain⟨a,cap,rfl,hB,hl,hg⟩:=hx.gsl_inv
  obtain rfl:=hi.int_inv
  split at e
  ·rename_i hn
   obtain⟨rfl,hn1,hn2⟩:=hn
   simp only[Option.some.injEq]at e;subst e
   rcases hg with rfl|⟨g,h1,h2,rfl,h3⟩
   ·omega
   ·refine⟨.pointer (some ⟨g.b,g.o+off*n+i.toNat*n,none⟩),?_,?_⟩
    ·have:0≤i∧i<(len:Int):=⟨hn1,hn2⟩
     simp[Instr.indexAt,asIntOf,ZB hu,Xm hs,this,XV]
    ·have:=R.ptr (T:=T) B ep (off+i.toNat) 0 g h1
     rw[h2,Nat.add_mul,Nat.add_zero,←Nat.add_assoc]at this
     exact this
  ·exact absurd e (by simp)
 ·exact absurd e (by simp)
theorem ZgX{len n:Nat}{x i v:V}{rx ri:Value}(e:iaddrA len n x i=some v)(hx:R T G x rx)(hi:R T G i ri){t el:TypeId}(hu:P.underlying t=some (.array len el))(hs:Xh P el=some n):
 ∃rv,(Instr.indexAt t rx ri).run P w=.ok rv w∧R T G v rv:=by
 unfold iaddrA at e
 split at e
 ·rename_i k i
  obtain rfl:=hi.int_inv
  split at e
  ·rename_i hn
   obtain⟨a,rfl,hsp,hR⟩:=K5 e hx
   exact⟨_,by simp[Instr.indexAt,Instr.sureAddr,asIntOf,ZB hu,Xm hs,hn],hR⟩
  ·exact absurd e (by simp)
 ·exact absurd e (by simp)
theorem Zml{x i v:V}{rx ri:Value}(e:idxS x i=some v)(hx:R T G x rx)(hi:R T G i ri){t:TypeId}(hu:P.underlying t=some .string):
 ∃rv,(Instr.index t rx ri).run P w=.ok rv w∧R T G v rv:=by
 unfold idxS at e
 split at e
 ·rename_i l k i
  obtain⟨s,rfl,hs⟩:=hx.str_inv
  obtain rfl:=hi.int_inv
  split at e
  ·rename_i hn
   simp only[Option.map_eq_some_iff]at e
   obtain⟨b,hb,rfl⟩:=e
   refine⟨.int .u8 b.toNat,?_,.int _ _⟩
   have hb':s[i.toNat]? =some b:=by
    rw[←hs]at hb
    have:i.toNat<s.size:=by have:=(List.getElem?_eq_some_iff.1 hb).1;simpa using this
    simp only[getElem?_def]at hb⊢
    rw[dif_pos (by simpa using this)]at hb
    rw[dif_pos this]
    rw[←hb];rfl
   simp[Instr.index,asIntOf,ZB hu,hn,hb']
  ·exact absurd e (by simp)
 ·exact absurd e (by simp)
theorem ZnH{text:Bool}{x v:V}{rx:Value}(e:Zbd text x=some v)(hx:R T G x rx){ts:Array TypeId}{t ty:TypeId}(hts:ts[0]? =some t)(ht:Xk P (if text then Um else ZcI) t=true):
 ∃rv,(Builtin.len_ ts ty #[rx]).run P w=.ok rv w∧R T G v rv:=by
 obtain⟨d,hd,hk⟩:=XD ht
 unfold Zbd at e
 split at e
 ·rename_i htx
  rw[if_pos htx]at hk
  split at e
  ·simp only[Option.some.injEq]at e;subst e
   obtain⟨s,rfl,hs⟩:=hx.str_inv
   cases d<;>simp[Um]at hk
   refine⟨.int .i64 s.size,by simp[Builtin.len_,hts,ZB hd,goInt],?_⟩
   rw[←hs];simpa using R.int (T:=T) (G:=G) .i64 (s.size:Int)
  ·exact absurd e (by simp)
 ·rename_i htx
  rw[if_neg htx]at hk
  cases d<;>simp[ZcI]at hk
  split at e<;>simp only[Option.some.injEq,reduceCtorEq]at e<;>subst e
  ·obtain⟨a,cap,b,o,f,rfl,_⟩:=hx.sl_inv
   exact⟨_,by simp[Builtin.len_,hts,ZB hd,goInt];try rfl,.int _ _⟩
  ·obtain⟨a,cap,rfl,_⟩:=hx.gsl_inv
   exact⟨_,by simp[Builtin.len_,hts,ZB hd,goInt];try rfl,.int _ _⟩
end
end Go.VE
namespace Go.VE
set_option linter.unnecessarySimpa false
section
variable {P : Program} {T : Tbl} {G : Gh} {w : World} {lo : Nat} {h : Zg}
def RO(T:Tbl)(G:Gh):Option V→Option Value→Prop
 |none,none=>True
 |some v,some rv=>R T G v rv
 |_,_=>False
theorem Xn{x:V}{rx:Value}(hx:R T G x rx){y d n:Nat}{code:BoundsCode}(e:bnd (some x) d y=some n):(Instr.sliceBound rx y code).run P w=.ok n w∧n≤y:=by
 unfold bnd at e
 split at e
 ·rename_i he;exact absurd he (by simp)
 ·rename_i k i he
  simp only[Option.some.injEq]at he;subst he
  obtain rfl:=hx.int_inv
  split at e
  ·rename_i hi
   simp only[Option.some.injEq]at e;subst e
   refine⟨?_,by omega⟩
   simp[Instr.sliceBound,asIntOf,hi]
  ·exact absurd e (by simp)
 ·exact absurd e (by simp)
theorem J5{x:Option V}{d top n:Nat}(e:bnd x d top=some n)(hd:x=none→d≤top):n≤top:=by
 unfold bnd at e
 split at e
 ·simp at e;subst e;exact hd rfl
 ·split at e
  ·simp at e;omega
  ·exact absurd e (by simp)
 ·exact absurd e (by simp)
theorem Jm{x:Option V}{d top top' n:Nat}(e:bnd x d top=some n)(ht:top≤top'):bnd x d top'=some n:=by
 unfold bnd at e⊢
 split at e
 ·exact e
 ·split at e
  ·rename_i hi
   rw[if_pos ⟨hi.1,by omega⟩];exact e
  ·exact absurd e (by simp)
 ·exact absurd e (by simp)
theorem Jd{len cap m h l:Nat}{lo' hi' mx':Option V}{rlo rhi rmx:Option Value}(hlo:RO T G lo' rlo)(hhi:RO T G hi' rhi)(hmx:RO T G mx' rmx)
 (hmh:rmx.isSome=true→rhi.isSome=true) (em:bnd mx' len cap=some m) (eh:bnd hi' len (if mx'.isSome then m else cap)=some h) (el:bnd lo' 0 h=some l) (isS:Bool):(Instr.sliceBounds isS len cap rlo rhi rmx).run P w=.ok (l,h,if mx'.isSome then m else cap) w:=by
 unfold Instr.sliceBounds
 cases mx' with
 |none=>
  cases rmx with
  |some _=>exact hmx.elim
  |none=>
   simp only[Option.isSome_none,Bool.false_eq_true,if_false]at eh⊢
   cases hi' with
   |none=>
    cases rhi with
    |some _=>exact hhi.elim
    |none=>
     simp only[bnd,Option.some.injEq]at eh;subst eh
     cases lo' with
     |none=>
      cases rlo with
      |some _=>exact hlo.elim
      |none=>simp only[bnd,Option.some.injEq]at el;subst el;simp
     |some x=>
      cases rlo with
      |none=>exact hlo.elim
      |some rx=>simp[(Xn (w:=w) (P:=P) hlo el).1]
   |some x=>
    cases rhi with
    |none=>exact hhi.elim
    |some rx=>
     have h1:=(Xn (w:=w) (P:=P) (code:=if isS then .sliceAcap else .sliceAlen) hhi eh).1
     cases lo' with
     |none=>
      cases rlo with
      |some _=>exact hlo.elim
      |none=>simp only[bnd,Option.some.injEq]at el;subst el;simp[h1]
     |some y=>
      cases rlo with
      |none=>exact hlo.elim
      |some ry=>simp[h1,(Xn (w:=w) (P:=P) hlo el).1]
 |some q=>
  cases rmx with
  |none=>exact hmx.elim
  |some rq=>
   simp only[Option.isSome_some,if_true]at eh⊢
   have h0:=(Xn (w:=w) (P:=P) (code:=if isS then .slice3Acap else .slice3Alen) hmx em).1
   cases hi' with
   |none=>
    cases rhi with
    |some _=>exact hhi.elim
    |none=>exact absurd (hmh rfl) (by simp)
   |some x=>
    cases rhi with
    |none=>exact hhi.elim
    |some rx=>
     have h1:=(Xn (w:=w) (P:=P) (code:=.slice3B) hhi eh).1
     cases lo' with
     |none=>
      cases rlo with
      |some _=>exact hlo.elim
      |none=>simp only[bnd,Option.some.injEq]at el;subst el;simp[h0,h1]
     |some y=>
      cases rlo with
      |none=>exact hlo.elim
      |some ry=>simp[h0,h1,(Xn (w:=w) (P:=P) hlo el).1]
theorem Zol{t:Tag}{full given:Bool}{b off:Nat}{v:Value}(e:gAt G t b off=some v):gAt G (Xj t full given) b off=some v:=by
 cases t<;>cases full<;>cases given<;>exact e
theorem ZgJ{n:Nat}{x v:V}{lo' hi' mx':Option V}{rx:Value}{rlo rhi rmx:Option Value}(e:Uh n x lo' hi' mx'=some v)(hx:R T G x rx)
 (hlo:RO T G lo' rlo) (hhi:RO T G hi' rhi) (hmx:RO T G mx' rmx) (hmh:rmx.isSome=true→rhi.isSome=true) {t:TypeId}
 (ht:(match P.underlying t with|some .string=>n==0|some (.slice e)=>Xh P e==some n&&decide (0<n)|_=>false)=true): ∃rv,(Instr.sliceAt t rx rlo rhi rmx).run P w=.ok rv w∧R T G v rv:=by
 have hsome:mx'.isSome=rmx.isSome:=by cases mx'<;>cases rmx<;>first|rfl|exact hmx.elim
 unfold Uh at e
 split at e
 ·rename_i l
  obtain⟨s,rfl,hs⟩:=hx.str_inv
  split at e
  ·rename_i hm
   simp only[Option.bind_eq_some_iff,Option.map_eq_some_iff]at e
   obtain⟨hh,eh,ll,el,rfl⟩:=e
   obtain⟨hn,hm⟩:=hm
   have hm':mx'=none:=by cases mx'<;>simp_all
   subst hm'
   have hr:rmx=none:=by cases rmx<;>simp_all
   subst hr
   have hsl:l.length=s.size:=by rw[←hs];simp
   split at ht
   ·rename_i hu
    have:=Jd (w:=w) (P:=P) (cap:=l.length) (len:=l.length) (m:=l.length) hlo hhi (mx':=none) (rmx:=none) trivial (by simp) rfl (by simpa using eh) el false
    refine⟨.string (s.extract ll hh),?_,.str _ _ ?_⟩
    ·simp only[Option.isSome_none,Bool.false_eq_true,if_false,hsl]at this
     simp[Instr.sliceAt,Instr.slice,ZB hu,this]
    ·rw[←hs]
     simp[ByteArray.data_extract,List.drop_take]
   ·simp at ht;omega
   ·exact absurd ht (by simp)
  ·exact absurd e (by simp)
 ·rename_i z es tg
  obtain⟨a,cap,b,o,f,rfl,hc,htg,ha,hz,hg,hR,ho⟩:=hx.sl_inv
  split at e
  ·rename_i hm
   obtain⟨rfl,hn⟩:=hm
   simp only[Option.bind_eq_some_iff,Option.map_eq_some_iff]at e
   obtain⟨m,em,hh,eh,ll,el,rfl⟩:=e
   split at ht
   ·simp at ht;omega
   ·rename_i el' hu
    simp only[Bool.and_eq_true,beq_iff_eq,decide_eq_true_eq]at ht
    have hml:m≤es.length:=J5 em (fun _=>Nat.le_refl _)
    have hm0:mx'=none→m=es.length:=by rintro rfl;simp[bnd]at em;omega
    have hhm:hh≤m:=J5 eh (fun h0=>by
     subst h0
     cases hmx':mx' with
     |none=>rw[hm0 hmx'];exact Nat.le_refl _
     |some q=>
      exfalso
      rw[hmx']at hsome
      have:=hmh (by simpa using hsome.symm)
      cases rhi with
      |none=>simp at this
      |some _=>exact hhi.elim)
    have hlh:ll≤hh:=J5 el (fun _=>Nat.zero_le _)
    have hB:=Jd (w:=w) (P:=P) (cap:=cap) (len:=es.length) (m:=m) hlo hhi hmx hmh (Jm em hc)
     (by split
         ·exact eh
         ·exact Jm eh (by omega)) el true
    have hmr:(if mx'.isSome=true then m else cap)≤cap∧hh≤(if mx'.isSome=true then m else cap):=by split<;>omega
    generalize hM:(if mx'.isSome=true then m else cap)=M at hB hmr
    refine⟨.slice (if M=ll then a else a.map (·.add (ll*n))) (hh-ll) (M-ll),?_,?_⟩
    ·simp[Instr.sliceAt,Instr.slice,ZB hu,hB,Xm ht.1]
    ·have hlen:((es.take hh).drop ll).length=hh-ll:=by simp;omega
     have hget: ∀i e,((es.take hh).drop ll)[i]? =some e→es[ll+i]? =some e:=by
      intro i e hi
      rw[List.getElem?_drop,List.getElem?_take]at hi
      split at hi
      ·exact hi
      ·exact absurd hi (by simp)
     have:=R.sl (T:=T) (G:=G) n ((es.take hh).drop ll) (Xj tg (hh==m) mx'.isSome) (if M=ll then a else a.map (·.add (ll*n))) (M-ll) b (o+ll*n) (fun i j=>f (ll+i) j)
      (by rw[hlen];omega)
      (by
        rw[hlen]
        have hnil:a=none→es=[]:=fun ha0=>by
         cases es with
         |nil=>rfl
         |cons e0 es0=>rw[ha (by simp)]at ha0;simp at ha0
        have hgiven:mx'.isSome=true→M=m:=fun hs=>by rw[if_pos hs]at hM;exact hM.symm
        have hfree:mx'.isSome=false→M=cap∧m=es.length:=fun hs=>by
         rw[hs]at hM
         exact⟨by simpa using hM.symm,hm0 (by cases mx'<;>simp_all)⟩
        have hMc:Qh tg=true→hh=m→M-ll=hh-ll:=fun hcl hq=>by
         have:=htg.1 hcl
         cases hs:mx'.isSome with
         |true=>rw[hgiven hs];omega
         |false=>rw[(hfree hs).1];have:=(hfree hs).2;omega
        refine⟨fun hq=> ?_,fun hq=> ?_,fun hq=> ?_⟩
        ·cases tg with
         |brw=>simp[Xj,Qh]at hq
         |clip=>
          simp only[Xj]at hq
          split at hq
          ·rename_i hq'
           exact hMc rfl (by simpa using hq')
          ·simp[Qh]at hq
         |ce=>
          simp only[Xj]at hq
          split at hq
          ·rename_i hq'
           exact hMc rfl (by simpa using hq')
          ·simp[Qh]at hq
         |nl=>
          have he:=hnil (htg.2.1 rfl)
          subst he
          have:=htg.1 rfl
          simp at this hml
          cases hs:mx'.isSome with
          |true=>rw[hgiven hs];omega
          |false=>rw[(hfree hs).1];omega
         |perm=>
          simp only[Xj]at hq
          split at hq
          ·rename_i hq'
           simp only[Bool.and_eq_true,beq_iff_eq]at hq'
           rw[hgiven hq'.1];omega
          ·simp[Qh]at hq
         |em=>
          simp only[Xj]at hq
          split at hq
          ·rename_i hq'
           simp only[Bool.and_eq_true,beq_iff_eq]at hq'
           rw[hgiven hq'.1];omega
          ·simp[Qh]at hq
        ·have:tg=.nl:=by
          cases tg<;>simp only[Xj]at hq<;>first|rfl|(split at hq<;>simp at hq)|simp at hq
         rw[htg.2.1 this];split<;>rfl
        ·have:ZaF tg=true:=by
          cases tg<;>simp only[Xj]at hq<;>first|rfl|(split at hq<;>simp[ZaF]at hq)|simp[ZaF]at hq
         have:=htg.2.2 this
         split
         ·exact this
         ·rw[Option.isSome_map];exact this)
      (by
        intro hne
        have:0<hh-ll:=by rw[←hlen];exact List.length_pos_iff.2 hne
        rw[if_neg (by omega),ha (by intro h0;subst h0;simp at hne)]
        simp[XV])
      (fun i e hi=>hz _ e (hget i e hi))
      (fun i e j c hi hj=>by
        have:=hg _ e j c (hget i e hi) hj
        rw[show o+ll*n+i*n+j=o+(ll+i)*n+j by rw[Nat.add_mul];omega]
        exact Zol this)
      (fun i e j c hi hj=>hR _ e j c (hget i e hi) hj)
      (fun i e j c hi hj=>ho _ e j c (hget i e hi) hj)
     rw[hlen]at this
     exact this
   ·exact absurd ht (by simp)
  ·exact absurd e (by simp)
 ·rename_i B ep z off len
  obtain⟨a,cap,rfl,hBn,hl,hg⟩:=hx.gsl_inv
  split at e
  ·rename_i hm
   obtain⟨rfl,hn⟩:=hm
   simp only[Option.bind_eq_some_iff,Option.map_eq_some_iff]at e
   obtain⟨m,em,hh,eh,ll,el,rfl⟩:=e
   split at ht
   ·simp at ht;omega
   ·rename_i el' hu
    simp only[Bool.and_eq_true,beq_iff_eq,decide_eq_true_eq]at ht
    have hml:m≤len:=J5 em (fun _=>Nat.le_refl _)
    have hm0:mx'=none→m=len:=by rintro rfl;simp[bnd]at em;omega
    have hhm:hh≤m:=J5 eh (fun h0=>by
     subst h0
     cases hmx':mx' with
     |none=>rw[hm0 hmx'];exact Nat.le_refl _
     |some q=>
      exfalso
      rw[hmx']at hsome
      have:=hmh (by simpa using hsome.symm)
      cases rhi with
      |none=>simp at this
      |some _=>exact hhi.elim)
    have hlh:ll≤hh:=J5 el (fun _=>Nat.zero_le _)
    have hB:=Jd (w:=w) (P:=P) (cap:=cap) (len:=len) (m:=m) hlo hhi hmx hmh (Jm em hl)
     (by split
         ·exact eh
         ·exact Jm eh (by omega)) el true
    have hmr:(if mx'.isSome=true then m else cap)≤cap∧hh≤(if mx'.isSome=true then m else cap):=by split<;>omega
    generalize hM:(if mx'.isSome=true then m else cap)=M at hB hmr
    refine⟨.slice (if M=ll then a else a.map (·.add (ll*n))) (hh-ll) (M-ll),?_,?_⟩
    ·simp[Instr.sliceAt,Instr.slice,ZB hu,hB,Xm ht.1]
    ·refine .gsl _ _ _ _ _ _ _ hBn (by omega) ?_
     by_cases hz:M=ll
     ·exact .inl (by omega)
     ·right
      rcases hg with rfl|⟨g,h1,h2,rfl,h3⟩
      ·omega
      ·refine⟨g,h1,h2,?_,?_⟩
       ·rw[if_neg hz];simp[XV,Nat.add_mul,Nat.add_assoc]
       ·refine Nat.le_trans (Nat.add_le_add_left (Nat.mul_le_mul_right n ?_) _) h3
        omega
   ·exact absurd ht (by simp)
  ·exact absurd e (by simp)
 ·exact absurd e (by simp)
end
end Go.VE
namespace Go.VE
set_option linter.unnecessarySimpa false
section
variable {P : Program} {T : Tbl} {G : Gh} {w : World} {lo : Nat} {h : Zg}
def RL(T:Tbl)(G:Gh)(cs:List V)(c:Array Value):Prop:=
 cs.length=c.size∧(∀(i:Nat) (v:V) (rv:Value),cs[i]? =some v→c[i]? =some rv→R T G v rv)∧(∀(i:Nat) (rv:Value),c[i]? =some rv→oc rv=true)
theorem Zd4(off:Nat): ∀(l:List Value) (k:Nat) (arr:Array Value),
 ((l.zipIdx k).foldl (fun cs (x:Value ×Nat)=>cs.setIfInBounds (off+x.2) x.1) arr).size=arr.size∧∀i,i<arr.size→((l.zipIdx k).foldl (fun cs (x:Value ×Nat)=>cs.setIfInBounds (off+x.2) x.1) arr)[i]? =if off+k≤i∧i<off+k+l.length then l[i-(off+k)]? else arr[i]?
 |[],k,arr=>by
  refine⟨rfl,fun i hi=> ?_⟩
  rw[if_neg (by simp)];rfl
 |x::l,k,arr=>by
  obtain⟨h1,h2⟩:=Zd4 off l (k+1) (arr.setIfInBounds (off+k) x)
  simp only[List.zipIdx_cons,List.foldl_cons]
  refine⟨by rw[h1];simp,fun i hi=> ?_⟩
  rw[h2 i (by simpa using hi)]
  by_cases c1:i=off+k
  ·subst c1
   rw[if_neg (by omega),if_pos (by simp)]
   simp[Array.getElem?_setIfInBounds,hi]
  ·by_cases c2:off+k≤i∧i<off+k+(x::l).length
   ·rw[if_pos (by simp at c2;omega),if_pos c2]
    rw[show i-(off+k)=(i-(off+(k+1)))+1 by omega,List.getElem?_cons_succ]
   ·rw[if_neg (by simp at c2⊢;omega),if_neg c2]
    simp[Array.getElem?_setIfInBounds,Ne.symm c1]
theorem ZbD(place:Nat→Option (Nat ×Nat)): ∀(ps:List (Nat ×Value)) (qs:List (Nat ×V)) (cells:List V) (c:Array Value) (out:List V),RL T G cells c→ps.length=qs.length→(∀(i:Nat) (p:Nat ×Value) (q:Nat ×V),ps[i]? =some p→qs[i]? =some q→R T G q.2 p.2∧place p.1=some (q.1,q.2.cells.length))→ZC cells qs=some out→∃c',Instr.fill place c ps=some c'∧RL T G out c'
 |[],qs,cells,c,out,hR,hl,hp,e=>by
  cases qs with
  |cons _ _=>simp at hl
  |nil=>simp[ZC]at e;subst e;exact⟨c,rfl,hR⟩
 |p::ps,qs,cells,c,out,hR,hl,hp,e=>by
  cases qs with
  |nil=>simp at hl
  |cons q qs=>
   obtain⟨i,rv⟩:=p
   obtain⟨off,v⟩:=q
   obtain⟨h1,h2⟩:=hp 0 _ _ rfl rfl
   simp only at h1 h2
   simp only[ZC]at e
   split at e
   ·rename_i hc
    obtain⟨k1,k2,k3⟩:=h1.cells hc.2
    obtain⟨r1,r2,r3⟩:=hR
    simp only[Instr.fill,h2]
    rw[if_neg (by simp[k1];omega)]
    obtain⟨z1,z2⟩:=Zd4 off rv.cells.toList 0 c
    have hz:rv.cells.zipIdx.foldl (fun cs (x:Value ×Nat)=>cs.setIfInBounds (off+x.2) x.1) c=(rv.cells.toList.zipIdx 0).foldl (fun cs (x:Value ×Nat)=>cs.setIfInBounds (off+x.2) x.1) c:=by
     rw[←Array.foldl_toList];simp
    have e2:rv.cells.zipIdx.foldl (fun cs x=>match x with|(c,j)=>cs.setIfInBounds (off+j) c) c=(rv.cells.toList.zipIdx 0).foldl (fun cs (x:Value ×Nat)=>cs.setIfInBounds (off+x.2) x.1) c:=hz
    rw[e2]
    refine ZbD place ps qs _ _ out ?_ (by simpa using hl) (fun i p q hp' hq'=>hp (i+1) p q (by simpa using hp') (by simpa using hq')) e
    generalize (rv.cells.toList.zipIdx 0).foldl (fun cs (x:Value ×Nat)=>cs.setIfInBounds (off+x.2) x.1) c=c2 at z1 z2
    have hlen:(cells.take off++v.cells++cells.drop (off+v.cells.length)).length=cells.length:=by simp;omega
    refine⟨by rw[hlen,r1,z1],fun j x rx hx hrx=> ?_,fun j rx hrx=> ?_⟩
    ·have hj:j<c.size:=by
      rw[←r1,←hlen]
      exact(List.getElem?_eq_some_iff.1 hx).1
     rw[z2 j hj]at hrx
     simp only[Nat.add_zero,Array.length_toList]at hrx
     by_cases c1:j<off
     ·rw[if_neg (by omega)]at hrx
      rw[List.append_assoc,List.getElem?_append_left (by simp;omega),List.getElem?_take,if_pos c1]at hx
      exact r2 j x rx hx hrx
     ·by_cases c3:j<off+v.cells.length
      ·rw[if_pos (by omega)]at hrx
       rw[List.append_assoc,List.getElem?_append_right (by simp;omega),List.getElem?_append_left (by simp;omega)]at hx
       have:(List.take off cells).length=off:=by simp;omega
       rw[this]at hx
       exact k2 (j-off) x rx hx (by simpa using hrx)
      ·rw[if_neg (by omega)]at hrx
       rw[List.getElem?_append_right (by simp;omega),List.getElem?_drop]at hx
       refine r2 j x rx ?_ hrx
       rw[←hx]
       congr 1
       simp
       omega
    ·have hj:j<c.size:=by
      rw[←z1]
      rcases Nat.lt_or_ge j c2.size with h|h
      ·exact h
      ·rw[Array.getElem?_eq_none h]at hrx;simp at hrx
     rw[z2 j hj]at hrx
     split at hrx
     ·exact k3 _ rx (by simpa using hrx)
     ·exact r3 j rx hrx
   ·exact absurd e (by simp)
theorem K2(hi:Zz T G lo h w){t:Tag}{b off:Nat}{v:Value}(e:gAt G t b off=some v):w.cell? ⟨b,off,none⟩=some v:=by
 cases t<;>first|exact hi.gp _ _ _ e|exact hi.gb _ _ _ e
theorem Ko: ∀(es:List V) (l:List UInt8),bytesOf es=some l→es.length=l.length∧∀(i:Nat) (b:UInt8),l[i]? =some b→∃n:Int,es[i]? =some (V.int .u8 n)∧b=UInt8.ofNat n.toNat
 |[],l,e=>by simp[bytesOf]at e;subst e;simp
 |x::es,l,e=>by
  unfold bytesOf at e
  split at e
  ·rename_i h;exact absurd h (by simp)
  ·rename_i n l' h
   simp only[List.cons.injEq]at h
   obtain⟨rfl,rfl⟩:=h
   simp only[Option.map_eq_some_iff]at e
   obtain⟨l'',h1,rfl⟩:=e
   obtain⟨i1,i2⟩:=Ko _ _ h1
   refine⟨by simp[i1],fun i b hb=> ?_⟩
   cases i with
   |zero=>simp at hb;subst hb;exact⟨n,by simp⟩
   |succ i=>simpa using i2 i b (by simpa using hb)
  ·exact absurd e (by simp)
theorem Zbz: ∀(ns:List Int) (s:ByteArray),(ns.foldl (fun r n=>r.push (UInt8.ofNat n.toNat)) s).data.toList=s.data.toList++ns.map fun n=>UInt8.ofNat n.toNat
 |[],s=>by simp
 |n::ns,s=>by
  simp only[List.foldl_cons,Zbz ns,List.map_cons]
  simp[ByteArray.push]
theorem ZqU(hi:Zz T G lo h w){es:List V}{tg:Tag}{l:List UInt8}(e:bytesOf es=some l){rx:Value}(hx:R T G (.sl 1 es tg) rx):
 ∃s:ByteArray,(Conv.bytesToString rx).run P w=.ok (.string s) w∧s.data.toList=l:=by
 obtain⟨a,cap,b,o,f,rfl,hc,htg,ha,hz,hg,hR,ho⟩:=hx.sl_inv
 obtain⟨g1,g2⟩:=Ko es l e
 by_cases hne:es=[]
 ·subst hne
  have:l=[]:=by simpa using g1.symm
  subst this
  cases a with
  |none=>exact⟨.empty,by simp[Conv.bytesToString],rfl⟩
  |some a=>exact⟨.empty,by simp[Conv.bytesToString,loadCells,loadCellsFrom],rfl⟩
 ·rw[ha hne]
  let ns:List Int:=es.map fun v=>match v with|.int _ n=>n|_=>0
  have hns: ∀i,i<es.length→∃n:Int,es[i]? =some (V.int .u8 n)∧l[i]? =some (UInt8.ofNat n.toNat)∧ns[i]? =some n:=by
   intro i hi
   have hb:l[i]? =some l[i]:=List.getElem?_eq_getElem (by omega)
   obtain⟨n,h1,h2⟩:=g2 i _ hb
   exact⟨n,h1,by rw[hb,h2],by simp[ns,h1]⟩
  have hl:(loadCells ⟨b,o,none⟩ es.length).run P w=.ok (ns.map (Value.int .u8)).toArray w:=by
   have hlen:(ns.map (Value.int .u8)).length=es.length:=by simp[ns]
   rw[←hlen]
   refine run_loadCells_list w _ _ fun j v hj=> ?_
   rw[XV]
   have hj':j<es.length:=by rw[←hlen];exact(List.getElem?_eq_some_iff.1 hj).1
   obtain⟨n,h1,h2,h3⟩:=hns j hj'
   have hv:v=.int .u8 n:=by rw[List.getElem?_map,h3]at hj;simpa using hj.symm
   have hcell:=K2 hi (hg j _ 0 _ h1 rfl)
   have hrel:=(hR j _ 0 _ h1 rfl).int_inv
   rw[hrel]at hcell
   rw[hv,show o+j=o+j*1+0 by omega]
   exact hcell
  refine⟨_,run_bytesToString w _ _ _ ns hl,?_⟩
  rw[Zbz,show ByteArray.empty.data.toList=[]from rfl,List.nil_append]
  have hnl:ns.length=es.length:=by simp[ns]
  apply List.ext_getElem?
  intro i
  by_cases hlt:i<es.length
  ·obtain⟨n,h1,h2,h3⟩:=hns i hlt
   rw[h2,List.getElem?_map,h3];rfl
  ·rw[List.getElem?_eq_none (by rw[List.length_map];omega),List.getElem?_eq_none (by omega)]
theorem Zdr{i:Nat}{z:V}{ok:Bool}{x v:V}{rx:Value}(e:XI i z ok x=some v)(hx:R T G x rx){t xt:TypeId}(inj: ∀i j t,T.tid i=some t→T.tid j=some t→i=j)(hi:T.tid i=some t)
 (ht:Xk P (fun d=> !US d) t=true) (hz:VR P t z=true): ∃rv,(Instr.typeAssert rx xt t ok).run P w=.ok rv w∧R T G v rv:=by
 obtain⟨d,hd,hk⟩:=XD ht
 unfold VR at hz
 cases hzv:(P.info? t).bind (·.zero)with
 |none=>simp[hzv]at hz
 |some zv=>
  simp only[hzv]at hz
  have hzR:R T G z zv:=K1 hz
  have tt: ∀{a b:V} {ra rb:Value},R T G a ra→R T G b rb→R T G (.tup [a,b]) (.tuple #[ra,rb]):=by
   intro a b ra rb h1 h2
   refine .tup _ _ rfl fun i v rv e1 e2=> ?_
   match i with
   |0=>simp at e1 e2;subst e1;subst e2;exact h1
   |1=>simp at e1 e2;subst e1;subst e2;exact h2
   |i+2=>simp at e1
  have hrun: ∀v',(Instr.typeAssert (.iface t v') xt t ok).run P w=.ok (if ok then .tuple #[v',.bool true]else v') w:=by
   intro v'
   unfold Instr.typeAssert
   simp only[Sem.run_bind,ZB hd,Result.andThen_ok]
   cases d<;>simp[US]at hk<;>simp <;>cases ok<;>rfl
  have hfail: ∀u v',u≠t→ok=true→(Instr.typeAssert (.iface u v') xt t ok).run P w=.ok (.tuple #[zv,.bool false]) w:=by
   intro u v' hu hok
   unfold Instr.typeAssert
   simp only[Sem.run_bind,ZB hd,Result.andThen_ok]
   subst hok
   cases d<;>simp[US]at hk<;>simp[hu,WC hzv]
  have hfail':ok=true→(Instr.typeAssert .nilIface xt t ok).run P w=.ok (.tuple #[zv,.bool false]) w:=by
   intro hok
   unfold Instr.typeAssert
   simp only[Sem.run_bind,ZB hd,Result.andThen_ok]
   subst hok
   cases d<;>simp[US]at hk<;>simp[WC hzv]
  unfold XI at e
  split at e
  ·obtain⟨tid,rv,rfl,h1,h2⟩:=hx.iface_inv
   split at e
   ·rename_i hti
    subst hti
    simp only[Option.some.injEq]at e;subst e
    rw[hi]at h1
    simp only[Option.some.injEq]at h1;subst h1
    refine⟨_,hrun rv,?_⟩
    cases ok
    ·exact h2
    ·exact tt h2 (.bool true)
   ·rename_i hti
    split at e
    ·rename_i hok
     simp only[Option.some.injEq]at e;subst e
     exact⟨_,hfail tid rv (fun hh=>hti (inj _ _ _ (hh▸h1) hi)) hok,tt hzR (.bool false)⟩
    ·exact absurd e (by simp)
  ·cases hx
   split at e
   ·rename_i hok
    simp only[Option.some.injEq]at e;subst e
    exact⟨_,hfail' hok,tt hzR (.bool false)⟩
   ·exact absurd e (by simp)
  ·exact absurd e (by simp)
theorem VA{fr:Fr}{a:Act}(hf:XF T G fr a.tmps): ∀(l:List Operand) (r:List Z3),XY T l r=true→(r.map (opd fr)).length=(l.map a.eval).length∧∀(i:Nat) (v:V) (rv:Value),(r.map (opd fr))[i]? =some v→(l.map a.eval)[i]? =some rv→R T G v rv
 |[],[],_=>⟨rfl,by simp⟩
 |[],_::_,h=>by simp[XY]at h
 |_::_,[],h=>by simp[XY]at h
 |x::l,y::r,h=>by
  simp only[XY,Bool.and_eq_true]at h
  obtain⟨h1,h2⟩:=VA hf l r h.2
  refine⟨by simpa using h1,fun i v rv e1 e2=> ?_⟩
  cases i with
  |zero=>simp at e1 e2;subst e1;subst e2;exact WL hf h.1
  |succ i=>exact h2 i v rv (by simpa using e1) (by simpa using e2)
theorem Zfd(isMax:Bool){k:IntKind}: ∀(vs:List V) (rs:List Value) (a:Int) (v:V),vs.length=rs.length→(∀(i:Nat) (v:V) (rv:Value),vs[i]? =some v→rs[i]? =some rv→R T G v rv)→
 Vq.go (if isMax then fun a b=>if b>a then b else a else fun a b=>if b<a then b else a) k a vs=some v→∃rv,(rs.foldlM (if isMax then Builtin.max2 else Builtin.min2) (.int k a)).run P w=.ok rv w∧R T G v rv
 |[],rs,a,v,hl,hR,e=>by
  cases rs with
  |cons _ _=>simp at hl
  |nil=>simp[Vq.go]at e;subst e;exact⟨_,rfl,.int _ _⟩
 |x::vs,rs,a,v,hl,hR,e=>by
  cases rs with
  |nil=>simp at hl
  |cons r rs=>
   have h0:=hR 0 x r rfl rfl
   unfold Vq.go at e
   split at e
   ·rename_i hh;exact absurd hh (by simp)
   ·rename_i k' b l hh
    simp only[List.cons.injEq]at hh
    obtain⟨rfl,rfl⟩:=hh
    obtain rfl:=h0.int_inv
    split at e
    ·rename_i hk
     subst hk
     have ih:=Zfd (k:=k) isMax vs rs _ v (by simpa using hl) (fun i v rv h1 h2=>hR (i+1) v rv (by simpa using h1) (by simpa using h2)) e
     obtain⟨rv,h1,h2⟩:=ih
     refine⟨rv,?_,h2⟩
     rw[List.foldlM_cons]
     cases isMax
     ·simpa[Builtin.min2]using h1
     ·simpa[Builtin.max2]using h1
    ·exact absurd e (by simp)
   ·exact absurd e (by simp)
theorem ZbE(isMax:Bool){vs:List V}{rs:List Value}{v:V}(hl:vs.length=rs.length)(hR: ∀(i:Nat) (v:V) (rv:Value),vs[i]? =some v→rs[i]? =some rv→R T G v rv)
 (e:Vq (if isMax then fun a b=>if b>a then b else a else fun a b=>if b<a then b else a) vs=some v) (ts:Array TypeId) (t:TypeId): ∃rv,(if isMax then Builtin.max_ ts t rs.toArray else Builtin.min_ ts t rs.toArray).run P w=.ok rv w∧R T G v rv:=by
 unfold Vq at e
 split at e
 ·exact absurd e (by simp)
 ·rename_i k a r
  cases rs with
  |nil=>simp at hl
  |cons q rs=>
   obtain rfl:=(hR 0 _ q rfl rfl).int_inv
   obtain⟨rv,h1,h2⟩:=Zfd (P:=P) (w:=w) isMax r rs a v (by simpa using hl) (fun i v rv h1 h2=>hR (i+1) v rv (by simpa using h1) (by simpa using h2)) e
   refine⟨rv,?_,h2⟩
   cases isMax
   ·simpa[Builtin.min_]using h1
   ·simpa[Builtin.max_]using h1
 ·exact absurd e (by simp)
end
end Go.VE
namespace Go.VE
set_option linter.unnecessarySimpa false
section
variable {P : Program} {T : Tbl} {G : Gh} {w w' : World} {lo : Nat} {h : Zg}
theorem Xr{w w':World}{b off:Nat}(e:w'.heap[b]? =w.heap[b]?):w'.cell? ⟨b,off,none⟩=w.cell? ⟨b,off,none⟩:=by
 simp only[World.cell?,e]
theorem Zi6{w:World}{b off:Nat}{v:Value}(e:w.cell? ⟨b,off,none⟩=some v):b<w.heap.size:=by
 rcases Nat.lt_or_ge b w.heap.size with h|h
 ·exact h
 ·simp[World.cell?,Array.getElem?_eq_none h]at e
theorem Zz.gp_lt(hi:Zz T G lo h w){b off:Nat}{v:Value}(e:G.Gp b off=some v):b<w.heap.size:=Zi6 (hi.gp _ _ _ e)
theorem Zz.gb_lt(hi:Zz T G lo h w){b off:Nat}{v:Value}(e:G.Gb b off=some v):b<w.heap.size:=Zi6 (hi.gb _ _ _ e)
theorem XE{w:World}{b:Nat}{o:Obj}(e:w.heap[b]? =some o):b<w.heap.size:=by
 rcases Nat.lt_or_ge b w.heap.size with h|h
 ·exact h
 ·rw[Array.getElem?_eq_none h]at e;simp at e
theorem Zz.live_lt(hi:Zz T G lo h w){B:Nat}{es:List V}{g:Img}(e:h[B]? =some (.arr es))(hs:G.sg B es.length=some g):g.b<w.heap.size:=by
 obtain⟨c,t,fz,h1,_⟩:=hi.live B es g e hs
 exact XE h1
theorem Zz.iter_lt(hi:Zz T G lo h w){B:Nat}{s:List UInt8}{pos r:Nat}(e:h[B]? =some (.iter s pos))(hs:G.io B=some r):r<w.heap.size:=by
 obtain⟨s',_,h1⟩:=hi.iter B s pos r e hs
 exact XE h1
theorem Zz.own_lt(hi:Zz T G lo h w){b:Nat}(ho:Own G lo h b):b<w.heap.size:=by
 obtain⟨B,_,⟨es,g,h1,h2,rfl⟩|⟨s,pos,h1,h2⟩⟩:=ho
 ·exact hi.live_lt h1 h2
 ·exact hi.iter_lt h1 h2
theorem Zz.grow(hi:Zz T G lo h w)(hs:w.heap.size≤w'.heap.size)(hk: ∀b,b<w.heap.size→w'.heap[b]? =w.heap[b]?):Zz T G lo h w' where
 gp b off v e:=by rw[Xr (hk b (hi.gp_lt e))];exact hi.gp _ _ _ e
 gb b off v e:=by rw[Xr (hk b (hi.gb_lt e))];exact hi.gb _ _ _ e
 llo:=hi.llo
 nle:=hi.nle
 sdom:=hi.sdom
 idom:=hi.idom
 eple:=hi.eple
 live B es g e hg:=by
  obtain⟨c,t,fz,h1,h2⟩:=hi.live B es g e hg
  exact⟨c,t,fz,by rw[hk _ (XE h1)];exact h1,h2⟩
 iter B s pos r e hr:=by
  obtain⟨s',h1,h2⟩:=hi.iter B s pos r e hr
  exact⟨s',h1,by rw[hk _ (XE h2)];exact h2⟩
 own:=hi.own
 iown:=hi.iown
theorem Stp.grow(hos:w'.os=w.os)(ht:w'.tape=w.tape)(ho:w'.output=w.output)(hs:w.heap.size≤w'.heap.size)(hk: ∀b,b<w.heap.size→w'.heap[b]? =w.heap[b]?):Stp lo G h w G h w':=
 ⟨G.le_refl,hos,ht,ho,hs,fun b hb hn=>⟨hk b hb,fun _=>rfl,hn⟩,rfl,fun _ _=>⟨fun _=>rfl,rfl⟩,.same fun _ _=>rfl⟩
def Gh.addP(G:Gh)(n:Nat)(c:Nat→Nat→Option Value):Gh:={G with Gp:=fun b off=>if b<n then G.Gp b off else c b off}
theorem Zz.addP(hi:Zz T G lo h w){n:Nat}{c:Nat→Nat→Option Value}(hc: ∀b off v,n≤b→c b off=some v→w.cell? ⟨b,off,none⟩=some v)
 (hg: ∀b off v,G.Gp b off=some v→b<n) (hown: ∀b,Own G lo h b→b<n):Zz T (G.addP n c) lo h w∧G.le (G.addP n c):=by
 have hle:G.le (G.addP n c):=⟨fun b off v e=>by simp only[Gh.addP];rw[if_pos (hg b off v e)];exact e,fun _ _ _ e=>e,fun _ _ _ e=>e,fun _ _ e=>e,Nat.le_refl _⟩
 refine⟨⟨fun b off v e=> ?_,hi.gb,hi.llo,hi.nle,hi.sdom,hi.idom,hi.eple,fun B es g e hs=> ?_,hi.iter,fun B es g hl e hs=> ?_,hi.iown⟩,hle⟩
 ·simp only[Gh.addP]at e
  split at e
  ·exact hi.gp _ _ _ e
  ·exact hc b off v (by omega) e
 ·obtain⟨c',t,fz,h1,h2,h3,h4,h6⟩:=hi.live B es g e hs
  exact⟨c',t,fz,h1,h2,h3,h4,h6.mono hle⟩
 ·obtain⟨h1,h2⟩:=hi.own B es g hl e hs
  refine⟨fun off=>⟨?_,(h1 off).2⟩,h2⟩
  simp only[Gh.addP]
  rw[if_pos (hown g.b ⟨B,hl,.inl ⟨es,g,e,hs,rfl⟩⟩)]
  exact(h1 off).1
theorem Stp.addP(hi:Zz T G lo h w){n:Nat}{c:Nat→Nat→Option Value}(hn:w.heap.size≤n)(hg: ∀b off v,G.Gp b off=some v→b<n):Stp lo G h w (G.addP n c) h w:=
 ⟨⟨fun b off v e=>by simp only[Gh.addP];rw[if_pos (hg b off v e)];exact e,fun _ _ _ e=>e,fun _ _ _ e=>e,fun _ _ e=>e,Nat.le_refl _⟩,rfl,rfl,rfl,Nat.le_refl _,fun b hb hno=>⟨rfl,fun off=>by simp only[Gh.addP];rw[if_pos (by omega)],fun⟨B,hl,hx⟩=>hno ⟨B,hl,hx⟩⟩,rfl,fun _ _=>⟨fun _=>rfl,rfl⟩,.same fun _ _=>rfl⟩
theorem ZfB(hi:Zz T G lo h w)(hs:w'.heap.size=w.heap.size+1)(hk: ∀b,b<w.heap.size→w'.heap[b]? =w.heap[b]?)(hos:w'.os=w.os)(ht:w'.tape=w.tape)(ho:w'.output=w.output):
 ∃G',Zz T G' lo h w'∧Stp lo G h w G' h w'∧∀off v,w'.cell? ⟨w.heap.size,off,none⟩=some v→G'.Gp w.heap.size off=some v:=by
 have hi':=hi.grow (w':=w') (by omega) hk
 have h1:=hi'.addP (n:=w.heap.size) (c:=fun b off=>w'.cell? ⟨b,off,none⟩) (fun b off v _ e=>e) (fun b off v e=>hi.gp_lt e) (fun b hb=>hi.own_lt hb)
 refine⟨_,h1.1,?_,fun off v e=> ?_⟩
 ·refine⟨h1.2,hos,ht,ho,by omega,fun b hb hno=>⟨hk b hb,fun off=> ?_,fun⟨B,hl,hx⟩=>hno ⟨B,hl,hx⟩⟩,rfl,fun _ _=>⟨fun _=>rfl,rfl⟩,.same fun _ _=>rfl⟩
  simp only[Gh.addP];rw[if_pos hb]
 ·simp only[Gh.addP];rw[if_neg (Nat.lt_irrefl _)];exact e
theorem J2(hi:Zz T G lo h w)(hs:w'.heap.size=w.heap.size+1)(hk: ∀b,b<w.heap.size→w'.heap[b]? =w.heap[b]?)(hos:w'.os=w.os)(ht:w'.tape=w.tape)(ho:w'.output=w.output)
 {es:List V} {z:Nat} {c:Array Value} {t:TypeId} {fz:Nat ×Nat} (hb:w'.heap[w.heap.size]? =some (.cells c t fz)) (hfz: ∀off,off<c.size→¬(fz.1≤off∧off<fz.2))
 (hm:es.length*z≤c.size) (hold:Vk T G c 0 z es): ∃G',Zz T G' lo (h++[.arr es]) w'∧Stp lo G h w G' (h++[.arr es]) w'∧G'.sg h.length es.length=some ⟨w.heap.size,0,z,c.size⟩∧h.length<G'.n:=by
 let g:Img:=⟨w.heap.size,0,z,c.size⟩
 have hsd: ∀B ep x,G.sg B ep=some x→B<h.length:=fun B ep x e=>Nat.lt_of_lt_of_le (hi.sdom _ _ _ e) hi.nle
 let G':Gh:={G with sg:=fun B ep=>if B=h.length∧ep=es.length then some g else G.sg B ep,n:=h.length+1}
 have hle:G.le G':=⟨fun _ _ _ e=>e,fun _ _ _ e=>e,fun B ep x e=>by
  have:B<h.length:=hsd _ _ _ e
  show(if B=h.length∧ep=es.length then some g else G.sg B ep)=some x
  rw[if_neg (by omega)];exact e,fun _ _ e=>e,by have:=hi.nle;show G.n≤h.length+1;omega⟩
 have hget: ∀B b,(h++[Blk.arr es])[B]? =some b→(B<h.length∧h[B]? =some b)∨(B=h.length∧b=.arr es):=by
  intro B b e
  rcases Nat.lt_trichotomy B h.length with hl|hl|hl
  ·rw[List.getElem?_append_left hl]at e;exact .inl ⟨hl,e⟩
  ·subst hl;rw[List.getElem?_append_right (Nat.le_refl _)]at e;simp at e;exact .inr ⟨rfl,e.symm⟩
  ·rw[List.getElem?_eq_none (by simp;omega)]at e;simp at e
 have hsg: ∀B ep x,B<h.length→G'.sg B ep=some x→G.sg B ep=some x:=by
  intro B ep x hB e
  have:(if B=h.length∧ep=es.length then some g else G.sg B ep)=some x:=e
  rwa[if_neg (by omega)]at this
 have hsgn: ∀ep x,G'.sg h.length ep=some x→x=g:=by
  intro ep x e
  have e':(if h.length=h.length∧ep=es.length then some g else G.sg h.length ep)=some x:=e
  split at e'
  ·simpa using e'.symm
  ·exact absurd (hsd _ _ _ e') (Nat.lt_irrefl _)
 have hi':=hi.grow (w':=w') (by omega) hk
 refine⟨G',⟨hi'.gp,hi'.gb,by have:=hi.llo;simp;omega,by simp[G'],fun B ep x e=> ?_,fun B r e=> ?_,fun B es' ep x e hs'=> ?_,fun B es' x e hs'=> ?_,fun B s pos r e hr=> ?_,fun B es' x hl e hs'=> ?_,fun B s pos r hl e hr B' s' pos' r' hne e' hr'=> ?_⟩,⟨hle,hos,ht,ho,by omega,fun b hbl hno=>⟨hk b hbl,fun _=>rfl,?_⟩,rfl,fun B hB=>⟨fun ep=>if_neg (by have:=hi.llo;omega),rfl⟩,.push fun B ep hB=>if_neg (by omega)⟩,?_,Nat.lt_succ_self _⟩
 ·show B<h.length+1
  have e':(if B=h.length∧ep=es.length then some g else G.sg B ep)=some x:=e
  split at e'
  ·omega
  ·have:=hsd _ _ _ e';omega
 ·have:=hi.idom _ _ e;have:=hi.nle;show B<h.length+1;omega
 ·rcases hget B _ e with⟨hB,e'⟩|⟨rfl,e'⟩
  ·exact hi.eple B es' ep x e' (hsg _ _ _ hB hs')
  ·cases e'
   have e2:(if h.length=h.length∧ep=es.length then some g else G.sg h.length ep)=some x:=hs'
   split at e2
   ·omega
   ·exact absurd (hsd _ _ _ e2) (Nat.lt_irrefl _)
 ·rcases hget B _ e with⟨hB,e'⟩|⟨rfl,e'⟩
  ·obtain⟨c',t',fz',h1,h2,h3,h4,h6⟩:=hi'.live B es' x e' (hsg _ _ _ hB hs')
   exact⟨c',t',fz',h1,h2,h3,h4,h6.mono hle⟩
  ·obtain rfl:=hsgn _ _ hs'
   cases e'
   exact⟨c,t,fz,hb,rfl,hfz,by simpa[g]using hm,hold.mono hle⟩
 ·rcases hget B _ e with⟨hB,e'⟩|⟨rfl,e'⟩
  ·exact hi'.iter B s pos r e' hr
  ·cases e'
 ·have key: ∀B' es'' x',(h++[Blk.arr es])[B']? =some (.arr es'')→G'.sg B' es''.length=some x'→(B'<h.length∧h[B']? =some (.arr es'')∧G.sg B' es''.length=some x'∧x'.b<w.heap.size)∨(B'=h.length∧x'=g):=by
   intro B' es'' x' e1 e2
   rcases hget B' _ e1 with⟨hB,e'⟩|⟨rfl,e'⟩
   ·have:=hsg _ _ _ hB e2
    exact .inl ⟨hB,e',this,hi.live_lt e' this⟩
   ·exact .inr ⟨rfl,hsgn _ _ e2⟩
  rcases key B es' x e hs' with⟨hB,e1,e2,e3⟩|⟨rfl,rfl⟩
  ·obtain⟨h1,h2⟩:=hi'.own B es' x hl e1 e2
   refine⟨h1,fun B' es'' g' hne e1' e2'=> ?_⟩
   rcases key B' es'' g' e1' e2' with⟨hB',k1,k2,k3⟩|⟨rfl,rfl⟩
   ·exact h2 B' es'' g' hne k1 k2
   ·show w.heap.size≠x.b;omega
  ·refine⟨fun off=>⟨?_,?_⟩,fun B' es'' g' hne e1' e2'=> ?_⟩
   ·show G.Gp w.heap.size off=none
    cases hgp:G.Gp w.heap.size off with
    |none=>rfl
    |some v=>exact absurd (hi.gp_lt hgp) (Nat.lt_irrefl _)
   ·show G.Gb w.heap.size off=none
    cases hgp:G.Gb w.heap.size off with
    |none=>rfl
    |some v=>exact absurd (hi.gb_lt hgp) (Nat.lt_irrefl _)
   ·rcases key B' es'' g' e1' e2' with⟨hB',k1,k2,k3⟩|⟨rfl,rfl⟩
    ·show g'.b≠w.heap.size;omega
    ·exact absurd rfl hne
 ·rcases hget B _ e with⟨hB,e1⟩|⟨rfl,e1⟩
  ·rcases hget B' _ e' with⟨hB',e1'⟩|⟨rfl,e1'⟩
   ·exact hi'.iown B s pos r hl e1 hr B' s' pos' r' hne e1' hr'
   ·cases e1'
  ·cases e1
 ·rintro⟨B,hl,⟨es',x,e,hs',rfl⟩|⟨s,pos,e,hr⟩⟩
  ·rcases hget B _ e with⟨hB,e'⟩|⟨rfl,e'⟩
   ·exact hno ⟨B,hl,.inl ⟨es',x,e',hsg _ _ _ hB hs',rfl⟩⟩
   ·obtain rfl:=hsgn _ _ hs'
    exact absurd hbl (Nat.lt_irrefl _)
  ·rcases hget B _ e with⟨hB,e'⟩|⟨rfl,e'⟩
   ·exact hno ⟨B,hl,.inr ⟨s,pos,e',hr⟩⟩
   ·cases e'
 ·show(if h.length=h.length∧es.length=es.length then some g else G.sg h.length es.length)=_
  rw[if_pos ⟨rfl,rfl⟩]
theorem QM{h:Zg}{B B':Nat}{x b:Blk}(e:(h.set B x)[B']? =some b):(B'=B∧b=x∧B<h.length)∨(B'≠B∧h[B']? =some b):=by
 rw[List.getElem?_set]at e
 split at e
 ·rename_i hB
  subst hB
  split at e
  ·rename_i hl;simp at e;exact .inl ⟨rfl,e.symm,hl⟩
  ·simp at e
 ·rename_i hB
  exact .inr ⟨fun hh=>hB hh.symm,e⟩
theorem JV(hi:Zz T G lo h w){B:Nat}{es es':List V}(hlo:lo≤B)(hB:h[B]? =some (.arr es)){g:Img}
 (hsz:w.heap.size≤w'.heap.size) (hos:w'.os=w.os) (ht:w'.tape=w.tape) (ho:w'.output=w.output)
 (hk: ∀b,b<w.heap.size→b≠g.b→w'.heap[b]? =w.heap[b]?)
 (hlen:es.length≤es'.length)
 (hg:(G.sg B es.length=some g)∨(g.b=w.heap.size∧es.length<es'.length))
 {c:Array Value} {t:TypeId} {fz:Nat ×Nat} (hb:w'.heap[g.b]? =some (.cells c t fz)) (hc:c.size=g.m) (hfz: ∀off,off<c.size→¬(fz.1≤off∧off<fz.2))
 (hm:g.o+es'.length*g.z≤g.m) (hold:Vk T G c g.o g.z es'): ∃G',Zz T G' lo (h.set B (.arr es')) w'∧Stp lo G h w G' (h.set B (.arr es')) w'∧G'.sg B es'.length=some g∧B<G'.n:=by
 have hBl:B<h.length:=(List.getElem?_eq_some_iff.1 hB).1
 let G':Gh:={G with sg:=fun B' ep=>if B'=B∧ep=es'.length then some g else G.sg B' ep,n:=max G.n (B+1)}
 have hsgd: ∀B' ep,G'.sg B' ep=if B'=B∧ep=es'.length then some g else G.sg B' ep:=fun _ _=>rfl
 have hle:G.le G':=by
  refine⟨fun _ _ _ e=>e,fun _ _ _ e=>e,fun B' ep x e=> ?_,fun _ _ e=>e,Nat.le_max_left _ _⟩
  rw[hsgd]
  split
  ·rename_i hh
   obtain⟨rfl,rfl⟩:=hh
   have:=hi.eple _ _ _ _ hB e
   rcases hg with hg|⟨_,hg⟩
   ·have hl:es'.length=es.length:=by omega
    rw[hl,hg]at e;exact e
   ·omega
  ·exact e
 have oth: ∀B' es'' x,B'≠B→h[B']? =some (.arr es'')→G.sg B' es''.length=some x→x.b≠g.b∧x.b<w.heap.size:=by
  intro B' es'' x hne e hs
  have hlt:=hi.live_lt e hs
  refine⟨?_,hlt⟩
  rcases hg with hg|⟨hg,_⟩
  ·exact(hi.own B es g hlo hB hg).2 B' es'' x hne e hs
  ·omega
 have gpn: ∀off,G.Gp g.b off=none∧G.Gb g.b off=none:=by
  intro off
  rcases hg with hg|⟨hg,_⟩
  ·exact(hi.own B es g hlo hB hg).1 off
  ·constructor
   ·cases hgp:G.Gp g.b off with
    |none=>rfl
    |some v=>have:=hi.gp_lt hgp;omega
   ·cases hgp:G.Gb g.b off with
    |none=>rfl
    |some v=>have:=hi.gb_lt hgp;omega
 have itn: ∀B' s pos r,h[B']? =some (.iter s pos)→G.io B'=some r→r≠g.b:=by
  intro B' s pos r e hr heq
  have hlt:=hi.iter_lt e hr
  rcases hg with hg|⟨hg,_⟩
  ·obtain⟨c',t',fz',h1,_⟩:=hi.live B es g hB hg
   obtain⟨s',_,h2⟩:=hi.iter B' s pos r e hr
   rw[heq,h1]at h2;cases h2
  ·omega
 have set_arr: ∀B' es'',(h.set B (.arr es'))[B']? =some (.arr es'')→(B'=B∧es''=es')∨(B'≠B∧h[B']? =some (.arr es'')):=by
  intro B' es'' e
  rcases QM e with⟨h1,h2,_⟩|h1
  ·cases h2;exact .inl ⟨h1,rfl⟩
  ·exact .inr h1
 have set_it: ∀B' s pos,(h.set B (.arr es'))[B']? =some (.iter s pos)→B'≠B∧h[B']? =some (.iter s pos):=by
  intro B' s pos e
  rcases QM e with⟨h1,h2,_⟩|h1
  ·cases h2
  ·exact h1
 refine⟨G',⟨fun b off v e=> ?_,fun b off v e=> ?_,by rw[List.length_set];exact hi.llo,by rw[List.length_set];have:=hi.nle;show max G.n (B+1)≤h.length;omega,fun B' ep x e=> ?_,fun B' r e=> ?_,fun B' es'' ep x e hs=> ?_,fun B' es'' x e hs=> ?_,fun B' s pos r e hr=> ?_,fun B' es'' x hl e hs=> ?_,fun B' s pos r hl e hr B'' s' pos' r' hne e' hr'=> ?_⟩,⟨hle,hos,ht,ho,hsz,fun b hbl hno=>⟨?_,fun _=>rfl,?_⟩,rfl,fun B' hB'=>⟨fun ep=>by rw[hsgd,if_neg (by omega)],rfl⟩,.setArr hB hlen (fun B' ep hne=>by rw[hsgd,if_neg (by omega)]) (fun hl=>by rcases hg with hg|⟨_,hg⟩;rw[hg];rfl;omega)⟩,?_,by show B<max G.n (B+1);omega⟩
 ·have e':G.Gp b off=some v:=e
  have hne:b≠g.b:=by rintro rfl;rw[(gpn off).1]at e';simp at e'
  rw[Xr (hk b (hi.gp_lt e') hne)];exact hi.gp _ _ _ e'
 ·have e':G.Gb b off=some v:=e
  have hne:b≠g.b:=by rintro rfl;rw[(gpn off).2]at e';simp at e'
  rw[Xr (hk b (hi.gb_lt e') hne)];exact hi.gb _ _ _ e'
 ·rw[hsgd]at e
  show B'<max G.n (B+1)
  split at e
  ·omega
  ·have:=hi.sdom _ _ _ e;omega
 ·have:=hi.idom _ _ e;show B'<max G.n (B+1);omega
 ·rw[hsgd]at hs
  rcases set_arr _ _ e with⟨rfl,rfl⟩|⟨hne,e'⟩
  ·split at hs
   ·omega
   ·have:=hi.eple _ _ _ _ hB hs;omega
  ·rw[if_neg (by omega)]at hs
   exact hi.eple _ _ _ _ e' hs
 ·rw[hsgd]at hs
  rcases set_arr _ _ e with⟨rfl,rfl⟩|⟨hne,e'⟩
  ·rw[if_pos ⟨rfl,rfl⟩]at hs
   simp only[Option.some.injEq]at hs;subst hs
   exact⟨c,t,fz,hb,hc,hfz,hm,hold.mono hle⟩
  ·rw[if_neg (by omega)]at hs
   obtain⟨c',t',fz',h1,h2,h3,h4,h6⟩:=hi.live B' es'' x e' hs
   have:=oth B' es'' x hne e' hs
   exact⟨c',t',fz',by rw[hk _ this.2 this.1];exact h1,h2,h3,h4,h6.mono hle⟩
 ·obtain⟨hne,e'⟩:=set_it _ _ _ e
  obtain⟨s',h1,h2⟩:=hi.iter B' s pos r e' hr
  exact⟨s',h1,by rw[hk _ (XE h2) (itn _ _ _ _ e' hr)];exact h2⟩
 ·rw[hsgd]at hs
  rcases set_arr _ _ e with⟨rfl,rfl⟩|⟨hne,e'⟩
  ·rw[if_pos ⟨rfl,rfl⟩]at hs
   simp only[Option.some.injEq]at hs;subst hs
   refine⟨gpn,fun B'' es3 x' hne' e3 hs3=> ?_⟩
   rw[hsgd,if_neg (by omega)]at hs3
   rcases set_arr _ _ e3 with⟨rfl,rfl⟩|⟨_,e3'⟩
   ·exact absurd rfl hne'
   ·exact(oth B'' es3 x' hne' e3' hs3).1
  ·rw[if_neg (by omega)]at hs
   obtain⟨h1,h2⟩:=hi.own B' es'' x hl e' hs
   refine⟨h1,fun B'' es3 x' hne' e3 hs3=> ?_⟩
   rw[hsgd]at hs3
   rcases set_arr _ _ e3 with⟨rfl,rfl⟩|⟨hne3,e3'⟩
   ·rw[if_pos ⟨rfl,rfl⟩]at hs3
    simp only[Option.some.injEq]at hs3;subst hs3
    exact fun hh=>(oth B' es'' x hne e' hs).1 hh.symm
   ·rw[if_neg (by omega)]at hs3
    exact h2 B'' es3 x' hne' e3' hs3
 ·obtain⟨hn1,e1⟩:=set_it _ _ _ e
  obtain⟨hn2,e2⟩:=set_it _ _ _ e'
  exact hi.iown B' s pos r hl e1 hr B'' s' pos' r' hne e2 hr'
 ·refine hk b hbl fun hh=> ?_
  rcases hg with hg|⟨hg,_⟩
  ·exact hno ⟨B,hlo,.inl ⟨es,g,hB,hg,hh.symm⟩⟩
  ·omega
 ·rintro⟨B',hl,⟨es'',x,e,hs,rfl⟩|⟨s,pos,e,hr⟩⟩
  ·rw[hsgd]at hs
   rcases set_arr _ _ e with⟨rfl,rfl⟩|⟨hne,e'⟩
   ·rw[if_pos ⟨rfl,rfl⟩]at hs
    simp only[Option.some.injEq]at hs;subst hs
    rcases hg with hg|⟨hg,_⟩
    ·exact hno ⟨B',hl,.inl ⟨es,_,hB,hg,rfl⟩⟩
    ·omega
   ·rw[if_neg (by omega)]at hs
    exact hno ⟨B',hl,.inl ⟨es'',x,e',hs,rfl⟩⟩
  ·obtain⟨hne,e'⟩:=set_it _ _ _ e
   exact hno ⟨B',hl,.inr ⟨s,pos,e',hr⟩⟩
 ·rw[hsgd,if_pos ⟨rfl,rfl⟩]
end
end Go.VE
namespace Go.VE
set_option linter.unnecessarySimpa false
open Classical
section
variable {P : Program} {T : Tbl} {G : Gh} {w w' : World} {lo : Nat} {h : Zg}
theorem Zf4(hi:Zz T G lo h w){B:Nat}{es:List V}(hlo:lo≤B)(hB:h[B]? =some (.arr es)):
 ∃G',Zz T G' lo (h.set B .dead) w∧Stp lo G h w G' (h.set B .dead) w∧∀g,G.sg B es.length=some g→∀off v,w.cell? ⟨g.b,off,none⟩=some v→G'.Gp g.b off=some v:=by
 have set_arr: ∀B' es'',(h.set B .dead)[B']? =some (.arr es'')→B'≠B∧h[B']? =some (.arr es''):=by
  intro B' es'' e
  rcases QM e with⟨_,h2,_⟩|h1
  ·cases h2
  ·exact h1
 have set_it: ∀B' s pos,(h.set B .dead)[B']? =some (.iter s pos)→B'≠B∧h[B']? =some (.iter s pos):=by
  intro B' s pos e
  rcases QM e with⟨_,h2,_⟩|h1
  ·cases h2
  ·exact h1
 cases hg:G.sg B es.length with
 |none=>
  refine⟨G,⟨hi.gp,hi.gb,by rw[List.length_set];exact hi.llo,by rw[List.length_set];exact hi.nle,hi.sdom,hi.idom,fun B' es'' ep x e hs=> ?_,fun B' es'' x e hs=> ?_,fun B' s pos r e hr=> ?_,fun B' es'' x hl e hs=> ?_,fun B' s pos r hl e hr B'' s' pos' r' hne e' hr'=> ?_⟩,⟨G.le_refl,rfl,rfl,rfl,Nat.le_refl _,fun b hb hno=>⟨rfl,fun _=>rfl,?_⟩,rfl,fun _ _=>⟨fun _=>rfl,rfl⟩,.other (fun _=>by simp) fun _ _=>rfl⟩,fun g hh=>by simp at hh⟩
  ·exact hi.eple _ _ _ _ (set_arr _ _ e).2 hs
  ·exact hi.live _ _ _ (set_arr _ _ e).2 hs
  ·exact hi.iter _ _ _ _ (set_it _ _ _ e).2 hr
  ·obtain⟨h1,h2⟩:=hi.own _ _ _ hl (set_arr _ _ e).2 hs
   exact⟨h1,fun B'' es3 g' hne e3 hs3=>h2 B'' es3 g' hne (set_arr _ _ e3).2 hs3⟩
  ·exact hi.iown B' s pos r hl (set_it _ _ _ e).2 hr B'' s' pos' r' hne (set_it _ _ _ e').2 hr'
  ·rintro⟨B',hl,⟨es',x,e,hs',hx⟩|⟨s,pos,e,hr⟩⟩
   ·exact hno ⟨B',hl,.inl ⟨es',x,(set_arr _ _ e).2,hs',hx⟩⟩
   ·exact hno ⟨B',hl,.inr ⟨s,pos,(set_it _ _ _ e).2,hr⟩⟩
 |some g=>
  have hown:=hi.own B es g hlo hB hg
  let G':Gh:={G with Gp:=fun b off=>if b=g.b then w.cell? ⟨b,off,none⟩else G.Gp b off}
  have hgd: ∀b off,G'.Gp b off=if b=g.b then w.cell? ⟨b,off,none⟩else G.Gp b off:=fun _ _=>rfl
  have hle:G.le G':=⟨fun b off v e=>by
   rw[hgd];split
   ·rename_i hb;subst hb;rw[(hown.1 off).1]at e;simp at e
   ·exact e,fun _ _ _ e=>e,fun _ _ _ e=>e,fun _ _ e=>e,Nat.le_refl _⟩
  refine⟨G',⟨fun b off v e=> ?_,hi.gb,by rw[List.length_set];exact hi.llo,by rw[List.length_set];exact hi.nle,hi.sdom,hi.idom,fun B' es'' ep x e hs=> ?_,fun B' es'' x e hs=> ?_,fun B' s pos r e hr=> ?_,fun B' es'' x hl e hs=> ?_,fun B' s pos r hl e hr B'' s' pos' r' hne e' hr'=> ?_⟩,⟨hle,rfl,rfl,rfl,Nat.le_refl _,fun b hb hno=>⟨rfl,fun off=> ?_,?_⟩,rfl,fun _ _=>⟨fun _=>rfl,rfl⟩,.other (fun _=>by simp) fun _ _=>rfl⟩,fun g' hh off v e=> ?_⟩
  ·rw[hgd]at e
   split at e
   ·exact e
   ·exact hi.gp _ _ _ e
  ·exact hi.eple _ _ _ _ (set_arr _ _ e).2 hs
  ·obtain⟨c',t',fz',h1,h2,h3,h4,h6⟩:=hi.live _ _ _ (set_arr _ _ e).2 hs
   exact⟨c',t',fz',h1,h2,h3,h4,h6.mono hle⟩
  ·exact hi.iter _ _ _ _ (set_it _ _ _ e).2 hr
  ·obtain⟨h1,h2⟩:=hi.own _ _ _ hl (set_arr _ _ e).2 hs
   have hne:=hown.2 B' es'' x (set_arr _ _ e).1 (set_arr _ _ e).2 hs
   exact⟨fun off=>⟨by rw[hgd,if_neg hne];exact(h1 off).1,(h1 off).2⟩,fun B'' es3 g' hne e3 hs3=>h2 B'' es3 g' hne (set_arr _ _ e3).2 hs3⟩
  ·exact hi.iown B' s pos r hl (set_it _ _ _ e).2 hr B'' s' pos' r' hne (set_it _ _ _ e').2 hr'
  ·rw[hgd,if_neg]
   rintro rfl
   exact hno ⟨B,hlo,.inl ⟨es,g,hB,hg,rfl⟩⟩
  ·rintro⟨B',hl,⟨es',x,e,hs',hx⟩|⟨s,pos,e,hr⟩⟩
   ·exact hno ⟨B',hl,.inl ⟨es',x,(set_arr _ _ e).2,hs',hx⟩⟩
   ·exact hno ⟨B',hl,.inr ⟨s,pos,(set_it _ _ _ e).2,hr⟩⟩
  ·simp only[Option.some.injEq]at hh;subst hh
   rw[hgd,if_pos rfl];exact e
theorem Ze8(hi:Zz T G lo h w): ∃G',Zz T G' lo (h++[.arr []]) w∧Stp lo G h w G' (h++[.arr []]) w∧h.length<G'.n:=by
 let G':Gh:={G with n:=h.length+1}
 have hle:G.le G':=⟨fun _ _ _ e=>e,fun _ _ _ e=>e,fun _ _ _ e=>e,fun _ _ e=>e,by have:=hi.nle;show G.n≤h.length+1;omega⟩
 have hsd: ∀B ep x,G.sg B ep=some x→B<h.length:=fun B ep x e=>Nat.lt_of_lt_of_le (hi.sdom _ _ _ e) hi.nle
 have hid: ∀B x,G.io B=some x→B<h.length:=fun B x e=>Nat.lt_of_lt_of_le (hi.idom _ _ e) hi.nle
 have hget: ∀B b,B<h.length→(h++[Blk.arr []])[B]? =some b→h[B]? =some b:=by
  intro B b hl e
  rwa[List.getElem?_append_left hl]at e
 refine⟨G',⟨hi.gp,hi.gb,by have:=hi.llo;simp;omega,by simp[G'],fun B ep x e=> ?_,fun B r e=> ?_,fun B es' ep x e hs'=> ?_,fun B es' x e hs'=> ?_,fun B s pos r e hr=> ?_,fun B es' x hl e hs'=> ?_,fun B s pos r hl e hr B' s' pos' r' hne e' hr'=> ?_⟩,⟨hle,rfl,rfl,rfl,Nat.le_refl _,fun b hb hno=>⟨rfl,fun _=>rfl,?_⟩,rfl,fun _ _=>⟨fun _=>rfl,rfl⟩,.push fun _ _ _=>rfl⟩,Nat.lt_succ_self _⟩
 ·have:=hsd _ _ _ e;show B<h.length+1;omega
 ·have:=hid _ _ e;show B<h.length+1;omega
 ·exact hi.eple _ _ _ _ (hget _ _ (hsd _ _ _ hs') e) hs'
 ·obtain⟨c',t',fz',h1,h2,h3,h4,h6⟩:=hi.live _ _ _ (hget _ _ (hsd _ _ _ hs') e) hs'
  exact⟨c',t',fz',h1,h2,h3,h4,h6.mono hle⟩
 ·exact hi.iter _ _ _ _ (hget _ _ (hid _ _ hr) e) hr
 ·obtain⟨h1,h2⟩:=hi.own _ _ _ hl (hget _ _ (hsd _ _ _ hs') e) hs'
  exact⟨h1,fun B'' es3 g' hne e3 hs3=>h2 B'' es3 g' hne (hget _ _ (hsd _ _ _ hs3) e3) hs3⟩
 ·exact hi.iown B s pos r hl (hget _ _ (hid _ _ hr) e) hr B' s' pos' r' hne (hget _ _ (hid _ _ hr') e') hr'
 ·rintro⟨B,hl,⟨es',x,e,hs',hx⟩|⟨s,pos,e,hr⟩⟩
  ·exact hno ⟨B,hl,.inl ⟨es',x,hget _ _ (hsd _ _ _ hs') e,hs',hx⟩⟩
  ·exact hno ⟨B,hl,.inr ⟨s,pos,hget _ _ (hid _ _ hr) e,hr⟩⟩
theorem Zmo(hi:Zz T G lo h w)(hs:w'.heap.size=w.heap.size+1)(hk: ∀b,b<w.heap.size→w'.heap[b]? =w.heap[b]?)(hos:w'.os=w.os)(ht:w'.tape=w.tape)(ho:w'.output=w.output)
 {s:List UInt8} {s':ByteArray} {pos:Nat} (hs':s'.data.toList=s) (hb:w'.heap[w.heap.size]? =some (.stringIter s' pos)): ∃G',Zz T G' lo (h++[.iter s pos]) w'∧Stp lo G h w G' (h++[.iter s pos]) w'∧G'.io h.length=some w.heap.size:=by
 let G':Gh:={G with io:=fun B=>if B=h.length then some w.heap.size else G.io B,n:=h.length+1}
 have hio: ∀B,G'.io B=if B=h.length then some w.heap.size else G.io B:=fun _=>rfl
 have hsd: ∀B ep x,G.sg B ep=some x→B<h.length:=fun B ep x e=>Nat.lt_of_lt_of_le (hi.sdom _ _ _ e) hi.nle
 have hid: ∀B x,G.io B=some x→B<h.length:=fun B x e=>Nat.lt_of_lt_of_le (hi.idom _ _ e) hi.nle
 have hle:G.le G':=⟨fun _ _ _ e=>e,fun _ _ _ e=>e,fun _ _ _ e=>e,fun B r e=>by rw[hio,if_neg (by have:=hid _ _ e;omega)];exact e,by have:=hi.nle;show G.n≤h.length+1;omega⟩
 have hi':=hi.grow (w':=w') (by omega) hk
 have hget: ∀B b,B<h.length→(h++[Blk.iter s pos])[B]? =some b→h[B]? =some b:=by
  intro B b hl e
  rwa[List.getElem?_append_left hl]at e
 have hit: ∀B q p r,(h++[Blk.iter s pos])[B]? =some (.iter q p)→G'.io B=some r→(B=h.length∧q=s∧p=pos∧r=w.heap.size)∨(B<h.length∧h[B]? =some (.iter q p)∧G.io B=some r):=by
  intro B q p r e hr
  rw[hio]at hr
  split at hr
  ·rename_i hB
   subst hB
   rw[List.getElem?_append_right (Nat.le_refl _)]at e
   simp at e hr
   exact .inl ⟨rfl,e.1.symm,e.2.symm,hr.symm⟩
  ·have:=hid _ _ hr
   exact .inr ⟨this,hget _ _ this e,hr⟩
 refine⟨G',⟨hi'.gp,hi'.gb,by have:=hi.llo;simp;omega,by simp[G'],fun B ep x e=> ?_,fun B r e=> ?_,fun B es' ep x e hs'=> ?_,fun B es' x e hs'=> ?_,fun B q p r e hr=> ?_,fun B es' x hl e hs'=> ?_,fun B q p r hl e hr B' q' p' r' hne e' hr'=> ?_⟩,⟨hle,hos,ht,ho,by omega,fun b hbl hno=>⟨hk b hbl,fun _=>rfl,?_⟩,rfl,fun B hB=>⟨fun _=>rfl,by rw[hio,if_neg (by have:=hi.llo;omega)]⟩,.push fun _ _ _=>rfl⟩,by rw[hio,if_pos rfl]⟩
 ·have:=hsd _ _ _ e;show B<h.length+1;omega
 ·rw[hio]at e
  show B<h.length+1
  split at e
  ·omega
  ·have:=hid _ _ e;omega
 ·exact hi.eple _ _ _ _ (hget _ _ (hsd _ _ _ hs') e) hs'
 ·obtain⟨c',t',fz',h1,h2,h3,h4,h6⟩:=hi'.live _ _ _ (hget _ _ (hsd _ _ _ hs') e) hs'
  exact⟨c',t',fz',h1,h2,h3,h4,h6.mono hle⟩
 ·rcases hit _ _ _ _ e hr with⟨rfl,rfl,rfl,rfl⟩|⟨_,e1,r1⟩
  ·exact⟨s',hs',hb⟩
  ·exact hi'.iter _ _ _ _ e1 r1
 ·obtain⟨h1,h2⟩:=hi'.own _ _ _ hl (hget _ _ (hsd _ _ _ hs') e) hs'
  exact⟨h1,fun B'' es3 g' hne e3 hs3=>h2 B'' es3 g' hne (hget _ _ (hsd _ _ _ hs3) e3) hs3⟩
 ·rcases hit _ _ _ _ e hr with⟨rfl,rfl,rfl,rfl⟩|⟨_,e1,r1⟩
  ·rcases hit _ _ _ _ e' hr' with⟨rfl,_⟩|⟨_,e2,r2⟩
   ·exact absurd rfl hne
   ·have:=hi.iter_lt e2 r2;omega
  ·rcases hit _ _ _ _ e' hr' with⟨rfl,rfl,rfl,rfl⟩|⟨_,e2,r2⟩
   ·have:=hi.iter_lt e1 r1;omega
   ·exact hi.iown B q p r hl e1 r1 B' q' p' r' hne e2 r2
 ·rintro⟨B,hl,⟨es',x,e,hs',hx⟩|⟨q,p,e,hr⟩⟩
  ·exact hno ⟨B,hl,.inl ⟨es',x,hget _ _ (hsd _ _ _ hs') e,hs',hx⟩⟩
  ·rcases hit _ _ _ _ e hr with⟨rfl,rfl,rfl,rfl⟩|⟨_,e1,r1⟩
   ·exact absurd hbl (Nat.lt_irrefl _)
   ·exact hno ⟨B,hl,.inr ⟨q,p,e1,r1⟩⟩
theorem Zmd(hi:Zz T G lo h w){B:Nat}{s:List UInt8}{pos pos' r:Nat}(hlo:lo≤B)(hB:h[B]? =some (.iter s pos))(hr:G.io B=some r)(hs:w'.heap.size=w.heap.size)
 (hk: ∀b,b<w.heap.size→b≠r→w'.heap[b]? =w.heap[b]?) (hos:w'.os=w.os) (ht:w'.tape=w.tape) (ho:w'.output=w.output) {s':ByteArray} (hs':s'.data.toList=s)
 (hb:w'.heap[r]? =some (.stringIter s' pos')):Zz T G lo (h.set B (.iter s pos')) w'∧Stp lo G h w G (h.set B (.iter s pos')) w':=by
 have set_arr: ∀B' es'',(h.set B (.iter s pos'))[B']? =some (.arr es'')→B'≠B∧h[B']? =some (.arr es''):=by
  intro B' es'' e
  rcases QM e with⟨_,h2,_⟩|h1
  ·cases h2
  ·exact h1
 have set_it: ∀B' q p,(h.set B (.iter s pos'))[B']? =some (.iter q p)→(B'=B∧q=s∧p=pos')∨(B'≠B∧h[B']? =some (.iter q p)):=by
  intro B' q p e
  rcases QM e with⟨h1,h2,_⟩|h1
  ·cases h2;exact .inl ⟨h1,rfl,rfl⟩
  ·exact .inr h1
 obtain⟨s0,_,hr0⟩:=hi.iter B s pos r hB hr
 have cellr: ∀b off v,w.cell? ⟨b,off,none⟩=some v→b≠r:=by
  rintro b off v e rfl
  simp[World.cell?,hr0]at e
 have arrr: ∀B' es'' x,h[B']? =some (.arr es'')→G.sg B' es''.length=some x→x.b≠r:=by
  rintro B' es'' x e hx rfl
  obtain⟨c',t',fz',h1,_⟩:=hi.live _ _ _ e hx
  rw[hr0]at h1;cases h1
 refine⟨⟨fun b off v e=> ?_,fun b off v e=> ?_,by rw[List.length_set];exact hi.llo,by rw[List.length_set];exact hi.nle,hi.sdom,hi.idom,fun B' es'' ep x e hx=> ?_,fun B' es'' x e hx=> ?_,fun B' q p r' e hr'=> ?_,fun B' es'' x hl e hx=> ?_,fun B' q p r1 hl e h1 B'' q' p' r2 hne e' h2=> ?_⟩,⟨G.le_refl,hos,ht,ho,by omega,fun b hb' hno=>⟨?_,fun _=>rfl,?_⟩,rfl,fun _ _=>⟨fun _=>rfl,rfl⟩,.other (fun _=>by simp) fun _ _=>rfl⟩⟩
 ·have:=hi.gp _ _ _ e
  rw[Xr (hk b (hi.gp_lt e) (cellr _ _ _ this))];exact this
 ·have:=hi.gb _ _ _ e
  rw[Xr (hk b (hi.gb_lt e) (cellr _ _ _ this))];exact this
 ·exact hi.eple _ _ _ _ (set_arr _ _ e).2 hx
 ·obtain⟨c',t',fz',h1,h2⟩:=hi.live _ _ _ (set_arr _ _ e).2 hx
  exact⟨c',t',fz',by rw[hk _ (XE h1) (arrr _ _ _ (set_arr _ _ e).2 hx)];exact h1,h2⟩
 ·rcases set_it _ _ _ e with⟨rfl,rfl,rfl⟩|⟨hne,e'⟩
  ·rw[hr]at hr';simp only[Option.some.injEq]at hr';subst hr'
   exact⟨s',hs',hb⟩
  ·obtain⟨q',h1,h2⟩:=hi.iter _ _ _ _ e' hr'
   exact⟨q',h1,by rw[hk _ (XE h2) (hi.iown B s pos r hlo hB hr B' q p r' hne e' hr')];exact h2⟩
 ·obtain⟨h1,h2⟩:=hi.own _ _ _ hl (set_arr _ _ e).2 hx
  exact⟨h1,fun B'' es3 g' hne e3 hs3=>h2 B'' es3 g' hne (set_arr _ _ e3).2 hs3⟩
 ·have k1: ∃q p,h[B']? =some (.iter q p):=by
   rcases set_it _ _ _ e with⟨rfl,rfl,rfl⟩|⟨_,e1⟩
   ·exact⟨_,_,hB⟩
   ·exact⟨_,_,e1⟩
  have k2: ∃q p,h[B'']? =some (.iter q p):=by
   rcases set_it _ _ _ e' with⟨rfl,rfl,rfl⟩|⟨_,e1⟩
   ·exact⟨_,_,hB⟩
   ·exact⟨_,_,e1⟩
  obtain⟨_,_,k1⟩:=k1
  obtain⟨_,_,k2⟩:=k2
  exact hi.iown B' _ _ r1 hl k1 h1 B'' _ _ r2 hne k2 h2
 ·exact hk b hb' fun hh=>hno ⟨B,hlo,.inr ⟨s,pos,hB,by rw[hh];exact hr⟩⟩
 ·rintro⟨B',hl,⟨es',x,e,hx,hb2⟩|⟨q,p,e,h1⟩⟩
  ·exact hno ⟨B',hl,.inl ⟨es',x,(set_arr _ _ e).2,hx,hb2⟩⟩
  ·rcases set_it _ _ _ e with⟨rfl,rfl,rfl⟩|⟨_,e1⟩
   ·exact hno ⟨B',hl,.inr ⟨_,_,hB,h1⟩⟩
   ·exact hno ⟨B',hl,.inr ⟨q,p,e1,h1⟩⟩
end
end Go.VE
namespace Go.VE
set_option linter.unnecessarySimpa false
open Classical
section
variable {P : Program} {T : Tbl} {G : Gh} {w w' : World} {lo : Nat} {h : Zg}
def Uo(G:Gh)(lo n:Nat)(h:Zg)(b:Nat):Prop:= ∃B es g,n≤B∧lo≤B∧h[B]? =some (.arr es)∧G.sg B es.length=some g∧g.b=b
theorem Uo.own{n b:Nat}(hl:Uo G lo n h b):Own G lo h b:=by
 obtain⟨B,es,g,_,h2,h3,h4,h5⟩:=hl
 exact⟨B,h2,.inl ⟨es,g,h3,h4,h5⟩⟩
noncomputable def Gh.drop (G:Gh) (lo n:Nat) (h:Zg) (w:World) (Gb:Nat→Nat→Option Value):Gh where
 Gp b off:=if Uo G lo n h b then w.cell? ⟨b,off,none⟩else G.Gp b off
 Gb:=Gb
 sg B ep:=if B<n then G.sg B ep else none
 io B:=if B<n then G.io B else none
 n:=n
theorem K0(hi:Zz T G lo h w){n:Nat}{Gb}{b off:Nat}{v:Value}(e:G.Gp b off=some v):(G.drop lo n h w Gb).Gp b off=some v:=by
 show(if Uo G lo n h b then w.cell? ⟨b,off,none⟩else G.Gp b off)=some v
 split
 ·exact hi.gp _ _ _ e
 ·exact e
theorem Kk(hi:Zz T G lo h w){n:Nat}(hn:n≤h.length)(hlo:lo≤n)
 (hold: ∀B es,B<n→h[B]? =some (.arr es)→(G.sg B es.length).isSome=true→Zo n es=true):Zz T (G.drop lo n h w G.Gb) lo (h.take n) w:=by
 have get: ∀B b,(h.take n)[B]? =some b→B<n∧h[B]? =some b:=by
  intro B b e
  rw[List.getElem?_take]at e
  split at e
  ·exact⟨‹_›,e⟩
  ·simp at e
 have sgn: ∀B ep x,(G.drop lo n h w G.Gb).sg B ep=some x→B<n∧G.sg B ep=some x:=by
  intro B ep x e
  have e':(if B<n then G.sg B ep else none)=some x:=e
  split at e'
  ·exact⟨‹_›,e'⟩
  ·simp at e'
 have ion: ∀B x,(G.drop lo n h w G.Gb).io B=some x→B<n∧G.io B=some x:=by
  intro B x e
  have e':(if B<n then G.io B else none)=some x:=e
  split at e'
  ·exact⟨‹_›,e'⟩
  ·simp at e'
 refine⟨fun b off v e=> ?_,hi.gb,by simp;have:=hi.llo;omega,by show n≤(h.take n).length;simp;omega,fun B ep x e=>(sgn _ _ _ e).1,fun B x e=>(ion _ _ e).1,fun B es ep x e hs=> ?_,fun B es x e hs=> ?_,fun B s pos r e hr=> ?_,fun B es x hl e hs=> ?_,fun B s pos r hl e hr B' s' pos' r' hne e' hr'=> ?_⟩
 ·have e':(if Uo G lo n h b then w.cell? ⟨b,off,none⟩else G.Gp b off)=some v:=e
  split at e'
  ·exact e'
  ·exact hi.gp _ _ _ e'
 ·exact hi.eple _ _ _ _ (get _ _ e).2 (sgn _ _ _ hs).2
 ·obtain⟨hB,e1⟩:=get _ _ e
  obtain⟨_,hs1⟩:=sgn _ _ _ hs
  obtain⟨c,t,fz,h1,h2,h3,h4,h5⟩:=hi.live _ _ _ e1 hs1
  refine⟨c,t,fz,h1,h2,h3,h4,fun i e2 hi2=>⟨(h5 i e2 hi2).1,fun j v hj=> ?_⟩⟩
  obtain⟨rv,k1,k2,k3⟩:=(h5 i e2 hi2).2 j v hj
  have hbel:=hold B _ hB e1 (by rw[hs1];rfl)
  exact⟨rv,k1,k2.under (n:=n) (fun _ _ _ e=>K0 hi e) (fun _ _ _ e=>e) (fun B' ep x hB' e=>by show(if B'<n then G.sg B' ep else none)=some x;rw[if_pos hB'];exact e)
   (fun B' r hB' e=>by show(if B'<n then G.io B' else none)=some r;rw[if_pos hB'];exact e) (Nat.le_refl _) (Qj (XG hbel hi2) hj),k3⟩
 ·exact hi.iter _ _ _ _ (get _ _ e).2 (ion _ _ hr).2
 ·obtain⟨hB,e1⟩:=get _ _ e
  obtain⟨_,hs1⟩:=sgn _ _ _ hs
  obtain⟨h1,h2⟩:=hi.own _ _ _ hl e1 hs1
  refine⟨fun off=>⟨?_,(h1 off).2⟩,fun B' es' g' hne e' hs'=>h2 B' es' g' hne (get _ _ e').2 (sgn _ _ _ hs').2⟩
  show(if Uo G lo n h x.b then w.cell? ⟨x.b,off,none⟩else G.Gp x.b off)=none
  rw[if_neg]
  ·exact(h1 off).1
  ·rintro⟨B',es',g',k1,k2,k3,k4,k5⟩
   exact h2 B' es' g' (by omega) k3 k4 k5
 ·exact hi.iown B s pos r hl (get _ _ e).2 (ion _ _ hr).2 B' s' pos' r' hne (get _ _ e').2 (ion _ _ hr').2
theorem ZoL{G0:Gh}(hle:G0.le G)(hi:Zz T G lo h w){n:Nat}(hn:G0.n≤n)(hs: ∀B ep g,G0.sg B ep=some g→B<G0.n)(hio: ∀B r,G0.io B=some r→B<G0.n):G0.le (G.drop lo n h w G.Gb):=
 ⟨fun b off v e=>K0 hi (hle.gp _ _ _ e),hle.gb,fun B ep x e=>by
   have:=hs _ _ _ e
   show(if B<n then G.sg B ep else none)=some x
   rw[if_pos (by omega)];exact hle.sg _ _ _ e,fun B r e=>by
   have:=hio _ _ e
   show(if B<n then G.io B else none)=some r
   rw[if_pos (by omega)];exact hle.io _ _ e,hn⟩
theorem Zft{G0:Gh}{h0:Zg}{w0:World}(hi0:Zz T G0 lo h0 w0)(st:Stp lo G0 h0 w0 G h w)(hi:Zz T G lo h w)(hn:h0.length≤h.length):
 Stp lo G0 h0 w0 (G.drop lo h0.length h w G.Gb) (h.take h0.length) w:=by
 refine⟨ZoL st.le hi hi0.nle hi0.sdom hi0.idom,st.os,st.tape,st.output,st.size,fun b hb hno=> ?_,st.gbs,fun B hB=> ?_,⟨by simp;omega,fun B es' hB e=> ?_⟩⟩
 ·obtain⟨h1,h2,h3⟩:=st.keep b hb hno
  refine⟨h1,fun off=> ?_,?_⟩
  ·show(if Uo G lo h0.length h b then w.cell? ⟨b,off,none⟩else G.Gp b off)=_
   rw[if_neg fun hl=>h3 hl.own];exact h2 off
  ·rintro⟨B,hl,⟨es,g,e,hs,hg⟩|⟨s,pos,e,hr⟩⟩
   ·have e':(if B<h0.length then G.sg B es.length else none)=some g:=hs
    rw[List.getElem?_take]at e
    split at e
    ·rename_i hB;rw[if_pos hB]at e';exact h3 ⟨B,hl,.inl ⟨es,g,e,e',hg⟩⟩
    ·simp at e
   ·have e':(if B<h0.length then G.io B else none)=some b:=hr
    rw[List.getElem?_take]at e
    split at e
    ·rename_i hB;rw[if_pos hB]at e';exact h3 ⟨B,hl,.inr ⟨s,pos,e,e'⟩⟩
    ·simp at e
 ·have:=hi0.llo
  obtain⟨h1,h2⟩:=st.slo B hB
  refine⟨fun ep=> ?_,?_⟩
  ·show(if B<h0.length then G.sg B ep else none)=_
   rw[if_pos (by omega)];exact h1 ep
  ·show(if B<h0.length then G.io B else none)=_
   rw[if_pos (by omega)];exact h2
 ·rw[List.getElem?_take,if_pos hB]at e
  obtain⟨es,h1,h2,h3⟩:=st.mono.2 B es' hB e
  refine⟨es,h1,h2,fun hl k=>h3 hl ?_⟩
  have k':(if B<h0.length then G.sg B es'.length else none).isSome=true:=k
  rwa[if_pos hB]at k'
theorem Zz.belowOf{G0:Gh}{h0:Zg}{w0:World}(hi0:Zz T G0 lo h0 w0){B:Nat}{es:List V}(e:h0[B]? =some (.arr es))(hs:(G0.sg B es.length).isSome=true):Zo h0.length es=true:=by
 obtain⟨g,hg⟩:=Option.isSome_iff_exists.1 hs
 obtain⟨c,t,fz,h1,h2,h3,h4,h5⟩:=hi0.live _ _ _ e hg
 refine Uq es fun i v hv=> ?_
 have:=VI (n:=G0.n) (e:=v) fun j x hx=>by
  obtain⟨rv,_,k2,_⟩:=(h5 i v hv).2 j x hx
  exact k2.refs hi0.sdom hi0.idom
 exact V3 hi0.nle this
theorem ZbH{G0:Gh}{h0:Zg}{w0:World}(hi0:Zz T G0 lo h0 w0)(st:Stp lo G0 h0 w0 G h w)(ho:Zn7 h0 h):
 ∀B es,B<h0.length→h[B]? =some (.arr es)→(G.sg B es.length).isSome=true→Zo h0.length es=true:=by
 intro B es hB e hs
 rcases ho B hB with hh|⟨b',e',hb'⟩
 ·rw[e]at hh
  obtain⟨es0,h1,h2,h3⟩:=st.mono.2 B es hB e
  rw[h1]at hh
  simp only[Option.some.injEq,Blk.arr.injEq]at hh
  subst hh
  exact hi0.belowOf h1 (h3 rfl hs)
 ·rw[e]at e'
  simp only[Option.some.injEq]at e'
  rw[←e']at hb';exact hb'
end
end Go.VE
