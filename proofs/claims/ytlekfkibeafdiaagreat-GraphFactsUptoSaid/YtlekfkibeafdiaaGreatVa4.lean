/- Joined texts: VeCode, VeTab, VeSym. No condition: what each theorem needs stands in it. -/
import Derived.Test.YtlekfkibeafdiaaGreatVa3
import Derived.KernelRfl
namespace Go.VE
set_option linter.unnecessarySimpa false
open Classical
def Zl6:Ex→Exit
 |.nrm=>.normal
 |.brk i=>.exit i
 |.ret=>.ret
def Zw3(T:Tbl)(lo:Nat)(G0:Gh)(h0:Zg)(w0:World)(nt:Nat)(r:Ex ×Fr ×Zg)(e:Exit)(a:Act)(w:World):Prop:=
 e=Zl6 r.1∧St T lo G0 h0 w0 nt r.2.1 r.2.2 a w
section
variable {P : Program} {T : Tbl} {vp : VP} {G : Gh} {w : World} {lo : Nat} {h : Zg} {G0 : Gh} {w0 : World} {h0 : Zg}
def Zbh(P:Program)(T:Tbl)(vp:VP)(n:Nat):Prop:=
 ∀lo ks body c nt fr h r,(YV vp n).loop lo ks body fr h=some r→YE P T vp nt c body=true→∀G0 h0 w0 a w,St T lo G0 h0 w0 nt fr h a w→Code.rounds P c (Zw3 T lo G0 h0 w0 nt r) n a w
theorem Zfn{n:Nat}: ∀{fr:Fr},Zo n (fr.map Prod.snd)=true→∀t,Zk n (lk fr t)=true
 |[],_,t=>rfl
 |(k,v)::fr,hh,t=>by
  simp only[List.map_cons,Zo,Bool.and_eq_true]at hh
  simp only[lk]
  split
  ·exact hh.1
  ·exact Zfn hh.2 t
theorem Zpe(hi:Zz T G lo h w){fr1:Fr}{h1:Zg}{G1:Gh}{w1:World}{tmps:Array Value}(hf:XF T G1 fr1 tmps)(hi1:Zz T G1 lo h1 w1)(st:Stp lo G h w G1 h1 w1):
 ∃G2,XF T G2 fr1 tmps∧Zz T G2 lo (X1 vp h fr1 h1) w1∧Stp lo G h w G2 (X1 vp h fr1 h1) w1:=by
 unfold X1
 split
 ·rename_i hc0
  simp only[Bool.and_eq_true]at hc0
  have hc:Zo h.length (fr1.map Prod.snd)=true∧Zn7 h h1:=⟨hc0.1.2,Zbj hc0.2⟩
  refine⟨G1.drop lo h.length h1 w1 G1.Gb,fun t=> ?_,Kk hi1 st.mono.1 hi.llo (ZbH hi st hc.2),Zft hi st hi1 st.mono.1⟩
  refine R.under (n:=h.length) (fun b off v e=>K0 hi1 e) (fun _ _ _ e=>e) (fun B ep g hB e=> ?_) (fun B r hB e=> ?_) (Nat.le_refl _) (hf t) (Zfn hc.1 t)
  ·show(if B<h.length then G1.sg B ep else none)=some g
   rw[if_pos hB];exact e
  ·show(if B<h.length then G1.io B else none)=some r
   rw[if_pos hB];exact e
 ·exact⟨G1,hf,hi1,st⟩
theorem St.keep{nt:Nat}{fr:Fr}{a:Act}(hs:St T lo G0 h0 w0 nt fr h a w)(ks:List Nat):St T lo G0 h0 w0 nt (VE.keep ks fr) h a w:=by
 obtain⟨G,s1,s2,s3,s4,s5⟩:=hs
 exact⟨G,s1.keep ks,s2,s3,s4,s5⟩
theorem Zjw(tied:U6 P T vp){n:Nat}(ih:Xw P T vp n)(il:Zbh P T vp n): ∀(c:Code) (v:Zd) {nt:Nat} {fr:Fr} {h:Zg} {r:Ex ×Fr ×Zg} {a:Act} {w:World} {G0:Gh} {h0:Zg} {w0:World},
 YE P T vp nt c v=true→Y4 (YV vp n) vp lo v fr h=some r→St T lo G0 h0 w0 nt fr h a w→c.wp P (Zw3 T lo G0 h0 w0 nt r) a w:=by
 intro c v
 induction v generalizing c with
 |skip=>
  intro nt fr h r a w G0 h0 w0 hc e hs
  cases c<;>simp[YE]at hc
  simp only[Y4,Option.some.injEq]at e
  subst e
  exact wp_skip ⟨rfl,hs⟩
 |reg its ks=>
  intro nt fr h r a w G0 h0 w0 hc e hs
  cases c with
  |region id ops draw=>
   cases draw with
   |false=>
    simp only[Y4,Option.map_eq_some_iff]at e
    obtain⟨x,hx,rfl⟩:=e
    have hc:Qp P T ops nt ops.toList its=true:=hc
    exact ZlE tied ih hc hx hs fun a w s=>⟨rfl,s.keep ks⟩
   |true=>exact absurd hc (by simp[YE])
  |_=>exact absurd hc (by simp[YE])
 |drw ds ks=>
  intro nt fr h r a w G0 h0 w0 hc e hs
  cases c with
  |region id ops draw=>
   cases draw with
   |true=>
    simp only[Y4,Option.map_eq_some_iff]at e
    obtain⟨x,hx,rfl⟩:=e
    have hc:Za4 P T vp ops nt ds=true:=hc
    exact Zo8 tied ih hc hx hs fun a w s=>⟨rfl,s.keep ks⟩
   |false=>exact absurd hc (by simp[YE])
  |_=>exact absurd hc (by simp[YE])
 |seq v1 v2 ih1 ih2=>
  intro nt fr h r a w G0 h0 w0 hc e hs
  cases c<;>simp only[YE,Bool.false_eq_true]at hc
  rename_i c1 c2
  simp only[Bool.and_eq_true]at hc
  simp only[Y4,Option.bind_eq_some_iff]at e
  obtain⟨x,hx,e⟩:=e
  refine wp_seq (wp_mono (ih1 c1 hc.1 hx hs) fun ex a' w' ⟨q1,q2⟩=> ?_)
  obtain⟨ex1,fr1,h1⟩:=x
  subst q1
  cases ex1 with
  |nrm=>exact ih2 c2 hc.2 e q2
  |brk i=>simp only[Option.some.injEq]at e;subst e;exact⟨rfl,q2⟩
  |ret=>simp only[Option.some.injEq]at e;subst e;exact⟨rfl,q2⟩
 |cond y v1 v2 ih1 ih2=>
  intro nt fr h r a w G0 h0 w0 hc e hs
  cases c<;>simp only[YE,Bool.false_eq_true]at hc
  rename_i x c1 c2
  simp only[Bool.and_eq_true]at hc
  simp only[Y4]at e
  split at e
  ·rename_i b hb
   obtain⟨G,s1,s2,s3,s4,s5⟩:=id hs
   have hR:=WL s1 hc.1.1
   rw[hb]at hR
   have hv:=hR.bool_inv
   split at e
   ·rename_i hbt
    exact wp_cond hv (by rw[if_pos hbt];exact ih1 c1 hc.1.2 e hs)
   ·rename_i hbt
    exact wp_cond hv (by rw[if_neg hbt];exact ih2 c2 hc.2 e hs)
  ·simp at e
 |blk id v1 ih1=>
  intro nt fr h r a w G0 h0 w0 hc e hs
  cases c<;>simp only[YE,Bool.false_eq_true]at hc
  rename_i id' c1
  simp only[Bool.and_eq_true,beq_iff_eq]at hc
  obtain⟨rfl,hc⟩:=hc
  simp only[Y4,Option.map_eq_some_iff]at e
  obtain⟨x,hx,e⟩:=e
  refine wp_block (wp_mono (ih1 c1 hc hx hs) fun ex a' w' ⟨q1,q2⟩=> ?_)
  obtain⟨ex1,fr1,h1⟩:=x
  subst q1
  cases ex1 with
  |nrm=>simp only at e;subst e;exact⟨rfl,q2⟩
  |brk i=>
   simp only at e
   simp only[Zl6,Exit.inBlock]
   split
   ·rename_i hid
    rw[if_pos hid]at e;subst e;exact⟨rfl,q2⟩
   ·rename_i hid
    rw[if_neg hid]at e;subst e;exact⟨rfl,q2⟩
  |ret=>simp only at e;subst e;exact⟨rfl,q2⟩
 |loop ks v1 ih1=>
  intro nt fr h r a w G0 h0 w0 hc e hs
  cases c<;>simp only[YE,Bool.false_eq_true]at hc
  rename_i c1
  simp only[Y4]at e
  exact wp_loop_rounds n (il _ _ _ _ _ _ _ _ e hc _ _ _ _ _ (hs.keep ks))
 |exit id=>
  intro nt fr h r a w G0 h0 w0 hc e hs
  cases c<;>simp[YE]at hc
  subst hc
  simp only[Y4,Option.some.injEq]at e
  subst e
  exact wp_exit ⟨rfl,hs⟩
 |ret=>
  intro nt fr h r a w G0 h0 w0 hc e hs
  cases c<;>simp[YE]at hc
  simp only[Y4,Option.some.injEq]at e
  subst e
  exact wp_ret ⟨rfl,hs⟩
theorem Ze9: ∀(vs:List V) (n t:Nat),lk (Vt n vs) t=if n≤t then(vs[t-n]?).getD .undef else .undef
 |[],n,t=>by simp[Vt,lk]
 |v::vs,n,t=>by
  simp only[Vt,lk]
  split
  ·rename_i hh;subst hh;simp
  ·rename_i hh
   rw[Ze9 vs (n+1) t]
   by_cases h1:n+1≤t
   ·rw[if_pos h1,if_pos (by omega)]
    have:t-n=(t-(n+1))+1:=by omega
    rw[this];simp
   ·rw[if_neg h1,if_neg (by omega)]
theorem ZpM{vs:List V}{as:Array Value}(hR:RA T G vs as)(k:Nat):XF T G (Vt 0 vs) (as++Array.replicate k undef):=by
 intro t
 rw[Ze9,if_pos (Nat.zero_le _),Nat.sub_zero]
 cases hv:vs[t]? with
 |none=>exact .undef _
 |some v=>
  have hlt:t<as.size:=by rw[←hR.1];exact(List.getElem?_eq_some_iff.1 hv).1
  have hg:(as++Array.replicate k undef).getD t undef=as[t]:=by
   rw[Array.getD_eq_getD_getElem?,Array.getElem?_append_left hlt];simp[hlt]
  rw[hg]
  exact hR.2 t v _ hv (by simp[hlt])
def ZaT(tmps:Array Value):ResultVar→Sem Value
 |.tmp t=>pure (tmps.getD t undef)
 |.cell a t=>do loadVar t (←asAddr (tmps.getD a undef))
theorem Zhi(hi:Zz T G lo h w){fr:Fr}{tmps:Array Value}(hf:XF T G fr tmps): ∀(l:List ResultVar) (r:List U0) (vs:List V),W5 P l r=true→Zbe fr h r=some vs→∃rs:List Value,(l.mapM (ZaT tmps)).run P w=.ok rs w∧vs.length=rs.length∧∀(i:Nat) (v:V) (rv:Value),vs[i]? =some v→rs[i]? =some rv→R T G v rv
 |[],[],vs,hc,e=>by
  simp[Zbe]at e;subst e
  exact⟨[],by simp,rfl,by simp⟩
 |[],_::_,_,hc,_=>by simp[W5]at hc
 |.tmp _::_,[],_,hc,_=>by simp[W5]at hc
 |.cell _ _::_,[],_,hc,_=>by simp[W5]at hc
 |.tmp t::l,.tmp t'::r,vs,hc,e=>by
  simp only[W5,Bool.and_eq_true,beq_iff_eq]at hc
  obtain⟨rfl,hc⟩:=hc
  simp only[Zbe,Xu,Option.bind_some,Option.map_eq_some_iff]at e
  obtain⟨vs',e,rfl⟩:=e
  obtain⟨rs,r1,r2,r3⟩:=Zhi hi hf l r vs' hc e
  refine⟨tmps.getD t undef::rs,by simp only[List.mapM_cons,Sem.run_bind,ZaT,Sem.run_pure,Result.andThen_ok,r1],by simp[r2],fun i v rv e1 e2=> ?_⟩
  cases i with
  |zero=>simp at e1 e2;subst e1;rw[←e2];have:=hf t;simpa using this
  |succ i=>exact r3 i v rv (by simpa using e1) (by simpa using e2)
 |.tmp t::l,.cell _ _ _::r,vs,hc,e=>by simp[W5]at hc
 |.cell _ _::l,.tmp _::r,vs,hc,e=>by simp[W5]at hc
 |.cell x t::l,.cell x' agg n::r,vs,hc,e=>by
  simp only[W5,Bool.and_eq_true,beq_iff_eq]at hc
  obtain⟨⟨⟨rfl,ha⟩,hs⟩,hc⟩:=hc
  simp only[Zbe,Xu,Option.bind_eq_some_iff,Option.map_eq_some_iff]at e
  obtain⟨v,hv,vs',e,rfl⟩:=e
  obtain⟨rs,r1,r2,r3⟩:=Zhi hi hf l r vs' hc e
  obtain⟨rv,ad,k1,k2,k3⟩:=Zbv (P:=P) hi ha (fun hagg=>by rw[hagg]at hs;simpa using hs) hv (hf x)
  refine⟨rv::rs,?_,by simp[r2],fun i v' rv' e1 e2=> ?_⟩
  ·simp only[List.mapM_cons,Sem.run_bind,ZaT,k1,asAddr,Sem.run_pure,Result.andThen_ok,k2,r1]
  ·cases i with
   |zero=>simp at e1 e2;subst e1;subst e2;exact k3
   |succ i=>exact r3 i v' rv' (by simpa using e1) (by simpa using e2)
theorem ZgY(hi:Zz T G lo h w){fr:Fr}{tmps:Array Value}(hf:XF T G fr tmps){fn:Func}{r:List U0}{v:V}(hc:W5 P fn.results.toList r=true)(e:Ub fr h r=some v):
 ∃rv,(results fn tmps).run P w=.ok rv w∧R T G v rv:=by
 simp only[Ub,Option.map_eq_some_iff]at e
 obtain⟨vs,hv,e⟩:=e
 obtain⟨rs,r1,r2,r3⟩:=Zhi hi hf _ _ _ hc hv
 have hm:(fn.results.mapM (ZaT tmps)).run P w=.ok rs.toArray w:=by
  rw[Array.mapM_eq_mapM_toList]
  simp only[Sem.run_map,r1,Result.andThen_ok]
 have hres:results fn tmps=(do let vs←fn.results.mapM (ZaT tmps);pure (if h:vs.size=1 then vs[0]else .tuple vs)):=by
  unfold results
  congr
 have hm2:(results fn tmps).run P w=.ok (if h:rs.toArray.size=1 then rs.toArray[0]else .tuple rs.toArray) w:=by
  rw[hres]
  simp only[Sem.run_bind,hm,Result.andThen_ok,Sem.run_pure]
 refine⟨_,hm2,?_⟩
 cases vs with
 |nil=>
  cases rs with
  |nil=>subst e;exact .tup [] #[] rfl (by simp)
  |cons x rs=>simp at r2
 |cons y vs=>
  cases rs with
  |nil=>simp at r2
  |cons x rs=>
   cases vs with
   |nil=>
    cases rs with
    |nil=>subst e;exact r3 0 _ _ rfl rfl
    |cons x' rs=>simp at r2
   |cons y' vs=>
    subst e
    rw[dif_neg (by cases rs with|nil=>simp at r2|cons x' rs=>simp)]
    exact .tup (y::y'::vs) (x::rs).toArray (by simpa using r2) (fun i v rv e1 e2=>r3 i v rv e1 (by simpa using e2))
theorem ZqZ(tied:U6 P T vp): ∀n,Xw P T vp n∧Zbh P T vp n
 |0=>⟨fun f vf lo vs h r h' _ _ e=>absurd e (by simp[YV]),fun lo ks body c nt fr h r e=>absurd e (by simp[YV])⟩
 |n+1=>by
  obtain⟨ih,il⟩:=ZqZ tied n
  refine⟨fun f vf lo vs h r h' hv hx e G w fid as hf hi hR=> ?_,fun lo ks body c nt fr h r e hc G0 h0 w0 a w hs=> ?_⟩
  ·obtain⟨fid',fn,hf',hfn,hck⟩:=tied.fn f vf hv hx
   rw[hf]at hf';simp only[Option.some.injEq]at hf';subst hf'
   obtain⟨c,hb,hnm,hcode,hres⟩:=Jl hck
   have e':Xi (YV vp n) vp f lo vs h=some (r,h'):=e
   simp only[Xi,hv,Option.bind_some,Option.bind_eq_some_iff]at e'
   obtain⟨x,hxx,e'⟩:=e'
   refine calls_of_wp hfn hb ?_
   have hs:St T lo G h w fn.ntmps (Vt 0 vs) h {tmps:=as++Array.replicate (fn.ntmps-as.size) undef,defers:=[]} w:=
    ⟨G,ZpM hR _,hi,.refl _ _ _ _,rfl,by simp;omega⟩
   refine wp_mono (Zjw tied ih il c vf.body hcode hxx hs) fun ex a' w' ⟨q1,q2⟩=> ?_
   obtain⟨ex1,fr1,h1⟩:=x
   obtain⟨G1,s1,s2,s3,s4,s5⟩:=q2
   have fin:(Ub fr1 h1 vf.results).map (fun v=>(v,h1))=some (r,h')→a'.defers=[]∧∃v,(results fn a'.tmps).run P w'=.ok v w'∧Zov T lo G h w r h' (.returned v) w':=by
    intro e'
    simp only[Option.map_eq_some_iff,Prod.mk.injEq]at e'
    obtain⟨v,hv,rfl,rfl⟩:=e'
    obtain⟨rv,k1,k2⟩:=ZgY s2 s1 hres hv
    exact⟨s4,rv,k1,rv,G1,rfl,k2,s2,s3⟩
   subst q1
   cases ex1 with
   |nrm=>exact fin e'
   |brk i=>simp at e'
   |ret=>exact fin e'
  ·have e':Y8 (YV vp n) vp lo ks body fr h=some r:=e
   simp only[Y8,Option.bind_eq_some_iff]at e'
   obtain⟨x,hxx,e'⟩:=e'
   obtain⟨G,s1,s2,s3,s4,s5⟩:=hs
   rw[rounds_succ]
   refine wp_mono (Zjw tied ih il c body hc hxx (G0:=G) (h0:=h) (w0:=w) ⟨G,s1,s2,.refl _ _ _ _,s4,s5⟩) fun ex a' w' ⟨q1,q2⟩=> ?_
   obtain⟨ex1,fr1,h1⟩:=x
   obtain⟨G1,t1,t2,t3,t4,t5⟩:=q2
   subst q1
   cases ex1 with
   |nrm=>
    simp only at e'
    obtain⟨G2,u1,u2,u3⟩:=Zpe (vp:=vp) s2 (t1.keep ks) t2 t3
    exact il _ _ _ _ _ _ _ _ e' hc _ _ _ _ _ ⟨G2,u1,u2,s3.trans u3,t4,t5⟩
   |brk i=>simp only[Option.some.injEq]at e';subst e';exact⟨rfl,G1,t1,t2,s3.trans t3,t4,t5⟩
   |ret=>simp only[Option.some.injEq]at e';subst e';exact⟨rfl,G1,t1,t2,s3.trans t3,t4,t5⟩
theorem Zfj(tied:U6 P T vp){f:Nat}{vf:Zi}(hv:vp.fn f=some vf)(hx:vf.ext=none){vs:List V}{r:V}{h':Zg}(e:ZmY vp f lo vs h=some (r,h'))(hi:Zz T G lo h w){fid:FuncId}(hf:T.fid f=some fid)
 {as:Array Value} (hR:RA T G vs as):Calls P fid as w (Zov T lo G h w r h'):=by
 obtain⟨n,hn⟩:=Wc e
 exact(ZqZ tied n).1 f vf lo vs h r h' hv hx hn G w fid as hf hi hR
end
end Go.VE
namespace Go.VE
inductive WM (α:Type) where
 |leaf
 |node (l:WM α) (k:Nat) (v:α) (r:WM α)
def WM.get{α:Type}:WM α→Nat→Option α
 |.leaf,_=>none
 |.node l k v r,n=>if Nat.blt n k then l.get n else if Nat.blt k n then r.get n else some v
def WM.toList{α:Type}:WM α→List (Nat ×α)
 |.leaf=>[]
 |.node l k v r=>l.toList++(k,v)::r.toList
theorem WM.get_mem{α:Type}{n:Nat}{v:α}: ∀{t:WM α},t.get n=some v→(n,v)∈t.toList
 |.leaf,h=>by simp[WM.get]at h
 |.node l k x r,h=>by
  simp only[WM.get]at h
  simp only[WM.toList,List.mem_append,List.mem_cons]
  split at h
  ·exact .inl (get_mem h)
  ·rename_i h1
   split at h
   ·exact .inr (.inr (get_mem h))
   ·rename_i h2
    have e:n=k:=by
     simp only[Nat.blt_eq]at h1 h2
     omega
    simp only[Option.some.injEq]at h
    exact .inr (.inl (by rw[e,h]))
def WM.all{α:Type}(p:Nat→α→Bool):WM α→Bool
 |.leaf=>true
 |.node l k v r=>p k v&&l.all p&&r.all p
theorem WM.all_get{α:Type}{p:Nat→α→Bool}{n:Nat}{v:α}: ∀{t:WM α},t.all p=true→t.get n=some v→p n v=true
 |.leaf,_,h=>by simp[WM.get]at h
 |.node l k x r,ha,h=>by
  simp only[WM.all,Bool.and_eq_true]at ha
  simp only[WM.get]at h
  split at h
  ·exact all_get ha.1.2 h
  ·rename_i h1
   split at h
   ·exact all_get ha.2 h
   ·rename_i h2
    have e:n=k:=by
     simp only[Nat.blt_eq]at h1 h2
     omega
    simp only[Option.some.injEq]at h
    rw[e,←h];exact ha.1.1
def T1{α:Type}(k:Nat)(v:α):WM α:=.node .leaf k v .leaf
def T2{α:Type}(l:WM α)(k:Nat)(v:α):WM α:=.node l k v .leaf
def T3{α:Type}(l:WM α)(k:Nat)(v:α)(r:WM α):WM α:=.node l k v r
def Zos(P:Program)(T:Tbl)(vp:VP)(p:Nat ×Zi):Bool:=
 match p.2.ext,T.fid p.1 with
 |none,some i=>(match P.funcs[i]? with|some fn=>JS P T vp fn p.2|none=>false)
 |some _,_=>true
 |none,none=>false
theorem Zqb{P:Program}{T:Tbl}{vp:VP}{p:Nat ×Zi}(h:Zos P T vp p=true)(hx:p.2.ext=none): ∃fid fn,T.fid p.1=some fid∧P.funcs[fid]? =some fn∧JS P T vp fn p.2=true:=by
 unfold Zos at h
 rw[hx]at h
 split at h
 ·rename_i e
  split at h
  ·rename_i fn e2;exact⟨_,fn,e,e2,h⟩
  ·simp at h
 ·rename_i e;simp at e
 ·simp at h
theorem Zaj{α:Type}{p:α→Bool}{n:Nat}: ∀{k:Nat} {l:List α},l.length≤k*n→(∀i,i<k→((l.drop (i*n)).take n).all p=true)→∀x∈l,p x=true
 |0,l,hl,_,x,hx=>by
  have:l=[]:=List.eq_nil_of_length_eq_zero (by omega)
  subst this;simp at hx
 |k+1,l,hl,h,x,hx=>by
  rw[←List.take_append_drop n l,List.mem_append]at hx
  rcases hx with hx|hx
  ·exact List.all_eq_true.1 (by simpa using h 0 (by omega)) x hx
  ·refine Zaj (n:=n) (k:=k) (by rw[List.length_drop];rw[Nat.succ_mul]at hl;omega) (fun i hi=> ?_) x hx
   have:=h (i+1) (by omega)
   rwa[List.drop_drop,Nat.add_comm n (i*n),←Nat.succ_mul]
end Go.VE
namespace Go.VE
theorem nr{α:Type}{a b:α}(h:a=b):a=b:=h
noncomputable def Zc (vp:VP) (f:Nat) (args:List V):Option V:=
 ((orc vp).call f 0 args []).bind fun r=>frz 0 r.2 4 r.1
def fin(rs:List U0)(r:Ex ×Fr ×Zg):Option V:=
 match r with
 |(.brk _,_,_)=>none
 |(_,fr,h1)=>(Ub fr h1 rs).bind fun v=>frz 0 h1 4 v
theorem Zll{vp:VP}{f:Nat}{vf:Zi}(hf:vp.fn f=some vf)(args:List V):
 Zc vp f args=(Y4 (orc vp) vp 0 vf.body (Vt 0 args) []).bind (fin vf.results):=by
 unfold Zc
 rw[Ze5]
 unfold Xi
 simp only[hf,Option.bind_some]
 cases Y4 (orc vp) vp 0 vf.body (Vt 0 args) []with
 |none=>rfl
 |some r=>
  obtain⟨ex,fr,h⟩:=r
  cases ex<;>simp only[Option.bind_some,fin,Option.bind_none]
  all_goals cases Ub fr h vf.results<;>rfl
theorem Zfv{α β:Type}{o o':Option α}{f:α→Option β}(h:o=o'):o.bind f=o'.bind f:=by rw[h]
theorem ZKp{lo d:Nat}{h:Zg}{v:V}(hc:Ze v=true):frz lo h d v=some v:=by
 cases d<;>simp[frz,hc]
theorem Zls{lo:Nat}{h:Zg}{v:V}(hc:Ze v=true):fzV lo h v=some (v,h):=by
 cases v<;>simp[fzV,hc]
 ·intro h1;simp[Ze]at hc;rw[hc]at h1;simp at h1
 ·simp[Ze]at hc
theorem KD(vp:VP)(h h1:Zg)(fr:Fr)(hl:h1.length=h.length):X1 vp h fr h1=h1:=by
 unfold X1;split
 ·rw[List.take_of_length_le (by omega)]
 ·rfl
section
variable (k : Nat) (b : Bool) (ik : IntKind) (n : Int) (s : List UInt8) (cs as : List V) (z o f : Nat) (t : Tag) (v : V)
@[simp] theorem ZpL:Ze (.bool b)=true:=nr rfl
@[simp] theorem Ztt:Ze (.int ik n)=true:=nr rfl
@[simp] theorem ZCn:Ze (.str s)=true:=nr rfl
@[simp] theorem ZAk:Ze .nilp=true:=nr rfl
@[simp] theorem ZAP:Ze .nilf=true:=nr rfl
@[simp] theorem ZA4:Ze .nili=true:=nr rfl
@[simp] theorem ZzR:Ze .nilm=true:=nr rfl
@[simp] theorem Zv8:Ze .undef=true:=nr rfl
@[simp] theorem ZB7:Ze (.agg cs)=Zv cs:=nr rfl
@[simp] theorem ZBM:Ze (.tup cs)=Zv cs:=nr rfl
@[simp] theorem ZwH:Ze (.iface z v)=Ze v:=nr rfl
@[simp] theorem ZAS:Ze (.func f cs as)=(Zv cs&&Zv as):=nr rfl
@[simp] theorem ZBB:Zv []=true:=nr rfl
@[simp] theorem ZA9:Zv (v::cs)=(Ze v&&Zv cs):=nr rfl
@[simp] theorem ZBo:Zk k (.bool b)=true:=nr rfl
@[simp] theorem ZCK:Zk k (.int ik n)=true:=nr rfl
@[simp] theorem ZB0:Zk k (.str s)=true:=nr rfl
@[simp] theorem ZBm:Zk k .nilp=true:=nr rfl
@[simp] theorem ZzC:Zk k .nilf=true:=nr rfl
@[simp] theorem ZA7:Zk k .nili=true:=nr rfl
@[simp] theorem Zz3:Zk k .nilm=true:=nr rfl
@[simp] theorem Zv2:Zk k .undef=true:=nr rfl
@[simp] theorem ZB4:Zk k (.agg cs)=Zo k cs:=nr rfl
@[simp] theorem ZBz:Zk k (.tup cs)=Zo k cs:=nr rfl
@[simp] theorem ZC0:Zk k (.sl z cs t)=Zo k cs:=nr rfl
@[simp] theorem ZzV:Zk k (.eptr v o t)=Zk k v:=nr rfl
@[simp] theorem Zva:Zk k (.iface z v)=Zk k v:=nr rfl
@[simp] theorem Zz1:Zk k (.func f cs as)=(Zo k cs&&Zo k as):=nr rfl
@[simp] theorem ZBW:Zo k []=true:=nr rfl
@[simp] theorem ZzX:Zo k (v::cs)=(Zk k v&&Zo k cs):=nr rfl
@[simp] theorem ZCz(B ep i:Nat):Zk k (.ptr B ep i o)=decide (B<k):=nr rfl
@[simp] theorem ZBx(B ep len:Nat):Zk k (.gsl B ep z o len)=decide (B<k):=nr rfl
@[simp] theorem ZBP(B:Nat):Zk k (.itr B)=decide (B<k):=nr rfl
@[simp] theorem ZBj:okV (.bool b)=true:=nr rfl
@[simp] theorem ZBF:okV (.int ik n)=true:=nr rfl
@[simp] theorem ZBu:okV (.str s)=true:=nr rfl
@[simp] theorem ZCT:okV (.agg cs)=true:=nr rfl
@[simp] theorem ZC7:okV (.sl z cs t)=true:=nr rfl
@[simp] theorem ZAs:okV (.eptr v o t)=true:=nr rfl
@[simp] theorem ZAW:okV .nilp=true:=nr rfl
@[simp] theorem ZzW:okV .nilf=true:=nr rfl
@[simp] theorem ZAa:okV .nili=true:=nr rfl
@[simp] theorem ZvM:okV (.iface z v)=true:=nr rfl
@[simp] theorem ZAt:okV (.func f cs as)=true:=nr rfl
@[simp] theorem ZBK(B ep i:Nat):okV (.ptr B ep i o)=true:=nr rfl
@[simp] theorem ZCF(B ep len:Nat):okV (.gsl B ep z o len)=true:=nr rfl
end
section
variable {β : Type}
def Yx(O:Orc)(vp:VP)(lo:Nat)(c:Zd)(fr:Fr)(h:Zg)(K:Ex→Fr→Zg→Option β):Option β:=(Y4 O vp lo c fr h).bind fun r=>K r.1 r.2.1 r.2.2
def Zt(O:Orc)(vp:VP)(lo:Nat)(ops:List VIt)(fr:Fr)(h:Zg)(k:Fr→Zg→Option β):Option β:=(YN O vp lo ops fr h).bind fun r=>k r.1 r.2
def ZS(O:Orc)(vp:VP)(lo:Nat)(fr:Fr)(h:Zg)(op:VOp)(k:V→Zg→Option β):Option β:=(ZM O vp lo fr h op).bind fun r=>k r.1 r.2
def dK(O:Orc)(vp:VP)(lo:Nat)(ds:List VDt)(p:Nat)(rs:List Jf)(fr:Fr)(h:Zg)(k:Fr→Zg→Option β):Option β:=(Ur O vp lo ds p rs fr h).bind fun r=>k r.1 r.2
open Classical in
noncomputable def ifP {α:Type} (p:Prop) (x y:α):α:=if p then x else y
theorem KS{α:Type}(p:Prop)[Decidable p](x y:α):ifP p x y=if p then x else y:=by unfold ifP;split<;>simp_all
theorem Zid{α:Type}{p:Prop}(h:p)(x y:α):ifP p x y=x:=if_pos h
theorem ZiQ{α:Type}{p:Prop}(h: ¬p)(x y:α):ifP p x y=y:=if_neg h
@[simp] theorem ZwK{α:Type}(x y:α):ifP True x y=x:=if_pos trivial
@[simp] theorem ZuB{α:Type}(x y:α):ifP False x y=y:=if_neg id
@[simp] theorem ZxP{α:Type}(p:Prop)(x:α):ifP p x x=x:=by unfold ifP;simp
theorem Zj1{α:Type}{c c':Prop}{x x' y y':α}(e:c=c')(e1:c'→x=x')(e2: ¬c'→y=y'):ifP c x y=ifP c' x' y':=by
 subst e
 by_cases hc:c
 ·rw[Zid hc,Zid hc];exact e1 hc
 ·rw[ZiQ hc,ZiQ hc];exact e2 hc
attribute [congr] Zj1
@[simp] theorem ZCx{α:Type}(p:Prop)(x y z:α):(ifP p x y=z)=((p→x=z)∧(¬p→y=z)):=by
  unfold ifP;split<;>simp_all
@[simp] theorem Zvl{α:Type}(c:Prop)(a b:Option α)(k:α→Option β):(ifP c a b).bind k=ifP c (a.bind k) (b.bind k):=by unfold ifP;split<;>rfl
def Jp(v:V)(x y:Option β):Option β:=
 match v with
 |.bool b=>if b=true then x else y
 |_=>none
def Z5(v:V)(want:Bool)(x y:Option β):Option β:=
 match v with
 |.bool b=>if b=want then x else y
 |.tup []=>y
 |_=>none
def Ztw(rs:List U0)(ex:Ex)(fr:Fr)(h1:Zg):Option V:=
 match ex with
 |.brk _=>none
 |_=>(Ub fr h1 rs).bind fun v=>frz 0 h1 4 v
theorem Za{vp:VP}{f:Nat}{vf:Zi}(hf:vp.fn f=some vf)(args:List V):
 Zc vp f args=Yx (orc vp) vp 0 vf.body (Vt 0 args) [] (Ztw vf.results):=by
 rw[Zll hf]
 unfold Yx
 cases Y4 (orc vp) vp 0 vf.body (Vt 0 args) []with
 |none=>rfl
 |some r=>obtain⟨ex,fr,h⟩:=r;cases ex<;>rfl
def KM(fr:Fr)(k:Fr→Option β):Option β:=k fr
def KN(v:V)(h:Zg)(k:V→Zg→Option β):Option β:=k v h
theorem Zhm{fr fr':Fr}{k:Fr→Option β}(e:fr=fr'):KM fr k=KM fr' k:=by rw[e]
theorem Zh5{v v':V}{h h':Zg}{k:V→Zg→Option β}(e:v=v')(e':h=h'):KN v h k=KN v' h' k:=by rw[e,e']
attribute [congr] Zhm Zh5
@[simp] theorem ZAj(fr:Fr)(k:Fr→Option β):KM fr k=k fr:=rfl
@[simp] theorem ZAb(v:V)(h:Zg)(k:V→Zg→Option β):KN v h k=k v h:=rfl
section
variable (O : Orc) (vp : VP) (lo : Nat) (fr : Fr) (h : Zg) (K : Ex → Fr → Zg → Option β) (k : Fr → Zg → Option β) (kv : V → Zg → Option β)
@[simp ↓] theorem Zsc:Yx O vp lo .skip fr h K=K .nrm fr h:=rfl
@[simp ↓] theorem ZuS:Yx O vp lo .ret fr h K=K .ret fr h:=rfl
@[simp ↓] theorem Zr9(id:Nat):Yx O vp lo (.exit id) fr h K=K (.brk id) fr h:=rfl
@[simp ↓] theorem QD(ops:List VIt)(ks:List Nat):Yx O vp lo (.reg ops ks) fr h K=Zt O vp lo ops fr h (fun fr h=>KM (keep ks fr) fun fr=>K .nrm fr h):=by
  unfold Yx Zt KM;simp only[Y4];cases YN O vp lo ops fr h<;>rfl
@[simp ↓] theorem Zkr(ds:List VDt)(ks:List Nat):Yx O vp lo (.drw ds ks) fr h K=dK O vp lo ds 0 [] fr h (fun fr h=>KM (keep ks fr) fun fr=>K .nrm fr h):=by
  unfold Yx dK KM;simp only[Y4];cases Ur O vp lo ds 0 [] fr h<;>rfl
def ZkJ(K:Ex→Fr→Zg→Option β)(N:Fr→Zg→Option β)(ex:Ex)(fr:Fr)(h:Zg):Option β:=
 match ex with
 |.nrm=>N fr h
 |ex=>K ex fr h
def ZhB(id:Nat)(K:Ex→Fr→Zg→Option β)(ex:Ex)(fr:Fr)(h:Zg):Option β:=
 match ex with
 |.brk i=>if i=id then K .nrm fr h else K (.brk i) fr h
 |ex=>K ex fr h
@[simp ↓] theorem Zwt(N:Fr→Zg→Option β):ZkJ K N .nrm fr h=N fr h:=rfl
@[simp ↓] theorem Zyu(N:Fr→Zg→Option β):ZkJ K N .ret fr h=K .ret fr h:=rfl
@[simp ↓] theorem ZvN(N:Fr→Zg→Option β)(i:Nat):ZkJ K N (.brk i) fr h=K (.brk i) fr h:=rfl
@[simp ↓] theorem ZyG(i:Nat):ZhB i K .nrm fr h=K .nrm fr h:=rfl
@[simp ↓] theorem Zzz(i:Nat):ZhB i K .ret fr h=K .ret fr h:=rfl
@[simp ↓] theorem Zvg(i j:Nat):ZhB i K (.brk j) fr h=if j=i then K .nrm fr h else K (.brk j) fr h:=rfl
@[simp ↓] theorem Zvt(rs:List U0):Ztw rs .nrm fr h=(Ub fr h rs).bind fun v=>frz 0 h 4 v:=rfl
@[simp ↓] theorem ZwS(rs:List U0):Ztw rs .ret fr h=(Ub fr h rs).bind fun v=>frz 0 h 4 v:=rfl
@[simp ↓] theorem WS(a b:Zd):Yx O vp lo (.seq a b) fr h K=Yx O vp lo a fr h (ZkJ K fun fr h=>Yx O vp lo b fr h K):=by
  unfold Yx;simp only[Y4]
  cases Y4 O vp lo a fr h with
  |none=>rfl
  |some r=>obtain⟨ex,fr,h⟩:=r;cases ex<;>rfl
@[simp ↓] theorem Jg(c:Z3)(a b:Zd):Yx O vp lo (.cond c a b) fr h K=Jp (opd fr c) (Yx O vp lo a fr h K) (Yx O vp lo b fr h K):=by
  unfold Yx;simp only[Y4]
  cases opd fr c<;>try rfl
  rename_i c;cases c<;>rfl
@[simp ↓] theorem ZuX(id:Nat)(body:Zd):Yx O vp lo (.blk id body) fr h K=Yx O vp lo body fr h (ZhB id K):=by
  unfold Yx;simp only[Y4]
  cases Y4 O vp lo body fr h with
  |none=>rfl
  |some r=>
   obtain⟨ex,fr,h⟩:=r
   cases ex<;>try rfl
   rename_i i;simp only[Option.map_some,Option.bind_some,ZhB];split<;>rfl
def Kl(o:Option (Ex ×Fr ×Zg))(K:Ex→Fr→Zg→Option β):Option β:=o.bind fun r=>K r.1 r.2.1 r.2.2
theorem ZeO{o o':Option (Ex ×Fr ×Zg)}{K:Ex→Fr→Zg→Option β}(e:o=o'):Kl o K=Kl o' K:=by rw[e]
attribute [congr] ZeO
@[simp] theorem Ztd(ex:Ex)(K:Ex→Fr→Zg→Option β):Kl (some (ex,fr,h)) K=K ex fr h:=rfl
@[simp] theorem ZtC(K:Ex→Fr→Zg→Option β):Kl none K=none:=rfl
@[simp] theorem Zun(c:Prop)(a b:Option (Ex ×Fr ×Zg))(K:Ex→Fr→Zg→Option β):Kl (ifP c a b) K=ifP c (Kl a K) (Kl b K):=by unfold ifP;split<;>rfl
@[simp ↓] theorem Ztm(ks:List Nat)(body:Zd):Yx O vp lo (.loop ks body) fr h K=Kl (O.loop lo ks body (keep ks fr) h) K:=rfl
@[simp] theorem ZsN(b:Bool)(x y:Option β):Jp (.bool b) x y=ifP (b=true) x y:=by rw[KS];rfl
@[simp] theorem Zq9(b:Bool)(x y:Option β):Z5 (.bool b) true x y=ifP (b=true) x y:=by rw[KS];rfl
@[simp] theorem Zqp(b:Bool)(x y:Option β):Z5 (.bool b) false x y=ifP (b=true) y x:=by rw[KS];unfold Z5;cases b<;>rfl
@[simp] theorem Zn8(w:Bool)(x y:Option β):Z5 Ya w x y=y:=rfl
@[simp high] theorem ZAD(x y:Option β):Jp (.bool true) x y=x:=rfl
@[simp high] theorem Zz4(x y:Option β):Jp (.bool false) x y=y:=rfl
@[simp high] theorem Zur(x y:Option β):Z5 (.bool true) true x y=x:=rfl
@[simp high] theorem ZuI(x y:Option β):Z5 (.bool true) false x y=y:=rfl
@[simp high] theorem Zuh(x y:Option β):Z5 (.bool false) true x y=y:=rfl
@[simp high] theorem Zuk(x y:Option β):Z5 (.bool false) false x y=x:=rfl
@[simp ↓] theorem Zyb:Zt O vp lo [] fr h k=k fr h:=rfl
@[simp ↓] theorem Z4(d:Nat)(op:VOp)(r:List VIt):Zt O vp lo (⟨some d,op,none⟩::r) fr h k=ZS O vp lo fr h op (fun v h=>Zt O vp lo r ((d,v)::fr) h k):=by
  unfold Zt ZS;simp only[YN,ZY,put];cases ZM O vp lo fr h op<;>rfl
@[simp ↓] theorem UU(op:VOp)(r:List VIt):Zt O vp lo (⟨none,op,none⟩::r) fr h k=ZS O vp lo fr h op (fun v h=>Zt O vp lo r fr h k):=by
  unfold Zt ZS;simp only[YN,ZY,put];cases ZM O vp lo fr h op<;>rfl
theorem U5(d:Option Nat)(op:VOp)(t:Nat)(w:Bool)(r:List VIt):Zt O vp lo (⟨d,op,some (t,w)⟩::r) fr h k=
 Z5 (lk fr t) w (ZS O vp lo fr h op (fun v h=>Zt O vp lo r (put fr d v) h k)) (Zt O vp lo r (put fr d Ya) h k):=by
 unfold Zt ZS;simp only[YN,ZY]
 cases lk fr t<;>try rfl
 ·rename_i b;simp only[Z5];split
  ·cases ZM O vp lo fr h op<;>rfl
  ·rfl
 ·rename_i vs;cases vs<;>rfl
@[simp ↓] theorem Zgt(d:Nat)(op:VOp)(t:Nat)(w:Bool)(r:List VIt):Zt O vp lo (⟨some d,op,some (t,w)⟩::r) fr h k=Z5 (lk fr t) w (ZS O vp lo fr h op (fun v h=>Zt O vp lo r ((d,v)::fr) h k)) (Zt O vp lo r ((d,Ya)::fr) h k):=U5 ..
@[simp ↓] theorem Zfz(op:VOp)(t:Nat)(w:Bool)(r:List VIt):Zt O vp lo (⟨none,op,some (t,w)⟩::r) fr h k=Z5 (lk fr t) w (ZS O vp lo fr h op (fun v h=>Zt O vp lo r fr h k)) (Zt O vp lo r fr h k):=U5 ..
@[simp ↓] theorem ZBT(p:Nat)(rs:List Jf):dK O vp lo [] p rs fr h k=k fr h:=rfl
def xlB(ds:List VDt):Bool:=ds.all fun d=>d.xl.isEmpty
theorem K7: ∀(ds:List VDt) (p:Nat) (rs:List Jf) (fr:Fr) (h:Zg),xlB ds=true→Ur O vp lo ds p rs fr h=YN O vp lo (ds.map (·.it)) fr h
 |[],_,_,_,_,_=>rfl
 |d::ds,p,rs,fr,h,hx=>by
  simp only[xlB,List.all_cons,Bool.and_eq_true,List.isEmpty_iff]at hx
  simp only[Ur,List.map_cons,YN]
  cases ZY O vp lo d.it fr h with
  |none=>rfl
  |some x=>
   simp only[Option.bind_some]
   rw[if_pos (by rw[hx.1];simp)]
   exact K7 ds (p+1) _ _ _ hx.2
def dP(O:Orc)(vp:VP)(lo:Nat)(ds:List VDt)(fr:Fr)(h:Zg)(k:Fr→Zg→Option β):Option β:=Zt O vp lo (ds.map (·.it)) fr h k
theorem Zmg{O:Orc}{vp:VP}{lo:Nat}{fr:Fr}{h:Zg}{k:Fr→Zg→Option β}{ds:List VDt}{p:Nat}{rs:List Jf}(hx:xlB ds=true):dK O vp lo ds p rs fr h k=dP O vp lo ds fr h k:=by
 unfold dK dP Zt;rw[K7 O vp lo ds p rs fr h hx]
@[simp ↓] theorem ZCk:dP O vp lo [] fr h k=k fr h:=rfl
@[simp ↓] theorem ZAh(d:Nat)(op:VOp)(i b:Nat)(xl:List Nat)(r:List VDt):dP O vp lo (⟨⟨some d,op,none⟩,i,b,xl⟩::r) fr h k=ZS O vp lo fr h op (fun v h=>dP O vp lo r ((d,v)::fr) h k):=Z4 ..
@[simp ↓] theorem Zvz(op:VOp)(i b:Nat)(xl:List Nat)(r:List VDt):dP O vp lo (⟨⟨none,op,none⟩,i,b,xl⟩::r) fr h k=ZS O vp lo fr h op (fun v h=>dP O vp lo r fr h k):=UU ..
@[simp ↓] theorem ZvH(d:Nat)(op:VOp)(t:Nat)(w:Bool)(i b:Nat)(xl:List Nat)(r:List VDt):dP O vp lo (⟨⟨some d,op,some (t,w)⟩,i,b,xl⟩::r) fr h k=Z5 (lk fr t) w (ZS O vp lo fr h op (fun v h=>dP O vp lo r ((d,v)::fr) h k)) (dP O vp lo r ((d,Ya)::fr) h k):=Zgt ..
@[simp ↓] theorem ZuT(op:VOp)(t:Nat)(w:Bool)(i b:Nat)(xl:List Nat)(r:List VDt):dP O vp lo (⟨⟨none,op,some (t,w)⟩,i,b,xl⟩::r) fr h k=Z5 (lk fr t) w (ZS O vp lo fr h op (fun v h=>dP O vp lo r fr h k)) (dP O vp lo r fr h k):=Zfz ..
variable (x y : Z3)
def YA(v:Option V)(h:Zg)(kv:V→Zg→Option β):Option β:=v.bind fun v=>kv v h
@[simp] theorem ZuO(v:V):YA (some v) h kv=kv v h:=rfl
@[simp] theorem Zuc:YA none h kv=none:=rfl
theorem Z0(op:VOp)(he:ZM O vp lo fr h op=(Zf fr op).map fun v=>(v,h)):ZS O vp lo fr h op kv=YA (Zf fr op) h kv:=by
 unfold ZS YA;rw[he];cases Zf fr op<;>rfl
@[simp ↓] theorem Zny:ZS O vp lo fr h (.mv x) kv=KN (opd fr x) h kv:=rfl
def ZbP(c a b:V):Option V:=match c with|.bool c=>some (if c=true then a else b)|_=>none
@[simp] theorem Zsb(c:Bool)(a b:V):ZbP (.bool c) a b=ifP (c=true) (some a) (some b):=by rw[KS];cases c<;>rfl
@[simp high] theorem ZAl(a b:V):ZbP (.bool true) a b=some a:=rfl
@[simp high] theorem ZAd(a b:V):ZbP (.bool false) a b=some b:=rfl
@[simp ↓] theorem Zig(c:Z3):ZS O vp lo fr h (.pick c x y) kv=YA (ZbP (opd fr c) (opd fr x) (opd fr y)) h kv:=by
  rw[Z0 O vp lo fr h kv _ rfl];rfl
@[simp] theorem Zwd(c:Prop)(a b:Option V):YA (ifP c a b) h kv=ifP c (YA a h kv) (YA b h kv):=by unfold ifP;split<;>rfl
@[simp ↓] theorem ZvF(z:List V)(ps:List (Nat ×Nat ×Z3)):ZS O vp lo fr h (.build z ps) kv=YA (Zf fr (.build z ps)) h kv:=Z0 O vp lo fr h kv _ rfl
@[simp ↓] theorem Ztx(n:Nat)(ps:List Z3):ZS O vp lo fr h (.buildSl n ps) kv=YA (Zf fr (.buildSl n ps)) h kv:=Z0 O vp lo fr h kv _ rfl
@[simp ↓] theorem Zkk:ZS O vp lo fr h (.nilchk x) kv=YA (Zf fr (.nilchk x)) h kv:=Z0 O vp lo fr h kv _ rfl
@[simp ↓] theorem Zg3(op:BinOp):ZS O vp lo fr h (.bin op x y) kv=YA (Yh op (opd fr x) (opd fr y)) h kv:=Z0 O vp lo fr h kv _ rfl
@[simp ↓] theorem Zx1(nk:NK)(neg:Bool):ZS O vp lo fr h (.isnil nk neg x) kv=YA ((Ui nk (opd fr x)).map fun b=>.bool (if neg=true then !b else b)) h kv:=Z0 O vp lo fr h kv _ rfl
@[simp ↓] theorem ZC4(neg:Bool)(ks:Option (List EK)):ZS O vp lo fr h (.eq neg ks x y) kv=YA ((eqV ks (opd fr x) (opd fr y)).map fun b=>.bool (if neg=true then !b else b)) h kv:=Z0 O vp lo fr h kv _ rfl
@[simp ↓] theorem Zu8(op:UnOp):ZS O vp lo fr h (.un op x) kv=YA (unV op (opd fr x)) h kv:=Z0 O vp lo fr h kv _ rfl
@[simp ↓] theorem ZAy(c:CK):ZS O vp lo fr h (.conv c x) kv=YA (ZaD c (opd fr x)) h kv:=Z0 O vp lo fr h kv _ rfl
@[simp ↓] theorem ZA2(t:Nat):ZS O vp lo fr h (.mkif t x) kv=KN (.iface t (opd fr x)) h kv:=rfl
@[simp ↓] theorem ZzG(f:Nat)(a b:List Z3):ZS O vp lo fr h (.mkfn f a b) kv=KN (.func f (a.map (opd fr)) (b.map (opd fr))) h kv:=rfl
@[simp ↓] theorem ZzA(n:Nat)(a b c:Option Z3):ZS O vp lo fr h (.slice n x a b c) kv=YA (Uh n (opd fr x) (a.map (opd fr)) (b.map (opd fr)) (c.map (opd fr))) h kv:=Z0 O vp lo fr h kv _ rfl
@[simp ↓] theorem ZnO(off:Nat):ZS O vp lo fr h (.faddr off x) kv=YA (Ue (opd fr x) off) h kv:=Z0 O vp lo fr h kv _ rfl
def Zvd(agg:Bool)(n off:Nat)(v:V):Option V:=match v with|.agg cs=>ldc (.agg cs) agg n off|_=>none
@[simp ↓] theorem ZBG(agg:Bool)(n off:Nat):ZS O vp lo fr h (.fld agg n off x) kv=YA (Zvd agg n off (opd fr x)) h kv:=Z0 O vp lo fr h kv _ rfl
@[simp ↓] theorem ZnQ(n:Nat):ZS O vp lo fr h (.iaddr n x y) kv=YA (Yb n (opd fr x) (opd fr y)) h kv:=Z0 O vp lo fr h kv _ rfl
@[simp ↓] theorem ZuW(l n:Nat):ZS O vp lo fr h (.iaddrA l n x y) kv=YA (iaddrA l n (opd fr x) (opd fr y)) h kv:=Z0 O vp lo fr h kv _ rfl
@[simp ↓] theorem Zz9:ZS O vp lo fr h (.idxS x y) kv=YA (idxS (opd fr x) (opd fr y)) h kv:=Z0 O vp lo fr h kv _ rfl
@[simp ↓] theorem ZBa(l n:Nat)(agg:Bool):ZS O vp lo fr h (.idxA l n agg x y) kv=YA (idxA l n agg (opd fr x) (opd fr y)) h kv:=Z0 O vp lo fr h kv _ rfl
@[simp ↓] theorem ZtT(ty:Nat)(z:V)(ok:Bool):ZS O vp lo fr h (.tassert ty z ok x) kv=YA (XI ty z ok (opd fr x)) h kv:=Z0 O vp lo fr h kv _ rfl
def Ztj(i:Nat)(v:V):Option V:=match v with|.tup vs=>vs[i]? |_=>none
@[simp] theorem Zyx(i:Nat)(vs:List V):Ztj i (.tup vs)=vs[i]? :=rfl
@[simp ↓] theorem Zs6(i:Nat):ZS O vp lo fr h (.ext x i) kv=YA (Ztj i (opd fr x)) h kv:=Z0 O vp lo fr h kv _ rfl
@[simp ↓] theorem ZlR(text:Bool):ZS O vp lo fr h (.len text x) kv=YA (Zbd text (opd fr x)) h kv:=Z0 O vp lo fr h kv _ rfl
@[simp ↓] theorem ZDa(xs:List Z3):ZS O vp lo fr h (.mn xs) kv=YA (Vq (fun a b=>if b<a then b else a) (xs.map (opd fr))) h kv:=Z0 O vp lo fr h kv _ rfl
@[simp ↓] theorem ZDi(xs:List Z3):ZS O vp lo fr h (.mx xs) kv=YA (Vq (fun a b=>if b>a then b else a) (xs.map (opd fr))) h kv:=Z0 O vp lo fr h kv _ rfl
def ZhP(v:V)(h:Zg)(kv:V→Zg→Option β):Option β:=if okV v=true then kv (.ptr h.length 1 0 0) (h++[.arr [v]])else none
theorem Zf8{v v':V}{h:Zg}{kv:V→Zg→Option β}(e:v=v'):ZhP v h kv=ZhP v' h kv:=by rw[e]
attribute [congr] Zf8
@[simp] theorem ZzL{v:V}(hv:okV v=true):ZhP v h kv=KN (.ptr h.length 1 0 0) (h++[.arr [v]]) kv:=by simp[ZhP,hv]
@[simp ↓] theorem Zl3(z:V):ZS O vp lo fr h (.alloc z) kv=KN (.ptr h.length 1 0 0) (h++[.arr [z]]) kv:=rfl
@[simp ↓] theorem ZsV:ZS O vp lo fr h (.box x) kv=ZhP (opd fr x) h kv:=by
  unfold ZS ZhP;simp only[ZM];split<;>rfl
@[simp ↓] theorem ZjB(agg:Bool)(n:Nat):ZS O vp lo fr h (.load agg n x) kv=YA (Yv h agg n (opd fr x)) h kv:=by
  unfold ZS YA;simp only[ZM];cases Yv h agg n (opd fr x)<;>rfl
@[simp ↓] theorem Zel(n:Nat):ZS O vp lo fr h (.store n false x y) kv=(Xp lo h n (opd fr x) (opd fr y)).bind fun h=>kv (.tup []) h:=by
  unfold ZS;simp only[ZM,Bool.false_eq_true,if_false];cases Xp lo h n (opd fr x) (opd fr y)<;>rfl
@[simp ↓] theorem Zuv(n:Nat):ZS O vp lo fr h (.store n true x y) kv=(fzV lo h (opd fr y)).bind fun r=>(Xp lo r.2 n (opd fr x) r.1).bind fun h=>kv (.tup []) h:=by
  unfold ZS;simp only[ZM,if_true];cases fzV lo h (opd fr y)with
  |none=>rfl
  |some r=>simp only[Option.bind_some];cases Xp lo r.2 n (opd fr x) r.1<;>rfl
@[simp ↓] theorem ZAE(z:V)(bytes:Nat):ZS O vp lo fr h (.mksl z bytes x y) kv=(UW h z bytes (opd fr x) (opd fr y)).bind fun r=>kv r.1 r.2:=rfl
@[simp ↓] theorem ZCM(z bytes:Nat):ZS O vp lo fr h (.app z bytes false x y) kv=(Wl h z (opd fr y)).bind fun ns=>(X3 lo h z bytes (opd fr x) ns).bind fun r=>kv r.1 r.2:=by
  unfold ZS;simp only[ZM,Bool.false_eq_true,if_false];cases Wl h z (opd fr y)<;>rfl
@[simp ↓] theorem ZAf(z bytes:Nat):ZS O vp lo fr h (.app z bytes true x y) kv=(Wl h z (opd fr y)).bind fun ns=>(fzL lo h ns).bind fun q=>(X3 lo q.2 z bytes (opd fr x) q.1).bind fun r=>kv r.1 r.2:=by
  unfold ZS;simp only[ZM,if_true];cases Wl h z (opd fr y)with
  |none=>rfl
  |some ns=>simp only[Option.bind_some];cases fzL lo h ns<;>rfl
@[simp ↓] theorem Zuu(z:Nat):ZS O vp lo fr h (.nilacc z) kv=KN (.gsl h.length 0 z 0 0) (h++[.arr []]) kv:=rfl
def Zl0(v:V)(h:Zg)(kv:V→Zg→Option β):Option β:=match v with|.str s=>kv (.itr h.length) (h++[.iter s 0])|_=>none
theorem ZgD{v v':V}{h:Zg}{kv:V→Zg→Option β}(e:v=v'):Zl0 v h kv=Zl0 v' h kv:=by rw[e]
attribute [congr] ZgD
@[simp] theorem ZwT(s:List UInt8):Zl0 (.str s) h kv=KN (.itr h.length) (h++[.iter s 0]) kv:=rfl
@[simp ↓] theorem ZBt:ZS O vp lo fr h (.rng x) kv=Zl0 (opd fr x) h kv:=by
  unfold ZS Zl0;simp only[ZM];cases opd fr x<;>rfl
@[simp ↓] theorem ZBy:ZS O vp lo fr h (.nxt x) kv=(Kf lo h (opd fr x)).bind fun r=>kv r.1 r.2:=rfl
def YU(O:Orc)(vp:VP)(lo:Nat)(h:Zg)(f:Nat)(args:List V)(kv:V→Zg→Option β):Option β:=(Xq O vp lo h f args).bind fun r=>kv r.1 r.2
@[simp ↓] theorem Zij(f:Nat)(args:List Z3):ZS O vp lo fr h (.call f args) kv=YU O vp lo h f (args.map (opd fr)) kv:=rfl
def ZnX(O:Orc)(vp:VP)(lo:Nat)(h:Zg)(ro:Bool)(f:V)(args:List V)(kv:V→Zg→Option β):Option β:=
 match f with
 |.func f a b=>if ro=true∧U1 vp f=false then none else YU O vp lo h f (a++args++b) kv
 |_=>none
@[simp ↓] theorem Zvs(ro:Bool)(args:List Z3):ZS O vp lo fr h (.calld ro x args) kv=ZnX O vp lo h ro (opd fr x) (args.map (opd fr)) kv:=by
  unfold ZS ZnX;simp only[ZM]
  cases opd fr x<;>try rfl
  simp only;split<;>rfl
@[simp] theorem Zut(ro:Bool)(f:Nat)(a b args:List V):ZnX O vp lo h ro (.func f a b) args kv=if ro=true∧U1 vp f=false then none else YU O vp lo h f (a++args++b) kv:=rfl
def ZkT(O:Orc)(vp:VP)(lo:Nat)(h:Zg)(m:Nat)(r:V)(args:List V)(kv:V→Zg→Option β):Option β:=
 match r with
 |.iface t v=>(vp.meth t m).bind fun f=>YU O vp lo h f (v::args) kv
 |_=>none
@[simp ↓] theorem ZB6(m:Nat)(args:List Z3):ZS O vp lo fr h (.inv m x args) kv=ZkT O vp lo h m (opd fr x) (args.map (opd fr)) kv:=by
  unfold ZS ZkT;simp only[ZM]
  cases opd fr x<;>try rfl
  rename_i t v;simp only;cases vp.meth t m<;>rfl
noncomputable def roK (vp:VP) (h:Zg) (f:Nat) (args:List V) (kv:V→Zg→Option β):Option β:=
 (Y5 (X5 h) args).bind fun as=>if Zo 0 as=true then YA (Zc vp f as) h kv else
   (((orc vp).call f h.length as h).bind fun r=>frz h.length r.2 4 r.1).bind fun v=>kv v h
theorem VL{vp:VP}{f:Nat}{vf:Zi}(hf:vp.fn f=some vf)(hw:vf.rw=false)(hx:vf.ext=none)(lo:Nat)(h:Zg)(args:List V)(kv:V→Zg→Option β):
 YU (orc vp) vp lo h f args kv=roK vp h f args kv:=by
 unfold YU roK Xq
 simp only[hf,hx,hw]
 cases Y5 (X5 h) args with
 |none=>rfl
 |some as=>
  simp only[Option.bind_some]
  by_cases hb:Zo 0 as=true
  ·simp only[hb,if_true,YA,Zc]
   cases(orc vp).call f 0 as []with
   |none=>rfl
   |some r=>simp only[Option.bind_some];cases frz 0 r.2 4 r.1<;>rfl
  ·simp only[hb]
   cases(orc vp).call f h.length as h with
   |none=>rfl
   |some r=>simp only[Option.bind_some];cases frz h.length r.2 4 r.1<;>rfl
theorem QL{vp:VP}{f:Nat}{vf:Zi}{p:List V→Option V}(hf:vp.fn f=some vf)(hx:vf.ext=some p)(lo:Nat)(h:Zg)(args:List V)(kv:V→Zg→Option β):
 YU (orc vp) vp lo h f args kv=(Y5 (X5 h) args).bind fun as=>YA (p as) h kv:=by
 unfold YU Xq
 simp only[hf,hx]
 cases Y5 (X5 h) args with
 |none=>rfl
 |some as=>simp only[Option.bind_some,YA];cases p as<;>rfl
noncomputable def Zg1 (vp:VP) (lo:Nat) (h:Zg) (f:Nat) (args:List V) (kv:V→Zg→Option β):Option β:=((orc vp).call f lo args h).bind fun r=>kv r.1 r.2
theorem Zj2{vp:VP}{f:Nat}{vf:Zi}(hf:vp.fn f=some vf)(hw:vf.rw=true)(hx:vf.ext=none)(ho:vf.own=true)(lo:Nat)(h:Zg)(args:List V)(kv:V→Zg→Option β):
 YU (orc vp) vp lo h f args kv=Zg1 vp lo h f args kv:=by
 unfold YU Zg1 Xq
 simp only[hf,hx,hw,ho,if_true]
 have: ∀r:V ×Zg,WP vp true h r.1 r.2=r:=fun r=>by simp[WP]
 simp only[this]
 cases(orc vp).call f lo args h<;>rfl
noncomputable def rwK (vp:VP) (lo:Nat) (h:Zg) (f:Nat) (args:List V) (kv:V→Zg→Option β):Option β:=((orc vp).call f lo args h).bind fun r=>kv (WP vp false h r.1 r.2).1 (WP vp false h r.1 r.2).2
theorem Jt{vp:VP}{f:Nat}{vf:Zi}(hf:vp.fn f=some vf)(hw:vf.rw=true)(hx:vf.ext=none)(ho:vf.own=false)(lo:Nat)(h:Zg)(args:List V)(kv:V→Zg→Option β):
 YU (orc vp) vp lo h f args kv=rwK vp lo h f args kv:=by
 unfold YU rwK Xq
 simp only[hf,hx,hw,ho,if_true]
 cases(orc vp).call f lo args h<;>rfl
end
section
variable {O : Orc} {vp : VP} {lo : Nat} {fr fr' : Fr} {h h' : Zg} {K : Ex → Fr → Zg → Option β} {k : Fr → Zg → Option β} {kv : V → Zg → Option β}
theorem ZeL{c:Zd}(e1:fr=fr')(e2:h=h'):Yx O vp lo c fr h K=Yx O vp lo c fr' h' K:=by rw[e1,e2]
theorem Zhc{c:List VIt}(e1:fr=fr')(e2:h=h'):Zt O vp lo c fr h k=Zt O vp lo c fr' h' k:=by rw[e1,e2]
theorem Znp{c:List VDt}{p:Nat}{rs:List Jf}(e1:fr=fr')(e2:h=h'):dK O vp lo c p rs fr h k=dK O vp lo c p rs fr' h' k:=by rw[e1,e2]
theorem ZeU{op:VOp}(e1:fr=fr')(e2:h=h'):ZS O vp lo fr h op kv=ZS O vp lo fr' h' op kv:=by rw[e1,e2]
theorem ZeY{v v':V}{x y:Option β}(e:v=v'):Jp v x y=Jp v' x y:=by rw[e]
theorem Zcn{v v':V}{w:Bool}{x y:Option β}(e:v=v'):Z5 v w x y=Z5 v' w x y:=by rw[e]
theorem ZhY{v v':Option V}(e:v=v'):YA v h kv=YA v' h kv:=by rw[e]
theorem Zen{f:Nat}{as as':List V}(e2:h=h')(e:as=as'):YU O vp lo h f as kv=YU O vp lo h' f as' kv:=by rw[e2,e]
theorem Zke{f:Nat}{as as':List V}(e2:h=h')(e:as=as'):roK vp h f as kv=roK vp h' f as' kv:=by rw[e2,e]
theorem Zg7{f:Nat}{as as':List V}(e2:h=h')(e:as=as'):Zg1 vp lo h f as kv=Zg1 vp lo h' f as' kv:=by rw[e2,e]
theorem Zlr{f:Nat}{as as':List V}(e2:h=h')(e:as=as'):rwK vp lo h f as kv=rwK vp lo h' f as' kv:=by rw[e2,e]
theorem Zgc{ro:Bool}{f f':V}{as as':List V}(e1:h=h')(e2:f=f')(e:as=as'):ZnX O vp lo h ro f as kv=ZnX O vp lo h' ro f' as' kv:=by rw[e1,e2,e]
theorem ZfW{m:Nat}{f f':V}{as as':List V}(e1:h=h')(e2:f=f')(e:as=as'):ZkT O vp lo h m f as kv=ZkT O vp lo h' m f' as' kv:=by rw[e1,e2,e]
theorem ZfT{N:Fr→Zg→Option β}{ex:Ex}:ZkJ K N ex fr h=ZkJ K N ex fr h:=rfl
theorem Zg4{i:Nat}{ex:Ex}:ZhB i K ex fr h=ZhB i K ex fr h:=rfl
end
end
noncomputable def Zbp (vp:VP) (lo:Nat) (ks:List Nat) (body:Zd) (h:Zg) (ex:Ex) (fr1:Fr) (h1:Zg):Option (Ex ×Fr ×Zg):=
 match ex with
 |.nrm=>(orc vp).loop lo ks body (keep ks fr1) (X1 vp h (keep ks fr1) h1)
 |ex=>some (ex,fr1,h1)
theorem Ztn(vp:VP)(lo:Nat)(ks:List Nat)(body:Zd)(fr:Fr)(h:Zg):(orc vp).loop lo ks body fr h=Yx (orc vp) vp lo body fr h (Zbp vp lo ks body h):=by
 rw[ZlV];unfold Y8 Yx
 cases Y4 (orc vp) vp lo body fr h with
 |none=>rfl
 |some r=>obtain⟨ex,fr,h⟩:=r;cases ex<;>rfl
@[simp ↓] theorem Zux(vp:VP)(lo:Nat)(ks:List Nat)(body:Zd)(h:Zg)(fr1:Fr)(h1:Zg):Zbp vp lo ks body h .nrm fr1 h1=(orc vp).loop lo ks body (keep ks fr1) (X1 vp h (keep ks fr1) h1):=rfl
@[simp ↓] theorem ZuR(vp:VP)(lo:Nat)(ks:List Nat)(body:Zd)(h:Zg)(fr1:Fr)(h1:Zg):Zbp vp lo ks body h .ret fr1 h1=some (.ret,fr1,h1):=rfl
@[simp ↓] theorem ZuC(vp:VP)(lo:Nat)(ks:List Nat)(body:Zd)(h:Zg)(i:Nat)(fr1:Fr)(h1:Zg):Zbp vp lo ks body h (.brk i) fr1 h1=some (.brk i,fr1,h1):=rfl
theorem ZbF{vp:VP}{h h1:Zg}{fr:Fr}(hg:vp.gc=true)(hb:Zo h.length (fr.map Prod.snd)=true)(ho:Qu h h1=true):X1 vp h fr h1=h1.take h.length:=by
 simp[X1,hg,hb,ho]
theorem ZEO{vp:VP}{h h1:Zg}{fr:Fr}(hb:Zo h.length (fr.map Prod.snd)=false):X1 vp h fr h1=h1:=by
 simp[X1,hb]
@[simp] theorem Zsx(h:Zg):Qu [] h=true:=nr rfl
@[simp] theorem ZjR(b:Blk)(h h1:Zg):Qu (b::h) h1=UM (h.length+1) (b::h) h1:=nr rfl
@[simp] theorem Zs3(n:Nat)(h:Zg):UM n [] h=true:=nr rfl
@[simp] theorem Zfg(n:Nat)(b b':Blk)(h h1:Zg):UM n (b::h) (b'::h1)=((Je b' b||Vj n b')&&UM n h h1):=nr rfl
@[simp] theorem Zrz(es:List V):Je (.arr es) (.arr es)=true:=by simp[Je]
@[simp] theorem ZoU(n:Nat)(es:List V):Vj n (.arr es)=Zo n es:=nr rfl
@[simp] theorem Zn9(n:Nat)(s:List UInt8)(p:Nat):Vj n (.iter s p)=true:=nr rfl
attribute [simp] ZbF
@[simp high] theorem Ztq{vp:VP}{h h1:Zg}{fr:Fr}(hl:h1.length=h.length):X1 vp h fr h1=h1:=KD vp h h1 fr hl
@[simp] theorem ZuY(vp:VP)(h:Zg)(fr:Fr):X1 vp h fr h=h:=KD vp h h fr rfl
@[simp] theorem Zto(n:Nat)(v:V)(fr:Fr):lk ((n,v)::fr) n=v:=by simp[lk]
@[simp] theorem ZzQ(n t:Nat)(v:V)(fr:Fr)(h:(n==t)=false):lk ((n,v)::fr) t=lk fr t:=by simp at h;simp[lk,h]
@[simp] theorem ZCQ(t:Nat):lk [] t=.undef:=rfl
@[simp] theorem ZnK(fr:Fr)(n:Nat):opd fr (.t n)=lk fr n:=rfl
@[simp] theorem Zve(fr:Fr)(v:V):opd fr (.c v)=v:=rfl
@[simp] theorem ZnF(fr:Fr)(d:Nat)(v:V):put fr (some d) v=(d,v)::fr:=rfl
@[simp] theorem ZaR(fr:Fr)(v:V):put fr none v=fr:=rfl
@[simp] theorem Zzl(fr:Fr):keep [] fr=[]:=rfl
@[simp] theorem ZuE(t:Nat)(ks:List Nat)(fr:Fr):keep (t::ks) fr=(t,lk fr t)::keep ks fr:=rfl
@[simp] theorem Zuf(n:Nat):Vt n []=[]:=rfl
@[simp] theorem Zsp(n:Nat)(v:V)(l:List V):Vt n (v::l)=(n,v)::Vt (n+1) l:=rfl
@[simp] theorem ZzD:xlB []=true:=nr rfl
@[simp] theorem ZyK(it:VIt)(i b:Nat)(ds:List VDt):xlB (⟨it,i,b,[]⟩::ds)=xlB ds:=by simp[xlB]
def YG(es:List V)(ep:Nat):Option (List V):=if es.length=ep then some es else none
theorem Yt{es:List V}{ep:Nat}(h:es.length=ep):YG es ep=some es:=if_pos h
def XR(h:Zg)(B ep:Nat):Option (List V):=match h[B]? with|some (.arr es)=>YG es ep|_=>none
@[simp] theorem Zhp(es:List V)(h:Zg)(ep:Nat):XR (.arr es::h) 0 ep=YG es ep:=rfl
@[simp] theorem ZgA(b:Blk)(h:Zg)(B ep:Nat):XR (b::h) (B+1) ep=XR h B ep:=by simp[XR]
@[simp] theorem ZsQ(e:V):YG [e] 1=some [e]:=rfl
@[simp] theorem Xx(h:Zg)(agg:Bool)(n B ep i o:Nat):Yv h agg n (.ptr B ep i o)=(XR h B ep).bind fun es=>(es[i]?).bind fun e=>ldc e agg n o:=by
  unfold Yv XR YG;simp only
  cases h[B]? with
  |none=>rfl
  |some b=>
   cases b<;>try rfl
   rename_i es;simp only;split<;>rfl
@[simp] theorem Zsa(h:Zg)(agg:Bool)(n o:Nat)(e:V)(t:Tag):Yv h agg n (.eptr e o t)=ldc e agg n o:=rfl
theorem ZgH{lo B:Nat}(hl:lo≤B)(h:Zg)(n ep i o:Nat)(x:V):Xp lo h n (.ptr B ep i o) x=(XR h B ep).bind fun es=>(es[i]?).bind fun e=>(stc e n o x).map fun e=>h.set B (.arr (es.set i e)):=by
 unfold Xp XR YG;simp only[hl,true_and]
 cases h[B]? with
 |none=>rfl
 |some b=>
  cases b<;>try rfl
  rename_i es;simp only;split<;>rfl
@[simp] theorem Ze6(h:Zg)(n B ep i o:Nat)(x:V):Xp 0 h n (.ptr B ep i o) x=(XR h B ep).bind fun es=>(es[i]?).bind fun e=>(stc e n o x).map fun e=>h.set B (.arr (es.set i e)):=ZgH (Nat.zero_le _) _ _ _ _ _ _
def ZaK(ep off len:Nat)(es:List V):Option (List V):=if off+len≤ep then some ((es.drop off).take len)else none
@[simp] theorem ZqT(h:Zg)(B ep off len:Nat):KK h B ep off len=(XR h B ep).bind (ZaK ep off len):=by
  unfold KK XR YG
  cases h[B]? with
  |none=>rfl
  |some b=>
   cases b<;>try rfl
   rename_i es
   by_cases he:es.length=ep
   ·simp[he,ZaK]
   ·simp[he]
theorem Qy{len:Nat}{es:List V}(hl:es.length=len):ZaK len 0 len es=some es:=by
 subst hl;simp[ZaK]
@[simp] theorem Zuy:ZaK 0 0 0 []=some []:=rfl
theorem QE{cs:List V}{n:Nat}(h:cs.length=n):ldc (.agg cs) true n 0=some (.agg cs):=by subst h;simp[ldc,V.cells]
theorem ZqL(cs:List V)(n o:Nat)(h:o+n≤cs.length):ldc (.agg cs) true n o=some (.agg ((cs.drop o).take n)):=by simp[ldc,V.cells,h]
@[simp] theorem Zv6(cs:List V)(n o:Nat):ldc (.agg cs) false n o=cs[o]? :=rfl
@[simp] theorem Zyw(b:Bool)(n:Nat):ldc (.bool b) false n 0=some (.bool b):=rfl
@[simp] theorem ZzM(k:IntKind)(b:Int)(n:Nat):ldc (.int k b) false n 0=some (.int k b):=rfl
@[simp] theorem Zz5(s:List UInt8)(n:Nat):ldc (.str s) false n 0=some (.str s):=rfl
@[simp] theorem ZBJ(z:Nat)(es:List V)(t:Tag)(n:Nat):ldc (.sl z es t) false n 0=some (.sl z es t):=rfl
@[simp] theorem Zza(e:V)(o:Nat)(t:Tag)(n:Nat):ldc (.eptr e o t) false n 0=some (.eptr e o t):=rfl
@[simp] theorem ZAT(B ep i o n:Nat):ldc (.ptr B ep i o) false n 0=some (.ptr B ep i o):=rfl
@[simp] theorem ZzP(B ep z o l n:Nat):ldc (.gsl B ep z o l) false n 0=some (.gsl B ep z o l):=rfl
@[simp] theorem Zxy(n:Nat):ldc .nilp false n 0=some .nilp:=rfl
@[simp] theorem Zxk(n:Nat):ldc .nili false n 0=some .nili:=rfl
@[simp] theorem ZuA(t:Nat)(v:V)(n:Nat):ldc (.iface t v) false n 0=some (.iface t v):=rfl
@[simp] theorem ZvL(f:Nat)(a b:List V)(n:Nat):ldc (.func f a b) false n 0=some (.func f a b):=rfl
theorem Zie{cs cs':List V}{n:Nat}(h1:cs.length=n)(h2:cs'.length=n):stc (.agg cs) n 0 (.agg cs')=some (.agg cs'):=by
 subst h1;simp[stc,V.cells,okV,h2]
def Vv:V→Bool
 |.agg _|.tup _|.undef=>false
 |_=>true
theorem W9{cs:List V}{o:Nat}{x:V}(h1:o<cs.length)(h2:Vv x=true):stc (.agg cs) 1 o x=some (.agg (cs.set o x)):=by
 have:x.cells=[x]:=by cases x<;>simp[Vv]at h2<;>rfl
 have ok:okV x=true:=by cases x<;>simp[Vv]at h2<;>rfl
 unfold stc
 rw[this,if_pos ⟨rfl,by simp only[V.cells];omega,ok⟩,List.set_eq_take_append_cons_drop]
 simp[h1]
theorem ZqG{e x:V}(h1:Vv e=true)(h2:Vv x=true):stc e 1 0 x=some x:=by
 cases e<;>simp[Vv]at h1<;>cases x<;>simp[Vv]at h2<;>rfl
section
variable (b : Bool) (ik : IntKind) (n : Int) (s : List UInt8) (cs as : List V) (z o f : Nat) (t : Tag) (v : V)
@[simp] theorem ZzN:Vv (.bool b)=true:=nr rfl
@[simp] theorem ZCy:Vv (.int ik n)=true:=nr rfl
@[simp] theorem ZBD:Vv (.str s)=true:=nr rfl
@[simp] theorem ZCV:Vv (.sl z cs t)=true:=nr rfl
@[simp] theorem ZB9(B ep len:Nat):Vv (.gsl B ep z o len)=true:=nr rfl
@[simp] theorem ZzJ:Vv (.eptr v o t)=true:=nr rfl
@[simp] theorem ZBV(B ep i:Nat):Vv (.ptr B ep i o)=true:=nr rfl
@[simp] theorem ZAe:Vv .nilp=true:=nr rfl
@[simp] theorem ZzY:Vv .nili=true:=nr rfl
@[simp] theorem ZzF:Vv .nilf=true:=nr rfl
@[simp] theorem Zw1:Vv (.iface z v)=true:=nr rfl
@[simp] theorem ZAp:Vv (.func f cs as)=true:=nr rfl
@[simp] theorem ZCd(B:Nat):Vv (.itr B)=true:=nr rfl
end
theorem Zjl(s t:List UInt8):(s==t)=decide (s=t):=by by_cases h:s=t<;>simp[h]
section
variable (k : IntKind) (a b : Int) (s t : List UInt8) (p q : Bool)
@[simp] theorem Zo1:Yh .add (.int k a) (.int k b)=some (.int k (k.wrap (a+b))):=by simp[Yh,Ve,Wa]
@[simp] theorem ZzO:Yh .sub (.int k a) (.int k b)=some (.int k (k.wrap (a-b))):=by simp[Yh,Ve,Wa]
@[simp] theorem ZpQ:Yh .mul (.int k a) (.int k b)=some (.int k (k.wrap (a*b))):=by simp[Yh,Ve,Wa]
theorem ZoX(h:b≠0):Yh .quo (.int k a) (.int k b)=some (.int k (k.wrap (a.tdiv b))):=by simp[Yh,Ve,Wa,h]
theorem JH(h:b≠0):Yh .rem (.int k a) (.int k b)=some (.int k (a.tmod b)):=by simp[Yh,Ve,h]
theorem Zih:Yh .and (.int k a) (.int k b)=some (.int k (k.wrap (BitVec.ofInt k.bits a&&&BitVec.ofInt k.bits b).toNat)):=by simp[Yh,Ve,Wa]
theorem Zm8:Yh .or (.int k a) (.int k b)=some (.int k (k.wrap (BitVec.ofInt k.bits a|||BitVec.ofInt k.bits b).toNat)):=by simp[Yh,Ve,Wa]
theorem Zf5:Yh .andNot (.int k a) (.int k b)=some (.int k (k.wrap (BitVec.ofInt k.bits a&&& ~~~BitVec.ofInt k.bits b).toNat)):=by simp[Yh,Ve,Wa]
@[simp] theorem ZoI:Yh .eql (.int k a) (.int k b)=some (.bool (decide (a=b))):=by simp[Yh,Ve];rfl
@[simp] theorem ZpJ:Yh .neq (.int k a) (.int k b)=some (.bool (decide (a≠b))):=by simp[Yh,Ve];rfl
@[simp] theorem ZzB:Yh .lss (.int k a) (.int k b)=some (.bool (decide (a<b))):=by simp[Yh,Ve]
@[simp] theorem Zz6:Yh .leq (.int k a) (.int k b)=some (.bool (decide (a≤b))):=by simp[Yh,Ve]
@[simp] theorem ZA6:Yh .gtr (.int k a) (.int k b)=some (.bool (decide (b<a))):=by simp[Yh,Ve]
@[simp] theorem ZBh:Yh .geq (.int k a) (.int k b)=some (.bool (decide (b≤a))):=by simp[Yh,Ve]
theorem KU{k':IntKind}(h:0≤b):Yh .shl (.int k a) (.int k' b)=some (.int k (k.wrap (a*2^min b.toNat k.bits))):=by
 simp[Yh,JK,Wa,Int.not_lt.2 h]
theorem Zo3{k':IntKind}(h:0≤b):Yh .shr (.int k a) (.int k' b)=some (.int k (a.fdiv (2^min b.toNat k.bits))):=by
 simp[Yh,JK,Int.not_lt.2 h]
@[simp] theorem Zxb:Yh .eql (.str s) (.str t)=some (.bool (decide (s=t))):=by simp only[Yh,ZfA,Zjl]
@[simp] theorem Zx4:Yh .neq (.str s) (.str t)=some (.bool (!decide (s=t))):=by simp only[Yh,ZfA,Zjl]
@[simp] theorem ZCH:unV .not (.bool p)=some (.bool (!p)):=rfl
@[simp] theorem ZB3:unV .neg (.int k a)=some (.int k (k.wrap (0-a))):=rfl
@[simp] theorem ZlZ{k':IntKind}:ZaD (.int k) (.int k' a)=some (.int k (k.wrap a)):=rfl
@[simp] theorem ZAA:ZaD .id (.str s)=some (.str s):=rfl
@[simp] theorem Zwk:ZaD .s2b (.str s)=some (.sl 1 (s.map WF) .perm):=rfl
@[simp] theorem ZuN(B ep i o off:Nat):Ue (.ptr B ep i o) off=some (.ptr B ep i (o+off)):=rfl
@[simp] theorem Zsg(e:V)(o off:Nat)(t:Tag):Ue (.eptr e o t) off=some (.eptr e (o+off) t):=rfl
@[simp] theorem ZzS:Zbd true (.str s)=some (.int .i64 s.length):=rfl
@[simp] theorem ZBE(z:Nat)(es:List V)(t:Tag):Zbd false (.sl z es t)=some (.int .i64 es.length):=rfl
@[simp] theorem ZAC(B ep z off len:Nat):Zbd false (.gsl B ep z off len)=some (.int .i64 len):=rfl
@[simp] theorem JG(f:Int→Int→Int):Vq f [.int k a,.int k b]=some (.int k (f a b)):=by simp[Vq,Vq.go]
@[simp] theorem ZzH:eqV none (.bool p) (.bool q)=some (p==q):=rfl
@[simp] theorem ZCN(e:V)(o:Nat)(t:Tag):Ui .p (.eptr e o t)=some false:=rfl
@[simp] theorem ZCv(B ep i o:Nat):Ui .p (.ptr B ep i o)=some false:=rfl
@[simp] theorem ZCb:Ui .p .nilp=some true:=rfl
@[simp] theorem ZBU(t:Nat)(v:V):Ui .i (.iface t v)=some false:=rfl
@[simp] theorem ZCh:Ui .i .nili=some true:=rfl
@[simp] theorem ZBX(f:Nat)(x y:List V):Ui .f (.func f x y)=some false:=rfl
@[simp] theorem ZCq:Ui .f .nilf=some true:=rfl
@[simp] theorem ZAr(ty:Nat)(z v:V):XI ty z true (.iface ty v)=some (.tup [v,.bool true]):=by simp[XI]
@[simp] theorem ZAQ(ty:Nat)(z v:V):XI ty z false (.iface ty v)=some v:=by simp[XI]
@[simp] theorem ZCm(ty:Nat)(z:V):XI ty z true .nili=some (.tup [z,.bool false]):=rfl
@[simp] theorem ZAV(ty t:Nat)(z v:V)(h:(t==ty)=false):XI ty z true (.iface t v)=some (.tup [z,.bool false]):=by simp at h;simp[XI,h]
@[simp] theorem Zzc(agg:Bool)(n off:Nat)(cs:List V):Zvd agg n off (.agg cs)=ldc (.agg cs) agg n off:=rfl
end
def Zh{α:Type}(l:List α)(i:Int):Option α:=if 0≤i then l[i.toNat]? else none
theorem Zm{α:Type}(l:List α)(i:Int):(∃a,0≤i∧i<l.length∧Zh l i=some a)∨((i<0∨(l.length:Int)≤i)∧Zh l i=none):=by
 unfold Zh
 by_cases h:0≤i
 ·rw[if_pos h]
  by_cases h2:i<l.length
  ·left
   have:i.toNat<l.length:=by omega
   exact⟨l[i.toNat],h,h2,by simp[this]⟩
  ·right
   exact⟨.inr (by omega),by rw[List.getElem?_eq_none];omega⟩
 ·rw[if_neg h];right;exact⟨.inl (by omega),rfl⟩
@[simp] theorem Ut{α:Type}(l:List α)(i:Nat):Zh l (i:Int)=l[i]? :=by simp[Zh]
@[simp] theorem Zuo{α:Type}(l:List α):Zh l 0=l[0]? :=by simp[Zh]
theorem YF{α β:Type}(f:α→β)(l:List α)(i:Int):Zh (l.map f) i=(Zh l i).map f:=by
 unfold Zh;split<;>simp
theorem Zfc(z:Nat)(es:List V)(t:Tag)(k:IntKind)(i:Int):Yb z (.sl z es t) (.int k i)=(Zh es i).map fun e=>.eptr e 0 t:=by
 unfold Yb Zh;by_cases h:0≤i<;>simp[h]
@[simp] theorem Y7{α:Type}(z:Nat)(f:α→V)(l:List α)(t:Tag)(k:IntKind)(i:Int):Yb z (.sl z (l.map f) t) (.int k i)=(Zh l i).map fun e=>.eptr (f e) 0 t:=by
  rw[Zfc,YF];cases Zh l i<;>rfl
@[simp] theorem ZuG(len n:Nat)(e:V)(o:Nat)(t:Tag)(k:IntKind)(i:Int)(h0:0≤i)(h1:i<len):iaddrA len n (.eptr e o t) (.int k i)=some (.eptr e (o+i.toNat*n) t):=by
  simp only[iaddrA,h0,h1,and_self,if_true,Ue]
@[simp] theorem Zs2(len n B ep j o:Nat)(k:IntKind)(i:Int)(h0:0≤i)(h1:i<len):iaddrA len n (.ptr B ep j o) (.int k i)=some (.ptr B ep j (o+i.toNat*n)):=by
  simp only[iaddrA,h0,h1,and_self,if_true,Ue]
@[simp] theorem Zvy(s:List UInt8)(k:IntKind)(i:Int):idxS (.str s) (.int k i)=(Zh s i).map WF:=by
  unfold idxS Zh;by_cases h:0≤i<;>simp[h]
noncomputable def ZmA {β:Type} (vp:VP) (h:Zg) (f:Nat) (kv:V→Zg→Option β) (as:Option (List V)):Option β:=
 as.bind fun as=>if Zo 0 as=true then YA (Zc vp f as) h kv else
  (((orc vp).call f h.length as h).bind fun r=>frz h.length r.2 4 r.1).bind fun v=>kv v h
@[simp ↓] theorem ZCr{β:Type}(vp:VP)(h:Zg)(f:Nat)(as:List V)(kv:V→Zg→Option β):roK vp h f as kv=ZmA vp h f kv (Y5 (X5 h) as):=rfl
theorem Zlx{β:Type}{vp:VP}{h:Zg}{f:Nat}{kv:V→Zg→Option β}{as:List V}(hb:Zo 0 as=true):ZmA vp h f kv (some as)=YA (Zc vp f as) h kv:=by
 simp[ZmA,hb]
theorem ZhZ{β:Type}{vp:VP}{h:Zg}{f:Nat}{kv:V→Zg→Option β}{as as':Option (List V)}(e:as=as'):ZmA vp h f kv as=ZmA vp h f kv as':=by rw[e]
attribute [congr] ZhZ
attribute [simp] Zlx
theorem XW{f:V→Option V}: ∀(l:List V),(∀v∈l,f v=some v)→Y5 f l=some l
 |[],_=>rfl
 |v::l,h=>by simp[Y5,h v List.mem_cons_self,XW l (fun v hv=>h v (List.mem_cons_of_mem _ hv))]
theorem XJ{n:Nat}: ∀{l:List V},Zo n l=true→∀v∈l,Zk n v=true
 |[],_,v,hv=>by simp at hv
 |x::l,h,v,hv=>by
  simp only[Zo,Bool.and_eq_true]at h
  simp only[List.mem_cons]at hv
  rcases hv with rfl|hv
  ·exact h.1
  ·exact XJ h.2 v hv
theorem V1{h:Zg}{d:Nat}{v:V}(hv:Zk 0 v=true):Yd h d v=some v:=by
 induction d generalizing v with
 |zero=>rfl
 |succ d ih=>
  unfold Yd
  split
  ·rfl
  ·cases v with
   |agg cs=>simp only[Zk]at hv;simp[XW _ (fun v hm=>ih (XJ hv v hm))]
   |func f a b=>
    simp only[Zk,Bool.and_eq_true]at hv
    simp[XW _ (fun v hm=>ih (XJ hv.1 v hm)),XW _ (fun v hm=>ih (XJ hv.2 v hm))]
   |iface t v=>simp only[Zk]at hv;simp[ih hv]
   |gsl=>simp[Zk]at hv
   |ptr=>simp[Zk]at hv
   |_=>rfl
theorem V8{h:Zg}{v:V}(hv:Zk 0 v=true):X5 h v=some v:=V1 hv
theorem Qv(B ep i o:Nat):Ze (.ptr B ep i o)=false:=rfl
theorem KI(B ep z off len:Nat):Ze (.gsl B ep z off len)=false:=rfl
@[simp] theorem ZkG(h:Zg)(d B ep i o:Nat):Yd h (d+1) (.ptr B ep i o)=(XR h B ep).bind fun es=>(es[i]?).bind fun e=>(Yd h d e).map fun e=>.eptr e o .brw:=by
  conv=>lhs;unfold Yd
  unfold XR YG;simp only[Qv,Bool.false_eq_true,if_false]
  cases h[B]? with
  |none=>rfl
  |some b=>
   cases b<;>try rfl
   rename_i es;simp only;split<;>rfl
@[simp] theorem ZbY(h:Zg)(d B ep z off len:Nat):Yd h (d+1) (.gsl B ep z off len)=(KK h B ep off len).bind fun es=>(Y5 (Yd h d) es).map fun es=>.sl z es .brw:=by
  conv=>lhs;unfold Yd
  simp only[KI,Bool.false_eq_true,if_false]
@[simp] theorem ZuM(h:Zg)(B ep i o:Nat):X5 h (.ptr B ep i o)=(XR h B ep).bind fun es=>(es[i]?).bind fun e=>(Yd h 3 e).map fun e=>.eptr e o .brw:=ZkG h 3 B ep i o
@[simp] theorem Zue(h:Zg)(B ep z off len:Nat):X5 h (.gsl B ep z off len)=(KK h B ep off len).bind fun es=>(Y5 (Yd h 3) es).map fun es=>.sl z es .brw:=ZbY h 3 B ep z off len
theorem Jj{h:Zg}{d:Nat}{l:List V}(hb:Zo 0 l=true):Y5 (Yd h d) l=some l:=XW _ fun v hv=>V1 (XJ hb v hv)
theorem Vg{l:List V}(h:Zv l=true): ∀v∈l,Ze v=true:=by
 induction l with
 |nil=>intro v hv;simp at hv
 |cons x l ih=>
  intro v hv
  simp only[Zv,Bool.and_eq_true]at h
  simp only[List.mem_cons]at hv
  rcases hv with rfl|hv
  ·exact h.1
  ·exact ih h.2 v hv
theorem V5{h:Zg}{d:Nat}{l:List V}(hc:Zv l=true):Y5 (Yd h d) l=some l:=
 XW l fun v hv=>by have:=Vg hc v hv;cases d<;>simp[Yd,this]
theorem ZhR(h:Zg)(d f:Nat)(a b:List V):Yd h (d+1) (.func f a b)=(Y5 (Yd h d) a).bind fun a=>(Y5 (Yd h d) b).map fun b=>.func f a b:=by
 conv=>lhs;unfold Yd
 split
 ·rename_i hc
  simp only[Ze,Bool.and_eq_true]at hc
  rw[V5 hc.1,V5 hc.2];rfl
 ·rfl
theorem Zfr(h:Zg)(d t:Nat)(v:V):Yd h (d+1) (.iface t v)=(Yd h d v).map (.iface t):=by
 conv=>lhs;unfold Yd
 split
 ·rename_i hc
  simp only[Ze]at hc
  cases d<;>simp[Yd,hc]
 ·rfl
def mkO(f:Nat)(a b:Option (List V)):Option V:=a.bind fun a=>b.map fun b=>.func f a b
@[simp] theorem ZwO(f:Nat)(a b:List V):mkO f (some a) (some b)=some (.func f a b):=rfl
@[simp] theorem Zr7(h:Zg)(f:Nat)(a b:List V):X5 h (.func f a b)=mkO f (Y5 (Yd h 3) a) (Y5 (Yd h 3) b):=ZhR h 3 f a b
@[simp] theorem Zq3(h:Zg)(t:Nat)(v:V):X5 h (.iface t v)=(Yd h 3 v).map (.iface t):=Zfr h 3 t v
@[simp] theorem Zvw(f:V→Option V):Y5 f []=some []:=rfl
def Zrv(a:Option V)(l:Option (List V)):Option (List V):=a.bind fun v=>l.map (v:: ·)
@[simp] theorem Zss(a:V)(l:List V):Zrv (some a) (some l)=some (a::l):=rfl
@[simp] theorem ZuU(f:V→Option V)(v:V)(l:List V):Y5 f (v::l)=Zrv (f v) (Y5 f l):=rfl
@[simp] theorem ZxD(fr:Fr)(h:Zg)(r:U0):Ub fr h [r]=Xu fr h r:=by
  simp only[Ub,Zbe];cases Xu fr h r<;>rfl
@[simp] theorem ZvD(fr:Fr)(h:Zg)(r s:U0):Ub fr h [r,s]=(Xu fr h r).bind fun a=>(Xu fr h s).map fun b=>.tup [a,b]:=by
  simp only[Ub,Zbe];cases Xu fr h r<;>cases Xu fr h s<;>rfl
@[simp] theorem Zse(fr:Fr)(h:Zg)(r s t:U0):Ub fr h [r,s,t]=(Xu fr h r).bind fun a=>(Xu fr h s).bind fun b=>(Xu fr h t).map fun c=>.tup [a,b,c]:=by
  simp only[Ub,Zbe];cases Xu fr h r<;>cases Xu fr h s<;>cases Xu fr h t<;>rfl
@[simp] theorem ZuQ(fr:Fr)(h:Zg)(r s t u:U0):Ub fr h [r,s,t,u]=(Xu fr h r).bind fun a=>(Xu fr h s).bind fun b=>(Xu fr h t).bind fun c=>(Xu fr h u).map fun d=>.tup [a,b,c,d]:=by
  simp only[Ub,Zbe];cases Xu fr h r<;>cases Xu fr h s<;>cases Xu fr h t<;>cases Xu fr h u<;>rfl
@[simp] theorem Zum(fr:Fr)(h:Zg)(t:Nat):Xu fr h (.tmp t)=some (lk fr t):=rfl
@[simp] theorem Zso(fr:Fr)(h:Zg)(t:Nat)(agg:Bool)(n:Nat):Xu fr h (.cell t agg n)=Yv h agg n (lk fr t):=rfl
@[simp] theorem ZzU(h:Zg)(lo d:Nat)(vs:List V):frz lo h (d+1) (.tup vs)=(Y5 (frz lo h d) vs).map .tup:=by
  unfold frz
  split
  ·rename_i hc
   rw[XW vs fun v hv=>ZKp (Vg (by simpa[Ze]using hc) v hv)];rfl
  ·rfl
theorem KZ(h:Zg)(lo d:Nat)(vs:List V):frz lo h (d+1) (.agg vs)=(Y5 (frz lo h d) vs).map .agg:=by
 unfold frz
 split
 ·rename_i hc
  rw[XW vs fun v hv=>ZKp (Vg (by simpa[Ze]using hc) v hv)];rfl
 ·rfl
@[simp] theorem ZuF(h:Zg)(lo d t:Nat)(v:V):frz lo h (d+1) (.iface t v)=(frz lo h d v).map (.iface t):=by
  conv=>lhs;unfold frz
  split
  ·rename_i hc
   rw[ZKp (by simpa[Ze]using hc)];rfl
  ·rfl
@[simp] theorem ZzZ(h:Zg)(d B ep z off len:Nat):frz 0 h (d+1) (.gsl B ep z off len)=(KK h B ep off len).bind fun es=>(Y5 (frz 0 h d) es).map fun es=>.sl z es .perm:=by
  conv=>lhs;unfold frz
  simp only[KI,Bool.false_eq_true,if_false,Nat.not_lt_zero]
@[simp] theorem ZzK(h:Zg)(d B ep i o:Nat):frz 0 h (d+1) (.ptr B ep i o)=(XR h B ep).bind fun es=>(es[i]?).bind fun e=>(frz 0 h d e).map fun e=>.eptr e o .perm:=by
  conv=>lhs;unfold frz
  simp only[Qv,Bool.false_eq_true,if_false,Nat.not_lt_zero]
  unfold XR YG
  cases h[B]? with
  |none=>rfl
  |some b=>
   cases b<;>try rfl
   rename_i es;simp only;split<;>rfl
theorem Kz{lo d:Nat}{h:Zg}{l:List V}(hc:Zv l=true):Y5 (frz lo h d) l=some l:=XW _ fun v hv=>ZKp (Vg hc v hv)
attribute [simp ↓] Zmg
attribute [simp] QE ZKp Zls V8 V1 Jj Kz Zie W9 ZqG Yt Qy
attribute [simp] V.cells
attribute [congr] Zfv ZeL Zhc Znp ZeU ZeY Zcn ZhY Zen Zke Zg7 Zlr Zgc ZfW ZfT Zg4
def Zs0(rs:List U0)(ex:Ex)(fr:Fr)(h1:Zg):Option (V ×Zg):=
 match ex with
 |.brk _=>none
 |_=>(Ub fr h1 rs).map fun v=>(v,h1)
@[simp ↓] theorem ZyR(rs:List U0)(fr:Fr)(h:Zg):Zs0 rs .nrm fr h=(Ub fr h rs).map fun v=>(v,h):=rfl
@[simp ↓] theorem Zwq(rs:List U0)(fr:Fr)(h:Zg):Zs0 rs .ret fr h=(Ub fr h rs).map fun v=>(v,h):=rfl
theorem K9{vp:VP}{f:Nat}{vf:Zi}(hf:vp.fn f=some vf)(lo:Nat)(args:List V)(h:Zg):
 (orc vp).call f lo args h=Yx (orc vp) vp lo vf.body (Vt 0 args) h (Zs0 vf.results):=by
 rw[Ze5]
 unfold Xi Yx
 simp only[hf,Option.bind_some]
 cases Y4 (orc vp) vp lo vf.body (Vt 0 args) h with
 |none=>rfl
 |some r=>obtain⟨ex,fr,h⟩:=r;cases ex<;>rfl
@[simp] theorem ZjU(h t:Zg)(n ep:Nat):XR (h++t) (h.length+n) ep=XR t n ep:=by
  unfold XR;rw[List.getElem?_append_right (by omega)];simp
@[simp] theorem Zr1(h t:Zg)(ep:Nat):XR (h++t) h.length ep=XR t 0 ep:=ZjU h t 0 ep
@[simp] theorem Zpi(h t:Zg)(n:Nat)(b:Blk):(h++t).set (h.length+n) b=h++t.set n b:=by
  rw[List.set_append_right _ _ (by omega)];simp
@[simp] theorem ZxJ(h t:Zg)(b:Blk):(h++t).set h.length b=h++t.set 0 b:=Zpi h t 0 b
theorem KY{lo z bytes B ep:Nat}{es ns:List V}{h:Zg}(hg:h[B]? =some (.arr es))(hep:es.length=ep)(hlo:lo≤B)(hn:ns.isEmpty=false)(hr:(ep+ns.length)*bytes≤YC):
 X3 lo h z bytes (.gsl B ep z 0 ep) ns=some (.gsl B (ep+ns.length) z 0 (ep+ns.length),h.set B (.arr (es++ns))):=by
 subst hep;simp[X3,hg,hlo,hn,hr]
def roB(vp:VP)(M K:Nat):Bool:=Nat.blt M (2^K)&&(List.range K).all fun f=> !(M>>>f%2==1)||(match vp.fn f with|some vf=> !vf.rw&&vf.ext.isNone|none=>false)
theorem Zmv{vp:VP}{M K:Nat}(ht:roB vp M K=true){f:Nat}(h:M>>>f%2=1): ∃vf,vp.fn f=some vf∧vf.rw=false∧vf.ext=none:=by
 simp only[roB,Bool.and_eq_true,Nat.blt_eq]at ht
 have hf:f<K:=by
  rcases Nat.lt_or_ge f K with k|k
  ·exact k
  ·rw[Nat.shiftRight_eq_div_pow,Nat.div_eq_of_lt (Nat.lt_of_lt_of_le ht.1 (Nat.pow_le_pow_right (by decide) k))]at h
   simp at h
 have:=List.all_eq_true.1 ht.2 f (List.mem_range.2 hf)
 rw[h]at this
 cases hv:vp.fn f with
 |none=>simp[hv]at this
 |some vf=>exact⟨vf,rfl,by simpa[hv]using this⟩
theorem Zj9{β:Type}{vp:VP}{M K:Nat}(ht:roB vp M K=true){f:Nat}(h:M>>>f%2=1)(lo:Nat)(hp:Zg)(args:List V)(kv:V→Zg→Option β):
 YU (orc vp) vp lo hp f args kv=roK vp hp f args kv:=by
 obtain⟨vf,a,b,c⟩:=Zmv ht h;exact VL a b c ..
theorem ZmR{vp:VP}{M K:Nat}(ht:roB vp M K=true){f:Nat}(h:M>>>f%2=1):U1 vp f=true:=by
 obtain⟨vf,a,b,c⟩:=Zmv ht h;simp[U1,a,b]
theorem Zw{vp:VP}(l:Zd)(lo:Nat)(h:Zg)(ks:List Nat)(fr:Fr):(orc vp).loop lo ks l fr h=Yx (orc vp) vp lo l fr h (Zbp vp lo ks l h):=Ztn ..
end Go.VE
