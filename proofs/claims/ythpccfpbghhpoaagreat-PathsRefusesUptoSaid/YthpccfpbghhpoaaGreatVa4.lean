/- Joined texts: VeCode, VeTab, VeSym. No condition: what each theorem needs stands in it. -/
import Derived.Test.YthpccfpbghhpoaaGreatVa3
import Derived.KernelRfl
namespace Go.VE
set_option linter.unnecessarySimpa false
open Classical
def ZlK:Ex→Exit
 |.nrm=>.normal
 |.brk i=>.exit i
 |.ret=>.ret
def Zwf(T:Tbl)(lo:Nat)(G0:Gh)(h0:Zg)(w0:World)(nt:Nat)(r:Ex ×Fr ×Zg)(e:Exit)(a:Act)(w:World):Prop:=
 e=ZlK r.1∧St T lo G0 h0 w0 nt r.2.1 r.2.2 a w
section
variable {P : Program} {T : Tbl} {vp : VP} {G : Gh} {w : World} {lo : Nat} {h : Zg} {G0 : Gh} {w0 : World} {h0 : Zg}
def ZbE(P:Program)(T:Tbl)(vp:VP)(n:Nat):Prop:=
 ∀lo ks body c nt fr h r,(YX vp n).loop lo ks body fr h=some r→YD P T vp nt c body=true→∀G0 h0 w0 a w,St T lo G0 h0 w0 nt fr h a w→Code.rounds P c (Zwf T lo G0 h0 w0 nt r) n a w
theorem Zef{n:Nat}: ∀{fr:Fr},Zo n (fr.map Prod.snd)=true→∀t,Zk n (lk fr t)=true
 |[],_,t=>rfl
 |(k,v)::fr,hh,t=>by
  simp only[List.map_cons,Zo,Bool.and_eq_true]at hh
  simp only[lk]
  split
  ·exact hh.1
  ·exact Zef hh.2 t
theorem Zoj(hi:Zz T G lo h w){fr1:Fr}{h1:Zg}{G1:Gh}{w1:World}{tmps:Array Value}(hf:XD T G1 fr1 tmps)(hi1:Zz T G1 lo h1 w1)(st:Stp lo G h w G1 h1 w1):
 ∃G2,XD T G2 fr1 tmps∧Zz T G2 lo (X1 vp h fr1 h1) w1∧Stp lo G h w G2 (X1 vp h fr1 h1) w1:=by
 unfold X1
 split
 ·rename_i hc0
  simp only[Bool.and_eq_true]at hc0
  have hc:Zo h.length (fr1.map Prod.snd)=true∧ZmV h h1:=⟨hc0.1.2,ZbB hc0.2⟩
  refine⟨G1.drop lo h.length h1 w1 G1.Gb,fun t=> ?_,Kq hi1 st.mono.1 hi.llo (Zbo hi st hc.2),Zee hi st hi1 st.mono.1⟩
  refine R.under (n:=h.length) (fun b off v e=>KZ hi1 e) (fun _ _ _ e=>e) (fun B ep g hB e=> ?_) (fun B r hB e=> ?_) (Nat.le_refl _) (hf t) (Zef hc.1 t)
  ·show(if B<h.length then G1.sg B ep else none)=some g
   rw[if_pos hB];exact e
  ·show(if B<h.length then G1.io B else none)=some r
   rw[if_pos hB];exact e
 ·exact⟨G1,hf,hi1,st⟩
theorem St.keep{nt:Nat}{fr:Fr}{a:Act}(hs:St T lo G0 h0 w0 nt fr h a w)(ks:List Nat):St T lo G0 h0 w0 nt (VE.keep ks fr) h a w:=by
 obtain⟨G,s1,s2,s3,s4,s5⟩:=hs
 exact⟨G,s1.keep ks,s2,s3,s4,s5⟩
theorem Zi0(tied:U9 P T vp){n:Nat}(ih:Xt P T vp n)(il:ZbE P T vp n): ∀(c:Code) (v:Zd) {nt:Nat} {fr:Fr} {h:Zg} {r:Ex ×Fr ×Zg} {a:Act} {w:World} {G0:Gh} {h0:Zg} {w0:World},
 YD P T vp nt c v=true→Y2 (YX vp n) vp lo v fr h=some r→St T lo G0 h0 w0 nt fr h a w→c.wp P (Zwf T lo G0 h0 w0 nt r) a w:=by
 intro c v
 induction v generalizing c with
 |skip=>
  intro nt fr h r a w G0 h0 w0 hc e hs
  cases c<;>simp[YD]at hc
  simp only[Y2,Option.some.injEq]at e
  subst e
  exact wp_skip ⟨rfl,hs⟩
 |reg its ks=>
  intro nt fr h r a w G0 h0 w0 hc e hs
  cases c with
  |region id ops draw=>
   cases draw with
   |false=>
    simp only[Y2,Option.map_eq_some_iff]at e
    obtain⟨x,hx,rfl⟩:=e
    have hc:Qo P T ops nt ops.toList its=true:=hc
    exact ZjD tied ih hc hx hs fun a w s=>⟨rfl,s.keep ks⟩
   |true=>exact absurd hc (by simp[YD])
  |_=>exact absurd hc (by simp[YD])
 |drw ds ks=>
  intro nt fr h r a w G0 h0 w0 hc e hs
  cases c with
  |region id ops draw=>
   cases draw with
   |true=>
    simp only[Y2,Option.map_eq_some_iff]at e
    obtain⟨x,hx,rfl⟩:=e
    have hc:ZaA P T vp ops nt ds=true:=hc
    exact Zoa tied ih hc hx hs fun a w s=>⟨rfl,s.keep ks⟩
   |false=>exact absurd hc (by simp[YD])
  |_=>exact absurd hc (by simp[YD])
 |seq v1 v2 ih1 ih2=>
  intro nt fr h r a w G0 h0 w0 hc e hs
  cases c<;>simp only[YD,Bool.false_eq_true]at hc
  rename_i c1 c2
  simp only[Bool.and_eq_true]at hc
  simp only[Y2,Option.bind_eq_some_iff]at e
  obtain⟨x,hx,e⟩:=e
  refine wp_seq (wp_mono (ih1 c1 hc.1 hx hs) fun ex a' w' ⟨q1,q2⟩=> ?_)
  obtain⟨ex1,fr1,h1⟩:=x
  subst q1
  cases ex1 with
  |nrm=>exact ih2 c2 hc.2 e q2
  |brk i=>simp only[Option.some.injEq]at e;subst e;exact⟨rfl,q2⟩
  |ret=>simp only[Option.some.injEq]at e;subst e;exact⟨rfl,q2⟩
 |cond y v1 v2 ih1 ih2=>
  intro nt fr h r a w G0 h0 w0 hc e hs
  cases c<;>simp only[YD,Bool.false_eq_true]at hc
  rename_i x c1 c2
  simp only[Bool.and_eq_true]at hc
  simp only[Y2]at e
  split at e
  ·rename_i b hb
   obtain⟨G,s1,s2,s3,s4,s5⟩:=id hs
   have hR:=WI s1 hc.1.1
   rw[hb]at hR
   have hv:=hR.bool_inv
   split at e
   ·rename_i hbt
    exact wp_cond hv (by rw[if_pos hbt];exact ih1 c1 hc.1.2 e hs)
   ·rename_i hbt
    exact wp_cond hv (by rw[if_neg hbt];exact ih2 c2 hc.2 e hs)
  ·simp at e
 |blk id v1 ih1=>
  intro nt fr h r a w G0 h0 w0 hc e hs
  cases c<;>simp only[YD,Bool.false_eq_true]at hc
  rename_i id' c1
  simp only[Bool.and_eq_true,beq_iff_eq]at hc
  obtain⟨rfl,hc⟩:=hc
  simp only[Y2,Option.map_eq_some_iff]at e
  obtain⟨x,hx,e⟩:=e
  refine wp_block (wp_mono (ih1 c1 hc hx hs) fun ex a' w' ⟨q1,q2⟩=> ?_)
  obtain⟨ex1,fr1,h1⟩:=x
  subst q1
  cases ex1 with
  |nrm=>simp only at e;subst e;exact⟨rfl,q2⟩
  |brk i=>
   simp only at e
   simp only[ZlK,Exit.inBlock]
   split
   ·rename_i hid
    rw[if_pos hid]at e;subst e;exact⟨rfl,q2⟩
   ·rename_i hid
    rw[if_neg hid]at e;subst e;exact⟨rfl,q2⟩
  |ret=>simp only at e;subst e;exact⟨rfl,q2⟩
 |loop ks v1 ih1=>
  intro nt fr h r a w G0 h0 w0 hc e hs
  cases c<;>simp only[YD,Bool.false_eq_true]at hc
  rename_i c1
  simp only[Y2]at e
  exact wp_loop_rounds n (il _ _ _ _ _ _ _ _ e hc _ _ _ _ _ (hs.keep ks))
 |exit id=>
  intro nt fr h r a w G0 h0 w0 hc e hs
  cases c<;>simp[YD]at hc
  subst hc
  simp only[Y2,Option.some.injEq]at e
  subst e
  exact wp_exit ⟨rfl,hs⟩
 |ret=>
  intro nt fr h r a w G0 h0 w0 hc e hs
  cases c<;>simp[YD]at hc
  simp only[Y2,Option.some.injEq]at e
  subst e
  exact wp_ret ⟨rfl,hs⟩
theorem Zed: ∀(vs:List V) (n t:Nat),lk (Vq n vs) t=if n≤t then(vs[t-n]?).getD .undef else .undef
 |[],n,t=>by simp[Vq,lk]
 |v::vs,n,t=>by
  simp only[Vq,lk]
  split
  ·rename_i hh;subst hh;simp
  ·rename_i hh
   rw[Zed vs (n+1) t]
   by_cases h1:n+1≤t
   ·rw[if_pos h1,if_pos (by omega)]
    have:t-n=(t-(n+1))+1:=by omega
    rw[this];simp
   ·rw[if_neg h1,if_neg (by omega)]
theorem ZoS{vs:List V}{as:Array Value}(hR:RA T G vs as)(k:Nat):XD T G (Vq 0 vs) (as++Array.replicate k undef):=by
 intro t
 rw[Zed,if_pos (Nat.zero_le _),Nat.sub_zero]
 cases hv:vs[t]? with
 |none=>exact .undef _
 |some v=>
  have hlt:t<as.size:=by rw[←hR.1];exact(List.getElem?_eq_some_iff.1 hv).1
  have hg:(as++Array.replicate k undef).getD t undef=as[t]:=by
   rw[Array.getD_eq_getD_getElem?,Array.getElem?_append_left hlt];simp[hlt]
  rw[hg]
  exact hR.2 t v _ hv (by simp[hlt])
def Zab(tmps:Array Value):ResultVar→Sem Value
 |.tmp t=>pure (tmps.getD t undef)
 |.cell a t=>do loadVar t (←asAddr (tmps.getD a undef))
theorem Zg4(hi:Zz T G lo h w){fr:Fr}{tmps:Array Value}(hf:XD T G fr tmps): ∀(l:List ResultVar) (r:List U2) (vs:List V),WV P l r=true→Za4 fr h r=some vs→∃rs:List Value,(l.mapM (Zab tmps)).run P w=.ok rs w∧vs.length=rs.length∧∀(i:Nat) (v:V) (rv:Value),vs[i]? =some v→rs[i]? =some rv→R T G v rv
 |[],[],vs,hc,e=>by
  simp[Za4]at e;subst e
  exact⟨[],by simp,rfl,by simp⟩
 |[],_::_,_,hc,_=>by simp[WV]at hc
 |.tmp _::_,[],_,hc,_=>by simp[WV]at hc
 |.cell _ _::_,[],_,hc,_=>by simp[WV]at hc
 |.tmp t::l,.tmp t'::r,vs,hc,e=>by
  simp only[WV,Bool.and_eq_true,beq_iff_eq]at hc
  obtain⟨rfl,hc⟩:=hc
  simp only[Za4,Xr,Option.bind_some,Option.map_eq_some_iff]at e
  obtain⟨vs',e,rfl⟩:=e
  obtain⟨rs,r1,r2,r3⟩:=Zg4 hi hf l r vs' hc e
  refine⟨tmps.getD t undef::rs,by simp only[List.mapM_cons,Sem.run_bind,Zab,Sem.run_pure,Result.andThen_ok,r1],by simp[r2],fun i v rv e1 e2=> ?_⟩
  cases i with
  |zero=>simp at e1 e2;subst e1;rw[←e2];have:=hf t;simpa using this
  |succ i=>exact r3 i v rv (by simpa using e1) (by simpa using e2)
 |.tmp t::l,.cell _ _ _::r,vs,hc,e=>by simp[WV]at hc
 |.cell _ _::l,.tmp _::r,vs,hc,e=>by simp[WV]at hc
 |.cell x t::l,.cell x' agg n::r,vs,hc,e=>by
  simp only[WV,Bool.and_eq_true,beq_iff_eq]at hc
  obtain⟨⟨⟨rfl,ha⟩,hs⟩,hc⟩:=hc
  simp only[Za4,Xr,Option.bind_eq_some_iff,Option.map_eq_some_iff]at e
  obtain⟨v,hv,vs',e,rfl⟩:=e
  obtain⟨rs,r1,r2,r3⟩:=Zg4 hi hf l r vs' hc e
  obtain⟨rv,ad,k1,k2,k3⟩:=Zbs (P:=P) hi ha (fun hagg=>by rw[hagg]at hs;simpa using hs) hv (hf x)
  refine⟨rv::rs,?_,by simp[r2],fun i v' rv' e1 e2=> ?_⟩
  ·simp only[List.mapM_cons,Sem.run_bind,Zab,k1,asAddr,Sem.run_pure,Result.andThen_ok,k2,r1]
  ·cases i with
   |zero=>simp at e1 e2;subst e1;subst e2;exact k3
   |succ i=>exact r3 i v' rv' (by simpa using e1) (by simpa using e2)
theorem ZfI(hi:Zz T G lo h w){fr:Fr}{tmps:Array Value}(hf:XD T G fr tmps){fn:Func}{r:List U2}{v:V}(hc:WV P fn.results.toList r=true)(e:Ub fr h r=some v):
 ∃rv,(results fn tmps).run P w=.ok rv w∧R T G v rv:=by
 simp only[Ub,Option.map_eq_some_iff]at e
 obtain⟨vs,hv,e⟩:=e
 obtain⟨rs,r1,r2,r3⟩:=Zg4 hi hf _ _ _ hc hv
 have hm:(fn.results.mapM (Zab tmps)).run P w=.ok rs.toArray w:=by
  rw[Array.mapM_eq_mapM_toList]
  simp only[Sem.run_map,r1,Result.andThen_ok]
 have hres:results fn tmps=(do let vs←fn.results.mapM (Zab tmps);pure (if h:vs.size=1 then vs[0]else .tuple vs)):=by
  unfold results
  congr
 have hm2:(results fn tmps).run P w=.ok (if h:rs.toArray.size=1 then rs.toArray[0]else .tuple rs.toArray) w:=by
  rw[hres]
  simp only[Sem.run_bind,hm,Result.andThen_ok,Sem.run_pure]
 refine⟨_,hm2,?_⟩
 cases vs with
 |nil=>
  cases rs with
  |nil=>subst e;exact .tup [] #[] rfl (by simp)
  |cons x rs=>simp at r2
 |cons y vs=>
  cases rs with
  |nil=>simp at r2
  |cons x rs=>
   cases vs with
   |nil=>
    cases rs with
    |nil=>subst e;exact r3 0 _ _ rfl rfl
    |cons x' rs=>simp at r2
   |cons y' vs=>
    subst e
    rw[dif_neg (by cases rs with|nil=>simp at r2|cons x' rs=>simp)]
    exact .tup (y::y'::vs) (x::rs).toArray (by simpa using r2) (fun i v rv e1 e2=>r3 i v rv e1 (by simpa using e2))
theorem Zrk(tied:U9 P T vp): ∀n,Xt P T vp n∧ZbE P T vp n
 |0=>⟨fun f vf lo vs h r h' _ _ e=>absurd e (by simp[YX]),fun lo ks body c nt fr h r e=>absurd e (by simp[YX])⟩
 |n+1=>by
  obtain⟨ih,il⟩:=Zrk tied n
  refine⟨fun f vf lo vs h r h' hv hx e G w fid as hf hi hR=> ?_,fun lo ks body c nt fr h r e hc G0 h0 w0 a w hs=> ?_⟩
  ·obtain⟨fid',fn,hf',hfn,hck⟩:=tied.fn f vf hv hx
   rw[hf]at hf';simp only[Option.some.injEq]at hf';subst hf'
   obtain⟨c,hb,hnm,hcode,hres⟩:=JH hck
   have e':Xm (YX vp n) vp f lo vs h=some (r,h'):=e
   simp only[Xm,hv,Option.bind_some,Option.bind_eq_some_iff]at e'
   obtain⟨x,hxx,e'⟩:=e'
   refine calls_of_wp hfn hb ?_
   have hs:St T lo G h w fn.ntmps (Vq 0 vs) h {tmps:=as++Array.replicate (fn.ntmps-as.size) undef,defers:=[]} w:=
    ⟨G,ZoS hR _,hi,.refl _ _ _ _,rfl,by simp;omega⟩
   refine wp_mono (Zi0 tied ih il c vf.body hcode hxx hs) fun ex a' w' ⟨q1,q2⟩=> ?_
   obtain⟨ex1,fr1,h1⟩:=x
   obtain⟨G1,s1,s2,s3,s4,s5⟩:=q2
   have fin:(Ub fr1 h1 vf.results).map (fun v=>(v,h1))=some (r,h')→a'.defers=[]∧∃v,(results fn a'.tmps).run P w'=.ok v w'∧ZoW T lo G h w r h' (.returned v) w':=by
    intro e'
    simp only[Option.map_eq_some_iff,Prod.mk.injEq]at e'
    obtain⟨v,hv,rfl,rfl⟩:=e'
    obtain⟨rv,k1,k2⟩:=ZfI s2 s1 hres hv
    exact⟨s4,rv,k1,rv,G1,rfl,k2,s2,s3⟩
   subst q1
   cases ex1 with
   |nrm=>exact fin e'
   |brk i=>simp at e'
   |ret=>exact fin e'
  ·have e':Y7 (YX vp n) vp lo ks body fr h=some r:=e
   simp only[Y7,Option.bind_eq_some_iff]at e'
   obtain⟨x,hxx,e'⟩:=e'
   obtain⟨G,s1,s2,s3,s4,s5⟩:=hs
   rw[rounds_succ]
   refine wp_mono (Zi0 tied ih il c body hc hxx (G0:=G) (h0:=h) (w0:=w) ⟨G,s1,s2,.refl _ _ _ _,s4,s5⟩) fun ex a' w' ⟨q1,q2⟩=> ?_
   obtain⟨ex1,fr1,h1⟩:=x
   obtain⟨G1,t1,t2,t3,t4,t5⟩:=q2
   subst q1
   cases ex1 with
   |nrm=>
    simp only at e'
    obtain⟨G2,u1,u2,u3⟩:=Zoj (vp:=vp) s2 (t1.keep ks) t2 t3
    exact il _ _ _ _ _ _ _ _ e' hc _ _ _ _ _ ⟨G2,u1,u2,s3.trans u3,t4,t5⟩
   |brk i=>simp only[Option.some.injEq]at e';subst e';exact⟨rfl,G1,t1,t2,s3.trans t3,t4,t5⟩
   |ret=>simp only[Option.some.injEq]at e';subst e';exact⟨rfl,G1,t1,t2,s3.trans t3,t4,t5⟩
theorem ZeS(tied:U9 P T vp){f:Nat}{vf:Zi}(hv:vp.fn f=some vf)(hx:vf.ext=none){vs:List V}{r:V}{h':Zg}(e:Zmy vp f lo vs h=some (r,h'))(hi:Zz T G lo h w){fid:FuncId}(hf:T.fid f=some fid)
 {as:Array Value} (hR:RA T G vs as):Calls P fid as w (ZoW T lo G h w r h'):=by
 obtain⟨n,hn⟩:=Wb e
 exact(Zrk tied n).1 f vf lo vs h r h' hv hx hn G w fid as hf hi hR
end
end Go.VE
namespace Go.VE
inductive WL (α:Type) where
 |leaf
 |node (l:WL α) (k:Nat) (v:α) (r:WL α)
def WL.get{α:Type}:WL α→Nat→Option α
 |.leaf,_=>none
 |.node l k v r,n=>if Nat.blt n k then l.get n else if Nat.blt k n then r.get n else some v
def WL.toList{α:Type}:WL α→List (Nat ×α)
 |.leaf=>[]
 |.node l k v r=>l.toList++(k,v)::r.toList
theorem WL.get_mem{α:Type}{n:Nat}{v:α}: ∀{t:WL α},t.get n=some v→(n,v)∈t.toList
 |.leaf,h=>by simp[WL.get]at h
 |.node l k x r,h=>by
  simp only[WL.get]at h
  simp only[WL.toList,List.mem_append,List.mem_cons]
  split at h
  ·exact .inl (get_mem h)
  ·rename_i h1
   split at h
   ·exact .inr (.inr (get_mem h))
   ·rename_i h2
    have e:n=k:=by
     simp only[Nat.blt_eq]at h1 h2
     omega
    simp only[Option.some.injEq]at h
    exact .inr (.inl (by rw[e,h]))
def WL.all{α:Type}(p:Nat→α→Bool):WL α→Bool
 |.leaf=>true
 |.node l k v r=>p k v&&l.all p&&r.all p
def T1{α:Type}(k:Nat)(v:α):WL α:=.node .leaf k v .leaf
def T2{α:Type}(l:WL α)(k:Nat)(v:α):WL α:=.node l k v .leaf
def T3{α:Type}(l:WL α)(k:Nat)(v:α)(r:WL α):WL α:=.node l k v r
def Zqg(P:Program)(T:Tbl)(vp:VP)(p:Nat ×Zi):Bool:=
 match p.2.ext,T.fid p.1 with
 |none,some i=>(match P.funcs[i]? with|some fn=>Jv P T vp fn p.2|none=>false)
 |some _,_=>true
 |none,none=>false
theorem Zn5{P:Program}{T:Tbl}{vp:VP}{p:Nat ×Zi}(h:Zqg P T vp p=true)(hx:p.2.ext=none): ∃fid fn,T.fid p.1=some fid∧P.funcs[fid]? =some fn∧Jv P T vp fn p.2=true:=by
 unfold Zqg at h
 rw[hx]at h
 split at h
 ·rename_i e
  split at h
  ·rename_i fn e2;exact⟨_,fn,e,e2,h⟩
  ·simp at h
 ·rename_i e;simp at e
 ·simp at h
theorem Zaj{α:Type}{p:α→Bool}{n:Nat}: ∀{k:Nat} {l:List α},l.length≤k*n→(∀i,i<k→((l.drop (i*n)).take n).all p=true)→∀x∈l,p x=true
 |0,l,hl,_,x,hx=>by
  have:l=[]:=List.eq_nil_of_length_eq_zero (by omega)
  subst this;simp at hx
 |k+1,l,hl,h,x,hx=>by
  rw[←List.take_append_drop n l,List.mem_append]at hx
  rcases hx with hx|hx
  ·exact List.all_eq_true.1 (by simpa using h 0 (by omega)) x hx
  ·refine Zaj (n:=n) (k:=k) (by rw[List.length_drop];rw[Nat.succ_mul]at hl;omega) (fun i hi=> ?_) x hx
   have:=h (i+1) (by omega)
   rwa[List.drop_drop,Nat.add_comm n (i*n),←Nat.succ_mul]
def Zms(P:Program)(T:Tbl)(k:Nat)(p:Nat ×Nat):Bool:=
 match T.tid p.1,T.fid p.2 with
 |some t,some f=>ZaS P t (T.mname k) f
 |_,_=>false
theorem Znp{P:Program}{T:Tbl}{k:Nat}{p:Nat ×Nat}(h:Zms P T k p=true): ∃tid fid,T.tid p.1=some tid∧T.fid p.2=some fid∧ZaS P tid (T.mname k) fid=true:=by
 unfold Zms at h
 split at h
 ·rename_i t f e1 e2;exact⟨t,f,e1,e2,h⟩
 ·simp at h
end Go.VE
namespace Go.VE
theorem nr{α:Type}{a b:α}(h:a=b):a=b:=h
noncomputable def Zc (vp:VP) (f:Nat) (args:List V):Option V:=
 ((orc vp).call f 0 args []).bind fun r=>frz 0 r.2 4 r.1
def fin(rs:List U2)(r:Ex ×Fr ×Zg):Option V:=
 match r with
 |(.brk _,_,_)=>none
 |(_,fr,h1)=>(Ub fr h1 rs).bind fun v=>frz 0 h1 4 v
theorem Zkt{vp:VP}{f:Nat}{vf:Zi}(hf:vp.fn f=some vf)(args:List V):
 Zc vp f args=(Y2 (orc vp) vp 0 vf.body (Vq 0 args) []).bind (fin vf.results):=by
 unfold Zc
 rw[Zfa]
 unfold Xm
 simp only[hf,Option.bind_some]
 cases Y2 (orc vp) vp 0 vf.body (Vq 0 args) []with
 |none=>rfl
 |some r=>
  obtain⟨ex,fr,h⟩:=r
  cases ex<;>simp only[Option.bind_some,fin,Option.bind_none]
  all_goals cases Ub fr h vf.results<;>rfl
theorem Zey{α β:Type}{o o':Option α}{f:α→Option β}(h:o=o'):o.bind f=o'.bind f:=by rw[h]
theorem WW{lo d:Nat}{h:Zg}{v:V}(hc:Ze v=true):frz lo h d v=some v:=by
 cases d<;>simp[frz,hc]
theorem ZjV{lo:Nat}{h:Zg}{v:V}(hc:Ze v=true):fzV lo h v=some (v,h):=by
 cases v<;>simp[fzV,hc]
 ·intro h1;simp[Ze]at hc;rw[hc]at h1;simp at h1
 ·simp[Ze]at hc
theorem KF(vp:VP)(h h1:Zg)(fr:Fr)(hl:h1.length=h.length):X1 vp h fr h1=h1:=by
 unfold X1;split
 ·rw[List.take_of_length_le (by omega)]
 ·rfl
section
variable (k : Nat) (b : Bool) (ik : IntKind) (n : Int) (s : List UInt8) (cs as : List V) (z o f : Nat) (t : Tag) (v : V)
@[simp] theorem Zpj:Ze (.bool b)=true:=nr rfl
@[simp] theorem Ztm:Ze (.int ik n)=true:=nr rfl
@[simp] theorem ZBI:Ze (.str s)=true:=nr rfl
@[simp] theorem ZAv:Ze .nilp=true:=nr rfl
@[simp] theorem ZAN:Ze .nilf=true:=nr rfl
@[simp] theorem ZAj:Ze .nili=true:=nr rfl
@[simp] theorem Zz0:Ze .nilm=true:=nr rfl
@[simp] theorem ZxW:Ze .undef=true:=nr rfl
@[simp] theorem ZCG:Ze (.agg cs)=Zv cs:=nr rfl
@[simp] theorem ZB8:Ze (.tup cs)=Zv cs:=nr rfl
@[simp] theorem Zxx:Ze (.iface z v)=Ze v:=nr rfl
@[simp] theorem ZzR:Ze (.func f cs as)=(Zv cs&&Zv as):=nr rfl
@[simp] theorem ZBw:Zv []=true:=nr rfl
@[simp] theorem ZAB:Zv (v::cs)=(Ze v&&Zv cs):=nr rfl
@[simp] theorem ZBh:Zk k (.bool b)=true:=nr rfl
@[simp] theorem ZBl:Zk k (.int ik n)=true:=nr rfl
@[simp] theorem ZCB:Zk k (.str s)=true:=nr rfl
@[simp] theorem ZAq:Zk k .nilp=true:=nr rfl
@[simp] theorem ZAu:Zk k .nilf=true:=nr rfl
@[simp] theorem ZAZ:Zk k .nili=true:=nr rfl
@[simp] theorem Zz3:Zk k .nilm=true:=nr rfl
@[simp] theorem ZvR:Zk k .undef=true:=nr rfl
@[simp] theorem ZCp:Zk k (.agg cs)=Zo k cs:=nr rfl
@[simp] theorem ZBR:Zk k (.tup cs)=Zo k cs:=nr rfl
@[simp] theorem ZCT:Zk k (.sl z cs t)=Zo k cs:=nr rfl
@[simp] theorem ZzG:Zk k (.eptr v o t)=Zk k v:=nr rfl
@[simp] theorem Zy1:Zk k (.iface z v)=Zk k v:=nr rfl
@[simp] theorem ZAO:Zk k (.func f cs as)=(Zo k cs&&Zo k as):=nr rfl
@[simp] theorem ZCC:Zo k []=true:=nr rfl
@[simp] theorem ZBe:Zo k (v::cs)=(Zk k v&&Zo k cs):=nr rfl
@[simp] theorem ZCd(B ep i:Nat):Zk k (.ptr B ep i o)=decide (B<k):=nr rfl
@[simp] theorem ZBq(B ep len:Nat):Zk k (.gsl B ep z o len)=decide (B<k):=nr rfl
@[simp] theorem ZCi(B:Nat):Zk k (.itr B)=decide (B<k):=nr rfl
@[simp] theorem ZBf:okV (.bool b)=true:=nr rfl
@[simp] theorem ZBC:okV (.int ik n)=true:=nr rfl
@[simp] theorem ZBP:okV (.str s)=true:=nr rfl
@[simp] theorem ZCr:okV (.agg cs)=true:=nr rfl
@[simp] theorem ZCS:okV (.sl z cs t)=true:=nr rfl
@[simp] theorem ZBd:okV (.eptr v o t)=true:=nr rfl
@[simp] theorem ZAM:okV .nilp=true:=nr rfl
@[simp] theorem ZA7:okV .nilf=true:=nr rfl
@[simp] theorem ZAL:okV .nili=true:=nr rfl
@[simp] theorem ZxB:okV (.iface z v)=true:=nr rfl
@[simp] theorem ZzF:okV (.func f cs as)=true:=nr rfl
@[simp] theorem ZBU(B ep i:Nat):okV (.ptr B ep i o)=true:=nr rfl
@[simp] theorem ZCK(B ep len:Nat):okV (.gsl B ep z o len)=true:=nr rfl
end
section
variable {β : Type}
def Yv(O:Orc)(vp:VP)(lo:Nat)(c:Zd)(fr:Fr)(h:Zg)(K:Ex→Fr→Zg→Option β):Option β:=(Y2 O vp lo c fr h).bind fun r=>K r.1 r.2.1 r.2.2
def Zt(O:Orc)(vp:VP)(lo:Nat)(ops:List VIt)(fr:Fr)(h:Zg)(k:Fr→Zg→Option β):Option β:=(YM O vp lo ops fr h).bind fun r=>k r.1 r.2
def ZS(O:Orc)(vp:VP)(lo:Nat)(fr:Fr)(h:Zg)(op:VOp)(k:V→Zg→Option β):Option β:=(ZM O vp lo fr h op).bind fun r=>k r.1 r.2
def dK(O:Orc)(vp:VP)(lo:Nat)(ds:List VDt)(p:Nat)(rs:List Jf)(fr:Fr)(h:Zg)(k:Fr→Zg→Option β):Option β:=(Ui O vp lo ds p rs fr h).bind fun r=>k r.1 r.2
open Classical in
noncomputable def ifP {α:Type} (p:Prop) (x y:α):α:=if p then x else y
theorem KO{α:Type}(p:Prop)[Decidable p](x y:α):ifP p x y=if p then x else y:=by unfold ifP;split<;>simp_all
theorem Zjw{α:Type}{p:Prop}(h:p)(x y:α):ifP p x y=x:=if_pos h
theorem ZiX{α:Type}{p:Prop}(h: ¬p)(x y:α):ifP p x y=y:=if_neg h
@[simp] theorem ZxL{α:Type}(x y:α):ifP True x y=x:=if_pos trivial
@[simp] theorem Zua{α:Type}(x y:α):ifP False x y=y:=if_neg id
@[simp] theorem Zv9{α:Type}(p:Prop)(x:α):ifP p x x=x:=by unfold ifP;simp
theorem Zk4{α:Type}{c c':Prop}{x x' y y':α}(e:c=c')(e1:c'→x=x')(e2: ¬c'→y=y'):ifP c x y=ifP c' x' y':=by
 subst e
 by_cases hc:c
 ·rw[Zjw hc,Zjw hc];exact e1 hc
 ·rw[ZiX hc,ZiX hc];exact e2 hc
attribute [congr] Zk4
@[simp] theorem ZCA{α:Type}(p:Prop)(x y z:α):(ifP p x y=z)=((p→x=z)∧(¬p→y=z)):=by
  unfold ifP;split<;>simp_all
@[simp] theorem Zzk{α:Type}(c:Prop)(a b:Option α)(k:α→Option β):(ifP c a b).bind k=ifP c (a.bind k) (b.bind k):=by unfold ifP;split<;>rfl
def Jo(v:V)(x y:Option β):Option β:=
 match v with
 |.bool b=>if b=true then x else y
 |_=>none
def Z4(v:V)(want:Bool)(x y:Option β):Option β:=
 match v with
 |.bool b=>if b=want then x else y
 |.tup []=>y
 |_=>none
def Zti(rs:List U2)(ex:Ex)(fr:Fr)(h1:Zg):Option V:=
 match ex with
 |.brk _=>none
 |_=>(Ub fr h1 rs).bind fun v=>frz 0 h1 4 v
theorem Za{vp:VP}{f:Nat}{vf:Zi}(hf:vp.fn f=some vf)(args:List V):
 Zc vp f args=Yv (orc vp) vp 0 vf.body (Vq 0 args) [] (Zti vf.results):=by
 rw[Zkt hf]
 unfold Yv
 cases Y2 (orc vp) vp 0 vf.body (Vq 0 args) []with
 |none=>rfl
 |some r=>obtain⟨ex,fr,h⟩:=r;cases ex<;>rfl
def KJ(fr:Fr)(k:Fr→Option β):Option β:=k fr
def KG(v:V)(h:Zg)(k:V→Zg→Option β):Option β:=k v h
theorem Zhi{fr fr':Fr}{k:Fr→Option β}(e:fr=fr'):KJ fr k=KJ fr' k:=by rw[e]
theorem ZgF{v v':V}{h h':Zg}{k:V→Zg→Option β}(e:v=v')(e':h=h'):KG v h k=KG v' h' k:=by rw[e,e']
attribute [congr] Zhi ZgF
@[simp] theorem ZzO(fr:Fr)(k:Fr→Option β):KJ fr k=k fr:=rfl
@[simp] theorem ZBc(v:V)(h:Zg)(k:V→Zg→Option β):KG v h k=k v h:=rfl
section
variable (O : Orc) (vp : VP) (lo : Nat) (fr : Fr) (h : Zg) (K : Ex → Fr → Zg → Option β) (k : Fr → Zg → Option β) (kv : V → Zg → Option β)
@[simp ↓] theorem Zsw:Yv O vp lo .skip fr h K=K .nrm fr h:=rfl
@[simp ↓] theorem Zuk:Yv O vp lo .ret fr h K=K .ret fr h:=rfl
@[simp ↓] theorem Zse(id:Nat):Yv O vp lo (.exit id) fr h K=K (.brk id) fr h:=rfl
@[simp ↓] theorem QC(ops:List VIt)(ks:List Nat):Yv O vp lo (.reg ops ks) fr h K=Zt O vp lo ops fr h (fun fr h=>KJ (keep ks fr) fun fr=>K .nrm fr h):=by
  unfold Yv Zt KJ;simp only[Y2];cases YM O vp lo ops fr h<;>rfl
@[simp ↓] theorem Zkm(ds:List VDt)(ks:List Nat):Yv O vp lo (.drw ds ks) fr h K=dK O vp lo ds 0 [] fr h (fun fr h=>KJ (keep ks fr) fun fr=>K .nrm fr h):=by
  unfold Yv dK KJ;simp only[Y2];cases Ui O vp lo ds 0 [] fr h<;>rfl
def Zj2(K:Ex→Fr→Zg→Option β)(N:Fr→Zg→Option β)(ex:Ex)(fr:Fr)(h:Zg):Option β:=
 match ex with
 |.nrm=>N fr h
 |ex=>K ex fr h
def Zg9(id:Nat)(K:Ex→Fr→Zg→Option β)(ex:Ex)(fr:Fr)(h:Zg):Option β:=
 match ex with
 |.brk i=>if i=id then K .nrm fr h else K (.brk i) fr h
 |ex=>K ex fr h
@[simp ↓] theorem Zyb(N:Fr→Zg→Option β):Zj2 K N .nrm fr h=N fr h:=rfl
@[simp ↓] theorem Zyp(N:Fr→Zg→Option β):Zj2 K N .ret fr h=K .ret fr h:=rfl
@[simp ↓] theorem Zy8(N:Fr→Zg→Option β)(i:Nat):Zj2 K N (.brk i) fr h=K (.brk i) fr h:=rfl
@[simp ↓] theorem ZxQ(i:Nat):Zg9 i K .nrm fr h=K .nrm fr h:=rfl
@[simp ↓] theorem ZyE(i:Nat):Zg9 i K .ret fr h=K .ret fr h:=rfl
@[simp ↓] theorem Zyh(i j:Nat):Zg9 i K (.brk j) fr h=if j=i then K .nrm fr h else K (.brk j) fr h:=rfl
@[simp ↓] theorem Zxg(rs:List U2):Zti rs .nrm fr h=(Ub fr h rs).bind fun v=>frz 0 h 4 v:=rfl
@[simp ↓] theorem Zw9(rs:List U2):Zti rs .ret fr h=(Ub fr h rs).bind fun v=>frz 0 h 4 v:=rfl
@[simp ↓] theorem WU(a b:Zd):Yv O vp lo (.seq a b) fr h K=Yv O vp lo a fr h (Zj2 K fun fr h=>Yv O vp lo b fr h K):=by
  unfold Yv;simp only[Y2]
  cases Y2 O vp lo a fr h with
  |none=>rfl
  |some r=>obtain⟨ex,fr,h⟩:=r;cases ex<;>rfl
@[simp ↓] theorem Jh(c:Z3)(a b:Zd):Yv O vp lo (.cond c a b) fr h K=Jo (opd fr c) (Yv O vp lo a fr h K) (Yv O vp lo b fr h K):=by
  unfold Yv;simp only[Y2]
  cases opd fr c<;>try rfl
  rename_i c;cases c<;>rfl
@[simp ↓] theorem Zuo(id:Nat)(body:Zd):Yv O vp lo (.blk id body) fr h K=Yv O vp lo body fr h (Zg9 id K):=by
  unfold Yv;simp only[Y2]
  cases Y2 O vp lo body fr h with
  |none=>rfl
  |some r=>
   obtain⟨ex,fr,h⟩:=r
   cases ex<;>try rfl
   rename_i i;simp only[Option.map_some,Option.bind_some,Zg9];split<;>rfl
def Kp(o:Option (Ex ×Fr ×Zg))(K:Ex→Fr→Zg→Option β):Option β:=o.bind fun r=>K r.1 r.2.1 r.2.2
theorem Zfz{o o':Option (Ex ×Fr ×Zg)}{K:Ex→Fr→Zg→Option β}(e:o=o'):Kp o K=Kp o' K:=by rw[e]
attribute [congr] Zfz
@[simp] theorem Ztz(ex:Ex)(K:Ex→Fr→Zg→Option β):Kp (some (ex,fr,h)) K=K ex fr h:=rfl
@[simp] theorem Zs0(K:Ex→Fr→Zg→Option β):Kp none K=none:=rfl
@[simp] theorem ZuO(c:Prop)(a b:Option (Ex ×Fr ×Zg))(K:Ex→Fr→Zg→Option β):Kp (ifP c a b) K=ifP c (Kp a K) (Kp b K):=by unfold ifP;split<;>rfl
@[simp ↓] theorem ZsW(ks:List Nat)(body:Zd):Yv O vp lo (.loop ks body) fr h K=Kp (O.loop lo ks body (keep ks fr) h) K:=rfl
@[simp] theorem Zsp(b:Bool)(x y:Option β):Jo (.bool b) x y=ifP (b=true) x y:=by rw[KO];rfl
@[simp] theorem ZrF(b:Bool)(x y:Option β):Z4 (.bool b) true x y=ifP (b=true) x y:=by rw[KO];rfl
@[simp] theorem Zqv(b:Bool)(x y:Option β):Z4 (.bool b) false x y=ifP (b=true) y x:=by rw[KO];unfold Z4;cases b<;>rfl
@[simp] theorem ZnZ(w:Bool)(x y:Option β):Z4 Ya w x y=y:=rfl
@[simp high] theorem Zz7(x y:Option β):Jo (.bool true) x y=x:=rfl
@[simp high] theorem Zz4(x y:Option β):Jo (.bool false) x y=y:=rfl
@[simp high] theorem Zux(x y:Option β):Z4 (.bool true) true x y=x:=rfl
@[simp high] theorem Zud(x y:Option β):Z4 (.bool true) false x y=y:=rfl
@[simp high] theorem ZuM(x y:Option β):Z4 (.bool false) true x y=y:=rfl
@[simp high] theorem ZuV(x y:Option β):Z4 (.bool false) false x y=x:=rfl
@[simp ↓] theorem ZyP:Zt O vp lo [] fr h k=k fr h:=rfl
@[simp ↓] theorem Z5(d:Nat)(op:VOp)(r:List VIt):Zt O vp lo (⟨some d,op,none⟩::r) fr h k=ZS O vp lo fr h op (fun v h=>Zt O vp lo r ((d,v)::fr) h k):=by
  unfold Zt ZS;simp only[YM,ZY,put];cases ZM O vp lo fr h op<;>rfl
@[simp ↓] theorem UE(op:VOp)(r:List VIt):Zt O vp lo (⟨none,op,none⟩::r) fr h k=ZS O vp lo fr h op (fun v h=>Zt O vp lo r fr h k):=by
  unfold Zt ZS;simp only[YM,ZY,put];cases ZM O vp lo fr h op<;>rfl
theorem Ql(d:Option Nat)(op:VOp)(t:Nat)(w:Bool)(r:List VIt):Zt O vp lo (⟨d,op,some (t,w)⟩::r) fr h k=
 Z4 (lk fr t) w (ZS O vp lo fr h op (fun v h=>Zt O vp lo r (put fr d v) h k)) (Zt O vp lo r (put fr d Ya) h k):=by
 unfold Zt ZS;simp only[YM,ZY]
 cases lk fr t<;>try rfl
 ·rename_i b;simp only[Z4];split
  ·cases ZM O vp lo fr h op<;>rfl
  ·rfl
 ·rename_i vs;cases vs<;>rfl
@[simp ↓] theorem ZfM(d:Nat)(op:VOp)(t:Nat)(w:Bool)(r:List VIt):Zt O vp lo (⟨some d,op,some (t,w)⟩::r) fr h k=Z4 (lk fr t) w (ZS O vp lo fr h op (fun v h=>Zt O vp lo r ((d,v)::fr) h k)) (Zt O vp lo r ((d,Ya)::fr) h k):=Ql ..
@[simp ↓] theorem Zfy(op:VOp)(t:Nat)(w:Bool)(r:List VIt):Zt O vp lo (⟨none,op,some (t,w)⟩::r) fr h k=Z4 (lk fr t) w (ZS O vp lo fr h op (fun v h=>Zt O vp lo r fr h k)) (Zt O vp lo r fr h k):=Ql ..
@[simp ↓] theorem ZBz(p:Nat)(rs:List Jf):dK O vp lo [] p rs fr h k=k fr h:=rfl
def xlB(ds:List VDt):Bool:=ds.all fun d=>d.xl.isEmpty
theorem Zah: ∀(ds:List VDt) (p:Nat) (rs:List Jf) (fr:Fr) (h:Zg),xlB ds=true→Ui O vp lo ds p rs fr h=YM O vp lo (ds.map (·.it)) fr h
 |[],_,_,_,_,_=>rfl
 |d::ds,p,rs,fr,h,hx=>by
  simp only[xlB,List.all_cons,Bool.and_eq_true,List.isEmpty_iff]at hx
  simp only[Ui,List.map_cons,YM]
  cases ZY O vp lo d.it fr h with
  |none=>rfl
  |some x=>
   simp only[Option.bind_some]
   rw[if_pos (by rw[hx.1];simp)]
   exact Zah ds (p+1) _ _ _ hx.2
def dP(O:Orc)(vp:VP)(lo:Nat)(ds:List VDt)(fr:Fr)(h:Zg)(k:Fr→Zg→Option β):Option β:=Zt O vp lo (ds.map (·.it)) fr h k
theorem ZlJ{O:Orc}{vp:VP}{lo:Nat}{fr:Fr}{h:Zg}{k:Fr→Zg→Option β}{ds:List VDt}{p:Nat}{rs:List Jf}(hx:xlB ds=true):dK O vp lo ds p rs fr h k=dP O vp lo ds fr h k:=by
 unfold dK dP Zt;rw[Zah O vp lo ds p rs fr h hx]
@[simp ↓] theorem ZCF:dP O vp lo [] fr h k=k fr h:=rfl
@[simp ↓] theorem ZA4(d:Nat)(op:VOp)(i b:Nat)(xl:List Nat)(r:List VDt):dP O vp lo (⟨⟨some d,op,none⟩,i,b,xl⟩::r) fr h k=ZS O vp lo fr h op (fun v h=>dP O vp lo r ((d,v)::fr) h k):=Z5 ..
@[simp ↓] theorem ZwV(op:VOp)(i b:Nat)(xl:List Nat)(r:List VDt):dP O vp lo (⟨⟨none,op,none⟩,i,b,xl⟩::r) fr h k=ZS O vp lo fr h op (fun v h=>dP O vp lo r fr h k):=UE ..
@[simp ↓] theorem ZvA(d:Nat)(op:VOp)(t:Nat)(w:Bool)(i b:Nat)(xl:List Nat)(r:List VDt):dP O vp lo (⟨⟨some d,op,some (t,w)⟩,i,b,xl⟩::r) fr h k=Z4 (lk fr t) w (ZS O vp lo fr h op (fun v h=>dP O vp lo r ((d,v)::fr) h k)) (dP O vp lo r ((d,Ya)::fr) h k):=ZfM ..
@[simp ↓] theorem ZuU(op:VOp)(t:Nat)(w:Bool)(i b:Nat)(xl:List Nat)(r:List VDt):dP O vp lo (⟨⟨none,op,some (t,w)⟩,i,b,xl⟩::r) fr h k=Z4 (lk fr t) w (ZS O vp lo fr h op (fun v h=>dP O vp lo r fr h k)) (dP O vp lo r fr h k):=Zfy ..
variable (x y : Z3)
def Yz(v:Option V)(h:Zg)(kv:V→Zg→Option β):Option β:=v.bind fun v=>kv v h
@[simp] theorem ZuL(v:V):Yz (some v) h kv=kv v h:=rfl
@[simp] theorem ZuA:Yz none h kv=none:=rfl
theorem Z0(op:VOp)(he:ZM O vp lo fr h op=(Zf fr op).map fun v=>(v,h)):ZS O vp lo fr h op kv=Yz (Zf fr op) h kv:=by
 unfold ZS Yz;rw[he];cases Zf fr op<;>rfl
@[simp ↓] theorem Zmf:ZS O vp lo fr h (.mv x) kv=KG (opd fr x) h kv:=rfl
def Zbe(c a b:V):Option V:=match c with|.bool c=>some (if c=true then a else b)|_=>none
@[simp] theorem ZtQ(c:Bool)(a b:V):Zbe (.bool c) a b=ifP (c=true) (some a) (some b):=by rw[KO];cases c<;>rfl
@[simp high] theorem ZzN(a b:V):Zbe (.bool true) a b=some a:=rfl
@[simp high] theorem ZzZ(a b:V):Zbe (.bool false) a b=some b:=rfl
@[simp ↓] theorem ZiM(c:Z3):ZS O vp lo fr h (.pick c x y) kv=Yz (Zbe (opd fr c) (opd fr x) (opd fr y)) h kv:=by
  rw[Z0 O vp lo fr h kv _ rfl];rfl
@[simp] theorem ZyB(c:Prop)(a b:Option V):Yz (ifP c a b) h kv=ifP c (Yz a h kv) (Yz b h kv):=by unfold ifP;split<;>rfl
@[simp ↓] theorem Zvx(z:List V)(ps:List (Nat ×Nat ×Z3)):ZS O vp lo fr h (.build z ps) kv=Yz (Zf fr (.build z ps)) h kv:=Z0 O vp lo fr h kv _ rfl
@[simp ↓] theorem Zsk(n:Nat)(ps:List Z3):ZS O vp lo fr h (.buildSl n ps) kv=Yz (Zf fr (.buildSl n ps)) h kv:=Z0 O vp lo fr h kv _ rfl
@[simp ↓] theorem Zlm:ZS O vp lo fr h (.nilchk x) kv=Yz (Zf fr (.nilchk x)) h kv:=Z0 O vp lo fr h kv _ rfl
@[simp ↓] theorem ZhN(op:BinOp):ZS O vp lo fr h (.bin op x y) kv=Yz (Yk op (opd fr x) (opd fr y)) h kv:=Z0 O vp lo fr h kv _ rfl
@[simp ↓] theorem Zxl(nk:NK)(neg:Bool):ZS O vp lo fr h (.isnil nk neg x) kv=Yz ((Ur nk (opd fr x)).map fun b=>.bool (if neg=true then !b else b)) h kv:=Z0 O vp lo fr h kv _ rfl
@[simp ↓] theorem ZC1(neg:Bool)(ks:Option (List EK)):ZS O vp lo fr h (.eq neg ks x y) kv=Yz ((eqV ks (opd fr x) (opd fr y)).map fun b=>.bool (if neg=true then !b else b)) h kv:=Z0 O vp lo fr h kv _ rfl
@[simp ↓] theorem ZvI(op:UnOp):ZS O vp lo fr h (.un op x) kv=Yz (unV op (opd fr x)) h kv:=Z0 O vp lo fr h kv _ rfl
@[simp ↓] theorem ZBi(c:CK):ZS O vp lo fr h (.conv c x) kv=Yz (ZaC c (opd fr x)) h kv:=Z0 O vp lo fr h kv _ rfl
@[simp ↓] theorem ZAh(t:Nat):ZS O vp lo fr h (.mkif t x) kv=KG (.iface t (opd fr x)) h kv:=rfl
@[simp ↓] theorem ZAi(f:Nat)(a b:List Z3):ZS O vp lo fr h (.mkfn f a b) kv=KG (.func f (a.map (opd fr)) (b.map (opd fr))) h kv:=rfl
@[simp ↓] theorem Zzm(n:Nat)(a b c:Option Z3):ZS O vp lo fr h (.slice n x a b c) kv=Yz (Ua n (opd fr x) (a.map (opd fr)) (b.map (opd fr)) (c.map (opd fr))) h kv:=Z0 O vp lo fr h kv _ rfl
@[simp ↓] theorem Zmv(off:Nat):ZS O vp lo fr h (.faddr off x) kv=Yz (Ug (opd fr x) off) h kv:=Z0 O vp lo fr h kv _ rfl
def Zxt(agg:Bool)(n off:Nat)(v:V):Option V:=match v with|.agg cs=>ldc (.agg cs) agg n off|_=>none
@[simp ↓] theorem ZCq(agg:Bool)(n off:Nat):ZS O vp lo fr h (.fld agg n off x) kv=Yz (Zxt agg n off (opd fr x)) h kv:=Z0 O vp lo fr h kv _ rfl
@[simp ↓] theorem ZmM(n:Nat):ZS O vp lo fr h (.iaddr n x y) kv=Yz (Yc n (opd fr x) (opd fr y)) h kv:=Z0 O vp lo fr h kv _ rfl
@[simp ↓] theorem Zuc(l n:Nat):ZS O vp lo fr h (.iaddrA l n x y) kv=Yz (iaddrA l n (opd fr x) (opd fr y)) h kv:=Z0 O vp lo fr h kv _ rfl
@[simp ↓] theorem ZAt:ZS O vp lo fr h (.idxS x y) kv=Yz (idxS (opd fr x) (opd fr y)) h kv:=Z0 O vp lo fr h kv _ rfl
@[simp ↓] theorem Zz2(l n:Nat)(agg:Bool):ZS O vp lo fr h (.idxA l n agg x y) kv=Yz (idxA l n agg (opd fr x) (opd fr y)) h kv:=Z0 O vp lo fr h kv _ rfl
@[simp ↓] theorem Ztx(ty:Nat)(z:V)(ok:Bool):ZS O vp lo fr h (.tassert ty z ok x) kv=Yz (XH ty z ok (opd fr x)) h kv:=Z0 O vp lo fr h kv _ rfl
def Zs2(i:Nat)(v:V):Option V:=match v with|.tup vs=>vs[i]? |_=>none
@[simp] theorem Zzl(i:Nat)(vs:List V):Zs2 i (.tup vs)=vs[i]? :=rfl
@[simp ↓] theorem ZtW(i:Nat):ZS O vp lo fr h (.ext x i) kv=Yz (Zs2 i (opd fr x)) h kv:=Z0 O vp lo fr h kv _ rfl
@[simp ↓] theorem Znk(text:Bool):ZS O vp lo fr h (.len text x) kv=Yz (Zbb text (opd fr x)) h kv:=Z0 O vp lo fr h kv _ rfl
@[simp ↓] theorem ZCV(xs:List Z3):ZS O vp lo fr h (.mn xs) kv=Yz (Vr (fun a b=>if b<a then b else a) (xs.map (opd fr))) h kv:=Z0 O vp lo fr h kv _ rfl
@[simp ↓] theorem ZC6(xs:List Z3):ZS O vp lo fr h (.mx xs) kv=Yz (Vr (fun a b=>if b>a then b else a) (xs.map (opd fr))) h kv:=Z0 O vp lo fr h kv _ rfl
def ZfY(v:V)(h:Zg)(kv:V→Zg→Option β):Option β:=if okV v=true then kv (.ptr h.length 1 0 0) (h++[.arr [v]])else none
theorem ZgH{v v':V}{h:Zg}{kv:V→Zg→Option β}(e:v=v'):ZfY v h kv=ZfY v' h kv:=by rw[e]
attribute [congr] ZgH
@[simp] theorem ZAm{v:V}(hv:okV v=true):ZfY v h kv=KG (.ptr h.length 1 0 0) (h++[.arr [v]]) kv:=by simp[ZfY,hv]
@[simp ↓] theorem Znw(z:V):ZS O vp lo fr h (.alloc z) kv=KG (.ptr h.length 1 0 0) (h++[.arr [z]]) kv:=rfl
@[simp ↓] theorem ZrY:ZS O vp lo fr h (.box x) kv=ZfY (opd fr x) h kv:=by
  unfold ZS ZfY;simp only[ZM];split<;>rfl
@[simp ↓] theorem Zi9(agg:Bool)(n:Nat):ZS O vp lo fr h (.load agg n x) kv=Yz (Yt h agg n (opd fr x)) h kv:=by
  unfold ZS Yz;simp only[ZM];cases Yt h agg n (opd fr x)<;>rfl
@[simp ↓] theorem Zfx(n:Nat):ZS O vp lo fr h (.store n false x y) kv=(Xo lo h n (opd fr x) (opd fr y)).bind fun h=>kv (.tup []) h:=by
  unfold ZS;simp only[ZM,Bool.false_eq_true,if_false];cases Xo lo h n (opd fr x) (opd fr y)<;>rfl
@[simp ↓] theorem ZuB(n:Nat):ZS O vp lo fr h (.store n true x y) kv=(fzV lo h (opd fr y)).bind fun r=>(Xo lo r.2 n (opd fr x) r.1).bind fun h=>kv (.tup []) h:=by
  unfold ZS;simp only[ZM,if_true];cases fzV lo h (opd fr y)with
  |none=>rfl
  |some r=>simp only[Option.bind_some];cases Xo lo r.2 n (opd fr x) r.1<;>rfl
@[simp ↓] theorem ZAQ(z:V)(bytes:Nat):ZS O vp lo fr h (.mksl z bytes x y) kv=(UX h z bytes (opd fr x) (opd fr y)).bind fun r=>kv r.1 r.2:=rfl
@[simp ↓] theorem ZCc(z bytes:Nat):ZS O vp lo fr h (.app z bytes false x y) kv=(Wj h z (opd fr y)).bind fun ns=>(XY lo h z bytes (opd fr x) ns).bind fun r=>kv r.1 r.2:=by
  unfold ZS;simp only[ZM,Bool.false_eq_true,if_false];cases Wj h z (opd fr y)<;>rfl
@[simp ↓] theorem ZA9(z bytes:Nat):ZS O vp lo fr h (.app z bytes true x y) kv=(Wj h z (opd fr y)).bind fun ns=>(fzL lo h ns).bind fun q=>(XY lo q.2 z bytes (opd fr x) q.1).bind fun r=>kv r.1 r.2:=by
  unfold ZS;simp only[ZM,if_true];cases Wj h z (opd fr y)with
  |none=>rfl
  |some ns=>simp only[Option.bind_some];cases fzL lo h ns<;>rfl
@[simp ↓] theorem Zuv(z:Nat):ZS O vp lo fr h (.nilacc z) kv=KG (.gsl h.length 0 z 0 0) (h++[.arr []]) kv:=rfl
def Zl2(v:V)(h:Zg)(kv:V→Zg→Option β):Option β:=match v with|.str s=>kv (.itr h.length) (h++[.iter s 0])|_=>none
theorem ZfP{v v':V}{h:Zg}{kv:V→Zg→Option β}(e:v=v'):Zl2 v h kv=Zl2 v' h kv:=by rw[e]
attribute [congr] ZfP
@[simp] theorem ZxO(s:List UInt8):Zl2 (.str s) h kv=KG (.itr h.length) (h++[.iter s 0]) kv:=rfl
@[simp ↓] theorem ZCE:ZS O vp lo fr h (.rng x) kv=Zl2 (opd fr x) h kv:=by
  unfold ZS Zl2;simp only[ZM];cases opd fr x<;>rfl
@[simp ↓] theorem ZCj:ZS O vp lo fr h (.nxt x) kv=(Ky lo h (opd fr x)).bind fun r=>kv r.1 r.2:=rfl
def YU(O:Orc)(vp:VP)(lo:Nat)(h:Zg)(f:Nat)(args:List V)(kv:V→Zg→Option β):Option β:=(Xp O vp lo h f args).bind fun r=>kv r.1 r.2
@[simp ↓] theorem Zix(f:Nat)(args:List Z3):ZS O vp lo fr h (.call f args) kv=YU O vp lo h f (args.map (opd fr)) kv:=rfl
def Zmh(O:Orc)(vp:VP)(lo:Nat)(h:Zg)(ro:Bool)(f:V)(args:List V)(kv:V→Zg→Option β):Option β:=
 match f with
 |.func f a b=>if ro=true∧U3 vp f=false then none else YU O vp lo h f (a++args++b) kv
 |_=>none
@[simp ↓] theorem Zxb(ro:Bool)(args:List Z3):ZS O vp lo fr h (.calld ro x args) kv=Zmh O vp lo h ro (opd fr x) (args.map (opd fr)) kv:=by
  unfold ZS Zmh;simp only[ZM]
  cases opd fr x<;>try rfl
  simp only;split<;>rfl
@[simp] theorem Zuh(ro:Bool)(f:Nat)(a b args:List V):Zmh O vp lo h ro (.func f a b) args kv=if ro=true∧U3 vp f=false then none else YU O vp lo h f (a++args++b) kv:=rfl
def ZkG(O:Orc)(vp:VP)(lo:Nat)(h:Zg)(m:Nat)(r:V)(args:List V)(kv:V→Zg→Option β):Option β:=
 match r with
 |.iface t v=>(vp.meth t m).bind fun f=>YU O vp lo h f (v::args) kv
 |_=>none
@[simp ↓] theorem ZCJ(m:Nat)(args:List Z3):ZS O vp lo fr h (.inv m x args) kv=ZkG O vp lo h m (opd fr x) (args.map (opd fr)) kv:=by
  unfold ZS ZkG;simp only[ZM]
  cases opd fr x<;>try rfl
  rename_i t v;simp only;cases vp.meth t m<;>rfl
noncomputable def roK (vp:VP) (h:Zg) (f:Nat) (args:List V) (kv:V→Zg→Option β):Option β:=
 (Y4 (Wa h) args).bind fun as=>if Zo 0 as=true then Yz (Zc vp f as) h kv else
   (((orc vp).call f h.length as h).bind fun r=>frz h.length r.2 4 r.1).bind fun v=>kv v h
theorem VN{vp:VP}{f:Nat}{vf:Zi}(hf:vp.fn f=some vf)(hw:vf.rw=false)(hx:vf.ext=none)(lo:Nat)(h:Zg)(args:List V)(kv:V→Zg→Option β):
 YU (orc vp) vp lo h f args kv=roK vp h f args kv:=by
 unfold YU roK Xp
 simp only[hf,hx,hw]
 cases Y4 (Wa h) args with
 |none=>rfl
 |some as=>
  simp only[Option.bind_some]
  by_cases hb:Zo 0 as=true
  ·simp only[hb,if_true,Yz,Zc]
   cases(orc vp).call f 0 as []with
   |none=>rfl
   |some r=>simp only[Option.bind_some];cases frz 0 r.2 4 r.1<;>rfl
  ·simp only[hb]
   cases(orc vp).call f h.length as h with
   |none=>rfl
   |some r=>simp only[Option.bind_some];cases frz h.length r.2 4 r.1<;>rfl
theorem QL{vp:VP}{f:Nat}{vf:Zi}{p:List V→Option V}(hf:vp.fn f=some vf)(hx:vf.ext=some p)(lo:Nat)(h:Zg)(args:List V)(kv:V→Zg→Option β):
 YU (orc vp) vp lo h f args kv=(Y4 (Wa h) args).bind fun as=>Yz (p as) h kv:=by
 unfold YU Xp
 simp only[hf,hx]
 cases Y4 (Wa h) args with
 |none=>rfl
 |some as=>simp only[Option.bind_some,Yz];cases p as<;>rfl
noncomputable def Zg2 (vp:VP) (lo:Nat) (h:Zg) (f:Nat) (args:List V) (kv:V→Zg→Option β):Option β:=((orc vp).call f lo args h).bind fun r=>kv r.1 r.2
theorem ZkA{vp:VP}{f:Nat}{vf:Zi}(hf:vp.fn f=some vf)(hw:vf.rw=true)(hx:vf.ext=none)(ho:vf.own=true)(lo:Nat)(h:Zg)(args:List V)(kv:V→Zg→Option β):
 YU (orc vp) vp lo h f args kv=Zg2 vp lo h f args kv:=by
 unfold YU Zg2 Xp
 simp only[hf,hx,hw,ho,if_true]
 have: ∀r:V ×Zg,WM vp true h r.1 r.2=r:=fun r=>by simp[WM]
 simp only[this]
 cases(orc vp).call f lo args h<;>rfl
noncomputable def rwK (vp:VP) (lo:Nat) (h:Zg) (f:Nat) (args:List V) (kv:V→Zg→Option β):Option β:=((orc vp).call f lo args h).bind fun r=>kv (WM vp false h r.1 r.2).1 (WM vp false h r.1 r.2).2
theorem Jx{vp:VP}{f:Nat}{vf:Zi}(hf:vp.fn f=some vf)(hw:vf.rw=true)(hx:vf.ext=none)(ho:vf.own=false)(lo:Nat)(h:Zg)(args:List V)(kv:V→Zg→Option β):
 YU (orc vp) vp lo h f args kv=rwK vp lo h f args kv:=by
 unfold YU rwK Xp
 simp only[hf,hx,hw,ho,if_true]
 cases(orc vp).call f lo args h<;>rfl
end
section
variable {O : Orc} {vp : VP} {lo : Nat} {fr fr' : Fr} {h h' : Zg} {K : Ex → Fr → Zg → Option β} {k : Fr → Zg → Option β} {kv : V → Zg → Option β}
theorem Zex{c:Zd}(e1:fr=fr')(e2:h=h'):Yv O vp lo c fr h K=Yv O vp lo c fr' h' K:=by rw[e1,e2]
theorem Zhn{c:List VIt}(e1:fr=fr')(e2:h=h'):Zt O vp lo c fr h k=Zt O vp lo c fr' h' k:=by rw[e1,e2]
theorem ZlH{c:List VDt}{p:Nat}{rs:List Jf}(e1:fr=fr')(e2:h=h'):dK O vp lo c p rs fr h k=dK O vp lo c p rs fr' h' k:=by rw[e1,e2]
theorem Zff{op:VOp}(e1:fr=fr')(e2:h=h'):ZS O vp lo fr h op kv=ZS O vp lo fr' h' op kv:=by rw[e1,e2]
theorem Ze1{v v':V}{x y:Option β}(e:v=v'):Jo v x y=Jo v' x y:=by rw[e]
theorem Zcc{v v':V}{w:Bool}{x y:Option β}(e:v=v'):Z4 v w x y=Z4 v' w x y:=by rw[e]
theorem ZfT{v v':Option V}(e:v=v'):Yz v h kv=Yz v' h kv:=by rw[e]
theorem ZeG{f:Nat}{as as':List V}(e2:h=h')(e:as=as'):YU O vp lo h f as kv=YU O vp lo h' f as' kv:=by rw[e2,e]
theorem Zkp{f:Nat}{as as':List V}(e2:h=h')(e:as=as'):roK vp h f as kv=roK vp h' f as' kv:=by rw[e2,e]
theorem ZgJ{f:Nat}{as as':List V}(e2:h=h')(e:as=as'):Zg2 vp lo h f as kv=Zg2 vp lo h' f as' kv:=by rw[e2,e]
theorem Zlz{f:Nat}{as as':List V}(e2:h=h')(e:as=as'):rwK vp lo h f as kv=rwK vp lo h' f as' kv:=by rw[e2,e]
theorem Zg5{ro:Bool}{f f':V}{as as':List V}(e1:h=h')(e2:f=f')(e:as=as'):Zmh O vp lo h ro f as kv=Zmh O vp lo h' ro f' as' kv:=by rw[e1,e2,e]
theorem Zhb{m:Nat}{f f':V}{as as':List V}(e1:h=h')(e2:f=f')(e:as=as'):ZkG O vp lo h m f as kv=ZkG O vp lo h' m f' as' kv:=by rw[e1,e2,e]
theorem ZhZ{N:Fr→Zg→Option β}{ex:Ex}:Zj2 K N ex fr h=Zj2 K N ex fr h:=rfl
theorem ZfO{i:Nat}{ex:Ex}:Zg9 i K ex fr h=Zg9 i K ex fr h:=rfl
end
end
noncomputable def ZbA (vp:VP) (lo:Nat) (ks:List Nat) (body:Zd) (h:Zg) (ex:Ex) (fr1:Fr) (h1:Zg):Option (Ex ×Fr ×Zg):=
 match ex with
 |.nrm=>(orc vp).loop lo ks body (keep ks fr1) (X1 vp h (keep ks fr1) h1)
 |ex=>some (ex,fr1,h1)
theorem Zs5(vp:VP)(lo:Nat)(ks:List Nat)(body:Zd)(fr:Fr)(h:Zg):(orc vp).loop lo ks body fr h=Yv (orc vp) vp lo body fr h (ZbA vp lo ks body h):=by
 rw[ZmP];unfold Y7 Yv
 cases Y2 (orc vp) vp lo body fr h with
 |none=>rfl
 |some r=>obtain⟨ex,fr,h⟩:=r;cases ex<;>rfl
@[simp ↓] theorem Zuw(vp:VP)(lo:Nat)(ks:List Nat)(body:Zd)(h:Zg)(fr1:Fr)(h1:Zg):ZbA vp lo ks body h .nrm fr1 h1=(orc vp).loop lo ks body (keep ks fr1) (X1 vp h (keep ks fr1) h1):=rfl
@[simp ↓] theorem Zus(vp:VP)(lo:Nat)(ks:List Nat)(body:Zd)(h:Zg)(fr1:Fr)(h1:Zg):ZbA vp lo ks body h .ret fr1 h1=some (.ret,fr1,h1):=rfl
@[simp ↓] theorem ZuT(vp:VP)(lo:Nat)(ks:List Nat)(body:Zd)(h:Zg)(i:Nat)(fr1:Fr)(h1:Zg):ZbA vp lo ks body h (.brk i) fr1 h1=some (.brk i,fr1,h1):=rfl
theorem Zbi{vp:VP}{h h1:Zg}{fr:Fr}(hg:vp.gc=true)(hb:Zo h.length (fr.map Prod.snd)=true)(ho:Qx h h1=true):X1 vp h fr h1=h1.take h.length:=by
 simp[X1,hg,hb,ho]
@[simp] theorem Zsg(h:Zg):Qx [] h=true:=nr rfl
@[simp] theorem ZkX(b:Blk)(h h1:Zg):Qx (b::h) h1=UI (h.length+1) (b::h) h1:=nr rfl
@[simp] theorem Zsd(n:Nat)(h:Zg):UI n [] h=true:=nr rfl
@[simp] theorem Ze3(n:Nat)(b b':Blk)(h h1:Zg):UI n (b::h) (b'::h1)=((Q8 b' b||Vg n b')&&UI n h h1):=nr rfl
@[simp] theorem Zq6(es:List V):Q8 (.arr es) (.arr es)=true:=by simp[Q8]
@[simp] theorem ZpV(n:Nat)(es:List V):Vg n (.arr es)=Zo n es:=nr rfl
@[simp] theorem Zn0(n:Nat)(s:List UInt8)(p:Nat):Vg n (.iter s p)=true:=nr rfl
attribute [simp] Zbi
@[simp high] theorem Zr7{vp:VP}{h h1:Zg}{fr:Fr}(hl:h1.length=h.length):X1 vp h fr h1=h1:=KF vp h h1 fr hl
@[simp] theorem Zul(vp:VP)(h:Zg)(fr:Fr):X1 vp h fr h=h:=KF vp h h fr rfl
@[simp] theorem Zty(n:Nat)(v:V)(fr:Fr):lk ((n,v)::fr) n=v:=by simp[lk]
@[simp] theorem ZAA(n t:Nat)(v:V)(fr:Fr)(h:(n==t)=false):lk ((n,v)::fr) t=lk fr t:=by simp at h;simp[lk,h]
@[simp] theorem ZBW(t:Nat):lk [] t=.undef:=rfl
@[simp] theorem ZlT(fr:Fr)(n:Nat):opd fr (.t n)=lk fr n:=rfl
@[simp] theorem ZyI(fr:Fr)(v:V):opd fr (.c v)=v:=rfl
@[simp] theorem ZmD(fr:Fr)(d:Nat)(v:V):put fr (some d) v=(d,v)::fr:=rfl
@[simp] theorem ZaP(fr:Fr)(v:V):put fr none v=fr:=rfl
@[simp] theorem ZwQ(fr:Fr):keep [] fr=[]:=rfl
@[simp] theorem Zut(t:Nat)(ks:List Nat)(fr:Fr):keep (t::ks) fr=(t,lk fr t)::keep ks fr:=rfl
@[simp] theorem ZuQ(n:Nat):Vq n []=[]:=rfl
@[simp] theorem Zsc(n:Nat)(v:V)(l:List V):Vq n (v::l)=(n,v)::Vq (n+1) l:=rfl
@[simp] theorem ZzH:xlB []=true:=nr rfl
@[simp] theorem Zu2(it:VIt)(i b:Nat)(ds:List VDt):xlB (⟨it,i,b,[]⟩::ds)=xlB ds:=by simp[xlB]
def YF(es:List V)(ep:Nat):Option (List V):=if es.length=ep then some es else none
theorem Yr{es:List V}{ep:Nat}(h:es.length=ep):YF es ep=some es:=if_pos h
def XS(h:Zg)(B ep:Nat):Option (List V):=match h[B]? with|some (.arr es)=>YF es ep|_=>none
@[simp] theorem Zgm(es:List V)(h:Zg)(ep:Nat):XS (.arr es::h) 0 ep=YF es ep:=rfl
@[simp] theorem ZhP(b:Blk)(h:Zg)(B ep:Nat):XS (b::h) (B+1) ep=XS h B ep:=by simp[XS]
@[simp] theorem ZrV(e:V):YF [e] 1=some [e]:=rfl
@[simp] theorem Xu(h:Zg)(agg:Bool)(n B ep i o:Nat):Yt h agg n (.ptr B ep i o)=(XS h B ep).bind fun es=>(es[i]?).bind fun e=>ldc e agg n o:=by
  unfold Yt XS YF;simp only
  cases h[B]? with
  |none=>rfl
  |some b=>
   cases b<;>try rfl
   rename_i es;simp only;split<;>rfl
@[simp] theorem ZtD(h:Zg)(agg:Bool)(n o:Nat)(e:V)(t:Tag):Yt h agg n (.eptr e o t)=ldc e agg n o:=rfl
theorem Zhj{lo B:Nat}(hl:lo≤B)(h:Zg)(n ep i o:Nat)(x:V):Xo lo h n (.ptr B ep i o) x=(XS h B ep).bind fun es=>(es[i]?).bind fun e=>(stc e n o x).map fun e=>h.set B (.arr (es.set i e)):=by
 unfold Xo XS YF;simp only[hl,true_and]
 cases h[B]? with
 |none=>rfl
 |some b=>
  cases b<;>try rfl
  rename_i es;simp only;split<;>rfl
@[simp] theorem ZeO(h:Zg)(n B ep i o:Nat)(x:V):Xo 0 h n (.ptr B ep i o) x=(XS h B ep).bind fun es=>(es[i]?).bind fun e=>(stc e n o x).map fun e=>h.set B (.arr (es.set i e)):=Zhj (Nat.zero_le _) _ _ _ _ _ _
def Zan(ep off len:Nat)(es:List V):Option (List V):=if off+len≤ep then some ((es.drop off).take len)else none
@[simp] theorem Zps(h:Zg)(B ep off len:Nat):KK h B ep off len=(XS h B ep).bind (Zan ep off len):=by
  unfold KK XS YF
  cases h[B]? with
  |none=>rfl
  |some b=>
   cases b<;>try rfl
   rename_i es
   by_cases he:es.length=ep
   ·simp[he,Zan]
   ·simp[he]
theorem QQ{len:Nat}{es:List V}(hl:es.length=len):Zan len 0 len es=some es:=by
 subst hl;simp[Zan]
@[simp] theorem ZuC:Zan 0 0 0 []=some []:=rfl
theorem QD{cs:List V}{n:Nat}(h:cs.length=n):ldc (.agg cs) true n 0=some (.agg cs):=by subst h;simp[ldc,V.cells]
theorem Zqk(cs:List V)(n o:Nat)(h:o+n≤cs.length):ldc (.agg cs) true n o=some (.agg ((cs.drop o).take n)):=by simp[ldc,V.cells,h]
@[simp] theorem Zzg(cs:List V)(n o:Nat):ldc (.agg cs) false n o=cs[o]? :=rfl
@[simp] theorem Zw4(b:Bool)(n:Nat):ldc (.bool b) false n 0=some (.bool b):=rfl
@[simp] theorem ZzY(k:IntKind)(b:Int)(n:Nat):ldc (.int k b) false n 0=some (.int k b):=rfl
@[simp] theorem ZzU(s:List UInt8)(n:Nat):ldc (.str s) false n 0=some (.str s):=rfl
@[simp] theorem ZBZ(z:Nat)(es:List V)(t:Tag)(n:Nat):ldc (.sl z es t) false n 0=some (.sl z es t):=rfl
@[simp] theorem ZvF(e:V)(o:Nat)(t:Tag)(n:Nat):ldc (.eptr e o t) false n 0=some (.eptr e o t):=rfl
@[simp] theorem ZAp(B ep i o n:Nat):ldc (.ptr B ep i o) false n 0=some (.ptr B ep i o):=rfl
@[simp] theorem ZAf(B ep z o l n:Nat):ldc (.gsl B ep z o l) false n 0=some (.gsl B ep z o l):=rfl
@[simp] theorem ZuW(n:Nat):ldc .nilp false n 0=some .nilp:=rfl
@[simp] theorem Zxj(n:Nat):ldc .nili false n 0=some .nili:=rfl
@[simp] theorem ZuI(t:Nat)(v:V)(n:Nat):ldc (.iface t v) false n 0=some (.iface t v):=rfl
@[simp] theorem ZwW(f:Nat)(a b:List V)(n:Nat):ldc (.func f a b) false n 0=some (.func f a b):=rfl
theorem Ziy{cs cs':List V}{n:Nat}(h1:cs.length=n)(h2:cs'.length=n):stc (.agg cs) n 0 (.agg cs')=some (.agg cs'):=by
 subst h1;simp[stc,V.cells,okV,h2]
def Vu:V→Bool
 |.agg _|.tup _|.undef=>false
 |_=>true
theorem Vf{cs:List V}{o:Nat}{x:V}(h1:o<cs.length)(h2:Vu x=true):stc (.agg cs) 1 o x=some (.agg (cs.set o x)):=by
 have:x.cells=[x]:=by cases x<;>simp[Vu]at h2<;>rfl
 have ok:okV x=true:=by cases x<;>simp[Vu]at h2<;>rfl
 unfold stc
 rw[this,if_pos ⟨rfl,by simp only[V.cells];omega,ok⟩,List.set_eq_take_append_cons_drop]
 simp[h1]
theorem Zqu{e x:V}(h1:Vu e=true)(h2:Vu x=true):stc e 1 0 x=some x:=by
 cases e<;>simp[Vu]at h1<;>cases x<;>simp[Vu]at h2<;>rfl
section
variable (b : Bool) (ik : IntKind) (n : Int) (s : List UInt8) (cs as : List V) (z o f : Nat) (t : Tag) (v : V)
@[simp] theorem ZAb:Vu (.bool b)=true:=nr rfl
@[simp] theorem ZCI:Vu (.int ik n)=true:=nr rfl
@[simp] theorem ZBG:Vu (.str s)=true:=nr rfl
@[simp] theorem ZCQ:Vu (.sl z cs t)=true:=nr rfl
@[simp] theorem ZBV(B ep len:Nat):Vu (.gsl B ep z o len)=true:=nr rfl
@[simp] theorem Zz8:Vu (.eptr v o t)=true:=nr rfl
@[simp] theorem ZCa(B ep i:Nat):Vu (.ptr B ep i o)=true:=nr rfl
@[simp] theorem ZAU:Vu .nilp=true:=nr rfl
@[simp] theorem ZAc:Vu .nili=true:=nr rfl
@[simp] theorem ZAJ:Vu .nilf=true:=nr rfl
@[simp] theorem Zvg:Vu (.iface z v)=true:=nr rfl
@[simp] theorem ZAo:Vu (.func f cs as)=true:=nr rfl
@[simp] theorem ZCm(B:Nat):Vu (.itr B)=true:=nr rfl
end
theorem Zic(s t:List UInt8):(s==t)=decide (s=t):=by by_cases h:s=t<;>simp[h]
section
variable (k : IntKind) (a b : Int) (s t : List UInt8) (p q : Bool)
@[simp] theorem ZoU:Yk .add (.int k a) (.int k b)=some (.int k (k.wrap (a+b))):=by simp[Yk,W9,X9]
@[simp] theorem ZzS:Yk .sub (.int k a) (.int k b)=some (.int k (k.wrap (a-b))):=by simp[Yk,W9,X9]
@[simp] theorem Zpo:Yk .mul (.int k a) (.int k b)=some (.int k (k.wrap (a*b))):=by simp[Yk,W9,X9]
theorem ZpF(h:b≠0):Yk .quo (.int k a) (.int k b)=some (.int k (k.wrap (a.tdiv b))):=by simp[Yk,W9,X9,h]
theorem Ju(h:b≠0):Yk .rem (.int k a) (.int k b)=some (.int k (a.tmod b)):=by simp[Yk,W9,h]
theorem ZiK:Yk .and (.int k a) (.int k b)=some (.int k (k.wrap (BitVec.ofInt k.bits a&&&BitVec.ofInt k.bits b).toNat)):=by simp[Yk,W9,X9]
theorem ZmG:Yk .or (.int k a) (.int k b)=some (.int k (k.wrap (BitVec.ofInt k.bits a|||BitVec.ofInt k.bits b).toNat)):=by simp[Yk,W9,X9]
theorem ZhW:Yk .andNot (.int k a) (.int k b)=some (.int k (k.wrap (BitVec.ofInt k.bits a&&& ~~~BitVec.ofInt k.bits b).toNat)):=by simp[Yk,W9,X9]
@[simp] theorem Zp2:Yk .eql (.int k a) (.int k b)=some (.bool (decide (a=b))):=by simp[Yk,W9];rfl
@[simp] theorem Zql:Yk .neq (.int k a) (.int k b)=some (.bool (decide (a≠b))):=by simp[Yk,W9];rfl
@[simp] theorem ZAF:Yk .lss (.int k a) (.int k b)=some (.bool (decide (a<b))):=by simp[Yk,W9]
@[simp] theorem ZAP:Yk .leq (.int k a) (.int k b)=some (.bool (decide (a≤b))):=by simp[Yk,W9]
@[simp] theorem ZBg:Yk .gtr (.int k a) (.int k b)=some (.bool (decide (b<a))):=by simp[Yk,W9]
@[simp] theorem ZA1:Yk .geq (.int k a) (.int k b)=some (.bool (decide (b≤a))):=by simp[Yk,W9]
theorem KY{k':IntKind}(h:0≤b):Yk .shl (.int k a) (.int k' b)=some (.int k (k.wrap (a*2^min b.toNat k.bits))):=by
 simp[Yk,JE,X9,Int.not_lt.2 h]
theorem ZoK{k':IntKind}(h:0≤b):Yk .shr (.int k a) (.int k' b)=some (.int k (a.fdiv (2^min b.toNat k.bits))):=by
 simp[Yk,JE,Int.not_lt.2 h]
@[simp] theorem Zvh:Yk .eql (.str s) (.str t)=some (.bool (decide (s=t))):=by simp only[Yk,Ze8,Zic]
@[simp] theorem ZxU:Yk .neq (.str s) (.str t)=some (.bool (!decide (s=t))):=by simp only[Yk,Ze8,Zic]
@[simp] theorem ZBJ:unV .not (.bool p)=some (.bool (!p)):=rfl
@[simp] theorem ZBu:unV .neg (.int k a)=some (.int k (k.wrap (0-a))):=rfl
@[simp] theorem ZnD{k':IntKind}:ZaC (.int k) (.int k' a)=some (.int k (k.wrap a)):=rfl
@[simp] theorem ZAX:ZaC .id (.str s)=some (.str s):=rfl
@[simp] theorem Zwc:ZaC .s2b (.str s)=some (.sl 1 (s.map WC) .perm):=rfl
@[simp] theorem ZuF(B ep i o off:Nat):Ug (.ptr B ep i o) off=some (.ptr B ep i (o+off)):=rfl
@[simp] theorem Zr6(e:V)(o off:Nat)(t:Tag):Ug (.eptr e o t) off=some (.eptr e (o+off) t):=rfl
@[simp] theorem ZAE:Zbb true (.str s)=some (.int .i64 s.length):=rfl
@[simp] theorem ZCl(z:Nat)(es:List V)(t:Tag):Zbb false (.sl z es t)=some (.int .i64 es.length):=rfl
@[simp] theorem ZAk(B ep z off len:Nat):Zbb false (.gsl B ep z off len)=some (.int .i64 len):=rfl
@[simp] theorem Jz(f:Int→Int→Int):Vr f [.int k a,.int k b]=some (.int k (f a b)):=by simp[Vr,Vr.go]
@[simp] theorem ZzK:eqV none (.bool p) (.bool q)=some (p==q):=rfl
@[simp] theorem ZCz(e:V)(o:Nat)(t:Tag):Ur .p (.eptr e o t)=some false:=rfl
@[simp] theorem ZBM(B ep i o:Nat):Ur .p (.ptr B ep i o)=some false:=rfl
@[simp] theorem ZB6:Ur .p .nilp=some true:=rfl
@[simp] theorem ZBT(t:Nat)(v:V):Ur .i (.iface t v)=some false:=rfl
@[simp] theorem ZB2:Ur .i .nili=some true:=rfl
@[simp] theorem ZB0(f:Nat)(x y:List V):Ur .f (.func f x y)=some false:=rfl
@[simp] theorem ZCg:Ur .f .nilf=some true:=rfl
@[simp] theorem ZAz(ty:Nat)(z v:V):XH ty z true (.iface ty v)=some (.tup [v,.bool true]):=by simp[XH]
@[simp] theorem ZAS(ty:Nat)(z v:V):XH ty z false (.iface ty v)=some v:=by simp[XH]
@[simp] theorem ZCh(ty:Nat)(z:V):XH ty z true .nili=some (.tup [z,.bool false]):=rfl
@[simp] theorem ZAw(ty t:Nat)(z v:V)(h:(t==ty)=false):XH ty z true (.iface t v)=some (.tup [z,.bool false]):=by simp at h;simp[XH,h]
@[simp] theorem Zve(agg:Bool)(n off:Nat)(cs:List V):Zxt agg n off (.agg cs)=ldc (.agg cs) agg n off:=rfl
end
def Zh{α:Type}(l:List α)(i:Int):Option α:=if 0≤i then l[i.toNat]? else none
theorem Zm{α:Type}(l:List α)(i:Int):(∃a,0≤i∧i<l.length∧Zh l i=some a)∨((i<0∨(l.length:Int)≤i)∧Zh l i=none):=by
 unfold Zh
 by_cases h:0≤i
 ·rw[if_pos h]
  by_cases h2:i<l.length
  ·left
   have:i.toNat<l.length:=by omega
   exact⟨l[i.toNat],h,h2,by simp[this]⟩
  ·right
   exact⟨.inr (by omega),by rw[List.getElem?_eq_none];omega⟩
 ·rw[if_neg h];right;exact⟨.inl (by omega),rfl⟩
@[simp] theorem Uk{α:Type}(l:List α)(i:Nat):Zh l (i:Int)=l[i]? :=by simp[Zh]
@[simp] theorem Zub{α:Type}(l:List α):Zh l 0=l[0]? :=by simp[Zh]
theorem YH{α β:Type}(f:α→β)(l:List α)(i:Int):Zh (l.map f) i=(Zh l i).map f:=by
 unfold Zh;split<;>simp
theorem Zek(z:Nat)(es:List V)(t:Tag)(k:IntKind)(i:Int):Yc z (.sl z es t) (.int k i)=(Zh es i).map fun e=>.eptr e 0 t:=by
 unfold Yc Zh;by_cases h:0≤i<;>simp[h]
@[simp] theorem Y5{α:Type}(z:Nat)(f:α→V)(l:List α)(t:Tag)(k:IntKind)(i:Int):Yc z (.sl z (l.map f) t) (.int k i)=(Zh l i).map fun e=>.eptr (f e) 0 t:=by
  rw[Zek,YH];cases Zh l i<;>rfl
@[simp] theorem ZuE(len n:Nat)(e:V)(o:Nat)(t:Tag)(k:IntKind)(i:Int)(h0:0≤i)(h1:i<len):iaddrA len n (.eptr e o t) (.int k i)=some (.eptr e (o+i.toNat*n) t):=by
  simp only[iaddrA,h0,h1,and_self,if_true,Ug]
@[simp] theorem Ztl(len n B ep j o:Nat)(k:IntKind)(i:Int)(h0:0≤i)(h1:i<len):iaddrA len n (.ptr B ep j o) (.int k i)=some (.ptr B ep j (o+i.toNat*n)):=by
  simp only[iaddrA,h0,h1,and_self,if_true,Ug]
@[simp] theorem Zvw(s:List UInt8)(k:IntKind)(i:Int):idxS (.str s) (.int k i)=(Zh s i).map WC:=by
  unfold idxS Zh;by_cases h:0≤i<;>simp[h]
noncomputable def ZmX {β:Type} (vp:VP) (h:Zg) (f:Nat) (kv:V→Zg→Option β) (as:Option (List V)):Option β:=
 as.bind fun as=>if Zo 0 as=true then Yz (Zc vp f as) h kv else
  (((orc vp).call f h.length as h).bind fun r=>frz h.length r.2 4 r.1).bind fun v=>kv v h
@[simp ↓] theorem ZB4{β:Type}(vp:VP)(h:Zg)(f:Nat)(as:List V)(kv:V→Zg→Option β):roK vp h f as kv=ZmX vp h f kv (Y4 (Wa h) as):=rfl
theorem Zk8{β:Type}{vp:VP}{h:Zg}{f:Nat}{kv:V→Zg→Option β}{as:List V}(hb:Zo 0 as=true):ZmX vp h f kv (some as)=Yz (Zc vp f as) h kv:=by
 simp[ZmX,hb]
theorem ZhJ{β:Type}{vp:VP}{h:Zg}{f:Nat}{kv:V→Zg→Option β}{as as':Option (List V)}(e:as=as'):ZmX vp h f kv as=ZmX vp h f kv as':=by rw[e]
attribute [congr] ZhJ
attribute [simp] Zk8
theorem XW{f:V→Option V}: ∀(l:List V),(∀v∈l,f v=some v)→Y4 f l=some l
 |[],_=>rfl
 |v::l,h=>by simp[Y4,h v List.mem_cons_self,XW l (fun v hv=>h v (List.mem_cons_of_mem _ hv))]
theorem XJ{n:Nat}: ∀{l:List V},Zo n l=true→∀v∈l,Zk n v=true
 |[],_,v,hv=>by simp at hv
 |x::l,h,v,hv=>by
  simp only[Zo,Bool.and_eq_true]at h
  simp only[List.mem_cons]at hv
  rcases hv with rfl|hv
  ·exact h.1
  ·exact XJ h.2 v hv
theorem V9{h:Zg}{d:Nat}{v:V}(hv:Zk 0 v=true):Ye h d v=some v:=by
 induction d generalizing v with
 |zero=>rfl
 |succ d ih=>
  unfold Ye
  split
  ·rfl
  ·cases v with
   |agg cs=>simp only[Zk]at hv;simp[XW _ (fun v hm=>ih (XJ hv v hm))]
   |func f a b=>
    simp only[Zk,Bool.and_eq_true]at hv
    simp[XW _ (fun v hm=>ih (XJ hv.1 v hm)),XW _ (fun v hm=>ih (XJ hv.2 v hm))]
   |iface t v=>simp only[Zk]at hv;simp[ih hv]
   |gsl=>simp[Zk]at hv
   |ptr=>simp[Zk]at hv
   |_=>rfl
theorem VX{h:Zg}{v:V}(hv:Zk 0 v=true):Wa h v=some v:=V9 hv
theorem Qu(B ep i o:Nat):Ze (.ptr B ep i o)=false:=rfl
theorem Kj(B ep z off len:Nat):Ze (.gsl B ep z off len)=false:=rfl
@[simp] theorem Zj6(h:Zg)(d B ep i o:Nat):Ye h (d+1) (.ptr B ep i o)=(XS h B ep).bind fun es=>(es[i]?).bind fun e=>(Ye h d e).map fun e=>.eptr e o .brw:=by
  conv=>lhs;unfold Ye
  unfold XS YF;simp only[Qu,Bool.false_eq_true,if_false]
  cases h[B]? with
  |none=>rfl
  |some b=>
   cases b<;>try rfl
   rename_i es;simp only;split<;>rfl
@[simp] theorem ZbO(h:Zg)(d B ep z off len:Nat):Ye h (d+1) (.gsl B ep z off len)=(KK h B ep off len).bind fun es=>(Y4 (Ye h d) es).map fun es=>.sl z es .brw:=by
  conv=>lhs;unfold Ye
  simp only[Kj,Bool.false_eq_true,if_false]
@[simp] theorem ZuK(h:Zg)(B ep i o:Nat):Wa h (.ptr B ep i o)=(XS h B ep).bind fun es=>(es[i]?).bind fun e=>(Ye h 3 e).map fun e=>.eptr e o .brw:=Zj6 h 3 B ep i o
@[simp] theorem Zuz(h:Zg)(B ep z off len:Nat):Wa h (.gsl B ep z off len)=(KK h B ep off len).bind fun es=>(Y4 (Ye h 3) es).map fun es=>.sl z es .brw:=ZbO h 3 B ep z off len
theorem Jk{h:Zg}{d:Nat}{l:List V}(hb:Zo 0 l=true):Y4 (Ye h d) l=some l:=XW _ fun v hv=>V9 (XJ hb v hv)
theorem Va{l:List V}(h:Zv l=true): ∀v∈l,Ze v=true:=by
 induction l with
 |nil=>intro v hv;simp at hv
 |cons x l ih=>
  intro v hv
  simp only[Zv,Bool.and_eq_true]at h
  simp only[List.mem_cons]at hv
  rcases hv with rfl|hv
  ·exact h.1
  ·exact ih h.2 v hv
theorem Zlh{h:Zg}{d:Nat}{cs:List V}:Ye h (d+1) (.agg cs)=(Y4 (Ye h d) cs).map .agg:=by
 conv=>lhs;unfold Ye
 split
 ·rename_i hc
  rw[XW cs fun v hv=> ?_];rfl
  have:=Va (by simpa[Ze]using hc) v hv
  cases d<;>simp[Ye,this]
 ·rfl
theorem VY{h:Zg}{d:Nat}{l:List V}(hc:Zv l=true):Y4 (Ye h d) l=some l:=
 XW l fun v hv=>by have:=Va hc v hv;cases d<;>simp[Ye,this]
theorem ZfZ(h:Zg)(d f:Nat)(a b:List V):Ye h (d+1) (.func f a b)=(Y4 (Ye h d) a).bind fun a=>(Y4 (Ye h d) b).map fun b=>.func f a b:=by
 conv=>lhs;unfold Ye
 split
 ·rename_i hc
  simp only[Ze,Bool.and_eq_true]at hc
  rw[VY hc.1,VY hc.2];rfl
 ·rfl
theorem Zej(h:Zg)(d t:Nat)(v:V):Ye h (d+1) (.iface t v)=(Ye h d v).map (.iface t):=by
 conv=>lhs;unfold Ye
 split
 ·rename_i hc
  simp only[Ze]at hc
  cases d<;>simp[Ye,hc]
 ·rfl
def mkO(f:Nat)(a b:Option (List V)):Option V:=a.bind fun a=>b.map fun b=>.func f a b
@[simp] theorem ZyQ(f:Nat)(a b:List V):mkO f (some a) (some b)=some (.func f a b):=rfl
@[simp] theorem ZtR(h:Zg)(f:Nat)(a b:List V):Wa h (.func f a b)=mkO f (Y4 (Ye h 3) a) (Y4 (Ye h 3) b):=ZfZ h 3 f a b
@[simp] theorem Zq7(h:Zg)(t:Nat)(v:V):Wa h (.iface t v)=(Ye h 3 v).map (.iface t):=Zej h 3 t v
@[simp] theorem ZyA(f:V→Option V):Y4 f []=some []:=rfl
def ZqY(a:Option V)(l:Option (List V)):Option (List V):=a.bind fun v=>l.map (v:: ·)
@[simp] theorem ZsS(a:V)(l:List V):ZqY (some a) (some l)=some (a::l):=rfl
@[simp] theorem Zuf(f:V→Option V)(v:V)(l:List V):Y4 f (v::l)=ZqY (f v) (Y4 f l):=rfl
@[simp] theorem Zy5(fr:Fr)(h:Zg)(r:U2):Ub fr h [r]=Xr fr h r:=by
  simp only[Ub,Za4];cases Xr fr h r<;>rfl
@[simp] theorem ZvH(fr:Fr)(h:Zg)(r s:U2):Ub fr h [r,s]=(Xr fr h r).bind fun a=>(Xr fr h s).map fun b=>.tup [a,b]:=by
  simp only[Ub,Za4];cases Xr fr h r<;>cases Xr fr h s<;>rfl
@[simp] theorem ZsC(fr:Fr)(h:Zg)(r s t:U2):Ub fr h [r,s,t]=(Xr fr h r).bind fun a=>(Xr fr h s).bind fun b=>(Xr fr h t).map fun c=>.tup [a,b,c]:=by
  simp only[Ub,Za4];cases Xr fr h r<;>cases Xr fr h s<;>cases Xr fr h t<;>rfl
@[simp] theorem ZuR(fr:Fr)(h:Zg)(r s t u:U2):Ub fr h [r,s,t,u]=(Xr fr h r).bind fun a=>(Xr fr h s).bind fun b=>(Xr fr h t).bind fun c=>(Xr fr h u).map fun d=>.tup [a,b,c,d]:=by
  simp only[Ub,Za4];cases Xr fr h r<;>cases Xr fr h s<;>cases Xr fr h t<;>cases Xr fr h u<;>rfl
@[simp] theorem Zur(fr:Fr)(h:Zg)(t:Nat):Xr fr h (.tmp t)=some (lk fr t):=rfl
@[simp] theorem ZrM(fr:Fr)(h:Zg)(t:Nat)(agg:Bool)(n:Nat):Xr fr h (.cell t agg n)=Yt h agg n (lk fr t):=rfl
@[simp] theorem ZzT(h:Zg)(lo d:Nat)(vs:List V):frz lo h (d+1) (.tup vs)=(Y4 (frz lo h d) vs).map .tup:=by
  unfold frz
  split
  ·rename_i hc
   rw[XW vs fun v hv=>WW (Va (by simpa[Ze]using hc) v hv)];rfl
  ·rfl
theorem KV(h:Zg)(lo d:Nat)(vs:List V):frz lo h (d+1) (.agg vs)=(Y4 (frz lo h d) vs).map .agg:=by
 unfold frz
 split
 ·rename_i hc
  rw[XW vs fun v hv=>WW (Va (by simpa[Ze]using hc) v hv)];rfl
 ·rfl
@[simp] theorem ZuH(h:Zg)(lo d t:Nat)(v:V):frz lo h (d+1) (.iface t v)=(frz lo h d v).map (.iface t):=by
  conv=>lhs;unfold frz
  split
  ·rename_i hc
   rw[WW (by simpa[Ze]using hc)];rfl
  ·rfl
@[simp] theorem Zzz(h:Zg)(d B ep z off len:Nat):frz 0 h (d+1) (.gsl B ep z off len)=(KK h B ep off len).bind fun es=>(Y4 (frz 0 h d) es).map fun es=>.sl z es .perm:=by
  conv=>lhs;unfold frz
  simp only[Kj,Bool.false_eq_true,if_false,Nat.not_lt_zero]
@[simp] theorem ZzP(h:Zg)(d B ep i o:Nat):frz 0 h (d+1) (.ptr B ep i o)=(XS h B ep).bind fun es=>(es[i]?).bind fun e=>(frz 0 h d e).map fun e=>.eptr e o .perm:=by
  conv=>lhs;unfold frz
  simp only[Qu,Bool.false_eq_true,if_false,Nat.not_lt_zero]
  unfold XS YF
  cases h[B]? with
  |none=>rfl
  |some b=>
   cases b<;>try rfl
   rename_i es;simp only;split<;>rfl
theorem Kv{lo d:Nat}{h:Zg}{l:List V}(hc:Zv l=true):Y4 (frz lo h d) l=some l:=XW _ fun v hv=>WW (Va hc v hv)
attribute [simp ↓] ZlJ
attribute [simp] QD WW ZjV VX V9 Jk Kv Ziy Vf Zqu Yr QQ
attribute [simp] V.cells
attribute [congr] Zey Zex Zhn ZlH Zff Ze1 Zcc ZfT ZeG Zkp ZgJ Zlz Zg5 Zhb ZhZ ZfO
def ZrX(rs:List U2)(ex:Ex)(fr:Fr)(h1:Zg):Option (V ×Zg):=
 match ex with
 |.brk _=>none
 |_=>(Ub fr h1 rs).map fun v=>(v,h1)
@[simp ↓] theorem Zzt(rs:List U2)(fr:Fr)(h:Zg):ZrX rs .nrm fr h=(Ub fr h rs).map fun v=>(v,h):=rfl
@[simp ↓] theorem Zzj(rs:List U2)(fr:Fr)(h:Zg):ZrX rs .ret fr h=(Ub fr h rs).map fun v=>(v,h):=rfl
theorem Zaw{vp:VP}{f:Nat}{vf:Zi}(hf:vp.fn f=some vf)(lo:Nat)(args:List V)(h:Zg):
 (orc vp).call f lo args h=Yv (orc vp) vp lo vf.body (Vq 0 args) h (ZrX vf.results):=by
 rw[Zfa]
 unfold Xm Yv
 simp only[hf,Option.bind_some]
 cases Y2 (orc vp) vp lo vf.body (Vq 0 args) h with
 |none=>rfl
 |some r=>obtain⟨ex,fr,h⟩:=r;cases ex<;>rfl
@[simp] theorem ZkP(h t:Zg)(n ep:Nat):XS (h++t) (h.length+n) ep=XS t n ep:=by
  unfold XS;rw[List.getElem?_append_right (by omega)];simp
@[simp] theorem Zt6(h t:Zg)(ep:Nat):XS (h++t) h.length ep=XS t 0 ep:=ZkP h t 0 ep
@[simp] theorem Zol(h t:Zg)(n:Nat)(b:Blk):(h++t).set (h.length+n) b=h++t.set n b:=by
  rw[List.set_append_right _ _ (by omega)];simp
@[simp] theorem Zx6(h t:Zg)(b:Blk):(h++t).set h.length b=h++t.set 0 b:=Zol h t 0 b
theorem KQ{lo z bytes B ep:Nat}{es ns:List V}{h:Zg}(hg:h[B]? =some (.arr es))(hep:es.length=ep)(hlo:lo≤B)(hn:ns.isEmpty=false)(hr:(ep+ns.length)*bytes≤YB):
 XY lo h z bytes (.gsl B ep z 0 ep) ns=some (.gsl B (ep+ns.length) z 0 (ep+ns.length),h.set B (.arr (es++ns))):=by
 subst hep;simp[XY,hg,hlo,hn,hr]
def roB(vp:VP)(M K:Nat):Bool:=Nat.blt M (2^K)&&(List.range K).all fun f=> !(M>>>f%2==1)||(match vp.fn f with|some vf=> !vf.rw&&vf.ext.isNone|none=>false)
theorem Zm0{vp:VP}{M K:Nat}(ht:roB vp M K=true){f:Nat}(h:M>>>f%2=1): ∃vf,vp.fn f=some vf∧vf.rw=false∧vf.ext=none:=by
 simp only[roB,Bool.and_eq_true,Nat.blt_eq]at ht
 have hf:f<K:=by
  rcases Nat.lt_or_ge f K with k|k
  ·exact k
  ·rw[Nat.shiftRight_eq_div_pow,Nat.div_eq_of_lt (Nat.lt_of_lt_of_le ht.1 (Nat.pow_le_pow_right (by decide) k))]at h
   simp at h
 have:=List.all_eq_true.1 ht.2 f (List.mem_range.2 hf)
 rw[h]at this
 cases hv:vp.fn f with
 |none=>simp[hv]at this
 |some vf=>exact⟨vf,rfl,by simpa[hv]using this⟩
theorem ZkC{β:Type}{vp:VP}{M K:Nat}(ht:roB vp M K=true){f:Nat}(h:M>>>f%2=1)(lo:Nat)(hp:Zg)(args:List V)(kv:V→Zg→Option β):
 YU (orc vp) vp lo hp f args kv=roK vp hp f args kv:=by
 obtain⟨vf,a,b,c⟩:=Zm0 ht h;exact VN a b c ..
theorem Zmr{vp:VP}{M K:Nat}(ht:roB vp M K=true){f:Nat}(h:M>>>f%2=1):U3 vp f=true:=by
 obtain⟨vf,a,b,c⟩:=Zm0 ht h;simp[U3,a,b]
theorem Zw{vp:VP}(l:Zd)(lo:Nat)(h:Zg)(ks:List Nat)(fr:Fr):(orc vp).loop lo ks l fr h=Yv (orc vp) vp lo l fr h (ZbA vp lo ks l h):=Zs5 ..
end Go.VE
