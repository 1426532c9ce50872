/- Joined texts: VeCode, VeTab, VeSym. No condition: what each theorem needs stands in it. -/
import Derived.Test.YtieifgngaaccmaaGreatVa3
import Derived.KernelRfl
namespace Go.VE
set_option linter.unnecessarySimpa false
open Classical
def toExit:Ex→Exit
 |.nrm=>.normal
 |.brk i=>.exit i
 |.ret=>.ret
def Post(T:Tbl)(lo:Nat)(G0:Gh)(h0:Heap)(w0:World)(nt:Nat)(r:Ex ×Fr ×Heap)(e:Exit)(a:Act)(w:World):Prop:=
 e=toExit r.1∧St T lo G0 h0 w0 nt r.2.1 r.2.2 a w
section
variable {P : Program} {T : Tbl} {vp : VP} {G : Gh} {w : World} {lo : Nat} {h : Heap} {G0 : Gh} {w0 : World} {h0 : Heap}
def SoundLoop(P:Program)(T:Tbl)(vp:VP)(n:Nat):Prop:=
 ∀lo ks body c nt fr h r,(orcN vp n).loop lo ks body fr h=some r→chkCode P T vp nt c body=true→∀G0 h0 w0 a w,St T lo G0 h0 w0 nt fr h a w→Code.rounds P c (Post T lo G0 h0 w0 nt r) n a w
theorem lk_below{n:Nat}: ∀{fr:Fr},belowL n (fr.map Prod.snd)=true→∀t,belowB n (lk fr t)=true
 |[],_,t=>rfl
 |(k,v)::fr,hh,t=>by
  simp only[List.map_cons,belowL,Bool.and_eq_true]at hh
  simp only[lk]
  split
  ·exact hh.1
  ·exact lk_below hh.2 t
theorem gc_loop(hi:HInv T G lo h w){fr1:Fr}{h1:Heap}{G1:Gh}{w1:World}{tmps:Array Value}(hf:FInv T G1 fr1 tmps)(hi1:HInv T G1 lo h1 w1)(st:Stp lo G h w G1 h1 w1):
 ∃G2,FInv T G2 fr1 tmps∧HInv T G2 lo (gcLoop vp h fr1 h1) w1∧Stp lo G h w G2 (gcLoop vp h fr1 h1) w1:=by
 unfold gcLoop
 split
 ·rename_i hc0
  simp only[Bool.and_eq_true]at hc0
  have hc:belowL h.length (fr1.map Prod.snd)=true∧okOld h h1:=⟨hc0.1.2,okOldB_ok hc0.2⟩
  refine⟨G1.drop lo h.length h1 w1 G1.Gb,fun t=> ?_,drop_blocks hi1 st.mono.1 hi.llo (old_below hi st hc.2),drop_stp hi st hi1 st.mono.1⟩
  refine R.under (n:=h.length) (fun b off v e=>drop_gp hi1 e) (fun _ _ _ e=>e) (fun B ep g hB e=> ?_) (fun B r hB e=> ?_) (Nat.le_refl _) (hf t) (lk_below hc.1 t)
  ·show(if B<h.length then G1.sg B ep else none)=some g
   rw[if_pos hB];exact e
  ·show(if B<h.length then G1.io B else none)=some r
   rw[if_pos hB];exact e
 ·exact⟨G1,hf,hi1,st⟩
theorem St.keep{nt:Nat}{fr:Fr}{a:Act}(hs:St T lo G0 h0 w0 nt fr h a w)(ks:List Nat):St T lo G0 h0 w0 nt (VE.keep ks fr) h a w:=by
 obtain⟨G,s1,s2,s3,s4,s5⟩:=hs
 exact⟨G,s1.keep ks,s2,s3,s4,s5⟩
theorem exec_ok(tied:Tied P T vp){n:Nat}(ih:SoundCall P T vp n)(il:SoundLoop P T vp n): ∀(c:Code) (v:VCode) {nt:Nat} {fr:Fr} {h:Heap} {r:Ex ×Fr ×Heap} {a:Act} {w:World} {G0:Gh} {h0:Heap} {w0:World},
 chkCode P T vp nt c v=true→exec (orcN vp n) vp lo v fr h=some r→St T lo G0 h0 w0 nt fr h a w→c.wp P (Post T lo G0 h0 w0 nt r) a w:=by
 intro c v
 induction v generalizing c with
 |skip=>
  intro nt fr h r a w G0 h0 w0 hc e hs
  cases c<;>simp[chkCode]at hc
  simp only[exec,Option.some.injEq]at e
  subst e
  exact wp_skip ⟨rfl,hs⟩
 |reg its ks=>
  intro nt fr h r a w G0 h0 w0 hc e hs
  cases c with
  |region id ops draw=>
   cases draw with
   |false=>
    simp only[exec,Option.map_eq_some_iff]at e
    obtain⟨x,hx,rfl⟩:=e
    have hc:chkIts P T ops nt ops.toList its=true:=hc
    exact region_ok tied ih hc hx hs fun a w s=>⟨rfl,s.keep ks⟩
   |true=>exact absurd hc (by simp[chkCode])
  |_=>exact absurd hc (by simp[chkCode])
 |drw ds ks=>
  intro nt fr h r a w G0 h0 w0 hc e hs
  cases c with
  |region id ops draw=>
   cases draw with
   |true=>
    simp only[exec,Option.map_eq_some_iff]at e
    obtain⟨x,hx,rfl⟩:=e
    have hc:drawOK P T vp ops nt ds=true:=hc
    exact draw_ok tied ih hc hx hs fun a w s=>⟨rfl,s.keep ks⟩
   |false=>exact absurd hc (by simp[chkCode])
  |_=>exact absurd hc (by simp[chkCode])
 |seq v1 v2 ih1 ih2=>
  intro nt fr h r a w G0 h0 w0 hc e hs
  cases c<;>simp only[chkCode,Bool.false_eq_true]at hc
  rename_i c1 c2
  simp only[Bool.and_eq_true]at hc
  simp only[exec,Option.bind_eq_some_iff]at e
  obtain⟨x,hx,e⟩:=e
  refine wp_seq (wp_mono (ih1 c1 hc.1 hx hs) fun ex a' w' ⟨q1,q2⟩=> ?_)
  obtain⟨ex1,fr1,h1⟩:=x
  subst q1
  cases ex1 with
  |nrm=>exact ih2 c2 hc.2 e q2
  |brk i=>simp only[Option.some.injEq]at e;subst e;exact⟨rfl,q2⟩
  |ret=>simp only[Option.some.injEq]at e;subst e;exact⟨rfl,q2⟩
 |cond y v1 v2 ih1 ih2=>
  intro nt fr h r a w G0 h0 w0 hc e hs
  cases c<;>simp only[chkCode,Bool.false_eq_true]at hc
  rename_i x c1 c2
  simp only[Bool.and_eq_true]at hc
  simp only[exec]at e
  split at e
  ·rename_i b hb
   obtain⟨G,s1,s2,s3,s4,s5⟩:=id hs
   have hR:=chkOpd_R s1 hc.1.1
   rw[hb]at hR
   have hv:=hR.bool_inv
   split at e
   ·rename_i hbt
    exact wp_cond hv (by rw[if_pos hbt];exact ih1 c1 hc.1.2 e hs)
   ·rename_i hbt
    exact wp_cond hv (by rw[if_neg hbt];exact ih2 c2 hc.2 e hs)
  ·simp at e
 |blk id v1 ih1=>
  intro nt fr h r a w G0 h0 w0 hc e hs
  cases c<;>simp only[chkCode,Bool.false_eq_true]at hc
  rename_i id' c1
  simp only[Bool.and_eq_true,beq_iff_eq]at hc
  obtain⟨rfl,hc⟩:=hc
  simp only[exec,Option.map_eq_some_iff]at e
  obtain⟨x,hx,e⟩:=e
  refine wp_block (wp_mono (ih1 c1 hc hx hs) fun ex a' w' ⟨q1,q2⟩=> ?_)
  obtain⟨ex1,fr1,h1⟩:=x
  subst q1
  cases ex1 with
  |nrm=>simp only at e;subst e;exact⟨rfl,q2⟩
  |brk i=>
   simp only at e
   simp only[toExit,Exit.inBlock]
   split
   ·rename_i hid
    rw[if_pos hid]at e;subst e;exact⟨rfl,q2⟩
   ·rename_i hid
    rw[if_neg hid]at e;subst e;exact⟨rfl,q2⟩
  |ret=>simp only at e;subst e;exact⟨rfl,q2⟩
 |loop ks v1 ih1=>
  intro nt fr h r a w G0 h0 w0 hc e hs
  cases c<;>simp only[chkCode,Bool.false_eq_true]at hc
  rename_i c1
  simp only[exec]at e
  exact wp_loop_rounds n (il _ _ _ _ _ _ _ _ e hc _ _ _ _ _ (hs.keep ks))
 |exit id=>
  intro nt fr h r a w G0 h0 w0 hc e hs
  cases c<;>simp[chkCode]at hc
  subst hc
  simp only[exec,Option.some.injEq]at e
  subst e
  exact wp_exit ⟨rfl,hs⟩
 |ret=>
  intro nt fr h r a w G0 h0 w0 hc e hs
  cases c<;>simp[chkCode]at hc
  simp only[exec,Option.some.injEq]at e
  subst e
  exact wp_ret ⟨rfl,hs⟩
theorem lk_parms: ∀(vs:List V) (n t:Nat),lk (parms n vs) t=if n≤t then(vs[t-n]?).getD .undef else .undef
 |[],n,t=>by simp[parms,lk]
 |v::vs,n,t=>by
  simp only[parms,lk]
  split
  ·rename_i hh;subst hh;simp
  ·rename_i hh
   rw[lk_parms vs (n+1) t]
   by_cases h1:n+1≤t
   ·rw[if_pos h1,if_pos (by omega)]
    have:t-n=(t-(n+1))+1:=by omega
    rw[this];simp
   ·rw[if_neg h1,if_neg (by omega)]
theorem parms_R{vs:List V}{as:Array Value}(hR:RA T G vs as)(k:Nat):FInv T G (parms 0 vs) (as++Array.replicate k undef):=by
 intro t
 rw[lk_parms,if_pos (Nat.zero_le _),Nat.sub_zero]
 cases hv:vs[t]? with
 |none=>exact .undef _
 |some v=>
  have hlt:t<as.size:=by rw[←hR.1];exact(List.getElem?_eq_some_iff.1 hv).1
  have hg:(as++Array.replicate k undef).getD t undef=as[t]:=by
   rw[Array.getD_eq_getD_getElem?,Array.getElem?_append_left hlt];simp[hlt]
  rw[hg]
  exact hR.2 t v _ hv (by simp[hlt])
def resOne(tmps:Array Value):ResultVar→Sem Value
 |.tmp t=>pure (tmps.getD t undef)
 |.cell a t=>do loadVar t (←asAddr (tmps.getD a undef))
theorem res_ok(hi:HInv T G lo h w){fr:Fr}{tmps:Array Value}(hf:FInv T G fr tmps): ∀(l:List ResultVar) (r:List VRes) (vs:List V),chkRes P l r=true→resL fr h r=some vs→∃rs:List Value,(l.mapM (resOne tmps)).run P w=.ok rs w∧vs.length=rs.length∧∀(i:Nat) (v:V) (rv:Value),vs[i]? =some v→rs[i]? =some rv→R T G v rv
 |[],[],vs,hc,e=>by
  simp[resL]at e;subst e
  exact⟨[],by simp,rfl,by simp⟩
 |[],_::_,_,hc,_=>by simp[chkRes]at hc
 |.tmp _::_,[],_,hc,_=>by simp[chkRes]at hc
 |.cell _ _::_,[],_,hc,_=>by simp[chkRes]at hc
 |.tmp t::l,.tmp t'::r,vs,hc,e=>by
  simp only[chkRes,Bool.and_eq_true,beq_iff_eq]at hc
  obtain⟨rfl,hc⟩:=hc
  simp only[resL,resV1,Option.bind_some,Option.map_eq_some_iff]at e
  obtain⟨vs',e,rfl⟩:=e
  obtain⟨rs,r1,r2,r3⟩:=res_ok hi hf l r vs' hc e
  refine⟨tmps.getD t undef::rs,by simp only[List.mapM_cons,Sem.run_bind,resOne,Sem.run_pure,Result.andThen_ok,r1],by simp[r2],fun i v rv e1 e2=> ?_⟩
  cases i with
  |zero=>simp at e1 e2;subst e1;rw[←e2];have:=hf t;simpa using this
  |succ i=>exact r3 i v rv (by simpa using e1) (by simpa using e2)
 |.tmp t::l,.cell _ _ _::r,vs,hc,e=>by simp[chkRes]at hc
 |.cell _ _::l,.tmp _::r,vs,hc,e=>by simp[chkRes]at hc
 |.cell x t::l,.cell x' agg n::r,vs,hc,e=>by
  simp only[chkRes,Bool.and_eq_true,beq_iff_eq]at hc
  obtain⟨⟨⟨rfl,ha⟩,hs⟩,hc⟩:=hc
  simp only[resL,resV1,Option.bind_eq_some_iff,Option.map_eq_some_iff]at e
  obtain⟨v,hv,vs',e,rfl⟩:=e
  obtain⟨rs,r1,r2,r3⟩:=res_ok hi hf l r vs' hc e
  obtain⟨rv,ad,k1,k2,k3⟩:=loadV_run (P:=P) hi ha (fun hagg=>by rw[hagg]at hs;simpa using hs) hv (hf x)
  refine⟨rv::rs,?_,by simp[r2],fun i v' rv' e1 e2=> ?_⟩
  ·simp only[List.mapM_cons,Sem.run_bind,resOne,k1,asAddr,Sem.run_pure,Result.andThen_ok,k2,r1]
  ·cases i with
   |zero=>simp at e1 e2;subst e1;subst e2;exact k3
   |succ i=>exact r3 i v' rv' (by simpa using e1) (by simpa using e2)
theorem results_ok(hi:HInv T G lo h w){fr:Fr}{tmps:Array Value}(hf:FInv T G fr tmps){fn:Func}{r:List VRes}{v:V}(hc:chkRes P fn.results.toList r=true)(e:resV fr h r=some v):
 ∃rv,(results fn tmps).run P w=.ok rv w∧R T G v rv:=by
 simp only[resV,Option.map_eq_some_iff]at e
 obtain⟨vs,hv,e⟩:=e
 obtain⟨rs,r1,r2,r3⟩:=res_ok hi hf _ _ _ hc hv
 have hm:(fn.results.mapM (resOne tmps)).run P w=.ok rs.toArray w:=by
  rw[Array.mapM_eq_mapM_toList]
  simp only[Sem.run_map,r1,Result.andThen_ok]
 have hres:results fn tmps=(do let vs←fn.results.mapM (resOne tmps);pure (if h:vs.size=1 then vs[0]else .tuple vs)):=by
  unfold results
  congr
 have hm2:(results fn tmps).run P w=.ok (if h:rs.toArray.size=1 then rs.toArray[0]else .tuple rs.toArray) w:=by
  rw[hres]
  simp only[Sem.run_bind,hm,Result.andThen_ok,Sem.run_pure]
 refine⟨_,hm2,?_⟩
 cases vs with
 |nil=>
  cases rs with
  |nil=>subst e;exact .tup [] #[] rfl (by simp)
  |cons x rs=>simp at r2
 |cons y vs=>
  cases rs with
  |nil=>simp at r2
  |cons x rs=>
   cases vs with
   |nil=>
    cases rs with
    |nil=>subst e;exact r3 0 _ _ rfl rfl
    |cons x' rs=>simp at r2
   |cons y' vs=>
    subst e
    rw[dif_neg (by cases rs with|nil=>simp at r2|cons x' rs=>simp)]
    exact .tup (y::y'::vs) (x::rs).toArray (by simpa using r2) (fun i v rv e1 e2=>r3 i v rv e1 (by simpa using e2))
theorem sound(tied:Tied P T vp): ∀n,SoundCall P T vp n∧SoundLoop P T vp n
 |0=>⟨fun f vf lo vs h r h' _ _ e=>absurd e (by simp[orcN]),fun lo ks body c nt fr h r e=>absurd e (by simp[orcN])⟩
 |n+1=>by
  obtain⟨ih,il⟩:=sound tied n
  refine⟨fun f vf lo vs h r h' hv hx e G w fid as hf hi hR=> ?_,fun lo ks body c nt fr h r e hc G0 h0 w0 a w hs=> ?_⟩
  ·obtain⟨fid',fn,hf',hfn,hck⟩:=tied.fn f vf hv hx
   rw[hf]at hf';simp only[Option.some.injEq]at hf';subst hf'
   obtain⟨c,hb,hnm,hcode,hres⟩:=chkFunc_body hck
   have e':stepCall (orcN vp n) vp f lo vs h=some (r,h'):=e
   simp only[stepCall,hv,Option.bind_some,Option.bind_eq_some_iff]at e'
   obtain⟨x,hxx,e'⟩:=e'
   refine calls_of_wp hfn hb ?_
   have hs:St T lo G h w fn.ntmps (parms 0 vs) h {tmps:=as++Array.replicate (fn.ntmps-as.size) undef,defers:=[]} w:=
    ⟨G,parms_R hR _,hi,.refl _ _ _ _,rfl,by simp;omega⟩
   refine wp_mono (exec_ok tied ih il c vf.body hcode hxx hs) fun ex a' w' ⟨q1,q2⟩=> ?_
   obtain⟨ex1,fr1,h1⟩:=x
   obtain⟨G1,s1,s2,s3,s4,s5⟩:=q2
   have fin:(resV fr1 h1 vf.results).map (fun v=>(v,h1))=some (r,h')→a'.defers=[]∧∃v,(results fn a'.tmps).run P w'=.ok v w'∧Back T lo G h w r h' (.returned v) w':=by
    intro e'
    simp only[Option.map_eq_some_iff,Prod.mk.injEq]at e'
    obtain⟨v,hv,rfl,rfl⟩:=e'
    obtain⟨rv,k1,k2⟩:=results_ok s2 s1 hres hv
    exact⟨s4,rv,k1,rv,G1,rfl,k2,s2,s3⟩
   subst q1
   cases ex1 with
   |nrm=>exact fin e'
   |brk i=>simp at e'
   |ret=>exact fin e'
  ·have e':stepLoop (orcN vp n) vp lo ks body fr h=some r:=e
   simp only[stepLoop,Option.bind_eq_some_iff]at e'
   obtain⟨x,hxx,e'⟩:=e'
   obtain⟨G,s1,s2,s3,s4,s5⟩:=hs
   rw[rounds_succ]
   refine wp_mono (exec_ok tied ih il c body hc hxx (G0:=G) (h0:=h) (w0:=w) ⟨G,s1,s2,.refl _ _ _ _,s4,s5⟩) fun ex a' w' ⟨q1,q2⟩=> ?_
   obtain⟨ex1,fr1,h1⟩:=x
   obtain⟨G1,t1,t2,t3,t4,t5⟩:=q2
   subst q1
   cases ex1 with
   |nrm=>
    simp only at e'
    obtain⟨G2,u1,u2,u3⟩:=gc_loop (vp:=vp) s2 (t1.keep ks) t2 t3
    exact il _ _ _ _ _ _ _ _ e' hc _ _ _ _ _ ⟨G2,u1,u2,s3.trans u3,t4,t5⟩
   |brk i=>simp only[Option.some.injEq]at e';subst e';exact⟨rfl,G1,t1,t2,s3.trans t3,t4,t5⟩
   |ret=>simp only[Option.some.injEq]at e';subst e';exact⟨rfl,G1,t1,t2,s3.trans t3,t4,t5⟩
theorem callF_ok(tied:Tied P T vp){f:Nat}{vf:VFunc}(hv:vp.fn f=some vf)(hx:vf.ext=none){vs:List V}{r:V}{h':Heap}(e:callF vp f lo vs h=some (r,h'))(hi:HInv T G lo h w){fid:FuncId}(hf:T.fid f=some fid)
 {as:Array Value} (hR:RA T G vs as):Calls P fid as w (Back T lo G h w r h'):=by
 obtain⟨n,hn⟩:=orc_call_some e
 exact(sound tied n).1 f vf lo vs h r h' hv hx hn G w fid as hf hi hR
end
end Go.VE
namespace Go.VE
inductive Tree (α:Type) where
 |leaf
 |node (l:Tree α) (k:Nat) (v:α) (r:Tree α)
def Tree.get{α:Type}:Tree α→Nat→Option α
 |.leaf,_=>none
 |.node l k v r,n=>if Nat.blt n k then l.get n else if Nat.blt k n then r.get n else some v
def Tree.toList{α:Type}:Tree α→List (Nat ×α)
 |.leaf=>[]
 |.node l k v r=>l.toList++(k,v)::r.toList
theorem Tree.get_mem{α:Type}{n:Nat}{v:α}: ∀{t:Tree α},t.get n=some v→(n,v)∈t.toList
 |.leaf,h=>by simp[Tree.get]at h
 |.node l k x r,h=>by
  simp only[Tree.get]at h
  simp only[Tree.toList,List.mem_append,List.mem_cons]
  split at h
  ·exact .inl (get_mem h)
  ·rename_i h1
   split at h
   ·exact .inr (.inr (get_mem h))
   ·rename_i h2
    have e:n=k:=by
     simp only[Nat.blt_eq]at h1 h2
     omega
    simp only[Option.some.injEq]at h
    exact .inr (.inl (by rw[e,h]))
def Tree.all{α:Type}(p:Nat→α→Bool):Tree α→Bool
 |.leaf=>true
 |.node l k v r=>p k v&&l.all p&&r.all p
end Go.VE
namespace Go.VE
theorem nr{α:Type}{a b:α}(h:a=b):a=b:=h
noncomputable def callRO (vp:VP) (f:Nat) (args:List V):Option V:=
 ((orc vp).call f 0 args []).bind fun r=>frz 0 r.2 4 r.1
def fin(rs:List VRes)(r:Ex ×Fr ×Heap):Option V:=
 match r with
 |(.brk _,_,_)=>none
 |(_,fr,h1)=>(resV fr h1 rs).bind fun v=>frz 0 h1 4 v
theorem callRO_eq{vp:VP}{f:Nat}{vf:VFunc}(hf:vp.fn f=some vf)(args:List V):
 callRO vp f args=(exec (orc vp) vp 0 vf.body (parms 0 args) []).bind (fin vf.results):=by
 unfold callRO
 rw[orc_call]
 unfold stepCall
 simp only[hf,Option.bind_some]
 cases exec (orc vp) vp 0 vf.body (parms 0 args) []with
 |none=>rfl
 |some r=>
  obtain⟨ex,fr,h⟩:=r
  cases ex<;>simp only[Option.bind_some,fin,Option.bind_none]
  all_goals cases resV fr h vf.results<;>rfl
theorem obind_congr{α β:Type}{o o':Option α}{f:α→Option β}(h:o=o'):o.bind f=o'.bind f:=by rw[h]
theorem closed_frz{lo d:Nat}{h:Heap}{v:V}(hc:closedB v=true):frz lo h d v=some v:=by
 cases d<;>simp[frz,hc]
theorem closed_fz{lo:Nat}{h:Heap}{v:V}(hc:closedB v=true):fzV lo h v=some (v,h):=by
 cases v<;>simp[fzV,hc]
 ·intro h1;simp[closedB]at hc;rw[hc]at h1;simp at h1
 ·simp[closedB]at hc
theorem gcLoop_same(vp:VP)(h h1:Heap)(fr:Fr)(hl:h1.length=h.length):gcLoop vp h fr h1=h1:=by
 unfold gcLoop;split
 ·rw[List.take_of_length_le (by omega)]
 ·rfl
section
variable (k : Nat) (b : Bool) (ik : IntKind) (n : Int) (s : List UInt8) (cs as : List V) (z o f : Nat) (t : Tag) (v : V)
@[simp] theorem cb_bool:closedB (.bool b)=true:=nr rfl
@[simp] theorem cb_int:closedB (.int ik n)=true:=nr rfl
@[simp] theorem cb_str:closedB (.str s)=true:=nr rfl
@[simp] theorem cb_nilp:closedB .nilp=true:=nr rfl
@[simp] theorem cb_nilf:closedB .nilf=true:=nr rfl
@[simp] theorem cb_nili:closedB .nili=true:=nr rfl
@[simp] theorem cb_nilm:closedB .nilm=true:=nr rfl
@[simp] theorem cb_undef:closedB .undef=true:=nr rfl
@[simp] theorem cb_agg:closedB (.agg cs)=closedL cs:=nr rfl
@[simp] theorem cb_tup:closedB (.tup cs)=closedL cs:=nr rfl
@[simp] theorem cb_iface:closedB (.iface z v)=closedB v:=nr rfl
@[simp] theorem cb_func:closedB (.func f cs as)=(closedL cs&&closedL as):=nr rfl
@[simp] theorem cl_nil:closedL []=true:=nr rfl
@[simp] theorem cl_cons:closedL (v::cs)=(closedB v&&closedL cs):=nr rfl
@[simp] theorem bb_bool:belowB k (.bool b)=true:=nr rfl
@[simp] theorem bb_int:belowB k (.int ik n)=true:=nr rfl
@[simp] theorem bb_str:belowB k (.str s)=true:=nr rfl
@[simp] theorem bb_nilp:belowB k .nilp=true:=nr rfl
@[simp] theorem bb_nilf:belowB k .nilf=true:=nr rfl
@[simp] theorem bb_nili:belowB k .nili=true:=nr rfl
@[simp] theorem bb_nilm:belowB k .nilm=true:=nr rfl
@[simp] theorem bb_undef:belowB k .undef=true:=nr rfl
@[simp] theorem bb_agg:belowB k (.agg cs)=belowL k cs:=nr rfl
@[simp] theorem bb_tup:belowB k (.tup cs)=belowL k cs:=nr rfl
@[simp] theorem bb_sl:belowB k (.sl z cs t)=belowL k cs:=nr rfl
@[simp] theorem bb_eptr:belowB k (.eptr v o t)=belowB k v:=nr rfl
@[simp] theorem bb_iface:belowB k (.iface z v)=belowB k v:=nr rfl
@[simp] theorem bb_func:belowB k (.func f cs as)=(belowL k cs&&belowL k as):=nr rfl
@[simp] theorem bl_nil:belowL k []=true:=nr rfl
@[simp] theorem bl_cons:belowL k (v::cs)=(belowB k v&&belowL k cs):=nr rfl
@[simp] theorem bb_ptr(B ep i:Nat):belowB k (.ptr B ep i o)=decide (B<k):=nr rfl
@[simp] theorem bb_gsl(B ep len:Nat):belowB k (.gsl B ep z o len)=decide (B<k):=nr rfl
@[simp] theorem bb_itr(B:Nat):belowB k (.itr B)=decide (B<k):=nr rfl
@[simp] theorem ok_bool:okV (.bool b)=true:=nr rfl
@[simp] theorem ok_int:okV (.int ik n)=true:=nr rfl
@[simp] theorem ok_str:okV (.str s)=true:=nr rfl
@[simp] theorem ok_agg:okV (.agg cs)=true:=nr rfl
@[simp] theorem ok_sl:okV (.sl z cs t)=true:=nr rfl
@[simp] theorem ok_eptr:okV (.eptr v o t)=true:=nr rfl
@[simp] theorem ok_nilp:okV .nilp=true:=nr rfl
@[simp] theorem ok_nilf:okV .nilf=true:=nr rfl
@[simp] theorem ok_nili:okV .nili=true:=nr rfl
@[simp] theorem ok_iface:okV (.iface z v)=true:=nr rfl
@[simp] theorem ok_func:okV (.func f cs as)=true:=nr rfl
@[simp] theorem ok_ptr(B ep i:Nat):okV (.ptr B ep i o)=true:=nr rfl
@[simp] theorem ok_gsl(B ep len:Nat):okV (.gsl B ep z o len)=true:=nr rfl
end
section
variable {β : Type}
def execK(O:Orc)(vp:VP)(lo:Nat)(c:VCode)(fr:Fr)(h:Heap)(K:Ex→Fr→Heap→Option β):Option β:=(exec O vp lo c fr h).bind fun r=>K r.1 r.2.1 r.2.2
def runK(O:Orc)(vp:VP)(lo:Nat)(ops:List VIt)(fr:Fr)(h:Heap)(k:Fr→Heap→Option β):Option β:=(runOps O vp lo ops fr h).bind fun r=>k r.1 r.2
def evalK(O:Orc)(vp:VP)(lo:Nat)(fr:Fr)(h:Heap)(op:VOp)(k:V→Heap→Option β):Option β:=(evalOp O vp lo fr h op).bind fun r=>k r.1 r.2
def dK(O:Orc)(vp:VP)(lo:Nat)(ds:List VDt)(p:Nat)(rs:List LRec)(fr:Fr)(h:Heap)(k:Fr→Heap→Option β):Option β:=(runD O vp lo ds p rs fr h).bind fun r=>k r.1 r.2
open Classical in
noncomputable def ifP {α:Type} (p:Prop) (x y:α):α:=if p then x else y
theorem ifP_ite{α:Type}(p:Prop)[Decidable p](x y:α):ifP p x y=if p then x else y:=by unfold ifP;split<;>simp_all
theorem ifP_pos{α:Type}{p:Prop}(h:p)(x y:α):ifP p x y=x:=if_pos h
theorem ifP_neg{α:Type}{p:Prop}(h: ¬p)(x y:α):ifP p x y=y:=if_neg h
@[simp] theorem ifP_true{α:Type}(x y:α):ifP True x y=x:=if_pos trivial
@[simp] theorem ifP_false{α:Type}(x y:α):ifP False x y=y:=if_neg id
@[simp] theorem ifP_same{α:Type}(p:Prop)(x:α):ifP p x x=x:=by unfold ifP;simp
theorem ifP_congr{α:Type}{c c':Prop}{x x' y y':α}(e:c=c')(e1:c'→x=x')(e2: ¬c'→y=y'):ifP c x y=ifP c' x' y':=by
 subst e
 by_cases hc:c
 ·rw[ifP_pos hc,ifP_pos hc];exact e1 hc
 ·rw[ifP_neg hc,ifP_neg hc];exact e2 hc
attribute [congr] ifP_congr
@[simp] theorem ifP_eq{α:Type}(p:Prop)(x y z:α):(ifP p x y=z)=((p→x=z)∧(¬p→y=z)):=by
  unfold ifP;split<;>simp_all
@[simp] theorem ifP_bind{α:Type}(c:Prop)(a b:Option α)(k:α→Option β):(ifP c a b).bind k=ifP c (a.bind k) (b.bind k):=by unfold ifP;split<;>rfl
def condK(v:V)(x y:Option β):Option β:=
 match v with
 |.bool b=>if b=true then x else y
 |_=>none
def guardK(v:V)(want:Bool)(x y:Option β):Option β:=
 match v with
 |.bool b=>if b=want then x else y
 |.tup []=>y
 |_=>none
def finK(rs:List VRes)(ex:Ex)(fr:Fr)(h1:Heap):Option V:=
 match ex with
 |.brk _=>none
 |_=>(resV fr h1 rs).bind fun v=>frz 0 h1 4 v
theorem callRO_K{vp:VP}{f:Nat}{vf:VFunc}(hf:vp.fn f=some vf)(args:List V):
 callRO vp f args=execK (orc vp) vp 0 vf.body (parms 0 args) [] (finK vf.results):=by
 rw[callRO_eq hf]
 unfold execK
 cases exec (orc vp) vp 0 vf.body (parms 0 args) []with
 |none=>rfl
 |some r=>obtain⟨ex,fr,h⟩:=r;cases ex<;>rfl
def stFr(fr:Fr)(k:Fr→Option β):Option β:=k fr
def stVH(v:V)(h:Heap)(k:V→Heap→Option β):Option β:=k v h
theorem stFr_congr{fr fr':Fr}{k:Fr→Option β}(e:fr=fr'):stFr fr k=stFr fr' k:=by rw[e]
theorem stVH_congr{v v':V}{h h':Heap}{k:V→Heap→Option β}(e:v=v')(e':h=h'):stVH v h k=stVH v' h' k:=by rw[e,e']
attribute [congr] stFr_congr stVH_congr
@[simp] theorem stFr_eq(fr:Fr)(k:Fr→Option β):stFr fr k=k fr:=rfl
@[simp] theorem stVH_eq(v:V)(h:Heap)(k:V→Heap→Option β):stVH v h k=k v h:=rfl
section
variable (O : Orc) (vp : VP) (lo : Nat) (fr : Fr) (h : Heap) (K : Ex → Fr → Heap → Option β) (k : Fr → Heap → Option β) (kv : V → Heap → Option β)
@[simp ↓] theorem execK_skip:execK O vp lo .skip fr h K=K .nrm fr h:=rfl
@[simp ↓] theorem execK_ret:execK O vp lo .ret fr h K=K .ret fr h:=rfl
@[simp ↓] theorem execK_exit(id:Nat):execK O vp lo (.exit id) fr h K=K (.brk id) fr h:=rfl
@[simp ↓] theorem execK_reg(ops:List VIt)(ks:List Nat):execK O vp lo (.reg ops ks) fr h K=runK O vp lo ops fr h (fun fr h=>stFr (keep ks fr) fun fr=>K .nrm fr h):=by
  unfold execK runK stFr;simp only[exec];cases runOps O vp lo ops fr h<;>rfl
@[simp ↓] theorem execK_drw(ds:List VDt)(ks:List Nat):execK O vp lo (.drw ds ks) fr h K=dK O vp lo ds 0 [] fr h (fun fr h=>stFr (keep ks fr) fun fr=>K .nrm fr h):=by
  unfold execK dK stFr;simp only[exec];cases runD O vp lo ds 0 [] fr h<;>rfl
def seqK(K:Ex→Fr→Heap→Option β)(N:Fr→Heap→Option β)(ex:Ex)(fr:Fr)(h:Heap):Option β:=
 match ex with
 |.nrm=>N fr h
 |ex=>K ex fr h
def blkK(id:Nat)(K:Ex→Fr→Heap→Option β)(ex:Ex)(fr:Fr)(h:Heap):Option β:=
 match ex with
 |.brk i=>if i=id then K .nrm fr h else K (.brk i) fr h
 |ex=>K ex fr h
@[simp ↓] theorem seqK_nrm(N:Fr→Heap→Option β):seqK K N .nrm fr h=N fr h:=rfl
@[simp ↓] theorem seqK_ret(N:Fr→Heap→Option β):seqK K N .ret fr h=K .ret fr h:=rfl
@[simp ↓] theorem seqK_brk(N:Fr→Heap→Option β)(i:Nat):seqK K N (.brk i) fr h=K (.brk i) fr h:=rfl
@[simp ↓] theorem blkK_nrm(i:Nat):blkK i K .nrm fr h=K .nrm fr h:=rfl
@[simp ↓] theorem blkK_ret(i:Nat):blkK i K .ret fr h=K .ret fr h:=rfl
@[simp ↓] theorem blkK_brk(i j:Nat):blkK i K (.brk j) fr h=if j=i then K .nrm fr h else K (.brk j) fr h:=rfl
@[simp ↓] theorem finK_nrm(rs:List VRes):finK rs .nrm fr h=(resV fr h rs).bind fun v=>frz 0 h 4 v:=rfl
@[simp ↓] theorem finK_ret(rs:List VRes):finK rs .ret fr h=(resV fr h rs).bind fun v=>frz 0 h 4 v:=rfl
@[simp ↓] theorem execK_seq(a b:VCode):execK O vp lo (.seq a b) fr h K=execK O vp lo a fr h (seqK K fun fr h=>execK O vp lo b fr h K):=by
  unfold execK;simp only[exec]
  cases exec O vp lo a fr h with
  |none=>rfl
  |some r=>obtain⟨ex,fr,h⟩:=r;cases ex<;>rfl
@[simp ↓] theorem execK_cond(c:VOpd)(a b:VCode):execK O vp lo (.cond c a b) fr h K=condK (opd fr c) (execK O vp lo a fr h K) (execK O vp lo b fr h K):=by
  unfold execK;simp only[exec]
  cases opd fr c<;>try rfl
  rename_i c;cases c<;>rfl
@[simp ↓] theorem execK_blk(id:Nat)(body:VCode):execK O vp lo (.blk id body) fr h K=execK O vp lo body fr h (blkK id K):=by
  unfold execK;simp only[exec]
  cases exec O vp lo body fr h with
  |none=>rfl
  |some r=>
   obtain⟨ex,fr,h⟩:=r
   cases ex<;>try rfl
   rename_i i;simp only[Option.map_some,Option.bind_some,blkK];split<;>rfl
def bindK(o:Option (Ex ×Fr ×Heap))(K:Ex→Fr→Heap→Option β):Option β:=o.bind fun r=>K r.1 r.2.1 r.2.2
theorem bindK_congr{o o':Option (Ex ×Fr ×Heap)}{K:Ex→Fr→Heap→Option β}(e:o=o'):bindK o K=bindK o' K:=by rw[e]
attribute [congr] bindK_congr
@[simp] theorem bindK_some(ex:Ex)(K:Ex→Fr→Heap→Option β):bindK (some (ex,fr,h)) K=K ex fr h:=rfl
@[simp] theorem bindK_none(K:Ex→Fr→Heap→Option β):bindK none K=none:=rfl
@[simp] theorem bindK_ifP(c:Prop)(a b:Option (Ex ×Fr ×Heap))(K:Ex→Fr→Heap→Option β):bindK (ifP c a b) K=ifP c (bindK a K) (bindK b K):=by unfold ifP;split<;>rfl
@[simp ↓] theorem execK_loop(ks:List Nat)(body:VCode):execK O vp lo (.loop ks body) fr h K=bindK (O.loop lo ks body (keep ks fr) h) K:=rfl
@[simp] theorem condK_bool(b:Bool)(x y:Option β):condK (.bool b) x y=ifP (b=true) x y:=by rw[ifP_ite];rfl
@[simp] theorem guardK_true(b:Bool)(x y:Option β):guardK (.bool b) true x y=ifP (b=true) x y:=by rw[ifP_ite];rfl
@[simp] theorem guardK_false(b:Bool)(x y:Option β):guardK (.bool b) false x y=ifP (b=true) y x:=by rw[ifP_ite];unfold guardK;cases b<;>rfl
@[simp] theorem guardK_passed(w:Bool)(x y:Option β):guardK passed w x y=y:=rfl
@[simp high] theorem condK_T(x y:Option β):condK (.bool true) x y=x:=rfl
@[simp high] theorem condK_F(x y:Option β):condK (.bool false) x y=y:=rfl
@[simp high] theorem guardK_TT(x y:Option β):guardK (.bool true) true x y=x:=rfl
@[simp high] theorem guardK_TF(x y:Option β):guardK (.bool true) false x y=y:=rfl
@[simp high] theorem guardK_FT(x y:Option β):guardK (.bool false) true x y=y:=rfl
@[simp high] theorem guardK_FF(x y:Option β):guardK (.bool false) false x y=x:=rfl
@[simp ↓] theorem runK_nil:runK O vp lo [] fr h k=k fr h:=rfl
@[simp ↓] theorem runK_cons(d:Nat)(op:VOp)(r:List VIt):runK O vp lo (⟨some d,op,none⟩::r) fr h k=evalK O vp lo fr h op (fun v h=>runK O vp lo r ((d,v)::fr) h k):=by
  unfold runK evalK;simp only[runOps,stepIt,put];cases evalOp O vp lo fr h op<;>rfl
@[simp ↓] theorem runK_cons0(op:VOp)(r:List VIt):runK O vp lo (⟨none,op,none⟩::r) fr h k=evalK O vp lo fr h op (fun v h=>runK O vp lo r fr h k):=by
  unfold runK evalK;simp only[runOps,stepIt,put];cases evalOp O vp lo fr h op<;>rfl
theorem runK_guard'(d:Option Nat)(op:VOp)(t:Nat)(w:Bool)(r:List VIt):runK O vp lo (⟨d,op,some (t,w)⟩::r) fr h k=
 guardK (lk fr t) w (evalK O vp lo fr h op (fun v h=>runK O vp lo r (put fr d v) h k)) (runK O vp lo r (put fr d passed) h k):=by
 unfold runK evalK;simp only[runOps,stepIt]
 cases lk fr t<;>try rfl
 ·rename_i b;simp only[guardK];split
  ·cases evalOp O vp lo fr h op<;>rfl
  ·rfl
 ·rename_i vs;cases vs<;>rfl
@[simp ↓] theorem runK_guard(d:Nat)(op:VOp)(t:Nat)(w:Bool)(r:List VIt):runK O vp lo (⟨some d,op,some (t,w)⟩::r) fr h k=guardK (lk fr t) w (evalK O vp lo fr h op (fun v h=>runK O vp lo r ((d,v)::fr) h k)) (runK O vp lo r ((d,passed)::fr) h k):=runK_guard' ..
@[simp ↓] theorem runK_guard0(op:VOp)(t:Nat)(w:Bool)(r:List VIt):runK O vp lo (⟨none,op,some (t,w)⟩::r) fr h k=guardK (lk fr t) w (evalK O vp lo fr h op (fun v h=>runK O vp lo r fr h k)) (runK O vp lo r fr h k):=runK_guard' ..
@[simp ↓] theorem dK_nil(p:Nat)(rs:List LRec):dK O vp lo [] p rs fr h k=k fr h:=rfl
def xlB(ds:List VDt):Bool:=ds.all fun d=>d.xl.isEmpty
theorem runD_plain: ∀(ds:List VDt) (p:Nat) (rs:List LRec) (fr:Fr) (h:Heap),xlB ds=true→runD O vp lo ds p rs fr h=runOps O vp lo (ds.map (·.it)) fr h
 |[],_,_,_,_,_=>rfl
 |d::ds,p,rs,fr,h,hx=>by
  simp only[xlB,List.all_cons,Bool.and_eq_true,List.isEmpty_iff]at hx
  simp only[runD,List.map_cons,runOps]
  cases stepIt O vp lo d.it fr h with
  |none=>rfl
  |some x=>
   simp only[Option.bind_some]
   rw[if_pos (by rw[hx.1];simp)]
   exact runD_plain ds (p+1) _ _ _ hx.2
def dP(O:Orc)(vp:VP)(lo:Nat)(ds:List VDt)(fr:Fr)(h:Heap)(k:Fr→Heap→Option β):Option β:=runK O vp lo (ds.map (·.it)) fr h k
theorem dK_plain{O:Orc}{vp:VP}{lo:Nat}{fr:Fr}{h:Heap}{k:Fr→Heap→Option β}{ds:List VDt}{p:Nat}{rs:List LRec}(hx:xlB ds=true):dK O vp lo ds p rs fr h k=dP O vp lo ds fr h k:=by
 unfold dK dP runK;rw[runD_plain O vp lo ds p rs fr h hx]
@[simp ↓] theorem dP_nil:dP O vp lo [] fr h k=k fr h:=rfl
@[simp ↓] theorem dP_cons(d:Nat)(op:VOp)(i b:Nat)(xl:List Nat)(r:List VDt):dP O vp lo (⟨⟨some d,op,none⟩,i,b,xl⟩::r) fr h k=evalK O vp lo fr h op (fun v h=>dP O vp lo r ((d,v)::fr) h k):=runK_cons ..
@[simp ↓] theorem dP_cons0(op:VOp)(i b:Nat)(xl:List Nat)(r:List VDt):dP O vp lo (⟨⟨none,op,none⟩,i,b,xl⟩::r) fr h k=evalK O vp lo fr h op (fun v h=>dP O vp lo r fr h k):=runK_cons0 ..
@[simp ↓] theorem dP_guard(d:Nat)(op:VOp)(t:Nat)(w:Bool)(i b:Nat)(xl:List Nat)(r:List VDt):dP O vp lo (⟨⟨some d,op,some (t,w)⟩,i,b,xl⟩::r) fr h k=guardK (lk fr t) w (evalK O vp lo fr h op (fun v h=>dP O vp lo r ((d,v)::fr) h k)) (dP O vp lo r ((d,passed)::fr) h k):=runK_guard ..
@[simp ↓] theorem dP_guard0(op:VOp)(t:Nat)(w:Bool)(i b:Nat)(xl:List Nat)(r:List VDt):dP O vp lo (⟨⟨none,op,some (t,w)⟩,i,b,xl⟩::r) fr h k=guardK (lk fr t) w (evalK O vp lo fr h op (fun v h=>dP O vp lo r fr h k)) (dP O vp lo r fr h k):=runK_guard0 ..
variable (x y : VOpd)
def optK(v:Option V)(h:Heap)(kv:V→Heap→Option β):Option β:=v.bind fun v=>kv v h
@[simp] theorem optK_some(v:V):optK (some v) h kv=kv v h:=rfl
@[simp] theorem optK_none:optK none h kv=none:=rfl
theorem evalK_pure(op:VOp)(he:evalOp O vp lo fr h op=(pureOp fr op).map fun v=>(v,h)):evalK O vp lo fr h op kv=optK (pureOp fr op) h kv:=by
 unfold evalK optK;rw[he];cases pureOp fr op<;>rfl
@[simp ↓] theorem eK_mv:evalK O vp lo fr h (.mv x) kv=stVH (opd fr x) h kv:=rfl
def pickV(c a b:V):Option V:=match c with|.bool c=>some (if c=true then a else b)|_=>none
@[simp] theorem pickV_bool(c:Bool)(a b:V):pickV (.bool c) a b=ifP (c=true) (some a) (some b):=by rw[ifP_ite];cases c<;>rfl
@[simp high] theorem pickV_T(a b:V):pickV (.bool true) a b=some a:=rfl
@[simp high] theorem pickV_F(a b:V):pickV (.bool false) a b=some b:=rfl
@[simp ↓] theorem eK_pick(c:VOpd):evalK O vp lo fr h (.pick c x y) kv=optK (pickV (opd fr c) (opd fr x) (opd fr y)) h kv:=by
  rw[evalK_pure O vp lo fr h kv _ rfl];rfl
@[simp] theorem optK_ite(c:Prop)(a b:Option V):optK (ifP c a b) h kv=ifP c (optK a h kv) (optK b h kv):=by unfold ifP;split<;>rfl
@[simp ↓] theorem eK_build(z:List V)(ps:List (Nat ×Nat ×VOpd)):evalK O vp lo fr h (.build z ps) kv=optK (pureOp fr (.build z ps)) h kv:=evalK_pure O vp lo fr h kv _ rfl
@[simp ↓] theorem eK_buildSl(n:Nat)(ps:List VOpd):evalK O vp lo fr h (.buildSl n ps) kv=optK (pureOp fr (.buildSl n ps)) h kv:=evalK_pure O vp lo fr h kv _ rfl
@[simp ↓] theorem eK_nilchk:evalK O vp lo fr h (.nilchk x) kv=optK (pureOp fr (.nilchk x)) h kv:=evalK_pure O vp lo fr h kv _ rfl
@[simp ↓] theorem eK_bin(op:BinOp):evalK O vp lo fr h (.bin op x y) kv=optK (binV op (opd fr x) (opd fr y)) h kv:=evalK_pure O vp lo fr h kv _ rfl
@[simp ↓] theorem eK_isnil(nk:NK)(neg:Bool):evalK O vp lo fr h (.isnil nk neg x) kv=optK ((isNil nk (opd fr x)).map fun b=>.bool (if neg=true then !b else b)) h kv:=evalK_pure O vp lo fr h kv _ rfl
@[simp ↓] theorem eK_eq(neg:Bool)(ks:Option (List EK)):evalK O vp lo fr h (.eq neg ks x y) kv=optK ((eqV ks (opd fr x) (opd fr y)).map fun b=>.bool (if neg=true then !b else b)) h kv:=evalK_pure O vp lo fr h kv _ rfl
@[simp ↓] theorem eK_un(op:UnOp):evalK O vp lo fr h (.un op x) kv=optK (unV op (opd fr x)) h kv:=evalK_pure O vp lo fr h kv _ rfl
@[simp ↓] theorem eK_conv(c:CK):evalK O vp lo fr h (.conv c x) kv=optK (convV c (opd fr x)) h kv:=evalK_pure O vp lo fr h kv _ rfl
@[simp ↓] theorem eK_mkif(t:Nat):evalK O vp lo fr h (.mkif t x) kv=stVH (.iface t (opd fr x)) h kv:=rfl
@[simp ↓] theorem eK_mkfn(f:Nat)(a b:List VOpd):evalK O vp lo fr h (.mkfn f a b) kv=stVH (.func f (a.map (opd fr)) (b.map (opd fr))) h kv:=rfl
@[simp ↓] theorem eK_slice(n:Nat)(a b c:Option VOpd):evalK O vp lo fr h (.slice n x a b c) kv=optK (sliceV n (opd fr x) (a.map (opd fr)) (b.map (opd fr)) (c.map (opd fr))) h kv:=evalK_pure O vp lo fr h kv _ rfl
@[simp ↓] theorem eK_faddr(off:Nat):evalK O vp lo fr h (.faddr off x) kv=optK (faddrV (opd fr x) off) h kv:=evalK_pure O vp lo fr h kv _ rfl
def fldV(agg:Bool)(n off:Nat)(v:V):Option V:=match v with|.agg cs=>ldc (.agg cs) agg n off|_=>none
@[simp ↓] theorem eK_fld(agg:Bool)(n off:Nat):evalK O vp lo fr h (.fld agg n off x) kv=optK (fldV agg n off (opd fr x)) h kv:=evalK_pure O vp lo fr h kv _ rfl
@[simp ↓] theorem eK_iaddr(n:Nat):evalK O vp lo fr h (.iaddr n x y) kv=optK (iaddrV n (opd fr x) (opd fr y)) h kv:=evalK_pure O vp lo fr h kv _ rfl
@[simp ↓] theorem eK_iaddrA(l n:Nat):evalK O vp lo fr h (.iaddrA l n x y) kv=optK (iaddrA l n (opd fr x) (opd fr y)) h kv:=evalK_pure O vp lo fr h kv _ rfl
@[simp ↓] theorem eK_idxS:evalK O vp lo fr h (.idxS x y) kv=optK (idxS (opd fr x) (opd fr y)) h kv:=evalK_pure O vp lo fr h kv _ rfl
@[simp ↓] theorem eK_idxA(l n:Nat)(agg:Bool):evalK O vp lo fr h (.idxA l n agg x y) kv=optK (idxA l n agg (opd fr x) (opd fr y)) h kv:=evalK_pure O vp lo fr h kv _ rfl
@[simp ↓] theorem eK_tassert(ty:Nat)(z:V)(ok:Bool):evalK O vp lo fr h (.tassert ty z ok x) kv=optK (tassertV ty z ok (opd fr x)) h kv:=evalK_pure O vp lo fr h kv _ rfl
def extV(i:Nat)(v:V):Option V:=match v with|.tup vs=>vs[i]? |_=>none
@[simp] theorem extV_tup(i:Nat)(vs:List V):extV i (.tup vs)=vs[i]? :=rfl
@[simp ↓] theorem eK_ext(i:Nat):evalK O vp lo fr h (.ext x i) kv=optK (extV i (opd fr x)) h kv:=evalK_pure O vp lo fr h kv _ rfl
@[simp ↓] theorem eK_len(text:Bool):evalK O vp lo fr h (.len text x) kv=optK (lenV text (opd fr x)) h kv:=evalK_pure O vp lo fr h kv _ rfl
@[simp ↓] theorem eK_mn(xs:List VOpd):evalK O vp lo fr h (.mn xs) kv=optK (foldV (fun a b=>if b<a then b else a) (xs.map (opd fr))) h kv:=evalK_pure O vp lo fr h kv _ rfl
@[simp ↓] theorem eK_mx(xs:List VOpd):evalK O vp lo fr h (.mx xs) kv=optK (foldV (fun a b=>if b>a then b else a) (xs.map (opd fr))) h kv:=evalK_pure O vp lo fr h kv _ rfl
def boxK(v:V)(h:Heap)(kv:V→Heap→Option β):Option β:=if okV v=true then kv (.ptr h.length 1 0 0) (h++[.arr [v]])else none
theorem boxK_congr{v v':V}{h:Heap}{kv:V→Heap→Option β}(e:v=v'):boxK v h kv=boxK v' h kv:=by rw[e]
attribute [congr] boxK_congr
@[simp] theorem boxK_ok{v:V}(hv:okV v=true):boxK v h kv=stVH (.ptr h.length 1 0 0) (h++[.arr [v]]) kv:=by simp[boxK,hv]
@[simp ↓] theorem eK_alloc(z:V):evalK O vp lo fr h (.alloc z) kv=stVH (.ptr h.length 1 0 0) (h++[.arr [z]]) kv:=rfl
@[simp ↓] theorem eK_box:evalK O vp lo fr h (.box x) kv=boxK (opd fr x) h kv:=by
  unfold evalK boxK;simp only[evalOp];split<;>rfl
@[simp ↓] theorem eK_load(agg:Bool)(n:Nat):evalK O vp lo fr h (.load agg n x) kv=optK (loadV h agg n (opd fr x)) h kv:=by
  unfold evalK optK;simp only[evalOp];cases loadV h agg n (opd fr x)<;>rfl
@[simp ↓] theorem eK_store(n:Nat):evalK O vp lo fr h (.store n false x y) kv=(storeV lo h n (opd fr x) (opd fr y)).bind fun h=>kv (.tup []) h:=by
  unfold evalK;simp only[evalOp,Bool.false_eq_true,if_false];cases storeV lo h n (opd fr x) (opd fr y)<;>rfl
@[simp ↓] theorem eK_storez(n:Nat):evalK O vp lo fr h (.store n true x y) kv=(fzV lo h (opd fr y)).bind fun r=>(storeV lo r.2 n (opd fr x) r.1).bind fun h=>kv (.tup []) h:=by
  unfold evalK;simp only[evalOp,if_true];cases fzV lo h (opd fr y)with
  |none=>rfl
  |some r=>simp only[Option.bind_some];cases storeV lo r.2 n (opd fr x) r.1<;>rfl
@[simp ↓] theorem eK_mksl(z:V)(bytes:Nat):evalK O vp lo fr h (.mksl z bytes x y) kv=(makeV h z bytes (opd fr x) (opd fr y)).bind fun r=>kv r.1 r.2:=rfl
@[simp ↓] theorem eK_app(z bytes:Nat):evalK O vp lo fr h (.app z bytes false x y) kv=(listOf h z (opd fr y)).bind fun ns=>(appV lo h z bytes (opd fr x) ns).bind fun r=>kv r.1 r.2:=by
  unfold evalK;simp only[evalOp,Bool.false_eq_true,if_false];cases listOf h z (opd fr y)<;>rfl
@[simp ↓] theorem eK_appz(z bytes:Nat):evalK O vp lo fr h (.app z bytes true x y) kv=(listOf h z (opd fr y)).bind fun ns=>(fzL lo h ns).bind fun q=>(appV lo q.2 z bytes (opd fr x) q.1).bind fun r=>kv r.1 r.2:=by
  unfold evalK;simp only[evalOp,if_true];cases listOf h z (opd fr y)with
  |none=>rfl
  |some ns=>simp only[Option.bind_some];cases fzL lo h ns<;>rfl
@[simp ↓] theorem eK_nilacc(z:Nat):evalK O vp lo fr h (.nilacc z) kv=stVH (.gsl h.length 0 z 0 0) (h++[.arr []]) kv:=rfl
def rngK(v:V)(h:Heap)(kv:V→Heap→Option β):Option β:=match v with|.str s=>kv (.itr h.length) (h++[.iter s 0])|_=>none
theorem rngK_congr{v v':V}{h:Heap}{kv:V→Heap→Option β}(e:v=v'):rngK v h kv=rngK v' h kv:=by rw[e]
attribute [congr] rngK_congr
@[simp] theorem rngK_str(s:List UInt8):rngK (.str s) h kv=stVH (.itr h.length) (h++[.iter s 0]) kv:=rfl
@[simp ↓] theorem eK_rng:evalK O vp lo fr h (.rng x) kv=rngK (opd fr x) h kv:=by
  unfold evalK rngK;simp only[evalOp];cases opd fr x<;>rfl
@[simp ↓] theorem eK_nxt:evalK O vp lo fr h (.nxt x) kv=(nextV lo h (opd fr x)).bind fun r=>kv r.1 r.2:=rfl
def callK(O:Orc)(vp:VP)(lo:Nat)(h:Heap)(f:Nat)(args:List V)(kv:V→Heap→Option β):Option β:=(doCall O vp lo h f args).bind fun r=>kv r.1 r.2
@[simp ↓] theorem eK_call(f:Nat)(args:List VOpd):evalK O vp lo fr h (.call f args) kv=callK O vp lo h f (args.map (opd fr)) kv:=rfl
def dynK(O:Orc)(vp:VP)(lo:Nat)(h:Heap)(ro:Bool)(f:V)(args:List V)(kv:V→Heap→Option β):Option β:=
 match f with
 |.func f a b=>if ro=true∧isRO vp f=false then none else callK O vp lo h f (a++args++b) kv
 |_=>none
@[simp ↓] theorem eK_calld(ro:Bool)(args:List VOpd):evalK O vp lo fr h (.calld ro x args) kv=dynK O vp lo h ro (opd fr x) (args.map (opd fr)) kv:=by
  unfold evalK dynK;simp only[evalOp]
  cases opd fr x<;>try rfl
  simp only;split<;>rfl
@[simp] theorem dynK_func(ro:Bool)(f:Nat)(a b args:List V):dynK O vp lo h ro (.func f a b) args kv=if ro=true∧isRO vp f=false then none else callK O vp lo h f (a++args++b) kv:=rfl
def invK(O:Orc)(vp:VP)(lo:Nat)(h:Heap)(m:Nat)(r:V)(args:List V)(kv:V→Heap→Option β):Option β:=
 match r with
 |.iface t v=>(vp.meth t m).bind fun f=>callK O vp lo h f (v::args) kv
 |_=>none
@[simp ↓] theorem eK_inv(m:Nat)(args:List VOpd):evalK O vp lo fr h (.inv m x args) kv=invK O vp lo h m (opd fr x) (args.map (opd fr)) kv:=by
  unfold evalK invK;simp only[evalOp]
  cases opd fr x<;>try rfl
  rename_i t v;simp only;cases vp.meth t m<;>rfl
noncomputable def roK (vp:VP) (h:Heap) (f:Nat) (args:List V) (kv:V→Heap→Option β):Option β:=
 (optL (viewV h) args).bind fun as=>if belowL 0 as=true then optK (callRO vp f as) h kv else
   (((orc vp).call f h.length as h).bind fun r=>frz h.length r.2 4 r.1).bind fun v=>kv v h
theorem callK_ro{vp:VP}{f:Nat}{vf:VFunc}(hf:vp.fn f=some vf)(hw:vf.rw=false)(hx:vf.ext=none)(lo:Nat)(h:Heap)(args:List V)(kv:V→Heap→Option β):
 callK (orc vp) vp lo h f args kv=roK vp h f args kv:=by
 unfold callK roK doCall
 simp only[hf,hx,hw]
 cases optL (viewV h) args with
 |none=>rfl
 |some as=>
  simp only[Option.bind_some]
  by_cases hb:belowL 0 as=true
  ·simp only[hb,if_true,optK,callRO]
   cases(orc vp).call f 0 as []with
   |none=>rfl
   |some r=>simp only[Option.bind_some];cases frz 0 r.2 4 r.1<;>rfl
  ·simp only[hb]
   cases(orc vp).call f h.length as h with
   |none=>rfl
   |some r=>simp only[Option.bind_some];cases frz h.length r.2 4 r.1<;>rfl
theorem callK_ext{vp:VP}{f:Nat}{vf:VFunc}{p:List V→Option V}(hf:vp.fn f=some vf)(hx:vf.ext=some p)(lo:Nat)(h:Heap)(args:List V)(kv:V→Heap→Option β):
 callK (orc vp) vp lo h f args kv=(optL (viewV h) args).bind fun as=>optK (p as) h kv:=by
 unfold callK doCall
 simp only[hf,hx]
 cases optL (viewV h) args with
 |none=>rfl
 |some as=>simp only[Option.bind_some,optK];cases p as<;>rfl
noncomputable def ownK (vp:VP) (lo:Nat) (h:Heap) (f:Nat) (args:List V) (kv:V→Heap→Option β):Option β:=((orc vp).call f lo args h).bind fun r=>kv r.1 r.2
theorem callK_own{vp:VP}{f:Nat}{vf:VFunc}(hf:vp.fn f=some vf)(hw:vf.rw=true)(hx:vf.ext=none)(ho:vf.own=true)(lo:Nat)(h:Heap)(args:List V)(kv:V→Heap→Option β):
 callK (orc vp) vp lo h f args kv=ownK vp lo h f args kv:=by
 unfold callK ownK doCall
 simp only[hf,hx,hw,ho,if_true]
 have: ∀r:V ×Heap,gcRet vp true h r.1 r.2=r:=fun r=>by simp[gcRet]
 simp only[this]
 cases(orc vp).call f lo args h<;>rfl
noncomputable def rwK (vp:VP) (lo:Nat) (h:Heap) (f:Nat) (args:List V) (kv:V→Heap→Option β):Option β:=((orc vp).call f lo args h).bind fun r=>kv (gcRet vp false h r.1 r.2).1 (gcRet vp false h r.1 r.2).2
theorem callK_rw{vp:VP}{f:Nat}{vf:VFunc}(hf:vp.fn f=some vf)(hw:vf.rw=true)(hx:vf.ext=none)(ho:vf.own=false)(lo:Nat)(h:Heap)(args:List V)(kv:V→Heap→Option β):
 callK (orc vp) vp lo h f args kv=rwK vp lo h f args kv:=by
 unfold callK rwK doCall
 simp only[hf,hx,hw,ho,if_true]
 cases(orc vp).call f lo args h<;>rfl
end
section
variable {O : Orc} {vp : VP} {lo : Nat} {fr fr' : Fr} {h h' : Heap} {K : Ex → Fr → Heap → Option β} {k : Fr → Heap → Option β} {kv : V → Heap → Option β}
theorem execK_congr{c:VCode}(e1:fr=fr')(e2:h=h'):execK O vp lo c fr h K=execK O vp lo c fr' h' K:=by rw[e1,e2]
theorem runK_congr{c:List VIt}(e1:fr=fr')(e2:h=h'):runK O vp lo c fr h k=runK O vp lo c fr' h' k:=by rw[e1,e2]
theorem dK_congr{c:List VDt}{p:Nat}{rs:List LRec}(e1:fr=fr')(e2:h=h'):dK O vp lo c p rs fr h k=dK O vp lo c p rs fr' h' k:=by rw[e1,e2]
theorem evalK_congr{op:VOp}(e1:fr=fr')(e2:h=h'):evalK O vp lo fr h op kv=evalK O vp lo fr' h' op kv:=by rw[e1,e2]
theorem condK_congr{v v':V}{x y:Option β}(e:v=v'):condK v x y=condK v' x y:=by rw[e]
theorem guardK_congr{v v':V}{w:Bool}{x y:Option β}(e:v=v'):guardK v w x y=guardK v' w x y:=by rw[e]
theorem optK_congr{v v':Option V}(e:v=v'):optK v h kv=optK v' h kv:=by rw[e]
theorem callK_congr{f:Nat}{as as':List V}(e2:h=h')(e:as=as'):callK O vp lo h f as kv=callK O vp lo h' f as' kv:=by rw[e2,e]
theorem roK_congr{f:Nat}{as as':List V}(e2:h=h')(e:as=as'):roK vp h f as kv=roK vp h' f as' kv:=by rw[e2,e]
theorem ownK_congr{f:Nat}{as as':List V}(e2:h=h')(e:as=as'):ownK vp lo h f as kv=ownK vp lo h' f as' kv:=by rw[e2,e]
theorem rwK_congr{f:Nat}{as as':List V}(e2:h=h')(e:as=as'):rwK vp lo h f as kv=rwK vp lo h' f as' kv:=by rw[e2,e]
theorem dynK_congr{ro:Bool}{f f':V}{as as':List V}(e1:h=h')(e2:f=f')(e:as=as'):dynK O vp lo h ro f as kv=dynK O vp lo h' ro f' as' kv:=by rw[e1,e2,e]
theorem invK_congr{m:Nat}{f f':V}{as as':List V}(e1:h=h')(e2:f=f')(e:as=as'):invK O vp lo h m f as kv=invK O vp lo h' m f' as' kv:=by rw[e1,e2,e]
theorem seqK_congr{N:Fr→Heap→Option β}{ex:Ex}:seqK K N ex fr h=seqK K N ex fr h:=rfl
theorem blkK_congr{i:Nat}{ex:Ex}:blkK i K ex fr h=blkK i K ex fr h:=rfl
end
end
noncomputable def loopK (vp:VP) (lo:Nat) (ks:List Nat) (body:VCode) (h:Heap) (ex:Ex) (fr1:Fr) (h1:Heap):Option (Ex ×Fr ×Heap):=
 match ex with
 |.nrm=>(orc vp).loop lo ks body (keep ks fr1) (gcLoop vp h (keep ks fr1) h1)
 |ex=>some (ex,fr1,h1)
theorem loop_K(vp:VP)(lo:Nat)(ks:List Nat)(body:VCode)(fr:Fr)(h:Heap):(orc vp).loop lo ks body fr h=execK (orc vp) vp lo body fr h (loopK vp lo ks body h):=by
 rw[orc_loop];unfold stepLoop execK
 cases exec (orc vp) vp lo body fr h with
 |none=>rfl
 |some r=>obtain⟨ex,fr,h⟩:=r;cases ex<;>rfl
@[simp ↓] theorem loopK_nrm(vp:VP)(lo:Nat)(ks:List Nat)(body:VCode)(h:Heap)(fr1:Fr)(h1:Heap):loopK vp lo ks body h .nrm fr1 h1=(orc vp).loop lo ks body (keep ks fr1) (gcLoop vp h (keep ks fr1) h1):=rfl
@[simp ↓] theorem loopK_ret(vp:VP)(lo:Nat)(ks:List Nat)(body:VCode)(h:Heap)(fr1:Fr)(h1:Heap):loopK vp lo ks body h .ret fr1 h1=some (.ret,fr1,h1):=rfl
@[simp ↓] theorem loopK_brk(vp:VP)(lo:Nat)(ks:List Nat)(body:VCode)(h:Heap)(i:Nat)(fr1:Fr)(h1:Heap):loopK vp lo ks body h (.brk i) fr1 h1=some (.brk i,fr1,h1):=rfl
theorem gcLoop_of{vp:VP}{h h1:Heap}{fr:Fr}(hg:vp.gc=true)(hb:belowL h.length (fr.map Prod.snd)=true)(ho:okOldB h h1=true):gcLoop vp h fr h1=h1.take h.length:=by
 simp[gcLoop,hg,hb,ho]
@[simp] theorem okOldB_nil(h:Heap):okOldB [] h=true:=nr rfl
@[simp] theorem okOldB_eq(b:Blk)(h h1:Heap):okOldB (b::h) h1=okOldL (h.length+1) (b::h) h1:=nr rfl
@[simp] theorem okOldL_nil(n:Nat)(h:Heap):okOldL n [] h=true:=nr rfl
@[simp] theorem okOldL_cons(n:Nat)(b b':Blk)(h h1:Heap):okOldL n (b::h) (b'::h1)=((beqBlk b' b||belowBlk n b')&&okOldL n h h1):=nr rfl
@[simp] theorem beqBlk_refl(es:List V):beqBlk (.arr es) (.arr es)=true:=by simp[beqBlk]
@[simp] theorem belowBlk_arr(n:Nat)(es:List V):belowBlk n (.arr es)=belowL n es:=nr rfl
@[simp] theorem belowBlk_iter(n:Nat)(s:List UInt8)(p:Nat):belowBlk n (.iter s p)=true:=nr rfl
attribute [simp] gcLoop_of
@[simp high] theorem gcLoop_len{vp:VP}{h h1:Heap}{fr:Fr}(hl:h1.length=h.length):gcLoop vp h fr h1=h1:=gcLoop_same vp h h1 fr hl
@[simp] theorem gcLoop_id(vp:VP)(h:Heap)(fr:Fr):gcLoop vp h fr h=h:=gcLoop_same vp h h fr rfl
@[simp] theorem lk_hit(n:Nat)(v:V)(fr:Fr):lk ((n,v)::fr) n=v:=by simp[lk]
@[simp] theorem lk_miss(n t:Nat)(v:V)(fr:Fr)(h:(n==t)=false):lk ((n,v)::fr) t=lk fr t:=by simp at h;simp[lk,h]
@[simp] theorem lk_nil(t:Nat):lk [] t=.undef:=rfl
@[simp] theorem opd_t(fr:Fr)(n:Nat):opd fr (.t n)=lk fr n:=rfl
@[simp] theorem opd_c(fr:Fr)(v:V):opd fr (.c v)=v:=rfl
@[simp] theorem put_some(fr:Fr)(d:Nat)(v:V):put fr (some d) v=(d,v)::fr:=rfl
@[simp] theorem put_none(fr:Fr)(v:V):put fr none v=fr:=rfl
@[simp] theorem keep_nil(fr:Fr):keep [] fr=[]:=rfl
@[simp] theorem keep_cons(t:Nat)(ks:List Nat)(fr:Fr):keep (t::ks) fr=(t,lk fr t)::keep ks fr:=rfl
@[simp] theorem parms_nil(n:Nat):parms n []=[]:=rfl
@[simp] theorem parms_cons(n:Nat)(v:V)(l:List V):parms n (v::l)=(n,v)::parms (n+1) l:=rfl
@[simp] theorem xlB_nil:xlB []=true:=nr rfl
@[simp] theorem xlB_cons(it:VIt)(i b:Nat)(ds:List VDt):xlB (⟨it,i,b,[]⟩::ds)=xlB ds:=by simp[xlB]
def chkLen(es:List V)(ep:Nat):Option (List V):=if es.length=ep then some es else none
theorem chkLen_of{es:List V}{ep:Nat}(h:es.length=ep):chkLen es ep=some es:=if_pos h
def blkAt(h:Heap)(B ep:Nat):Option (List V):=match h[B]? with|some (.arr es)=>chkLen es ep|_=>none
@[simp] theorem blkAt_zero(es:List V)(h:Heap)(ep:Nat):blkAt (.arr es::h) 0 ep=chkLen es ep:=rfl
@[simp] theorem blkAt_succ(b:Blk)(h:Heap)(B ep:Nat):blkAt (b::h) (B+1) ep=blkAt h B ep:=by simp[blkAt]
@[simp] theorem chkLen_one(e:V):chkLen [e] 1=some [e]:=rfl
@[simp] theorem loadV_ptr(h:Heap)(agg:Bool)(n B ep i o:Nat):loadV h agg n (.ptr B ep i o)=(blkAt h B ep).bind fun es=>(es[i]?).bind fun e=>ldc e agg n o:=by
  unfold loadV blkAt chkLen;simp only
  cases h[B]? with
  |none=>rfl
  |some b=>
   cases b<;>try rfl
   rename_i es;simp only;split<;>rfl
@[simp] theorem loadV_eptr(h:Heap)(agg:Bool)(n o:Nat)(e:V)(t:Tag):loadV h agg n (.eptr e o t)=ldc e agg n o:=rfl
theorem storeV_ptr{lo B:Nat}(hl:lo≤B)(h:Heap)(n ep i o:Nat)(x:V):storeV lo h n (.ptr B ep i o) x=(blkAt h B ep).bind fun es=>(es[i]?).bind fun e=>(stc e n o x).map fun e=>h.set B (.arr (es.set i e)):=by
 unfold storeV blkAt chkLen;simp only[hl,true_and]
 cases h[B]? with
 |none=>rfl
 |some b=>
  cases b<;>try rfl
  rename_i es;simp only;split<;>rfl
@[simp] theorem storeV_ptr0(h:Heap)(n B ep i o:Nat)(x:V):storeV 0 h n (.ptr B ep i o) x=(blkAt h B ep).bind fun es=>(es[i]?).bind fun e=>(stc e n o x).map fun e=>h.set B (.arr (es.set i e)):=storeV_ptr (Nat.zero_le _) _ _ _ _ _ _
def subL(ep off len:Nat)(es:List V):Option (List V):=if off+len≤ep then some ((es.drop off).take len)else none
@[simp] theorem seen_eq(h:Heap)(B ep off len:Nat):seen h B ep off len=(blkAt h B ep).bind (subL ep off len):=by
  unfold seen blkAt chkLen
  cases h[B]? with
  |none=>rfl
  |some b=>
   cases b<;>try rfl
   rename_i es
   by_cases he:es.length=ep
   ·simp[he,subL]
   ·simp[he]
theorem subL_full{len:Nat}{es:List V}(hl:es.length=len):subL len 0 len es=some es:=by
 subst hl;simp[subL]
@[simp] theorem subL_zero:subL 0 0 0 []=some []:=rfl
theorem ldc_all{cs:List V}{n:Nat}(h:cs.length=n):ldc (.agg cs) true n 0=some (.agg cs):=by subst h;simp[ldc,V.cells]
theorem ldc_agg(cs:List V)(n o:Nat)(h:o+n≤cs.length):ldc (.agg cs) true n o=some (.agg ((cs.drop o).take n)):=by simp[ldc,V.cells,h]
@[simp] theorem ldc_cell(cs:List V)(n o:Nat):ldc (.agg cs) false n o=cs[o]? :=rfl
@[simp] theorem ldc_bool(b:Bool)(n:Nat):ldc (.bool b) false n 0=some (.bool b):=rfl
@[simp] theorem ldc_int(k:IntKind)(b:Int)(n:Nat):ldc (.int k b) false n 0=some (.int k b):=rfl
@[simp] theorem ldc_str(s:List UInt8)(n:Nat):ldc (.str s) false n 0=some (.str s):=rfl
@[simp] theorem ldc_sl(z:Nat)(es:List V)(t:Tag)(n:Nat):ldc (.sl z es t) false n 0=some (.sl z es t):=rfl
@[simp] theorem ldc_eptr(e:V)(o:Nat)(t:Tag)(n:Nat):ldc (.eptr e o t) false n 0=some (.eptr e o t):=rfl
@[simp] theorem ldc_ptr(B ep i o n:Nat):ldc (.ptr B ep i o) false n 0=some (.ptr B ep i o):=rfl
@[simp] theorem ldc_gsl(B ep z o l n:Nat):ldc (.gsl B ep z o l) false n 0=some (.gsl B ep z o l):=rfl
@[simp] theorem ldc_nilp(n:Nat):ldc .nilp false n 0=some .nilp:=rfl
@[simp] theorem ldc_nili(n:Nat):ldc .nili false n 0=some .nili:=rfl
@[simp] theorem ldc_iface(t:Nat)(v:V)(n:Nat):ldc (.iface t v) false n 0=some (.iface t v):=rfl
@[simp] theorem ldc_func(f:Nat)(a b:List V)(n:Nat):ldc (.func f a b) false n 0=some (.func f a b):=rfl
theorem stc_all{cs cs':List V}{n:Nat}(h1:cs.length=n)(h2:cs'.length=n):stc (.agg cs) n 0 (.agg cs')=some (.agg cs'):=by
 subst h1;simp[stc,V.cells,okV,h2]
def one1:V→Bool
 |.agg _|.tup _|.undef=>false
 |_=>true
theorem stc_cell{cs:List V}{o:Nat}{x:V}(h1:o<cs.length)(h2:one1 x=true):stc (.agg cs) 1 o x=some (.agg (cs.set o x)):=by
 have:x.cells=[x]:=by cases x<;>simp[one1]at h2<;>rfl
 have ok:okV x=true:=by cases x<;>simp[one1]at h2<;>rfl
 unfold stc
 rw[this,if_pos ⟨rfl,by simp only[V.cells];omega,ok⟩,List.set_eq_take_append_cons_drop]
 simp[h1]
theorem stc_var{e x:V}(h1:one1 e=true)(h2:one1 x=true):stc e 1 0 x=some x:=by
 cases e<;>simp[one1]at h1<;>cases x<;>simp[one1]at h2<;>rfl
section
variable (b : Bool) (ik : IntKind) (n : Int) (s : List UInt8) (cs as : List V) (z o f : Nat) (t : Tag) (v : V)
@[simp] theorem o1_bool:one1 (.bool b)=true:=nr rfl
@[simp] theorem o1_int:one1 (.int ik n)=true:=nr rfl
@[simp] theorem o1_str:one1 (.str s)=true:=nr rfl
@[simp] theorem o1_sl:one1 (.sl z cs t)=true:=nr rfl
@[simp] theorem o1_gsl(B ep len:Nat):one1 (.gsl B ep z o len)=true:=nr rfl
@[simp] theorem o1_eptr:one1 (.eptr v o t)=true:=nr rfl
@[simp] theorem o1_ptr(B ep i:Nat):one1 (.ptr B ep i o)=true:=nr rfl
@[simp] theorem o1_nilp:one1 .nilp=true:=nr rfl
@[simp] theorem o1_nili:one1 .nili=true:=nr rfl
@[simp] theorem o1_nilf:one1 .nilf=true:=nr rfl
@[simp] theorem o1_iface:one1 (.iface z v)=true:=nr rfl
@[simp] theorem o1_func:one1 (.func f cs as)=true:=nr rfl
@[simp] theorem o1_itr(B:Nat):one1 (.itr B)=true:=nr rfl
end
theorem beq_dec(s t:List UInt8):(s==t)=decide (s=t):=by by_cases h:s=t<;>simp[h]
section
variable (k : IntKind) (a b : Int) (s t : List UInt8) (p q : Bool)
@[simp] theorem bin_add:binV .add (.int k a) (.int k b)=some (.int k (k.wrap (a+b))):=by simp[binV,intOp,wrapI]
@[simp] theorem bin_sub:binV .sub (.int k a) (.int k b)=some (.int k (k.wrap (a-b))):=by simp[binV,intOp,wrapI]
@[simp] theorem bin_mul:binV .mul (.int k a) (.int k b)=some (.int k (k.wrap (a*b))):=by simp[binV,intOp,wrapI]
theorem bin_quo(h:b≠0):binV .quo (.int k a) (.int k b)=some (.int k (k.wrap (a.tdiv b))):=by simp[binV,intOp,wrapI,h]
theorem bin_rem(h:b≠0):binV .rem (.int k a) (.int k b)=some (.int k (a.tmod b)):=by simp[binV,intOp,h]
theorem bin_and:binV .and (.int k a) (.int k b)=some (.int k (k.wrap (BitVec.ofInt k.bits a&&&BitVec.ofInt k.bits b).toNat)):=by simp[binV,intOp,wrapI]
theorem bin_or:binV .or (.int k a) (.int k b)=some (.int k (k.wrap (BitVec.ofInt k.bits a|||BitVec.ofInt k.bits b).toNat)):=by simp[binV,intOp,wrapI]
theorem bin_andNot:binV .andNot (.int k a) (.int k b)=some (.int k (k.wrap (BitVec.ofInt k.bits a&&& ~~~BitVec.ofInt k.bits b).toNat)):=by simp[binV,intOp,wrapI]
@[simp] theorem bin_eql:binV .eql (.int k a) (.int k b)=some (.bool (decide (a=b))):=by simp[binV,intOp];rfl
@[simp] theorem bin_neq:binV .neq (.int k a) (.int k b)=some (.bool (decide (a≠b))):=by simp[binV,intOp];rfl
@[simp] theorem bin_lss:binV .lss (.int k a) (.int k b)=some (.bool (decide (a<b))):=by simp[binV,intOp]
@[simp] theorem bin_leq:binV .leq (.int k a) (.int k b)=some (.bool (decide (a≤b))):=by simp[binV,intOp]
@[simp] theorem bin_gtr:binV .gtr (.int k a) (.int k b)=some (.bool (decide (b<a))):=by simp[binV,intOp]
@[simp] theorem bin_geq:binV .geq (.int k a) (.int k b)=some (.bool (decide (b≤a))):=by simp[binV,intOp]
theorem bin_shl{k':IntKind}(h:0≤b):binV .shl (.int k a) (.int k' b)=some (.int k (k.wrap (a*2^min b.toNat k.bits))):=by
 simp[binV,shiftOp,wrapI,Int.not_lt.2 h]
theorem bin_shr{k':IntKind}(h:0≤b):binV .shr (.int k a) (.int k' b)=some (.int k (a.fdiv (2^min b.toNat k.bits))):=by
 simp[binV,shiftOp,Int.not_lt.2 h]
@[simp] theorem bin_seql:binV .eql (.str s) (.str t)=some (.bool (decide (s=t))):=by simp only[binV,strOp,beq_dec]
@[simp] theorem bin_sneq:binV .neq (.str s) (.str t)=some (.bool (!decide (s=t))):=by simp only[binV,strOp,beq_dec]
@[simp] theorem un_not:unV .not (.bool p)=some (.bool (!p)):=rfl
@[simp] theorem un_neg:unV .neg (.int k a)=some (.int k (k.wrap (0-a))):=rfl
@[simp] theorem conv_int{k':IntKind}:convV (.int k) (.int k' a)=some (.int k (k.wrap a)):=rfl
@[simp] theorem conv_id:convV .id (.str s)=some (.str s):=rfl
@[simp] theorem conv_s2b:convV .s2b (.str s)=some (.sl 1 (s.map byteV) .perm):=rfl
@[simp] theorem faddr_ptr(B ep i o off:Nat):faddrV (.ptr B ep i o) off=some (.ptr B ep i (o+off)):=rfl
@[simp] theorem faddr_eptr(e:V)(o off:Nat)(t:Tag):faddrV (.eptr e o t) off=some (.eptr e (o+off) t):=rfl
@[simp] theorem len_str:lenV true (.str s)=some (.int .i64 s.length):=rfl
@[simp] theorem len_sl(z:Nat)(es:List V)(t:Tag):lenV false (.sl z es t)=some (.int .i64 es.length):=rfl
@[simp] theorem len_gsl(B ep z off len:Nat):lenV false (.gsl B ep z off len)=some (.int .i64 len):=rfl
@[simp] theorem fold_two(f:Int→Int→Int):foldV f [.int k a,.int k b]=some (.int k (f a b)):=by simp[foldV,foldV.go]
@[simp] theorem eq_bool:eqV none (.bool p) (.bool q)=some (p==q):=rfl
@[simp] theorem nil_p1(e:V)(o:Nat)(t:Tag):isNil .p (.eptr e o t)=some false:=rfl
@[simp] theorem nil_p2(B ep i o:Nat):isNil .p (.ptr B ep i o)=some false:=rfl
@[simp] theorem nil_p3:isNil .p .nilp=some true:=rfl
@[simp] theorem nil_i1(t:Nat)(v:V):isNil .i (.iface t v)=some false:=rfl
@[simp] theorem nil_i2:isNil .i .nili=some true:=rfl
@[simp] theorem nil_f1(f:Nat)(x y:List V):isNil .f (.func f x y)=some false:=rfl
@[simp] theorem nil_f2:isNil .f .nilf=some true:=rfl
@[simp] theorem ta_hit2(ty:Nat)(z v:V):tassertV ty z true (.iface ty v)=some (.tup [v,.bool true]):=by simp[tassertV]
@[simp] theorem ta_hit1(ty:Nat)(z v:V):tassertV ty z false (.iface ty v)=some v:=by simp[tassertV]
@[simp] theorem ta_nil(ty:Nat)(z:V):tassertV ty z true .nili=some (.tup [z,.bool false]):=rfl
@[simp] theorem ta_miss(ty t:Nat)(z v:V)(h:(t==ty)=false):tassertV ty z true (.iface t v)=some (.tup [z,.bool false]):=by simp at h;simp[tassertV,h]
@[simp] theorem fldV_agg(agg:Bool)(n off:Nat)(cs:List V):fldV agg n off (.agg cs)=ldc (.agg cs) agg n off:=rfl
end
def getI{α:Type}(l:List α)(i:Int):Option α:=if 0≤i then l[i.toNat]? else none
theorem getI_cases{α:Type}(l:List α)(i:Int):(∃a,0≤i∧i<l.length∧getI l i=some a)∨((i<0∨(l.length:Int)≤i)∧getI l i=none):=by
 unfold getI
 by_cases h:0≤i
 ·rw[if_pos h]
  by_cases h2:i<l.length
  ·left
   have:i.toNat<l.length:=by omega
   exact⟨l[i.toNat],h,h2,by simp[this]⟩
  ·right
   exact⟨.inr (by omega),by rw[List.getElem?_eq_none];omega⟩
 ·rw[if_neg h];right;exact⟨.inl (by omega),rfl⟩
@[simp] theorem getI_nat{α:Type}(l:List α)(i:Nat):getI l (i:Int)=l[i]? :=by simp[getI]
@[simp] theorem getI_zero{α:Type}(l:List α):getI l 0=l[0]? :=by simp[getI]
theorem getI_map{α β:Type}(f:α→β)(l:List α)(i:Int):getI (l.map f) i=(getI l i).map f:=by
 unfold getI;split<;>simp
theorem iaddr_sl(z:Nat)(es:List V)(t:Tag)(k:IntKind)(i:Int):iaddrV z (.sl z es t) (.int k i)=(getI es i).map fun e=>.eptr e 0 t:=by
 unfold iaddrV getI;by_cases h:0≤i<;>simp[h]
@[simp] theorem iaddr_map{α:Type}(z:Nat)(f:α→V)(l:List α)(t:Tag)(k:IntKind)(i:Int):iaddrV z (.sl z (l.map f) t) (.int k i)=(getI l i).map fun e=>.eptr (f e) 0 t:=by
  rw[iaddr_sl,getI_map];cases getI l i<;>rfl
@[simp] theorem iaddrA_ep(len n:Nat)(e:V)(o:Nat)(t:Tag)(k:IntKind)(i:Int)(h0:0≤i)(h1:i<len):iaddrA len n (.eptr e o t) (.int k i)=some (.eptr e (o+i.toNat*n) t):=by
  simp only[iaddrA,h0,h1,and_self,if_true,faddrV]
@[simp] theorem iaddrA_ptr(len n B ep j o:Nat)(k:IntKind)(i:Int)(h0:0≤i)(h1:i<len):iaddrA len n (.ptr B ep j o) (.int k i)=some (.ptr B ep j (o+i.toNat*n)):=by
  simp only[iaddrA,h0,h1,and_self,if_true,faddrV]
@[simp] theorem idxS_str(s:List UInt8)(k:IntKind)(i:Int):idxS (.str s) (.int k i)=(getI s i).map byteV:=by
  unfold idxS getI;by_cases h:0≤i<;>simp[h]
noncomputable def roGo {β:Type} (vp:VP) (h:Heap) (f:Nat) (kv:V→Heap→Option β) (as:Option (List V)):Option β:=
 as.bind fun as=>if belowL 0 as=true then optK (callRO vp f as) h kv else
  (((orc vp).call f h.length as h).bind fun r=>frz h.length r.2 4 r.1).bind fun v=>kv v h
@[simp ↓] theorem roK_eq{β:Type}(vp:VP)(h:Heap)(f:Nat)(as:List V)(kv:V→Heap→Option β):roK vp h f as kv=roGo vp h f kv (optL (viewV h) as):=rfl
theorem roGo_some{β:Type}{vp:VP}{h:Heap}{f:Nat}{kv:V→Heap→Option β}{as:List V}(hb:belowL 0 as=true):roGo vp h f kv (some as)=optK (callRO vp f as) h kv:=by
 simp[roGo,hb]
theorem roGo_congr{β:Type}{vp:VP}{h:Heap}{f:Nat}{kv:V→Heap→Option β}{as as':Option (List V)}(e:as=as'):roGo vp h f kv as=roGo vp h f kv as':=by rw[e]
attribute [congr] roGo_congr
attribute [simp] roGo_some
theorem optL_id{f:V→Option V}: ∀(l:List V),(∀v∈l,f v=some v)→optL f l=some l
 |[],_=>rfl
 |v::l,h=>by simp[optL,h v List.mem_cons_self,optL_id l (fun v hv=>h v (List.mem_cons_of_mem _ hv))]
theorem belowL_mem{n:Nat}: ∀{l:List V},belowL n l=true→∀v∈l,belowB n v=true
 |[],_,v,hv=>by simp at hv
 |x::l,h,v,hv=>by
  simp only[belowL,Bool.and_eq_true]at h
  simp only[List.mem_cons]at hv
  rcases hv with rfl|hv
  ·exact h.1
  ·exact belowL_mem h.2 v hv
theorem viewD_below{h:Heap}{d:Nat}{v:V}(hv:belowB 0 v=true):viewD h d v=some v:=by
 induction d generalizing v with
 |zero=>rfl
 |succ d ih=>
  unfold viewD
  split
  ·rfl
  ·cases v with
   |agg cs=>simp only[belowB]at hv;simp[optL_id _ (fun v hm=>ih (belowL_mem hv v hm))]
   |func f a b=>
    simp only[belowB,Bool.and_eq_true]at hv
    simp[optL_id _ (fun v hm=>ih (belowL_mem hv.1 v hm)),optL_id _ (fun v hm=>ih (belowL_mem hv.2 v hm))]
   |iface t v=>simp only[belowB]at hv;simp[ih hv]
   |gsl=>simp[belowB]at hv
   |ptr=>simp[belowB]at hv
   |_=>rfl
theorem viewV_below{h:Heap}{v:V}(hv:belowB 0 v=true):viewV h v=some v:=viewD_below hv
theorem closedB_ptr(B ep i o:Nat):closedB (.ptr B ep i o)=false:=rfl
theorem closedB_gsl(B ep z off len:Nat):closedB (.gsl B ep z off len)=false:=rfl
@[simp] theorem viewD_ptr(h:Heap)(d B ep i o:Nat):viewD h (d+1) (.ptr B ep i o)=(blkAt h B ep).bind fun es=>(es[i]?).bind fun e=>(viewD h d e).map fun e=>.eptr e o .brw:=by
  conv=>lhs;unfold viewD
  unfold blkAt chkLen;simp only[closedB_ptr,Bool.false_eq_true,if_false]
  cases h[B]? with
  |none=>rfl
  |some b=>
   cases b<;>try rfl
   rename_i es;simp only;split<;>rfl
@[simp] theorem viewD_gsl(h:Heap)(d B ep z off len:Nat):viewD h (d+1) (.gsl B ep z off len)=(seen h B ep off len).bind fun es=>(optL (viewD h d) es).map fun es=>.sl z es .brw:=by
  conv=>lhs;unfold viewD
  simp only[closedB_gsl,Bool.false_eq_true,if_false]
@[simp] theorem viewV_ptr(h:Heap)(B ep i o:Nat):viewV h (.ptr B ep i o)=(blkAt h B ep).bind fun es=>(es[i]?).bind fun e=>(viewD h 3 e).map fun e=>.eptr e o .brw:=viewD_ptr h 3 B ep i o
@[simp] theorem viewV_gsl(h:Heap)(B ep z off len:Nat):viewV h (.gsl B ep z off len)=(seen h B ep off len).bind fun es=>(optL (viewD h 3) es).map fun es=>.sl z es .brw:=viewD_gsl h 3 B ep z off len
theorem optL_below{h:Heap}{d:Nat}{l:List V}(hb:belowL 0 l=true):optL (viewD h d) l=some l:=optL_id _ fun v hv=>viewD_below (belowL_mem hb v hv)
theorem closedL_mem{l:List V}(h:closedL l=true): ∀v∈l,closedB v=true:=by
 induction l with
 |nil=>intro v hv;simp at hv
 |cons x l ih=>
  intro v hv
  simp only[closedL,Bool.and_eq_true]at h
  simp only[List.mem_cons]at hv
  rcases hv with rfl|hv
  ·exact h.1
  ·exact ih h.2 v hv
theorem optL_viewD_closed{h:Heap}{d:Nat}{l:List V}(hc:closedL l=true):optL (viewD h d) l=some l:=
 optL_id l fun v hv=>by have:=closedL_mem hc v hv;cases d<;>simp[viewD,this]
theorem viewD_func(h:Heap)(d f:Nat)(a b:List V):viewD h (d+1) (.func f a b)=(optL (viewD h d) a).bind fun a=>(optL (viewD h d) b).map fun b=>.func f a b:=by
 conv=>lhs;unfold viewD
 split
 ·rename_i hc
  simp only[closedB,Bool.and_eq_true]at hc
  rw[optL_viewD_closed hc.1,optL_viewD_closed hc.2];rfl
 ·rfl
theorem viewD_iface(h:Heap)(d t:Nat)(v:V):viewD h (d+1) (.iface t v)=(viewD h d v).map (.iface t):=by
 conv=>lhs;unfold viewD
 split
 ·rename_i hc
  simp only[closedB]at hc
  cases d<;>simp[viewD,hc]
 ·rfl
def mkO(f:Nat)(a b:Option (List V)):Option V:=a.bind fun a=>b.map fun b=>.func f a b
@[simp] theorem mkO_some(f:Nat)(a b:List V):mkO f (some a) (some b)=some (.func f a b):=rfl
@[simp] theorem viewV_func(h:Heap)(f:Nat)(a b:List V):viewV h (.func f a b)=mkO f (optL (viewD h 3) a) (optL (viewD h 3) b):=viewD_func h 3 f a b
@[simp] theorem viewV_iface(h:Heap)(t:Nat)(v:V):viewV h (.iface t v)=(viewD h 3 v).map (.iface t):=viewD_iface h 3 t v
@[simp] theorem optL_nil(f:V→Option V):optL f []=some []:=rfl
def consO(a:Option V)(l:Option (List V)):Option (List V):=a.bind fun v=>l.map (v:: ·)
@[simp] theorem consO_some(a:V)(l:List V):consO (some a) (some l)=some (a::l):=rfl
@[simp] theorem optL_cons(f:V→Option V)(v:V)(l:List V):optL f (v::l)=consO (f v) (optL f l):=rfl
@[simp] theorem resV_one(fr:Fr)(h:Heap)(r:VRes):resV fr h [r]=resV1 fr h r:=by
  simp only[resV,resL];cases resV1 fr h r<;>rfl
@[simp] theorem resV_two(fr:Fr)(h:Heap)(r s:VRes):resV fr h [r,s]=(resV1 fr h r).bind fun a=>(resV1 fr h s).map fun b=>.tup [a,b]:=by
  simp only[resV,resL];cases resV1 fr h r<;>cases resV1 fr h s<;>rfl
@[simp] theorem resV_three(fr:Fr)(h:Heap)(r s t:VRes):resV fr h [r,s,t]=(resV1 fr h r).bind fun a=>(resV1 fr h s).bind fun b=>(resV1 fr h t).map fun c=>.tup [a,b,c]:=by
  simp only[resV,resL];cases resV1 fr h r<;>cases resV1 fr h s<;>cases resV1 fr h t<;>rfl
@[simp] theorem resV_four(fr:Fr)(h:Heap)(r s t u:VRes):resV fr h [r,s,t,u]=(resV1 fr h r).bind fun a=>(resV1 fr h s).bind fun b=>(resV1 fr h t).bind fun c=>(resV1 fr h u).map fun d=>.tup [a,b,c,d]:=by
  simp only[resV,resL];cases resV1 fr h r<;>cases resV1 fr h s<;>cases resV1 fr h t<;>cases resV1 fr h u<;>rfl
@[simp] theorem resV1_tmp(fr:Fr)(h:Heap)(t:Nat):resV1 fr h (.tmp t)=some (lk fr t):=rfl
@[simp] theorem resV1_cell(fr:Fr)(h:Heap)(t:Nat)(agg:Bool)(n:Nat):resV1 fr h (.cell t agg n)=loadV h agg n (lk fr t):=rfl
@[simp] theorem frz_tup(h:Heap)(lo d:Nat)(vs:List V):frz lo h (d+1) (.tup vs)=(optL (frz lo h d) vs).map .tup:=by
  unfold frz
  split
  ·rename_i hc
   rw[optL_id vs fun v hv=>closed_frz (closedL_mem (by simpa[closedB]using hc) v hv)];rfl
  ·rfl
@[simp] theorem frz_iface(h:Heap)(lo d t:Nat)(v:V):frz lo h (d+1) (.iface t v)=(frz lo h d v).map (.iface t):=by
  conv=>lhs;unfold frz
  split
  ·rename_i hc
   rw[closed_frz (by simpa[closedB]using hc)];rfl
  ·rfl
@[simp] theorem frz_gsl(h:Heap)(d B ep z off len:Nat):frz 0 h (d+1) (.gsl B ep z off len)=(seen h B ep off len).bind fun es=>(optL (frz 0 h d) es).map fun es=>.sl z es .perm:=by
  conv=>lhs;unfold frz
  simp only[closedB_gsl,Bool.false_eq_true,if_false,Nat.not_lt_zero]
@[simp] theorem frz_ptr(h:Heap)(d B ep i o:Nat):frz 0 h (d+1) (.ptr B ep i o)=(blkAt h B ep).bind fun es=>(es[i]?).bind fun e=>(frz 0 h d e).map fun e=>.eptr e o .perm:=by
  conv=>lhs;unfold frz
  simp only[closedB_ptr,Bool.false_eq_true,if_false,Nat.not_lt_zero]
  unfold blkAt chkLen
  cases h[B]? with
  |none=>rfl
  |some b=>
   cases b<;>try rfl
   rename_i es;simp only;split<;>rfl
theorem optL_closed{lo d:Nat}{h:Heap}{l:List V}(hc:closedL l=true):optL (frz lo h d) l=some l:=optL_id _ fun v hv=>closed_frz (closedL_mem hc v hv)
attribute [simp ↓] dK_plain
attribute [simp] ldc_all closed_frz closed_fz viewV_below viewD_below optL_below optL_closed stc_all stc_cell stc_var chkLen_of subL_full
attribute [simp] V.cells
attribute [congr] obind_congr execK_congr runK_congr dK_congr evalK_congr condK_congr guardK_congr optK_congr callK_congr roK_congr ownK_congr rwK_congr dynK_congr invK_congr seqK_congr blkK_congr
def finW(rs:List VRes)(ex:Ex)(fr:Fr)(h1:Heap):Option (V ×Heap):=
 match ex with
 |.brk _=>none
 |_=>(resV fr h1 rs).map fun v=>(v,h1)
@[simp ↓] theorem finW_nrm(rs:List VRes)(fr:Fr)(h:Heap):finW rs .nrm fr h=(resV fr h rs).map fun v=>(v,h):=rfl
@[simp ↓] theorem finW_ret(rs:List VRes)(fr:Fr)(h:Heap):finW rs .ret fr h=(resV fr h rs).map fun v=>(v,h):=rfl
theorem call_K{vp:VP}{f:Nat}{vf:VFunc}(hf:vp.fn f=some vf)(lo:Nat)(args:List V)(h:Heap):
 (orc vp).call f lo args h=execK (orc vp) vp lo vf.body (parms 0 args) h (finW vf.results):=by
 rw[orc_call]
 unfold stepCall execK
 simp only[hf,Option.bind_some]
 cases exec (orc vp) vp lo vf.body (parms 0 args) h with
 |none=>rfl
 |some r=>obtain⟨ex,fr,h⟩:=r;cases ex<;>rfl
@[simp] theorem blkAt_app(h t:Heap)(n ep:Nat):blkAt (h++t) (h.length+n) ep=blkAt t n ep:=by
  unfold blkAt;rw[List.getElem?_append_right (by omega)];simp
@[simp] theorem blkAt_app0(h t:Heap)(ep:Nat):blkAt (h++t) h.length ep=blkAt t 0 ep:=blkAt_app h t 0 ep
@[simp] theorem set_app(h t:Heap)(n:Nat)(b:Blk):(h++t).set (h.length+n) b=h++t.set n b:=by
  rw[List.set_append_right _ _ (by omega)];simp
@[simp] theorem set_app0(h t:Heap)(b:Blk):(h++t).set h.length b=h++t.set 0 b:=set_app h t 0 b
theorem appV_at{lo z bytes B ep:Nat}{es ns:List V}{h:Heap}(hg:h[B]? =some (.arr es))(hep:es.length=ep)(hlo:lo≤B)(hn:ns.isEmpty=false)(hr:(ep+ns.length)*bytes≤roomB):
 appV lo h z bytes (.gsl B ep z 0 ep) ns=some (.gsl B (ep+ns.length) z 0 (ep+ns.length),h.set B (.arr (es++ns))):=by
 subst hep;simp[appV,hg,hlo,hn,hr]
end Go.VE
