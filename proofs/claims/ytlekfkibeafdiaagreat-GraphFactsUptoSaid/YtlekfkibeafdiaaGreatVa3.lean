/- Joined texts: VeStep3, VeCall, VeRegion, VeDraw1, VeDraw2, VeDraw, VeDraw3, VeDraw4. No condition: what each theorem needs stands in it. -/
import Derived.Test.YtlekfkibeafdiaaGreatVa2
import Derived.Tactics
import Derived.LoopN
import Derived.Orders
namespace Go.VE
set_option linter.unnecessarySimpa false
open Classical
section
variable {P : Program} {T : Tbl} {G : Gh} {w : World} {lo : Nat} {h : Zg}
theorem ZeA{z:V}{v:Value}(hz:XB z v=true):okV z=true:=by
 cases z<;>simp[XB]at hz<;>rfl
theorem Zky(a:Addr){v:Value}{w':World}(hl:(load a).run P w=.ok v w'):w'=w∧(load a).run P w.drew=.ok v w.drew:=by
 have e1:w.drew.cell? a=w.cell? a:=rfl
 have e2: ∀b,w.drew.farLoad P a b=w.farLoad P a b:=fun _=>rfl
 simp only[load,Sem.run,e1,e2]at hl⊢
 cases hc:w.cell? a with
 |some x=>simp[hc]at hl⊢;exact⟨hl.2.symm,hl.1⟩
 |none=>
  simp only[hc]at hl⊢
  split at hl
  ·rename_i x y hx
   simp[hx]at hl⊢;exact⟨hl.2.symm,hl.1⟩
  ·simp at hl
theorem ZeK(a:Addr): ∀(n i:Nat) (acc xs:Array Value) (w':World),(loadCellsFrom a i n acc).run P w=.ok xs w'→(loadCellsFrom a i n acc).run P w.drew=.ok xs w.drew
 |0,i,acc,xs,w',h=>by
  simp[loadCellsFrom]at h⊢;exact h.1
 |n+1,i,acc,xs,w',h=>by
  simp only[loadCellsFrom,Sem.run_bind]at h⊢
  cases hl:(load (a.add i)).run P w with
  |ok v w1=>
   obtain⟨hw,hd⟩:=Zky _ hl
   simp only[hl,Result.andThen_ok,hw]at h
   simp only[hd,Result.andThen_ok]
   exact ZeK a n (i+1) _ xs w' h
  |_=>simp[hl]at h
theorem KL{z n:Nat}{rx:Value}{xs:Array Value}{w':World}
 (h1:(Builtin.firstCells z n rx).run P w=.ok xs w'):(Builtin.firstCells z n rx).run P w.drew=.ok xs w.drew:=by
 unfold Builtin.firstCells at h1⊢
 split at h1
 ·exact ZeK _ _ _ _ _ _ h1
 ·simp at h1⊢;exact h1.1
 ·simp at h1⊢;exact h1.1
 ·simp at h1
theorem Zs1(inj: ∀i j t,T.tid i=some t→T.tid j=some t→i=j){O:Orc}{vp:VP}{op:Op}{v:VOp}(hc:VZ P T op v=true)(hn:Q6 v=false){fr:Fr}{a:Act}(hf:XF T G fr a.tmps)(hi:Zz T G lo h w){x:V}{h':Zg}
 (e:ZM O vp lo fr h v=some (x,h')) (dst:Option Tmp) (ty:TypeId) (pos:String) (after:Array Edge) (gd:Option (Nat ×Bool)):J0 P T lo G h w (execOp a.eval ⟨dst,op,ty,pos,after,gd⟩) x h':=by
 have ro: ∀{x y},ZQ T x y=true→R T G (opd fr y) (a.eval x):=fun h=>WL hf h
 have hc0:=hc
 unfold VZ at hc
 have pure_case:ZM O vp lo fr h v=(Zf fr v).map (fun y=>(y,h))→J0 P T lo G h w (execOp a.eval ⟨dst,op,ty,pos,after,gd⟩) x h':=by
  intro hev
  rw[hev,Option.map_eq_some_iff]at e
  obtain⟨y,hy,he⟩:=e
  simp only[Prod.mk.injEq]at he
  obtain⟨rfl,rfl⟩:=he
  exact Zp4 inj hc0 hf hi hy dst ty pos after gd
 split at hc
 ·exact pure_case rfl
 ·exact pure_case rfl
 ·
  simp only[ZM,Option.some.injEq,Prod.mk.injEq]at e
  obtain⟨rfl,rfl⟩:=e
  obtain⟨G',g1,g2,g3⟩:=Ze8 hi
  exact⟨.value (.slice none 0 0),.slice none 0 0,w,G',rfl,.inl rfl,.gsl _ _ _ _ _ _ _ g3 (Nat.le_refl _) (.inl rfl),g1,g2⟩
 ·exact pure_case rfl
 ·
  rename_i t z
  simp only[ZM,Option.some.injEq,Prod.mk.injEq]at e
  obtain⟨rfl,rfl⟩:=e
  unfold VR at hc
  split at hc
  ·rename_i zv hzv
   obtain⟨w',G',h1,h2,h3,h4⟩:=ZaZ (P:=P) hi (ZeA hc) (KQ _ _ hc) t
   refine .of ⟨_,w',G',?_,h4,h2,h3⟩
   simp[Instr.alloc,WC hzv,h1]
  ·simp at hc
 ·
  rename_i t xx y
  simp only[ZM]at e
  split at e
  ·rename_i hok
   simp only[Option.some.injEq,Prod.mk.injEq]at e
   obtain⟨rfl,rfl⟩:=e
   obtain⟨w',G',h1,h2,h3,h4⟩:=ZaZ (P:=P) hi hok (ro hc) t
   refine .of ⟨_,w',G',?_,h4,h2,h3⟩
   simp[Instr.box,h1]
  ·simp at e
 ·exact pure_case rfl
 ·exact pure_case rfl
 ·
  simp only[Bool.and_eq_true,beq_iff_eq]at hc
  obtain⟨⟨ha,hs⟩,hx⟩:=hc
  simp only[ZM,Option.map_eq_some_iff]at e
  obtain⟨y,hy,he⟩:=e
  simp only[Prod.mk.injEq]at he
  obtain⟨rfl,rfl⟩:=he
  obtain⟨rv,ad,h1,h2,h3⟩:=Zbv (P:=P) hi ha (fun hagg=>by rw[hagg]at hs;simpa using hs) hy (ro hx)
  refine .of' hi ⟨rv,?_,h3⟩
  simp[h1,Instr.loadAt,Instr.sureAddr,h2]
 ·
  rename_i t aa xx n fz b y
  simp only[Bool.and_eq_true,beq_iff_eq]at hc
  obtain⟨⟨hs,ha⟩,hx⟩:=hc
  simp only[ZM]at e
  cases fz with
  |true=>
   simp only[if_true,Option.bind_eq_some_iff,Option.map_eq_some_iff]at e
   obtain⟨r,hr,h2,hst,he⟩:=e
   simp only[Prod.mk.injEq]at he
   obtain⟨rfl,rfl⟩:=he
   obtain⟨G1,k1,k2,k3⟩:=ZrF _ hi (v':=r.1) (h':=r.2) hr
   obtain⟨w',G',m1,m2,m3⟩:=Zaa (P:=P) k1 hs hst ((ro ha).mono k2.le) (k3.2.2 _ (ro hx))
   exact .unit ⟨w',G',m1,m2,k2.trans m3⟩
  |false=>
   simp only[Bool.false_eq_true,if_false,Option.map_eq_some_iff]at e
   obtain⟨h2,hst,he⟩:=e
   simp only[Prod.mk.injEq]at he
   obtain⟨rfl,rfl⟩:=he
   obtain⟨w',G',m1,m2,m3⟩:=Zaa (P:=P) hi hs hst (ro ha) (ro hx)
   exact .unit ⟨w',G',m1,m2,m3⟩
 ·exact pure_case rfl
 ·exact pure_case rfl
 ·exact pure_case rfl
 ·exact pure_case rfl
 ·exact pure_case rfl
 ·exact pure_case rfl
 ·exact pure_case rfl
 ·exact pure_case rfl
 ·
  simp only[Bool.and_eq_true]at hc
  obtain⟨⟨ht,hl⟩,hcp⟩:=hc
  simp only[ZM]at e
  split at ht
  ·rename_i el hel
   simp only[Bool.and_eq_true,beq_iff_eq,decide_eq_true_eq]at ht
   obtain⟨⟨⟨⟨h1,h2⟩,h3⟩,h4⟩,h5⟩:=ht
   exact .of (ZnR hi e (ro hl) (ro hcp) hel h1 h2 h3 h4 h5)
  ·simp at ht
 ·exact pure_case rfl
 ·exact pure_case rfl
 ·exact pure_case rfl
 ·exact pure_case rfl
 ·exact pure_case rfl
 ·exact pure_case rfl
 ·exact pure_case rfl
 ·exact pure_case rfl
 ·exact pure_case rfl
 ·
  rename_i t xx y
  simp only[Bool.and_eq_true]at hc
  obtain⟨hk,hx⟩:=hc
  simp only[ZM]at e
  split at e
  ·rename_i l hl
   simp only[Option.some.injEq,Prod.mk.injEq]at e
   obtain⟨rfl,rfl⟩:=e
   have hR:=ro hx
   rw[hl]at hR
   obtain⟨s,hs1,hs2⟩:=hR.str_inv
   have hu:P.underlying t=some .string:=by
    obtain⟨d,hd,hk⟩:=XD hk
    cases d<;>simp[Um]at hk
    exact hd
   have:=ZpW (P:=P) (t:=t) hi hs2 hu
   refine .of ?_
   simp only[hs1]
   exact this
  ·simp at e
 ·
  simp only[ZM]at e
  obtain⟨rv,w',h1,h2,h3,h4⟩:=Zpg (P:=P) hi e (ro hc) ty
  exact .of ⟨rv,w',G,h1,h2,h3,h4⟩
 ·rename_i v' c
  split at hc
  ·exact pure_case rfl
  ·exact pure_case rfl
  ·
   rename_i z bytes fz s xx hcal
   split at hc
   ·rename_i s' x' t hargs hts
    have hca:c.args= #[s',x']:=Array.ext' hargs
    simp only[Bool.and_eq_true]at hc
    obtain⟨⟨⟨hel,h2⟩,hs⟩,hx⟩:=hc
    split at hel
    ·rename_i el hel2
     simp only[Bool.and_eq_true,beq_iff_eq,decide_eq_true_eq]at hel
     obtain⟨⟨⟨⟨⟨h3,h4⟩,h5⟩,h6⟩,h7⟩,h8⟩:=hel
     split at h8
     ·rename_i zv hzv
      have hzs:zv.cells.size=z:=by simpa using h8
      simp only[ZM,Option.bind_eq_some_iff]at e
      obtain⟨ns,hns,e⟩:=e
      obtain⟨xs,f1,f2,f3,f4⟩:=QC (P:=P) hi hns (ro hx)
      have fin: ∀{G1 h1 ns1},Zz T G1 lo h1 w→Stp lo G h w G1 h1 w→ns1.length=ns.length→Vk T G1 xs 0 z ns1→X3 lo h1 z bytes (opd fr s) ns1=some (x,h')→
       J0 P T lo G h w (execOp a.eval ⟨dst,.call c,ty,pos,after,gd⟩) x h':=by
       intro G1 h1 ns1 hi1 st hl hold ea
       have hfd:(Builtin.firstCells z ns.length (a.eval x')).run P w.drew=.ok xs w.drew:=KL f2
       obtain⟨rv,w',G',m1,m2,m3,m4⟩:=ZoS (P:=P) (ts:=c.argTypes) (ty:=ty) hi1 ea ((ro hs).mono st.le) hts (Uf hel2) h3 h5 hzv hzs (Zhl h2) h4 h6 h7
        (by rw[hl];exact f1) (by rw[hl];exact f2) (by rw[hl];exact hfd) (by rw[hl];exact f3) hold
       refine⟨.value rv,rv,w',G',?_,.inl rfl,m2,m3,st.trans m4⟩
       simp[execOp,resolve,hcal,invoke,builtin,hca,m1]
      cases fz with
      |true=>
       simp only[if_true,Option.bind_eq_some_iff]at e
       obtain⟨r,hr,e⟩:=e
       obtain⟨G1,k1,k2,k3,k4⟩:=Zl5 _ hi (l':=r.1) (h':=r.2) hr
       refine fin k1 k2 k3 (fun i e' hi'=> ?_) e
       obtain⟨v0,v1,v2,v3,v4⟩:=k4 i e' hi'
       obtain⟨q1,q2⟩:=f4 i v0 v1
       refine⟨by rw[v2,q1],fun j c' hj=> ?_⟩
       obtain⟨c0,c1,c2⟩:=v3 j c' hj
       obtain⟨rv,r1,r2,r3⟩:=q2 j c0 c1
       exact⟨rv,r1,c2 rv r2,r3⟩
      |false=>
       simp only[Bool.false_eq_true,if_false]at e
       exact fin hi (.refl _ _ _ _) rfl f4 e
     ·simp at h8
    ·simp at hel
   ·exact absurd hc (by simp)
  ·exact pure_case rfl
  ·exact pure_case rfl
  ·simp[Q6]at hn
  ·simp[Q6]at hn
  ·simp[Q6]at hn
  ·exact pure_case rfl
  ·exact absurd hc (by simp)
 ·exact pure_case rfl
 ·exact absurd hc (by simp)
end
end Go.VE
namespace Go.VE
set_option linter.unnecessarySimpa false
open Classical
def RA(T:Tbl)(G:Gh)(vs:List V)(as:Array Value):Prop:=
 vs.length=as.size∧∀(i:Nat) (v:V) (rv:Value),vs[i]? =some v→as[i]? =some rv→R T G v rv
theorem RA.mono{T:Tbl}{G G':Gh}(hG:G.le G'){vs:List V}{as:Array Value}(h:RA T G vs as):RA T G' vs as:=
 ⟨h.1,fun i v rv e1 e2=>(h.2 i v rv e1 e2).mono hG⟩
theorem RA.append{T:Tbl}{G:Gh}{vs vs':List V}{as as':Array Value}(h:RA T G vs as)(h':RA T G vs' as'):RA T G (vs++vs') (as++as'):=by
 refine⟨by simp[h.1,h'.1],fun i v rv e1 e2=> ?_⟩
 rcases Nat.lt_or_ge i vs.length with hl|hl
 ·rw[List.getElem?_append_left hl]at e1
  rw[Array.getElem?_append_left (by rw[←h.1];exact hl)]at e2
  exact h.2 i v rv e1 e2
 ·rw[List.getElem?_append_right hl]at e1
  rw[Array.getElem?_append_right (by rw[←h.1];exact hl),←h.1]at e2
  exact h'.2 _ v rv e1 e2
theorem RA.one{T:Tbl}{G:Gh}{v:V}{rv:Value}(h:R T G v rv):RA T G [v] #[rv]:=by
 refine⟨rfl,fun i x y e1 e2=> ?_⟩
 cases i with
 |zero=>simp at e1 e2;subst e1;subst e2;exact h
 |succ i=>simp at e1
theorem RA.nil{T:Tbl}{G:Gh}:RA T G [] #[]:=⟨rfl,by simp⟩
def Zov(T:Tbl)(lo:Nat)(G:Gh)(h:Zg)(w:World)(x:V)(h':Zg)(e:Ending)(w':World):Prop:=
 ∃rv G',e=.returned rv∧R T G' x rv∧Zz T G' lo h' w'∧Stp lo G h w G' h' w'
def VV(P:Program)(T:Tbl)(lo:Nat)(G:Gh)(h:Zg)(w:World)(s:Sem Next)(x:V)(h':Zg):Prop:=
 J0 P T lo G h w s x h'∨∃fid as,s.run P w=.ok (.enter fid as) w∧Calls P fid as w (Zov T lo G h w x h')
def Zat(P:Program)(T:Tbl)(f:Nat)(p:List V→Option V):Prop:=
 ∃fid,T.fid f=some fid∧∀G lo h w vs (as:Array Value) r,Zz T G lo h w→RA T G vs as→p vs=some r→Ze r=true∧VV P T lo G h w (callFunc fid as) r h
structure U6 (P:Program) (T:Tbl) (vp:VP):Prop where
 mix:P.follows .mixedOrders=true
 inj: ∀i j t,T.tid i=some t→T.tid j=some t→i=j
 fn: ∀f vf,vp.fn f=some vf→vf.ext=none→∃fid fn,T.fid f=some fid∧P.funcs[fid]? =some fn∧JS P T vp fn vf=true
 ext: ∀f vf p,vp.fn f=some vf→vf.ext=some p→Zat P T f p
 meth: ∀t m f,vp.meth t m=some f→∃tid fid,T.tid t=some tid∧T.fid f=some fid∧Zax P tid (T.mname m) fid=true
section
variable {P : Program} {T : Tbl} {vp : VP} {G : Gh} {w : World} {lo : Nat} {h : Zg}
def Xw(P:Program)(T:Tbl)(vp:VP)(n:Nat):Prop:=
 ∀f vf lo vs h r h',vp.fn f=some vf→vf.ext=none→(YV vp n).call f lo vs h=some (r,h')→∀G w fid (as:Array Value),T.fid f=some fid→Zz T G lo h w→RA T G vs as→Calls P fid as w (Zov T lo G h w r h')
theorem Zdw(hi:Zz T G lo h w){vs vs':List V}{as:Array Value}(e:Y5 (X5 h) vs=some vs')(hR:RA T G vs as):RA T (G.inner w) vs' as:=by
 obtain⟨h1,h2,h3⟩:=XM e
 refine⟨by rw[h1,hR.1],fun i v rv e1 e2=> ?_⟩
 obtain⟨v0,k1,k2⟩:=h3 i v e1
 exact Ztf hi k2 (hR.2 i v0 rv k1 e2)
theorem ZiA(hi:Zz T G lo h w){x x':V}{h1:Zg}{d:Nat}(hf:frz h.length h1 d x=some x'){rv:Value}{G1:Gh}{w1:World}(hR:R T G1 x rv)(hi1:Zz T G1 h.length h1 w1)
 (st:Stp h.length (G.inner w) h w G1 h1 w1): ∃G',R T G' x' rv∧Zz T G' lo h w1∧Stp lo G h w G' h w1:=by
 obtain⟨a,b,c⟩:=Ztb hi hi1 st
 exact⟨_,c d x x' rv hf hR,a,b⟩
theorem VV.ro{s:Sem Next}{x x':V}{h1:Zg}{d:Nat}(hi:Zz T G lo h w)(hf:frz h.length h1 d x=some x')(hg:VV P T h.length (G.inner w) h w s x h1):VV P T lo G h w s x' h:=by
 rcases hg with⟨nx,rv,w1,G1,k1,k2,k3,k4,k5⟩|⟨fid,as,k1,k2⟩
 ·obtain⟨G',r1,r2,r3⟩:=ZiA hi hf k3 k4 k5
  exact .inl ⟨nx,rv,w1,G',k1,k2,r1,r2,r3⟩
 ·refine .inr ⟨fid,as,k1,k2.mono fun e w1 ⟨rv,G1,q1,q2,q3,q4⟩=> ?_⟩
  obtain⟨G',r1,r2,r3⟩:=ZiA hi hf q2 q3 q4
  exact⟨rv,G',q1,r1,r2,r3⟩
theorem Zon{ow:Bool}(hi:Zz T G lo h w){x:V}{h1:Zg}{rv:Value}{G1:Gh}{w1:World}(hR:R T G1 x rv)(hi1:Zz T G1 lo h1 w1)(st:Stp lo G h w G1 h1 w1):
 ∃G',R T G' (WP vp ow h x h1).1 rv∧Zz T G' lo (WP vp ow h x h1).2 w1∧Stp lo G h w G' (WP vp ow h x h1).2 w1:=by
 unfold WP
 split
 ·rename_i hc
  simp only[Bool.and_eq_true]at hc
  have hold:=Zbj hc.2
  split
  ·rename_i r' hr
   refine⟨G1.drop lo h.length h1 w1 G1.Gb,?_,Kk hi1 st.mono.1 hi.llo (ZbH hi st hold),Zft hi st hi1 st.mono.1⟩
   refine ZnS hi1 hi.llo (fun b off v e=>K0 hi1 e) (fun B ep g hB e=> ?_) (Nat.le_refl _) (fun B es g off v hB e hs hv=> ?_) 4 x r' rv hr hR
   ·show(if B<h.length then G1.sg B ep else none)=some g
    rw[if_pos hB];exact e
   ·show(if Uo G1 lo h.length h1 g.b then w1.cell? ⟨g.b,off,none⟩else G1.Gp g.b off)=some v
    rw[if_pos ⟨B,es,g,hB,Nat.le_trans hi.llo hB,e,hs,rfl⟩];exact hv
  ·exact⟨G1,hR,hi1,st⟩
 ·exact⟨G1,hR,hi1,st⟩
def Gh.zero(G:Gh)(w:World):Gh where
 Gp:=G.Gp
 Gb b off:=w.cell? ⟨b,off,none⟩
 sg _ _:=none
 io _:=none
 n:=0
theorem ZgL(hi:Zz T G lo h w):Zz T (G.zero w) 0 [] w:=
 ⟨hi.gp,fun _ _ _ e=>e,Nat.le_refl _,Nat.le_refl _,fun _ _ _ e=>by simp[Gh.zero]at e,fun _ _ e=>by simp[Gh.zero]at e,fun _ _ _ _ e=>by simp at e,fun _ _ _ e=>by simp at e,fun _ _ _ _ e=>by simp at e,fun _ _ _ _ e=>by simp at e,fun _ _ _ _ _ e=>by simp at e⟩
theorem Zsq{v:V}{rv:Value}(h:R T (G.inner w) v rv)(hb:Zk 0 v=true):R T (G.zero w) v rv:=
 R.under (G:=G.inner w) (G':=G.zero w) (n:=0) (fun _ _ _ e=>e) (fun _ _ _ e=>e) (fun _ _ _ hB=>absurd hB (Nat.not_lt_zero _)) (fun _ _ hB=>absurd hB (Nat.not_lt_zero _)) (Nat.le_refl _) h hb
noncomputable def Gh.outer0 (G G1:Gh) (h1:Zg) (w1:World):Gh where
 Gp b off:=if Uo G1 0 0 h1 b then w1.cell? ⟨b,off,none⟩else G1.Gp b off
 Gb:=G.Gb
 sg:=G.sg
 io:=G.io
 n:=G.n
theorem ZfG{G1:Gh}{h1:Zg}{w1:World}(hi:Zz T G lo h w)(hi1:Zz T G1 0 h1 w1)(st:Stp 0 (G.zero w) [] w G1 h1 w1):Zz T (G.outer0 G1 h1 w1) lo h w1∧Stp lo G h w (G.outer0 G1 h1 w1) h w1∧
 ∀(d:Nat) (v v':V) (rv:Value),frz 0 h1 d v=some v'→R T G1 v rv→R T (G.outer0 G1 h1 w1) v' rv:=by
 have noown: ∀b,¬Own (G.zero w) 0 [] b:=by
  rintro b ⟨B,hl,⟨es,g,e,_⟩|⟨s,pos,e,_⟩⟩<;>simp at e
 have old: ∀b,b<w.heap.size→w1.heap[b]? =w.heap[b]? ∧(∀off,G1.Gp b off=G.Gp b off)∧¬Uo G1 0 0 h1 b:=fun b hb=>by
  obtain⟨k1,k2,k3⟩:=st.keep b hb (noown b)
  exact⟨k1,k2,fun hl=>k3 hl.own⟩
 have gpo: ∀b off,b<w.heap.size→(G.outer0 G1 h1 w1).Gp b off=G.Gp b off:=by
  intro b off hb
  show(if Uo G1 0 0 h1 b then w1.cell? ⟨b,off,none⟩else G1.Gp b off)=_
  rw[if_neg (old b hb).2.2];exact(old b hb).2.1 off
 have hle:G.le (G.outer0 G1 h1 w1):=⟨fun b off v e=>by rw[gpo b off (hi.gp_lt e)];exact e,fun _ _ _ e=>e,fun _ _ _ e=>e,fun _ _ e=>e,Nat.le_refl _⟩
 have hp1: ∀b off v,G1.Gp b off=some v→(G.outer0 G1 h1 w1).Gp b off=some v:=by
  intro b off v e
  show(if Uo G1 0 0 h1 b then w1.cell? ⟨b,off,none⟩else G1.Gp b off)=some v
  split
  ·exact hi1.gp _ _ _ e
  ·exact e
 refine⟨⟨fun b off v e=> ?_,fun b off v e=> ?_,hi.llo,hi.nle,hi.sdom,hi.idom,hi.eple,fun B es g e hs=> ?_,fun B s pos r e hr=> ?_,fun B es g hl e hs=> ?_,hi.iown⟩,⟨hle,st.os,st.tape,st.output,st.size,fun b hb hno=>⟨(old b hb).1,fun off=>gpo b off hb,hno⟩,rfl,fun _ _=>⟨fun _=>rfl,rfl⟩,.same fun _ _=>rfl⟩,fun d v v' rv hf hR=> ?_⟩
 ·have e':(if Uo G1 0 0 h1 b then w1.cell? ⟨b,off,none⟩else G1.Gp b off)=some v:=e
  split at e'
  ·exact e'
  ·exact hi1.gp _ _ _ e'
 ·have e':G.Gb b off=some v:=e
  rw[Xr (old b (hi.gb_lt e')).1];exact hi.gb _ _ _ e'
 ·obtain⟨c',t',fz',k1,k2,k3,k4,k6⟩:=hi.live _ _ _ e hs
  exact⟨c',t',fz',by rw[(old _ (XE k1)).1];exact k1,k2,k3,k4,k6.mono hle⟩
 ·obtain⟨s',k1,k2⟩:=hi.iter _ _ _ _ e hr
  exact⟨s',k1,by rw[(old _ (XE k2)).1];exact k2⟩
 ·obtain⟨k1,k2⟩:=hi.own _ _ _ hl e hs
  exact⟨fun off=>⟨by rw[gpo _ _ (hi.live_lt e hs)];exact(k1 off).1,(k1 off).2⟩,k2⟩
 ·refine ZnS hi1 (Nat.le_refl _) hp1 (fun B ep g hB e=>absurd hB (Nat.not_lt_zero _)) (Nat.zero_le _) (fun B es g off x hB e hs hx=> ?_) d v v' rv hf hR
  show(if Uo G1 0 0 h1 g.b then w1.cell? ⟨g.b,off,none⟩else G1.Gp g.b off)=some x
  rw[if_pos ⟨B,es,g,Nat.zero_le _,Nat.zero_le _,e,hs,rfl⟩];exact hx
theorem VV.zero{s:Sem Next}{x x':V}{h1:Zg}{d:Nat}(hi:Zz T G lo h w)(hf:frz 0 h1 d x=some x')(hg:VV P T 0 (G.zero w) [] w s x h1):VV P T lo G h w s x' h:=by
 rcases hg with⟨nx,rv,w1,G1,k1,k2,k3,k4,k5⟩|⟨fid,as,k1,k2⟩
 ·obtain⟨r2,r3,r1⟩:=ZfG hi k4 k5
  exact .inl ⟨nx,rv,w1,_,k1,k2,r1 d x x' rv hf k3,r2,r3⟩
 ·refine .inr ⟨fid,as,k1,k2.mono fun e w1 ⟨rv,G1,q1,q2,q3,q4⟩=> ?_⟩
  obtain⟨r2,r3,r1⟩:=ZfG hi q3 q4
  exact⟨rv,_,q1,r1 d x x' rv hf q2,r2,r3⟩
theorem RA.zero{vs:List V}{as:Array Value}(hR:RA T (G.inner w) vs as)(hb:Zo 0 vs=true):RA T (G.zero w) vs as:=
 ⟨hR.1,fun i v rv e1 e2=>Zsq (hR.2 i v rv e1 e2) (XG hb e1)⟩
theorem JB{fid:FuncId}{fn:Func}{c:Code}(hf:P.funcs[fid]? =some fn)(hn:fn.name≠ "runtime.NumGoroutine")(hb:fn.body=some c)(as:Array Value):(callFunc fid as).run P w=.ok (.enter fid as) w:=by
 simp[callFunc,hf,hn,hb]
theorem Jl{fn:Func}{vf:Zi}(hc:JS P T vp fn vf=true): ∃c,fn.body=some c∧fn.name≠ "runtime.NumGoroutine" ∧YE P T vp fn.ntmps c vf.body=true∧W5 P fn.results.toList vf.results=true:=by
 unfold JS at hc
 split at hc
 ·rename_i c hb
  simp only[Bool.and_eq_true,bne_iff_ne,ne_eq]at hc
  exact⟨c,hb,hc.2,hc.1.1,hc.1.2⟩
 ·simp at hc
theorem JZ(tied:U6 P T vp){n:Nat}(ih:Xw P T vp n){f:Nat}{vs:List V}{x:V}{h':Zg}(e:Xq (YV vp n) vp lo h f vs=some (x,h'))(hi:Zz T G lo h w){as:Array Value}(hR:RA T G vs as){fid:FuncId}
 (hf:T.fid f=some fid):VV P T lo G h w (callFunc fid as) x h':=by
 unfold Xq at e
 cases hv:vp.fn f with
 |none=>simp[hv]at e
 |some vf=>
  simp only[hv]at e
  cases hx:vf.ext with
  |some p=>
   simp only[hx,Option.map_eq_some_iff,Option.bind_eq_some_iff]at e
   obtain⟨r,⟨vs',hvs,hp⟩,he⟩:=e
   simp only[Prod.mk.injEq]at he
   obtain⟨rfl,rfl⟩:=he
   obtain⟨fid',hf',hext⟩:=tied.ext f vf p hv hx
   rw[hf]at hf';simp only[Option.some.injEq]at hf';subst hf'
   obtain⟨c1,c2⟩:=hext _ _ _ _ _ _ _ (K3 hi).1 (Zdw hi hvs hR) hp
   exact .ro (d:=4) hi (UL c1) c2
  |none=>
   obtain⟨fid',fn,hf',hfn,hc⟩:=tied.fn f vf hv hx
   rw[hf]at hf';simp only[Option.some.injEq]at hf';subst hf'
   obtain⟨c,hb,hnm,_,_⟩:=Jl hc
   have hrun:=JB (w:=w) hfn hnm hb as
   simp only[hx]at e
   split at e
   ·simp only[Option.map_eq_some_iff]at e
    obtain⟨r,hr,he⟩:=e
    have hcall:=ih f vf lo vs h r.1 r.2 hv hx hr G w fid as hf hi hR
    refine .inr ⟨fid,as,hrun,hcall.mono fun en w1 ⟨rv,G1,q1,q2,q3,q4⟩=> ?_⟩
    obtain⟨G',r1,r2,r3⟩:=Zon hi q2 q3 q4
    rw[he]at r1 r2 r3
    exact⟨rv,G',q1,r1,r2,r3⟩
   ·simp only[Option.bind_eq_some_iff]at e
    obtain⟨vs',hvs,e⟩:=e
    split at e
    ·rename_i hb
     simp only[Option.bind_eq_some_iff,Option.map_eq_some_iff]at e
     obtain⟨r,hr,y,hy,he⟩:=e
     simp only[Prod.mk.injEq]at he
     obtain⟨rfl,rfl⟩:=he
     have hcall:=ih f vf 0 vs' [] r.1 r.2 hv hx hr (G.zero w) w fid as hf (ZgL hi) ((Zdw hi hvs hR).zero hb)
     exact .zero hi hy (.inr ⟨fid,as,hrun,hcall⟩)
    ·simp only[Option.bind_eq_some_iff,Option.map_eq_some_iff]at e
     obtain⟨r,hr,y,hy,he⟩:=e
     simp only[Prod.mk.injEq]at he
     obtain⟨rfl,rfl⟩:=he
     have hcall:=ih f vf h.length vs' h r.1 r.2 hv hx hr (G.inner w) w fid as hf (K3 hi).1 (Zdw hi hvs hR)
     exact .ro hi hy (.inr ⟨fid,as,hrun,hcall⟩)
theorem ZhI{tid:TypeId}{name:String}{fid:FuncId}(hm:Zax P tid name fid=true)(n:Nat)(v:Value):(method (n+1) tid v name).run P w=.ok (fid,v) w:=by
 unfold Zax at hm
 split at hm
 ·rename_i m hmm
  cases hinf:P.info? tid with
  |none=>simp[hinf]at hmm
  |some i=>
   simp only[hinf,Option.bind_some]at hmm
   simp only[Bool.and_eq_true]at hm
   obtain⟨⟨hp,hf⟩,hk⟩:=hm
   split at hf
   ·rename_i g hg
    have hgf:g=fid:=by simpa using hf
    subst hgf
    obtain⟨d,hd,hk⟩:=XD hk
    have hp':m.path.toList=[]:=by
     have:m.path= #[]:=by simpa using hp
     simp[this]
    have hrec:(receiverAt tid (.val v) false (if m.path.isEmpty then some ((name.splitOn ".").getLastD name)else none)).run P w=.ok v w:=by
     cases d<;>simp at hk<;>simp[receiverAt,ZB hd,Place.get]
    simp only[method,Sem.run_bind,VN hinf,Result.andThen_ok,hmm,hp',follow,Sem.run_pure,hg,hrec]
   ·simp at hf
 ·simp at hm
theorem Zw0(tied:U6 P T vp){n:Nat}(ih:Xw P T vp n){op:Op}{v:VOp}(hc:VZ P T op v=true){fr:Fr}{a:Act}(hf:XF T G fr a.tmps)(hi:Zz T G lo h w){x:V}{h':Zg}
 (e:ZM (YV vp n) vp lo fr h v=some (x,h')) (dst:Option Tmp) (ty:TypeId) (pos:String) (after:Array Edge) (gd:Option (Nat ×Bool)):VV P T lo G h w (execOp a.eval ⟨dst,op,ty,pos,after,gd⟩) x h':=by
 by_cases hn:Q6 v=true
 ·have ras: ∀{l:List Operand} {r:List Z3},XY T l r=true→RA T G (r.map (opd fr)) (l.map a.eval).toArray:=fun hh=>by
   obtain⟨p1,p2⟩:=VA hf _ _ hh
   exact⟨by simpa using p1,fun i v rv e1 e2=>p2 i v rv e1 (by simpa using e2)⟩
  unfold VZ at hc
  split at hc<;>first|(simp[Q6]at hn;done)|skip
  rename_i v' c
  have hm:(c.args.toList.map a.eval).toArray=c.args.map a.eval:=by apply Array.ext';simp
  split at hc<;>first|(simp[Q6]at hn;done)|skip
  ·
   rename_i f i xs hcal
   simp only[Bool.and_eq_true,beq_iff_eq]at hc
   obtain⟨ht,hx⟩:=hc
   have hr:=ras hx
   rw[hm]at hr
   have hex:execOp a.eval ⟨dst,.call c,ty,pos,after,gd⟩=callFunc f (c.args.map a.eval):=by
    simp[execOp,resolve,hcal,Act.eval,Deferred.ofValue,invoke]
   rw[hex]
   exact JZ tied ih e hi hr ht
  ·
   rename_i t ro y xs hcal
   simp only[Bool.and_eq_true]at hc
   obtain⟨hy,hx⟩:=hc
   have hr:=ras hx
   rw[hm]at hr
   have hR:=WL hf hy
   simp only[ZM]at e
   split at e
   ·rename_i f as bs hfv
    rw[hfv]at hR
    obtain⟨fid,ra,rb,hev,ht,h1,h2,h3,h4⟩:=hR.func_inv
    split at e
    ·simp at e
    ·have hex:execOp a.eval ⟨dst,.call c,ty,pos,after,gd⟩=callFunc fid (ra++c.args.map a.eval++rb):=by
      simp[execOp,resolve,hcal,hev,Deferred.ofValue,invoke]
     rw[hex]
     exact JZ tied ih e hi ((RA.append ⟨h1,h3⟩ hr).append ⟨h2,h4⟩) ht
   ·simp at e
  ·
   rename_i r m i y xs hcal
   simp only[Bool.and_eq_true,beq_iff_eq]at hc
   obtain⟨⟨hmn,hy⟩,hx⟩:=hc
   have hr:=ras hx
   rw[hm]at hr
   have hR:=WL hf hy
   simp only[ZM]at e
   split at e
   ·rename_i t v0 hfv
    simp only[Option.bind_eq_some_iff]at e
    obtain⟨f,hmt,e⟩:=e
    rw[hfv]at hR
    obtain⟨tid,rv,hev,ht,h1⟩:=hR.iface_inv
    obtain⟨tid',fid,ht',hf',hmo⟩:=tied.meth _ _ _ hmt
    rw[ht]at ht';simp only[Option.some.injEq]at ht';subst ht'
    rw[hmn]at hmo
    have hcm:(execOp a.eval ⟨dst,.call c,ty,pos,after,gd⟩).run P w=(callFunc fid (#[rv]++c.args.map a.eval)).run P w:=by
     have hmr:=ZhI (w:=w) hmo (P.types.size+Made.depth-1) rv
     have hd:P.types.size+Made.depth-1+1=P.types.size+Made.depth:=by
      have:0<Made.depth:=by decide
      omega
     rw[hd]at hmr
     have key: ∀args:Array Value,(invoke (.fn (.method m) #[]) (#[.iface tid rv]++args)).run P w=(callFunc fid (#[rv]++args)).run P w:=by
      intro args
      have hargs:(#[Value.iface tid rv]++args).extract 1 (#[Value.iface tid rv]++args).size=args:=by
       apply Array.ext'
       simp only[Array.toList_extract,Array.toList_append,Array.size_append]
       simp[List.take_of_length_le]
      have h0:(#[Value.iface tid rv]++args)[0]? =some (.iface tid rv):=by
       rw[Array.getElem?_append_left (by show 0<1;omega)];rfl
      unfold invoke
      simp only[h0,hargs,callMethod]
      simp[program,Sem.run,hmr]
     have:execOp a.eval ⟨dst,.call c,ty,pos,after,gd⟩=invoke (.fn (.method m) #[]) (#[.iface tid rv]++c.args.map a.eval):=by
      simp only[execOp,resolve,hcal,hev]
      rfl
     rw[this]
     exact key _
    have:=JZ tied ih e hi (RA.append (.one h1) hr) hf'
    rcases this with⟨nx,rv',w1,G1,k1,k2⟩|⟨f1,a1,k1,k2⟩
    ·exact .inl ⟨nx,rv',w1,G1,hcm.trans k1,k2⟩
    ·exact .inr ⟨f1,a1,hcm.trans k1,k2⟩
   ·simp at e
  ·exact absurd hc (by simp)
  ·exact absurd hc (by simp)
 ·exact .inl (Zs1 tied.inj hc (by simpa using hn) hf hi e dst ty pos after gd)
theorem VV.wp{o:Oper}{a:Act}{x:V}{h':Zg}(hg:VV P T lo G h w (execOp a.eval o) x h'){next:Act→World→Prop}{Q:Exit→Act→World→Prop}
 (hn: ∀rv w' G',R T G' x rv→Zz T G' lo h' w'→Stp lo G h w G' h' w'→next (a.put o.dst rv) w'):o.wp P a w next Q:=by
 unfold Oper.wp
 rcases hg with⟨nx,rv,w1,G1,k1,k2,k3,k4,k5⟩|⟨fid,as,k1,k2⟩
 ·rw[k1]
  rcases k2 with rfl|⟨rfl,rfl⟩
  ·exact hn rv w1 G1 k3 k4 k5
  ·exact hn _ w1 G1 k3 k4 k5
 ·rw[k1]
  refine k2.mono fun e w1 ⟨rv,G1,q1,q2,q3,q4⟩=> ?_
  subst q1
  exact hn rv w1 G1 q2 q3 q4
end
end Go.VE
namespace Go.VE
set_option linter.unnecessarySimpa false
open Classical
theorem ZeV(O:Orc)(vp:VP)(lo:Nat)(it:VIt)(r:List VIt)(fr:Fr)(h:Zg):YN O vp lo (it::r) fr h=(ZY O vp lo it fr h).bind fun x=>YN O vp lo r (put fr it.dst x.1) x.2:=rfl
def St(T:Tbl)(lo:Nat)(G0:Gh)(h0:Zg)(w0:World)(n:Nat)(fr:Fr)(h:Zg)(a:Act)(w:World):Prop:=
 ∃G,XF T G fr a.tmps∧Zz T G lo h w∧Stp lo G0 h0 w0 G h w∧a.defers=[]∧n≤a.tmps.size
section
variable {P : Program} {T : Tbl} {vp : VP} {G : Gh} {w : World} {lo : Nat} {h : Zg} {G0 : Gh} {w0 : World} {h0 : Zg}
theorem XF.aput{fr:Fr}{a:Act}(hf:XF T G fr a.tmps){v:V}{rv:Value}(hv:R T G v rv)(dst:Option Nat)(hd: ∀d,dst=some d→d<a.tmps.size):
 XF T G (VE.put fr dst v) (a.put dst rv).tmps:=by
 have:=XF.put hf hv dst hd
 cases dst<;>exact this
theorem VB(a:Act)(dst:Option Nat)(rv:Value):(a.put dst rv).tmps.size=a.tmps.size∧(a.put dst rv).defers=a.defers:=by
 cases dst<;>simp[Act.put]
theorem Kt{o:Oper}(hg:o.guard=none)(y:Nat→Option Bool):Region.wanted o y=true:=by simp[Region.wanted,hg]
theorem Kq{ops:Array Oper}{o:Oper}{j:Nat}{want:Bool}(hg:o.guard=some (j,want)){t:Nat}(hd:(ops[j]?).bind (·.dst)=some t){fr:Fr}{a:Act}(hf:XF T G fr a.tmps){b:Bool}(hb:lk fr t=.bool b):
 Region.wanted o (yielded ops a.tmps)=decide (b=want):=by
 have:=hf t
 rw[hb]at this
 have hv:=this.bool_inv
 have hv':a.tmps[t]? =some (.bool b):=by
  rw[Array.getD_eq_getD_getElem?]at hv
  cases hx:a.tmps[t]? with
  |none=>rw[hx]at hv;simp[undef]at hv
  |some y=>rw[hx]at hv;simpa using hv
 simp only[Region.wanted,hg,yielded,hd,Option.bind_some,hv']
 cases b<;>cases want<;>rfl
theorem QX{ops:Array Oper}{o:Oper}{j:Nat}{want:Bool}(hg:o.guard=some (j,want)){t:Nat}(hd:(ops[j]?).bind (·.dst)=some t){fr:Fr}{a:Act}(hf:XF T G fr a.tmps)(hb:lk fr t=.tup []):
 Region.wanted o (yielded ops a.tmps)=false:=by
 have:=hf t
 rw[hb]at this
 obtain⟨c,hv,h1,_⟩:=this.tup_inv
 rw[Array.getD_eq_getD_getElem?]at hv
 cases hx:a.tmps[t]? with
 |none=>simp[Region.wanted,hg,yielded,hd,hx]
 |some y=>
  rw[hx]at hv
  have:y=.tuple c:=by simpa using hv
  subst this
  simp[Region.wanted,hg,yielded,hd,hx]
theorem V9{ops:Array Oper}{n:Nat}{o:Oper}{it:VIt}(hc:Zaw P T ops n o it=true):o.dst=it.dst∧(∀d,o.dst=some d→d<n)∧VZ P T o.op it.op=true∧
 ((o.guard=none∧it.g=none)∨∃j want t,o.guard=some (j,want)∧it.g=some (t,want)∧(ops[j]?).bind (·.dst)=some t):=by
 unfold Zaw at hc
 simp only[Bool.and_eq_true,beq_iff_eq]at hc
 obtain⟨⟨⟨h1,h2⟩,h3⟩,h4⟩:=hc
 refine⟨h1,fun d hd=> ?_,h4,?_⟩
 ·rw[hd]at h2;simpa using h2
 ·split at h3
  ·rename_i e1 e2;exact .inl ⟨e1,e2⟩
  ·rename_i j w0 t w' e1 e2
   simp only[Bool.and_eq_true,beq_iff_eq]at h3
   obtain⟨rfl,h3⟩:=h3
   exact .inr ⟨j,w0,t,e1,e2,h3⟩
  ·simp at h3
theorem Zfk(tied:U6 P T vp){n:Nat}(ih:Xw P T vp n){ops:Array Oper}{nt:Nat}{o:Oper}{it:VIt}(hc:Zaw P T ops nt o it=true){fr:Fr}{a:Act}(hf:XF T G fr a.tmps)(hi:Zz T G lo h w)
 {x:V} {h':Zg} (e:ZY (YV vp n) vp lo it fr h=some (x,h')) {next:Act→World→Prop} {Q:Exit→Act→World→Prop}
 (hn: ∀rv w' G',R T G' x rv→Zz T G' lo h' w'→Stp lo G h w G' h' w'→next (a.put o.dst rv) w'):if Region.wanted o (yielded ops a.tmps)then o.wp P a w next Q∨(o.asks P a w∧LetsOut Q)else next (a.put o.dst undef) w:=by
 obtain⟨h1,h2,h3,h4⟩:=V9 hc
 have run:ZM (YV vp n) vp lo fr h it.op=some (x,h')→o.wp P a w next Q:=fun e=>by
  obtain⟨dst,op,ty,pos,after,gd⟩:=o
  exact(Zw0 tied ih h3 hf hi e dst ty pos after gd).wp hn
 have pass:some (Ya,h)=some (x,h')→next (a.put o.dst undef) w:=fun e=>by
  simp only[Option.some.injEq,Prod.mk.injEq]at e
  obtain⟨rfl,rfl⟩:=e
  exact hn _ w G (.tup [] #[] rfl (by simp)) hi (.refl _ _ _ _)
 unfold ZY at e
 rcases h4 with⟨g1,g2⟩|⟨j,want,t,g1,g2,g3⟩
 ·rw[Kt g1]
  simp only[g2]at e
  exact .inl (run e)
 ·simp only[g2]at e
  split at e
  ·rename_i b hb
   rw[Kq g1 g3 hf hb]
   by_cases hw:b=want
   ·simp only[hw,decide_true,if_true]at e⊢
    exact .inl (run e)
   ·simp only[hw,decide_false,if_false,Bool.false_eq_true]at e⊢
    exact pass e
  ·rename_i hb
   rw[QX g1 g3 hf hb]
   exact pass e
  ·simp at e
theorem Zh9(tied:U6 P T vp){n:Nat}(ih:Xw P T vp n){ops:Array Oper}{nt:Nat}{Q:Exit→Act→World→Prop}{fr':Fr}{h':Zg}(hQ: ∀a w,St T lo G0 h0 w0 nt fr' h' a w→Q .normal a w): ∀(l:List Oper) (its:List VIt) (fr:Fr) (h:Zg) (a:Act) (w:World),Qp P T ops nt l its=true→YN (YV vp n) vp lo its fr h=some (fr',h')→St T lo G0 h0 w0 nt fr h a w→wpList P ops Q l a w
 |[],[],fr,h,a,w,hc,e,hs=>by
  simp only[YN,Option.some.injEq,Prod.mk.injEq]at e
  obtain⟨rfl,rfl⟩:=e
  exact hQ a w hs
 |[],_::_,_,_,_,_,hc,_,_=>by simp[Qp]at hc
 |_::_,[],_,_,_,_,hc,_,_=>by simp[Qp]at hc
 |o::l,it::its,fr,h,a,w,hc,e,hs=>by
  simp only[Qp,Bool.and_eq_true]at hc
  obtain⟨hc1,hc2⟩:=hc
  rw[ZeV,Option.bind_eq_some_iff]at e
  obtain⟨⟨x,h1⟩,e1,e2⟩:=e
  obtain⟨G,s1,s2,s3,s4,s5⟩:=hs
  obtain⟨d1,d2,_,_⟩:=V9 hc1
  simp only[wpList]
  refine Zfk tied ih hc1 s1 s2 e1 fun rv w' G' r1 r2 r3=> ?_
  refine Zh9 tied ih hQ l its _ h1 _ w' hc2 e2 ⟨G',?_,r2,s3.trans r3,?_,?_⟩
  ·rw[←d1]
   exact(s1.mono r3.le).aput r1 _ fun d hd=>Nat.lt_of_lt_of_le (d2 d hd) s5
  ·rw[(VB _ _ _).2];exact s4
  ·rw[(VB _ _ _).1];exact s5
theorem ZlE(tied:U6 P T vp){n:Nat}(ih:Xw P T vp n){id:Nat}{ops:Array Oper}{nt:Nat}{its:List VIt}(hc:Qp P T ops nt ops.toList its=true){fr fr':Fr}{h':Zg}{a:Act}
 (e:YN (YV vp n) vp lo its fr h=some (fr',h')) (hs:St T lo G0 h0 w0 nt fr h a w) {Q:Exit→Act→World→Prop} (hQ: ∀a w,St T lo G0 h0 w0 nt fr' h' a w→Q .normal a w):(Code.region id ops false).wp P Q a w:=by
 refine wp_region ?_
 have:List.range ops.size=List.range' 0 ops.toList.length:=by rw[List.range_eq_range'];simp
 rw[this,wpOps_eq_wpList ops.toList 0 (fun j=>by simp)]
 exact Zh9 tied ih hQ _ _ _ _ _ _ hc e hs
end
end Go.VE
namespace Go.VE
set_option linter.unnecessarySimpa false
open Classical
section
variable {P : Program} {T : Tbl} {vp : VP}
structure Zah (P:Program) (T:Tbl) (vp:VP) (ops:Array Oper) (nt:Nat) (ds:List VDt) (q:Nat) (d:VDt):Prop where
 other: ∀p d',p<q→ds[p]? =some d'→d'.ix≠d.ix
 lt:d.ix<ops.size
 chk:Zaw P T ops nt (ops.getD d.ix default) d.it=true
 edge: ∀e∈(ops.getD d.ix default).after.toList,Region.binds .any e=true→∃p d',p<q∧ds[p]? =some d'∧d'.ix=e.on
 bits: ∀i,d.bm.testBit i=true→∃e∈(ops.getD d.ix default).after.toList,Region.binds .any e=true∧(e.on=i∨∃p d',p<q∧ds[p]? =some d'∧d'.ix=e.on∧d'.bm.testBit i=true)
 pair: ∀p d',p<q→ds[p]? =some d'→d.bm.testBit d'.ix=true∨Qt vp p d' d=true
theorem Qd{done:List (Nat ×VDt)}: ∀{es:List Edge} {m:Nat},J8 done es=some m→(∀e∈es,Region.binds .any e=true→∃x∈done,x.2.ix=e.on)∧(∀i,m.testBit i=true→∃e∈es,Region.binds .any e=true∧(e.on=i∨∃x∈done,x.2.ix=e.on∧x.2.bm.testBit i=true))
 |[],m,h=>by
  simp[J8]at h
  subst h
  simp
 |e::es,m,h=>by
  unfold J8 at h
  split at h
  ·rename_i hb
   split at h
   ·rename_i x hx
    simp only[Option.map_eq_some_iff]at h
    obtain⟨m',hm,rfl⟩:=h
    obtain⟨k1,k2⟩:=Qd hm
    have hxm:=List.mem_of_find?_eq_some hx
    have hxi:x.2.ix=e.on:=by simpa using List.find?_some hx
    refine⟨fun e' he' hb'=> ?_,fun i hi=> ?_⟩
    ·rcases List.mem_cons.1 he' with rfl|he'
     ·exact⟨x,hxm,hxi⟩
     ·exact k1 e' he' hb'
    ·simp only[Nat.testBit_or,Bool.or_eq_true,Nat.testBit_two_pow,decide_eq_true_eq]at hi
     rcases hi with(hi|hi)|hi
     ·obtain⟨e',he',hr⟩:=k2 i hi
      exact⟨e',List.mem_cons_of_mem _ he',hr⟩
     ·exact⟨e,List.mem_cons_self,hb,.inl hi⟩
     ·exact⟨e,List.mem_cons_self,hb,.inr ⟨x,hxm,hxi,hi⟩⟩
   ·exact absurd h (by simp)
  ·rename_i hb
   obtain⟨k1,k2⟩:=Qd h
   refine⟨fun e' he' hb'=> ?_,fun i hi=> ?_⟩
   ·rcases List.mem_cons.1 he' with rfl|he'
    ·exact absurd hb' hb
    ·exact k1 e' he' hb'
   ·obtain⟨e',he',hr⟩:=k2 i hi
    exact⟨e',List.mem_cons_of_mem _ he',hr⟩
theorem Zbn{ops:Array Oper}{nt:Nat}{ds:List VDt}: ∀(r:List VDt) (p:Nat) (done:List (Nat ×VDt)),ds.drop p=r→(∀x,x∈done↔x.1<p∧ds[x.1]? =some x.2)→ZpB P T vp ops nt p done r=true→∀q d,p≤q→ds[q]? =some d→Zah P T vp ops nt ds q d
 |[],p,done,hr,hd,hc,q,d,hq,he=>by
  have:ds.length≤p:=List.drop_eq_nil_iff.1 hr
  rw[List.getElem?_eq_none (by omega)]at he
  simp at he
 |d0::r,p,done,hr,hd,hc,q,d,hq,he=>by
  have hp:ds[p]? =some d0:=by
   have:=congrArg (·[0]?) hr
   simpa using this
  have hr':ds.drop (p+1)=r:=by
   have:=congrArg List.tail hr
   simpa using this
  simp only[ZpB,Bool.and_eq_true,List.all_eq_true,decide_eq_true_eq,bne_iff_ne,ne_eq,beq_iff_eq,Bool.or_eq_true]at hc
  obtain⟨⟨⟨⟨⟨c1,c2⟩,c3⟩,c4⟩,c5⟩,c6⟩:=hc
  rcases Nat.eq_or_lt_of_le hq with rfl|hlt
  ·rw[hp]at he;simp only[Option.some.injEq]at he;subst he
   obtain⟨k1,k2⟩:=Qd c4
   refine⟨fun p' d' hlt he=>c1 (p',d') ((hd _).2 ⟨hlt,he⟩),c2,c3,fun e he hb=> ?_,fun i hi=> ?_,fun p' d' hlt he=>c5 (p',d') ((hd _).2 ⟨hlt,he⟩)⟩
   ·obtain⟨x,hx,hxi⟩:=k1 e he hb
    obtain⟨h1,h2⟩:=(hd x).1 hx
    exact⟨x.1,x.2,h1,h2,hxi⟩
   ·obtain⟨e,he,hb,hh⟩:=k2 i hi
    refine⟨e,he,hb,?_⟩
    rcases hh with hh|⟨x,hx,hxi,ht⟩
    ·exact .inl hh
    ·obtain⟨h1,h2⟩:=(hd x).1 hx
     exact .inr ⟨x.1,x.2,h1,h2,hxi,ht⟩
  ·refine Zbn r (p+1) ((p,d0)::done) hr' (fun x=> ?_) c6 q d hlt he
   constructor
   ·intro hx
    rcases List.mem_cons.1 hx with rfl|hx
    ·exact⟨Nat.lt_succ_self _,hp⟩
    ·obtain⟨h1,h2⟩:=(hd x).1 hx
     exact⟨by omega,h2⟩
   ·rintro⟨h1,h2⟩
    by_cases hx:x.1=p
    ·obtain⟨x1,x2⟩:=x
     simp only at hx h2
     subst hx
     rw[hp]at h2;simp only[Option.some.injEq]at h2;subst h2
     exact List.mem_cons_self
    ·exact List.mem_cons_of_mem _ ((hd x).2 ⟨by omega,h2⟩)
theorem ZfF{ops:Array Oper}{nt:Nat}{ds:List VDt}(h:Za4 P T vp ops nt ds=true):(∀q d,ds[q]? =some d→Zah P T vp ops nt ds q d)∧∀i,i<ops.size→∃(q:Nat) (d:VDt),ds[q]? =some d∧d.ix=i:=by
 simp only[Za4,Bool.and_eq_true,List.all_eq_true,List.any_eq_true,beq_iff_eq]at h
 refine⟨fun q d he=>Zbn ds 0 [] rfl (fun x=>by simp) h.1 q d (Nat.zero_le _) he,fun i hi=> ?_⟩
 obtain⟨d,hd,rfl⟩:=h.2 i (List.mem_range.2 hi)
 obtain⟨q,hq⟩:=List.mem_iff_getElem?.1 hd
 exact⟨q,d,hq,rfl⟩
structure Trc (O:Orc) (vp:VP) (lo:Nat) (ds:List VDt) (p0:Nat) (F:Nat→Fr) (H:Nat→Zg) (X:Nat→V):Prop where
 step: ∀p d,ds[p]? =some d→ZY O vp lo d.it (F p) (H p)=some (X p,H (p+1))∧F (p+1)=put (F p) d.it.dst (X p)
 chk: ∀l q dl dq agg n a,l<q→ds[l]? =some dl→ds[q]? =some dq→p0+l∈dq.xl→dl.it.op=.load agg n a→Yv (H l) agg n (opd (F l) a)=some (X l)→Yv (H (q+1)) agg n (opd (F l) a)=some (X l)
def cns{α:Type}(a:α)(f:Nat→α):Nat→α
 |0=>a
 |n+1=>f n
theorem Znr{O:Orc}{lo:Nat}: ∀(ds:List VDt) (p0:Nat) (rs:List Jf) (fr:Fr) (h:Zg) (r:Fr ×Zg),Ur O vp lo ds p0 rs fr h=some r→∃F H X,F 0=fr∧H 0=h∧F ds.length=r.1∧H ds.length=r.2∧Trc O vp lo ds p0 F H X∧∀e∈rs,∀q dq,ds[q]? =some dq→e.p∈dq.xl→Yv (H (q+1)) e.agg e.n e.a=some e.v
 |[],p0,rs,fr,h,r,e=>by
  simp only[Ur,Option.some.injEq]at e
  subst e
  exact⟨fun _=>fr,fun _=>h,fun _=>.undef,rfl,rfl,rfl,rfl,⟨fun p d hd=>by simp at hd,fun l q dl dq agg n a _ hd=>by simp at hd⟩,fun e _ q dq hd=>by simp at hd⟩
 |d::ds,p0,rs,fr,h,r,e=>by
  simp only[Ur,Option.bind_eq_some_iff]at e
  obtain⟨x,hx,e⟩:=e
  split at e
  ·rename_i hck
   obtain⟨F,H,X,k1,k2,k3,k4,k5,k6⟩:=Znr ds (p0+1) _ _ _ _ e
   refine⟨cns fr F,cns h H,cns x.1 X,rfl,rfl,k3,k4,⟨fun p d' hd=> ?_,fun l q dl dq agg n a hlt hl hq hm hop hld=> ?_⟩,fun y hy q dq hq hm=> ?_⟩
   ·cases p with
    |zero=>
     simp at hd;subst hd
     refine⟨?_,?_⟩
     ·show ZY O vp lo d.it fr h=some (x.1,H 0)
      rw[hx,k2]
     ·show F 0=put fr d.it.dst x.1
      exact k1
    |succ p=>exact k5.step p d' (by simpa using hd)
   ·cases q with
    |zero=>omega
    |succ q=>
     have hq':ds[q]? =some dq:=by simpa using hq
     cases l with
     |zero=>
      simp at hl;subst hl
      have hld':Yv h agg n (opd fr a)=some x.1:=hld
      have hmem:(⟨p0,agg,n,opd fr a,x.1⟩:Jf)∈Xg p0 d.it fr h x.1++rs:=by
       refine List.mem_append_left _ ?_
       simp only[Xg,hop]
       rw[if_pos (KE.2 hld')];exact List.mem_singleton.2 rfl
      exact k6 _ hmem q dq hq' (by simpa using hm)
     |succ l=>
      exact k5.chk l q dl dq agg n a (by omega) (by simpa using hl) hq' (by rw[show p0+1+l=p0+(l+1)by omega];exact hm) hop hld
   ·cases q with
    |zero=>
     simp at hq;subst hq
     show Yv (H 0) y.agg y.n y.a=some y.v
     rw[k2]
     have:=List.all_eq_true.1 hck y hy
     simp only[Bool.or_eq_true,Bool.not_eq_true',KE]at this
     rcases this with h0|h0
     ·rw[List.contains_iff_mem.2 hm]at h0;simp at h0
     ·exact h0
    |succ q=>exact k6 y (List.mem_append_right _ hy) q dq (by simpa using hq) hm
  ·exact absurd e (by simp)
theorem Zdb{l:List Z3}{n:Nat}(h:Z3.t n∈l):n∈VF l:=by
 induction l with
 |nil=>simp at h
 |cons x l ih=>
  rcases List.mem_cons.1 h with rfl|h'
  ·simp[VF]
  ·cases x<;>simp[VF,ih h']
theorem Ke{fr fr':Fr}{l:List Z3}(h: ∀t∈VF l,lk fr t=lk fr' t){y:Z3}(hy:y∈l):opd fr y=opd fr' y:=by
 cases y with
 |t n=>exact h n (Zdb hy)
 |c v=>rfl
theorem YT{fr fr':Fr}{l:List Z3}(h: ∀y∈l,opd fr y=opd fr' y):l.map (opd fr)=l.map (opd fr'):=List.map_congr_left h
theorem UD{fr fr':Fr}{x:Option Z3}(h: ∀y∈Jo x,opd fr y=opd fr' y):x.map (opd fr)=x.map (opd fr'):=by
 cases x with
 |none=>rfl
 |some y=>simp[h y (by simp[Jo])]
theorem Zdt{fr fr':Fr}{op:VOp}(h: ∀y∈KJ op,opd fr y=opd fr' y):Zf fr op=Zf fr' op:=by
 cases op<;>simp only[KJ,List.mem_cons,List.mem_append,List.not_mem_nil,or_false,forall_eq_or_imp,forall_eq]at h<;>simp only[Zf]
 case mv x=>rw[h]
 case pick c a b=>rw[h.1,h.2.1,h.2.2]
 case build z ps=>
  have h1: ∀p∈ps,opd fr p.2.2=opd fr' p.2.2:=fun p hp=>h _ (List.mem_map.2 ⟨p,hp,rfl⟩)
  have h2:(ps.map fun p=>(p.1,opd fr p.2.2))=ps.map fun p=>(p.1,opd fr' p.2.2):=List.map_congr_left fun p hp=>by rw[h1 p hp]
  have h3:(ps.all fun p=>(opd fr p.2.2).cells.length==p.2.1)=ps.all fun p=>(opd fr' p.2.2).cells.length==p.2.1:=by
   rw[Bool.eq_iff_iff]
   simp only[List.all_eq_true]
   exact⟨fun k p hp=>by rw[←h1 p hp];exact k p hp,fun k p hp=>by rw[h1 p hp];exact k p hp⟩
  rw[h2,h3]
 case buildSl n ps=>rw[YT h]
 case nilchk x=>rw[h]
 case bin op x y=>rw[h.1,h.2]
 case isnil k neg x=>rw[h]
 case eq neg ks x y=>rw[h.1,h.2]
 case un op x=>rw[h]
 case conv k x=>rw[h]
 case mkif t x=>rw[h]
 case mkfn f a b=>rw[YT fun y hy=>h y (.inl hy),YT fun y hy=>h y (.inr hy)]
 case slice n x lo hi mx=>rw[h.1,UD fun y hy=>h.2 y (.inl (.inl hy)),UD fun y hy=>h.2 y (.inl (.inr hy)),UD fun y hy=>h.2 y (.inr hy)]
 case faddr off x=>rw[h]
 case fld agg n off x=>rw[h]
 case iaddr n x i=>rw[h.1,h.2]
 case iaddrA len n x i=>rw[h.1,h.2]
 case idxS x i=>rw[h.1,h.2]
 case idxA len n agg x i=>rw[h.1,h.2]
 case tassert ty z ok x=>rw[h]
 case ext x i=>rw[h]
 case len text x=>rw[h]
 case mn xs=>rw[YT h]
 case mx xs=>rw[YT h]
theorem Zco{O:Orc}{lo:Nat}{fr fr':Fr}{hp:Zg}{op:VOp}(h: ∀y∈KJ op,opd fr y=opd fr' y):ZM O vp lo fr hp op=ZM O vp lo fr' hp op:=by
 have hpure:=Zdt h
 cases op<;>simp only[ZM]<;>first
  |(rw[hpure];done)
  |(simp only[KJ,List.mem_cons,List.mem_append,List.not_mem_nil,or_false,forall_eq_or_imp,forall_eq]at h)
 case box x=>rw[h]
 case load agg n a=>rw[h]
 case store n fz a x=>rw[h.1,h.2]
 case mksl z bytes a b=>rw[h.1,h.2]
 case app z bytes fz s x=>rw[h.1,h.2]
 case rng x=>rw[h]
 case nxt x=>rw[h]
 case call f xs=>rw[YT h]
 case calld ro f xs=>rw[h.1,YT h.2]
 case inv m r xs=>rw[h.1,YT h.2]
theorem ZdJ{O:Orc}{lo:Nat}{fr fr':Fr}{hp:Zg}{it:VIt}(h: ∀t∈UI it,lk fr t=lk fr' t):ZY O vp lo it fr hp=ZY O vp lo it fr' hp:=by
 have he:ZM O vp lo fr hp it.op=ZM O vp lo fr' hp it.op:=Zco fun y hy=>Ke (fun t ht=>h t (List.mem_append_left _ ht)) hy
 unfold ZY
 cases hg:it.g with
 |none=>exact he
 |some g=>
  obtain⟨t,want⟩:=g
  have ht:=h t (by simp[UI,hg])
  simp only[ht,he]
theorem ZaX{O:Orc}{lo:Nat}{fr:Fr}{hp:Zg}{op:VOp}(hc:Yc vp op=.reg):ZM O vp lo fr hp op=(Zf fr op).map fun v=>(v,hp):=by
 cases op<;>first|rfl|(simp[Yc]at hc;done)|(simp only[Yc]at hc;split at hc<;>simp at hc)
theorem ZbL{O:Orc}{lo lo':Nat}{hp h':Zg}{f:Nat}{vs:List V}{x:V}(hr:U1 vp f=true)(e:Xq O vp lo hp f vs=some (x,h')):h'=hp∧Xq O vp lo' hp f vs=some (x,h'):=by
 unfold Xq at e⊢
 unfold U1 at hr
 cases hv:vp.fn f with
 |none=>simp[hv]at e
 |some vf=>
  simp only[hv]at e hr⊢
  cases hx:vf.ext with
  |some p=>
   simp only[hx]at e⊢
   refine⟨?_,e⟩
   simp only[Option.map_eq_some_iff,Prod.mk.injEq]at e
   obtain⟨_,_,_,rfl⟩:=e;rfl
  |none=>
   simp only[hx]at e⊢
   have hrw:vf.rw=false:=by simpa[hx]using hr
   simp only[hrw,Bool.false_eq_true,if_false]at e⊢
   refine⟨?_,e⟩
   simp only[Option.bind_eq_some_iff]at e
   obtain⟨_,_,e⟩:=e
   split at e<;>
    (simp only[Option.bind_eq_some_iff,Option.map_eq_some_iff,Prod.mk.injEq]at e
     obtain⟨_,_,_,_,_,rfl⟩:=e;rfl)
theorem ZbU{O:Orc}{lo lo':Nat}{fr:Fr}{hp h':Zg}{op:VOp}{x:V}(hc:Yc vp op=.ro)(e:ZM O vp lo fr hp op=some (x,h')):h'=hp∧ZM O vp lo' fr hp op=some (x,h'):=by
 cases op<;>try (simp[Yc]at hc;done)
 case call f xs=>
  simp only[Yc]at hc
  split at hc
  ·exact ZbL ‹_› e
  ·simp at hc
 case calld ro f xs=>
  simp only[Yc]at hc
  split at hc
  ·rename_i hro
   simp only[ZM]at e⊢
   split at e
   ·split at e
    ·simp at e
    ·rename_i hn
     rw[if_neg hn]
     refine ZbL ?_ e
     cases hh:U1 vp _ with
     |true=>rfl
     |false=>exact absurd ⟨hro,hh⟩ hn
   ·simp at e
  ·simp at hc
theorem Vu{O:Orc}{lo:Nat}{it:VIt}{fr:Fr}{hp:Zg}{r:V ×Zg}(e:ZY O vp lo it fr hp=some r):(ZM O vp lo fr hp it.op=some r∧∀lo' hp' r',ZM O vp lo' fr hp' it.op=some r'→ZY O vp lo' it fr hp'=some r')∨
 (r=(Ya,hp)∧∀lo' hp',ZY O vp lo' it fr hp'=some (Ya,hp')):=by
 unfold ZY at e⊢
 cases hg:it.g with
 |none=>simp only[hg]at e⊢;exact .inl ⟨e,fun _ _ _ h=>h⟩
 |some g=>
  obtain⟨t,want⟩:=g
  simp only[hg]at e⊢
  split at e
  ·split at e
   ·rename_i hb
    simp only[if_pos hb]
    exact .inl ⟨e,fun _ _ _ h=>h⟩
   ·rename_i hb
    simp only[if_neg hb]
    simp only[Option.some.injEq]at e
    exact .inr ⟨e.symm,fun _ _=>trivial⟩
  ·simp only[Option.some.injEq]at e
   exact .inr ⟨e.symm,fun _ _=>rfl⟩
  ·simp at e
theorem Zab{O:Orc}{lo:Nat}{it:VIt}{fr:Fr}{hp h':Zg}{x:V}(hc:Yc vp it.op=.reg)(e:ZY O vp lo it fr hp=some (x,h')):h'=hp∧∀hp',ZY O vp lo it fr hp'=some (x,hp'):=by
 rcases Vu e with⟨h1,h2⟩|⟨h1,h2⟩
 ·rw[ZaX hc]at h1
  simp only[Option.map_eq_some_iff,Prod.mk.injEq]at h1
  obtain⟨v,hv,rfl,rfl⟩:=h1
  exact⟨rfl,fun hp'=>h2 lo hp' _ (by rw[ZaX hc,hv];rfl)⟩
 ·simp only[Prod.mk.injEq]at h1
  obtain⟨rfl,rfl⟩:=h1
  exact⟨rfl,fun hp'=>h2 lo hp'⟩
theorem Zeb{O:Orc}{lo:Nat}{it:VIt}{fr:Fr}{hp h':Zg}{x:V}(hc:Yc vp it.op=.ro)(e:ZY O vp lo it fr hp=some (x,h')):h'=hp∧∀lo',ZY O vp lo' it fr hp=some (x,h'):=by
 rcases Vu e with⟨h1,h2⟩|⟨h1,h2⟩
 ·exact⟨(ZbU (lo':=lo) hc h1).1,fun lo'=>h2 lo' hp _ (ZbU hc h1).2⟩
 ·simp only[Prod.mk.injEq]at h1
  obtain⟨rfl,rfl⟩:=h1
  exact⟨rfl,fun lo'=>h2 lo' _⟩
theorem KV{O:Orc}{lo:Nat}{it:VIt}{fr:Fr}{hp h':Zg}{x:V}(hc:Yc vp it.op=.ld)(e:ZY O vp lo it fr hp=some (x,h')):h'=hp∧∃agg n a,it.op=.load agg n a∧
 ((Yv hp agg n (opd fr a)=some x∧∀hp',Yv hp' agg n (opd fr a)=some x→ZY O vp lo it fr hp'=some (x,hp'))∨∀hp',ZY O vp lo it fr hp'=some (x,hp')):=by
 obtain⟨agg,n,a,ho⟩: ∃agg n a,it.op=.load agg n a:=by
  cases ho:it.op<;>rw[ho]at hc<;>first|exact⟨_,_,_,rfl⟩|(simp[Yc]at hc;done)|(simp only[Yc]at hc;split at hc<;>simp at hc)
 rcases Vu e with⟨h1,h2⟩|⟨h1,h2⟩
 ·rw[ho]at h1
  simp only[ZM,Option.map_eq_some_iff,Prod.mk.injEq]at h1
  obtain⟨v,hv,rfl,rfl⟩:=h1
  exact⟨rfl,agg,n,a,ho,.inl ⟨hv,fun hp' hl=>h2 lo hp' _ (by rw[ho];simp only[ZM,hl,Option.map_some])⟩⟩
 ·simp only[Prod.mk.injEq]at h1
  obtain⟨rfl,rfl⟩:=h1
  exact⟨rfl,agg,n,a,ho,.inr fun hp'=>h2 lo hp'⟩
def UT(fr:Fr):VOp→Option V
 |.alloc z=>some z
 |.box x=>if okV (opd fr x)then some (opd fr x)else none
 |_=>none
theorem ZaN{O:Orc}{lo:Nat}{it:VIt}{fr:Fr}{hp h':Zg}{x:V}(hc:Yc vp it.op=.fresh)(e:ZY O vp lo it fr hp=some (x,h')):
 (∃v,UT fr it.op=some v∧x=.ptr hp.length 1 0 0∧h'=hp++[.arr [v]])∨(x=Ya∧h'=hp∧∀hp',ZY O vp lo it fr hp'=some (Ya,hp')):=by
 rcases Vu e with⟨h1,h2⟩|⟨h1,h2⟩
 ·refine .inl ?_
  cases ho:it.op<;>rw[ho]at hc h1<;>try (simp[Yc]at hc;done)
  case call=>simp only[Yc]at hc;split at hc<;>simp at hc
  case calld=>simp only[Yc]at hc;split at hc<;>simp at hc
  case alloc z=>
   simp only[ZM,Option.some.injEq,Prod.mk.injEq]at h1
   exact⟨z,rfl,h1.1.symm,h1.2.symm⟩
  case box y=>
   simp only[ZM]at h1
   split at h1
   ·rename_i hok
    simp only[Option.some.injEq,Prod.mk.injEq]at h1
    exact⟨opd fr y,by simp[UT,hok],h1.1.symm,h1.2.symm⟩
   ·simp at h1
 ·simp only[Prod.mk.injEq]at h1
  obtain⟨rfl,rfl⟩:=h1
  exact .inr ⟨rfl,rfl,fun hp'=>h2 lo hp'⟩
end
end Go.VE
namespace Go.VE
set_option linter.unnecessarySimpa false
open Classical
section
variable {P : Program} {T : Tbl} {vp : VP} {G : Gh} {w w' : World} {lo : Nat} {h : Zg} {G0 : Gh} {w0 : World} {h0 : Zg}
theorem Zz.sdomh(hi:Zz T G lo h w){B ep:Nat}{g:Img}(e:G.sg B ep=some g):B<h.length:=Nat.lt_of_lt_of_le (hi.sdom _ _ _ e) hi.nle
theorem Zz.idomh(hi:Zz T G lo h w){B r:Nat}(e:G.io B=some r):B<h.length:=Nat.lt_of_lt_of_le (hi.idom _ _ e) hi.nle
theorem ZsL(hi:Zz T G lo h w)(bs:Zg):Zz T G lo (h++bs) w:=by
 have get: ∀B b,B<h.length→(h++bs)[B]? =some b→h[B]? =some b:=fun B b hB e=>by rwa[List.getElem?_append_left hB]at e
 exact⟨hi.gp,hi.gb,by have:=hi.llo;simp;omega,by have:=hi.nle;simp;omega,hi.sdom,hi.idom,fun B es ep g e hs=>hi.eple B es ep g (get _ _ (hi.sdomh hs) e) hs,
  fun B es g e hs=>hi.live B es g (get _ _ (hi.sdomh hs) e) hs,fun B s pos r e hr=>hi.iter B s pos r (get _ _ (hi.idomh hr) e) hr,
  fun B es g hl e hs=>by
   obtain⟨h1,h2⟩:=hi.own B es g hl (get _ _ (hi.sdomh hs) e) hs
   exact⟨h1,fun B' es' g' hne e' hs'=>h2 B' es' g' hne (get _ _ (hi.sdomh hs') e') hs'⟩,fun B s pos r hl e hr B' s' pos' r' hne e' hr'=>hi.iown B s pos r hl (get _ _ (hi.idomh hr) e) hr B' s' pos' r' hne (get _ _ (hi.idomh hr') e') hr'⟩
theorem ZaV(hi:Zz T G lo h w)(bs:Zg):Stp lo G h w G (h++bs) w:=by
 refine⟨G.le_refl,rfl,rfl,rfl,Nat.le_refl _,fun b hb hn=>⟨rfl,fun _=>rfl,?_⟩,rfl,fun _ _=>⟨fun _=>rfl,rfl⟩,⟨by simp,fun B es' hB e=> ?_⟩⟩
 ·rintro⟨B,hl,⟨es,g,e,hs,rfl⟩|⟨s,pos,e,hr⟩⟩
  ·rw[List.getElem?_append_left (hi.sdomh hs)]at e
   exact hn ⟨B,hl,.inl ⟨es,g,e,hs,rfl⟩⟩
  ·rw[List.getElem?_append_left (hi.idomh hr)]at e
   exact hn ⟨B,hl,.inr ⟨s,pos,e,hr⟩⟩
 ·rw[List.getElem?_append_left hB]at e
  exact⟨es',e,Nat.le_refl _,fun _ k=>k⟩
theorem Zxu(hi:Zz T G lo h w):Zz T G h.length h w:=by
 refine⟨hi.gp,hi.gb,Nat.le_refl _,hi.nle,hi.sdom,hi.idom,hi.eple,hi.live,hi.iter,fun B es g hl e=> ?_,fun B s pos r hl e=> ?_⟩
 ·have:=(List.getElem?_eq_some_iff.1 e).1;omega
 ·have:=(List.getElem?_eq_some_iff.1 e).1;omega
theorem ZxS{G':Gh}(hi:Zz T G lo h w)(hi':Zz T G' h.length h w')(st:Stp h.length G h w G' h w'):Zz T G' lo h w'∧Stp lo G h w G' h w':=by
 have noown: ∀b,¬Own G h.length h b:=by
  rintro b ⟨B,hl,⟨es,g,e,_⟩|⟨s,pos,e,_⟩⟩
  ·have:=(List.getElem?_eq_some_iff.1 e).1;omega
  ·have:=(List.getElem?_eq_some_iff.1 e).1;omega
 have hlt: ∀{B:Nat} {b:Blk},h[B]? =some b→B<h.length:=fun e=>(List.getElem?_eq_some_iff.1 e).1
 have sgs: ∀B ep,B<h.length→G'.sg B ep=G.sg B ep:=fun B ep hB=>(st.slo B hB).1 ep
 have ios: ∀B,B<h.length→G'.io B=G.io B:=fun B hB=>(st.slo B hB).2
 refine⟨⟨hi'.gp,hi'.gb,hi.llo,hi'.nle,hi'.sdom,hi'.idom,hi'.eple,hi'.live,hi'.iter,fun B es g hl e hs=> ?_,fun B s pos r hl e hr B' s' pos' r' hne e' hr'=> ?_⟩,⟨st.le,st.os,st.tape,st.output,st.size,fun b hb hn=> ?_,st.gbs,fun B hB=>st.slo B (Nat.lt_of_lt_of_le hB hi.llo),st.mono⟩⟩
 ·rw[sgs B _ (hlt e)]at hs
  obtain⟨h1,h2⟩:=hi.own B es g hl e hs
  refine⟨fun off=> ?_,fun B' es' g' hne e' hs'=>h2 B' es' g' hne e' (by rwa[sgs B' _ (hlt e')]at hs')⟩
  rw[(st.keep _ (hi.live_lt e hs) (noown _)).2.1 off,st.gbs]
  exact h1 off
 ·rw[ios B (hlt e)]at hr
  rw[ios B' (hlt e')]at hr'
  exact hi.iown B s pos r hl e hr B' s' pos' r' hne e' hr'
 ·obtain⟨h1,h2,_⟩:=st.keep b hb (noown b)
  refine⟨h1,h2,?_⟩
  rintro⟨B,hl,⟨es,g,e,hs,rfl⟩|⟨s,pos,e,hr⟩⟩
  ·exact hn ⟨B,hl,.inl ⟨es,g,e,by rwa[sgs B _ (hlt e)]at hs,rfl⟩⟩
  ·exact hn ⟨B,hl,.inr ⟨s,pos,e,by rwa[ios B (hlt e)]at hr⟩⟩
theorem ZoW(hi:Zz T G lo h w)(st:Stp lo G0 h0 w0 G h w){B:Nat}{v:V}(hB:h[B]? =some (.arr [v]))(hl0:h0.length≤B)(hlo:lo≤h0.length)(hno:G.sg B 1=none)
 {rv:Value} (hv:okV v=true) (hR:R T G v rv) (t:TypeId): ∃G',Zz T G' lo h (w.alloc (.cells rv.cells t (0,0)))∧Stp lo G0 h0 w0 G' h (w.alloc (.cells rv.cells t (0,0)))∧G.le G'∧R T G' (.ptr B 1 0 0) (.pointer (some ⟨w.heap.size,0,none⟩))∧∀B',B'≠B→∀ep,G'.sg B' ep=G.sg B' ep:=by
 obtain⟨k1,k2,k3⟩:=hR.cells hv
 let w':=w.alloc (.cells rv.cells t (0,0))
 have hs:w'.heap.size=w.heap.size+1:=YW w _
 have hk: ∀b,b<w.heap.size→w'.heap[b]? =w.heap[b]? :=Xb w _
 have hb:w'.heap[w.heap.size]? =some (.cells rv.cells t (0,0)):=YS w _
 have hBl:B<h.length:=(List.getElem?_eq_some_iff.1 hB).1
 let g:Img:=⟨w.heap.size,0,v.cells.length,rv.cells.size⟩
 let G':Gh:={G with sg:=fun B' ep=>if B'=B∧ep=1 then some g else G.sg B' ep,n:=max G.n (B+1)}
 have sg_eq: ∀B' ep,G'.sg B' ep=if B'=B∧ep=1 then some g else G.sg B' ep:=fun _ _=>rfl
 have hle:G.le G':=⟨fun _ _ _ e=>e,fun _ _ _ e=>e,fun B' ep x e=>by
  rw[sg_eq]
  by_cases hc:B'=B∧ep=1
  ·rw[hc.1,hc.2,hno]at e;simp at e
  ·rw[if_neg hc];exact e,fun _ _ e=>e,Nat.le_max_left _ _⟩
 have hsg: ∀B' ep x,G'.sg B' ep=some x→(B'=B∧ep=1∧x=g)∨(¬(B'=B∧ep=1)∧G.sg B' ep=some x):=by
  intro B' ep x e
  rw[sg_eq]at e
  by_cases hc:B'=B∧ep=1
  ·rw[if_pos hc]at e;exact .inl ⟨hc.1,hc.2,by simpa using e.symm⟩
  ·rw[if_neg hc]at e;exact .inr ⟨hc,e⟩
 have hi':=hi.grow (w':=w') (by omega) hk
 have stg:Stp lo G0 h0 w0 G h w':=st.trans (.grow rfl rfl rfl (by omega) hk)
 refine⟨G',⟨hi'.gp,hi'.gb,hi.llo,by have:=hi.nle;show max G.n (B+1)≤h.length;omega,fun B' ep x e=> ?_,fun B' r e=> ?_,fun B' es' ep x e hs'=> ?_,fun B' es' x e hs'=> ?_,hi'.iter,fun B' es' x hl e hs'=> ?_,hi'.iown⟩,⟨Gh.le_trans st.le hle,stg.os,stg.tape,stg.output,stg.size,fun b hb' hn=> ?_,stg.gbs,fun B' hB'=>⟨fun ep=> ?_,(stg.slo B' hB').2⟩,⟨stg.mono.1,fun B' es' hB' e=> ?_⟩⟩,hle,?_,fun B' hne ep=> ?_⟩
 ·show B'<max G.n (B+1)
  rcases hsg _ _ _ e with⟨rfl,_,_⟩|⟨_,e'⟩
  ·omega
  ·have:=hi.sdom _ _ _ e';omega
 ·have:=hi.idom _ _ e;show B'<max G.n (B+1);omega
 ·rcases hsg _ _ _ hs' with⟨rfl,rfl,_⟩|⟨_,e'⟩
  ·rw[hB]at e;simp only[Option.some.injEq,Blk.arr.injEq]at e;subst e;simp
  ·exact hi.eple _ _ _ _ e e'
 ·rcases hsg _ _ _ hs' with⟨rfl,_,rfl⟩|⟨_,e'⟩
  ·rw[hB]at e;simp only[Option.some.injEq,Blk.arr.injEq]at e;subst e
   refine⟨rv.cells,t,(0,0),hb,rfl,fun off _=>by simp,by simp[g,k1],fun i e hie=> ?_⟩
   cases i with
   |zero=>
    simp at hie;subst hie
    refine⟨rfl,fun j c hj=> ?_⟩
    have hj':j<rv.cells.size:=by rw[←k1];exact(List.getElem?_eq_some_iff.1 hj).1
    refine⟨rv.cells[j],?_,(k2 j c _ hj (by simp[hj'])).mono hle,k3 j _ (by simp[hj'])⟩
    simp[g,hj']
   |succ i=>simp at hie
  ·obtain⟨c',t',fz',h1,h2,h3,h4,h6⟩:=hi'.live B' es' x e e'
   exact⟨c',t',fz',h1,h2,h3,h4,h6.mono hle⟩
 ·have old: ∀B2 es2 x2,h[B2]? =some (.arr es2)→G.sg B2 es2.length=some x2→x2.b<w.heap.size:=fun B2 es2 x2 e1 e2=>hi.live_lt e1 e2
  rcases hsg _ _ _ hs' with⟨rfl,_,rfl⟩|⟨hc,e'⟩
  ·refine⟨fun off=>⟨?_,?_⟩,fun B2 es2 g2 hne e2 hs2=> ?_⟩
   ·show G.Gp w.heap.size off=none
    cases hgp:G.Gp w.heap.size off with
    |none=>rfl
    |some v=>exact absurd (hi.gp_lt hgp) (Nat.lt_irrefl _)
   ·show G.Gb w.heap.size off=none
    cases hgp:G.Gb w.heap.size off with
    |none=>rfl
    |some v=>exact absurd (hi.gb_lt hgp) (Nat.lt_irrefl _)
   ·rcases hsg _ _ _ hs2 with⟨rfl,_,_⟩|⟨_,e2'⟩
    ·exact absurd rfl hne
    ·have:=old _ _ _ e2 e2'
     show g2.b≠w.heap.size;omega
  ·obtain⟨h1,h2⟩:=hi.own B' es' x hl e e'
   refine⟨h1,fun B2 es2 g2 hne e2 hs2=> ?_⟩
   rcases hsg _ _ _ hs2 with⟨rfl,_,rfl⟩|⟨_,e2'⟩
   ·have:=old _ _ _ e e'
    show w.heap.size≠x.b;omega
   ·exact h2 B2 es2 g2 hne e2 e2'
 ·obtain⟨h1,h2,h3⟩:=stg.keep b hb' hn
  refine⟨h1,h2,?_⟩
  rintro⟨B',hl,⟨es',x,e,hs',hxb⟩|⟨s,pos,e,hr⟩⟩
  ·rcases hsg _ _ _ hs' with⟨_,_,rfl⟩|⟨_,e'⟩
   ·have:=st.size
    have:b=w.heap.size:=hxb.symm
    omega
   ·exact h3 ⟨B',hl,.inl ⟨es',x,e,e',hxb⟩⟩
  ·exact h3 ⟨B',hl,.inr ⟨s,pos,e,hr⟩⟩
 ·rw[sg_eq,if_neg (by omega)];exact(stg.slo B' hB').1 ep
 ·obtain⟨es,e1,e2,e3⟩:=stg.mono.2 B' es' hB' e
  refine⟨es,e1,e2,fun hl hsm=>e3 hl ?_⟩
  rw[sg_eq,if_neg (by omega)]at hsm;exact hsm
 ·have:=R.ptr (T:=T) (G:=G') B 1 0 0 g (by rw[sg_eq,if_pos ⟨rfl,rfl⟩])
  simpa[g]using this
 ·rw[sg_eq,if_neg (by omega)]
end
end Go.VE
namespace Go.VE
set_option linter.unnecessarySimpa false
open Classical
def Vb:Cls→Bool
 |.fresh|.ro|.wr=>true
 |_=>false
def frS(L:Array Bool)(ds:List VDt)(F0:Fr)(X:Nat→V):Nat→Fr
 |0=>F0
 |n+1=>
  match ds[n]? with
  |some d=>if L.getD d.ix false=true then put (frS L ds F0 X n) d.it.dst (X n)else frS L ds F0 X n
  |none=>frS L ds F0 X n
theorem UB(fr:Fr)(dst:Option Nat)(v:V)(t:Nat):lk (put fr dst v) t=if dst=some t then v else lk fr t:=by
 cases dst with
 |none=>simp[put]
 |some d=>rw[Zm5];simp
theorem XF.ext{T:Tbl}{G:Gh}{fr fr':Fr}{tmps:Array Value}(h:XF T G fr tmps)(he: ∀t,lk fr' t=lk fr t):XF T G fr' tmps:=fun t=>by rw[he t];exact h t
theorem ZW{vp:VP}{p:Nat}{x y:VDt}(h:Qt vp p x y=true):X4 (Yc vp x.it.op) (Yc vp y.it.op)=true∧(Yc vp x.it.op=.ld→Yc vp y.it.op=.wr→p∈y.xl)∧
 (∀t,x.it.dst=some t→t∉UI y.it∧y.it.dst≠some t)∧(∀t,y.it.dst=some t→t∉UI x.it):=by
 unfold Qt at h
 simp only[Bool.and_eq_true]at h
 obtain⟨⟨⟨h1,h2⟩,h3⟩,h4⟩:=h
 refine⟨h1,fun e1 e2=> ?_,fun t ht=> ?_,fun t ht=> ?_⟩
 ·rw[e1,e2]at h2;simpa using h2
 ·rw[ht]at h3;simpa using h3
 ·rw[ht]at h4;simpa using h4
section
variable {P : Program} {T : Tbl} {vp : VP} {G : Gh} {w : World} {lo : Nat} {h : Zg} {G0 : Gh} {w0 : World} {h0 : Zg}
variable {ops : Array Oper} {nt : Nat} {ds : List VDt} {n : Nat} {F : Nat → Fr} {H : Nat → Zg} {X : Nat → V}
def ZlB(ops:Array Oper)(L:Array Bool):Prop:= ∀i,L.getD i false=true→∀e∈(ops.getD i default).after.toList,Region.binds .any e=true→L.getD e.on false=true
def noW(vp:VP)(ds:List VDt)(a b:Nat):Prop:= ∀q d,a≤q→q<b→ds[q]? =some d→Yc vp d.it.op≠.wr
structure DI (T:Tbl) (vp:VP) (lo:Nat) (G0:Gh) (h0:Zg) (w0:World) (nt:Nat) (ds:List VDt) (F:Nat→Fr) (H:Nat→Zg) (X:Nat→V) (L:Array Bool) (k:Nat) (G:Gh) (a:Act) (w:World):Prop where
 kN:k≤ds.length
 kd:k=0∨∃d,ds[k-1]? =some d∧L.getD d.ix false=true∧Vb (Yc vp d.it.op)=true
 km: ∀p d,ds[p]? =some d→L.getD d.ix false=true→Vb (Yc vp d.it.op)=true→p<k
 fr:XF T G (frS L ds (F 0) X ds.length) a.tmps
 hi:Zz T G lo (H k) w
 st:Stp lo G0 h0 w0 G (H k) w
 df:a.defers=[]
 sz:nt≤a.tmps.size
 vt: ∀p d v,ds[p]? =some d→L.getD d.ix false=false→Yc vp d.it.op=.fresh→H (p+1)=H p++[.arr [v]]→noW vp ds k p→G.sg (H p).length 1=none∧h0.length≤(H p).length
section facts
variable {L : Array Bool} (spec : ∀ q d, ds[q]? = some d → Zah P T vp ops nt ds q d) (tr : Trc (YV vp n) vp lo ds 0 F H X) (shut : ZlB ops L)
include spec
theorem Zf9{p q:Nat}{d d':VDt}(hp:ds[p]? =some d)(hq:ds[q]? =some d')(h:d.ix=d'.ix):p=q:=by
 rcases Nat.lt_trichotomy p q with hl|hl|hl
 ·exact absurd h ((spec q d' hq).other p d hl hp)
 ·exact hl
 ·exact absurd h.symm ((spec p d hp).other q d' hl hq)
include shut in
theorem Kv: ∀(q:Nat) (d:VDt),ds[q]? =some d→(∀e∈(ops.getD d.ix default).after.toList,Region.binds .any e=true→L.getD e.on false=true)→∀i,d.bm.testBit i=true→L.getD i false=true:=by
 intro q
 induction q using Nat.strongRecOn with
 |_ q ih=>
  intro d hd he i hi
  obtain⟨e,hm,hb,hh⟩:=(spec q d hd).bits i hi
  rcases hh with rfl|⟨p,d',hlt,hd',hix,ht⟩
  ·exact he e hm hb
  ·have hl:L.getD d'.ix false=true:=by rw[hix];exact he e hm hb
   exact ih p hlt d' hd' (shut _ hl) i ht
include shut in
theorem Zew{j p:Nat}{dj d:VDt}(hj:ds[j]? =some dj)(hr: ∀e∈(ops.getD dj.ix default).after.toList,Region.binds .any e=true→L.getD e.on false=true)(hlt:p<j)(hp:ds[p]? =some d)
 (hn:L.getD d.ix false=false):Qt vp p d dj=true:=by
 rcases(spec j dj hj).pair p d hlt hp with hb|hh
 ·have:=Kv spec shut j dj hj hr d.ix hb
  rw[hn]at this;simp at this
 ·exact hh
include shut in
theorem Wh{j q:Nat}{dj d:VDt}(hj:ds[j]? =some dj)(hn:L.getD dj.ix false=false)(hlt:j<q)(hq:ds[q]? =some d)(hl:L.getD d.ix false=true):Qt vp j dj d=true:=by
 rcases(spec q d hq).pair j dj hlt hj with hb|hh
 ·have:=Kv spec shut q d hq (shut _ hl) dj.ix hb
  rw[hn]at this;simp at this
 ·exact hh
omit spec in
include tr in
theorem Ztp{j:Nat}{dj:VDt}(hj:ds[j]? =some dj)(hn:L.getD dj.ix false=false){t:Nat}(h1: ∀p d,p<j→ds[p]? =some d→L.getD d.ix false=false→d.it.dst≠some t)
 (h2: ∀p d,j<p→ds[p]? =some d→L.getD d.ix false=true→d.it.dst≠some t): ∀m,lk (frS L ds (F 0) X m) t=lk (F (min m j)) t:=by
 intro m
 induction m with
 |zero=>simp[frS]
 |succ m ih=>
  rcases Nat.lt_trichotomy m j with hm|hm|hm
  ·have hml:m<ds.length:=by have:=(List.getElem?_eq_some_iff.1 hj).1;omega
   have hd:ds[m]? =some ds[m]:=by simp[hml]
   rw[show min (m+1) j=m+1 by omega,(tr.step m _ hd).2,UB]
   rw[show min m j=m by omega]at ih
   simp only[frS,hd]
   split
   ·rw[UB,ih]
   ·rename_i hl
    rw[if_neg (h1 m _ hm hd (by simpa using hl)),ih]
  ·subst hm
   simp only[frS,hj,hn,Bool.false_eq_true,if_false]
   rw[ih];simp
  ·rw[show min (m+1) j=j by omega]
   rw[show min m j=j by omega]at ih
   simp only[frS]
   split
   ·rename_i d hd
    split
    ·rename_i hl
     rw[UB,if_neg (h2 m d hm hd hl),ih]
    ·exact ih
   ·exact ih
theorem ZfY{j:Nat}{dj:VDt}(hj:ds[j]? =some dj)(hsz:dj.ix<L.size)(hn:L.getD dj.ix false=false){t:Nat}(h2: ∀p d,j<p→ds[p]? =some d→L.getD d.ix false=true→dj.it.dst=some t→d.it.dst≠some t):
 ∀m,lk (frS (L.setIfInBounds dj.ix true) ds (F 0) X m) t=if j<m∧dj.it.dst=some t then X j else lk (frS L ds (F 0) X m) t:=by
 intro m
 induction m with
 |zero=>simp[frS]
 |succ m ih=>
  by_cases hm:m=j
  ·subst hm
   rw[if_neg (by omega)]at ih
   have hset:(L.setIfInBounds dj.ix true).getD dj.ix false=true:=by simp[Array.getD_eq_getD_getElem?,Array.getElem?_setIfInBounds,hsz]
   simp only[frS,hj,hset,hn,Bool.false_eq_true,if_true,if_false]
   rw[UB,ih]
   by_cases hd:dj.it.dst=some t
   ·rw[if_pos hd,if_pos ⟨Nat.lt_succ_self _,hd⟩]
   ·rw[if_neg hd,if_neg (fun hh=>hd hh.2)]
  ·have hjm:(j<m+1)↔j<m:=by omega
   simp only[hjm]
   simp only[frS]
   cases hd:ds[m]? with
   |none=>exact ih
   |some d=>
    have hne:dj.ix≠d.ix:=fun e=>hm (Zf9 spec hj hd e).symm
    have hget:(L.setIfInBounds dj.ix true).getD d.ix false=L.getD d.ix false:=by simp[Array.getD_eq_getD_getElem?,Array.getElem?_setIfInBounds,hne]
    simp only[hget]
    split
    ·rename_i hl
     rw[UB,UB,ih]
     by_cases hc:j<m∧dj.it.dst=some t
     ·rw[if_pos hc,if_neg (h2 m d hc.1 hd hl hc.2),if_pos hc]
     ·rw[if_neg hc,if_neg hc]
    ·exact ih
omit spec in
include tr in
theorem ZiP(hall: ∀(q:Nat) (d:VDt),ds[q]? =some d→L.getD d.ix false=true): ∀m,m≤ds.length→frS L ds (F 0) X m=F m
 |0,_=>rfl
 |m+1,hm=>by
  have hd:ds[m]? =some ds[m]:=List.getElem?_eq_getElem (by omega)
  simp only[frS,hd,hall m _ hd,if_true,ZiP hall m (by omega)]
  exact((tr.step m _ hd).2).symm
omit spec in
include tr in
theorem ZmZ{p:Nat}{d:VDt}(hd:ds[p]? =some d)(hc:Yc vp d.it.op≠.wr): ∃bs,H (p+1)=H p++bs:=by
 have hs:=(tr.step p d hd).1
 cases hcl:Yc vp d.it.op with
 |reg=>exact⟨[],by rw[(Zab hcl hs).1];simp⟩
 |ld=>exact⟨[],by rw[(KV hcl hs).1];simp⟩
 |ro=>exact⟨[],by rw[(Zeb hcl hs).1];simp⟩
 |fresh=>
  rcases ZaN hcl hs with⟨v,_,_,hh⟩|⟨_,hh,_⟩
  ·exact⟨_,hh⟩
  ·exact⟨[],by rw[hh];simp⟩
 |wr=>exact absurd hcl hc
omit spec in
include tr in
theorem UZ{a:Nat}: ∀b,a≤b→b≤ds.length→noW vp ds a b→∃bs,H b=H a++bs
 |0,hab,_,_=>⟨[],by obtain rfl:a=0:=by omega
                    simp⟩
 |b+1,hab,hb,hw=>by
  rcases Nat.eq_or_lt_of_le hab with rfl|hlt
  ·exact⟨[],by simp⟩
  ·obtain⟨bs,h1⟩:=UZ b (by omega) (by omega) fun q d h1 h2 h3=>hw q d h1 (by omega) h3
   have hd:ds[b]? =some ds[b]:=List.getElem?_eq_getElem (by omega)
   obtain⟨bs',h2⟩:=ZmZ tr hd (hw b _ (by omega) (Nat.lt_succ_self _) hd)
   exact⟨bs++bs',by rw[h2,h1,List.append_assoc]⟩
omit spec in
include tr in
theorem ZhM{a:Nat}: ∀b,a≤b→b≤ds.length→(∀q d,a≤q→q<b→ds[q]? =some d→Vb (Yc vp d.it.op)=false∨Yc vp d.it.op=.ro)→H b=H a
 |0,hab,_,_=>by obtain rfl:a=0:=by omega
                rfl
 |b+1,hab,hb,hw=>by
  rcases Nat.eq_or_lt_of_le hab with rfl|hlt
  ·rfl
  ·have h1:=ZhM b (by omega) (by omega) fun q d h1 h2 h3=>hw q d h1 (by omega) h3
   have hd:ds[b]? =some ds[b]:=List.getElem?_eq_getElem (by omega)
   have hs:=(tr.step b _ hd).1
   rw[←h1]
   have:=hw b _ (by omega) (Nat.lt_succ_self _) hd
   cases hcl:Yc vp (ds[b]).it.op with
   |reg=>exact(Zab hcl hs).1
   |ld=>exact(KV hcl hs).1
   |ro=>exact(Zeb hcl hs).1
   |fresh=>rw[hcl]at this;simp[Vb]at this
   |wr=>rw[hcl]at this;simp[Vb]at this
end facts
theorem ZkP{c:Cls}(h:X4 c .wr=true):c=.reg∨c=.ld:=by cases c<;>simp[X4]at h<;>simp
theorem Vy{c:Cls}(h:X4 .wr c=true):c=.reg:=by cases c<;>simp[X4]at h<;>simp
theorem Zcs{c:Cls}(h:X4 .ro c=true):c=.reg∨c=.ld:=by cases c<;>simp[X4]at h<;>simp
end
end Go.VE
namespace Go.VE
set_option linter.unnecessarySimpa false
open Classical
section
variable {P : Program} {T : Tbl} {vp : VP} {G : Gh} {w : World} {lo : Nat} {h : Zg} {G0 : Gh} {w0 : World} {h0 : Zg}
variable {ops : Array Oper} {nt : Nat} {ds : List VDt} {n : Nat} {F : Nat → Fr} {H : Nat → Zg} {X : Nat → V}
theorem Zku{O:Orc}{o:Oper}{it:VIt}(hc:Zaw P T ops nt o it=true){fr:Fr}{a:Act}(hf:XF T G fr a.tmps){r:V ×Zg}(e:ZY O vp lo it fr h=some r):
 (Region.wanted o (yielded ops a.tmps)=true∧ZM O vp lo fr h it.op=some r)∨(Region.wanted o (yielded ops a.tmps)=false∧r=(Ya,h)):=by
 obtain⟨h1,h2,h3,h4⟩:=V9 hc
 unfold ZY at e
 rcases h4 with⟨g1,g2⟩|⟨j,want,t,g1,g2,g3⟩
 ·rw[Kt g1]
  simp only[g2]at e
  exact .inl ⟨rfl,e⟩
 ·simp only[g2]at e
  split at e
  ·rename_i b hb
   rw[Kq g1 g3 hf hb]
   by_cases hw:b=want
   ·rw[if_pos hw]at e
    exact .inl ⟨by simp[hw],e⟩
   ·rw[if_neg hw]at e
    exact .inr ⟨by simp[hw],by simpa using e.symm⟩
  ·rename_i hb
   rw[QX g1 g3 hf hb]
   exact .inr ⟨rfl,by simpa using e.symm⟩
  ·simp at e
theorem Zj7{op:Op}{v:VOp}(hc:VZ P T op v=true)(hcl:Yc vp v=.fresh){fr:Fr}{a:Act}(hf:XF T G fr a.tmps){x:V}(e:UT fr v=some x)(dst:Option Tmp)(ty:TypeId)(pos:String)(after:Array Edge)(gd:Option (Nat ×Bool)):
 ∃rv t,(execOp a.eval ⟨dst,op,ty,pos,after,gd⟩).run P w=.ok (.value (.pointer (some ⟨w.heap.size,0,none⟩))) (w.alloc (.cells rv.cells t (0,0)))∧okV x=true∧R T G x rv:=by
 have nv: ∀t rv,(newVar t rv).run P w=.ok ⟨w.heap.size,0,none⟩ (w.alloc (.cells rv.cells t (0,0))):=fun _ _=>rfl
 cases v<;>first|(simp[Yc]at hcl;done)|(simp only[Yc]at hcl;split at hcl<;>simp at hcl;done)|skip
 case alloc z=>
  cases op<;>simp only[VZ,Bool.false_eq_true]at hc
  case call c=>split at hc<;>first|contradiction|simp at hc
  rename_i t
  unfold VR at hc
  split at hc
  ·rename_i zv hzv
   simp only[UT,Option.some.injEq]at e
   subst e
   refine⟨zv,t,?_,ZeA hc,KQ _ _ hc⟩
   simp[execOp,Instr.alloc,WC hzv,nv]
  ·simp at hc
 case box y=>
  cases op<;>simp only[VZ,Bool.false_eq_true]at hc
  case call c=>split at hc<;>first|contradiction|simp at hc
  rename_i t z
  simp only[UT]at e
  split at e
  ·rename_i hok
   simp only[Option.some.injEq]at e
   subst e
   refine⟨a.eval z,t,?_,hok,WL hf hc⟩
   simp[execOp,Instr.box,nv]
  ·simp at e
theorem Zci{hp bs:Zg}{agg:Bool}{m:Nat}{y x:V}(e:Yv hp agg m y=some x):Yv (hp++bs) agg m y=some x:=by
 unfold Yv at e⊢
 split at e
 ·exact e
 ·split at e
  ·rename_i B ep i o es hB
   rw[List.getElem?_append_left (List.getElem?_eq_some_iff.1 hB).1]
   simp only[hB];exact e
  ·simp at e
 ·simp at e
theorem Zez(hi:Zz T G lo h w){bs:Zg}{agg:Bool}{m:Nat}{y x:V}(e:Yv (h++bs) agg m y=some x){rv:Value}(hR:R T G y rv):Yv h agg m y=some x:=by
 unfold Yv at e⊢
 split at e
 ·exact e
 ·rename_i B ep i o
  obtain⟨g,hg,_⟩:=hR.ptr_inv
  rw[List.getElem?_append_left (hi.sdomh hg)]at e
  exact e
 ·simp at e
theorem Zl7{op:Op}{agg:Bool}{m:Nat}{y:Z3}(hc:VZ P T op (.load agg m y)=true): ∃x,ZQ T x y=true:=by
 cases op<;>simp only[VZ,Bool.false_eq_true]at hc
 case call c=>split at hc<;>first|contradiction|simp at hc
 rename_i t x
 simp only[Bool.and_eq_true]at hc
 exact⟨x,hc.2⟩
theorem ZdX{fr fr':Fr}{op:VOp}(h: ∀y∈KJ op,opd fr y=opd fr' y):UT fr op=UT fr' op:=by
 cases op<;>try rfl
 case box x=>simp only[UT,h x (by simp[KJ])]
section step
variable {L : Array Bool} {k : Nat} {a : Act}
variable (tied : U6 P T vp) (ih : Xw P T vp n) (spec : ∀ q d, ds[q]? = some d → Zah P T vp ops nt ds q d) (tr : Trc (YV vp n) vp lo ds 0 F H X) (shut : ZlB ops L) (hb0 : h0.length ≤ (H 0).length) (hlo : lo ≤ h0.length)
theorem ZiR{L':Array Bool}(spec: ∀q d,ds[q]? =some d→Zah P T vp ops nt ds q d)(tr:Trc (YV vp n) vp lo ds 0 F H X)(shut:ZlB ops L)(di:DI T vp lo G0 h0 w0 nt ds F H X L k G a w){G':Gh}{w':World}(hi':Zz T G' lo (H k) w')(mono:Jw G (H k) G' (H k))
 (hL: ∀(p:Nat) (d:VDt),ds[p]? =some d→L'.getD d.ix false=false→L.getD d.ix false=false): ∀p d v,ds[p]? =some d→L'.getD d.ix false=false→Yc vp d.it.op=.fresh→H (p+1)=H p++[.arr [v]]→noW vp ds k p→G'.sg (H p).length 1=none∧h0.length≤(H p).length:=by
 intro p d v hd hn hc hp hw
 have hn:=hL p d hd hn
 have hpl:p<ds.length:=(List.getElem?_eq_some_iff.1 hd).1
 refine⟨?_,(di.vt p d v hd hn hc hp hw).2⟩
 cases hs:G'.sg (H p).length 1 with
 |none=>rfl
 |some g=>
  exfalso
  have hlt:=hi'.sdomh hs
  rcases Nat.lt_or_ge p k with hpk|hpk
  ·have hw2:noW vp ds (p+1) k:=by
    intro q dq h1 h2 hq hcq
    by_cases hl:L.getD dq.ix false=true
    ·have:=(ZW (Wh spec shut hd hn (by omega) hq hl)).1
     rw[hc,hcq]at this;simp[X4]at this
    ·have hl':L.getD dq.ix false=false:=by simpa using hl
     rcases di.kd with h0|⟨dk,hk1,hk2,hk3⟩
     ·omega
     ·by_cases hqk:q=k-1
      ·subst hqk;rw[hq]at hk1;simp only[Option.some.injEq]at hk1;subst hk1;exact hl hk2
      ·have:=(ZW (Wh spec shut hq hl' (by omega) hk1 hk2)).1
       rw[hcq]at this
       rw[Vy this]at hk3;simp[Vb]at hk3
   obtain⟨bs,hbs⟩:=UZ tr k (by omega) di.kN hw2
   have hget:(H k)[(H p).length]? =some (.arr [v]):=by
    rw[hbs,hp,List.append_assoc,List.getElem?_append_right (Nat.le_refl _)];simp
   obtain⟨es,e1,e2,e3⟩:=mono.2 _ _ hlt hget
   rw[hget]at e1
   simp only[Option.some.injEq,Blk.arr.injEq]at e1
   subst e1
   have:=e3 rfl (by simp[hs])
   have hvt:=(di.vt p d v hd hn hc hp hw).1
   simp only[List.length_cons,List.length_nil,Nat.zero_add]at this
   rw[hvt]at this;simp at this
  ·obtain⟨bs,hbs⟩:=UZ tr p hpk (by omega) hw
   rw[hbs]at hlt
   simp at hlt
   omega
include spec shut in
theorem Ziz{j:Nat}{d:VDt}(hd:ds[j]? =some d)(hsz:d.ix<L.size)(hn:L.getD d.ix false=false)(di:DI T vp lo G0 h0 w0 nt ds F H X L k G a w){G':Gh}(hle:G.le G'){rv:Value}(hR:R T G' (X j) rv)(hdt: ∀t,d.it.dst=some t→t<nt):
 XF T G' (frS (L.setIfInBounds d.ix true) ds (F 0) X ds.length) (a.put d.it.dst rv).tmps:=by
 have h1:=(di.fr.mono hle).aput hR d.it.dst fun t ht=>Nat.lt_of_lt_of_le (hdt t ht) di.sz
 refine h1.ext fun t=> ?_
 rw[ZfY spec hd hsz hn (fun p dp hlt hp hl ht ht'=>((ZW (Wh spec shut hd hn hlt hp hl)).2.2.1 t ht).2 ht') ds.length,UB]
 by_cases ht:d.it.dst=some t
 ·rw[if_pos ⟨(List.getElem?_eq_some_iff.1 hd).1,ht⟩,if_pos ht]
 ·rw[if_neg (fun hh=>ht hh.2),if_neg ht]
theorem ZGo{d:VDt}(hsz:d.ix<L.size):(L.setIfInBounds d.ix true).getD d.ix false=true:=by simp[Array.getD_eq_getD_getElem?,Array.getElem?_setIfInBounds,hsz]
theorem Vd{i j:Nat}(h:L.getD i false=true):(L.setIfInBounds j true).getD i false=true:=by
 rw[Array.getD_eq_getD_getElem?]at*
 rw[Array.getElem?_setIfInBounds]
 by_cases hij:j=i
 ·subst hij
  have:j<L.size:=by
   rcases Nat.lt_or_ge j L.size with hh|hh
   ·exact hh
   ·rw[Array.getElem?_eq_none hh]at h;simp at h
  simp[this]
 ·rw[if_neg hij];exact h
theorem Zfw{i j:Nat}(h:(L.setIfInBounds j true).getD i false=false):L.getD i false=false:=by
 cases hh:L.getD i false with
 |false=>rfl
 |true=>rw[Vd hh]at h;simp at h
theorem VG{i j:Nat}(h:(L.setIfInBounds j true).getD i false=true):i=j∨L.getD i false=true:=by
 by_cases hij:j=i
 ·exact .inl hij.symm
 ·rw[Array.getD_eq_getD_getElem?,Array.getElem?_setIfInBounds,if_neg hij]at h
  exact .inr (by rw[Array.getD_eq_getD_getElem?];exact h)
include tied ih spec tr shut hlo in
theorem Zdy{Q:Exit→Act→World→Prop}{K:Act→World→Prop}{j:Nat}{d:VDt}(di:DI T vp lo G0 h0 w0 nt ds F H X L k G a w)(hd:ds[j]? =some d)(hsz:d.ix<L.size)(hn:L.getD d.ix false=false)
 (hr: ∀e∈(ops.getD d.ix default).after.toList,Region.binds .any e=true→L.getD e.on false=true)
 (hK: ∀a' w' k' G',DI T vp lo G0 h0 w0 nt ds F H X (L.setIfInBounds d.ix true) k' G' a' w'→K a' w'):wpOp P ops Q d.ix K a w:=by
 have hjl:j<ds.length:=(List.getElem?_eq_some_iff.1 hd).1
 have pos:=spec j d hd
 have hop:ops[d.ix]? =some (ops.getD d.ix default):=by
  rw[Array.getD_eq_getD_getElem?];simp[pos.lt]
 obtain⟨c1,c2,c3,c4⟩:=V9 pos.chk
 unfold wpOp
 simp only[hop]
 have bef: ∀p dp,p<j→ds[p]? =some dp→L.getD dp.ix false=false→Qt vp p dp d=true:=fun p dp hlt hp hnp=>Zew spec shut hd hr hlt hp hnp
 have aft: ∀q dq,j<q→ds[q]? =some dq→L.getD dq.ix false=true→Qt vp j d dq=true:=fun q dq hlt hq hl=>Wh spec shut hd hn hlt hq hl
 have reads: ∀t∈UI d.it,lk (F j) t=lk (frS L ds (F 0) X ds.length) t:=fun t ht=>by
  rw[Ztp tr hd hn (fun p dp hlt hp hnp hdst=>((ZW (bef p dp hlt hp hnp)).2.2.1 t hdst).1 ht) (fun p dp hlt hp hl hdst=>(ZW (aft p dp hlt hp hl)).2.2.2 t hdst ht),Nat.min_eq_right (by omega)]
 have hstep: ∀{lo':Nat} {hp:Zg} {r:V ×Zg},ZY (YV vp n) vp lo' d.it (F j) hp=some r→ZY (YV vp n) vp lo' d.it (frS L ds (F 0) X ds.length) hp=some r:=fun e=>by
  rw[←ZdJ reads];exact e
 have hs:=(tr.step j d hd).1
 have hdt: ∀t,d.it.dst=some t→t<nt:=fun t ht=>c2 t (by rw[c1];exact ht)
 have tmono: ∀(p:Nat) (dp:VDt),ds[p]? =some dp→(L.setIfInBounds d.ix true).getD dp.ix false=false→L.getD dp.ix false=false:=fun p dp _ hh=>Zfw hh
 have easy:ZY (YV vp n) vp lo d.it (F j) (H k)=some (X j,H k)→Vb (Yc vp d.it.op)=false→
  if Region.wanted (ops.getD d.ix default) (yielded ops a.tmps)then(ops.getD d.ix default).wp P a w K Q∨((ops.getD d.ix default).asks P a w∧LetsOut Q)else K (a.put (ops.getD d.ix default).dst undef) w:=by
  intro he hh
  refine Zfk tied ih pos.chk di.fr di.hi (hstep he) fun rv w' G' r1 r2 r3=> ?_
  refine hK _ _ k G' ⟨di.kN,di.kd.imp id fun⟨dk,h1,h2,h3⟩=>⟨dk,h1,Vd h2,h3⟩,fun p dp hp hl hv=> ?_,?_,r2,di.st.trans r3,?_,?_,ZiR spec tr shut di r2 r3.mono tmono⟩
  ·rcases VG hl with hx|hl
   ·have:=Zf9 spec hp hd hx
    subst this;rw[hp]at hd;simp only[Option.some.injEq]at hd;subst hd
    rw[hh]at hv;simp at hv
   ·exact di.km p dp hp hl hv
  ·rw[c1];exact Ziz spec shut hd hsz hn di r3.le r1 hdt
  ·rw[(VB _ _ _).2];exact di.df
  ·rw[(VB _ _ _).1];exact di.sz
 have nok:(∀q dq,j<q→ds[q]? =some dq→L.getD dq.ix false=true→Vb (Yc vp dq.it.op)=false)→k≤j:=by
  intro hh
  rcases di.kd with h0|⟨dk,h1,h2,h3⟩
  ·omega
  ·rcases Nat.lt_trichotomy (k-1) j with hl|hl|hl
   ·omega
   ·rw[hl,hd]at h1;simp only[Option.some.injEq]at h1;subst h1;rw[hn]at h2;simp at h2
   ·rw[hh _ dk hl h1 h2]at h3;simp at h3
 have light: ∀p dp,k≤p→ds[p]? =some dp→L.getD dp.ix false=true→Vb (Yc vp dp.it.op)=false:=by
  intro p dp hkp hp hl
  cases hh:Vb (Yc vp dp.it.op)with
  |false=>rfl
  |true=>have:=di.km p dp hp hl hh;omega
 have done: ∀{k':Nat} {G':Gh} {rv:Value} {w':World},k'≤ds.length→Vb (Yc vp d.it.op)=true→j<k'→(k'=k∨k'=j+1∧k≤j)→G.le G'→R T G' (X j) rv→Zz T G' lo (H k') w'→Stp lo G0 h0 w0 G' (H k') w'→
  (∀p dp v,ds[p]? =some dp→(L.setIfInBounds d.ix true).getD dp.ix false=false→Yc vp dp.it.op=.fresh→H (p+1)=H p++[.arr [v]]→noW vp ds k' p→G'.sg (H p).length 1=none∧h0.length≤(H p).length)→K (a.put (ops.getD d.ix default).dst rv) w':=by
  intro k' G' rv w' hkn hv hjk hkk hle hR hi' st' hvt
  refine hK _ _ k' G' ⟨hkn,?_,fun p dp hp hl hvp=> ?_,?_,hi',st',?_,?_,hvt⟩
  ·rcases hkk with rfl|⟨rfl,_⟩
   ·rcases di.kd with h0|⟨dk,h1,h2,h3⟩
    ·omega
    ·exact .inr ⟨dk,h1,Vd h2,h3⟩
   ·exact .inr ⟨d,hd,ZGo hsz,hv⟩
  ·rcases VG hl with hx|hl
   ·have:=Zf9 spec hp hd hx
    omega
   ·have:=di.km p dp hp hl hvp
    rcases hkk with rfl|⟨rfl,hkj⟩<;>omega
  ·rw[c1];exact Ziz spec shut hd hsz hn di hle hR hdt
  ·rw[(VB _ _ _).2];exact di.df
  ·rw[(VB _ _ _).1];exact di.sz
 have far: ∀{k':Nat} {G':Gh} {w':World},Zz T G' lo (H k') w'→Stp lo G0 h0 w0 G' (H k') w'→∀p dp,k'≤p→ds[p]? =some dp→noW vp ds k' p→G'.sg (H p).length 1=none∧h0.length≤(H p).length:=by
  intro k' G' w' hi' st' p dp hkp hp hw
  obtain⟨bs,hbs⟩:=UZ tr p hkp (by have:=(List.getElem?_eq_some_iff.1 hp).1;omega) hw
  have h0':=st'.mono.1
  refine⟨?_,by rw[hbs];simp;omega⟩
  cases hsg:G'.sg (H p).length 1 with
  |none=>rfl
  |some g=>
   have hlt:=hi'.sdomh hsg
   rw[hbs]at hlt;simp at hlt;omega
 have unl: ∀q dq,q<k→ds[q]? =some dq→L.getD dq.ix false=false→Yc vp dq.it.op≠.wr:=by
  intro q dq hqk hq hl hwr
  rcases di.kd with h0|⟨dk,h1,h2,h3⟩
  ·omega
  ·by_cases hqk1:q=k-1
   ·subst hqk1;rw[hq]at h1;simp only[Option.some.injEq]at h1;subst h1;rw[hl]at h2;simp at h2
   ·have:=(ZW (Wh spec shut hq hl (by omega) h1 h2)).1
    rw[hwr]at this
    rw[Vy this]at h3;simp[Vb]at h3
 cases hcl:Yc vp d.it.op with
 |reg=>exact easy ((Zab hcl hs).2 _) (by rw[hcl];rfl)
 |ld=>
  obtain⟨hsame,agg,m,y,hload,hh⟩:=KV hcl hs
  refine easy ?_ (by rw[hcl];rfl)
  rcases hh with⟨hl,hh⟩|hh
  ·refine hh _ ?_
   have hya:opd (F j) y=opd (frS L ds (F 0) X ds.length) y:=by
    refine Ke (l:=[y]) (fun t ht=>reads t ?_) (by simp)
    refine List.mem_append_left _ ?_
    rw[hload];exact ht
   rcases Nat.lt_or_ge j k with hjk|hjk
   ·
    have key: ∀b,j<b→b≤k→Yv (H b) agg m (opd (F j) y)=some (X j):=by
     intro b
     induction b with
     |zero=>omega
     |succ b ihb=>
      intro hjb hbk
      have hbl:b<ds.length:=by have:=di.kN;omega
      have hdb:ds[b]? =some ds[b]:=List.getElem?_eq_getElem hbl
      rcases Nat.eq_or_lt_of_le (Nat.le_of_lt_succ hjb)with rfl|hlt
      ·rw[hsame];exact hl
      ·have hb:=ihb hlt (by omega)
       by_cases hwr:Yc vp (ds[b]).it.op=.wr
       ·have hlb:L.getD (ds[b]).ix false=true:=by
         rcases di.kd with h0|⟨dk,h1,h2,h3⟩
         ·omega
         ·by_cases hbk1:b=k-1
          ·subst hbk1;rw[hdb]at h1;simp only[Option.some.injEq]at h1;rw[h1];exact h2
          ·cases hlb:L.getD (ds[b]).ix false with
           |true=>rfl
           |false=>
            have:=(ZW (Wh spec shut hdb hlb (by omega) h1 h2)).1
            rw[hwr]at this
            rw[Vy this]at h3;simp[Vb]at h3
        exact tr.chk j b d _ agg m y hlt hd hdb (by rw[Nat.zero_add];exact(ZW (aft b _ hlt hdb hlb)).2.1 hcl hwr) hload hl
       ·obtain⟨bs,hbs⟩:=ZmZ tr hdb hwr
        rw[hbs];exact Zci hb
    exact key k hjk (Nat.le_refl _)
   ·have hnw:noW vp ds k j:=by
     intro q dq h1 h2 hq hwr
     by_cases hlq:L.getD dq.ix false=true
     ·have:=light q dq h1 hq hlq
      rw[hwr]at this;simp[Vb]at this
     ·have:=(ZW (bef q dq h2 hq (by simpa using hlq))).1
      rw[hwr,hcl]at this;simp[X4]at this
    obtain⟨bs,hbs⟩:=UZ tr j hjk (by omega) hnw
    rw[hbs]at hl
    have hlo2:VZ P T (ops.getD d.ix default).op (.load agg m y)=true:=by rw[←hload];exact c3
    obtain⟨xo,hxo⟩:=Zl7 hlo2
    have hR:=WL di.fr hxo
    rw[hya]at hl⊢
    exact Zez di.hi hl hR
  ·exact hh _
 |wr=>
  have hkj:k≤j:=nok fun q dq hlt hq hl=>by
   have:=(ZW (aft q dq hlt hq hl)).1
   rw[hcl]at this
   rw[Vy this];rfl
  have hHk:H j=H k:=ZhM tr j hkj (by omega) fun q dq h1 h2 hq=>by
   by_cases hlq:L.getD dq.ix false=true
   ·exact .inl (light q dq h1 hq hlq)
   ·have:=(ZW (bef q dq h2 hq (by simpa using hlq))).1
    rw[hcl]at this
    rcases ZkP this with hh|hh<;>(rw[hh];exact .inl rfl)
  have hiJ:Zz T G lo (H j) w:=by rw[hHk];exact di.hi
  have stJ:Stp lo G0 h0 w0 G (H j) w:=by rw[hHk];exact di.st
  refine Zfk tied ih pos.chk di.fr hiJ (hstep hs) fun rv w' G' r1 r2 r3=> ?_
  have st':=stJ.trans r3
  refine done (k':=j+1) (by omega) (by rw[hcl];rfl) (Nat.lt_succ_self _) (.inr ⟨rfl,hkj⟩) r3.le r1 r2 st' fun p dp v hp hnp hfp hHp hw=> ?_
  rcases Nat.lt_trichotomy p j with hl|hl|hl
  ·have:=(ZW (bef p dp hl hp (tmono p dp hp hnp))).1
   rw[hfp,hcl]at this;simp[X4]at this
  ·subst hl;rw[hp]at hd;simp only[Option.some.injEq]at hd;subst hd;rw[hcl]at hfp;simp at hfp
  ·exact far r2 st' p dp (by omega) hp hw
 |ro=>
  have hkj:k≤j:=nok fun q dq hlt hq hl=>by
   have:=(ZW (aft q dq hlt hq hl)).1
   rw[hcl]at this
   rcases Zcs this with hh|hh<;>(rw[hh];rfl)
  have hnw:noW vp ds k j:=by
   intro q dq h1 h2 hq hwr
   by_cases hlq:L.getD dq.ix false=true
   ·have:=light q dq h1 hq hlq
    rw[hwr]at this;simp[Vb]at this
   ·have:=(ZW (bef q dq h2 hq (by simpa using hlq))).1
    rw[hwr,hcl]at this;simp[X4]at this
  obtain⟨bs,hbs⟩:=UZ tr j hkj (by omega) hnw
  have hiJ:Zz T G lo (H j) w:=by rw[hbs];exact ZsL di.hi bs
  have stJ:Stp lo G0 h0 w0 G (H j) w:=by rw[hbs];exact di.st.trans (ZaV di.hi bs)
  obtain⟨hsame,hany⟩:=Zeb hcl hs
  refine Zfk (lo:=(H j).length) tied ih pos.chk di.fr (Zxu hiJ) (hstep (hany _)) fun rv w' G' r1 r2 r3=> ?_
  rw[hsame]at r2 r3
  obtain⟨q1,q2⟩:=ZxS hiJ r2 r3
  have st':Stp lo G0 h0 w0 G' (H (j+1)) w':=by rw[hsame];exact stJ.trans q2
  have hi':Zz T G' lo (H (j+1)) w':=by rw[hsame];exact q1
  refine done (k':=j+1) (by omega) (by rw[hcl];rfl) (Nat.lt_succ_self _) (.inr ⟨rfl,hkj⟩) r3.le r1 hi' st' fun p dp v hp hnp hfp hHp hw=> ?_
  rcases Nat.lt_trichotomy p j with hl|hl|hl
  ·have hvt:=di.vt p dp v hp (tmono p dp hp hnp) hfp hHp fun q dq h1 h2 hq=>hnw q dq h1 (by omega) hq
   refine⟨?_,hvt.2⟩
   cases hsg:G'.sg (H p).length 1 with
   |none=>rfl
   |some g=>
    have hlt:=q1.sdomh hsg
    rw[(r3.slo _ hlt).1 1,hvt.1]at hsg
    simp at hsg
  ·subst hl;rw[hp]at hd;simp only[Option.some.injEq]at hd;subst hd;rw[hcl]at hfp;simp at hfp
  ·exact far hi' st' p dp (by omega) hp hw
 |fresh=>
  have hnw:noW vp ds k j:=by
   intro q dq h1 h2 hq hwr
   by_cases hlq:L.getD dq.ix false=true
   ·have:=light q dq h1 hq hlq
    rw[hwr]at this;simp[Vb]at this
   ·have:=(ZW (bef q dq h2 hq (by simpa using hlq))).1
    rw[hwr,hcl]at this;simp[X4]at this
  have hnw2: ∀q dq,j<q→(q<k∨noW vp ds k (q+1))→ds[q]? =some dq→Yc vp dq.it.op≠.wr:=by
   intro q dq h1 h2 hq hwr
   by_cases hlq:L.getD dq.ix false=true
   ·have:=(ZW (aft q dq h1 hq hlq)).1
    rw[hcl,hwr]at this;simp[X4]at this
   ·rcases Nat.lt_or_ge q k with hqk|hqk
    ·exact unl q dq hqk hq (by simpa using hlq) hwr
    ·rcases h2 with h2|h2
     ·omega
     ·exact h2 q dq hqk (Nat.lt_succ_self _) hq hwr
  have self_listed: ∀{dp:VDt},ds[j]? =some dp→(L.setIfInBounds d.ix true).getD dp.ix false=false→False:=fun hp hnp=>by
   rw[hd]at hp;simp only[Option.some.injEq]at hp;subst hp
   rw[ZGo hsz]at hnp;simp at hnp
  rcases ZaN hcl hs with⟨v,hv,hX,hH⟩|⟨hX,hH,hany⟩
  ·
   have hvt:=di.vt j d v hd hn hcl hH hnw
   rcases Zku pos.chk di.fr (hstep hs)with⟨hwt,_⟩|⟨_,hpass⟩
   ·rw[hwt,if_pos rfl]
    refine .inl ?_
    have hvf:UT (frS L ds (F 0) X ds.length) d.it.op=some v:=by
     rw[←ZdX (fr:=F j) fun y hy=>Ke (l:=KJ d.it.op) (fun t ht=>reads t (List.mem_append_left _ ht)) hy];exact hv
    obtain⟨k',hk',bs1,bs2,hb1,hb2,hkn⟩: ∃k',(k'=k∧j<k∨k'=j+1∧k≤j)∧∃bs1 bs2,H k'=H (j+1)++bs1∧H k'=H k++bs2∧k'≤ds.length:=by
     rcases Nat.lt_or_ge j k with hjk|hjk
     ·obtain⟨bs1,hb1⟩:=UZ tr k (show j+1≤k by omega) di.kN fun q dq h1 h2 hq=>hnw2 q dq (by omega) (.inl h2) hq
      exact⟨k,.inl ⟨rfl,hjk⟩,bs1,[],hb1,by simp,di.kN⟩
     ·obtain⟨bs,hbs⟩:=UZ tr j hjk (by omega) hnw
      exact⟨j+1,.inr ⟨rfl,hjk⟩,[],bs++[.arr [v]],by simp,by rw[hH,hbs,List.append_assoc],by omega⟩
    have hiK:Zz T G lo (H k') w:=by rw[hb2];exact ZsL di.hi bs2
    have stK:Stp lo G0 h0 w0 G (H k') w:=by rw[hb2];exact di.st.trans (ZaV di.hi bs2)
    have hget:(H k')[(H j).length]? =some (.arr [v]):=by
     rw[hb1,hH,List.append_assoc,List.getElem?_append_right (Nat.le_refl _)];simp
    obtain⟨o,ho⟩: ∃o,ops.getD d.ix default=o:=⟨_,rfl⟩
    obtain⟨dst,op,ty,ps,after,gd⟩:=o
    obtain⟨rv,t,f1,f2,f3⟩:=Zj7 (w:=w) (by rw[ho]at c3;exact c3) hcl di.fr hvf dst ty ps after gd
    obtain⟨G',g1,g2,g3,g4,g5⟩:=ZoW hiK stK hget hvt.2 hlo hvt.1 f2 f3 t
    unfold Oper.wp
    rw[ho,f1]
    rw[Oper.upon_value]
    rw[←ho]
    refine done (k':=k') hkn (by rw[hcl];rfl) (by omega) (by omega) g3 (by rw[hX];exact g4) g1 g2 fun p dp v' hp hnp hfp hHp hw=> ?_
    rcases Nat.lt_trichotomy p j with hl|hl|hl
    ·have hnp':=tmono p dp hp hnp
     have hvp:=di.vt p dp v' hp hnp' hfp hHp fun q dq h1 h2 hq=>hnw q dq h1 (by omega) hq
     obtain⟨bs,hbs⟩:=UZ tr j (show p+1≤j by omega) (by omega) fun q dq h1 h2 hq hwr=>by
      by_cases hlq:L.getD dq.ix false=true
      ·have:=(ZW (Wh spec shut hp hnp' (by omega) hq hlq)).1
       rw[hfp,hwr]at this;simp[X4]at this
      ·have:=(ZW (bef q dq h2 hq (by simpa using hlq))).1
       rw[hwr,hcl]at this;simp[X4]at this
     have hne:(H p).length≠(H j).length:=by rw[hbs,hHp];simp
     exact⟨by rw[g5 _ hne];exact hvp.1,hvp.2⟩
    ·subst hl;exact(self_listed hp hnp).elim
    ·have hnp':=tmono p dp hp hnp
     have hnk:noW vp ds k p:=by
      intro q dq h1 h2 hq
      rcases hk' with⟨rfl,_⟩|⟨rfl,hkj⟩
      ·exact hw q dq h1 h2 hq
      ·rcases Nat.lt_trichotomy q j with hqj|hqj|hqj
       ·exact hnw q dq h1 hqj hq
       ·subst hqj;rw[hq]at hd;simp only[Option.some.injEq]at hd;subst hd;rw[hcl];simp
       ·exact hw q dq (by omega) h2 hq
     have hvp:=di.vt p dp v' hp hnp' hfp hHp hnk
     obtain⟨bs,hbs⟩:=UZ tr p (show j+1≤p by omega) (by have:=(List.getElem?_eq_some_iff.1 hp).1;omega) fun q dq h1 h2 hq=>by
      refine hnw2 q dq (by omega) (.inr fun q' dq' h1' h2' hq'=>hnk q' dq' h1' (by omega) hq') hq
     have hne:(H p).length≠(H j).length:=by rw[hbs,hH];simp
     exact⟨by rw[g5 _ hne];exact hvp.1,hvp.2⟩
   ·simp only[Prod.mk.injEq]at hpass
    rw[hX]at hpass;simp[Ya]at hpass
  ·
   refine Zfk tied ih pos.chk di.fr di.hi (hstep (hany (H k))) fun rv w' G' r1 r2 r3=> ?_
   have st':=di.st.trans r3
   have same:=ZiR (L':=L.setIfInBounds d.ix true) spec tr shut di r2 r3.mono tmono
   rcases Nat.lt_or_ge j k with hjk|hjk
   ·exact done (k':=k) di.kN (by rw[hcl];rfl) hjk (.inl rfl) r3.le (by rw[hX];exact r1) r2 st' same
   ·obtain⟨bs,hbs⟩:=UZ tr j hjk (by omega) hnw
    have hHj:H (j+1)=H k++bs:=by rw[hH,hbs]
    have hi':Zz T G' lo (H (j+1)) w':=by rw[hHj];exact ZsL r2 bs
    have st2:Stp lo G0 h0 w0 G' (H (j+1)) w':=by rw[hHj];exact st'.trans (ZaV r2 bs)
    refine done (k':=j+1) (by omega) (by rw[hcl];rfl) (Nat.lt_succ_self _) (.inr ⟨rfl,hjk⟩) r3.le (by rw[hX];exact r1) hi' st2 fun p dp v' hp hnp hfp hHp hw=> ?_
    rcases Nat.lt_trichotomy p j with hl|hl|hl
    ·exact same p dp v' hp hnp hfp hHp fun q dq h1 h2 hq=>hnw q dq h1 (by omega) hq
    ·subst hl;exact(self_listed hp hnp).elim
    ·exact far hi' st2 p dp (by omega) hp hw
end step
end
end Go.VE
namespace Go.VE
set_option linter.unnecessarySimpa false
open Classical
section
variable {P : Program} {T : Tbl} {vp : VP} {G : Gh} {w : World} {lo : Nat} {h : Zg} {G0 : Gh} {w0 : World} {h0 : Zg}
variable {ops : Array Oper} {nt : Nat} {ds : List VDt} {n : Nat} {F : Nat → Fr} {H : Nat → Zg} {X : Nat → V}
theorem Zf0{L:Array Bool}(spec: ∀q d,ds[q]? =some d→Zah P T vp ops nt ds q d)(hsz:L.size=ops.size)(hr:Region.ready .any ops L=[]): ∀(q:Nat) (d:VDt),ds[q]? =some d→L.getD d.ix false=true:=by
 intro q
 induction q using Nat.strongRecOn with
 |_ q ih=>
  intro d hd
  cases hl:L.getD d.ix false with
  |true=>rfl
  |false=>
   exfalso
   have pos:=spec q d hd
   have:d.ix∈Region.ready .any ops L:=by
    rw[mem_ready]
    refine⟨?_,ops.getD d.ix default,by rw[Array.getD_eq_getD_getElem?];simp[pos.lt],fun e he hb=> ?_⟩
    ·have hlt:d.ix<L.size:=by rw[hsz];exact pos.lt
     rw[Array.getD_eq_getD_getElem?]at hl⊢
     simp only[hlt,getElem?_pos,Option.getD_some]at hl⊢
     exact hl
    ·obtain⟨p,d',hp,hd',hix⟩:=pos.edge e (by simpa using he) hb
     rw[←hix];exact ih p hp d' hd'
   rw[hr]at this
   simp at this
theorem Zmr{L:Array Bool}(shut:ZlB ops L){i:Nat}(hi: ∀e∈(ops.getD i default).after.toList,Region.binds .any e=true→L.getD e.on false=true):ZlB ops (L.setIfInBounds i true):=by
 intro j hj e he hb
 rcases VG hj with rfl|hl
 ·exact Vd (hi e he hb)
 ·exact Vd (shut j hl e he hb)
theorem Zns(tied:U6 P T vp)(ih:Xw P T vp n)(spec: ∀q d,ds[q]? =some d→Zah P T vp ops nt ds q d)(surj: ∀i,i<ops.size→∃(q:Nat) (d:VDt),ds[q]? =some d∧d.ix=i)(tr:Trc (YV vp n) vp lo ds 0 F H X)(hb0:h0.length≤(H 0).length)(hlo:lo≤h0.length)
 {Q:Exit→Act→World→Prop} (hQ: ∀a w G',XF T G' (F ds.length) a.tmps→Zz T G' lo (H ds.length) w→Stp lo G0 h0 w0 G' (H ds.length) w→a.defers=[]→nt≤a.tmps.size→Q .normal a w): ∀(fuel:Nat) (L:Array Bool) (k:Nat) (G:Gh) (a:Act) (w:World),DI T vp lo G0 h0 w0 nt ds F H X L k G a w→ZlB ops L→L.size=ops.size→L.toList.count false≤fuel→wpAny P .any ops Q fuel L a w:=by
 have fin: ∀{L k G a w},DI T vp lo G0 h0 w0 nt ds F H X L k G a w→(∀(q:Nat) (d:VDt),ds[q]? =some d→L.getD d.ix false=true)→Q .normal a w:=by
  intro L k G a w di hall
  have hH:H ds.length=H k:=ZhM tr ds.length di.kN (Nat.le_refl _) fun q d h1 h2 hq=>by
   cases hh:Vb (Yc vp d.it.op)with
   |false=>exact .inl rfl
   |true=>have:=di.km q d hq (hall q d hq) hh;omega
  have hfr:=di.fr
  rw[ZiP tr hall _ (Nat.le_refl _)]at hfr
  exact hQ a w G hfr (by rw[hH];exact di.hi) (by rw[hH];exact di.st) di.df di.sz
 intro fuel
 induction fuel with
 |zero=>
  intro L k G a w di shut hsz hc
  have hno:false∉L.toList:=List.count_eq_zero.1 (by omega)
  have hall: ∀i,i<L.size→L[i]? =some true:=by
   intro i hi
   have:L[i]≠false:=fun e=>hno (by rw[←e];simp)
   simp[hi];simpa using this
  refine⟨?_,fin di fun q d hd=> ?_⟩
  ·rw[List.eq_nil_iff_forall_not_mem]
   intro i hi
   obtain⟨h1,o,ho,_⟩:=mem_ready.1 hi
   have hlt:i<L.size:=by
    rw[hsz]
    rcases Nat.lt_or_ge i ops.size with hh|hh
    ·exact hh
    ·rw[Array.getElem?_eq_none hh]at ho;simp at ho
   rw[Array.getD_eq_getD_getElem?,hall i hlt]at h1;simp at h1
  ·have:=(spec q d hd).lt
   rw[Array.getD_eq_getD_getElem?,hall d.ix (by omega)];rfl
 |succ fuel ihf=>
  intro L k G a w di shut hsz hc
  refine⟨fun hr=>fin di (Zf0 spec hsz hr),fun i hi=> ?_⟩
  obtain⟨h1,o,ho,he⟩:=mem_ready.1 hi
  have hil:i<ops.size:=by
   rcases Nat.lt_or_ge i ops.size with hh|hh
   ·exact hh
   ·rw[Array.getElem?_eq_none hh]at ho;simp at ho
  obtain⟨j,d,hd,rfl⟩:=surj i hil
  have hoo:ops.getD d.ix default=o:=by rw[Array.getD_eq_getD_getElem?,ho];rfl
  have hl:L.getD d.ix false=false:=by
   have hlt:d.ix<L.size:=by omega
   rw[Array.getD_eq_getD_getElem?]at h1⊢
   simp only[hlt,getElem?_pos,Option.getD_some]at h1⊢
   exact h1
  have hr: ∀e∈(ops.getD d.ix default).after.toList,Region.binds .any e=true→L.getD e.on false=true:=fun e hem hb=>he e (by rw[←hoo];simpa using hem) hb
  refine Zdy tied ih spec tr shut hlo di hd (by omega) hl hr fun a' w' k' G' di'=> ?_
  refine ihf _ k' G' a' w' di' (Zmr shut hr) (by simp[hsz]) ?_
  have hlt:d.ix<L.toList.length:=by simp;omega
  have hgl:L.toList[d.ix]=false:=by
   have hlt':d.ix<L.size:=by omega
   rw[Array.getD_eq_getD_getElem?]at hl
   simpa[hlt']using hl
  rw[Array.toList_setIfInBounds,List.count_set hlt,hgl]
  have e1:(false==false)=true:=rfl
  have e2:(true==false)=false:=rfl
  simp only[e1,e2,if_true,Bool.false_eq_true,if_false]
  have:=List.count_pos_iff.2 (show false∈L.toList by rw[←hgl];exact List.getElem_mem hlt)
  omega
theorem Zer{L:Array Bool}{F0:Fr}(hL: ∀i,L.getD i false=false): ∀m,frS L ds F0 X m=F0
 |0=>rfl
 |m+1=>by
  simp only[frS,hL,Bool.false_eq_true,if_false,Zer hL m]
  split<;>rfl
theorem Zo8(tied:U6 P T vp)(ih:Xw P T vp n){id:Nat}(hc:Za4 P T vp ops nt ds=true){fr fr':Fr}{h':Zg}{a:Act}
 (e:Ur (YV vp n) vp lo ds 0 [] fr h=some (fr',h')) (hs:St T lo G0 h0 w0 nt fr h a w) {Q:Exit→Act→World→Prop} (hQ: ∀a w,St T lo G0 h0 w0 nt fr' h' a w→Q .normal a w):(Code.region id ops true).wp P Q a w:=by
 obtain⟨spec,surj⟩:=ZfF hc
 obtain⟨F,H,X,k1,k2,k3,k4,tr,_⟩:=Znr _ _ _ _ _ _ e
 obtain⟨G,s1,s2,s3,s4,s5⟩:=hs
 refine wp_region_any tied.mix ?_
 let w1:World:={w with drawn:=w.drawn+1}
 have hi1:Zz T G lo h w1:=s2.grow (Nat.le_refl _) (fun _ _=>rfl)
 have st1:Stp lo G h w G h w1:=.grow rfl rfl rfl (Nat.le_refl _) (fun _ _=>rfl)
 have hL: ∀i,(Array.replicate ops.size false).getD i false=false:=by
  intro i
  rw[Array.getD_eq_getD_getElem?,Array.getElem?_replicate]
  split<;>rfl
 subst k1
 subst k2
 refine Zns (G0:=G) (h0:=H 0) (w0:=w) tied ih spec surj tr (Nat.le_refl _) s2.llo (fun a' w' G' q1 q2 q3 q4 q5=> ?_) ops.size _ 0 G a w1 ⟨Nat.zero_le _,.inl rfl,fun p d hp hl=> ?_,?_,hi1,st1,s4,s5,fun p d v hp hl hcl hHp hw=> ?_⟩ ?_ (by simp) (by simp[List.count_le_length])
 ·rw[k3]at q1
  rw[k4]at q2 q3
  exact hQ a' w' ⟨G',q1,q2,s3.trans q3,q4,q5⟩
 ·rw[hL]at hl;simp at hl
 ·rw[Zer hL];exact s1
 ·obtain⟨bs,hbs⟩:=UZ tr p (Nat.zero_le _) (by have:=(List.getElem?_eq_some_iff.1 hp).1;omega) hw
  refine⟨?_,by rw[hbs];simp⟩
  cases hsg:G.sg (H p).length 1 with
  |none=>rfl
  |some g=>
   have hlt:=hi1.sdomh hsg
   rw[hbs]at hlt;simp at hlt;omega
 ·intro i hl
  rw[hL]at hl;simp at hl
end
end Go.VE
