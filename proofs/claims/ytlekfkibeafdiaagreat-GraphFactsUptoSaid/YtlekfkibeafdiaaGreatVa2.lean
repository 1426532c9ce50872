/- Joined texts: VeGc2, VeMemOps, VeMemOps2, VeMemOps3, VeAppend, VeAppend2, VeStep, VeStep2. No condition: what each theorem needs stands in it. -/
import Derived.Test.YtlekfkibeafdiaaGreatVa1
import Derived.IntWalk
namespace Go.VE
set_option linter.unnecessarySimpa false
open Classical
section
variable {P : Program} {T : Tbl} {G : Gh} {w w' : World} {lo : Nat} {h : Zg}
theorem XM{f:V→Option V}: ∀{l l':List V},Y5 f l=some l'→l'.length=l.length∧(∀(i:Nat) (v:V),l[i]? =some v→∃v',l'[i]? =some v'∧f v=some v')∧(∀(i:Nat) (v':V),l'[i]? =some v'→∃v,l[i]? =some v∧f v=some v')
 |[],l',e=>by simp[Y5]at e;subst e;simp
 |x::l,l',e=>by
  simp only[Y5,Option.bind_eq_some_iff,Option.map_eq_some_iff]at e
  obtain⟨x',hx,l'',hl,rfl⟩:=e
  obtain⟨h1,h2,h3⟩:=XM hl
  refine⟨by simp[h1],fun i v hv=> ?_,fun i v hv=> ?_⟩
  ·cases i with
   |zero=>simp at hv;subst hv;exact⟨x',by simp,hx⟩
   |succ i=>simpa using h2 i v (by simpa using hv)
  ·cases i with
   |zero=>simp at hv;subst hv;exact⟨x,by simp,hx⟩
   |succ i=>simpa using h3 i v (by simpa using hv)
theorem QN{B ep off len:Nat}{es:List V}(e:KK h B ep off len=some es): ∃es0,h[B]? =some (.arr es0)∧es0.length=ep∧off+len≤ep∧es=(es0.drop off).take len:=by
 unfold KK at e
 split at e
 ·rename_i es0 h0
  split at e
  ·rename_i hc;simp at e;exact⟨es0,h0,hc.1,hc.2,e.symm⟩
  ·simp at e
 ·simp at e
theorem UL{lo:Nat}{h:Zg}{d:Nat}{v:V}(hc:Ze v=true):frz lo h d v=some v:=by
 cases d<;>simp[frz,hc]
theorem ZkV{lo:Nat}{h:Zg}{d:Nat}{e e':V}(hf:frz lo h d e=some e'):e'.cells.length=e.cells.length∧
 ∀(j:Nat) (c':V),e'.cells[j]? =some c'→∃d' c,d'≤d∧e.cells[j]? =some c∧frz lo h d' c=some c':=by
 by_cases hc:Ze e=true
 ·rw[UL hc]at hf
  simp only[Option.some.injEq]at hf;subst hf
  exact⟨rfl,fun j c' hj=>⟨d,c',Nat.le_refl _,hj,UL (UH hc hj)⟩⟩
 ·cases d with
  |zero=>simp[frz,hc]at hf
  |succ d=>
   have scalar:e.cells=[e]→e'.cells=[e']→e'.cells.length=e.cells.length∧
    ∀(j:Nat) (c':V),e'.cells[j]? =some c'→∃d' c,d'≤d+1∧e.cells[j]? =some c∧frz lo h d' c=some c':=by
    intro h1 h2
    rw[h1,h2]
    refine⟨rfl,fun j c' hj=> ?_⟩
    cases j with
    |zero=>simp at hj;subst hj;exact⟨d+1,e,Nat.le_refl _,by simp,hf⟩
    |succ j=>simp at hj
   have hf':=hf
   simp only[frz,hc,Bool.false_eq_true,if_false]at hf
   cases e<;>simp only at hf<;>try contradiction
   case gsl B ep z off len=>
    split at hf
    ·simp at hf;subst hf;exact scalar rfl rfl
    ·simp only[Option.bind_eq_some_iff,Option.map_eq_some_iff]at hf
     obtain⟨es,_,es',_,rfl⟩:=hf
     exact scalar rfl rfl
   case ptr B ep i o=>
    split at hf
    ·simp at hf;subst hf;exact scalar rfl rfl
    ·split at hf
     ·split at hf
      ·simp only[Option.bind_eq_some_iff,Option.map_eq_some_iff]at hf
       obtain⟨_,_,_,_,rfl⟩:=hf
       exact scalar rfl rfl
      ·simp at hf
     ·simp at hf
   case tup vs=>
    simp only[Option.map_eq_some_iff]at hf
    obtain⟨_,_,rfl⟩:=hf
    exact scalar rfl rfl
   case agg vs=>
    simp only[Option.map_eq_some_iff]at hf
    obtain⟨vs',h1,rfl⟩:=hf
    obtain⟨k1,k2,k3⟩:=XM h1
    refine⟨k1,fun j c' hj=> ?_⟩
    obtain⟨c,hc1,hc2⟩:=k3 j c' hj
    exact⟨d,c,by omega,hc1,hc2⟩
   case iface t v=>
    simp only[Option.map_eq_some_iff]at hf
    obtain⟨_,_,rfl⟩:=hf
    exact scalar rfl rfl
theorem ZnS{G1:Gh}{lo1 n:Nat}{h1:Zg}{w1:World}(hi:Zz T G1 lo1 h1 w1)(hlo:lo1≤n)(hp: ∀b off v,G1.Gp b off=some v→G.Gp b off=some v)
 (hs: ∀B ep g,B<n→G1.sg B ep=some g→G.sg B ep=some g) (hn:n≤G.n)
 (hlate: ∀B es g off v,n≤B→h1[B]? =some (.arr es)→G1.sg B es.length=some g→w1.cell? ⟨g.b,off,none⟩=some v→G.Gp g.b off=some v): ∀(d:Nat) (v v':V) (rv:Value),frz n h1 d v=some v'→R T G1 v rv→R T G v' rv:=by
 intro d
 induction d using Nat.strongRecOn with
 |_ d ih=>
  intro v v' rv hf hR
  by_cases hc:Ze v=true
  ·rw[UL hc]at hf
   simp only[Option.some.injEq]at hf;subst hf
   exact hR.closed hp hc
  ·cases d with
   |zero=>simp[frz,hc]at hf
   |succ d=>
    have elem: ∀{B:Nat} {es:List V} {g:Img} {i:Nat} {e e':V},n≤B→h1[B]? =some (.arr es)→G1.sg B es.length=some g→es[i]? =some e→frz n h1 d e=some e'→
     e'.cells.length=g.z∧∀(j:Nat) (c:V),e'.cells[j]? =some c→∃x,G.Gp g.b (g.o+i*g.z+j)=some x∧R T G c x∧oc x=true:=by
     intro B es g i e e' hB he hg hi' hfe
     obtain⟨c,t,fz,l1,l2,l3,l4,l5⟩:=hi.live B es g he hg
     obtain⟨m1,m2⟩:=l5 i e hi'
     obtain⟨f1,f2⟩:=ZkV hfe
     refine⟨by rw[f1,m1],fun j c' hj=> ?_⟩
     obtain⟨d',c0,hd',hc0,hfc⟩:=f2 j c' hj
     obtain⟨rv,r1,r2,r3⟩:=m2 j c0 hc0
     refine⟨rv,hlate B es g _ rv hB he hg ?_,ih d' (by omega) c0 c' rv hfc r2,r3⟩
     simp only[World.cell?,l1];exact r1
    simp only[frz,hc,Bool.false_eq_true,if_false]at hf
    cases v<;>simp only at hf<;>try contradiction
    case gsl B ep z off len=>
     obtain⟨a,cap,rfl,hB,hl,hg⟩:=hR.gsl_inv
     split at hf
     ·rename_i hBn
      simp at hf;subst hf
      exact .gsl _ _ _ _ _ _ _ (by omega) hl (hg.imp id fun⟨g,k1,k2⟩=>⟨g,hs _ _ _ hBn k1,k2⟩)
     ·rename_i hBn
      simp only[Option.bind_eq_some_iff,Option.map_eq_some_iff]at hf
      obtain⟨es,h0,es',h2,rfl⟩:=hf
      obtain⟨es0,e0,e1,e2,rfl⟩:=QN h0
      obtain⟨o1,o2,o3⟩:=XM h2
      have hlen:es'.length=len:=by rw[o1];simp;omega
      have key: ∀i e',es'[i]? =some e'→∃e,es0[off+i]? =some e∧frz n h1 d e=some e':=by
       intro i e' hi'
       obtain⟨e,k1,k2⟩:=o3 i e' hi'
       rw[List.getElem?_take,List.getElem?_drop]at k1
       split at k1
       ·exact⟨e,k1,k2⟩
       ·simp at k1
      rcases hg with rfl|⟨g,k1,k2,rfl,k3⟩
      ·have:es'=[]:=List.eq_nil_of_length_eq_zero (by omega)
       subst this
       simp at hlen;subst hlen
       exact .sl z [] .perm a 0 0 0 (fun _ _=>undef) (by simp) (.plain rfl (by simp) rfl _ _ _) (by simp) (by simp) (by simp) (by simp) (by simp)
      ·rw[←hlen]
       subst k2;subst e1
       refine .sl g.z es' .perm _ cap g.b (g.o+off*g.z) (fun i j=>(G.Gp g.b (g.o+off*g.z+i*g.z+j)).getD undef) (by omega) (.plain rfl (by simp) rfl _ _ _) (fun _=>rfl) (fun i e hi'=> ?_) (fun i e j c hi' hj=> ?_) (fun i e j c hi' hj=> ?_) (fun i e j c hi' hj=> ?_)
       ·obtain⟨e0',q1,q2⟩:=key i e hi'
        exact(elem (by omega) e0 k1 q1 q2).1
       all_goals
        obtain⟨e0',q1,q2⟩:=key i e hi'
        obtain⟨x,x1,x2,x3⟩:=(elem (by omega) e0 k1 q1 q2).2 j c hj
        rw[show g.o+(off+i)*g.z+j=g.o+off*g.z+i*g.z+j by rw[Nat.add_mul];omega]at x1
        first
         |(simp only[gAt,x1,Option.getD_some];done)
         |(simp only[gAt,x1,Option.getD_some];first|exact x2|exact x3)
    case ptr B ep i o=>
     obtain⟨g,hg,rfl⟩:=hR.ptr_inv
     split at hf
     ·rename_i hBn
      simp at hf;subst hf
      exact .ptr _ _ _ _ g (hs _ _ _ hBn hg)
     ·rename_i hBn
      split at hf
      ·rename_i es he
       split at hf
       ·rename_i hep
        subst hep
        simp only[Option.bind_eq_some_iff,Option.map_eq_some_iff]at hf
        obtain⟨e,h0,e',h2,rfl⟩:=hf
        obtain⟨q1,q2⟩:=elem (by omega) he hg h0 h2
        refine .eptr e' o .perm g.b (g.o+i*g.z) (fun j=>(G.Gp g.b (g.o+i*g.z+j)).getD undef) (fun j c hj=> ?_) (fun j c hj=> ?_) (fun j c hj=> ?_)
        all_goals
         obtain⟨x,x1,x2,x3⟩:=q2 j c hj
         first
          |(simp only[gAt,x1,Option.getD_some];done)
          |(simp only[gAt,x1,Option.getD_some];first|exact x2|exact x3)
       ·simp at hf
      ·simp at hf
    case tup vs=>
     simp only[Option.map_eq_some_iff]at hf
     obtain⟨vs',h2,rfl⟩:=hf
     obtain⟨c,rfl,t1,t2⟩:=hR.tup_inv
     obtain⟨o1,o2,o3⟩:=XM h2
     refine .tup vs' c (by omega) fun i v rv e1 e2=> ?_
     obtain⟨v0,k1,k2⟩:=o3 i v e1
     exact ih d (by omega) v0 v rv k2 (t2 i v0 rv k1 e2)
    case agg vs=>
     simp only[Option.map_eq_some_iff]at hf
     obtain⟨vs',h2,rfl⟩:=hf
     obtain⟨c,rfl,t1,t2,t3⟩:=hR.agg_inv
     obtain⟨o1,o2,o3⟩:=XM h2
     refine .agg vs' c (by omega) (fun i v rv e1 e2=> ?_) t3
     obtain⟨v0,k1,k2⟩:=o3 i v e1
     exact ih d (by omega) v0 v rv k2 (t2 i v0 rv k1 e2)
    case iface t v=>
     simp only[Option.map_eq_some_iff]at hf
     obtain⟨x',h2,rfl⟩:=hf
     obtain⟨tid,x,rfl,t1,t2⟩:=hR.iface_inv
     exact .iface t tid x' x t1 (ih d (by omega) _ _ _ h2 t2)
def Gh.inner(G:Gh)(w:World):Gh:={G with Gb:=fun b off=>w.cell? ⟨b,off,none⟩}
theorem K3(hi:Zz T G lo h w):Zz T (G.inner w) h.length h w∧G.le (G.inner w):=by
 have hle:G.le (G.inner w):=⟨fun _ _ _ e=>e,fun b off v e=>hi.gb _ _ _ e,fun _ _ _ e=>e,fun _ _ e=>e,Nat.le_refl _⟩
 refine⟨⟨hi.gp,fun _ _ _ e=>e,Nat.le_refl _,hi.nle,hi.sdom,hi.idom,hi.eple,fun B es g e hs=> ?_,hi.iter,fun B es g hl e=> ?_,fun B s pos r hl e=> ?_⟩,hle⟩
 ·obtain⟨c',t',fz',h1,h2,h3,h4,h6⟩:=hi.live _ _ _ e hs
  exact⟨c',t',fz',h1,h2,h3,h4,h6.mono hle⟩
 ·have:=(List.getElem?_eq_some_iff.1 e).1;omega
 ·have:=(List.getElem?_eq_some_iff.1 e).1;omega
noncomputable def Gh.outer (G G1:Gh) (h h1:Zg) (w1:World):Gh where
 Gp b off:=if Uo G1 h.length h.length h1 b then w1.cell? ⟨b,off,none⟩else G1.Gp b off
 Gb:=G.Gb
 sg:=G.sg
 io:=G.io
 n:=h.length
theorem Ztb{G1:Gh}{h1:Zg}{w1:World}(hi:Zz T G lo h w)(hi1:Zz T G1 h.length h1 w1)(st:Stp h.length (G.inner w) h w G1 h1 w1):Zz T (G.outer G1 h h1 w1) lo h w1∧Stp lo G h w (G.outer G1 h h1 w1) h w1∧
 ∀(d:Nat) (v v':V) (rv:Value),frz h.length h1 d v=some v'→R T G1 v rv→R T (G.outer G1 h h1 w1) v' rv:=by
 have noown: ∀b,¬Own (G.inner w) h.length h b:=by
  rintro b ⟨B,hl,⟨es,g,e,_⟩|⟨s,pos,e,_⟩⟩
  ·have:=(List.getElem?_eq_some_iff.1 e).1;omega
  ·have:=(List.getElem?_eq_some_iff.1 e).1;omega
 have old: ∀b,b<w.heap.size→w1.heap[b]? =w.heap[b]? ∧(∀off,G1.Gp b off=G.Gp b off)∧¬Uo G1 h.length h.length h1 b:=fun b hb=>by
  obtain⟨k1,k2,k3⟩:=st.keep b hb (noown b)
  exact⟨k1,k2,fun hl=>k3 hl.own⟩
 have gpo: ∀b off,b<w.heap.size→(G.outer G1 h h1 w1).Gp b off=G.Gp b off:=by
  intro b off hb
  show(if Uo G1 h.length h.length h1 b then w1.cell? ⟨b,off,none⟩else G1.Gp b off)=_
  rw[if_neg (old b hb).2.2];exact(old b hb).2.1 off
 have hle:G.le (G.outer G1 h h1 w1):=⟨fun b off v e=>by rw[gpo b off (hi.gp_lt e)];exact e,fun _ _ _ e=>e,fun _ _ _ e=>e,fun _ _ e=>e,hi.nle⟩
 have hp1: ∀b off v,G1.Gp b off=some v→(G.outer G1 h h1 w1).Gp b off=some v:=by
  intro b off v e
  show(if Uo G1 h.length h.length h1 b then w1.cell? ⟨b,off,none⟩else G1.Gp b off)=some v
  split
  ·exact hi1.gp _ _ _ e
  ·exact e
 refine⟨⟨fun b off v e=> ?_,fun b off v e=> ?_,hi.llo,Nat.le_refl _,fun B ep g e=>Nat.lt_of_lt_of_le (hi.sdom _ _ _ e) hi.nle,fun B r e=>Nat.lt_of_lt_of_le (hi.idom _ _ e) hi.nle,hi.eple,fun B es g e hs=> ?_,fun B s pos r e hr=> ?_,fun B es g hl e hs=> ?_,hi.iown⟩,⟨hle,st.os,st.tape,st.output,st.size,fun b hb hno=>⟨(old b hb).1,fun off=>gpo b off hb,hno⟩,rfl,fun _ _=>⟨fun _=>rfl,rfl⟩,.same fun _ _=>rfl⟩,fun d v v' rv hf hR=> ?_⟩
 ·have e':(if Uo G1 h.length h.length h1 b then w1.cell? ⟨b,off,none⟩else G1.Gp b off)=some v:=e
  split at e'
  ·exact e'
  ·exact hi1.gp _ _ _ e'
 ·have e':G.Gb b off=some v:=e
  rw[Xr (old b (hi.gb_lt e')).1];exact hi.gb _ _ _ e'
 ·obtain⟨c',t',fz',k1,k2,k3,k4,k6⟩:=hi.live _ _ _ e hs
  exact⟨c',t',fz',by rw[(old _ (XE k1)).1];exact k1,k2,k3,k4,k6.mono hle⟩
 ·obtain⟨s',k1,k2⟩:=hi.iter _ _ _ _ e hr
  exact⟨s',k1,by rw[(old _ (XE k2)).1];exact k2⟩
 ·obtain⟨k1,k2⟩:=hi.own _ _ _ hl e hs
  exact⟨fun off=>⟨by rw[gpo _ _ (hi.live_lt e hs)];exact(k1 off).1,(k1 off).2⟩,k2⟩
 ·refine ZnS hi1 (Nat.le_refl _) hp1 (fun B ep g hB e=> ?_) (Nat.le_refl _) (fun B es g off x hB e hs hx=> ?_) d v v' rv hf hR
  ·have:=(st.slo B hB).1 ep
   rw[e]at this;exact this.symm
  ·show(if Uo G1 h.length h.length h1 g.b then w1.cell? ⟨g.b,off,none⟩else G1.Gp g.b off)=some x
   rw[if_pos ⟨B,es,g,hB,hB,e,hs,rfl⟩];exact hx
theorem ZeN{d:Nat}{e e':V}(h':Yd h d e=some e'):e'.cells.length=e.cells.length∧
 ∀(j:Nat) (c':V),e'.cells[j]? =some c'→∃c,e.cells[j]? =some c∧∃d',d'≤d∧Yd h d' c=some c':=by
 cases d with
 |zero=>simp only[Yd,Option.some.injEq]at h';subst h';exact⟨rfl,fun j c' hj=>⟨c',hj,0,Nat.le_refl _,rfl⟩⟩
 |succ d=>
  have other:e.cells=[e]→e'.cells=[e']→e'.cells.length=e.cells.length∧∀(j:Nat) (c':V),e'.cells[j]? =some c'→∃c,e.cells[j]? =some c∧∃d',d'≤d+1∧Yd h d' c=some c':=by
   intro h1 h2
   refine⟨by rw[h1,h2];rfl,fun j c' hj=> ?_⟩
   rw[h2]at hj
   cases j with
   |zero=>simp at hj;subst hj;exact⟨e,by rw[h1];rfl,d+1,Nat.le_refl _,h'⟩
   |succ j=>simp at hj
  have h0:=h'
  simp only[Yd]at h'
  split at h'
  ·simp only[Option.some.injEq]at h';subst h'
   refine⟨rfl,fun j c' hj=>⟨c',hj,0,Nat.zero_le _,rfl⟩⟩
  ·split at h'
   ·simp only[Option.bind_eq_some_iff,Option.map_eq_some_iff]at h'
    obtain⟨_,_,_,_,rfl⟩:=h'
    exact other rfl rfl
   ·split at h'
    ·split at h'
     ·simp only[Option.bind_eq_some_iff,Option.map_eq_some_iff]at h'
      obtain⟨_,_,_,_,rfl⟩:=h'
      exact other rfl rfl
     ·simp at h'
    ·simp at h'
   ·simp only[Option.map_eq_some_iff]at h'
    obtain⟨cs',h1,rfl⟩:=h'
    obtain⟨o1,o2,o3⟩:=XM h1
    refine⟨by simpa[V.cells]using o1,fun j c' hj=> ?_⟩
    obtain⟨v,k1,k2⟩:=o3 j c' (by simpa[V.cells]using hj)
    exact⟨v,by simpa[V.cells]using k1,d,Nat.le_succ _,k2⟩
   ·simp only[Option.bind_eq_some_iff,Option.map_eq_some_iff]at h'
    obtain⟨_,_,_,_,rfl⟩:=h'
    exact other rfl rfl
   ·simp only[Option.map_eq_some_iff]at h'
    obtain⟨_,_,rfl⟩:=h'
    exact other rfl rfl
   ·simp only[Option.some.injEq]at h';subst h'
    refine⟨rfl,fun j c' hj=>⟨c',hj,0,Nat.zero_le _,rfl⟩⟩
theorem Zpl(hi:Zz T G lo h w): ∀(d:Nat) {v v':V} {rv:Value},Yd h d v=some v'→R T G v rv→R T (G.inner w) v' rv:=by
 intro d
 induction d using Nat.strongRecOn with
 |_ d ih=>
 intro v v' rv e hR
 have hle:=(K3 hi).2
 cases d with
 |zero=>simp only[Yd,Option.some.injEq]at e;subst e;exact hR.mono hle
 |succ d=>
 have elem: ∀{es0:List V} {B:Nat} {g:Img} {i:Nat} {e e':V},h[B]? =some (.arr es0)→G.sg B es0.length=some g→es0[i]? =some e→Yd h d e=some e'→
  e'.cells.length=g.z∧∀j c,e'.cells[j]? =some c→∃rv,w.cell? ⟨g.b,g.o+i*g.z+j,none⟩=some rv∧R T (G.inner w) c rv∧oc rv=true:=by
  intro es0 B g i e e' e0 k1 hi' hv
  obtain⟨c,t,fz,l1,l2,l3,l4,l5⟩:=hi.live B es0 g e0 k1
  obtain⟨q1,q2⟩:=ZeN hv
  refine⟨by rw[q1];exact(l5 _ e hi').1,fun j x hj=> ?_⟩
  obtain⟨y,y1,d',hd',y2⟩:=q2 j x hj
  obtain⟨rv,r1,r2,r3⟩:=(l5 _ e hi').2 j y y1
  exact⟨rv,by simp only[World.cell?,l1];exact r1,ih d' (by omega) y2 r2,r3⟩
 simp only[Yd]at e
 split at e
 ·simp only[Option.some.injEq]at e;subst e;exact hR.mono hle
 ·split at e
  ·rename_i B ep z off len _
   simp only[Option.bind_eq_some_iff,Option.map_eq_some_iff]at e
   obtain⟨es,hs,es',hv,rfl⟩:=e
   obtain⟨a,cap,rfl,hB,hl,hg⟩:=hR.gsl_inv
   obtain⟨es0,e0,e1,e2,rfl⟩:=QN hs
   obtain⟨o1,o2,o3⟩:=XM hv
   have hlen:es'.length=len:=by rw[o1];simp;omega
   rcases hg with rfl|⟨g,k1,k2,rfl,k3⟩
   ·have hl0:len=0:=by omega
    have hnil:es'=[]:=by apply List.eq_nil_of_length_eq_zero;omega
    subst hl0;subst hnil
    exact .sl z [] .brw a 0 0 0 (fun _ _=>undef) (by simp) (.plain rfl (by simp) rfl _ _ _) (by simp) (by simp) (by simp) (by simp) (by simp)
   ·subst k2;subst e1
    have key: ∀i e,((es0.drop off).take len)[i]? =some e→es0[off+i]? =some e:=by
     intro i e hi'
     rw[List.getElem?_take,List.getElem?_drop]at hi'
     split at hi'
     ·exact hi'
     ·simp at hi'
    have cellv: ∀i e',es'[i]? =some e'→e'.cells.length=g.z∧∀j x,e'.cells[j]? =some x→∃rv,w.cell? ⟨g.b,g.o+off*g.z+i*g.z+j,none⟩=some rv∧R T (G.inner w) x rv∧oc rv=true:=by
     intro i e' hi'
     obtain⟨e,p1,p2⟩:=o3 i e' hi'
     obtain⟨p3,p4⟩:=elem e0 k1 (key i e p1) p2
     refine⟨p3,fun j x hj=> ?_⟩
     rw[show g.o+off*g.z+i*g.z+j=g.o+(off+i)*g.z+j by rw[Nat.add_mul];omega]
     exact p4 j x hj
    have:=R.sl (T:=T) (G:=G.inner w) g.z es' .brw (some ⟨g.b,g.o+off*g.z,none⟩) cap g.b (g.o+off*g.z) (fun i j=>(w.cell? ⟨g.b,g.o+off*g.z+i*g.z+j,none⟩).getD undef) (by omega) (.plain rfl (by simp) rfl _ _ _) (fun _=>rfl)
     (fun i e hi'=>(cellv i e hi').1) (fun i e j x hi' hj=>by obtain⟨rv,r1,r2,r3⟩:=(cellv i e hi').2 j x hj;show w.cell? _=some _;rw[r1];rfl)
     (fun i e j x hi' hj=>by obtain⟨rv,r1,r2,r3⟩:=(cellv i e hi').2 j x hj;rw[r1];exact r2)
     (fun i e j x hi' hj=>by obtain⟨rv,r1,r2,r3⟩:=(cellv i e hi').2 j x hj;rw[r1];exact r3)
    rw[hlen]at this
    exact this
  ·rename_i B ep i o _
   obtain⟨g,hg,rfl⟩:=hR.ptr_inv
   split at e
   ·rename_i es he
    split at e
    ·rename_i hep
     subst hep
     simp only[Option.bind_eq_some_iff,Option.map_eq_some_iff]at e
     obtain⟨e0,h0,e',h2,rfl⟩:=e
     obtain⟨q1,q2⟩:=elem he hg h0 h2
     refine .eptr e' o .brw g.b (g.o+i*g.z) (fun j=>(w.cell? ⟨g.b,g.o+i*g.z+j,none⟩).getD undef) (fun j c hj=> ?_) (fun j c hj=> ?_) (fun j c hj=> ?_)
     ·obtain⟨x,x1,x2,x3⟩:=q2 j c hj
      show w.cell? _=some _
      rw[x1];rfl
     ·obtain⟨x,x1,x2,x3⟩:=q2 j c hj
      rw[x1];exact x2
     ·obtain⟨x,x1,x2,x3⟩:=q2 j c hj
      rw[x1];exact x3
    ·simp at e
   ·simp at e
  ·rename_i cs _
   simp only[Option.map_eq_some_iff]at e
   obtain⟨cs',h1,rfl⟩:=e
   obtain⟨c,rfl,t1,t2,t3⟩:=hR.agg_inv
   obtain⟨o1,o2,o3⟩:=XM h1
   refine .agg cs' c (by omega) (fun i v rv e1 e2=> ?_) t3
   obtain⟨v0,k1,k2⟩:=o3 i v e1
   exact ih d (by omega) k2 (t2 i v0 rv k1 e2)
  ·rename_i f as bs _
   simp only[Option.bind_eq_some_iff,Option.map_eq_some_iff]at e
   obtain⟨as',h1,bs',h2,rfl⟩:=e
   obtain⟨fid,ra,rb,rfl,ht,t1,t3,t2,t4⟩:=hR.func_inv
   obtain⟨o1,o2,o3⟩:=XM h1
   obtain⟨p1,p2,p3⟩:=XM h2
   refine .func f fid as' bs' ra rb ht (by omega) (by omega) (fun i v rv e1 e2=> ?_) (fun i v rv e1 e2=> ?_)
   ·obtain⟨v0,k1,k2⟩:=o3 i v e1
    exact ih d (by omega) k2 (t2 i v0 rv k1 e2)
   ·obtain⟨v0,k1,k2⟩:=p3 i v e1
    exact ih d (by omega) k2 (t4 i v0 rv k1 e2)
  ·rename_i t v0 _
   simp only[Option.map_eq_some_iff]at e
   obtain⟨x',h2,rfl⟩:=e
   obtain⟨tid,x,rfl,t1,t2⟩:=hR.iface_inv
   exact .iface t tid x' x t1 (ih d (by omega) h2 t2)
  ·simp only[Option.some.injEq]at e;subst e;exact hR.mono hle
theorem Ztf(hi:Zz T G lo h w){v v':V}{rv:Value}(e:X5 h v=some v')(hR:R T G v rv):R T (G.inner w) v' rv:=Zpl hi 4 e hR
end
end Go.VE
namespace Go.VE
set_option linter.unnecessarySimpa false
open Classical
section
variable {P : Program} {T : Tbl} {G : Gh} {w w' : World} {lo : Nat} {h : Zg}
theorem ZiK{e v:V}{agg:Bool}{n o b base:Nat}{t:TypeId}(ht:Xf P t=some agg)(hs:agg=true→Xh P t=some n)(hl:ldc e agg n o=some v)
 (hc: ∀(j:Nat) (c:V),e.cells[j]? =some c→∃rv,w.cell? ⟨b,base+j,none⟩=some rv∧R T G c rv∧oc rv=true): ∃rv,(loadVar t ⟨b,base+o,none⟩).run P w=.ok rv w∧R T G v rv:=by
 unfold ldc at hl
 cases agg with
 |true=>
  simp only[if_true]at hl
  split at hl
  ·rename_i hle
   simp only[Option.some.injEq]at hl;subst hl
   let f:Nat→Value:=fun j=>(w.cell? ⟨b,base+o+j,none⟩).getD undef
   have hf: ∀j,j<n→∃c,((e.cells.drop o).take n)[j]? =some c∧w.cell? ⟨b,base+o+j,none⟩=some (f j)∧R T G c (f j)∧oc (f j)=true:=by
    intro j hj
    have hlt:o+j<e.cells.length:=by omega
    obtain⟨rv,h1,h2,h3⟩:=hc (o+j) _ (List.getElem?_eq_getElem hlt)
    rw[←Nat.add_assoc]at h1
    refine⟨e.cells[o+j],?_,?_⟩
    ·rw[List.getElem?_take,if_pos hj,List.getElem?_drop,List.getElem?_eq_getElem hlt]
    ·simp only[f,h1,Option.getD_some];exact⟨trivial,h2,h3⟩
   have hrun:(loadCells ⟨b,base+o,none⟩ n).run P w=.ok ((List.range n).map f).toArray w:=by
    refine run_loadCells w _ n f fun j hj=> ?_
    rw[XV]
    obtain⟨c,_,h2,_⟩:=hf j hj
    exact h2
   refine⟨.agg ((List.range n).map f).toArray,by simp[loadVar,Ju ht,Xm (hs rfl),hrun],.agg _ _ (by simp;omega) (fun i v rv h1 h2=> ?_) (fun i rv h2=> ?_)⟩
   ·have hi:i<n:=by
     have:=(List.getElem?_eq_some_iff.1 h1).1
     simp at this;omega
    obtain⟨c,k1,_,k3,_⟩:=hf i hi
    rw[k1]at h1;simp only[Option.some.injEq]at h1;subst h1
    simp[hi]at h2;subst h2;exact k3
   ·by_cases hi:i<n
    ·obtain⟨c,k1,_,k3,k4⟩:=hf i hi
     simp[hi]at h2;subst h2;exact k4
    ·simp[hi]at h2
  ·simp at hl
 |false=>
  simp only[Bool.false_eq_true,if_false]at hl
  obtain⟨rv,h1,h2,h3⟩:=hc o v hl
  exact⟨rv,by simp[loadVar,Ju ht,h1],h2⟩
theorem Zbv(hi:Zz T G lo h w){agg:Bool}{n:Nat}{a v:V}{ra:Value}{t:TypeId}(ht:Xf P t=some agg)(hs:agg=true→Xh P t=some n)(e:Yv h agg n a=some v)(ha:R T G a ra):
 ∃rv ad,ra=.pointer (some ad)∧(loadVar t ad).run P w=.ok rv w∧R T G v rv:=by
 unfold Yv at e
 split at e
 ·obtain⟨b,base,f,rfl,hg,hR,ho⟩:=ha.eptr_inv
  obtain⟨rv,h1,h2⟩:=ZiK (w:=w) (b:=b) (base:=base) ht hs e (fun j c hj=>⟨f j,K2 hi (hg j c hj),hR j c hj,ho j c hj⟩)
  exact⟨rv,_,rfl,h1,h2⟩
 ·rename_i B ep i o
  obtain⟨g,hg,rfl⟩:=ha.ptr_inv
  split at e
  ·rename_i es hB
   split at e
   ·rename_i hep
    subst hep
    simp only[Option.bind_eq_some_iff]at e
    obtain⟨el,h1,h2⟩:=e
    obtain⟨c,t',fz,l1,l2,l3,l4,l5⟩:=hi.live B es g hB hg
    obtain⟨m1,m2⟩:=l5 i el h1
    obtain⟨rv,k1,k2⟩:=ZiK (w:=w) (b:=g.b) (base:=g.o+i*g.z) ht hs h2 (fun j c' hj=>by
     obtain⟨rv,r1,r2,r3⟩:=m2 j c' hj
     exact⟨rv,by simp only[World.cell?,l1];exact r1,r2,r3⟩)
    exact⟨rv,_,rfl,k1,k2⟩
   ·simp at e
  ·simp at e
 ·simp at e
theorem Qn(b:Nat)(t:TypeId)(fz:Nat ×Nat): ∀(vs:List Value) (k o:Nat) (cur:Array Value) (w:World),w.heap[b]? =some (.cells cur t fz)→o+k+vs.length≤cur.size→(∀off,off<cur.size→¬(fz.1≤off∧off<fz.2))→(∀v∈vs,oc v=true)→∃w' cur',(storeCells ⟨b,o,none⟩ vs k).run P w=.ok () w'∧w'.heap[b]? =some (.cells cur' t fz)∧cur'.size=cur.size∧
 (∀i,cur'[i]? =if o+k≤i∧i<o+k+vs.length then vs[i-(o+k)]? else cur[i]?)∧w'.heap.size=w.heap.size∧(∀x,x≠b→w'.heap[x]? =w.heap[x]?)∧w'.os=w.os∧w'.tape=w.tape∧w'.output=w.output
 |[],k,o,cur,w,hb,hl,hf,hv=>⟨w,cur,rfl,hb,rfl,fun i=>by rw[if_neg (by simp)],rfl,fun _ _=>rfl,rfl,rfl,rfl⟩
 |v::vs,k,o,cur,w,hb,hl,hf,hv=>by
  have hlt:o+k<cur.size:=by simp at hl;omega
  have hcell:w.cell? ⟨b,o+k,none⟩=some cur[o+k]:=by simp[World.cell?,hb,hlt]
  have hfr:w.frozen? ⟨b,o+k,none⟩=false:=by
   obtain⟨f1,f2⟩:=fz
   simp only[World.frozen?,hb]
   have:=hf (o+k) hlt
   simp only[Bool.and_eq_false_iff,decide_eq_false_iff_not]
   simp only[not_and]at this
   by_cases h1:f1≤o+k
   ·exact .inr (this h1)
   ·exact .inl h1
  let w1:=w.setCell ⟨b,o+k,none⟩ v
  have hst:(store ((⟨b,o,none⟩:Addr).add k) v).run P w=.ok () w1:=by
   rw[XV,run_store P w _ v _ (by rw[←Zt5];exact hv v (by simp)),hcell]
   simp[hfr,w1]
  have hb1:w1.heap[b]? =some (.cells (cur.setIfInBounds (o+k) v) t fz):=by
   simp[w1,World.setCell,Array.getElem?_modify,hb]
  have hoth: ∀x,x≠b→w1.heap[x]? =w.heap[x]? :=by
   intro x hx
   simp[w1,World.setCell,Array.getElem?_modify,Ne.symm hx]
  obtain⟨w',cur',r1,r2,r3,r4,r5,r6,r7,r8,r9⟩:=Qn b t fz vs (k+1) o (cur.setIfInBounds (o+k) v) w1 hb1 (by simp at hl⊢;omega) (by simpa using hf) (fun x hx=>hv x (by simp[hx]))
  refine⟨w',cur',?_,r2,by simpa using r3,fun i=> ?_,by rw[r5];simp[w1,World.setCell],fun x hx=>(r6 x hx).trans (hoth x hx),r7,r8,r9⟩
  ·simp only[storeCells,Sem.run_bind,hst,Result.andThen_ok]
   exact r1
  ·rw[r4 i]
   by_cases c1:i=o+k
   ·subst c1
    rw[if_neg (by omega),if_pos (by simp)]
    simp[Array.getElem?_setIfInBounds,hlt]
   ·by_cases c2:o+k≤i∧i<o+k+(v::vs).length
    ·rw[if_pos (by simp at c2;omega),if_pos c2,show i-(o+k)=(i-(o+(k+1)))+1 by omega,List.getElem?_cons_succ]
    ·rw[if_neg (by simp at c2⊢;omega),if_neg c2]
     simp[Array.getElem?_setIfInBounds,Ne.symm c1]
theorem ZjY{v x v':V}{n o:Nat}(e:stc v n o x=some v'):okV x=true∧x.cells.length=n∧o+n≤v.cells.length∧v'.cells.length=v.cells.length∧
 ∀(j:Nat) (c:V),v'.cells[j]? =some c→(o≤j∧j<o+n∧x.cells[j-o]? =some c)∨((j<o∨o+n≤j)∧v.cells[j]? =some c):=by
 unfold stc at e
 split at e
 ·rename_i hc
  obtain⟨h1,h2,h3⟩:=hc
  split at e
  ·rename_i cs
   simp only[Option.some.injEq]at e;subst e
   have e1:(V.agg cs).cells=cs:=rfl
   have e2:(V.agg (cs.take o++x.cells++cs.drop (o+n))).cells=cs.take o++x.cells++cs.drop (o+n):=rfl
   rw[e1]at h2⊢
   rw[e2]
   generalize x.cells=xs at h1⊢
   have hto:(List.take o cs).length=o:=by rw[List.length_take];omega
   refine⟨h3,h1,h2,by simp only[List.length_append,List.length_drop,hto];omega,fun j c hj=> ?_⟩
   by_cases c1:j<o
   ·rw[List.append_assoc,List.getElem?_append_left (by omega),List.getElem?_take,if_pos c1]at hj
    exact .inr ⟨.inl c1,hj⟩
   ·by_cases c2:j<o+n
    ·rw[List.append_assoc,List.getElem?_append_right (by omega),List.getElem?_append_left (by omega),hto]at hj
     exact .inl ⟨by omega,c2,hj⟩
    ·rw[List.getElem?_append_right (by rw[List.length_append];omega),List.getElem?_drop,List.length_append,hto]at hj
     refine .inr ⟨.inr (by omega),?_⟩
     rw[←hj];congr 1;omega
  ·rename_i hv
   have hvc:v.cells=[v]:=by cases v<;>first|rfl|exact absurd rfl (hv _)
   split at e
   ·simp at e
   ·rename_i hx
    simp only[Option.some.injEq]at e;subst e
    have hxc:x.cells=[x]:=by cases x<;>first|rfl|exact absurd rfl (hx _)
    rw[hvc]at h2⊢
    rw[hxc]at h1⊢
    have h1':n=1:=by simpa using h1.symm
    have h2':o+n≤1:=by simpa using h2
    refine⟨h3,h1,h2,rfl,fun j c hj=> ?_⟩
    cases j with
    |zero=>exact .inl ⟨by omega,by omega,by simpa using hj⟩
    |succ j=>simp at hj
 ·simp at e
theorem Zaa(hi:Zz T G lo h w){n:Nat}{a x:V}{ra rx:Value}{t:TypeId}{h':Zg}(hs:Xh P t=some n)(e:Xp lo h n a x=some h')(ha:R T G a ra)(hx:R T G x rx):
 ∃w' G',(Instr.storeAt t ra rx).run P w=.ok () w'∧Zz T G' lo h' w'∧Stp lo G h w G' h' w':=by
 unfold Xp at e
 split at e
 ·rename_i B ep i o
  obtain⟨g,hg,rfl⟩:=ha.ptr_inv
  split at e
  ·rename_i es hB
   split at e
   ·rename_i hc
    obtain⟨hlo,rfl⟩:=hc
    simp only[Option.bind_eq_some_iff,Option.map_eq_some_iff]at e
    obtain⟨el,h1,el',h2,rfl⟩:=e
    obtain⟨c,t',fz,l1,l2,l3,l4,l5⟩:=hi.live B es g hB hg
    obtain⟨m1,m2⟩:=l5 i el h1
    obtain⟨s0,s1,s2,s3,s4⟩:=ZjY h2
    obtain⟨x1,x2,x3⟩:=hx.cells s0
    have hil:i<es.length:=(List.getElem?_eq_some_iff.1 h1).1
    have hbnd:g.o+i*g.z+o+n≤c.size:=by
     have:(i+1)*g.z≤es.length*g.z:=Nat.mul_le_mul_right _ hil
     rw[Nat.add_mul]at this
     rw[m1]at s2
     omega
    have hvl:rx.cells.toList.length=n:=by rw[Array.length_toList,←x1,s1]
    obtain⟨w',c',r1,r2,r3,r4,r5,r6,r7,r8,r9⟩:=Qn (P:=P) g.b t' fz rx.cells.toList 0 (g.o+i*g.z+o) c w l1 (by omega) l3 (fun v hv=>by
     obtain⟨k,hk,rfl⟩:=List.mem_iff_getElem.1 hv
     exact x3 k _ (by simp))
    have hst:(Instr.storeAt t (.pointer (some ⟨g.b,g.o+i*g.z+o,none⟩)) rx).run P w=.ok () w':=by
     have:rx.cells.size=n:=by rw[←x1,s1]
     simp only[Instr.storeAt,Instr.sureAddr,storeVar,Sem.run_bind,Sem.run_pure,Result.andThen_ok,Xm hs]
     rw[if_neg (by omega)]
     simpa using r1
    have hzm: ∀i' j,j<g.z→i'≠i→¬(g.o+i*g.z+o≤g.o+i'*g.z+j∧g.o+i'*g.z+j<g.o+i*g.z+o+n):=by
     intro i' j hj hne
     rw[m1]at s2
     rcases Nat.lt_or_gt_of_ne hne with hh|hh
     ·have:(i'+1)*g.z≤i*g.z:=Nat.mul_le_mul_right _ hh
      rw[Nat.add_mul]at this
      omega
     ·have:(i+1)*g.z≤i'*g.z:=Nat.mul_le_mul_right _ hh
      rw[Nat.add_mul]at this
      omega
    obtain⟨G',k1,k2,_⟩:=JV hi (w':=w') (es':=es.set i el') hlo hB (g:=g) (by omega) r7 r8 r9 (fun b _ hb=>r6 b hb) (by simp) (.inl hg) r2 (by omega) (by rw[r3];exact l3) (by simpa using l4)
     (fun i' e' hi'=>by
       rw[List.getElem?_set]at hi'
       split at hi'
       ·rename_i hh;subst hh
        try rw[if_pos hil]at hi'
        simp only[Option.some.injEq]at hi';subst hi'
        refine⟨by rw[s3,m1],fun j v hj=> ?_⟩
        rw[r4,hvl]
        rcases s4 j v hj with⟨q1,q2,q3⟩|⟨q1,q3⟩
        ·have hjn:j-o<rx.cells.size:=by rw[←x1];exact(List.getElem?_eq_some_iff.1 q3).1
         refine⟨rx.cells[j-o],?_,x2 (j-o) v _ q3 (by simp[hjn]),x3 (j-o) _ (by simp[hjn])⟩
         rw[if_pos (by omega),show g.o+i*g.z+j-(g.o+i*g.z+o+0)=j-o by omega]
         simp[hjn]
        ·obtain⟨rv,v1,v2,v3⟩:=m2 j v q3
         exact⟨rv,by rw[if_neg (by omega)];exact v1,v2,v3⟩
       ·rename_i hh
        obtain⟨n1,n2⟩:=l5 i' e' hi'
        refine⟨n1,fun j v hj=> ?_⟩
        obtain⟨rv,v1,v2,v3⟩:=n2 j v hj
        have hjz:j<g.z:=by rw[←n1];exact(List.getElem?_eq_some_iff.1 hj).1
        refine⟨rv,?_,v2,v3⟩
        rw[r4,hvl,if_neg]
        ·exact v1
        ·have:=hzm i' j hjz (fun hh'=>hh hh'.symm)
         omega)
    exact⟨w',G',hst,k1,k2⟩
   ·simp at e
  ·simp at e
 ·simp at e
end
end Go.VE
namespace Go.VE
set_option linter.unnecessarySimpa false
open Classical
section
variable {P : Program} {T : Tbl} {G : Gh} {w w' : World} {lo : Nat} {h : Zg}
theorem Xb(w:World)(o:Obj): ∀b,b<w.heap.size→(w.alloc o).heap[b]? =w.heap[b]? :=fun b hb=>Go.RowKit.Below.heap_alloc w o b hb
theorem YS(w:World)(o:Obj):(w.alloc o).heap[w.heap.size]? =some o:=by
 show(w.heap.push o)[w.heap.size]? =_
 simp
theorem YW(w:World)(o:Obj):(w.alloc o).heap.size=w.heap.size+1:=by
 show(w.heap.push o).size=_
 simp
theorem W4(t:TypeId)(c:Array Value):(newRow t c).run P w=.ok ⟨w.heap.size,0,none⟩ (w.alloc (.cells c t (0,0))):=rfl
theorem ZaZ(hi:Zz T G lo h w){v:V}{rv:Value}(hv:okV v=true)(hR:R T G v rv)(t:TypeId):
 ∃w' G',(newVar t rv).run P w=.ok ⟨w.heap.size,0,none⟩ w'∧Zz T G' lo (h++[.arr [v]]) w'∧Stp lo G h w G' (h++[.arr [v]]) w'∧R T G' (.ptr h.length 1 0 0) (.pointer (some ⟨w.heap.size,0,none⟩)):=by
 obtain⟨k1,k2,k3⟩:=hR.cells hv
 obtain⟨G',g1,g2,g3,g4⟩:=J2 hi (w':=w.alloc (.cells rv.cells t (0,0))) (es:=[v]) (z:=v.cells.length) (c:=rv.cells) (t:=t) (fz:=(0,0)) (YW w _) (Xb w _) rfl rfl rfl (YS w _)
  (fun off _=>by simp) (by simp[k1]) (fun i e hi'=>by
    cases i with
    |succ i=>simp at hi'
    |zero=>
     simp at hi';subst hi'
     refine⟨rfl,fun j c hj=> ?_⟩
     have:j<rv.cells.size:=by rw[←k1];exact(List.getElem?_eq_some_iff.1 hj).1
     exact⟨rv.cells[j],by simp[this],k2 j c _ hj (by simp[this]),k3 j _ (by simp[this])⟩)
 refine⟨_,G',rfl,g1,g2,?_⟩
 have:=R.ptr (T:=T) h.length 1 0 0 _ g3
 simpa using this
theorem QC(hi:Zz T G lo h w){z:Nat}{x:V}{rx:Value}{ns:List V}(e:Wl h z x=some ns)(hx:R T G x rx):
 ∃xs,(Builtin.lenOf rx).run P w=.ok ns.length w∧(Builtin.firstCells z ns.length rx).run P w=.ok xs w∧xs.size=ns.length*z∧Vk T G xs 0 z ns:=by
 have mem: ∀{b o:Nat} {a:Option Addr} {cap:Nat},(∀e∈ns,e.cells.length=z)→(ns≠[]→a=some ⟨b,o,none⟩)→(∀i e j c,ns[i]? =some e→e.cells[j]? =some c→∃rv,w.cell? ⟨b,o+i*z+j,none⟩=some rv∧R T G c rv∧oc rv=true)→
  ∃xs,(Builtin.firstCells z ns.length (.slice a ns.length cap)).run P w=.ok xs w∧xs.size=ns.length*z∧Vk T G xs 0 z ns:=by
  intro b o a cap hz ha hc
  by_cases hne:ns=[]
  ·rw[hne]
   refine⟨#[],?_,by simp,fun i e hi'=>by simp at hi'⟩
   cases a<;>simp[Builtin.firstCells,loadCells,loadCellsFrom]
  ·rw[ha hne]
   let f:Nat→Value:=fun k=>(w.cell? ⟨b,o+k,none⟩).getD undef
   have key: ∀k,k<ns.length*z→∃e c,ns[k/z]? =some e∧e.cells[k%z]? =some c∧w.cell? ⟨b,o+k,none⟩=some (f k)∧R T G c (f k)∧oc (f k)=true:=by
    intro k hk
    have hz0:0<z:=by
     rcases Nat.eq_zero_or_pos z with h0|h0
     ·rw[h0]at hk;omega
     ·exact h0
    have h1:k/z<ns.length:=(Nat.div_lt_iff_lt_mul hz0).2 hk
    have h2:k%z<(ns[k/z]).cells.length:=by rw[hz _ (List.getElem_mem h1)];exact Nat.mod_lt _ hz0
    obtain⟨rv,r1,r2,r3⟩:=hc (k/z) _ (k%z) _ (List.getElem?_eq_getElem h1) (List.getElem?_eq_getElem h2)
    have hkk:o+k/z*z+k%z=o+k:=by rw[Nat.add_assoc,Nat.div_add_mod']
    rw[hkk]at r1
    refine⟨_,_,List.getElem?_eq_getElem h1,List.getElem?_eq_getElem h2,?_⟩
    simp only[f,r1,Option.getD_some];exact⟨trivial,r2,r3⟩
   have hrun:(loadCells ⟨b,o,none⟩ (ns.length*z)).run P w=.ok ((List.range (ns.length*z)).map f).toArray w:=by
    refine run_loadCells w _ _ f fun j hj=> ?_
    rw[XV]
    obtain⟨_,_,_,_,h3,_⟩:=key j hj
    exact h3
   refine⟨_,by simpa[Builtin.firstCells]using hrun,by simp,fun i e hi'=>⟨hz e (List.mem_of_getElem? hi'),fun j c hj=> ?_⟩⟩
   have hil:i<ns.length:=(List.getElem?_eq_some_iff.1 hi').1
   have hjz:j<z:=by rw[←hz e (List.mem_of_getElem? hi')];exact(List.getElem?_eq_some_iff.1 hj).1
   have hb:i*z+j<ns.length*z:=by
    have:(i+1)*z≤ns.length*z:=Nat.mul_le_mul_right _ hil
    rw[Nat.add_mul]at this;omega
   obtain⟨rv,r1,r2,r3⟩:=hc i e j c hi' hj
   refine⟨rv,?_,r2,r3⟩
   rw[Nat.zero_add]
   simp only[List.getElem?_toArray,List.getElem?_map,List.getElem?_range hb,Option.map_some,f]
   rw[←Nat.add_assoc,r1];rfl
 unfold Wl at e
 split at e
 ·rename_i z' es tg
  obtain⟨a,cap,b,o,f,rfl,hc,htg,ha,hz,hg,hR,ho⟩:=hx.sl_inv
  split at e
  ·rename_i hzz
   subst hzz
   simp only[Option.some.injEq]at e;subst e
   obtain⟨xs,x1,x2,x3⟩:=mem (b:=b) (o:=o) (a:=a) (cap:=cap) (fun e he=>by obtain⟨i,hi',rfl⟩:=List.mem_iff_getElem.1 he;exact hz i _ (List.getElem?_eq_getElem hi')) ha
    (fun i e j c h1 h2=>⟨f i j,K2 hi (hg i e j c h1 h2),hR i e j c h1 h2,ho i e j c h1 h2⟩)
   exact⟨xs,rfl,x1,x2,x3⟩
  ·simp at e
 ·rename_i B ep z' off len
  obtain⟨a,cap,rfl,hB,hl,hg⟩:=hx.gsl_inv
  split at e
  ·rename_i hzz
   subst hzz
   obtain⟨es0,e0,e1,e2,rfl⟩:=QN e
   have hlen:((es0.drop off).take len).length=len:=by simp;omega
   have: ∃xs,(Builtin.firstCells z' ((es0.drop off).take len).length (.slice a ((es0.drop off).take len).length cap)).run P w=.ok xs w∧xs.size=((es0.drop off).take len).length*z'∧Vk T G xs 0 z' ((es0.drop off).take len):=by
    rcases hg with rfl|⟨g,k1,k2,rfl,k3⟩
    ·have h0:(es0.drop off).take len=[]:=List.eq_nil_of_length_eq_zero (by omega)
     exact mem (b:=0) (o:=0) (by rw[h0];simp) (by rw[h0];simp) (by rw[h0];simp)
    ·subst k2;subst e1
     obtain⟨c,t,fz,l1,l2,l3,l4,l5⟩:=hi.live B es0 g e0 k1
     have key: ∀i e,((es0.drop off).take len)[i]? =some e→es0[off+i]? =some e:=by
      intro i e hi'
      rw[List.getElem?_take,List.getElem?_drop]at hi'
      split at hi'
      ·exact hi'
      ·simp at hi'
     refine mem (b:=g.b) (o:=g.o+off*g.z) (fun e he=> ?_) (fun _=>rfl) (fun i e j x hi' hj=> ?_)
     ·obtain⟨i,hi',rfl⟩:=List.mem_iff_getElem.1 he
      exact(l5 _ _ (key i _ (List.getElem?_eq_getElem hi'))).1
     ·obtain⟨rv,r1,r2,r3⟩:=(l5 _ e (key i e hi')).2 j x hj
      refine⟨rv,?_,r2,r3⟩
      simp only[World.cell?,l1]
      rw[show g.o+off*g.z+i*g.z+j=g.o+(off+i)*g.z+j by rw[Nat.add_mul];omega]
      exact r1
   obtain⟨xs,x1,x2,x3⟩:=this
   rw[hlen]at x1 x2⊢
   exact⟨xs,rfl,x1,x2,x3⟩
  ·simp at e
 ·rename_i l
  obtain⟨s,rfl,hs⟩:=hx.str_inv
  split at e
  ·rename_i hz1
   subst hz1
   simp only[Option.some.injEq]at e;subst e
   have hsl:l.length=s.size:=by rw[←hs];simp
   refine⟨s.data.map fun b=>.int .u8 b.toNat,by simp[Builtin.lenOf,hsl],?_,by simp[hsl],fun i e hi'=> ?_⟩
   ·simp only[Builtin.firstCells,List.length_map,hsl,Sem.run_pure]
    congr 2
    have:(s.extract 0 s.size)=s:=by
     apply ByteArray.ext
     simp
    rw[this]
   ·rw[List.getElem?_map]at hi'
    simp only[Option.map_eq_some_iff]at hi'
    obtain⟨b,hb,rfl⟩:=hi'
    refine⟨rfl,fun j c hj=> ?_⟩
    cases j with
    |succ j=>simp[WF,V.cells]at hj
    |zero=>
     simp[WF,V.cells]at hj
     subst hj
     refine⟨.int .u8 b.toNat,?_,.int _ _,rfl⟩
     rw[←hs]at hb
     have hb':s.data[i]? =some b:=by simpa using hb
     simp[hb']
  ·simp at e
 ·simp at e
end
end Go.VE
namespace Go.VE
set_option linter.unnecessarySimpa false
open Classical
section
variable {P : Program} {T : Tbl} {lo : Nat} {w : World}
def ZnM(T:Tbl)(G G':Gh)(v v':V):Prop:=
 v'.cells.length=v.cells.length∧(∀(j:Nat) (c':V),v'.cells[j]? =some c'→∃c,v.cells[j]? =some c∧∀rv,R T G c rv→R T G' c' rv)∧∀rv,R T G v rv→R T G' v' rv
theorem ZnM.same{G G':Gh}(hle:G.le G')(v:V):ZnM T G G' v v:=⟨rfl,fun j c hj=>⟨c,hj,fun rv h=>h.mono hle⟩,fun rv h=>h.mono hle⟩
mutual
theorem ZrF: ∀(v:V) {G:Gh} {h:Zg} {v':V} {h':Zg},Zz T G lo h w→fzV lo h v=some (v',h')→∃G',Zz T G' lo h' w∧Stp lo G h w G' h' w∧ZnM T G G' v v'
 |.agg cs,G,h,v',h',hi,e=>by
  simp only[fzV]at e
  split at e
  ·simp at e
   obtain⟨rfl,rfl⟩:=e
   exact⟨G,hi,.refl _ _ _ _,.same G.le_refl _⟩
  ·simp only[Option.map_eq_some_iff,Prod.mk.injEq]at e
   obtain⟨⟨cs',h1⟩,e1,rfl,rfl⟩:=e
   obtain⟨G',k1,k2,k3,k4⟩:=Zl5 cs hi e1
   refine⟨G',k1,k2,k3,fun j c' hj=> ?_,fun rv hR=> ?_⟩
   ·obtain⟨c,hc,hg⟩:=k4 j c' hj
    exact⟨c,hc,hg.2.2⟩
   ·obtain⟨c,rfl,t1,t2,t3⟩:=hR.agg_inv
    refine .agg cs' c (by rw[←t1];exact k3) (fun i v rv e1 e2=> ?_) t3
    obtain⟨v0,q1,q2⟩:=k4 i v e1
    exact q2.2.2 rv (t2 i v0 rv q1 e2)
 |.gsl B ep z off len,G,h,v',h',hi,e=>by
  simp only[fzV]at e
  split at e
  ·rename_i hlo
   simp only[Option.bind_eq_some_iff]at e
   obtain⟨es,h1,h2⟩:=e
   split at h2
   ·rename_i hcl
    simp at h2
    obtain⟨rfl,rfl⟩:=h2
    obtain⟨es0,e0,e1,e2,rfl⟩:=QN h1
    obtain⟨G',k1,k2,k3⟩:=Zf4 hi hlo e0
    have hlen:((es0.drop off).take len).length=len:=by simp;omega
    have conv: ∀rv,R T G (.gsl B ep z off len) rv→R T G' (.sl z ((es0.drop off).take len) .perm) rv:=by
     intro rv hR
     obtain⟨a,cap,rfl,hB,hl,hg⟩:=hR.gsl_inv
     rcases hg with rfl|⟨g,q1,q2,rfl,q3⟩
     ·have h0:(es0.drop off).take len=[]:=List.eq_nil_of_length_eq_zero (by omega)
      have hl0:len=0:=by omega
      rw[h0,hl0]
      exact .sl z [] .perm a 0 0 0 (fun _ _=>undef) (by simp) (.plain rfl (by simp) rfl _ _ _) (by simp) (by simp) (by simp) (by simp) (by simp)
     ·subst q2;subst e1
      obtain⟨c,t,fz,l1,l2,l3,l4,l5⟩:=hi.live B es0 g e0 q1
      have key: ∀i e,((es0.drop off).take len)[i]? =some e→es0[off+i]? =some e:=by
       intro i e hi'
       rw[List.getElem?_take,List.getElem?_drop]at hi'
       split at hi'
       ·exact hi'
       ·simp at hi'
      have cellv: ∀i e j x,((es0.drop off).take len)[i]? =some e→e.cells[j]? =some x→∃rv,w.cell? ⟨g.b,g.o+off*g.z+i*g.z+j,none⟩=some rv∧R T G x rv∧oc rv=true:=by
       intro i e j x hi' hj
       obtain⟨rv,r1,r2,r3⟩:=(l5 _ e (key i e hi')).2 j x hj
       refine⟨rv,?_,r2,r3⟩
       simp only[World.cell?,l1]
       rw[show g.o+off*g.z+i*g.z+j=g.o+(off+i)*g.z+j by rw[Nat.add_mul];omega]
       exact r1
      have:=R.sl (T:=T) (G:=G') g.z ((es0.drop off).take len) .perm (some ⟨g.b,g.o+off*g.z,none⟩) cap g.b (g.o+off*g.z) (fun i j=>(w.cell? ⟨g.b,g.o+off*g.z+i*g.z+j,none⟩).getD undef) (by omega) (.plain rfl (by simp) rfl _ _ _) (fun _=>rfl)
       (fun i e hi'=>(l5 _ e (key i e hi')).1) (fun i e j x hi' hj=>by obtain⟨rv,r1,r2,r3⟩:=cellv i e j x hi' hj;rw[r1];exact k3 g q1 _ _ r1)
       (fun i e j x hi' hj=>by obtain⟨rv,r1,r2,r3⟩:=cellv i e j x hi' hj;rw[r1];exact r2.mono k2.le)
       (fun i e j x hi' hj=>by obtain⟨rv,r1,r2,r3⟩:=cellv i e j x hi' hj;rw[r1];exact r3)
      rw[hlen]at this
      exact this
    refine⟨G',k1,k2,rfl,fun j c' hj=> ?_,conv⟩
    cases j with
    |succ j=>simp[V.cells]at hj
    |zero=>simp[V.cells]at hj;subst hj;exact⟨_,rfl,conv⟩
   ·simp at h2
  ·simp at e
 |.undef,G,h,v',h',hi,e=>YP hi (by simpa[fzV]using e)
 |.bool _,G,h,v',h',hi,e=>YP hi (by simpa[fzV]using e)
 |.int _ _,G,h,v',h',hi,e=>YP hi (by simpa[fzV]using e)
 |.str _,G,h,v',h',hi,e=>YP hi (by simpa[fzV]using e)
 |.tup _,G,h,v',h',hi,e=>YP hi (by simpa[fzV]using e)
 |.sl ..,G,h,v',h',hi,e=>YP hi (by simpa[fzV]using e)
 |.eptr ..,G,h,v',h',hi,e=>YP hi (by simpa[fzV]using e)
 |.ptr ..,G,h,v',h',hi,e=>YP hi (by simpa[fzV]using e)
 |.nilp,G,h,v',h',hi,e=>YP hi (by simpa[fzV]using e)
 |.func ..,G,h,v',h',hi,e=>YP hi (by simpa[fzV]using e)
 |.nilf,G,h,v',h',hi,e=>YP hi (by simpa[fzV]using e)
 |.iface ..,G,h,v',h',hi,e=>YP hi (by simpa[fzV]using e)
 |.nili,G,h,v',h',hi,e=>YP hi (by simpa[fzV]using e)
 |.itr _,G,h,v',h',hi,e=>YP hi (by simpa[fzV]using e)
 |.mapr _,G,h,v',h',hi,e=>YP hi (by simpa[fzV]using e)
 |.nilm,G,h,v',h',hi,e=>YP hi (by simpa[fzV]using e)
theorem Zl5: ∀(l:List V) {G:Gh} {h:Zg} {l':List V} {h':Zg},Zz T G lo h w→fzL lo h l=some (l',h')→∃G',Zz T G' lo h' w∧Stp lo G h w G' h' w∧l'.length=l.length∧∀(i:Nat) (v':V),l'[i]? =some v'→∃v,l[i]? =some v∧ZnM T G G' v v'
 |[],G,h,l',h',hi,e=>by
  simp[fzL]at e
  obtain⟨rfl,rfl⟩:=e
  exact⟨G,hi,.refl _ _ _ _,rfl,by simp⟩
 |v::l,G,h,l',h',hi,e=>by
  simp only[fzL,Option.bind_eq_some_iff,Option.map_eq_some_iff,Prod.mk.injEq]at e
  obtain⟨⟨v1,h1⟩,e1,⟨l1,h2⟩,e2,rfl,rfl⟩:=e
  obtain⟨G1,a1,a2,a3⟩:=ZrF v hi e1
  obtain⟨G2,b1,b2,b3,b4⟩:=Zl5 l a1 e2
  refine⟨G2,b1,a2.trans b2,by simp[b3],fun i v' hv=> ?_⟩
  cases i with
  |zero=>
   simp at hv;subst hv
   refine⟨v,by simp,a3.1,fun j c' hj=> ?_,fun rv h=>(a3.2.2 rv h).mono b2.le⟩
   obtain⟨c,c1,c2⟩:=a3.2.1 j c' hj
   exact⟨c,c1,fun rv h=>(c2 rv h).mono b2.le⟩
  |succ i=>
   obtain⟨v0,q1,q2⟩:=b4 i v' (by simpa using hv)
   refine⟨v0,by simpa using q1,q2.1,fun j c' hj=> ?_,fun rv h=>q2.2.2 rv (h.mono a2.le)⟩
   obtain⟨c,c1,c2⟩:=q2.2.1 j c' hj
   exact⟨c,c1,fun rv h=>c2 rv (h.mono a2.le)⟩
theorem YP{v:V}{G:Gh}{h:Zg}{v':V}{h':Zg}(hi:Zz T G lo h w)(e:Ze v=true∧v=v'∧h=h'): ∃G',Zz T G' lo h' w∧Stp lo G h w G' h' w∧ZnM T G G' v v':=by
 obtain⟨_,rfl,rfl⟩:=e
 exact⟨G,hi,.refl _ _ _ _,.same G.le_refl _⟩
end
end
end Go.VE
namespace Go.VE
set_option linter.unnecessarySimpa false
open Classical
section
variable {P : Program} {T : Tbl} {G : Gh} {w w' : World} {lo : Nat} {h : Zg}
def Jq(P:Program)(ts:Array TypeId):Prop:=ts[1]? =none∨∃t' d,ts[1]? =some t'∧P.underlying t'=some d∧(match d with|.int _=>true|_=>false)=false
theorem Zhl{ts:Array TypeId}(h2:(match ts[1]? with|some t'=>Xk P (fun d=> !ZmL d) t'|none=>true)=true):Jq P ts:=by
 cases ht:ts[1]? with
 |none=>exact .inl ht
 |some t'=>
  rw[ht]at h2
  obtain⟨d,hd,hk⟩:=XD h2
  refine .inr ⟨t',d,ht,hd,?_⟩
  cases d<;>simp[ZmL]at hk<;>rfl
def V4(el:TypeId)(base:Option Addr)(sLen sCap size n:Nat)(x:Value):Sem Value:=do
 if sLen+n≤sCap then
  let new←Builtin.firstCells size n x
  if let some a:=base then storeCells (a.add (sLen*size)) new.toList
  pure (.slice base (sLen+n) sCap)
 else
  let info←typeInfo el
  if((sLen+n:Nat):Int)>IntKind.i64.max∧info.bytes=0 then runtimePanic (.error "growslice: len out of range")
  if Builtin.nextslicecap (sLen+n) sCap*info.bytes>2^48 then stuck "not here"
  let newCap←choose (.appendCap (sLen+n) sCap el)
  let old←Builtin.firstCells size sLen (.slice base sLen sCap)
  let new←Builtin.firstCells size n x
  pure (.slice (some (←newRow el (old++new++Builtin.zeroCells (←zeroValue el).cells (newCap-(sLen+n))))) (sLen+n) newCap)
set_option maxHeartbeats 1000000 in
theorem Kb{ts:Array TypeId}{t el ty:TypeId}{z k sLen sCap bytes:Nat}{base:Option Addr}{rx:Value}
 (h1:ts[0]? =some t) (hu:P.underlying t=some (.slice el)) (hs:Xh P el=some z) (h2:Jq P ts) (hby:XX P el bytes=true)
 (hl:(Builtin.lenOf rx).run P w=.ok k w) (hn:sLen+k≤sCap∨(0<bytes∧Builtin.nextslicecap (sLen+k) sCap*bytes≤2^48)):(Builtin.append_ ts ty #[.slice base sLen sCap,rx]).run P w=(V4 el base sLen sCap z k rx).run P w:=by
 cases hinf:P.info? el with
 |none=>simp[XX,hinf]at hby
 |some inf=>
  have hbi:inf.bytes=bytes:=by simpa[XX,hinf]using hby
  rcases hn with hn|⟨hb0,hn⟩
  ·rcases h2 with h2|⟨t',d,h2,hd,hk⟩
   ·simp only[Builtin.append_,V4,h1,h2,List.getElem?_toArray,List.getElem?_cons_zero,List.getElem?_cons_succ,Sem.run_bind,ZB hu,Xm hs,hl,Result.andThen_ok,Sem.run_pure]
    simp[hl,hn]
    cases base<;>rfl
   ·cases d<;>simp at hk<;>
     (simp only[Builtin.append_,V4,h1,h2,List.getElem?_toArray,List.getElem?_cons_zero,List.getElem?_cons_succ,Sem.run_bind,ZB hu,ZB hd,Xm hs,hl,Result.andThen_ok,Sem.run_pure];simp[hl,hn];cases base<;>rfl)
  ·have hnx': ¬(281474976710656<Builtin.nextslicecap (sLen+k) sCap*bytes):=by
    have:(2:Nat)^48=281474976710656:=by decide
    omega
   have hb00: ¬bytes=0:=by omega
   rcases h2 with h2|⟨t',d,h2,hd,hk⟩
   ·simp only[Builtin.append_,V4,h1,h2,List.getElem?_toArray,List.getElem?_cons_zero,List.getElem?_cons_succ,Sem.run_bind,ZB hu,Xm hs,hl,Result.andThen_ok,Sem.run_pure]
    simp[hl,VN hinf,hbi,hb00,hnx']
    cases base<;>rfl
   ·cases d<;>simp at hk<;>
     (simp only[Builtin.append_,V4,h1,h2,List.getElem?_toArray,List.getElem?_cons_zero,List.getElem?_cons_succ,Sem.run_bind,ZB hu,ZB hd,Xm hs,hl,Result.andThen_ok,Sem.run_pure];simp[hl,VN hinf,hbi,hb00,hnx'];cases base<;>rfl)
theorem ZkY{ts:Array TypeId}{t el ty:TypeId}{z k sLen sCap:Nat}{b o:Nat}{rx:Value}{xs:Array Value}{c:Array Value}{te:TypeId}{fz:Nat ×Nat}
 (h1:ts[0]? =some t) (hu:P.underlying t=some (.slice el)) (hs:Xh P el=some z) (h2:Jq P ts) {bytes:Nat} (hby:XX P el bytes=true)
 (hl:(Builtin.lenOf rx).run P w=.ok k w) (hf:(Builtin.firstCells z k rx).run P w=.ok xs w) (hx:xs.size=k*z)
 (hb:w.heap[b]? =some (.cells c te fz)) (hbd:o+(sLen+k)*z≤c.size) (hfz: ∀off,off<c.size→¬(fz.1≤off∧off<fz.2)) (ho: ∀v∈xs.toList,oc v=true) (hroom:sLen+k≤sCap): ∃w' c',(Builtin.append_ ts ty #[.slice (some ⟨b,o,none⟩) sLen sCap,rx]).run P w=.ok (.slice (some ⟨b,o,none⟩) (sLen+k) sCap) w'∧w'.heap[b]? =some (.cells c' te fz)∧c'.size=c.size∧
   (∀i,c'[i]? =if o+sLen*z≤i∧i<o+sLen*z+k*z then xs[i-(o+sLen*z)]? else c[i]?)∧w'.heap.size=w.heap.size∧(∀x,x≠b→w'.heap[x]? =w.heap[x]?)∧w'.os=w.os∧w'.tape=w.tape∧w'.output=w.output:=by
 obtain⟨w',c',r1,r2,r3,r4,r5,r6,r7,r8,r9⟩:=Qn (P:=P) b te fz xs.toList 0 (o+sLen*z) c w hb (by rw[Array.length_toList,hx];rw[Nat.add_mul]at hbd;omega) hfz ho
 refine⟨w',c',?_,r2,r3,fun i=> ?_,r5,r6,r7,r8,r9⟩
 ·have hrun:(storeCells ((⟨b,o,none⟩:Addr).add (sLen*z)) xs.toList).run P w=.ok () w':=by rw[XV];exact r1
  rw[Kb h1 hu hs h2 hby hl (.inl hroom)]
  simp[V4,hroom,hf,hrun]
 ·rw[r4 i]
  simp only[Nat.add_zero,Array.length_toList,hx]
  split<;>simp
theorem ZbN(m:Nat): ∀(r c B:Nat),c≤B→m+(m+768)/4≤B→Builtin.growBy m r c≤B
 |0,c,B,h,_=>h
 |r+1,c,B,h,hB=>by
  unfold Builtin.growBy
  split
  ·exact h
  ·exact ZbN m r _ B (by omega) hB
theorem ZqK{m c bytes:Nat}(hc:c<m)(hb:0<bytes)(hb':bytes≤1048576)(hm:m*bytes≤YC):Builtin.nextslicecap m c*bytes≤2^48:=by
 have hn:Builtin.nextslicecap m c≤m+(m+768)/4+512:=by
  unfold Builtin.nextslicecap
  split
  ·omega
  ·split
   ·omega
   ·exact ZbN m 4 c _ (by omega) (by omega)
 have h1:Builtin.nextslicecap m c*bytes≤(m+(m+768)/4+512)*bytes:=Nat.mul_le_mul_right _ hn
 have h2:(m+(m+768)/4+512)≤2*m+704:=by omega
 have h3:(m+(m+768)/4+512)*bytes≤(2*m+704)*bytes:=Nat.mul_le_mul_right _ h2
 unfold YC at hm
 by_cases hm1:m≤1000
 ·have:(2*m+704)*bytes≤2704*1048576:=Nat.mul_le_mul (by omega) hb'
  omega
 ·have h4:m+(m+768)/4+512≤2*m:=by omega
  have h5:(m+(m+768)/4+512)*bytes≤2*m*bytes:=Nat.mul_le_mul_right _ h4
  rw[Nat.mul_assoc]at h5
  omega
theorem Ztk(need old:Nat)(e:TypeId)(t:Nat)(hn:need<2^63):need≤(Question.appendCap need old e).cut t:=by
 show need≤need+t%(2^63-need)
 omega
theorem Ku{ts:Array TypeId}{t el ty:TypeId}{z k sLen sCap bytes:Nat}{base:Option Addr}{rx zv:Value}{xs os:Array Value}
 (h1:ts[0]? =some t) (hu:P.underlying t=some (.slice el)) (hs:Xh P el=some z) (hby:XX P el bytes=true) (hzv:(P.info? el).bind (·.zero)=some zv) (hzs:zv.cells.size=z) (h2:Jq P ts)
 (hl:(Builtin.lenOf rx).run P w=.ok k w) (hf:(Builtin.firstCells z k rx).run P w=.ok xs w) (hx:xs.size=k*z)
 (hf':(Builtin.firstCells z sLen (.slice base sLen sCap)).run P w.drew=.ok os w.drew) (hxd:(Builtin.firstCells z k rx).run P w.drew=.ok xs w.drew) (hos:os.size=sLen*z)
 (hroom:sCap<sLen+k) (hb0:0<bytes) (hb1:bytes≤1048576) (hm:(sLen+k)*bytes≤YC): ∃(w':World) (cap:Nat) (c:Array Value),(Builtin.append_ ts ty #[.slice base sLen sCap,rx]).run P w=.ok (.slice (some ⟨w.heap.size,0,none⟩) (sLen+k) cap) w'∧sLen+k≤cap∧w'.heap.size=w.heap.size+1∧(∀b,b<w.heap.size→w'.heap[b]? =w.heap[b]?)∧w'.heap[w.heap.size]? =some (.cells c el (0,0))∧c.size=cap*z∧(∀i,i<(sLen+k)*z→c[i]? =if i<sLen*z then os[i]? else xs[i-sLen*z]?)∧w'.os=w.os∧w'.tape=w.tape∧w'.output=w.output:=by
 have hneed:sLen+k<2^63:=by
  have:(sLen+k)*1≤(sLen+k)*bytes:=Nat.mul_le_mul_left _ hb0
  unfold YC at hm
  omega
 let cap:=(Question.appendCap (sLen+k) sCap el).cut (w.tape w.drawn (Question.appendCap (sLen+k) sCap el))
 have hcap:sLen+k≤cap:=Ztk _ _ _ _ hneed
 let c:Array Value:=os++(xs++Builtin.zeroCells zv.cells (cap-(sLen+k)))
 have hcs:c.size=cap*z:=by
  simp only[c,Array.size_append,Builtin.zeroCells,Array.size_map,Array.size_range,hos,hx,hzs]
  rw[Nat.sub_mul]
  have:=Nat.mul_le_mul_right z hcap
  rw[Nat.add_mul]at this⊢
  omega
 have hnx:=ZqK (m:=sLen+k) (c:=sCap) hroom hb0 hb1 hm
 cases hinf:P.info? el with
 |none=>simp[XX,hinf]at hby
 |some inf=>
  have hbi:inf.bytes=bytes:=by simpa[XX,hinf]using hby
  have hzz: ∀w:World,(zeroValue el).run P w=.ok zv w:=fun w=>WC hzv
  have hroom': ¬sLen+k≤sCap:=by omega
  have hnx': ¬(281474976710656<Builtin.nextslicecap (sLen+k) sCap*bytes):=by
   have:(2:Nat)^48=281474976710656:=by decide
   omega
  refine⟨w.drew.alloc (.cells c el (0,0)),cap,c,?_,hcap,YW _ _,Xb _ _,YS _ _,hcs,fun i hi=> ?_,rfl,rfl,rfl⟩
  ·rw[Kb h1 hu hs h2 hby hl (.inr ⟨hb0,hnx⟩)]
   have hb00: ¬bytes=0:=by omega
   have hch:(choose (.appendCap (sLen+k) sCap el)).run P w=.ok cap w.drew:=by
    rw[run_choose];rfl
   simp only[V4,if_neg hroom',Sem.run_bind,VN hinf,Result.andThen_ok,hbi,hb00,and_false,if_false,Sem.run_pure,hch,hf',hxd,hzz,W4]
   rw[if_neg (by simpa using hnx')]
   simp only[Sem.run_pure,Result.andThen_ok,Sem.run_bind,hch,hf',hxd,hzz,W4,Array.append_assoc]
   rfl
  ·simp only[c]
   by_cases c1:i<sLen*z
   ·rw[if_pos c1,Array.getElem?_append_left (by omega)]
   ·rw[if_neg c1,Array.getElem?_append_right (by omega),Array.getElem?_append_left (by rw[Nat.add_mul]at hi;omega),hos]
end
end Go.VE
namespace Go.VE
set_option linter.unnecessarySimpa false
open Classical
section
variable {P : Program} {T : Tbl} {G : Gh} {w w' : World} {lo : Nat} {h : Zg}
theorem Vk.oc{c:Array Value}{z:Nat}{ns:List V}(hx:c.size=ns.length*z)(h:Vk T G c 0 z ns): ∀v∈c.toList,oc v=true:=by
 intro v hv
 obtain⟨i,hi,rfl⟩:=List.mem_iff_getElem.1 hv
 simp only[Array.length_toList]at hi
 have hz0:0<z:=by
  rcases Nat.eq_zero_or_pos z with h0|h0
  ·rw[h0]at hx;omega
  ·exact h0
 have h1:i/z<ns.length:=(Nat.div_lt_iff_lt_mul hz0).2 (by omega)
 obtain⟨k1,k2⟩:=h (i/z) _ (List.getElem?_eq_getElem h1)
 have h2:i%z<(ns[i/z]).cells.length:=by rw[k1];exact Nat.mod_lt _ hz0
 obtain⟨rv,r1,r2,r3⟩:=k2 (i%z) _ (List.getElem?_eq_getElem h2)
 have:0+i/z*z+i%z=i:=by rw[Nat.zero_add,Nat.div_add_mod']
 rw[this]at r1
 simp only[Array.getElem_toList]
 rw[Array.getElem?_eq_getElem hi]at r1
 simp only[Option.some.injEq]at r1
 rw[r1];exact r3
theorem Vk.append{os xs c:Array Value}{z:Nat}{es ns:List V}(ho:Vk T G os 0 z es)(hx:Vk T G xs 0 z ns)
 (hc: ∀i,i<(es.length+ns.length)*z→c[i]? =if i<es.length*z then os[i]? else xs[i-es.length*z]?):Vk T G c 0 z (es++ns):=by
 intro i e hi
 rcases Nat.lt_or_ge i es.length with hl|hl
 ·rw[List.getElem?_append_left hl]at hi
  obtain⟨k1,k2⟩:=ho i e hi
  refine⟨k1,fun j v hj=> ?_⟩
  obtain⟨rv,r1,r2,r3⟩:=k2 j v hj
  have hjz:j<z:=by rw[←k1];exact(List.getElem?_eq_some_iff.1 hj).1
  have hb:i*z+j<es.length*z:=by
   have:(i+1)*z≤es.length*z:=Nat.mul_le_mul_right _ hl
   rw[Nat.add_mul]at this;omega
  refine⟨rv,?_,r2,r3⟩
  rw[hc _ (by rw[Nat.add_mul];omega),if_pos (by omega)]
  exact r1
 ·rw[List.getElem?_append_right hl]at hi
  obtain⟨k1,k2⟩:=hx _ e hi
  refine⟨k1,fun j v hj=> ?_⟩
  obtain⟨rv,r1,r2,r3⟩:=k2 j v hj
  have hjz:j<z:=by rw[←k1];exact(List.getElem?_eq_some_iff.1 hj).1
  have hil:i-es.length<ns.length:=(List.getElem?_eq_some_iff.1 hi).1
  have hb:(i-es.length)*z+j<ns.length*z:=by
   have:(i-es.length+1)*z≤ns.length*z:=Nat.mul_le_mul_right _ hil
   rw[Nat.add_mul]at this;omega
  have he:i*z=es.length*z+(i-es.length)*z:=by rw[←Nat.add_mul];congr 1;omega
  refine⟨rv,?_,r2,r3⟩
  rw[hc _ (by rw[Nat.add_mul];omega),if_neg (by omega)]
  rw[←r1];congr 1;omega
theorem Zz.drew(hi:Zz T G lo h w):Zz T G lo h w.drew:=hi.grow (Nat.le_refl _) (fun _ _=>rfl)
theorem ZoS(hi:Zz T G lo h w){z bytes:Nat}{s v:V}{ns:List V}{h':Zg}{rs rx:Value}{xs:Array Value}{ts:Array TypeId}{t el ty:TypeId}{zv:Value}
 (e:X3 lo h z bytes s ns=some (v,h')) (hs:R T G s rs)
 (h1:ts[0]? =some t) (hu:P.underlying t=some (.slice el)) (hz:Xh P el=some z) (hby:XX P el bytes=true) (hzv:(P.info? el).bind (·.zero)=some zv) (hzs:zv.cells.size=z) (h2:Jq P ts)
 (hz0:0<z) (hb0:0<bytes) (hb1:bytes≤1048576)
 (hl:(Builtin.lenOf rx).run P w=.ok ns.length w) (hf:(Builtin.firstCells z ns.length rx).run P w=.ok xs w) (hfd:(Builtin.firstCells z ns.length rx).run P w.drew=.ok xs w.drew)
 (hx:xs.size=ns.length*z) (hold:Vk T G xs 0 z ns): ∃rv w' G',(Builtin.append_ ts ty #[rs,rx]).run P w=.ok rv w'∧R T G' v rv∧Zz T G' lo h' w'∧Stp lo G h w G' h' w':=by
 unfold X3 at e
 split at e
 ·
  rename_i hemp
  have hns:ns=[]:=by simpa using hemp
  subst hns
  have hxs:xs= #[]:=by simpa using hx
  subst hxs
  have stay: ∀{a:Option Addr} {len cap:Nat},len≤cap→(Builtin.append_ ts ty #[.slice a len cap,rx]).run P w=.ok (.slice a len cap) w:=by
   intro a len cap hle
   rw[Kb h1 hu hz h2 hby hl (.inl (by simpa using hle))]
   simp only[List.length_nil]at hf
   simp only[V4,List.length_nil,Nat.add_zero,if_pos hle,Sem.run_bind,hf,Result.andThen_ok]
   cases a<;>simp[storeCells]
  split at e
  ·simp at e
   obtain⟨rfl,rfl⟩:=e
   have hs':=hs
   obtain⟨a,cap,b,o,f,rfl,hc,_⟩:=hs.sl_inv
   exact⟨_,w,G,stay hc,hs',hi,.refl _ _ _ _⟩
  ·simp at e
   obtain⟨rfl,rfl⟩:=e
   have hs':=hs
   obtain⟨a,cap,rfl,hB,hc,_⟩:=hs.gsl_inv
   exact⟨_,w,G,stay hc,hs',hi,.refl _ _ _ _⟩
  ·simp at e
 ·rename_i hemp
  have hne:0<ns.length:=by
   rcases Nat.eq_zero_or_pos ns.length with h0|h0
   ·exact absurd (by simp[List.eq_nil_of_length_eq_zero h0]) hemp
   ·exact h0
  split at e
  ·
   rename_i z' es tg
   obtain⟨a,cap,b,o,f,rfl,hc,htg,ha,hzz,hg,hR,ho⟩:=hs.sl_inv
   split at e
   ·rename_i hcond
    obtain⟨hcl,rfl,hm⟩:=hcond
    simp only[Option.some.injEq,Prod.mk.injEq]at e
    obtain⟨rfl,rfl⟩:=e
    have hcap:=htg.1 hcl
    subst hcap
    obtain⟨os,o1,o2,o3,o4⟩:=QC (P:=P) hi (z:=z') (x:=.sl z' es tg) (ns:=es) (by simp[Wl]) hs
    obtain⟨os',o1',o2',o3',o4'⟩:=QC (P:=P) hi.drew (z:=z') (x:=.sl z' es tg) (ns:=es) (by simp[Wl]) hs
    obtain⟨w',cap',c,r1,r2,r3,r4,r5,r6,r7,r8,r9,r10⟩:=Ku (ty:=ty) h1 hu hz hby hzv hzs h2 hl hf hx o2' hfd o3' (by omega) hb0 hb1 hm
    obtain⟨G',g1,g2,g3,g4⟩:=J2 hi (w':=w') (es:=es++ns) (z:=z') (c:=c) (t:=el) (fz:=(0,0)) r3 r4 r8 r9 r10 r5 (fun off _=>by simp)
     (by rw[List.length_append,r6];exact Nat.mul_le_mul_right _ r2) (o4'.append hold r7)
    refine⟨_,w',G',r1,?_,g1,g2⟩
    rw[List.length_append]at g3
    refine .gsl _ _ _ _ _ _ _ g4 r2 (.inr ⟨_,g3,rfl,by simp,?_⟩)
    simp only[Nat.zero_add,r6];exact Nat.le_refl _
   ·simp at e
  ·
   rename_i B ep z' off len
   obtain⟨a,cap,rfl,hB,hlc,hg⟩:=hs.gsl_inv
   split at e
   ·rename_i es he
    split at e
    ·rename_i hcond
     obtain⟨rfl,rfl,rfl,hlo,rfl,hm⟩:=hcond
     simp only[Option.some.injEq,Prod.mk.injEq]at e
     obtain⟨rfl,rfl⟩:=e
     have hseen:Wl h z' (.gsl B es.length z' 0 es.length)=some es:=by simp[Wl,KK,he]
     by_cases hroom:es.length+ns.length≤cap
     ·rcases hg with rfl|⟨g,q1,rfl,rfl,q3⟩
      ·omega
      ·obtain⟨c,t',fz,l1,l2,l3,l4,l5⟩:=hi.live B es g he q1
       have hbnd:g.o+0*g.z+(es.length+ns.length)*g.z≤c.size:=by
        rw[l2]
        have:(es.length+ns.length)*g.z≤(0+cap)*g.z:=Nat.mul_le_mul_right _ (by omega)
        omega
       obtain⟨w',c',r1,r2,r3,r4,r5,r6,r7,r8,r9⟩:=ZkY (ty:=ty) h1 hu hz h2 hby hl hf hx l1 hbnd l3 (hold.oc hx) hroom
       obtain⟨G',g1,g2,g3,g4⟩:=JV hi (w':=w') (es':=es++ns) hlo he (g:=g) (by omega) r7 r8 r9 (fun b _ hb=>r6 b hb) (by simp) (.inl q1) r2 (by omega) (by rw[r3];exact l3)
        (by rw[List.length_append];omega) (fun i e' hi'=>by
          rcases Nat.lt_or_ge i es.length with hil|hil
          ·rw[List.getElem?_append_left hil]at hi'
           obtain⟨n1,n2⟩:=l5 i e' hi'
           refine⟨n1,fun j v hj=> ?_⟩
           obtain⟨rv,v1,v2,v3⟩:=n2 j v hj
           have hjz:j<g.z:=by rw[←n1];exact(List.getElem?_eq_some_iff.1 hj).1
           have:(i+1)*g.z≤es.length*g.z:=Nat.mul_le_mul_right _ hil
           rw[Nat.add_mul]at this
           exact⟨rv,by rw[r4,if_neg (by omega)];exact v1,v2,v3⟩
          ·rw[List.getElem?_append_right hil]at hi'
           obtain⟨n1,n2⟩:=hold _ e' hi'
           refine⟨n1,fun j v hj=> ?_⟩
           obtain⟨rv,v1,v2,v3⟩:=n2 j v hj
           have hjz:j<g.z:=by rw[←n1];exact(List.getElem?_eq_some_iff.1 hj).1
           have hil':i-es.length<ns.length:=(List.getElem?_eq_some_iff.1 hi').1
           have h3:(i-es.length+1)*g.z≤ns.length*g.z:=Nat.mul_le_mul_right _ hil'
           rw[Nat.add_mul]at h3
           have he2:i*g.z=es.length*g.z+(i-es.length)*g.z:=by rw[←Nat.add_mul];congr 1;omega
           refine⟨rv,?_,v2,v3⟩
           rw[r4,if_pos (by omega),←v1];congr 1;omega)
       refine⟨_,w',G',r1,?_,g1,g2⟩
       rw[List.length_append]at g3
       exact .gsl _ _ _ _ _ _ _ g4 hroom (.inr ⟨g,g3,rfl,rfl,q3⟩)
     ·obtain⟨os',o1',o2',o3',o4'⟩:=QC (P:=P) hi.drew (z:=z') (x:=.gsl B es.length z' 0 es.length) (ns:=es) hseen hs
      obtain⟨w',cap',c,r1,r2,r3,r4,r5,r6,r7,r8,r9,r10⟩:=Ku (ty:=ty) h1 hu hz hby hzv hzs h2 hl hf hx o2' hfd o3' (by omega) hb0 hb1 hm
      obtain⟨G',g1,g2,g3,g4⟩:=JV hi (w':=w') (es':=es++ns) hlo he (g:=⟨w.heap.size,0,z',c.size⟩) (by omega) r8 r9 r10 (fun b hb _=>r4 b hb) (by simp) (.inr ⟨rfl,by simp;omega⟩) r5 rfl (fun off _=>by simp)
       (by rw[List.length_append,r6,Nat.zero_add];exact Nat.mul_le_mul_right _ r2) (o4'.append hold r7)
      refine⟨_,w',G',r1,?_,g1,g2⟩
      rw[List.length_append]at g3
      refine .gsl _ _ _ _ _ _ _ g4 r2 (.inr ⟨_,g3,rfl,by simp,?_⟩)
      simp only[Nat.zero_add,r6];exact Nat.le_refl _
    ·simp at e
   ·simp at e
  ·simp at e
theorem ZnR(hi:Zz T G lo h w){z:V}{bytes:Nat}{len cap v:V}{h':Zg}{rl rc:Value}{t el:TypeId}(e:UW h z bytes len cap=some (v,h'))(hl:R T G len rl)(hc:R T G cap rc)
 (ht:YK P t=some el) (hby:XX P el bytes=true) (hz:VR P el z=true) (hs:Xh P el=some z.cells.length) (hz0:0<z.cells.length) (hb0:0<bytes): ∃rv w' G',(Instr.makeSlice t rl rc).run P w=.ok rv w'∧R T G' v rv∧Zz T G' lo h' w'∧Stp lo G h w G' h' w':=by
 have hu:P.underlying t=some (.slice el):=by
  unfold YK at ht;split at ht
  ·simp at ht;subst ht;assumption
  ·exact absurd ht (by simp)
 unfold VR at hz
 cases hzv:(P.info? el).bind (·.zero)with
 |none=>simp[hzv]at hz
 |some zv=>
  simp only[hzv]at hz
  have hzR:R T G z zv:=K1 hz
  cases hinf:P.info? el with
  |none=>simp[XX,hinf]at hby
  |some inf=>
   have hbi:inf.bytes=bytes:=by simpa[XX,hinf]using hby
   unfold UW at e
   split at e
   ·rename_i l c
    obtain rfl:=hl.int_inv
    obtain rfl:=hc.int_inv
    split at e
    ·rename_i hcond
     obtain⟨a1,a2,a3,a4⟩:=hcond
     simp only[Option.some.injEq,Prod.mk.injEq]at e
     obtain⟨rfl,rfl⟩:=e
     unfold YC at a3 a4
     have hwl:IntKind.i64.wrap l=l:=IntWalk.i64_in _ (by omega)
     have hwc:IntKind.i64.wrap c=c:=IntWalk.i64_in _ (by omega)
     have hok:okV z=true:=by
      cases z<;>first|rfl|(cases zv<;>simp[Zi7,XB]at hz)
     obtain⟨k1,k2,k3⟩:=hzR.cells hok
     let n:=c.toNat*z.cells.length
     let cs:Array Value:=(Array.range n).map fun i=>zv.cells[i%zv.cells.size]!
     have hn: ¬(c<0∨((inf.bytes:Int)*c>2^48)):=by
      rw[hbi]
      have:(bytes:Int)*c=c*bytes:=Int.mul_comm _ _
      have h48:(2:Int)^48=281474976710656:=by decide
      omega
     have hrun:(Instr.makeSlice t (.int .i64 l) (.int .i64 c)).run P w=.ok (.slice (some ⟨w.heap.size,0,none⟩) l.toNat c.toNat) (w.alloc (.cells cs el (0,0))):=by
      have c1: ¬(c<0):=by omega
      have c2: ¬((2:Int)^48<(bytes:Int)*c):=by
       intro hh;exact hn (.inr (by rw[hbi];exact hh))
      have c3: ¬l<0:=by omega
      have c4: ¬l>c:=by omega
      unfold Instr.makeSlice
      simp only[Sem.run_bind,ZB hu,Result.andThen_ok,asInt,asIntOf,Sem.run_pure,VN hinf,hbi,hwl,hwc]
      rw[if_neg (by simp[c1,c3,c4];simpa using c2)]
      by_cases hn0:c.toNat*z.cells.length=0
      ·have hcs:cs= #[]:=by simp[cs,n,hn0]
       simp[Xm hs,hn0,hcs,W4]
       rw[show Array.range 0= #[]by simp,Array.map_empty]
      ·simp[Xm hs,hn0,WC hzv,W4,cs,n]
     obtain⟨G',g1,g2,g3,g4⟩:=J2 hi (w':=w.alloc (.cells cs el (0,0))) (es:=List.replicate l.toNat z) (z:=z.cells.length) (c:=cs) (t:=el) (fz:=(0,0)) (YW w _) (Xb w _) rfl rfl rfl (YS w _)
      (fun off _=>by simp) (by simp only[List.length_replicate,cs,Array.size_map,Array.size_range,n];exact Nat.mul_le_mul_right _ (by omega)) (fun i e hi'=>by
        have hil:i<l.toNat:=by have:=(List.getElem?_eq_some_iff.1 hi').1;simpa using this
        rw[List.getElem?_replicate,if_pos hil]at hi'
        simp only[Option.some.injEq]at hi';subst hi'
        refine⟨rfl,fun j v hj=> ?_⟩
        have hjz:j<z.cells.length:=(List.getElem?_eq_some_iff.1 hj).1
        have hjs:j<zv.cells.size:=by rw[←k1];exact hjz
        refine⟨zv.cells[j],?_,k2 j v _ hj (by simp[hjs]),k3 j _ (by simp[hjs])⟩
        have hb:i*z.cells.length+j<n:=by
         have:(i+1)*z.cells.length≤c.toNat*z.cells.length:=Nat.mul_le_mul_right _ (by omega)
         rw[Nat.add_mul]at this
         show _<c.toNat*z.cells.length
         omega
        rw[Nat.zero_add]
        simp only[cs,Array.getElem?_map,Array.getElem?_range,if_pos hb,Option.map_some]
        rw[←k1,Nat.mul_comm,Nat.mul_add_mod,Nat.mod_eq_of_lt hjz]
        simp[hjs])
     refine⟨_,_,G',hrun,?_,g1,g2⟩
     rw[List.length_replicate]at g3
     refine .gsl _ _ _ _ _ _ _ g4 (by omega) (.inr ⟨_,g3,rfl,by simp,?_⟩)
     simp[cs,n]
    ·simp at e
   ·simp at e
end
end Go.VE
namespace Go.VE
set_option linter.unnecessarySimpa false
open Classical
section
variable {P : Program} {T : Tbl} {G : Gh} {w : World} {lo : Nat} {h : Zg}
theorem JJ(T:Tbl): ∀(k:Nat) (l:List (Nat ×Operand)) (r:List Z3),Up T k l r=true→l.length=r.length∧∀(i:Nat) (p:Nat ×Operand) (y:Z3),l[i]? =some p→r[i]? =some y→p.1=k+i∧ZQ T p.2 y=true
 |k,[],[],_=>⟨rfl,by simp⟩
 |k,[],_::_,h=>by simp[Up]at h
 |k,_::_,[],h=>by simp[Up]at h
 |k,(i,x)::l,y::r,h=>by
  simp only[Up,Bool.and_eq_true,beq_iff_eq]at h
  obtain⟨h1,h2⟩:=JJ T (k+1) l r h.2
  refine⟨by simp[h1],fun j p q e1 e2=> ?_⟩
  cases j with
  |zero=>simp at e1 e2;subst e1;subst e2;exact⟨by simpa using h.1.1,h.1.2⟩
  |succ j=>
   obtain⟨k1,k2⟩:=h2 j p q (by simpa using e1) (by simpa using e2)
   exact⟨by omega,k2⟩
theorem JF(T:Tbl)(place:Nat→Option (Nat ×Nat)): ∀(l:List (Nat ×Operand)) (r:List (Nat ×Nat ×Z3)),Vh T place l r=true→l.length=r.length∧∀(i:Nat) (p:Nat ×Operand) (y:Nat ×Nat ×Z3),l[i]? =some p→r[i]? =some y→place p.1=some (y.1,y.2.1)∧ZQ T p.2 y.2.2=true
 |[],[],_=>⟨rfl,by simp⟩
 |[],_::_,h=>by simp[Vh]at h
 |_::_,[],h=>by simp[Vh]at h
 |(i,x)::l,(off,n,y)::r,h=>by
  simp only[Vh,Bool.and_eq_true,decide_eq_true_eq]at h
  obtain⟨h1,h2⟩:=JF T place l r h.2
  refine⟨by simp[h1],fun j p q e1 e2=> ?_⟩
  cases j with
  |zero=>simp at e1 e2;subst e1;subst e2;exact⟨h.1.1,h.1.2⟩
  |succ j=>exact h2 j p q (by simpa using e1) (by simpa using e2)
theorem Zbu{n:Nat}: ∀(ps:List (Nat ×Value)) (vs:List V) (k:Nat) (c:Array Value),ps.length=vs.length→(∀(i:Nat) (p:Nat ×Value) (v:V),ps[i]? =some p→vs[i]? =some v→p.1=k+i∧R T G v p.2∧v.cells.length=n∧okV v=true)→(k+ps.length)*n≤c.size→
 ∃c',Instr.fill (fun i=>some (i*n,n)) c ps=some c'∧c'.size=c.size∧(∀i,i<k*n→c'[i]? =c[i]?)∧∀(i:Nat) (e:V) (j:Nat) (x:V),vs[i]? =some e→e.cells[j]? =some x→∃rv,c'[(k+i)*n+j]? =some rv∧R T G x rv∧oc rv=true
 |[],vs,k,c,hl,hp,hc=>by
  have:vs=[]:=List.eq_nil_of_length_eq_zero (by simpa using hl.symm)
  subst this
  exact⟨c,rfl,rfl,fun _ _=>rfl,by simp⟩
 |(q,rv)::ps,vs,k,c,hl,hp,hc=>by
  cases vs with
  |nil=>simp at hl
  |cons v vs=>
   obtain⟨h1,h2,h3,h4⟩:=hp 0 _ _ rfl rfl
   simp only[Nat.add_zero]at h1
   subst h1
   obtain⟨k1,k2,k3⟩:=h2.cells h4
   obtain⟨z1,z2⟩:=Zd4 (q*n) rv.cells.toList 0 c
   have hsz:rv.cells.size=n:=by rw[←k1,h3]
   have hcq:(q+1)*n≤c.size:=Nat.le_trans (Nat.mul_le_mul_right n (by simp)) hc
   have e2:rv.cells.zipIdx.foldl (fun cs x=>match x with|(c,j)=>cs.setIfInBounds (q*n+j) c) c=(rv.cells.toList.zipIdx 0).foldl (fun cs (x:Value ×Nat)=>cs.setIfInBounds (q*n+x.2) x.1) c:=by
    have:rv.cells.zipIdx.foldl (fun cs (x:Value ×Nat)=>cs.setIfInBounds (q*n+x.2) x.1) c=(rv.cells.toList.zipIdx 0).foldl (fun cs (x:Value ×Nat)=>cs.setIfInBounds (q*n+x.2) x.1) c:=by
     rw[←Array.foldl_toList];simp
    exact this
   simp only[Instr.fill]
   rw[if_neg (by simp[hsz];rw[Nat.add_mul]at hcq;omega),e2]
   generalize (rv.cells.toList.zipIdx 0).foldl (fun cs (x:Value ×Nat)=>cs.setIfInBounds (q*n+x.2) x.1) c=c2 at z1 z2
   obtain⟨c',r1,r2,r3,r4⟩:=Zbu ps vs (q+1) c2 (by simpa using hl) (fun i p v' e1 e2=>by
    obtain⟨a1,a2⟩:=hp (i+1) p v' (by simpa using e1) (by simpa using e2)
    exact⟨by omega,a2⟩) (by rw[z1];simp only[List.length_cons]at hc;rw[show q+1+ps.length=q+(ps.length+1)by omega];exact hc)
   refine⟨c',r1,by rw[r2,z1],fun i hi=> ?_,fun i e j x he hx=> ?_⟩
   ·rw[r3 i (by rw[Nat.add_mul];omega),z2 i (by rw[Nat.add_mul]at hcq;omega),if_neg (by omega)]
   ·cases i with
    |zero=>
     simp at he;subst he
     have hj:j<n:=by rw[←h3];exact(List.getElem?_eq_some_iff.1 hx).1
     have hjs:j<rv.cells.size:=by omega
     refine⟨rv.cells[j],?_,k2 j x _ hx (by simp[hjs]),k3 j _ (by simp[hjs])⟩
     rw[Nat.add_zero,r3 _ (by rw[Nat.add_mul];omega),z2 _ (by rw[Nat.add_mul]at hcq;omega),if_pos (by simp;omega)]
     simp[hjs]
    |succ i=>
     have:=r4 i e j x (by simpa using he) hx
     rw[show q+1+i=q+(i+1)by omega]at this
     exact this
theorem Zem(hi:Zz T G lo h w){n len:Nat}{vs:List V}{ps:List (Nat ×Value)}{t el:TypeId}{zv:Value}(ht:YK P t=some el)(hs:Xh P el=some n)(hn:0<n)(hsz:len*n≤2^24)
 (hz:(P.info? el).bind (·.zero)=some zv) (hlen:vs.length=len) (hpl:ps.length=len) (hv: ∀v∈vs,v.cells.length=n∧okV v=true)
 (hp: ∀(i:Nat) (p:Nat ×Value) (v:V),ps[i]? =some p→vs[i]? =some v→p.1=i∧R T G v p.2): ∃rv w' G',(Instr.buildSlice t len ps.toArray).run P w=.ok rv w'∧R T G' (.sl n vs .ce) rv∧Zz T G' lo h w'∧Stp lo G h w G' h w':=by
 have hu:P.underlying t=some (.slice el):=by
  unfold YK at ht;split at ht
  ·simp at ht;subst ht;assumption
  ·exact absurd ht (by simp)
 obtain⟨c,r1,r2,r3,r4⟩:=Zbu (T:=T) (G:=G) (n:=n) ps vs 0 ((Array.range (len*n)).map (fun i=>(if len*n=0 then #[]else zv.cells)[i%(if len*n=0 then #[]else zv.cells).size]!)) (by omega) (fun i p v e1 e2=>by
  obtain⟨a1,a2⟩:=hp i p v e1 e2
  obtain⟨b1,b2⟩:=hv v (List.mem_of_getElem? e2)
  exact⟨by omega,a2,b1,b2⟩) (by simp[hpl])
 obtain⟨G',g1,g2,g3⟩:=ZfB hi (w':=w.alloc (.cells c el (0,0))) (YW w _) (Xb w _) rfl rfl rfl
 refine⟨.slice (some ⟨w.heap.size,0,none⟩) len len,_,G',?_,?_,g1,g2⟩
 ·have h24: ¬(16777216<len*n):=by
   have:(2:Nat)^24=16777216:=by decide
   omega
  unfold Instr.buildSlice
  by_cases h0:len*n=0
  ·simp only[h0,if_true]at r1
   have r1':Instr.fill (fun i=>some (i*n,n)) (Array.map (fun x=>default) (Array.range 0)) ps=some c:=by simpa using r1
   simp[ZB hu,Xm hs,h0,W4,r1']
  ·simp only[h0,if_false]at r1
   simp[ZB hu,Xm hs,h0,h24,WC hz,W4,r1]
 ·have cellv: ∀i e j x,vs[i]? =some e→e.cells[j]? =some x→∃rv,G'.Gp w.heap.size (i*n+j)=some rv∧R T G x rv∧oc rv=true:=by
   intro i e j x h1 h2
   obtain⟨rv,q1,q2,q3⟩:=r4 i e j x h1 h2
   rw[Nat.zero_add]at q1
   refine⟨rv,g3 _ _ ?_,q2,q3⟩
   simp only[World.cell?,YS];exact q1
  rw[←hlen]
  refine .sl n vs .ce _ _ w.heap.size 0 (fun i j=>(G'.Gp w.heap.size (i*n+j)).getD undef) (Nat.le_refl _) ⟨fun _=>rfl,by simp,fun _=>rfl⟩ (fun _=>rfl) (fun i e he=>(hv e (List.mem_of_getElem? he)).1) (fun i e j x h1 h2=> ?_) (fun i e j x h1 h2=> ?_) (fun i e j x h1 h2=> ?_)
  all_goals
   obtain⟨rv,q1,q2,q3⟩:=cellv i e j x h1 h2
   first
    |(simp only[gAt,Nat.zero_add,q1,Option.getD_some];done)
    |(simp only[q1,Option.getD_some];first|exact q2.mono g2.le|exact q3)
theorem Zp3(hi:Zz T G lo h w){s:ByteArray}{l:List UInt8}(hs:s.data.toList=l)(el:TypeId):
 ∃rv w' G',(Conv.stringToBytes el s).run P w=.ok rv w'∧R T G' (.sl 1 (l.map WF) .perm) rv∧Zz T G' lo h w'∧Stp lo G h w G' h w':=by
 let cap:=(Question.appendCap s.size 0 el).cut (w.tape w.drawn (Question.appendCap s.size 0 el))
 have hcap:s.size≤cap:=by
  show s.size≤s.size+_
  omega
 let c:Array Value:=(s.data.map fun b=>Value.int .u8 b.toNat)++Array.replicate (cap-s.size) (.int .u8 0)
 have hcs:c.size=cap:=by
  simp only[c,Array.size_append,Array.size_map,Array.size_replicate]
  show s.size+(cap-s.size)=cap
  omega
 let w1:=w.drew.alloc (.cells c el (0,0))
 let w':=w1.freeze {block:=w.heap.size,off:=cap} 1
 have hw1:w1.heap.size=w.heap.size+1:=YW _ _
 have hfz: ∀b,b≠w.heap.size→w'.heap[b]? =w1.heap[b]? :=by
  intro b hb
  simp[w',World.freeze,Array.getElem?_modify,Ne.symm hb]
 have hfzs:w'.heap.size=w1.heap.size:=by simp[w',World.freeze]
 have hnew:w'.heap[w.heap.size]? =some (.cells c el (cap,cap+1)):=by
  have:w1.heap[w.heap.size]? =some (.cells c el (0,0)):=YS _ _
  simp[w',World.freeze,Array.getElem?_modify,this]
 obtain⟨G',g1,g2,g3⟩:=ZfB hi (w':=w') (by omega) (fun b hb=>by rw[hfz b (by omega)];exact Xb w.drew _ b hb) rfl rfl rfl
 have hrun:(Conv.stringToBytes el s).run P w=.ok (.slice (some ⟨w.heap.size,0,none⟩) s.size cap) w':=by
  have hch:(choose (.appendCap s.size 0 el)).run P w=.ok cap w.drew:=by rw[run_choose];rfl
  have hsh:w1.shape? w.heap.size=some (el,cap):=by
   have:w1.heap[w.heap.size]? =some (.cells c el (0,0)):=YS _ _
   simp[World.shape?,this,hcs]
  have hms:(markStringish ⟨w.heap.size,0,none⟩).run P w1=.ok () w':=by
   simp[markStringish,hsh,w']
  unfold Conv.stringToBytes
  simp only[Sem.run_bind,hch,Result.andThen_ok]
  have hnr:(newRow el ((s.data.map fun b=>Value.int .u8 b.toNat)++Array.replicate (cap-s.size) (.int .u8 0))).run P w.drew=.ok ⟨w.heap.size,0,none⟩ w1:=rfl
  rw[hnr]
  simp only[Result.andThen_ok,hms,Sem.run_pure]
 have hsl:(l.map WF).length=s.size:=by rw[←hs];simp
 refine⟨_,w',G',hrun,?_,g1,g2⟩
 have cellv: ∀i e j x,(l.map WF)[i]? =some e→e.cells[j]? =some x→∃rv,G'.Gp w.heap.size (i+j)=some rv∧R T G x rv∧oc rv=true∧j=0:=by
  intro i e j x h1 h2
  rw[List.getElem?_map]at h1
  simp only[Option.map_eq_some_iff]at h1
  obtain⟨b,hb,rfl⟩:=h1
  cases j with
  |succ j=>simp[WF,V.cells]at h2
  |zero=>
   simp[WF,V.cells]at h2
   subst h2
   refine⟨.int .u8 b.toNat,g3 _ _ ?_,.int _ _,rfl,rfl⟩
   simp only[World.cell?,hnew,Nat.add_zero]
   rw[←hs]at hb
   have hb':s.data[i]? =some b:=by simpa using hb
   have hil:i<s.data.size:=by
    rcases Nat.lt_or_ge i s.data.size with h|h
    ·exact h
    ·rw[Array.getElem?_eq_none h]at hb';simp at hb'
   simp only[c]
   rw[if_neg (by simp),Array.getElem?_append_left (by simpa using hil)]
   simp[hb']
 rw[←hsl]
 refine .sl 1 _ .perm _ cap w.heap.size 0 (fun i j=>(G'.Gp w.heap.size (i+j)).getD undef) (by rw[hsl];exact hcap) (.plain rfl (by simp) rfl _ _ _) (fun _=>rfl) (fun i e he=> ?_) (fun i e j x h1 h2=> ?_) (fun i e j x h1 h2=> ?_) (fun i e j x h1 h2=> ?_)
 ·rw[List.getElem?_map]at he
  simp only[Option.map_eq_some_iff]at he
  obtain⟨b,_,rfl⟩:=he
  rfl
 all_goals
  obtain⟨rv,q1,q2,q3,q4⟩:=cellv i e j x h1 h2
  first
   |(simp only[gAt,Nat.zero_add,Nat.mul_one,q1,Option.getD_some];done)
   |(simp only[q1,Option.getD_some];first|exact q2.mono g2.le|exact q3)
theorem ZpW(hi:Zz T G lo h w){s:ByteArray}{l:List UInt8}(hs:s.data.toList=l){t:TypeId}(hu:P.underlying t=some .string):
 ∃rv w' G',(Instr.range t (.string s)).run P w=.ok rv w'∧R T G' (.itr h.length) rv∧Zz T G' lo (h++[.iter l 0]) w'∧Stp lo G h w G' (h++[.iter l 0]) w':=by
 obtain⟨G',g1,g2,g3⟩:=Zmo hi (w':=w.alloc (.stringIter s 0)) (YW w _) (Xb w _) rfl rfl rfl hs (YS w _)
 refine⟨.pointer (some ⟨w.heap.size,0,none⟩),_,G',?_,.itr _ _ g3,g1,g2⟩
 simp[Instr.range,ZB hu]
theorem Zpg(hi:Zz T G lo h w){it v:V}{h':Zg}{rit:Value}(e:Kf lo h it=some (v,h'))(hR:R T G it rit)(ty:TypeId):
 ∃rv w',(Instr.next rit true ty).run P w=.ok rv w'∧R T G v rv∧Zz T G lo h' w'∧Stp lo G h w G h' w':=by
 unfold Kf at e
 split at e
 ·rename_i B
  obtain⟨r,rfl,hr⟩:=hR.itr_inv
  split at e
  ·rename_i l pos hB
   obtain⟨s,hs,hh⟩:=hi.iter B l pos r hB hr
   have hsl:l.length=s.size:=by rw[←hs];simp
   have hget:(getObj r).run P w=.ok (.stringIter s pos) w:=by
    simp[getObj,Sem.run,hh]
   split at e
   ·rename_i hpos
    split at e
    ·rename_i hlo
     simp only[Option.some.injEq,Prod.mk.injEq]at e
     obtain⟨rfl,rfl⟩:=e
     have hdec:ZU l pos=Utf8.decode s pos:=by
      have:(⟨l.toArray⟩:ByteArray)=s:=by
       apply ByteArray.ext
       simp[←hs]
      simp[ZU,this]
     let w':World:={w with heap:=w.heap.setIfInBounds r (.stringIter s (pos+(Utf8.decode s pos).2))}
     have hrl:r<w.heap.size:=XE hh
     have hset:(setObj r (.stringIter s (pos+(Utf8.decode s pos).2))).run P w=.ok () w':=by
      simp[setObj,Sem.run,hh,w']
     obtain⟨k1,k2⟩:=Zmd hi (w':=w') (pos':=pos+(ZU l pos).2) hlo hB hr (by simp[w']) (fun b _ hb=>by simp[w',Array.getElem?_setIfInBounds,Ne.symm hb]) rfl rfl rfl hs (by simp[w',Array.getElem?_setIfInBounds,hrl,hdec])
     refine⟨.tuple #[.bool true,.int .i64 pos,.int .i32 (Utf8.decode s pos).1],w',?_,?_,k1,k2⟩
     ·have:pos<s.size:=by omega
      unfold Instr.next
      simp only[Sem.run_bind,hget,Result.andThen_ok]
      simp[this,hset,goInt]
     ·rw[hdec]
      refine .tup _ _ rfl fun i v rv e1 e2=> ?_
      match i with
      |0=>simp at e1 e2;subst e1;subst e2;exact .bool _
      |1=>simp at e1 e2;subst e1;subst e2;exact .int _ _
      |2=>simp at e1 e2;subst e1;subst e2;exact .int _ _
      |i+3=>simp at e1
    ·simp at e
   ·rename_i hpos
    simp only[Option.some.injEq,Prod.mk.injEq]at e
    obtain⟨rfl,rfl⟩:=e
    refine⟨.tuple #[.bool false],w,?_,?_,hi,.refl _ _ _ _⟩
    ·have: ¬pos<s.size:=by omega
     unfold Instr.next
     simp only[Sem.run_bind,hget,Result.andThen_ok]
     simp[this]
    ·refine .tup _ _ rfl fun i v rv e1 e2=> ?_
     match i with
     |0=>simp at e1 e2;subst e1;subst e2;exact .bool _
     |i+1=>simp at e1
  ·simp at e
 ·simp at e
end
end Go.VE
namespace Go.VE
set_option linter.unnecessarySimpa false
open Classical
section
variable {P : Program} {T : Tbl} {G : Gh} {w : World} {lo : Nat} {h : Zg}
def Q6:VOp→Bool
 |.call .. |.calld .. |.inv .. =>true
 |_=>false
theorem J0.of{s:Sem Value}{x:V}{h':Zg}(hx: ∃rv w' G',s.run P w=.ok rv w'∧R T G' x rv∧Zz T G' lo h' w'∧Stp lo G h w G' h' w'):
 J0 P T lo G h w (do pure (.value (←s))) x h':=by
 obtain⟨rv,w',G',h1,h2,h3,h4⟩:=hx
 exact⟨.value rv,rv,w',G',by simp[h1],.inl rfl,h2,h3,h4⟩
theorem J0.of'{s:Sem Value}{x:V}(hi:Zz T G lo h w)(hx: ∃rv,s.run P w=.ok rv w∧R T G x rv):
 J0 P T lo G h w (do pure (.value (←s))) x h:=by
 obtain⟨rv,h1,h2⟩:=hx
 exact .of ⟨rv,w,G,h1,h2,hi,.refl _ _ _ _⟩
theorem J0.unit{s:Sem Unit}{h':Zg}(hx: ∃w' G',s.run P w=.ok () w'∧Zz T G' lo h' w'∧Stp lo G h w G' h' w'):
 J0 P T lo G h w (do s;pure .skip) Ya h':=by
 obtain⟨w',G',h1,h3,h4⟩:=hx
 exact⟨.skip,undef,w',G',by simp[h1],.inr ⟨rfl,rfl⟩,.tup [] #[] rfl (by simp),h3,h4⟩
theorem Uf{t el:TypeId}(ht:YK P t=some el):P.underlying t=some (.slice el):=by
 unfold YK at ht;split at ht
 ·simp at ht;subst ht;assumption
 ·exact absurd ht (by simp)
theorem Zn1{fr:Fr}{a:Act}(hf:XF T G fr a.tmps){x:Option Operand}{y:Option Z3}(hc:Za2 T x y=true):RO T G (y.map (opd fr)) (x.map a.eval):=by
 cases x<;>cases y<;>simp[Za2]at hc
 ·trivial
 ·exact WL hf hc
theorem Ze0{agg:Bool}{n o:Nat}{cs:List V}{c:Array Value}{v:V}{t:TypeId}(ht:Xf P t=some agg)(hs:agg=true→Xh P t=some n)(e:ldc (.agg cs) agg n o=some v)(hR:RL T G cs c):
 ∃rv,(part t c o).run P w=.ok rv w∧R T G v rv:=by
 obtain⟨t1,t2,t3⟩:=hR
 unfold ldc at e
 cases agg with
 |true=>
  simp only[if_true]at e
  have e':(if o+n≤cs.length then some (V.agg ((cs.drop o).take n))else none)=some v:=e
  by_cases hle:o+n≤cs.length
  ·rw[if_pos hle]at e'
   have e:=e'
   simp only[Option.some.injEq]at e;subst e
   refine⟨.agg (c.extract o (o+n)),by simp[part,Ju ht,Xm (hs rfl)],.agg _ _ (by simp;omega) (fun i v rv e1 e2=> ?_) (fun i rv e2=> ?_)⟩
   ·rw[List.getElem?_take]at e1
    split at e1
    ·rw[List.getElem?_drop]at e1
     refine t2 _ v rv e1 ?_
     rw[Array.getElem?_extract]at e2
     split at e2
     ·exact e2
     ·simp at e2
    ·simp at e1
   ·rw[Array.getElem?_extract]at e2
    split at e2
    ·exact t3 _ rv e2
    ·simp at e2
  ·rw[if_neg hle]at e';simp at e'
 |false=>
  have e:cs[o]? =some v:=e
  have hol:o<c.size:=by rw[←t1];exact(List.getElem?_eq_some_iff.1 e).1
  exact⟨c[o],Vl ht (by simp[hol]),t2 _ _ _ e (by simp[hol])⟩
theorem Zp4(inj: ∀i j t,T.tid i=some t→T.tid j=some t→i=j){op:Op}{v:VOp}(hc:VZ P T op v=true){fr:Fr}{a:Act}(hf:XF T G fr a.tmps)(hi:Zz T G lo h w){x:V}
 (e:Zf fr v=some x) (dst:Option Tmp) (ty:TypeId) (pos:String) (after:Array Edge) (gd:Option (Nat ×Bool)):J0 P T lo G h w (execOp a.eval ⟨dst,op,ty,pos,after,gd⟩) x h:=by
 have ro: ∀{x y},ZQ T x y=true→R T G (opd fr y) (a.eval x):=fun h=>WL hf h
 unfold VZ at hc
 split at hc
 ·
  simp[Zf]at e;subst e
  exact .same hi rfl (ro hc)
 ·
  simp[Zf]at e;subst e
  exact .same hi rfl (ro hc)
 ·simp[Zf]at e
 ·
  simp only[Bool.and_eq_true]at hc
  simp only[Zf]at e
  split at e
  ·rename_i b hb
   simp only[Option.some.injEq]at e;subst e
   have:=ro hc.1.1
   rw[hb]at this
   have hv:=this.bool_inv
   cases b
   ·exact .same hi (by simp[execOp,hv,asBool]) (ro hc.2)
   ·exact .same hi (by simp[execOp,hv,asBool]) (ro hc.1.2)
  ·simp at e
 ·simp[Zf]at e
 ·simp[Zf]at e
 ·
  rename_i t ps z ps'
  simp only[Bool.and_eq_true]at hc
  simp only[Zf,Option.bind_eq_some_iff]at e
  obtain⟨cs,h1,h2⟩:=e
  split at h2
  ·rename_i hall
   simp only[Option.some.injEq]at h2;subst h2
   obtain⟨hz,hc⟩:=hc
   unfold VR at hz
   cases hzv:(P.info? t).bind (·.zero)with
   |none=>simp[hzv]at hz
   |some zv=>
    simp only[hzv]at hz
    have hzR:R T G (.agg z) zv:=K1 hz
    have hcells:=hzR.cells rfl
    have fin: ∀place:Nat→Option (Nat ×Nat),Vh T place ps.toList ps'=true→∃c',Instr.fill place zv.cells (ps.toList.map fun(i,x)=>(i,a.eval x))=some c'∧RL T G cs c':=by
     intro place hp
     obtain⟨l1,l2⟩:=JF T place _ _ hp
     refine ZbD place _ _ z zv.cells cs hcells (by simpa using l1) (fun i p q hp' hq'=> ?_) h1
     rw[List.getElem?_map]at hp' hq'
     simp only[Option.map_eq_some_iff]at hp' hq'
     obtain⟨p0,hp0,rfl⟩:=hp'
     obtain⟨q0,hq0,rfl⟩:=hq'
     obtain⟨k1,k2⟩:=l2 i p0 q0 hp0 hq0
     have hsz:=List.all_eq_true.1 hall q0 (List.mem_of_getElem? hq0)
     simp only[beq_iff_eq]at hsz
     exact⟨ro k2,by rw[k1,hsz]⟩
    have done: ∀c',RL T G cs c'→R T G (.agg cs) (.agg c'):=fun c' hr=>.agg cs c' hr.1 hr.2.1 hr.2.2
    have hmap:(ps.map fun(i,x)=>(i,a.eval x)).toList=ps.toList.map fun(i,x)=>(i,a.eval x):=by simp
    split at hc
    ·rename_i fs hu
     simp only[Bool.and_eq_true]at hc
     obtain⟨c',f1,f2⟩:=fin _ hc.2
     have hpl: ∀(fs:List Field),(fs.all fun f=>(Xh P f.type).isSome)=true→(fs.mapM fun f=>(do pure (f.offset,←sizeOf f.type):Sem (Nat ×Nat))).run P w=.ok (fs.map fun f=>(f.offset,(Xh P f.type).getD 0)) w:=by
      intro fs
      induction fs with
      |nil=>intro _;rfl
      |cons f fs ih=>
       intro hall
       simp only[List.all_cons,Bool.and_eq_true]at hall
       obtain⟨n,hn⟩:=Option.isSome_iff_exists.1 hall.1
       rw[List.mapM_cons]
       simp only[Sem.run_bind,Xm hn,Result.andThen_ok,Sem.run_pure,ih hall.2]
       simp[hn]
     have hpl2:(fs.mapM fun f=>(do pure (f.offset,←sizeOf f.type):Sem (Nat ×Nat))).run P w=.ok (fs.map fun f=>(f.offset,(Xh P f.type).getD 0)) w:=by
      rw[Array.mapM_eq_mapM_toList]
      simp only[Sem.run_map,hpl fs.toList hc.1,Result.andThen_ok]
      congr 1
      apply Array.ext'
      simp
     have hplace:(fun i=>(fs.map fun f=>(f.offset,(Xh P f.type).getD 0))[i]?)=Qo P fs:=by
      funext i
      simp only[Qo,Array.getElem?_map]
      cases hfi:fs[i]? with
      |none=>rfl
      |some f=>
       have hm:f∈fs.toList:=by
        have:i<fs.size:=by
         rcases Nat.lt_or_ge i fs.size with h|h
         ·exact h
         ·rw[Array.getElem?_eq_none h]at hfi;simp at hfi
        rw[Array.getElem?_eq_getElem this]at hfi
        simp only[Option.some.injEq]at hfi
        rw[←hfi];simp
       obtain⟨n,hn⟩:=Option.isSome_iff_exists.1 (List.all_eq_true.1 hc.1 f hm)
       simp[hn]
     refine .of' hi ⟨.agg c',?_,done c' f2⟩
     have f1':Instr.fill (fun i=>(fs.map fun f=>(f.offset,(Xh P f.type).getD 0))[i]?) zv.cells (ps.toList.map fun(i,x)=>(i,a.eval x))=some c':=by rw[hplace];exact f1
     unfold Instr.build
     simp only[Sem.run_bind,WC hzv,Result.andThen_ok,ZB hu,hpl2,hmap,f1',Sem.run_pure]
    ·rename_i n el hu
     split at hc
     ·rename_i n' hs
      obtain⟨c',f1,f2⟩:=fin _ hc
      refine .of' hi ⟨.agg c',?_,done c' f2⟩
      unfold Instr.build
      simp only[Sem.run_bind,WC hzv,Result.andThen_ok,ZB hu,Xm hs,hmap,f1,Sem.run_pure]
     ·exact absurd hc (by simp)
    ·exact absurd hc (by simp)
  ·simp at h2
 ·
  rename_i t len ps n ps'
  simp only[Bool.and_eq_true,beq_iff_eq]at hc
  obtain⟨⟨h1,h2⟩,h3⟩:=hc
  split at h1
  ·rename_i el hel
   simp only[Bool.and_eq_true,beq_iff_eq,decide_eq_true_eq]at h1
   obtain⟨⟨⟨k1,k2⟩,k3⟩,k4⟩:=h1
   cases hzv:(P.info? el).bind (·.zero)with
   |none=>simp[hzv]at k4
   |some zv=>
    simp only[Zf]at e
    split at e
    ·rename_i hall
     simp only[Option.some.injEq]at e;subst e
     obtain⟨l1,l2⟩:=JJ T _ _ _ h3
     refine .of ?_
     have:=Zem (P:=P) (T:=T) hi (n:=n) (len:=len) (vs:=ps'.map (opd fr)) (ps:=ps.toList.map fun(i,x)=>(i,a.eval x)) hel k1 k2 k3 hzv (by rw[List.length_map,←l1];simpa using h2) (by simpa using h2)
      (fun v hv=>by
        have:=List.all_eq_true.1 hall v hv
        simpa using this)
      (fun i p v hp hv=>by
        rw[List.getElem?_map]at hp hv
        simp only[Option.map_eq_some_iff]at hp hv
        obtain⟨p0,hp0,rfl⟩:=hp
        obtain⟨v0,hv0,rfl⟩:=hv
        obtain⟨q1,q2⟩:=l2 i p0 v0 hp0 hv0
        exact⟨by simpa using q1,ro q2⟩)
     have hmap:(ps.map fun(i,x)=>(i,a.eval x))=(ps.toList.map fun(i,x)=>(i,a.eval x)).toArray:=by
      apply Array.ext';simp
     rw[hmap]
     exact this
    ·simp at e
  ·exact absurd h1 (by simp)
 ·simp[Zf]at e
 ·simp[Zf]at e
 ·
  simp only[Zf]at e
  have hR:=ro hc
  split at e<;>rename_i hx<;>simp only[Option.some.injEq,reduceCtorEq]at e<;>subst e<;>rw[hx]at hR
  ·have hR':=hR
   obtain⟨g,_,hv⟩:=hR.ptr_inv
   refine .same hi (rv:=a.eval _) ?_ hR'
   simp[execOp,hv]
  ·have hR':=hR
   obtain⟨b,base,f,hv,_⟩:=hR.eptr_inv
   refine .same hi (rv:=a.eval _) ?_ hR'
   simp[execOp,hv]
  ·have hR':=hR
   obtain⟨fid,a1,b1,hv,_⟩:=hR.func_inv
   refine .same hi (rv:=a.eval _) ?_ hR'
   simp[execOp,hv]
  ·have hR':=hR
   obtain⟨tid,rv,hv,_⟩:=hR.iface_inv
   refine .same hi (rv:=a.eval _) ?_ hR'
   simp[execOp,hv]
 ·
  simp only[Bool.and_eq_true,decide_eq_true_eq]at hc
  obtain⟨⟨rfl,hx⟩,hy⟩:=hc
  simp only[Zf]at e
  exact .of' hi (ZlQ e (ro hx) (ro hy) _ _ _)
 ·
  simp only[Bool.and_eq_true]at hc
  obtain⟨⟨⟨hop,hx⟩,hy⟩,ht⟩:=hc
  simp only[Zf,Option.map_eq_some_iff]at e
  obtain⟨b,hb,rfl⟩:=e
  rename_i op t x y yt neg ks x' y'
  obtain⟨k1,k2,k3⟩:=Zqq (w:=w) ht (ro hx) (ro hy) hb x y op
  refine .of' hi ⟨.bool (if neg then !b else b),?_,.bool _⟩
  simp only[Sem.run_bind,k1,Result.andThen_ok]
  rcases k3 with⟨p,q,h1,h2⟩|⟨p,q,h1,h2⟩<;>rw[h1,h2]at k2⊢ <;>cases op<;>simp at hop<;>subst hop<;>simp only[binOp,Sem.run_bind,k2,Result.andThen_ok,Sem.run_pure]<;>simp
 ·
  simp only[Bool.and_eq_true,Bool.or_eq_true]at hc
  obtain⟨⟨hop,ht⟩,hxy⟩:=hc
  rename_i op t x y yt k neg x'
  simp only[Zf,Option.map_eq_some_iff]at e
  obtain⟨b,hb,rfl⟩:=e
  have cst: ∀{o:Operand},XK k o=true→∃v,o=.const v:=by
   intro o ho
   unfold XK at ho
   split at ho<;>first|exact⟨_,rfl⟩|exact absurd ho (by simp)
  rcases hxy with⟨hn,hx⟩|⟨hn,hx⟩
  ·obtain⟨nv,rfl⟩:=cst hn
   exact .of' hi ⟨_,(ZbB hb (ro hx) ht op neg hop hn x).1,.bool _⟩
  ·obtain⟨nv,rfl⟩:=cst hn
   exact .of' hi ⟨_,(ZbB hb (ro hx) ht op neg hop hn y).2,.bool _⟩
 ·
  simp only[Bool.and_eq_true,decide_eq_true_eq]at hc
  obtain⟨rfl,hx⟩:=hc
  simp only[Zf]at e
  exact .of' hi (ZqS e (ro hx))
 ·
  rename_i s d x k y
  simp only[Bool.and_eq_true]at hc
  obtain⟨hx,hk⟩:=hc
  simp only[Zf]at e
  unfold ZaD at e
  split at e
  ·rename_i k k' n hv
   simp only[Option.some.injEq]at e;subst e
   simp only[Bool.and_eq_true]at hk
   obtain⟨ds,hds⟩:=Option.isSome_iff_exists.1 hk.1
   obtain⟨dd,hdd,hkk⟩:=XD hk.2
   have hR:=ro hx
   rw[hv]at hR
   have hrv:=hR.int_inv
   cases dd<;>simp at hkk
   subst hkk
   refine .of' hi ⟨.int _ (_),?_,.int _ _⟩
   rw[hrv]
   simp[convert,ZB hds,ZB hdd,Conv.intToInt]
  ·rename_i l hv
   simp only[Option.some.injEq]at e;subst e
   simp only[Bool.and_eq_true]at hk
   obtain⟨ds,hds⟩:=Option.isSome_iff_exists.1 hk.1
   obtain⟨dd,hdd,hkk⟩:=XD hk.2
   have hR:=ro hx
   rw[hv]at hR
   obtain⟨sv,hrv,hs⟩:=hR.str_inv
   cases dd<;>simp[Um]at hkk
   refine .of' hi ⟨.string sv,?_,.str _ _ hs⟩
   rw[hrv]
   cases ds<;>simp[convert,ZB hds,ZB hdd]
  ·rename_i es tg hv
   simp only[Option.map_eq_some_iff]at e
   obtain⟨l,hl,rfl⟩:=e
   simp only[Bool.and_eq_true]at hk
   obtain⟨dd,hdd,hkk⟩:=XD hk.2
   cases dd<;>simp[Um]at hkk
   have hk1:=hk.1
   split at hk1
   ·rename_i el hel
    have hu:=Uf hel
    obtain⟨de,hde,hke⟩:=XD hk1
    have hR:=ro hx
    rw[hv]at hR
    obtain⟨sv,h1,h2⟩:=ZqU (P:=P) hi hl hR
    obtain⟨aa,cap,b,o,f,hrv,_⟩:=hR.sl_inv
    refine .of' hi ⟨.string sv,?_,.str _ _ h2⟩
    have hde8:de=.int .u8:=by cases de<;>simp[Zpc]at hke;rename_i k;cases k<;>simp at hke;rfl
    subst hde8
    rw[hrv]at h1⊢
    simp[convert,ZB hu,ZB hdd,ZB hde,h1]
   ·exact absurd hk1 (by simp)
  ·rename_i l hv
   simp only[Option.some.injEq]at e;subst e
   simp only[Bool.and_eq_true]at hk
   obtain⟨ds,hds,hks⟩:=XD hk.1
   cases ds<;>simp[Um]at hks
   have hk2:=hk.2
   split at hk2
   ·rename_i el hel
    have hu:=Uf hel
    obtain⟨de,hde,hke⟩:=XD hk2
    have hde8:de=.int .u8:=by cases de<;>simp[Zpc]at hke;rename_i k;cases k<;>simp at hke;rfl
    subst hde8
    have hR:=ro hx
    rw[hv]at hR
    obtain⟨sv,hrv,hs⟩:=hR.str_inv
    obtain⟨rv,w',G',q1,q2,q3,q4⟩:=Zp3 (P:=P) hi hs el
    refine .of ⟨rv,w',G',?_,q2,q3,q4⟩
    rw[hrv]
    simp[convert,ZB hds,ZB hu,ZB hde,q1]
   ·exact absurd hk2 (by simp)
  ·simp at e
 ·
  simp only[Bool.and_eq_true,beq_iff_eq]at hc
  obtain⟨⟨ht,hk⟩,hx⟩:=hc
  obtain⟨d,hd,hkk⟩:=XD hk
  simp only[Zf,Option.some.injEq]at e;subst e
  refine .of' hi ⟨.iface _ (a.eval _),?_,.iface _ _ _ _ ht (ro hx)⟩
  cases d<;>simp[US]at hkk<;>simp[Instr.makeInterface,ZB hd]
 ·
  rename_i f as bs i as' bs'
  simp only[Bool.and_eq_true,beq_iff_eq]at hc
  obtain⟨⟨ht,h1⟩,h2⟩:=hc
  simp only[Zf,Option.some.injEq]at e;subst e
  obtain⟨p1,p2⟩:=VA hf _ _ h1
  obtain⟨q1,q2⟩:=VA hf _ _ h2
  refine .of' hi ⟨.func (.func f) (as.map a.eval) (bs.map a.eval),rfl,.func _ _ _ _ _ _ ht (by simpa using p1) (by simpa using q1) (fun j v rv e1 e2=>p2 j v rv e1 ?_) (fun j v rv e1 e2=>q2 j v rv e1 ?_)⟩
  ·simpa using e2
  ·simpa using e2
 ·simp[Zf]at e
 ·
  rename_i t x lo' hi' mx n y lo2 hi2 mx2
  simp only[Bool.and_eq_true]at hc
  obtain⟨⟨⟨⟨⟨ht,hx⟩,hl⟩,hh⟩,hm⟩,hmh⟩:=hc
  simp only[Zf]at e
  refine .of' hi (ZgJ e (ro hx) (Zn1 hf hl) (Zn1 hf hh) (Zn1 hf hm) ?_ ht)
  cases mx<;>cases hi'<;>simp at hmh⊢
 ·
  simp only[Bool.and_eq_true]at hc
  obtain⟨hx,hk⟩:=hc
  simp only[Zf]at e
  split at hk
  ·rename_i fs hu
   split at hk
   ·rename_i fd hfd
    simp only[Bool.and_eq_true,beq_iff_eq]at hk
    obtain⟨rfl,hk⟩:=hk
    split at hk
    ·rename_i n hn
     obtain⟨ad,h1,h2,h3⟩:=K5 e (ro hx)
     refine .of' hi ⟨_,?_,h3⟩
     have hn0: ¬n=0:=by simpa using hk
     rw[h1]
     simp[Instr.fieldAt,ZB hu,hfd,Instr.sureAddr,fieldPlace,Xm hn,hn0]
    ·exact absurd hk (by simp)
   ·exact absurd hk (by simp)
  ·exact absurd hk (by simp)
 ·
  simp only[Bool.and_eq_true]at hc
  obtain⟨hx,hk⟩:=hc
  simp only[Zf]at e
  split at hk
  ·rename_i fs hu
   split at hk
   ·rename_i fd hfd
    simp only[Bool.and_eq_true,beq_iff_eq]at hk
    obtain⟨⟨rfl,hag⟩,hsz⟩:=hk
    split at e
    ·rename_i cs hv
     have hR:=ro hx
     rw[hv]at hR
     obtain⟨c,hrv,t1,t2,t3⟩:=hR.agg_inv
     refine .of' hi ?_
     have:=Ze0 (P:=P) (w:=w) (T:=T) (G:=G) hag (fun hh=>by rw[if_pos hh]at hsz;simpa using hsz) e ⟨t1,t2,t3⟩
     obtain⟨rv,r1,r2⟩:=this
     exact⟨rv,by rw[hrv];simp[Instr.field,ZB hu,hfd,asAgg,r1],r2⟩
    ·simp at e
   ·exact absurd hk (by simp)
  ·exact absurd hk (by simp)
 ·
  simp only[Bool.and_eq_true]at hc
  obtain⟨⟨hk,hx⟩,hj⟩:=hc
  simp only[Zf]at e
  split at hk
  ·rename_i el hel
   simp only[Bool.and_eq_true,beq_iff_eq]at hk
   exact .of' hi (ZfQ e (ro hx) (ro hj) hel hk.1)
  ·exact absurd hk (by simp)
 ·
  simp only[Bool.and_eq_true]at hc
  obtain⟨⟨hk,hx⟩,hj⟩:=hc
  simp only[Zf]at e
  split at hk
  ·rename_i l el hu
   simp only[Bool.and_eq_true,beq_iff_eq]at hk
   obtain⟨rfl,hs⟩:=hk
   exact .of' hi (ZgX e (ro hx) (ro hj) hu hs)
  ·exact absurd hk (by simp)
 ·
  simp only[Bool.and_eq_true]at hc
  obtain⟨⟨hk,hx⟩,hj⟩:=hc
  obtain⟨d,hd,hkk⟩:=XD hk
  cases d<;>simp[Um]at hkk
  simp only[Zf]at e
  exact .of' hi (Zml e (ro hx) (ro hj) hd)
 ·
  simp only[Bool.and_eq_true]at hc
  obtain⟨⟨hk,hx⟩,hj⟩:=hc
  simp only[Zf]at e
  split at hk
  ·rename_i l el hu
   simp only[Bool.and_eq_true,beq_iff_eq]at hk
   obtain⟨⟨rfl,hs⟩,hag⟩:=hk
   unfold idxA at e
   split at e
   ·rename_i k n hv
    split at e
    ·rename_i hb
     split at e
     ·rename_i cs hxv
      rw[hxv]at e
      have hR:=ro hx
      rw[hxv]at hR
      obtain⟨c,hrv,t1,t2,t3⟩:=hR.agg_inv
      have hRi:=ro hj
      rw[hv]at hRi
      have hri:=hRi.int_inv
      obtain⟨rv,r1,r2⟩:=Ze0 (P:=P) (w:=w) (T:=T) (G:=G) hag (fun _=>hs) e ⟨t1,t2,t3⟩
      refine .of' hi ⟨rv,?_,r2⟩
      rw[hrv,hri]
      simp[Instr.index,asIntOf,ZB hu,hb,Xm hs,r1]
     ·simp at e
    ·simp at e
   ·simp at e
  ·exact absurd hk (by simp)
 ·
  simp only[Bool.and_eq_true,beq_iff_eq]at hc
  obtain⟨⟨⟨⟨ht,hk⟩,hz⟩,rfl⟩,hx⟩:=hc
  simp only[Zf]at e
  exact .of' hi (Zdr e (ro hx) inj ht hk hz)
 ·
  rename_i _ ix _ _
  simp only[Bool.and_eq_true,beq_iff_eq]at hc
  obtain⟨rfl,hx⟩:=hc
  simp only[Zf]at e
  split at e
  ·rename_i vs hv
   have hR:=ro hx
   rw[hv]at hR
   obtain⟨c,hrv,t1,t2⟩:=hR.tup_inv
   have hil:ix<c.size:=by rw[←t1];exact(List.getElem?_eq_some_iff.1 e).1
   refine .of' hi ⟨c[ix]'hil,?_,t2 _ _ _ e (by simp[hil])⟩
   rw[hrv]
   simp[Instr.extract,hil]
  ·simp at e
 ·simp[Zf]at e
 ·simp[Zf]at e
 ·
  rename_i v' c
  split at hc
  ·
   rename_i text y hcal
   split at hc
   ·rename_i x t hargs hts
    simp only[Bool.and_eq_true]at hc
    simp only[Zf]at e
    have hca:c.args= #[x]:=Array.ext' hargs
    obtain⟨rv,r1,r2⟩:=ZnH (w:=w) (P:=P) (ty:=ty) e (ro hc.2) hts hc.1
    refine .same hi (rv:=rv) ?_ r2
    simp[execOp,resolve,hcal,invoke,builtin,hca,r1]
   ·exact absurd hc (by simp)
  ·
   rename_i n hcal
   simp only[Zf,opd,Option.some.injEq]at e;subst e
   split at hc
   ·rename_i x t hargs hts
    have hca:c.args= #[x]:=Array.ext' hargs
    refine .same hi (rv:=.int .i64 n) ?_ (.int _ _)
    split at hc
    ·rename_i m el hu
     have hn:n=(m:Int):=by simpa using hc
     subst hn
     simp[execOp,resolve,hcal,invoke,builtin,hca,Builtin.len_,hts,ZB hu,goInt]
    ·rename_i ar hu
     split at hc
     ·rename_i m el hu2
      have hn:n=(m:Int):=by simpa using hc
      subst hn
      simp[execOp,resolve,hcal,invoke,builtin,hca,Builtin.len_,hts,ZB hu,ZB hu2,goInt]
     ·exact absurd hc (by simp)
    ·exact absurd hc (by simp)
   ·exact absurd hc (by simp)
  ·simp[Zf]at e
  ·
   rename_i xs hcal
   simp only[Zf]at e
   obtain⟨p1,p2⟩:=VA hf _ _ hc
   obtain⟨rv,r1,r2⟩:=ZbE (P:=P) (w:=w) false p1 p2 e c.argTypes ty
   refine .same hi (rv:=rv) ?_ r2
   have hm:(c.args.toList.map a.eval).toArray=c.args.map a.eval:=by apply Array.ext';simp
   simp only[Bool.false_eq_true,if_false,hm]at r1
   simp[execOp,resolve,hcal,invoke,builtin,r1]
  ·
   rename_i xs hcal
   simp only[Zf]at e
   obtain⟨p1,p2⟩:=VA hf _ _ hc
   obtain⟨rv,r1,r2⟩:=ZbE (P:=P) (w:=w) true p1 p2 e c.argTypes ty
   refine .same hi (rv:=rv) ?_ r2
   have hm:(c.args.toList.map a.eval).toArray=c.args.map a.eval:=by apply Array.ext';simp
   simp only[if_true,hm]at r1
   simp[execOp,resolve,hcal,invoke,builtin,r1]
  ·simp[Zf]at e
  ·simp[Zf]at e
  ·simp[Zf]at e
  ·simp[Zf]at e
  ·exact absurd hc (by simp)
 ·simp[Zf]at e
 ·exact absurd hc (by simp)
end
end Go.VE
