/- Joined texts: VeLaw, VeRead, VeTyp, VeApi, VeLives, VeShp. No condition: what each theorem needs stands in it. -/
import Derived.Test.YtlekfkibeafdiaaGreatVa4
import Derived.Carry
import Derived.WalkKit
import Derived.ProofKit
import Derived.OpenShut
import Derived.ShutString
import Derived.ChangeOld
import Derived.Below
import Derived.SizedLaws
import Derived.DataReads
import Derived.KernelRfl
namespace Go.VE
open Go.RowKit
def G0(W:World):Gh:=⟨fun b off=>W.cell? ⟨b,off,none⟩,fun _ _=>none,fun _ _=>none,fun _=>none,0⟩
theorem Zrf(T:Tbl)(W:World):Zz T (G0 W) 0 [] W:=
 ⟨fun _ _ _ e=>e,fun _ _ _ e=>by simp[G0]at e,Nat.le_refl _,Nat.le_refl _,fun _ _ _ e=>by simp[G0]at e,fun _ _ e=>by simp[G0]at e,fun _ _ _ _ e=>by simp at e,fun _ _ _ e=>by simp at e,fun _ _ _ _ e=>by simp at e,fun _ _ _ _ e=>by simp at e,fun _ _ _ _ _ e=>by simp at e⟩
theorem Stp.below{G G':Gh}{W w':World}{h':Zg}(st:Stp 0 G [] W G' h' w'):Below W.heap.size W w':=
 ⟨st.os,st.tape,st.output,st.size,fun k hk=>(st.keep k hk (by rintro⟨B,_,⟨_,_,e,_⟩|⟨_,_,e,_⟩⟩<;>simp at e)).1⟩
theorem Zlg{P:Program}{T:Tbl}{vp:VP}(tied:U6 P T vp){f:Nat}{vf:Zi}(hv:vp.fn f=some vf)(hx:vf.ext=none){fid:FuncId}(hf:T.fid f=some fid){W:World}{vs:List V}{as:Array Value}(hR:RA T (G0 W) vs as)
 {h':Zg} (e:ZmY vp f 0 vs []=some (.bool true,h')):Calls P fid as W fun e w'=>e=.returned (.bool true)∧Below W.heap.size W w':=
 (Zfj tied hv hx e (Zrf T W) hf hR).mono fun e w' ⟨rv,G',h1,h2,h3,h4⟩=>⟨by rw[h1,h2.bool_inv],h4.below⟩
end Go.VE
namespace Go.VE
open Go.RowKit
def elV(P:Program)(t:TypeId)(xs:List V):V:=
 match P.underlying t with
 |some (.struct _)|some (.array _ _)=>.agg xs
 |_=>xs.headD .undef
def Wk(o n:Nat):List (Nat ×Nat)→Bool
 |[]=>o==n
 |p::l=>p.1==o&&Wk (o+p.2) n l
def Q5(P:Program):Nat→TypeId→Bool
 |0,_=>false
 |n+1,t=>match P.underlying t with
  |some .bool|some .string=>P.cellsOf t==1
  |some (.int _)=>P.cellsOf t==1
  |some (.slice e)=>P.cellsOf t==1&&decide (0<P.cellsOf e)&&Q5 P n e
  |some (.struct fs)=>(fs.toList.all fun f=>Q5 P n f.type)&&Wk 0 (P.cellsOf t) (fs.toList.map fun f=>(f.offset,P.cellsOf f.type))
  |some (.array m e)=>Q5 P n e&&decide (m*P.cellsOf e=P.cellsOf t)
  |_=>false
def Shp(P:Program):Nat→TypeId→List V→Prop
 |0,_,_=>False
 |n+1,t,xs=>match P.underlying t with
  |some .bool=> ∃b,xs=[.bool b]
  |some (.int k)=> ∃m,xs=[.int k m]∧k.min≤m∧m≤k.max
  |some .string=> ∃l,xs=[.str l]∧l.length≤reachBytes
  |some (.slice e)=>xs=[.sl (P.cellsOf e) [] .nl]∨∃es,xs=[.sl (P.cellsOf e) es .perm]∧es.length*P.bytesOf e≤reachBytes∧∀x∈es,∃ys,x=elV P e ys∧Shp P n e ys
  |some (.struct fs)=>xs.length=P.cellsOf t∧∀f∈fs.toList,Shp P n f.type ((xs.drop f.offset).take (P.cellsOf f.type))
  |some (.array m e)=>xs.length=P.cellsOf t∧∀i,i<m→Shp P n e ((xs.drop (i*P.cellsOf e)).take (P.cellsOf e))
  |_=>False
def leO(B:Option Nat)(n:Nat):Bool:=match B with|none=>true|some b=>decide (n≤b)
mutual
def UN(B:Option Nat):V→Bool
 |.str l=>leO B l.length
 |.agg cs=>Ua B cs
 |.sl _ es _=>leO B es.length&&Ua B es
 |_=>true
def Ua(B:Option Nat):List V→Bool
 |[]=>true
 |v::l=>UN B v&&Ua B l
end
theorem JM{B:Option Nat}: ∀{l:List V},Ua B l=true↔∀v∈l,UN B v=true
 |[]=>by simp[Ua]
 |v::l=>by simp[Ua,JM (l:=l)]
theorem ZeG{B:Option Nat}{a b:List V}(ha:Ua B a=true)(hb:Ua B b=true):Ua B (a++b)=true:=by
 rw[JM]at*;intro v hv;rcases List.mem_append.1 hv with h|h
 ·exact ha v h
 ·exact hb v h
theorem ZiW{B:Option Nat}{P:Program}{t:TypeId}{xs:List V}(h:Ua B xs=true):UN B (elV P t xs)=true:=by
 have h1:UN B (xs.headD .undef)=true:=by cases xs<;>simp_all[UN,Ua]
 unfold elV;split<;>first|exact h|exact h1
structure Znz {H:Type} (B:Option Nat) (S:DataW H→Prop):Prop where
 str: ∀bs,S (.lit (.string bs))→leO B bs.length=true
 slice: ∀es sp,S (.slice es sp)→leO B es.length=true∧∀d∈es,S d
 agg: ∀ps,S (.agg ps)→∀d∈ps,S d
theorem Znz.none{H:Type}:Znz (H:=H) none fun _=>True:=⟨fun _ _=>rfl,fun _ _ _=>⟨rfl,fun _ _=>trivial⟩,fun _ _ _ _=>trivial⟩
def RdL(T:Tbl)(G:Gh)(xs:List V)(cs:List Value):Prop:=
 xs.length=cs.length∧∀(i:Nat) (x:V) (c:Value),xs[i]? =some x→cs[i]? =some c→R T G x c∧oc c=true
theorem RdL.one{T:Tbl}{G:Gh}{x:V}{c:Value}(h:R T G x c)(ho:oc c=true):RdL T G [x] [c]:=by
 refine⟨rfl,fun i y d e1 e2=> ?_⟩
 cases i with
 |zero=>simp at e1 e2;subst e1;subst e2;exact⟨h,ho⟩
 |succ i=>simp at e1
theorem RdL.sub{T:Tbl}{G:Gh}{xs:List V}{cs:List Value}(o n:Nat)(h:RdL T G xs cs):RdL T G ((xs.drop o).take n) ((cs.drop o).take n):=by
 refine⟨by simp[h.1],fun i x c e1 e2=> ?_⟩
 rw[List.getElem?_take,List.getElem?_drop]at e1 e2
 split at e1
 ·rename_i hi;rw[if_pos hi]at e2;exact h.2 _ _ _ e1 e2
 ·simp at e1
theorem Shp.len{P:Program}: ∀{n:Nat} {k:Nat} {t:TypeId} {xs:List V},Q5 P k t=true→Shp P n t xs→xs.length=P.cellsOf t
 |0,_,_,_,_,h=>h.elim
 |n+1,0,_,_,hk,_=>by simp[Q5]at hk
 |n+1,k+1,t,xs,hk,h=>by
  simp only[Q5]at hk
  simp only[Shp]at h
  split at h
  ·rename_i hu;simp only[hu]at hk;obtain⟨b,rfl⟩:=h;simp at hk;simp[hk]
  ·rename_i hu;simp only[hu]at hk;obtain⟨b,rfl,_⟩:=h;simp at hk;simp[hk]
  ·rename_i hu;simp only[hu]at hk;obtain⟨b,rfl,_⟩:=h;simp at hk;simp[hk]
  ·rename_i hu;simp only[hu,Bool.and_eq_true,beq_iff_eq]at hk
   rcases h with rfl|⟨es,rfl,_⟩<;>simp[hk.1.1]
  ·exact h.1
  ·exact h.1
  ·exact h.elim
theorem Zkc{P:Program}{n k:Nat}{t:TypeId}{xs:List V}(hk:Q5 P k t=true)(h:Shp P n t xs):(elV P t xs).cells=xs:=by
 cases n with
 |zero=>exact h.elim
 |succ n=>
  cases k with
  |zero=>simp[Q5]at hk
  |succ k=>
   simp only[Q5]at hk
   simp only[Shp]at h
   unfold elV
   split at h
   ·rename_i hu;simp only[hu];obtain⟨b,rfl⟩:=h;rfl
   ·rename_i hu;simp only[hu];obtain⟨b,rfl,_⟩:=h;rfl
   ·rename_i hu;simp only[hu];obtain⟨b,rfl,_⟩:=h;rfl
   ·rename_i hu;simp only[hu];rcases h with rfl|⟨es,rfl,_⟩<;>rfl
   ·rename_i hu;simp only[hu];rfl
   ·rename_i hu;simp only[hu];rfl
   ·exact h.elim
theorem Qq{α β:Type}{f:α→Option β}: ∀{l:List α} {r:List β},l.mapM f=some r→r.length=l.length∧∀(i:Nat) (x:α),l[i]? =some x→∃y,r[i]? =some y∧f x=some y
 |[],r,h=>by simp at h;subst h;simp
 |a::l,r,h=>by
  simp only[List.mapM_cons,Option.bind_eq_bind,Option.bind_eq_some_iff,Option.pure_def,Option.some.injEq]at h
  obtain⟨y,hy,ys,hys,rfl⟩:=h
  obtain⟨h1,h2⟩:=Qq hys
  refine⟨by simp[h1],fun i x hx=> ?_⟩
  cases i with
  |zero=>simp at hx;subst hx;exact⟨y,by simp,hy⟩
  |succ i=>simpa using h2 i x (by simpa using hx)
theorem VH{H:Type}{P:Program}{e:TypeId}: ∀{l:List (DataW H)} {p:Nat→Bool},(DataW.weightsAll P e l).all p=true→∀d∈l,(d.weights P e).all p=true
 |[],_,_,d,hd=>by simp at hd
 |a::l,p,h,d,hd=>by
  simp only[DataW.weightsAll,List.all_append,Bool.and_eq_true]at h
  simp only[List.mem_cons]at hd
  rcases hd with rfl|hd
  ·exact h.1
  ·exact VH h.2 d hd
theorem Xs{H:Type}{P:Program}: ∀{ts:List TypeId} {ds:List (DataW H)} {p:Nat→Bool},(DataW.weightsEach P ts ds).all p=true→∀(i:Nat) (t:TypeId) (d:DataW H),ts[i]? =some t→ds[i]? =some d→(d.weights P t).all p=true
 |[],ds,p,h,i,t,d,h1,h2=>by simp at h1
 |t0::ts,[],p,h,i,t,d,h1,h2=>by simp at h2
 |t0::ts,d0::ds,p,h,i,t,d,h1,h2=>by
  simp only[DataW.weightsEach,List.all_append,Bool.and_eq_true]at h
  cases i with
  |zero=>simp at h1 h2;subst h1;subst h2;exact h.1
  |succ i=>exact Xs h.2 i t d (by simpa using h1) (by simpa using h2)
theorem ZbR{w:World}{a:Addr}{n:Nat}{cs:List Value}(h:w.cells? 0 a n=some cs):cs.length=n∧∀(j:Nat) (c:Value),cs[j]? =some c→w.cell? (a.add j)=some c:=by
 simp only[World.cells?,Nat.zero_le,if_true]at h
 obtain⟨h1,h2⟩:=Qq h
 simp only[List.length_range]at h1
 refine⟨h1,fun j c hj=> ?_⟩
 have hlt:j<n:=by rw[←h1];exact(List.getElem?_eq_some_iff.1 hj).1
 obtain⟨y,hy1,hy2⟩:=h2 j j (by simp[hlt])
 rw[hj]at hy1;simp at hy1;subst hy1;exact hy2
theorem RdL.append{T:Tbl}{G:Gh}{a c:List V}{b d:List Value}(h:RdL T G a b)(k:RdL T G c d):RdL T G (a++c) (b++d):=by
 refine⟨by simp[h.1,k.1],fun i x v e1 e2=> ?_⟩
 rcases Nat.lt_or_ge i a.length with hl|hl
 ·rw[List.getElem?_append_left hl]at e1
  rw[List.getElem?_append_left (by rw[←h.1];exact hl)]at e2
  exact h.2 i x v e1 e2
 ·rw[List.getElem?_append_right hl]at e1
  rw[List.getElem?_append_right (by rw[←h.1];exact hl),←h.1]at e2
  exact k.2 _ x v e1 e2
theorem ZbG{n:Nat}: ∀{l:List (Nat ×Nat)} {o:Nat},Wk o n l=true→o≤n
 |[],o,h=>by simp[Wk]at h;omega
 |p::l,o,h=>by
  simp only[Wk,Bool.and_eq_true,beq_iff_eq]at h
  have:=ZbG h.2
  omega
theorem Zha{T:Tbl}{G:Gh}{cs:List Value}{B:Option Nat}: ∀{l:List (Nat ×Nat)} {o:Nat} {Q:Nat→List V→Prop},Wk o cs.length l=true→(∀i p,l[i]? =some p→∃ys,RdL T G ys ((cs.drop p.1).take p.2)∧Q i ys∧Ua B ys=true)→∃xs,RdL T G xs (cs.drop o)∧Ua B xs=true∧∀i p,l[i]? =some p→o≤p.1∧Q i ((xs.drop (p.1-o)).take p.2)
 |[],o,Q,hc,h=>by
  simp only[Wk,beq_iff_eq]at hc
  exact⟨[],by rw[List.drop_eq_nil_of_le (by omega)];exact⟨rfl,by simp⟩,rfl,by simp⟩
 |p::l,o,Q,hc,h=>by
  simp only[Wk,Bool.and_eq_true,beq_iff_eq]at hc
  obtain⟨rfl,hc⟩:=hc
  have hle:=ZbG hc
  obtain⟨ys,y1,y2,y3⟩:=h 0 p rfl
  obtain⟨xs,x1,x3,x2⟩:=Zha (B:=B) (Q:=fun i=>Q (i+1)) hc (fun i q hq=>h (i+1) q (by simpa using hq))
  have hlen:ys.length=p.2:=by rw[y1.1];simp;omega
  refine⟨ys++xs,?_,ZeG y3 x3,fun i q hq=> ?_⟩
  ·have:=y1.append x1
   rwa[←List.drop_drop,List.take_append_drop]at this
  ·cases i with
   |zero=>
    simp at hq;subst hq
    refine⟨Nat.le_refl _,?_⟩
    rw[Nat.sub_self,List.drop_zero,List.take_append_of_le_length (by omega),List.take_of_length_le (by omega)]
    exact y2
   |succ i=>
    obtain⟨q1,q2⟩:=x2 i q (by simpa using hq)
    refine⟨by omega,?_⟩
    rw[List.drop_append,List.drop_eq_nil_of_le (by omega),List.nil_append,show q.1-p.1-ys.length=q.1-(p.1+p.2)by omega]
    exact q2
theorem ZlC{H:Type}{enc:TypeId ×Value→H}{P:Program}{T:Tbl}{W:World}{spare:Nat→Bool}{B:Option Nat}{S:DataW H→Prop}(hB:Znz B S): ∀(fuel k:Nat) {t:TypeId} {cs:List Value} {d:DataW H} {ps:List MemPlace},
 Q5 P k t=true→DataW.trod enc P W 0 spare true fuel t cs=some (d,ps)→(d.weights P t).all (· ≤reachBytes)=true→S d→∃xs,RdL T (G0 W) xs cs∧Shp P fuel t xs∧Ua B xs=true:=by
 intro fuel
 induction fuel with
 |zero=>intro k t cs d ps hk h;simp[DataW.trod]at h
 |succ fuel ih=>
  intro k t cs d ps hk h hw hS
  cases k with
  |zero=>simp[Q5]at hk
  |succ k=>
  simp only[Q5]at hk
  unfold DataW.trod at h
  simp only[Shp]
  split at h
  ·rename_i b hu
   exact⟨[.bool b],.one (.bool b) rfl,by simp only[hu];exact⟨b,rfl⟩,rfl⟩
  ·rename_i kk kk' m hu
   split at h
   ·rename_i hc
    obtain⟨rfl,hc⟩:=hc
    simp only[Lit.wf,Bool.and_eq_true,decide_eq_true_eq]at hc
    exact⟨[.int kk' m],.one (.int _ _) rfl,by simp only[hu];exact⟨m,rfl,hc.1,hc.2⟩,rfl⟩
   ·simp at h
  ·rename_i hu;simp only[hu]at hk;simp at hk
  ·rename_i s hu
   split at h
   ·rename_i hs
    simp only[Option.some.injEq,Prod.mk.injEq]at h
    obtain⟨rfl,rfl⟩:=h
    simp only[DataW.weights,List.all_cons,List.all_nil,Bool.and_true,decide_eq_true_eq]at hw
    exact⟨[.str s.data.toList],.one (.str _ _ rfl) rfl,by simp only[hu];exact⟨_,rfl,hw⟩,by simp only[Ua,UN,hB.str _ hS,Bool.and_self]⟩
   ·simp at h
  ·rename_i hu;simp only[hu]at hk;simp at hk
  ·rename_i hu;simp only[hu]at hk;simp at hk
  ·rename_i e hu
   exact⟨[.sl (P.cellsOf e) [] .nl],.one (.sl _ [] .nl none 0 0 0 (fun _ _=>undef) (by simp) ⟨fun _=>rfl,fun _=>rfl,fun h=>by simp[ZaF]at h⟩ (by simp) (by simp) (by simp) (by simp) (by simp)) rfl,by simp only[hu];exact .inl trivial,by cases B<;>simp[Ua,UN,leO]⟩
  ·rename_i e a len cap hu
   simp only[hu,Bool.and_eq_true,beq_iff_eq,decide_eq_true_eq]at hk
   obtain⟨⟨hk1,hz⟩,hk2⟩:=hk
   split at h
   ·rename_i hc
    simp only[Option.bind_eq_some_iff,Option.map_eq_some_iff]at h
    obtain⟨elems,he,rest,hr,h⟩:=h
    simp only[Prod.mk.injEq]at h
    obtain⟨rfl,rfl⟩:=h
    obtain⟨l1,l2⟩:=Qq he
    simp only[List.length_range]at l1
    simp only[DataW.weights,hu,List.all_cons,List.all_append,Bool.and_eq_true,decide_eq_true_eq,List.length_map]at hw
    have hsl:=hB.slice _ _ hS
    rw[List.length_map,l1]at hsl
    have each: ∀i,∃ys,i<len→∃ci,W.cells? 0 (a.add (i*P.cellsOf e)) (P.cellsOf e)=some ci∧RdL T (G0 W) ys ci∧Shp P fuel e ys∧Ua B ys=true:=by
     intro i
     by_cases hi:i<len
     ·obtain⟨y,y1,y2⟩:=l2 i i (by simp[hi])
      simp only[Option.bind_eq_some_iff]at y2
      obtain⟨ci,c1,c2⟩:=y2
      have hwy:=VH hw.2.1 y.1 (List.mem_map.2 ⟨y,List.mem_of_getElem? y1,rfl⟩)
      obtain⟨ys,r1,r2,r3⟩:=ih k hk2 (show DataW.trod enc P W 0 spare true fuel e ci=some (y.1,y.2)from c2) hwy (hsl.2 y.1 (List.mem_map.2 ⟨y,List.mem_of_getElem? y1,rfl⟩))
      exact⟨ys,fun _=>⟨ci,c1,r1,r2,r3⟩⟩
     ·exact⟨[],fun h=>absurd h hi⟩
    obtain⟨ys,hys⟩:=Classical.axiomOfChoice each
    have hspot:0<len→a.spot=none:=by
     intro h0
     obtain⟨ci,c1,c2,c3,_⟩:=hys 0 h0
     obtain⟨g1,g2⟩:=ZbR c1
     have hl:=c3.len hk2
     have hcj:ci[0]? =some (ci[0]'(by rw[←c2.1];omega)):=by simp
     have hc':=g2 0 _ hcj
     simp only[Nat.zero_mul,Addr.add,if_true]at hc'
     unfold World.cell? at hc'
     split at hc'
     ·split at hc'
      ·simp at hc'
      ·rename_i hn;cases hs:a.spot with
       |none=>rfl
       |some _=>rw[hs]at hn;simp at hn
     ·simp at hc'
    have hadd: ∀(n j:Nat),a.spot=none→(a.add n).add j=⟨a.block,a.off+n+j,none⟩:=by
     intro n j hn
     cases a
     simp at hn;subst hn
     unfold Addr.add
     split<;>split<;>simp_all
    have hcell: ∀i,i<len→∀j x,(ys i)[j]? =some x→∃c,W.cell? ⟨a.block,a.off+i*P.cellsOf e+j,none⟩=some c∧R T (G0 W) x c∧oc c=true:=by
     intro i hi j x hx
     obtain⟨ci,c1,c2,c3,_⟩:=hys i hi
     obtain⟨g1,g2⟩:=ZbR c1
     have hj:j<ci.length:=by rw[←c2.1];exact(List.getElem?_eq_some_iff.1 hx).1
     have hcj:ci[j]? =some ci[j]:=by simp[hj]
     obtain⟨q1,q2⟩:=c2.2 j x _ hx hcj
     have:=g2 j _ hcj
     rw[hadd _ _ (hspot (by omega))]at this
     exact⟨_,this,q1,q2⟩
    have hes: ∀(i:Nat) (x:V),((List.range len).map fun i=>elV P e (ys i))[i]? =some x→i<len∧x=elV P e (ys i):=by
     intro i x hx
     rw[List.getElem?_map]at hx
     by_cases hi:i<len
     ·rw[List.getElem?_range hi]at hx;simp at hx;exact⟨hi,hx.symm⟩
     ·rw[List.getElem?_eq_none (by simp;omega)]at hx;simp at hx
    have hcs: ∀i,i<len→(elV P e (ys i)).cells=ys i:=fun i hi=>by obtain⟨ci,_,_,c3,_⟩:=hys i hi;exact Zkc hk2 c3
    have hR:R T (G0 W) (.sl (P.cellsOf e) ((List.range len).map fun i=>elV P e (ys i)) .perm) (.slice (some a) len cap):=by
     have:=R.sl (T:=T) (G:=G0 W) (P.cellsOf e) ((List.range len).map fun i=>elV P e (ys i)) .perm (some a) cap a.block a.off (fun i j=>(W.cell? ⟨a.block,a.off+i*P.cellsOf e+j,none⟩).getD undef) (by simp;omega) (.plain rfl (by simp) rfl _ _ _)
      (fun hne=>by
        have h0:0<len:=by cases len with|zero=>simp at hne|succ n=>omega
        have:=hspot h0
        cases a;simp at this;subst this;rfl)
      (fun i x hx=>by obtain⟨hi,rfl⟩:=hes i x hx;rw[hcs i hi];obtain⟨ci,_,_,c3,_⟩:=hys i hi;exact c3.len hk2)
      (fun i x j c hx hj=>by
        obtain⟨hi,rfl⟩:=hes i x hx;rw[hcs i hi]at hj
        obtain⟨v,v1,v2,v3⟩:=hcell i hi j c hj
        show W.cell? _=some _
        rw[v1];rfl)
      (fun i x j c hx hj=>by
        obtain⟨hi,rfl⟩:=hes i x hx;rw[hcs i hi]at hj
        obtain⟨v,v1,v2,v3⟩:=hcell i hi j c hj
        rw[v1];exact v2)
      (fun i x j c hx hj=>by
        obtain⟨hi,rfl⟩:=hes i x hx;rw[hcs i hi]at hj
        obtain⟨v,v1,v2,v3⟩:=hcell i hi j c hj
        rw[v1];exact v3)
     simpa using this
    refine⟨[.sl (P.cellsOf e) ((List.range len).map fun i=>elV P e (ys i)) .perm],.one hR rfl,?_,?_⟩
    rotate_left
    ·simp only[Ua,UN,List.length_map,List.length_range,hsl.1,Bool.true_and,Bool.and_true]
     rw[JM];intro v hv
     obtain⟨i,hi,rfl⟩:=List.mem_map.1 hv
     obtain⟨_,_,_,_,c4⟩:=hys i (by simpa using hi)
     exact ZiW c4
    simp only[hu]
    refine .inr ⟨_,rfl,?_,fun x hx=> ?_⟩
    ·simp only[List.length_map,List.length_range]
     refine Nat.le_trans (Nat.mul_le_mul_right _ ?_) hw.1
     omega
    ·obtain⟨i,hi,rfl⟩:=List.mem_map.1 hx
     obtain⟨ci,_,_,c3,_⟩:=hys i (by simpa using hi)
     exact⟨_,rfl,c3⟩
   ·simp at h
  ·rename_i cs' _ _ fs hu
   simp only[hu,Bool.and_eq_true,List.all_eq_true]at hk
   split at h
   ·rename_i hcl
    simp only[Option.map_eq_some_iff]at h
    obtain⟨parts,hp,h⟩:=h
    simp only[Prod.mk.injEq]at h
    obtain⟨rfl,rfl⟩:=h
    obtain⟨l1,l2⟩:=Qq hp
    simp only[DataW.weights,hu]at hw
    have hcg:=hk.2
    rw[←hcl]at hcg
    have hsg:=hB.agg _ hS
    obtain⟨xs,x1,x3,x2⟩:=Zha (T:=T) (G:=G0 W) (B:=B) (Q:=fun i ys=> ∀f,fs.toList[i]? =some f→Shp P fuel f.type ys) hcg (fun i p hp=>by
     rw[List.getElem?_map,Option.map_eq_some_iff]at hp
     obtain⟨f,hf,rfl⟩:=hp
     obtain⟨y,y1,y2⟩:=l2 i f hf
     have hwy:=Xs hw i f.type y.1 (by rw[List.getElem?_map,hf];rfl) (by rw[List.getElem?_map,y1];rfl)
     obtain⟨ys,r1,r2,r3⟩:=ih k (hk.1 f (List.mem_of_getElem? hf)) (show DataW.trod enc P W 0 spare true fuel f.type _=some (y.1,y.2)from y2) hwy (hsg y.1 (List.mem_map.2 ⟨y,List.mem_of_getElem? y1,rfl⟩))
     exact⟨ys,r1,fun f' hf'=>by rw[hf]at hf';simp at hf';subst hf';exact r2,r3⟩)
    refine⟨xs,by simpa using x1,?_,x3⟩
    simp only[hu]
    refine⟨by rw[x1.1];simpa using hcl,fun f hf=> ?_⟩
    obtain⟨i,hi⟩:=List.mem_iff_getElem?.1 hf
    exact(x2 i (f.offset,P.cellsOf f.type) (by rw[List.getElem?_map,hi];rfl)).2 f hi
   ·simp at h
  ·rename_i cs' _ _ m e hu
   simp only[hu,Bool.and_eq_true,decide_eq_true_eq]at hk
   split at h
   ·rename_i hcl
    simp only[Option.map_eq_some_iff]at h
    obtain⟨parts,hp,h⟩:=h
    simp only[Prod.mk.injEq]at h
    obtain⟨rfl,rfl⟩:=h
    obtain⟨l1,l2⟩:=Qq hp
    simp only[DataW.weights,hu]at hw
    have hcg: ∀(n o:Nat),o+n=m→Wk (o*P.cellsOf e) cs'.length ((List.range' o n).map fun i=>(i*P.cellsOf e,P.cellsOf e))=true:=by
     intro n
     induction n with
     |zero=>
      intro o ho
      have:o=m:=by omega
      subst this
      simp[Wk,hcl,←hk.2]
     |succ n ihn=>
      intro o ho
      simp only[List.range'_succ,List.map_cons,Wk,beq_self_eq_true,Bool.true_and]
      rw[←Nat.succ_mul]
      exact ihn (o+1) (by omega)
    have h0:=hcg m 0 (by omega)
    rw[←List.range_eq_range',Nat.zero_mul]at h0
    have hsg:=hB.agg _ hS
    obtain⟨xs,x1,x3,x2⟩:=Zha (T:=T) (G:=G0 W) (B:=B) (Q:=fun i ys=>Shp P fuel e ys) h0 (fun i p hp=>by
     rw[List.getElem?_map,Option.map_eq_some_iff]at hp
     obtain⟨j,hj,rfl⟩:=hp
     have hjm:j<m∧i=j:=by
      by_cases hi:i<m
      ·rw[List.getElem?_range hi]at hj;simp at hj;omega
      ·rw[List.getElem?_eq_none (by simp;omega)]at hj;simp at hj
     obtain⟨y,y1,y2⟩:=l2 i j hj
     have hwy:=VH hw y.1 (List.mem_map.2 ⟨y,List.mem_of_getElem? y1,rfl⟩)
     obtain⟨ys,r1,r2,r3⟩:=ih k hk.1 (show DataW.trod enc P W 0 spare true fuel e _=some (y.1,y.2)from y2) hwy (hsg y.1 (List.mem_map.2 ⟨y,List.mem_of_getElem? y1,rfl⟩))
     exact⟨ys,r1,r2,r3⟩)
    refine⟨xs,by simpa using x1,?_,x3⟩
    simp only[hu]
    refine⟨by rw[x1.1];simpa using hcl,fun i hi=> ?_⟩
    exact(x2 i (i*P.cellsOf e,P.cellsOf e) (by rw[List.getElem?_map,List.getElem?_range hi];rfl)).2
   ·simp at h
  all_goals first|(simp at h;done)|(rename_i hu;simp only[hu]at hk;simp at hk;done)|(rename_i hu _;simp only[hu]at hk;simp at hk;done)
end Go.VE
namespace Go.VE
open Go.RowKit
theorem RdL.agg{T:Tbl}{G:Gh}{xs:List V}{cs:Array Value}(h:RdL T G xs cs.toList):R T G (.agg xs) (.agg cs):=
 .agg xs cs (by rw[h.1];simp) (fun i v rv e1 e2=>(h.2 i v rv e1 (by simpa using e2)).1) (fun i rv e=>by
  have hlt:i<xs.length:=by rw[h.1];simp;exact(Array.getElem?_eq_some_iff.1 e).1
  exact(h.2 i xs[i] rv (by simp[hlt]) (by simpa using e)).2)
theorem Zg5{H:Type}{B:Option Nat}{S:DataW H→Prop}(hB:Znz B S){enc:TypeId ×Value→H}{P:Program}{T:Tbl}{W:World}{spare:Nat→Bool}{k:Nat}{base:Nat}{t:TypeId}{v:Value}{d:DataW H}{p:List MemPlace}
 (hk:Q5 P k t=true) (hv:Value.okWide P W .any base t v) (ht:DataW.Trod enc P W 0 spare true t v d p) (hw:(d.weights P t).all (· ≤reachBytes)=true) (hS:S d): ∃n xs,R T (G0 W) (elV P t xs) v∧Shp P n t xs∧UN B (elV P t xs)=true:=by
 obtain⟨fuel,hd⟩:=ht
 obtain⟨xs,h1,h2,h3⟩:=ZlC (T:=T) hB fuel k hk hd hw hS
 refine⟨fuel,xs,?_,h2,ZiW h3⟩
 have one:(∀cs,v≠.agg cs)→(∀x,xs=[x]→elV P t xs=x)→R T (G0 W) (elV P t xs) v:=by
  intro hn hx
  have hc:v.cells= #[v]:=by cases v<;>first|rfl|exact absurd rfl (hn _)
  rw[hc]at h1
  have hl:xs.length=1:=by rw[h1.1];rfl
  obtain⟨x,rfl⟩: ∃x,xs=[x]:=by
   match xs,hl with
   |[x],_=>exact⟨x,rfl⟩
  rw[hx x rfl]
  exact(h1.2 0 x v rfl rfl).1
 cases k with
 |zero=>simp[Q5]at hk
 |succ k=>
  simp only[Q5]at hk
  unfold Value.okWide at hv
  cases hu:P.underlying t with
  |none=>rw[hu]at hk;simp at hk
  |some ty=>
   rw[hu]at hk hv
   cases ty<;>simp at hk<;>simp only at hv
   case struct fs=>
    obtain⟨cs,rfl,_⟩:=hv
    simp only[elV,hu];exact h1.agg
   case array m e=>
    obtain⟨cs,rfl,_⟩:=hv
    simp only[elV,hu];exact h1.agg
   all_goals
    refine one (fun cs hc=> ?_) (fun x hx=>by simp only[elV,hu,hx];rfl)
    subst hc
    simp[Cell.okWide,Cell.ok,hu]at hv
end Go.VE
namespace Go.VE
structure I64 where
 n:Int
 lo: -9223372036854775808≤n
 hi:n≤9223372036854775807
structure U64 where
 n:Int
 lo:0≤n
 hi:n≤18446744073709551615
structure U8 where
 n:Int
 lo:0≤n
 hi:n≤255
structure GS where
 s:List UInt8
 le:s.length≤140737488355328
structure GL (α:Type) where
 l:List α
 t:Tag
 le:l.length≤140737488355328
theorem I64.ext{x y:I64}(h:x.n=y.n):x=y:=by cases x;cases y;simp_all
theorem U64.ext{x y:U64}(h:x.n=y.n):x=y:=by cases x;cases y;simp_all
theorem U8.ext{x y:U8}(h:x.n=y.n):x=y:=by cases x;cases y;simp_all
theorem GS.ext{x y:GS}(h:x.s=y.s):x=y:=by cases x;cases y;simp_all
def I64.v(x:I64):V:=.int .i64 x.n
def U64.v(x:U64):V:=.int .u64 x.n
def U8.v(x:U8):V:=.int .u8 x.n
def GS.v(x:GS):V:=.str x.s
def GL.v{α:Type}(z:Nat)(f:α→V)(x:GL α):V:=.sl z (x.l.map f) x.t
@[simp] theorem I64.v_eq(x:I64):I64.v x=.int .i64 x.n:=rfl
@[simp] theorem U64.v_eq(x:U64):U64.v x=.int .u64 x.n:=rfl
@[simp] theorem U8.v_eq(x:U8):U8.v x=.int .u8 x.n:=rfl
@[simp] theorem GS.v_eq(x:GS):GS.v x=.str x.s:=rfl
theorem GL.v_eq{α:Type}(z:Nat)(f:α→V)(x:GL α):GL.v z f x=.sl z (x.l.map f) x.t:=rfl
@[simp] theorem Yq{α:Type}{k:Nat}{f:α→V}(h: ∀x,Zk k (f x)=true): ∀l:List α,Zo k (l.map f)=true
  |[]=>rfl
  |x::l=>by simp[h,Yq h l]
@[simp] theorem GL.below{α:Type}{z k:Nat}{f:α→V}(h: ∀x,Zk k (f x)=true)(x:GL α):Zk k (GL.v z f x)=true:=by
  simp[GL.v,Yq h]
theorem YR{α:Type}{f:α→V}(l:List α):Zv (l.map f)=l.all fun x=>Ze (f x):=by
 induction l with
 |nil=>rfl
 |cons x l ih=>simp[ih]
def Tag.cl:Tag→Bool
 |.brw=>false
 |_=>true
theorem GL.closed{α:Type}{z:Nat}{f:α→V}(x:GL α):Ze (GL.v z f x)=(x.t.cl&&x.l.all fun x=>Ze (f x)):=by
 simp[GL.v,Ze,YR,Tag.cl]
 cases x.t<;>rfl
theorem Zy{cs:List V}{n:Nat}(hl:cs.length=n){x:V}(hx:(match x with|.agg c=>c.length==n|_=>false)=true):stc (.agg cs) n 0 x=some x:=by
 cases x<;>simp at hx
 rename_i c
 subst hx
 simp[stc,V.cells,okV,hl]
theorem ZK{n:Int}(h1: -9223372036854775808≤n)(h2:n≤9223372036854775807):IntKind.i64.wrap n=n:=by
 simp only[IntKind.wrap,IntKind.bits,IntKind.signed]
 have:(2:Int)^64=18446744073709551616:=by decide
 have:(2:Int)^63=9223372036854775808:=by decide
 simp_all
 split<;>omega
theorem w64{n:Int}(h: -9223372036854775808≤n∧n≤9223372036854775807):IntKind.i64.wrap n=n:=ZK h.1 h.2
theorem Zb8{n:Int}(h1:0≤n)(h2:n≤18446744073709551615):IntKind.u64.wrap n=n:=by
 simp only[IntKind.wrap,IntKind.bits,IntKind.signed]
 have:(2:Int)^64=18446744073709551616:=by decide
 simp_all
 omega
@[simp] theorem ZxE(x:I64):IntKind.i64.wrap x.n=x.n:=ZK x.lo x.hi
@[simp] theorem ZwJ(x:U64):IntKind.u64.wrap x.n=x.n:=Zb8 x.lo x.hi
@[simp] theorem GL.len{α:Type}(z:Nat)(f:α→VE.V)(x:GL α):Zbd false (GL.v z f x)=some (.int .i64 x.l.length):=by simp[GL.v]
@[simp] theorem GL.iaddr{α:Type}(z:Nat)(f:α→VE.V)(x:GL α)(k:IntKind)(i:Int):Yb z (GL.v z f x) (.int k i)=(Zh x.l i).map fun e=>.eptr (f e) 0 x.t:=by simp[GL.v]
@[simp] theorem GL.o1{α:Type}(z:Nat)(f:α→VE.V)(x:GL α):Vv (GL.v z f x)=true:=nr rfl
@[simp] theorem GL.okv{α:Type}(z:Nat)(f:α→VE.V)(x:GL α):okV (GL.v z f x)=true:=nr rfl
@[simp] theorem GL.ldc{α:Type}(z:Nat)(f:α→VE.V)(x:GL α)(n:Nat):ldc (GL.v z f x) false n 0=some (GL.v z f x):=rfl
theorem Zp{α:Type}{l:List α}{k:Int}{x:α}{r:List α}(hk:0≤k)(h:l.drop k.toNat=x::r):Zh l k=some x∧k<l.length∧l.drop (k+1).toNat=r:=by
 have hl:k.toNat<l.length:=by
  rcases Nat.lt_or_ge k.toNat l.length with h1|h1
  ·exact h1
  ·rw[List.drop_eq_nil_of_le h1]at h;simp at h
 have h0:l.drop k.toNat=l[k.toNat]::l.drop (k.toNat+1):=(List.drop_eq_getElem_cons hl)
 rw[h0]at h
 simp only[List.cons.injEq]at h
 refine⟨?_,by omega,?_⟩
 ·simp[Zh,hk,hl,h.1]
 ·rw[show(k+1).toNat=k.toNat+1 by omega];exact h.2
theorem Zq{α:Type}{l:List α}{k:Int}(hk:0≤k)(h:l.drop k.toNat=[]):(l.length:Int)≤k:=by
 simp only[List.drop_eq_nil_iff]at h;omega
end Go.VE
namespace Go.VE
structure Vec where
 W:I64
 Hi:U64
 Lo:U64
def Vec.cs(x:Vec):List VE.V:=[.int .i64 x.W.n,.int .u64 x.Hi.n,.int .u64 x.Lo.n]
def Vec.v(x:Vec):VE.V:=.agg x.cs
theorem Vec.v_eq(x:Vec):Vec.v x=.agg [.int .i64 x.W.n,.int .u64 x.Hi.n,.int .u64 x.Lo.n]:=rfl
@[simp] theorem Vec.ld0(x:Vec):ldc (Vec.v x) false 1 0=some (.int .i64 x.W.n):=rfl
@[simp] theorem Vec.ld1(x:Vec):ldc (Vec.v x) false 1 1=some (.int .u64 x.Hi.n):=rfl
@[simp] theorem Vec.ld2(x:Vec):ldc (Vec.v x) false 1 2=some (.int .u64 x.Lo.n):=rfl
@[simp] theorem Vec.ldw(x:Vec):ldc (Vec.v x) true 3 0=some (Vec.v x):=rfl
@[simp] theorem Vec.clen(x:Vec):(Vec.v x).cells.length=3:=nr rfl
@[simp] theorem Vec.ok(x:Vec):okV (Vec.v x)=true:=nr rfl
@[simp] theorem Vec.below(k:Nat)(x:Vec):Zk k (Vec.v x)=true:=by simp[Vec.v,Vec.cs,Zk,Zo]
@[simp] theorem Vec.closed(x:Vec):Ze (Vec.v x)=true:=by simp[Vec.v,Vec.cs,Ze,Zv]
@[simp] theorem Vec.stw{cs:List VE.V}(hl:cs.length=3)(x:Vec):stc (.agg cs) 3 0 (Vec.v x)=some (Vec.v x):=Zy hl rfl
@[simp] theorem Vec.stv(y x:Vec):stc (Vec.v y) 3 0 (Vec.v x)=some (Vec.v x):=Zy rfl rfl
structure Field where
 Name:GS
 W:I64
def Field.cs(x:Field):List VE.V:=[.str x.Name.s,.int .i64 x.W.n]
def Field.v(x:Field):VE.V:=.agg x.cs
theorem Field.v_eq(x:Field):Field.v x=.agg [.str x.Name.s,.int .i64 x.W.n]:=rfl
@[simp] theorem Field.ld0(x:Field):ldc (Field.v x) false 1 0=some (.str x.Name.s):=rfl
@[simp] theorem Field.ld1(x:Field):ldc (Field.v x) false 1 1=some (.int .i64 x.W.n):=rfl
@[simp] theorem Field.ldw(x:Field):ldc (Field.v x) true 2 0=some (Field.v x):=rfl
@[simp] theorem Field.clen(x:Field):(Field.v x).cells.length=2:=nr rfl
@[simp] theorem Field.ok(x:Field):okV (Field.v x)=true:=nr rfl
@[simp] theorem Field.below(k:Nat)(x:Field):Zk k (Field.v x)=true:=by simp[Field.v,Field.cs,Zk,Zo]
@[simp] theorem Field.closed(x:Field):Ze (Field.v x)=true:=by simp[Field.v,Field.cs,Ze,Zv]
@[simp] theorem Field.stw{cs:List VE.V}(hl:cs.length=2)(x:Field):stc (.agg cs) 2 0 (Field.v x)=some (Field.v x):=Zy hl rfl
@[simp] theorem Field.stv(y x:Field):stc (Field.v y) 2 0 (Field.v x)=some (Field.v x):=Zy rfl rfl
structure Header where
 Name:GS
 Fields:GL Field
 Var:I64
 By:I64
 Mul:I64
 Sub:I64
def Header.cs(x:Header):List VE.V:=[.str x.Name.s,GL.v 2 Field.v x.Fields,.int .i64 x.Var.n,.int .i64 x.By.n,.int .i64 x.Mul.n,.int .i64 x.Sub.n]
def Header.v(x:Header):VE.V:=.agg x.cs
theorem Header.v_eq(x:Header):Header.v x=.agg [.str x.Name.s,GL.v 2 Field.v x.Fields,.int .i64 x.Var.n,.int .i64 x.By.n,.int .i64 x.Mul.n,.int .i64 x.Sub.n]:=rfl
@[simp] theorem Header.ld0(x:Header):ldc (Header.v x) false 1 0=some (.str x.Name.s):=rfl
@[simp] theorem Header.ld1(x:Header):ldc (Header.v x) false 1 1=some (GL.v 2 Field.v x.Fields):=rfl
@[simp] theorem Header.ld2(x:Header):ldc (Header.v x) false 1 2=some (.int .i64 x.Var.n):=rfl
@[simp] theorem Header.ld3(x:Header):ldc (Header.v x) false 1 3=some (.int .i64 x.By.n):=rfl
@[simp] theorem Header.ld4(x:Header):ldc (Header.v x) false 1 4=some (.int .i64 x.Mul.n):=rfl
@[simp] theorem Header.ld5(x:Header):ldc (Header.v x) false 1 5=some (.int .i64 x.Sub.n):=rfl
@[simp] theorem Header.ldw(x:Header):ldc (Header.v x) true 6 0=some (Header.v x):=rfl
@[simp] theorem Header.clen(x:Header):(Header.v x).cells.length=6:=nr rfl
@[simp] theorem Header.ok(x:Header):okV (Header.v x)=true:=nr rfl
@[simp] theorem Header.below(k:Nat)(x:Header):Zk k (Header.v x)=true:=by simp[Header.v,Header.cs,Zk,Zo]
@[simp] theorem Header.closed(x:Header):Ze (Header.v x)=(Ze (GL.v 2 Field.v x.Fields)):=by simp[Header.v,Header.cs,Ze,Zv]
@[simp] theorem Header.stw{cs:List VE.V}(hl:cs.length=6)(x:Header):stc (.agg cs) 6 0 (Header.v x)=some (Header.v x):=Zy hl rfl
@[simp] theorem Header.stv(y x:Header):stc (Header.v y) 6 0 (Header.v x)=some (Header.v x):=Zy rfl rfl
structure ZE where
 Name:GS
 Header:I64
 Depth:I64
def ZE.cs(x:ZE):List VE.V:=[.str x.Name.s,.int .i64 x.Header.n,.int .i64 x.Depth.n]
def ZE.v(x:ZE):VE.V:=.agg x.cs
theorem ZE.v_eq(x:ZE):ZE.v x=.agg [.str x.Name.s,.int .i64 x.Header.n,.int .i64 x.Depth.n]:=rfl
@[simp] theorem ZE.ld0(x:ZE):ldc (ZE.v x) false 1 0=some (.str x.Name.s):=rfl
@[simp] theorem ZE.ld1(x:ZE):ldc (ZE.v x) false 1 1=some (.int .i64 x.Header.n):=rfl
@[simp] theorem ZE.ld2(x:ZE):ldc (ZE.v x) false 1 2=some (.int .i64 x.Depth.n):=rfl
@[simp] theorem ZE.ldw(x:ZE):ldc (ZE.v x) true 3 0=some (ZE.v x):=rfl
@[simp] theorem ZE.clen(x:ZE):(ZE.v x).cells.length=3:=nr rfl
@[simp] theorem ZE.ok(x:ZE):okV (ZE.v x)=true:=nr rfl
@[simp] theorem ZE.below(k:Nat)(x:ZE):Zk k (ZE.v x)=true:=by simp[ZE.v,ZE.cs,Zk,Zo]
@[simp] theorem ZE.closed(x:ZE):Ze (ZE.v x)=true:=by simp[ZE.v,ZE.cs,Ze,Zv]
@[simp] theorem ZE.stw{cs:List VE.V}(hl:cs.length=3)(x:ZE):stc (.agg cs) 3 0 (ZE.v x)=some (ZE.v x):=Zy hl rfl
@[simp] theorem ZE.stv(y x:ZE):stc (ZE.v y) 3 0 (ZE.v x)=some (ZE.v x):=Zy rfl rfl
structure Ins where
 Op:I64
 A:I64
 B:I64
 V:Vec
def Ins.cs(x:Ins):List VE.V:=[.int .i64 x.Op.n,.int .i64 x.A.n,.int .i64 x.B.n,.int .i64 x.V.W.n,.int .u64 x.V.Hi.n,.int .u64 x.V.Lo.n]
def Ins.v(x:Ins):VE.V:=.agg x.cs
theorem Ins.v_eq(x:Ins):Ins.v x=.agg [.int .i64 x.Op.n,.int .i64 x.A.n,.int .i64 x.B.n,.int .i64 x.V.W.n,.int .u64 x.V.Hi.n,.int .u64 x.V.Lo.n]:=rfl
@[simp] theorem Ins.ld0(x:Ins):ldc (Ins.v x) false 1 0=some (.int .i64 x.Op.n):=rfl
@[simp] theorem Ins.ld1(x:Ins):ldc (Ins.v x) false 1 1=some (.int .i64 x.A.n):=rfl
@[simp] theorem Ins.ld2(x:Ins):ldc (Ins.v x) false 1 2=some (.int .i64 x.B.n):=rfl
@[simp] theorem Ins.ld3(x:Ins):ldc (Ins.v x) true 3 3=some (Vec.v x.V):=rfl
@[simp] theorem Ins.ld4(x:Ins):ldc (Ins.v x) false 1 3=some (.int .i64 x.V.W.n):=rfl
@[simp] theorem Ins.ld5(x:Ins):ldc (Ins.v x) false 1 4=some (.int .u64 x.V.Hi.n):=rfl
@[simp] theorem Ins.ld6(x:Ins):ldc (Ins.v x) false 1 5=some (.int .u64 x.V.Lo.n):=rfl
@[simp] theorem Ins.ldw(x:Ins):ldc (Ins.v x) true 6 0=some (Ins.v x):=rfl
@[simp] theorem Ins.clen(x:Ins):(Ins.v x).cells.length=6:=nr rfl
@[simp] theorem Ins.ok(x:Ins):okV (Ins.v x)=true:=nr rfl
@[simp] theorem Ins.below(k:Nat)(x:Ins):Zk k (Ins.v x)=true:=by simp[Ins.v,Ins.cs,Zk,Zo]
@[simp] theorem Ins.closed(x:Ins):Ze (Ins.v x)=true:=by simp[Ins.v,Ins.cs,Ze,Zv]
@[simp] theorem Ins.stw{cs:List VE.V}(hl:cs.length=6)(x:Ins):stc (.agg cs) 6 0 (Ins.v x)=some (Ins.v x):=Zy hl rfl
@[simp] theorem Ins.stv(y x:Ins):stc (Ins.v y) 6 0 (Ins.v x)=some (Ins.v x):=Zy rfl rfl
structure Action where
 Name:GS
 Params:GL I64
 Code:GL Ins
def Action.cs(x:Action):List VE.V:=[.str x.Name.s,GL.v 1 I64.v x.Params,GL.v 6 Ins.v x.Code]
def Action.v(x:Action):VE.V:=.agg x.cs
theorem Action.v_eq(x:Action):Action.v x=.agg [.str x.Name.s,GL.v 1 I64.v x.Params,GL.v 6 Ins.v x.Code]:=rfl
@[simp] theorem Action.ld0(x:Action):ldc (Action.v x) false 1 0=some (.str x.Name.s):=rfl
@[simp] theorem Action.ld1(x:Action):ldc (Action.v x) false 1 1=some (GL.v 1 I64.v x.Params):=rfl
@[simp] theorem Action.ld2(x:Action):ldc (Action.v x) false 1 2=some (GL.v 6 Ins.v x.Code):=rfl
@[simp] theorem Action.ldw(x:Action):ldc (Action.v x) true 3 0=some (Action.v x):=rfl
@[simp] theorem Action.clen(x:Action):(Action.v x).cells.length=3:=nr rfl
@[simp] theorem Action.ok(x:Action):okV (Action.v x)=true:=nr rfl
@[simp] theorem Action.below(k:Nat)(x:Action):Zk k (Action.v x)=true:=by simp[Action.v,Action.cs,Zk,Zo]
@[simp] theorem Action.closed(x:Action):Ze (Action.v x)=(Ze (GL.v 1 I64.v x.Params)&&Ze (GL.v 6 Ins.v x.Code)):=by simp[Action.v,Action.cs,Ze,Zv]
@[simp] theorem Action.stw{cs:List VE.V}(hl:cs.length=3)(x:Action):stc (.agg cs) 3 0 (Action.v x)=some (Action.v x):=Zy hl rfl
@[simp] theorem Action.stv(y x:Action):stc (Action.v y) 3 0 (Action.v x)=some (Action.v x):=Zy rfl rfl
structure Call where
 Action:I64
 Args:GL Vec
def Call.cs(x:Call):List VE.V:=[.int .i64 x.Action.n,GL.v 3 Vec.v x.Args]
def Call.v(x:Call):VE.V:=.agg x.cs
theorem Call.v_eq(x:Call):Call.v x=.agg [.int .i64 x.Action.n,GL.v 3 Vec.v x.Args]:=rfl
@[simp] theorem Call.ld0(x:Call):ldc (Call.v x) false 1 0=some (.int .i64 x.Action.n):=rfl
@[simp] theorem Call.ld1(x:Call):ldc (Call.v x) false 1 1=some (GL.v 3 Vec.v x.Args):=rfl
@[simp] theorem Call.ldw(x:Call):ldc (Call.v x) true 2 0=some (Call.v x):=rfl
@[simp] theorem Call.clen(x:Call):(Call.v x).cells.length=2:=nr rfl
@[simp] theorem Call.ok(x:Call):okV (Call.v x)=true:=nr rfl
@[simp] theorem Call.below(k:Nat)(x:Call):Zk k (Call.v x)=true:=by simp[Call.v,Call.cs,Zk,Zo]
@[simp] theorem Call.closed(x:Call):Ze (Call.v x)=(Ze (GL.v 3 Vec.v x.Args)):=by simp[Call.v,Call.cs,Ze,Zv]
@[simp] theorem Call.stw{cs:List VE.V}(hl:cs.length=2)(x:Call):stc (.agg cs) 2 0 (Call.v x)=some (Call.v x):=Zy hl rfl
@[simp] theorem Call.stv(y x:Call):stc (Call.v y) 2 0 (Call.v x)=some (Call.v x):=Zy rfl rfl
structure Key where
 Kind:I64
 A:I64
 B:I64
def Key.cs(x:Key):List VE.V:=[.int .i64 x.Kind.n,.int .i64 x.A.n,.int .i64 x.B.n]
def Key.v(x:Key):VE.V:=.agg x.cs
theorem Key.v_eq(x:Key):Key.v x=.agg [.int .i64 x.Kind.n,.int .i64 x.A.n,.int .i64 x.B.n]:=rfl
@[simp] theorem Key.ld0(x:Key):ldc (Key.v x) false 1 0=some (.int .i64 x.Kind.n):=rfl
@[simp] theorem Key.ld1(x:Key):ldc (Key.v x) false 1 1=some (.int .i64 x.A.n):=rfl
@[simp] theorem Key.ld2(x:Key):ldc (Key.v x) false 1 2=some (.int .i64 x.B.n):=rfl
@[simp] theorem Key.ldw(x:Key):ldc (Key.v x) true 3 0=some (Key.v x):=rfl
@[simp] theorem Key.clen(x:Key):(Key.v x).cells.length=3:=nr rfl
@[simp] theorem Key.ok(x:Key):okV (Key.v x)=true:=nr rfl
@[simp] theorem Key.below(k:Nat)(x:Key):Zk k (Key.v x)=true:=by simp[Key.v,Key.cs,Zk,Zo]
@[simp] theorem Key.closed(x:Key):Ze (Key.v x)=true:=by simp[Key.v,Key.cs,Ze,Zv]
@[simp] theorem Key.stw{cs:List VE.V}(hl:cs.length=3)(x:Key):stc (.agg cs) 3 0 (Key.v x)=some (Key.v x):=Zy hl rfl
@[simp] theorem Key.stv(y x:Key):stc (Key.v y) 3 0 (Key.v x)=some (Key.v x):=Zy rfl rfl
structure Z7 where
 Value:Vec
 Mask:Vec
 Next:I64
def Z7.cs(x:Z7):List VE.V:=[.int .i64 x.Value.W.n,.int .u64 x.Value.Hi.n,.int .u64 x.Value.Lo.n,.int .i64 x.Mask.W.n,.int .u64 x.Mask.Hi.n,.int .u64 x.Mask.Lo.n,.int .i64 x.Next.n]
def Z7.v(x:Z7):VE.V:=.agg x.cs
theorem Z7.v_eq(x:Z7):Z7.v x=.agg [.int .i64 x.Value.W.n,.int .u64 x.Value.Hi.n,.int .u64 x.Value.Lo.n,.int .i64 x.Mask.W.n,.int .u64 x.Mask.Hi.n,.int .u64 x.Mask.Lo.n,.int .i64 x.Next.n]:=rfl
@[simp] theorem Z7.ld0(x:Z7):ldc (Z7.v x) true 3 0=some (Vec.v x.Value):=rfl
@[simp] theorem Z7.ld1(x:Z7):ldc (Z7.v x) false 1 0=some (.int .i64 x.Value.W.n):=rfl
@[simp] theorem Z7.ld2(x:Z7):ldc (Z7.v x) false 1 1=some (.int .u64 x.Value.Hi.n):=rfl
@[simp] theorem Z7.ld3(x:Z7):ldc (Z7.v x) false 1 2=some (.int .u64 x.Value.Lo.n):=rfl
@[simp] theorem Z7.ld4(x:Z7):ldc (Z7.v x) true 3 3=some (Vec.v x.Mask):=rfl
@[simp] theorem Z7.ld5(x:Z7):ldc (Z7.v x) false 1 3=some (.int .i64 x.Mask.W.n):=rfl
@[simp] theorem Z7.ld6(x:Z7):ldc (Z7.v x) false 1 4=some (.int .u64 x.Mask.Hi.n):=rfl
@[simp] theorem Z7.ld7(x:Z7):ldc (Z7.v x) false 1 5=some (.int .u64 x.Mask.Lo.n):=rfl
@[simp] theorem Z7.ld8(x:Z7):ldc (Z7.v x) false 1 6=some (.int .i64 x.Next.n):=rfl
@[simp] theorem Z7.ldw(x:Z7):ldc (Z7.v x) true 7 0=some (Z7.v x):=rfl
@[simp] theorem Z7.clen(x:Z7):(Z7.v x).cells.length=7:=nr rfl
@[simp] theorem Z7.ok(x:Z7):okV (Z7.v x)=true:=nr rfl
@[simp] theorem Z7.below(k:Nat)(x:Z7):Zk k (Z7.v x)=true:=by simp[Z7.v,Z7.cs,Zk,Zo]
@[simp] theorem Z7.closed(x:Z7):Ze (Z7.v x)=true:=by simp[Z7.v,Z7.cs,Ze,Zv]
@[simp] theorem Z7.stw{cs:List VE.V}(hl:cs.length=7)(x:Z7):stc (.agg cs) 7 0 (Z7.v x)=some (Z7.v x):=Zy hl rfl
@[simp] theorem Z7.stv(y x:Z7):stc (Z7.v y) 7 0 (Z7.v x)=some (Z7.v x):=Zy rfl rfl
structure Ext where
 Kind:I64
 N:I64
def Ext.cs(x:Ext):List VE.V:=[.int .i64 x.Kind.n,.int .i64 x.N.n]
def Ext.v(x:Ext):VE.V:=.agg x.cs
theorem Ext.v_eq(x:Ext):Ext.v x=.agg [.int .i64 x.Kind.n,.int .i64 x.N.n]:=rfl
@[simp] theorem Ext.ld0(x:Ext):ldc (Ext.v x) false 1 0=some (.int .i64 x.Kind.n):=rfl
@[simp] theorem Ext.ld1(x:Ext):ldc (Ext.v x) false 1 1=some (.int .i64 x.N.n):=rfl
@[simp] theorem Ext.ldw(x:Ext):ldc (Ext.v x) true 2 0=some (Ext.v x):=rfl
@[simp] theorem Ext.clen(x:Ext):(Ext.v x).cells.length=2:=nr rfl
@[simp] theorem Ext.ok(x:Ext):okV (Ext.v x)=true:=nr rfl
@[simp] theorem Ext.below(k:Nat)(x:Ext):Zk k (Ext.v x)=true:=by simp[Ext.v,Ext.cs,Zk,Zo]
@[simp] theorem Ext.closed(x:Ext):Ze (Ext.v x)=true:=by simp[Ext.v,Ext.cs,Ze,Zv]
@[simp] theorem Ext.stw{cs:List VE.V}(hl:cs.length=2)(x:Ext):stc (.agg cs) 2 0 (Ext.v x)=some (Ext.v x):=Zy hl rfl
@[simp] theorem Ext.stv(y x:Ext):stc (Ext.v y) 2 0 (Ext.v x)=some (Ext.v x):=Zy rfl rfl
structure ZJ where
 Name:GS
 Exts:GL Ext
 Keys:GL Key
 Cases:GL Z7
 Next:I64
def ZJ.cs(x:ZJ):List VE.V:=[.str x.Name.s,GL.v 2 Ext.v x.Exts,GL.v 3 Key.v x.Keys,GL.v 7 Z7.v x.Cases,.int .i64 x.Next.n]
def ZJ.v(x:ZJ):VE.V:=.agg x.cs
theorem ZJ.v_eq(x:ZJ):ZJ.v x=.agg [.str x.Name.s,GL.v 2 Ext.v x.Exts,GL.v 3 Key.v x.Keys,GL.v 7 Z7.v x.Cases,.int .i64 x.Next.n]:=rfl
@[simp] theorem ZJ.ld0(x:ZJ):ldc (ZJ.v x) false 1 0=some (.str x.Name.s):=rfl
@[simp] theorem ZJ.ld1(x:ZJ):ldc (ZJ.v x) false 1 1=some (GL.v 2 Ext.v x.Exts):=rfl
@[simp] theorem ZJ.ld2(x:ZJ):ldc (ZJ.v x) false 1 2=some (GL.v 3 Key.v x.Keys):=rfl
@[simp] theorem ZJ.ld3(x:ZJ):ldc (ZJ.v x) false 1 3=some (GL.v 7 Z7.v x.Cases):=rfl
@[simp] theorem ZJ.ld4(x:ZJ):ldc (ZJ.v x) false 1 4=some (.int .i64 x.Next.n):=rfl
@[simp] theorem ZJ.ldw(x:ZJ):ldc (ZJ.v x) true 5 0=some (ZJ.v x):=rfl
@[simp] theorem ZJ.clen(x:ZJ):(ZJ.v x).cells.length=5:=nr rfl
@[simp] theorem ZJ.ok(x:ZJ):okV (ZJ.v x)=true:=nr rfl
@[simp] theorem ZJ.below(k:Nat)(x:ZJ):Zk k (ZJ.v x)=true:=by simp[ZJ.v,ZJ.cs,Zk,Zo]
@[simp] theorem ZJ.closed(x:ZJ):Ze (ZJ.v x)=(Ze (GL.v 2 Ext.v x.Exts)&&Ze (GL.v 3 Key.v x.Keys)&&Ze (GL.v 7 Z7.v x.Cases)):=by simp[ZJ.v,ZJ.cs,Ze,Zv,Bool.and_assoc]
@[simp] theorem ZJ.stw{cs:List VE.V}(hl:cs.length=5)(x:ZJ):stc (.agg cs) 5 0 (ZJ.v x)=some (ZJ.v x):=Zy hl rfl
@[simp] theorem ZJ.stv(y x:ZJ):stc (ZJ.v y) 5 0 (ZJ.v x)=some (ZJ.v x):=Zy rfl rfl
structure ZD where
 Name:GS
 Kind:I64
 Keys:GL Key
 Actions:GL I64
 Default:Call
 Size:I64
def ZD.cs(x:ZD):List VE.V:=[.str x.Name.s,.int .i64 x.Kind.n,GL.v 3 Key.v x.Keys,GL.v 1 I64.v x.Actions,.int .i64 x.Default.Action.n,GL.v 3 Vec.v x.Default.Args,.int .i64 x.Size.n]
def ZD.v(x:ZD):VE.V:=.agg x.cs
theorem ZD.v_eq(x:ZD):ZD.v x=.agg [.str x.Name.s,.int .i64 x.Kind.n,GL.v 3 Key.v x.Keys,GL.v 1 I64.v x.Actions,.int .i64 x.Default.Action.n,GL.v 3 Vec.v x.Default.Args,.int .i64 x.Size.n]:=rfl
@[simp] theorem ZD.ld0(x:ZD):ldc (ZD.v x) false 1 0=some (.str x.Name.s):=rfl
@[simp] theorem ZD.ld1(x:ZD):ldc (ZD.v x) false 1 1=some (.int .i64 x.Kind.n):=rfl
@[simp] theorem ZD.ld2(x:ZD):ldc (ZD.v x) false 1 2=some (GL.v 3 Key.v x.Keys):=rfl
@[simp] theorem ZD.ld3(x:ZD):ldc (ZD.v x) false 1 3=some (GL.v 1 I64.v x.Actions):=rfl
@[simp] theorem ZD.ld4(x:ZD):ldc (ZD.v x) true 2 4=some (Call.v x.Default):=rfl
@[simp] theorem ZD.ld5(x:ZD):ldc (ZD.v x) false 1 4=some (.int .i64 x.Default.Action.n):=rfl
@[simp] theorem ZD.ld6(x:ZD):ldc (ZD.v x) false 1 5=some (GL.v 3 Vec.v x.Default.Args):=rfl
@[simp] theorem ZD.ld7(x:ZD):ldc (ZD.v x) false 1 6=some (.int .i64 x.Size.n):=rfl
@[simp] theorem ZD.ldw(x:ZD):ldc (ZD.v x) true 7 0=some (ZD.v x):=rfl
@[simp] theorem ZD.clen(x:ZD):(ZD.v x).cells.length=7:=nr rfl
@[simp] theorem ZD.ok(x:ZD):okV (ZD.v x)=true:=nr rfl
@[simp] theorem ZD.below(k:Nat)(x:ZD):Zk k (ZD.v x)=true:=by simp[ZD.v,ZD.cs,Zk,Zo]
@[simp] theorem ZD.closed(x:ZD):Ze (ZD.v x)=(Ze (GL.v 3 Key.v x.Keys)&&Ze (GL.v 1 I64.v x.Actions)&&Ze (GL.v 3 Vec.v x.Default.Args)):=by simp[ZD.v,ZD.cs,Ze,Zv,Bool.and_assoc]
@[simp] theorem ZD.stw{cs:List VE.V}(hl:cs.length=7)(x:ZD):stc (.agg cs) 7 0 (ZD.v x)=some (ZD.v x):=Zy hl rfl
@[simp] theorem ZD.stv(y x:ZD):stc (ZD.v y) 7 0 (ZD.v x)=some (ZD.v x):=Zy rfl rfl
structure Zs where
 Kind:I64
 A:I64
 Code:GL Ins
 Args:GL Vec
 Yes:I64
 No:I64
def Zs.cs(x:Zs):List VE.V:=[.int .i64 x.Kind.n,.int .i64 x.A.n,GL.v 6 Ins.v x.Code,GL.v 3 Vec.v x.Args,.int .i64 x.Yes.n,.int .i64 x.No.n]
def Zs.v(x:Zs):VE.V:=.agg x.cs
theorem Zs.v_eq(x:Zs):Zs.v x=.agg [.int .i64 x.Kind.n,.int .i64 x.A.n,GL.v 6 Ins.v x.Code,GL.v 3 Vec.v x.Args,.int .i64 x.Yes.n,.int .i64 x.No.n]:=rfl
@[simp] theorem Zs.ld0(x:Zs):ldc (Zs.v x) false 1 0=some (.int .i64 x.Kind.n):=rfl
@[simp] theorem Zs.ld1(x:Zs):ldc (Zs.v x) false 1 1=some (.int .i64 x.A.n):=rfl
@[simp] theorem Zs.ld2(x:Zs):ldc (Zs.v x) false 1 2=some (GL.v 6 Ins.v x.Code):=rfl
@[simp] theorem Zs.ld3(x:Zs):ldc (Zs.v x) false 1 3=some (GL.v 3 Vec.v x.Args):=rfl
@[simp] theorem Zs.ld4(x:Zs):ldc (Zs.v x) false 1 4=some (.int .i64 x.Yes.n):=rfl
@[simp] theorem Zs.ld5(x:Zs):ldc (Zs.v x) false 1 5=some (.int .i64 x.No.n):=rfl
@[simp] theorem Zs.ldw(x:Zs):ldc (Zs.v x) true 6 0=some (Zs.v x):=rfl
@[simp] theorem Zs.clen(x:Zs):(Zs.v x).cells.length=6:=nr rfl
@[simp] theorem Zs.ok(x:Zs):okV (Zs.v x)=true:=nr rfl
@[simp] theorem Zs.below(k:Nat)(x:Zs):Zk k (Zs.v x)=true:=by simp[Zs.v,Zs.cs,Zk,Zo]
@[simp] theorem Zs.closed(x:Zs):Ze (Zs.v x)=(Ze (GL.v 6 Ins.v x.Code)&&Ze (GL.v 3 Vec.v x.Args)):=by simp[Zs.v,Zs.cs,Ze,Zv]
@[simp] theorem Zs.stw{cs:List VE.V}(hl:cs.length=6)(x:Zs):stc (.agg cs) 6 0 (Zs.v x)=some (Zs.v x):=Zy hl rfl
@[simp] theorem Zs.stv(y x:Zs):stc (Zs.v y) 6 0 (Zs.v x)=some (Zs.v x):=Zy rfl rfl
structure Yj where
 Slot:I64
 Field:I64
def Yj.cs(x:Yj):List VE.V:=[.int .i64 x.Slot.n,.int .i64 x.Field.n]
def Yj.v(x:Yj):VE.V:=.agg x.cs
theorem Yj.v_eq(x:Yj):Yj.v x=.agg [.int .i64 x.Slot.n,.int .i64 x.Field.n]:=rfl
@[simp] theorem Yj.ld0(x:Yj):ldc (Yj.v x) false 1 0=some (.int .i64 x.Slot.n):=rfl
@[simp] theorem Yj.ld1(x:Yj):ldc (Yj.v x) false 1 1=some (.int .i64 x.Field.n):=rfl
@[simp] theorem Yj.ldw(x:Yj):ldc (Yj.v x) true 2 0=some (Yj.v x):=rfl
@[simp] theorem Yj.clen(x:Yj):(Yj.v x).cells.length=2:=nr rfl
@[simp] theorem Yj.ok(x:Yj):okV (Yj.v x)=true:=nr rfl
@[simp] theorem Yj.below(k:Nat)(x:Yj):Zk k (Yj.v x)=true:=by simp[Yj.v,Yj.cs,Zk,Zo]
@[simp] theorem Yj.closed(x:Yj):Ze (Yj.v x)=true:=by simp[Yj.v,Yj.cs,Ze,Zv]
@[simp] theorem Yj.stw{cs:List VE.V}(hl:cs.length=2)(x:Yj):stc (.agg cs) 2 0 (Yj.v x)=some (Yj.v x):=Zy hl rfl
@[simp] theorem Yj.stv(y x:Yj):stc (Yj.v y) 2 0 (Yj.v x)=some (Yj.v x):=Zy rfl rfl
structure Reg where
 Name:GS
 W:I64
 Log:I64
def Reg.cs(x:Reg):List VE.V:=[.str x.Name.s,.int .i64 x.W.n,.int .i64 x.Log.n]
def Reg.v(x:Reg):VE.V:=.agg x.cs
theorem Reg.v_eq(x:Reg):Reg.v x=.agg [.str x.Name.s,.int .i64 x.W.n,.int .i64 x.Log.n]:=rfl
@[simp] theorem Reg.ld0(x:Reg):ldc (Reg.v x) false 1 0=some (.str x.Name.s):=rfl
@[simp] theorem Reg.ld1(x:Reg):ldc (Reg.v x) false 1 1=some (.int .i64 x.W.n):=rfl
@[simp] theorem Reg.ld2(x:Reg):ldc (Reg.v x) false 1 2=some (.int .i64 x.Log.n):=rfl
@[simp] theorem Reg.ldw(x:Reg):ldc (Reg.v x) true 3 0=some (Reg.v x):=rfl
@[simp] theorem Reg.clen(x:Reg):(Reg.v x).cells.length=3:=nr rfl
@[simp] theorem Reg.ok(x:Reg):okV (Reg.v x)=true:=nr rfl
@[simp] theorem Reg.below(k:Nat)(x:Reg):Zk k (Reg.v x)=true:=by simp[Reg.v,Reg.cs,Zk,Zo]
@[simp] theorem Reg.closed(x:Reg):Ze (Reg.v x)=true:=by simp[Reg.v,Reg.cs,Ze,Zv]
@[simp] theorem Reg.stw{cs:List VE.V}(hl:cs.length=3)(x:Reg):stc (.agg cs) 3 0 (Reg.v x)=some (Reg.v x):=Zy hl rfl
@[simp] theorem Reg.stv(y x:Reg):stc (Reg.v y) 3 0 (Reg.v x)=some (Reg.v x):=Zy rfl rfl
structure ZA where
 Name:GS
 Log:I64
def ZA.cs(x:ZA):List VE.V:=[.str x.Name.s,.int .i64 x.Log.n]
def ZA.v(x:ZA):VE.V:=.agg x.cs
theorem ZA.v_eq(x:ZA):ZA.v x=.agg [.str x.Name.s,.int .i64 x.Log.n]:=rfl
@[simp] theorem ZA.ld0(x:ZA):ldc (ZA.v x) false 1 0=some (.str x.Name.s):=rfl
@[simp] theorem ZA.ld1(x:ZA):ldc (ZA.v x) false 1 1=some (.int .i64 x.Log.n):=rfl
@[simp] theorem ZA.ldw(x:ZA):ldc (ZA.v x) true 2 0=some (ZA.v x):=rfl
@[simp] theorem ZA.clen(x:ZA):(ZA.v x).cells.length=2:=nr rfl
@[simp] theorem ZA.ok(x:ZA):okV (ZA.v x)=true:=nr rfl
@[simp] theorem ZA.below(k:Nat)(x:ZA):Zk k (ZA.v x)=true:=by simp[ZA.v,ZA.cs,Zk,Zo]
@[simp] theorem ZA.closed(x:ZA):Ze (ZA.v x)=true:=by simp[ZA.v,ZA.cs,Ze,Zv]
@[simp] theorem ZA.stw{cs:List VE.V}(hl:cs.length=2)(x:ZA):stc (.agg cs) 2 0 (ZA.v x)=some (ZA.v x):=Zy hl rfl
@[simp] theorem ZA.stv(y x:ZA):stc (ZA.v y) 2 0 (ZA.v x)=some (ZA.v x):=Zy rfl rfl
structure ZX where
 Name:GS
 Log:I64
 Rate:I64
 Burst:I64
def ZX.cs(x:ZX):List VE.V:=[.str x.Name.s,.int .i64 x.Log.n,.int .i64 x.Rate.n,.int .i64 x.Burst.n]
def ZX.v(x:ZX):VE.V:=.agg x.cs
theorem ZX.v_eq(x:ZX):ZX.v x=.agg [.str x.Name.s,.int .i64 x.Log.n,.int .i64 x.Rate.n,.int .i64 x.Burst.n]:=rfl
@[simp] theorem ZX.ld0(x:ZX):ldc (ZX.v x) false 1 0=some (.str x.Name.s):=rfl
@[simp] theorem ZX.ld1(x:ZX):ldc (ZX.v x) false 1 1=some (.int .i64 x.Log.n):=rfl
@[simp] theorem ZX.ld2(x:ZX):ldc (ZX.v x) false 1 2=some (.int .i64 x.Rate.n):=rfl
@[simp] theorem ZX.ld3(x:ZX):ldc (ZX.v x) false 1 3=some (.int .i64 x.Burst.n):=rfl
@[simp] theorem ZX.ldw(x:ZX):ldc (ZX.v x) true 4 0=some (ZX.v x):=rfl
@[simp] theorem ZX.clen(x:ZX):(ZX.v x).cells.length=4:=nr rfl
@[simp] theorem ZX.ok(x:ZX):okV (ZX.v x)=true:=nr rfl
@[simp] theorem ZX.below(k:Nat)(x:ZX):Zk k (ZX.v x)=true:=by simp[ZX.v,ZX.cs,Zk,Zo]
@[simp] theorem ZX.closed(x:ZX):Ze (ZX.v x)=true:=by simp[ZX.v,ZX.cs,Ze,Zv]
@[simp] theorem ZX.stw{cs:List VE.V}(hl:cs.length=4)(x:ZX):stc (.agg cs) 4 0 (ZX.v x)=some (ZX.v x):=Zy hl rfl
@[simp] theorem ZX.stv(y x:ZX):stc (ZX.v y) 4 0 (ZX.v x)=some (ZX.v x):=Zy rfl rfl
structure Zb where
 Name:GS
 Headers:GL Header
 Insts:GL ZE
 Metas:GL Field
 States:GL ZJ
 Actions:GL Action
 Tables:GL ZD
 Ingress:GL Zs
 Egress:GL Zs
 Deparse:GL I64
 Checks:GL Yj
 Updates:GL Yj
 Regs:GL Reg
 Counters:GL ZA
 Meters:GL ZX
 Ports:I64
 Depth:I64
 Rounds:I64
def Zb.cs(x:Zb):List VE.V:=[.str x.Name.s,GL.v 6 Header.v x.Headers,GL.v 3 ZE.v x.Insts,GL.v 2 Field.v x.Metas,GL.v 5 ZJ.v x.States,GL.v 3 Action.v x.Actions,GL.v 7 ZD.v x.Tables,GL.v 6 Zs.v x.Ingress,GL.v 6 Zs.v x.Egress,GL.v 1 I64.v x.Deparse,GL.v 2 Yj.v x.Checks,GL.v 2 Yj.v x.Updates,GL.v 3 Reg.v x.Regs,GL.v 2 ZA.v x.Counters,GL.v 4 ZX.v x.Meters,.int .i64 x.Ports.n,.int .i64 x.Depth.n,.int .i64 x.Rounds.n]
def Zb.v(x:Zb):VE.V:=.agg x.cs
theorem Zb.v_eq(x:Zb):Zb.v x=.agg [.str x.Name.s,GL.v 6 Header.v x.Headers,GL.v 3 ZE.v x.Insts,GL.v 2 Field.v x.Metas,GL.v 5 ZJ.v x.States,GL.v 3 Action.v x.Actions,GL.v 7 ZD.v x.Tables,GL.v 6 Zs.v x.Ingress,GL.v 6 Zs.v x.Egress,GL.v 1 I64.v x.Deparse,GL.v 2 Yj.v x.Checks,GL.v 2 Yj.v x.Updates,GL.v 3 Reg.v x.Regs,GL.v 2 ZA.v x.Counters,GL.v 4 ZX.v x.Meters,.int .i64 x.Ports.n,.int .i64 x.Depth.n,.int .i64 x.Rounds.n]:=rfl
@[simp] theorem Zb.ld0(x:Zb):ldc (Zb.v x) false 1 0=some (.str x.Name.s):=rfl
@[simp] theorem Zb.ld1(x:Zb):ldc (Zb.v x) false 1 1=some (GL.v 6 Header.v x.Headers):=rfl
@[simp] theorem Zb.ld2(x:Zb):ldc (Zb.v x) false 1 2=some (GL.v 3 ZE.v x.Insts):=rfl
@[simp] theorem Zb.ld3(x:Zb):ldc (Zb.v x) false 1 3=some (GL.v 2 Field.v x.Metas):=rfl
@[simp] theorem Zb.ld4(x:Zb):ldc (Zb.v x) false 1 4=some (GL.v 5 ZJ.v x.States):=rfl
@[simp] theorem Zb.ld5(x:Zb):ldc (Zb.v x) false 1 5=some (GL.v 3 Action.v x.Actions):=rfl
@[simp] theorem Zb.ld6(x:Zb):ldc (Zb.v x) false 1 6=some (GL.v 7 ZD.v x.Tables):=rfl
@[simp] theorem Zb.ld7(x:Zb):ldc (Zb.v x) false 1 7=some (GL.v 6 Zs.v x.Ingress):=rfl
@[simp] theorem Zb.ld8(x:Zb):ldc (Zb.v x) false 1 8=some (GL.v 6 Zs.v x.Egress):=rfl
@[simp] theorem Zb.ld9(x:Zb):ldc (Zb.v x) false 1 9=some (GL.v 1 I64.v x.Deparse):=rfl
@[simp] theorem Zb.ld10(x:Zb):ldc (Zb.v x) false 1 10=some (GL.v 2 Yj.v x.Checks):=rfl
@[simp] theorem Zb.ld11(x:Zb):ldc (Zb.v x) false 1 11=some (GL.v 2 Yj.v x.Updates):=rfl
@[simp] theorem Zb.ld12(x:Zb):ldc (Zb.v x) false 1 12=some (GL.v 3 Reg.v x.Regs):=rfl
@[simp] theorem Zb.ld13(x:Zb):ldc (Zb.v x) false 1 13=some (GL.v 2 ZA.v x.Counters):=rfl
@[simp] theorem Zb.ld14(x:Zb):ldc (Zb.v x) false 1 14=some (GL.v 4 ZX.v x.Meters):=rfl
@[simp] theorem Zb.ld15(x:Zb):ldc (Zb.v x) false 1 15=some (.int .i64 x.Ports.n):=rfl
@[simp] theorem Zb.ld16(x:Zb):ldc (Zb.v x) false 1 16=some (.int .i64 x.Depth.n):=rfl
@[simp] theorem Zb.ld17(x:Zb):ldc (Zb.v x) false 1 17=some (.int .i64 x.Rounds.n):=rfl
@[simp] theorem Zb.ldw(x:Zb):ldc (Zb.v x) true 18 0=some (Zb.v x):=rfl
@[simp] theorem Zb.clen(x:Zb):(Zb.v x).cells.length=18:=nr rfl
@[simp] theorem Zb.ok(x:Zb):okV (Zb.v x)=true:=nr rfl
@[simp] theorem Zb.below(k:Nat)(x:Zb):Zk k (Zb.v x)=true:=by simp[Zb.v,Zb.cs,Zk,Zo]
@[simp] theorem Zb.closed(x:Zb):Ze (Zb.v x)=(Ze (GL.v 6 Header.v x.Headers)&&Ze (GL.v 3 ZE.v x.Insts)&&Ze (GL.v 2 Field.v x.Metas)&&Ze (GL.v 5 ZJ.v x.States)&&Ze (GL.v 3 Action.v x.Actions)&&Ze (GL.v 7 ZD.v x.Tables)&&Ze (GL.v 6 Zs.v x.Ingress)&&Ze (GL.v 6 Zs.v x.Egress)&&Ze (GL.v 1 I64.v x.Deparse)&&Ze (GL.v 2 Yj.v x.Checks)&&Ze (GL.v 2 Yj.v x.Updates)&&Ze (GL.v 3 Reg.v x.Regs)&&Ze (GL.v 2 ZA.v x.Counters)&&Ze (GL.v 4 ZX.v x.Meters)):=by simp[Zb.v,Zb.cs,Ze,Zv,Bool.and_assoc]
@[simp] theorem Zb.stw{cs:List VE.V}(hl:cs.length=18)(x:Zb):stc (.agg cs) 18 0 (Zb.v x)=some (Zb.v x):=Zy hl rfl
@[simp] theorem Zb.stv(y x:Zb):stc (Zb.v y) 18 0 (Zb.v x)=some (Zb.v x):=Zy rfl rfl
structure Z1 where
 Values:GL Vec
 Masks:GL Vec
 Len:I64
 Prio:I64
 Call:Call
def Z1.cs(x:Z1):List VE.V:=[GL.v 3 Vec.v x.Values,GL.v 3 Vec.v x.Masks,.int .i64 x.Len.n,.int .i64 x.Prio.n,.int .i64 x.Call.Action.n,GL.v 3 Vec.v x.Call.Args]
def Z1.v(x:Z1):VE.V:=.agg x.cs
theorem Z1.v_eq(x:Z1):Z1.v x=.agg [GL.v 3 Vec.v x.Values,GL.v 3 Vec.v x.Masks,.int .i64 x.Len.n,.int .i64 x.Prio.n,.int .i64 x.Call.Action.n,GL.v 3 Vec.v x.Call.Args]:=rfl
@[simp] theorem Z1.ld0(x:Z1):ldc (Z1.v x) false 1 0=some (GL.v 3 Vec.v x.Values):=rfl
@[simp] theorem Z1.ld1(x:Z1):ldc (Z1.v x) false 1 1=some (GL.v 3 Vec.v x.Masks):=rfl
@[simp] theorem Z1.ld2(x:Z1):ldc (Z1.v x) false 1 2=some (.int .i64 x.Len.n):=rfl
@[simp] theorem Z1.ld3(x:Z1):ldc (Z1.v x) false 1 3=some (.int .i64 x.Prio.n):=rfl
@[simp] theorem Z1.ld4(x:Z1):ldc (Z1.v x) true 2 4=some (Call.v x.Call):=rfl
@[simp] theorem Z1.ld5(x:Z1):ldc (Z1.v x) false 1 4=some (.int .i64 x.Call.Action.n):=rfl
@[simp] theorem Z1.ld6(x:Z1):ldc (Z1.v x) false 1 5=some (GL.v 3 Vec.v x.Call.Args):=rfl
@[simp] theorem Z1.ldw(x:Z1):ldc (Z1.v x) true 6 0=some (Z1.v x):=rfl
@[simp] theorem Z1.clen(x:Z1):(Z1.v x).cells.length=6:=nr rfl
@[simp] theorem Z1.ok(x:Z1):okV (Z1.v x)=true:=nr rfl
@[simp] theorem Z1.below(k:Nat)(x:Z1):Zk k (Z1.v x)=true:=by simp[Z1.v,Z1.cs,Zk,Zo]
@[simp] theorem Z1.closed(x:Z1):Ze (Z1.v x)=(Ze (GL.v 3 Vec.v x.Values)&&Ze (GL.v 3 Vec.v x.Masks)&&Ze (GL.v 3 Vec.v x.Call.Args)):=by simp[Z1.v,Z1.cs,Ze,Zv,Bool.and_assoc]
@[simp] theorem Z1.stw{cs:List VE.V}(hl:cs.length=6)(x:Z1):stc (.agg cs) 6 0 (Z1.v x)=some (Z1.v x):=Zy hl rfl
@[simp] theorem Z1.stv(y x:Z1):stc (Z1.v y) 6 0 (Z1.v x)=some (Z1.v x):=Zy rfl rfl
end Go.VE
namespace Go.VE
open Go.RowKit
def ZhW(r:Option (V ×Zg)):Bool:=
 match r with
 |some (.bool b,_)=>b
 |_=>false
theorem Zfu{r:Option (V ×Zg)}(h:ZhW r=true): ∃hp,r=some (.bool true,hp):=by
 unfold ZhW at h
 split at h
 ·subst h;exact⟨_,rfl⟩
 ·simp at h
theorem ZaP{vp:VP}{f n:Nat}{args:List V}(h:ZhW ((YV vp n).call f 0 args [])=true):Zc vp f args=some (.bool true):=by
 obtain⟨hp,e⟩:=Zfu h
 unfold Zc
 rw[(WA vp n).call _ _ _ _ _ e]
 rfl
theorem Zn5{lo d:Nat}{h:Zg}{r:V}{b:Bool}(e:frz lo h d r=some (.bool b)):r=.bool b:=by
 have hm: ∀(o:Option V) (f:V→V),(∀x,f x≠.bool b)→o.map f=some (.bool b)→False:=fun o f hf he=>by
  cases o with
  |none=>simp at he
  |some x=>simp at he;exact hf x he
 have hm2: ∀(o:Option (List V)) (f:List V→V),(∀x,f x≠.bool b)→o.map f=some (.bool b)→False:=fun o f hf he=>by
  cases o with
  |none=>simp at he
  |some x=>simp at he;exact hf x he
 cases d with
 |zero=>simp only[frz]at e;split at e<;>simp at e;exact e
 |succ d=>
  cases r<;>try (simp[frz]at e;done)
  all_goals unfold frz at e
  all_goals (try simp only[ZpL,if_true,Option.some.injEq]at e)
  all_goals (try exact e)
  all_goals exfalso
  all_goals (split at e<;>try (simp at e;done))
  all_goals (try (exact hm _ _ (by simp) e))
  all_goals (try (exact hm2 _ _ (by simp) e))
  ·split at e
   ·simp at e
   ·simp only[Option.bind_eq_some_iff,Option.map_eq_some_iff]at e
    obtain⟨_,_,_,_,e⟩:=e
    simp at e
  ·split at e
   ·simp at e
   ·split at e
    ·split at e
     ·simp only[Option.bind_eq_some_iff,Option.map_eq_some_iff]at e
      obtain⟨_,_,_,_,e⟩:=e
      simp at e
     ·simp at e
    ·simp at e
theorem ZkE{P:Program}{T:Tbl}{vp:VP}(tied:U6 P T vp){f:Nat}{vf:Zi}(hv:vp.fn f=some vf)(hx:vf.ext=none){fid:FuncId}(hf:T.fid f=some fid){W:World}{vs:List V}{as:Array Value}(hR:RA T (G0 W) vs as)
 (e:Zc vp f vs=some (.bool true)):Calls P fid as W fun e w'=>e=.returned (.bool true)∧Below W.heap.size W w':=by
 unfold Zc at e
 simp only[Option.bind_eq_some_iff]at e
 obtain⟨⟨r,h'⟩,e1,e2⟩:=e
 have:=Zn5 e2
 simp only at this;subst this
 exact Zlg tied hv hx hf hR e1
end Go.VE
namespace Go.VE
section
variable {P : Program} {n : Nat} {t : TypeId} {xs : List V}
theorem Zii{k:IntKind}(hu:P.underlying t=some (.int k))(h:Shp P n t xs): ∃m,xs=[.int k m]∧k.min≤m∧m≤k.max:=by
 cases n with
 |zero=>exact h.elim
 |succ n=>simpa only[Shp,hu]using h
theorem QH(hu:P.underlying t=some (.int .i64))(h:Shp P n t xs): ∃x:I64,xs=[I64.v x]:=by
 obtain⟨m,rfl,h1,h2⟩:=Zii hu h
 exact⟨⟨m,by simpa[IntKind.min,IntKind.signed,IntKind.bits]using h1,by simpa[IntKind.max,IntKind.signed,IntKind.bits]using h2⟩,rfl⟩
theorem Zp7(hu:P.underlying t=some (.int .u64))(h:Shp P n t xs): ∃x:U64,xs=[U64.v x]:=by
 obtain⟨m,rfl,h1,h2⟩:=Zii hu h
 exact⟨⟨m,by simpa[IntKind.min,IntKind.signed,IntKind.bits]using h1,by simpa[IntKind.max,IntKind.signed,IntKind.bits]using h2⟩,rfl⟩
theorem ZqW(hu:P.underlying t=some .string)(h:Shp P n t xs): ∃x:GS,xs=[.str x.s]:=by
 cases n with
 |zero=>exact h.elim
 |succ n=>
  simp only[Shp,hu]at h
  obtain⟨l,rfl,h1⟩:=h
  exact⟨⟨l,Nat.le_trans h1 (by decide)⟩,rfl⟩
theorem ZnG{α:Type}{f:α→V}: ∀{es:List V},(∀x∈es,∃a:α,x=f a∧Ze (f a)=true)→∃l:List α,es=l.map f∧(l.all fun a=>Ze (f a))=true
 |[],_=>⟨[],rfl,rfl⟩
 |x::es,h=>by
  obtain⟨a,h1,h2⟩:=h x List.mem_cons_self
  obtain⟨l,k1,k2⟩:=ZnG fun y hy=>h y (List.mem_cons_of_mem _ hy)
  exact⟨a::l,by rw[h1,k1];rfl,by simp[h2,k2]⟩
abbrev SL{α:Type}(f:α→V)(z b:Nat)(xs:List V):Prop:= ∃x:GL α,xs=[GL.v z f x]∧Ze (GL.v z f x)=true∧x.l.length*b≤reachBytes
theorem XN{α:Type}{f:α→V}{e:TypeId}{z b:Nat}(hu:P.underlying t=some (.slice e))(hz:P.cellsOf e=z)(hb:P.bytesOf e=b)(h1:1≤b)
 (hel: ∀{n:Nat} {ys:List V},Shp P n e ys→∃a:α,elV P e ys=f a∧Ze (f a)=true) (h:Shp P n t xs):SL f z b xs:=by
 cases n with
 |zero=>exact h.elim
 |succ n=>
  simp only[Shp,hu,hz,hb]at h
  rcases h with rfl|⟨es,rfl,hb,he⟩
  ·exact⟨⟨[],.nl,by simp⟩,rfl,by simp[GL.closed,Tag.cl],by simp⟩
  ·obtain⟨l,rfl,h2⟩:=ZnG (f:=f) (es:=es) fun x hx=>by
    obtain⟨ys,rfl,hy⟩:=he x hx
    exact hel hy
   simp only[List.length_map]at hb
   refine⟨⟨l,.perm,?_⟩,rfl,by rw[GL.closed];simp only[Tag.cl,Bool.true_and];exact h2,hb⟩
   have:reachBytes=140737488351232:=rfl
   have:=Nat.mul_le_mul_left l.length h1
   omega
def Sq(P:Program)(n:Nat):List TypeId→List V→Prop
 |[],xs=>xs=[]
 |t::ts,xs=> ∃a r,xs=a++r∧Shp P n t a∧Sq P n ts r
theorem Zq2{xs:List V}: ∀{fs:List Go.Field} {o:Nat},Wk o xs.length (fs.map fun f=>(f.offset,P.cellsOf f.type))=true→
 (∀f∈fs,Shp P n f.type ((xs.drop f.offset).take (P.cellsOf f.type)))→Sq P n (fs.map (·.type)) (xs.drop o)
 |[],o,hc,_=>by
  simp only[List.map_nil,Wk,beq_iff_eq]at hc
  exact List.drop_eq_nil_of_le (by omega)
 |f::fs,o,hc,h=>by
  simp only[List.map_cons,Wk,Bool.and_eq_true,beq_iff_eq]at hc
  refine⟨(xs.drop f.offset).take (P.cellsOf f.type),xs.drop (o+P.cellsOf f.type),?_,h f List.mem_cons_self,Zq2 hc.2 fun g hg=>h g (.tail _ hg)⟩
  rw[hc.1,←List.drop_drop,List.take_append_drop]
theorem Xz{fs:Array Go.Field}(hu:P.underlying t=some (.struct fs))(ts:List TypeId)(ht:fs.toList.map (·.type)=ts)(hc:Wk 0 (P.cellsOf t) (fs.toList.map fun f=>(f.offset,P.cellsOf f.type))=true)
 (h:Shp P n t xs): ∃m,Sq P m ts xs:=by
 cases n with
 |zero=>exact h.elim
 |succ n=>
  simp only[Shp,hu]at h
  subst ht
  exact⟨n,Zq2 (o:=0) (by rw[h.1];exact hc) h.2⟩
end
end Go.VE
