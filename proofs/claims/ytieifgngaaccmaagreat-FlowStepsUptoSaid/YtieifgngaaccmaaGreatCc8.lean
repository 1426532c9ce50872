/- Joined texts: CkF, CkG, CrH. No condition: what each theorem needs stands in it. -/
import Derived.Test.YtieifgngaaccmaaGreatCc7
import Derived.Test.YtieifgngaaccmaaGreatCc6
namespace Go.VE.Un
open Go.VE
structure Small (m:Image):Prop where
 hf: ∀h∈m.Headers.l,h.Fields.l.length≤16→∀f∈h.Fields.l,f.Name.s.length≤35184372088831
 ins:m.Insts.l.length≤16→∀x∈m.Insts.l,x.Name.s.length≤35184372088831
 nHeaders: ∀x∈m.Headers.l,x.Name.s.length≤35184372088831
 nMetas: ∀x∈m.Metas.l,x.Name.s.length≤35184372088831
 nRegs: ∀x∈m.Regs.l,x.Name.s.length≤35184372088831
 nCounters: ∀x∈m.Counters.l,x.Name.s.length≤35184372088831
 nMeters: ∀x∈m.Meters.l,x.Name.s.length≤35184372088831
 nStates: ∀x∈m.States.l,x.Name.s.length≤35184372088831
 nActions: ∀x∈m.Actions.l,x.Name.s.length≤35184372088831
 nTables: ∀x∈m.Tables.l,x.Name.s.length≤35184372088831
def nHeaders(m:Image):List (List UInt8):=m.Headers.l.map fun x=>x.Name.s
def nMetas(m:Image):List (List UInt8):=m.Metas.l.map fun x=>x.Name.s
def nRegs(m:Image):List (List UInt8):=m.Regs.l.map fun x=>x.Name.s
def nCounters(m:Image):List (List UInt8):=m.Counters.l.map fun x=>x.Name.s
def nMeters(m:Image):List (List UInt8):=m.Meters.l.map fun x=>x.Name.s
def nStates(m:Image):List (List UInt8):=m.States.l.map fun x=>x.Name.s
def nActions(m:Image):List (List UInt8):=m.Actions.l.map fun x=>x.Name.s
def nTables(m:Image):List (List UInt8):=m.Tables.l.map fun x=>x.Name.s
end Go.VE.Un
namespace Go.VE.Un
open Go.VE
def headerE(m:Image)(i:Int):Int:=match getI m.Headers.l i with|some h=>if mayH h=0 then titledE (nHeaders m) i else mayH h|none=>0
def metaE(m:Image)(i:Int):Int:=match getI m.Metas.l i with|some x=>firstE [titledE (nMetas m) i,wantE (inB x.W.n 1 128) 9]|none=>0
def regE(m:Image)(i:Int):Int:=match getI m.Regs.l i with|some x=>firstE [titledE (nRegs m) i,wantE (inB x.W.n 1 128) 9,logE x.Log.n]|none=>0
def counterE(m:Image)(i:Int):Int:=match getI m.Counters.l i with|some x=>firstE [titledE (nCounters m) i,logE x.Log.n]|none=>0
def meterE(m:Image)(i:Int):Int:=match getI m.Meters.l i with|some x=>firstE [titledE (nMeters m) i,logE x.Log.n,wantE (inB x.Rate.n 0 65535&&inB x.Burst.n 1 1048576) 7]|none=>0
def nextE(m:Image)(n:Int):Int:=wantE (inB n (-2) (m.States.l.length-1)) 5
theorem slot_cl{m:Image}(hm:Clo m)(s:Int):closedB (GL.v 2 Field.v ((slot m s).getD Header.z).Fields)=true:=by
 have hz:=slot_closed (l:=m.Insts.l) (s:=s) (cl_headers hm)
 simp only[Header.closed]at hz
 exact hz
def outE(m:Image)(i:Int):Int:=match getI m.Deparse.l i with
 |some d=>firstE [wantE (slot m d.n).isSome 5,wantE (!(m.Deparse.l.take i.toNat).any fun x=>decide (x.n=d.n)) 6]
 |none=>0
def Deep(m:Image):Prop:= ∀x∈m.Insts.l,0≤x.Depth.n∧x.Depth.n≤4
def instI(m:Image)(s:Int):Option (Int ×Inst):=(slot m s).bind fun _=>(ofI m.Insts.l s).map fun r=>(r.1,r.2.2)
def extE(m:Image)(x:Ext):Int:=
 if x.Kind.n=0 then wantE (match instI m x.N.n with|some (_,y)=>decide (y.Depth.n=0)|none=>false) 5
 else if x.Kind.n=1 then wantE (stacked m x.N.n).isSome 5
 else if x.Kind.n=2 then wantE (inB x.N.n 1 64) 7 else 10
end Go.VE.Un
namespace Go.VE.Un
open Go.VE
theorem getI_lt{α:Type}{l:List α}{i:Int}{a:α}(h:getI l i=some a):0≤i∧i<l.length:=by
 rcases getI_cases l i with⟨_,h0,h1,_⟩|⟨_,h1⟩
 ·exact⟨h0,h1⟩
 ·rw[h1]at h;simp at h
theorem getI_mem{α:Type}{l:List α}{i:Int}{a:α}(h:getI l i=some a):a∈l:=by
 have:=getI_lt h
 rw[getI,if_pos this.1]at h;exact List.mem_of_getElem? h
theorem getI_take{α:Type}{l:List α}{i n:Int}(h0:0≤i)(h:i<n):getI (l.take n.toNat) i=getI l i:=by
 unfold getI;rw[if_pos h0,if_pos h0,List.getElem?_take,if_pos (by omega)]
theorem loop849(ns:List (List UInt8))(t:Tag)(s:List UInt8)(hn:ns.length≤17592186044416)(hb: ∀x∈ns,x.length≤17592186044416)(hs:s.length≤17592186044416): ∀(r:List (List UInt8)) (k:Int),0≤k→k≤(ns.length:Int)-1→(ns.take (ns.length-1)).drop k.toNat=r→(orc vp).loop 0 [0,3,4] L849_0 [(0,.sl 1 (ns.map V.str) t),(3,.str s),(4,.int .i64 k)] []=
 (if r.any (fun x=>decide (keyL x=keyL s))=true then some (.ret,[(2,.int .i64 6)],[])else some (.brk 0,[(0,.sl 1 (ns.map V.str) t),(3,.str s),(4,.int .i64 ((ns.length:Int)-1)),(18,.bool false)],[])):=by
 have w0:IntKind.i64.wrap ((ns.length:Int)-1)=(ns.length:Int)-1:=wrap64 (by omega) (by omega)
 intro r
 induction r with
 |nil=>
  intro k hk hkl hd
  have hle:=drop_nil hk hd
  have hlt: ¬k<(ns.length:Int)-1:=by simp at hle;omega
  have he:k=(ns.length:Int)-1:=by omega
  rw[lp849_0]
  simp -implicitDefEqProofs [w0,hlt,he]
 |cons y r ih=>
  intro k hk hkl hd
  obtain⟨hg,hlt,hd'⟩:=drop_cons hk hd
  have hlt:k<(ns.length:Int)-1:=by simp at hlt;omega
  have e1:ns.length-1=((ns.length:Int)-1).toNat:=by omega
  rw[e1,getI_take hk hlt]at hg
  have hy:=hb y (getI_mem hg)
  have w1:IntKind.i64.wrap (k+1)=k+1:=wrap64 (by omega) (by omega)
  have ih:=ih (k+1) (by omega) (by omega) hd'
  have ha:=alike818 y s hy hs
  rw[lp849_0]
  by_cases c:keyL y=keyL s
  ·simp -implicitDefEqProofs [w0,hlt,hg,ha,c]
  ·simp -implicitDefEqProofs [w0,w1,hlt,hg,ha,c,ih]
theorem title849(ns:List (List UInt8))(t:Tag)(hne:ns≠[])(hn:ns.length≤17592186044416)(hb: ∀x∈ns,x.length≤17592186044416):
 callRO vp 849 [.sl 1 (ns.map V.str) t]=some (.int .i64 (titledE ns ((ns.length:Int)-1))):=by
 have hl:=List.length_pos_iff.2 hne
 have w0:IntKind.i64.wrap ((ns.length:Int)-1)=(ns.length:Int)-1:=wrap64 (by omega) (by omega)
 obtain⟨s,hg⟩: ∃s,getI ns ((ns.length:Int)-1)=some s:=by
  rcases getI_cases ns ((ns.length:Int)-1)with⟨a,_,_,h⟩|⟨h,_⟩
  ·exact⟨a,h⟩
  ·omega
 have hs:=hb s (getI_mem hg)
 have hp:=rplain822 s hs
 have hlp:=loop849 ns t s hn hb hs _ 0 (by omega) (by omega) rfl
 have e1:((ns.length:Int)-1).toNat=ns.length-1:=by omega
 rw[show(0:Int).toNat=0 from rfl,List.drop_zero]at hlp
 rw[callRO_K fn849]
 have ht:titledE ns ((ns.length:Int)-1)=if plainN s=false then 4 else if(ns.take (ns.length-1)).any (fun x=>decide (keyL x=keyL s))=true then 6 else 0:=by unfold titledE;rw[hg,e1]
 rw[ht]
 generalize (ns.take (ns.length-1)).any (fun x=>decide (keyL x=keyL s))=c at*
 cases c1:plainN s with
 |false=>
  rw[c1]at hp
  simp -implicitDefEqProofs [w0,hg,hp]
 |true=>
  rw[c1]at hp
  cases c with
  |true=>
   rw[if_pos rfl]at hlp
   simp -implicitDefEqProofs [w0,hg,hp,hlp]
  |false=>
   rw[if_neg (by simp)]at hlp
   simp -implicitDefEqProofs [w0,hg,hp,hlp]
theorem idxK_any(k:List UInt8): ∀(r:List (List UInt8)) (i:Int),0≤i→(0≤idxK k r i↔r.any (fun x=>decide (keyL x=k))=true)
 |[],i,_=>by simp[idxK]
 |t::r,i,h=>by
  simp only[idxK,List.any_cons,Bool.or_eq_true,decide_eq_true_eq]
  split
  ·rename_i e;simp[e,h]
  ·rename_i e;rw[idxK_any k r (i+1) (by omega)];simp[e]
theorem loop821_0(h:Header)(y:Field)(i:Int)(sum:V)(hi:getI h.Fields.l i=some y)(hl:h.Fields.l.length≤16)(hb: ∀f∈h.Fields.l,f.Name.s.length≤17592186044416): ∀(r:List Field) (k:Int),0≤k→k≤i→(h.Fields.l.take i.toNat).drop k.toNat=r→(orc vp).loop 0 [1,3,4,5,6] L821_0 [(1,.ptr 0 1 0 0),(3,sum),(4,.int .i64 i),(5,.ptr 1 1 0 0),(6,.int .i64 k)] [.arr [h.v],.arr [y.v]]=
 (if r.any (fun x=>decide (keyL x.Name.s=keyL y.Name.s))=true then some (.ret,[(2,.int .i64 6)],[.arr [h.v],.arr [y.v]])else some (.brk 2,[(1,.ptr 0 1 0 0),(3,sum),(4,.int .i64 i),(5,.ptr 1 1 0 0),(6,.int .i64 i),(37,.bool false)],[.arr [h.v],.arr [y.v]])):=by
 have hil:=getI_lt hi
 intro r
 induction r with
 |nil=>
  intro k hk hkl hd
  have hle:=drop_nil hk hd
  have hlt: ¬k<i:=by simp at hle;omega
  have he:k=i:=by omega
  rw[lp821_0]
  simp -implicitDefEqProofs [hlt,he]
 |cons x r ih=>
  intro k hk hkl hd
  obtain⟨hg,hlt,hd'⟩:=drop_cons hk hd
  have hlt:k<i:=by simp at hlt;omega
  rw[getI_take hk hlt]at hg
  have w1:IntKind.i64.wrap (k+1)=k+1:=wrap64 (by omega) (by omega)
  have ih:=ih (k+1) (by omega) (by omega) hd'
  have ha:=alike818 x.Name.s y.Name.s (hb x (getI_mem hg)) (hb y (getI_mem hi))
  rw[lp821_0]
  by_cases c:keyL x.Name.s=keyL y.Name.s
  ·simp -implicitDefEqProofs [hlt,hg,ha,c]
  ·simp -implicitDefEqProofs [w1,hlt,hg,ha,c,ih]
theorem loop821_1(h:Header)(hl:h.Fields.l.length≤16)(hb: ∀f∈h.Fields.l,f.Name.s.length≤17592186044416): ∀(r:List Field) (k sum:Int),0≤k→k≤h.Fields.l.length→h.Fields.l.drop k.toNat=r→0≤sum→sum≤128*k→∃h1 s1,(orc vp).loop 0 [1,3,4] L821_1 [(1,.ptr 0 1 0 0),(3,.int .i64 sum),(4,.int .i64 k)] [.arr [h.v]]=
 (match fieldsR r ((h.Fields.l.take k.toNat).map fun f=>f.Name.s) sum with
  |none=>some (.ret,[(2,.int .i64 (fieldsE r ((h.Fields.l.take k.toNat).map fun f=>f.Name.s) sum))],h1)
  |some (_,s)=>some (.brk 0,[(1,.ptr 0 1 0 0),(3,.int .i64 s),(4,.int .i64 s1),(23,.bool false)],[.arr [h.v]])):=by
 intro r
 induction r with
 |nil=>
  intro k sum hk hkl hd _ _
  have hle:=drop_nil hk hd
  have hlt: ¬k<h.Fields.l.length:=by omega
  refine⟨[],k,?_⟩
  rw[lp821_1]
  simp -implicitDefEqProofs [hlt,fieldsR]
 |cons y r ih=>
  intro k sum hk hkl hd h0 h1
  obtain⟨hg,hlt,hd'⟩:=drop_cons hk hd
  have w1:IntKind.i64.wrap (k+1)=k+1:=wrap64 (by omega) (by omega)
  have hp:=rplain822 y.Name.s (hb y (getI_mem hg))
  have hi:=loop821_0 h y k (.int .i64 sum) hg hl hb _ 0 (by omega) hk rfl
  rw[show(0:Int).toNat=0 from rfl,List.drop_zero]at hi
  have hany:(0≤idxK (keyL y.Name.s) ((h.Fields.l.take k.toNat).map fun f=>f.Name.s) 0)↔(h.Fields.l.take k.toNat).any (fun x=>decide (keyL x.Name.s=keyL y.Name.s))=true:=by
   rw[idxK_any _ _ 0 (by omega),List.any_map];rfl
  have ih:=ih (k+1)
  have ht:((h.Fields.l.take (k+1).toNat).map fun f=>f.Name.s)=((h.Fields.l.take k.toNat).map fun f=>f.Name.s)++[y.Name.s]:=by
   rw[show(k+1).toNat=k.toNat+1 by omega,List.take_add_one]
   rw[getI,if_pos hk]at hg
   simp[hg]
  rw[ht]at ih
  generalize (h.Fields.l.take k.toNat).map (fun f=>f.Name.s)=ns at*
  generalize (h.Fields.l.take k.toNat).any (fun x=>decide (keyL x.Name.s=keyL y.Name.s))=dup at*
  rw[lp821_1]
  cases c1:plainN y.Name.s with
  |false=>
   rw[c1]at hp
   refine⟨[.arr [h.v],.arr [y.v]],0,?_⟩
   simp -implicitDefEqProofs [hlt,hg,hp,fieldsR,fieldsE,c1]
  |true=>
   rw[c1]at hp
   by_cases c2:dup=true
   ·rw[if_pos c2]at hi
    have c3:=hany.2 c2
    refine⟨[.arr [h.v],.arr [y.v]],0,?_⟩
    simp -implicitDefEqProofs [hlt,hg,hp,hi,fieldsR,fieldsE,c1,c3]
   ·rw[if_neg c2]at hi
    have c3: ¬0≤idxK (keyL y.Name.s) ns 0:=fun e=>c2 (hany.1 e)
    by_cases c4:1≤y.W.n
    ·by_cases c5:y.W.n≤128
     ·have c4': ¬y.W.n<1:=by omega
      have c5': ¬128<y.W.n:=by omega
      have w2:IntKind.i64.wrap (sum+y.W.n)=sum+y.W.n:=wrap64 (by omega) (by omega)
      obtain⟨h1,s1,ih⟩:=ih (sum+y.W.n) (by omega) (by omega) hd' (by omega) (by omega)
      refine⟨h1,s1,?_⟩
      simp -implicitDefEqProofs [hlt,hg,hp,hi,fieldsR,fieldsE,c1,c3,c4,c5,c4',c5',w1,w2,ih]
     ·have c4': ¬y.W.n<1:=by omega
      refine⟨[.arr [h.v],.arr [y.v]],0,?_⟩
      simp -implicitDefEqProofs [hlt,hg,hp,hi,fieldsR,fieldsE,c1,c3,c4,c4',c5]
    ·refine⟨[.arr [h.v],.arr [y.v]],0,?_⟩
     simp -implicitDefEqProofs [hlt,hg,hp,hi,fieldsR,fieldsE,c1,c3,c4]
theorem fieldsR_none: ∀(r:List Field) (ns:List (List UInt8)) (sum:Int),fieldsR r ns sum=none→fieldsE r ns sum≠0
 |[],_,_,h=>by simp[fieldsR]at h
 |f::r,ns,sum,h=>by
  simp only[fieldsR,fieldsE]at h⊢
  split
  ·omega
  ·split
   ·omega
   ·split
    ·rename_i h1 h2 h3
     rw[if_neg h1,if_neg h2,if_pos h3]at h
     exact fieldsR_none r _ _ h
    ·omega
set_option maxHeartbeats 2000000 in
set_option maxRecDepth 100000 in
theorem rmay821(h:Header)(hn:h.Name.s.length≤17592186044416)(hb:h.Fields.l.length≤16→∀f∈h.Fields.l,f.Name.s.length≤17592186044416):callRO vp 821 [h.v]=some (.int .i64 (mayH h)):=by
 have hp:=rplain822 h.Name.s hn
 rw[callRO_K fn821]
 unfold mayH
 cases c1:plainN h.Name.s with
 |false=>
  rw[c1]at hp
  simp -implicitDefEqProofs [hp]
 |true=>
  rw[c1]at hp
  by_cases c2:16<h.Fields.l.length
  ·have c2':(16:Int)<h.Fields.l.length:=by omega
   simp -implicitDefEqProofs [hp,c2,c2']
  ·have c2': ¬(16:Int)<h.Fields.l.length:=by omega
   by_cases c3:h.Fields.l=[]
   ·simp -implicitDefEqProofs [hp,c2,c2',c3]
   ·have hb:=hb (by omega)
    obtain⟨h1,s1,hl⟩:=loop821_1 h (by omega) hb h.Fields.l 0 0 (by omega) (by omega) rfl (by omega) (by omega)
    simp only[show(0:Int).toNat=0 from rfl,List.take_zero,List.map_nil]at hl
    cases hr:fieldsR h.Fields.l [] 0 with
    |none=>
     rw[hr]at hl
     have hne:=fieldsR_none _ _ _ hr
     simp -implicitDefEqProofs [hp,c2,c2',c3,hl,hne]
    |some q=>
     obtain⟨ns,s⟩:=q
     rw[hr]at hl
     have he:=fieldsR_E _ _ _ hr
     have hs:=fieldsR_nn _ _ _ (by omega) hr
     have hm:=tmod8 hs
     have hrem:binV .rem (.int .i64 s) (.int .i64 8)=some (.int .i64 (s%8)):=by rw[bin_rem _ _ _ (by decide),hm]
     rw[he]
     by_cases c4:s%8=0
     ·have c4': ¬¬(s%8=0):=fun x=>x c4
      simp only[c4,if_true]
      unfold variesB
      by_cases d0:h.Var.n=0
      ·by_cases d1:h.By.n=0<;>by_cases d2:h.Mul.n=0<;>by_cases d3:h.Sub.n=0<;>simp -implicitDefEqProofs [hp,c2,c2',c3,hl,hrem,c4,d0,d1,d2,d3]
      ·by_cases d1:1≤h.Var.n
       ·by_cases d2:h.Var.n≤64
        ·have d2': ¬64<h.Var.n:=by omega
         have d1': ¬h.Var.n<1:=by omega
         rcases getI_cases h.Fields.l h.By.n with⟨y,e0,e1,eg⟩|⟨e0,eg⟩
         ·have e0': ¬h.By.n<0:=by omega
          have e1': ¬(h.Fields.l.length:Int)≤h.By.n:=by omega
          by_cases g1:y.W.n≤16
          ·have g1': ¬16<y.W.n:=by omega
           by_cases g2:1≤h.Mul.n
           ·have g2': ¬h.Mul.n<1:=by omega
            by_cases g3:h.Mul.n≤64
            ·have g3': ¬64<h.Mul.n:=by omega
             by_cases g4:0≤h.Sub.n
             ·have g4': ¬h.Sub.n<0:=by omega
              by_cases g5:h.Sub.n≤4096
              ·have g5': ¬4096<h.Sub.n:=by omega
               simp -implicitDefEqProofs [hp,c2,c2',c3,hl,hrem,c4,d0,d1,d2,d1',d2',eg,e0',e1',g1,g1',g2,g2',g3,g3',g4,g4',g5,g5',inB]
              ·have g5':4096<h.Sub.n:=by omega
               simp -implicitDefEqProofs [hp,c2,c2',c3,hl,hrem,c4,d0,d1,d2,d1',d2',eg,e0',e1',g1,g1',g2,g2',g3,g3',g4,g4',g5,g5',inB]
             ·have g4':h.Sub.n<0:=by omega
              simp -implicitDefEqProofs [hp,c2,c2',c3,hl,hrem,c4,d0,d1,d2,d1',d2',eg,e0',e1',g1,g1',g2,g2',g3,g3',g4,g4',inB]
            ·have g3':64<h.Mul.n:=by omega
             simp -implicitDefEqProofs [hp,c2,c2',c3,hl,hrem,c4,d0,d1,d2,d1',d2',eg,e0',e1',g1,g1',g2,g2',g3,g3',inB]
           ·have g2':h.Mul.n<1:=by omega
            simp -implicitDefEqProofs [hp,c2,c2',c3,hl,hrem,c4,d0,d1,d2,d1',d2',eg,e0',e1',g1,g1',g2,g2',inB]
          ·have g1':16<y.W.n:=by omega
           simp -implicitDefEqProofs [hp,c2,c2',c3,hl,hrem,c4,d0,d1,d2,d1',d2',eg,e0',e1',g1,g1',inB]
         ·by_cases e1:h.By.n<0
          ·simp -implicitDefEqProofs [hp,c2,c2',c3,hl,hrem,c4,d0,d1,d2,d1',d2',eg,e1,inB]
          ·have e2:(h.Fields.l.length:Int)≤h.By.n:=by omega
           simp -implicitDefEqProofs [hp,c2,c2',c3,hl,hrem,c4,d0,d1,d2,d1',d2',eg,e1,e2,inB]
        ·have d2':64<h.Var.n:=by omega
         have d1': ¬h.Var.n<1:=by omega
         simp -implicitDefEqProofs [hp,c2,c2',c3,hl,hrem,c4,d0,d1,d2,d1',d2',inB]
       ·have d1':h.Var.n<1:=by omega
        simp -implicitDefEqProofs [hp,c2,c2',c3,hl,hrem,c4,d0,d1,d1',inB]
     ·simp -implicitDefEqProofs [hp,c2,c2',c3,hl,hrem,c4]
end Go.VE.Un
