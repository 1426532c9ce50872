/- Joined texts: CfK. No condition: what each theorem needs stands in it. -/
import Derived.Test.YtieifgngaaccmaaGreatCc16
namespace Go.VE.Un
open Go.VE
theorem eqKs_b: ∀(a b:List Bool),a.length=b.length→eqKs (List.replicate a.length .b) (a.map V.bool) (b.map V.bool)=some (decide (a=b))
 |[],[],_=>rfl
 |x::a,y::b,h=>by
  have ih:=eqKs_b a b (by simpa using h)
  simp only[List.length_cons,List.replicate_succ,List.map_cons,eqKs,eqK,Option.bind_some,ih]
  cases x<;>cases y<;>simp
 |[],_::_,h=>by simp at h
 |_::_,[],h=>by simp at h
theorem bits_inj{a b:Sl}(h:bitsS a=bitsS b):a=b:=BitVec.eq_of_getLsbD_eq fun k hk=>by
 have:=congrArg (·[k]?) h
 simp only[bitsS_get a k hk,bitsS_get b k hk]at this
 exact Option.some.inj this
theorem eqV_set(a b:Sl):eqV (some (List.replicate 64 .b)) (setV a) (setV b)=some (decide (a=b)):=by
 have h:=eqKs_b (bitsS a) (bitsS b) (by simp)
 rw[bitsS_len]at h
 have e:eqV (some (List.replicate 64 .b)) (setV a) (setV b)=eqKs (List.replicate 64 .b) ((bitsS a).map V.bool) ((bitsS b).map V.bool):=by
  unfold setV bsV eqV
  simp only
  rw[if_pos ⟨by simp,by simp⟩]
 rw[e,h]
 congr 1
 by_cases c:a=b
 ·simp[c]
 ·simp[c];exact fun q=>c (bits_inj q)
theorem of905_0:callRO vp 905 [.int .u64 0]=some (setV 0#64):=of905 0#64
theorem overS_err11(m:Image)(n:Nat): ∀(r:List Ins) (i:Nat) (P:List (Bool ×Sl)) {j:Nat} {e:Int},(overS m n r i P).1=some (j,e)→e=11
 |[],_,_,_,_,h=>by simp[overS]at h
 |x::r,i,P,j,e,h=>by
  simp only[overS]at h
  split at h
  ·exact overS_err11 m n r _ _ h
  ·split at h
   ·rename_i c;simp at h;rw[←h.2];exact doesS_err m x _ c
   ·split at h
    ·exact overS_err11 m n r _ _ h
    ·exact overS_err11 m n r _ _ h
set_option maxRecDepth 100000 in
theorem flowCodes(m:Image)(hm:Clo m)(hT:Tiny m)(hsm:Small m)(l:GL Ins)(a:U64)(hlv:callRO vp 699 []=some (.bool true)):callRO vp 694 [m.v,GL.v 6 Ins.v l,.int .u64 a.n]=some (.bool true):=by
 have hr:=right701 m hm hT
 have hz:=rp_bs
 rw[u64_sV a,callRO_K fn694]
 generalize BitVec.ofInt 64 a.n=s
 cases h:rightB m
 ·simp -implicitDefEqProofs [hr,h,hlv]
 ·by_cases hl:(100:Int)<l.l.length
  ·simp -implicitDefEqProofs [hr,h,hlv,hl]
  ·obtain⟨hc,_⟩:=right_ok h
   have c1:=code461 m hm hsm (fun h=>(stk_of h).1) l s
   have c2:=rcode829 m hm hT.insts l 8
   have c3:=of905 s
   unfold flowC at c1
   by_cases hk:codeF m l.l 8=0
   ·rw[if_pos ⟨hc,hk⟩]at c1
    obtain⟨h1,h2,h3⟩:=code_fine hk
    have c4:=rover906 m hT.insts (stk_of hc).1 l h2 (allC_none h1).1 h3 s
    have he:=fun {j e}=>overS_err11 m l.l.length l.l 0 (startP l.l.length s) (j:=j) (e:=e)
    generalize overS m l.l.length l.l 0 (startP l.l.length s)=q at c1 c4 he
    obtain⟨o,P⟩:=q
    cases o with
    |some je=>
     obtain⟨j,e⟩:=je
     obtain rfl:=he rfl
     simp only[flowA]at c1
     simp only[overA]at c4
     have c5:=of905_0
     have c6:=eqV_set 0#64 0#64
     simp -implicitDefEqProofs [-List.reduceReplicate,hr,h,hlv,hl,hz,c1,c2,hk,c3,c4,c5,c6]
    |none=>
     simp only[flowA]at c1
     simp only[overA]at c4
     generalize (P.getD l.l.length (false,0)).2=x at c1 c4
     have c5:=of905 x
     have c6:=eqV_set x x
     simp -implicitDefEqProofs [-List.reduceReplicate,hr,h,hlv,hl,hz,c1,c2,hk,c3,c4,c5,c6]
   ·rw[if_neg (fun h=>hk h.2)]at c1
    simp -implicitDefEqProofs [hr,h,hlv,hl,hz,c1,c2,hk]
end Go.VE.Un
