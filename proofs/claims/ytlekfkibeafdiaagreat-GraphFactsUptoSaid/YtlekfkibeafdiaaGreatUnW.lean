/- The evaluator's table is this program's, and what the library's functions answer. Printed by a program. -/
import Derived.Test.YtlekfkibeafdiaaGreatUnC
import Derived.Test.YtlekfkibeafdiaaGreatUnExt
import Derived.Shelf.Spec.BitsCarry
namespace Go.VE.Un
open Go.VE Go.RowKit
set_option maxRecDepth 100000
def ZtV:List (Nat ×Nat)→Bool
 |[]=>true
 |p::l=>(l.all fun q=> !(q.2==p.2))&&ZtV l
theorem Zjd: ∀{l:List (Nat ×Nat)},ZtV l=true→∀i j t,(i,t)∈l→(j,t)∈l→i=j
 |[],_,i,j,t,h,_=>by simp at h
 |p::l,h,i,j,t,h1,h2=>by
  simp only[ZtV,Bool.and_eq_true,List.all_eq_true,Bool.not_eq_true',beq_eq_false_iff_ne]at h
  rcases List.mem_cons.1 h1 with e1|h1<;>rcases List.mem_cons.1 h2 with e2|h2
  ·have:=e1.trans (Eq.refl p);rw[←e2]at e1;exact(Prod.mk.inj e1).1
  ·exact absurd (by rw[←e1]) (h.1 _ h2)
  ·exact absurd (by rw[←e2]) (h.1 _ h1)
  ·exact Zjd h.2 i j t h1 h2
theorem Zfi: ∀i j t,tbl.tid i=some t→tbl.tid j=some t→i=j:=fun i j t h1 h2=>
 Zjd (l:=Zwx.toList) (by kernel_rfl) i j t (WM.get_mem h1) (WM.get_mem h2)
theorem Zxd:U6 Go.Proofs.Tryz.prog tbl vp0 where
 mix:=by kernel_rfl
 inj:=Zfi
 fn:=fun f vf hf _=>by
  simp only[vp0]at hf
  split at hf
  ·rename_i e;subst e;simp only[Option.some.injEq]at hf;subst hf;exact⟨151,Go.Proofs.Tryz.f151,by kernel_rfl,Go.Proofs.Tryz.func151,by kernel_rfl⟩
  ·split at hf
   ·rename_i e;subst e;simp only[Option.some.injEq]at hf;subst hf;exact⟨79,Go.Proofs.Tryz.f79,by kernel_rfl,Go.Proofs.Tryz.func79,by kernel_rfl⟩
   ·split at hf
    ·rename_i e;subst e;simp only[Option.some.injEq]at hf;subst hf;exact⟨121,Go.Proofs.Tryz.f121,by kernel_rfl,Go.Proofs.Tryz.func121,by kernel_rfl⟩
    ·simp at hf
 ext:=fun f vf p hf hx=>by
  simp only[vp0]at hf
  split at hf
  ·simp only[Option.some.injEq]at hf;subst hf;cases hx
  ·split at hf
   ·simp only[Option.some.injEq]at hf;subst hf;cases hx
   ·split at hf
    ·simp only[Option.some.injEq]at hf;subst hf;cases hx
    ·simp at hf
 meth:=fun t m f h=>by simp[vp0]at h
theorem Zsh{fid:FuncId}{fn:Func}{c:Code}(hf:Go.Proofs.Tryz.prog.funcs[fid]? =some fn)(hn:fn.name≠ "runtime.NumGoroutine")(hb:fn.body=some c)(us:Array Value)(w:World):(callFunc fid us).run Go.Proofs.Tryz.prog w=.ok (.enter fid us) w:=
 JB hf hn hb us
theorem ZsF:Zat Go.Proofs.Tryz.prog tbl 560 ZkM:=
 Za1 (fid:=124) (by kernel_rfl) (fun us w=>Zsh Go.Proofs.Tryz.func124 (by decide) rfl us w) fun G vs us r hR hp=>by
  unfold ZkM at hp
  split at hp
  ·rename_i l
   split at hp
   ·rename_i hl
    simp only[Option.some.injEq]at hp;subst hp
    obtain⟨a,rfl,ha⟩:=hR.get1
    obtain⟨s,rfl,hs⟩:=ha.str_inv
    refine⟨rfl,.string ⟨(Yl l).toArray⟩,fun T G=>.str _ _ (by simp),fun w=> ?_⟩
    have hsz:s.size≤35184372088831:=by rw[←hs]at hl;simpa using hl
    have:=Go.Proofs.Tryz.key_walk (fun W c=>Zg8 Zxd (by kernel_rfl) W c) s w hsz
    have he:Yl l=keyB s:=by unfold Yl;rw[←hs]
    rw[he];exact this
   ·simp at hp
  ·simp at hp
theorem ZeM:Zat Go.Proofs.Tryz.prog tbl 1234 ZfJ:=
 Za1 (fid:=123) (by kernel_rfl) (fun us w=>Zsh Go.Proofs.Tryz.func123 (by decide) rfl us w) fun G vs us r hR hp=>by
  unfold ZfJ at hp
  split at hp
  ·rename_i l c
   simp only[Option.some.injEq]at hp;subst hp
   obtain⟨a,b,rfl,ha,hb⟩:=hR.get2
   obtain⟨s,rfl,hs⟩:=ha.str_inv
   obtain⟨t,rfl,ht⟩:=hb.str_inv
   refine⟨rfl,.bool (decide (0≤Lib.indexByte l c)),fun T G=>.bool _,fun w=> ?_⟩
   have ht':t=⟨#[c]⟩:=by
    cases t;rename_i d
    congr 1
    cases d
    simp at ht;subst ht;rfl
   subst ht'
   refine(Go.Proofs.Tryz.strings_Contains_one s c w).mono fun e w' ⟨h1,h2⟩=> ?_
   subst h2
   rw[←hs]
   exact⟨h1,Below.refl _ _⟩
  ·simp at hp
theorem Zmm:Zat Go.Proofs.Tryz.prog tbl 378 ZlG:=
 ZnE (fid:=196) (by kernel_rfl) fun G vs us r hR hp=>by
  unfold ZlG at hp
  split at hp
  ·rename_i x y b
   split at hp
   ·rename_i hc
    simp only[Option.some.injEq]at hp;subst hp
    obtain⟨a1,a2,a3,rfl,h1,h2,h3⟩:=hR.get3
    rw[h1.int_inv,h2.int_inv,h3.int_inv]
    refine⟨rfl,.tuple #[.int .u64 (((x.toNat+18446744073709551616-y.toNat-b.toNat)%18446744073709551616:Nat):Int),.int .u64 ((if x.toNat<y.toNat+b.toNat then 1 else 0:Nat):Int)],fun T G=> ?_,fun w=> ?_⟩
    ·refine .tup _ _ rfl fun i v rv e1 e2=> ?_
     match i,e1,e2 with
     |0,e1,e2=>simp at e1 e2;subst e1;subst e2;exact .int _ _
     |1,e1,e2=>simp at e1 e2;subst e1;subst e2;exact .int _ _
     |(i+2),e1,e2=>simp at e1
    ·have:=Go.Proofs.Tryz.bits_Sub64_nat x.toNat y.toNat b.toNat (by omega) w
     rw[Int.toNat_of_nonneg hc.1,Int.toNat_of_nonneg hc.2.1,Int.toNat_of_nonneg hc.2.2.1]at this
     exact this
   ·simp at hp
  ·simp at hp
theorem Zng:Zat Go.Proofs.Tryz.prog tbl 374 Zkv:=
 Za1 (fid:=174) (by kernel_rfl) (fun us w=>Zsh Go.Proofs.Tryz.func174 (by decide) rfl us w) fun G vs us r hR hp=>by
  unfold Zkv at hp
  split at hp
  ·rename_i x
   split at hp
   ·rename_i hc
    simp only[Option.some.injEq]at hp;subst hp
    obtain⟨a,rfl,ha⟩:=hR.get1
    rw[ha.int_inv]
    refine⟨rfl,.int .i64 (Lib.bitLen x.toNat),fun T G=>.int _ _,fun w=> ?_⟩
    refine(Go.Proofs.Tryz.bits_Len64 x w hc.1 hc.2).mono fun e w' ⟨h1,h2⟩=> ?_
    subst h2
    exact⟨h1,Below.refl _ _⟩
   ·simp at hp
  ·simp at hp
noncomputable def cq (i:Nat):Bool:=((fns.toList.drop (i*20)).take 20).all (Zos Go.Proofs.Tryz.prog tbl vp)
theorem cq0:cq 0=true:=by kernel_rfl
theorem cq1:cq 1=true:=by kernel_rfl
theorem cq2:cq 2=true:=by kernel_rfl
theorem cq3:cq 3=true:=by kernel_rfl
theorem cq4:cq 4=true:=by kernel_rfl
theorem cq5:cq 5=true:=by kernel_rfl
theorem cq6:cq 6=true:=by kernel_rfl
theorem cq7:cq 7=true:=by kernel_rfl
theorem cq8:cq 8=true:=by kernel_rfl
theorem ZnP: ∀p∈fns.toList,Zos Go.Proofs.Tryz.prog tbl vp p=true:=Zaj (n:=20) (k:=9) (of_decide_eq_true (by kernel_rfl)) fun i hi=>match i,hi with
 |0,_=>cq0
 |1,_=>cq1
 |2,_=>cq2
 |3,_=>cq3
 |4,_=>cq4
 |5,_=>cq5
 |6,_=>cq6
 |7,_=>cq7
 |8,_=>cq8
 |i+9,h=>absurd h (by omega)
theorem exts:(fns.toList.filter fun p=>p.2.ext.isSome)=[(374,x374),(378,x378),(560,x560),(1234,x1234)]:=by kernel_rfl
theorem tied:U6 Go.Proofs.Tryz.prog tbl vp where
 mix:=by kernel_rfl
 inj:=Zfi
 fn:=fun f vf hf hx=>Zqb (ZnP _ (WM.get_mem hf)) hx
 ext:=fun f vf p hf hx=>by
  have h:=(List.mem_filter (p:=fun p:Nat ×Zi=>p.2.ext.isSome)).2 ⟨WM.get_mem hf,by simp[hx]⟩
  rw[exts]at h
  simp only[List.mem_cons,Prod.mk.injEq,List.not_mem_nil,or_false]at h
  rcases h with⟨rfl,rfl⟩|⟨rfl,rfl⟩|⟨rfl,rfl⟩|⟨rfl,rfl⟩
  ·cases hx;exact Zng
  ·cases hx;exact Zmm
  ·cases hx;exact ZsF
  ·cases hx;exact ZeM
 meth:=fun t m f h=>by simp[vp]at h
end Go.VE.Un
