/- The evaluator's table is this program's, and what the library's functions answer. Printed by a program. -/
import Derived.Test.YtieifgngaaccmaaGreatUnC
import Derived.Test.YtieifgngaaccmaaGreatUnExt
import Derived.Shelf.Spec.BitsCarry
namespace Go.VE.Un
open Go.VE Go.RowKit
set_option maxRecDepth 100000
theorem lift_nil{α:Type}{Q:α→Prop}: ∀p∈([]:List α),Q p:=by simp
theorem lift_cons{α:Type}{Q:α→Prop}{a:α}{l:List α}(h:Q a)(k: ∀p∈l,Q p): ∀p∈a::l,Q p:=fun p hp=>by
 rcases List.mem_cons.1 hp with rfl|hp
 ·exact h
 ·exact k p hp
def injL:List (Nat ×Nat)→Bool
 |[]=>true
 |p::l=>(l.all fun q=> !(q.2==p.2))&&injL l
theorem injL_ok: ∀{l:List (Nat ×Nat)},injL l=true→∀i j t,(i,t)∈l→(j,t)∈l→i=j
 |[],_,i,j,t,h,_=>by simp at h
 |p::l,h,i,j,t,h1,h2=>by
  simp only[injL,Bool.and_eq_true,List.all_eq_true,Bool.not_eq_true',beq_eq_false_iff_ne]at h
  rcases List.mem_cons.1 h1 with e1|h1<;>rcases List.mem_cons.1 h2 with e2|h2
  ·have:=e1.trans (Eq.refl p);rw[←e2]at e1;exact(Prod.mk.inj e1).1
  ·exact absurd (by rw[←e1]) (h.1 _ h2)
  ·exact absurd (by rw[←e2]) (h.1 _ h1)
  ·exact injL_ok h.2 i j t h1 h2
theorem tids_inj: ∀i j t,tbl.tid i=some t→tbl.tid j=some t→i=j:=fun i j t h1 h2=>
 injL_ok (l:=tids.toList) (by kernel_rfl) i j t (Tree.get_mem h1) (Tree.get_mem h2)
theorem tied0:Tied Go.Proofs.Tryz.prog tbl vp0 where
 mix:=by kernel_rfl
 inj:=tids_inj
 fn:=fun f vf hf _=>by
  simp only[vp0]at hf
  split at hf
  ·rename_i e;subst e;simp only[Option.some.injEq]at hf;subst hf;exact⟨165,Go.Proofs.Tryz.f165,by kernel_rfl,Go.Proofs.Tryz.func165,by kernel_rfl⟩
  ·split at hf
   ·rename_i e;subst e;simp only[Option.some.injEq]at hf;subst hf;exact⟨97,Go.Proofs.Tryz.f97,by kernel_rfl,Go.Proofs.Tryz.func97,by kernel_rfl⟩
   ·split at hf
    ·rename_i e;subst e;simp only[Option.some.injEq]at hf;subst hf;exact⟨141,Go.Proofs.Tryz.f141,by kernel_rfl,Go.Proofs.Tryz.func141,by kernel_rfl⟩
    ·simp at hf
 ext:=fun f vf p hf hx=>by
  simp only[vp0]at hf
  split at hf
  ·simp only[Option.some.injEq]at hf;subst hf;cases hx
  ·split at hf
   ·simp only[Option.some.injEq]at hf;subst hf;cases hx
   ·split at hf
    ·simp only[Option.some.injEq]at hf;subst hf;cases hx
    ·simp at hf
 meth:=fun t m f h=>by simp[vp0]at h
theorem runs{fid:FuncId}{fn:Func}{c:Code}(hf:Go.Proofs.Tryz.prog.funcs[fid]? =some fn)(hn:fn.name≠ "runtime.NumGoroutine")(hb:fn.body=some c)(us:Array Value)(w:World):(callFunc fid us).run Go.Proofs.Tryz.prog w=.ok (.enter fid us) w:=
 callFunc_run hf hn hb us
theorem extKey:ExtOK Go.Proofs.Tryz.prog tbl 560 p560:=
 extOK_of (fid:=146) (by kernel_rfl) (fun us w=>runs Go.Proofs.Tryz.func146 (by decide) rfl us w) fun G vs us r hR hp=>by
  unfold p560 at hp
  split at hp
  ·rename_i l
   split at hp
   ·rename_i hl
    simp only[Option.some.injEq]at hp;subst hp
    obtain⟨a,rfl,ha⟩:=hR.get1
    obtain⟨s,rfl,hs⟩:=ha.str_inv
    refine⟨rfl,.string ⟨(keyL l).toArray⟩,fun T G=>.str _ _ (by simp),fun w=> ?_⟩
    have hsz:s.size≤35184372088831:=by rw[←hs]at hl;simpa using hl
    have:=Go.Proofs.Tryz.key_walk (fun W c=>fold_calls tied0 (by kernel_rfl) W c) s w hsz
    have he:keyL l=keyB s:=by unfold keyL;rw[←hs]
    rw[he];exact this
   ·simp at hp
  ·simp at hp
theorem extContains:ExtOK Go.Proofs.Tryz.prog tbl 1234 p1234:=
 extOK_of (fid:=145) (by kernel_rfl) (fun us w=>runs Go.Proofs.Tryz.func145 (by decide) rfl us w) fun G vs us r hR hp=>by
  unfold p1234 at hp
  split at hp
  ·rename_i l c
   simp only[Option.some.injEq]at hp;subst hp
   obtain⟨a,b,rfl,ha,hb⟩:=hR.get2
   obtain⟨s,rfl,hs⟩:=ha.str_inv
   obtain⟨t,rfl,ht⟩:=hb.str_inv
   refine⟨rfl,.bool (decide (0≤Lib.indexByte l c)),fun T G=>.bool _,fun w=> ?_⟩
   have ht':t=⟨#[c]⟩:=by
    cases t;rename_i d
    congr 1
    cases d
    simp at ht;subst ht;rfl
   subst ht'
   refine(Go.Proofs.Tryz.strings_Contains_one s c w).mono fun e w' ⟨h1,h2⟩=> ?_
   subst h2
   rw[←hs]
   exact⟨h1,Below.refl _ _⟩
  ·simp at hp
theorem extSub64:ExtOK Go.Proofs.Tryz.prog tbl 378 p378:=
 extOK_at (fid:=189) (by kernel_rfl) fun G vs us r hR hp=>by
  unfold p378 at hp
  split at hp
  ·rename_i x y b
   split at hp
   ·rename_i hc
    simp only[Option.some.injEq]at hp;subst hp
    obtain⟨a1,a2,a3,rfl,h1,h2,h3⟩:=hR.get3
    rw[h1.int_inv,h2.int_inv,h3.int_inv]
    refine⟨rfl,.tuple #[.int .u64 (((x.toNat+18446744073709551616-y.toNat-b.toNat)%18446744073709551616:Nat):Int),.int .u64 ((if x.toNat<y.toNat+b.toNat then 1 else 0:Nat):Int)],fun T G=> ?_,fun w=> ?_⟩
    ·refine .tup _ _ rfl fun i v rv e1 e2=> ?_
     match i,e1,e2 with
     |0,e1,e2=>simp at e1 e2;subst e1;subst e2;exact .int _ _
     |1,e1,e2=>simp at e1 e2;subst e1;subst e2;exact .int _ _
     |(i+2),e1,e2=>simp at e1
    ·have:=Go.Proofs.Tryz.bits_Sub64_nat x.toNat y.toNat b.toNat (by omega) w
     rw[Int.toNat_of_nonneg hc.1,Int.toNat_of_nonneg hc.2.1,Int.toNat_of_nonneg hc.2.2.1]at this
     exact this
   ·simp at hp
  ·simp at hp
theorem extLen64:ExtOK Go.Proofs.Tryz.prog tbl 374 p374:=
 extOK_of (fid:=157) (by kernel_rfl) (fun us w=>runs Go.Proofs.Tryz.func157 (by decide) rfl us w) fun G vs us r hR hp=>by
  unfold p374 at hp
  split at hp
  ·rename_i x
   split at hp
   ·rename_i hc
    simp only[Option.some.injEq]at hp;subst hp
    obtain⟨a,rfl,ha⟩:=hR.get1
    rw[ha.int_inv]
    refine⟨rfl,.int .i64 (Lib.bitLen x.toNat),fun T G=>.int _ _,fun w=> ?_⟩
    refine(Go.Proofs.Tryz.bits_Len64 x w hc.1 hc.2).mono fun e w' ⟨h1,h2⟩=> ?_
    subst h2
    exact⟨h1,Below.refl _ _⟩
   ·simp at hp
  ·simp at hp
def tieQ(p:Nat ×VFunc):Prop:=
 (p.2.ext=none→∃fid fn,tbl.fid p.1=some fid∧Go.Proofs.Tryz.prog.funcs[fid]? =some fn∧chkFunc Go.Proofs.Tryz.prog tbl vp fn p.2=true)∧(∀q,p.2.ext=some q→ExtOK Go.Proofs.Tryz.prog tbl p.1 q)
theorem tieR107:tieQ (107,f107):=⟨fun _=>⟨46,Go.Proofs.Tryz.f46,by kernel_rfl,Go.Proofs.Tryz.func46,ck107⟩,fun q h=>(by cases h)⟩
theorem tieR109:tieQ (109,f109):=⟨fun _=>⟨74,Go.Proofs.Tryz.f74,by kernel_rfl,Go.Proofs.Tryz.func74,ck109⟩,fun q h=>(by cases h)⟩
theorem tieR110:tieQ (110,f110):=⟨fun _=>⟨111,Go.Proofs.Tryz.f111,by kernel_rfl,Go.Proofs.Tryz.func111,ck110⟩,fun q h=>(by cases h)⟩
theorem tieR111:tieQ (111,f111):=⟨fun _=>⟨115,Go.Proofs.Tryz.f115,by kernel_rfl,Go.Proofs.Tryz.func115,ck111⟩,fun q h=>(by cases h)⟩
theorem tieR112:tieQ (112,f112):=⟨fun _=>⟨113,Go.Proofs.Tryz.f113,by kernel_rfl,Go.Proofs.Tryz.func113,ck112⟩,fun q h=>(by cases h)⟩
theorem tieR113:tieQ (113,f113):=⟨fun _=>⟨126,Go.Proofs.Tryz.f126,by kernel_rfl,Go.Proofs.Tryz.func126,ck113⟩,fun q h=>(by cases h)⟩
theorem tieR114:tieQ (114,f114):=⟨fun _=>⟨45,Go.Proofs.Tryz.f45,by kernel_rfl,Go.Proofs.Tryz.func45,ck114⟩,fun q h=>(by cases h)⟩
theorem tieR115:tieQ (115,f115):=⟨fun _=>⟨80,Go.Proofs.Tryz.f80,by kernel_rfl,Go.Proofs.Tryz.func80,ck115⟩,fun q h=>(by cases h)⟩
theorem tieR116:tieQ (116,f116):=⟨fun _=>⟨124,Go.Proofs.Tryz.f124,by kernel_rfl,Go.Proofs.Tryz.func124,ck116⟩,fun q h=>(by cases h)⟩
theorem tieR117:tieQ (117,f117):=⟨fun _=>⟨106,Go.Proofs.Tryz.f106,by kernel_rfl,Go.Proofs.Tryz.func106,ck117⟩,fun q h=>(by cases h)⟩
theorem tieR118:tieQ (118,f118):=⟨fun _=>⟨70,Go.Proofs.Tryz.f70,by kernel_rfl,Go.Proofs.Tryz.func70,ck118⟩,fun q h=>(by cases h)⟩
theorem tieR119:tieQ (119,f119):=⟨fun _=>⟨101,Go.Proofs.Tryz.f101,by kernel_rfl,Go.Proofs.Tryz.func101,ck119⟩,fun q h=>(by cases h)⟩
theorem tieR120:tieQ (120,f120):=⟨fun _=>⟨149,Go.Proofs.Tryz.f149,by kernel_rfl,Go.Proofs.Tryz.func149,ck120⟩,fun q h=>(by cases h)⟩
theorem tieR121:tieQ (121,f121):=⟨fun _=>⟨107,Go.Proofs.Tryz.f107,by kernel_rfl,Go.Proofs.Tryz.func107,ck121⟩,fun q h=>(by cases h)⟩
theorem tieR122:tieQ (122,f122):=⟨fun _=>⟨72,Go.Proofs.Tryz.f72,by kernel_rfl,Go.Proofs.Tryz.func72,ck122⟩,fun q h=>(by cases h)⟩
theorem tieR123:tieQ (123,f123):=⟨fun _=>⟨104,Go.Proofs.Tryz.f104,by kernel_rfl,Go.Proofs.Tryz.func104,ck123⟩,fun q h=>(by cases h)⟩
theorem tieR124:tieQ (124,f124):=⟨fun _=>⟨81,Go.Proofs.Tryz.f81,by kernel_rfl,Go.Proofs.Tryz.func81,ck124⟩,fun q h=>(by cases h)⟩
theorem tieR125:tieQ (125,f125):=⟨fun _=>⟨125,Go.Proofs.Tryz.f125,by kernel_rfl,Go.Proofs.Tryz.func125,ck125⟩,fun q h=>(by cases h)⟩
theorem tieR126:tieQ (126,f126):=⟨fun _=>⟨153,Go.Proofs.Tryz.f153,by kernel_rfl,Go.Proofs.Tryz.func153,ck126⟩,fun q h=>(by cases h)⟩
theorem tieR127:tieQ (127,f127):=⟨fun _=>⟨110,Go.Proofs.Tryz.f110,by kernel_rfl,Go.Proofs.Tryz.func110,ck127⟩,fun q h=>(by cases h)⟩
theorem tieR128:tieQ (128,f128):=⟨fun _=>⟨117,Go.Proofs.Tryz.f117,by kernel_rfl,Go.Proofs.Tryz.func117,ck128⟩,fun q h=>(by cases h)⟩
theorem tieR129:tieQ (129,f129):=⟨fun _=>⟨76,Go.Proofs.Tryz.f76,by kernel_rfl,Go.Proofs.Tryz.func76,ck129⟩,fun q h=>(by cases h)⟩
theorem tieR130:tieQ (130,f130):=⟨fun _=>⟨116,Go.Proofs.Tryz.f116,by kernel_rfl,Go.Proofs.Tryz.func116,ck130⟩,fun q h=>(by cases h)⟩
theorem tieR131:tieQ (131,f131):=⟨fun _=>⟨109,Go.Proofs.Tryz.f109,by kernel_rfl,Go.Proofs.Tryz.func109,ck131⟩,fun q h=>(by cases h)⟩
theorem tieR132:tieQ (132,f132):=⟨fun _=>⟨77,Go.Proofs.Tryz.f77,by kernel_rfl,Go.Proofs.Tryz.func77,ck132⟩,fun q h=>(by cases h)⟩
theorem tieR133:tieQ (133,f133):=⟨fun _=>⟨44,Go.Proofs.Tryz.f44,by kernel_rfl,Go.Proofs.Tryz.func44,ck133⟩,fun q h=>(by cases h)⟩
theorem tieR134:tieQ (134,f134):=⟨fun _=>⟨82,Go.Proofs.Tryz.f82,by kernel_rfl,Go.Proofs.Tryz.func82,ck134⟩,fun q h=>(by cases h)⟩
theorem tieR135:tieQ (135,f135):=⟨fun _=>⟨79,Go.Proofs.Tryz.f79,by kernel_rfl,Go.Proofs.Tryz.func79,ck135⟩,fun q h=>(by cases h)⟩
theorem tieR136:tieQ (136,f136):=⟨fun _=>⟨122,Go.Proofs.Tryz.f122,by kernel_rfl,Go.Proofs.Tryz.func122,ck136⟩,fun q h=>(by cases h)⟩
theorem tieR137:tieQ (137,f137):=⟨fun _=>⟨73,Go.Proofs.Tryz.f73,by kernel_rfl,Go.Proofs.Tryz.func73,ck137⟩,fun q h=>(by cases h)⟩
theorem tieR138:tieQ (138,f138):=⟨fun _=>⟨105,Go.Proofs.Tryz.f105,by kernel_rfl,Go.Proofs.Tryz.func105,ck138⟩,fun q h=>(by cases h)⟩
theorem tieR139:tieQ (139,f139):=⟨fun _=>⟨78,Go.Proofs.Tryz.f78,by kernel_rfl,Go.Proofs.Tryz.func78,ck139⟩,fun q h=>(by cases h)⟩
theorem tieR140:tieQ (140,f140):=⟨fun _=>⟨119,Go.Proofs.Tryz.f119,by kernel_rfl,Go.Proofs.Tryz.func119,ck140⟩,fun q h=>(by cases h)⟩
theorem tieR141:tieQ (141,f141):=⟨fun _=>⟨75,Go.Proofs.Tryz.f75,by kernel_rfl,Go.Proofs.Tryz.func75,ck141⟩,fun q h=>(by cases h)⟩
theorem tieR142:tieQ (142,f142):=⟨fun _=>⟨112,Go.Proofs.Tryz.f112,by kernel_rfl,Go.Proofs.Tryz.func112,ck142⟩,fun q h=>(by cases h)⟩
theorem tieR312:tieQ (312,f312):=⟨fun _=>⟨209,Go.Proofs.Tryz.f209,by kernel_rfl,Go.Proofs.Tryz.func209,ck312⟩,fun q h=>(by cases h)⟩
theorem tieR313:tieQ (313,f313):=⟨fun _=>⟨215,Go.Proofs.Tryz.f215,by kernel_rfl,Go.Proofs.Tryz.func215,ck313⟩,fun q h=>(by cases h)⟩
theorem tieR314:tieQ (314,f314):=⟨fun _=>⟨213,Go.Proofs.Tryz.f213,by kernel_rfl,Go.Proofs.Tryz.func213,ck314⟩,fun q h=>(by cases h)⟩
theorem tieR315:tieQ (315,f315):=⟨fun _=>⟨214,Go.Proofs.Tryz.f214,by kernel_rfl,Go.Proofs.Tryz.func214,ck315⟩,fun q h=>(by cases h)⟩
theorem tieR316:tieQ (316,f316):=⟨fun _=>⟨211,Go.Proofs.Tryz.f211,by kernel_rfl,Go.Proofs.Tryz.func211,ck316⟩,fun q h=>(by cases h)⟩
theorem tieR317:tieQ (317,f317):=⟨fun _=>⟨212,Go.Proofs.Tryz.f212,by kernel_rfl,Go.Proofs.Tryz.func212,ck317⟩,fun q h=>(by cases h)⟩
theorem tieR318:tieQ (318,f318):=⟨fun _=>⟨208,Go.Proofs.Tryz.f208,by kernel_rfl,Go.Proofs.Tryz.func208,ck318⟩,fun q h=>(by cases h)⟩
theorem tieR319:tieQ (319,f319):=⟨fun _=>⟨207,Go.Proofs.Tryz.f207,by kernel_rfl,Go.Proofs.Tryz.func207,ck319⟩,fun q h=>(by cases h)⟩
theorem tieR320:tieQ (320,f320):=⟨fun _=>⟨210,Go.Proofs.Tryz.f210,by kernel_rfl,Go.Proofs.Tryz.func210,ck320⟩,fun q h=>(by cases h)⟩
theorem tieR321:tieQ (321,f321):=⟨fun _=>⟨216,Go.Proofs.Tryz.f216,by kernel_rfl,Go.Proofs.Tryz.func216,ck321⟩,fun q h=>(by cases h)⟩
theorem tieR322:tieQ (322,f322):=⟨fun _=>⟨217,Go.Proofs.Tryz.f217,by kernel_rfl,Go.Proofs.Tryz.func217,ck322⟩,fun q h=>(by cases h)⟩
theorem tieR323:tieQ (323,f323):=⟨fun _=>⟨83,Go.Proofs.Tryz.f83,by kernel_rfl,Go.Proofs.Tryz.func83,ck323⟩,fun q h=>(by cases h)⟩
theorem tieR324:tieQ (324,f324):=⟨fun _=>⟨27,Go.Proofs.Tryz.f27,by kernel_rfl,Go.Proofs.Tryz.func27,ck324⟩,fun q h=>(by cases h)⟩
theorem tieR326:tieQ (326,f326):=⟨fun _=>⟨34,Go.Proofs.Tryz.f34,by kernel_rfl,Go.Proofs.Tryz.func34,ck326⟩,fun q h=>(by cases h)⟩
theorem tieR327:tieQ (327,f327):=⟨fun _=>⟨13,Go.Proofs.Tryz.f13,by kernel_rfl,Go.Proofs.Tryz.func13,ck327⟩,fun q h=>(by cases h)⟩
theorem tieR328:tieQ (328,f328):=⟨fun _=>⟨39,Go.Proofs.Tryz.f39,by kernel_rfl,Go.Proofs.Tryz.func39,ck328⟩,fun q h=>(by cases h)⟩
theorem tieR374:tieQ (374,x374):=⟨fun h=>(by cases h),fun q h=>(by cases h;exact extLen64)⟩
theorem tieR378:tieQ (378,x378):=⟨fun h=>(by cases h),fun q h=>(by cases h;exact extSub64)⟩
theorem tieR422:tieQ (422,f422):=⟨fun _=>⟨30,Go.Proofs.Tryz.f30,by kernel_rfl,Go.Proofs.Tryz.func30,ck422⟩,fun q h=>(by cases h)⟩
theorem tieR424:tieQ (424,f424):=⟨fun _=>⟨35,Go.Proofs.Tryz.f35,by kernel_rfl,Go.Proofs.Tryz.func35,ck424⟩,fun q h=>(by cases h)⟩
theorem tieR425:tieQ (425,f425):=⟨fun _=>⟨52,Go.Proofs.Tryz.f52,by kernel_rfl,Go.Proofs.Tryz.func52,ck425⟩,fun q h=>(by cases h)⟩
theorem tieR427:tieQ (427,f427):=⟨fun _=>⟨47,Go.Proofs.Tryz.f47,by kernel_rfl,Go.Proofs.Tryz.func47,ck427⟩,fun q h=>(by cases h)⟩
theorem tieR428:tieQ (428,f428):=⟨fun _=>⟨128,Go.Proofs.Tryz.f128,by kernel_rfl,Go.Proofs.Tryz.func128,ck428⟩,fun q h=>(by cases h)⟩
theorem tieR429:tieQ (429,f429):=⟨fun _=>⟨127,Go.Proofs.Tryz.f127,by kernel_rfl,Go.Proofs.Tryz.func127,ck429⟩,fun q h=>(by cases h)⟩
theorem tieR430:tieQ (430,f430):=⟨fun _=>⟨84,Go.Proofs.Tryz.f84,by kernel_rfl,Go.Proofs.Tryz.func84,ck430⟩,fun q h=>(by cases h)⟩
theorem tieR432:tieQ (432,f432):=⟨fun _=>⟨85,Go.Proofs.Tryz.f85,by kernel_rfl,Go.Proofs.Tryz.func85,ck432⟩,fun q h=>(by cases h)⟩
theorem tieR433:tieQ (433,f433):=⟨fun _=>⟨86,Go.Proofs.Tryz.f86,by kernel_rfl,Go.Proofs.Tryz.func86,ck433⟩,fun q h=>(by cases h)⟩
theorem tieR461:tieQ (461,f461):=⟨fun _=>⟨9,Go.Proofs.Tryz.f9,by kernel_rfl,Go.Proofs.Tryz.func9,ck461⟩,fun q h=>(by cases h)⟩
theorem tieR462:tieQ (462,f462):=⟨fun _=>⟨21,Go.Proofs.Tryz.f21,by kernel_rfl,Go.Proofs.Tryz.func21,ck462⟩,fun q h=>(by cases h)⟩
theorem tieR463:tieQ (463,f463):=⟨fun _=>⟨14,Go.Proofs.Tryz.f14,by kernel_rfl,Go.Proofs.Tryz.func14,ck463⟩,fun q h=>(by cases h)⟩
theorem tieR465:tieQ (465,f465):=⟨fun _=>⟨43,Go.Proofs.Tryz.f43,by kernel_rfl,Go.Proofs.Tryz.func43,ck465⟩,fun q h=>(by cases h)⟩
theorem tieR466:tieQ (466,f466):=⟨fun _=>⟨36,Go.Proofs.Tryz.f36,by kernel_rfl,Go.Proofs.Tryz.func36,ck466⟩,fun q h=>(by cases h)⟩
theorem tieR467:tieQ (467,f467):=⟨fun _=>⟨31,Go.Proofs.Tryz.f31,by kernel_rfl,Go.Proofs.Tryz.func31,ck467⟩,fun q h=>(by cases h)⟩
theorem tieR481:tieQ (481,f481):=⟨fun _=>⟨28,Go.Proofs.Tryz.f28,by kernel_rfl,Go.Proofs.Tryz.func28,ck481⟩,fun q h=>(by cases h)⟩
theorem tieR482:tieQ (482,f482):=⟨fun _=>⟨29,Go.Proofs.Tryz.f29,by kernel_rfl,Go.Proofs.Tryz.func29,ck482⟩,fun q h=>(by cases h)⟩
theorem tieR489:tieQ (489,f489):=⟨fun _=>⟨120,Go.Proofs.Tryz.f120,by kernel_rfl,Go.Proofs.Tryz.func120,ck489⟩,fun q h=>(by cases h)⟩
theorem tieR490:tieQ (490,f490):=⟨fun _=>⟨108,Go.Proofs.Tryz.f108,by kernel_rfl,Go.Proofs.Tryz.func108,ck490⟩,fun q h=>(by cases h)⟩
theorem tieR491:tieQ (491,f491):=⟨fun _=>⟨156,Go.Proofs.Tryz.f156,by kernel_rfl,Go.Proofs.Tryz.func156,ck491⟩,fun q h=>(by cases h)⟩
theorem tieR493:tieQ (493,f493):=⟨fun _=>⟨118,Go.Proofs.Tryz.f118,by kernel_rfl,Go.Proofs.Tryz.func118,ck493⟩,fun q h=>(by cases h)⟩
theorem tieR494:tieQ (494,f494):=⟨fun _=>⟨38,Go.Proofs.Tryz.f38,by kernel_rfl,Go.Proofs.Tryz.func38,ck494⟩,fun q h=>(by cases h)⟩
theorem tieR501:tieQ (501,f501):=⟨fun _=>⟨69,Go.Proofs.Tryz.f69,by kernel_rfl,Go.Proofs.Tryz.func69,ck501⟩,fun q h=>(by cases h)⟩
theorem tieR507:tieQ (507,f507):=⟨fun _=>⟨65,Go.Proofs.Tryz.f65,by kernel_rfl,Go.Proofs.Tryz.func65,ck507⟩,fun q h=>(by cases h)⟩
theorem tieR508:tieQ (508,f508):=⟨fun _=>⟨170,Go.Proofs.Tryz.f170,by kernel_rfl,Go.Proofs.Tryz.func170,ck508⟩,fun q h=>(by cases h)⟩
theorem tieR509:tieQ (509,f509):=⟨fun _=>⟨123,Go.Proofs.Tryz.f123,by kernel_rfl,Go.Proofs.Tryz.func123,ck509⟩,fun q h=>(by cases h)⟩
theorem tieR510:tieQ (510,f510):=⟨fun _=>⟨150,Go.Proofs.Tryz.f150,by kernel_rfl,Go.Proofs.Tryz.func150,ck510⟩,fun q h=>(by cases h)⟩
theorem tieR520:tieQ (520,f520):=⟨fun _=>⟨100,Go.Proofs.Tryz.f100,by kernel_rfl,Go.Proofs.Tryz.func100,ck520⟩,fun q h=>(by cases h)⟩
theorem tieR521:tieQ (521,f521):=⟨fun _=>⟨66,Go.Proofs.Tryz.f66,by kernel_rfl,Go.Proofs.Tryz.func66,ck521⟩,fun q h=>(by cases h)⟩
theorem tieR522:tieQ (522,f522):=⟨fun _=>⟨68,Go.Proofs.Tryz.f68,by kernel_rfl,Go.Proofs.Tryz.func68,ck522⟩,fun q h=>(by cases h)⟩
theorem tieR554:tieQ (554,f554):=⟨fun _=>⟨144,Go.Proofs.Tryz.f144,by kernel_rfl,Go.Proofs.Tryz.func144,ck554⟩,fun q h=>(by cases h)⟩
theorem tieR556:tieQ (556,f556):=⟨fun _=>⟨98,Go.Proofs.Tryz.f98,by kernel_rfl,Go.Proofs.Tryz.func98,ck556⟩,fun q h=>(by cases h)⟩
theorem tieR557:tieQ (557,f557):=⟨fun _=>⟨165,Go.Proofs.Tryz.f165,by kernel_rfl,Go.Proofs.Tryz.func165,ck557⟩,fun q h=>(by cases h)⟩
theorem tieR558:tieQ (558,f558):=⟨fun _=>⟨103,Go.Proofs.Tryz.f103,by kernel_rfl,Go.Proofs.Tryz.func103,ck558⟩,fun q h=>(by cases h)⟩
theorem tieR559:tieQ (559,f559):=⟨fun _=>⟨148,Go.Proofs.Tryz.f148,by kernel_rfl,Go.Proofs.Tryz.func148,ck559⟩,fun q h=>(by cases h)⟩
theorem tieR560:tieQ (560,x560):=⟨fun h=>(by cases h),fun q h=>(by cases h;exact extKey)⟩
theorem tieR561:tieQ (561,f561):=⟨fun _=>⟨97,Go.Proofs.Tryz.f97,by kernel_rfl,Go.Proofs.Tryz.func97,ck561⟩,fun q h=>(by cases h)⟩
theorem tieR562:tieQ (562,f562):=⟨fun _=>⟨67,Go.Proofs.Tryz.f67,by kernel_rfl,Go.Proofs.Tryz.func67,ck562⟩,fun q h=>(by cases h)⟩
theorem tieR564:tieQ (564,f564):=⟨fun _=>⟨141,Go.Proofs.Tryz.f141,by kernel_rfl,Go.Proofs.Tryz.func141,ck564⟩,fun q h=>(by cases h)⟩
theorem tieR638:tieQ (638,f638):=⟨fun _=>⟨55,Go.Proofs.Tryz.f55,by kernel_rfl,Go.Proofs.Tryz.func55,ck638⟩,fun q h=>(by cases h)⟩
theorem tieR639:tieQ (639,f639):=⟨fun _=>⟨154,Go.Proofs.Tryz.f154,by kernel_rfl,Go.Proofs.Tryz.func154,ck639⟩,fun q h=>(by cases h)⟩
theorem tieR640:tieQ (640,f640):=⟨fun _=>⟨71,Go.Proofs.Tryz.f71,by kernel_rfl,Go.Proofs.Tryz.func71,ck640⟩,fun q h=>(by cases h)⟩
theorem tieR641:tieQ (641,f641):=⟨fun _=>⟨99,Go.Proofs.Tryz.f99,by kernel_rfl,Go.Proofs.Tryz.func99,ck641⟩,fun q h=>(by cases h)⟩
theorem tieR643:tieQ (643,f643):=⟨fun _=>⟨169,Go.Proofs.Tryz.f169,by kernel_rfl,Go.Proofs.Tryz.func169,ck643⟩,fun q h=>(by cases h)⟩
theorem tieR644:tieQ (644,f644):=⟨fun _=>⟨121,Go.Proofs.Tryz.f121,by kernel_rfl,Go.Proofs.Tryz.func121,ck644⟩,fun q h=>(by cases h)⟩
theorem tieR645:tieQ (645,f645):=⟨fun _=>⟨41,Go.Proofs.Tryz.f41,by kernel_rfl,Go.Proofs.Tryz.func41,ck645⟩,fun q h=>(by cases h)⟩
theorem tieR647:tieQ (647,f647):=⟨fun _=>⟨155,Go.Proofs.Tryz.f155,by kernel_rfl,Go.Proofs.Tryz.func155,ck647⟩,fun q h=>(by cases h)⟩
theorem tieR648:tieQ (648,f648):=⟨fun _=>⟨142,Go.Proofs.Tryz.f142,by kernel_rfl,Go.Proofs.Tryz.func142,ck648⟩,fun q h=>(by cases h)⟩
theorem tieR649:tieQ (649,f649):=⟨fun _=>⟨56,Go.Proofs.Tryz.f56,by kernel_rfl,Go.Proofs.Tryz.func56,ck649⟩,fun q h=>(by cases h)⟩
theorem tieR650:tieQ (650,f650):=⟨fun _=>⟨102,Go.Proofs.Tryz.f102,by kernel_rfl,Go.Proofs.Tryz.func102,ck650⟩,fun q h=>(by cases h)⟩
theorem tieR651:tieQ (651,f651):=⟨fun _=>⟨143,Go.Proofs.Tryz.f143,by kernel_rfl,Go.Proofs.Tryz.func143,ck651⟩,fun q h=>(by cases h)⟩
theorem tieR652:tieQ (652,f652):=⟨fun _=>⟨88,Go.Proofs.Tryz.f88,by kernel_rfl,Go.Proofs.Tryz.func88,ck652⟩,fun q h=>(by cases h)⟩
theorem tieR697:tieQ (697,f697):=⟨fun _=>⟨5,Go.Proofs.Tryz.f5,by kernel_rfl,Go.Proofs.Tryz.func5,ck697⟩,fun q h=>(by cases h)⟩
theorem tieR699:tieQ (699,f699):=⟨fun _=>⟨8,Go.Proofs.Tryz.f8,by kernel_rfl,Go.Proofs.Tryz.func8,ck699⟩,fun q h=>(by cases h)⟩
theorem tieR700:tieQ (700,f700):=⟨fun _=>⟨18,Go.Proofs.Tryz.f18,by kernel_rfl,Go.Proofs.Tryz.func18,ck700⟩,fun q h=>(by cases h)⟩
theorem tieR701:tieQ (701,f701):=⟨fun _=>⟨7,Go.Proofs.Tryz.f7,by kernel_rfl,Go.Proofs.Tryz.func7,ck701⟩,fun q h=>(by cases h)⟩
theorem tieR702:tieQ (702,f702):=⟨fun _=>⟨26,Go.Proofs.Tryz.f26,by kernel_rfl,Go.Proofs.Tryz.func26,ck702⟩,fun q h=>(by cases h)⟩
theorem tieR772:tieQ (772,f772):=⟨fun _=>⟨171,Go.Proofs.Tryz.f171,by kernel_rfl,Go.Proofs.Tryz.func171,ck772⟩,fun q h=>(by cases h)⟩
theorem tieR773:tieQ (773,f773):=⟨fun _=>⟨53,Go.Proofs.Tryz.f53,by kernel_rfl,Go.Proofs.Tryz.func53,ck773⟩,fun q h=>(by cases h)⟩
theorem tieR777:tieQ (777,f777):=⟨fun _=>⟨54,Go.Proofs.Tryz.f54,by kernel_rfl,Go.Proofs.Tryz.func54,ck777⟩,fun q h=>(by cases h)⟩
theorem tieR783:tieQ (783,f783):=⟨fun _=>⟨161,Go.Proofs.Tryz.f161,by kernel_rfl,Go.Proofs.Tryz.func161,ck783⟩,fun q h=>(by cases h)⟩
theorem tieR785:tieQ (785,f785):=⟨fun _=>⟨37,Go.Proofs.Tryz.f37,by kernel_rfl,Go.Proofs.Tryz.func37,ck785⟩,fun q h=>(by cases h)⟩
theorem tieR787:tieQ (787,f787):=⟨fun _=>⟨162,Go.Proofs.Tryz.f162,by kernel_rfl,Go.Proofs.Tryz.func162,ck787⟩,fun q h=>(by cases h)⟩
theorem tieR790:tieQ (790,f790):=⟨fun _=>⟨139,Go.Proofs.Tryz.f139,by kernel_rfl,Go.Proofs.Tryz.func139,ck790⟩,fun q h=>(by cases h)⟩
theorem tieR801:tieQ (801,f801):=⟨fun _=>⟨132,Go.Proofs.Tryz.f132,by kernel_rfl,Go.Proofs.Tryz.func132,ck801⟩,fun q h=>(by cases h)⟩
theorem tieR802:tieQ (802,f802):=⟨fun _=>⟨159,Go.Proofs.Tryz.f159,by kernel_rfl,Go.Proofs.Tryz.func159,ck802⟩,fun q h=>(by cases h)⟩
theorem tieR803:tieQ (803,f803):=⟨fun _=>⟨134,Go.Proofs.Tryz.f134,by kernel_rfl,Go.Proofs.Tryz.func134,ck803⟩,fun q h=>(by cases h)⟩
theorem tieR804:tieQ (804,f804):=⟨fun _=>⟨90,Go.Proofs.Tryz.f90,by kernel_rfl,Go.Proofs.Tryz.func90,ck804⟩,fun q h=>(by cases h)⟩
theorem tieR805:tieQ (805,f805):=⟨fun _=>⟨57,Go.Proofs.Tryz.f57,by kernel_rfl,Go.Proofs.Tryz.func57,ck805⟩,fun q h=>(by cases h)⟩
theorem tieR806:tieQ (806,f806):=⟨fun _=>⟨133,Go.Proofs.Tryz.f133,by kernel_rfl,Go.Proofs.Tryz.func133,ck806⟩,fun q h=>(by cases h)⟩
theorem tieR807:tieQ (807,f807):=⟨fun _=>⟨89,Go.Proofs.Tryz.f89,by kernel_rfl,Go.Proofs.Tryz.func89,ck807⟩,fun q h=>(by cases h)⟩
theorem tieR808:tieQ (808,f808):=⟨fun _=>⟨158,Go.Proofs.Tryz.f158,by kernel_rfl,Go.Proofs.Tryz.func158,ck808⟩,fun q h=>(by cases h)⟩
theorem tieR818:tieQ (818,f818):=⟨fun _=>⟨92,Go.Proofs.Tryz.f92,by kernel_rfl,Go.Proofs.Tryz.func92,ck818⟩,fun q h=>(by cases h)⟩
theorem tieR819:tieQ (819,f819):=⟨fun _=>⟨94,Go.Proofs.Tryz.f94,by kernel_rfl,Go.Proofs.Tryz.func94,ck819⟩,fun q h=>(by cases h)⟩
theorem tieR820:tieQ (820,f820):=⟨fun _=>⟨58,Go.Proofs.Tryz.f58,by kernel_rfl,Go.Proofs.Tryz.func58,ck820⟩,fun q h=>(by cases h)⟩
theorem tieR821:tieQ (821,f821):=⟨fun _=>⟨62,Go.Proofs.Tryz.f62,by kernel_rfl,Go.Proofs.Tryz.func62,ck821⟩,fun q h=>(by cases h)⟩
theorem tieR822:tieQ (822,f822):=⟨fun _=>⟨91,Go.Proofs.Tryz.f91,by kernel_rfl,Go.Proofs.Tryz.func91,ck822⟩,fun q h=>(by cases h)⟩
theorem tieR823:tieQ (823,f823):=⟨fun _=>⟨23,Go.Proofs.Tryz.f23,by kernel_rfl,Go.Proofs.Tryz.func23,ck823⟩,fun q h=>(by cases h)⟩
theorem tieR826:tieQ (826,f826):=⟨fun _=>⟨20,Go.Proofs.Tryz.f20,by kernel_rfl,Go.Proofs.Tryz.func20,ck826⟩,fun q h=>(by cases h)⟩
theorem tieR827:tieQ (827,f827):=⟨fun _=>⟨15,Go.Proofs.Tryz.f15,by kernel_rfl,Go.Proofs.Tryz.func15,ck827⟩,fun q h=>(by cases h)⟩
theorem tieR828:tieQ (828,f828):=⟨fun _=>⟨25,Go.Proofs.Tryz.f25,by kernel_rfl,Go.Proofs.Tryz.func25,ck828⟩,fun q h=>(by cases h)⟩
theorem tieR829:tieQ (829,f829):=⟨fun _=>⟨10,Go.Proofs.Tryz.f10,by kernel_rfl,Go.Proofs.Tryz.func10,ck829⟩,fun q h=>(by cases h)⟩
theorem tieR830:tieQ (830,f830):=⟨fun _=>⟨48,Go.Proofs.Tryz.f48,by kernel_rfl,Go.Proofs.Tryz.func48,ck830⟩,fun q h=>(by cases h)⟩
theorem tieR831:tieQ (831,f831):=⟨fun _=>⟨138,Go.Proofs.Tryz.f138,by kernel_rfl,Go.Proofs.Tryz.func138,ck831⟩,fun q h=>(by cases h)⟩
theorem tieR832:tieQ (832,f832):=⟨fun _=>⟨49,Go.Proofs.Tryz.f49,by kernel_rfl,Go.Proofs.Tryz.func49,ck832⟩,fun q h=>(by cases h)⟩
theorem tieR833:tieQ (833,f833):=⟨fun _=>⟨160,Go.Proofs.Tryz.f160,by kernel_rfl,Go.Proofs.Tryz.func160,ck833⟩,fun q h=>(by cases h)⟩
theorem tieR834:tieQ (834,f834):=⟨fun _=>⟨50,Go.Proofs.Tryz.f50,by kernel_rfl,Go.Proofs.Tryz.func50,ck834⟩,fun q h=>(by cases h)⟩
theorem tieR835:tieQ (835,f835):=⟨fun _=>⟨40,Go.Proofs.Tryz.f40,by kernel_rfl,Go.Proofs.Tryz.func40,ck835⟩,fun q h=>(by cases h)⟩
theorem tieR836:tieQ (836,f836):=⟨fun _=>⟨61,Go.Proofs.Tryz.f61,by kernel_rfl,Go.Proofs.Tryz.func61,ck836⟩,fun q h=>(by cases h)⟩
theorem tieR837:tieQ (837,f837):=⟨fun _=>⟨135,Go.Proofs.Tryz.f135,by kernel_rfl,Go.Proofs.Tryz.func135,ck837⟩,fun q h=>(by cases h)⟩
theorem tieR838:tieQ (838,f838):=⟨fun _=>⟨136,Go.Proofs.Tryz.f136,by kernel_rfl,Go.Proofs.Tryz.func136,ck838⟩,fun q h=>(by cases h)⟩
theorem tieR839:tieQ (839,f839):=⟨fun _=>⟨137,Go.Proofs.Tryz.f137,by kernel_rfl,Go.Proofs.Tryz.func137,ck839⟩,fun q h=>(by cases h)⟩
theorem tieR840:tieQ (840,f840):=⟨fun _=>⟨140,Go.Proofs.Tryz.f140,by kernel_rfl,Go.Proofs.Tryz.func140,ck840⟩,fun q h=>(by cases h)⟩
theorem tieR841:tieQ (841,f841):=⟨fun _=>⟨93,Go.Proofs.Tryz.f93,by kernel_rfl,Go.Proofs.Tryz.func93,ck841⟩,fun q h=>(by cases h)⟩
theorem tieR842:tieQ (842,f842):=⟨fun _=>⟨59,Go.Proofs.Tryz.f59,by kernel_rfl,Go.Proofs.Tryz.func59,ck842⟩,fun q h=>(by cases h)⟩
theorem tieR843:tieQ (843,f843):=⟨fun _=>⟨42,Go.Proofs.Tryz.f42,by kernel_rfl,Go.Proofs.Tryz.func42,ck843⟩,fun q h=>(by cases h)⟩
theorem tieR844:tieQ (844,f844):=⟨fun _=>⟨32,Go.Proofs.Tryz.f32,by kernel_rfl,Go.Proofs.Tryz.func32,ck844⟩,fun q h=>(by cases h)⟩
theorem tieR845:tieQ (845,f845):=⟨fun _=>⟨95,Go.Proofs.Tryz.f95,by kernel_rfl,Go.Proofs.Tryz.func95,ck845⟩,fun q h=>(by cases h)⟩
theorem tieR846:tieQ (846,f846):=⟨fun _=>⟨60,Go.Proofs.Tryz.f60,by kernel_rfl,Go.Proofs.Tryz.func60,ck846⟩,fun q h=>(by cases h)⟩
theorem tieR847:tieQ (847,f847):=⟨fun _=>⟨96,Go.Proofs.Tryz.f96,by kernel_rfl,Go.Proofs.Tryz.func96,ck847⟩,fun q h=>(by cases h)⟩
theorem tieR848:tieQ (848,f848):=⟨fun _=>⟨64,Go.Proofs.Tryz.f64,by kernel_rfl,Go.Proofs.Tryz.func64,ck848⟩,fun q h=>(by cases h)⟩
theorem tieR849:tieQ (849,f849):=⟨fun _=>⟨63,Go.Proofs.Tryz.f63,by kernel_rfl,Go.Proofs.Tryz.func63,ck849⟩,fun q h=>(by cases h)⟩
theorem tieR899:tieQ (899,f899):=⟨fun _=>⟨16,Go.Proofs.Tryz.f16,by kernel_rfl,Go.Proofs.Tryz.func16,ck899⟩,fun q h=>(by cases h)⟩
theorem tieR903:tieQ (903,f903):=⟨fun _=>⟨17,Go.Proofs.Tryz.f17,by kernel_rfl,Go.Proofs.Tryz.func17,ck903⟩,fun q h=>(by cases h)⟩
theorem tieR904:tieQ (904,f904):=⟨fun _=>⟨22,Go.Proofs.Tryz.f22,by kernel_rfl,Go.Proofs.Tryz.func22,ck904⟩,fun q h=>(by cases h)⟩
theorem tieR905:tieQ (905,f905):=⟨fun _=>⟨12,Go.Proofs.Tryz.f12,by kernel_rfl,Go.Proofs.Tryz.func12,ck905⟩,fun q h=>(by cases h)⟩
theorem tieR1082:tieQ (1082,f1082):=⟨fun _=>⟨151,Go.Proofs.Tryz.f151,by kernel_rfl,Go.Proofs.Tryz.func151,ck1082⟩,fun q h=>(by cases h)⟩
theorem tieR1085:tieQ (1085,f1085):=⟨fun _=>⟨175,Go.Proofs.Tryz.f175,by kernel_rfl,Go.Proofs.Tryz.func175,ck1085⟩,fun q h=>(by cases h)⟩
theorem tieR1090:tieQ (1090,f1090):=⟨fun _=>⟨87,Go.Proofs.Tryz.f87,by kernel_rfl,Go.Proofs.Tryz.func87,ck1090⟩,fun q h=>(by cases h)⟩
theorem tieR1108:tieQ (1108,f1108):=⟨fun _=>⟨131,Go.Proofs.Tryz.f131,by kernel_rfl,Go.Proofs.Tryz.func131,ck1108⟩,fun q h=>(by cases h)⟩
theorem tieR1111:tieQ (1111,f1111):=⟨fun _=>⟨182,Go.Proofs.Tryz.f182,by kernel_rfl,Go.Proofs.Tryz.func182,ck1111⟩,fun q h=>(by cases h)⟩
theorem tieR1113:tieQ (1113,f1113):=⟨fun _=>⟨167,Go.Proofs.Tryz.f167,by kernel_rfl,Go.Proofs.Tryz.func167,ck1113⟩,fun q h=>(by cases h)⟩
theorem tieR1114:tieQ (1114,f1114):=⟨fun _=>⟨129,Go.Proofs.Tryz.f129,by kernel_rfl,Go.Proofs.Tryz.func129,ck1114⟩,fun q h=>(by cases h)⟩
theorem tieR1130:tieQ (1130,f1130):=⟨fun _=>⟨168,Go.Proofs.Tryz.f168,by kernel_rfl,Go.Proofs.Tryz.func168,ck1130⟩,fun q h=>(by cases h)⟩
theorem tieR1134:tieQ (1134,f1134):=⟨fun _=>⟨130,Go.Proofs.Tryz.f130,by kernel_rfl,Go.Proofs.Tryz.func130,ck1134⟩,fun q h=>(by cases h)⟩
theorem tieR1136:tieQ (1136,f1136):=⟨fun _=>⟨186,Go.Proofs.Tryz.f186,by kernel_rfl,Go.Proofs.Tryz.func186,ck1136⟩,fun q h=>(by cases h)⟩
theorem tieR1137:tieQ (1137,f1137):=⟨fun _=>⟨183,Go.Proofs.Tryz.f183,by kernel_rfl,Go.Proofs.Tryz.func183,ck1137⟩,fun q h=>(by cases h)⟩
theorem tieR1140:tieQ (1140,f1140):=⟨fun _=>⟨188,Go.Proofs.Tryz.f188,by kernel_rfl,Go.Proofs.Tryz.func188,ck1140⟩,fun q h=>(by cases h)⟩
theorem tieR1141:tieQ (1141,f1141):=⟨fun _=>⟨190,Go.Proofs.Tryz.f190,by kernel_rfl,Go.Proofs.Tryz.func190,ck1141⟩,fun q h=>(by cases h)⟩
theorem tieR1142:tieQ (1142,f1142):=⟨fun _=>⟨187,Go.Proofs.Tryz.f187,by kernel_rfl,Go.Proofs.Tryz.func187,ck1142⟩,fun q h=>(by cases h)⟩
theorem tieR1169:tieQ (1169,f1169):=⟨fun _=>⟨114,Go.Proofs.Tryz.f114,by kernel_rfl,Go.Proofs.Tryz.func114,ck1169⟩,fun q h=>(by cases h)⟩
theorem tieR1203:tieQ (1203,f1203):=⟨fun _=>⟨147,Go.Proofs.Tryz.f147,by kernel_rfl,Go.Proofs.Tryz.func147,ck1203⟩,fun q h=>(by cases h)⟩
theorem tieR1204:tieQ (1204,f1204):=⟨fun _=>⟨152,Go.Proofs.Tryz.f152,by kernel_rfl,Go.Proofs.Tryz.func152,ck1204⟩,fun q h=>(by cases h)⟩
theorem tieR1234:tieQ (1234,x1234):=⟨fun h=>(by cases h),fun q h=>(by cases h;exact extContains)⟩
theorem rows_all: ∀p∈fns.toList,tieQ p:=(lift_cons tieR107 (lift_cons tieR109 (lift_cons tieR110 (lift_cons tieR111 (lift_cons tieR112 (lift_cons tieR113 (lift_cons tieR114 (lift_cons tieR115 (lift_cons tieR116 (lift_cons tieR117 (lift_cons tieR118 (lift_cons tieR119 (lift_cons tieR120 (lift_cons tieR121 (lift_cons tieR122 (lift_cons tieR123 (lift_cons tieR124 (lift_cons tieR125 (lift_cons tieR126 (lift_cons tieR127 (lift_cons tieR128 (lift_cons tieR129 (lift_cons tieR130 (lift_cons tieR131 (lift_cons tieR132 (lift_cons tieR133 (lift_cons tieR134 (lift_cons tieR135 (lift_cons tieR136 (lift_cons tieR137 (lift_cons tieR138 (lift_cons tieR139 (lift_cons tieR140 (lift_cons tieR141 (lift_cons tieR142 (lift_cons tieR312 (lift_cons tieR313 (lift_cons tieR314 (lift_cons tieR315 (lift_cons tieR316 (lift_cons tieR317 (lift_cons tieR318 (lift_cons tieR319 (lift_cons tieR320 (lift_cons tieR321 (lift_cons tieR322 (lift_cons tieR323 (lift_cons tieR324 (lift_cons tieR326 (lift_cons tieR327 (lift_cons tieR328 (lift_cons tieR374 (lift_cons tieR378 (lift_cons tieR422 (lift_cons tieR424 (lift_cons tieR425 (lift_cons tieR427 (lift_cons tieR428 (lift_cons tieR429 (lift_cons tieR430 (lift_cons tieR432 (lift_cons tieR433 (lift_cons tieR461 (lift_cons tieR462 (lift_cons tieR463 (lift_cons tieR465 (lift_cons tieR466 (lift_cons tieR467 (lift_cons tieR481 (lift_cons tieR482 (lift_cons tieR489 (lift_cons tieR490 (lift_cons tieR491 (lift_cons tieR493 (lift_cons tieR494 (lift_cons tieR501 (lift_cons tieR507 (lift_cons tieR508 (lift_cons tieR509 (lift_cons tieR510 (lift_cons tieR520 (lift_cons tieR521 (lift_cons tieR522 (lift_cons tieR554 (lift_cons tieR556 (lift_cons tieR557 (lift_cons tieR558 (lift_cons tieR559 (lift_cons tieR560 (lift_cons tieR561 (lift_cons tieR562 (lift_cons tieR564 (lift_cons tieR638 (lift_cons tieR639 (lift_cons tieR640 (lift_cons tieR641 (lift_cons tieR643 (lift_cons tieR644 (lift_cons tieR645 (lift_cons tieR647 (lift_cons tieR648 (lift_cons tieR649 (lift_cons tieR650 (lift_cons tieR651 (lift_cons tieR652 (lift_cons tieR697 (lift_cons tieR699 (lift_cons tieR700 (lift_cons tieR701 (lift_cons tieR702 (lift_cons tieR772 (lift_cons tieR773 (lift_cons tieR777 (lift_cons tieR783 (lift_cons tieR785 (lift_cons tieR787 (lift_cons tieR790 (lift_cons tieR801 (lift_cons tieR802 (lift_cons tieR803 (lift_cons tieR804 (lift_cons tieR805 (lift_cons tieR806 (lift_cons tieR807 (lift_cons tieR808 (lift_cons tieR818 (lift_cons tieR819 (lift_cons tieR820 (lift_cons tieR821 (lift_cons tieR822 (lift_cons tieR823 (lift_cons tieR826 (lift_cons tieR827 (lift_cons tieR828 (lift_cons tieR829 (lift_cons tieR830 (lift_cons tieR831 (lift_cons tieR832 (lift_cons tieR833 (lift_cons tieR834 (lift_cons tieR835 (lift_cons tieR836 (lift_cons tieR837 (lift_cons tieR838 (lift_cons tieR839 (lift_cons tieR840 (lift_cons tieR841 (lift_cons tieR842 (lift_cons tieR843 (lift_cons tieR844 (lift_cons tieR845 (lift_cons tieR846 (lift_cons tieR847 (lift_cons tieR848 (lift_cons tieR849 (lift_cons tieR899 (lift_cons tieR903 (lift_cons tieR904 (lift_cons tieR905 (lift_cons tieR1082 (lift_cons tieR1085 (lift_cons tieR1090 (lift_cons tieR1108 (lift_cons tieR1111 (lift_cons tieR1113 (lift_cons tieR1114 (lift_cons tieR1130 (lift_cons tieR1134 (lift_cons tieR1136 (lift_cons tieR1137 (lift_cons tieR1140 (lift_cons tieR1141 (lift_cons tieR1142 (lift_cons tieR1169 (lift_cons tieR1203 (lift_cons tieR1204 (lift_cons tieR1234 lift_nil)))))))))))))))))))))))))))))))))))))))))))))))))))))))))))))))))))))))))))))))))))))))))))))))))))))))))))))))))))))))))))))))))))))))))))))))))))))))))))))))))))))))))))))))))
def mQ(p:Nat ×Nat):Prop:= ∃tid fid,tbl.tid p.1=some tid∧tbl.fid p.2=some fid∧methOK Go.Proofs.Tryz.prog tid (tbl.mname 0) fid=true
theorem mR275:mQ (275,312):=⟨149,209,by kernel_rfl,by kernel_rfl,by kernel_rfl⟩
theorem mR276:mQ (276,313):=⟨159,215,by kernel_rfl,by kernel_rfl,by kernel_rfl⟩
theorem mR277:mQ (277,314):=⟨155,213,by kernel_rfl,by kernel_rfl,by kernel_rfl⟩
theorem mR278:mQ (278,315):=⟨157,214,by kernel_rfl,by kernel_rfl,by kernel_rfl⟩
theorem mR279:mQ (279,316):=⟨151,211,by kernel_rfl,by kernel_rfl,by kernel_rfl⟩
theorem mR280:mQ (280,317):=⟨153,212,by kernel_rfl,by kernel_rfl,by kernel_rfl⟩
theorem mR281:mQ (281,318):=⟨147,208,by kernel_rfl,by kernel_rfl,by kernel_rfl⟩
theorem mR282:mQ (282,319):=⟨145,207,by kernel_rfl,by kernel_rfl,by kernel_rfl⟩
theorem mR283:mQ (283,320):=⟨150,210,by kernel_rfl,by kernel_rfl,by kernel_rfl⟩
theorem mR285:mQ (285,321):=⟨161,216,by kernel_rfl,by kernel_rfl,by kernel_rfl⟩
theorem mR286:mQ (286,322):=⟨163,217,by kernel_rfl,by kernel_rfl,by kernel_rfl⟩
theorem mrows: ∀p∈mt.toList,mQ p:=(lift_cons mR275 (lift_cons mR276 (lift_cons mR277 (lift_cons mR278 (lift_cons mR279 (lift_cons mR280 (lift_cons mR281 (lift_cons mR282 (lift_cons mR283 (lift_cons mR285 (lift_cons mR286 lift_nil)))))))))))
theorem tied:Tied Go.Proofs.Tryz.prog tbl vp where
 mix:=by kernel_rfl
 inj:=tids_inj
 fn:=fun f vf hf hx=>(rows_all _ (Tree.get_mem hf)).1 hx
 ext:=fun f vf p hf hx=>(rows_all _ (Tree.get_mem hf)).2 p hx
 meth:=fun t m f h=>by
  simp only[vp]at h
  split at h
  ·rename_i e;subst e;exact mrows _ (Tree.get_mem h)
  ·cases h
end Go.VE.Un
