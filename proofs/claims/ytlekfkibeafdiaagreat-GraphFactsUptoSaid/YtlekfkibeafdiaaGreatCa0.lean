/- Joined texts: CtFold. No condition: what each theorem needs stands in it. -/
import Derived.Test.YtlekfkibeafdiaaGreatVb0
import Derived.Test.YtlekfkibeafdiaaGreatUnT
namespace Go.VE.Un
open Go.VE
theorem YJ{vp:VP}(h:vp.fn 564=some f564)(a b c:Int):Zc vp 564 [.int .i32 a,.int .i32 b,.int .i32 c]=some (.bool (decide (b≤a)&&decide (a≤c))):=by
 rw[Za h]
 by_cases h1:b≤a<;>simp -implicitDefEqProofs [h1]
def ZO(c:Int):Bool:= !(decide (c=215)||decide (c=247)||decide (c=930))&&
 ((decide (65≤c)&&decide (c≤90))||(decide (97≤c)&&decide (c≤122))||decide (c=95)||(decide (192≤c)&&decide (c≤591))||(decide (913≤c)&&decide (c≤969))||(decide (1024≤c)&&decide (c≤1279)))
theorem WG{vp:VP}(h:vp.fn 564=some f564)(h':vp.fn 561=some f561)(c:Int):Zc vp 561 [.int .i32 c]=some (.bool (ZO c)):=by
 have hc:=fun lo hp args kv=>VL (β:=VE.V) h rfl rfl lo hp args kv
 rw[Za h']
 by_cases h1:c=215∨c=247∨c=930
 ·rcases h1 with rfl|rfl|rfl<;>simp -implicitDefEqProofs [ZO]
 ·simp only[not_or]at h1
  by_cases a1:65≤c∧c≤90
  ·simp -implicitDefEqProofs [h1,YJ h,hc,a1,ZO]
  ·have a1':(decide (65≤c)&&decide (c≤90))=false:=by simpa using a1
   by_cases a2:97≤c∧c≤122
   ·simp -implicitDefEqProofs [h1,YJ h,hc,a1',a2,ZO]
   ·have a2':(decide (97≤c)&&decide (c≤122))=false:=by simpa using a2
    by_cases a3:c=95
    ·simp -implicitDefEqProofs [YJ h,hc,a3,ZO]
    ·by_cases a4:192≤c∧c≤591
     ·simp -implicitDefEqProofs [h1,YJ h,hc,a1',a2',a3,a4,ZO]
     ·have a4':(decide (192≤c)&&decide (c≤591))=false:=by simpa using a4
      by_cases a5:913≤c∧c≤969
      ·simp -implicitDefEqProofs [h1,YJ h,hc,a1',a2',a3,a4',a5,ZO]
      ·have a5':(decide (913≤c)&&decide (c≤969))=false:=by simpa using a5
       simp -implicitDefEqProofs [h1,YJ h,hc,a1',a2',a3,a4',a5',ZO]
theorem Zae{n:Int}(h1: -2147483648≤n)(h2:n≤2147483647):IntKind.i32.wrap n=n:=by
 simp only[IntKind.wrap,IntKind.bits,IntKind.signed]
 have:(2:Int)^32=4294967296:=by decide
 have:(2:Int)^31=2147483648:=by decide
 simp_all
 split<;>omega
theorem Zsy{vp:VP}(h:vp.fn 564=some f564)(h':vp.fn 561=some f561)(h'':vp.fn 557=some f557)(c:Int):Zc vp 557 [.int .i32 c]=some (.int .i32 (foldR c)):=by
 have hc:=fun lo hp args kv=>VL (β:=VE.V) h rfl rfl lo hp args kv
 have hc':=fun lo hp args kv=>VL (β:=VE.V) h' rfl rfl lo hp args kv
 rw[Za h'']
 cases hl:ZO c
 ·have:foldR c=c:=by simp[ZO]at hl;unfold foldR;omega
  simp -implicitDefEqProofs [WG h h',hc',hl,this]
 ·have hn: ¬(c=215∨c=247∨c=930):=by simp[ZO]at hl;omega
  by_cases a1:65≤c∧c≤90
  ·have w:IntKind.i32.wrap (c+32)=c+32:=Zae (by omega) (by omega)
   have:foldR c=c+32:=by unfold foldR;omega
   simp -implicitDefEqProofs [WG h h',hc',hc,hl,YJ h,a1,w,this]
  ·have a1':(decide (65≤c)&&decide (c≤90))=false:=by simpa using a1
   by_cases a2:192≤c∧c≤222
   ·have w:IntKind.i32.wrap (c+32)=c+32:=Zae (by omega) (by omega)
    have:foldR c=c+32:=by unfold foldR;omega
    simp -implicitDefEqProofs [WG h h',hc',hc,hl,YJ h,a1',a2,w,this]
   ·have a2':(decide (192≤c)&&decide (c≤222))=false:=by simpa using a2
    by_cases a3:913≤c∧c≤937
    ·have w:IntKind.i32.wrap (c+32)=c+32:=Zae (by omega) (by omega)
     have:foldR c=c+32:=by unfold foldR;omega
     simp -implicitDefEqProofs [WG h h',hc',hc,hl,YJ h,a1',a2',a3,w,this]
    ·have a3':(decide (913≤c)&&decide (c≤937))=false:=by simpa using a3
     by_cases a4:1040≤c∧c≤1071
     ·have w:IntKind.i32.wrap (c+32)=c+32:=Zae (by omega) (by omega)
      have:foldR c=c+32:=by unfold foldR;omega
      simp -implicitDefEqProofs [WG h h',hc',hc,hl,YJ h,a1',a2',a3',a4,w,this]
     ·have a4':(decide (1040≤c)&&decide (c≤1071))=false:=by simpa using a4
      by_cases a5:1024≤c∧c≤1039
      ·have w:IntKind.i32.wrap (c+80)=c+80:=Zae (by omega) (by omega)
       have:foldR c=c+80:=by unfold foldR;omega
       simp -implicitDefEqProofs [WG h h',hc',hc,hl,YJ h,a1',a2',a3',a4',a5,w,this]
      ·have a5':(decide (1024≤c)&&decide (c≤1039))=false:=by simpa using a5
       by_cases a6:c=962
       ·subst a6
        have:foldR 962=963:=by decide
        simp -implicitDefEqProofs [WG h h',hc',hc,hl,YJ h,this]
       ·have:foldR c=c:=by unfold foldR;omega
        simp -implicitDefEqProofs [WG h h',hc',hc,hl,YJ h,a1',a2',a3',a4',a5',a6,this]
theorem ZqC{lo d:Nat}{h:Zg}{r:VE.V}{k:IntKind}{n:Int}(e:frz lo h d r=some (.int k n)):r=.int k n:=by
 have hm: ∀(o:Option VE.V) (f:VE.V→VE.V),(∀x,f x≠.int k n)→o.map f=some (.int k n)→False:=fun o f hf he=>by
  cases o with
  |none=>simp at he
  |some x=>simp at he;exact hf x he
 have hm2: ∀(o:Option (List VE.V)) (f:List VE.V→VE.V),(∀x,f x≠.int k n)→o.map f=some (.int k n)→False:=fun o f hf he=>by
  cases o with
  |none=>simp at he
  |some x=>simp at he;exact hf x he
 cases d with
 |zero=>simp only[frz]at e;split at e<;>simp at e;exact e
 |succ d=>
  cases r<;>try (simp[frz]at e;done)
  all_goals unfold frz at e
  all_goals (try simp only[Ztt,if_true,Option.some.injEq]at e)
  all_goals (try exact e)
  all_goals exfalso
  all_goals (split at e<;>try (simp at e;done))
  all_goals (try (exact hm _ _ (by simp) e))
  all_goals (try (exact hm2 _ _ (by simp) e))
  ·split at e
   ·simp at e
   ·simp only[Option.bind_eq_some_iff,Option.map_eq_some_iff]at e
    obtain⟨_,_,_,_,e⟩:=e
    simp at e
  ·split at e
   ·simp at e
   ·split at e
    ·split at e
     ·simp only[Option.bind_eq_some_iff,Option.map_eq_some_iff]at e
      obtain⟨_,_,_,_,e⟩:=e
      simp at e
     ·simp at e
    ·simp at e
def vp0:VP:=⟨true,fun n=>if n=557 then some f557 else if n=561 then some f561 else if n=564 then some f564 else none,fun _ _=>none⟩
theorem Zg8{P:Program}{T:Tbl}(tied:U6 P T vp0){fid:FuncId}(hf:T.fid 557=some fid)(W:World)(c:Int):
 Calls P fid #[.int .i32 c] W fun e w'=>e=.returned (.int .i32 (foldR c))∧RowKit.Below W.heap.size W w':=by
 have h:=Zsy (vp:=vp0) rfl rfl rfl c
 unfold Zc at h
 simp only[Option.bind_eq_some_iff]at h
 obtain⟨⟨r,h'⟩,e1,e2⟩:=h
 have hr:=ZqC e2
 simp only at hr;subst hr
 refine(Zfq tied (vf:=f557) rfl rfl hf (W:=W) (RA.one (.int .i32 c):RA T (G0 W) [.int .i32 c] #[.int .i32 c]) e1).mono fun e w' ⟨⟨rv,G',h1,h2⟩,h3⟩=>⟨?_,h3⟩
 rw[h1,h2.int_inv]
end Go.VE.Un
