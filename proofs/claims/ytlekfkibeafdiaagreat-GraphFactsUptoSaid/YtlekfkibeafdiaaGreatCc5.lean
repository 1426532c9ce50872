/- Joined texts: CrD, CrE. No condition: what each theorem needs stands in it. -/
import Derived.Test.YtlekfkibeafdiaaGreatCc4
namespace Go.VE.Un
open Go.VE
def iv(n:Int):V:=.int .i64 n
@[simp] theorem ZwF(k:Nat)(n:Int):Zk k (iv n)=true:=nr rfl
@[simp] theorem Zuj(n:Int):Ze (iv n)=true:=nr rfl
@[simp] theorem ZhF(l:List Int):Zv (l.map iv)=true:=by rw[YR];simp
@[simp] theorem Zuw(k:Nat)(l:List Int):Zo k (l.map iv)=true:=Yq (fun _=>rfl) l
theorem Zg6(c:Int):ZO c=true↔(65≤c∧c≤90∨97≤c∧c≤122∨c=95)∨¬(c=215∨c=247∨c=930)∧(192≤c∧c≤591∨913≤c∧c≤969∨1024≤c∧c≤1279):=by
 unfold ZO
 simp only[Bool.and_eq_true,Bool.or_eq_true,Bool.not_eq_true',Bool.or_eq_false_iff,decide_eq_true_eq,decide_eq_false_iff_not]
 omega
theorem Zbm(c:Int):Zc vp 804 [.int .i64 c]=some (.bool (ZO c)):=by
 have hl:=Zg6 c
 rw[Za ZyY]
 have hs:(c<65)∨(65≤c∧c≤90)∨(90<c∧c<97∧c≠95)∨(c=95)∨(97≤c∧c≤122)∨(122<c∧c<192)∨(c=215)∨(c=247)∨(c=930)∨(192≤c∧c≤591∧c≠215∧c≠247)∨(591<c∧c<913)∨(913≤c∧c≤969∧c≠930)∨(969<c∧c<1024)∨(1024≤c∧c≤1279)∨(1279<c):=by omega
 rcases hs with hc|hc|hc|hc|hc|hc|hc|hc|hc|hc|hc|hc|hc|hc|hc
 ·have r:ZO c=false:=by rw[←Bool.not_eq_true,hl];omega
  obtain⟨a0,a1,a2,a3,a4,a5,a6,a7,a8⟩: ¬65≤c∧¬97≤c∧c≠95∧c≠215∧c≠247∧c≠930∧¬192≤c∧¬913≤c∧¬1024≤c:=by and_intros<;>omega
  simp -implicitDefEqProofs [r,a0,a1,a2,a3,a4,a5,a6,a7,a8]
 ·have r:ZO c=true:=by rw[hl];omega
  obtain⟨a0,a1⟩:65≤c∧c≤90:=by and_intros<;>omega
  simp -implicitDefEqProofs [r,a0,a1]
 ·have r:ZO c=false:=by rw[←Bool.not_eq_true,hl];omega
  obtain⟨a0,a1,a2,a3,a4,a5,a6,a7,a8,a9⟩:65≤c∧¬c≤90∧¬97≤c∧c≠95∧c≠215∧c≠247∧c≠930∧¬192≤c∧¬913≤c∧¬1024≤c:=by and_intros<;>omega
  simp -implicitDefEqProofs [r,a0,a1,a2,a3,a4,a5,a6,a7,a8,a9]
 ·have r:ZO c=true:=by rw[hl];omega
  obtain⟨a0,a1,a2,a3⟩:65≤c∧¬c≤90∧¬97≤c∧c=95:=by and_intros<;>omega
  simp -implicitDefEqProofs [r,a0,a1,a2,a3]
  decide
 ·have r:ZO c=true:=by rw[hl];omega
  obtain⟨a0,a1,a2,a3⟩:65≤c∧¬c≤90∧97≤c∧c≤122:=by and_intros<;>omega
  simp -implicitDefEqProofs [r,a0,a1,a2,a3]
 ·have r:ZO c=false:=by rw[←Bool.not_eq_true,hl];omega
  obtain⟨a0,a1,a2,a3,a4,a5,a6,a7,a8,a9,a10⟩:65≤c∧¬c≤90∧97≤c∧¬c≤122∧c≠95∧c≠215∧c≠247∧c≠930∧¬192≤c∧¬913≤c∧¬1024≤c:=by and_intros<;>omega
  simp -implicitDefEqProofs [r,a0,a1,a2,a3,a4,a5,a6,a7,a8,a9,a10]
 ·have r:ZO c=false:=by rw[←Bool.not_eq_true,hl];omega
  obtain⟨a0,a1,a2,a3,a4,a5⟩:65≤c∧¬c≤90∧97≤c∧¬c≤122∧c≠95∧c=215:=by and_intros<;>omega
  simp -implicitDefEqProofs [r,a0,a1,a2,a3,a4,a5]
  decide
 ·have r:ZO c=false:=by rw[←Bool.not_eq_true,hl];omega
  obtain⟨a0,a1,a2,a3,a4,a5,a6⟩:65≤c∧¬c≤90∧97≤c∧¬c≤122∧c≠95∧c≠215∧c=247:=by and_intros<;>omega
  simp -implicitDefEqProofs [r,a0,a1,a2,a3,a4,a5,a6]
  decide
 ·have r:ZO c=false:=by rw[←Bool.not_eq_true,hl];omega
  obtain⟨a0,a1,a2,a3,a4,a5,a6,a7⟩:65≤c∧¬c≤90∧97≤c∧¬c≤122∧c≠95∧c≠215∧c≠247∧c=930:=by and_intros<;>omega
  simp -implicitDefEqProofs [r,a0,a1,a2,a3,a4,a5,a6,a7]
  decide
 ·have r:ZO c=true:=by rw[hl];omega
  obtain⟨a0,a1,a2,a3,a4,a5,a6,a7,a8,a9⟩:65≤c∧¬c≤90∧97≤c∧¬c≤122∧c≠95∧c≠215∧c≠247∧c≠930∧192≤c∧c≤591:=by and_intros<;>omega
  simp -implicitDefEqProofs [r,a0,a1,a2,a3,a4,a5,a6,a7,a8,a9]
 ·have r:ZO c=false:=by rw[←Bool.not_eq_true,hl];omega
  obtain⟨a0,a1,a2,a3,a4,a5,a6,a7,a8,a9,a10,a11⟩:65≤c∧¬c≤90∧97≤c∧¬c≤122∧c≠95∧c≠215∧c≠247∧c≠930∧192≤c∧¬c≤591∧¬913≤c∧¬1024≤c:=by and_intros<;>omega
  simp -implicitDefEqProofs [r,a0,a1,a2,a3,a4,a5,a6,a7,a8,a9,a10,a11]
 ·have r:ZO c=true:=by rw[hl];omega
  obtain⟨a0,a1,a2,a3,a4,a5,a6,a7,a8,a9,a10,a11⟩:65≤c∧¬c≤90∧97≤c∧¬c≤122∧c≠95∧c≠215∧c≠247∧c≠930∧192≤c∧¬c≤591∧913≤c∧c≤969:=by and_intros<;>omega
  simp -implicitDefEqProofs [r,a0,a1,a2,a3,a4,a5,a6,a7,a8,a9,a10,a11]
 ·have r:ZO c=false:=by rw[←Bool.not_eq_true,hl];omega
  obtain⟨a0,a1,a2,a3,a4,a5,a6,a7,a8,a9,a10,a11,a12⟩:65≤c∧¬c≤90∧97≤c∧¬c≤122∧c≠95∧c≠215∧c≠247∧c≠930∧192≤c∧¬c≤591∧913≤c∧¬c≤969∧¬1024≤c:=by and_intros<;>omega
  simp -implicitDefEqProofs [r,a0,a1,a2,a3,a4,a5,a6,a7,a8,a9,a10,a11,a12]
 ·have r:ZO c=true:=by rw[hl];omega
  obtain⟨a0,a1,a2,a3,a4,a5,a6,a7,a8,a9,a10,a11,a12,a13⟩:65≤c∧¬c≤90∧97≤c∧¬c≤122∧c≠95∧c≠215∧c≠247∧c≠930∧192≤c∧¬c≤591∧913≤c∧¬c≤969∧1024≤c∧c≤1279:=by and_intros<;>omega
  simp -implicitDefEqProofs [r,a0,a1,a2,a3,a4,a5,a6,a7,a8,a9,a10,a11,a12,a13]
 ·have r:ZO c=false:=by rw[←Bool.not_eq_true,hl];omega
  obtain⟨a0,a1,a2,a3,a4,a5,a6,a7,a8,a9,a10,a11,a12,a13⟩:65≤c∧¬c≤90∧97≤c∧¬c≤122∧c≠95∧c≠215∧c≠247∧c≠930∧192≤c∧¬c≤591∧913≤c∧¬c≤969∧1024≤c∧¬c≤1279:=by and_intros<;>omega
  simp -implicitDefEqProofs [r,a0,a1,a2,a3,a4,a5,a6,a7,a8,a9,a10,a11,a12,a13]
theorem Zpk(c:Int):Zc vp 802 [.int .i64 c]=some (.int .i64 (foldR c)):=by
 rw[Za ZwI]
 have hs:(c<65)∨(65≤c∧c≤90)∨(90<c∧c<192)∨(192≤c∧c≤222∧c≠215)∨(c=215)∨(222<c∧c<913)∨(913≤c∧c≤937∧c≠930)∨(c=930)∨(937<c∧c<1024∧c≠962)∨(c=962)∨(1024≤c∧c<1040)∨(1040≤c∧c≤1071)∨(1071<c):=by omega
 rcases hs with hc|hc|hc|hc|hc|hc|hc|hc|hc|hc|hc|hc|hc
 ·have r:foldR c=c:=by unfold foldR;omega
  obtain⟨a0,a1,a2,a3,a4,a5⟩: ¬65≤c∧¬192≤c∧¬913≤c∧¬1040≤c∧¬1024≤c∧c≠962:=by and_intros<;>omega
  simp -implicitDefEqProofs [r,a0,a1,a2,a3,a4,a5]
 ·have r:foldR c=c+32:=by unfold foldR;omega
  obtain⟨a0,a1⟩:65≤c∧c≤90:=by and_intros<;>omega
  have w:=w64 (n:=c+32) (by omega)
  simp -implicitDefEqProofs [r,a0,a1,w]
 ·have r:foldR c=c:=by unfold foldR;omega
  obtain⟨a0,a1,a2,a3,a4,a5,a6⟩:65≤c∧¬c≤90∧¬192≤c∧¬913≤c∧¬1040≤c∧¬1024≤c∧c≠962:=by and_intros<;>omega
  simp -implicitDefEqProofs [r,a0,a1,a2,a3,a4,a5,a6]
 ·have r:foldR c=c+32:=by unfold foldR;omega
  obtain⟨a0,a1,a2,a3,a4⟩:65≤c∧¬c≤90∧192≤c∧c≤222∧c≠215:=by and_intros<;>omega
  have w:=w64 (n:=c+32) (by omega)
  simp -implicitDefEqProofs [r,a0,a1,a2,a3,a4,w]
 ·have r:foldR c=c:=by unfold foldR;omega
  obtain⟨a0,a1,a2,a3,a4,a5,a6,a7,a8⟩:65≤c∧¬c≤90∧192≤c∧c≤222∧c=215∧¬913≤c∧¬1040≤c∧¬1024≤c∧c≠962:=by and_intros<;>omega
  simp -implicitDefEqProofs [r,a0,a1,a2,a3,a4,a5,a6,a7,a8]
  decide
 ·have r:foldR c=c:=by unfold foldR;omega
  obtain⟨a0,a1,a2,a3,a4,a5,a6,a7⟩:65≤c∧¬c≤90∧192≤c∧¬c≤222∧¬913≤c∧¬1040≤c∧¬1024≤c∧c≠962:=by and_intros<;>omega
  simp -implicitDefEqProofs [r,a0,a1,a2,a3,a4,a5,a6,a7]
 ·have r:foldR c=c+32:=by unfold foldR;omega
  obtain⟨a0,a1,a2,a3,a4,a5,a6⟩:65≤c∧¬c≤90∧192≤c∧¬c≤222∧913≤c∧c≤937∧c≠930:=by and_intros<;>omega
  have w:=w64 (n:=c+32) (by omega)
  simp -implicitDefEqProofs [r,a0,a1,a2,a3,a4,a5,a6,w]
 ·have r:foldR c=c:=by unfold foldR;omega
  obtain⟨a0,a1,a2,a3,a4,a5,a6,a7,a8,a9⟩:65≤c∧¬c≤90∧192≤c∧¬c≤222∧913≤c∧c≤937∧c=930∧¬1040≤c∧¬1024≤c∧c≠962:=by and_intros<;>omega
  simp -implicitDefEqProofs [r,a0,a1,a2,a3,a4,a5,a6,a7,a8,a9]
  decide
 ·have r:foldR c=c:=by unfold foldR;omega
  obtain⟨a0,a1,a2,a3,a4,a5,a6,a7,a8⟩:65≤c∧¬c≤90∧192≤c∧¬c≤222∧913≤c∧¬c≤937∧¬1040≤c∧¬1024≤c∧c≠962:=by and_intros<;>omega
  simp -implicitDefEqProofs [r,a0,a1,a2,a3,a4,a5,a6,a7,a8]
 ·have r:foldR c=963:=by unfold foldR;omega
  obtain⟨a0,a1,a2,a3,a4,a5,a6,a7,a8⟩:65≤c∧¬c≤90∧192≤c∧¬c≤222∧913≤c∧¬c≤937∧¬1040≤c∧¬1024≤c∧c=962:=by and_intros<;>omega
  simp -implicitDefEqProofs [r,a0,a1,a2,a3,a4,a5,a6,a7,a8]
  decide
 ·have r:foldR c=c+80:=by unfold foldR;omega
  obtain⟨a0,a1,a2,a3,a4,a5,a6,a7,a8⟩:65≤c∧¬c≤90∧192≤c∧¬c≤222∧913≤c∧¬c≤937∧¬1040≤c∧1024≤c∧c≤1039:=by and_intros<;>omega
  have w:=w64 (n:=c+80) (by omega)
  simp -implicitDefEqProofs [r,a0,a1,a2,a3,a4,a5,a6,a7,a8,w]
 ·have r:foldR c=c+32:=by unfold foldR;omega
  obtain⟨a0,a1,a2,a3,a4,a5,a6,a7⟩:65≤c∧¬c≤90∧192≤c∧¬c≤222∧913≤c∧¬c≤937∧1040≤c∧c≤1071:=by and_intros<;>omega
  have w:=w64 (n:=c+32) (by omega)
  simp -implicitDefEqProofs [r,a0,a1,a2,a3,a4,a5,a6,a7,w]
 ·have r:foldR c=c:=by unfold foldR;omega
  obtain⟨a0,a1,a2,a3,a4,a5,a6,a7,a8,a9,a10⟩:65≤c∧¬c≤90∧192≤c∧¬c≤222∧913≤c∧¬c≤937∧1040≤c∧¬c≤1071∧1024≤c∧¬c≤1039∧c≠962:=by and_intros<;>omega
  simp -implicitDefEqProofs [r,a0,a1,a2,a3,a4,a5,a6,a7,a8,a9,a10]
theorem ZnT(s:List UInt8)(k:IntKind)(i:Int)(h0:0≤i)(h1:i≤s.length):Uh 0 (.str s) (some (.int k i)) none none=some (.str (s.drop i.toNat)):=by
 simp[Uh,bnd,h0,h1]
theorem Zqf(lo:Nat)(h:Zg)(hlo:lo≤h.length): ∀(f:Nat) (s:List UInt8) (es:List V),s.length≤f→es.length+s.length≤17592186044416→(orc vp).loop lo [0,3] ZgG [(0,.str s),(3,.gsl h.length es.length 1 0 es.length)] (h++[.arr es])=
 some (.brk 0,[(0,.str []),(3,.gsl h.length (es++(Xy f s).map iv).length 1 0 (es++(Xy f s).map iv).length),(8,.bool false)],h++[.arr (es++(Xy f s).map iv)]):=by
 intro f
 induction f with
 |zero=>
  intro s es hs hb
  obtain rfl:=List.length_eq_zero_iff.1 (by omega:s.length=0)
  rw[Zch]
  simp -implicitDefEqProofs [Xy]
 |succ f ih=>
  intro s es hs hb
  by_cases hz:s=[]
  ·subst hz
   rw[Zch]
   simp -implicitDefEqProofs [Xy]
  ·have hp:0<s.length:=List.length_pos_iff.2 hz
   have hw:=Jc s hz
   have hf:=Znv s
   have hsl:=ZnT s .i64 (Yg s).2 (by omega) hw.2.1
   have ha:X3 lo (h++[.arr es]) 1 8 (.gsl h.length es.length 1 0 es.length) [iv (Yg s).1]=some (.gsl h.length (es.length+1) 1 0 (es.length+1),h++[.arr (es++[iv (Yg s).1])]):=by
    rw[KY (es:=es) (by simp) rfl hlo rfl (by simp[YC];omega)];simp
   have ih:=ih (s.drop (Yg s).2.toNat) (es++[iv (Yg s).1]) (by simp;omega) (by simp;omega)
   simp -implicitDefEqProofs [iv]at ih ha
   rw[Zch]
   simp -implicitDefEqProofs [hp,hf,hsl,ha,Z9,Yy,ih,Xy,hz,iv]
theorem ZnJ(lo:Nat)(h:Zg)(hlo:lo≤h.length)(s:List UInt8)(hs:s.length≤17592186044416):(orc vp).call 807 lo [.str s] h=some (.gsl h.length (XQ s).length 1 0 (XQ s).length,h++[.arr ((XQ s).map iv)]):=by
 have hl:=Zqf lo h hlo s.length s [] (by omega) (by simpa using hs)
 rw[←Jz]at hl
 simp -implicitDefEqProofs at hl
 rw[K9 ZrC]
 simp -implicitDefEqProofs [hl]
theorem Zm1{β:Type}(lo:Nat)(h:Zg)(hlo:lo≤h.length)(s:List UInt8)(hs:s.length≤17592186044416)(kv:V→Zg→Option β):Zg1 vp lo h 807 [.str s] kv=kv (.gsl h.length (XQ s).length 1 0 (XQ s).length) (h++[.arr ((XQ s).map iv)]):=by
 unfold Zg1;rw[ZnJ lo h hlo s hs];rfl
def WN(c:Int):Bool:=ZO c||(W7 c||(decide (c=45)||decide (c=46)))
theorem Zh8: ∀(l:List Int) (n:Int),0<n→Vc l n=if l.all WN=true then some (n+l.length)else none
 |[],n,_=>by simp[Vc]
 |c::r,n,h=>by
  have ih:=Zh8 r (n+1) (by omega)
  simp only[Vc,List.all_cons,ih,WN]
  have e:n+1+(r.length:Int)=n+((c::r).length:Nat):=by simp only[List.length_cons];omega
  rw[e]
  have hc:ZO c=true∨ZO c=false:=by cases ZO c<;>simp
  have hd:W7 c=true∨W7 c=false:=by cases W7 c<;>simp
  rcases hc with h1|h1<;>rcases hd with h2|h2<;>by_cases h3:c=45<;>by_cases h4:c=46<;>simp[h1,h2,h3,h4]<;>omega
theorem ZsT(s:List UInt8):J1 s=(decide (1≤(XQ s).length)&&(decide ((XQ s).length≤24)&&(ZO ((XQ s)[0]?.getD 0)&&(XQ s).all WN))):=by
 unfold J1
 cases h:XQ s with
 |nil=>simp[Vc]
 |cons c r=>
  simp only[Vc,true_or,and_true,List.length_cons,List.getElem?_cons_zero,Option.getD_some,List.all_cons]
  by_cases h1:ZO c=true
  ·have e:=Zh8 r (0+1) (by omega)
   have h2:WN c=true:=by simp[WN,h1]
   rw[if_neg (by simp[h1]),e]
   by_cases h3:r.all WN=true
   ·rw[if_pos h3];simp[h1,h2,h3];rw[Bool.eq_iff_iff];simp;omega
   ·rw[if_neg h3];simp[h1,h2,h3]
  ·simp only[Bool.not_eq_true]at h1;simp[h1]
theorem Zog(rs:List Int)(hn:rs.length≤24): ∀(r:List Int) (k:Int),0≤k→k≤rs.length→rs.drop k.toNat=r→(orc vp).loop 0 [3,4] ZgI [(3,.gsl 0 rs.length 1 0 rs.length),(4,.int .i64 k)] [.arr (rs.map iv)]=
 (if r.all WN=true then some (.brk 0,[(3,.gsl 0 rs.length 1 0 rs.length),(4,.int .i64 rs.length),(25,.bool false)],[.arr (rs.map iv)])else some (.ret,[(2,.bool false)],[.arr (rs.map iv)])):=by
 intro r
 induction r with
 |nil=>
  intro k hk hkl hd
  have hle:=Zq hk hd
  obtain⟨hlt,he⟩: ¬k<rs.length∧k=rs.length:=by and_intros<;>omega
  rw[Zir]
  simp -implicitDefEqProofs [hlt,he]
 |cons c r ih=>
  intro k hk hkl hd
  obtain⟨hg,hlt,hd'⟩:=Zp hk hd
  have w1:=w64 (n:=k+1) (by omega)
  have ih:=ih (k+1) (by omega) (by omega) hd'
  have hi:Yb 1 (.gsl 0 rs.length 1 0 rs.length) (.int .i64 k)=some (.ptr 0 rs.length k.toNat 0):=by simp[Yb,hk,hlt]
  have hld:Yv [.arr (rs.map iv)] false 1 (.ptr 0 rs.length k.toNat 0)=some (.int .i64 c):=by
   rw[Zh,if_pos hk]at hg
   simp[Yv,hg,iv]
  have hle:=Zbm c
  rw[Zir]
  by_cases h1:ZO c=true
  ·have h2:WN c=true:=by simp[WN,h1]
   simp -implicitDefEqProofs [hlt,hi,hld,hle,h1,h2,w1,ih,-Xx]
  ·simp only[Bool.not_eq_true]at h1
   by_cases d1:48≤c
   ·by_cases d2:c≤57
    ·have h2:WN c=true:=by simp[WN,W7,d1,d2]
     simp -implicitDefEqProofs [hlt,hi,hld,hle,h1,h2,d1,d2,w1,ih,-Xx]
    ·have h2:WN c=false:=by simp[WN,W7,h1,d2];omega
     obtain⟨d3,d4⟩: ¬c=45∧¬c=46:=by and_intros<;>omega
     simp -implicitDefEqProofs [hlt,hi,hld,hle,h1,h2,d1,d2,d3,d4,-Xx]
   ·by_cases d3:c=45
    ·subst d3
     have h2:WN 45=true:=by decide
     simp -implicitDefEqProofs [hlt,hi,hld,hle,h1,h2,w1,ih,-Xx]
    ·by_cases d4:c=46
     ·subst d4
      have h2:WN 46=true:=by decide
      simp -implicitDefEqProofs [hlt,hi,hld,hle,h1,h2,w1,ih,-Xx]
     ·have h2:WN c=false:=by simp[WN,W7,h1,d1,d3,d4]
      simp -implicitDefEqProofs [hlt,hi,hld,hle,h1,h2,d1,d3,d4,-Xx]
set_option maxHeartbeats 2000000 in
theorem ZlS(s:List UInt8)(hs:s.length≤17592186044416):Zc vp 805 [.str s]=some (.bool (J1 s)):=by
 have hr:=fun kv=>Zm1 (β:=V) 0 [] (Nat.le_refl 0) s hs kv
 rw[ZsT]
 generalize XQ s=rs at hr
 rw[Za Zzd]
 by_cases h1:rs.length<1
 ·have:rs=[]:=List.length_eq_zero_iff.1 (by omega)
  subst this
  simp -implicitDefEqProofs [hr]
 ·have h1': ¬(rs.length:Int)<1:=by omega
  by_cases h2:24<rs.length
  ·have h2':(24:Int)<rs.length:=by omega
   have h3: ¬rs.length≤24:=by omega
   simp -implicitDefEqProofs [hr,h1',h2',h3]
  ·have h2': ¬(24:Int)<rs.length:=by omega
   obtain⟨c,hc⟩: ∃c,rs[0]? =some c:=⟨rs[0]'(by omega),by simp⟩
   have hi:Yb 1 (.gsl 0 rs.length 1 0 rs.length) (.int .i64 0)=some (.ptr 0 rs.length 0 0):=by
    have:(0:Int)<rs.length:=by omega
    have hne: ¬rs=[]:=fun e=>by subst e;simp at h1
    simp[Yb,this,hne]
   have hld:Yv [.arr (rs.map iv)] false 1 (.ptr 0 rs.length 0 0)=some (.int .i64 c):=by simp[Yv,hc,iv]
   have hle:=Zbm c
   obtain⟨a1,a2⟩:1≤rs.length∧rs.length≤24:=by and_intros<;>omega
   by_cases h4:ZO c=true
   ·have hl:=Zog rs a2 rs 0 (by omega) (by omega) rfl
    by_cases h5:rs.all WN=true
    ·rw[if_pos h5]at hl
     simp -implicitDefEqProofs [hr,h1',h2',hi,hld,hle,h4,hl,hc,a1,a2,h5,-Xx,-List.all_eq_true]
    ·rw[if_neg h5]at hl
     simp only[Bool.not_eq_true]at h5
     simp -implicitDefEqProofs [hr,h1',h2',hi,hld,hle,h4,hl,hc,a1,a2,h5,-Xx,-List.all_eq_true]
   ·simp only[Bool.not_eq_true]at h4
    simp -implicitDefEqProofs [hr,h1',h2',hi,hld,hle,h4,hc,a1,a2,-Xx]
theorem Zpt(rs:List Int)(hn:rs.length≤17592186044416): ∀(r:List Int) (k:Int) (d:List Int),0≤k→d.length=k.toNat→rs=d++r→(orc vp).loop 0 [3,4] Zhe [(3,.gsl 0 rs.length 1 0 rs.length),(4,.int .i64 k)] [.arr ((d.map foldR++r).map iv)]=
 some (.brk 0,[(3,.gsl 0 rs.length 1 0 rs.length),(4,.int .i64 rs.length),(10,.bool false)],[.arr ((rs.map foldR).map iv)]):=by
 intro r
 induction r with
 |nil=>
  intro k d hk hd he
  have hlt: ¬k<rs.length:=by rw[he];simp;omega
  have hke:k=rs.length:=by rw[he];simp;omega
  rw[List.append_nil]at he
  subst he
  rw[Zi9]
  simp -implicitDefEqProofs [hlt,hke]
 |cons c r ih=>
  intro k d hk hd he
  have hlen:rs.length=k.toNat+(r.length+1):=by rw[he];simp;omega
  have hlt:k<rs.length:=by omega
  have w1:=w64 (n:=k+1) (by omega)
  have ih:=ih (k+1) (d++[c]) (by omega) (by simp;omega) (by rw[he];simp)
  have hi:Yb 1 (.gsl 0 rs.length 1 0 rs.length) (.int .i64 k)=some (.ptr 0 rs.length k.toNat 0):=by simp[Yb,hk,hlt]
  have hlen2:((d.map foldR++c::r).map iv).length=rs.length:=by simp;omega
  have hget:((d.map foldR++c::r).map iv)[k.toNat]? =some (iv c):=by
   rw[List.getElem?_map,List.getElem?_append_right (by simp;omega)];simp[hd]
  have hset:((d.map foldR++c::r).map iv).set k.toNat (iv (foldR c))=((d++[c]).map foldR++r).map iv:=by
   have e:(d.map foldR++c::r).map iv=(d.map foldR).map iv++iv c::r.map iv:=by simp
   rw[e,List.set_append_right _ _ (by simp;omega)];simp[hd]
  have hf:=Zpk c
  generalize hes:(d.map foldR++c::r).map iv=es at hlen2 hget hset
  have hld:Yv [.arr es] false 1 (.ptr 0 rs.length k.toNat 0)=some (iv c):=by
   simp[Yv,hlen2,hget,iv]
  have hst:Xp 0 [.arr es] 1 (.ptr 0 rs.length k.toNat 0) (iv (foldR c))=some [.arr (es.set k.toNat (iv (foldR c)))]:=by
   simp[Xp,hlen2,hget,iv]
  rw[hset]at hst
  generalize ((d++[c]).map foldR++r).map iv=es2 at hst ih
  simp only[iv]at hld hst
  rw[Zi9]
  simp -implicitDefEqProofs [hlt,hi,hld,hf,hst,w1,ih,-Xx,-Ze6]
theorem ZiX(s:List UInt8)(hs:s.length≤17592186044416):Zc vp 803 [.str s]=some (.sl 1 ((UY s).map iv) .perm):=by
 have hr:=fun kv=>Zm1 (β:=V) 0 [] (Nat.le_refl 0) s hs kv
 have hn:(XQ s).length≤17592186044416:=by have:=Jk s.length s;rw[←Jz]at this;omega
 unfold UY
 generalize XQ s=rs at hr hn
 have hl:=Zpt rs hn rs 0 [] (by omega) rfl rfl
 rw[List.map_nil,List.nil_append]at hl
 rw[Za Zy9]
 generalize hx:(rs.map foldR).map iv=es2 at hl
 have hlen:es2.length=rs.length:=by rw[←hx];simp
 have hc:Zv es2=true:=by rw[←hx];exact ZhF _
 simp -implicitDefEqProofs [hr,hl,hlen,hc]
def QR:List Int→List Int→Option Int
 |a::l,b::r=>if a<b then some (-1)else if b<a then some 1 else QR l r
 |_,_=>none
def Zfa(a b:List Int):Int:=match QR a b with|some e=>e|none=>if a.length<b.length then -1 else if b.length<a.length then 1 else 0
theorem Zic: ∀(a b:List Int) {e:Int},QR a b=some e→e≠0∧a≠b
 |[],_,e,h=>by simp[QR]at h
 |_::_,[],e,h=>by simp[QR]at h
 |a::l,b::r,e,h=>by
  simp only[QR]at h
  split at h
  ·simp only[Option.some.injEq]at h;exact⟨by omega,by simp;omega⟩
  ·split at h
   ·simp only[Option.some.injEq]at h;exact⟨by omega,by simp;omega⟩
   ·have:=Zic l r h;exact⟨this.1,by simp[this.2]⟩
theorem Zik: ∀(a b:List Int),QR a b=none→a.length=b.length→a=b
 |[],[],_,_=>rfl
 |[],_::_,_,h=>by simp at h
 |_::_,[],_,h=>by simp at h
 |a::l,b::r,h,hl=>by
  simp only[QR]at h
  split at h
  ·simp at h
  ·split at h
   ·simp at h
   ·rw[Zik l r h (by simpa using hl),show a=b by omega]
theorem ZsA(a b:List Int):Zfa a b=0↔a=b:=by
 unfold Zfa
 cases h:QR a b with
 |some e=>have:=Zic a b h;simp[this.1,this.2]
 |none=>
  simp only
  constructor
  ·intro h2
   split at h2
   ·omega
   ·split at h2
    ·omega
    ·exact Zik a b h (by omega)
  ·rintro rfl;simp
theorem Ziq(a b:List Int)(ta tb:Tag)(ha:a.length≤17592186044416)(hb:b.length≤17592186044416): ∀(r t:List Int) (k:Int),0≤k→a.drop k.toNat=r→b.drop k.toNat=t→k≤a.length→k≤b.length→(orc vp).loop 0 [0,1,5] Zhn [(0,.sl 1 (a.map iv) ta),(1,.sl 1 (b.map iv) tb),(5,.int .i64 k)] []=
 (match QR r t with
  |none=>some (.brk 0,[(0,.sl 1 (a.map iv) ta),(1,.sl 1 (b.map iv) tb),(5,.int .i64 (k+(min r.length t.length:Nat))),(15,.bool false)],[])
  |some e=>some (.ret,[(4,.int .i64 e)],[]))
 |[],t,k,hk,h1,h2,l1,l2=>by
  have hlt: ¬k<a.length:=by have:=Zq hk h1;omega
  rw[Zdz]
  simp -implicitDefEqProofs [hlt,QR]
 |x::r,[],k,hk,h1,h2,l1,l2=>by
  obtain⟨_,hlt,_⟩:=Zp hk h1
  have hlt2: ¬k<b.length:=by have:=Zq hk h2;omega
  rw[Zdz]
  simp -implicitDefEqProofs [hlt,hlt2,QR]
 |x::r,y::t,k,hk,h1,h2,l1,l2=>by
  obtain⟨g1,hlt,h1'⟩:=Zp hk h1
  obtain⟨g2,hlt2,h2'⟩:=Zp hk h2
  have w1:=w64 (n:=k+1) (by omega)
  have ih:=Ziq a b ta tb ha hb r t (k+1) (by omega) h1' h2' (by omega) (by omega)
  have hm:k+1+((min r.length t.length:Nat):Int)=k+((min (x::r).length (y::t).length:Nat):Int):=by simp only[List.length_cons];omega
  rw[hm]at ih
  rw[Zdz]
  by_cases c1:x<y
  ·simp -implicitDefEqProofs [hlt,hlt2,g1,g2,c1,QR,iv]
  ·by_cases c2:y<x
   ·simp -implicitDefEqProofs [hlt,hlt2,g1,g2,c1,c2,QR,iv]
   ·simp -implicitDefEqProofs [hlt,hlt2,g1,g2,c1,c2,QR,iv,w1]at ih⊢
    exact ih
theorem ZnD(a b:List Int)(ta tb:Tag)(ha:a.length≤17592186044416)(hb:b.length≤17592186044416):Zc vp 806 [.sl 1 (a.map iv) ta,.sl 1 (b.map iv) tb]=some (.int .i64 (Zfa a b)):=by
 have hl:=Ziq a b ta tb ha hb a b 0 (by omega) rfl rfl (by omega) (by omega)
 rw[Za Zwn]
 cases h:QR a b with
 |some e=>
  rw[h]at hl
  simp -implicitDefEqProofs [hl,Zfa,h]
 |none=>
  rw[h]at hl
  by_cases c1:(a.length:Int)<b.length
  ·have c1':a.length<b.length:=by omega
   simp -implicitDefEqProofs [hl,Zfa,h,c1,c1']
  ·have c1': ¬a.length<b.length:=by omega
   by_cases c2:(b.length:Int)<a.length
   ·have c2':b.length<a.length:=by omega
    simp -implicitDefEqProofs [hl,Zfa,h,c1,c1',c2,c2']
   ·have c2': ¬b.length<a.length:=by omega
    simp -implicitDefEqProofs [hl,Zfa,h,c1,c1',c2,c2']
theorem Zbq(s:List UInt8):(UY s).length≤s.length:=by
 have:=Jk s.length s
 rw[←Jz]at this
 simpa[UY]using this
theorem Za8(s t:List UInt8)(hs:s.length≤17592186044416)(ht:t.length≤17592186044416):Zc vp 818 [.str s,.str t]=some (.bool (decide (Yl s=Yl t))):=by
 have k1:=ZiX s hs
 have k2:=ZiX t ht
 have l1:=Zbq s
 have l2:=Zbq t
 have ho:=ZnD (UY s) (UY t) .perm .perm (by omega) (by omega)
 have e:decide (Zfa (UY s) (UY t)=0)=decide (Yl s=Yl t):=by
  rw[decide_eq_decide,ZsA,ZlJ]
 rw[Za Zy1]
 simp -implicitDefEqProofs [k1,k2,ho,e]
theorem Zpo(s:List UInt8)(hs:s.length≤17592186044416): ∀(r:List UInt8) (k:Int),0≤k→k≤s.length→s.drop k.toNat=r→(orc vp).loop 0 [0,3] Zho [(0,.str s),(3,.int .i64 k)] []=
 (if(46:UInt8)∈r then some (.ret,[(2,.bool false)],[])else some (.brk 0,[(0,.str s),(3,.int .i64 s.length),(7,.bool false)],[])):=by
 intro r
 induction r with
 |nil=>
  intro k hk hkl hd
  have hle:=Zq hk hd
  obtain⟨hlt,he⟩: ¬k<s.length∧k=s.length:=by and_intros<;>omega
  rw[Zis]
  simp -implicitDefEqProofs [hlt,he]
 |cons c r ih=>
  intro k hk hkl hd
  obtain⟨hg,hlt,hd'⟩:=Zp hk hd
  have w1:=w64 (n:=k+1) (by omega)
  have ih:=ih (k+1) (by omega) (by omega) hd'
  rw[Zis]
  by_cases hc:c=46
  ·subst hc
   simp -implicitDefEqProofs [hlt,hg,WF]
  ·have h1: ¬(c.toNat:Int)=46:=fun e=>hc (UInt8.toNat_inj.1 (by have:(46:UInt8).toNat=46:=rfl
                                                                omega))
   have h2: ¬(46:UInt8)=c:=fun e=>hc e.symm
   simp -implicitDefEqProofs [hlt,hg,WF,h1,h2,w1,ih]
theorem Zjg: ∀(s:List UInt8) (c:UInt8),0≤Lib.indexByte s c↔c∈s
 |[],c=>by simp[Lib.indexByte]
 |b::l,c=>by
  have ih:=Zjg l c
  have hg:=Lib.indexByte_ge l c
  simp only[Lib.indexByte,List.mem_cons]
  by_cases h:b=c
  ·subst h;simp
  ·rw[if_neg (by simpa using h)]
   have h': ¬c=b:=fun e=>h e.symm
   simp only[h',false_or,←ih]
   split
   ·rename_i e;simp at e;omega
   ·rename_i e;simp at e;omega
theorem QF(s:List UInt8)(hs:s.length≤17592186044416):Zc vp 822 [.str s]=some (.bool (YB s)):=by
 have hl:=Zpo s hs s 0 (by omega) (by omega) rfl
 have hm:=ZlS s hs
 have hi:=Zjg s 46
 rw[Za Zvp]
 by_cases h:(46:UInt8)∈s
 ·rw[if_pos h]at hl
  simp -implicitDefEqProofs [hl,YB,hi,h]
 ·rw[if_neg h]at hl
  simp -implicitDefEqProofs [hl,YB,hi,h,hm]
end Go.VE.Un
namespace Go.VE
def Y0(f:Nat→Bool):List V:=(List.range 128).map fun j=>.bool (f j)
@[simp] theorem Zrn(f:Nat→Bool):(Y0 f).length=128:=by simp[Y0]
theorem VJ(f:Nat→Bool){j:Nat}(h:j<128):(Y0 f)[j]? =some (.bool (f j)):=by simp[Y0,h]
theorem K8(f g:Nat→Bool){o:Nat}{b:Bool}(h: ∀j,j<128→g j=if j=o then b else f j):(Y0 f).set o (.bool b)=Y0 g:=by
 apply List.ext_getElem?
 intro j
 by_cases hj:j<128
 ·rw[List.getElem?_set,VJ g hj,h j hj]
  by_cases e:o=j
  ·subst e;simp[hj]
  ·have e': ¬j=o:=fun x=>e x.symm
   simp[e,e',VJ f hj]
 ·rw[List.getElem?_eq_none (by simp;omega),List.getElem?_eq_none (by simp;omega)]
theorem UG{f g:Nat→Bool}(h: ∀j,j<128→f j=g j):Y0 f=Y0 g:=by
 unfold Y0;apply List.map_congr_left;intro j hj;rw[h j (by simpa using hj)]
theorem ZtN:rp 128 (.bool false)=Y0 fun _=>false:=by
 apply List.ext_getElem?
 intro j
 by_cases hj:j<128
 ·rw[VJ _ hj,rp,List.getElem?_replicate,if_pos hj]
 ·rw[List.getElem?_eq_none (by simp;omega),List.getElem?_eq_none (by simp;omega)]
@[simp] theorem Zq6(f:Nat→Bool):Zv (Y0 f)=true:=by unfold Y0;rw[YR];simp
@[simp] theorem Zsz(k:Nat)(f:Nat→Bool):Zo k (Y0 f)=true:=Yq (fun _=>by simp) _
theorem ZnN(x k:Nat):decide (((x/2^k:Nat):Int)%2=1)=x.testBit k:=by
 rw[Nat.testBit_eq_decide_div_mod_eq,decide_eq_decide];omega
theorem ZrL(n k:Nat):(n/18446744073709551616).testBit k=n.testBit (k+64):=by
 rw[show(18446744073709551616:Nat)=2^64 from rfl,Nat.testBit_div_two_pow,Nat.add_comm]
theorem ZrD(n k:Nat)(h:k<64):(n%18446744073709551616).testBit k=n.testBit k:=by
 rw[show(18446744073709551616:Nat)=2^64 from rfl,Nat.testBit_mod_two_pow];simp[h]
end Go.VE
namespace Go.VE.Un
open Go.VE
theorem ZvJ(x:Nat):Yh .rem (.int .u64 (x:Int)) (.int .u64 2)=some (.int .u64 ((x:Int)%2)):=by
 rw[JH _ _ _ (by decide)];simp[Int.tmod_eq_emod_of_nonneg]
theorem Zwf(x:Nat)(h:x<18446744073709551616):Yh .quo (.int .u64 (x:Int)) (.int .u64 2)=some (.int .u64 ((x/2:Nat):Int)):=by
 rw[ZoX _ _ _ (by decide)]
 have:((x:Int).tdiv 2)=((x/2:Nat):Int):=by rw[Int.tdiv_eq_ediv_of_nonneg (by omega)];omega
 rw[this,KH (by omega)]
theorem Zqs(n:Nat)(hn:n<340282366920938463463374607431768211456): ∀(j k:Nat),k+j=64→(orc vp).loop 0 [0,1,4,5,6] Zgd [(0,.int .u64 ((n/18446744073709551616/2^k:Nat):Int)),(1,.int .u64 ((n%18446744073709551616/2^k:Nat):Int)),(4,.ptr 0 1 0 0),(5,.ptr 1 1 0 0),(6,.int .i64 k)]
 [.arr [.agg (Y0 fun _=>false)],.arr [.agg (Y0 fun i=>decide (i%64<k)&&n.testBit i)]]=some (.brk 0,[(0,.int .u64 ((n/18446744073709551616/2^64:Nat):Int)),(1,.int .u64 ((n%18446744073709551616/2^64:Nat):Int)),(4,.ptr 0 1 0 0),(5,.ptr 1 1 0 0),(6,.int .i64 64),(8,.bool false)],[.arr [.agg (Y0 fun _=>false)],.arr [.agg (Y0 n.testBit)]]):=by
 intro j
 induction j with
 |zero=>
  intro k hk
  obtain rfl:k=64:=by omega
  have e:(Y0 fun i=>decide (i%64<64)&&n.testBit i)=Y0 n.testBit:=UG fun i _=>by simp[Nat.mod_lt]
  rw[Zju,e]
  simp -implicitDefEqProofs [-Int.natCast_ediv,-Int.natCast_emod,-Nat.reducePow]
 |succ j ih=>
  intro k hk
  have hlt:(k:Int)<64:=by omega
  have w1:=w64 (n:=(k:Int)+1) (by omega)
  have w2:=w64 (n:=(k:Int)+64) (by omega)
  have hh:n/18446744073709551616/2^k<18446744073709551616:=Nat.lt_of_le_of_lt (Nat.div_le_self _ _) (ZbA hn)
  have hl:n%18446744073709551616/2^k<18446744073709551616:=Nat.lt_of_le_of_lt (Nat.div_le_self _ _) (Nat.mod_lt _ (by decide))
  have d1:n/18446744073709551616/2^k/2=n/18446744073709551616/2^(k+1):=by rw[Nat.div_div_eq_div_mul,←Nat.pow_succ]
  have d2:n%18446744073709551616/2^k/2=n%18446744073709551616/2^(k+1):=by rw[Nat.div_div_eq_div_mul,←Nat.pow_succ]
  have q1:=Zwf _ hh
  have q2:=Zwf _ hl
  have r1:=ZvJ (n/18446744073709551616/2^k)
  have r2:=ZvJ (n%18446744073709551616/2^k)
  rw[d1]at q1;rw[d2]at q2
  have b1:=ZnN (n/18446744073709551616) k
  have b2:=ZnN (n%18446744073709551616) k
  rw[ZrL]at b1;rw[ZrD n k (by omega)]at b2
  have s1:(Y0 fun i=>decide (i%64<k)&&n.testBit i).set k (.bool (n.testBit k))=Y0 fun i=>(decide (i%64<k)||decide (i=k))&&n.testBit i:=K8 _ _ fun i hi=>by
   by_cases e:i=k
   ·subst e;simp
   ·simp[e]
  have s2:(Y0 fun i=>(decide (i%64<k)||decide (i=k))&&n.testBit i).set (k+64) (.bool (n.testBit (k+64)))=Y0 fun i=>decide (i%64<k+1)&&n.testBit i:=K8 _ _ fun i hi=>by
   by_cases e:i=k+64
   ·subst e;simp
    intro;omega
   ·rw[if_neg e];congr 1
    rw[Bool.eq_iff_iff];simp;omega
  have ih:=ih (k+1) (by omega)
  have p1:((k+1:Nat):Int)=(k:Int)+1:=by omega
  rw[p1]at ih
  obtain⟨z1,g1,g2,g3,l1,l2⟩:(((k:Int)+64).toNat=k+64)∧((0:Int)≤(k:Int)+64)∧((k:Int)+64<128)∧((k:Int)<128)∧k<128∧k+64<128:=by and_intros<;>omega
  generalize n/18446744073709551616/2^k=H at*
  generalize n%18446744073709551616/2^k=L at*
  generalize n/18446744073709551616/2^(k+1)=H' at*
  generalize n%18446744073709551616/2^(k+1)=L' at*
  generalize n/18446744073709551616/2^64=H2 at*
  generalize n%18446744073709551616/2^64=L2 at*
  rw[Zju]
  simp -implicitDefEqProofs [hlt,w1,w2,q1,q2,r1,r2,b1,b2,s1,s2,ih,z1,g1,g2,g3,l1,l2,-Int.natCast_ediv,-Int.natCast_emod]
theorem Zq8(n:Nat)(hn:n<340282366920938463463374607431768211456):Zc vp 777 [.int .u64 ((n/18446744073709551616:Nat):Int),.int .u64 ((n%18446744073709551616:Nat):Int)]=some (.agg (Y0 n.testBit)):=by
 have hl:=Zqs n hn 64 0 (by omega)
 have e:(Y0 fun i=>decide (i%64<0)&&n.testBit i)=Y0 fun _=>false:=UG fun i _=>by simp
 rw[e,Nat.pow_zero,Nat.div_one,Nat.div_one]at hl
 simp only[Int.natCast_zero]at hl
 rw[Za Zxi]
 generalize n/18446744073709551616=H at*
 generalize n%18446744073709551616=L at*
 simp -implicitDefEqProofs [ZtN,hl]
def QQ(n:Nat):Nat→Nat
 |0=>0
 |k+1=>if n.testBit k=true then k+1 else QQ n k
theorem Ziy(n:Nat)(w:Nat): ∀k,QQ n k≤w↔∀i,w≤i→i<k→n.testBit i=false
 |0=>by simp[QQ]
 |k+1=>by
  simp only[QQ]
  split
  ·rename_i h
   constructor
   ·intro h1 i h2 h3;omega
   ·intro h1
    rcases Nat.lt_or_ge k w with h2|h2
    ·omega
    ·rw[h1 k h2 (by omega)]at h;simp at h
  ·rename_i h
   rw[Ziy n w k]
   constructor
   ·intro h1 i h2 h3
    rcases Nat.lt_or_ge i k with h4|h4
    ·exact h1 i h2 h4
    ·obtain rfl:i=k:=by omega
     simpa using h
   ·intro h1 i h2 h3;exact h1 i h2 (by omega)
theorem ZnU(n w:Nat)(hn:n<340282366920938463463374607431768211456):QQ n 128≤w↔n<2^w:=by
 rw[Ziy]
 constructor
 ·intro h
  apply Nat.lt_pow_two_of_testBit
  intro i hi
  rcases Nat.lt_or_ge i 128 with h2|h2
  ·exact h i hi h2
  ·exact Nat.testBit_lt_two_pow (Nat.lt_of_lt_of_le hn (Nat.pow_le_pow_right (by decide) h2:2^128≤2^i))
 ·intro h i hi _
  exact Nat.testBit_lt_two_pow (Nat.lt_of_lt_of_le h (Nat.pow_le_pow_right (by decide) hi))
theorem Zp6(n:Nat): ∀(k:Nat),k≤128→∃fr,(orc vp).loop 0 [1,3] Zge [(1,.ptr 0 1 0 0),(3,.int .i64 ((k:Int)-1))] [.arr [.agg (Y0 n.testBit)]]=
 (if QQ n k=0 then some (.brk 0,[(1,.ptr 0 1 0 0),(3,.int .i64 (-1)),(5,.bool false)],[.arr [.agg (Y0 n.testBit)]])else some (.ret,fr,[.arr [.agg (Y0 n.testBit)]]))∧lk fr 2=.int .i64 (QQ n k):=by
 intro k
 induction k with
 |zero=>
  intro _
  refine⟨[(2,.int .i64 0)],?_,rfl⟩
  rw[Zjm]
  simp -implicitDefEqProofs [QQ]
 |succ k ih=>
  intro hk
  have h0:(((k+1:Nat):Int)-1)=k:=by omega
  have w1:=w64 (n:=(k:Int)-1) (by omega)
  have w2:=w64 (n:=(k:Int)+1) (by omega)
  have g3:(k:Int)<128:=by omega
  have hg:=VJ n.testBit (show k<128 by omega)
  rw[h0,Zjm]
  by_cases c:n.testBit k=true
  ·refine⟨[(2,.int .i64 ((k:Int)+1))],?_,by simp[QQ,c]⟩
   simp -implicitDefEqProofs [QQ,c,g3,hg,w2]
  ·simp only[Bool.not_eq_true]at c
   obtain⟨fr,ih,e⟩:=ih (by omega)
   refine⟨fr,?_,by simp[QQ,c,e]⟩
   simp -implicitDefEqProofs [QQ,c,g3,hg,w1,ih]
theorem Zsi(n:Nat):Zc vp 773 [.agg (Y0 n.testBit)]=some (.int .i64 (QQ n 128)):=by
 obtain⟨fr,hl,e⟩:=Zp6 n 128 (by omega)
 rw[show((128:Nat):Int)-1=127 from rfl]at hl
 rw[Za Zvf]
 by_cases c:QQ n 128=0
 ·rw[if_pos c]at hl
  simp -implicitDefEqProofs [hl,c]
 ·rw[if_neg c]at hl
  simp -implicitDefEqProofs [hl,e]
theorem Kc(x:Vec):Zc vp 785 [x.v]=some (.bool x.good):=by
 have hn:=x.n_lt
 have h1:((x.n/18446744073709551616:Nat):Int)=x.Hi.n:=by have:=x.Hi.lo;have:=x.Lo.lo;have:=x.Lo.hi;unfold Vec.n;omega
 have h2:((x.n%18446744073709551616:Nat):Int)=x.Lo.n:=by have:=x.Hi.lo;have:=x.Lo.lo;have:=x.Lo.hi;unfold Vec.n;omega
 have ho:=Zq8 x.n hn
 rw[h1,h2]at ho
 have hl:=Zsi x.n
 rw[Za Zxh]
 by_cases c1:1≤x.W.n
 ·by_cases c2:x.W.n≤128
  ·have hi:=ZnU x.n x.W.n.toNat hn
   by_cases c3:x.n<2^x.W.n.toNat
   ·have c4:(QQ x.n 128:Int)≤x.W.n:=by have:=hi.2 c3;omega
    simp -implicitDefEqProofs [c1,c2,ho,hl,c3,c4,Vec.good]
   ·have c4: ¬(QQ x.n 128:Int)≤x.W.n:=fun h=>c3 (hi.1 (by omega))
    simp -implicitDefEqProofs [c1,c2,ho,hl,c3,c4,Vec.good]
  ·simp -implicitDefEqProofs [c1,c2,Vec.good]
 ·simp -implicitDefEqProofs [c1,Vec.good]
end Go.VE.Un
