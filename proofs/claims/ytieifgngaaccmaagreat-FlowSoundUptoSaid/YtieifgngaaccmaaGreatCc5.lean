/- Joined texts: CrD. No condition: what each theorem needs stands in it. -/
import Derived.Test.YtieifgngaaccmaaGreatCc4
namespace Go.VE.Un
open Go.VE
def iv(n:Int):V:=.int .i64 n
@[simp] theorem iv_below(k:Nat)(n:Int):belowB k (iv n)=true:=nr rfl
@[simp] theorem iv_closed(n:Int):closedB (iv n)=true:=nr rfl
@[simp] theorem ivs_closed(l:List Int):closedL (l.map iv)=true:=by rw[closedL_map];simp
@[simp] theorem ivs_below(k:Nat)(l:List Int):belowL k (l.map iv)=true:=belowL_map (fun _=>rfl) l
theorem letter_cls(c:Int):letterB c=true↔(65≤c∧c≤90∨97≤c∧c≤122∨c=95)∨¬(c=215∨c=247∨c=930)∧(192≤c∧c≤591∨913≤c∧c≤969∨1024≤c∧c≤1279):=by
 unfold letterB
 simp only[Bool.and_eq_true,Bool.or_eq_true,Bool.not_eq_true',Bool.or_eq_false_iff,decide_eq_true_eq,decide_eq_false_iff_not]
 omega
theorem letter804(c:Int):callRO vp 804 [.int .i64 c]=some (.bool (letterB c)):=by
 have hl:=letter_cls c
 rw[callRO_K fn804]
 have hs:(c<65)∨(65≤c∧c≤90)∨(90<c∧c<97∧c≠95)∨(c=95)∨(97≤c∧c≤122)∨(122<c∧c<192)∨(c=215)∨(c=247)∨(c=930)∨(192≤c∧c≤591∧c≠215∧c≠247)∨(591<c∧c<913)∨(913≤c∧c≤969∧c≠930)∨(969<c∧c<1024)∨(1024≤c∧c≤1279)∨(1279<c):=by omega
 rcases hs with hc|hc|hc|hc|hc|hc|hc|hc|hc|hc|hc|hc|hc|hc|hc
 ·have r:letterB c=false:=by rw[←Bool.not_eq_true,hl];omega
  have a0: ¬65≤c:=by omega
  have a1: ¬97≤c:=by omega
  have a2:c≠95:=by omega
  have a3:c≠215:=by omega
  have a4:c≠247:=by omega
  have a5:c≠930:=by omega
  have a6: ¬192≤c:=by omega
  have a7: ¬913≤c:=by omega
  have a8: ¬1024≤c:=by omega
  simp -implicitDefEqProofs [r,a0,a1,a2,a3,a4,a5,a6,a7,a8]
 ·have r:letterB c=true:=by rw[hl];omega
  have a0:65≤c:=by omega
  have a1:c≤90:=by omega
  simp -implicitDefEqProofs [r,a0,a1]
 ·have r:letterB c=false:=by rw[←Bool.not_eq_true,hl];omega
  have a0:65≤c:=by omega
  have a1: ¬c≤90:=by omega
  have a2: ¬97≤c:=by omega
  have a3:c≠95:=by omega
  have a4:c≠215:=by omega
  have a5:c≠247:=by omega
  have a6:c≠930:=by omega
  have a7: ¬192≤c:=by omega
  have a8: ¬913≤c:=by omega
  have a9: ¬1024≤c:=by omega
  simp -implicitDefEqProofs [r,a0,a1,a2,a3,a4,a5,a6,a7,a8,a9]
 ·have r:letterB c=true:=by rw[hl];omega
  have a0:65≤c:=by omega
  have a1: ¬c≤90:=by omega
  have a2: ¬97≤c:=by omega
  have a3:c=95:=by omega
  simp -implicitDefEqProofs [r,a0,a1,a2,a3]
  decide
 ·have r:letterB c=true:=by rw[hl];omega
  have a0:65≤c:=by omega
  have a1: ¬c≤90:=by omega
  have a2:97≤c:=by omega
  have a3:c≤122:=by omega
  simp -implicitDefEqProofs [r,a0,a1,a2,a3]
 ·have r:letterB c=false:=by rw[←Bool.not_eq_true,hl];omega
  have a0:65≤c:=by omega
  have a1: ¬c≤90:=by omega
  have a2:97≤c:=by omega
  have a3: ¬c≤122:=by omega
  have a4:c≠95:=by omega
  have a5:c≠215:=by omega
  have a6:c≠247:=by omega
  have a7:c≠930:=by omega
  have a8: ¬192≤c:=by omega
  have a9: ¬913≤c:=by omega
  have a10: ¬1024≤c:=by omega
  simp -implicitDefEqProofs [r,a0,a1,a2,a3,a4,a5,a6,a7,a8,a9,a10]
 ·have r:letterB c=false:=by rw[←Bool.not_eq_true,hl];omega
  have a0:65≤c:=by omega
  have a1: ¬c≤90:=by omega
  have a2:97≤c:=by omega
  have a3: ¬c≤122:=by omega
  have a4:c≠95:=by omega
  have a5:c=215:=by omega
  simp -implicitDefEqProofs [r,a0,a1,a2,a3,a4,a5]
  decide
 ·have r:letterB c=false:=by rw[←Bool.not_eq_true,hl];omega
  have a0:65≤c:=by omega
  have a1: ¬c≤90:=by omega
  have a2:97≤c:=by omega
  have a3: ¬c≤122:=by omega
  have a4:c≠95:=by omega
  have a5:c≠215:=by omega
  have a6:c=247:=by omega
  simp -implicitDefEqProofs [r,a0,a1,a2,a3,a4,a5,a6]
  decide
 ·have r:letterB c=false:=by rw[←Bool.not_eq_true,hl];omega
  have a0:65≤c:=by omega
  have a1: ¬c≤90:=by omega
  have a2:97≤c:=by omega
  have a3: ¬c≤122:=by omega
  have a4:c≠95:=by omega
  have a5:c≠215:=by omega
  have a6:c≠247:=by omega
  have a7:c=930:=by omega
  simp -implicitDefEqProofs [r,a0,a1,a2,a3,a4,a5,a6,a7]
  decide
 ·have r:letterB c=true:=by rw[hl];omega
  have a0:65≤c:=by omega
  have a1: ¬c≤90:=by omega
  have a2:97≤c:=by omega
  have a3: ¬c≤122:=by omega
  have a4:c≠95:=by omega
  have a5:c≠215:=by omega
  have a6:c≠247:=by omega
  have a7:c≠930:=by omega
  have a8:192≤c:=by omega
  have a9:c≤591:=by omega
  simp -implicitDefEqProofs [r,a0,a1,a2,a3,a4,a5,a6,a7,a8,a9]
 ·have r:letterB c=false:=by rw[←Bool.not_eq_true,hl];omega
  have a0:65≤c:=by omega
  have a1: ¬c≤90:=by omega
  have a2:97≤c:=by omega
  have a3: ¬c≤122:=by omega
  have a4:c≠95:=by omega
  have a5:c≠215:=by omega
  have a6:c≠247:=by omega
  have a7:c≠930:=by omega
  have a8:192≤c:=by omega
  have a9: ¬c≤591:=by omega
  have a10: ¬913≤c:=by omega
  have a11: ¬1024≤c:=by omega
  simp -implicitDefEqProofs [r,a0,a1,a2,a3,a4,a5,a6,a7,a8,a9,a10,a11]
 ·have r:letterB c=true:=by rw[hl];omega
  have a0:65≤c:=by omega
  have a1: ¬c≤90:=by omega
  have a2:97≤c:=by omega
  have a3: ¬c≤122:=by omega
  have a4:c≠95:=by omega
  have a5:c≠215:=by omega
  have a6:c≠247:=by omega
  have a7:c≠930:=by omega
  have a8:192≤c:=by omega
  have a9: ¬c≤591:=by omega
  have a10:913≤c:=by omega
  have a11:c≤969:=by omega
  simp -implicitDefEqProofs [r,a0,a1,a2,a3,a4,a5,a6,a7,a8,a9,a10,a11]
 ·have r:letterB c=false:=by rw[←Bool.not_eq_true,hl];omega
  have a0:65≤c:=by omega
  have a1: ¬c≤90:=by omega
  have a2:97≤c:=by omega
  have a3: ¬c≤122:=by omega
  have a4:c≠95:=by omega
  have a5:c≠215:=by omega
  have a6:c≠247:=by omega
  have a7:c≠930:=by omega
  have a8:192≤c:=by omega
  have a9: ¬c≤591:=by omega
  have a10:913≤c:=by omega
  have a11: ¬c≤969:=by omega
  have a12: ¬1024≤c:=by omega
  simp -implicitDefEqProofs [r,a0,a1,a2,a3,a4,a5,a6,a7,a8,a9,a10,a11,a12]
 ·have r:letterB c=true:=by rw[hl];omega
  have a0:65≤c:=by omega
  have a1: ¬c≤90:=by omega
  have a2:97≤c:=by omega
  have a3: ¬c≤122:=by omega
  have a4:c≠95:=by omega
  have a5:c≠215:=by omega
  have a6:c≠247:=by omega
  have a7:c≠930:=by omega
  have a8:192≤c:=by omega
  have a9: ¬c≤591:=by omega
  have a10:913≤c:=by omega
  have a11: ¬c≤969:=by omega
  have a12:1024≤c:=by omega
  have a13:c≤1279:=by omega
  simp -implicitDefEqProofs [r,a0,a1,a2,a3,a4,a5,a6,a7,a8,a9,a10,a11,a12,a13]
 ·have r:letterB c=false:=by rw[←Bool.not_eq_true,hl];omega
  have a0:65≤c:=by omega
  have a1: ¬c≤90:=by omega
  have a2:97≤c:=by omega
  have a3: ¬c≤122:=by omega
  have a4:c≠95:=by omega
  have a5:c≠215:=by omega
  have a6:c≠247:=by omega
  have a7:c≠930:=by omega
  have a8:192≤c:=by omega
  have a9: ¬c≤591:=by omega
  have a10:913≤c:=by omega
  have a11: ¬c≤969:=by omega
  have a12:1024≤c:=by omega
  have a13: ¬c≤1279:=by omega
  simp -implicitDefEqProofs [r,a0,a1,a2,a3,a4,a5,a6,a7,a8,a9,a10,a11,a12,a13]
theorem fold802(c:Int):callRO vp 802 [.int .i64 c]=some (.int .i64 (foldR c)):=by
 rw[callRO_K fn802]
 have hs:(c<65)∨(65≤c∧c≤90)∨(90<c∧c<192)∨(192≤c∧c≤222∧c≠215)∨(c=215)∨(222<c∧c<913)∨(913≤c∧c≤937∧c≠930)∨(c=930)∨(937<c∧c<1024∧c≠962)∨(c=962)∨(1024≤c∧c<1040)∨(1040≤c∧c≤1071)∨(1071<c):=by omega
 rcases hs with hc|hc|hc|hc|hc|hc|hc|hc|hc|hc|hc|hc|hc
 ·have r:foldR c=c:=by unfold foldR;omega
  have a0: ¬65≤c:=by omega
  have a1: ¬192≤c:=by omega
  have a2: ¬913≤c:=by omega
  have a3: ¬1040≤c:=by omega
  have a4: ¬1024≤c:=by omega
  have a5:c≠962:=by omega
  simp -implicitDefEqProofs [r,a0,a1,a2,a3,a4,a5]
 ·have r:foldR c=c+32:=by unfold foldR;omega
  have a0:65≤c:=by omega
  have a1:c≤90:=by omega
  have w:IntKind.i64.wrap (c+32)=c+32:=wrap64 (by omega) (by omega)
  simp -implicitDefEqProofs [r,a0,a1,w]
 ·have r:foldR c=c:=by unfold foldR;omega
  have a0:65≤c:=by omega
  have a1: ¬c≤90:=by omega
  have a2: ¬192≤c:=by omega
  have a3: ¬913≤c:=by omega
  have a4: ¬1040≤c:=by omega
  have a5: ¬1024≤c:=by omega
  have a6:c≠962:=by omega
  simp -implicitDefEqProofs [r,a0,a1,a2,a3,a4,a5,a6]
 ·have r:foldR c=c+32:=by unfold foldR;omega
  have a0:65≤c:=by omega
  have a1: ¬c≤90:=by omega
  have a2:192≤c:=by omega
  have a3:c≤222:=by omega
  have a4:c≠215:=by omega
  have w:IntKind.i64.wrap (c+32)=c+32:=wrap64 (by omega) (by omega)
  simp -implicitDefEqProofs [r,a0,a1,a2,a3,a4,w]
 ·have r:foldR c=c:=by unfold foldR;omega
  have a0:65≤c:=by omega
  have a1: ¬c≤90:=by omega
  have a2:192≤c:=by omega
  have a3:c≤222:=by omega
  have a4:c=215:=by omega
  have a5: ¬913≤c:=by omega
  have a6: ¬1040≤c:=by omega
  have a7: ¬1024≤c:=by omega
  have a8:c≠962:=by omega
  simp -implicitDefEqProofs [r,a0,a1,a2,a3,a4,a5,a6,a7,a8]
  decide
 ·have r:foldR c=c:=by unfold foldR;omega
  have a0:65≤c:=by omega
  have a1: ¬c≤90:=by omega
  have a2:192≤c:=by omega
  have a3: ¬c≤222:=by omega
  have a4: ¬913≤c:=by omega
  have a5: ¬1040≤c:=by omega
  have a6: ¬1024≤c:=by omega
  have a7:c≠962:=by omega
  simp -implicitDefEqProofs [r,a0,a1,a2,a3,a4,a5,a6,a7]
 ·have r:foldR c=c+32:=by unfold foldR;omega
  have a0:65≤c:=by omega
  have a1: ¬c≤90:=by omega
  have a2:192≤c:=by omega
  have a3: ¬c≤222:=by omega
  have a4:913≤c:=by omega
  have a5:c≤937:=by omega
  have a6:c≠930:=by omega
  have w:IntKind.i64.wrap (c+32)=c+32:=wrap64 (by omega) (by omega)
  simp -implicitDefEqProofs [r,a0,a1,a2,a3,a4,a5,a6,w]
 ·have r:foldR c=c:=by unfold foldR;omega
  have a0:65≤c:=by omega
  have a1: ¬c≤90:=by omega
  have a2:192≤c:=by omega
  have a3: ¬c≤222:=by omega
  have a4:913≤c:=by omega
  have a5:c≤937:=by omega
  have a6:c=930:=by omega
  have a7: ¬1040≤c:=by omega
  have a8: ¬1024≤c:=by omega
  have a9:c≠962:=by omega
  simp -implicitDefEqProofs [r,a0,a1,a2,a3,a4,a5,a6,a7,a8,a9]
  decide
 ·have r:foldR c=c:=by unfold foldR;omega
  have a0:65≤c:=by omega
  have a1: ¬c≤90:=by omega
  have a2:192≤c:=by omega
  have a3: ¬c≤222:=by omega
  have a4:913≤c:=by omega
  have a5: ¬c≤937:=by omega
  have a6: ¬1040≤c:=by omega
  have a7: ¬1024≤c:=by omega
  have a8:c≠962:=by omega
  simp -implicitDefEqProofs [r,a0,a1,a2,a3,a4,a5,a6,a7,a8]
 ·have r:foldR c=963:=by unfold foldR;omega
  have a0:65≤c:=by omega
  have a1: ¬c≤90:=by omega
  have a2:192≤c:=by omega
  have a3: ¬c≤222:=by omega
  have a4:913≤c:=by omega
  have a5: ¬c≤937:=by omega
  have a6: ¬1040≤c:=by omega
  have a7: ¬1024≤c:=by omega
  have a8:c=962:=by omega
  simp -implicitDefEqProofs [r,a0,a1,a2,a3,a4,a5,a6,a7,a8]
  decide
 ·have r:foldR c=c+80:=by unfold foldR;omega
  have a0:65≤c:=by omega
  have a1: ¬c≤90:=by omega
  have a2:192≤c:=by omega
  have a3: ¬c≤222:=by omega
  have a4:913≤c:=by omega
  have a5: ¬c≤937:=by omega
  have a6: ¬1040≤c:=by omega
  have a7:1024≤c:=by omega
  have a8:c≤1039:=by omega
  have w:IntKind.i64.wrap (c+80)=c+80:=wrap64 (by omega) (by omega)
  simp -implicitDefEqProofs [r,a0,a1,a2,a3,a4,a5,a6,a7,a8,w]
 ·have r:foldR c=c+32:=by unfold foldR;omega
  have a0:65≤c:=by omega
  have a1: ¬c≤90:=by omega
  have a2:192≤c:=by omega
  have a3: ¬c≤222:=by omega
  have a4:913≤c:=by omega
  have a5: ¬c≤937:=by omega
  have a6:1040≤c:=by omega
  have a7:c≤1071:=by omega
  have w:IntKind.i64.wrap (c+32)=c+32:=wrap64 (by omega) (by omega)
  simp -implicitDefEqProofs [r,a0,a1,a2,a3,a4,a5,a6,a7,w]
 ·have r:foldR c=c:=by unfold foldR;omega
  have a0:65≤c:=by omega
  have a1: ¬c≤90:=by omega
  have a2:192≤c:=by omega
  have a3: ¬c≤222:=by omega
  have a4:913≤c:=by omega
  have a5: ¬c≤937:=by omega
  have a6:1040≤c:=by omega
  have a7: ¬c≤1071:=by omega
  have a8:1024≤c:=by omega
  have a9: ¬c≤1039:=by omega
  have a10:c≠962:=by omega
  simp -implicitDefEqProofs [r,a0,a1,a2,a3,a4,a5,a6,a7,a8,a9,a10]
theorem slice_lo(s:List UInt8)(k:IntKind)(i:Int)(h0:0≤i)(h1:i≤s.length):sliceV 0 (.str s) (some (.int k i)) none none=some (.str (s.drop i.toNat)):=by
 simp[sliceV,bnd,h0,h1]
theorem loop807(lo:Nat)(h:Heap)(hlo:lo≤h.length): ∀(f:Nat) (s:List UInt8) (es:List V),s.length≤f→es.length+s.length≤17592186044416→(orc vp).loop lo [0,3] L807_0 [(0,.str s),(3,.gsl h.length es.length 1 0 es.length)] (h++[.arr es])=
 some (.brk 0,[(0,.str []),(3,.gsl h.length (es++(runesL f s).map iv).length 1 0 (es++(runesL f s).map iv).length),(8,.bool false)],h++[.arr (es++(runesL f s).map iv)]):=by
 intro f
 induction f with
 |zero=>
  intro s es hs hb
  obtain rfl:=List.length_eq_zero_iff.1 (by omega:s.length=0)
  rw[lp807_0]
  simp -implicitDefEqProofs [runesL]
 |succ f ih=>
  intro s es hs hb
  by_cases hz:s=[]
  ·subst hz
   rw[lp807_0]
   simp -implicitDefEqProofs [runesL]
  ·have hp:0<s.length:=List.length_pos_iff.2 hz
   have hw:=firstR_wid s hz
   have hf:=first801 s
   have hsl:=slice_lo s .i64 (firstR s).2 (by omega) hw.2.1
   have ha:appV lo (h++[.arr es]) 1 8 (.gsl h.length es.length 1 0 es.length) [iv (firstR s).1]=some (.gsl h.length (es.length+1) 1 0 (es.length+1),h++[.arr (es++[iv (firstR s).1])]):=by
    rw[appV_at (es:=es) (by simp) rfl hlo rfl (by simp[roomB];omega)];simp
   have ih:=ih (s.drop (firstR s).2.toNat) (es++[iv (firstR s).1]) (by simp;omega) (by simp;omega)
   simp -implicitDefEqProofs [iv]at ih ha
   rw[lp807_0]
   simp -implicitDefEqProofs [hp,hf,hsl,ha,buildSl_eq,listOf_sl,ih,runesL,hz,iv]
theorem runes807(lo:Nat)(h:Heap)(hlo:lo≤h.length)(s:List UInt8)(hs:s.length≤17592186044416):(orc vp).call 807 lo [.str s] h=some (.gsl h.length (runes s).length 1 0 (runes s).length,h++[.arr ((runes s).map iv)]):=by
 have hl:=loop807 lo h hlo s.length s [] (by omega) (by simpa using hs)
 rw[←runes_L]at hl
 simp -implicitDefEqProofs at hl
 rw[call_K fn807]
 simp -implicitDefEqProofs [hl]
theorem runesK{β:Type}(lo:Nat)(h:Heap)(hlo:lo≤h.length)(s:List UInt8)(hs:s.length≤17592186044416)(kv:V→Heap→Option β):ownK vp lo h 807 [.str s] kv=kv (.gsl h.length (runes s).length 1 0 (runes s).length) (h++[.arr ((runes s).map iv)]):=by
 unfold ownK;rw[runes807 lo h hlo s hs];rfl
def nameR(c:Int):Bool:=letterB c||(digitB c||(decide (c=45)||decide (c=46)))
theorem nameN_R: ∀(l:List Int) (n:Int),0<n→nameN l n=if l.all nameR=true then some (n+l.length)else none
 |[],n,_=>by simp[nameN]
 |c::r,n,h=>by
  have ih:=nameN_R r (n+1) (by omega)
  simp only[nameN,List.all_cons,ih,nameR]
  have e:n+1+(r.length:Int)=n+((c::r).length:Nat):=by simp only[List.length_cons];omega
  rw[e]
  have hc:letterB c=true∨letterB c=false:=by cases letterB c<;>simp
  have hd:digitB c=true∨digitB c=false:=by cases digitB c<;>simp
  rcases hc with h1|h1<;>rcases hd with h2|h2<;>by_cases h3:c=45<;>by_cases h4:c=46<;>simp[h1,h2,h3,h4]<;>omega
theorem mayN_R(s:List UInt8):mayN s=(decide (1≤(runes s).length)&&(decide ((runes s).length≤24)&&(letterB ((runes s)[0]?.getD 0)&&(runes s).all nameR))):=by
 unfold mayN
 cases h:runes s with
 |nil=>simp[nameN]
 |cons c r=>
  simp only[nameN,true_or,and_true,List.length_cons,List.getElem?_cons_zero,Option.getD_some,List.all_cons]
  by_cases h1:letterB c=true
  ·have e:=nameN_R r (0+1) (by omega)
   have h2:nameR c=true:=by simp[nameR,h1]
   rw[if_neg (by simp[h1]),e]
   by_cases h3:r.all nameR=true
   ·rw[if_pos h3];simp[h1,h2,h3];rw[Bool.eq_iff_iff];simp;omega
   ·rw[if_neg h3];simp[h1,h2,h3]
  ·simp only[Bool.not_eq_true]at h1;simp[h1]
theorem loop805(rs:List Int)(hn:rs.length≤24): ∀(r:List Int) (k:Int),0≤k→k≤rs.length→rs.drop k.toNat=r→(orc vp).loop 0 [3,4] L805_0 [(3,.gsl 0 rs.length 1 0 rs.length),(4,.int .i64 k)] [.arr (rs.map iv)]=
 (if r.all nameR=true then some (.brk 0,[(3,.gsl 0 rs.length 1 0 rs.length),(4,.int .i64 rs.length),(25,.bool false)],[.arr (rs.map iv)])else some (.ret,[(2,.bool false)],[.arr (rs.map iv)])):=by
 intro r
 induction r with
 |nil=>
  intro k hk hkl hd
  have hle:=drop_nil hk hd
  have hlt: ¬k<rs.length:=by omega
  have he:k=rs.length:=by omega
  rw[lp805_0]
  simp -implicitDefEqProofs [hlt,he]
 |cons c r ih=>
  intro k hk hkl hd
  obtain⟨hg,hlt,hd'⟩:=drop_cons hk hd
  have w1:IntKind.i64.wrap (k+1)=k+1:=wrap64 (by omega) (by omega)
  have ih:=ih (k+1) (by omega) (by omega) hd'
  have hi:iaddrV 1 (.gsl 0 rs.length 1 0 rs.length) (.int .i64 k)=some (.ptr 0 rs.length k.toNat 0):=by simp[iaddrV,hk,hlt]
  have hld:loadV [.arr (rs.map iv)] false 1 (.ptr 0 rs.length k.toNat 0)=some (.int .i64 c):=by
   rw[getI,if_pos hk]at hg
   simp[loadV,hg,iv]
  have hle:=letter804 c
  rw[lp805_0]
  by_cases h1:letterB c=true
  ·have h2:nameR c=true:=by simp[nameR,h1]
   simp -implicitDefEqProofs [hlt,hi,hld,hle,h1,h2,w1,ih,-loadV_ptr]
  ·simp only[Bool.not_eq_true]at h1
   by_cases d1:48≤c
   ·by_cases d2:c≤57
    ·have h2:nameR c=true:=by simp[nameR,digitB,d1,d2]
     simp -implicitDefEqProofs [hlt,hi,hld,hle,h1,h2,d1,d2,w1,ih,-loadV_ptr]
    ·have h2:nameR c=false:=by simp[nameR,digitB,h1,d2];omega
     have d3: ¬c=45:=by omega
     have d4: ¬c=46:=by omega
     simp -implicitDefEqProofs [hlt,hi,hld,hle,h1,h2,d1,d2,d3,d4,-loadV_ptr]
   ·by_cases d3:c=45
    ·subst d3
     have h2:nameR 45=true:=by decide
     simp -implicitDefEqProofs [hlt,hi,hld,hle,h1,h2,w1,ih,-loadV_ptr]
    ·by_cases d4:c=46
     ·subst d4
      have h2:nameR 46=true:=by decide
      simp -implicitDefEqProofs [hlt,hi,hld,hle,h1,h2,w1,ih,-loadV_ptr]
     ·have h2:nameR c=false:=by simp[nameR,digitB,h1,d1,d3,d4]
      simp -implicitDefEqProofs [hlt,hi,hld,hle,h1,h2,d1,d3,d4,-loadV_ptr]
set_option maxHeartbeats 2000000 in
theorem may805(s:List UInt8)(hs:s.length≤17592186044416):callRO vp 805 [.str s]=some (.bool (mayN s)):=by
 have hr:=fun kv=>runesK (β:=V) 0 [] (Nat.le_refl 0) s hs kv
 rw[mayN_R]
 generalize runes s=rs at hr
 rw[callRO_K fn805]
 by_cases h1:rs.length<1
 ·have:rs=[]:=List.length_eq_zero_iff.1 (by omega)
  subst this
  simp -implicitDefEqProofs [hr]
 ·have h1': ¬(rs.length:Int)<1:=by omega
  by_cases h2:24<rs.length
  ·have h2':(24:Int)<rs.length:=by omega
   have h3: ¬rs.length≤24:=by omega
   simp -implicitDefEqProofs [hr,h1',h2',h3]
  ·have h2': ¬(24:Int)<rs.length:=by omega
   obtain⟨c,hc⟩: ∃c,rs[0]? =some c:=⟨rs[0]'(by omega),by simp⟩
   have hi:iaddrV 1 (.gsl 0 rs.length 1 0 rs.length) (.int .i64 0)=some (.ptr 0 rs.length 0 0):=by
    have:(0:Int)<rs.length:=by omega
    have hne: ¬rs=[]:=fun e=>by subst e;simp at h1
    simp[iaddrV,this,hne]
   have hld:loadV [.arr (rs.map iv)] false 1 (.ptr 0 rs.length 0 0)=some (.int .i64 c):=by simp[loadV,hc,iv]
   have hle:=letter804 c
   have a1:1≤rs.length:=by omega
   have a2:rs.length≤24:=by omega
   by_cases h4:letterB c=true
   ·have hl:=loop805 rs a2 rs 0 (by omega) (by omega) rfl
    by_cases h5:rs.all nameR=true
    ·rw[if_pos h5]at hl
     simp -implicitDefEqProofs [hr,h1',h2',hi,hld,hle,h4,hl,hc,a1,a2,h5,-loadV_ptr,-List.all_eq_true]
    ·rw[if_neg h5]at hl
     simp only[Bool.not_eq_true]at h5
     simp -implicitDefEqProofs [hr,h1',h2',hi,hld,hle,h4,hl,hc,a1,a2,h5,-loadV_ptr,-List.all_eq_true]
   ·simp only[Bool.not_eq_true]at h4
    simp -implicitDefEqProofs [hr,h1',h2',hi,hld,hle,h4,hc,a1,a2,-loadV_ptr]
theorem loop803(rs:List Int)(hn:rs.length≤17592186044416): ∀(r:List Int) (k:Int) (d:List Int),0≤k→d.length=k.toNat→rs=d++r→(orc vp).loop 0 [3,4] L803_0 [(3,.gsl 0 rs.length 1 0 rs.length),(4,.int .i64 k)] [.arr ((d.map foldR++r).map iv)]=
 some (.brk 0,[(3,.gsl 0 rs.length 1 0 rs.length),(4,.int .i64 rs.length),(10,.bool false)],[.arr ((rs.map foldR).map iv)]):=by
 intro r
 induction r with
 |nil=>
  intro k d hk hd he
  have hlt: ¬k<rs.length:=by rw[he];simp;omega
  have hke:k=rs.length:=by rw[he];simp;omega
  rw[List.append_nil]at he
  subst he
  rw[lp803_0]
  simp -implicitDefEqProofs [hlt,hke]
 |cons c r ih=>
  intro k d hk hd he
  have hlen:rs.length=k.toNat+(r.length+1):=by rw[he];simp;omega
  have hlt:k<rs.length:=by omega
  have w1:IntKind.i64.wrap (k+1)=k+1:=wrap64 (by omega) (by omega)
  have ih:=ih (k+1) (d++[c]) (by omega) (by simp;omega) (by rw[he];simp)
  have hi:iaddrV 1 (.gsl 0 rs.length 1 0 rs.length) (.int .i64 k)=some (.ptr 0 rs.length k.toNat 0):=by simp[iaddrV,hk,hlt]
  have hlen2:((d.map foldR++c::r).map iv).length=rs.length:=by simp;omega
  have hget:((d.map foldR++c::r).map iv)[k.toNat]? =some (iv c):=by
   rw[List.getElem?_map,List.getElem?_append_right (by simp;omega)];simp[hd]
  have hset:((d.map foldR++c::r).map iv).set k.toNat (iv (foldR c))=((d++[c]).map foldR++r).map iv:=by
   have e:(d.map foldR++c::r).map iv=(d.map foldR).map iv++iv c::r.map iv:=by simp
   rw[e,List.set_append_right _ _ (by simp;omega)];simp[hd]
  have hf:=fold802 c
  generalize hes:(d.map foldR++c::r).map iv=es at hlen2 hget hset
  have hld:loadV [.arr es] false 1 (.ptr 0 rs.length k.toNat 0)=some (iv c):=by
   simp[loadV,hlen2,hget,iv]
  have hst:storeV 0 [.arr es] 1 (.ptr 0 rs.length k.toNat 0) (iv (foldR c))=some [.arr (es.set k.toNat (iv (foldR c)))]:=by
   simp[storeV,hlen2,hget,iv]
  rw[hset]at hst
  generalize ((d++[c]).map foldR++r).map iv=es2 at hst ih
  simp only[iv]at hld hst
  rw[lp803_0]
  simp -implicitDefEqProofs [hlt,hi,hld,hf,hst,w1,ih,-loadV_ptr,-storeV_ptr0]
theorem keys803(s:List UInt8)(hs:s.length≤17592186044416):callRO vp 803 [.str s]=some (.sl 1 ((foldL s).map iv) .perm):=by
 have hr:=fun kv=>runesK (β:=V) 0 [] (Nat.le_refl 0) s hs kv
 have hn:(runes s).length≤17592186044416:=by have:=runesL_len s.length s;rw[←runes_L]at this;omega
 unfold foldL
 generalize runes s=rs at hr hn
 have hl:=loop803 rs hn rs 0 [] (by omega) rfl rfl
 rw[List.map_nil,List.nil_append]at hl
 rw[callRO_K fn803]
 generalize hx:(rs.map foldR).map iv=es2 at hl
 have hlen:es2.length=rs.length:=by rw[←hx];simp
 have hc:closedL es2=true:=by rw[←hx];exact ivs_closed _
 simp -implicitDefEqProofs [hr,hl,hlen,hc]
def ordP:List Int→List Int→Option Int
 |a::l,b::r=>if a<b then some (-1)else if b<a then some 1 else ordP l r
 |_,_=>none
def ordV(a b:List Int):Int:=match ordP a b with|some e=>e|none=>if a.length<b.length then -1 else if b.length<a.length then 1 else 0
theorem ordP_ne: ∀(a b:List Int) {e:Int},ordP a b=some e→e≠0∧a≠b
 |[],_,e,h=>by simp[ordP]at h
 |_::_,[],e,h=>by simp[ordP]at h
 |a::l,b::r,e,h=>by
  simp only[ordP]at h
  split at h
  ·simp only[Option.some.injEq]at h;exact⟨by omega,by simp;omega⟩
  ·split at h
   ·simp only[Option.some.injEq]at h;exact⟨by omega,by simp;omega⟩
   ·have:=ordP_ne l r h;exact⟨this.1,by simp[this.2]⟩
theorem ordP_eq: ∀(a b:List Int),ordP a b=none→a.length=b.length→a=b
 |[],[],_,_=>rfl
 |[],_::_,_,h=>by simp at h
 |_::_,[],_,h=>by simp at h
 |a::l,b::r,h,hl=>by
  simp only[ordP]at h
  split at h
  ·simp at h
  ·split at h
   ·simp at h
   ·rw[ordP_eq l r h (by simpa using hl),show a=b by omega]
theorem ordV_0(a b:List Int):ordV a b=0↔a=b:=by
 unfold ordV
 cases h:ordP a b with
 |some e=>have:=ordP_ne a b h;simp[this.1,this.2]
 |none=>
  simp only
  constructor
  ·intro h2
   split at h2
   ·omega
   ·split at h2
    ·omega
    ·exact ordP_eq a b h (by omega)
  ·rintro rfl;simp
theorem loop806(a b:List Int)(ta tb:Tag)(ha:a.length≤17592186044416)(hb:b.length≤17592186044416): ∀(r t:List Int) (k:Int),0≤k→a.drop k.toNat=r→b.drop k.toNat=t→k≤a.length→k≤b.length→(orc vp).loop 0 [0,1,5] L806_0 [(0,.sl 1 (a.map iv) ta),(1,.sl 1 (b.map iv) tb),(5,.int .i64 k)] []=
 (match ordP r t with
  |none=>some (.brk 0,[(0,.sl 1 (a.map iv) ta),(1,.sl 1 (b.map iv) tb),(5,.int .i64 (k+(min r.length t.length:Nat))),(15,.bool false)],[])
  |some e=>some (.ret,[(4,.int .i64 e)],[]))
 |[],t,k,hk,h1,h2,l1,l2=>by
  have hlt: ¬k<a.length:=by have:=drop_nil hk h1;omega
  rw[lp806_0]
  simp -implicitDefEqProofs [hlt,ordP]
 |x::r,[],k,hk,h1,h2,l1,l2=>by
  obtain⟨_,hlt,_⟩:=drop_cons hk h1
  have hlt2: ¬k<b.length:=by have:=drop_nil hk h2;omega
  rw[lp806_0]
  simp -implicitDefEqProofs [hlt,hlt2,ordP]
 |x::r,y::t,k,hk,h1,h2,l1,l2=>by
  obtain⟨g1,hlt,h1'⟩:=drop_cons hk h1
  obtain⟨g2,hlt2,h2'⟩:=drop_cons hk h2
  have w1:IntKind.i64.wrap (k+1)=k+1:=wrap64 (by omega) (by omega)
  have ih:=loop806 a b ta tb ha hb r t (k+1) (by omega) h1' h2' (by omega) (by omega)
  have hm:k+1+((min r.length t.length:Nat):Int)=k+((min (x::r).length (y::t).length:Nat):Int):=by simp only[List.length_cons];omega
  rw[hm]at ih
  rw[lp806_0]
  by_cases c1:x<y
  ·simp -implicitDefEqProofs [hlt,hlt2,g1,g2,c1,ordP,iv]
  ·by_cases c2:y<x
   ·simp -implicitDefEqProofs [hlt,hlt2,g1,g2,c1,c2,ordP,iv]
   ·simp -implicitDefEqProofs [hlt,hlt2,g1,g2,c1,c2,ordP,iv,w1]at ih⊢
    exact ih
theorem order806(a b:List Int)(ta tb:Tag)(ha:a.length≤17592186044416)(hb:b.length≤17592186044416):callRO vp 806 [.sl 1 (a.map iv) ta,.sl 1 (b.map iv) tb]=some (.int .i64 (ordV a b)):=by
 have hl:=loop806 a b ta tb ha hb a b 0 (by omega) rfl rfl (by omega) (by omega)
 rw[callRO_K fn806]
 cases h:ordP a b with
 |some e=>
  rw[h]at hl
  simp -implicitDefEqProofs [hl,ordV,h]
 |none=>
  rw[h]at hl
  by_cases c1:(a.length:Int)<b.length
  ·have c1':a.length<b.length:=by omega
   simp -implicitDefEqProofs [hl,ordV,h,c1,c1']
  ·have c1': ¬a.length<b.length:=by omega
   by_cases c2:(b.length:Int)<a.length
   ·have c2':b.length<a.length:=by omega
    simp -implicitDefEqProofs [hl,ordV,h,c1,c1',c2,c2']
   ·have c2': ¬b.length<a.length:=by omega
    simp -implicitDefEqProofs [hl,ordV,h,c1,c1',c2,c2']
theorem foldL_len(s:List UInt8):(foldL s).length≤s.length:=by
 have:=runesL_len s.length s
 rw[←runes_L]at this
 simpa[foldL]using this
theorem alike818(s t:List UInt8)(hs:s.length≤17592186044416)(ht:t.length≤17592186044416):callRO vp 818 [.str s,.str t]=some (.bool (decide (keyL s=keyL t))):=by
 have k1:=keys803 s hs
 have k2:=keys803 t ht
 have l1:=foldL_len s
 have l2:=foldL_len t
 have ho:=order806 (foldL s) (foldL t) .perm .perm (by omega) (by omega)
 have e:decide (ordV (foldL s) (foldL t)=0)=decide (keyL s=keyL t):=by
  rw[decide_eq_decide,ordV_0,keyL_iff]
 rw[callRO_K fn818]
 simp -implicitDefEqProofs [k1,k2,ho,e]
theorem loop822(s:List UInt8)(hs:s.length≤17592186044416): ∀(r:List UInt8) (k:Int),0≤k→k≤s.length→s.drop k.toNat=r→(orc vp).loop 0 [0,3] L822_0 [(0,.str s),(3,.int .i64 k)] []=
 (if(46:UInt8)∈r then some (.ret,[(2,.bool false)],[])else some (.brk 0,[(0,.str s),(3,.int .i64 s.length),(7,.bool false)],[])):=by
 intro r
 induction r with
 |nil=>
  intro k hk hkl hd
  have hle:=drop_nil hk hd
  have hlt: ¬k<s.length:=by omega
  have he:k=s.length:=by omega
  rw[lp822_0]
  simp -implicitDefEqProofs [hlt,he]
 |cons c r ih=>
  intro k hk hkl hd
  obtain⟨hg,hlt,hd'⟩:=drop_cons hk hd
  have w1:IntKind.i64.wrap (k+1)=k+1:=wrap64 (by omega) (by omega)
  have ih:=ih (k+1) (by omega) (by omega) hd'
  rw[lp822_0]
  by_cases hc:c=46
  ·subst hc
   simp -implicitDefEqProofs [hlt,hg,byteV]
  ·have h1: ¬(c.toNat:Int)=46:=fun e=>hc (UInt8.toNat_inj.1 (by have:(46:UInt8).toNat=46:=rfl
                                                                omega))
   have h2: ¬(46:UInt8)=c:=fun e=>hc e.symm
   simp -implicitDefEqProofs [hlt,hg,byteV,h1,h2,w1,ih]
theorem idx_mem: ∀(s:List UInt8) (c:UInt8),0≤Lib.indexByte s c↔c∈s
 |[],c=>by simp[Lib.indexByte]
 |b::l,c=>by
  have ih:=idx_mem l c
  have hg:=Lib.indexByte_ge l c
  simp only[Lib.indexByte,List.mem_cons]
  by_cases h:b=c
  ·subst h;simp
  ·rw[if_neg (by simpa using h)]
   have h': ¬c=b:=fun e=>h e.symm
   simp only[h',false_or,←ih]
   split
   ·rename_i e;simp at e;omega
   ·rename_i e;simp at e;omega
theorem rplain822(s:List UInt8)(hs:s.length≤17592186044416):callRO vp 822 [.str s]=some (.bool (plainN s)):=by
 have hl:=loop822 s hs s 0 (by omega) (by omega) rfl
 have hm:=may805 s hs
 have hi:=idx_mem s 46
 rw[callRO_K fn822]
 by_cases h:(46:UInt8)∈s
 ·rw[if_pos h]at hl
  simp -implicitDefEqProofs [hl,plainN,hi,h]
 ·rw[if_neg h]at hl
  simp -implicitDefEqProofs [hl,plainN,hi,h,hm]
end Go.VE.Un
