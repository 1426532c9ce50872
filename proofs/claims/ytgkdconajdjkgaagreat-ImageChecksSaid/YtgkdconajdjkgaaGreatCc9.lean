/- Joined texts: CrK, CrL, CrM. No condition: what each theorem needs stands in it. -/
import Derived.Test.YtgkdconajdjkgaaGreatCc8
namespace Go.VE.Un
open Go.VE
set_option linter.unusedVariables false
set_option linter.unusedSimpArgs false
theorem row_0 : rws[0]? = some ⟨[112,117,115,104],0,1,0,0,0,0,0,[80,117,115,104]⟩ := rfl
theorem refB_0 (m : Image) (x : Ins) (p : Int) (he : x.Op.n = 0) : refersB m x p = true := by simp [refersB,he,kinds,getI,cellB]
theorem refers844_0 (m : Image) (hm : Clo m) (hb : m.Insts.l.length ≤ 10000000) (x : Ins) (p : Int) (he : x.Op.n = 0) : callRO vp 844 [m.v,x.v,.int .i64 p] = some (.bool (refersB m x p)) := by
 rw [callRO_K fn844,refB_0 m x p he]
 simp -implicitDefEqProofs [table827,he,row_0,Rw.v_eq]
theorem row_1 : getI rws 1 = some ⟨[102,105,101,108,100],0,1,2,0,31,0,15,[80,108,97,99,101]⟩ := rfl
theorem refB_1 (m : Image) (x : Ins) (p : Int) (he : x.Op.n = 1) : refersB m x p = (field m x.A.n x.B.n).isSome := by simp [refersB,he,kinds,getI,cellB]
theorem refers844_1 (m : Image) (hm : Clo m) (hb : m.Insts.l.length ≤ 10000000) (x : Ins) (p : Int) (he : x.Op.n = 1) : callRO vp 844 [m.v,x.v,.int .i64 p] = some (.bool (refersB m x p)) := by
 have hf := rfield830 m x.A.n x.B.n hm hb
 rw [callRO_K fn844,refB_1 m x p he]
 simp -implicitDefEqProofs [table827,he,row_1,Rw.v_eq,hf]
theorem row_2 : getI rws 2 = some ⟨[109,101,116,97],0,1,1,0,23,0,0,[67,101,108,108]⟩ := rfl
theorem refB_2 (m : Image) (x : Ins) (p : Int) (he : x.Op.n = 2) : refersB m x p = (metaW m x.A.n).isSome := by simp [refersB,he,kinds,getI,cellB]
theorem refers844_2 (m : Image) (hm : Clo m) (hb : m.Insts.l.length ≤ 10000000) (x : Ins) (p : Int) (he : x.Op.n = 2) : callRO vp 844 [m.v,x.v,.int .i64 p] = some (.bool (refersB m x p)) := by
 have hf := rmeta832 m x.A.n x.A.lo x.A.hi
 rw [callRO_K fn844,refB_2 m x p he]
 simp -implicitDefEqProofs [table827,he,row_2,Rw.v_eq,hf]
theorem row_3 : getI rws 3 = some ⟨[112,97,114,97,109],0,1,1,0,7,0,0,[67,101,108,108]⟩ := rfl
theorem refB_3 (m : Image) (x : Ins) (p : Int) (he : x.Op.n = 3) : refersB m x p = decide (x.A.n < p) := by simp [refersB,he,kinds,getI,cellB]
theorem refers844_3 (m : Image) (hm : Clo m) (hb : m.Insts.l.length ≤ 10000000) (x : Ins) (p : Int) (he : x.Op.n = 3) : callRO vp 844 [m.v,x.v,.int .i64 p] = some (.bool (refersB m x p)) := by
 rw [callRO_K fn844,refB_3 m x p he]
 simp -implicitDefEqProofs [table827,he,row_3,Rw.v_eq]
theorem row_4 : getI rws 4 = some ⟨[118,97,108,105,100],0,1,1,0,31,0,0,[83,108,111,116]⟩ := rfl
theorem refB_4 (m : Image) (x : Ins) (p : Int) (he : x.Op.n = 4) : refersB m x p = (slot m x.A.n).isSome := by simp [refersB,he,kinds,getI,cellB]
theorem refers844_4 (m : Image) (hm : Clo m) (hb : m.Insts.l.length ≤ 10000000) (x : Ins) (p : Int) (he : x.Op.n = 4) : callRO vp 844 [m.v,x.v,.int .i64 p] = some (.bool (refersB m x p)) := by
 have hf := rslot834 m x.A.n hm hb
 have hz := slot_cl hm x.A.n
 rw [callRO_K fn844,refB_4 m x p he]
 simp -implicitDefEqProofs [table827,he,row_4,Rw.v_eq,hf,hz,hdr0]
theorem row_5 : getI rws 5 = some ⟨[114,101,103],1,1,1,0,7,0,0,[67,101,108,108]⟩ := rfl
theorem refB_5 (m : Image) (x : Ins) (p : Int) (he : x.Op.n = 5) : refersB m x p = decide (x.A.n < (m.Regs.l.length : Int)) := by simp [refersB,he,kinds,getI,cellB]
theorem refers844_5 (m : Image) (hm : Clo m) (hb : m.Insts.l.length ≤ 10000000) (x : Ins) (p : Int) (he : x.Op.n = 5) : callRO vp 844 [m.v,x.v,.int .i64 p] = some (.bool (refersB m x p)) := by
 rw [callRO_K fn844,refB_5 m x p he]
 simp -implicitDefEqProofs [table827,he,row_5,Rw.v_eq]
theorem row_6 : getI rws 6 = some ⟨[110,111,116],1,1,0,0,0,0,0,[79,110,101]⟩ := rfl
theorem refB_6 (m : Image) (x : Ins) (p : Int) (he : x.Op.n = 6) : refersB m x p = true := by simp [refersB,he,kinds,getI,cellB]
theorem refers844_6 (m : Image) (hm : Clo m) (hb : m.Insts.l.length ≤ 10000000) (x : Ins) (p : Int) (he : x.Op.n = 6) : callRO vp 844 [m.v,x.v,.int .i64 p] = some (.bool (refersB m x p)) := by
 rw [callRO_K fn844,refB_6 m x p he]
 simp -implicitDefEqProofs [table827,he,row_6,Rw.v_eq]
theorem row_7 : getI rws 7 = some ⟨[110,101,103],1,1,0,0,0,0,0,[79,110,101]⟩ := rfl
theorem refB_7 (m : Image) (x : Ins) (p : Int) (he : x.Op.n = 7) : refersB m x p = true := by simp [refersB,he,kinds,getI,cellB]
theorem refers844_7 (m : Image) (hm : Clo m) (hb : m.Insts.l.length ≤ 10000000) (x : Ins) (p : Int) (he : x.Op.n = 7) : callRO vp 844 [m.v,x.v,.int .i64 p] = some (.bool (refersB m x p)) := by
 rw [callRO_K fn844,refB_7 m x p he]
 simp -implicitDefEqProofs [table827,he,row_7,Rw.v_eq]
theorem row_8 : getI rws 8 = some ⟨[115,104,108],1,1,1,0,128,0,0,[79,110,101]⟩ := rfl
theorem refB_8 (m : Image) (x : Ins) (p : Int) (he : x.Op.n = 8) : refersB m x p = true := by simp [refersB,he,kinds,getI,cellB]
theorem refers844_8 (m : Image) (hm : Clo m) (hb : m.Insts.l.length ≤ 10000000) (x : Ins) (p : Int) (he : x.Op.n = 8) : callRO vp 844 [m.v,x.v,.int .i64 p] = some (.bool (refersB m x p)) := by
 rw [callRO_K fn844,refB_8 m x p he]
 simp -implicitDefEqProofs [table827,he,row_8,Rw.v_eq]
theorem row_9 : getI rws 9 = some ⟨[115,104,114],1,1,1,0,128,0,0,[79,110,101]⟩ := rfl
theorem refB_9 (m : Image) (x : Ins) (p : Int) (he : x.Op.n = 9) : refersB m x p = true := by simp [refersB,he,kinds,getI,cellB]
theorem refers844_9 (m : Image) (hm : Clo m) (hb : m.Insts.l.length ≤ 10000000) (x : Ins) (p : Int) (he : x.Op.n = 9) : callRO vp 844 [m.v,x.v,.int .i64 p] = some (.bool (refersB m x p)) := by
 rw [callRO_K fn844,refB_9 m x p he]
 simp -implicitDefEqProofs [table827,he,row_9,Rw.v_eq]
theorem row_10 : getI rws 10 = some ⟨[115,108,105,99,101],1,1,2,0,127,0,127,[80,97,114,116]⟩ := rfl
theorem refB_10 (m : Image) (x : Ins) (p : Int) (he : x.Op.n = 10) : refersB m x p = true := by simp [refersB,he,kinds,getI,cellB]
theorem refers844_10 (m : Image) (hm : Clo m) (hb : m.Insts.l.length ≤ 10000000) (x : Ins) (p : Int) (he : x.Op.n = 10) : callRO vp 844 [m.v,x.v,.int .i64 p] = some (.bool (refersB m x p)) := by
 rw [callRO_K fn844,refB_10 m x p he]
 simp -implicitDefEqProofs [table827,he,row_10,Rw.v_eq]
theorem row_11 : getI rws 11 = some ⟨[99,97,115,116],1,1,1,1,128,0,0,[79,110,101]⟩ := rfl
theorem refB_11 (m : Image) (x : Ins) (p : Int) (he : x.Op.n = 11) : refersB m x p = true := by simp [refersB,he,kinds,getI,cellB]
theorem refers844_11 (m : Image) (hm : Clo m) (hb : m.Insts.l.length ≤ 10000000) (x : Ins) (p : Int) (he : x.Op.n = 11) : callRO vp 844 [m.v,x.v,.int .i64 p] = some (.bool (refersB m x p)) := by
 rw [callRO_K fn844,refB_11 m x p he]
 simp -implicitDefEqProofs [table827,he,row_11,Rw.v_eq]
theorem row_12 : getI rws 12 = some ⟨[97,100,100],2,1,0,0,0,0,0,[84,119,111]⟩ := rfl
theorem refB_12 (m : Image) (x : Ins) (p : Int) (he : x.Op.n = 12) : refersB m x p = true := by simp [refersB,he,kinds,getI,cellB]
theorem refers844_12 (m : Image) (hm : Clo m) (hb : m.Insts.l.length ≤ 10000000) (x : Ins) (p : Int) (he : x.Op.n = 12) : callRO vp 844 [m.v,x.v,.int .i64 p] = some (.bool (refersB m x p)) := by
 rw [callRO_K fn844,refB_12 m x p he]
 simp -implicitDefEqProofs [table827,he,row_12,Rw.v_eq]
theorem row_13 : getI rws 13 = some ⟨[115,117,98],2,1,0,0,0,0,0,[84,119,111]⟩ := rfl
theorem refB_13 (m : Image) (x : Ins) (p : Int) (he : x.Op.n = 13) : refersB m x p = true := by simp [refersB,he,kinds,getI,cellB]
theorem refers844_13 (m : Image) (hm : Clo m) (hb : m.Insts.l.length ≤ 10000000) (x : Ins) (p : Int) (he : x.Op.n = 13) : callRO vp 844 [m.v,x.v,.int .i64 p] = some (.bool (refersB m x p)) := by
 rw [callRO_K fn844,refB_13 m x p he]
 simp -implicitDefEqProofs [table827,he,row_13,Rw.v_eq]
theorem row_14 : getI rws 14 = some ⟨[97,100,100,45,115,97,116],2,1,0,0,0,0,0,[84,119,111]⟩ := rfl
theorem refB_14 (m : Image) (x : Ins) (p : Int) (he : x.Op.n = 14) : refersB m x p = true := by simp [refersB,he,kinds,getI,cellB]
theorem refers844_14 (m : Image) (hm : Clo m) (hb : m.Insts.l.length ≤ 10000000) (x : Ins) (p : Int) (he : x.Op.n = 14) : callRO vp 844 [m.v,x.v,.int .i64 p] = some (.bool (refersB m x p)) := by
 rw [callRO_K fn844,refB_14 m x p he]
 simp -implicitDefEqProofs [table827,he,row_14,Rw.v_eq]
theorem row_15 : getI rws 15 = some ⟨[115,117,98,45,115,97,116],2,1,0,0,0,0,0,[84,119,111]⟩ := rfl
theorem refB_15 (m : Image) (x : Ins) (p : Int) (he : x.Op.n = 15) : refersB m x p = true := by simp [refersB,he,kinds,getI,cellB]
theorem refers844_15 (m : Image) (hm : Clo m) (hb : m.Insts.l.length ≤ 10000000) (x : Ins) (p : Int) (he : x.Op.n = 15) : callRO vp 844 [m.v,x.v,.int .i64 p] = some (.bool (refersB m x p)) := by
 rw [callRO_K fn844,refB_15 m x p he]
 simp -implicitDefEqProofs [table827,he,row_15,Rw.v_eq]
theorem row_16 : getI rws 16 = some ⟨[97,110,100],2,1,0,0,0,0,0,[84,119,111]⟩ := rfl
theorem refB_16 (m : Image) (x : Ins) (p : Int) (he : x.Op.n = 16) : refersB m x p = true := by simp [refersB,he,kinds,getI,cellB]
theorem refers844_16 (m : Image) (hm : Clo m) (hb : m.Insts.l.length ≤ 10000000) (x : Ins) (p : Int) (he : x.Op.n = 16) : callRO vp 844 [m.v,x.v,.int .i64 p] = some (.bool (refersB m x p)) := by
 rw [callRO_K fn844,refB_16 m x p he]
 simp -implicitDefEqProofs [table827,he,row_16,Rw.v_eq]
theorem row_17 : getI rws 17 = some ⟨[111,114],2,1,0,0,0,0,0,[84,119,111]⟩ := rfl
theorem refB_17 (m : Image) (x : Ins) (p : Int) (he : x.Op.n = 17) : refersB m x p = true := by simp [refersB,he,kinds,getI,cellB]
theorem refers844_17 (m : Image) (hm : Clo m) (hb : m.Insts.l.length ≤ 10000000) (x : Ins) (p : Int) (he : x.Op.n = 17) : callRO vp 844 [m.v,x.v,.int .i64 p] = some (.bool (refersB m x p)) := by
 rw [callRO_K fn844,refB_17 m x p he]
 simp -implicitDefEqProofs [table827,he,row_17,Rw.v_eq]
theorem row_18 : getI rws 18 = some ⟨[120,111,114],2,1,0,0,0,0,0,[84,119,111]⟩ := rfl
theorem refB_18 (m : Image) (x : Ins) (p : Int) (he : x.Op.n = 18) : refersB m x p = true := by simp [refersB,he,kinds,getI,cellB]
theorem refers844_18 (m : Image) (hm : Clo m) (hb : m.Insts.l.length ≤ 10000000) (x : Ins) (p : Int) (he : x.Op.n = 18) : callRO vp 844 [m.v,x.v,.int .i64 p] = some (.bool (refersB m x p)) := by
 rw [callRO_K fn844,refB_18 m x p he]
 simp -implicitDefEqProofs [table827,he,row_18,Rw.v_eq]
theorem row_19 : getI rws 19 = some ⟨[99,97,116],2,1,0,0,0,0,0,[84,119,111]⟩ := rfl
theorem refB_19 (m : Image) (x : Ins) (p : Int) (he : x.Op.n = 19) : refersB m x p = true := by simp [refersB,he,kinds,getI,cellB]
theorem refers844_19 (m : Image) (hm : Clo m) (hb : m.Insts.l.length ≤ 10000000) (x : Ins) (p : Int) (he : x.Op.n = 19) : callRO vp 844 [m.v,x.v,.int .i64 p] = some (.bool (refersB m x p)) := by
 rw [callRO_K fn844,refB_19 m x p he]
 simp -implicitDefEqProofs [table827,he,row_19,Rw.v_eq]
theorem row_20 : getI rws 20 = some ⟨[101,113],2,1,0,0,0,0,0,[84,119,111]⟩ := rfl
theorem refB_20 (m : Image) (x : Ins) (p : Int) (he : x.Op.n = 20) : refersB m x p = true := by simp [refersB,he,kinds,getI,cellB]
theorem refers844_20 (m : Image) (hm : Clo m) (hb : m.Insts.l.length ≤ 10000000) (x : Ins) (p : Int) (he : x.Op.n = 20) : callRO vp 844 [m.v,x.v,.int .i64 p] = some (.bool (refersB m x p)) := by
 rw [callRO_K fn844,refB_20 m x p he]
 simp -implicitDefEqProofs [table827,he,row_20,Rw.v_eq]
theorem row_21 : getI rws 21 = some ⟨[108,101,115,115],2,1,0,0,0,0,0,[84,119,111]⟩ := rfl
theorem refB_21 (m : Image) (x : Ins) (p : Int) (he : x.Op.n = 21) : refersB m x p = true := by simp [refersB,he,kinds,getI,cellB]
theorem refers844_21 (m : Image) (hm : Clo m) (hb : m.Insts.l.length ≤ 10000000) (x : Ins) (p : Int) (he : x.Op.n = 21) : callRO vp 844 [m.v,x.v,.int .i64 p] = some (.bool (refersB m x p)) := by
 rw [callRO_K fn844,refB_21 m x p he]
 simp -implicitDefEqProofs [table827,he,row_21,Rw.v_eq]
theorem row_22 : getI rws 22 = some ⟨[112,117,116,45,102,105,101,108,100],1,0,2,0,31,0,15,[80,108,97,99,101]⟩ := rfl
theorem refB_22 (m : Image) (x : Ins) (p : Int) (he : x.Op.n = 22) : refersB m x p = (field m x.A.n x.B.n).isSome := by simp [refersB,he,kinds,getI,cellB]
theorem refers844_22 (m : Image) (hm : Clo m) (hb : m.Insts.l.length ≤ 10000000) (x : Ins) (p : Int) (he : x.Op.n = 22) : callRO vp 844 [m.v,x.v,.int .i64 p] = some (.bool (refersB m x p)) := by
 have hf := rfield830 m x.A.n x.B.n hm hb
 rw [callRO_K fn844,refB_22 m x p he]
 simp -implicitDefEqProofs [table827,he,row_22,Rw.v_eq,hf]
theorem row_23 : getI rws 23 = some ⟨[112,117,116,45,109,101,116,97],1,0,1,0,23,0,0,[67,101,108,108]⟩ := rfl
theorem refB_23 (m : Image) (x : Ins) (p : Int) (he : x.Op.n = 23) : refersB m x p = (metaW m x.A.n).isSome := by simp [refersB,he,kinds,getI,cellB]
theorem refers844_23 (m : Image) (hm : Clo m) (hb : m.Insts.l.length ≤ 10000000) (x : Ins) (p : Int) (he : x.Op.n = 23) : callRO vp 844 [m.v,x.v,.int .i64 p] = some (.bool (refersB m x p)) := by
 have hf := rmeta832 m x.A.n x.A.lo x.A.hi
 rw [callRO_K fn844,refB_23 m x p he]
 simp -implicitDefEqProofs [table827,he,row_23,Rw.v_eq,hf]
theorem row_24 : getI rws 24 = some ⟨[112,117,116,45,114,101,103],2,0,1,0,7,0,0,[67,101,108,108]⟩ := rfl
theorem refB_24 (m : Image) (x : Ins) (p : Int) (he : x.Op.n = 24) : refersB m x p = decide (x.A.n < (m.Regs.l.length : Int)) := by simp [refersB,he,kinds,getI,cellB]
theorem refers844_24 (m : Image) (hm : Clo m) (hb : m.Insts.l.length ≤ 10000000) (x : Ins) (p : Int) (he : x.Op.n = 24) : callRO vp 844 [m.v,x.v,.int .i64 p] = some (.bool (refersB m x p)) := by
 rw [callRO_K fn844,refB_24 m x p he]
 simp -implicitDefEqProofs [table827,he,row_24,Rw.v_eq]
theorem row_25 : getI rws 25 = some ⟨[115,104,111,119],0,0,1,0,31,0,0,[83,108,111,116]⟩ := rfl
theorem refB_25 (m : Image) (x : Ins) (p : Int) (he : x.Op.n = 25) : refersB m x p = (slot m x.A.n).isSome := by simp [refersB,he,kinds,getI,cellB]
theorem refers844_25 (m : Image) (hm : Clo m) (hb : m.Insts.l.length ≤ 10000000) (x : Ins) (p : Int) (he : x.Op.n = 25) : callRO vp 844 [m.v,x.v,.int .i64 p] = some (.bool (refersB m x p)) := by
 have hf := rslot834 m x.A.n hm hb
 have hz := slot_cl hm x.A.n
 rw [callRO_K fn844,refB_25 m x p he]
 simp -implicitDefEqProofs [table827,he,row_25,Rw.v_eq,hf,hz,hdr0]
theorem row_26 : getI rws 26 = some ⟨[104,105,100,101],0,0,1,0,31,0,0,[83,108,111,116]⟩ := rfl
theorem refB_26 (m : Image) (x : Ins) (p : Int) (he : x.Op.n = 26) : refersB m x p = (slot m x.A.n).isSome := by simp [refersB,he,kinds,getI,cellB]
theorem refers844_26 (m : Image) (hm : Clo m) (hb : m.Insts.l.length ≤ 10000000) (x : Ins) (p : Int) (he : x.Op.n = 26) : callRO vp 844 [m.v,x.v,.int .i64 p] = some (.bool (refersB m x p)) := by
 have hf := rslot834 m x.A.n hm hb
 have hz := slot_cl hm x.A.n
 rw [callRO_K fn844,refB_26 m x p he]
 simp -implicitDefEqProofs [table827,he,row_26,Rw.v_eq,hf,hz,hdr0]
theorem row_27 : getI rws 27 = some ⟨[112,117,115,104,45,104,101,97,100],0,0,2,0,15,1,4,[72,101,97,100,115]⟩ := rfl
theorem refB_27 (m : Image) (x : Ins) (p : Int) (he : x.Op.n = 27) : refersB m x p = (stacked m x.A.n).isSome := by simp [refersB,he,kinds,getI,cellB]
theorem refers844_27 (m : Image) (hm : Clo m) (hb : m.Insts.l.length ≤ 10000000) (x : Ins) (p : Int) (he : x.Op.n = 27) : callRO vp 844 [m.v,x.v,.int .i64 p] = some (.bool (refersB m x p)) := by
 have hst : ∃ a b,callRO vp 835 [m.v,.int .i64 x.A.n] = some (.tup [.int .i64 a,.int .i64 b,.bool (stacked m x.A.n).isSome]) := by
  have := rstacked835 m x.A.n hb
  cases hs : stacked m x.A.n with
  | none => rw [hs] at this; exact ⟨0,0,this⟩
  | some q => obtain ⟨a,b⟩ := q; rw [hs] at this; exact ⟨a,b,this⟩
 obtain ⟨sa,sb,hst⟩ := hst
 rw [callRO_K fn844,refB_27 m x p he]
 simp -implicitDefEqProofs [table827,he,row_27,Rw.v_eq,hst]
theorem row_28 : getI rws 28 = some ⟨[112,111,112,45,104,101,97,100],0,0,2,0,15,1,4,[72,101,97,100,115]⟩ := rfl
theorem refB_28 (m : Image) (x : Ins) (p : Int) (he : x.Op.n = 28) : refersB m x p = (stacked m x.A.n).isSome := by simp [refersB,he,kinds,getI,cellB]
theorem refers844_28 (m : Image) (hm : Clo m) (hb : m.Insts.l.length ≤ 10000000) (x : Ins) (p : Int) (he : x.Op.n = 28) : callRO vp 844 [m.v,x.v,.int .i64 p] = some (.bool (refersB m x p)) := by
 have hst : ∃ a b,callRO vp 835 [m.v,.int .i64 x.A.n] = some (.tup [.int .i64 a,.int .i64 b,.bool (stacked m x.A.n).isSome]) := by
  have := rstacked835 m x.A.n hb
  cases hs : stacked m x.A.n with
  | none => rw [hs] at this; exact ⟨0,0,this⟩
  | some q => obtain ⟨a,b⟩ := q; rw [hs] at this; exact ⟨a,b,this⟩
 obtain ⟨sa,sb,hst⟩ := hst
 rw [callRO_K fn844,refB_28 m x p he]
 simp -implicitDefEqProofs [table827,he,row_28,Rw.v_eq,hst]
theorem row_29 : getI rws 29 = some ⟨[99,111,117,110,116],1,0,1,0,7,0,0,[67,101,108,108]⟩ := rfl
theorem refB_29 (m : Image) (x : Ins) (p : Int) (he : x.Op.n = 29) : refersB m x p = decide (x.A.n < (m.Counters.l.length : Int)) := by simp [refersB,he,kinds,getI,cellB]
theorem refers844_29 (m : Image) (hm : Clo m) (hb : m.Insts.l.length ≤ 10000000) (x : Ins) (p : Int) (he : x.Op.n = 29) : callRO vp 844 [m.v,x.v,.int .i64 p] = some (.bool (refersB m x p)) := by
 rw [callRO_K fn844,refB_29 m x p he]
 simp -implicitDefEqProofs [table827,he,row_29,Rw.v_eq]
theorem row_30 : getI rws 30 = some ⟨[109,101,116,101,114],1,1,1,0,7,0,0,[67,101,108,108]⟩ := rfl
theorem refB_30 (m : Image) (x : Ins) (p : Int) (he : x.Op.n = 30) : refersB m x p = decide (x.A.n < (m.Meters.l.length : Int)) := by simp [refersB,he,kinds,getI,cellB]
theorem refers844_30 (m : Image) (hm : Clo m) (hb : m.Insts.l.length ≤ 10000000) (x : Ins) (p : Int) (he : x.Op.n = 30) : callRO vp 844 [m.v,x.v,.int .i64 p] = some (.bool (refersB m x p)) := by
 rw [callRO_K fn844,refB_30 m x p he]
 simp -implicitDefEqProofs [table827,he,row_30,Rw.v_eq]
theorem row_31 : getI rws 31 = some ⟨[106,117,109,112],0,0,1,0,64,0,0,[74,117,109,112]⟩ := rfl
theorem refB_31 (m : Image) (x : Ins) (p : Int) (he : x.Op.n = 31) : refersB m x p = true := by simp [refersB,he,kinds,getI,cellB]
theorem refers844_31 (m : Image) (hm : Clo m) (hb : m.Insts.l.length ≤ 10000000) (x : Ins) (p : Int) (he : x.Op.n = 31) : callRO vp 844 [m.v,x.v,.int .i64 p] = some (.bool (refersB m x p)) := by
 rw [callRO_K fn844,refB_31 m x p he]
 simp -implicitDefEqProofs [table827,he,row_31,Rw.v_eq]
theorem row_32 : getI rws 32 = some ⟨[106,117,109,112,45,122,101,114,111],1,0,1,0,64,0,0,[74,117,109,112]⟩ := rfl
theorem refB_32 (m : Image) (x : Ins) (p : Int) (he : x.Op.n = 32) : refersB m x p = true := by simp [refersB,he,kinds,getI,cellB]
theorem refers844_32 (m : Image) (hm : Clo m) (hb : m.Insts.l.length ≤ 10000000) (x : Ins) (p : Int) (he : x.Op.n = 32) : callRO vp 844 [m.v,x.v,.int .i64 p] = some (.bool (refersB m x p)) := by
 rw [callRO_K fn844,refB_32 m x p he]
 simp -implicitDefEqProofs [table827,he,row_32,Rw.v_eq]
theorem row_33 : getI rws 33 = some ⟨[106,117,109,112,45,103,111,110,101],0,0,2,0,31,0,64,[71,111,110,101]⟩ := rfl
theorem refB_33 (m : Image) (x : Ins) (p : Int) (he : x.Op.n = 33) : refersB m x p = (slot m x.A.n).isSome := by simp [refersB,he,kinds,getI,cellB]
theorem refers844_33 (m : Image) (hm : Clo m) (hb : m.Insts.l.length ≤ 10000000) (x : Ins) (p : Int) (he : x.Op.n = 33) : callRO vp 844 [m.v,x.v,.int .i64 p] = some (.bool (refersB m x p)) := by
 have hf := rslot834 m x.A.n hm hb
 have hz := slot_cl hm x.A.n
 rw [callRO_K fn844,refB_33 m x p he]
 simp -implicitDefEqProofs [table827,he,row_33,Rw.v_eq,hf,hz,hdr0]
theorem row_34 : getI rws 34 = some ⟨[115,116,111,112],0,0,0,0,0,0,0,[83,116,111,112]⟩ := rfl
theorem refB_34 (m : Image) (x : Ins) (p : Int) (he : x.Op.n = 34) : refersB m x p = true := by simp [refersB,he,kinds,getI,cellB]
theorem refers844_34 (m : Image) (hm : Clo m) (hb : m.Insts.l.length ≤ 10000000) (x : Ins) (p : Int) (he : x.Op.n = 34) : callRO vp 844 [m.v,x.v,.int .i64 p] = some (.bool (refersB m x p)) := by
 rw [callRO_K fn844,refB_34 m x p he]
 simp -implicitDefEqProofs [table827,he,row_34,Rw.v_eq]
theorem rrefers844 (m : Image) (hm : Clo m) (hb : m.Insts.l.length ≤ 10000000) (x : Ins) (p : Int) (h0 : 0 ≤ x.Op.n) (h1 : x.Op.n < 35) : callRO vp 844 [m.v,x.v,.int .i64 p] = some (.bool (refersB m x p)) := by
 rcases ops_cases h0 h1 with h | h | h | h | h | h | h | h | h | h | h | h | h | h | h | h | h | h | h | h | h | h | h | h | h | h | h | h | h | h | h | h | h | h | h
 ·exact refers844_0 m hm hb x p h
 ·exact refers844_1 m hm hb x p h
 ·exact refers844_2 m hm hb x p h
 ·exact refers844_3 m hm hb x p h
 ·exact refers844_4 m hm hb x p h
 ·exact refers844_5 m hm hb x p h
 ·exact refers844_6 m hm hb x p h
 ·exact refers844_7 m hm hb x p h
 ·exact refers844_8 m hm hb x p h
 ·exact refers844_9 m hm hb x p h
 ·exact refers844_10 m hm hb x p h
 ·exact refers844_11 m hm hb x p h
 ·exact refers844_12 m hm hb x p h
 ·exact refers844_13 m hm hb x p h
 ·exact refers844_14 m hm hb x p h
 ·exact refers844_15 m hm hb x p h
 ·exact refers844_16 m hm hb x p h
 ·exact refers844_17 m hm hb x p h
 ·exact refers844_18 m hm hb x p h
 ·exact refers844_19 m hm hb x p h
 ·exact refers844_20 m hm hb x p h
 ·exact refers844_21 m hm hb x p h
 ·exact refers844_22 m hm hb x p h
 ·exact refers844_23 m hm hb x p h
 ·exact refers844_24 m hm hb x p h
 ·exact refers844_25 m hm hb x p h
 ·exact refers844_26 m hm hb x p h
 ·exact refers844_27 m hm hb x p h
 ·exact refers844_28 m hm hb x p h
 ·exact refers844_29 m hm hb x p h
 ·exact refers844_30 m hm hb x p h
 ·exact refers844_31 m hm hb x p h
 ·exact refers844_32 m hm hb x p h
 ·exact refers844_33 m hm hb x p h
 ·exact refers844_34 m hm hb x p h
theorem row_ty {o : Int} (h0 : 0 ≤ o) (h1 : o < 35) : ∃ r,getI rws o = some r ∧ (r.ty = [74,117,109,112] ↔ (o = 31 ∨ o = 32)) ∧ (r.ty = [71,111,110,101] ↔ o = 33) := by
 rcases ops_cases h0 h1 with rfl | rfl | rfl | rfl | rfl | rfl | rfl | rfl | rfl | rfl | rfl | rfl | rfl | rfl | rfl | rfl | rfl | rfl | rfl | rfl | rfl | rfl | rfl | rfl | rfl | rfl | rfl | rfl | rfl | rfl | rfl | rfl | rfl | rfl | rfl
 all_goals exact ⟨_,rfl,by decide,by decide⟩
theorem loop829_1 (m : Image) (l : GL Ins) (p : V) : ∀ (r : List Ins) (k : Int), 0 ≤ k → k ≤ l.l.length → k ≤ 64 → (l.l.take 64).drop k.toNat = r → ∃ h,
    (orc vp).loop 0 [1, 2, 3, 7] L829_1 [(1, GL.v 6 Ins.v l), (2, p), (3, .ptr 0 1 0 0), (7, .int .i64 k)] [.arr [m.v]] =
      (match codeE r k with
       | none => some (.brk 0, [(1, GL.v 6 Ins.v l), (2, p), (3, .ptr 0 1 0 0), (7, .int .i64 (k + r.length)), (19, .bool false)], [.arr [m.v]])
       | some (_, e) => some (.ret, [(6, .int .i64 e)], h)) := by
  have hle := l.le
  intro r
  induction r with
  | nil =>
    intro k hk hkl h64 hd
    refine ⟨[], ?_⟩
    have hle := drop_nil hk hd
    rw [lp829_1]
    by_cases c : k < l.l.length
    · have c2 : ¬ k < 64 := by simp at hle; omega
      simp -implicitDefEqProofs [c, c2, codeE]
    · simp -implicitDefEqProofs [c, codeE]
  | cons x r ih =>
    intro k hk hkl h64 hd
    obtain ⟨hg, hlt, hd'⟩ := drop_cons hk hd
    have c1 : k < l.l.length := by simp at hlt; omega
    have c2 : k < 64 := by simp at hlt; omega
    rw [show (64 : Nat) = (64 : Int).toNat from rfl, getI_take hk c2] at hg
    have w1 : IntKind.i64.wrap (k + 1) = k + 1 := wrap64 (by omega) (by omega)
    have hm := rmay826 x
    rw [lp829_1]
    by_cases c : mayC x = 0
    · obtain ⟨h, ih⟩ := ih (k + 1) (by omega) (by omega) (by omega) hd'
      have e : k + 1 + (r.length : Int) = k + ((x :: r).length : Nat) := by simp only [List.length_cons]; omega
      rw [e] at ih
      refine ⟨h, ?_⟩
      simp -implicitDefEqProofs [c1, c2, hg, hm, c, w1, codeE] at ih ⊢
      exact ih
    · refine ⟨[.arr [m.v]], ?_⟩
      simp -implicitDefEqProofs [c1, c2, hg, hm, c, codeE]
theorem loop829_0 (m : Image) (hm : Clo m) (hb : m.Insts.l.length ≤ 10000000) (l : GL Ins) (p : Int) (hl : ∀ x ∈ l.l, mayC x = 0) : ∀ (r : List Ins) (k : Int), 0 ≤ k → k ≤ l.l.length → l.l.drop k.toNat = r → ∃ h,
    (orc vp).loop 0 [1, 2, 3, 9] L829_0 [(1, GL.v 6 Ins.v l), (2, .int .i64 p), (3, .ptr 0 1 0 0), (9, .int .i64 k)] [.arr [m.v]] =
      (if stepsE m p l.l.length r k = 0 then some (.brk 2, [(1, GL.v 6 Ins.v l), (2, .int .i64 p), (3, .ptr 0 1 0 0), (9, .int .i64 l.l.length), (36, .bool false)], [.arr [m.v]])
       else some (.ret, [(6, .int .i64 (stepsE m p l.l.length r k))], h)) := by
  have hle := l.le
  intro r
  induction r with
  | nil =>
    intro k hk hkl hd
    refine ⟨[], ?_⟩
    have hle := drop_nil hk hd
    have hlt : ¬ k < l.l.length := by omega
    have he : k = l.l.length := by omega
    rw [lp829_0]
    simp -implicitDefEqProofs [hlt, he, stepsE]
  | cons x r ih =>
    intro k hk hkl hd
    obtain ⟨hg, hlt, hd'⟩ := drop_cons hk hd
    have w1 : IntKind.i64.wrap (k + 1) = k + 1 := wrap64 (by omega) (by omega)
    obtain ⟨h, ih⟩ := ih (k + 1) (by omega) (by omega) hd'
    have hx := hl x (getI_mem hg)
    obtain ⟨o0, o1⟩ := mayC_op hx
    have hr := rrefers844 m hm hb x p o0 o1
    obtain ⟨rw', hrw, t1, t2⟩ := row_ty o0 o1
    have t1 : (rw'.ty = [74, 117, 109, 112]) = (x.Op.n = 31 ∨ x.Op.n = 32) := propext t1
    have t2 : (rw'.ty = [71, 111, 110, 101]) = (x.Op.n = 33) := propext t2
    have hst : stepsE m p l.l.length (x :: r) k = if stepE m p l.l.length k x = 0 then stepsE m p l.l.length r (k + 1) else stepE m p l.l.length k x := rfl
    have hs2 : stepE m p l.l.length k x = if refersB m x p = false then 5 else match targetB x with | some to => wantE (inB to (k + 1) l.l.length) 12 | none => 0 := rfl
    generalize stepsE m p l.l.length r (k + 1) = S at *
    generalize stepE m p l.l.length k x = E at *
    rw [hst, lp829_0]
    by_cases c1 : refersB m x p = true
    · rw [if_neg (by simp [c1])] at hs2
      by_cases j1 : x.Op.n = 31 ∨ x.Op.n = 32
      · have j3 : ¬ x.Op.n = 33 := by omega
        have jt : targetB x = some x.A.n := by unfold targetB; rw [if_pos j1]
        rw [eq_true j1] at t1; rw [eq_false j3] at t2
        rw [jt] at hs2
        simp only at hs2
        by_cases g0 : 0 ≤ x.A.n
        · by_cases g1 : x.A.n ≤ k
          · have e : wantE (inB x.A.n (k + 1) l.l.length) 12 = 12 := by rw [inB_split.2 (.inl (by omega))]; rfl
            rw [e] at hs2; subst hs2
            refine ⟨[.arr [m.v]], ?_⟩
            simp -implicitDefEqProofs [hlt, hg, hr, c1, table827, hrw, Rw.v_eq, t1, t2, g0, g1, e]
          · by_cases g2 : (l.l.length : Int) < x.A.n
            · have e : wantE (inB x.A.n (k + 1) l.l.length) 12 = 12 := by rw [inB_split.2 (.inr g2)]; rfl
              rw [e] at hs2; subst hs2
              refine ⟨[.arr [m.v]], ?_⟩
              simp -implicitDefEqProofs [hlt, hg, hr, c1, table827, hrw, Rw.v_eq, t1, t2, g0, g1, g2, e]
            · have e : wantE (inB x.A.n (k + 1) l.l.length) 12 = 0 := by unfold wantE; rw [if_pos (by unfold inB; simp; omega)]
              rw [e] at hs2; subst hs2
              refine ⟨h, ?_⟩
              rw [if_pos rfl]
              by_cases d : S = 0 <;> simp only [d, eq_self, if_true, if_false] at ih ⊢ <;>
              simp -implicitDefEqProofs [hlt, hg, hr, c1, table827, hrw, Rw.v_eq, t1, t2, g0, g1, g2, e, w1, ih]
        · have hA := mayC_A hx (s := (getI shapes x.Op.n).getD ⟨false, false, 0, 0, 0, 0, 0, 0⟩) (by rcases j1 with j | j <;> rw [j] <;> rfl)
          exfalso
          rcases j1 with j | j <;> rw [j] at hA <;> exact g0 hA
      · by_cases j3 : x.Op.n = 33
        · have jt : targetB x = some x.B.n := by unfold targetB; rw [if_neg j1, if_pos j3]
          rw [eq_false j1] at t1; rw [eq_true j3] at t2
          rw [jt] at hs2
          simp only at hs2
          by_cases g0 : 0 ≤ x.B.n
          · by_cases g1 : x.B.n ≤ k
            · have e : wantE (inB x.B.n (k + 1) l.l.length) 12 = 12 := by rw [inB_split.2 (.inl (by omega))]; rfl
              rw [e] at hs2; subst hs2
              refine ⟨[.arr [m.v]], ?_⟩
              simp -implicitDefEqProofs [hlt, hg, hr, c1, table827, hrw, Rw.v_eq, t1, t2, g0, g1, e]
            · by_cases g2 : (l.l.length : Int) < x.B.n
              · have e : wantE (inB x.B.n (k + 1) l.l.length) 12 = 12 := by rw [inB_split.2 (.inr g2)]; rfl
                rw [e] at hs2; subst hs2
                refine ⟨[.arr [m.v]], ?_⟩
                simp -implicitDefEqProofs [hlt, hg, hr, c1, table827, hrw, Rw.v_eq, t1, t2, g0, g1, g2, e]
              · have e : wantE (inB x.B.n (k + 1) l.l.length) 12 = 0 := by unfold wantE; rw [if_pos (by unfold inB; simp; omega)]
                rw [e] at hs2; subst hs2
                refine ⟨h, ?_⟩
                rw [if_pos rfl]
                by_cases d : S = 0 <;> simp only [d, eq_self, if_true, if_false] at ih ⊢ <;>
                simp -implicitDefEqProofs [hlt, hg, hr, c1, table827, hrw, Rw.v_eq, t1, t2, g0, g1, g2, e, w1, ih]
          · exfalso
            unfold mayC at hx
            rw [j3] at hx
            simp [getI, shapes, inB] at hx
            omega
        · have jt : targetB x = none := by unfold targetB; rw [if_neg j1, if_neg j3]
          rw [eq_false j1] at t1; rw [eq_false j3] at t2
          rw [jt] at hs2
          simp only at hs2
          subst hs2
          refine ⟨h, ?_⟩
          rw [if_pos rfl]
          by_cases d : S = 0 <;> simp only [d, eq_self, if_true, if_false] at ih ⊢ <;>
          simp -implicitDefEqProofs [hlt, hg, hr, c1, table827, hrw, Rw.v_eq, t1, t2, w1, ih]
    · simp only [Bool.not_eq_true] at c1
      rw [if_pos c1] at hs2
      subst hs2
      refine ⟨[.arr [m.v]], ?_⟩
      simp -implicitDefEqProofs [hlt, hg, hr, c1]
theorem rcode829 (m : Image) (hm : Clo m) (hb : m.Insts.l.length ≤ 10000000) (l : GL Ins) (p : Int) : callRO vp 829 [m.v, GL.v 6 Ins.v l, .int .i64 p] = some (.int .i64 (codeF m l.l p)) := by
  obtain ⟨h1, l1⟩ := loop829_1 m l (.int .i64 p) (l.l.take 64) 0 (by omega) (by omega) (by omega) rfl
  rw [callRO_K fn829]
  unfold codeF
  unfold allC
  cases hc : codeE (l.l.take 64) 0 with
  | some q =>
    obtain ⟨i, e⟩ := q
    rw [hc] at l1
    simp -implicitDefEqProofs [l1]
  | none =>
    rw [hc] at l1
    by_cases c : 64 < l.l.length
    · have c' : (64 : Int) < l.l.length := by omega
      simp -implicitDefEqProofs at l1
      simp -implicitDefEqProofs [l1, c, c']
    · have c' : ¬ (64 : Int) < l.l.length := by omega
      rw [List.take_of_length_le (by omega)] at hc l1
      obtain ⟨h, l0⟩ := loop829_0 m hm hb l p (codeE_none _ _ hc) l.l 0 (by omega) (by omega) rfl
      rw [if_neg c]
      by_cases d : stepsE m p l.l.length l.l 0 = 0
      · rw [if_pos d] at l0
        simp -implicitDefEqProofs [l1, l0, c', d]
      · rw [if_neg d] at l0
        simp -implicitDefEqProofs [l1, l0, c', d]
end Go.VE.Un
namespace Go.VE.Un
open Go.VE
set_option linter.unusedVariables false
set_option linter.unusedSimpArgs false
theorem loop837 (m : Image) (l : GL Vec) (q : GL I64) (hlen : l.l.length = q.l.length) : ∀ (r : List Vec) (t : List I64) (k : Int), 0 ≤ k → k ≤ l.l.length → l.l.drop k.toNat = r → q.l.drop k.toNat = t →
    (orc vp).loop 0 [2, 7, 8] L837_0 [(2, GL.v 3 Vec.v l), (7, GL.v 1 I64.v q), (8, .int .i64 k)] [.arr [m.v]] =
      (if argsR r t = 0 then some (.brk 0, [(2, GL.v 3 Vec.v l), (7, GL.v 1 I64.v q), (8, .int .i64 l.l.length), (23, .bool false)], [.arr [m.v]]) else some (.ret, [(6, .int .i64 9)], [.arr [m.v]])) := by
  have hle := l.le
  intro r
  induction r with
  | nil =>
    intro t k hk hkl hd hd2
    have hle := drop_nil hk hd
    have hlt : ¬ k < l.l.length := by omega
    have he : k = l.l.length := by omega
    rw [lp837_0]
    simp -implicitDefEqProofs [hlt, he, argsR]
  | cons x r ih =>
    intro t k hk hkl hd hd2
    obtain ⟨hg, hlt, hd'⟩ := drop_cons hk hd
    obtain ⟨y, t', rfl⟩ : ∃ y t', t = y :: t' := by
      cases t with
      | nil => have := drop_nil hk hd2; omega
      | cons y t' => exact ⟨y, t', rfl⟩
    obtain ⟨hg2, hlt2, hd2'⟩ := drop_cons hk hd2
    have w1 : IntKind.i64.wrap (k + 1) = k + 1 := wrap64 (by omega) (by omega)
    have ih := ih t' (k + 1) (by omega) (by omega) hd' hd2'
    have hm := may785 x
    rw [lp837_0]
    cases g : x.good with
    | false =>
      rw [g] at hm
      simp -implicitDefEqProofs [hlt, hg, hg2, hm, argsR, g]
    | true =>
      rw [g] at hm
      by_cases c : x.W.n = y.n
      · simp -implicitDefEqProofs [hlt, hg, hg2, hm, argsR, g, c, w1, ih]
      · simp -implicitDefEqProofs [hlt, hg, hg2, hm, argsR, g, c]
theorem argsR_9 : ∀ (r : List Vec) (t : List I64), argsR r t = 0 ∨ argsR r t = 9
  | [], _ => .inl rfl
  | _ :: _, [] => .inl rfl
  | v :: r, p :: q => by
    simp only [argsR]
    split
    · exact argsR_9 r q
    · exact .inr rfl
theorem rargs837 (m : Image) (i : Int) (a : Action) (hg : getI m.Actions.l i = some a) (l : GL Vec) : callRO vp 837 [m.v,.int .i64 i,GL.v 3 Vec.v l] = some (.int .i64 (argsE m i l.l)) := by
 rw [callRO_K fn837]
 unfold argsE
 rw [hg]
 by_cases c : l.l.length = a.Params.l.length
 ·have c' : (l.l.length : Int) = a.Params.l.length := by omega
  have hl := loop837 m l a.Params c l.l a.Params.l 0 (by omega) (by omega) rfl rfl
  by_cases d : argsR l.l a.Params.l = 0
  ·rw [if_pos d] at hl
   simp -implicitDefEqProofs [hg,c,c',hl,d]
  ·rw [if_neg d] at hl
   have d9 := (argsR_9 l.l a.Params.l).resolve_left d
   simp -implicitDefEqProofs [hg,c,c',hl,d9]
 ·have c' : ¬ (l.l.length : Int) = a.Params.l.length := by omega
  simp -implicitDefEqProofs [hg,c,c']
theorem keyK_spec (m : Image) (looks : Bool) (k : Key) : keyK m looks k = (if k.Kind.n ≠ 0 ∧ k.Kind.n ≠ 1 ∧ ¬ (k.Kind.n = 2 ∧ looks = true) then 10 else if (partW m k).isSome = false ∧ k.Kind.n = 2 then 7 else if (partW m k).isSome = false then 5 else if k.Kind.n = 1 ∧ k.B.n ≠ 0 then 7 else 0) := by
 unfold keyK inB
 cases looks <;> cases (partW m k).isSome <;> by_cases h0 : k.Kind.n = 0 <;> by_cases h1 : k.Kind.n = 1 <;> by_cases h2 : k.Kind.n = 2 <;> simp [h0,h1,h2] <;> try omega
 all_goals (by_cases h3 : 0 ≤ k.Kind.n <;> by_cases h4 : k.Kind.n ≤ 2 <;> simp [h3,h4] <;> omega)
theorem loop839 (m : Image) (hm : Clo m) (hb : m.Insts.l.length ≤ 10000000) (l : GL Key) (looks : Bool) : ∀ (r : List Key) (k : Int), 0 ≤ k → k ≤ l.l.length → l.l.drop k.toNat = r → ∃ h,
    (orc vp).loop 0 [1, 2, 3, 7] L839_0 [(1, GL.v 3 Key.v l), (2, .bool looks), (3, .ptr 0 1 0 0), (7, .int .i64 k)] [.arr [m.v]] =
      (if firstF (keyK m looks) r = 0 then some (.brk 0, [(1, GL.v 3 Key.v l), (2, .bool looks), (3, .ptr 0 1 0 0), (7, .int .i64 l.l.length), (19, .bool false)], [.arr [m.v]])
       else some (.ret, [(6, .int .i64 (firstF (keyK m looks) r))], h)) := by
  have hle := l.le
  intro r
  induction r with
  | nil =>
    intro k hk hkl hd
    refine ⟨[], ?_⟩
    have hle := drop_nil hk hd
    have hlt : ¬ k < l.l.length := by omega
    have he : k = l.l.length := by omega
    rw [lp839_0]
    simp -implicitDefEqProofs [hlt, he, firstF]
  | cons x r ih =>
    intro k hk hkl hd
    obtain ⟨hg, hlt, hd'⟩ := drop_cons hk hd
    have w1 : IntKind.i64.wrap (k + 1) = k + 1 := wrap64 (by omega) (by omega)
    replace ih := ih (k + 1) (by omega) (by omega) hd'
    obtain ⟨h, ih⟩ := ih
    have hp := rpart833 m x hm hb
    have hs := keyK_spec m looks x
    have hst : firstF (keyK m looks) (x :: r) = if keyK m looks x = 0 then firstF (keyK m looks) r else keyK m looks x := rfl
    generalize firstF (keyK m looks) r = S at *
    generalize keyK m looks x = E at *
    rw [hst, lp839_0]
    by_cases c0 : x.Kind.n = 0
    · cases d : (partW m x).isSome with
      | false =>
        rw [d] at hp hs
        simp [c0] at hs
        subst hs
        refine ⟨_, by simp -implicitDefEqProofs [hlt, hg, c0, hp]; rfl⟩
      | true =>
        rw [d] at hp hs
        simp [c0] at hs
        subst hs
        refine ⟨h, ?_⟩
        rw [if_pos rfl]
        by_cases d : S = 0 <;> simp only [d, eq_self, if_true, if_false] at ih ⊢ <;>
        simp -implicitDefEqProofs [hlt, hg, c0, hp, w1, ih]
    · by_cases c1 : x.Kind.n = 1
      · cases d : (partW m x).isSome with
        | false =>
          rw [d] at hp hs
          simp [c1] at hs
          subst hs
          refine ⟨_, by simp -implicitDefEqProofs [hlt, hg, c1, hp]; rfl⟩
        | true =>
          rw [d] at hp hs
          by_cases c2 : x.B.n = 0
          · simp [c1, c2] at hs
            subst hs
            refine ⟨h, ?_⟩
            rw [if_pos rfl]
            by_cases d : S = 0 <;> simp only [d, eq_self, if_true, if_false] at ih ⊢ <;>
            simp -implicitDefEqProofs [hlt, hg, c1, c2, hp, w1, ih]
          · simp [c1, c2] at hs
            subst hs
            refine ⟨_, by simp -implicitDefEqProofs [hlt, hg, c1, c2, hp]; rfl⟩
      · by_cases c2 : x.Kind.n = 2
        · cases looks with
          | false =>
            simp [c2] at hs
            subst hs
            refine ⟨_, by simp -implicitDefEqProofs [hlt, hg, c2]; rfl⟩
          | true =>
            cases d : (partW m x).isSome with
            | false =>
              rw [d] at hp hs
              simp [c2] at hs
              subst hs
              refine ⟨_, by simp -implicitDefEqProofs [hlt, hg, c2, hp]; rfl⟩
            | true =>
              rw [d] at hp hs
              simp [c2] at hs
              subst hs
              refine ⟨h, ?_⟩
              rw [if_pos rfl]
              by_cases d : S = 0 <;> simp only [d, eq_self, if_true, if_false] at ih ⊢ <;>
              simp -implicitDefEqProofs [hlt, hg, c2, hp, w1, ih]
        · simp [c0, c1, c2] at hs
          subst hs
          refine ⟨_, by simp -implicitDefEqProofs [hlt, hg, c0, c1, c2]; rfl⟩
theorem rkey839 (m : Image) (hm : Clo m) (hb : m.Insts.l.length ≤ 10000000) (l : GL Key) (looks : Bool) : callRO vp 839 [m.v,GL.v 3 Key.v l,.bool looks] = some (.int .i64 (keyE m l.l looks)) := by
 have hk := rkey831 m l hm hb
 obtain ⟨h,hl⟩ := loop839 m hm hb l looks l.l 0 (by omega) (by omega) rfl
 rw [callRO_K fn839]
 unfold keyE
 by_cases c : 4 < l.l.length
 ·have c' : (4 : Int) < l.l.length := by omega
  simp -implicitDefEqProofs [c,c']
 ·have c' : ¬ (4 : Int) < l.l.length := by omega
  rw [if_neg c]
  by_cases d : firstF (keyK m looks) l.l = 0
  ·rw [if_pos d] at hl
   cases e : (keyW m l.l 0).isSome <;> rw [e] at hk <;> simp -implicitDefEqProofs [c',hl,d,hk,wantE]
  ·rw [if_neg d] at hl
   simp -implicitDefEqProofs [c',hl,d]
theorem next840 (m : Image) (n : Int) : callRO vp 840 [m.v,.int .i64 n] = some (.bool (inB n (-2) (m.States.l.length - 1))) := by
 rw [callRO_K fn840]
 by_cases c : -2 ≤ n
 ·by_cases d : n < m.States.l.length
  ·have e : inB n (-2) (m.States.l.length - 1) = true := by unfold inB; simp; omega
   simp -implicitDefEqProofs [c,d,e]
  ·have e : inB n (-2) (m.States.l.length - 1) = false := inB_split.2 (.inr (by omega))
   simp -implicitDefEqProofs [c,d,e]
 ·have e : inB n (-2) (m.States.l.length - 1) = false := inB_split.2 (.inl (by omega))
  simp -implicitDefEqProofs [c,e]
def Heads (m : Image) : Prop := ∀ x ∈ m.Insts.l,0 ≤ x.Header.n ∧ x.Header.n < m.Headers.l.length
theorem instI_ofI {m : Image} (hh : Heads m) (s : Int) : instI m s = (ofI m.Insts.l s).map fun r => (r.1, r.2.2) := by
  unfold instI slot slotH
  cases ho : ofI m.Insts.l s with
  | none => rfl
  | some r =>
    obtain ⟨i, j, x⟩ := r
    have hx : getI m.Insts.l i = some x := by
      unfold ofI at ho
      split at ho
      · simp at ho
      · exact ofR_get (Int.le_refl 0) rfl ho
    have h := hh x (getI_mem hx)
    rcases getI_cases m.Headers.l x.Header.n with ⟨a, _, _, hg⟩ | ⟨h2, _⟩
    · simp [hg]
    · omega
theorem rext838 (m : Image) (hh : Heads m) (hb : m.Insts.l.length ≤ 10000000) (x : Ext) : callRO vp 838 [m.v, x.v] = some (.int .i64 (extE m x)) := by
  have hsl := slots823 m.Insts hb
  have hst : ∃ a b, callRO vp 835 [m.v, .int .i64 x.N.n] = some (.tup [.int .i64 a, .int .i64 b, .bool (stacked m x.N.n).isSome]) := by
    have := rstacked835 m x.N.n hb
    cases hs : stacked m x.N.n with
    | none => rw [hs] at this; exact ⟨0, 0, this⟩
    | some q => obtain ⟨a, b⟩ := q; rw [hs] at this; exact ⟨a, b, this⟩
  obtain ⟨sa, sb, hst⟩ := hst
  have hi := instI_ofI hh x.N.n
  rw [callRO_K fn838]
  unfold extE
  by_cases c0 : x.Kind.n = 0
  · rw [if_pos c0, hi]
    unfold ofI
    by_cases d0 : x.N.n < 0
    · rw [if_pos d0]
      simp -implicitDefEqProofs [c0, hsl, d0, wantE]
    · rw [if_neg d0]
      have hg := slotP_get 0 m.Insts.l x.N.n (by omega)
      generalize slotP 0 m.Insts.l = sp at *
      cases ho : ofR m.Insts.l 0 x.N.n with
      | none =>
        rw [ho] at hg
        rcases getI_cases sp x.N.n with ⟨a, _, _, h⟩ | ⟨h, _⟩
        · rw [h] at hg; simp at hg
        · have h : (sp.length : Int) ≤ x.N.n := by omega
          simp -implicitDefEqProofs [c0, hsl, d0, h, wantE]
      | some r =>
        obtain ⟨i, j, y⟩ := r
        rw [ho] at hg
        have hx : getI m.Insts.l i = some y := ofR_get (Int.le_refl 0) rfl ho
        have h := getI_lt hg
        have h' : ¬ (sp.length : Int) ≤ x.N.n := by omega
        by_cases e : y.Depth.n = 0 <;> simp -implicitDefEqProofs [c0, hsl, d0, h', hg, hx, pairV, e, wantE, iaddrA]
  · rw [if_neg c0]
    by_cases c1 : x.Kind.n = 1
    · rw [if_pos c1]
      cases e : (stacked m x.N.n).isSome <;> rw [e] at hst <;> simp -implicitDefEqProofs [c1, hst, wantE]
    · rw [if_neg c1]
      by_cases c2 : x.Kind.n = 2
      · rw [if_pos c2]
        by_cases d1 : x.N.n < 1
        · have e : inB x.N.n 1 64 = false := inB_split.2 (.inl d1)
          simp -implicitDefEqProofs [c2, d1, e, wantE]
        · by_cases d2 : 64 < x.N.n
          · have e : inB x.N.n 1 64 = false := inB_split.2 (.inr d2)
            simp -implicitDefEqProofs [c2, d1, d2, e, wantE]
          · have e : inB x.N.n 1 64 = true := by unfold inB; simp; omega
            simp -implicitDefEqProofs [c2, d1, d2, e, wantE]
      · rw [if_neg c2]
        simp -implicitDefEqProofs [c0, c1, c2]
end Go.VE.Un
namespace Go.VE.Un
open Go.VE
set_option linter.unusedVariables false
set_option linter.unusedSimpArgs false
theorem loop845_1 (m : Image) (hh : Heads m) (hb : m.Insts.l.length ≤ 10000000) (s : State) : ∀ (r : List Ext) (k : Int), 0 ≤ k → k ≤ s.Exts.l.length → s.Exts.l.drop k.toNat = r → ∃ h,
    (orc vp).loop 0 [2, 3, 5] L845_1 [(2, .ptr 0 1 0 0), (3, .ptr 1 1 0 0), (5, .int .i64 k)] [.arr [m.v], .arr [s.v]] =
      (if firstF (extE m) r = 0 then some (.brk 0, [(2, .ptr 0 1 0 0), (3, .ptr 1 1 0 0), (5, .int .i64 s.Exts.l.length), (22, .bool false)], [.arr [m.v], .arr [s.v]])
       else some (.ret, [(4, .int .i64 (firstF (extE m) r))], h)) := by
  have hle := s.Exts.le
  intro r
  induction r with
  | nil =>
    intro k hk hkl hd
    refine ⟨[], ?_⟩
    have hle := drop_nil hk hd
    have hlt : ¬ k < s.Exts.l.length := by omega
    have he : k = s.Exts.l.length := by omega
    rw [lp845_1]
    simp -implicitDefEqProofs [hlt, he, firstF]
  | cons x r ih =>
    intro k hk hkl hd
    obtain ⟨hg, hlt, hd'⟩ := drop_cons hk hd
    have w1 : IntKind.i64.wrap (k + 1) = k + 1 := wrap64 (by omega) (by omega)
    replace ih := ih (k + 1) (by omega) (by omega) hd'
    obtain ⟨h, ih⟩ := ih
    have hx := rext838 m hh hb x
    have hst : firstF (extE m) (x :: r) = if extE m x = 0 then firstF (extE m) r else extE m x := rfl
    generalize firstF (extE m) r = S at *
    generalize extE m x = E at *
    rw [hst, lp845_1]
    by_cases c : E = 0
    · subst c
      refine ⟨h, ?_⟩
      rw [if_pos rfl]
      by_cases d : S = 0 <;> simp only [d, eq_self, if_true, if_false] at ih ⊢ <;>
      simp -implicitDefEqProofs [hlt, hg, hx, w1, ih]
    · refine ⟨[.arr [m.v], .arr [s.v]], ?_⟩
      simp -implicitDefEqProofs [hlt, hg, hx, c]
theorem oneE_bad {m : Image} {x : Case} {w : Int} (h : ¬ (x.Value.good = true ∧ x.Mask.good = true ∧ x.Value.W.n = w ∧ x.Mask.W.n = w)) : oneE m x w = 9 := by unfold oneE; rw [if_neg h]
theorem loop845_0 (m : Image) (s : State) (w : Int) : ∀ (r : List Case) (k : Int), 0 ≤ k → k ≤ s.Cases.l.length → s.Cases.l.drop k.toNat = r → ∃ h,
    (orc vp).loop 0 [2, 3, 8, 10] L845_0 [(2, .ptr 0 1 0 0), (3, .ptr 1 1 0 0), (8, .int .i64 w), (10, .int .i64 k)] [.arr [m.v], .arr [s.v]] =
      (if firstF (fun x => oneE m x w) r = 0 then some (.brk 2, [(2, .ptr 0 1 0 0), (3, .ptr 1 1 0 0), (8, .int .i64 w), (10, .int .i64 s.Cases.l.length), (67, .bool false)], [.arr [m.v], .arr [s.v]])
       else some (.ret, [(4, .int .i64 (firstF (fun x => oneE m x w) r))], h)) := by
  have hle := s.Cases.le
  intro r
  induction r with
  | nil =>
    intro k hk hkl hd
    refine ⟨[], ?_⟩
    have hle := drop_nil hk hd
    have hlt : ¬ k < s.Cases.l.length := by omega
    have he : k = s.Cases.l.length := by omega
    rw [lp845_0]
    simp -implicitDefEqProofs [hlt, he, firstF]
  | cons x r ih =>
    intro k hk hkl hd
    obtain ⟨hg, hlt, hd'⟩ := drop_cons hk hd
    have w1 : IntKind.i64.wrap (k + 1) = k + 1 := wrap64 (by omega) (by omega)
    replace ih := ih (k + 1) (by omega) (by omega) hd'
    obtain ⟨h, ih⟩ := ih
    have hst : firstF (fun x => oneE m x w) (x :: r) = if oneE m x w = 0 then firstF (fun x => oneE m x w) r else oneE m x w := rfl
    have hE := Eq.refl (oneE m x w)
    conv at hE => rhs; unfold oneE
    have hbad := oneE_bad (m := m) (x := x) (w := w)
    have m1 := may785 x.Value
    have m2 := may785 x.Mask
    have ha := two790_and x.Value x.Mask
    have hn := next840 m x.Next.n
    have heq := Vec.eqv (andV x.Value x.Mask).1 x.Value
    generalize firstF (fun x => oneE m x w) r = S at *
    generalize oneE m x w = E at *
    simp only [opAnd] at ha
    rw [hst, lp845_0]
    by_cases g1 : x.Value.good = true
    · by_cases g2 : x.Mask.good = true
      · by_cases g3 : x.Value.W.n = w
        · by_cases g4 : x.Mask.W.n = w
          · rw [if_pos ⟨g1, g2, g3, g4⟩] at hE
            rw [g1] at m1; rw [g2] at m2
            by_cases g5 : (andV x.Value x.Mask).1.same x.Value = true
            · by_cases g6 : inB x.Next.n (-2) (m.States.l.length - 1) = true
              · have hE0 : E = 0 := by rw [hE]; simp [firstE, wantE, g5, nextE, g6]
                rw [g6] at hn
                subst hE0
                refine ⟨h, ?_⟩
                rw [if_pos rfl]
                by_cases d : S = 0 <;> simp only [d, eq_self, if_true, if_false] at ih ⊢ <;>
                simp -implicitDefEqProofs [hlt, hg, m1, m2, g3, g4, ha, heq, g5, hn, vec0, w1, ih]
              · simp only [Bool.not_eq_true] at g6
                have hE0 : E = 5 := by rw [hE]; simp [firstE, wantE, g5, nextE, g6]
                rw [g6] at hn
                subst hE0
                refine ⟨_, by simp -implicitDefEqProofs [hlt, hg, m1, m2, g3, g4, ha, heq, g5, hn, vec0]; rfl⟩
            · simp only [Bool.not_eq_true] at g5
              have hE0 : E = 14 := by rw [hE]; simp [firstE, wantE, g5]
              subst hE0
              refine ⟨_, by simp -implicitDefEqProofs [hlt, hg, m1, m2, g3, g4, ha, heq, g5, vec0]; rfl⟩
          · have hE0 := hbad fun q => g4 q.2.2.2
            subst hE0
            rw [g1] at m1; rw [g2] at m2
            refine ⟨_, by simp -implicitDefEqProofs [hlt, hg, m1, m2, g3, g4]; rfl⟩
        · have hE0 := hbad fun q => g3 q.2.2.1
          subst hE0
          rw [g1] at m1; rw [g2] at m2
          refine ⟨_, by simp -implicitDefEqProofs [hlt, hg, m1, m2, g3]; rfl⟩
      · have hE0 := hbad fun q => g2 q.2.1
        simp only [Bool.not_eq_true] at g2
        subst hE0
        rw [g1] at m1; rw [g2] at m2
        refine ⟨_, by simp -implicitDefEqProofs [hlt, hg, m1, m2]; rfl⟩
    · have hE0 := hbad fun q => g1 q.1
      simp only [Bool.not_eq_true] at g1
      subst hE0
      rw [g1] at m1
      refine ⟨_, by simp -implicitDefEqProofs [hlt, hg, m1]; rfl⟩
def stN (m : Image) (s : State) : Int :=
 if 4 < s.Exts.l.length then 2 else if firstF (extE m) s.Exts.l ≠ 0 then firstF (extE m) s.Exts.l else if keyE m s.Keys.l true ≠ 0 then keyE m s.Keys.l true else if 8 < s.Cases.l.length then 2
 else if s.Cases.l.length ≠ 0 ∧ s.Keys.l.length = 0 then 4 else if stO m s ≠ 0 then stO m s else nextE m s.Next.n
theorem rstate845 (m : Image) (hm : Clo m) (hh : Heads m) (hb : m.Insts.l.length ≤ 10000000) (s : State) : callRO vp 845 [m.v,s.v] = some (.int .i64 (stN m s)) := by
 obtain ⟨h1,l1⟩ := loop845_1 m hh hb s s.Exts.l 0 (by omega) (by omega) rfl
 have hk := rkey839 m hm hb s.Keys true
 have hw := rkey831 m s.Keys hm hb
 obtain ⟨h0,l0⟩ := loop845_0 m s ((keyW m s.Keys.l 0).getD 0) s.Cases.l 0 (by omega) (by omega) rfl
 have hn := next840 m s.Next.n
 unfold stN
 have ho : stO m s = firstF (fun x => oneE m x ((keyW m s.Keys.l 0).getD 0)) s.Cases.l := rfl
 rw [← ho] at l0
 generalize stO m s = O at *
 generalize firstF (extE m) s.Exts.l = X at *
 generalize keyE m s.Keys.l true = K at *
 generalize (keyW m s.Keys.l 0).getD 0 = w at *
 rw [callRO_K fn845]
 by_cases c1 : 4 < s.Exts.l.length
 ·have c1' : (4 : Int) < s.Exts.l.length := by omega
  rw [if_pos c1]
  simp -implicitDefEqProofs [c1']
 ·have c1' : ¬ (4 : Int) < s.Exts.l.length := by omega
  rw [if_neg c1]
  by_cases c2 : X = 0
  ·rw [if_pos c2] at l1
   rw [if_neg (by simpa using c2)]
   by_cases c3 : K = 0
   ·rw [if_neg (by simpa using c3)]
    rw [c3] at hk
    by_cases c4 : 8 < s.Cases.l.length
    ·have c4' : (8 : Int) < s.Cases.l.length := by omega
     rw [if_pos c4]
     simp -implicitDefEqProofs [c1',l1,hk,c4']
    ·have c4' : ¬ (8 : Int) < s.Cases.l.length := by omega
     rw [if_neg c4]
     by_cases c5 : s.Cases.l.length = 0
     ·have c5' : (0 < s.Cases.l.length) = False := eq_false (by omega)
      have e0 : O = 0 := by
       have : s.Cases.l = [] := List.length_eq_zero_iff.1 c5
       rw [this] at ho; rw [ho]; rfl
      rw [if_neg (by simp [c5]),if_neg (by simpa using e0)]
      rw [if_pos e0] at l0
      cases c6 : inB s.Next.n (-2) (m.States.l.length - 1) <;> rw [c6] at hn <;> simp -implicitDefEqProofs [c1',l1,hk,c4',c5',hw,l0,hn,nextE,wantE,c6]
     ·have c5' : (0 < s.Cases.l.length) = True := eq_true (by omega)
      by_cases c6 : s.Keys.l = []
      ·rw [if_pos ⟨c5,by rw [c6]; rfl⟩]
       simp -implicitDefEqProofs [c1',l1,hk,c4',c5',c6]
      ·rw [if_neg (by simp [c6])]
       by_cases c7 : O = 0
       ·rw [if_pos c7] at l0
        rw [if_neg (by simpa using c7)]
        cases c8 : inB s.Next.n (-2) (m.States.l.length - 1) <;> rw [c8] at hn <;> simp -implicitDefEqProofs [c1',l1,hk,c4',c5',c6,hw,l0,hn,nextE,wantE,c8]
       ·rw [if_neg c7] at l0
        rw [if_pos (by simpa using c7)]
        simp -implicitDefEqProofs [c1',l1,hk,c4',c5',c6,hw,l0]
   ·rw [if_pos (by simpa using c3)]
    simp -implicitDefEqProofs [c1',l1,hk,c3]
  ·rw [if_neg c2] at l1
   rw [if_pos (by simpa using c2)]
   simp -implicitDefEqProofs [c1',l1]
theorem loop847_0 (m : Image) (t : Table) (a i : Int) (own : V) (hi : 0 ≤ i) (hil : i ≤ t.Actions.l.length) : ∀ (r : List I64) (k : Int), 0 ≤ k → k ≤ i → (t.Actions.l.take i.toNat).drop k.toNat = r →
    (orc vp).loop 0 [2, 3, 6, 7, 8, 9] L847_0 [(2, .ptr 0 1 0 0), (3, .ptr 1 1 0 0), (6, own), (7, .int .i64 i), (8, .int .i64 a), (9, .int .i64 k)] [.arr [m.v], .arr [t.v]] =
      (if a ∈ r.map (·.n) then some (.ret, [(4, .int .i64 6)], [.arr [m.v], .arr [t.v]]) else some (.brk 2, [(2, .ptr 0 1 0 0), (3, .ptr 1 1 0 0), (6, own), (7, .int .i64 i), (8, .int .i64 a), (9, .int .i64 i), (56, .bool false)], [.arr [m.v], .arr [t.v]])) := by
  have hle := t.Actions.le
  intro r
  induction r with
  | nil =>
    intro k hk hkl hd
    have hle := drop_nil hk hd
    have hlt : ¬ k < i := by simp at hle; omega
    have he : k = i := by omega
    rw [lp847_0]
    simp -implicitDefEqProofs [hlt, he]
  | cons y r ih =>
    intro k hk hkl hd
    obtain ⟨hg, hlt, hd'⟩ := drop_cons hk hd
    have hlt : k < i := by simp at hlt; omega
    rw [getI_take hk hlt] at hg
    have w1 : IntKind.i64.wrap (k + 1) = k + 1 := wrap64 (by omega) (by omega)
    have ih := ih (k + 1) (by omega) (by omega) hd'
    rw [lp847_0]
    by_cases c : y.n = a
    · simp -implicitDefEqProofs [hlt, hg, c]
    · have c' : ¬ a = y.n := fun e => c e.symm
      by_cases d : a ∈ r.map (·.n)
      · rw [if_pos d] at ih
        rw [if_pos (by simp only [List.map_cons, List.mem_cons]; exact .inr d)]
        simp -implicitDefEqProofs [hlt, hg, c, w1, ih]
      · rw [if_neg d] at ih
        rw [if_neg (by simp only [List.map_cons, List.mem_cons]; exact fun e => e.elim c' d)]
        simp -implicitDefEqProofs [hlt, hg, c, w1, ih]
theorem loop847_1 (m : Image) (t : Table) : ∀ (r : List I64) (k : Int) (own : Bool), 0 ≤ k → k ≤ t.Actions.l.length → t.Actions.l.drop k.toNat = r → ∃ h,
    (orc vp).loop 0 [2, 3, 6, 7] L847_1 [(2, .ptr 0 1 0 0), (3, .ptr 1 1 0 0), (6, .bool own), (7, .int .i64 k)] [.arr [m.v], .arr [t.v]] =
      (if callR m t.Actions.l r k = 0 then some (.brk 0, [(2, .ptr 0 1 0 0), (3, .ptr 1 1 0 0), (6, .bool (own || decide (t.Default.Action.n ∈ r.map (·.n)))), (7, .int .i64 t.Actions.l.length), (37, .bool false)], [.arr [m.v], .arr [t.v]])
       else some (.ret, [(4, .int .i64 (callR m t.Actions.l r k))], h)) := by
  have hle := t.Actions.le
  intro r
  induction r with
  | nil =>
    intro k own hk hkl hd
    refine ⟨[], ?_⟩
    have hle := drop_nil hk hd
    have hlt : ¬ k < t.Actions.l.length := by omega
    have he : k = t.Actions.l.length := by omega
    rw [lp847_1]
    simp -implicitDefEqProofs [hlt, he, callR]
  | cons x r ih =>
    intro k own hk hkl hd
    obtain ⟨hg, hlt, hd'⟩ := drop_cons hk hd
    have w1 : IntKind.i64.wrap (k + 1) = k + 1 := wrap64 (by omega) (by omega)
    replace ih := fun own => ih (k + 1) own (by omega) (by omega) hd'
    have hi := fun own => loop847_0 m t x.n k own hk hkl _ 0 (by omega) hk rfl
    simp only [show (0 : Int).toNat = 0 from rfl, List.drop_zero] at hi
    have hst : callR m t.Actions.l (x :: r) k = if inB x.n 0 (m.Actions.l.length - 1) = false then 5 else if (x.n ∈ (t.Actions.l.take k.toNat).map (·.n)) then 6 else callR m t.Actions.l r (k + 1) := rfl
    have hown : ∀ b : Bool, (b || decide (t.Default.Action.n ∈ (x :: r).map (·.n))) = ((b || decide (x.n = t.Default.Action.n)) || decide (t.Default.Action.n ∈ r.map (·.n))) := fun b => by
      rw [Bool.eq_iff_iff]
      simp only [List.map_cons, List.mem_cons, Bool.or_eq_true, decide_eq_true_eq]
      constructor
      · rintro (h | h | h)
        · exact .inl (.inl h)
        · exact .inl (.inr h.symm)
        · exact .inr h
      · rintro ((h | h) | h)
        · exact .inl h
        · exact .inr (.inl h.symm)
        · exact .inr (.inr h)
    rw [hown own]
    generalize callR m t.Actions.l r (k + 1) = S at *
    rw [hst, lp847_1]
    by_cases c1 : x.n < 0
    · have e : inB x.n 0 (m.Actions.l.length - 1) = false := inB_split.2 (.inl c1)
      rw [if_pos e]
      refine ⟨_, by simp -implicitDefEqProofs [hlt, hg, c1]; rfl⟩
    · by_cases c2 : (m.Actions.l.length : Int) ≤ x.n
      · have e : inB x.n 0 (m.Actions.l.length - 1) = false := inB_split.2 (.inr (by omega))
        rw [if_pos e]
        refine ⟨_, by simp -implicitDefEqProofs [hlt, hg, c1, c2]; rfl⟩
      · have e : ¬ inB x.n 0 (m.Actions.l.length - 1) = false := by unfold inB; simp; omega
        rw [if_neg e]
        by_cases c3 : x.n ∈ (t.Actions.l.take k.toNat).map (·.n)
        · have hi := fun own => (hi own).trans (if_pos c3)
          rw [if_pos c3]
          refine ⟨_, by simp -implicitDefEqProofs [hlt, hg, c1, c2, hi]; rfl⟩
        · have hi := fun own => (hi own).trans (if_neg c3)
          rw [if_neg c3]
          cases own with
          | true =>
            obtain ⟨h, ih⟩ := ih true
            refine ⟨h, ?_⟩
            simp only [Bool.true_or] at ih ⊢
            by_cases d : S = 0 <;> simp only [d, eq_self, if_true, if_false] at ih ⊢ <;>
            simp -implicitDefEqProofs [hlt, hg, c1, c2, hi, w1, ih]
          | false =>
            by_cases c4 : x.n = t.Default.Action.n
            · obtain ⟨h, ih⟩ := ih true
              refine ⟨h, ?_⟩
              have c4' : decide (x.n = t.Default.Action.n) = true := by simp [c4]
              rw [c4']
              simp only [Bool.or_true, Bool.true_or] at ih ⊢
              by_cases d : S = 0 <;> simp only [d, eq_self, if_true, if_false] at ih ⊢ <;>
              simp -implicitDefEqProofs [hlt, hg, c1, c2, hi, w1, ih, c4', -decide_eq_true_eq]
            · obtain ⟨h, ih⟩ := ih false
              refine ⟨h, ?_⟩
              have c4' : decide (x.n = t.Default.Action.n) = false := by simp [c4]
              rw [c4']
              simp only [Bool.or_false, Bool.false_or] at ih ⊢
              by_cases d : S = 0 <;> simp only [d, eq_self, if_true, if_false] at ih ⊢ <;>
              simp -implicitDefEqProofs [hlt, hg, c1, c2, hi, w1, ih, c4', -decide_eq_false_iff_not]
end Go.VE.Un
