/- The texts of functions, for the evaluator: printed by a program. -/
import Derived.Test.YtgkdconajdjkgaaGreatVb0
namespace Go.VE.Un
open Go.VE.Tx
set_option maxRecDepth 100000

def l109_0 : VCode := sr [bt 34 .lss 33 32] [2, 5, 31, 32, 33, 34]
 (wh 34 0
 (.seq (.blk 1 (sr [ia 35 1 31 33, ld 36 35, mv 8 36] [2, 5, 8, 31, 32, 33]
 (sr [mv 37 8, cl 38 522 [.t 37, .c (.int .i64 1), .c (.int .i64 128)], nt 39 38] [2, 5, 31, 32, 33, 39]
 (.cond (.t 39) (rt [mc 4 (.int .i64 9)] [4])
 (.skip)))))
 (.reg [bi 40 .add 33 1, mv 33 40] [2, 5, 31, 32, 33])))
def L109_0 : VCode := l109_0
/-- (*shunter/image.checker).action -/
def b109 : VCode := sr [bx 2 0, mc 4 (.int .i64 0)] [1, 2]
 (sr [ld 9 2, nk 10 9, fa 11 0 10, fa 12 5 11, ld 13 12, mv 14 1, ia 15 3 13 14, la 16 3 15, al 5 (.agg [.str [], .sl 1 [] .nl, .sl 6 [] .nl]), i0 (.store 3 true (.t 5) (.t 16))] [1, 2, 5]
 (.seq (sd [D (mv 17 1) 0 0, D (it 18 (.mkfn 110 [] [.t 2])) 1 0, D (fa 20 1 5) 3 0, D (ld 21 20) 4 8, D (ln 22 21) 5 24, D (bi 23 .leq 22 8) 6 56, D (ct 19 520 [17, 18]) 2 3, D (cl 24 521 [.t 23, .c (.int .i64 2)]) 7 127, D (it 25 (.buildSl 1 [.t 19, .t 24])) 8 255, D (ct 26 507 [25]) 9 511, D (mv 6 26) 10 1023] [2, 5, 6]
 (sr [mv 27 6, bi 28 .neq 27 0] [2, 5, 6, 28]
 (.cond (.t 28) (rt [mv 29 6, mv 4 29] [4])
 (.skip))))
 (.seq (sr [fa 30 1 5, ld 31 30, ln 32 31, mc 33 (.int .i64 0)] [2, 5, 31, 32, 33]
 (.blk 0 (.loop [2, 5, 31, 32, 33] (L109_0))))
 (rt [ld 41 2, fa 42 2 5, ld 43 42, fa 44 1 5, ld 45 44, ct 46 114 [41, 43, 45], mv 4 46] [4]))))
def f109 : VFunc := ⟨false, [.tmp 4], b109, none⟩

/-- (*shunter/image.checker).action$1 -/
def b110 : VCode := sr [mc 3 (.str [])] [0, 1]
 (rt [ld 4 1, nk 5 4, fa 6 0 5, fa 7 5 6, ld 8 7, mv 9 0, ia 10 3 8 9, fa 11 0 10, ld 12 11, mv 3 12] [3])
def f110 : VFunc := ⟨false, [.tmp 3], b110, none⟩

def l111_0 : VCode := sr [bt 27 .lss 26 25] [7, 24, 25, 26, 27]
 (wh 27 0
 (.seq (.blk 1 (sr [mv 28 26, ia 29 3 24 26, la 30 3 29, al 9 (.agg [.int .i64 0, .int .u64 0, .int .u64 0]), mv 8 28, st 3 9 30] [7, 8, 9, 24, 25, 26]
 (sd [D (la 31 3 9) 0 0, D (ct 32 1090 [31]) 1 1, D (nt 33 32) 2 3, D (mv 34 33) 3 7, D (G 34 false (fa 35 0 9)) 4 15, D (G 34 false (mv 37 7)) 6 15, D (G 34 false (mv 38 8)) 7 15, D (G 34 false (ia 39 1 37 38)) 8 207, D (G 34 false (ld 36 35)) 5 31, D (G 34 false (ld 40 39)) 9 463, D (G 34 false (bt 41 .neq 36 40)) 10 1023, D (po 42 34 41) 11 2047] [7, 24, 25, 26, 42]
 (.cond (.t 42) (rt [mc 6 (.int .i64 9)] [6])
 (.skip)))))
 (.reg [bi 43 .add 26 1, mv 26 43] [7, 24, 25, 26])))
def L111_0 : VCode := l111_0
/-- (*shunter/image.checker).args -/
def b111 : VCode := sr [mc 6 (.int .i64 0)] [0, 1, 2]
 (sr [mv 10 0, nk 11 10, fa 12 0 11, fa 13 5 12, ld 14 13, mv 15 1, ia 16 3 14 15, fa 17 1 16, ld 18 17, mv 7 18] [2, 7]
 (.seq (sr [mv 19 2, ln 20 19, mv 21 7, ln 22 21, bt 23 .neq 20 22] [2, 7, 23]
 (.cond (.t 23) (rt [mc 6 (.int .i64 2)] [6])
 (.skip)))
 (.seq (sr [mv 24 2, ln 25 24, mc 26 (.int .i64 0)] [7, 24, 25, 26]
 (.blk 0 (.loop [7, 24, 25, 26] (L111_0))))
 (rt [mc 6 (.int .i64 0)] [6]))))
def f111 : VFunc := ⟨false, [.tmp 6], b111, none⟩

def l112_0 : VCode := sr [bt 13 .lss 12 11] [0, 1, 10, 11, 12, 13]
 (wh 13 0
 (.seq (.blk 1 (sr [mv 14 12, ia 15 1 10 12, ld 16 15, mv 5 14, mv 6 16] [0, 1, 5, 6, 10, 11, 12]
 (.blk 2 (sr [mv 18 6, mv 19 0, nk 20 19, fa 21 0 20, fa 22 5 21, ld 23 22, ln 24 23, bi 25 .sub 24 1, cl 26 522 [.t 18, .c (.int .i64 0), .t 25], nt 27 26, mv 17 27] [0, 1, 5, 6, 10, 11, 12, 17]
 (.cond (.t 17) (rt [mc 4 (.int .i64 5)] [4])
 (sr [mv 29 1, mv 30 5, it 31 (.slice 1 (.t 29) none (some (.t 30)) none), mv 32 6, ct 33 1169 [31, 32], mv 28 33] [0, 1, 10, 11, 12, 28]
 (.cond (.t 28) (rt [mc 4 (.int .i64 6)] [4])
 (.skip))))))))
 (.reg [bi 34 .add 12 1, mv 12 34] [0, 1, 10, 11, 12])))
def L112_0 : VCode := l112_0
/-- (*shunter/image.checker).calls -/
def b112 : VCode := sr [mc 4 (.int .i64 0)] [0, 1]
 (.seq (sr [mv 7 1, ln 8 7, bi 9 .gtr 8 8] [0, 1, 9]
 (.cond (.t 9) (rt [mc 4 (.int .i64 2)] [4])
 (.skip)))
 (.seq (sr [mv 10 1, ln 11 10, mc 12 (.int .i64 0)] [0, 1, 10, 11, 12]
 (.blk 0 (.loop [0, 1, 10, 11, 12] (L112_0))))
 (rt [mv 35 1, ln 36 35, bi 37 .gtr 36 0, cl 38 521 [.t 37, .c (.int .i64 5)], mv 4 38] [4])))
def f112 : VFunc := ⟨false, [.tmp 4], b112, none⟩

/-- (*shunter/image.checker).cell -/
def b113 : VCode := sr [bx 4 1, mc 6 (.bool false)] [0, 2, 4]
 (.seq (sr [fa 9 0 4, ld 10 9] [0, 2, 4, 10]
 (.blk 0 (.seq (sr [bi 12 .eql 10 2, mv 11 12] [0, 2, 4, 10, 11]
 (.cond (.t 11) (.skip)
 (.reg [bi 13 .eql 10 23, mv 11 13] [0, 2, 4, 10, 11])))
 (.cond (.t 11) (sd [D (mv 15 0) 0 0, D (nk 16 15) 1 1, D (fa 17 0 16) 2 3, D (fa 19 1 4) 4 0, D (la 18 18 17) 3 7, D (ld 20 19) 5 16, D (ct 21 491 [18, 20]) 6 63, D (mv 14 21) 7 127, D (ex 22 14 0) 8 255, D (ex 23 14 1) 9 255, D (mv 7 22) 10 511, D (mv 8 23) 11 2047] [8]
 (rt [mv 24 8, mv 6 24] [6]))
 (sr [bi 26 .eql 10 3, mv 25 26] [0, 2, 4, 10, 25]
 (.cond (.t 25) (rt [fa 27 1 4, ld 28 27, mv 29 2, bt 30 .lss 28 29, mv 6 30] [6])
 (.seq (sr [bi 32 .eql 10 5, mv 31 32] [0, 4, 10, 31]
 (.cond (.t 31) (.skip)
 (.reg [bi 33 .eql 10 24, mv 31 33] [0, 4, 10, 31])))
 (.cond (.t 31) (sd [D (fa 34 1 4) 0 0, D (mv 36 0) 2 0, D (nk 37 36) 3 4, D (fa 38 0 37) 4 12, D (fa 39 12 38) 5 28, D (ld 35 34) 1 1, D (ld 40 39) 6 60, D (ln 41 40) 7 124, D (bt 42 .lss 35 41) 8 255, D (mv 6 42) 9 511] [6]
 (.ret))
 (sr [bi 44 .eql 10 29, mv 43 44] [0, 4, 43]
 (.cond (.t 43) (sd [D (fa 45 1 4) 0 0, D (mv 47 0) 2 0, D (nk 48 47) 3 4, D (fa 49 0 48) 4 12, D (fa 50 13 49) 5 28, D (ld 46 45) 1 1, D (ld 51 50) 6 60, D (ln 52 51) 7 124, D (bt 53 .lss 46 52) 8 255, D (mv 6 53) 9 511] [6]
 (.ret))
 (.skip)))))))))))
 (sd [D (fa 54 1 4) 0 0, D (mv 56 0) 2 0, D (nk 57 56) 3 4, D (fa 58 0 57) 4 12, D (fa 59 14 58) 5 28, D (ld 55 54) 1 1, D (ld 60 59) 6 60, D (ln 61 60) 7 124, D (bt 62 .lss 55 61) 8 255, D (mv 6 62) 9 511] [6]
 (.ret)))
def f113 : VFunc := ⟨false, [.tmp 6], b113, none⟩

def l114_0 : VCode := sr [bt 26 .lss 25 24] [0, 1, 2, 23, 24, 25, 26]
 (wh 26 0
 (.seq (.blk 1 (sr [mv 27 25, ia 28 1 23 25, ld 29 28, mv 10 27, mv 11 29] [0, 1, 2, 10, 11, 23, 24, 25]
 (.seq (sr [mv 30 0, mv 31 11, mv 32 2, ct 33 134 [30, 31, 32], nt 34 33] [0, 1, 2, 10, 11, 23, 24, 25, 34]
 (.cond (.t 34) (rt [mc 6 (.int .i64 5)] [6])
 (.skip)))
 (sr [mv 36 11, ct 37 427 [36], mv 35 37, ex 38 35 0, ex 39 35 1, mv 12 38, mv 13 39] [0, 1, 2, 10, 12, 13, 23, 24, 25]
 (sr [mv 40 13, mv 41 40, G 41 true (mv 42 12), G 41 true (mv 43 10), G 41 true (bi 44 .add 43 1), G 41 true (mv 45 1), G 41 true (ln 46 45), G 41 true (ct 47 522 [42, 44, 46]), G 41 true (nt 48 47), pa 49 41 48] [0, 1, 2, 23, 24, 25, 49]
 (.cond (.t 49) (rt [mc 6 (.int .i64 12)] [6])
 (.skip)))))))
 (.reg [bi 50 .add 25 1, mv 25 50] [0, 1, 2, 23, 24, 25])))
def L114_0 : VCode := l114_0
/-- (*shunter/image.checker).code -/
def b114 : VCode := sr [mc 6 (.int .i64 0)] [0, 1, 2]
 (sr [mv 15 1, ct 16 422 [15], mv 14 16, ex 17 14 0, ex 18 14 1, ex 19 14 2, mv 7 17, mv 8 18, mv 9 19] [0, 1, 2, 7, 9]
 (.seq (sr [mv 20 9, bi 21 .neq 20 0] [0, 1, 2, 7, 9, 21]
 (.cond (.t 21) (rt [mv 22 9, mv 6 22] [6])
 (.skip)))
 (.seq (sr [mv 23 7, ln 24 23, mc 25 (.int .i64 0)] [0, 1, 2, 23, 24, 25]
 (.blk 0 (.loop [0, 1, 2, 23, 24, 25] (L114_0))))
 (rt [mc 6 (.int .i64 0)] [6]))))
def f114 : VFunc := ⟨false, [.tmp 6], b114, none⟩

/-- (*shunter/image.checker).counter -/
def b115 : VCode := sr [bx 2 0, mc 4 (.int .i64 0)] [1, 2]
 (sd [D (mv 5 1) 0 0, D (it 6 (.mkfn 116 [] [.t 2])) 1 0, D (mv 13 1) 8 0, D (ld 8 2) 3 0, D (nk 9 8) 4 8, D (fa 10 0 9) 5 24, D (fa 11 13 10) 6 56, D (ld 12 11) 7 120, D (ia 14 2 12 13) 9 504, D (fa 15 1 14) 10 1016, D (ld 16 15) 11 2040, D (ct 7 520 [5, 6]) 2 3, D (ct 17 509 [16]) 12 4095, D (it 18 (.buildSl 1 [.t 7, .t 17])) 13 8191, D (ct 19 507 [18]) 14 16383, D (mv 4 19) 15 32767] [4]
 (.ret))
def f115 : VFunc := ⟨false, [.tmp 4], b115, none⟩

/-- (*shunter/image.checker).counter$1 -/
def b116 : VCode := sr [mc 3 (.str [])] [0, 1]
 (rt [ld 4 1, nk 5 4, fa 6 0 5, fa 7 13 6, ld 8 7, mv 9 0, ia 10 2 8 9, fa 11 0 10, ld 12 11, mv 3 12] [3])
def f116 : VFunc := ⟨false, [.tmp 3], b116, none⟩

/-- (*shunter/image.checker).ext -/
def b117 : VCode := sr [bx 3 1, mc 4 (.int .i64 0)] [0, 3]
 (.seq (sr [fa 10 0 3, ld 11 10] [0, 3, 11]
 (.blk 0 (sr [bi 13 .eql 11 0, mv 12 13] [0, 3, 11, 12]
 (.cond (.t 12) (sr [mv 15 0, fa 16 1 3, ld 17 16, ct 18 120 [15, 17], mv 14 18, ex 19 14 0, ex 20 14 1, mv 5 19, mv 6 20] [0, 5, 6]
 (rt [mv 21 6, mv 22 21, G 22 true (mv 23 0), G 22 true (nk 24 23), G 22 true (fa 25 0 24), G 22 true (fa 26 2 25), G 22 true (ld 27 26), G 22 true (mv 28 5), G 22 true (ia 29 3 27 28), G 22 true (fa 30 2 29), G 22 true (ld 31 30), G 22 true (bi 32 .eql 31 0), pa 33 22 32, cl 34 521 [.t 33, .c (.int .i64 5)], mv 4 34] [4]))
 (sr [bi 36 .eql 11 1, mv 35 36] [0, 3, 11, 35]
 (.cond (.t 35) (sd [D (mv 38 0) 0 0, D (nk 39 38) 1 1, D (fa 40 0 39) 2 3, D (fa 42 1 3) 4 0, D (la 41 18 40) 3 7, D (ld 43 42) 5 16, D (ct 44 494 [41, 43]) 6 63, D (mv 37 44) 7 127, D (ex 45 37 0) 8 255, D (ex 46 37 1) 9 255, D (ex 47 37 2) 10 255, D (mv 7 45) 11 511, D (mv 8 46) 12 3071, D (mv 9 47) 13 8191] [9]
 (rt [mv 48 9, cl 49 521 [.t 48, .c (.int .i64 5)], mv 4 49] [4]))
 (sr [bi 51 .eql 11 2, mv 50 51] [3, 50]
 (.cond (.t 50) (rt [fa 52 1 3, ld 53 52, cl 54 522 [.t 53, .c (.int .i64 1), .c (.int .i64 64)], cl 55 521 [.t 54, .c (.int .i64 7)], mv 4 55] [4])
 (.skip)))))))))
 (rt [mc 4 (.int .i64 10)] [4]))
def f117 : VFunc := ⟨false, [.tmp 4], b117, none⟩

/-- (*shunter/image.checker).header -/
def b118 : VCode := sr [bx 2 0, mc 4 (.int .i64 0)] [1, 2]
 (.seq (sr [ld 6 2, nk 7 6, fa 8 0 7, fa 9 1 8, ld 10 9, mv 11 1, ia 12 6 10 11, la 13 6 12, ct 14 641 [13], mv 5 14] [1, 2, 5]
 (sr [mv 15 5, bi 16 .neq 15 0] [1, 2, 5, 16]
 (.cond (.t 16) (rt [mv 17 5, mv 4 17] [4])
 (.skip))))
 (rt [mv 18 1, it 19 (.mkfn 119 [] [.t 2]), ct 20 520 [18, 19], mv 4 20] [4]))
def f118 : VFunc := ⟨false, [.tmp 4], b118, none⟩

/-- (*shunter/image.checker).header$1 -/
def b119 : VCode := sr [mc 3 (.str [])] [0, 1]
 (rt [ld 4 1, nk 5 4, fa 6 0 5, fa 7 1 6, ld 8 7, mv 9 0, ia 10 6 8 9, fa 11 0 10, ld 12 11, mv 3 12] [3])
def f119 : VFunc := ⟨false, [.tmp 3], b119, none⟩

def l120_0 : VCode := sr [bt 29 .lss 28 27] [1, 8, 26, 27, 28, 29]
 (wh 29 0
 (.seq (.blk 1 (sr [mv 30 28, ia 31 3 26 28, la 32 3 31, al 10 (.agg [.str [], .int .i64 0, .int .i64 0]), mv 9 30, st 3 10 32] [1, 8, 9, 10, 26, 27, 28]
 (sr [mv 33 8, fa 34 2 10, ld 35 34, it 36 (.mx [.t 35, .c (.int .i64 1)]), bt 37 .add 33 36, mv 8 37] [1, 8, 9, 26, 27, 28]
 (sr [mv 38 1, mv 39 8, bt 40 .lss 38 39] [1, 8, 9, 26, 27, 28, 40]
 (.cond (.t 40) (rt [mv 41 9, mv 4 41, mc 5 (.bool true)] [4, 5])
 (.skip))))))
 (.reg [bi 42 .add 28 1, mv 28 42] [1, 8, 26, 27, 28])))
def L120_0 : VCode := l120_0
/-- (*shunter/image.checker).instance -/
def b120 : VCode := sr [mc 4 (.int .i64 0), mc 5 (.bool false)] [0, 1]
 (.seq (sr [mv 12 0, nk 13 12, fa 14 0 13, la 15 18 14, mv 16 1, ct 17 493 [15, 16], mv 11 17, ex 18 11 0, ex 19 11 1, al 6 (.agg [.str [], .sl 2 [] .nl, .int .i64 0, .int .i64 0, .int .i64 0, .int .i64 0]), i0 (.store 6 true (.t 6) (.t 18)), mv 7 19] [0, 1, 7]
 (sr [mv 20 7, nt 21 20] [0, 1, 21]
 (.cond (.t 21) (rt [mc 4 (.int .i64 0), mc 5 (.bool false)] [4, 5])
 (.skip))))
 (sr [mc 8 (.int .i64 0)] [0, 1, 8]
 (.seq (sr [mv 22 0, nk 23 22, fa 24 0 23, fa 25 2 24, ld 26 25, ln 27 26, mc 28 (.int .i64 0)] [1, 8, 26, 27, 28]
 (.blk 0 (.loop [1, 8, 26, 27, 28] (L120_0))))
 (rt [mc 4 (.int .i64 0), mc 5 (.bool false)] [4, 5]))))
def f120 : VFunc := ⟨false, [.tmp 4, .tmp 5], b120, none⟩

def l121_0 : VCode := sr [bt 19 .lss 18 17] [0, 1, 2, 16, 17, 18, 19]
 (wh 19 0
 (.seq (.blk 1 (sr [ia 20 3 16 18, la 21 3 20, al 8 (.agg [.int .i64 0, .int .i64 0, .int .i64 0]), st 3 8 21] [0, 1, 2, 8, 16, 17, 18]
 (sd [D (mv 23 0) 0 0, D (nk 24 23) 1 1, D (fa 25 0 24) 2 3, D (la 26 18 25) 3 7, D (la 27 3 8) 4 0, D (ct 28 510 [26, 27]) 5 31, D (mv 22 28) 6 63, D (ex 29 22 0) 7 127, D (ex 30 22 1) 8 127, D (mv 9 29) 9 255, D (mv 10 30) 10 1023] [0, 1, 2, 8, 10, 16, 17, 18]
 (.blk 2 (sr [fa 32 0 8, ld 33 32, cl 34 522 [.t 33, .c (.int .i64 0), .c (.int .i64 2)], nt 35 34, mv 36 35, G 36 false (fa 37 0 8), G 36 false (ld 38 37), G 36 false (bi 39 .eql 38 2), G 36 false (mv 40 39), G 40 true (mv 41 2), G 40 true (nt 42 41), G 36 false (pa 43 40 42), po 44 36 43, mv 31 44] [0, 1, 2, 8, 10, 16, 17, 18, 31]
 (.cond (.t 31) (rt [mc 6 (.int .i64 10)] [6])
 (sr [mv 46 10, nt 47 46, mv 48 47, G 48 true (fa 49 0 8), G 48 true (ld 50 49), G 48 true (bi 51 .eql 50 2), pa 52 48 51, mv 53 52, G 53 false (fa 54 0 8), G 53 false (ld 55 54), G 53 false (bi 56 .eql 55 1), G 53 false (mv 57 56), G 57 true (mv 58 10), G 53 false (pa 59 57 58), G 53 false (mv 60 59), G 60 true (fa 61 2 8), G 60 true (ld 62 61), G 60 true (bi 63 .neq 62 0), G 53 false (pa 64 60 63), po 65 53 64, mv 45 65] [0, 1, 2, 10, 16, 17, 18, 45]
 (.cond (.t 45) (rt [mc 6 (.int .i64 7)] [6])
 (sr [mv 67 10, nt 68 67, mv 66 68] [0, 1, 2, 16, 17, 18, 66]
 (.cond (.t 66) (rt [mc 6 (.int .i64 5)] [6])
 (.skip)))))))))))
 (.reg [bi 69 .add 18 1, mv 18 69] [0, 1, 2, 16, 17, 18])))
def L121_0 : VCode := l121_0
/-- (*shunter/image.checker).key -/
def b121 : VCode := sr [mc 6 (.int .i64 0)] [0, 1, 2]
 (.seq (sr [mv 13 1, ln 14 13, bi 15 .gtr 14 4] [0, 1, 2, 15]
 (.cond (.t 15) (rt [mc 6 (.int .i64 2)] [6])
 (.skip)))
 (.seq (sr [mv 16 1, ln 17 16, mc 18 (.int .i64 0)] [0, 1, 2, 16, 17, 18]
 (.blk 0 (.loop [0, 1, 2, 16, 17, 18] (L121_0))))
 (sr [mv 71 0, nk 72 71, fa 73 0 72, la 74 18 73, mv 75 1, ct 76 490 [74, 75], mv 70 76, ex 77 70 0, ex 78 70 1, mv 11 77, mv 12 78] [12]
 (rt [mv 79 12, cl 80 521 [.t 79, .c (.int .i64 9)], mv 6 80] [6]))))
def f121 : VFunc := ⟨false, [.tmp 6], b121, none⟩

/-- (*shunter/image.checker).meta -/
def b122 : VCode := sr [bx 2 0, mc 4 (.int .i64 0)] [1, 2]
 (sd [D (mv 5 1) 0 0, D (it 6 (.mkfn 123 [] [.t 2])) 1 0, D (mv 13 1) 8 0, D (ld 8 2) 3 0, D (nk 9 8) 4 8, D (fa 10 0 9) 5 24, D (fa 11 3 10) 6 56, D (ld 12 11) 7 120, D (ia 14 2 12 13) 9 504, D (fa 15 1 14) 10 1016, D (ld 16 15) 11 2040, D (ct 7 520 [5, 6]) 2 3, D (cl 17 522 [.t 16, .c (.int .i64 1), .c (.int .i64 128)]) 12 4095, D (cl 18 521 [.t 17, .c (.int .i64 9)]) 13 8191, D (it 19 (.buildSl 1 [.t 7, .t 18])) 14 16383, D (ct 20 507 [19]) 15 32767, D (mv 4 20) 16 65535] [4]
 (.ret))
def f122 : VFunc := ⟨false, [.tmp 4], b122, none⟩

/-- (*shunter/image.checker).meta$1 -/
def b123 : VCode := sr [mc 3 (.str [])] [0, 1]
 (rt [ld 4 1, nk 5 4, fa 6 0 5, fa 7 3 6, ld 8 7, mv 9 0, ia 10 2 8 9, fa 11 0 10, ld 12 11, mv 3 12] [3])
def f123 : VFunc := ⟨false, [.tmp 3], b123, none⟩

/-- (*shunter/image.checker).meter -/
def b124 : VCode := sr [bx 2 0, mc 4 (.int .i64 0)] [1, 2]
 (sr [ld 6 2, nk 7 6, fa 8 0 7, fa 9 14 8, ld 10 9, mv 11 1, ia 12 4 10 11, la 13 4 12, al 5 (.agg [.str [], .int .i64 0, .int .i64 0, .int .i64 0]), st 4 5 13] [1, 2, 5]
 (sd [D (mv 14 1) 0 0, D (it 15 (.mkfn 125 [] [.t 2])) 1 0, D (fa 17 1 5) 3 0, D (fa 20 2 5) 6 0, D (ld 18 17) 4 8, D (ld 21 20) 7 64, D (ct 16 520 [14, 15]) 2 3, D (ct 19 509 [18]) 5 31, D (cl 22 522 [.t 21, .c (.int .i64 0), .c (.int .i64 65535)]) 8 255, D (mv 23 22) 9 511, D (G 23 true (fa 24 3 5)) 10 1023, D (G 23 true (ld 25 24)) 11 2047, D (G 23 true (cl 26 522 [.t 25, .c (.int .i64 1), .c (.int .i64 1048576)])) 12 4095, D (pa 27 23 26) 13 8191, D (cl 28 521 [.t 27, .c (.int .i64 7)]) 14 16383, D (it 29 (.buildSl 1 [.t 16, .t 19, .t 28])) 15 32767, D (ct 30 507 [29]) 16 65535, D (mv 4 30) 17 131071] [4]
 (.ret)))
def f124 : VFunc := ⟨false, [.tmp 4], b124, none⟩

/-- (*shunter/image.checker).meter$1 -/
def b125 : VCode := sr [mc 3 (.str [])] [0, 1]
 (rt [ld 4 1, nk 5 4, fa 6 0 5, fa 7 14 6, ld 8 7, mv 9 0, ia 10 4 8 9, fa 11 0 10, ld 12 11, mv 3 12] [3])
def f125 : VFunc := ⟨false, [.tmp 3], b125, none⟩

/-- (*shunter/image.checker).names -/
def b126 : VCode := sr [bx 3 1, mc 4 (.bool false)] [0, 3]
 (.seq (sr [fa 7 0 3, ld 8 7] [0, 3, 8]
 (.blk 0 (sr [bi 10 .eql 8 0, mv 9 10] [0, 3, 8, 9]
 (.cond (.t 9) (sd [D (fa 11 1 3) 0 0, D (mv 13 0) 2 0, D (nk 14 13) 3 4, D (fa 15 0 14) 4 12, D (fa 16 6 15) 5 28, D (ld 12 11) 1 1, D (ld 17 16) 6 60, D (ln 18 17) 7 124, D (bi 19 .sub 18 1) 8 252, D (cl 20 522 [.t 12, .c (.int .i64 0), .t 19]) 9 511, D (mv 4 20) 10 1023] [4]
 (.ret))
 (sr [bi 22 .eql 8 2, mv 21 22] [0, 3, 8, 21]
 (.cond (.t 21) (sd [D (fa 23 1 3) 0 0, D (mv 25 0) 2 0, D (nk 26 25) 3 4, D (fa 27 0 26) 4 12, D (fa 28 5 27) 5 28, D (ld 24 23) 1 1, D (ld 29 28) 6 60, D (ln 30 29) 7 124, D (bi 31 .sub 30 1) 8 252, D (cl 32 522 [.t 24, .c (.int .i64 0), .t 31]) 9 511, D (mv 4 32) 10 1023] [4]
 (.ret))
 (sr [bi 34 .eql 8 1, mv 33 34] [0, 3, 33]
 (.cond (.t 33) (rt [fa 35 1 3, ld 36 35, bi 37 .eql 36 0, mv 4 37] [4])
 (.skip)))))))))
 (sd [D (mv 39 0) 0 0, D (nk 40 39) 1 1, D (fa 41 0 40) 2 3, D (fa 43 1 3) 4 0, D (la 42 18 41) 3 7, D (ld 44 43) 5 16, D (al 5 (.agg [.str [], .sl 2 [] .nl, .int .i64 0, .int .i64 0, .int .i64 0, .int .i64 0])) 10 0, D (ct 45 493 [42, 44]) 6 63, D (mv 38 45) 7 127, D (ex 46 38 0) 8 255, D (ex 47 38 1) 9 255, D (i0 (.store 6 true (.t 5) (.t 46))) 11 1535, D (mv 6 47) 12 4095] [6]
 (rt [mv 48 6, mv 4 48] [4])))
def f126 : VFunc := ⟨false, [.tmp 4], b126, none⟩

/-- (*shunter/image.checker).next -/
def b127 : VCode := sr [mc 4 (.int .i64 0)] [0, 1]
 (rt [mv 5 1, mv 6 0, nk 7 6, fa 8 0 7, fa 9 4 8, ld 10 9, ln 11 10, bi 12 .sub 11 1, cl 13 522 [.t 5, .c (.int .i64 0), .t 12], mv 14 13, G 14 false (mv 15 1), G 14 false (bi 16 .eql 15 (-1)), po 17 14 16, mv 18 17, G 18 false (mv 19 1), G 18 false (bi 20 .eql 19 (-2)), po 21 18 20, cl 22 521 [.t 21, .c (.int .i64 5)], mv 4 22] [4])
def f127 : VFunc := ⟨false, [.tmp 4], b127, none⟩

/-- (*shunter/image.checker).node -/
def b128 : VCode := sr [bx 5 1, mc 8 (.int .i64 0)] [0, 2, 3, 5]
 (sd [D (fa 10 0 5) 0 0, D (mv 14 0) 4 0, D (ld 11 10) 1 1, D (la 15 6 5) 5 0, D (cl 12 522 [.t 11, .c (.int .i64 0), .c (.int .i64 3)]) 2 3, D (cl 13 521 [.t 12, .c (.int .i64 10)]) 3 7, D (ct 16 126 [14, 15]) 6 63, D (cl 17 521 [.t 16, .c (.int .i64 5)]) 7 127, D (it 18 (.buildSl 1 [.t 13, .t 17])) 8 255, D (ct 19 507 [18]) 9 511, D (mv 9 19) 10 1023] [0, 2, 3, 5, 9]
 (.seq (sr [mv 20 9, bi 21 .neq 20 0] [0, 2, 3, 5, 9, 21]
 (.cond (.t 21) (rt [mv 22 9, mv 8 22] [8])
 (.skip)))
 (.seq (sr [fa 23 0 5, ld 24 23, bi 25 .eql 24 1] [0, 2, 3, 5, 25]
 (.cond (.t 25) (.reg [mv 26 0, fa 27 2 5, ld 28 27, cl 29 114 [.t 26, .t 28, .c (.sl 1 [] .nl)], mv 9 29] [0, 2, 3, 5, 9])
 (.reg [fa 30 2 5, ld 31 30, ln 32 31, bi 33 .eql 32 0, cl 34 521 [.t 33, .c (.int .i64 4)], mv 9 34] [0, 2, 3, 5, 9])))
 (.seq (sr [mv 35 9, bi 36 .neq 35 0] [0, 2, 3, 5, 9, 36]
 (.cond (.t 36) (rt [mv 37 9, mv 8 37] [8])
 (.skip)))
 (.seq (sr [fa 38 0 5, ld 39 38, bi 40 .eql 39 2] [0, 2, 3, 5, 40]
 (.cond (.t 40) (.drw [D (mv 41 0) 0 0, D (fa 42 1 5) 1 0, D (fa 44 3 5) 3 0, D (fa 47 5 5) 6 0, D (ld 43 42) 2 2, D (ld 45 44) 4 8, D (ld 48 47) 7 64, D (bi 49 .eql 48 0) 8 192, D (ct 46 111 [41, 43, 45]) 5 31, D (cl 50 521 [.t 49, .c (.int .i64 4)]) 9 511, D (it 51 (.buildSl 1 [.t 46, .t 50])) 10 1023, D (ct 52 507 [51]) 11 2047, D (mv 9 52) 12 4095] [2, 3, 5, 9])
 (.drw [D (fa 53 3 5) 0 0, D (fa 58 5 5) 5 0, D (mv 60 2) 7 0, D (bi 61 .add 60 1) 8 128, D (mv 62 3) 9 0, D (ld 54 53) 1 1, D (ln 55 54) 2 3, D (bi 56 .eql 55 0) 3 7, D (ld 59 58) 6 32, D (cl 57 521 [.t 56, .c (.int .i64 4)]) 4 15, D (ct 63 522 [59, 61, 62]) 10 1023, D (cl 64 521 [.t 63, .c (.int .i64 12)]) 11 2047, D (it 65 (.buildSl 1 [.t 57, .t 64])) 12 4095, D (ct 66 507 [65]) 13 8191, D (mv 9 66) 14 16383] [2, 3, 5, 9])))
 (rt [mv 67 9, fa 68 4 5, ld 69 68, mv 70 2, bi 71 .add 70 1, mv 72 3, ct 73 522 [69, 71, 72], cl 74 521 [.t 73, .c (.int .i64 12)], it 75 (.buildSl 1 [.t 67, .t 74]), ct 76 507 [75], mv 8 76] [8]))))))
def f128 : VFunc := ⟨false, [.tmp 8], b128, none⟩

/-- (*shunter/image.checker).nodes -/
def b129 : VCode := sr [bx 2 0, bx 3 1, mc 4 (.int .i64 0), mc 5 (.int .i64 0)] [2, 3]
 (rt [ld 6 3, ln 7 6, it 8 (.mkfn 130 [] [.t 2, .t 3]), cl 9 501 [.t 7, .c (.int .i64 32), .t 8], ex 10 9 0, ex 11 9 1, mv 4 10, mv 5 11] [4, 5])
def f129 : VFunc := ⟨false, [.tmp 4, .tmp 5], b129, none⟩

/-- (*shunter/image.checker).nodes$1 -/
def b130 : VCode := sr [mc 4 (.int .i64 0)] [0, 1, 2]
 (sd [D (mv 7 0) 2 0, D (mv 10 0) 5 0, D (ld 5 1) 0 0, D (ld 6 2) 1 0, D (ia 8 6 6 7) 3 6, D (la 9 6 8) 4 14, D (ld 11 2) 6 0, D (ln 12 11) 7 64, D (ct 13 128 [5, 9, 10, 12]) 8 255, D (mv 4 13) 9 511] [4]
 (.ret))
def f130 : VFunc := ⟨false, [.tmp 4], b130, none⟩

/-- (*shunter/image.checker).one -/
def b131 : VCode := sr [bx 4 1, mc 6 (.int .i64 0)] [0, 2, 4]
 (.seq (sr [fa 9 0 4, la 10 3 9, ct 11 1090 [10], nt 12 11, mv 13 12, G 13 false (fa 14 3 4), G 13 false (la 15 3 14), G 13 false (ct 16 1090 [15]), G 13 false (nt 17 16), po 18 13 17, mv 19 18, G 19 false (fa 20 0 4), G 19 false (fa 21 0 20), G 19 false (ld 22 21), G 19 false (mv 23 2), G 19 false (bt 24 .neq 22 23), po 25 19 24, mv 26 25, G 26 false (fa 27 3 4), G 26 false (fa 28 0 27), G 26 false (ld 29 28), G 26 false (mv 30 2), G 26 false (bt 31 .neq 29 30), po 32 26 31] [0, 4, 32]
 (.cond (.t 32) (rt [mc 6 (.int .i64 9)] [6])
 (.skip)))
 (sr [fa 34 0 4, la 35 3 34, fa 36 3 4, la 37 3 36, ct 38 1082 [35, 37], mv 33 38, ex 39 33 0, ex 40 33 1, al 7 (.agg [.int .i64 0, .int .u64 0, .int .u64 0]), st 3 7 39, mv 8 40] [0, 4, 7]
 (sd [D (fa 42 0 4) 1 0, D (mv 46 0) 5 0, D (fa 47 6 4) 6 0, D (la 41 3 7) 0 0, D (la 43 3 42) 2 2, D (it 44 (.eq false (some [.i, .i, .i]) (.t 41) (.t 43))) 3 7, D (ld 48 47) 7 64, D (cl 45 521 [.t 44, .c (.int .i64 14)]) 4 15, D (ct 49 127 [46, 48]) 8 255, D (it 50 (.buildSl 1 [.t 45, .t 49])) 9 511, D (ct 51 507 [50]) 10 1023, D (mv 6 51) 11 2047] [6]
 (.ret))))
def f131 : VFunc := ⟨false, [.tmp 6], b131, none⟩

def l132_0 : VCode := sr [bt 27 .lss 26 25] [0, 1, 6, 7, 25, 26, 27]
 (wh 27 0
 (.seq (.blk 1 (sr [mv 28 26, mv 8 28] [0, 1, 6, 7, 8, 25, 26]
 (.drw [D (mv 29 7) 0 0, D (mv 30 29) 1 1, D (G 30 false (mv 31 0)) 2 3, D (G 30 false (nk 32 31)) 3 7, D (G 30 false (fa 33 0 32)) 4 15, D (G 30 false (fa 34 9 33)) 5 31, D (G 30 false (mv 36 8)) 7 3, D (G 30 false (mv 39 0)) 10 3, D (G 30 false (nk 40 39)) 11 1027, D (G 30 false (fa 41 0 40)) 12 3075, D (G 30 false (fa 42 9 41)) 13 7171, D (G 30 false (mv 44 1)) 15 3, D (G 30 false (ld 35 34)) 6 63, D (G 30 false (ia 37 1 35 36)) 8 255, D (G 30 false (ld 38 37)) 9 511, D (G 30 false (ld 43 42)) 14 15363, D (G 30 false (ia 45 1 43 44)) 16 64515, D (G 30 false (ld 46 45)) 17 130051, D (G 30 false (bt 47 .eql 38 46)) 18 262143, D (po 48 30 47) 19 524287, D (mv 7 48) 20 1048575] [0, 1, 6, 7, 25, 26])))
 (.reg [bi 49 .add 26 1, mv 26 49] [0, 1, 6, 7, 25, 26])))
def L132_0 : VCode := l132_0
/-- (*shunter/image.checker).out -/
def b132 : VCode := sr [mc 4 (.int .i64 0)] [0, 1]
 (sd [D (mv 10 0) 0 0, D (nk 11 10) 1 1, D (fa 12 0 11) 2 3, D (mv 14 0) 4 0, D (nk 15 14) 5 16, D (fa 16 0 15) 6 48, D (fa 17 9 16) 7 112, D (mv 19 1) 9 0, D (la 13 18 12) 3 7, D (ld 18 17) 8 240, D (ia 20 1 18 19) 10 1008, D (ld 21 20) 11 2032, D (al 5 (.agg [.str [], .sl 2 [] .nl, .int .i64 0, .int .i64 0, .int .i64 0, .int .i64 0])) 16 0, D (ct 22 493 [13, 21]) 12 4095, D (mv 9 22) 13 8191, D (ex 23 9 0) 14 16383, D (ex 24 9 1) 15 16383, D (i0 (.store 6 true (.t 5) (.t 23))) 17 98303, D (mv 6 24) 18 262143] [0, 1, 6]
 (sr [mc 7 (.bool false)] [0, 1, 6, 7]
 (.seq (sr [mv 25 1, mc 26 (.int .i64 0)] [0, 1, 6, 7, 25, 26]
 (.blk 0 (.loop [0, 1, 6, 7, 25, 26] (L132_0))))
 (rt [mv 50 6, cl 51 521 [.t 50, .c (.int .i64 5)], mv 52 7, nt 53 52, cl 54 521 [.t 53, .c (.int .i64 6)], it 55 (.buildSl 1 [.t 51, .t 54]), ct 56 507 [55], mv 4 56] [4]))))
def f132 : VFunc := ⟨false, [.tmp 4], b132, none⟩

/-- (*shunter/image.checker).part -/
def b133 : VCode := sr [mc 4 (.int .i64 0), mc 5 (.int .i64 0)] [0, 1]
 (sr [mv 7 0, nk 8 7, fa 9 0 8, la 10 18 9, al 6 (.agg [.str [], .sl 6 [] .nl, .sl 3 [] .nl, .sl 2 [] .nl, .sl 5 [] .nl, .sl 3 [] .nl, .sl 7 [] .nl, .sl 6 [] .nl, .sl 6 [] .nl, .sl 1 [] .nl, .sl 2 [] .nl, .sl 2 [] .nl, .sl 3 [] .nl, .sl 2 [] .nl, .sl 4 [] .nl, .int .i64 0, .int .i64 0, .int .i64 0]), i0 (.store 18 true (.t 6) (.t 10))] [0, 1, 6]
 (.seq (sr [mv 11 1] [0, 6, 11]
 (.blk 0 (sr [bi 13 .eql 11 0, mv 12 13] [0, 6, 11, 12]
 (.cond (.t 12) (sd [D (fa 14 0 6) 0 0, D (fa 18 15 6) 4 0, D (ld 15 14) 1 1, D (ld 19 18) 5 16, D (ct 16 562 [15]) 2 3, D (cl 17 521 [.t 16, .c (.int .i64 4)]) 3 7, D (cl 20 522 [.t 19, .c (.int .i64 1), .c (.int .i64 64)]) 6 63, D (mv 21 20) 7 127, D (G 21 true (fa 22 16 6)) 8 255, D (G 21 true (ld 23 22)) 9 511, D (G 21 true (cl 24 522 [.t 23, .c (.int .i64 1), .c (.int .i64 32)])) 10 1023, D (pa 25 21 24) 11 2047, D (mv 26 25) 12 4095, D (G 26 true (fa 27 17 6)) 13 8191, D (G 26 true (ld 28 27)) 14 16383, D (G 26 true (cl 29 522 [.t 28, .c (.int .i64 0), .c (.int .i64 4)])) 15 32767, D (pa 30 26 29) 16 65535, D (cl 31 521 [.t 30, .c (.int .i64 7)]) 17 131071, D (it 32 (.buildSl 1 [.t 17, .t 31])) 18 262143, D (ct 33 507 [32]) 19 524287, D (mc 4 (.int .i64 0)) 20 1048575, D (mv 5 33) 21 2097151] [4, 5]
 (.ret))
 (sr [bi 35 .eql 11 1, mv 34 35] [0, 6, 11, 34]
 (.cond (.t 34) (rt [fa 36 1 6, ld 37 36, ln 38 37, mv 39 0, it 40 (.mkfn 118 [.t 39] []), cl 41 501 [.t 38, .c (.int .i64 16), .t 40], ex 42 41 0, ex 43 41 1, mv 4 42, mv 5 43] [4, 5])
 (sr [bi 45 .eql 11 2, mv 44 45] [0, 6, 11, 44]
 (.cond (.t 44) (rt [fa 46 1 6, ld 47 46, fa 48 2 6, ld 49 48, ct 50 640 [47, 49], mc 4 (.int .i64 0), mv 5 50] [4, 5])
 (sr [bi 52 .eql 11 3, mv 51 52] [0, 6, 11, 51]
 (.cond (.t 51) (rt [fa 53 3 6, ld 54 53, ln 55 54, mv 56 0, it 57 (.mkfn 122 [.t 56] []), cl 58 501 [.t 55, .c (.int .i64 16), .t 57], ex 59 58 0, ex 60 58 1, mv 4 59, mv 5 60] [4, 5])
 (sr [bi 62 .eql 11 4, mv 61 62] [0, 6, 11, 61]
 (.cond (.t 61) (.seq (sr [fa 63 4 6, ld 64 63, ln 65 64, bi 66 .eql 65 0] [0, 6, 66]
 (.cond (.t 66) (rt [mc 4 (.int .i64 0), mc 5 (.int .i64 5)] [4, 5])
 (.skip)))
 (rt [fa 67 4 6, ld 68 67, ln 69 68, mv 70 0, it 71 (.mkfn 137 [.t 70] []), cl 72 501 [.t 69, .c (.int .i64 16), .t 71], ex 73 72 0, ex 74 72 1, mv 4 73, mv 5 74] [4, 5]))
 (sr [bi 76 .eql 11 5, mv 75 76] [0, 6, 11, 75]
 (.cond (.t 75) (rt [fa 77 5 6, ld 78 77, ln 79 78, mv 80 0, it 81 (.mkfn 109 [.t 80] []), cl 82 501 [.t 79, .c (.int .i64 32), .t 81], ex 83 82 0, ex 84 82 1, mv 4 83, mv 5 84] [4, 5])
 (sr [bi 86 .eql 11 6, mv 85 86] [0, 6, 11, 85]
 (.cond (.t 85) (rt [fa 87 6 6, ld 88 87, ln 89 88, mv 90 0, it 91 (.mkfn 141 [.t 90] []), cl 92 501 [.t 89, .c (.int .i64 8), .t 91], ex 93 92 0, ex 94 92 1, mv 4 93, mv 5 94] [4, 5])
 (sr [bi 96 .eql 11 7, mv 95 96] [0, 6, 11, 95]
 (.cond (.t 95) (rt [mv 97 0, fa 98 7 6, ld 99 98, ct 100 129 [97, 99], ex 101 100 0, ex 102 100 1, mv 4 101, mv 5 102] [4, 5])
 (sr [bi 104 .eql 11 8, mv 103 104] [0, 6, 11, 103]
 (.cond (.t 103) (rt [mv 105 0, fa 106 8 6, ld 107 106, ct 108 129 [105, 107], ex 109 108 0, ex 110 108 1, mv 4 109, mv 5 110] [4, 5])
 (sr [bi 112 .eql 11 9, mv 111 112] [0, 6, 11, 111]
 (.cond (.t 111) (rt [fa 113 9 6, ld 114 113, ln 115 114, mv 116 0, it 117 (.mkfn 132 [.t 116] []), cl 118 501 [.t 115, .c (.int .i64 32), .t 117], ex 119 118 0, ex 120 118 1, mv 4 119, mv 5 120] [4, 5])
 (sr [bi 122 .eql 11 10, mv 121 122] [0, 6, 11, 121]
 (.cond (.t 121) (rt [mv 123 0, fa 124 10 6, ld 125 124, ct 126 139 [123, 125], ex 127 126 0, ex 128 126 1, mv 4 127, mv 5 128] [4, 5])
 (sr [bi 130 .eql 11 11, mv 129 130] [0, 6, 11, 129]
 (.cond (.t 129) (rt [mv 131 0, fa 132 11 6, ld 133 132, ct 134 139 [131, 133], ex 135 134 0, ex 136 134 1, mv 4 135, mv 5 136] [4, 5])
 (sr [bi 138 .eql 11 12, mv 137 138] [0, 6, 11, 137]
 (.cond (.t 137) (rt [fa 139 12 6, ld 140 139, ln 141 140, mv 142 0, it 143 (.mkfn 135 [.t 142] []), cl 144 501 [.t 141, .c (.int .i64 8), .t 143], ex 145 144 0, ex 146 144 1, mv 4 145, mv 5 146] [4, 5])
 (sr [bi 148 .eql 11 13, mv 147 148] [0, 6, 147]
 (.cond (.t 147) (rt [fa 149 13 6, ld 150 149, ln 151 150, mv 152 0, it 153 (.mkfn 115 [.t 152] []), cl 154 501 [.t 151, .c (.int .i64 8), .t 153], ex 155 154 0, ex 156 154 1, mv 4 155, mv 5 156] [4, 5])
 (.skip)))))))))))))))))))))))))))))))
 (rt [fa 157 14 6, ld 158 157, ln 159 158, mv 160 0, it 161 (.mkfn 124 [.t 160] []), cl 162 501 [.t 159, .c (.int .i64 8), .t 161], ex 163 162 0, ex 164 162 1, mv 4 163, mv 5 164] [4, 5])))
def f133 : VFunc := ⟨false, [.tmp 4, .tmp 5], b133, none⟩

/-- (*shunter/image.checker).refers -/
def b134 : VCode := sr [mc 6 (.bool false)] [0, 1, 2]
 (sr [mc 7 (.bool true)] [0, 1, 2, 7]
 (.seq (sr [mv 13 1] [0, 2, 7, 13]
 (.blk 0 (sr [it 14 (.tassert 281 (.agg [.int .i64 0, .int .i64 0, .int .i64 0]) true (.t 13)), ex 15 14 1, ex 16 14 0] [0, 2, 7, 13, 15, 16]
 (.cond (.t 15) (sr [al 8 (.agg [.int .i64 0, .int .i64 0, .int .i64 0]), st 3 8 16] [0, 8]
 (.drw [D (mv 18 0) 0 0, D (nk 19 18) 1 1, D (fa 20 0 19) 2 3, D (fa 22 1 8) 4 0, D (fa 24 2 8) 6 0, D (la 21 18 20) 3 7, D (ld 23 22) 5 16, D (ld 25 24) 7 64, D (ct 26 489 [21, 23, 25]) 8 255, D (mv 17 26) 9 511, D (ex 27 17 0) 10 1023, D (ex 28 17 1) 11 1023, D (mv 7 28) 12 4095] [7]))
 (sr [it 29 (.tassert 283 (.agg [.int .i64 0, .int .i64 0]) true (.t 13)), ex 30 29 1, ex 31 29 0] [0, 2, 7, 13, 30, 31]
 (.cond (.t 30) (sr [al 9 (.agg [.int .i64 0, .int .i64 0]), st 2 9 31] [0, 9]
 (.drw [D (mv 33 0) 0 0, D (nk 34 33) 1 1, D (fa 35 0 34) 2 3, D (fa 37 1 9) 4 0, D (la 36 18 35) 3 7, D (ld 38 37) 5 16, D (ct 39 493 [36, 38]) 6 63, D (mv 32 39) 7 127, D (ex 40 32 0) 8 255, D (ex 41 32 1) 9 255, D (mv 7 41) 10 1023] [7]))
 (sr [it 42 (.tassert 276 (.agg [.int .i64 0, .int .i64 0]) true (.t 13)), ex 43 42 1, ex 44 42 0] [0, 2, 7, 13, 43, 44]
 (.cond (.t 43) (sr [al 10 (.agg [.int .i64 0, .int .i64 0]), st 2 10 44] [0, 10]
 (.drw [D (mv 46 0) 0 0, D (nk 47 46) 1 1, D (fa 48 0 47) 2 3, D (fa 50 0 10) 4 0, D (la 49 18 48) 3 7, D (ld 51 50) 5 16, D (ct 52 493 [49, 51]) 6 63, D (mv 45 52) 7 127, D (ex 53 45 0) 8 255, D (ex 54 45 1) 9 255, D (mv 7 54) 10 1023] [7]))
 (sr [it 55 (.tassert 277 (.agg [.int .i64 0, .int .i64 0, .int .i64 0]) true (.t 13)), ex 56 55 1, ex 57 55 0] [0, 2, 7, 13, 56, 57]
 (.cond (.t 56) (sr [al 11 (.agg [.int .i64 0, .int .i64 0, .int .i64 0]), st 3 11 57] [0, 11]
 (.drw [D (mv 59 0) 0 0, D (nk 60 59) 1 1, D (fa 61 0 60) 2 3, D (fa 63 1 11) 4 0, D (la 62 18 61) 3 7, D (ld 64 63) 5 16, D (ct 65 494 [62, 64]) 6 63, D (mv 58 65) 7 127, D (ex 66 58 0) 8 255, D (ex 67 58 1) 9 255, D (ex 68 58 2) 10 255, D (mv 7 68) 11 2047] [7]))
 (sr [it 69 (.tassert 275 (.agg [.int .i64 0, .int .i64 0]) true (.t 13)), ex 70 69 1, ex 71 69 0] [0, 2, 7, 70, 71]
 (.cond (.t 70) (sr [al 12 (.agg [.int .i64 0, .int .i64 0]), st 2 12 71] [0, 2, 12]
 (.reg [mv 72 0, la 73 2 12, mv 74 2, ln 75 74, ct 76 113 [72, 73, 75], mv 7 76] [7]))
 (.skip)))))))))))))
 (rt [mv 77 7, mv 6 77] [6])))
def f134 : VFunc := ⟨false, [.tmp 6], b134, none⟩

/-- (*shunter/image.checker).reg -/
def b135 : VCode := sr [bx 2 0, mc 4 (.int .i64 0)] [1, 2]
 (sr [ld 6 2, nk 7 6, fa 8 0 7, fa 9 12 8, ld 10 9, mv 11 1, ia 12 3 10 11, la 13 3 12, al 5 (.agg [.str [], .int .i64 0, .int .i64 0]), st 3 5 13] [1, 2, 5]
 (sd [D (mv 14 1) 0 0, D (it 15 (.mkfn 136 [] [.t 2])) 1 0, D (fa 17 1 5) 3 0, D (fa 21 2 5) 7 0, D (ld 18 17) 4 8, D (ld 22 21) 8 128, D (ct 16 520 [14, 15]) 2 3, D (cl 19 522 [.t 18, .c (.int .i64 1), .c (.int .i64 128)]) 5 31, D (cl 20 521 [.t 19, .c (.int .i64 9)]) 6 63, D (ct 23 509 [22]) 9 511, D (it 24 (.buildSl 1 [.t 16, .t 20, .t 23])) 10 1023, D (ct 25 507 [24]) 11 2047, D (mv 4 25) 12 4095] [4]
 (.ret)))
def f135 : VFunc := ⟨false, [.tmp 4], b135, none⟩

/-- (*shunter/image.checker).reg$1 -/
def b136 : VCode := sr [mc 3 (.str [])] [0, 1]
 (rt [ld 4 1, nk 5 4, fa 6 0 5, fa 7 12 6, ld 8 7, mv 9 0, ia 10 3 8 9, fa 11 0 10, ld 12 11, mv 3 12] [3])
def f136 : VFunc := ⟨false, [.tmp 3], b136, none⟩

def l137_0 : VCode := sr [bt 90 .lss 89 88] [2, 5, 11, 87, 88, 89, 90]
 (wh 90 2
 (.seq (.blk 3 (sr [ia 91 7 87 89, la 92 7 91, al 14 (.agg [.int .i64 0, .int .u64 0, .int .u64 0, .int .i64 0, .int .u64 0, .int .u64 0, .int .i64 0]), st 7 14 92] [2, 5, 11, 14, 87, 88, 89]
 (sr [ld 93 2, la 94 7 14, mv 95 11, ct 96 131 [93, 94, 95], mv 15 96] [2, 5, 11, 15, 87, 88, 89]
 (sr [mv 97 15, bi 98 .neq 97 0] [2, 5, 11, 15, 87, 88, 89, 98]
 (.cond (.t 98) (rt [mv 99 15, mv 4 99] [4])
 (.skip))))))
 (.reg [bi 100 .add 89 1, mv 89 100] [2, 5, 11, 87, 88, 89])))
def L137_0 : VCode := l137_0
def l137_1 : VCode := sr [bt 41 .lss 40 39] [2, 5, 38, 39, 40, 41]
 (wh 41 0
 (.seq (.blk 1 (sr [ia 42 2 38 40, la 43 2 42, al 8 (.agg [.int .i64 0, .int .i64 0]), st 2 8 43] [2, 5, 8, 38, 39, 40]
 (sr [ld 44 2, la 45 2 8, ct 46 117 [44, 45], mv 9 46] [2, 5, 9, 38, 39, 40]
 (sr [mv 47 9, bi 48 .neq 47 0] [2, 5, 9, 38, 39, 40, 48]
 (.cond (.t 48) (rt [mv 49 9, mv 4 49] [4])
 (.skip))))))
 (.reg [bi 50 .add 40 1, mv 40 50] [2, 5, 38, 39, 40])))
def L137_1 : VCode := l137_1
/-- (*shunter/image.checker).state -/
def b137 : VCode := sr [bx 2 0, mc 4 (.int .i64 0)] [1, 2]
 (sr [ld 16 2, nk 17 16, fa 18 0 17, fa 19 4 18, ld 20 19, mv 21 1, ia 22 5 20 21, la 23 5 22, al 5 (.agg [.str [], .sl 2 [] .nl, .sl 3 [] .nl, .sl 7 [] .nl, .int .i64 0]), i0 (.store 5 true (.t 5) (.t 23))] [1, 2, 5]
 (.seq (sd [D (mv 24 1) 0 0, D (it 25 (.mkfn 138 [] [.t 2])) 1 0, D (fa 27 1 5) 3 0, D (ld 28 27) 4 8, D (ln 29 28) 5 24, D (bi 30 .leq 29 4) 6 56, D (ct 26 520 [24, 25]) 2 3, D (cl 31 521 [.t 30, .c (.int .i64 2)]) 7 127, D (it 32 (.buildSl 1 [.t 26, .t 31])) 8 255, D (ct 33 507 [32]) 9 511, D (mv 6 33) 10 1023] [2, 5, 6]
 (sr [mv 34 6, bi 35 .neq 34 0] [2, 5, 6, 35]
 (.cond (.t 35) (rt [mv 36 6, mv 4 36] [4])
 (.skip))))
 (.seq (sr [fa 37 1 5, ld 38 37, ln 39 38, mc 40 (.int .i64 0)] [2, 5, 38, 39, 40]
 (.blk 0 (.loop [2, 5, 38, 39, 40] (L137_1))))
 (.seq (sd [D (fa 52 2 5) 1 0, D (fa 55 3 5) 4 0, D (fa 60 3 5) 9 0, D (ld 51 2) 0 0, D (ld 53 52) 2 2, D (ld 56 55) 5 16, D (ln 57 56) 6 48, D (bi 58 .leq 57 8) 7 112, D (ld 61 60) 10 512, D (ln 62 61) 11 1536, D (bi 63 .eql 62 0) 12 3584, D (cl 54 121 [.t 51, .t 53, .c (.bool true)]) 3 7, D (cl 59 521 [.t 58, .c (.int .i64 2)]) 8 255, D (mv 64 63) 13 8191, D (G 64 false (fa 65 2 5)) 14 16383, D (G 64 false (ld 66 65)) 15 32767, D (G 64 false (ln 67 66)) 16 65535, D (G 64 false (bi 68 .gtr 67 0)) 17 131071, D (po 69 64 68) 18 262143, D (cl 70 521 [.t 69, .c (.int .i64 4)]) 19 524287, D (it 71 (.buildSl 1 [.t 54, .t 59, .t 70])) 20 1048575, D (ct 72 507 [71]) 21 2097151, D (mv 10 72) 22 4194303] [2, 5, 10]
 (sr [mv 73 10, bi 74 .neq 73 0] [2, 5, 10, 74]
 (.cond (.t 74) (rt [mv 75 10, mv 4 75] [4])
 (.skip))))
 (sd [D (fa 81 2 5) 4 0, D (ld 77 2) 0 0, D (nk 78 77) 1 1, D (fa 79 0 78) 2 3, D (la 80 18 79) 3 7, D (ld 82 81) 5 16, D (ct 83 490 [80, 82]) 6 63, D (mv 76 83) 7 127, D (ex 84 76 0) 8 255, D (ex 85 76 1) 9 255, D (mv 11 84) 10 511, D (mv 12 85) 11 2047] [2, 5, 11]
 (.seq (sr [fa 86 3 5, ld 87 86, ln 88 87, mc 89 (.int .i64 0)] [2, 5, 11, 87, 88, 89]
 (.blk 2 (.loop [2, 5, 11, 87, 88, 89] (L137_0))))
 (rt [ld 101 2, fa 102 4 5, ld 103 102, ct 104 127 [101, 103], mv 4 104] [4])))))))
def f137 : VFunc := ⟨false, [.tmp 4], b137, none⟩

/-- (*shunter/image.checker).state$1 -/
def b138 : VCode := sr [mc 3 (.str [])] [0, 1]
 (rt [ld 4 1, nk 5 4, fa 6 0 5, fa 7 4 6, ld 8 7, mv 9 0, ia 10 5 8 9, fa 11 0 10, ld 12 11, mv 3 12] [3])
def f138 : VFunc := ⟨false, [.tmp 3], b138, none⟩

/-- (*shunter/image.checker).sums -/
def b139 : VCode := sr [bx 2 0, bx 3 1, mc 4 (.int .i64 0), mc 5 (.int .i64 0)] [2, 3]
 (rt [ld 6 3, ln 7 6, it 8 (.mkfn 140 [] [.t 2, .t 3]), cl 9 501 [.t 7, .c (.int .i64 4), .t 8], ex 10 9 0, ex 11 9 1, mv 4 10, mv 5 11] [4, 5])
def f139 : VFunc := ⟨false, [.tmp 4, .tmp 5], b139, none⟩

/-- (*shunter/image.checker).sums$1 -/
def b140 : VCode := sr [mc 4 (.int .i64 0)] [0, 1, 2]
 (sd [D (mv 17 0) 5 0, D (mv 22 0) 10 0, D (ld 12 1) 0 0, D (nk 13 12) 1 1, D (fa 14 0 13) 2 3, D (la 15 18 14) 3 7, D (ld 16 2) 4 0, D (ia 18 2 16 17) 6 48, D (fa 19 0 18) 7 112, D (ld 20 19) 8 240, D (ld 21 2) 9 0, D (ia 23 2 21 22) 11 1536, D (fa 24 1 23) 12 3584, D (ld 25 24) 13 7680, D (ct 26 489 [15, 20, 25]) 14 16383, D (mv 11 26) 15 32767, D (ex 27 11 0) 16 65535, D (ex 28 11 1) 17 65535, D (mv 5 27) 18 131071, D (mv 6 28) 19 524287] [0, 1, 2, 5, 6]
 (.seq (sr [mv 29 6, nt 30 29] [0, 1, 2, 5, 30]
 (.cond (.t 30) (rt [mc 4 (.int .i64 5)] [4])
 (.skip)))
 (sd [D (mv 37 0) 5 0, D (ld 32 1) 0 0, D (nk 33 32) 1 1, D (fa 34 0 33) 2 3, D (la 35 18 34) 3 7, D (ld 36 2) 4 0, D (ia 38 2 36 37) 6 48, D (fa 39 0 38) 7 112, D (ld 40 39) 8 240, D (al 7 (.agg [.str [], .sl 2 [] .nl, .int .i64 0, .int .i64 0, .int .i64 0, .int .i64 0])) 13 0, D (ct 41 493 [35, 40]) 9 511, D (mv 31 41) 10 1023, D (ex 42 31 0) 11 2047, D (ex 43 31 1) 12 2047, D (i0 (.store 6 true (.t 7) (.t 42))) 14 12287, D (mv 8 43) 15 32767] [0, 2, 5, 7]
 (sd [D (mv 47 0) 2 0, D (la 45 6 7) 0 0, D (ld 46 2) 1 0, D (ia 48 2 46 47) 3 6, D (fa 49 1 48) 4 14, D (ld 50 49) 5 30, D (ct 51 644 [45, 50]) 6 63, D (mv 44 51) 7 127, D (ex 52 44 0) 8 255, D (ex 53 44 1) 9 255, D (mv 9 52) 10 511, D (mv 10 53) 11 2047] [5, 9]
 (rt [mv 54 5, bi 55 .eql 54 16, mv 56 55, G 56 true (mv 57 9), G 56 true (bi 58 .rem 57 16), G 56 true (bi 59 .eql 58 0), pa 60 56 59, cl 61 521 [.t 60, .c (.int .i64 9)], mv 4 61] [4])))))
def f140 : VFunc := ⟨false, [.tmp 4], b140, none⟩

/-- (*shunter/image.checker).table -/
def b141 : VCode := sr [bx 2 0, mc 4 (.int .i64 0)] [1, 2]
 (sr [ld 7 2, nk 8 7, fa 9 0 8, fa 10 6 9, ld 11 10, mv 12 1, ia 13 7 11 12, la 14 7 13, al 5 (.agg [.str [], .int .i64 0, .sl 3 [] .nl, .sl 1 [] .nl, .int .i64 0, .sl 3 [] .nl, .int .i64 0]), i0 (.store 7 true (.t 5) (.t 14))] [1, 2, 5]
 (sd [D (mv 15 1) 0 0, D (it 16 (.mkfn 142 [] [.t 2])) 1 0, D (fa 18 1 5) 3 0, D (fa 22 2 5) 7 0, D (fa 28 2 5) 13 0, D (fa 32 3 5) 17 0, D (fa 35 3 5) 20 0, D (fa 37 4 5) 22 0, D (fa 38 0 37) 23 4194304, D (ld 19 18) 4 8, D (ld 23 22) 8 128, D (ln 24 23) 9 384, D (bi 25 .gtr 24 0) 10 896, D (ld 27 2) 12 0, D (ld 29 28) 14 8192, D (ld 31 2) 16 0, D (ld 33 32) 18 131072, D (ld 36 35) 21 1048576, D (ld 39 38) 24 12582912, D (ct 17 520 [15, 16]) 2 3, D (cl 20 522 [.t 19, .c (.int .i64 0), .c (.int .i64 3)]) 5 31, D (cl 21 521 [.t 20, .c (.int .i64 10)]) 6 63, D (cl 26 521 [.t 25, .c (.int .i64 5)]) 11 2047, D (cl 30 121 [.t 27, .t 29, .c (.bool false)]) 15 32767, D (ct 34 112 [31, 33]) 19 524287, D (ct 40 1169 [36, 39]) 25 33554431, D (cl 41 521 [.t 40, .c (.int .i64 16)]) 26 67108863, D (it 42 (.buildSl 1 [.t 17, .t 21, .t 26, .t 30, .t 34, .t 41])) 27 134217727, D (ct 43 507 [42]) 28 268435455, D (mv 6 43) 29 536870911] [2, 5, 6]
 (.seq (sr [mv 44 6, bi 45 .neq 44 0] [2, 5, 6, 45]
 (.cond (.t 45) (rt [mv 46 6, mv 4 46] [4])
 (.skip)))
 (sd [D (fa 48 4 5) 1 0, D (fa 49 0 48) 2 2, D (fa 51 4 5) 4 0, D (fa 52 1 51) 5 16, D (fa 55 6 5) 8 0, D (ld 47 2) 0 0, D (ld 50 49) 3 6, D (ld 53 52) 6 48, D (ld 56 55) 9 256, D (ct 54 111 [47, 50, 53]) 7 127, D (cl 57 522 [.t 56, .c (.int .i64 1), .c (.int .i64 256)]) 10 1023, D (cl 58 521 [.t 57, .c (.int .i64 7)]) 11 2047, D (it 59 (.buildSl 1 [.t 54, .t 58])) 12 4095, D (ct 60 507 [59]) 13 8191, D (mv 4 60) 14 16383] [4]
 (.ret)))))
def f141 : VFunc := ⟨false, [.tmp 4], b141, none⟩

/-- (*shunter/image.checker).table$1 -/
def b142 : VCode := sr [mc 3 (.str [])] [0, 1]
 (rt [ld 4 1, nk 5 4, fa 6 0 5, fa 7 6 6, ld 8 7, mv 9 0, ia 10 7 8 9, fa 11 0 10, ld 12 11, mv 3 12] [3])
def f142 : VFunc := ⟨false, [.tmp 3], b142, none⟩

def l422_0 : VCode := sr [bt 17 .lss 16 15] [0, 5, 14, 15, 16, 17]
 (wh 17 0
 (.seq (.blk 1 (sr [mv 18 16, ia 19 6 14 16, la 20 6 19, al 7 (.agg [.int .i64 0, .int .i64 0, .int .i64 0, .int .i64 0, .int .u64 0, .int .u64 0]), mv 6 18, st 6 7 20] [0, 5, 6, 7, 14, 15, 16]
 (sr [la 22 6 7, ct 23 424 [22], mv 21 23, ex 24 21 0, ex 25 21 1, mv 8 24, mv 9 25] [0, 5, 6, 8, 9, 14, 15, 16]
 (.seq (sr [mv 26 9, bi 27 .neq 26 0] [0, 5, 6, 8, 9, 14, 15, 16, 27]
 (.cond (.t 27) (rt [mv 28 6, mv 29 9, mc 2 (.sl 1 [] .nl), mv 3 28, mv 4 29] [2, 3, 4])
 (.skip)))
 (.reg [mv 30 5, mv 31 8, it 32 (.buildSl 1 [.t 31]), it 33 (.app 1 16 false (.t 30) (.t 32)), mv 5 33] [0, 5, 14, 15, 16])))))
 (.reg [bi 34 .add 16 1, mv 16 34] [0, 5, 14, 15, 16])))
def L422_0 : VCode := l422_0
/-- shunter/code.All -/
def b422 : VCode := sr [mc 2 (.sl 1 [] .nl), mc 3 (.int .i64 0), mc 4 (.int .i64 0)] [0]
 (sr [it 5 (.nilacc 1)] [0, 5]
 (.seq (sr [mv 10 0, mv 11 0, ln 12 11, it 13 (.mn [.t 12, .c (.int .i64 64)]), it 14 (.slice 6 (.t 10) none (some (.t 13)) none), ln 15 14, mc 16 (.int .i64 0)] [0, 5, 14, 15, 16]
 (.blk 0 (.loop [0, 5, 14, 15, 16] (L422_0))))
 (.seq (sr [mv 35 0, ln 36 35, bi 37 .gtr 36 64] [5, 37]
 (.cond (.t 37) (rt [mc 2 (.sl 1 [] .nl), mc 3 (.int .i64 64), mc 4 (.int .i64 2)] [2, 3, 4])
 (.skip)))
 (rt [mv 38 5, mv 39 5, ln 40 39, mv 2 38, mv 3 40, mc 4 (.int .i64 0)] [2, 3, 4]))))
def f422 : VFunc := ⟨false, [.tmp 2, .tmp 3, .tmp 4], b422, none⟩

/-- shunter/code.Make -/
def b424 : VCode := sr [bx 1 0, mc 2 (.nili), mc 3 (.int .i64 0)] [1]
 (.seq (sr [la 5 6 1, ct 6 425 [5], mv 4 6] [1, 4]
 (sr [mv 7 4, bi 8 .neq 7 0] [1, 4, 8]
 (.cond (.t 8) (rt [mv 9 4, mc 2 (.nili), mv 3 9] [2, 3])
 (.skip))))
 (.seq (sr [fa 10 0 1, ld 11 10] [1, 11]
 (.blk 0 (sr [bi 13 .eql 11 0, mv 12 13] [1, 11, 12]
 (.cond (.t 12) (rt [fa 14 3 1, la 15 3 14, it 16 (.build [.int .i64 0, .int .u64 0, .int .u64 0] [(0, 3, .t 15)]), it 17 (.mkif 282 (.t 16)), mv 2 17, mc 3 (.int .i64 0)] [2, 3])
 (.seq (sr [bi 19 .eql 11 1, mv 18 19] [1, 11, 18]
 (.cond (.t 18) (.skip)
 (.reg [bi 20 .eql 11 22, mv 18 20] [1, 11, 18])))
 (.cond (.t 18) (rt [fa 21 0 1, ld 22 21, fa 23 1 1, ld 24 23, fa 25 2 1, ld 26 25, it 27 (.build [.int .i64 0, .int .i64 0, .int .i64 0] [(0, 1, .t 22), (1, 1, .t 24), (2, 1, .t 26)]), it 28 (.mkif 281 (.t 27)), mv 2 28, mc 3 (.int .i64 0)] [2, 3])
 (.seq (sr [bi 30 .eql 11 2, mv 29 30] [1, 11, 29]
 (.cond (.t 29) (.skip)
 (sr [bi 31 .eql 11 23, mv 29 31] [1, 11, 29]
 (.cond (.t 29) (.skip)
 (sr [bi 32 .eql 11 3, mv 29 32] [1, 11, 29]
 (.cond (.t 29) (.skip)
 (sr [bi 33 .eql 11 5, mv 29 33] [1, 11, 29]
 (.cond (.t 29) (.skip)
 (sr [bi 34 .eql 11 24, mv 29 34] [1, 11, 29]
 (.cond (.t 29) (.skip)
 (sr [bi 35 .eql 11 29, mv 29 35] [1, 11, 29]
 (.cond (.t 29) (.skip)
 (.reg [bi 36 .eql 11 30, mv 29 36] [1, 11, 29])))))))))))))
 (.cond (.t 29) (rt [fa 37 0 1, ld 38 37, fa 39 1 1, ld 40 39, it 41 (.build [.int .i64 0, .int .i64 0] [(0, 1, .t 38), (1, 1, .t 40)]), it 42 (.mkif 275 (.t 41)), mv 2 42, mc 3 (.int .i64 0)] [2, 3])
 (.seq (sr [bi 44 .eql 11 4, mv 43 44] [1, 11, 43]
 (.cond (.t 43) (.skip)
 (sr [bi 45 .eql 11 25, mv 43 45] [1, 11, 43]
 (.cond (.t 43) (.skip)
 (.reg [bi 46 .eql 11 26, mv 43 46] [1, 11, 43])))))
 (.cond (.t 43) (rt [fa 47 0 1, ld 48 47, fa 49 1 1, ld 50 49, it 51 (.build [.int .i64 0, .int .i64 0] [(0, 1, .t 48), (1, 1, .t 50)]), it 52 (.mkif 283 (.t 51)), mv 2 52, mc 3 (.int .i64 0)] [2, 3])
 (.seq (sr [bi 54 .eql 11 6, mv 53 54] [1, 11, 53]
 (.cond (.t 53) (.skip)
 (sr [bi 55 .eql 11 7, mv 53 55] [1, 11, 53]
 (.cond (.t 53) (.skip)
 (sr [bi 56 .eql 11 8, mv 53 56] [1, 11, 53]
 (.cond (.t 53) (.skip)
 (sr [bi 57 .eql 11 9, mv 53 57] [1, 11, 53]
 (.cond (.t 53) (.skip)
 (.reg [bi 58 .eql 11 11, mv 53 58] [1, 11, 53])))))))))
 (.cond (.t 53) (rt [fa 59 0 1, ld 60 59, fa 61 1 1, ld 62 61, it 63 (.build [.int .i64 0, .int .i64 0] [(0, 1, .t 60), (1, 1, .t 62)]), it 64 (.mkif 279 (.t 63)), mv 2 64, mc 3 (.int .i64 0)] [2, 3])
 (sr [bi 66 .eql 11 10, mv 65 66] [1, 11, 65]
 (.cond (.t 65) (rt [fa 67 1 1, ld 68 67, fa 69 2 1, ld 70 69, it 71 (.build [.int .i64 0, .int .i64 0] [(0, 1, .t 68), (1, 1, .t 70)]), it 72 (.mkif 280 (.t 71)), mv 2 72, mc 3 (.int .i64 0)] [2, 3])
 (.seq (sr [bi 74 .eql 11 27, mv 73 74] [1, 11, 73]
 (.cond (.t 73) (.skip)
 (.reg [bi 75 .eql 11 28, mv 73 75] [1, 11, 73])))
 (.cond (.t 73) (rt [fa 76 0 1, ld 77 76, fa 78 1 1, ld 79 78, fa 80 2 1, ld 81 80, it 82 (.build [.int .i64 0, .int .i64 0, .int .i64 0] [(0, 1, .t 77), (1, 1, .t 79), (2, 1, .t 81)]), it 83 (.mkif 277 (.t 82)), mv 2 83, mc 3 (.int .i64 0)] [2, 3])
 (.seq (sr [bi 85 .eql 11 31, mv 84 85] [1, 11, 84]
 (.cond (.t 84) (.skip)
 (.reg [bi 86 .eql 11 32, mv 84 86] [1, 11, 84])))
 (.cond (.t 84) (rt [fa 87 0 1, ld 88 87, fa 89 1 1, ld 90 89, it 91 (.build [.int .i64 0, .int .i64 0] [(0, 1, .t 88), (1, 1, .t 90)]), it 92 (.mkif 278 (.t 91)), mv 2 92, mc 3 (.int .i64 0)] [2, 3])
 (sr [bi 94 .eql 11 33, mv 93 94] [1, 11, 93]
 (.cond (.t 93) (rt [fa 95 1 1, ld 96 95, fa 97 2 1, ld 98 97, it 99 (.build [.int .i64 0, .int .i64 0] [(0, 1, .t 96), (1, 1, .t 98)]), it 100 (.mkif 276 (.t 99)), mv 2 100, mc 3 (.int .i64 0)] [2, 3])
 (sr [bi 102 .eql 11 34, mv 101 102] [1, 101]
 (.cond (.t 101) (rt [it 103 (.build [] []), it 104 (.mkif 285 (.t 103)), mv 2 104, mc 3 (.int .i64 0)] [2, 3])
 (.skip)))))))))))))))))))))))
 (rt [fa 105 0 1, ld 106 105, it 107 (.build [.int .i64 0] [(0, 1, .t 106)]), it 108 (.mkif 286 (.t 107)), mv 2 108, mc 3 (.int .i64 0)] [2, 3])))
def f424 : VFunc := ⟨false, [.tmp 2, .tmp 3], b424, none⟩

/-- shunter/code.May -/
def b425 : VCode := sr [bx 1 0, mc 2 (.int .i64 0)] [1]
 (.seq (sr [fa 4 0 1, ld 5 4, ct 6 430 [5], nt 7 6] [1, 7]
 (.cond (.t 7) (rt [mc 2 (.int .i64 10)] [2])
 (.skip)))
 (sr [fa 8 0 1, ld 9 8, ct 10 432 [9], al 3 (.agg [.bool false, .bool false, .int .i64 0, .int .i64 0, .int .i64 0, .int .i64 0, .int .i64 0, .int .i64 0]), st 8 3 10] [1, 3]
 (.seq (.blk 0 (sr [fa 12 1 1, ld 13 12, fa 14 2 3, ld 15 14, fa 16 3 3, ld 17 16, ct 18 433 [13, 15, 17], nt 19 18, mv 20 19, G 20 false (fa 21 2 1), G 20 false (ld 22 21), G 20 false (fa 23 4 3), G 20 false (ld 24 23), G 20 false (fa 25 5 3), G 20 false (ld 26 25), G 20 false (ct 27 433 [22, 24, 26]), G 20 false (nt 28 27), po 29 20 28, mv 30 29, G 30 false (fa 31 0 1), G 30 false (ld 32 31), G 30 false (bi 33 .eql 32 10), G 30 false (mv 34 33), G 34 true (fa 35 2 1), G 34 true (ld 36 35), G 34 true (fa 37 1 1), G 34 true (ld 38 37), G 34 true (bt 39 .gtr 36 38), G 30 false (pa 40 34 39), po 41 30 40, mv 11 41] [1, 11]
 (.cond (.t 11) (rt [mc 2 (.int .i64 7)] [2])
 (sr [fa 43 0 1, ld 44 43, bi 45 .eql 44 0, mv 46 45, G 46 true (fa 47 3 1), G 46 true (la 48 3 47), G 46 true (ct 49 1090 [48]), G 46 true (nt 50 49), pa 51 46 50, mv 52 51, G 52 false (fa 53 0 1), G 52 false (ld 54 53), G 52 false (bi 55 .neq 54 0), G 52 false (mv 56 55), G 56 true (fa 57 3 1), G 56 true (la 58 3 57), G 56 true (it 59 (.build [.int .i64 0, .int .u64 0, .int .u64 0] [])), G 56 true (it 60 (.eq true (some [.i, .i, .i]) (.t 58) (.t 59))), G 52 false (pa 61 56 60), po 62 52 61, mv 42 62] [42]
 (.cond (.t 42) (rt [mc 2 (.int .i64 1)] [2])
 (.skip))))))
 (rt [mc 2 (.int .i64 0)] [2]))))
def f425 : VFunc := ⟨false, [.tmp 2], b425, none⟩

/-- shunter/code.Target -/
def b427 : VCode := sr [mc 2 (.int .i64 0), mc 3 (.bool false)] [0]
 (.seq (sr [mv 9 0, it 10 (.tassert 278 (.agg [.int .i64 0, .int .i64 0]) true (.t 9)), mv 8 10, ex 11 8 0, ex 12 8 1, al 4 (.agg [.int .i64 0, .int .i64 0]), st 2 4 11, mv 5 12] [0, 4, 5]
 (sr [mv 13 5] [0, 4, 13]
 (.cond (.t 13) (rt [fa 14 1 4, ld 15 14, mv 2 15, mc 3 (.bool true)] [2, 3])
 (.skip))))
 (.seq (sr [mv 17 0, it 18 (.tassert 276 (.agg [.int .i64 0, .int .i64 0]) true (.t 17)), mv 16 18, ex 19 16 0, ex 20 16 1, al 6 (.agg [.int .i64 0, .int .i64 0]), st 2 6 19, mv 7 20] [6, 7]
 (sr [mv 21 7] [6, 21]
 (.cond (.t 21) (rt [fa 22 1 6, ld 23 22, mv 2 23, mc 3 (.bool true)] [2, 3])
 (.skip))))
 (rt [mc 2 (.int .i64 0), mc 3 (.bool false)] [2, 3])))
def f427 : VFunc := ⟨false, [.tmp 2, .tmp 3], b427, none⟩

/-- shunter/code.alone -/
def b428 : VCode := sr [al 8 (.agg [.bool false, .bool false, .int .i64 0, .int .i64 0, .int .i64 0, .int .i64 0, .int .i64 0, .int .i64 0])] [0, 1, 2, 3, 8]
 (rt [mv 9 0, mv 10 1, mv 11 2, mv 12 3, it 13 (.build [.bool false, .bool false, .int .i64 0, .int .i64 0, .int .i64 0, .int .i64 0, .int .i64 0, .int .i64 0] [(0, 1, .c (.bool true)), (2, 1, .t 9), (3, 1, .t 10), (6, 1, .t 11), (7, 1, .t 12)]), st 8 8 13] [8])
def f428 : VFunc := ⟨false, [.cell 8 true 8], b428, none⟩

/-- shunter/code.both -/
def b429 : VCode := sr [al 10 (.agg [.bool false, .bool false, .int .i64 0, .int .i64 0, .int .i64 0, .int .i64 0, .int .i64 0, .int .i64 0])] [0, 1, 2, 3, 4, 10]
 (rt [mv 11 0, mv 12 1, mv 13 2, mv 14 3, mv 15 4, it 16 (.build [.bool false, .bool false, .int .i64 0, .int .i64 0, .int .i64 0, .int .i64 0, .int .i64 0, .int .i64 0] [(0, 1, .c (.bool true)), (1, 1, .c (.bool true)), (3, 1, .t 11), (4, 1, .t 12), (5, 1, .t 13), (6, 1, .t 14), (7, 1, .t 15)]), st 8 10 16] [10])
def f429 : VFunc := ⟨false, [.cell 10 true 8], b429, none⟩

/-- shunter/code.known -/
def b430 : VCode := sr [mc 2 (.bool false)] [0]
 (rt [mv 3 0, bi 4 .geq 3 0, mv 5 4, G 5 true (mv 6 0), G 5 true (bi 7 .lss 6 35), pa 8 5 7, mv 2 8] [2])
def f430 : VFunc := ⟨false, [.tmp 2], b430, none⟩

/-- shunter/code.shapeOf -/
def b432 : VCode := sr [al 2 (.agg [.bool false, .bool false, .int .i64 0, .int .i64 0, .int .i64 0, .int .i64 0, .int .i64 0, .int .i64 0])] [0, 2]
 (.seq (sr [mv 3 0] [2, 3]
 (.blk 0 (sr [bi 5 .eql 3 0, mv 4 5] [2, 3, 4]
 (.cond (.t 4) (rt [it 6 (.build [.bool false, .bool false, .int .i64 0, .int .i64 0, .int .i64 0, .int .i64 0, .int .i64 0, .int .i64 0] [(7, 1, .c (.int .i64 1))]), st 8 2 6] [2])
 (sr [bi 8 .eql 3 1, mv 7 8] [2, 3, 7]
 (.cond (.t 7) (rt [cl 9 429 [.c (.int .i64 31), .c (.int .i64 0), .c (.int .i64 15), .c (.int .i64 0), .c (.int .i64 1)], st 8 2 9] [2])
 (sr [bi 11 .eql 3 22, mv 10 11] [2, 3, 10]
 (.cond (.t 10) (rt [cl 12 429 [.c (.int .i64 31), .c (.int .i64 0), .c (.int .i64 15), .c (.int .i64 1), .c (.int .i64 0)], st 8 2 12] [2])
 (sr [bi 14 .eql 3 2, mv 13 14] [2, 3, 13]
 (.cond (.t 13) (rt [cl 15 428 [.c (.int .i64 0), .c (.int .i64 23), .c (.int .i64 0), .c (.int .i64 1)], st 8 2 15] [2])
 (sr [bi 17 .eql 3 23, mv 16 17] [2, 3, 16]
 (.cond (.t 16) (rt [cl 18 428 [.c (.int .i64 0), .c (.int .i64 23), .c (.int .i64 1), .c (.int .i64 0)], st 8 2 18] [2])
 (sr [bi 20 .eql 3 3, mv 19 20] [2, 3, 19]
 (.cond (.t 19) (rt [cl 21 428 [.c (.int .i64 0), .c (.int .i64 7), .c (.int .i64 0), .c (.int .i64 1)], st 8 2 21] [2])
 (sr [bi 23 .eql 3 4, mv 22 23] [2, 3, 22]
 (.cond (.t 22) (rt [cl 24 428 [.c (.int .i64 0), .c (.int .i64 31), .c (.int .i64 0), .c (.int .i64 1)], st 8 2 24] [2])
 (.seq (sr [bi 26 .eql 3 25, mv 25 26] [2, 3, 25]
 (.cond (.t 25) (.skip)
 (.reg [bi 27 .eql 3 26, mv 25 27] [2, 3, 25])))
 (.cond (.t 25) (rt [cl 28 428 [.c (.int .i64 0), .c (.int .i64 31), .c (.int .i64 0), .c (.int .i64 0)], st 8 2 28] [2])
 (.seq (sr [bi 30 .eql 3 5, mv 29 30] [2, 3, 29]
 (.cond (.t 29) (.skip)
 (.reg [bi 31 .eql 3 30, mv 29 31] [2, 3, 29])))
 (.cond (.t 29) (rt [cl 32 428 [.c (.int .i64 0), .c (.int .i64 7), .c (.int .i64 1), .c (.int .i64 1)], st 8 2 32] [2])
 (sr [bi 34 .eql 3 24, mv 33 34] [2, 3, 33]
 (.cond (.t 33) (rt [cl 35 428 [.c (.int .i64 0), .c (.int .i64 7), .c (.int .i64 2), .c (.int .i64 0)], st 8 2 35] [2])
 (sr [bi 37 .eql 3 29, mv 36 37] [2, 3, 36]
 (.cond (.t 36) (rt [cl 38 428 [.c (.int .i64 0), .c (.int .i64 7), .c (.int .i64 1), .c (.int .i64 0)], st 8 2 38] [2])
 (.seq (sr [bi 40 .eql 3 8, mv 39 40] [2, 3, 39]
 (.cond (.t 39) (.skip)
 (.reg [bi 41 .eql 3 9, mv 39 41] [2, 3, 39])))
 (.cond (.t 39) (rt [cl 42 428 [.c (.int .i64 0), .c (.int .i64 128), .c (.int .i64 1), .c (.int .i64 1)], st 8 2 42] [2])
 (sr [bi 44 .eql 3 11, mv 43 44] [2, 3, 43]
 (.cond (.t 43) (rt [cl 45 428 [.c (.int .i64 1), .c (.int .i64 128), .c (.int .i64 1), .c (.int .i64 1)], st 8 2 45] [2])
 (sr [bi 47 .eql 3 10, mv 46 47] [2, 3, 46]
 (.cond (.t 46) (rt [cl 48 429 [.c (.int .i64 127), .c (.int .i64 0), .c (.int .i64 127), .c (.int .i64 1), .c (.int .i64 1)], st 8 2 48] [2])
 (.seq (sr [bi 50 .eql 3 27, mv 49 50] [2, 3, 49]
 (.cond (.t 49) (.skip)
 (.reg [bi 51 .eql 3 28, mv 49 51] [2, 3, 49])))
 (.cond (.t 49) (rt [cl 52 429 [.c (.int .i64 15), .c (.int .i64 1), .c (.int .i64 4), .c (.int .i64 0), .c (.int .i64 0)], st 8 2 52] [2])
 (sr [bi 54 .eql 3 31, mv 53 54] [2, 3, 53]
 (.cond (.t 53) (rt [cl 55 428 [.c (.int .i64 0), .c (.int .i64 64), .c (.int .i64 0), .c (.int .i64 0)], st 8 2 55] [2])
 (sr [bi 57 .eql 3 32, mv 56 57] [2, 3, 56]
 (.cond (.t 56) (rt [cl 58 428 [.c (.int .i64 0), .c (.int .i64 64), .c (.int .i64 1), .c (.int .i64 0)], st 8 2 58] [2])
 (sr [bi 60 .eql 3 33, mv 59 60] [2, 3, 59]
 (.cond (.t 59) (rt [cl 61 429 [.c (.int .i64 31), .c (.int .i64 0), .c (.int .i64 64), .c (.int .i64 0), .c (.int .i64 0)], st 8 2 61] [2])
 (.seq (sr [bi 63 .eql 3 6, mv 62 63] [2, 3, 62]
 (.cond (.t 62) (.skip)
 (.reg [bi 64 .eql 3 7, mv 62 64] [2, 3, 62])))
 (.cond (.t 62) (rt [it 65 (.build [.bool false, .bool false, .int .i64 0, .int .i64 0, .int .i64 0, .int .i64 0, .int .i64 0, .int .i64 0] [(6, 1, .c (.int .i64 1)), (7, 1, .c (.int .i64 1))]), st 8 2 65] [2])
 (sr [bi 67 .eql 3 34, mv 66 67] [2, 66]
 (.cond (.t 66) (rt [it 68 (.build [.bool false, .bool false, .int .i64 0, .int .i64 0, .int .i64 0, .int .i64 0, .int .i64 0, .int .i64 0] []), st 8 2 68] [2])
 (.skip)))))))))))))))))))))))))))))))))))))))))))
 (rt [it 69 (.build [.bool false, .bool false, .int .i64 0, .int .i64 0, .int .i64 0, .int .i64 0, .int .i64 0, .int .i64 0] [(6, 1, .c (.int .i64 2)), (7, 1, .c (.int .i64 1))]), st 8 2 69] [2]))
def f432 : VFunc := ⟨false, [.cell 2 true 8], b432, none⟩

/-- shunter/code.within -/
def b433 : VCode := sr [mc 6 (.bool false)] [0, 1, 2]
 (rt [mv 7 0, mv 8 1, bt 9 .geq 7 8, mv 10 9, G 10 true (mv 11 0), G 10 true (mv 12 2), G 10 true (bt 13 .leq 11 12), pa 14 10 13, mv 6 14] [6])
def f433 : VFunc := ⟨false, [.tmp 6], b433, none⟩

def l481_0 : VCode := sr [bi 11 .lss 10 15] [3, 10, 11]
 (wh 11 0
 (.seq (.blk 1 (sr [mv 12 10, mv 4 12] [3, 4, 10]
 (sr [mv 14 3, mv 15 4, ct 16 133 [14, 15], mv 13 16, ex 17 13 0, ex 18 13 1, mv 5 17, mv 6 18] [3, 4, 5, 6, 10]
 (sr [mv 19 6, bi 20 .neq 19 0] [3, 4, 5, 6, 10, 20]
 (.cond (.t 20) (rt [mv 21 4, mv 22 5, mv 23 6, it 24 (.build [.int .i64 0, .int .i64 0, .int .i64 0] [(0, 1, .t 21), (1, 1, .t 22), (2, 1, .t 23)]), bx 25 24, it 26 (.mkif 121 (.t 25)), mv 2 26] [2])
 (.skip))))))
 (.reg [bi 27 .add 10 1, mv 10 27] [3, 10])))
def L481_0 : VCode := l481_0
/-- shunter/image.Check -/
def b481 : VCode := sr [bx 1 0, mc 2 (.nili)] [1]
 (sr [la 7 18 1, it 8 (.build [.str [], .sl 6 [] .nl, .sl 3 [] .nl, .sl 2 [] .nl, .sl 5 [] .nl, .sl 3 [] .nl, .sl 7 [] .nl, .sl 6 [] .nl, .sl 6 [] .nl, .sl 1 [] .nl, .sl 2 [] .nl, .sl 2 [] .nl, .sl 3 [] .nl, .sl 2 [] .nl, .sl 4 [] .nl, .int .i64 0, .int .i64 0, .int .i64 0] [(0, 18, .t 7)]), bx 9 8, mv 3 9] [3]
 (.seq (sr [mc 10 (.int .i64 0)] [3, 10]
 (.blk 0 (.loop [3, 10] (L481_0))))
 (rt [mc 2 (.nili)] [2])))
def f481 : VFunc := ⟨false, [.tmp 2], b481, none⟩

/-- shunter/image.Field -/
def b489 : VCode := sr [bx 3 0, mc 6 (.int .i64 0), mc 7 (.bool false)] [1, 2, 3]
 (sr [la 11 18 3, mv 12 1, ct 13 493 [11, 12], mv 10 13, ex 14 10 0, ex 15 10 1, al 8 (.agg [.str [], .sl 2 [] .nl, .int .i64 0, .int .i64 0, .int .i64 0, .int .i64 0]), i0 (.store 6 true (.t 8) (.t 14)), mv 9 15] [2, 8, 9]
 (.seq (sr [mv 16 9, nt 17 16, mv 18 17, G 18 false (mv 19 2), G 18 false (fa 20 1 8), G 18 false (ld 21 20), G 18 false (ln 22 21), G 18 false (bi 23 .sub 22 1), G 18 false (cl 24 522 [.t 19, .c (.int .i64 0), .t 23]), G 18 false (nt 25 24), po 26 18 25] [2, 8, 26]
 (.cond (.t 26) (rt [mc 6 (.int .i64 0), mc 7 (.bool false)] [6, 7])
 (.skip)))
 (rt [fa 27 1 8, ld 28 27, mv 29 2, ia 30 2 28 29, fa 31 1 30, ld 32 31, mv 6 32, mc 7 (.bool true)] [6, 7])))
def f489 : VFunc := ⟨false, [.tmp 6, .tmp 7], b489, none⟩

def l490_0 : VCode := sr [bt 14 .lss 13 12] [2, 6, 11, 12, 13, 14]
 (wh 14 0
 (.seq (.blk 1 (sr [ia 15 3 11 13, la 16 3 15, al 8 (.agg [.int .i64 0, .int .i64 0, .int .i64 0]), st 3 8 16] [2, 6, 8, 11, 12, 13]
 (sr [la 18 18 2, la 19 3 8, ct 20 510 [18, 19], mv 17 20, ex 21 17 0, ex 22 17 1, mv 9 21, mv 10 22] [2, 6, 9, 10, 11, 12, 13]
 (.seq (sr [mv 23 10, nt 24 23, mv 25 24, G 25 false (mv 26 9), G 25 false (mv 27 6), G 25 false (it 28 (.bin .sub (.c (.int .i64 128)) (.t 27))), G 25 false (cl 29 522 [.t 26, .c (.int .i64 1), .t 28]), G 25 false (nt 30 29), po 31 25 30] [2, 6, 9, 11, 12, 13, 31]
 (.cond (.t 31) (rt [mc 4 (.int .i64 0), mc 5 (.bool false)] [4, 5])
 (.skip)))
 (.reg [mv 32 6, mv 33 9, bt 34 .add 32 33, mv 6 34] [2, 6, 11, 12, 13])))))
 (.reg [bi 35 .add 13 1, mv 13 35] [2, 6, 11, 12, 13])))
def L490_0 : VCode := l490_0
/-- shunter/image.Key -/
def b490 : VCode := sr [bx 2 0, mc 4 (.int .i64 0), mc 5 (.bool false)] [1, 2]
 (sr [mc 6 (.int .i64 0)] [1, 2, 6]
 (.seq (sr [mv 11 1, ln 12 11, mc 13 (.int .i64 0)] [2, 6, 11, 12, 13]
 (.blk 0 (.loop [2, 6, 11, 12, 13] (L490_0))))
 (rt [mv 36 6, mv 4 36, mc 5 (.bool true)] [4, 5])))
def f490 : VFunc := ⟨false, [.tmp 4, .tmp 5], b490, none⟩

/-- shunter/image.Meta -/
def b491 : VCode := sr [bx 2 0, mc 4 (.int .i64 0), mc 5 (.bool false)] [1, 2]
 (.seq (.blk 0 (sr [mv 7 1, cl 8 522 [.t 7, .c (.int .i64 0), .c (.int .i64 7)], mv 6 8] [1, 2, 6]
 (.cond (.t 6) (rt [ct 9 508 [], mv 10 1, it 11 (.idxA 8 1 false (.t 9) (.t 10)), mv 4 11, mc 5 (.bool true)] [4, 5])
 (sr [mv 13 1, bi 14 .geq 13 0, mv 15 14, G 15 true (mv 16 1), G 15 true (bi 17 .sub 16 8), G 15 true (fa 18 3 2), G 15 true (ld 19 18), G 15 true (ln 20 19), G 15 true (bt 21 .lss 17 20), pa 22 15 21, mv 12 22] [1, 2, 12]
 (.cond (.t 12) (rt [fa 23 3 2, ld 24 23, mv 25 1, bi 26 .sub 25 8, ia 27 2 24 26, fa 28 1 27, ld 29 28, mv 4 29, mc 5 (.bool true)] [4, 5])
 (.skip))))))
 (rt [mc 4 (.int .i64 0), mc 5 (.bool false)] [4, 5]))
def f491 : VFunc := ⟨false, [.tmp 4, .tmp 5], b491, none⟩

/-- shunter/image.Slot -/
def b493 : VCode := sr [bx 2 0, al 4 (.agg [.str [], .sl 2 [] .nl, .int .i64 0, .int .i64 0, .int .i64 0, .int .i64 0]), mc 5 (.bool false)] [1, 2, 4]
 (rt [fa 6 1 2, ld 7 6, fa 8 2 2, ld 9 8, mv 10 1, ct 11 639 [7, 9, 10], ex 12 11 0, ex 13 11 1, i0 (.store 6 true (.t 4) (.t 12)), mv 5 13] [4, 5])
def f493 : VFunc := ⟨false, [.cell 4 true 6, .tmp 5], b493, none⟩

/-- shunter/image.Stacked -/
def b494 : VCode := sr [bx 2 0, mc 4 (.int .i64 0), mc 5 (.int .i64 0), mc 6 (.bool false)] [1, 2]
 (sr [fa 10 2 2, ld 11 10, mv 12 1, ct 13 638 [11, 12], mv 9 13, ex 14 9 0, ex 15 9 1, mv 7 14, mv 8 15] [1, 2, 7, 8]
 (.seq (sr [mv 16 8, nt 17 16, mv 18 17, G 18 false (fa 19 2 2), G 18 false (ld 20 19), G 18 false (mv 21 1), G 18 false (ia 22 3 20 21), G 18 false (fa 23 2 22), G 18 false (ld 24 23), G 18 false (bi 25 .eql 24 0), po 26 18 25] [1, 2, 7, 26]
 (.cond (.t 26) (rt [mc 4 (.int .i64 0), mc 5 (.int .i64 0), mc 6 (.bool false)] [4, 5, 6])
 (.skip)))
 (sd [D (mv 27 7) 0 0, D (fa 28 2 2) 1 0, D (mv 30 1) 3 0, D (mv 4 27) 7 1, D (ld 29 28) 2 2, D (ia 31 3 29 30) 4 14, D (fa 32 2 31) 5 30, D (ld 33 32) 6 62, D (mv 5 33) 8 255, D (mc 6 (.bool true)) 9 511] [4, 5, 6]
 (.ret))))
def f494 : VFunc := ⟨false, [.tmp 4, .tmp 5, .tmp 6], b494, none⟩

def l501_0 : VCode := sr [bt 15 .lss 14 13] [2, 13, 14, 15]
 (wh 15 0
 (.seq (.blk 1 (sr [mv 16 14, mv 8 16] [2, 8, 13, 14]
 (sr [mv 17 2, mv 18 8, it 19 (.calld true (.t 17) [.t 18]), mv 9 19] [2, 8, 9, 13, 14]
 (sr [mv 20 9, bi 21 .neq 20 0] [2, 8, 9, 13, 14, 21]
 (.cond (.t 21) (rt [mv 22 8, mv 23 9, mv 6 22, mv 7 23] [6, 7])
 (.skip))))))
 (.reg [bi 24 .add 14 1, mv 14 24] [2, 13, 14])))
def L501_0 : VCode := l501_0
/-- shunter/image.all -/
def b501 : VCode := sr [mc 6 (.int .i64 0), mc 7 (.int .i64 0)] [0, 1, 2]
 (.seq (sr [mv 10 0, mv 11 1, bt 12 .gtr 10 11] [0, 2, 12]
 (.cond (.t 12) (rt [mc 6 (.int .i64 0), mc 7 (.int .i64 2)] [6, 7])
 (.skip)))
 (.seq (sr [mv 13 0, mc 14 (.int .i64 0)] [2, 13, 14]
 (.blk 0 (.loop [2, 13, 14] (L501_0))))
 (rt [mc 6 (.int .i64 0), mc 7 (.int .i64 0)] [6, 7])))
def f501 : VFunc := ⟨false, [.tmp 6, .tmp 7], b501, none⟩

def l507_0 : VCode := sr [bt 8 .lss 7 6] [5, 6, 7, 8]
 (wh 8 0
 (.seq (.blk 1 (sr [ia 9 1 5 7, ld 10 9, mv 4 10] [4, 5, 6, 7]
 (sr [mv 11 4, bi 12 .neq 11 0] [4, 5, 6, 7, 12]
 (.cond (.t 12) (rt [mv 13 4, mv 2 13] [2])
 (.skip)))))
 (.reg [bi 14 .add 7 1, mv 7 14] [5, 6, 7])))
def L507_0 : VCode := l507_0
/-- shunter/image.first -/
def b507 : VCode := sr [mc 2 (.int .i64 0)] [0]
 (.seq (sr [mv 5 0, ln 6 5, mc 7 (.int .i64 0)] [5, 6, 7]
 (.blk 0 (.loop [5, 6, 7] (L507_0))))
 (rt [mc 2 (.int .i64 0)] [2]))
def f507 : VFunc := ⟨false, [.tmp 2], b507, none⟩

/-- shunter/image.given -/
def b508 : VCode := sr [al 0 (.agg [.int .i64 0, .int .i64 0, .int .i64 0, .int .i64 0, .int .i64 0, .int .i64 0, .int .i64 0, .int .i64 0])] [0]
 (rt [it 1 (.build [.int .i64 0, .int .i64 0, .int .i64 0, .int .i64 0, .int .i64 0, .int .i64 0, .int .i64 0, .int .i64 0] [(0, 1, .c (.int .i64 8)), (1, 1, .c (.int .i64 8)), (2, 1, .c (.int .i64 8)), (3, 1, .c (.int .i64 1)), (4, 1, .c (.int .i64 8)), (5, 1, .c (.int .i64 1)), (6, 1, .c (.int .i64 16)), (7, 1, .c (.int .i64 8))]), st 8 0 1] [0])
def f508 : VFunc := ⟨false, [.cell 0 true 8], b508, none⟩

/-- shunter/image.log -/
def b509 : VCode := sr [mc 2 (.int .i64 0)] [0]
 (rt [mv 3 0, cl 4 522 [.t 3, .c (.int .i64 1), .c (.int .i64 8)], cl 5 521 [.t 4, .c (.int .i64 7)], mv 2 5] [2])
def f509 : VFunc := ⟨false, [.tmp 2], b509, none⟩

/-- shunter/image.part -/
def b510 : VCode := sr [bx 2 0, bx 3 1, mc 4 (.int .i64 0), mc 5 (.bool false)] [2, 3]
 (.seq (sr [fa 6 0 3, ld 7 6] [2, 3, 7]
 (.blk 0 (sr [bi 9 .eql 7 0, mv 8 9] [2, 3, 7, 8]
 (.cond (.t 8) (rt [la 10 18 2, fa 11 1 3, ld 12 11, fa 13 2 3, ld 14 13, ct 15 489 [10, 12, 14], ex 16 15 0, ex 17 15 1, mv 4 16, mv 5 17] [4, 5])
 (sr [bi 19 .eql 7 1, mv 18 19] [2, 3, 7, 18]
 (.cond (.t 18) (rt [la 20 18 2, fa 21 1 3, ld 22 21, ct 23 491 [20, 22], ex 24 23 0, ex 25 23 1, mv 4 24, mv 5 25] [4, 5])
 (sr [bi 27 .eql 7 2, mv 26 27] [3, 26]
 (.cond (.t 26) (sd [D (fa 28 2 3) 0 0, D (fa 30 1 3) 2 0, D (ld 29 28) 1 1, D (ld 31 30) 3 4, D (cl 32 522 [.t 31, .c (.int .i64 0), .c (.int .i64 1024)]) 4 12, D (mv 33 32) 5 28, D (G 33 true (fa 34 2 3)) 6 60, D (G 33 true (ld 35 34)) 7 124, D (G 33 true (cl 36 522 [.t 35, .c (.int .i64 1), .c (.int .i64 64)])) 8 252, D (pa 37 33 36) 9 508, D (mv 4 29) 10 511, D (mv 5 37) 11 2047] [4, 5]
 (.ret))
 (.skip)))))))))
 (rt [mc 4 (.int .i64 0), mc 5 (.bool false)] [4, 5]))
def f510 : VFunc := ⟨false, [.tmp 4, .tmp 5], b510, none⟩

def l520_0 : VCode := sr [bt 20 .lss 19 18] [1, 5, 18, 19, 20]
 (wh 20 0
 (.seq (.blk 1 (sr [mv 21 19, mv 7 21] [1, 5, 7, 18, 19]
 (sr [mv 22 1, mv 23 7, it 24 (.calld true (.t 22) [.t 23]), mv 25 5, ct 26 554 [24, 25]] [1, 5, 18, 19, 26]
 (.cond (.t 26) (rt [mc 4 (.int .i64 6)] [4])
 (.skip)))))
 (.reg [bi 27 .add 19 1, mv 19 27] [1, 5, 18, 19])))
def L520_0 : VCode := l520_0
/-- shunter/image.titled -/
def b520 : VCode := sr [mc 4 (.int .i64 0)] [0, 1]
 (sr [mv 8 1, mv 9 0, it 10 (.calld true (.t 8) [.t 9]), mv 5 10] [0, 1, 5]
 (.seq (sr [mv 11 5, it 12 (.build [.str [], .int .i64 0] [(0, 1, .c (.str [120])), (1, 1, .c (.int .i64 8))]), it 13 (.buildSl 2 [.t 12]), it 14 (.build [.str [], .sl 2 [] .nl, .int .i64 0, .int .i64 0, .int .i64 0, .int .i64 0] [(0, 1, .t 11), (1, 1, .t 13)]), ct 15 641 [14], mv 6 15] [0, 1, 5, 6]
 (sr [mv 16 6, bi 17 .neq 16 0] [0, 1, 5, 17]
 (.cond (.t 17) (rt [mc 4 (.int .i64 4)] [4])
 (.skip))))
 (.seq (sr [mv 18 0, mc 19 (.int .i64 0)] [1, 5, 18, 19]
 (.blk 0 (.loop [1, 5, 18, 19] (L520_0))))
 (rt [mc 4 (.int .i64 0)] [4]))))
def f520 : VFunc := ⟨false, [.tmp 4], b520, none⟩

/-- shunter/image.wants -/
def b521 : VCode := sr [mc 4 (.int .i64 0)] [0, 1]
 (.seq (sr [mv 5 0] [1, 5]
 (.cond (.t 5) (rt [mc 4 (.int .i64 0)] [4])
 (.skip)))
 (rt [mv 6 1, mv 4 6] [4]))
def f521 : VFunc := ⟨false, [.tmp 4], b521, none⟩

/-- shunter/image.within -/
def b522 : VCode := sr [mc 6 (.bool false)] [0, 1, 2]
 (rt [mv 7 0, mv 8 1, bt 9 .geq 7 8, mv 10 9, G 10 true (mv 11 0), G 10 true (mv 12 2), G 10 true (bt 13 .leq 11 12), pa 14 10 13, mv 6 14] [6])
def f522 : VFunc := ⟨false, [.tmp 6], b522, none⟩

/-- shunter/name.Alike -/
def b554 : VCode := sr [mc 4 (.bool false)] [0, 1]
 (rt [mv 5 0, ct 6 560 [5], mv 7 1, ct 8 560 [7], bt 9 .eql 6 8, mv 4 9] [4])
def f554 : VFunc := ⟨false, [.tmp 4], b554, none⟩

/-- shunter/name.Digit -/
def b556 : VCode := sr [mc 2 (.bool false)] [0]
 (rt [mv 3 0, cl 4 564 [.t 3, .c (.int .i32 48), .c (.int .i32 57)], mv 2 4] [2])
def f556 : VFunc := ⟨false, [.tmp 2], b556, none⟩

/-- shunter/name.Fold -/
def b557 : VCode := sr [mc 2 (.int .i32 0)] [0]
 (.seq (.blk 0 (sr [mv 4 0, ct 5 561 [4], nt 6 5, mv 3 6] [0, 3]
 (.cond (.t 3) (rt [mv 7 0, mv 2 7] [2])
 (sr [mv 9 0, cl 10 564 [.t 9, .c (.int .i32 65), .c (.int .i32 90)], mv 11 10, G 11 false (mv 12 0), G 11 false (cl 13 564 [.t 12, .c (.int .i32 192), .c (.int .i32 222)]), po 14 11 13, mv 15 14, G 15 false (mv 16 0), G 15 false (cl 17 564 [.t 16, .c (.int .i32 913), .c (.int .i32 937)]), po 18 15 17, mv 19 18, G 19 false (mv 20 0), G 19 false (cl 21 564 [.t 20, .c (.int .i32 1040), .c (.int .i32 1071)]), po 22 19 21, mv 8 22] [0, 8]
 (.cond (.t 8) (rt [mv 23 0, it 24 (.bin .add (.t 23) (.c (.int .i32 32))), mv 2 24] [2])
 (sr [mv 26 0, cl 27 564 [.t 26, .c (.int .i32 1024), .c (.int .i32 1039)], mv 25 27] [0, 25]
 (.cond (.t 25) (rt [mv 28 0, it 29 (.bin .add (.t 28) (.c (.int .i32 80))), mv 2 29] [2])
 (sr [mv 31 0, it 32 (.bin .eql (.t 31) (.c (.int .i32 962))), mv 30 32] [0, 30]
 (.cond (.t 30) (rt [mc 2 (.int .i32 963)] [2])
 (.skip))))))))))
 (rt [mv 33 0, mv 2 33] [2]))
def f557 : VFunc := ⟨false, [.tmp 2], b557, none⟩

/-- shunter/name.Index -/
def b558 : VCode := sr [mc 4 (.int .i64 0)] [0, 1]
 (sr [mv 6 1, ct 7 560 [6], al 5 (.str []), st 1 5 7] [0, 5]
 (rt [mv 8 0, it 9 (.mkfn 559 [] [.t 5]), ct 10 1203 [8, 9], mv 4 10] [4]))
def f558 : VFunc := ⟨false, [.tmp 4], b558, none⟩

/-- shunter/name.Index$1 -/
def b559 : VCode := sr [mc 3 (.bool false)] [0, 1]
 (sd [D (mv 4 0) 0 0, D (ld 6 1) 2 0, D (ct 5 560 [4]) 1 1, D (bt 7 .eql 5 6) 3 7, D (mv 3 7) 4 15] [3]
 (.ret))
def f559 : VFunc := ⟨false, [.tmp 3], b559, none⟩

/-- shunter/name.Letter -/
def b561 : VCode := sr [mc 2 (.bool false)] [0]
 (.seq (.blk 0 (sr [mv 4 0, it 5 (.bin .eql (.t 4) (.c (.int .i32 215))), mv 6 5, G 6 false (mv 7 0), G 6 false (it 8 (.bin .eql (.t 7) (.c (.int .i32 247)))), po 9 6 8, mv 10 9, G 10 false (mv 11 0), G 10 false (it 12 (.bin .eql (.t 11) (.c (.int .i32 930)))), po 13 10 12, mv 3 13] [0, 3]
 (.cond (.t 3) (rt [mc 2 (.bool false)] [2])
 (sr [mv 15 0, cl 16 564 [.t 15, .c (.int .i32 65), .c (.int .i32 90)], mv 17 16, G 17 false (mv 18 0), G 17 false (cl 19 564 [.t 18, .c (.int .i32 97), .c (.int .i32 122)]), po 20 17 19, mv 21 20, G 21 false (mv 22 0), G 21 false (it 23 (.bin .eql (.t 22) (.c (.int .i32 95)))), po 24 21 23, mv 14 24] [0, 14]
 (.cond (.t 14) (rt [mc 2 (.bool true)] [2])
 (.skip))))))
 (rt [mv 25 0, cl 26 564 [.t 25, .c (.int .i32 192), .c (.int .i32 591)], mv 27 26, G 27 false (mv 28 0), G 27 false (cl 29 564 [.t 28, .c (.int .i32 913), .c (.int .i32 969)]), po 30 27 29, mv 31 30, G 31 false (mv 32 0), G 31 false (cl 33 564 [.t 32, .c (.int .i32 1024), .c (.int .i32 1279)]), po 34 31 33, mv 2 34] [2]))
def f561 : VFunc := ⟨false, [.tmp 2], b561, none⟩

def l562_0 : VCode := sr [it 8 (.nxt (.t 7)), ex 9 8 0] [3, 7, 8, 9]
 (wh 9 0
 (.blk 1 (sr [ex 10 8 2, mv 5 10] [3, 5, 7]
 (.seq (sr [mv 11 5, ct 12 561 [11], nt 13 12, mv 14 13, G 14 true (mv 15 3), G 14 true (bi 16 .eql 15 0), G 14 true (mv 17 16), G 17 false (mv 18 5), G 17 false (ct 19 556 [18]), G 17 false (nt 20 19), G 17 false (mv 21 20), G 21 true (mv 22 5), G 21 true (it 23 (.bin .neq (.t 22) (.c (.int .i32 45)))), G 17 false (pa 24 21 23), G 17 false (mv 25 24), G 25 true (mv 26 5), G 25 true (it 27 (.bin .neq (.t 26) (.c (.int .i32 46)))), G 17 false (pa 28 25 27), G 14 true (po 29 17 28), pa 30 14 29] [3, 7, 30]
 (.cond (.t 30) (rt [mc 2 (.bool false)] [2])
 (.skip)))
 (.reg [mv 31 3, bi 32 .add 31 1, mv 3 32] [3, 7])))))
def L562_0 : VCode := l562_0
/-- shunter/name.May -/
def b562 : VCode := sr [mc 2 (.bool false)] [0]
 (sr [mc 3 (.int .i64 0)] [0, 3]
 (.seq (sr [mv 6 0, it 7 (.rng (.t 6))] [3, 7]
 (.blk 0 (.loop [3, 7] (L562_0))))
 (rt [mv 33 3, bi 34 .geq 33 1, mv 35 34, G 35 true (mv 36 3), G 35 true (bi 37 .leq 36 24), pa 38 35 37, mv 2 38] [2])))
def f562 : VFunc := ⟨false, [.tmp 2], b562, none⟩

/-- shunter/name.between -/
def b564 : VCode := sr [mc 6 (.bool false)] [0, 1, 2]
 (rt [mv 7 0, mv 8 1, bt 9 .geq 7 8, mv 10 9, G 10 true (mv 11 0), G 10 true (mv 12 2), G 10 true (bt 13 .leq 11 12), pa 14 10 13, mv 6 14] [6])
def f564 : VFunc := ⟨false, [.tmp 6], b564, none⟩

/-- shunter/shape.First -/
def b638 : VCode := sr [mc 4 (.int .i64 0), mc 5 (.bool false)] [0, 1]
 (.seq (sr [mv 6 1, mv 7 0, ln 8 7, bi 9 .sub 8 1, cl 10 652 [.t 6, .c (.int .i64 0), .t 9], nt 11 10, mv 12 11, G 12 false (mv 13 0), G 12 false (mv 14 1), G 12 false (ia 15 3 13 14), G 12 false (la 16 3 15), G 12 false (ct 17 649 [16]), G 12 false (bi 18 .eql 17 0), po 19 12 18] [0, 1, 19]
 (.cond (.t 19) (rt [mc 4 (.int .i64 0), mc 5 (.bool false)] [4, 5])
 (.skip)))
 (rt [mv 20 0, mv 21 1, it 22 (.slice 3 (.t 20) none (some (.t 21)) none), ct 23 645 [22], mv 4 23, mc 5 (.bool true)] [4, 5]))
def f638 : VFunc := ⟨false, [.tmp 4, .tmp 5], b638, none⟩

/-- shunter/shape.Header -/
def b639 : VCode := sr [al 6 (.agg [.str [], .sl 2 [] .nl, .int .i64 0, .int .i64 0, .int .i64 0, .int .i64 0]), mc 7 (.bool false)] [0, 1, 2, 6]
 (sr [mv 12 1, mv 13 2, ct 14 643 [12, 13], mv 11 14, ex 15 11 0, ex 16 11 1, ex 17 11 2, mv 8 15, mv 9 16, mv 10 17] [0, 1, 6, 8, 10]
 (.seq (sr [mv 18 10, nt 19 18, mv 20 19, G 20 false (mv 21 1), G 20 false (mv 22 8), G 20 false (ia 23 3 21 22), G 20 false (fa 24 1 23), G 20 false (ld 25 24), G 20 false (mv 26 0), G 20 false (ln 27 26), G 20 false (bi 28 .sub 27 1), G 20 false (cl 29 652 [.t 25, .c (.int .i64 0), .t 28]), G 20 false (nt 30 29), po 31 20 30] [0, 1, 6, 8, 31]
 (.cond (.t 31) (rt [it 32 (.build [.str [], .sl 2 [] .nl, .int .i64 0, .int .i64 0, .int .i64 0, .int .i64 0] []), i0 (.store 6 true (.t 6) (.t 32)), mc 7 (.bool false)] [6, 7])
 (.skip)))
 (rt [mv 33 0, mv 34 1, mv 35 8, ia 36 3 34 35, fa 37 1 36, ld 38 37, ia 39 6 33 38, la 40 6 39, i0 (.store 6 true (.t 6) (.t 40)), mc 7 (.bool true)] [6, 7])))
def f639 : VFunc := ⟨false, [.cell 6 true 6, .tmp 7], b639, none⟩

def l640_0 : VCode := sr [bt 14 .lss 13 12] [0, 1, 5, 11, 12, 13, 14]
 (wh 14 0
 (.seq (.blk 1 (sr [ia 15 3 11 13, la 16 3 15, al 7 (.agg [.str [], .int .i64 0, .int .i64 0]), st 3 7 16] [0, 1, 5, 7, 11, 12, 13]
 (.seq (.blk 2 (sr [fa 18 0 7, ld 19 18, ct 20 650 [19], nt 21 20, mv 17 21] [0, 1, 5, 7, 11, 12, 13, 17]
 (.cond (.t 17) (rt [mc 4 (.int .i64 4)] [4])
 (sr [mv 23 5, fa 24 0 7, ld 25 24, ct 26 558 [23, 25], bi 27 .geq 26 0, mv 22 27] [0, 1, 5, 7, 11, 12, 13, 22]
 (.cond (.t 22) (rt [mc 4 (.int .i64 6)] [4])
 (sr [fa 29 1 7, ld 30 29, mv 31 0, ln 32 31, bi 33 .sub 32 1, cl 34 652 [.t 30, .c (.int .i64 0), .t 33], nt 35 34, mv 28 35] [0, 1, 5, 7, 11, 12, 13, 28]
 (.cond (.t 28) (rt [mc 4 (.int .i64 5)] [4])
 (sr [fa 37 2 7, ld 38 37, cl 39 652 [.t 38, .c (.int .i64 0), .c (.int .i64 4)], nt 40 39, mv 36 40] [0, 1, 5, 7, 11, 12, 13, 36]
 (.cond (.t 36) (rt [mc 4 (.int .i64 7)] [4])
 (.skip))))))))))
 (.reg [mv 41 5, fa 42 0 7, ld 43 42, it 44 (.buildSl 1 [.t 43]), it 45 (.app 1 16 false (.t 41) (.t 44)), mv 5 45] [0, 1, 5, 11, 12, 13]))))
 (.reg [bi 46 .add 13 1, mv 13 46] [0, 1, 5, 11, 12, 13])))
def L640_0 : VCode := l640_0
/-- shunter/shape.Insts -/
def b640 : VCode := sr [mc 4 (.int .i64 0)] [0, 1]
 (.seq (sr [mv 8 1, ln 9 8, bi 10 .gtr 9 16] [0, 1, 10]
 (.cond (.t 10) (rt [mc 4 (.int .i64 2)] [4])
 (.skip)))
 (sr [it 5 (.nilacc 1)] [0, 1, 5]
 (.seq (sr [mv 11 1, ln 12 11, mc 13 (.int .i64 0)] [0, 1, 5, 11, 12, 13]
 (.blk 0 (.loop [0, 1, 5, 11, 12, 13] (L640_0))))
 (.seq (sr [mv 47 1, ct 48 645 [47], bi 49 .gtr 48 32] [49]
 (.cond (.t 49) (rt [mc 4 (.int .i64 8)] [4])
 (.skip)))
 (rt [mc 4 (.int .i64 0)] [4])))))
def f640 : VFunc := ⟨false, [.tmp 4], b640, none⟩

/-- shunter/shape.May -/
def b641 : VCode := sr [bx 1 0, mc 2 (.int .i64 0)] [1]
 (.seq (.blk 0 (sr [fa 5 0 1, ld 6 5, ct 7 650 [6], nt 8 7, mv 4 8] [1, 4]
 (.cond (.t 4) (rt [mc 2 (.int .i64 4)] [2])
 (sr [fa 10 1 1, ld 11 10, ln 12 11, bi 13 .gtr 12 16, mv 9 13] [1, 9]
 (.cond (.t 9) (rt [mc 2 (.int .i64 2)] [2])
 (sr [fa 15 1 1, ld 16 15, ln 17 16, bi 18 .eql 17 0, mv 14 18] [1, 14]
 (.cond (.t 14) (rt [mc 2 (.int .i64 5)] [2])
 (.skip))))))))
 (.seq (sr [fa 19 1 1, ld 20 19, ct 21 648 [20], mv 3 21] [1, 3]
 (sr [mv 22 3, bi 23 .neq 22 0] [1, 3, 23]
 (.cond (.t 23) (rt [mv 24 3, mv 2 24] [2])
 (.skip))))
 (.seq (sr [la 25 6 1, ct 26 651 [25], nt 27 26] [27]
 (.cond (.t 27) (rt [mc 2 (.int .i64 7)] [2])
 (.skip)))
 (rt [mc 2 (.int .i64 0)] [2]))))
def f641 : VFunc := ⟨false, [.tmp 2], b641, none⟩

def l643_0 : VCode := sr [bt 14 .lss 13 12] [1, 11, 12, 13, 14]
 (wh 14 0
 (.seq (.blk 1 (sr [mv 15 13, ia 16 3 11 13, la 17 3 16, al 8 (.agg [.str [], .int .i64 0, .int .i64 0]), mv 7 15, st 3 8 17] [1, 7, 8, 11, 12, 13]
 (.seq (sr [mv 18 1, la 19 3 8, ct 20 649 [19], bt 21 .lss 18 20] [1, 7, 8, 11, 12, 13, 21]
 (.cond (.t 21) (rt [mv 22 7, mv 23 1, mv 4 22, mv 5 23, mc 6 (.bool true)] [4, 5, 6])
 (.skip)))
 (.reg [mv 24 1, la 25 3 8, ct 26 649 [25], bt 27 .sub 24 26, mv 1 27] [1, 11, 12, 13]))))
 (.reg [bi 28 .add 13 1, mv 13 28] [1, 11, 12, 13])))
def L643_0 : VCode := l643_0
/-- shunter/shape.Of -/
def b643 : VCode := sr [mc 4 (.int .i64 0), mc 5 (.int .i64 0), mc 6 (.bool false)] [0, 1]
 (.seq (sr [mv 9 1, bi 10 .lss 9 0] [0, 1, 10]
 (.cond (.t 10) (rt [mc 4 (.int .i64 0), mc 5 (.int .i64 0), mc 6 (.bool false)] [4, 5, 6])
 (.skip)))
 (.seq (sr [mv 11 0, ln 12 11, mc 13 (.int .i64 0)] [1, 11, 12, 13]
 (.blk 0 (.loop [1, 11, 12, 13] (L643_0))))
 (rt [mc 4 (.int .i64 0), mc 5 (.int .i64 0), mc 6 (.bool false)] [4, 5, 6])))
def f643 : VFunc := ⟨false, [.tmp 4, .tmp 5, .tmp 6], b643, none⟩

/-- shunter/shape.Offset -/
def b644 : VCode := sr [bx 2 0, mc 4 (.int .i64 0), mc 5 (.bool false)] [1, 2]
 (.seq (sr [la 6 6 2, ct 7 641 [6], bi 8 .neq 7 0, mv 9 8, G 9 false (mv 10 1), G 9 false (fa 11 1 2), G 9 false (ld 12 11), G 9 false (ln 13 12), G 9 false (bi 14 .sub 13 1), G 9 false (cl 15 652 [.t 10, .c (.int .i64 0), .t 14]), G 9 false (nt 16 15), po 17 9 16] [1, 2, 17]
 (.cond (.t 17) (rt [mc 4 (.int .i64 0), mc 5 (.bool false)] [4, 5])
 (.skip)))
 (rt [la 18 6 2, mv 19 1, ct 20 647 [18, 19], ex 21 20 0, ex 22 20 1, mv 4 21, mv 5 22] [4, 5]))
def f644 : VFunc := ⟨false, [.tmp 4, .tmp 5], b644, none⟩

def l645_0 : VCode := sr [bt 9 .lss 8 7] [3, 6, 7, 8, 9]
 (wh 9 0
 (.seq (.blk 1 (sr [ia 10 3 6 8, la 11 3 10, al 5 (.agg [.str [], .int .i64 0, .int .i64 0]), st 3 5 11] [3, 5, 6, 7, 8]
 (.reg [mv 12 3, la 13 3 5, ct 14 649 [13], bt 15 .add 12 14, mv 3 15] [3, 6, 7, 8])))
 (.reg [bi 16 .add 8 1, mv 8 16] [3, 6, 7, 8])))
def L645_0 : VCode := l645_0
/-- shunter/shape.Slots -/
def b645 : VCode := sr [mc 2 (.int .i64 0)] [0]
 (sr [mc 3 (.int .i64 0)] [0, 3]
 (.seq (sr [mv 6 0, ln 7 6, mc 8 (.int .i64 0)] [3, 6, 7, 8]
 (.blk 0 (.loop [3, 6, 7, 8] (L645_0))))
 (rt [mv 17 3, mv 2 17] [2])))
def f645 : VFunc := ⟨false, [.tmp 2], b645, none⟩

def l647_0 : VCode := sr [bt 10 .lss 9 8] [2, 6, 8, 9, 10]
 (wh 10 0
 (.seq (.blk 1 (sr [mv 11 9, mv 7 11] [2, 6, 7, 8, 9]
 (.reg [mv 12 6, fa 13 1 2, ld 14 13, mv 15 7, ia 16 2 14 15, fa 17 1 16, ld 18 17, bt 19 .add 12 18, mv 6 19] [2, 6, 8, 9])))
 (.reg [bi 20 .add 9 1, mv 9 20] [2, 6, 8, 9])))
def L647_0 : VCode := l647_0
/-- shunter/shape.ahead -/
def b647 : VCode := sr [bx 2 0, mc 4 (.int .i64 0), mc 5 (.bool false)] [1, 2]
 (sr [mc 6 (.int .i64 0)] [1, 2, 6]
 (.seq (sr [mv 8 1, mc 9 (.int .i64 0)] [2, 6, 8, 9]
 (.blk 0 (.loop [2, 6, 8, 9] (L647_0))))
 (rt [mv 21 6, mv 4 21, mc 5 (.bool true)] [4, 5])))
def f647 : VFunc := ⟨false, [.tmp 4, .tmp 5], b647, none⟩

def l648_0 : VCode := sr [bt 10 .lss 9 8] [3, 4, 7, 8, 9, 10]
 (wh 10 0
 (.seq (.blk 1 (sr [ia 11 2 7 9, la 12 2 11, al 6 (.agg [.str [], .int .i64 0]), st 2 6 12] [3, 4, 6, 7, 8, 9]
 (.seq (.blk 2 (sr [fa 14 0 6, ld 15 14, ct 16 650 [15], nt 17 16, mv 13 17] [3, 4, 6, 7, 8, 9, 13]
 (.cond (.t 13) (rt [mc 2 (.int .i64 4)] [2])
 (sr [mv 19 3, fa 20 0 6, ld 21 20, ct 22 558 [19, 21], bi 23 .geq 22 0, mv 18 23] [3, 4, 6, 7, 8, 9, 18]
 (.cond (.t 18) (rt [mc 2 (.int .i64 6)] [2])
 (sr [fa 25 1 6, ld 26 25, cl 27 652 [.t 26, .c (.int .i64 1), .c (.int .i64 128)], nt 28 27, mv 24 28] [3, 4, 6, 7, 8, 9, 24]
 (.cond (.t 24) (rt [mc 2 (.int .i64 9)] [2])
 (.skip))))))))
 (sr [mv 29 3, fa 30 0 6, ld 31 30, it 32 (.buildSl 1 [.t 31]), it 33 (.app 1 16 false (.t 29) (.t 32)), mv 3 33] [3, 4, 6, 7, 8, 9]
 (.reg [mv 34 4, fa 35 1 6, ld 36 35, bt 37 .add 34 36, mv 4 37] [3, 4, 7, 8, 9])))))
 (.reg [bi 38 .add 9 1, mv 9 38] [3, 4, 7, 8, 9])))
def L648_0 : VCode := l648_0
/-- shunter/shape.fields -/
def b648 : VCode := sr [mc 2 (.int .i64 0)] [0]
 (sr [it 3 (.nilacc 1)] [0, 3]
 (sr [mc 4 (.int .i64 0)] [0, 3, 4]
 (.seq (sr [mv 7 0, ln 8 7, mc 9 (.int .i64 0)] [3, 4, 7, 8, 9]
 (.blk 0 (.loop [3, 4, 7, 8, 9] (L648_0))))
 (.seq (sr [mv 39 4, bi 40 .rem 39 8, bi 41 .neq 40 0] [41]
 (.cond (.t 41) (rt [mc 2 (.int .i64 9)] [2])
 (.skip)))
 (rt [mc 2 (.int .i64 0)] [2])))))
def f648 : VFunc := ⟨false, [.tmp 2], b648, none⟩

/-- shunter/shape.many -/
def b649 : VCode := sr [bx 1 0, mc 2 (.int .i64 0)] [1]
 (.seq (sr [fa 3 2 1, ld 4 3, cl 5 652 [.t 4, .c (.int .i64 0), .c (.int .i64 4)], nt 6 5] [1, 6]
 (.cond (.t 6) (rt [mc 2 (.int .i64 0)] [2])
 (.skip)))
 (rt [fa 7 2 1, ld 8 7, it 9 (.mx [.t 8, .c (.int .i64 1)]), mv 2 9] [2]))
def f649 : VFunc := ⟨false, [.tmp 2], b649, none⟩

/-- shunter/shape.plain -/
def b650 : VCode := sr [mc 2 (.bool false)] [0]
 (rt [mv 3 0, ct 4 562 [3], mv 5 4, G 5 true (mv 6 0), G 5 true (cl 7 1234 [.t 6, .c (.str [46])]), G 5 true (nt 8 7), pa 9 5 8, mv 2 9] [2])
def f650 : VFunc := ⟨false, [.tmp 2], b650, none⟩

/-- shunter/shape.varies -/
def b651 : VCode := sr [bx 1 0, mc 2 (.bool false)] [1]
 (.seq (sr [fa 3 2 1, ld 4 3, bi 5 .eql 4 0] [1, 5]
 (.cond (.t 5) (rt [fa 6 3 1, ld 7 6, bi 8 .eql 7 0, mv 9 8, G 9 true (fa 10 4 1), G 9 true (ld 11 10), G 9 true (bi 12 .eql 11 0), pa 13 9 12, mv 14 13, G 14 true (fa 15 5 1), G 14 true (ld 16 15), G 14 true (bi 17 .eql 16 0), pa 18 14 17, mv 2 18] [2])
 (.skip)))
 (rt [fa 19 2 1, ld 20 19, cl 21 652 [.t 20, .c (.int .i64 1), .c (.int .i64 64)], mv 22 21, G 22 true (fa 23 3 1), G 22 true (ld 24 23), G 22 true (fa 25 1 1), G 22 true (ld 26 25), G 22 true (ln 27 26), G 22 true (bi 28 .sub 27 1), G 22 true (cl 29 652 [.t 24, .c (.int .i64 0), .t 28]), pa 30 22 29, mv 31 30, G 31 true (fa 32 1 1), G 31 true (ld 33 32), G 31 true (fa 34 3 1), G 31 true (ld 35 34), G 31 true (ia 36 2 33 35), G 31 true (fa 37 1 36), G 31 true (ld 38 37), G 31 true (bi 39 .leq 38 16), pa 40 31 39, mv 41 40, G 41 true (fa 42 4 1), G 41 true (ld 43 42), G 41 true (cl 44 652 [.t 43, .c (.int .i64 1), .c (.int .i64 64)]), pa 45 41 44, mv 46 45, G 46 true (fa 47 5 1), G 46 true (ld 48 47), G 46 true (cl 49 652 [.t 48, .c (.int .i64 0), .c (.int .i64 4096)]), pa 50 46 49, mv 2 50] [2]))
def f651 : VFunc := ⟨false, [.tmp 2], b651, none⟩

/-- shunter/shape.within -/
def b652 : VCode := sr [mc 6 (.bool false)] [0, 1, 2]
 (rt [mv 7 0, mv 8 1, bt 9 .geq 7 8, mv 10 9, G 10 true (mv 11 0), G 10 true (mv 12 2), G 10 true (bt 13 .leq 11 12), pa 14 10 13, mv 6 14] [6])
def f652 : VFunc := ⟨false, [.tmp 6], b652, none⟩

def l655_0 : VCode := .seq (sr [mv 168 9, fa 169 7 1, ld 170 169, ln 171 170, bt 172 .lss 168 171] [1, 9, 172]
 (.cond (.t 172) (.skip)
 (.exit 9)))
 (.seq (.blk 10 (sr [fa 175 7 1, ld 176 175, mv 177 9, ia 178 6 176 177, la 179 6 178, al 10 (.agg [.int .i64 0, .int .i64 0, .sl 6 [] .nl, .sl 3 [] .nl, .int .i64 0, .int .i64 0]), i0 (.store 6 true (.t 10) (.t 179))] [1, 9, 10]
 (sr [fa 180 4 10, ld 181 180, mv 182 9, bt 183 .leq 181 182, mv 184 183, G 184 false (fa 185 4 10), G 184 false (ld 186 185), G 184 false (fa 187 7 1), G 184 false (ld 188 187), G 184 false (ln 189 188), G 184 false (bt 190 .gtr 186 189), po 191 184 190, mv 192 191, G 192 false (fa 193 0 10), G 192 false (ld 194 193), G 192 false (bi 195 .eql 194 0), G 192 false (mv 196 195), G 196 true (fa 197 1 10), G 196 true (ld 198 197), G 196 true (bi 199 .lss 198 0), G 196 true (mv 200 199), G 200 false (fa 201 1 10), G 200 false (ld 202 201), G 200 false (fa 203 6 1), G 200 false (ld 204 203), G 200 false (ln 205 204), G 200 false (bt 206 .geq 202 205), G 196 true (po 207 200 206), G 192 false (pa 208 196 207), po 209 192 208] [1, 9, 209]
 (.cond (.t 209) (rt [mc 2 (.bool false)] [2])
 (.skip)))))
 (.reg [mv 173 9, bi 174 .add 173 1, mv 9 174] [1, 9]))
def L655_0 : VCode := l655_0
def l655_1 : VCode := .seq (sr [mv 130 8, fa 131 4 1, ld 132 131, mv 133 7, ia 134 5 132 133, fa 135 3 134, ld 136 135, ln 137 136, bt 138 .lss 130 137] [1, 7, 8, 138]
 (.cond (.t 138) (.skip)
 (.exit 7)))
 (.seq (.blk 8 (sd [D (fa 141 4 1) 0 0, D (mv 143 7) 2 0, D (mv 147 8) 6 0, D (ld 142 141) 1 1, D (ia 144 5 142 143) 3 7, D (fa 145 3 144) 4 15, D (ld 146 145) 5 31, D (ia 148 7 146 147) 7 127, D (fa 149 6 148) 8 255, D (ld 150 149) 9 511, D (bi 151 .lss 150 (-2)) 10 1023, D (mv 152 151) 11 2047, D (G 152 false (fa 153 4 1)) 12 4095, D (G 152 false (mv 155 7)) 14 4095, D (G 152 false (mv 159 8)) 18 4095, D (G 152 false (fa 163 4 1)) 22 4095, D (G 152 false (ld 154 153)) 13 8191, D (G 152 false (ia 156 5 154 155)) 15 32767, D (G 152 false (fa 157 3 156)) 16 65535, D (G 152 false (ld 158 157)) 17 131071, D (G 152 false (ia 160 7 158 159)) 19 524287, D (G 152 false (fa 161 6 160)) 20 1048575, D (G 152 false (ld 162 161)) 21 2097151, D (G 152 false (ld 164 163)) 23 4198399, D (G 152 false (ln 165 164)) 24 12587007, D (G 152 false (bt 166 .geq 162 165)) 25 33554431, D (po 167 152 166) 26 67108863] [1, 7, 8, 167]
 (.cond (.t 167) (rt [mc 2 (.bool false)] [2])
 (.skip))))
 (.reg [mv 139 8, bi 140 .add 139 1, mv 8 140] [1, 7, 8]))
def L655_1 : VCode := l655_1
def l655_2 : VCode := .seq (sr [mv 123 7, fa 124 4 1, ld 125 124, ln 126 125, bt 127 .lss 123 126] [1, 7, 127]
 (.cond (.t 127) (.skip)
 (.exit 5)))
 (.seq (.blk 6 (sr [mc 8 (.int .i64 0)] [1, 7, 8]
 (.blk 7 (.loop [1, 7, 8] (L655_1)))))
 (.reg [mv 128 7, bi 129 .add 128 1, mv 7 129] [1, 7]))
def L655_2 : VCode := l655_2
def l655_3 : VCode := .seq (sr [mv 27 4, fa 28 5 1, ld 29 28, mv 30 3, ia 31 3 29 30, fa 32 2 31, ld 33 32, ln 34 33, bt 35 .lss 27 34] [1, 3, 4, 35]
 (.cond (.t 35) (.skip)
 (.exit 2)))
 (.seq (.blk 3 (sr [fa 38 5 1, ld 39 38, mv 40 3, ia 41 3 39 40, fa 42 2 41, ld 43 42, mv 44 4, ia 45 6 43 44, la 46 6 45, al 5 (.agg [.int .i64 0, .int .i64 0, .int .i64 0, .int .i64 0, .int .u64 0, .int .u64 0]), st 6 5 46] [1, 3, 4, 5]
 (sr [mc 6 (.bool true)] [1, 3, 4, 5, 6]
 (.seq (sr [fa 47 0 5, ld 48 47] [1, 3, 4, 5, 6, 48]
 (.blk 4 (.seq (sr [bi 50 .eql 48 1, mv 49 50] [1, 3, 4, 5, 6, 48, 49]
 (.cond (.t 49) (.skip)
 (.reg [bi 51 .eql 48 22, mv 49 51] [1, 3, 4, 5, 6, 48, 49])))
 (.cond (.t 49) (.reg [la 53 18 1, fa 54 1 5, ld 55 54, fa 56 2 5, ld 57 56, ct 58 489 [53, 55, 57], mv 52 58, ex 59 52 0, ex 60 52 1, mv 6 60] [1, 3, 4, 6])
 (.seq (sr [bi 62 .eql 48 2, mv 61 62] [1, 3, 4, 5, 6, 48, 61]
 (.cond (.t 61) (.skip)
 (.reg [bi 63 .eql 48 23, mv 61 63] [1, 3, 4, 5, 6, 48, 61])))
 (.cond (.t 61) (.reg [la 65 18 1, fa 66 1 5, ld 67 66, ct 68 491 [65, 67], mv 64 68, ex 69 64 0, ex 70 64 1, mv 6 70] [1, 3, 4, 6])
 (sr [bi 72 .eql 48 3, mv 71 72] [1, 3, 4, 5, 6, 48, 71]
 (.cond (.t 71) (.drw [D (fa 73 1 5) 0 0, D (ld 74 73) 1 1, D (bi 75 .geq 74 0) 2 3, D (mv 76 75) 3 7, D (G 76 true (fa 77 1 5)) 4 15, D (G 76 true (fa 79 5 1)) 6 15, D (G 76 true (mv 81 3)) 8 15, D (G 76 true (ld 78 77)) 5 31, D (G 76 true (ld 80 79)) 7 79, D (G 76 true (ia 82 3 80 81)) 9 463, D (G 76 true (fa 83 1 82)) 10 975, D (G 76 true (ld 84 83)) 11 1999, D (G 76 true (ln 85 84)) 12 4047, D (G 76 true (bt 86 .lss 78 85)) 13 8191, D (pa 87 76 86) 14 16383, D (mv 6 87) 15 32767] [1, 3, 4, 6])
 (.seq (sr [bi 89 .eql 48 5, mv 88 89] [1, 3, 4, 5, 6, 48, 88]
 (.cond (.t 88) (.skip)
 (.reg [bi 90 .eql 48 24, mv 88 90] [1, 3, 4, 5, 6, 48, 88])))
 (.cond (.t 88) (.reg [fa 91 1 5, ld 92 91, bi 93 .geq 92 0, mv 94 93, G 94 true (fa 95 1 5), G 94 true (ld 96 95), G 94 true (fa 97 12 1), G 94 true (ld 98 97), G 94 true (ln 99 98), G 94 true (bt 100 .lss 96 99), pa 101 94 100, mv 6 101] [1, 3, 4, 6])
 (.seq (sr [bi 103 .eql 48 31, mv 102 103] [1, 3, 4, 5, 6, 48, 102]
 (.cond (.t 102) (.skip)
 (.reg [bi 104 .eql 48 32, mv 102 104] [1, 3, 4, 5, 6, 102])))
 (.cond (.t 102) (.drw [D (fa 105 1 5) 0 0, D (mv 107 4) 2 0, D (ld 106 105) 1 1, D (bt 108 .gtr 106 107) 3 7, D (mv 109 108) 4 15, D (G 109 true (fa 110 1 5)) 5 31, D (G 109 true (fa 112 5 1)) 7 31, D (G 109 true (mv 114 3)) 9 31, D (G 109 true (ld 111 110)) 6 63, D (G 109 true (ld 113 112)) 8 159, D (G 109 true (ia 115 3 113 114)) 10 927, D (G 109 true (fa 116 2 115)) 11 1951, D (G 109 true (ld 117 116)) 12 3999, D (G 109 true (ln 118 117)) 13 8095, D (G 109 true (bt 119 .leq 111 118)) 14 16383, D (pa 120 109 119) 15 32767, D (mv 6 120) 16 65535] [1, 3, 4, 6])
 (.skip)))))))))))))
 (sr [mv 121 6, nt 122 121] [1, 3, 4, 122]
 (.cond (.t 122) (rt [mc 2 (.bool false)] [2])
 (.skip)))))))
 (.reg [mv 36 4, bi 37 .add 36 1, mv 4 37] [1, 3, 4]))
def L655_3 : VCode := l655_3
def l655_4 : VCode := .seq (sr [mv 20 3, fa 21 5 1, ld 22 21, ln 23 22, bt 24 .lss 20 23] [1, 3, 24]
 (.cond (.t 24) (.skip)
 (.exit 0)))
 (.seq (.blk 1 (sr [mc 4 (.int .i64 0)] [1, 3, 4]
 (.blk 2 (.loop [1, 3, 4] (L655_3)))))
 (.reg [mv 25 3, bi 26 .add 25 1, mv 3 26] [1, 3]))
def L655_4 : VCode := l655_4
/-- shunter/shunterlaw10.ImageRefers -/
def b655 : VCode := sr [bx 1 0, mc 2 (.bool false)] [1]
 (.seq (sr [la 11 18 1, ct 12 658 [11], nt 13 12, mv 14 13, G 14 false (la 15 18 1), G 14 false (ct 16 481 [15]), G 14 false (it 17 (.isnil .i true (.t 16))), po 18 14 17] [1, 18]
 (.cond (.t 18) (rt [ct 19 659 [], mv 2 19] [2])
 (.skip)))
 (.seq (sr [mc 3 (.int .i64 0)] [1, 3]
 (.blk 0 (.loop [1, 3] (L655_4))))
 (.seq (sr [mc 7 (.int .i64 0)] [1, 7]
 (.blk 5 (.loop [1, 7] (L655_2))))
 (.seq (sr [mc 9 (.int .i64 0)] [1, 9]
 (.blk 9 (.loop [1, 9] (L655_0))))
 (rt [fa 210 0 1, ld 211 210, lt 212 211, bi 213 .gtr 212 0, mv 214 213, G 214 true (fa 215 15 1), G 214 true (ld 216 215), G 214 true (bi 217 .geq 216 1), pa 218 214 217, mv 219 218, G 219 true (ct 220 659 []), pa 221 219 220, mv 2 221] [2])))))
def f655 : VFunc := ⟨false, [.tmp 2], b655, none⟩

def l657_0 : VCode := .seq (sr [mv 4 3, mv 5 0, ln 6 5, bt 7 .lss 4 6] [0, 3, 7]
 (.cond (.t 7) (.skip)
 (.exit 0)))
 (.seq (.blk 1 (sr [mv 10 0, mv 11 3, ia 12 1 10 11, ld 13 12, lt 14 13, bi 15 .gtr 14 100] [0, 3, 15]
 (.cond (.t 15) (rt [mc 2 (.bool false)] [2])
 (.skip))))
 (.reg [mv 8 3, bi 9 .add 8 1, mv 3 9] [0, 3]))
def L657_0 : VCode := l657_0
/-- shunter/shunterlaw10.brief -/
def b657 : VCode := sr [mc 2 (.bool false)] [0]
 (.seq (sr [mc 3 (.int .i64 0)] [0, 3]
 (.blk 0 (.loop [0, 3] (L657_0))))
 (rt [mv 16 0, ln 17 16, bi 18 .leq 17 70, mv 2 18] [2]))
def f657 : VFunc := ⟨false, [.tmp 2], b657, none⟩

def l658_0 : VCode := .seq (sr [mv 224 12, fa 225 8 1, ld 226 225, ln 227 226, bt 228 .lss 224 227, mv 229 228, G 229 true (mv 230 12), G 229 true (bi 231 .lss 230 300), pa 232 229 231] [1, 4, 12, 232]
 (.cond (.t 232) (.skip)
 (.exit 16)))
 (.seq (.blk 17 (.drw [D (mv 235 4) 0 0, D (fa 236 8 1) 1 0, D (mv 238 12) 3 0, D (fa 244 8 1) 9 0, D (mv 246 12) 11 0, D (ld 237 236) 2 2, D (ia 239 6 237 238) 4 14, D (fa 240 2 239) 5 30, D (ld 241 240) 6 62, D (ln 242 241) 7 126, D (bt 243 .add 235 242) 8 255, D (ld 245 244) 10 512, D (ia 247 6 245 246) 12 3584, D (fa 248 3 247) 13 7680, D (ld 249 248) 14 15872, D (ln 250 249) 15 32256, D (bt 251 .add 243 250) 16 65535, D (mv 4 251) 17 131071] [1, 4, 12]))
 (.reg [mv 233 12, bi 234 .add 233 1, mv 12 234] [1, 4, 12]))
def L658_0 : VCode := l658_0
def l658_1 : VCode := .seq (sr [mv 196 11, fa 197 7 1, ld 198 197, ln 199 198, bt 200 .lss 196 199, mv 201 200, G 201 true (mv 202 11), G 201 true (bi 203 .lss 202 300), pa 204 201 203] [1, 4, 11, 204]
 (.cond (.t 204) (.skip)
 (.exit 14)))
 (.seq (.blk 15 (.drw [D (mv 207 4) 0 0, D (fa 208 7 1) 1 0, D (mv 210 11) 3 0, D (fa 216 7 1) 9 0, D (mv 218 11) 11 0, D (ld 209 208) 2 2, D (ia 211 6 209 210) 4 14, D (fa 212 2 211) 5 30, D (ld 213 212) 6 62, D (ln 214 213) 7 126, D (bt 215 .add 207 214) 8 255, D (ld 217 216) 10 512, D (ia 219 6 217 218) 12 3584, D (fa 220 3 219) 13 7680, D (ld 221 220) 14 15872, D (ln 222 221) 15 32256, D (bt 223 .add 215 222) 16 65535, D (mv 4 223) 17 131071] [1, 4, 11]))
 (.reg [mv 205 11, bi 206 .add 205 1, mv 11 206] [1, 4, 11]))
def L658_1 : VCode := l658_1
def l658_2 : VCode := .seq (sr [mv 163 10, fa 164 6 1, ld 165 164, ln 166 165, bt 167 .lss 163 166] [1, 4, 10, 167]
 (.cond (.t 167) (.skip)
 (.exit 12)))
 (.seq (.blk 13 (.drw [D (mv 170 4) 0 0, D (fa 171 6 1) 1 0, D (mv 173 10) 3 0, D (fa 179 6 1) 9 0, D (mv 181 10) 11 0, D (fa 187 6 1) 17 0, D (mv 189 10) 19 0, D (ld 172 171) 2 2, D (ia 174 7 172 173) 4 14, D (fa 175 2 174) 5 30, D (ld 176 175) 6 62, D (ln 177 176) 7 126, D (bt 178 .add 170 177) 8 255, D (ld 180 179) 10 512, D (ia 182 7 180 181) 12 3584, D (fa 183 3 182) 13 7680, D (ld 184 183) 14 15872, D (ln 185 184) 15 32256, D (bt 186 .add 178 185) 16 65535, D (ld 188 187) 18 131072, D (ia 190 7 188 189) 20 917504, D (fa 191 4 190) 21 1966080, D (fa 192 1 191) 22 4063232, D (ld 193 192) 23 8257536, D (ln 194 193) 24 16646144, D (bt 195 .add 186 194) 25 33554431, D (mv 4 195) 26 67108863] [1, 4, 10]))
 (.reg [mv 168 10, bi 169 .add 168 1, mv 10 169] [1, 4, 10]))
def L658_2 : VCode := l658_2
def l658_3 : VCode := .seq (sr [mv 139 9, fa 140 5 1, ld 141 140, ln 142 141, bt 143 .lss 139 142] [1, 4, 9, 143]
 (.cond (.t 143) (.skip)
 (.exit 10)))
 (.seq (.blk 11 (.drw [D (mv 146 4) 0 0, D (fa 147 5 1) 1 0, D (mv 149 9) 3 0, D (fa 155 5 1) 9 0, D (mv 157 9) 11 0, D (ld 148 147) 2 2, D (ia 150 3 148 149) 4 14, D (fa 151 1 150) 5 30, D (ld 152 151) 6 62, D (ln 153 152) 7 126, D (bt 154 .add 146 153) 8 255, D (ld 156 155) 10 512, D (ia 158 3 156 157) 12 3584, D (fa 159 2 158) 13 7680, D (ld 160 159) 14 15872, D (ln 161 160) 15 32256, D (bt 162 .add 154 161) 16 65535, D (mv 4 162) 17 131071] [1, 4, 9]))
 (.reg [mv 144 9, bi 145 .add 144 1, mv 9 145] [1, 4, 9]))
def L658_3 : VCode := l658_3
def l658_4 : VCode := .seq (sr [mv 107 8, fa 108 4 1, ld 109 108, ln 110 109, bt 111 .lss 107 110] [1, 4, 8, 111]
 (.cond (.t 111) (.skip)
 (.exit 8)))
 (.seq (.blk 9 (.drw [D (mv 114 4) 0 0, D (fa 115 4 1) 1 0, D (mv 117 8) 3 0, D (fa 123 4 1) 9 0, D (mv 125 8) 11 0, D (fa 131 4 1) 17 0, D (mv 133 8) 19 0, D (ld 116 115) 2 2, D (ia 118 5 116 117) 4 14, D (fa 119 1 118) 5 30, D (ld 120 119) 6 62, D (ln 121 120) 7 126, D (bt 122 .add 114 121) 8 255, D (ld 124 123) 10 512, D (ia 126 5 124 125) 12 3584, D (fa 127 2 126) 13 7680, D (ld 128 127) 14 15872, D (ln 129 128) 15 32256, D (bt 130 .add 122 129) 16 65535, D (ld 132 131) 18 131072, D (ia 134 5 132 133) 20 917504, D (fa 135 3 134) 21 1966080, D (ld 136 135) 22 4063232, D (ln 137 136) 23 8257536, D (bt 138 .add 130 137) 24 16777215, D (mv 4 138) 25 33554431] [1, 4, 8]))
 (.reg [mv 112 8, bi 113 .add 112 1, mv 8 113] [1, 4, 8]))
def L658_4 : VCode := l658_4
def l658_5 : VCode := .seq (sr [mv 88 7, fa 89 2 1, ld 90 89, ln 91 90, bt 92 .lss 88 91, mv 93 92, G 93 true (mv 94 7), G 93 true (bi 95 .lss 94 300), pa 96 93 95] [1, 4, 7, 96]
 (.cond (.t 96) (.skip)
 (.exit 6)))
 (.seq (.blk 7 (sr [fa 99 2 1, ld 100 99, mv 101 7, ia 102 3 100 101, fa 103 0 102, ld 104 103, lt 105 104, bi 106 .gtr 105 100] [1, 4, 7, 106]
 (.cond (.t 106) (rt [mc 2 (.bool false)] [2])
 (.skip))))
 (.reg [mv 97 7, bi 98 .add 97 1, mv 7 98] [1, 4, 7]))
def L658_5 : VCode := l658_5
def l658_6 : VCode := .seq (sr [mv 61 6, fa 62 1 1, ld 63 62, mv 64 5, ia 65 6 63 64, fa 66 1 65, ld 67 66, ln 68 67, bt 69 .lss 61 68, mv 70 69, G 70 true (mv 71 6), G 70 true (bi 72 .lss 71 300), pa 73 70 72] [1, 4, 5, 6, 73]
 (.cond (.t 73) (.skip)
 (.exit 4)))
 (.seq (.blk 5 (sr [fa 76 1 1, ld 77 76, mv 78 5, ia 79 6 77 78, fa 80 1 79, ld 81 80, mv 82 6, ia 83 2 81 82, fa 84 0 83, ld 85 84, lt 86 85, bi 87 .gtr 86 100] [1, 4, 5, 6, 87]
 (.cond (.t 87) (rt [mc 2 (.bool false)] [2])
 (.skip))))
 (.reg [mv 74 6, bi 75 .add 74 1, mv 6 75] [1, 4, 5, 6]))
def L658_6 : VCode := l658_6
def l658_7 : VCode := .seq (sr [mv 45 5, fa 46 1 1, ld 47 46, ln 48 47, bt 49 .lss 45 48] [1, 4, 5, 49]
 (.cond (.t 49) (.skip)
 (.exit 2)))
 (.seq (.blk 3 (sr [mv 52 4, fa 53 1 1, ld 54 53, mv 55 5, ia 56 6 54 55, fa 57 1 56, ld 58 57, ln 59 58, bt 60 .add 52 59, mv 4 60] [1, 4, 5]
 (sr [mc 6 (.int .i64 0)] [1, 4, 5, 6]
 (.blk 4 (.loop [1, 4, 5, 6] (L658_6))))))
 (.reg [mv 50 5, bi 51 .add 50 1, mv 5 51] [1, 4, 5]))
def L658_7 : VCode := l658_7
def l658_8 : VCode := .seq (sr [mv 13 3, bi 14 .lss 13 15] [1, 3, 14]
 (.cond (.t 14) (.skip)
 (.exit 0)))
 (.seq (.blk 1 (sr [la 17 18 1, mv 18 3, ct 19 836 [17, 18], ct 20 657 [19], nt 21 20] [1, 3, 21]
 (.cond (.t 21) (rt [mc 2 (.bool false)] [2])
 (.skip))))
 (.reg [mv 15 3, bi 16 .add 15 1, mv 3 16] [1, 3]))
def L658_8 : VCode := l658_8
/-- shunter/shunterlaw10.light -/
def b658 : VCode := sr [bx 1 0, mc 2 (.bool false)] [1]
 (.seq (sr [mc 3 (.int .i64 0)] [1, 3]
 (.blk 0 (.loop [1, 3] (L658_8))))
 (sr [fa 22 2 1, ld 23 22, ln 24 23, fa 25 7 1, ld 26 25, ln 27 26, bt 28 .add 24 27, fa 29 8 1, ld 30 29, ln 31 30, bt 32 .add 28 31, fa 33 9 1, ld 34 33, ln 35 34, bt 36 .add 32 35, fa 37 10 1, ld 38 37, ln 39 38, bt 40 .add 36 39, fa 41 11 1, ld 42 41, ln 43 42, bt 44 .add 40 43, mv 4 44] [1, 4]
 (.seq (sr [mc 5 (.int .i64 0)] [1, 4, 5]
 (.blk 2 (.loop [1, 4, 5] (L658_7))))
 (.seq (sr [mc 7 (.int .i64 0)] [1, 4, 7]
 (.blk 6 (.loop [1, 4, 7] (L658_5))))
 (.seq (sr [mc 8 (.int .i64 0)] [1, 4, 8]
 (.blk 8 (.loop [1, 4, 8] (L658_4))))
 (.seq (sr [mc 9 (.int .i64 0)] [1, 4, 9]
 (.blk 10 (.loop [1, 4, 9] (L658_3))))
 (.seq (sr [mc 10 (.int .i64 0)] [1, 4, 10]
 (.blk 12 (.loop [1, 4, 10] (L658_2))))
 (.seq (sr [mc 11 (.int .i64 0)] [1, 4, 11]
 (.blk 14 (.loop [1, 4, 11] (L658_1))))
 (.seq (sr [mc 12 (.int .i64 0)] [1, 4, 12]
 (.blk 16 (.loop [1, 4, 12] (L658_0))))
 (rt [mv 252 4, bi 253 .leq 252 900, mv 254 253, G 254 true (fa 255 0 1), G 254 true (ld 256 255), G 254 true (lt 257 256), G 254 true (bi 258 .leq 257 200), pa 259 254 258, mv 2 259] [2]))))))))))
def f658 : VFunc := ⟨false, [.tmp 2], b658, none⟩

/-- shunter/shunterlaw10.lives -/
def b659 : VCode := sr [mc 0 (.bool false)] []
 (rt [it 1 (.build [.str [], .sl 2 [] .nl, .sl 3 [] .nl, .sl 7 [] .nl, .int .i64 0] [(0, 1, .c (.str [115])), (4, 1, .c (.int .i64 (-1)))]), it 2 (.buildSl 5 [.t 1]), it 3 (.build [.str [], .sl 6 [] .nl, .sl 3 [] .nl, .sl 2 [] .nl, .sl 5 [] .nl, .sl 3 [] .nl, .sl 7 [] .nl, .sl 6 [] .nl, .sl 6 [] .nl, .sl 1 [] .nl, .sl 2 [] .nl, .sl 2 [] .nl, .sl 3 [] .nl, .sl 2 [] .nl, .sl 4 [] .nl, .int .i64 0, .int .i64 0, .int .i64 0] [(0, 1, .c (.str [109])), (4, 1, .t 2), (15, 1, .c (.int .i64 1)), (16, 1, .c (.int .i64 1))]), ct 4 481 [3], it 5 (.isnil .i false (.t 4)), mv 6 5, G 6 true (it 7 (.build [.str [], .sl 6 [] .nl, .sl 3 [] .nl, .sl 2 [] .nl, .sl 5 [] .nl, .sl 3 [] .nl, .sl 7 [] .nl, .sl 6 [] .nl, .sl 6 [] .nl, .sl 1 [] .nl, .sl 2 [] .nl, .sl 2 [] .nl, .sl 3 [] .nl, .sl 2 [] .nl, .sl 4 [] .nl, .int .i64 0, .int .i64 0, .int .i64 0] [])), G 6 true (ct 8 481 [7]), G 6 true (it 9 (.isnil .i true (.t 8))), pa 10 6 9, mv 0 10] [0])
def f659 : VFunc := ⟨false, [.tmp 0], b659, none⟩

def l836_0 : VCode := .seq (sr [mv 154 13, fa 155 14 2, ld 156 155, ln 157 156, bt 158 .lss 154 157, mv 159 158, G 159 true (mv 160 1), G 159 true (bi 161 .eql 160 14), pa 162 159 161] [1, 2, 5, 13, 162]
 (.cond (.t 162) (.skip)
 (.exit 14)))
 (.seq (.blk 15 (.reg [mv 165 5, fa 166 14 2, ld 167 166, mv 168 13, ia 169 4 167 168, fa 170 0 169, ld 171 170, it 172 (.buildSl 1 [.t 171]), it 173 (.app 1 16 false (.t 165) (.t 172)), mv 5 173] [1, 2, 5, 13]))
 (.reg [mv 163 13, bi 164 .add 163 1, mv 13 164] [1, 2, 5, 13]))
def L836_0 : VCode := l836_0
def l836_1 : VCode := .seq (sr [mv 134 12, fa 135 13 2, ld 136 135, ln 137 136, bt 138 .lss 134 137, mv 139 138, G 139 true (mv 140 1), G 139 true (bi 141 .eql 140 13), pa 142 139 141] [1, 2, 5, 12, 142]
 (.cond (.t 142) (.skip)
 (.exit 12)))
 (.seq (.blk 13 (.reg [mv 145 5, fa 146 13 2, ld 147 146, mv 148 12, ia 149 2 147 148, fa 150 0 149, ld 151 150, it 152 (.buildSl 1 [.t 151]), it 153 (.app 1 16 false (.t 145) (.t 152)), mv 5 153] [1, 2, 5, 12]))
 (.reg [mv 143 12, bi 144 .add 143 1, mv 12 144] [1, 2, 5, 12]))
def L836_1 : VCode := l836_1
def l836_2 : VCode := .seq (sr [mv 114 11, fa 115 12 2, ld 116 115, ln 117 116, bt 118 .lss 114 117, mv 119 118, G 119 true (mv 120 1), G 119 true (bi 121 .eql 120 12), pa 122 119 121] [1, 2, 5, 11, 122]
 (.cond (.t 122) (.skip)
 (.exit 10)))
 (.seq (.blk 11 (.reg [mv 125 5, fa 126 12 2, ld 127 126, mv 128 11, ia 129 3 127 128, fa 130 0 129, ld 131 130, it 132 (.buildSl 1 [.t 131]), it 133 (.app 1 16 false (.t 125) (.t 132)), mv 5 133] [1, 2, 5, 11]))
 (.reg [mv 123 11, bi 124 .add 123 1, mv 11 124] [1, 2, 5, 11]))
def L836_2 : VCode := l836_2
def l836_3 : VCode := .seq (sr [mv 94 10, fa 95 6 2, ld 96 95, ln 97 96, bt 98 .lss 94 97, mv 99 98, G 99 true (mv 100 1), G 99 true (bi 101 .eql 100 6), pa 102 99 101] [1, 2, 5, 10, 102]
 (.cond (.t 102) (.skip)
 (.exit 8)))
 (.seq (.blk 9 (.reg [mv 105 5, fa 106 6 2, ld 107 106, mv 108 10, ia 109 7 107 108, fa 110 0 109, ld 111 110, it 112 (.buildSl 1 [.t 111]), it 113 (.app 1 16 false (.t 105) (.t 112)), mv 5 113] [1, 2, 5, 10]))
 (.reg [mv 103 10, bi 104 .add 103 1, mv 10 104] [1, 2, 5, 10]))
def L836_3 : VCode := l836_3
def l836_4 : VCode := .seq (sr [mv 74 9, fa 75 5 2, ld 76 75, ln 77 76, bt 78 .lss 74 77, mv 79 78, G 79 true (mv 80 1), G 79 true (bi 81 .eql 80 5), pa 82 79 81] [1, 2, 5, 9, 82]
 (.cond (.t 82) (.skip)
 (.exit 6)))
 (.seq (.blk 7 (.reg [mv 85 5, fa 86 5 2, ld 87 86, mv 88 9, ia 89 3 87 88, fa 90 0 89, ld 91 90, it 92 (.buildSl 1 [.t 91]), it 93 (.app 1 16 false (.t 85) (.t 92)), mv 5 93] [1, 2, 5, 9]))
 (.reg [mv 83 9, bi 84 .add 83 1, mv 9 84] [1, 2, 5, 9]))
def L836_4 : VCode := l836_4
def l836_5 : VCode := .seq (sr [mv 54 8, fa 55 4 2, ld 56 55, ln 57 56, bt 58 .lss 54 57, mv 59 58, G 59 true (mv 60 1), G 59 true (bi 61 .eql 60 4), pa 62 59 61] [1, 2, 5, 8, 62]
 (.cond (.t 62) (.skip)
 (.exit 4)))
 (.seq (.blk 5 (.reg [mv 65 5, fa 66 4 2, ld 67 66, mv 68 8, ia 69 5 67 68, fa 70 0 69, ld 71 70, it 72 (.buildSl 1 [.t 71]), it 73 (.app 1 16 false (.t 65) (.t 72)), mv 5 73] [1, 2, 5, 8]))
 (.reg [mv 63 8, bi 64 .add 63 1, mv 8 64] [1, 2, 5, 8]))
def L836_5 : VCode := l836_5
def l836_6 : VCode := .seq (sr [mv 34 7, fa 35 3 2, ld 36 35, ln 37 36, bt 38 .lss 34 37, mv 39 38, G 39 true (mv 40 1), G 39 true (bi 41 .eql 40 3), pa 42 39 41] [1, 2, 5, 7, 42]
 (.cond (.t 42) (.skip)
 (.exit 2)))
 (.seq (.blk 3 (.reg [mv 45 5, fa 46 3 2, ld 47 46, mv 48 7, ia 49 2 47 48, fa 50 0 49, ld 51 50, it 52 (.buildSl 1 [.t 51]), it 53 (.app 1 16 false (.t 45) (.t 52)), mv 5 53] [1, 2, 5, 7]))
 (.reg [mv 43 7, bi 44 .add 43 1, mv 7 44] [1, 2, 5, 7]))
def L836_6 : VCode := l836_6
def l836_7 : VCode := .seq (sr [mv 14 6, fa 15 1 2, ld 16 15, ln 17 16, bt 18 .lss 14 17, mv 19 18, G 19 true (mv 20 1), G 19 true (bi 21 .eql 20 1), pa 22 19 21] [1, 2, 5, 6, 22]
 (.cond (.t 22) (.skip)
 (.exit 0)))
 (.seq (.blk 1 (.reg [mv 25 5, fa 26 1 2, ld 27 26, mv 28 6, ia 29 6 27 28, fa 30 0 29, ld 31 30, it 32 (.buildSl 1 [.t 31]), it 33 (.app 1 16 false (.t 25) (.t 32)), mv 5 33] [1, 2, 5, 6]))
 (.reg [mv 23 6, bi 24 .add 23 1, mv 6 24] [1, 2, 5, 6]))
def L836_7 : VCode := l836_7
/-- shunter/shunterref10.Titles -/
def b836 : VCode := sr [bx 2 0, mc 4 (.sl 1 [] .nl)] [1, 2]
 (sr [it 5 (.nilacc 1)] [1, 2, 5]
 (.seq (sr [mc 6 (.int .i64 0)] [1, 2, 5, 6]
 (.blk 0 (.loop [1, 2, 5, 6] (L836_7))))
 (.seq (sr [mc 7 (.int .i64 0)] [1, 2, 5, 7]
 (.blk 2 (.loop [1, 2, 5, 7] (L836_6))))
 (.seq (sr [mc 8 (.int .i64 0)] [1, 2, 5, 8]
 (.blk 4 (.loop [1, 2, 5, 8] (L836_5))))
 (.seq (sr [mc 9 (.int .i64 0)] [1, 2, 5, 9]
 (.blk 6 (.loop [1, 2, 5, 9] (L836_4))))
 (.seq (sr [mc 10 (.int .i64 0)] [1, 2, 5, 10]
 (.blk 8 (.loop [1, 2, 5, 10] (L836_3))))
 (.seq (sr [mc 11 (.int .i64 0)] [1, 2, 5, 11]
 (.blk 10 (.loop [1, 2, 5, 11] (L836_2))))
 (.seq (sr [mc 12 (.int .i64 0)] [1, 2, 5, 12]
 (.blk 12 (.loop [1, 2, 5, 12] (L836_1))))
 (.seq (sr [mc 13 (.int .i64 0)] [1, 2, 5, 13]
 (.blk 14 (.loop [1, 2, 5, 13] (L836_0))))
 (rt [mv 174 5, mv 4 174] [4]))))))))))
def f836 : VFunc := ⟨false, [.tmp 4], b836, none⟩

/-- shunter/vec.And -/
def b1082 : VCode := sr [bx 2 0, bx 3 1, al 4 (.agg [.int .i64 0, .int .u64 0, .int .u64 0]), mc 5 (.int .i64 0)] [2, 3, 4]
 (rt [la 6 3 2, la 7 3 3, cl 8 1113 [.t 6, .t 7, .c (.func 1130 [] [])], ex 9 8 0, ex 10 8 1, st 3 4 9, mv 5 10] [4, 5])
def f1082 : VFunc := ⟨false, [.cell 4 true 3, .tmp 5], b1082, none⟩

/-- shunter/vec.Cut -/
def b1085 : VCode := sr [bx 3 1, al 4 (.agg [.int .i64 0, .int .u64 0, .int .u64 0]), mc 5 (.int .i64 0)] [0, 3, 4]
 (.seq (sr [mv 6 0, ct 7 1114 [6], nt 8 7] [0, 3, 4, 8]
 (.cond (.t 8) (rt [it 9 (.build [.int .i64 0, .int .u64 0, .int .u64 0] []), st 3 4 9, mc 5 (.int .i64 9)] [4, 5])
 (.skip)))
 (sd [D (mv 10 0) 0 0, D (mv 12 0) 2 0, D (la 11 2 3) 1 0, D (ct 13 1137 [12]) 3 4, D (ct 14 1130 [11, 13]) 4 14, D (ct 15 1111 [10, 14]) 5 31, D (st 3 4 15) 6 63, D (mc 5 (.int .i64 0)) 7 127] [4, 5]
 (.ret)))
def f1085 : VFunc := ⟨false, [.cell 4 true 3, .tmp 5], b1085, none⟩

/-- shunter/vec.May -/
def b1090 : VCode := sr [bx 1 0, mc 2 (.bool false)] [1]
 (sd [D (fa 3 0 1) 0 0, D (ld 4 3) 1 1, D (ct 5 1114 [4]) 2 3, D (mv 6 5) 3 7, D (G 6 true (fa 10 0 1)) 7 15, D (G 6 true (la 7 3 1)) 4 15, D (G 6 true (ld 11 10)) 8 143, D (G 6 true (ct 8 1108 [7])) 5 31, D (G 6 true (ct 9 1134 [8])) 6 63, D (G 6 true (bt 12 .leq 9 11)) 9 511, D (pa 13 6 12) 10 1023, D (mv 2 13) 11 2047] [2]
 (.ret))
def f1090 : VFunc := ⟨false, [.tmp 2], b1090, none⟩

/-- shunter/vec.Word -/
def b1108 : VCode := sr [bx 1 0, al 2 (.agg [.int .u64 0, .int .u64 0])] [1, 2]
 (rt [fa 3 1 1, ld 4 3, fa 5 2 1, ld 6 5, it 7 (.build [.int .u64 0, .int .u64 0] [(0, 1, .t 4), (1, 1, .t 6)]), st 2 2 7] [2])
def f1108 : VFunc := ⟨false, [.cell 2 true 2], b1108, none⟩

/-- shunter/vec.row -/
def b1111 : VCode := sr [bx 3 1, al 4 (.agg [.int .i64 0, .int .u64 0, .int .u64 0])] [0, 3, 4]
 (rt [mv 5 0, fa 6 0 3, ld 7 6, fa 8 1 3, ld 9 8, it 10 (.build [.int .i64 0, .int .u64 0, .int .u64 0] [(0, 1, .t 5), (1, 1, .t 7), (2, 1, .t 9)]), st 3 4 10] [4])
def f1111 : VFunc := ⟨false, [.cell 4 true 3], b1111, none⟩

/-- shunter/vec.two -/
def b1113 : VCode := sr [bx 3 0, bx 4 1, al 6 (.agg [.int .i64 0, .int .u64 0, .int .u64 0]), mc 7 (.int .i64 0)] [2, 3, 4, 6]
 (.seq (.blk 0 (sr [la 9 3 3, ct 10 1090 [9], nt 11 10, mv 12 11, G 12 false (la 13 3 4), G 12 false (ct 14 1090 [13]), G 12 false (nt 15 14), po 16 12 15, mv 8 16] [2, 3, 4, 6, 8]
 (.cond (.t 8) (rt [it 17 (.build [.int .i64 0, .int .u64 0, .int .u64 0] []), st 3 6 17, mc 7 (.int .i64 1)] [6, 7])
 (sr [fa 19 0 3, ld 20 19, fa 21 0 4, ld 22 21, bt 23 .neq 20 22, mv 18 23] [2, 3, 4, 6, 18]
 (.cond (.t 18) (rt [it 24 (.build [.int .i64 0, .int .u64 0, .int .u64 0] []), st 3 6 24, mc 7 (.int .i64 9)] [6, 7])
 (.skip))))))
 (sd [D (fa 25 0 3) 0 0, D (mv 27 2) 2 0, D (ld 26 25) 1 1, D (la 28 3 3) 3 0, D (la 30 3 4) 5 0, D (ct 29 1108 [28]) 4 8, D (ct 31 1108 [30]) 6 56, D (it 32 (.calld true (.t 27) [.t 29, .t 31])) 7 124, D (ct 33 1085 [26, 32]) 8 255, D (ex 34 33 0) 9 511, D (ex 35 33 1) 10 511, D (st 3 6 34) 11 2047, D (mv 7 35) 12 4095] [6, 7]
 (.ret)))
def f1113 : VFunc := ⟨false, [.cell 6 true 3, .tmp 7], b1113, none⟩

/-- shunter/vec.width -/
def b1114 : VCode := sr [mc 2 (.bool false)] [0]
 (rt [mv 3 0, bi 4 .geq 3 1, mv 5 4, G 5 true (mv 6 0), G 5 true (bi 7 .leq 6 128), pa 8 5 7, mv 2 8] [2])
def f1114 : VFunc := ⟨false, [.tmp 2], b1114, none⟩

/-- shunter/word.And -/
def b1130 : VCode := sr [bx 2 0, bx 3 1, al 4 (.agg [.int .u64 0, .int .u64 0])] [2, 3, 4]
 (rt [fa 5 0 2, ld 6 5, fa 7 0 3, ld 8 7, bt 9 .and 6 8, fa 10 1 2, ld 11 10, fa 12 1 3, ld 13 12, bt 14 .and 11 13, it 15 (.build [.int .u64 0, .int .u64 0] [(0, 1, .t 9), (1, 1, .t 14)]), st 2 4 15] [4])
def f1130 : VFunc := ⟨false, [.cell 4 true 2], b1130, none⟩

/-- shunter/word.Len -/
def b1134 : VCode := sr [bx 1 0, mc 2 (.int .i64 0)] [1]
 (.seq (sr [fa 3 0 1, ld 4 3, bu 5 .gtr 4 0] [1, 5]
 (.cond (.t 5) (rt [fa 6 0 1, ld 7 6, ct 8 374 [7], it 9 (.bin .add (.c (.int .i64 64)) (.t 8)), mv 2 9] [2])
 (.skip)))
 (rt [fa 10 1 1, ld 11 10, ct 12 374 [11], mv 2 12] [2]))
def f1134 : VFunc := ⟨false, [.tmp 2], b1134, none⟩

/-- shunter/word.Not -/
def b1136 : VCode := sr [bx 1 0, al 2 (.agg [.int .u64 0, .int .u64 0])] [1, 2]
 (rt [fa 3 0 1, ld 4 3, it 5 (.un .xor (.t 4)), fa 6 1 1, ld 7 6, it 8 (.un .xor (.t 7)), it 9 (.build [.int .u64 0, .int .u64 0] [(0, 1, .t 5), (1, 1, .t 8)]), st 2 2 9] [2])
def f1136 : VFunc := ⟨false, [.cell 2 true 2], b1136, none⟩

/-- shunter/word.Ones -/
def b1137 : VCode := sr [al 2 (.agg [.int .u64 0, .int .u64 0])] [0, 2]
 (.seq (.blk 0 (sr [mv 6 0, bi 7 .leq 6 0, mv 5 7] [0, 2, 5]
 (.cond (.t 5) (rt [it 8 (.build [.int .u64 0, .int .u64 0] []), st 2 2 8] [2])
 (sr [mv 10 0, bi 11 .geq 10 128, mv 9 11] [0, 2, 9]
 (.cond (.t 9) (rt [it 12 (.build [.int .u64 0, .int .u64 0] []), ct 13 1136 [12], st 2 2 13] [2])
 (.skip))))))
 (sr [it 15 (.build [.int .u64 0, .int .u64 0] [(0, 1, .c (.int .u64 0)), (1, 1, .c (.int .u64 1))]), mv 16 0, ct 17 1140 [15, 16], it 18 (.build [.int .u64 0, .int .u64 0] [(0, 1, .c (.int .u64 0)), (1, 1, .c (.int .u64 1))]), ct 19 1142 [17, 18], mv 14 19, ex 20 14 0, ex 21 14 1, al 3 (.agg [.int .u64 0, .int .u64 0]), st 2 3 20, mv 4 21] [2, 3]
 (rt [la 22 2 3, st 2 2 22] [2])))
def f1137 : VFunc := ⟨false, [.cell 2 true 2], b1137, none⟩

/-- shunter/word.Shl -/
def b1140 : VCode := sr [bx 2 0, al 4 (.agg [.int .u64 0, .int .u64 0])] [1, 2, 4]
 (.seq (.blk 0 (sr [mv 6 1, bi 7 .leq 6 (-128), mv 8 7, G 8 false (mv 9 1), G 8 false (bi 10 .geq 9 128), po 11 8 10, mv 5 11] [1, 2, 4, 5]
 (.cond (.t 5) (rt [it 12 (.build [.int .u64 0, .int .u64 0] []), st 2 4 12] [4])
 (sr [mv 14 1, bi 15 .lss 14 0, mv 13 15] [1, 2, 4, 13]
 (.cond (.t 13) (rt [la 16 2 2, mv 17 1, it 18 (.un .neg (.t 17)), ct 19 1141 [16, 18], st 2 4 19] [4])
 (sr [mv 21 1, bi 22 .eql 21 0, mv 20 22] [1, 2, 4, 20]
 (.cond (.t 20) (rt [la 23 2 2, st 2 4 23] [4])
 (sr [mv 25 1, bi 26 .geq 25 64, mv 24 26] [1, 2, 4, 24]
 (.cond (.t 24) (rt [fa 27 1 2, ld 28 27, mv 29 1, bi 30 .sub 29 64, bt 31 .shl 28 30, it 32 (.build [.int .u64 0, .int .u64 0] [(0, 1, .t 31), (1, 1, .c (.int .u64 0))]), st 2 4 32] [4])
 (.skip))))))))))
 (sd [D (fa 33 0 2) 0 0, D (mv 35 1) 2 0, D (fa 37 1 2) 4 0, D (mv 39 1) 6 0, D (it 40 (.bin .sub (.c (.int .i64 64)) (.t 39))) 7 64, D (fa 43 1 2) 10 0, D (mv 45 1) 12 0, D (ld 34 33) 1 1, D (bt 36 .shl 34 35) 3 7, D (ld 38 37) 5 16, D (bt 41 .shr 38 40) 8 240, D (bt 42 .or 36 41) 9 511, D (ld 44 43) 11 1024, D (bt 46 .shl 44 45) 13 7168, D (it 47 (.build [.int .u64 0, .int .u64 0] [(0, 1, .t 42), (1, 1, .t 46)])) 14 16383, D (st 2 4 47) 15 32767] [4]
 (.ret)))
def f1140 : VFunc := ⟨false, [.cell 4 true 2], b1140, none⟩

/-- shunter/word.Shr -/
def b1141 : VCode := sr [bx 2 0, al 4 (.agg [.int .u64 0, .int .u64 0])] [1, 2, 4]
 (.seq (.blk 0 (sr [mv 6 1, bi 7 .leq 6 (-128), mv 8 7, G 8 false (mv 9 1), G 8 false (bi 10 .geq 9 128), po 11 8 10, mv 5 11] [1, 2, 4, 5]
 (.cond (.t 5) (rt [it 12 (.build [.int .u64 0, .int .u64 0] []), st 2 4 12] [4])
 (sr [mv 14 1, bi 15 .lss 14 0, mv 13 15] [1, 2, 4, 13]
 (.cond (.t 13) (rt [la 16 2 2, mv 17 1, it 18 (.un .neg (.t 17)), ct 19 1140 [16, 18], st 2 4 19] [4])
 (sr [mv 21 1, bi 22 .eql 21 0, mv 20 22] [1, 2, 4, 20]
 (.cond (.t 20) (rt [la 23 2 2, st 2 4 23] [4])
 (sr [mv 25 1, bi 26 .geq 25 64, mv 24 26] [1, 2, 4, 24]
 (.cond (.t 24) (rt [fa 27 0 2, ld 28 27, mv 29 1, bi 30 .sub 29 64, bt 31 .shr 28 30, it 32 (.build [.int .u64 0, .int .u64 0] [(0, 1, .c (.int .u64 0)), (1, 1, .t 31)]), st 2 4 32] [4])
 (.skip))))))))))
 (sd [D (fa 33 0 2) 0 0, D (mv 35 1) 2 0, D (fa 37 1 2) 4 0, D (mv 39 1) 6 0, D (fa 41 0 2) 8 0, D (mv 43 1) 10 0, D (it 44 (.bin .sub (.c (.int .i64 64)) (.t 43))) 11 1024, D (ld 34 33) 1 1, D (bt 36 .shr 34 35) 3 7, D (ld 38 37) 5 16, D (bt 40 .shr 38 39) 7 112, D (ld 42 41) 9 256, D (bt 45 .shl 42 44) 12 3840, D (bt 46 .or 40 45) 13 8176, D (it 47 (.build [.int .u64 0, .int .u64 0] [(0, 1, .t 36), (1, 1, .t 46)])) 14 16383, D (st 2 4 47) 15 32767] [4]
 (.ret)))
def f1141 : VFunc := ⟨false, [.cell 4 true 2], b1141, none⟩

/-- shunter/word.Sub -/
def b1142 : VCode := sr [bx 2 0, bx 3 1, al 4 (.agg [.int .u64 0, .int .u64 0]), mc 5 (.bool false)] [2, 3, 4]
 (sr [fa 11 1 2, ld 12 11, fa 13 1 3, ld 14 13, cl 15 378 [.t 12, .t 14, .c (.int .u64 0)], mv 10 15, ex 16 10 0, ex 17 10 1, mv 6 16, mv 7 17] [2, 3, 4, 6, 7]
 (sr [fa 19 0 2, ld 20 19, fa 21 0 3, ld 22 21, mv 23 7, ct 24 378 [20, 22, 23], mv 18 24, ex 25 18 0, ex 26 18 1, mv 8 25, mv 9 26] [4, 6, 8, 9]
 (rt [mv 27 8, mv 28 6, it 29 (.build [.int .u64 0, .int .u64 0] [(0, 1, .t 27), (1, 1, .t 28)]), mv 30 9, bu 31 .gtr 30 0, st 2 4 29, mv 5 31] [4, 5])))
def f1142 : VFunc := ⟨false, [.cell 4 true 2, .tmp 5], b1142, none⟩

/-- slices.Contains[[]int,int] -/
def b1169 : VCode := sr [mc 4 (.bool false)] [0, 1]
 (rt [mv 5 0, mv 6 1, ct 7 1204 [5, 6], bi 8 .geq 7 0, mv 4 8] [4])
def f1169 : VFunc := ⟨false, [.tmp 4], b1169, none⟩

def l1203_0 : VCode := sr [bt 9 .lss 8 7] [0, 1, 7, 8, 9]
 (wh 9 0
 (.seq (.blk 1 (sr [mv 10 8, mv 5 10] [0, 1, 5, 7, 8]
 (sr [mv 11 1, mv 12 0, mv 13 5, ia 14 1 12 13, ld 15 14, it 16 (.calld true (.t 11) [.t 15])] [0, 1, 5, 7, 8, 16]
 (.cond (.t 16) (rt [mv 17 5, mv 4 17] [4])
 (.skip)))))
 (.reg [bi 18 .add 8 1, mv 8 18] [0, 1, 7, 8])))
def L1203_0 : VCode := l1203_0
/-- slices.IndexFunc[[]string,string] -/
def b1203 : VCode := sr [mc 4 (.int .i64 0)] [0, 1]
 (.seq (sr [mv 6 0, ln 7 6, mc 8 (.int .i64 0)] [0, 1, 7, 8]
 (.blk 0 (.loop [0, 1, 7, 8] (L1203_0))))
 (rt [mc 4 (.int .i64 (-1))] [4]))
def f1203 : VFunc := ⟨false, [.tmp 4], b1203, none⟩

def l1204_0 : VCode := sr [bt 9 .lss 8 7] [0, 1, 7, 8, 9]
 (wh 9 0
 (.seq (.blk 1 (sr [mv 10 8, mv 5 10] [0, 1, 5, 7, 8]
 (sr [mv 11 1, mv 12 0, mv 13 5, ia 14 1 12 13, ld 15 14, bt 16 .eql 11 15] [0, 1, 5, 7, 8, 16]
 (.cond (.t 16) (rt [mv 17 5, mv 4 17] [4])
 (.skip)))))
 (.reg [bi 18 .add 8 1, mv 8 18] [0, 1, 7, 8])))
def L1204_0 : VCode := l1204_0
/-- slices.Index[[]int,int] -/
def b1204 : VCode := sr [mc 4 (.int .i64 0)] [0, 1]
 (.seq (sr [mv 6 0, ln 7 6, mc 8 (.int .i64 0)] [0, 1, 7, 8]
 (.blk 0 (.loop [0, 1, 7, 8] (L1204_0))))
 (rt [mc 4 (.int .i64 (-1))] [4]))
def f1204 : VFunc := ⟨false, [.tmp 4], b1204, none⟩


end Go.VE.Un
