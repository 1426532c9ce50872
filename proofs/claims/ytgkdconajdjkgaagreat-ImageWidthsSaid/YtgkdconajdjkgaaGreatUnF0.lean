/- The texts of functions, for the evaluator: printed by a program. -/
import Derived.Test.YtgkdconajdjkgaaGreatVeExts
namespace Go.VE.Un
set_option maxRecDepth 100000

def l109_0 : VCode := .seq (.reg [⟨some 34, .bin .lss (.t 33) (.t 32), none⟩] [2, 5, 31, 32, 33, 34])
 (.seq (.cond (.t 34) (.skip)
 (.exit 0))
 (.seq (.blk 1 (.seq (.reg [⟨some 35, .iaddr 1 (.t 31) (.t 33), none⟩, ⟨some 36, .load false 1 (.t 35), none⟩, ⟨some 8, .mv (.t 36), none⟩] [2, 5, 8, 31, 32, 33])
 (.seq (.reg [⟨some 37, .mv (.t 8), none⟩, ⟨some 38, .call 522 [.t 37, .c (.int .i64 1), .c (.int .i64 128)], none⟩, ⟨some 39, .un .not (.t 38), none⟩] [2, 5, 31, 32, 33, 39])
 (.cond (.t 39) (.seq (.reg [⟨some 4, .mv (.c (.int .i64 9)), none⟩] [4])
 (.ret))
 (.skip)))))
 (.reg [⟨some 40, .bin .add (.t 33) (.c (.int .i64 1)), none⟩, ⟨some 33, .mv (.t 40), none⟩] [2, 5, 31, 32, 33])))
def L109_0 : VCode := l109_0
/-- (*shunter/image.checker).action -/
def b109 : VCode := .seq (.reg [⟨some 2, .box (.t 0), none⟩, ⟨some 4, .mv (.c (.int .i64 0)), none⟩] [1, 2])
 (.seq (.reg [⟨some 9, .load false 1 (.t 2), none⟩, ⟨some 10, .nilchk (.t 9), none⟩, ⟨some 11, .faddr 0 (.t 10), none⟩, ⟨some 12, .faddr 5 (.t 11), none⟩, ⟨some 13, .load false 1 (.t 12), none⟩, ⟨some 14, .mv (.t 1), none⟩, ⟨some 15, .iaddr 3 (.t 13) (.t 14), none⟩, ⟨some 16, .load true 3 (.t 15), none⟩, ⟨some 5, .alloc (.agg [.str [], .sl 1 [] .nl, .sl 6 [] .nl]), none⟩, ⟨none, .store 3 true (.t 5) (.t 16), none⟩] [1, 2, 5])
 (.seq (.seq (.drw [⟨⟨some 17, .mv (.t 1), none⟩, 0, 0, []⟩, ⟨⟨some 18, .mkfn 110 [] [.t 2], none⟩, 1, 0, []⟩, ⟨⟨some 20, .faddr 1 (.t 5), none⟩, 3, 0, []⟩, ⟨⟨some 21, .load false 1 (.t 20), none⟩, 4, 8, []⟩, ⟨⟨some 22, .len false (.t 21), none⟩, 5, 24, []⟩, ⟨⟨some 23, .bin .leq (.t 22) (.c (.int .i64 8)), none⟩, 6, 56, []⟩, ⟨⟨some 19, .call 520 [.t 17, .t 18], none⟩, 2, 3, []⟩, ⟨⟨some 24, .call 521 [.t 23, .c (.int .i64 2)], none⟩, 7, 127, []⟩, ⟨⟨some 25, .buildSl 1 [.t 19, .t 24], none⟩, 8, 255, []⟩, ⟨⟨some 26, .call 507 [.t 25], none⟩, 9, 511, []⟩, ⟨⟨some 6, .mv (.t 26), none⟩, 10, 1023, []⟩] [2, 5, 6])
 (.seq (.reg [⟨some 27, .mv (.t 6), none⟩, ⟨some 28, .bin .neq (.t 27) (.c (.int .i64 0)), none⟩] [2, 5, 6, 28])
 (.cond (.t 28) (.seq (.reg [⟨some 29, .mv (.t 6), none⟩, ⟨some 4, .mv (.t 29), none⟩] [4])
 (.ret))
 (.skip))))
 (.seq (.seq (.reg [⟨some 30, .faddr 1 (.t 5), none⟩, ⟨some 31, .load false 1 (.t 30), none⟩, ⟨some 32, .len false (.t 31), none⟩, ⟨some 33, .mv (.c (.int .i64 0)), none⟩] [2, 5, 31, 32, 33])
 (.blk 0 (.loop [2, 5, 31, 32, 33] (L109_0))))
 (.seq (.reg [⟨some 41, .load false 1 (.t 2), none⟩, ⟨some 42, .faddr 2 (.t 5), none⟩, ⟨some 43, .load false 1 (.t 42), none⟩, ⟨some 44, .faddr 1 (.t 5), none⟩, ⟨some 45, .load false 1 (.t 44), none⟩, ⟨some 46, .call 114 [.t 41, .t 43, .t 45], none⟩, ⟨some 4, .mv (.t 46), none⟩] [4])
 (.ret)))))
def f109 : VFunc := ⟨false, [.tmp 4], b109, none⟩

/-- (*shunter/image.checker).action$1 -/
def b110 : VCode := .seq (.reg [⟨some 3, .mv (.c (.str [])), none⟩] [0, 1])
 (.seq (.reg [⟨some 4, .load false 1 (.t 1), none⟩, ⟨some 5, .nilchk (.t 4), none⟩, ⟨some 6, .faddr 0 (.t 5), none⟩, ⟨some 7, .faddr 5 (.t 6), none⟩, ⟨some 8, .load false 1 (.t 7), none⟩, ⟨some 9, .mv (.t 0), none⟩, ⟨some 10, .iaddr 3 (.t 8) (.t 9), none⟩, ⟨some 11, .faddr 0 (.t 10), none⟩, ⟨some 12, .load false 1 (.t 11), none⟩, ⟨some 3, .mv (.t 12), none⟩] [3])
 (.ret))
def f110 : VFunc := ⟨false, [.tmp 3], b110, none⟩

def l111_0 : VCode := .seq (.reg [⟨some 27, .bin .lss (.t 26) (.t 25), none⟩] [7, 24, 25, 26, 27])
 (.seq (.cond (.t 27) (.skip)
 (.exit 0))
 (.seq (.blk 1 (.seq (.reg [⟨some 28, .mv (.t 26), none⟩, ⟨some 29, .iaddr 3 (.t 24) (.t 26), none⟩, ⟨some 30, .load true 3 (.t 29), none⟩, ⟨some 9, .alloc (.agg [.int .i64 0, .int .u64 0, .int .u64 0]), none⟩, ⟨some 8, .mv (.t 28), none⟩, ⟨none, .store 3 false (.t 9) (.t 30), none⟩] [7, 8, 9, 24, 25, 26])
 (.seq (.drw [⟨⟨some 31, .load true 3 (.t 9), none⟩, 0, 0, []⟩, ⟨⟨some 32, .call 1090 [.t 31], none⟩, 1, 1, []⟩, ⟨⟨some 33, .un .not (.t 32), none⟩, 2, 3, []⟩, ⟨⟨some 34, .mv (.t 33), none⟩, 3, 7, []⟩, ⟨⟨some 35, .faddr 0 (.t 9), (some (34, false))⟩, 4, 15, []⟩, ⟨⟨some 37, .mv (.t 7), (some (34, false))⟩, 6, 15, []⟩, ⟨⟨some 38, .mv (.t 8), (some (34, false))⟩, 7, 15, []⟩, ⟨⟨some 39, .iaddr 1 (.t 37) (.t 38), (some (34, false))⟩, 8, 207, []⟩, ⟨⟨some 36, .load false 1 (.t 35), (some (34, false))⟩, 5, 31, []⟩, ⟨⟨some 40, .load false 1 (.t 39), (some (34, false))⟩, 9, 463, []⟩, ⟨⟨some 41, .bin .neq (.t 36) (.t 40), (some (34, false))⟩, 10, 1023, []⟩, ⟨⟨some 42, .pick (.t 34) (.c (.bool true)) (.t 41), none⟩, 11, 2047, []⟩] [7, 24, 25, 26, 42])
 (.cond (.t 42) (.seq (.reg [⟨some 6, .mv (.c (.int .i64 9)), none⟩] [6])
 (.ret))
 (.skip)))))
 (.reg [⟨some 43, .bin .add (.t 26) (.c (.int .i64 1)), none⟩, ⟨some 26, .mv (.t 43), none⟩] [7, 24, 25, 26])))
def L111_0 : VCode := l111_0
/-- (*shunter/image.checker).args -/
def b111 : VCode := .seq (.reg [⟨some 6, .mv (.c (.int .i64 0)), none⟩] [0, 1, 2])
 (.seq (.reg [⟨some 10, .mv (.t 0), none⟩, ⟨some 11, .nilchk (.t 10), none⟩, ⟨some 12, .faddr 0 (.t 11), none⟩, ⟨some 13, .faddr 5 (.t 12), none⟩, ⟨some 14, .load false 1 (.t 13), none⟩, ⟨some 15, .mv (.t 1), none⟩, ⟨some 16, .iaddr 3 (.t 14) (.t 15), none⟩, ⟨some 17, .faddr 1 (.t 16), none⟩, ⟨some 18, .load false 1 (.t 17), none⟩, ⟨some 7, .mv (.t 18), none⟩] [2, 7])
 (.seq (.seq (.reg [⟨some 19, .mv (.t 2), none⟩, ⟨some 20, .len false (.t 19), none⟩, ⟨some 21, .mv (.t 7), none⟩, ⟨some 22, .len false (.t 21), none⟩, ⟨some 23, .bin .neq (.t 20) (.t 22), none⟩] [2, 7, 23])
 (.cond (.t 23) (.seq (.reg [⟨some 6, .mv (.c (.int .i64 2)), none⟩] [6])
 (.ret))
 (.skip)))
 (.seq (.seq (.reg [⟨some 24, .mv (.t 2), none⟩, ⟨some 25, .len false (.t 24), none⟩, ⟨some 26, .mv (.c (.int .i64 0)), none⟩] [7, 24, 25, 26])
 (.blk 0 (.loop [7, 24, 25, 26] (L111_0))))
 (.seq (.reg [⟨some 6, .mv (.c (.int .i64 0)), none⟩] [6])
 (.ret)))))
def f111 : VFunc := ⟨false, [.tmp 6], b111, none⟩

def l112_0 : VCode := .seq (.reg [⟨some 13, .bin .lss (.t 12) (.t 11), none⟩] [0, 1, 10, 11, 12, 13])
 (.seq (.cond (.t 13) (.skip)
 (.exit 0))
 (.seq (.blk 1 (.seq (.reg [⟨some 14, .mv (.t 12), none⟩, ⟨some 15, .iaddr 1 (.t 10) (.t 12), none⟩, ⟨some 16, .load false 1 (.t 15), none⟩, ⟨some 5, .mv (.t 14), none⟩, ⟨some 6, .mv (.t 16), none⟩] [0, 1, 5, 6, 10, 11, 12])
 (.blk 2 (.seq (.reg [⟨some 18, .mv (.t 6), none⟩, ⟨some 19, .mv (.t 0), none⟩, ⟨some 20, .nilchk (.t 19), none⟩, ⟨some 21, .faddr 0 (.t 20), none⟩, ⟨some 22, .faddr 5 (.t 21), none⟩, ⟨some 23, .load false 1 (.t 22), none⟩, ⟨some 24, .len false (.t 23), none⟩, ⟨some 25, .bin .sub (.t 24) (.c (.int .i64 1)), none⟩, ⟨some 26, .call 522 [.t 18, .c (.int .i64 0), .t 25], none⟩, ⟨some 27, .un .not (.t 26), none⟩, ⟨some 17, .mv (.t 27), none⟩] [0, 1, 5, 6, 10, 11, 12, 17])
 (.cond (.t 17) (.seq (.reg [⟨some 4, .mv (.c (.int .i64 5)), none⟩] [4])
 (.ret))
 (.seq (.reg [⟨some 29, .mv (.t 1), none⟩, ⟨some 30, .mv (.t 5), none⟩, ⟨some 31, .slice 1 (.t 29) none (some (.t 30)) none, none⟩, ⟨some 32, .mv (.t 6), none⟩, ⟨some 33, .call 1169 [.t 31, .t 32], none⟩, ⟨some 28, .mv (.t 33), none⟩] [0, 1, 10, 11, 12, 28])
 (.cond (.t 28) (.seq (.reg [⟨some 4, .mv (.c (.int .i64 6)), none⟩] [4])
 (.ret))
 (.skip))))))))
 (.reg [⟨some 34, .bin .add (.t 12) (.c (.int .i64 1)), none⟩, ⟨some 12, .mv (.t 34), none⟩] [0, 1, 10, 11, 12])))
def L112_0 : VCode := l112_0
/-- (*shunter/image.checker).calls -/
def b112 : VCode := .seq (.reg [⟨some 4, .mv (.c (.int .i64 0)), none⟩] [0, 1])
 (.seq (.seq (.reg [⟨some 7, .mv (.t 1), none⟩, ⟨some 8, .len false (.t 7), none⟩, ⟨some 9, .bin .gtr (.t 8) (.c (.int .i64 8)), none⟩] [0, 1, 9])
 (.cond (.t 9) (.seq (.reg [⟨some 4, .mv (.c (.int .i64 2)), none⟩] [4])
 (.ret))
 (.skip)))
 (.seq (.seq (.reg [⟨some 10, .mv (.t 1), none⟩, ⟨some 11, .len false (.t 10), none⟩, ⟨some 12, .mv (.c (.int .i64 0)), none⟩] [0, 1, 10, 11, 12])
 (.blk 0 (.loop [0, 1, 10, 11, 12] (L112_0))))
 (.seq (.reg [⟨some 35, .mv (.t 1), none⟩, ⟨some 36, .len false (.t 35), none⟩, ⟨some 37, .bin .gtr (.t 36) (.c (.int .i64 0)), none⟩, ⟨some 38, .call 521 [.t 37, .c (.int .i64 5)], none⟩, ⟨some 4, .mv (.t 38), none⟩] [4])
 (.ret))))
def f112 : VFunc := ⟨false, [.tmp 4], b112, none⟩

/-- (*shunter/image.checker).cell -/
def b113 : VCode := .seq (.reg [⟨some 4, .box (.t 1), none⟩, ⟨some 6, .mv (.c (.bool false)), none⟩] [0, 2, 4])
 (.seq (.seq (.reg [⟨some 9, .faddr 0 (.t 4), none⟩, ⟨some 10, .load false 1 (.t 9), none⟩] [0, 2, 4, 10])
 (.blk 0 (.seq (.seq (.reg [⟨some 12, .bin .eql (.t 10) (.c (.int .i64 2)), none⟩, ⟨some 11, .mv (.t 12), none⟩] [0, 2, 4, 10, 11])
 (.cond (.t 11) (.skip)
 (.reg [⟨some 13, .bin .eql (.t 10) (.c (.int .i64 23)), none⟩, ⟨some 11, .mv (.t 13), none⟩] [0, 2, 4, 10, 11])))
 (.cond (.t 11) (.seq (.drw [⟨⟨some 15, .mv (.t 0), none⟩, 0, 0, []⟩, ⟨⟨some 16, .nilchk (.t 15), none⟩, 1, 1, []⟩, ⟨⟨some 17, .faddr 0 (.t 16), none⟩, 2, 3, []⟩, ⟨⟨some 19, .faddr 1 (.t 4), none⟩, 4, 0, []⟩, ⟨⟨some 18, .load true 18 (.t 17), none⟩, 3, 7, []⟩, ⟨⟨some 20, .load false 1 (.t 19), none⟩, 5, 16, []⟩, ⟨⟨some 21, .call 491 [.t 18, .t 20], none⟩, 6, 63, []⟩, ⟨⟨some 14, .mv (.t 21), none⟩, 7, 127, []⟩, ⟨⟨some 22, .ext (.t 14) 0, none⟩, 8, 255, []⟩, ⟨⟨some 23, .ext (.t 14) 1, none⟩, 9, 255, []⟩, ⟨⟨some 7, .mv (.t 22), none⟩, 10, 511, []⟩, ⟨⟨some 8, .mv (.t 23), none⟩, 11, 2047, []⟩] [8])
 (.seq (.reg [⟨some 24, .mv (.t 8), none⟩, ⟨some 6, .mv (.t 24), none⟩] [6])
 (.ret)))
 (.seq (.reg [⟨some 26, .bin .eql (.t 10) (.c (.int .i64 3)), none⟩, ⟨some 25, .mv (.t 26), none⟩] [0, 2, 4, 10, 25])
 (.cond (.t 25) (.seq (.reg [⟨some 27, .faddr 1 (.t 4), none⟩, ⟨some 28, .load false 1 (.t 27), none⟩, ⟨some 29, .mv (.t 2), none⟩, ⟨some 30, .bin .lss (.t 28) (.t 29), none⟩, ⟨some 6, .mv (.t 30), none⟩] [6])
 (.ret))
 (.seq (.seq (.reg [⟨some 32, .bin .eql (.t 10) (.c (.int .i64 5)), none⟩, ⟨some 31, .mv (.t 32), none⟩] [0, 4, 10, 31])
 (.cond (.t 31) (.skip)
 (.reg [⟨some 33, .bin .eql (.t 10) (.c (.int .i64 24)), none⟩, ⟨some 31, .mv (.t 33), none⟩] [0, 4, 10, 31])))
 (.cond (.t 31) (.seq (.drw [⟨⟨some 34, .faddr 1 (.t 4), none⟩, 0, 0, []⟩, ⟨⟨some 36, .mv (.t 0), none⟩, 2, 0, []⟩, ⟨⟨some 37, .nilchk (.t 36), none⟩, 3, 4, []⟩, ⟨⟨some 38, .faddr 0 (.t 37), none⟩, 4, 12, []⟩, ⟨⟨some 39, .faddr 12 (.t 38), none⟩, 5, 28, []⟩, ⟨⟨some 35, .load false 1 (.t 34), none⟩, 1, 1, []⟩, ⟨⟨some 40, .load false 1 (.t 39), none⟩, 6, 60, []⟩, ⟨⟨some 41, .len false (.t 40), none⟩, 7, 124, []⟩, ⟨⟨some 42, .bin .lss (.t 35) (.t 41), none⟩, 8, 255, []⟩, ⟨⟨some 6, .mv (.t 42), none⟩, 9, 511, []⟩] [6])
 (.ret))
 (.seq (.reg [⟨some 44, .bin .eql (.t 10) (.c (.int .i64 29)), none⟩, ⟨some 43, .mv (.t 44), none⟩] [0, 4, 43])
 (.cond (.t 43) (.seq (.drw [⟨⟨some 45, .faddr 1 (.t 4), none⟩, 0, 0, []⟩, ⟨⟨some 47, .mv (.t 0), none⟩, 2, 0, []⟩, ⟨⟨some 48, .nilchk (.t 47), none⟩, 3, 4, []⟩, ⟨⟨some 49, .faddr 0 (.t 48), none⟩, 4, 12, []⟩, ⟨⟨some 50, .faddr 13 (.t 49), none⟩, 5, 28, []⟩, ⟨⟨some 46, .load false 1 (.t 45), none⟩, 1, 1, []⟩, ⟨⟨some 51, .load false 1 (.t 50), none⟩, 6, 60, []⟩, ⟨⟨some 52, .len false (.t 51), none⟩, 7, 124, []⟩, ⟨⟨some 53, .bin .lss (.t 46) (.t 52), none⟩, 8, 255, []⟩, ⟨⟨some 6, .mv (.t 53), none⟩, 9, 511, []⟩] [6])
 (.ret))
 (.skip)))))))))))
 (.seq (.drw [⟨⟨some 54, .faddr 1 (.t 4), none⟩, 0, 0, []⟩, ⟨⟨some 56, .mv (.t 0), none⟩, 2, 0, []⟩, ⟨⟨some 57, .nilchk (.t 56), none⟩, 3, 4, []⟩, ⟨⟨some 58, .faddr 0 (.t 57), none⟩, 4, 12, []⟩, ⟨⟨some 59, .faddr 14 (.t 58), none⟩, 5, 28, []⟩, ⟨⟨some 55, .load false 1 (.t 54), none⟩, 1, 1, []⟩, ⟨⟨some 60, .load false 1 (.t 59), none⟩, 6, 60, []⟩, ⟨⟨some 61, .len false (.t 60), none⟩, 7, 124, []⟩, ⟨⟨some 62, .bin .lss (.t 55) (.t 61), none⟩, 8, 255, []⟩, ⟨⟨some 6, .mv (.t 62), none⟩, 9, 511, []⟩] [6])
 (.ret)))
def f113 : VFunc := ⟨false, [.tmp 6], b113, none⟩

def l114_0 : VCode := .seq (.reg [⟨some 26, .bin .lss (.t 25) (.t 24), none⟩] [0, 1, 2, 23, 24, 25, 26])
 (.seq (.cond (.t 26) (.skip)
 (.exit 0))
 (.seq (.blk 1 (.seq (.reg [⟨some 27, .mv (.t 25), none⟩, ⟨some 28, .iaddr 1 (.t 23) (.t 25), none⟩, ⟨some 29, .load false 1 (.t 28), none⟩, ⟨some 10, .mv (.t 27), none⟩, ⟨some 11, .mv (.t 29), none⟩] [0, 1, 2, 10, 11, 23, 24, 25])
 (.seq (.seq (.reg [⟨some 30, .mv (.t 0), none⟩, ⟨some 31, .mv (.t 11), none⟩, ⟨some 32, .mv (.t 2), none⟩, ⟨some 33, .call 134 [.t 30, .t 31, .t 32], none⟩, ⟨some 34, .un .not (.t 33), none⟩] [0, 1, 2, 10, 11, 23, 24, 25, 34])
 (.cond (.t 34) (.seq (.reg [⟨some 6, .mv (.c (.int .i64 5)), none⟩] [6])
 (.ret))
 (.skip)))
 (.seq (.reg [⟨some 36, .mv (.t 11), none⟩, ⟨some 37, .call 427 [.t 36], none⟩, ⟨some 35, .mv (.t 37), none⟩, ⟨some 38, .ext (.t 35) 0, none⟩, ⟨some 39, .ext (.t 35) 1, none⟩, ⟨some 12, .mv (.t 38), none⟩, ⟨some 13, .mv (.t 39), none⟩] [0, 1, 2, 10, 12, 13, 23, 24, 25])
 (.seq (.reg [⟨some 40, .mv (.t 13), none⟩, ⟨some 41, .mv (.t 40), none⟩, ⟨some 42, .mv (.t 12), (some (41, true))⟩, ⟨some 43, .mv (.t 10), (some (41, true))⟩, ⟨some 44, .bin .add (.t 43) (.c (.int .i64 1)), (some (41, true))⟩, ⟨some 45, .mv (.t 1), (some (41, true))⟩, ⟨some 46, .len false (.t 45), (some (41, true))⟩, ⟨some 47, .call 522 [.t 42, .t 44, .t 46], (some (41, true))⟩, ⟨some 48, .un .not (.t 47), (some (41, true))⟩, ⟨some 49, .pick (.t 41) (.t 48) (.c (.bool false)), none⟩] [0, 1, 2, 23, 24, 25, 49])
 (.cond (.t 49) (.seq (.reg [⟨some 6, .mv (.c (.int .i64 12)), none⟩] [6])
 (.ret))
 (.skip)))))))
 (.reg [⟨some 50, .bin .add (.t 25) (.c (.int .i64 1)), none⟩, ⟨some 25, .mv (.t 50), none⟩] [0, 1, 2, 23, 24, 25])))
def L114_0 : VCode := l114_0
/-- (*shunter/image.checker).code -/
def b114 : VCode := .seq (.reg [⟨some 6, .mv (.c (.int .i64 0)), none⟩] [0, 1, 2])
 (.seq (.reg [⟨some 15, .mv (.t 1), none⟩, ⟨some 16, .call 422 [.t 15], none⟩, ⟨some 14, .mv (.t 16), none⟩, ⟨some 17, .ext (.t 14) 0, none⟩, ⟨some 18, .ext (.t 14) 1, none⟩, ⟨some 19, .ext (.t 14) 2, none⟩, ⟨some 7, .mv (.t 17), none⟩, ⟨some 8, .mv (.t 18), none⟩, ⟨some 9, .mv (.t 19), none⟩] [0, 1, 2, 7, 9])
 (.seq (.seq (.reg [⟨some 20, .mv (.t 9), none⟩, ⟨some 21, .bin .neq (.t 20) (.c (.int .i64 0)), none⟩] [0, 1, 2, 7, 9, 21])
 (.cond (.t 21) (.seq (.reg [⟨some 22, .mv (.t 9), none⟩, ⟨some 6, .mv (.t 22), none⟩] [6])
 (.ret))
 (.skip)))
 (.seq (.seq (.reg [⟨some 23, .mv (.t 7), none⟩, ⟨some 24, .len false (.t 23), none⟩, ⟨some 25, .mv (.c (.int .i64 0)), none⟩] [0, 1, 2, 23, 24, 25])
 (.blk 0 (.loop [0, 1, 2, 23, 24, 25] (L114_0))))
 (.seq (.reg [⟨some 6, .mv (.c (.int .i64 0)), none⟩] [6])
 (.ret)))))
def f114 : VFunc := ⟨false, [.tmp 6], b114, none⟩

/-- (*shunter/image.checker).counter -/
def b115 : VCode := .seq (.reg [⟨some 2, .box (.t 0), none⟩, ⟨some 4, .mv (.c (.int .i64 0)), none⟩] [1, 2])
 (.seq (.drw [⟨⟨some 5, .mv (.t 1), none⟩, 0, 0, []⟩, ⟨⟨some 6, .mkfn 116 [] [.t 2], none⟩, 1, 0, []⟩, ⟨⟨some 13, .mv (.t 1), none⟩, 8, 0, []⟩, ⟨⟨some 8, .load false 1 (.t 2), none⟩, 3, 0, []⟩, ⟨⟨some 9, .nilchk (.t 8), none⟩, 4, 8, []⟩, ⟨⟨some 10, .faddr 0 (.t 9), none⟩, 5, 24, []⟩, ⟨⟨some 11, .faddr 13 (.t 10), none⟩, 6, 56, []⟩, ⟨⟨some 12, .load false 1 (.t 11), none⟩, 7, 120, []⟩, ⟨⟨some 14, .iaddr 2 (.t 12) (.t 13), none⟩, 9, 504, []⟩, ⟨⟨some 15, .faddr 1 (.t 14), none⟩, 10, 1016, []⟩, ⟨⟨some 16, .load false 1 (.t 15), none⟩, 11, 2040, []⟩, ⟨⟨some 7, .call 520 [.t 5, .t 6], none⟩, 2, 3, []⟩, ⟨⟨some 17, .call 509 [.t 16], none⟩, 12, 4095, []⟩, ⟨⟨some 18, .buildSl 1 [.t 7, .t 17], none⟩, 13, 8191, []⟩, ⟨⟨some 19, .call 507 [.t 18], none⟩, 14, 16383, []⟩, ⟨⟨some 4, .mv (.t 19), none⟩, 15, 32767, []⟩] [4])
 (.ret))
def f115 : VFunc := ⟨false, [.tmp 4], b115, none⟩

/-- (*shunter/image.checker).counter$1 -/
def b116 : VCode := .seq (.reg [⟨some 3, .mv (.c (.str [])), none⟩] [0, 1])
 (.seq (.reg [⟨some 4, .load false 1 (.t 1), none⟩, ⟨some 5, .nilchk (.t 4), none⟩, ⟨some 6, .faddr 0 (.t 5), none⟩, ⟨some 7, .faddr 13 (.t 6), none⟩, ⟨some 8, .load false 1 (.t 7), none⟩, ⟨some 9, .mv (.t 0), none⟩, ⟨some 10, .iaddr 2 (.t 8) (.t 9), none⟩, ⟨some 11, .faddr 0 (.t 10), none⟩, ⟨some 12, .load false 1 (.t 11), none⟩, ⟨some 3, .mv (.t 12), none⟩] [3])
 (.ret))
def f116 : VFunc := ⟨false, [.tmp 3], b116, none⟩

/-- (*shunter/image.checker).ext -/
def b117 : VCode := .seq (.reg [⟨some 3, .box (.t 1), none⟩, ⟨some 4, .mv (.c (.int .i64 0)), none⟩] [0, 3])
 (.seq (.seq (.reg [⟨some 10, .faddr 0 (.t 3), none⟩, ⟨some 11, .load false 1 (.t 10), none⟩] [0, 3, 11])
 (.blk 0 (.seq (.reg [⟨some 13, .bin .eql (.t 11) (.c (.int .i64 0)), none⟩, ⟨some 12, .mv (.t 13), none⟩] [0, 3, 11, 12])
 (.cond (.t 12) (.seq (.reg [⟨some 15, .mv (.t 0), none⟩, ⟨some 16, .faddr 1 (.t 3), none⟩, ⟨some 17, .load false 1 (.t 16), none⟩, ⟨some 18, .call 120 [.t 15, .t 17], none⟩, ⟨some 14, .mv (.t 18), none⟩, ⟨some 19, .ext (.t 14) 0, none⟩, ⟨some 20, .ext (.t 14) 1, none⟩, ⟨some 5, .mv (.t 19), none⟩, ⟨some 6, .mv (.t 20), none⟩] [0, 5, 6])
 (.seq (.reg [⟨some 21, .mv (.t 6), none⟩, ⟨some 22, .mv (.t 21), none⟩, ⟨some 23, .mv (.t 0), (some (22, true))⟩, ⟨some 24, .nilchk (.t 23), (some (22, true))⟩, ⟨some 25, .faddr 0 (.t 24), (some (22, true))⟩, ⟨some 26, .faddr 2 (.t 25), (some (22, true))⟩, ⟨some 27, .load false 1 (.t 26), (some (22, true))⟩, ⟨some 28, .mv (.t 5), (some (22, true))⟩, ⟨some 29, .iaddr 3 (.t 27) (.t 28), (some (22, true))⟩, ⟨some 30, .faddr 2 (.t 29), (some (22, true))⟩, ⟨some 31, .load false 1 (.t 30), (some (22, true))⟩, ⟨some 32, .bin .eql (.t 31) (.c (.int .i64 0)), (some (22, true))⟩, ⟨some 33, .pick (.t 22) (.t 32) (.c (.bool false)), none⟩, ⟨some 34, .call 521 [.t 33, .c (.int .i64 5)], none⟩, ⟨some 4, .mv (.t 34), none⟩] [4])
 (.ret)))
 (.seq (.reg [⟨some 36, .bin .eql (.t 11) (.c (.int .i64 1)), none⟩, ⟨some 35, .mv (.t 36), none⟩] [0, 3, 11, 35])
 (.cond (.t 35) (.seq (.drw [⟨⟨some 38, .mv (.t 0), none⟩, 0, 0, []⟩, ⟨⟨some 39, .nilchk (.t 38), none⟩, 1, 1, []⟩, ⟨⟨some 40, .faddr 0 (.t 39), none⟩, 2, 3, []⟩, ⟨⟨some 42, .faddr 1 (.t 3), none⟩, 4, 0, []⟩, ⟨⟨some 41, .load true 18 (.t 40), none⟩, 3, 7, []⟩, ⟨⟨some 43, .load false 1 (.t 42), none⟩, 5, 16, []⟩, ⟨⟨some 44, .call 494 [.t 41, .t 43], none⟩, 6, 63, []⟩, ⟨⟨some 37, .mv (.t 44), none⟩, 7, 127, []⟩, ⟨⟨some 45, .ext (.t 37) 0, none⟩, 8, 255, []⟩, ⟨⟨some 46, .ext (.t 37) 1, none⟩, 9, 255, []⟩, ⟨⟨some 47, .ext (.t 37) 2, none⟩, 10, 255, []⟩, ⟨⟨some 7, .mv (.t 45), none⟩, 11, 511, []⟩, ⟨⟨some 8, .mv (.t 46), none⟩, 12, 3071, []⟩, ⟨⟨some 9, .mv (.t 47), none⟩, 13, 8191, []⟩] [9])
 (.seq (.reg [⟨some 48, .mv (.t 9), none⟩, ⟨some 49, .call 521 [.t 48, .c (.int .i64 5)], none⟩, ⟨some 4, .mv (.t 49), none⟩] [4])
 (.ret)))
 (.seq (.reg [⟨some 51, .bin .eql (.t 11) (.c (.int .i64 2)), none⟩, ⟨some 50, .mv (.t 51), none⟩] [3, 50])
 (.cond (.t 50) (.seq (.reg [⟨some 52, .faddr 1 (.t 3), none⟩, ⟨some 53, .load false 1 (.t 52), none⟩, ⟨some 54, .call 522 [.t 53, .c (.int .i64 1), .c (.int .i64 64)], none⟩, ⟨some 55, .call 521 [.t 54, .c (.int .i64 7)], none⟩, ⟨some 4, .mv (.t 55), none⟩] [4])
 (.ret))
 (.skip)))))))))
 (.seq (.reg [⟨some 4, .mv (.c (.int .i64 10)), none⟩] [4])
 (.ret)))
def f117 : VFunc := ⟨false, [.tmp 4], b117, none⟩

/-- (*shunter/image.checker).header -/
def b118 : VCode := .seq (.reg [⟨some 2, .box (.t 0), none⟩, ⟨some 4, .mv (.c (.int .i64 0)), none⟩] [1, 2])
 (.seq (.seq (.reg [⟨some 6, .load false 1 (.t 2), none⟩, ⟨some 7, .nilchk (.t 6), none⟩, ⟨some 8, .faddr 0 (.t 7), none⟩, ⟨some 9, .faddr 1 (.t 8), none⟩, ⟨some 10, .load false 1 (.t 9), none⟩, ⟨some 11, .mv (.t 1), none⟩, ⟨some 12, .iaddr 6 (.t 10) (.t 11), none⟩, ⟨some 13, .load true 6 (.t 12), none⟩, ⟨some 14, .call 641 [.t 13], none⟩, ⟨some 5, .mv (.t 14), none⟩] [1, 2, 5])
 (.seq (.reg [⟨some 15, .mv (.t 5), none⟩, ⟨some 16, .bin .neq (.t 15) (.c (.int .i64 0)), none⟩] [1, 2, 5, 16])
 (.cond (.t 16) (.seq (.reg [⟨some 17, .mv (.t 5), none⟩, ⟨some 4, .mv (.t 17), none⟩] [4])
 (.ret))
 (.skip))))
 (.seq (.reg [⟨some 18, .mv (.t 1), none⟩, ⟨some 19, .mkfn 119 [] [.t 2], none⟩, ⟨some 20, .call 520 [.t 18, .t 19], none⟩, ⟨some 4, .mv (.t 20), none⟩] [4])
 (.ret)))
def f118 : VFunc := ⟨false, [.tmp 4], b118, none⟩

/-- (*shunter/image.checker).header$1 -/
def b119 : VCode := .seq (.reg [⟨some 3, .mv (.c (.str [])), none⟩] [0, 1])
 (.seq (.reg [⟨some 4, .load false 1 (.t 1), none⟩, ⟨some 5, .nilchk (.t 4), none⟩, ⟨some 6, .faddr 0 (.t 5), none⟩, ⟨some 7, .faddr 1 (.t 6), none⟩, ⟨some 8, .load false 1 (.t 7), none⟩, ⟨some 9, .mv (.t 0), none⟩, ⟨some 10, .iaddr 6 (.t 8) (.t 9), none⟩, ⟨some 11, .faddr 0 (.t 10), none⟩, ⟨some 12, .load false 1 (.t 11), none⟩, ⟨some 3, .mv (.t 12), none⟩] [3])
 (.ret))
def f119 : VFunc := ⟨false, [.tmp 3], b119, none⟩

def l120_0 : VCode := .seq (.reg [⟨some 29, .bin .lss (.t 28) (.t 27), none⟩] [1, 8, 26, 27, 28, 29])
 (.seq (.cond (.t 29) (.skip)
 (.exit 0))
 (.seq (.blk 1 (.seq (.reg [⟨some 30, .mv (.t 28), none⟩, ⟨some 31, .iaddr 3 (.t 26) (.t 28), none⟩, ⟨some 32, .load true 3 (.t 31), none⟩, ⟨some 10, .alloc (.agg [.str [], .int .i64 0, .int .i64 0]), none⟩, ⟨some 9, .mv (.t 30), none⟩, ⟨none, .store 3 false (.t 10) (.t 32), none⟩] [1, 8, 9, 10, 26, 27, 28])
 (.seq (.reg [⟨some 33, .mv (.t 8), none⟩, ⟨some 34, .faddr 2 (.t 10), none⟩, ⟨some 35, .load false 1 (.t 34), none⟩, ⟨some 36, .mx [.t 35, .c (.int .i64 1)], none⟩, ⟨some 37, .bin .add (.t 33) (.t 36), none⟩, ⟨some 8, .mv (.t 37), none⟩] [1, 8, 9, 26, 27, 28])
 (.seq (.reg [⟨some 38, .mv (.t 1), none⟩, ⟨some 39, .mv (.t 8), none⟩, ⟨some 40, .bin .lss (.t 38) (.t 39), none⟩] [1, 8, 9, 26, 27, 28, 40])
 (.cond (.t 40) (.seq (.reg [⟨some 41, .mv (.t 9), none⟩, ⟨some 4, .mv (.t 41), none⟩, ⟨some 5, .mv (.c (.bool true)), none⟩] [4, 5])
 (.ret))
 (.skip))))))
 (.reg [⟨some 42, .bin .add (.t 28) (.c (.int .i64 1)), none⟩, ⟨some 28, .mv (.t 42), none⟩] [1, 8, 26, 27, 28])))
def L120_0 : VCode := l120_0
/-- (*shunter/image.checker).instance -/
def b120 : VCode := .seq (.reg [⟨some 4, .mv (.c (.int .i64 0)), none⟩, ⟨some 5, .mv (.c (.bool false)), none⟩] [0, 1])
 (.seq (.seq (.reg [⟨some 12, .mv (.t 0), none⟩, ⟨some 13, .nilchk (.t 12), none⟩, ⟨some 14, .faddr 0 (.t 13), none⟩, ⟨some 15, .load true 18 (.t 14), none⟩, ⟨some 16, .mv (.t 1), none⟩, ⟨some 17, .call 493 [.t 15, .t 16], none⟩, ⟨some 11, .mv (.t 17), none⟩, ⟨some 18, .ext (.t 11) 0, none⟩, ⟨some 19, .ext (.t 11) 1, none⟩, ⟨some 6, .alloc (.agg [.str [], .sl 2 [] .nl, .int .i64 0, .int .i64 0, .int .i64 0, .int .i64 0]), none⟩, ⟨none, .store 6 true (.t 6) (.t 18), none⟩, ⟨some 7, .mv (.t 19), none⟩] [0, 1, 7])
 (.seq (.reg [⟨some 20, .mv (.t 7), none⟩, ⟨some 21, .un .not (.t 20), none⟩] [0, 1, 21])
 (.cond (.t 21) (.seq (.reg [⟨some 4, .mv (.c (.int .i64 0)), none⟩, ⟨some 5, .mv (.c (.bool false)), none⟩] [4, 5])
 (.ret))
 (.skip))))
 (.seq (.reg [⟨some 8, .mv (.c (.int .i64 0)), none⟩] [0, 1, 8])
 (.seq (.seq (.reg [⟨some 22, .mv (.t 0), none⟩, ⟨some 23, .nilchk (.t 22), none⟩, ⟨some 24, .faddr 0 (.t 23), none⟩, ⟨some 25, .faddr 2 (.t 24), none⟩, ⟨some 26, .load false 1 (.t 25), none⟩, ⟨some 27, .len false (.t 26), none⟩, ⟨some 28, .mv (.c (.int .i64 0)), none⟩] [1, 8, 26, 27, 28])
 (.blk 0 (.loop [1, 8, 26, 27, 28] (L120_0))))
 (.seq (.reg [⟨some 4, .mv (.c (.int .i64 0)), none⟩, ⟨some 5, .mv (.c (.bool false)), none⟩] [4, 5])
 (.ret)))))
def f120 : VFunc := ⟨false, [.tmp 4, .tmp 5], b120, none⟩

def l121_0 : VCode := .seq (.reg [⟨some 19, .bin .lss (.t 18) (.t 17), none⟩] [0, 1, 2, 16, 17, 18, 19])
 (.seq (.cond (.t 19) (.skip)
 (.exit 0))
 (.seq (.blk 1 (.seq (.reg [⟨some 20, .iaddr 3 (.t 16) (.t 18), none⟩, ⟨some 21, .load true 3 (.t 20), none⟩, ⟨some 8, .alloc (.agg [.int .i64 0, .int .i64 0, .int .i64 0]), none⟩, ⟨none, .store 3 false (.t 8) (.t 21), none⟩] [0, 1, 2, 8, 16, 17, 18])
 (.seq (.drw [⟨⟨some 23, .mv (.t 0), none⟩, 0, 0, []⟩, ⟨⟨some 24, .nilchk (.t 23), none⟩, 1, 1, []⟩, ⟨⟨some 25, .faddr 0 (.t 24), none⟩, 2, 3, []⟩, ⟨⟨some 26, .load true 18 (.t 25), none⟩, 3, 7, []⟩, ⟨⟨some 27, .load true 3 (.t 8), none⟩, 4, 0, []⟩, ⟨⟨some 28, .call 510 [.t 26, .t 27], none⟩, 5, 31, []⟩, ⟨⟨some 22, .mv (.t 28), none⟩, 6, 63, []⟩, ⟨⟨some 29, .ext (.t 22) 0, none⟩, 7, 127, []⟩, ⟨⟨some 30, .ext (.t 22) 1, none⟩, 8, 127, []⟩, ⟨⟨some 9, .mv (.t 29), none⟩, 9, 255, []⟩, ⟨⟨some 10, .mv (.t 30), none⟩, 10, 1023, []⟩] [0, 1, 2, 8, 10, 16, 17, 18])
 (.blk 2 (.seq (.reg [⟨some 32, .faddr 0 (.t 8), none⟩, ⟨some 33, .load false 1 (.t 32), none⟩, ⟨some 34, .call 522 [.t 33, .c (.int .i64 0), .c (.int .i64 2)], none⟩, ⟨some 35, .un .not (.t 34), none⟩, ⟨some 36, .mv (.t 35), none⟩, ⟨some 37, .faddr 0 (.t 8), (some (36, false))⟩, ⟨some 38, .load false 1 (.t 37), (some (36, false))⟩, ⟨some 39, .bin .eql (.t 38) (.c (.int .i64 2)), (some (36, false))⟩, ⟨some 40, .mv (.t 39), (some (36, false))⟩, ⟨some 41, .mv (.t 2), (some (40, true))⟩, ⟨some 42, .un .not (.t 41), (some (40, true))⟩, ⟨some 43, .pick (.t 40) (.t 42) (.c (.bool false)), (some (36, false))⟩, ⟨some 44, .pick (.t 36) (.c (.bool true)) (.t 43), none⟩, ⟨some 31, .mv (.t 44), none⟩] [0, 1, 2, 8, 10, 16, 17, 18, 31])
 (.cond (.t 31) (.seq (.reg [⟨some 6, .mv (.c (.int .i64 10)), none⟩] [6])
 (.ret))
 (.seq (.reg [⟨some 46, .mv (.t 10), none⟩, ⟨some 47, .un .not (.t 46), none⟩, ⟨some 48, .mv (.t 47), none⟩, ⟨some 49, .faddr 0 (.t 8), (some (48, true))⟩, ⟨some 50, .load false 1 (.t 49), (some (48, true))⟩, ⟨some 51, .bin .eql (.t 50) (.c (.int .i64 2)), (some (48, true))⟩, ⟨some 52, .pick (.t 48) (.t 51) (.c (.bool false)), none⟩, ⟨some 53, .mv (.t 52), none⟩, ⟨some 54, .faddr 0 (.t 8), (some (53, false))⟩, ⟨some 55, .load false 1 (.t 54), (some (53, false))⟩, ⟨some 56, .bin .eql (.t 55) (.c (.int .i64 1)), (some (53, false))⟩, ⟨some 57, .mv (.t 56), (some (53, false))⟩, ⟨some 58, .mv (.t 10), (some (57, true))⟩, ⟨some 59, .pick (.t 57) (.t 58) (.c (.bool false)), (some (53, false))⟩, ⟨some 60, .mv (.t 59), (some (53, false))⟩, ⟨some 61, .faddr 2 (.t 8), (some (60, true))⟩, ⟨some 62, .load false 1 (.t 61), (some (60, true))⟩, ⟨some 63, .bin .neq (.t 62) (.c (.int .i64 0)), (some (60, true))⟩, ⟨some 64, .pick (.t 60) (.t 63) (.c (.bool false)), (some (53, false))⟩, ⟨some 65, .pick (.t 53) (.c (.bool true)) (.t 64), none⟩, ⟨some 45, .mv (.t 65), none⟩] [0, 1, 2, 10, 16, 17, 18, 45])
 (.cond (.t 45) (.seq (.reg [⟨some 6, .mv (.c (.int .i64 7)), none⟩] [6])
 (.ret))
 (.seq (.reg [⟨some 67, .mv (.t 10), none⟩, ⟨some 68, .un .not (.t 67), none⟩, ⟨some 66, .mv (.t 68), none⟩] [0, 1, 2, 16, 17, 18, 66])
 (.cond (.t 66) (.seq (.reg [⟨some 6, .mv (.c (.int .i64 5)), none⟩] [6])
 (.ret))
 (.skip)))))))))))
 (.reg [⟨some 69, .bin .add (.t 18) (.c (.int .i64 1)), none⟩, ⟨some 18, .mv (.t 69), none⟩] [0, 1, 2, 16, 17, 18])))
def L121_0 : VCode := l121_0
/-- (*shunter/image.checker).key -/
def b121 : VCode := .seq (.reg [⟨some 6, .mv (.c (.int .i64 0)), none⟩] [0, 1, 2])
 (.seq (.seq (.reg [⟨some 13, .mv (.t 1), none⟩, ⟨some 14, .len false (.t 13), none⟩, ⟨some 15, .bin .gtr (.t 14) (.c (.int .i64 4)), none⟩] [0, 1, 2, 15])
 (.cond (.t 15) (.seq (.reg [⟨some 6, .mv (.c (.int .i64 2)), none⟩] [6])
 (.ret))
 (.skip)))
 (.seq (.seq (.reg [⟨some 16, .mv (.t 1), none⟩, ⟨some 17, .len false (.t 16), none⟩, ⟨some 18, .mv (.c (.int .i64 0)), none⟩] [0, 1, 2, 16, 17, 18])
 (.blk 0 (.loop [0, 1, 2, 16, 17, 18] (L121_0))))
 (.seq (.reg [⟨some 71, .mv (.t 0), none⟩, ⟨some 72, .nilchk (.t 71), none⟩, ⟨some 73, .faddr 0 (.t 72), none⟩, ⟨some 74, .load true 18 (.t 73), none⟩, ⟨some 75, .mv (.t 1), none⟩, ⟨some 76, .call 490 [.t 74, .t 75], none⟩, ⟨some 70, .mv (.t 76), none⟩, ⟨some 77, .ext (.t 70) 0, none⟩, ⟨some 78, .ext (.t 70) 1, none⟩, ⟨some 11, .mv (.t 77), none⟩, ⟨some 12, .mv (.t 78), none⟩] [12])
 (.seq (.reg [⟨some 79, .mv (.t 12), none⟩, ⟨some 80, .call 521 [.t 79, .c (.int .i64 9)], none⟩, ⟨some 6, .mv (.t 80), none⟩] [6])
 (.ret)))))
def f121 : VFunc := ⟨false, [.tmp 6], b121, none⟩

/-- (*shunter/image.checker).meta -/
def b122 : VCode := .seq (.reg [⟨some 2, .box (.t 0), none⟩, ⟨some 4, .mv (.c (.int .i64 0)), none⟩] [1, 2])
 (.seq (.drw [⟨⟨some 5, .mv (.t 1), none⟩, 0, 0, []⟩, ⟨⟨some 6, .mkfn 123 [] [.t 2], none⟩, 1, 0, []⟩, ⟨⟨some 13, .mv (.t 1), none⟩, 8, 0, []⟩, ⟨⟨some 8, .load false 1 (.t 2), none⟩, 3, 0, []⟩, ⟨⟨some 9, .nilchk (.t 8), none⟩, 4, 8, []⟩, ⟨⟨some 10, .faddr 0 (.t 9), none⟩, 5, 24, []⟩, ⟨⟨some 11, .faddr 3 (.t 10), none⟩, 6, 56, []⟩, ⟨⟨some 12, .load false 1 (.t 11), none⟩, 7, 120, []⟩, ⟨⟨some 14, .iaddr 2 (.t 12) (.t 13), none⟩, 9, 504, []⟩, ⟨⟨some 15, .faddr 1 (.t 14), none⟩, 10, 1016, []⟩, ⟨⟨some 16, .load false 1 (.t 15), none⟩, 11, 2040, []⟩, ⟨⟨some 7, .call 520 [.t 5, .t 6], none⟩, 2, 3, []⟩, ⟨⟨some 17, .call 522 [.t 16, .c (.int .i64 1), .c (.int .i64 128)], none⟩, 12, 4095, []⟩, ⟨⟨some 18, .call 521 [.t 17, .c (.int .i64 9)], none⟩, 13, 8191, []⟩, ⟨⟨some 19, .buildSl 1 [.t 7, .t 18], none⟩, 14, 16383, []⟩, ⟨⟨some 20, .call 507 [.t 19], none⟩, 15, 32767, []⟩, ⟨⟨some 4, .mv (.t 20), none⟩, 16, 65535, []⟩] [4])
 (.ret))
def f122 : VFunc := ⟨false, [.tmp 4], b122, none⟩

/-- (*shunter/image.checker).meta$1 -/
def b123 : VCode := .seq (.reg [⟨some 3, .mv (.c (.str [])), none⟩] [0, 1])
 (.seq (.reg [⟨some 4, .load false 1 (.t 1), none⟩, ⟨some 5, .nilchk (.t 4), none⟩, ⟨some 6, .faddr 0 (.t 5), none⟩, ⟨some 7, .faddr 3 (.t 6), none⟩, ⟨some 8, .load false 1 (.t 7), none⟩, ⟨some 9, .mv (.t 0), none⟩, ⟨some 10, .iaddr 2 (.t 8) (.t 9), none⟩, ⟨some 11, .faddr 0 (.t 10), none⟩, ⟨some 12, .load false 1 (.t 11), none⟩, ⟨some 3, .mv (.t 12), none⟩] [3])
 (.ret))
def f123 : VFunc := ⟨false, [.tmp 3], b123, none⟩

/-- (*shunter/image.checker).meter -/
def b124 : VCode := .seq (.reg [⟨some 2, .box (.t 0), none⟩, ⟨some 4, .mv (.c (.int .i64 0)), none⟩] [1, 2])
 (.seq (.reg [⟨some 6, .load false 1 (.t 2), none⟩, ⟨some 7, .nilchk (.t 6), none⟩, ⟨some 8, .faddr 0 (.t 7), none⟩, ⟨some 9, .faddr 14 (.t 8), none⟩, ⟨some 10, .load false 1 (.t 9), none⟩, ⟨some 11, .mv (.t 1), none⟩, ⟨some 12, .iaddr 4 (.t 10) (.t 11), none⟩, ⟨some 13, .load true 4 (.t 12), none⟩, ⟨some 5, .alloc (.agg [.str [], .int .i64 0, .int .i64 0, .int .i64 0]), none⟩, ⟨none, .store 4 false (.t 5) (.t 13), none⟩] [1, 2, 5])
 (.seq (.drw [⟨⟨some 14, .mv (.t 1), none⟩, 0, 0, []⟩, ⟨⟨some 15, .mkfn 125 [] [.t 2], none⟩, 1, 0, []⟩, ⟨⟨some 17, .faddr 1 (.t 5), none⟩, 3, 0, []⟩, ⟨⟨some 20, .faddr 2 (.t 5), none⟩, 6, 0, []⟩, ⟨⟨some 18, .load false 1 (.t 17), none⟩, 4, 8, []⟩, ⟨⟨some 21, .load false 1 (.t 20), none⟩, 7, 64, []⟩, ⟨⟨some 16, .call 520 [.t 14, .t 15], none⟩, 2, 3, []⟩, ⟨⟨some 19, .call 509 [.t 18], none⟩, 5, 31, []⟩, ⟨⟨some 22, .call 522 [.t 21, .c (.int .i64 0), .c (.int .i64 65535)], none⟩, 8, 255, []⟩, ⟨⟨some 23, .mv (.t 22), none⟩, 9, 511, []⟩, ⟨⟨some 24, .faddr 3 (.t 5), (some (23, true))⟩, 10, 1023, []⟩, ⟨⟨some 25, .load false 1 (.t 24), (some (23, true))⟩, 11, 2047, []⟩, ⟨⟨some 26, .call 522 [.t 25, .c (.int .i64 1), .c (.int .i64 1048576)], (some (23, true))⟩, 12, 4095, []⟩, ⟨⟨some 27, .pick (.t 23) (.t 26) (.c (.bool false)), none⟩, 13, 8191, []⟩, ⟨⟨some 28, .call 521 [.t 27, .c (.int .i64 7)], none⟩, 14, 16383, []⟩, ⟨⟨some 29, .buildSl 1 [.t 16, .t 19, .t 28], none⟩, 15, 32767, []⟩, ⟨⟨some 30, .call 507 [.t 29], none⟩, 16, 65535, []⟩, ⟨⟨some 4, .mv (.t 30), none⟩, 17, 131071, []⟩] [4])
 (.ret)))
def f124 : VFunc := ⟨false, [.tmp 4], b124, none⟩

/-- (*shunter/image.checker).meter$1 -/
def b125 : VCode := .seq (.reg [⟨some 3, .mv (.c (.str [])), none⟩] [0, 1])
 (.seq (.reg [⟨some 4, .load false 1 (.t 1), none⟩, ⟨some 5, .nilchk (.t 4), none⟩, ⟨some 6, .faddr 0 (.t 5), none⟩, ⟨some 7, .faddr 14 (.t 6), none⟩, ⟨some 8, .load false 1 (.t 7), none⟩, ⟨some 9, .mv (.t 0), none⟩, ⟨some 10, .iaddr 4 (.t 8) (.t 9), none⟩, ⟨some 11, .faddr 0 (.t 10), none⟩, ⟨some 12, .load false 1 (.t 11), none⟩, ⟨some 3, .mv (.t 12), none⟩] [3])
 (.ret))
def f125 : VFunc := ⟨false, [.tmp 3], b125, none⟩

/-- (*shunter/image.checker).names -/
def b126 : VCode := .seq (.reg [⟨some 3, .box (.t 1), none⟩, ⟨some 4, .mv (.c (.bool false)), none⟩] [0, 3])
 (.seq (.seq (.reg [⟨some 7, .faddr 0 (.t 3), none⟩, ⟨some 8, .load false 1 (.t 7), none⟩] [0, 3, 8])
 (.blk 0 (.seq (.reg [⟨some 10, .bin .eql (.t 8) (.c (.int .i64 0)), none⟩, ⟨some 9, .mv (.t 10), none⟩] [0, 3, 8, 9])
 (.cond (.t 9) (.seq (.drw [⟨⟨some 11, .faddr 1 (.t 3), none⟩, 0, 0, []⟩, ⟨⟨some 13, .mv (.t 0), none⟩, 2, 0, []⟩, ⟨⟨some 14, .nilchk (.t 13), none⟩, 3, 4, []⟩, ⟨⟨some 15, .faddr 0 (.t 14), none⟩, 4, 12, []⟩, ⟨⟨some 16, .faddr 6 (.t 15), none⟩, 5, 28, []⟩, ⟨⟨some 12, .load false 1 (.t 11), none⟩, 1, 1, []⟩, ⟨⟨some 17, .load false 1 (.t 16), none⟩, 6, 60, []⟩, ⟨⟨some 18, .len false (.t 17), none⟩, 7, 124, []⟩, ⟨⟨some 19, .bin .sub (.t 18) (.c (.int .i64 1)), none⟩, 8, 252, []⟩, ⟨⟨some 20, .call 522 [.t 12, .c (.int .i64 0), .t 19], none⟩, 9, 511, []⟩, ⟨⟨some 4, .mv (.t 20), none⟩, 10, 1023, []⟩] [4])
 (.ret))
 (.seq (.reg [⟨some 22, .bin .eql (.t 8) (.c (.int .i64 2)), none⟩, ⟨some 21, .mv (.t 22), none⟩] [0, 3, 8, 21])
 (.cond (.t 21) (.seq (.drw [⟨⟨some 23, .faddr 1 (.t 3), none⟩, 0, 0, []⟩, ⟨⟨some 25, .mv (.t 0), none⟩, 2, 0, []⟩, ⟨⟨some 26, .nilchk (.t 25), none⟩, 3, 4, []⟩, ⟨⟨some 27, .faddr 0 (.t 26), none⟩, 4, 12, []⟩, ⟨⟨some 28, .faddr 5 (.t 27), none⟩, 5, 28, []⟩, ⟨⟨some 24, .load false 1 (.t 23), none⟩, 1, 1, []⟩, ⟨⟨some 29, .load false 1 (.t 28), none⟩, 6, 60, []⟩, ⟨⟨some 30, .len false (.t 29), none⟩, 7, 124, []⟩, ⟨⟨some 31, .bin .sub (.t 30) (.c (.int .i64 1)), none⟩, 8, 252, []⟩, ⟨⟨some 32, .call 522 [.t 24, .c (.int .i64 0), .t 31], none⟩, 9, 511, []⟩, ⟨⟨some 4, .mv (.t 32), none⟩, 10, 1023, []⟩] [4])
 (.ret))
 (.seq (.reg [⟨some 34, .bin .eql (.t 8) (.c (.int .i64 1)), none⟩, ⟨some 33, .mv (.t 34), none⟩] [0, 3, 33])
 (.cond (.t 33) (.seq (.reg [⟨some 35, .faddr 1 (.t 3), none⟩, ⟨some 36, .load false 1 (.t 35), none⟩, ⟨some 37, .bin .eql (.t 36) (.c (.int .i64 0)), none⟩, ⟨some 4, .mv (.t 37), none⟩] [4])
 (.ret))
 (.skip)))))))))
 (.seq (.drw [⟨⟨some 39, .mv (.t 0), none⟩, 0, 0, []⟩, ⟨⟨some 40, .nilchk (.t 39), none⟩, 1, 1, []⟩, ⟨⟨some 41, .faddr 0 (.t 40), none⟩, 2, 3, []⟩, ⟨⟨some 43, .faddr 1 (.t 3), none⟩, 4, 0, []⟩, ⟨⟨some 42, .load true 18 (.t 41), none⟩, 3, 7, []⟩, ⟨⟨some 44, .load false 1 (.t 43), none⟩, 5, 16, []⟩, ⟨⟨some 5, .alloc (.agg [.str [], .sl 2 [] .nl, .int .i64 0, .int .i64 0, .int .i64 0, .int .i64 0]), none⟩, 10, 0, []⟩, ⟨⟨some 45, .call 493 [.t 42, .t 44], none⟩, 6, 63, []⟩, ⟨⟨some 38, .mv (.t 45), none⟩, 7, 127, []⟩, ⟨⟨some 46, .ext (.t 38) 0, none⟩, 8, 255, []⟩, ⟨⟨some 47, .ext (.t 38) 1, none⟩, 9, 255, []⟩, ⟨⟨none, .store 6 true (.t 5) (.t 46), none⟩, 11, 1535, []⟩, ⟨⟨some 6, .mv (.t 47), none⟩, 12, 4095, []⟩] [6])
 (.seq (.reg [⟨some 48, .mv (.t 6), none⟩, ⟨some 4, .mv (.t 48), none⟩] [4])
 (.ret))))
def f126 : VFunc := ⟨false, [.tmp 4], b126, none⟩

/-- (*shunter/image.checker).next -/
def b127 : VCode := .seq (.reg [⟨some 4, .mv (.c (.int .i64 0)), none⟩] [0, 1])
 (.seq (.reg [⟨some 5, .mv (.t 1), none⟩, ⟨some 6, .mv (.t 0), none⟩, ⟨some 7, .nilchk (.t 6), none⟩, ⟨some 8, .faddr 0 (.t 7), none⟩, ⟨some 9, .faddr 4 (.t 8), none⟩, ⟨some 10, .load false 1 (.t 9), none⟩, ⟨some 11, .len false (.t 10), none⟩, ⟨some 12, .bin .sub (.t 11) (.c (.int .i64 1)), none⟩, ⟨some 13, .call 522 [.t 5, .c (.int .i64 0), .t 12], none⟩, ⟨some 14, .mv (.t 13), none⟩, ⟨some 15, .mv (.t 1), (some (14, false))⟩, ⟨some 16, .bin .eql (.t 15) (.c (.int .i64 (-1))), (some (14, false))⟩, ⟨some 17, .pick (.t 14) (.c (.bool true)) (.t 16), none⟩, ⟨some 18, .mv (.t 17), none⟩, ⟨some 19, .mv (.t 1), (some (18, false))⟩, ⟨some 20, .bin .eql (.t 19) (.c (.int .i64 (-2))), (some (18, false))⟩, ⟨some 21, .pick (.t 18) (.c (.bool true)) (.t 20), none⟩, ⟨some 22, .call 521 [.t 21, .c (.int .i64 5)], none⟩, ⟨some 4, .mv (.t 22), none⟩] [4])
 (.ret))
def f127 : VFunc := ⟨false, [.tmp 4], b127, none⟩

/-- (*shunter/image.checker).node -/
def b128 : VCode := .seq (.reg [⟨some 5, .box (.t 1), none⟩, ⟨some 8, .mv (.c (.int .i64 0)), none⟩] [0, 2, 3, 5])
 (.seq (.drw [⟨⟨some 10, .faddr 0 (.t 5), none⟩, 0, 0, []⟩, ⟨⟨some 14, .mv (.t 0), none⟩, 4, 0, []⟩, ⟨⟨some 11, .load false 1 (.t 10), none⟩, 1, 1, []⟩, ⟨⟨some 15, .load true 6 (.t 5), none⟩, 5, 0, []⟩, ⟨⟨some 12, .call 522 [.t 11, .c (.int .i64 0), .c (.int .i64 3)], none⟩, 2, 3, []⟩, ⟨⟨some 13, .call 521 [.t 12, .c (.int .i64 10)], none⟩, 3, 7, []⟩, ⟨⟨some 16, .call 126 [.t 14, .t 15], none⟩, 6, 63, []⟩, ⟨⟨some 17, .call 521 [.t 16, .c (.int .i64 5)], none⟩, 7, 127, []⟩, ⟨⟨some 18, .buildSl 1 [.t 13, .t 17], none⟩, 8, 255, []⟩, ⟨⟨some 19, .call 507 [.t 18], none⟩, 9, 511, []⟩, ⟨⟨some 9, .mv (.t 19), none⟩, 10, 1023, []⟩] [0, 2, 3, 5, 9])
 (.seq (.seq (.reg [⟨some 20, .mv (.t 9), none⟩, ⟨some 21, .bin .neq (.t 20) (.c (.int .i64 0)), none⟩] [0, 2, 3, 5, 9, 21])
 (.cond (.t 21) (.seq (.reg [⟨some 22, .mv (.t 9), none⟩, ⟨some 8, .mv (.t 22), none⟩] [8])
 (.ret))
 (.skip)))
 (.seq (.seq (.reg [⟨some 23, .faddr 0 (.t 5), none⟩, ⟨some 24, .load false 1 (.t 23), none⟩, ⟨some 25, .bin .eql (.t 24) (.c (.int .i64 1)), none⟩] [0, 2, 3, 5, 25])
 (.cond (.t 25) (.reg [⟨some 26, .mv (.t 0), none⟩, ⟨some 27, .faddr 2 (.t 5), none⟩, ⟨some 28, .load false 1 (.t 27), none⟩, ⟨some 29, .call 114 [.t 26, .t 28, .c (.sl 1 [] .nl)], none⟩, ⟨some 9, .mv (.t 29), none⟩] [0, 2, 3, 5, 9])
 (.reg [⟨some 30, .faddr 2 (.t 5), none⟩, ⟨some 31, .load false 1 (.t 30), none⟩, ⟨some 32, .len false (.t 31), none⟩, ⟨some 33, .bin .eql (.t 32) (.c (.int .i64 0)), none⟩, ⟨some 34, .call 521 [.t 33, .c (.int .i64 4)], none⟩, ⟨some 9, .mv (.t 34), none⟩] [0, 2, 3, 5, 9])))
 (.seq (.seq (.reg [⟨some 35, .mv (.t 9), none⟩, ⟨some 36, .bin .neq (.t 35) (.c (.int .i64 0)), none⟩] [0, 2, 3, 5, 9, 36])
 (.cond (.t 36) (.seq (.reg [⟨some 37, .mv (.t 9), none⟩, ⟨some 8, .mv (.t 37), none⟩] [8])
 (.ret))
 (.skip)))
 (.seq (.seq (.reg [⟨some 38, .faddr 0 (.t 5), none⟩, ⟨some 39, .load false 1 (.t 38), none⟩, ⟨some 40, .bin .eql (.t 39) (.c (.int .i64 2)), none⟩] [0, 2, 3, 5, 40])
 (.cond (.t 40) (.drw [⟨⟨some 41, .mv (.t 0), none⟩, 0, 0, []⟩, ⟨⟨some 42, .faddr 1 (.t 5), none⟩, 1, 0, []⟩, ⟨⟨some 44, .faddr 3 (.t 5), none⟩, 3, 0, []⟩, ⟨⟨some 47, .faddr 5 (.t 5), none⟩, 6, 0, []⟩, ⟨⟨some 43, .load false 1 (.t 42), none⟩, 2, 2, []⟩, ⟨⟨some 45, .load false 1 (.t 44), none⟩, 4, 8, []⟩, ⟨⟨some 48, .load false 1 (.t 47), none⟩, 7, 64, []⟩, ⟨⟨some 49, .bin .eql (.t 48) (.c (.int .i64 0)), none⟩, 8, 192, []⟩, ⟨⟨some 46, .call 111 [.t 41, .t 43, .t 45], none⟩, 5, 31, []⟩, ⟨⟨some 50, .call 521 [.t 49, .c (.int .i64 4)], none⟩, 9, 511, []⟩, ⟨⟨some 51, .buildSl 1 [.t 46, .t 50], none⟩, 10, 1023, []⟩, ⟨⟨some 52, .call 507 [.t 51], none⟩, 11, 2047, []⟩, ⟨⟨some 9, .mv (.t 52), none⟩, 12, 4095, []⟩] [2, 3, 5, 9])
 (.drw [⟨⟨some 53, .faddr 3 (.t 5), none⟩, 0, 0, []⟩, ⟨⟨some 58, .faddr 5 (.t 5), none⟩, 5, 0, []⟩, ⟨⟨some 60, .mv (.t 2), none⟩, 7, 0, []⟩, ⟨⟨some 61, .bin .add (.t 60) (.c (.int .i64 1)), none⟩, 8, 128, []⟩, ⟨⟨some 62, .mv (.t 3), none⟩, 9, 0, []⟩, ⟨⟨some 54, .load false 1 (.t 53), none⟩, 1, 1, []⟩, ⟨⟨some 55, .len false (.t 54), none⟩, 2, 3, []⟩, ⟨⟨some 56, .bin .eql (.t 55) (.c (.int .i64 0)), none⟩, 3, 7, []⟩, ⟨⟨some 59, .load false 1 (.t 58), none⟩, 6, 32, []⟩, ⟨⟨some 57, .call 521 [.t 56, .c (.int .i64 4)], none⟩, 4, 15, []⟩, ⟨⟨some 63, .call 522 [.t 59, .t 61, .t 62], none⟩, 10, 1023, []⟩, ⟨⟨some 64, .call 521 [.t 63, .c (.int .i64 12)], none⟩, 11, 2047, []⟩, ⟨⟨some 65, .buildSl 1 [.t 57, .t 64], none⟩, 12, 4095, []⟩, ⟨⟨some 66, .call 507 [.t 65], none⟩, 13, 8191, []⟩, ⟨⟨some 9, .mv (.t 66), none⟩, 14, 16383, []⟩] [2, 3, 5, 9])))
 (.seq (.reg [⟨some 67, .mv (.t 9), none⟩, ⟨some 68, .faddr 4 (.t 5), none⟩, ⟨some 69, .load false 1 (.t 68), none⟩, ⟨some 70, .mv (.t 2), none⟩, ⟨some 71, .bin .add (.t 70) (.c (.int .i64 1)), none⟩, ⟨some 72, .mv (.t 3), none⟩, ⟨some 73, .call 522 [.t 69, .t 71, .t 72], none⟩, ⟨some 74, .call 521 [.t 73, .c (.int .i64 12)], none⟩, ⟨some 75, .buildSl 1 [.t 67, .t 74], none⟩, ⟨some 76, .call 507 [.t 75], none⟩, ⟨some 8, .mv (.t 76), none⟩] [8])
 (.ret)))))))
def f128 : VFunc := ⟨false, [.tmp 8], b128, none⟩

/-- (*shunter/image.checker).nodes -/
def b129 : VCode := .seq (.reg [⟨some 2, .box (.t 0), none⟩, ⟨some 3, .box (.t 1), none⟩, ⟨some 4, .mv (.c (.int .i64 0)), none⟩, ⟨some 5, .mv (.c (.int .i64 0)), none⟩] [2, 3])
 (.seq (.reg [⟨some 6, .load false 1 (.t 3), none⟩, ⟨some 7, .len false (.t 6), none⟩, ⟨some 8, .mkfn 130 [] [.t 2, .t 3], none⟩, ⟨some 9, .call 501 [.t 7, .c (.int .i64 32), .t 8], none⟩, ⟨some 10, .ext (.t 9) 0, none⟩, ⟨some 11, .ext (.t 9) 1, none⟩, ⟨some 4, .mv (.t 10), none⟩, ⟨some 5, .mv (.t 11), none⟩] [4, 5])
 (.ret))
def f129 : VFunc := ⟨false, [.tmp 4, .tmp 5], b129, none⟩

/-- (*shunter/image.checker).nodes$1 -/
def b130 : VCode := .seq (.reg [⟨some 4, .mv (.c (.int .i64 0)), none⟩] [0, 1, 2])
 (.seq (.drw [⟨⟨some 7, .mv (.t 0), none⟩, 2, 0, []⟩, ⟨⟨some 10, .mv (.t 0), none⟩, 5, 0, []⟩, ⟨⟨some 5, .load false 1 (.t 1), none⟩, 0, 0, []⟩, ⟨⟨some 6, .load false 1 (.t 2), none⟩, 1, 0, []⟩, ⟨⟨some 8, .iaddr 6 (.t 6) (.t 7), none⟩, 3, 6, []⟩, ⟨⟨some 9, .load true 6 (.t 8), none⟩, 4, 14, []⟩, ⟨⟨some 11, .load false 1 (.t 2), none⟩, 6, 0, []⟩, ⟨⟨some 12, .len false (.t 11), none⟩, 7, 64, []⟩, ⟨⟨some 13, .call 128 [.t 5, .t 9, .t 10, .t 12], none⟩, 8, 255, []⟩, ⟨⟨some 4, .mv (.t 13), none⟩, 9, 511, []⟩] [4])
 (.ret))
def f130 : VFunc := ⟨false, [.tmp 4], b130, none⟩

/-- (*shunter/image.checker).one -/
def b131 : VCode := .seq (.reg [⟨some 4, .box (.t 1), none⟩, ⟨some 6, .mv (.c (.int .i64 0)), none⟩] [0, 2, 4])
 (.seq (.seq (.reg [⟨some 9, .faddr 0 (.t 4), none⟩, ⟨some 10, .load true 3 (.t 9), none⟩, ⟨some 11, .call 1090 [.t 10], none⟩, ⟨some 12, .un .not (.t 11), none⟩, ⟨some 13, .mv (.t 12), none⟩, ⟨some 14, .faddr 3 (.t 4), (some (13, false))⟩, ⟨some 15, .load true 3 (.t 14), (some (13, false))⟩, ⟨some 16, .call 1090 [.t 15], (some (13, false))⟩, ⟨some 17, .un .not (.t 16), (some (13, false))⟩, ⟨some 18, .pick (.t 13) (.c (.bool true)) (.t 17), none⟩, ⟨some 19, .mv (.t 18), none⟩, ⟨some 20, .faddr 0 (.t 4), (some (19, false))⟩, ⟨some 21, .faddr 0 (.t 20), (some (19, false))⟩, ⟨some 22, .load false 1 (.t 21), (some (19, false))⟩, ⟨some 23, .mv (.t 2), (some (19, false))⟩, ⟨some 24, .bin .neq (.t 22) (.t 23), (some (19, false))⟩, ⟨some 25, .pick (.t 19) (.c (.bool true)) (.t 24), none⟩, ⟨some 26, .mv (.t 25), none⟩, ⟨some 27, .faddr 3 (.t 4), (some (26, false))⟩, ⟨some 28, .faddr 0 (.t 27), (some (26, false))⟩, ⟨some 29, .load false 1 (.t 28), (some (26, false))⟩, ⟨some 30, .mv (.t 2), (some (26, false))⟩, ⟨some 31, .bin .neq (.t 29) (.t 30), (some (26, false))⟩, ⟨some 32, .pick (.t 26) (.c (.bool true)) (.t 31), none⟩] [0, 4, 32])
 (.cond (.t 32) (.seq (.reg [⟨some 6, .mv (.c (.int .i64 9)), none⟩] [6])
 (.ret))
 (.skip)))
 (.seq (.reg [⟨some 34, .faddr 0 (.t 4), none⟩, ⟨some 35, .load true 3 (.t 34), none⟩, ⟨some 36, .faddr 3 (.t 4), none⟩, ⟨some 37, .load true 3 (.t 36), none⟩, ⟨some 38, .call 1082 [.t 35, .t 37], none⟩, ⟨some 33, .mv (.t 38), none⟩, ⟨some 39, .ext (.t 33) 0, none⟩, ⟨some 40, .ext (.t 33) 1, none⟩, ⟨some 7, .alloc (.agg [.int .i64 0, .int .u64 0, .int .u64 0]), none⟩, ⟨none, .store 3 false (.t 7) (.t 39), none⟩, ⟨some 8, .mv (.t 40), none⟩] [0, 4, 7])
 (.seq (.drw [⟨⟨some 42, .faddr 0 (.t 4), none⟩, 1, 0, []⟩, ⟨⟨some 46, .mv (.t 0), none⟩, 5, 0, []⟩, ⟨⟨some 47, .faddr 6 (.t 4), none⟩, 6, 0, []⟩, ⟨⟨some 41, .load true 3 (.t 7), none⟩, 0, 0, []⟩, ⟨⟨some 43, .load true 3 (.t 42), none⟩, 2, 2, []⟩, ⟨⟨some 44, .eq false (some [.i, .i, .i]) (.t 41) (.t 43), none⟩, 3, 7, []⟩, ⟨⟨some 48, .load false 1 (.t 47), none⟩, 7, 64, []⟩, ⟨⟨some 45, .call 521 [.t 44, .c (.int .i64 14)], none⟩, 4, 15, []⟩, ⟨⟨some 49, .call 127 [.t 46, .t 48], none⟩, 8, 255, []⟩, ⟨⟨some 50, .buildSl 1 [.t 45, .t 49], none⟩, 9, 511, []⟩, ⟨⟨some 51, .call 507 [.t 50], none⟩, 10, 1023, []⟩, ⟨⟨some 6, .mv (.t 51), none⟩, 11, 2047, []⟩] [6])
 (.ret))))
def f131 : VFunc := ⟨false, [.tmp 6], b131, none⟩

def l132_0 : VCode := .seq (.reg [⟨some 27, .bin .lss (.t 26) (.t 25), none⟩] [0, 1, 6, 7, 25, 26, 27])
 (.seq (.cond (.t 27) (.skip)
 (.exit 0))
 (.seq (.blk 1 (.seq (.reg [⟨some 28, .mv (.t 26), none⟩, ⟨some 8, .mv (.t 28), none⟩] [0, 1, 6, 7, 8, 25, 26])
 (.drw [⟨⟨some 29, .mv (.t 7), none⟩, 0, 0, []⟩, ⟨⟨some 30, .mv (.t 29), none⟩, 1, 1, []⟩, ⟨⟨some 31, .mv (.t 0), (some (30, false))⟩, 2, 3, []⟩, ⟨⟨some 32, .nilchk (.t 31), (some (30, false))⟩, 3, 7, []⟩, ⟨⟨some 33, .faddr 0 (.t 32), (some (30, false))⟩, 4, 15, []⟩, ⟨⟨some 34, .faddr 9 (.t 33), (some (30, false))⟩, 5, 31, []⟩, ⟨⟨some 36, .mv (.t 8), (some (30, false))⟩, 7, 3, []⟩, ⟨⟨some 39, .mv (.t 0), (some (30, false))⟩, 10, 3, []⟩, ⟨⟨some 40, .nilchk (.t 39), (some (30, false))⟩, 11, 1027, []⟩, ⟨⟨some 41, .faddr 0 (.t 40), (some (30, false))⟩, 12, 3075, []⟩, ⟨⟨some 42, .faddr 9 (.t 41), (some (30, false))⟩, 13, 7171, []⟩, ⟨⟨some 44, .mv (.t 1), (some (30, false))⟩, 15, 3, []⟩, ⟨⟨some 35, .load false 1 (.t 34), (some (30, false))⟩, 6, 63, []⟩, ⟨⟨some 37, .iaddr 1 (.t 35) (.t 36), (some (30, false))⟩, 8, 255, []⟩, ⟨⟨some 38, .load false 1 (.t 37), (some (30, false))⟩, 9, 511, []⟩, ⟨⟨some 43, .load false 1 (.t 42), (some (30, false))⟩, 14, 15363, []⟩, ⟨⟨some 45, .iaddr 1 (.t 43) (.t 44), (some (30, false))⟩, 16, 64515, []⟩, ⟨⟨some 46, .load false 1 (.t 45), (some (30, false))⟩, 17, 130051, []⟩, ⟨⟨some 47, .bin .eql (.t 38) (.t 46), (some (30, false))⟩, 18, 262143, []⟩, ⟨⟨some 48, .pick (.t 30) (.c (.bool true)) (.t 47), none⟩, 19, 524287, []⟩, ⟨⟨some 7, .mv (.t 48), none⟩, 20, 1048575, []⟩] [0, 1, 6, 7, 25, 26])))
 (.reg [⟨some 49, .bin .add (.t 26) (.c (.int .i64 1)), none⟩, ⟨some 26, .mv (.t 49), none⟩] [0, 1, 6, 7, 25, 26])))
def L132_0 : VCode := l132_0
/-- (*shunter/image.checker).out -/
def b132 : VCode := .seq (.reg [⟨some 4, .mv (.c (.int .i64 0)), none⟩] [0, 1])
 (.seq (.drw [⟨⟨some 10, .mv (.t 0), none⟩, 0, 0, []⟩, ⟨⟨some 11, .nilchk (.t 10), none⟩, 1, 1, []⟩, ⟨⟨some 12, .faddr 0 (.t 11), none⟩, 2, 3, []⟩, ⟨⟨some 14, .mv (.t 0), none⟩, 4, 0, []⟩, ⟨⟨some 15, .nilchk (.t 14), none⟩, 5, 16, []⟩, ⟨⟨some 16, .faddr 0 (.t 15), none⟩, 6, 48, []⟩, ⟨⟨some 17, .faddr 9 (.t 16), none⟩, 7, 112, []⟩, ⟨⟨some 19, .mv (.t 1), none⟩, 9, 0, []⟩, ⟨⟨some 13, .load true 18 (.t 12), none⟩, 3, 7, []⟩, ⟨⟨some 18, .load false 1 (.t 17), none⟩, 8, 240, []⟩, ⟨⟨some 20, .iaddr 1 (.t 18) (.t 19), none⟩, 10, 1008, []⟩, ⟨⟨some 21, .load false 1 (.t 20), none⟩, 11, 2032, []⟩, ⟨⟨some 5, .alloc (.agg [.str [], .sl 2 [] .nl, .int .i64 0, .int .i64 0, .int .i64 0, .int .i64 0]), none⟩, 16, 0, []⟩, ⟨⟨some 22, .call 493 [.t 13, .t 21], none⟩, 12, 4095, []⟩, ⟨⟨some 9, .mv (.t 22), none⟩, 13, 8191, []⟩, ⟨⟨some 23, .ext (.t 9) 0, none⟩, 14, 16383, []⟩, ⟨⟨some 24, .ext (.t 9) 1, none⟩, 15, 16383, []⟩, ⟨⟨none, .store 6 true (.t 5) (.t 23), none⟩, 17, 98303, []⟩, ⟨⟨some 6, .mv (.t 24), none⟩, 18, 262143, []⟩] [0, 1, 6])
 (.seq (.reg [⟨some 7, .mv (.c (.bool false)), none⟩] [0, 1, 6, 7])
 (.seq (.seq (.reg [⟨some 25, .mv (.t 1), none⟩, ⟨some 26, .mv (.c (.int .i64 0)), none⟩] [0, 1, 6, 7, 25, 26])
 (.blk 0 (.loop [0, 1, 6, 7, 25, 26] (L132_0))))
 (.seq (.reg [⟨some 50, .mv (.t 6), none⟩, ⟨some 51, .call 521 [.t 50, .c (.int .i64 5)], none⟩, ⟨some 52, .mv (.t 7), none⟩, ⟨some 53, .un .not (.t 52), none⟩, ⟨some 54, .call 521 [.t 53, .c (.int .i64 6)], none⟩, ⟨some 55, .buildSl 1 [.t 51, .t 54], none⟩, ⟨some 56, .call 507 [.t 55], none⟩, ⟨some 4, .mv (.t 56), none⟩] [4])
 (.ret)))))
def f132 : VFunc := ⟨false, [.tmp 4], b132, none⟩

/-- (*shunter/image.checker).part -/
def b133 : VCode := .seq (.reg [⟨some 4, .mv (.c (.int .i64 0)), none⟩, ⟨some 5, .mv (.c (.int .i64 0)), none⟩] [0, 1])
 (.seq (.reg [⟨some 7, .mv (.t 0), none⟩, ⟨some 8, .nilchk (.t 7), none⟩, ⟨some 9, .faddr 0 (.t 8), none⟩, ⟨some 10, .load true 18 (.t 9), none⟩, ⟨some 6, .alloc (.agg [.str [], .sl 6 [] .nl, .sl 3 [] .nl, .sl 2 [] .nl, .sl 5 [] .nl, .sl 3 [] .nl, .sl 7 [] .nl, .sl 6 [] .nl, .sl 6 [] .nl, .sl 1 [] .nl, .sl 2 [] .nl, .sl 2 [] .nl, .sl 3 [] .nl, .sl 2 [] .nl, .sl 4 [] .nl, .int .i64 0, .int .i64 0, .int .i64 0]), none⟩, ⟨none, .store 18 true (.t 6) (.t 10), none⟩] [0, 1, 6])
 (.seq (.seq (.reg [⟨some 11, .mv (.t 1), none⟩] [0, 6, 11])
 (.blk 0 (.seq (.reg [⟨some 13, .bin .eql (.t 11) (.c (.int .i64 0)), none⟩, ⟨some 12, .mv (.t 13), none⟩] [0, 6, 11, 12])
 (.cond (.t 12) (.seq (.drw [⟨⟨some 14, .faddr 0 (.t 6), none⟩, 0, 0, []⟩, ⟨⟨some 18, .faddr 15 (.t 6), none⟩, 4, 0, []⟩, ⟨⟨some 15, .load false 1 (.t 14), none⟩, 1, 1, []⟩, ⟨⟨some 19, .load false 1 (.t 18), none⟩, 5, 16, []⟩, ⟨⟨some 16, .call 562 [.t 15], none⟩, 2, 3, []⟩, ⟨⟨some 17, .call 521 [.t 16, .c (.int .i64 4)], none⟩, 3, 7, []⟩, ⟨⟨some 20, .call 522 [.t 19, .c (.int .i64 1), .c (.int .i64 64)], none⟩, 6, 63, []⟩, ⟨⟨some 21, .mv (.t 20), none⟩, 7, 127, []⟩, ⟨⟨some 22, .faddr 16 (.t 6), (some (21, true))⟩, 8, 255, []⟩, ⟨⟨some 23, .load false 1 (.t 22), (some (21, true))⟩, 9, 511, []⟩, ⟨⟨some 24, .call 522 [.t 23, .c (.int .i64 1), .c (.int .i64 32)], (some (21, true))⟩, 10, 1023, []⟩, ⟨⟨some 25, .pick (.t 21) (.t 24) (.c (.bool false)), none⟩, 11, 2047, []⟩, ⟨⟨some 26, .mv (.t 25), none⟩, 12, 4095, []⟩, ⟨⟨some 27, .faddr 17 (.t 6), (some (26, true))⟩, 13, 8191, []⟩, ⟨⟨some 28, .load false 1 (.t 27), (some (26, true))⟩, 14, 16383, []⟩, ⟨⟨some 29, .call 522 [.t 28, .c (.int .i64 0), .c (.int .i64 4)], (some (26, true))⟩, 15, 32767, []⟩, ⟨⟨some 30, .pick (.t 26) (.t 29) (.c (.bool false)), none⟩, 16, 65535, []⟩, ⟨⟨some 31, .call 521 [.t 30, .c (.int .i64 7)], none⟩, 17, 131071, []⟩, ⟨⟨some 32, .buildSl 1 [.t 17, .t 31], none⟩, 18, 262143, []⟩, ⟨⟨some 33, .call 507 [.t 32], none⟩, 19, 524287, []⟩, ⟨⟨some 4, .mv (.c (.int .i64 0)), none⟩, 20, 1048575, []⟩, ⟨⟨some 5, .mv (.t 33), none⟩, 21, 2097151, []⟩] [4, 5])
 (.ret))
 (.seq (.reg [⟨some 35, .bin .eql (.t 11) (.c (.int .i64 1)), none⟩, ⟨some 34, .mv (.t 35), none⟩] [0, 6, 11, 34])
 (.cond (.t 34) (.seq (.reg [⟨some 36, .faddr 1 (.t 6), none⟩, ⟨some 37, .load false 1 (.t 36), none⟩, ⟨some 38, .len false (.t 37), none⟩, ⟨some 39, .mv (.t 0), none⟩, ⟨some 40, .mkfn 118 [.t 39] [], none⟩, ⟨some 41, .call 501 [.t 38, .c (.int .i64 16), .t 40], none⟩, ⟨some 42, .ext (.t 41) 0, none⟩, ⟨some 43, .ext (.t 41) 1, none⟩, ⟨some 4, .mv (.t 42), none⟩, ⟨some 5, .mv (.t 43), none⟩] [4, 5])
 (.ret))
 (.seq (.reg [⟨some 45, .bin .eql (.t 11) (.c (.int .i64 2)), none⟩, ⟨some 44, .mv (.t 45), none⟩] [0, 6, 11, 44])
 (.cond (.t 44) (.seq (.reg [⟨some 46, .faddr 1 (.t 6), none⟩, ⟨some 47, .load false 1 (.t 46), none⟩, ⟨some 48, .faddr 2 (.t 6), none⟩, ⟨some 49, .load false 1 (.t 48), none⟩, ⟨some 50, .call 640 [.t 47, .t 49], none⟩, ⟨some 4, .mv (.c (.int .i64 0)), none⟩, ⟨some 5, .mv (.t 50), none⟩] [4, 5])
 (.ret))
 (.seq (.reg [⟨some 52, .bin .eql (.t 11) (.c (.int .i64 3)), none⟩, ⟨some 51, .mv (.t 52), none⟩] [0, 6, 11, 51])
 (.cond (.t 51) (.seq (.reg [⟨some 53, .faddr 3 (.t 6), none⟩, ⟨some 54, .load false 1 (.t 53), none⟩, ⟨some 55, .len false (.t 54), none⟩, ⟨some 56, .mv (.t 0), none⟩, ⟨some 57, .mkfn 122 [.t 56] [], none⟩, ⟨some 58, .call 501 [.t 55, .c (.int .i64 16), .t 57], none⟩, ⟨some 59, .ext (.t 58) 0, none⟩, ⟨some 60, .ext (.t 58) 1, none⟩, ⟨some 4, .mv (.t 59), none⟩, ⟨some 5, .mv (.t 60), none⟩] [4, 5])
 (.ret))
 (.seq (.reg [⟨some 62, .bin .eql (.t 11) (.c (.int .i64 4)), none⟩, ⟨some 61, .mv (.t 62), none⟩] [0, 6, 11, 61])
 (.cond (.t 61) (.seq (.seq (.reg [⟨some 63, .faddr 4 (.t 6), none⟩, ⟨some 64, .load false 1 (.t 63), none⟩, ⟨some 65, .len false (.t 64), none⟩, ⟨some 66, .bin .eql (.t 65) (.c (.int .i64 0)), none⟩] [0, 6, 66])
 (.cond (.t 66) (.seq (.reg [⟨some 4, .mv (.c (.int .i64 0)), none⟩, ⟨some 5, .mv (.c (.int .i64 5)), none⟩] [4, 5])
 (.ret))
 (.skip)))
 (.seq (.reg [⟨some 67, .faddr 4 (.t 6), none⟩, ⟨some 68, .load false 1 (.t 67), none⟩, ⟨some 69, .len false (.t 68), none⟩, ⟨some 70, .mv (.t 0), none⟩, ⟨some 71, .mkfn 137 [.t 70] [], none⟩, ⟨some 72, .call 501 [.t 69, .c (.int .i64 16), .t 71], none⟩, ⟨some 73, .ext (.t 72) 0, none⟩, ⟨some 74, .ext (.t 72) 1, none⟩, ⟨some 4, .mv (.t 73), none⟩, ⟨some 5, .mv (.t 74), none⟩] [4, 5])
 (.ret)))
 (.seq (.reg [⟨some 76, .bin .eql (.t 11) (.c (.int .i64 5)), none⟩, ⟨some 75, .mv (.t 76), none⟩] [0, 6, 11, 75])
 (.cond (.t 75) (.seq (.reg [⟨some 77, .faddr 5 (.t 6), none⟩, ⟨some 78, .load false 1 (.t 77), none⟩, ⟨some 79, .len false (.t 78), none⟩, ⟨some 80, .mv (.t 0), none⟩, ⟨some 81, .mkfn 109 [.t 80] [], none⟩, ⟨some 82, .call 501 [.t 79, .c (.int .i64 32), .t 81], none⟩, ⟨some 83, .ext (.t 82) 0, none⟩, ⟨some 84, .ext (.t 82) 1, none⟩, ⟨some 4, .mv (.t 83), none⟩, ⟨some 5, .mv (.t 84), none⟩] [4, 5])
 (.ret))
 (.seq (.reg [⟨some 86, .bin .eql (.t 11) (.c (.int .i64 6)), none⟩, ⟨some 85, .mv (.t 86), none⟩] [0, 6, 11, 85])
 (.cond (.t 85) (.seq (.reg [⟨some 87, .faddr 6 (.t 6), none⟩, ⟨some 88, .load false 1 (.t 87), none⟩, ⟨some 89, .len false (.t 88), none⟩, ⟨some 90, .mv (.t 0), none⟩, ⟨some 91, .mkfn 141 [.t 90] [], none⟩, ⟨some 92, .call 501 [.t 89, .c (.int .i64 8), .t 91], none⟩, ⟨some 93, .ext (.t 92) 0, none⟩, ⟨some 94, .ext (.t 92) 1, none⟩, ⟨some 4, .mv (.t 93), none⟩, ⟨some 5, .mv (.t 94), none⟩] [4, 5])
 (.ret))
 (.seq (.reg [⟨some 96, .bin .eql (.t 11) (.c (.int .i64 7)), none⟩, ⟨some 95, .mv (.t 96), none⟩] [0, 6, 11, 95])
 (.cond (.t 95) (.seq (.reg [⟨some 97, .mv (.t 0), none⟩, ⟨some 98, .faddr 7 (.t 6), none⟩, ⟨some 99, .load false 1 (.t 98), none⟩, ⟨some 100, .call 129 [.t 97, .t 99], none⟩, ⟨some 101, .ext (.t 100) 0, none⟩, ⟨some 102, .ext (.t 100) 1, none⟩, ⟨some 4, .mv (.t 101), none⟩, ⟨some 5, .mv (.t 102), none⟩] [4, 5])
 (.ret))
 (.seq (.reg [⟨some 104, .bin .eql (.t 11) (.c (.int .i64 8)), none⟩, ⟨some 103, .mv (.t 104), none⟩] [0, 6, 11, 103])
 (.cond (.t 103) (.seq (.reg [⟨some 105, .mv (.t 0), none⟩, ⟨some 106, .faddr 8 (.t 6), none⟩, ⟨some 107, .load false 1 (.t 106), none⟩, ⟨some 108, .call 129 [.t 105, .t 107], none⟩, ⟨some 109, .ext (.t 108) 0, none⟩, ⟨some 110, .ext (.t 108) 1, none⟩, ⟨some 4, .mv (.t 109), none⟩, ⟨some 5, .mv (.t 110), none⟩] [4, 5])
 (.ret))
 (.seq (.reg [⟨some 112, .bin .eql (.t 11) (.c (.int .i64 9)), none⟩, ⟨some 111, .mv (.t 112), none⟩] [0, 6, 11, 111])
 (.cond (.t 111) (.seq (.reg [⟨some 113, .faddr 9 (.t 6), none⟩, ⟨some 114, .load false 1 (.t 113), none⟩, ⟨some 115, .len false (.t 114), none⟩, ⟨some 116, .mv (.t 0), none⟩, ⟨some 117, .mkfn 132 [.t 116] [], none⟩, ⟨some 118, .call 501 [.t 115, .c (.int .i64 32), .t 117], none⟩, ⟨some 119, .ext (.t 118) 0, none⟩, ⟨some 120, .ext (.t 118) 1, none⟩, ⟨some 4, .mv (.t 119), none⟩, ⟨some 5, .mv (.t 120), none⟩] [4, 5])
 (.ret))
 (.seq (.reg [⟨some 122, .bin .eql (.t 11) (.c (.int .i64 10)), none⟩, ⟨some 121, .mv (.t 122), none⟩] [0, 6, 11, 121])
 (.cond (.t 121) (.seq (.reg [⟨some 123, .mv (.t 0), none⟩, ⟨some 124, .faddr 10 (.t 6), none⟩, ⟨some 125, .load false 1 (.t 124), none⟩, ⟨some 126, .call 139 [.t 123, .t 125], none⟩, ⟨some 127, .ext (.t 126) 0, none⟩, ⟨some 128, .ext (.t 126) 1, none⟩, ⟨some 4, .mv (.t 127), none⟩, ⟨some 5, .mv (.t 128), none⟩] [4, 5])
 (.ret))
 (.seq (.reg [⟨some 130, .bin .eql (.t 11) (.c (.int .i64 11)), none⟩, ⟨some 129, .mv (.t 130), none⟩] [0, 6, 11, 129])
 (.cond (.t 129) (.seq (.reg [⟨some 131, .mv (.t 0), none⟩, ⟨some 132, .faddr 11 (.t 6), none⟩, ⟨some 133, .load false 1 (.t 132), none⟩, ⟨some 134, .call 139 [.t 131, .t 133], none⟩, ⟨some 135, .ext (.t 134) 0, none⟩, ⟨some 136, .ext (.t 134) 1, none⟩, ⟨some 4, .mv (.t 135), none⟩, ⟨some 5, .mv (.t 136), none⟩] [4, 5])
 (.ret))
 (.seq (.reg [⟨some 138, .bin .eql (.t 11) (.c (.int .i64 12)), none⟩, ⟨some 137, .mv (.t 138), none⟩] [0, 6, 11, 137])
 (.cond (.t 137) (.seq (.reg [⟨some 139, .faddr 12 (.t 6), none⟩, ⟨some 140, .load false 1 (.t 139), none⟩, ⟨some 141, .len false (.t 140), none⟩, ⟨some 142, .mv (.t 0), none⟩, ⟨some 143, .mkfn 135 [.t 142] [], none⟩, ⟨some 144, .call 501 [.t 141, .c (.int .i64 8), .t 143], none⟩, ⟨some 145, .ext (.t 144) 0, none⟩, ⟨some 146, .ext (.t 144) 1, none⟩, ⟨some 4, .mv (.t 145), none⟩, ⟨some 5, .mv (.t 146), none⟩] [4, 5])
 (.ret))
 (.seq (.reg [⟨some 148, .bin .eql (.t 11) (.c (.int .i64 13)), none⟩, ⟨some 147, .mv (.t 148), none⟩] [0, 6, 147])
 (.cond (.t 147) (.seq (.reg [⟨some 149, .faddr 13 (.t 6), none⟩, ⟨some 150, .load false 1 (.t 149), none⟩, ⟨some 151, .len false (.t 150), none⟩, ⟨some 152, .mv (.t 0), none⟩, ⟨some 153, .mkfn 115 [.t 152] [], none⟩, ⟨some 154, .call 501 [.t 151, .c (.int .i64 8), .t 153], none⟩, ⟨some 155, .ext (.t 154) 0, none⟩, ⟨some 156, .ext (.t 154) 1, none⟩, ⟨some 4, .mv (.t 155), none⟩, ⟨some 5, .mv (.t 156), none⟩] [4, 5])
 (.ret))
 (.skip)))))))))))))))))))))))))))))))
 (.seq (.reg [⟨some 157, .faddr 14 (.t 6), none⟩, ⟨some 158, .load false 1 (.t 157), none⟩, ⟨some 159, .len false (.t 158), none⟩, ⟨some 160, .mv (.t 0), none⟩, ⟨some 161, .mkfn 124 [.t 160] [], none⟩, ⟨some 162, .call 501 [.t 159, .c (.int .i64 8), .t 161], none⟩, ⟨some 163, .ext (.t 162) 0, none⟩, ⟨some 164, .ext (.t 162) 1, none⟩, ⟨some 4, .mv (.t 163), none⟩, ⟨some 5, .mv (.t 164), none⟩] [4, 5])
 (.ret))))
def f133 : VFunc := ⟨false, [.tmp 4, .tmp 5], b133, none⟩

/-- (*shunter/image.checker).refers -/
def b134 : VCode := .seq (.reg [⟨some 6, .mv (.c (.bool false)), none⟩] [0, 1, 2])
 (.seq (.reg [⟨some 7, .mv (.c (.bool true)), none⟩] [0, 1, 2, 7])
 (.seq (.seq (.reg [⟨some 13, .mv (.t 1), none⟩] [0, 2, 7, 13])
 (.blk 0 (.seq (.reg [⟨some 14, .tassert 281 (.agg [.int .i64 0, .int .i64 0, .int .i64 0]) true (.t 13), none⟩, ⟨some 15, .ext (.t 14) 1, none⟩, ⟨some 16, .ext (.t 14) 0, none⟩] [0, 2, 7, 13, 15, 16])
 (.cond (.t 15) (.seq (.reg [⟨some 8, .alloc (.agg [.int .i64 0, .int .i64 0, .int .i64 0]), none⟩, ⟨none, .store 3 false (.t 8) (.t 16), none⟩] [0, 8])
 (.drw [⟨⟨some 18, .mv (.t 0), none⟩, 0, 0, []⟩, ⟨⟨some 19, .nilchk (.t 18), none⟩, 1, 1, []⟩, ⟨⟨some 20, .faddr 0 (.t 19), none⟩, 2, 3, []⟩, ⟨⟨some 22, .faddr 1 (.t 8), none⟩, 4, 0, []⟩, ⟨⟨some 24, .faddr 2 (.t 8), none⟩, 6, 0, []⟩, ⟨⟨some 21, .load true 18 (.t 20), none⟩, 3, 7, []⟩, ⟨⟨some 23, .load false 1 (.t 22), none⟩, 5, 16, []⟩, ⟨⟨some 25, .load false 1 (.t 24), none⟩, 7, 64, []⟩, ⟨⟨some 26, .call 489 [.t 21, .t 23, .t 25], none⟩, 8, 255, []⟩, ⟨⟨some 17, .mv (.t 26), none⟩, 9, 511, []⟩, ⟨⟨some 27, .ext (.t 17) 0, none⟩, 10, 1023, []⟩, ⟨⟨some 28, .ext (.t 17) 1, none⟩, 11, 1023, []⟩, ⟨⟨some 7, .mv (.t 28), none⟩, 12, 4095, []⟩] [7]))
 (.seq (.reg [⟨some 29, .tassert 283 (.agg [.int .i64 0, .int .i64 0]) true (.t 13), none⟩, ⟨some 30, .ext (.t 29) 1, none⟩, ⟨some 31, .ext (.t 29) 0, none⟩] [0, 2, 7, 13, 30, 31])
 (.cond (.t 30) (.seq (.reg [⟨some 9, .alloc (.agg [.int .i64 0, .int .i64 0]), none⟩, ⟨none, .store 2 false (.t 9) (.t 31), none⟩] [0, 9])
 (.drw [⟨⟨some 33, .mv (.t 0), none⟩, 0, 0, []⟩, ⟨⟨some 34, .nilchk (.t 33), none⟩, 1, 1, []⟩, ⟨⟨some 35, .faddr 0 (.t 34), none⟩, 2, 3, []⟩, ⟨⟨some 37, .faddr 1 (.t 9), none⟩, 4, 0, []⟩, ⟨⟨some 36, .load true 18 (.t 35), none⟩, 3, 7, []⟩, ⟨⟨some 38, .load false 1 (.t 37), none⟩, 5, 16, []⟩, ⟨⟨some 39, .call 493 [.t 36, .t 38], none⟩, 6, 63, []⟩, ⟨⟨some 32, .mv (.t 39), none⟩, 7, 127, []⟩, ⟨⟨some 40, .ext (.t 32) 0, none⟩, 8, 255, []⟩, ⟨⟨some 41, .ext (.t 32) 1, none⟩, 9, 255, []⟩, ⟨⟨some 7, .mv (.t 41), none⟩, 10, 1023, []⟩] [7]))
 (.seq (.reg [⟨some 42, .tassert 276 (.agg [.int .i64 0, .int .i64 0]) true (.t 13), none⟩, ⟨some 43, .ext (.t 42) 1, none⟩, ⟨some 44, .ext (.t 42) 0, none⟩] [0, 2, 7, 13, 43, 44])
 (.cond (.t 43) (.seq (.reg [⟨some 10, .alloc (.agg [.int .i64 0, .int .i64 0]), none⟩, ⟨none, .store 2 false (.t 10) (.t 44), none⟩] [0, 10])
 (.drw [⟨⟨some 46, .mv (.t 0), none⟩, 0, 0, []⟩, ⟨⟨some 47, .nilchk (.t 46), none⟩, 1, 1, []⟩, ⟨⟨some 48, .faddr 0 (.t 47), none⟩, 2, 3, []⟩, ⟨⟨some 50, .faddr 0 (.t 10), none⟩, 4, 0, []⟩, ⟨⟨some 49, .load true 18 (.t 48), none⟩, 3, 7, []⟩, ⟨⟨some 51, .load false 1 (.t 50), none⟩, 5, 16, []⟩, ⟨⟨some 52, .call 493 [.t 49, .t 51], none⟩, 6, 63, []⟩, ⟨⟨some 45, .mv (.t 52), none⟩, 7, 127, []⟩, ⟨⟨some 53, .ext (.t 45) 0, none⟩, 8, 255, []⟩, ⟨⟨some 54, .ext (.t 45) 1, none⟩, 9, 255, []⟩, ⟨⟨some 7, .mv (.t 54), none⟩, 10, 1023, []⟩] [7]))
 (.seq (.reg [⟨some 55, .tassert 277 (.agg [.int .i64 0, .int .i64 0, .int .i64 0]) true (.t 13), none⟩, ⟨some 56, .ext (.t 55) 1, none⟩, ⟨some 57, .ext (.t 55) 0, none⟩] [0, 2, 7, 13, 56, 57])
 (.cond (.t 56) (.seq (.reg [⟨some 11, .alloc (.agg [.int .i64 0, .int .i64 0, .int .i64 0]), none⟩, ⟨none, .store 3 false (.t 11) (.t 57), none⟩] [0, 11])
 (.drw [⟨⟨some 59, .mv (.t 0), none⟩, 0, 0, []⟩, ⟨⟨some 60, .nilchk (.t 59), none⟩, 1, 1, []⟩, ⟨⟨some 61, .faddr 0 (.t 60), none⟩, 2, 3, []⟩, ⟨⟨some 63, .faddr 1 (.t 11), none⟩, 4, 0, []⟩, ⟨⟨some 62, .load true 18 (.t 61), none⟩, 3, 7, []⟩, ⟨⟨some 64, .load false 1 (.t 63), none⟩, 5, 16, []⟩, ⟨⟨some 65, .call 494 [.t 62, .t 64], none⟩, 6, 63, []⟩, ⟨⟨some 58, .mv (.t 65), none⟩, 7, 127, []⟩, ⟨⟨some 66, .ext (.t 58) 0, none⟩, 8, 255, []⟩, ⟨⟨some 67, .ext (.t 58) 1, none⟩, 9, 255, []⟩, ⟨⟨some 68, .ext (.t 58) 2, none⟩, 10, 255, []⟩, ⟨⟨some 7, .mv (.t 68), none⟩, 11, 2047, []⟩] [7]))
 (.seq (.reg [⟨some 69, .tassert 275 (.agg [.int .i64 0, .int .i64 0]) true (.t 13), none⟩, ⟨some 70, .ext (.t 69) 1, none⟩, ⟨some 71, .ext (.t 69) 0, none⟩] [0, 2, 7, 70, 71])
 (.cond (.t 70) (.seq (.reg [⟨some 12, .alloc (.agg [.int .i64 0, .int .i64 0]), none⟩, ⟨none, .store 2 false (.t 12) (.t 71), none⟩] [0, 2, 12])
 (.reg [⟨some 72, .mv (.t 0), none⟩, ⟨some 73, .load true 2 (.t 12), none⟩, ⟨some 74, .mv (.t 2), none⟩, ⟨some 75, .len false (.t 74), none⟩, ⟨some 76, .call 113 [.t 72, .t 73, .t 75], none⟩, ⟨some 7, .mv (.t 76), none⟩] [7]))
 (.skip)))))))))))))
 (.seq (.reg [⟨some 77, .mv (.t 7), none⟩, ⟨some 6, .mv (.t 77), none⟩] [6])
 (.ret))))
def f134 : VFunc := ⟨false, [.tmp 6], b134, none⟩

/-- (*shunter/image.checker).reg -/
def b135 : VCode := .seq (.reg [⟨some 2, .box (.t 0), none⟩, ⟨some 4, .mv (.c (.int .i64 0)), none⟩] [1, 2])
 (.seq (.reg [⟨some 6, .load false 1 (.t 2), none⟩, ⟨some 7, .nilchk (.t 6), none⟩, ⟨some 8, .faddr 0 (.t 7), none⟩, ⟨some 9, .faddr 12 (.t 8), none⟩, ⟨some 10, .load false 1 (.t 9), none⟩, ⟨some 11, .mv (.t 1), none⟩, ⟨some 12, .iaddr 3 (.t 10) (.t 11), none⟩, ⟨some 13, .load true 3 (.t 12), none⟩, ⟨some 5, .alloc (.agg [.str [], .int .i64 0, .int .i64 0]), none⟩, ⟨none, .store 3 false (.t 5) (.t 13), none⟩] [1, 2, 5])
 (.seq (.drw [⟨⟨some 14, .mv (.t 1), none⟩, 0, 0, []⟩, ⟨⟨some 15, .mkfn 136 [] [.t 2], none⟩, 1, 0, []⟩, ⟨⟨some 17, .faddr 1 (.t 5), none⟩, 3, 0, []⟩, ⟨⟨some 21, .faddr 2 (.t 5), none⟩, 7, 0, []⟩, ⟨⟨some 18, .load false 1 (.t 17), none⟩, 4, 8, []⟩, ⟨⟨some 22, .load false 1 (.t 21), none⟩, 8, 128, []⟩, ⟨⟨some 16, .call 520 [.t 14, .t 15], none⟩, 2, 3, []⟩, ⟨⟨some 19, .call 522 [.t 18, .c (.int .i64 1), .c (.int .i64 128)], none⟩, 5, 31, []⟩, ⟨⟨some 20, .call 521 [.t 19, .c (.int .i64 9)], none⟩, 6, 63, []⟩, ⟨⟨some 23, .call 509 [.t 22], none⟩, 9, 511, []⟩, ⟨⟨some 24, .buildSl 1 [.t 16, .t 20, .t 23], none⟩, 10, 1023, []⟩, ⟨⟨some 25, .call 507 [.t 24], none⟩, 11, 2047, []⟩, ⟨⟨some 4, .mv (.t 25), none⟩, 12, 4095, []⟩] [4])
 (.ret)))
def f135 : VFunc := ⟨false, [.tmp 4], b135, none⟩

/-- (*shunter/image.checker).reg$1 -/
def b136 : VCode := .seq (.reg [⟨some 3, .mv (.c (.str [])), none⟩] [0, 1])
 (.seq (.reg [⟨some 4, .load false 1 (.t 1), none⟩, ⟨some 5, .nilchk (.t 4), none⟩, ⟨some 6, .faddr 0 (.t 5), none⟩, ⟨some 7, .faddr 12 (.t 6), none⟩, ⟨some 8, .load false 1 (.t 7), none⟩, ⟨some 9, .mv (.t 0), none⟩, ⟨some 10, .iaddr 3 (.t 8) (.t 9), none⟩, ⟨some 11, .faddr 0 (.t 10), none⟩, ⟨some 12, .load false 1 (.t 11), none⟩, ⟨some 3, .mv (.t 12), none⟩] [3])
 (.ret))
def f136 : VFunc := ⟨false, [.tmp 3], b136, none⟩

def l137_0 : VCode := .seq (.reg [⟨some 90, .bin .lss (.t 89) (.t 88), none⟩] [2, 5, 11, 87, 88, 89, 90])
 (.seq (.cond (.t 90) (.skip)
 (.exit 2))
 (.seq (.blk 3 (.seq (.reg [⟨some 91, .iaddr 7 (.t 87) (.t 89), none⟩, ⟨some 92, .load true 7 (.t 91), none⟩, ⟨some 14, .alloc (.agg [.int .i64 0, .int .u64 0, .int .u64 0, .int .i64 0, .int .u64 0, .int .u64 0, .int .i64 0]), none⟩, ⟨none, .store 7 false (.t 14) (.t 92), none⟩] [2, 5, 11, 14, 87, 88, 89])
 (.seq (.reg [⟨some 93, .load false 1 (.t 2), none⟩, ⟨some 94, .load true 7 (.t 14), none⟩, ⟨some 95, .mv (.t 11), none⟩, ⟨some 96, .call 131 [.t 93, .t 94, .t 95], none⟩, ⟨some 15, .mv (.t 96), none⟩] [2, 5, 11, 15, 87, 88, 89])
 (.seq (.reg [⟨some 97, .mv (.t 15), none⟩, ⟨some 98, .bin .neq (.t 97) (.c (.int .i64 0)), none⟩] [2, 5, 11, 15, 87, 88, 89, 98])
 (.cond (.t 98) (.seq (.reg [⟨some 99, .mv (.t 15), none⟩, ⟨some 4, .mv (.t 99), none⟩] [4])
 (.ret))
 (.skip))))))
 (.reg [⟨some 100, .bin .add (.t 89) (.c (.int .i64 1)), none⟩, ⟨some 89, .mv (.t 100), none⟩] [2, 5, 11, 87, 88, 89])))
def L137_0 : VCode := l137_0
def l137_1 : VCode := .seq (.reg [⟨some 41, .bin .lss (.t 40) (.t 39), none⟩] [2, 5, 38, 39, 40, 41])
 (.seq (.cond (.t 41) (.skip)
 (.exit 0))
 (.seq (.blk 1 (.seq (.reg [⟨some 42, .iaddr 2 (.t 38) (.t 40), none⟩, ⟨some 43, .load true 2 (.t 42), none⟩, ⟨some 8, .alloc (.agg [.int .i64 0, .int .i64 0]), none⟩, ⟨none, .store 2 false (.t 8) (.t 43), none⟩] [2, 5, 8, 38, 39, 40])
 (.seq (.reg [⟨some 44, .load false 1 (.t 2), none⟩, ⟨some 45, .load true 2 (.t 8), none⟩, ⟨some 46, .call 117 [.t 44, .t 45], none⟩, ⟨some 9, .mv (.t 46), none⟩] [2, 5, 9, 38, 39, 40])
 (.seq (.reg [⟨some 47, .mv (.t 9), none⟩, ⟨some 48, .bin .neq (.t 47) (.c (.int .i64 0)), none⟩] [2, 5, 9, 38, 39, 40, 48])
 (.cond (.t 48) (.seq (.reg [⟨some 49, .mv (.t 9), none⟩, ⟨some 4, .mv (.t 49), none⟩] [4])
 (.ret))
 (.skip))))))
 (.reg [⟨some 50, .bin .add (.t 40) (.c (.int .i64 1)), none⟩, ⟨some 40, .mv (.t 50), none⟩] [2, 5, 38, 39, 40])))
def L137_1 : VCode := l137_1
/-- (*shunter/image.checker).state -/
def b137 : VCode := .seq (.reg [⟨some 2, .box (.t 0), none⟩, ⟨some 4, .mv (.c (.int .i64 0)), none⟩] [1, 2])
 (.seq (.reg [⟨some 16, .load false 1 (.t 2), none⟩, ⟨some 17, .nilchk (.t 16), none⟩, ⟨some 18, .faddr 0 (.t 17), none⟩, ⟨some 19, .faddr 4 (.t 18), none⟩, ⟨some 20, .load false 1 (.t 19), none⟩, ⟨some 21, .mv (.t 1), none⟩, ⟨some 22, .iaddr 5 (.t 20) (.t 21), none⟩, ⟨some 23, .load true 5 (.t 22), none⟩, ⟨some 5, .alloc (.agg [.str [], .sl 2 [] .nl, .sl 3 [] .nl, .sl 7 [] .nl, .int .i64 0]), none⟩, ⟨none, .store 5 true (.t 5) (.t 23), none⟩] [1, 2, 5])
 (.seq (.seq (.drw [⟨⟨some 24, .mv (.t 1), none⟩, 0, 0, []⟩, ⟨⟨some 25, .mkfn 138 [] [.t 2], none⟩, 1, 0, []⟩, ⟨⟨some 27, .faddr 1 (.t 5), none⟩, 3, 0, []⟩, ⟨⟨some 28, .load false 1 (.t 27), none⟩, 4, 8, []⟩, ⟨⟨some 29, .len false (.t 28), none⟩, 5, 24, []⟩, ⟨⟨some 30, .bin .leq (.t 29) (.c (.int .i64 4)), none⟩, 6, 56, []⟩, ⟨⟨some 26, .call 520 [.t 24, .t 25], none⟩, 2, 3, []⟩, ⟨⟨some 31, .call 521 [.t 30, .c (.int .i64 2)], none⟩, 7, 127, []⟩, ⟨⟨some 32, .buildSl 1 [.t 26, .t 31], none⟩, 8, 255, []⟩, ⟨⟨some 33, .call 507 [.t 32], none⟩, 9, 511, []⟩, ⟨⟨some 6, .mv (.t 33), none⟩, 10, 1023, []⟩] [2, 5, 6])
 (.seq (.reg [⟨some 34, .mv (.t 6), none⟩, ⟨some 35, .bin .neq (.t 34) (.c (.int .i64 0)), none⟩] [2, 5, 6, 35])
 (.cond (.t 35) (.seq (.reg [⟨some 36, .mv (.t 6), none⟩, ⟨some 4, .mv (.t 36), none⟩] [4])
 (.ret))
 (.skip))))
 (.seq (.seq (.reg [⟨some 37, .faddr 1 (.t 5), none⟩, ⟨some 38, .load false 1 (.t 37), none⟩, ⟨some 39, .len false (.t 38), none⟩, ⟨some 40, .mv (.c (.int .i64 0)), none⟩] [2, 5, 38, 39, 40])
 (.blk 0 (.loop [2, 5, 38, 39, 40] (L137_1))))
 (.seq (.seq (.drw [⟨⟨some 52, .faddr 2 (.t 5), none⟩, 1, 0, []⟩, ⟨⟨some 55, .faddr 3 (.t 5), none⟩, 4, 0, []⟩, ⟨⟨some 60, .faddr 3 (.t 5), none⟩, 9, 0, []⟩, ⟨⟨some 51, .load false 1 (.t 2), none⟩, 0, 0, []⟩, ⟨⟨some 53, .load false 1 (.t 52), none⟩, 2, 2, []⟩, ⟨⟨some 56, .load false 1 (.t 55), none⟩, 5, 16, []⟩, ⟨⟨some 57, .len false (.t 56), none⟩, 6, 48, []⟩, ⟨⟨some 58, .bin .leq (.t 57) (.c (.int .i64 8)), none⟩, 7, 112, []⟩, ⟨⟨some 61, .load false 1 (.t 60), none⟩, 10, 512, []⟩, ⟨⟨some 62, .len false (.t 61), none⟩, 11, 1536, []⟩, ⟨⟨some 63, .bin .eql (.t 62) (.c (.int .i64 0)), none⟩, 12, 3584, []⟩, ⟨⟨some 54, .call 121 [.t 51, .t 53, .c (.bool true)], none⟩, 3, 7, []⟩, ⟨⟨some 59, .call 521 [.t 58, .c (.int .i64 2)], none⟩, 8, 255, []⟩, ⟨⟨some 64, .mv (.t 63), none⟩, 13, 8191, []⟩, ⟨⟨some 65, .faddr 2 (.t 5), (some (64, false))⟩, 14, 16383, []⟩, ⟨⟨some 66, .load false 1 (.t 65), (some (64, false))⟩, 15, 32767, []⟩, ⟨⟨some 67, .len false (.t 66), (some (64, false))⟩, 16, 65535, []⟩, ⟨⟨some 68, .bin .gtr (.t 67) (.c (.int .i64 0)), (some (64, false))⟩, 17, 131071, []⟩, ⟨⟨some 69, .pick (.t 64) (.c (.bool true)) (.t 68), none⟩, 18, 262143, []⟩, ⟨⟨some 70, .call 521 [.t 69, .c (.int .i64 4)], none⟩, 19, 524287, []⟩, ⟨⟨some 71, .buildSl 1 [.t 54, .t 59, .t 70], none⟩, 20, 1048575, []⟩, ⟨⟨some 72, .call 507 [.t 71], none⟩, 21, 2097151, []⟩, ⟨⟨some 10, .mv (.t 72), none⟩, 22, 4194303, []⟩] [2, 5, 10])
 (.seq (.reg [⟨some 73, .mv (.t 10), none⟩, ⟨some 74, .bin .neq (.t 73) (.c (.int .i64 0)), none⟩] [2, 5, 10, 74])
 (.cond (.t 74) (.seq (.reg [⟨some 75, .mv (.t 10), none⟩, ⟨some 4, .mv (.t 75), none⟩] [4])
 (.ret))
 (.skip))))
 (.seq (.drw [⟨⟨some 81, .faddr 2 (.t 5), none⟩, 4, 0, []⟩, ⟨⟨some 77, .load false 1 (.t 2), none⟩, 0, 0, []⟩, ⟨⟨some 78, .nilchk (.t 77), none⟩, 1, 1, []⟩, ⟨⟨some 79, .faddr 0 (.t 78), none⟩, 2, 3, []⟩, ⟨⟨some 80, .load true 18 (.t 79), none⟩, 3, 7, []⟩, ⟨⟨some 82, .load false 1 (.t 81), none⟩, 5, 16, []⟩, ⟨⟨some 83, .call 490 [.t 80, .t 82], none⟩, 6, 63, []⟩, ⟨⟨some 76, .mv (.t 83), none⟩, 7, 127, []⟩, ⟨⟨some 84, .ext (.t 76) 0, none⟩, 8, 255, []⟩, ⟨⟨some 85, .ext (.t 76) 1, none⟩, 9, 255, []⟩, ⟨⟨some 11, .mv (.t 84), none⟩, 10, 511, []⟩, ⟨⟨some 12, .mv (.t 85), none⟩, 11, 2047, []⟩] [2, 5, 11])
 (.seq (.seq (.reg [⟨some 86, .faddr 3 (.t 5), none⟩, ⟨some 87, .load false 1 (.t 86), none⟩, ⟨some 88, .len false (.t 87), none⟩, ⟨some 89, .mv (.c (.int .i64 0)), none⟩] [2, 5, 11, 87, 88, 89])
 (.blk 2 (.loop [2, 5, 11, 87, 88, 89] (L137_0))))
 (.seq (.reg [⟨some 101, .load false 1 (.t 2), none⟩, ⟨some 102, .faddr 4 (.t 5), none⟩, ⟨some 103, .load false 1 (.t 102), none⟩, ⟨some 104, .call 127 [.t 101, .t 103], none⟩, ⟨some 4, .mv (.t 104), none⟩] [4])
 (.ret))))))))
def f137 : VFunc := ⟨false, [.tmp 4], b137, none⟩

/-- (*shunter/image.checker).state$1 -/
def b138 : VCode := .seq (.reg [⟨some 3, .mv (.c (.str [])), none⟩] [0, 1])
 (.seq (.reg [⟨some 4, .load false 1 (.t 1), none⟩, ⟨some 5, .nilchk (.t 4), none⟩, ⟨some 6, .faddr 0 (.t 5), none⟩, ⟨some 7, .faddr 4 (.t 6), none⟩, ⟨some 8, .load false 1 (.t 7), none⟩, ⟨some 9, .mv (.t 0), none⟩, ⟨some 10, .iaddr 5 (.t 8) (.t 9), none⟩, ⟨some 11, .faddr 0 (.t 10), none⟩, ⟨some 12, .load false 1 (.t 11), none⟩, ⟨some 3, .mv (.t 12), none⟩] [3])
 (.ret))
def f138 : VFunc := ⟨false, [.tmp 3], b138, none⟩

/-- (*shunter/image.checker).sums -/
def b139 : VCode := .seq (.reg [⟨some 2, .box (.t 0), none⟩, ⟨some 3, .box (.t 1), none⟩, ⟨some 4, .mv (.c (.int .i64 0)), none⟩, ⟨some 5, .mv (.c (.int .i64 0)), none⟩] [2, 3])
 (.seq (.reg [⟨some 6, .load false 1 (.t 3), none⟩, ⟨some 7, .len false (.t 6), none⟩, ⟨some 8, .mkfn 140 [] [.t 2, .t 3], none⟩, ⟨some 9, .call 501 [.t 7, .c (.int .i64 4), .t 8], none⟩, ⟨some 10, .ext (.t 9) 0, none⟩, ⟨some 11, .ext (.t 9) 1, none⟩, ⟨some 4, .mv (.t 10), none⟩, ⟨some 5, .mv (.t 11), none⟩] [4, 5])
 (.ret))
def f139 : VFunc := ⟨false, [.tmp 4, .tmp 5], b139, none⟩

/-- (*shunter/image.checker).sums$1 -/
def b140 : VCode := .seq (.reg [⟨some 4, .mv (.c (.int .i64 0)), none⟩] [0, 1, 2])
 (.seq (.drw [⟨⟨some 17, .mv (.t 0), none⟩, 5, 0, []⟩, ⟨⟨some 22, .mv (.t 0), none⟩, 10, 0, []⟩, ⟨⟨some 12, .load false 1 (.t 1), none⟩, 0, 0, []⟩, ⟨⟨some 13, .nilchk (.t 12), none⟩, 1, 1, []⟩, ⟨⟨some 14, .faddr 0 (.t 13), none⟩, 2, 3, []⟩, ⟨⟨some 15, .load true 18 (.t 14), none⟩, 3, 7, []⟩, ⟨⟨some 16, .load false 1 (.t 2), none⟩, 4, 0, []⟩, ⟨⟨some 18, .iaddr 2 (.t 16) (.t 17), none⟩, 6, 48, []⟩, ⟨⟨some 19, .faddr 0 (.t 18), none⟩, 7, 112, []⟩, ⟨⟨some 20, .load false 1 (.t 19), none⟩, 8, 240, []⟩, ⟨⟨some 21, .load false 1 (.t 2), none⟩, 9, 0, []⟩, ⟨⟨some 23, .iaddr 2 (.t 21) (.t 22), none⟩, 11, 1536, []⟩, ⟨⟨some 24, .faddr 1 (.t 23), none⟩, 12, 3584, []⟩, ⟨⟨some 25, .load false 1 (.t 24), none⟩, 13, 7680, []⟩, ⟨⟨some 26, .call 489 [.t 15, .t 20, .t 25], none⟩, 14, 16383, []⟩, ⟨⟨some 11, .mv (.t 26), none⟩, 15, 32767, []⟩, ⟨⟨some 27, .ext (.t 11) 0, none⟩, 16, 65535, []⟩, ⟨⟨some 28, .ext (.t 11) 1, none⟩, 17, 65535, []⟩, ⟨⟨some 5, .mv (.t 27), none⟩, 18, 131071, []⟩, ⟨⟨some 6, .mv (.t 28), none⟩, 19, 524287, []⟩] [0, 1, 2, 5, 6])
 (.seq (.seq (.reg [⟨some 29, .mv (.t 6), none⟩, ⟨some 30, .un .not (.t 29), none⟩] [0, 1, 2, 5, 30])
 (.cond (.t 30) (.seq (.reg [⟨some 4, .mv (.c (.int .i64 5)), none⟩] [4])
 (.ret))
 (.skip)))
 (.seq (.drw [⟨⟨some 37, .mv (.t 0), none⟩, 5, 0, []⟩, ⟨⟨some 32, .load false 1 (.t 1), none⟩, 0, 0, []⟩, ⟨⟨some 33, .nilchk (.t 32), none⟩, 1, 1, []⟩, ⟨⟨some 34, .faddr 0 (.t 33), none⟩, 2, 3, []⟩, ⟨⟨some 35, .load true 18 (.t 34), none⟩, 3, 7, []⟩, ⟨⟨some 36, .load false 1 (.t 2), none⟩, 4, 0, []⟩, ⟨⟨some 38, .iaddr 2 (.t 36) (.t 37), none⟩, 6, 48, []⟩, ⟨⟨some 39, .faddr 0 (.t 38), none⟩, 7, 112, []⟩, ⟨⟨some 40, .load false 1 (.t 39), none⟩, 8, 240, []⟩, ⟨⟨some 7, .alloc (.agg [.str [], .sl 2 [] .nl, .int .i64 0, .int .i64 0, .int .i64 0, .int .i64 0]), none⟩, 13, 0, []⟩, ⟨⟨some 41, .call 493 [.t 35, .t 40], none⟩, 9, 511, []⟩, ⟨⟨some 31, .mv (.t 41), none⟩, 10, 1023, []⟩, ⟨⟨some 42, .ext (.t 31) 0, none⟩, 11, 2047, []⟩, ⟨⟨some 43, .ext (.t 31) 1, none⟩, 12, 2047, []⟩, ⟨⟨none, .store 6 true (.t 7) (.t 42), none⟩, 14, 12287, []⟩, ⟨⟨some 8, .mv (.t 43), none⟩, 15, 32767, []⟩] [0, 2, 5, 7])
 (.seq (.drw [⟨⟨some 47, .mv (.t 0), none⟩, 2, 0, []⟩, ⟨⟨some 45, .load true 6 (.t 7), none⟩, 0, 0, []⟩, ⟨⟨some 46, .load false 1 (.t 2), none⟩, 1, 0, []⟩, ⟨⟨some 48, .iaddr 2 (.t 46) (.t 47), none⟩, 3, 6, []⟩, ⟨⟨some 49, .faddr 1 (.t 48), none⟩, 4, 14, []⟩, ⟨⟨some 50, .load false 1 (.t 49), none⟩, 5, 30, []⟩, ⟨⟨some 51, .call 644 [.t 45, .t 50], none⟩, 6, 63, []⟩, ⟨⟨some 44, .mv (.t 51), none⟩, 7, 127, []⟩, ⟨⟨some 52, .ext (.t 44) 0, none⟩, 8, 255, []⟩, ⟨⟨some 53, .ext (.t 44) 1, none⟩, 9, 255, []⟩, ⟨⟨some 9, .mv (.t 52), none⟩, 10, 511, []⟩, ⟨⟨some 10, .mv (.t 53), none⟩, 11, 2047, []⟩] [5, 9])
 (.seq (.reg [⟨some 54, .mv (.t 5), none⟩, ⟨some 55, .bin .eql (.t 54) (.c (.int .i64 16)), none⟩, ⟨some 56, .mv (.t 55), none⟩, ⟨some 57, .mv (.t 9), (some (56, true))⟩, ⟨some 58, .bin .rem (.t 57) (.c (.int .i64 16)), (some (56, true))⟩, ⟨some 59, .bin .eql (.t 58) (.c (.int .i64 0)), (some (56, true))⟩, ⟨some 60, .pick (.t 56) (.t 59) (.c (.bool false)), none⟩, ⟨some 61, .call 521 [.t 60, .c (.int .i64 9)], none⟩, ⟨some 4, .mv (.t 61), none⟩] [4])
 (.ret))))))
def f140 : VFunc := ⟨false, [.tmp 4], b140, none⟩

/-- (*shunter/image.checker).table -/
def b141 : VCode := .seq (.reg [⟨some 2, .box (.t 0), none⟩, ⟨some 4, .mv (.c (.int .i64 0)), none⟩] [1, 2])
 (.seq (.reg [⟨some 7, .load false 1 (.t 2), none⟩, ⟨some 8, .nilchk (.t 7), none⟩, ⟨some 9, .faddr 0 (.t 8), none⟩, ⟨some 10, .faddr 6 (.t 9), none⟩, ⟨some 11, .load false 1 (.t 10), none⟩, ⟨some 12, .mv (.t 1), none⟩, ⟨some 13, .iaddr 7 (.t 11) (.t 12), none⟩, ⟨some 14, .load true 7 (.t 13), none⟩, ⟨some 5, .alloc (.agg [.str [], .int .i64 0, .sl 3 [] .nl, .sl 1 [] .nl, .int .i64 0, .sl 3 [] .nl, .int .i64 0]), none⟩, ⟨none, .store 7 true (.t 5) (.t 14), none⟩] [1, 2, 5])
 (.seq (.drw [⟨⟨some 15, .mv (.t 1), none⟩, 0, 0, []⟩, ⟨⟨some 16, .mkfn 142 [] [.t 2], none⟩, 1, 0, []⟩, ⟨⟨some 18, .faddr 1 (.t 5), none⟩, 3, 0, []⟩, ⟨⟨some 22, .faddr 2 (.t 5), none⟩, 7, 0, []⟩, ⟨⟨some 28, .faddr 2 (.t 5), none⟩, 13, 0, []⟩, ⟨⟨some 32, .faddr 3 (.t 5), none⟩, 17, 0, []⟩, ⟨⟨some 35, .faddr 3 (.t 5), none⟩, 20, 0, []⟩, ⟨⟨some 37, .faddr 4 (.t 5), none⟩, 22, 0, []⟩, ⟨⟨some 38, .faddr 0 (.t 37), none⟩, 23, 4194304, []⟩, ⟨⟨some 19, .load false 1 (.t 18), none⟩, 4, 8, []⟩, ⟨⟨some 23, .load false 1 (.t 22), none⟩, 8, 128, []⟩, ⟨⟨some 24, .len false (.t 23), none⟩, 9, 384, []⟩, ⟨⟨some 25, .bin .gtr (.t 24) (.c (.int .i64 0)), none⟩, 10, 896, []⟩, ⟨⟨some 27, .load false 1 (.t 2), none⟩, 12, 0, []⟩, ⟨⟨some 29, .load false 1 (.t 28), none⟩, 14, 8192, []⟩, ⟨⟨some 31, .load false 1 (.t 2), none⟩, 16, 0, []⟩, ⟨⟨some 33, .load false 1 (.t 32), none⟩, 18, 131072, []⟩, ⟨⟨some 36, .load false 1 (.t 35), none⟩, 21, 1048576, []⟩, ⟨⟨some 39, .load false 1 (.t 38), none⟩, 24, 12582912, []⟩, ⟨⟨some 17, .call 520 [.t 15, .t 16], none⟩, 2, 3, []⟩, ⟨⟨some 20, .call 522 [.t 19, .c (.int .i64 0), .c (.int .i64 3)], none⟩, 5, 31, []⟩, ⟨⟨some 21, .call 521 [.t 20, .c (.int .i64 10)], none⟩, 6, 63, []⟩, ⟨⟨some 26, .call 521 [.t 25, .c (.int .i64 5)], none⟩, 11, 2047, []⟩, ⟨⟨some 30, .call 121 [.t 27, .t 29, .c (.bool false)], none⟩, 15, 32767, []⟩, ⟨⟨some 34, .call 112 [.t 31, .t 33], none⟩, 19, 524287, []⟩, ⟨⟨some 40, .call 1169 [.t 36, .t 39], none⟩, 25, 33554431, []⟩, ⟨⟨some 41, .call 521 [.t 40, .c (.int .i64 16)], none⟩, 26, 67108863, []⟩, ⟨⟨some 42, .buildSl 1 [.t 17, .t 21, .t 26, .t 30, .t 34, .t 41], none⟩, 27, 134217727, []⟩, ⟨⟨some 43, .call 507 [.t 42], none⟩, 28, 268435455, []⟩, ⟨⟨some 6, .mv (.t 43), none⟩, 29, 536870911, []⟩] [2, 5, 6])
 (.seq (.seq (.reg [⟨some 44, .mv (.t 6), none⟩, ⟨some 45, .bin .neq (.t 44) (.c (.int .i64 0)), none⟩] [2, 5, 6, 45])
 (.cond (.t 45) (.seq (.reg [⟨some 46, .mv (.t 6), none⟩, ⟨some 4, .mv (.t 46), none⟩] [4])
 (.ret))
 (.skip)))
 (.seq (.drw [⟨⟨some 48, .faddr 4 (.t 5), none⟩, 1, 0, []⟩, ⟨⟨some 49, .faddr 0 (.t 48), none⟩, 2, 2, []⟩, ⟨⟨some 51, .faddr 4 (.t 5), none⟩, 4, 0, []⟩, ⟨⟨some 52, .faddr 1 (.t 51), none⟩, 5, 16, []⟩, ⟨⟨some 55, .faddr 6 (.t 5), none⟩, 8, 0, []⟩, ⟨⟨some 47, .load false 1 (.t 2), none⟩, 0, 0, []⟩, ⟨⟨some 50, .load false 1 (.t 49), none⟩, 3, 6, []⟩, ⟨⟨some 53, .load false 1 (.t 52), none⟩, 6, 48, []⟩, ⟨⟨some 56, .load false 1 (.t 55), none⟩, 9, 256, []⟩, ⟨⟨some 54, .call 111 [.t 47, .t 50, .t 53], none⟩, 7, 127, []⟩, ⟨⟨some 57, .call 522 [.t 56, .c (.int .i64 1), .c (.int .i64 256)], none⟩, 10, 1023, []⟩, ⟨⟨some 58, .call 521 [.t 57, .c (.int .i64 7)], none⟩, 11, 2047, []⟩, ⟨⟨some 59, .buildSl 1 [.t 54, .t 58], none⟩, 12, 4095, []⟩, ⟨⟨some 60, .call 507 [.t 59], none⟩, 13, 8191, []⟩, ⟨⟨some 4, .mv (.t 60), none⟩, 14, 16383, []⟩] [4])
 (.ret)))))
def f141 : VFunc := ⟨false, [.tmp 4], b141, none⟩

/-- (*shunter/image.checker).table$1 -/
def b142 : VCode := .seq (.reg [⟨some 3, .mv (.c (.str [])), none⟩] [0, 1])
 (.seq (.reg [⟨some 4, .load false 1 (.t 1), none⟩, ⟨some 5, .nilchk (.t 4), none⟩, ⟨some 6, .faddr 0 (.t 5), none⟩, ⟨some 7, .faddr 6 (.t 6), none⟩, ⟨some 8, .load false 1 (.t 7), none⟩, ⟨some 9, .mv (.t 0), none⟩, ⟨some 10, .iaddr 7 (.t 8) (.t 9), none⟩, ⟨some 11, .faddr 0 (.t 10), none⟩, ⟨some 12, .load false 1 (.t 11), none⟩, ⟨some 3, .mv (.t 12), none⟩] [3])
 (.ret))
def f142 : VFunc := ⟨false, [.tmp 3], b142, none⟩

/-- math/bits.Len64 -/
def b374 : VCode := .seq (.reg [⟨some 2, .mv (.c (.int .i64 0)), none⟩] [0, 2])
 (.seq (.seq (.reg [⟨some 3, .mv (.t 0), none⟩, ⟨some 4, .bin .geq (.t 3) (.c (.int .u64 4294967296)), none⟩] [0, 2, 4])
 (.cond (.t 4) (.seq (.reg [⟨some 5, .mv (.t 0), none⟩, ⟨some 6, .bin .shr (.t 5) (.c (.int .u64 32)), none⟩, ⟨some 0, .mv (.t 6), none⟩] [0])
 (.reg [⟨some 2, .mv (.c (.int .i64 32)), none⟩] [0, 2]))
 (.skip)))
 (.seq (.seq (.reg [⟨some 7, .mv (.t 0), none⟩, ⟨some 8, .bin .geq (.t 7) (.c (.int .u64 65536)), none⟩] [0, 2, 8])
 (.cond (.t 8) (.seq (.reg [⟨some 9, .mv (.t 0), none⟩, ⟨some 10, .bin .shr (.t 9) (.c (.int .u64 16)), none⟩, ⟨some 0, .mv (.t 10), none⟩] [0, 2])
 (.reg [⟨some 11, .mv (.t 2), none⟩, ⟨some 12, .bin .add (.t 11) (.c (.int .i64 16)), none⟩, ⟨some 2, .mv (.t 12), none⟩] [0, 2]))
 (.skip)))
 (.seq (.seq (.reg [⟨some 13, .mv (.t 0), none⟩, ⟨some 14, .bin .geq (.t 13) (.c (.int .u64 256)), none⟩] [0, 2, 14])
 (.cond (.t 14) (.seq (.reg [⟨some 15, .mv (.t 0), none⟩, ⟨some 16, .bin .shr (.t 15) (.c (.int .u64 8)), none⟩, ⟨some 0, .mv (.t 16), none⟩] [0, 2])
 (.reg [⟨some 17, .mv (.t 2), none⟩, ⟨some 18, .bin .add (.t 17) (.c (.int .i64 8)), none⟩, ⟨some 2, .mv (.t 18), none⟩] [0, 2]))
 (.skip)))
 (.seq (.reg [⟨some 19, .mv (.t 2), none⟩, ⟨some 20, .mv (.t 0), none⟩, ⟨some 21, .conv (.int .u8) (.t 20), none⟩, ⟨some 22, .idxS (.c (.str [0,1,2,2,3,3,3,3,4,4,4,4,4,4,4,4,5,5,5,5,5,5,5,5,5,5,5,5,5,5,5,5,6,6,6,6,6,6,6,6,6,6,6,6,6,6,6,6,6,6,6,6,6,6,6,6,6,6,6,6,6,6,6,6,7,7,7,7,7,7,7,7,7,7,7,7,7,7,7,7,7,7,7,7,7,7,7,7,7,7,7,7,7,7,7,7,7,7,7,7,7,7,7,7,7,7,7,7,7,7,7,7,7,7,7,7,7,7,7,7,7,7,7,7,7,7,7,7,8,8,8,8,8,8,8,8,8,8,8,8,8,8,8,8,8,8,8,8,8,8,8,8,8,8,8,8,8,8,8,8,8,8,8,8,8,8,8,8,8,8,8,8,8,8,8,8,8,8,8,8,8,8,8,8,8,8,8,8,8,8,8,8,8,8,8,8,8,8,8,8,8,8,8,8,8,8,8,8,8,8,8,8,8,8,8,8,8,8,8,8,8,8,8,8,8,8,8,8,8,8,8,8,8,8,8,8,8,8,8,8,8,8,8,8,8,8,8,8,8,8,8,8,8,8,8,8])) (.t 21), none⟩, ⟨some 23, .conv (.int .i64) (.t 22), none⟩, ⟨some 24, .bin .add (.t 19) (.t 23), none⟩, ⟨some 2, .mv (.t 24), none⟩] [2])
 (.ret)))))
def f374 : VFunc := ⟨false, [.tmp 2], b374, none⟩

def l422_0 : VCode := .seq (.reg [⟨some 17, .bin .lss (.t 16) (.t 15), none⟩] [0, 5, 14, 15, 16, 17])
 (.seq (.cond (.t 17) (.skip)
 (.exit 0))
 (.seq (.blk 1 (.seq (.reg [⟨some 18, .mv (.t 16), none⟩, ⟨some 19, .iaddr 6 (.t 14) (.t 16), none⟩, ⟨some 20, .load true 6 (.t 19), none⟩, ⟨some 7, .alloc (.agg [.int .i64 0, .int .i64 0, .int .i64 0, .int .i64 0, .int .u64 0, .int .u64 0]), none⟩, ⟨some 6, .mv (.t 18), none⟩, ⟨none, .store 6 false (.t 7) (.t 20), none⟩] [0, 5, 6, 7, 14, 15, 16])
 (.seq (.reg [⟨some 22, .load true 6 (.t 7), none⟩, ⟨some 23, .call 424 [.t 22], none⟩, ⟨some 21, .mv (.t 23), none⟩, ⟨some 24, .ext (.t 21) 0, none⟩, ⟨some 25, .ext (.t 21) 1, none⟩, ⟨some 8, .mv (.t 24), none⟩, ⟨some 9, .mv (.t 25), none⟩] [0, 5, 6, 8, 9, 14, 15, 16])
 (.seq (.seq (.reg [⟨some 26, .mv (.t 9), none⟩, ⟨some 27, .bin .neq (.t 26) (.c (.int .i64 0)), none⟩] [0, 5, 6, 8, 9, 14, 15, 16, 27])
 (.cond (.t 27) (.seq (.reg [⟨some 28, .mv (.t 6), none⟩, ⟨some 29, .mv (.t 9), none⟩, ⟨some 2, .mv (.c (.sl 1 [] .nl)), none⟩, ⟨some 3, .mv (.t 28), none⟩, ⟨some 4, .mv (.t 29), none⟩] [2, 3, 4])
 (.ret))
 (.skip)))
 (.reg [⟨some 30, .mv (.t 5), none⟩, ⟨some 31, .mv (.t 8), none⟩, ⟨some 32, .buildSl 1 [.t 31], none⟩, ⟨some 33, .app 1 16 false (.t 30) (.t 32), none⟩, ⟨some 5, .mv (.t 33), none⟩] [0, 5, 14, 15, 16])))))
 (.reg [⟨some 34, .bin .add (.t 16) (.c (.int .i64 1)), none⟩, ⟨some 16, .mv (.t 34), none⟩] [0, 5, 14, 15, 16])))
def L422_0 : VCode := l422_0
/-- shunter/code.All -/
def b422 : VCode := .seq (.reg [⟨some 2, .mv (.c (.sl 1 [] .nl)), none⟩, ⟨some 3, .mv (.c (.int .i64 0)), none⟩, ⟨some 4, .mv (.c (.int .i64 0)), none⟩] [0])
 (.seq (.reg [⟨some 5, .nilacc 1, none⟩] [0, 5])
 (.seq (.seq (.reg [⟨some 10, .mv (.t 0), none⟩, ⟨some 11, .mv (.t 0), none⟩, ⟨some 12, .len false (.t 11), none⟩, ⟨some 13, .mn [.t 12, .c (.int .i64 64)], none⟩, ⟨some 14, .slice 6 (.t 10) none (some (.t 13)) none, none⟩, ⟨some 15, .len false (.t 14), none⟩, ⟨some 16, .mv (.c (.int .i64 0)), none⟩] [0, 5, 14, 15, 16])
 (.blk 0 (.loop [0, 5, 14, 15, 16] (L422_0))))
 (.seq (.seq (.reg [⟨some 35, .mv (.t 0), none⟩, ⟨some 36, .len false (.t 35), none⟩, ⟨some 37, .bin .gtr (.t 36) (.c (.int .i64 64)), none⟩] [5, 37])
 (.cond (.t 37) (.seq (.reg [⟨some 2, .mv (.c (.sl 1 [] .nl)), none⟩, ⟨some 3, .mv (.c (.int .i64 64)), none⟩, ⟨some 4, .mv (.c (.int .i64 2)), none⟩] [2, 3, 4])
 (.ret))
 (.skip)))
 (.seq (.reg [⟨some 38, .mv (.t 5), none⟩, ⟨some 39, .mv (.t 5), none⟩, ⟨some 40, .len false (.t 39), none⟩, ⟨some 2, .mv (.t 38), none⟩, ⟨some 3, .mv (.t 40), none⟩, ⟨some 4, .mv (.c (.int .i64 0)), none⟩] [2, 3, 4])
 (.ret)))))
def f422 : VFunc := ⟨false, [.tmp 2, .tmp 3, .tmp 4], b422, none⟩

/-- shunter/code.Make -/
def b424 : VCode := .seq (.reg [⟨some 1, .box (.t 0), none⟩, ⟨some 2, .mv (.c (.nili)), none⟩, ⟨some 3, .mv (.c (.int .i64 0)), none⟩] [1])
 (.seq (.seq (.reg [⟨some 5, .load true 6 (.t 1), none⟩, ⟨some 6, .call 425 [.t 5], none⟩, ⟨some 4, .mv (.t 6), none⟩] [1, 4])
 (.seq (.reg [⟨some 7, .mv (.t 4), none⟩, ⟨some 8, .bin .neq (.t 7) (.c (.int .i64 0)), none⟩] [1, 4, 8])
 (.cond (.t 8) (.seq (.reg [⟨some 9, .mv (.t 4), none⟩, ⟨some 2, .mv (.c (.nili)), none⟩, ⟨some 3, .mv (.t 9), none⟩] [2, 3])
 (.ret))
 (.skip))))
 (.seq (.seq (.reg [⟨some 10, .faddr 0 (.t 1), none⟩, ⟨some 11, .load false 1 (.t 10), none⟩] [1, 11])
 (.blk 0 (.seq (.reg [⟨some 13, .bin .eql (.t 11) (.c (.int .i64 0)), none⟩, ⟨some 12, .mv (.t 13), none⟩] [1, 11, 12])
 (.cond (.t 12) (.seq (.reg [⟨some 14, .faddr 3 (.t 1), none⟩, ⟨some 15, .load true 3 (.t 14), none⟩, ⟨some 16, .build [.int .i64 0, .int .u64 0, .int .u64 0] [(0, 3, .t 15)], none⟩, ⟨some 17, .mkif 282 (.t 16), none⟩, ⟨some 2, .mv (.t 17), none⟩, ⟨some 3, .mv (.c (.int .i64 0)), none⟩] [2, 3])
 (.ret))
 (.seq (.seq (.reg [⟨some 19, .bin .eql (.t 11) (.c (.int .i64 1)), none⟩, ⟨some 18, .mv (.t 19), none⟩] [1, 11, 18])
 (.cond (.t 18) (.skip)
 (.reg [⟨some 20, .bin .eql (.t 11) (.c (.int .i64 22)), none⟩, ⟨some 18, .mv (.t 20), none⟩] [1, 11, 18])))
 (.cond (.t 18) (.seq (.reg [⟨some 21, .faddr 0 (.t 1), none⟩, ⟨some 22, .load false 1 (.t 21), none⟩, ⟨some 23, .faddr 1 (.t 1), none⟩, ⟨some 24, .load false 1 (.t 23), none⟩, ⟨some 25, .faddr 2 (.t 1), none⟩, ⟨some 26, .load false 1 (.t 25), none⟩, ⟨some 27, .build [.int .i64 0, .int .i64 0, .int .i64 0] [(0, 1, .t 22), (1, 1, .t 24), (2, 1, .t 26)], none⟩, ⟨some 28, .mkif 281 (.t 27), none⟩, ⟨some 2, .mv (.t 28), none⟩, ⟨some 3, .mv (.c (.int .i64 0)), none⟩] [2, 3])
 (.ret))
 (.seq (.seq (.reg [⟨some 30, .bin .eql (.t 11) (.c (.int .i64 2)), none⟩, ⟨some 29, .mv (.t 30), none⟩] [1, 11, 29])
 (.cond (.t 29) (.skip)
 (.seq (.reg [⟨some 31, .bin .eql (.t 11) (.c (.int .i64 23)), none⟩, ⟨some 29, .mv (.t 31), none⟩] [1, 11, 29])
 (.cond (.t 29) (.skip)
 (.seq (.reg [⟨some 32, .bin .eql (.t 11) (.c (.int .i64 3)), none⟩, ⟨some 29, .mv (.t 32), none⟩] [1, 11, 29])
 (.cond (.t 29) (.skip)
 (.seq (.reg [⟨some 33, .bin .eql (.t 11) (.c (.int .i64 5)), none⟩, ⟨some 29, .mv (.t 33), none⟩] [1, 11, 29])
 (.cond (.t 29) (.skip)
 (.seq (.reg [⟨some 34, .bin .eql (.t 11) (.c (.int .i64 24)), none⟩, ⟨some 29, .mv (.t 34), none⟩] [1, 11, 29])
 (.cond (.t 29) (.skip)
 (.seq (.reg [⟨some 35, .bin .eql (.t 11) (.c (.int .i64 29)), none⟩, ⟨some 29, .mv (.t 35), none⟩] [1, 11, 29])
 (.cond (.t 29) (.skip)
 (.reg [⟨some 36, .bin .eql (.t 11) (.c (.int .i64 30)), none⟩, ⟨some 29, .mv (.t 36), none⟩] [1, 11, 29])))))))))))))
 (.cond (.t 29) (.seq (.reg [⟨some 37, .faddr 0 (.t 1), none⟩, ⟨some 38, .load false 1 (.t 37), none⟩, ⟨some 39, .faddr 1 (.t 1), none⟩, ⟨some 40, .load false 1 (.t 39), none⟩, ⟨some 41, .build [.int .i64 0, .int .i64 0] [(0, 1, .t 38), (1, 1, .t 40)], none⟩, ⟨some 42, .mkif 275 (.t 41), none⟩, ⟨some 2, .mv (.t 42), none⟩, ⟨some 3, .mv (.c (.int .i64 0)), none⟩] [2, 3])
 (.ret))
 (.seq (.seq (.reg [⟨some 44, .bin .eql (.t 11) (.c (.int .i64 4)), none⟩, ⟨some 43, .mv (.t 44), none⟩] [1, 11, 43])
 (.cond (.t 43) (.skip)
 (.seq (.reg [⟨some 45, .bin .eql (.t 11) (.c (.int .i64 25)), none⟩, ⟨some 43, .mv (.t 45), none⟩] [1, 11, 43])
 (.cond (.t 43) (.skip)
 (.reg [⟨some 46, .bin .eql (.t 11) (.c (.int .i64 26)), none⟩, ⟨some 43, .mv (.t 46), none⟩] [1, 11, 43])))))
 (.cond (.t 43) (.seq (.reg [⟨some 47, .faddr 0 (.t 1), none⟩, ⟨some 48, .load false 1 (.t 47), none⟩, ⟨some 49, .faddr 1 (.t 1), none⟩, ⟨some 50, .load false 1 (.t 49), none⟩, ⟨some 51, .build [.int .i64 0, .int .i64 0] [(0, 1, .t 48), (1, 1, .t 50)], none⟩, ⟨some 52, .mkif 283 (.t 51), none⟩, ⟨some 2, .mv (.t 52), none⟩, ⟨some 3, .mv (.c (.int .i64 0)), none⟩] [2, 3])
 (.ret))
 (.seq (.seq (.reg [⟨some 54, .bin .eql (.t 11) (.c (.int .i64 6)), none⟩, ⟨some 53, .mv (.t 54), none⟩] [1, 11, 53])
 (.cond (.t 53) (.skip)
 (.seq (.reg [⟨some 55, .bin .eql (.t 11) (.c (.int .i64 7)), none⟩, ⟨some 53, .mv (.t 55), none⟩] [1, 11, 53])
 (.cond (.t 53) (.skip)
 (.seq (.reg [⟨some 56, .bin .eql (.t 11) (.c (.int .i64 8)), none⟩, ⟨some 53, .mv (.t 56), none⟩] [1, 11, 53])
 (.cond (.t 53) (.skip)
 (.seq (.reg [⟨some 57, .bin .eql (.t 11) (.c (.int .i64 9)), none⟩, ⟨some 53, .mv (.t 57), none⟩] [1, 11, 53])
 (.cond (.t 53) (.skip)
 (.reg [⟨some 58, .bin .eql (.t 11) (.c (.int .i64 11)), none⟩, ⟨some 53, .mv (.t 58), none⟩] [1, 11, 53])))))))))
 (.cond (.t 53) (.seq (.reg [⟨some 59, .faddr 0 (.t 1), none⟩, ⟨some 60, .load false 1 (.t 59), none⟩, ⟨some 61, .faddr 1 (.t 1), none⟩, ⟨some 62, .load false 1 (.t 61), none⟩, ⟨some 63, .build [.int .i64 0, .int .i64 0] [(0, 1, .t 60), (1, 1, .t 62)], none⟩, ⟨some 64, .mkif 279 (.t 63), none⟩, ⟨some 2, .mv (.t 64), none⟩, ⟨some 3, .mv (.c (.int .i64 0)), none⟩] [2, 3])
 (.ret))
 (.seq (.reg [⟨some 66, .bin .eql (.t 11) (.c (.int .i64 10)), none⟩, ⟨some 65, .mv (.t 66), none⟩] [1, 11, 65])
 (.cond (.t 65) (.seq (.reg [⟨some 67, .faddr 1 (.t 1), none⟩, ⟨some 68, .load false 1 (.t 67), none⟩, ⟨some 69, .faddr 2 (.t 1), none⟩, ⟨some 70, .load false 1 (.t 69), none⟩, ⟨some 71, .build [.int .i64 0, .int .i64 0] [(0, 1, .t 68), (1, 1, .t 70)], none⟩, ⟨some 72, .mkif 280 (.t 71), none⟩, ⟨some 2, .mv (.t 72), none⟩, ⟨some 3, .mv (.c (.int .i64 0)), none⟩] [2, 3])
 (.ret))
 (.seq (.seq (.reg [⟨some 74, .bin .eql (.t 11) (.c (.int .i64 27)), none⟩, ⟨some 73, .mv (.t 74), none⟩] [1, 11, 73])
 (.cond (.t 73) (.skip)
 (.reg [⟨some 75, .bin .eql (.t 11) (.c (.int .i64 28)), none⟩, ⟨some 73, .mv (.t 75), none⟩] [1, 11, 73])))
 (.cond (.t 73) (.seq (.reg [⟨some 76, .faddr 0 (.t 1), none⟩, ⟨some 77, .load false 1 (.t 76), none⟩, ⟨some 78, .faddr 1 (.t 1), none⟩, ⟨some 79, .load false 1 (.t 78), none⟩, ⟨some 80, .faddr 2 (.t 1), none⟩, ⟨some 81, .load false 1 (.t 80), none⟩, ⟨some 82, .build [.int .i64 0, .int .i64 0, .int .i64 0] [(0, 1, .t 77), (1, 1, .t 79), (2, 1, .t 81)], none⟩, ⟨some 83, .mkif 277 (.t 82), none⟩, ⟨some 2, .mv (.t 83), none⟩, ⟨some 3, .mv (.c (.int .i64 0)), none⟩] [2, 3])
 (.ret))
 (.seq (.seq (.reg [⟨some 85, .bin .eql (.t 11) (.c (.int .i64 31)), none⟩, ⟨some 84, .mv (.t 85), none⟩] [1, 11, 84])
 (.cond (.t 84) (.skip)
 (.reg [⟨some 86, .bin .eql (.t 11) (.c (.int .i64 32)), none⟩, ⟨some 84, .mv (.t 86), none⟩] [1, 11, 84])))
 (.cond (.t 84) (.seq (.reg [⟨some 87, .faddr 0 (.t 1), none⟩, ⟨some 88, .load false 1 (.t 87), none⟩, ⟨some 89, .faddr 1 (.t 1), none⟩, ⟨some 90, .load false 1 (.t 89), none⟩, ⟨some 91, .build [.int .i64 0, .int .i64 0] [(0, 1, .t 88), (1, 1, .t 90)], none⟩, ⟨some 92, .mkif 278 (.t 91), none⟩, ⟨some 2, .mv (.t 92), none⟩, ⟨some 3, .mv (.c (.int .i64 0)), none⟩] [2, 3])
 (.ret))
 (.seq (.reg [⟨some 94, .bin .eql (.t 11) (.c (.int .i64 33)), none⟩, ⟨some 93, .mv (.t 94), none⟩] [1, 11, 93])
 (.cond (.t 93) (.seq (.reg [⟨some 95, .faddr 1 (.t 1), none⟩, ⟨some 96, .load false 1 (.t 95), none⟩, ⟨some 97, .faddr 2 (.t 1), none⟩, ⟨some 98, .load false 1 (.t 97), none⟩, ⟨some 99, .build [.int .i64 0, .int .i64 0] [(0, 1, .t 96), (1, 1, .t 98)], none⟩, ⟨some 100, .mkif 276 (.t 99), none⟩, ⟨some 2, .mv (.t 100), none⟩, ⟨some 3, .mv (.c (.int .i64 0)), none⟩] [2, 3])
 (.ret))
 (.seq (.reg [⟨some 102, .bin .eql (.t 11) (.c (.int .i64 34)), none⟩, ⟨some 101, .mv (.t 102), none⟩] [1, 101])
 (.cond (.t 101) (.seq (.reg [⟨some 103, .build [] [], none⟩, ⟨some 104, .mkif 285 (.t 103), none⟩, ⟨some 2, .mv (.t 104), none⟩, ⟨some 3, .mv (.c (.int .i64 0)), none⟩] [2, 3])
 (.ret))
 (.skip)))))))))))))))))))))))
 (.seq (.reg [⟨some 105, .faddr 0 (.t 1), none⟩, ⟨some 106, .load false 1 (.t 105), none⟩, ⟨some 107, .build [.int .i64 0] [(0, 1, .t 106)], none⟩, ⟨some 108, .mkif 286 (.t 107), none⟩, ⟨some 2, .mv (.t 108), none⟩, ⟨some 3, .mv (.c (.int .i64 0)), none⟩] [2, 3])
 (.ret))))
def f424 : VFunc := ⟨false, [.tmp 2, .tmp 3], b424, none⟩

/-- shunter/code.May -/
def b425 : VCode := .seq (.reg [⟨some 1, .box (.t 0), none⟩, ⟨some 2, .mv (.c (.int .i64 0)), none⟩] [1])
 (.seq (.seq (.reg [⟨some 4, .faddr 0 (.t 1), none⟩, ⟨some 5, .load false 1 (.t 4), none⟩, ⟨some 6, .call 430 [.t 5], none⟩, ⟨some 7, .un .not (.t 6), none⟩] [1, 7])
 (.cond (.t 7) (.seq (.reg [⟨some 2, .mv (.c (.int .i64 10)), none⟩] [2])
 (.ret))
 (.skip)))
 (.seq (.reg [⟨some 8, .faddr 0 (.t 1), none⟩, ⟨some 9, .load false 1 (.t 8), none⟩, ⟨some 10, .call 432 [.t 9], none⟩, ⟨some 3, .alloc (.agg [.bool false, .bool false, .int .i64 0, .int .i64 0, .int .i64 0, .int .i64 0, .int .i64 0, .int .i64 0]), none⟩, ⟨none, .store 8 false (.t 3) (.t 10), none⟩] [1, 3])
 (.seq (.blk 0 (.seq (.reg [⟨some 12, .faddr 1 (.t 1), none⟩, ⟨some 13, .load false 1 (.t 12), none⟩, ⟨some 14, .faddr 2 (.t 3), none⟩, ⟨some 15, .load false 1 (.t 14), none⟩, ⟨some 16, .faddr 3 (.t 3), none⟩, ⟨some 17, .load false 1 (.t 16), none⟩, ⟨some 18, .call 433 [.t 13, .t 15, .t 17], none⟩, ⟨some 19, .un .not (.t 18), none⟩, ⟨some 20, .mv (.t 19), none⟩, ⟨some 21, .faddr 2 (.t 1), (some (20, false))⟩, ⟨some 22, .load false 1 (.t 21), (some (20, false))⟩, ⟨some 23, .faddr 4 (.t 3), (some (20, false))⟩, ⟨some 24, .load false 1 (.t 23), (some (20, false))⟩, ⟨some 25, .faddr 5 (.t 3), (some (20, false))⟩, ⟨some 26, .load false 1 (.t 25), (some (20, false))⟩, ⟨some 27, .call 433 [.t 22, .t 24, .t 26], (some (20, false))⟩, ⟨some 28, .un .not (.t 27), (some (20, false))⟩, ⟨some 29, .pick (.t 20) (.c (.bool true)) (.t 28), none⟩, ⟨some 30, .mv (.t 29), none⟩, ⟨some 31, .faddr 0 (.t 1), (some (30, false))⟩, ⟨some 32, .load false 1 (.t 31), (some (30, false))⟩, ⟨some 33, .bin .eql (.t 32) (.c (.int .i64 10)), (some (30, false))⟩, ⟨some 34, .mv (.t 33), (some (30, false))⟩, ⟨some 35, .faddr 2 (.t 1), (some (34, true))⟩, ⟨some 36, .load false 1 (.t 35), (some (34, true))⟩, ⟨some 37, .faddr 1 (.t 1), (some (34, true))⟩, ⟨some 38, .load false 1 (.t 37), (some (34, true))⟩, ⟨some 39, .bin .gtr (.t 36) (.t 38), (some (34, true))⟩, ⟨some 40, .pick (.t 34) (.t 39) (.c (.bool false)), (some (30, false))⟩, ⟨some 41, .pick (.t 30) (.c (.bool true)) (.t 40), none⟩, ⟨some 11, .mv (.t 41), none⟩] [1, 11])
 (.cond (.t 11) (.seq (.reg [⟨some 2, .mv (.c (.int .i64 7)), none⟩] [2])
 (.ret))
 (.seq (.reg [⟨some 43, .faddr 0 (.t 1), none⟩, ⟨some 44, .load false 1 (.t 43), none⟩, ⟨some 45, .bin .eql (.t 44) (.c (.int .i64 0)), none⟩, ⟨some 46, .mv (.t 45), none⟩, ⟨some 47, .faddr 3 (.t 1), (some (46, true))⟩, ⟨some 48, .load true 3 (.t 47), (some (46, true))⟩, ⟨some 49, .call 1090 [.t 48], (some (46, true))⟩, ⟨some 50, .un .not (.t 49), (some (46, true))⟩, ⟨some 51, .pick (.t 46) (.t 50) (.c (.bool false)), none⟩, ⟨some 52, .mv (.t 51), none⟩, ⟨some 53, .faddr 0 (.t 1), (some (52, false))⟩, ⟨some 54, .load false 1 (.t 53), (some (52, false))⟩, ⟨some 55, .bin .neq (.t 54) (.c (.int .i64 0)), (some (52, false))⟩, ⟨some 56, .mv (.t 55), (some (52, false))⟩, ⟨some 57, .faddr 3 (.t 1), (some (56, true))⟩, ⟨some 58, .load true 3 (.t 57), (some (56, true))⟩, ⟨some 59, .build [.int .i64 0, .int .u64 0, .int .u64 0] [], (some (56, true))⟩, ⟨some 60, .eq true (some [.i, .i, .i]) (.t 58) (.t 59), (some (56, true))⟩, ⟨some 61, .pick (.t 56) (.t 60) (.c (.bool false)), (some (52, false))⟩, ⟨some 62, .pick (.t 52) (.c (.bool true)) (.t 61), none⟩, ⟨some 42, .mv (.t 62), none⟩] [42])
 (.cond (.t 42) (.seq (.reg [⟨some 2, .mv (.c (.int .i64 1)), none⟩] [2])
 (.ret))
 (.skip))))))
 (.seq (.reg [⟨some 2, .mv (.c (.int .i64 0)), none⟩] [2])
 (.ret)))))
def f425 : VFunc := ⟨false, [.tmp 2], b425, none⟩

/-- shunter/code.Target -/
def b427 : VCode := .seq (.reg [⟨some 2, .mv (.c (.int .i64 0)), none⟩, ⟨some 3, .mv (.c (.bool false)), none⟩] [0])
 (.seq (.seq (.reg [⟨some 9, .mv (.t 0), none⟩, ⟨some 10, .tassert 278 (.agg [.int .i64 0, .int .i64 0]) true (.t 9), none⟩, ⟨some 8, .mv (.t 10), none⟩, ⟨some 11, .ext (.t 8) 0, none⟩, ⟨some 12, .ext (.t 8) 1, none⟩, ⟨some 4, .alloc (.agg [.int .i64 0, .int .i64 0]), none⟩, ⟨none, .store 2 false (.t 4) (.t 11), none⟩, ⟨some 5, .mv (.t 12), none⟩] [0, 4, 5])
 (.seq (.reg [⟨some 13, .mv (.t 5), none⟩] [0, 4, 13])
 (.cond (.t 13) (.seq (.reg [⟨some 14, .faddr 1 (.t 4), none⟩, ⟨some 15, .load false 1 (.t 14), none⟩, ⟨some 2, .mv (.t 15), none⟩, ⟨some 3, .mv (.c (.bool true)), none⟩] [2, 3])
 (.ret))
 (.skip))))
 (.seq (.seq (.reg [⟨some 17, .mv (.t 0), none⟩, ⟨some 18, .tassert 276 (.agg [.int .i64 0, .int .i64 0]) true (.t 17), none⟩, ⟨some 16, .mv (.t 18), none⟩, ⟨some 19, .ext (.t 16) 0, none⟩, ⟨some 20, .ext (.t 16) 1, none⟩, ⟨some 6, .alloc (.agg [.int .i64 0, .int .i64 0]), none⟩, ⟨none, .store 2 false (.t 6) (.t 19), none⟩, ⟨some 7, .mv (.t 20), none⟩] [6, 7])
 (.seq (.reg [⟨some 21, .mv (.t 7), none⟩] [6, 21])
 (.cond (.t 21) (.seq (.reg [⟨some 22, .faddr 1 (.t 6), none⟩, ⟨some 23, .load false 1 (.t 22), none⟩, ⟨some 2, .mv (.t 23), none⟩, ⟨some 3, .mv (.c (.bool true)), none⟩] [2, 3])
 (.ret))
 (.skip))))
 (.seq (.reg [⟨some 2, .mv (.c (.int .i64 0)), none⟩, ⟨some 3, .mv (.c (.bool false)), none⟩] [2, 3])
 (.ret))))
def f427 : VFunc := ⟨false, [.tmp 2, .tmp 3], b427, none⟩

/-- shunter/code.alone -/
def b428 : VCode := .seq (.reg [⟨some 8, .alloc (.agg [.bool false, .bool false, .int .i64 0, .int .i64 0, .int .i64 0, .int .i64 0, .int .i64 0, .int .i64 0]), none⟩] [0, 1, 2, 3, 8])
 (.seq (.reg [⟨some 9, .mv (.t 0), none⟩, ⟨some 10, .mv (.t 1), none⟩, ⟨some 11, .mv (.t 2), none⟩, ⟨some 12, .mv (.t 3), none⟩, ⟨some 13, .build [.bool false, .bool false, .int .i64 0, .int .i64 0, .int .i64 0, .int .i64 0, .int .i64 0, .int .i64 0] [(0, 1, .c (.bool true)), (2, 1, .t 9), (3, 1, .t 10), (6, 1, .t 11), (7, 1, .t 12)], none⟩, ⟨none, .store 8 false (.t 8) (.t 13), none⟩] [8])
 (.ret))
def f428 : VFunc := ⟨false, [.cell 8 true 8], b428, none⟩

/-- shunter/code.both -/
def b429 : VCode := .seq (.reg [⟨some 10, .alloc (.agg [.bool false, .bool false, .int .i64 0, .int .i64 0, .int .i64 0, .int .i64 0, .int .i64 0, .int .i64 0]), none⟩] [0, 1, 2, 3, 4, 10])
 (.seq (.reg [⟨some 11, .mv (.t 0), none⟩, ⟨some 12, .mv (.t 1), none⟩, ⟨some 13, .mv (.t 2), none⟩, ⟨some 14, .mv (.t 3), none⟩, ⟨some 15, .mv (.t 4), none⟩, ⟨some 16, .build [.bool false, .bool false, .int .i64 0, .int .i64 0, .int .i64 0, .int .i64 0, .int .i64 0, .int .i64 0] [(0, 1, .c (.bool true)), (1, 1, .c (.bool true)), (3, 1, .t 11), (4, 1, .t 12), (5, 1, .t 13), (6, 1, .t 14), (7, 1, .t 15)], none⟩, ⟨none, .store 8 false (.t 10) (.t 16), none⟩] [10])
 (.ret))
def f429 : VFunc := ⟨false, [.cell 10 true 8], b429, none⟩

/-- shunter/code.known -/
def b430 : VCode := .seq (.reg [⟨some 2, .mv (.c (.bool false)), none⟩] [0])
 (.seq (.reg [⟨some 3, .mv (.t 0), none⟩, ⟨some 4, .bin .geq (.t 3) (.c (.int .i64 0)), none⟩, ⟨some 5, .mv (.t 4), none⟩, ⟨some 6, .mv (.t 0), (some (5, true))⟩, ⟨some 7, .bin .lss (.t 6) (.c (.int .i64 35)), (some (5, true))⟩, ⟨some 8, .pick (.t 5) (.t 7) (.c (.bool false)), none⟩, ⟨some 2, .mv (.t 8), none⟩] [2])
 (.ret))
def f430 : VFunc := ⟨false, [.tmp 2], b430, none⟩

/-- shunter/code.shapeOf -/
def b432 : VCode := .seq (.reg [⟨some 2, .alloc (.agg [.bool false, .bool false, .int .i64 0, .int .i64 0, .int .i64 0, .int .i64 0, .int .i64 0, .int .i64 0]), none⟩] [0, 2])
 (.seq (.seq (.reg [⟨some 3, .mv (.t 0), none⟩] [2, 3])
 (.blk 0 (.seq (.reg [⟨some 5, .bin .eql (.t 3) (.c (.int .i64 0)), none⟩, ⟨some 4, .mv (.t 5), none⟩] [2, 3, 4])
 (.cond (.t 4) (.seq (.reg [⟨some 6, .build [.bool false, .bool false, .int .i64 0, .int .i64 0, .int .i64 0, .int .i64 0, .int .i64 0, .int .i64 0] [(7, 1, .c (.int .i64 1))], none⟩, ⟨none, .store 8 false (.t 2) (.t 6), none⟩] [2])
 (.ret))
 (.seq (.reg [⟨some 8, .bin .eql (.t 3) (.c (.int .i64 1)), none⟩, ⟨some 7, .mv (.t 8), none⟩] [2, 3, 7])
 (.cond (.t 7) (.seq (.reg [⟨some 9, .call 429 [.c (.int .i64 31), .c (.int .i64 0), .c (.int .i64 15), .c (.int .i64 0), .c (.int .i64 1)], none⟩, ⟨none, .store 8 false (.t 2) (.t 9), none⟩] [2])
 (.ret))
 (.seq (.reg [⟨some 11, .bin .eql (.t 3) (.c (.int .i64 22)), none⟩, ⟨some 10, .mv (.t 11), none⟩] [2, 3, 10])
 (.cond (.t 10) (.seq (.reg [⟨some 12, .call 429 [.c (.int .i64 31), .c (.int .i64 0), .c (.int .i64 15), .c (.int .i64 1), .c (.int .i64 0)], none⟩, ⟨none, .store 8 false (.t 2) (.t 12), none⟩] [2])
 (.ret))
 (.seq (.reg [⟨some 14, .bin .eql (.t 3) (.c (.int .i64 2)), none⟩, ⟨some 13, .mv (.t 14), none⟩] [2, 3, 13])
 (.cond (.t 13) (.seq (.reg [⟨some 15, .call 428 [.c (.int .i64 0), .c (.int .i64 23), .c (.int .i64 0), .c (.int .i64 1)], none⟩, ⟨none, .store 8 false (.t 2) (.t 15), none⟩] [2])
 (.ret))
 (.seq (.reg [⟨some 17, .bin .eql (.t 3) (.c (.int .i64 23)), none⟩, ⟨some 16, .mv (.t 17), none⟩] [2, 3, 16])
 (.cond (.t 16) (.seq (.reg [⟨some 18, .call 428 [.c (.int .i64 0), .c (.int .i64 23), .c (.int .i64 1), .c (.int .i64 0)], none⟩, ⟨none, .store 8 false (.t 2) (.t 18), none⟩] [2])
 (.ret))
 (.seq (.reg [⟨some 20, .bin .eql (.t 3) (.c (.int .i64 3)), none⟩, ⟨some 19, .mv (.t 20), none⟩] [2, 3, 19])
 (.cond (.t 19) (.seq (.reg [⟨some 21, .call 428 [.c (.int .i64 0), .c (.int .i64 7), .c (.int .i64 0), .c (.int .i64 1)], none⟩, ⟨none, .store 8 false (.t 2) (.t 21), none⟩] [2])
 (.ret))
 (.seq (.reg [⟨some 23, .bin .eql (.t 3) (.c (.int .i64 4)), none⟩, ⟨some 22, .mv (.t 23), none⟩] [2, 3, 22])
 (.cond (.t 22) (.seq (.reg [⟨some 24, .call 428 [.c (.int .i64 0), .c (.int .i64 31), .c (.int .i64 0), .c (.int .i64 1)], none⟩, ⟨none, .store 8 false (.t 2) (.t 24), none⟩] [2])
 (.ret))
 (.seq (.seq (.reg [⟨some 26, .bin .eql (.t 3) (.c (.int .i64 25)), none⟩, ⟨some 25, .mv (.t 26), none⟩] [2, 3, 25])
 (.cond (.t 25) (.skip)
 (.reg [⟨some 27, .bin .eql (.t 3) (.c (.int .i64 26)), none⟩, ⟨some 25, .mv (.t 27), none⟩] [2, 3, 25])))
 (.cond (.t 25) (.seq (.reg [⟨some 28, .call 428 [.c (.int .i64 0), .c (.int .i64 31), .c (.int .i64 0), .c (.int .i64 0)], none⟩, ⟨none, .store 8 false (.t 2) (.t 28), none⟩] [2])
 (.ret))
 (.seq (.seq (.reg [⟨some 30, .bin .eql (.t 3) (.c (.int .i64 5)), none⟩, ⟨some 29, .mv (.t 30), none⟩] [2, 3, 29])
 (.cond (.t 29) (.skip)
 (.reg [⟨some 31, .bin .eql (.t 3) (.c (.int .i64 30)), none⟩, ⟨some 29, .mv (.t 31), none⟩] [2, 3, 29])))
 (.cond (.t 29) (.seq (.reg [⟨some 32, .call 428 [.c (.int .i64 0), .c (.int .i64 7), .c (.int .i64 1), .c (.int .i64 1)], none⟩, ⟨none, .store 8 false (.t 2) (.t 32), none⟩] [2])
 (.ret))
 (.seq (.reg [⟨some 34, .bin .eql (.t 3) (.c (.int .i64 24)), none⟩, ⟨some 33, .mv (.t 34), none⟩] [2, 3, 33])
 (.cond (.t 33) (.seq (.reg [⟨some 35, .call 428 [.c (.int .i64 0), .c (.int .i64 7), .c (.int .i64 2), .c (.int .i64 0)], none⟩, ⟨none, .store 8 false (.t 2) (.t 35), none⟩] [2])
 (.ret))
 (.seq (.reg [⟨some 37, .bin .eql (.t 3) (.c (.int .i64 29)), none⟩, ⟨some 36, .mv (.t 37), none⟩] [2, 3, 36])
 (.cond (.t 36) (.seq (.reg [⟨some 38, .call 428 [.c (.int .i64 0), .c (.int .i64 7), .c (.int .i64 1), .c (.int .i64 0)], none⟩, ⟨none, .store 8 false (.t 2) (.t 38), none⟩] [2])
 (.ret))
 (.seq (.seq (.reg [⟨some 40, .bin .eql (.t 3) (.c (.int .i64 8)), none⟩, ⟨some 39, .mv (.t 40), none⟩] [2, 3, 39])
 (.cond (.t 39) (.skip)
 (.reg [⟨some 41, .bin .eql (.t 3) (.c (.int .i64 9)), none⟩, ⟨some 39, .mv (.t 41), none⟩] [2, 3, 39])))
 (.cond (.t 39) (.seq (.reg [⟨some 42, .call 428 [.c (.int .i64 0), .c (.int .i64 128), .c (.int .i64 1), .c (.int .i64 1)], none⟩, ⟨none, .store 8 false (.t 2) (.t 42), none⟩] [2])
 (.ret))
 (.seq (.reg [⟨some 44, .bin .eql (.t 3) (.c (.int .i64 11)), none⟩, ⟨some 43, .mv (.t 44), none⟩] [2, 3, 43])
 (.cond (.t 43) (.seq (.reg [⟨some 45, .call 428 [.c (.int .i64 1), .c (.int .i64 128), .c (.int .i64 1), .c (.int .i64 1)], none⟩, ⟨none, .store 8 false (.t 2) (.t 45), none⟩] [2])
 (.ret))
 (.seq (.reg [⟨some 47, .bin .eql (.t 3) (.c (.int .i64 10)), none⟩, ⟨some 46, .mv (.t 47), none⟩] [2, 3, 46])
 (.cond (.t 46) (.seq (.reg [⟨some 48, .call 429 [.c (.int .i64 127), .c (.int .i64 0), .c (.int .i64 127), .c (.int .i64 1), .c (.int .i64 1)], none⟩, ⟨none, .store 8 false (.t 2) (.t 48), none⟩] [2])
 (.ret))
 (.seq (.seq (.reg [⟨some 50, .bin .eql (.t 3) (.c (.int .i64 27)), none⟩, ⟨some 49, .mv (.t 50), none⟩] [2, 3, 49])
 (.cond (.t 49) (.skip)
 (.reg [⟨some 51, .bin .eql (.t 3) (.c (.int .i64 28)), none⟩, ⟨some 49, .mv (.t 51), none⟩] [2, 3, 49])))
 (.cond (.t 49) (.seq (.reg [⟨some 52, .call 429 [.c (.int .i64 15), .c (.int .i64 1), .c (.int .i64 4), .c (.int .i64 0), .c (.int .i64 0)], none⟩, ⟨none, .store 8 false (.t 2) (.t 52), none⟩] [2])
 (.ret))
 (.seq (.reg [⟨some 54, .bin .eql (.t 3) (.c (.int .i64 31)), none⟩, ⟨some 53, .mv (.t 54), none⟩] [2, 3, 53])
 (.cond (.t 53) (.seq (.reg [⟨some 55, .call 428 [.c (.int .i64 0), .c (.int .i64 64), .c (.int .i64 0), .c (.int .i64 0)], none⟩, ⟨none, .store 8 false (.t 2) (.t 55), none⟩] [2])
 (.ret))
 (.seq (.reg [⟨some 57, .bin .eql (.t 3) (.c (.int .i64 32)), none⟩, ⟨some 56, .mv (.t 57), none⟩] [2, 3, 56])
 (.cond (.t 56) (.seq (.reg [⟨some 58, .call 428 [.c (.int .i64 0), .c (.int .i64 64), .c (.int .i64 1), .c (.int .i64 0)], none⟩, ⟨none, .store 8 false (.t 2) (.t 58), none⟩] [2])
 (.ret))
 (.seq (.reg [⟨some 60, .bin .eql (.t 3) (.c (.int .i64 33)), none⟩, ⟨some 59, .mv (.t 60), none⟩] [2, 3, 59])
 (.cond (.t 59) (.seq (.reg [⟨some 61, .call 429 [.c (.int .i64 31), .c (.int .i64 0), .c (.int .i64 64), .c (.int .i64 0), .c (.int .i64 0)], none⟩, ⟨none, .store 8 false (.t 2) (.t 61), none⟩] [2])
 (.ret))
 (.seq (.seq (.reg [⟨some 63, .bin .eql (.t 3) (.c (.int .i64 6)), none⟩, ⟨some 62, .mv (.t 63), none⟩] [2, 3, 62])
 (.cond (.t 62) (.skip)
 (.reg [⟨some 64, .bin .eql (.t 3) (.c (.int .i64 7)), none⟩, ⟨some 62, .mv (.t 64), none⟩] [2, 3, 62])))
 (.cond (.t 62) (.seq (.reg [⟨some 65, .build [.bool false, .bool false, .int .i64 0, .int .i64 0, .int .i64 0, .int .i64 0, .int .i64 0, .int .i64 0] [(6, 1, .c (.int .i64 1)), (7, 1, .c (.int .i64 1))], none⟩, ⟨none, .store 8 false (.t 2) (.t 65), none⟩] [2])
 (.ret))
 (.seq (.reg [⟨some 67, .bin .eql (.t 3) (.c (.int .i64 34)), none⟩, ⟨some 66, .mv (.t 67), none⟩] [2, 66])
 (.cond (.t 66) (.seq (.reg [⟨some 68, .build [.bool false, .bool false, .int .i64 0, .int .i64 0, .int .i64 0, .int .i64 0, .int .i64 0, .int .i64 0] [], none⟩, ⟨none, .store 8 false (.t 2) (.t 68), none⟩] [2])
 (.ret))
 (.skip)))))))))))))))))))))))))))))))))))))))))))
 (.seq (.reg [⟨some 69, .build [.bool false, .bool false, .int .i64 0, .int .i64 0, .int .i64 0, .int .i64 0, .int .i64 0, .int .i64 0] [(6, 1, .c (.int .i64 2)), (7, 1, .c (.int .i64 1))], none⟩, ⟨none, .store 8 false (.t 2) (.t 69), none⟩] [2])
 (.ret)))
def f432 : VFunc := ⟨false, [.cell 2 true 8], b432, none⟩

/-- shunter/code.within -/
def b433 : VCode := .seq (.reg [⟨some 6, .mv (.c (.bool false)), none⟩] [0, 1, 2])
 (.seq (.reg [⟨some 7, .mv (.t 0), none⟩, ⟨some 8, .mv (.t 1), none⟩, ⟨some 9, .bin .geq (.t 7) (.t 8), none⟩, ⟨some 10, .mv (.t 9), none⟩, ⟨some 11, .mv (.t 0), (some (10, true))⟩, ⟨some 12, .mv (.t 2), (some (10, true))⟩, ⟨some 13, .bin .leq (.t 11) (.t 12), (some (10, true))⟩, ⟨some 14, .pick (.t 10) (.t 13) (.c (.bool false)), none⟩, ⟨some 6, .mv (.t 14), none⟩] [6])
 (.ret))
def f433 : VFunc := ⟨false, [.tmp 6], b433, none⟩

def l481_0 : VCode := .seq (.reg [⟨some 11, .bin .lss (.t 10) (.c (.int .i64 15)), none⟩] [3, 10, 11])
 (.seq (.cond (.t 11) (.skip)
 (.exit 0))
 (.seq (.blk 1 (.seq (.reg [⟨some 12, .mv (.t 10), none⟩, ⟨some 4, .mv (.t 12), none⟩] [3, 4, 10])
 (.seq (.reg [⟨some 14, .mv (.t 3), none⟩, ⟨some 15, .mv (.t 4), none⟩, ⟨some 16, .call 133 [.t 14, .t 15], none⟩, ⟨some 13, .mv (.t 16), none⟩, ⟨some 17, .ext (.t 13) 0, none⟩, ⟨some 18, .ext (.t 13) 1, none⟩, ⟨some 5, .mv (.t 17), none⟩, ⟨some 6, .mv (.t 18), none⟩] [3, 4, 5, 6, 10])
 (.seq (.reg [⟨some 19, .mv (.t 6), none⟩, ⟨some 20, .bin .neq (.t 19) (.c (.int .i64 0)), none⟩] [3, 4, 5, 6, 10, 20])
 (.cond (.t 20) (.seq (.reg [⟨some 21, .mv (.t 4), none⟩, ⟨some 22, .mv (.t 5), none⟩, ⟨some 23, .mv (.t 6), none⟩, ⟨some 24, .build [.int .i64 0, .int .i64 0, .int .i64 0] [(0, 1, .t 21), (1, 1, .t 22), (2, 1, .t 23)], none⟩, ⟨some 25, .box (.t 24), none⟩, ⟨some 26, .mkif 121 (.t 25), none⟩, ⟨some 2, .mv (.t 26), none⟩] [2])
 (.ret))
 (.skip))))))
 (.reg [⟨some 27, .bin .add (.t 10) (.c (.int .i64 1)), none⟩, ⟨some 10, .mv (.t 27), none⟩] [3, 10])))
def L481_0 : VCode := l481_0
/-- shunter/image.Check -/
def b481 : VCode := .seq (.reg [⟨some 1, .box (.t 0), none⟩, ⟨some 2, .mv (.c (.nili)), none⟩] [1])
 (.seq (.reg [⟨some 7, .load true 18 (.t 1), none⟩, ⟨some 8, .build [.str [], .sl 6 [] .nl, .sl 3 [] .nl, .sl 2 [] .nl, .sl 5 [] .nl, .sl 3 [] .nl, .sl 7 [] .nl, .sl 6 [] .nl, .sl 6 [] .nl, .sl 1 [] .nl, .sl 2 [] .nl, .sl 2 [] .nl, .sl 3 [] .nl, .sl 2 [] .nl, .sl 4 [] .nl, .int .i64 0, .int .i64 0, .int .i64 0] [(0, 18, .t 7)], none⟩, ⟨some 9, .box (.t 8), none⟩, ⟨some 3, .mv (.t 9), none⟩] [3])
 (.seq (.seq (.reg [⟨some 10, .mv (.c (.int .i64 0)), none⟩] [3, 10])
 (.blk 0 (.loop [3, 10] (L481_0))))
 (.seq (.reg [⟨some 2, .mv (.c (.nili)), none⟩] [2])
 (.ret))))
def f481 : VFunc := ⟨false, [.tmp 2], b481, none⟩

/-- shunter/image.Field -/
def b489 : VCode := .seq (.reg [⟨some 3, .box (.t 0), none⟩, ⟨some 6, .mv (.c (.int .i64 0)), none⟩, ⟨some 7, .mv (.c (.bool false)), none⟩] [1, 2, 3])
 (.seq (.reg [⟨some 11, .load true 18 (.t 3), none⟩, ⟨some 12, .mv (.t 1), none⟩, ⟨some 13, .call 493 [.t 11, .t 12], none⟩, ⟨some 10, .mv (.t 13), none⟩, ⟨some 14, .ext (.t 10) 0, none⟩, ⟨some 15, .ext (.t 10) 1, none⟩, ⟨some 8, .alloc (.agg [.str [], .sl 2 [] .nl, .int .i64 0, .int .i64 0, .int .i64 0, .int .i64 0]), none⟩, ⟨none, .store 6 true (.t 8) (.t 14), none⟩, ⟨some 9, .mv (.t 15), none⟩] [2, 8, 9])
 (.seq (.seq (.reg [⟨some 16, .mv (.t 9), none⟩, ⟨some 17, .un .not (.t 16), none⟩, ⟨some 18, .mv (.t 17), none⟩, ⟨some 19, .mv (.t 2), (some (18, false))⟩, ⟨some 20, .faddr 1 (.t 8), (some (18, false))⟩, ⟨some 21, .load false 1 (.t 20), (some (18, false))⟩, ⟨some 22, .len false (.t 21), (some (18, false))⟩, ⟨some 23, .bin .sub (.t 22) (.c (.int .i64 1)), (some (18, false))⟩, ⟨some 24, .call 522 [.t 19, .c (.int .i64 0), .t 23], (some (18, false))⟩, ⟨some 25, .un .not (.t 24), (some (18, false))⟩, ⟨some 26, .pick (.t 18) (.c (.bool true)) (.t 25), none⟩] [2, 8, 26])
 (.cond (.t 26) (.seq (.reg [⟨some 6, .mv (.c (.int .i64 0)), none⟩, ⟨some 7, .mv (.c (.bool false)), none⟩] [6, 7])
 (.ret))
 (.skip)))
 (.seq (.reg [⟨some 27, .faddr 1 (.t 8), none⟩, ⟨some 28, .load false 1 (.t 27), none⟩, ⟨some 29, .mv (.t 2), none⟩, ⟨some 30, .iaddr 2 (.t 28) (.t 29), none⟩, ⟨some 31, .faddr 1 (.t 30), none⟩, ⟨some 32, .load false 1 (.t 31), none⟩, ⟨some 6, .mv (.t 32), none⟩, ⟨some 7, .mv (.c (.bool true)), none⟩] [6, 7])
 (.ret))))
def f489 : VFunc := ⟨false, [.tmp 6, .tmp 7], b489, none⟩

def l490_0 : VCode := .seq (.reg [⟨some 14, .bin .lss (.t 13) (.t 12), none⟩] [2, 6, 11, 12, 13, 14])
 (.seq (.cond (.t 14) (.skip)
 (.exit 0))
 (.seq (.blk 1 (.seq (.reg [⟨some 15, .iaddr 3 (.t 11) (.t 13), none⟩, ⟨some 16, .load true 3 (.t 15), none⟩, ⟨some 8, .alloc (.agg [.int .i64 0, .int .i64 0, .int .i64 0]), none⟩, ⟨none, .store 3 false (.t 8) (.t 16), none⟩] [2, 6, 8, 11, 12, 13])
 (.seq (.reg [⟨some 18, .load true 18 (.t 2), none⟩, ⟨some 19, .load true 3 (.t 8), none⟩, ⟨some 20, .call 510 [.t 18, .t 19], none⟩, ⟨some 17, .mv (.t 20), none⟩, ⟨some 21, .ext (.t 17) 0, none⟩, ⟨some 22, .ext (.t 17) 1, none⟩, ⟨some 9, .mv (.t 21), none⟩, ⟨some 10, .mv (.t 22), none⟩] [2, 6, 9, 10, 11, 12, 13])
 (.seq (.seq (.reg [⟨some 23, .mv (.t 10), none⟩, ⟨some 24, .un .not (.t 23), none⟩, ⟨some 25, .mv (.t 24), none⟩, ⟨some 26, .mv (.t 9), (some (25, false))⟩, ⟨some 27, .mv (.t 6), (some (25, false))⟩, ⟨some 28, .bin .sub (.c (.int .i64 128)) (.t 27), (some (25, false))⟩, ⟨some 29, .call 522 [.t 26, .c (.int .i64 1), .t 28], (some (25, false))⟩, ⟨some 30, .un .not (.t 29), (some (25, false))⟩, ⟨some 31, .pick (.t 25) (.c (.bool true)) (.t 30), none⟩] [2, 6, 9, 11, 12, 13, 31])
 (.cond (.t 31) (.seq (.reg [⟨some 4, .mv (.c (.int .i64 0)), none⟩, ⟨some 5, .mv (.c (.bool false)), none⟩] [4, 5])
 (.ret))
 (.skip)))
 (.reg [⟨some 32, .mv (.t 6), none⟩, ⟨some 33, .mv (.t 9), none⟩, ⟨some 34, .bin .add (.t 32) (.t 33), none⟩, ⟨some 6, .mv (.t 34), none⟩] [2, 6, 11, 12, 13])))))
 (.reg [⟨some 35, .bin .add (.t 13) (.c (.int .i64 1)), none⟩, ⟨some 13, .mv (.t 35), none⟩] [2, 6, 11, 12, 13])))
def L490_0 : VCode := l490_0
/-- shunter/image.Key -/
def b490 : VCode := .seq (.reg [⟨some 2, .box (.t 0), none⟩, ⟨some 4, .mv (.c (.int .i64 0)), none⟩, ⟨some 5, .mv (.c (.bool false)), none⟩] [1, 2])
 (.seq (.reg [⟨some 6, .mv (.c (.int .i64 0)), none⟩] [1, 2, 6])
 (.seq (.seq (.reg [⟨some 11, .mv (.t 1), none⟩, ⟨some 12, .len false (.t 11), none⟩, ⟨some 13, .mv (.c (.int .i64 0)), none⟩] [2, 6, 11, 12, 13])
 (.blk 0 (.loop [2, 6, 11, 12, 13] (L490_0))))
 (.seq (.reg [⟨some 36, .mv (.t 6), none⟩, ⟨some 4, .mv (.t 36), none⟩, ⟨some 5, .mv (.c (.bool true)), none⟩] [4, 5])
 (.ret))))
def f490 : VFunc := ⟨false, [.tmp 4, .tmp 5], b490, none⟩

/-- shunter/image.Meta -/
def b491 : VCode := .seq (.reg [⟨some 2, .box (.t 0), none⟩, ⟨some 4, .mv (.c (.int .i64 0)), none⟩, ⟨some 5, .mv (.c (.bool false)), none⟩] [1, 2])
 (.seq (.blk 0 (.seq (.reg [⟨some 7, .mv (.t 1), none⟩, ⟨some 8, .call 522 [.t 7, .c (.int .i64 0), .c (.int .i64 7)], none⟩, ⟨some 6, .mv (.t 8), none⟩] [1, 2, 6])
 (.cond (.t 6) (.seq (.reg [⟨some 9, .call 508 [], none⟩, ⟨some 10, .mv (.t 1), none⟩, ⟨some 11, .idxA 8 1 false (.t 9) (.t 10), none⟩, ⟨some 4, .mv (.t 11), none⟩, ⟨some 5, .mv (.c (.bool true)), none⟩] [4, 5])
 (.ret))
 (.seq (.reg [⟨some 13, .mv (.t 1), none⟩, ⟨some 14, .bin .geq (.t 13) (.c (.int .i64 0)), none⟩, ⟨some 15, .mv (.t 14), none⟩, ⟨some 16, .mv (.t 1), (some (15, true))⟩, ⟨some 17, .bin .sub (.t 16) (.c (.int .i64 8)), (some (15, true))⟩, ⟨some 18, .faddr 3 (.t 2), (some (15, true))⟩, ⟨some 19, .load false 1 (.t 18), (some (15, true))⟩, ⟨some 20, .len false (.t 19), (some (15, true))⟩, ⟨some 21, .bin .lss (.t 17) (.t 20), (some (15, true))⟩, ⟨some 22, .pick (.t 15) (.t 21) (.c (.bool false)), none⟩, ⟨some 12, .mv (.t 22), none⟩] [1, 2, 12])
 (.cond (.t 12) (.seq (.reg [⟨some 23, .faddr 3 (.t 2), none⟩, ⟨some 24, .load false 1 (.t 23), none⟩, ⟨some 25, .mv (.t 1), none⟩, ⟨some 26, .bin .sub (.t 25) (.c (.int .i64 8)), none⟩, ⟨some 27, .iaddr 2 (.t 24) (.t 26), none⟩, ⟨some 28, .faddr 1 (.t 27), none⟩, ⟨some 29, .load false 1 (.t 28), none⟩, ⟨some 4, .mv (.t 29), none⟩, ⟨some 5, .mv (.c (.bool true)), none⟩] [4, 5])
 (.ret))
 (.skip))))))
 (.seq (.reg [⟨some 4, .mv (.c (.int .i64 0)), none⟩, ⟨some 5, .mv (.c (.bool false)), none⟩] [4, 5])
 (.ret)))
def f491 : VFunc := ⟨false, [.tmp 4, .tmp 5], b491, none⟩

/-- shunter/image.Slot -/
def b493 : VCode := .seq (.reg [⟨some 2, .box (.t 0), none⟩, ⟨some 4, .alloc (.agg [.str [], .sl 2 [] .nl, .int .i64 0, .int .i64 0, .int .i64 0, .int .i64 0]), none⟩, ⟨some 5, .mv (.c (.bool false)), none⟩] [1, 2, 4])
 (.seq (.reg [⟨some 6, .faddr 1 (.t 2), none⟩, ⟨some 7, .load false 1 (.t 6), none⟩, ⟨some 8, .faddr 2 (.t 2), none⟩, ⟨some 9, .load false 1 (.t 8), none⟩, ⟨some 10, .mv (.t 1), none⟩, ⟨some 11, .call 639 [.t 7, .t 9, .t 10], none⟩, ⟨some 12, .ext (.t 11) 0, none⟩, ⟨some 13, .ext (.t 11) 1, none⟩, ⟨none, .store 6 true (.t 4) (.t 12), none⟩, ⟨some 5, .mv (.t 13), none⟩] [4, 5])
 (.ret))
def f493 : VFunc := ⟨false, [.cell 4 true 6, .tmp 5], b493, none⟩

/-- shunter/image.Stacked -/
def b494 : VCode := .seq (.reg [⟨some 2, .box (.t 0), none⟩, ⟨some 4, .mv (.c (.int .i64 0)), none⟩, ⟨some 5, .mv (.c (.int .i64 0)), none⟩, ⟨some 6, .mv (.c (.bool false)), none⟩] [1, 2])
 (.seq (.reg [⟨some 10, .faddr 2 (.t 2), none⟩, ⟨some 11, .load false 1 (.t 10), none⟩, ⟨some 12, .mv (.t 1), none⟩, ⟨some 13, .call 638 [.t 11, .t 12], none⟩, ⟨some 9, .mv (.t 13), none⟩, ⟨some 14, .ext (.t 9) 0, none⟩, ⟨some 15, .ext (.t 9) 1, none⟩, ⟨some 7, .mv (.t 14), none⟩, ⟨some 8, .mv (.t 15), none⟩] [1, 2, 7, 8])
 (.seq (.seq (.reg [⟨some 16, .mv (.t 8), none⟩, ⟨some 17, .un .not (.t 16), none⟩, ⟨some 18, .mv (.t 17), none⟩, ⟨some 19, .faddr 2 (.t 2), (some (18, false))⟩, ⟨some 20, .load false 1 (.t 19), (some (18, false))⟩, ⟨some 21, .mv (.t 1), (some (18, false))⟩, ⟨some 22, .iaddr 3 (.t 20) (.t 21), (some (18, false))⟩, ⟨some 23, .faddr 2 (.t 22), (some (18, false))⟩, ⟨some 24, .load false 1 (.t 23), (some (18, false))⟩, ⟨some 25, .bin .eql (.t 24) (.c (.int .i64 0)), (some (18, false))⟩, ⟨some 26, .pick (.t 18) (.c (.bool true)) (.t 25), none⟩] [1, 2, 7, 26])
 (.cond (.t 26) (.seq (.reg [⟨some 4, .mv (.c (.int .i64 0)), none⟩, ⟨some 5, .mv (.c (.int .i64 0)), none⟩, ⟨some 6, .mv (.c (.bool false)), none⟩] [4, 5, 6])
 (.ret))
 (.skip)))
 (.seq (.drw [⟨⟨some 27, .mv (.t 7), none⟩, 0, 0, []⟩, ⟨⟨some 28, .faddr 2 (.t 2), none⟩, 1, 0, []⟩, ⟨⟨some 30, .mv (.t 1), none⟩, 3, 0, []⟩, ⟨⟨some 4, .mv (.t 27), none⟩, 7, 1, []⟩, ⟨⟨some 29, .load false 1 (.t 28), none⟩, 2, 2, []⟩, ⟨⟨some 31, .iaddr 3 (.t 29) (.t 30), none⟩, 4, 14, []⟩, ⟨⟨some 32, .faddr 2 (.t 31), none⟩, 5, 30, []⟩, ⟨⟨some 33, .load false 1 (.t 32), none⟩, 6, 62, []⟩, ⟨⟨some 5, .mv (.t 33), none⟩, 8, 255, []⟩, ⟨⟨some 6, .mv (.c (.bool true)), none⟩, 9, 511, []⟩] [4, 5, 6])
 (.ret))))
def f494 : VFunc := ⟨false, [.tmp 4, .tmp 5, .tmp 6], b494, none⟩

def l501_0 : VCode := .seq (.reg [⟨some 15, .bin .lss (.t 14) (.t 13), none⟩] [2, 13, 14, 15])
 (.seq (.cond (.t 15) (.skip)
 (.exit 0))
 (.seq (.blk 1 (.seq (.reg [⟨some 16, .mv (.t 14), none⟩, ⟨some 8, .mv (.t 16), none⟩] [2, 8, 13, 14])
 (.seq (.reg [⟨some 17, .mv (.t 2), none⟩, ⟨some 18, .mv (.t 8), none⟩, ⟨some 19, .calld true (.t 17) [.t 18], none⟩, ⟨some 9, .mv (.t 19), none⟩] [2, 8, 9, 13, 14])
 (.seq (.reg [⟨some 20, .mv (.t 9), none⟩, ⟨some 21, .bin .neq (.t 20) (.c (.int .i64 0)), none⟩] [2, 8, 9, 13, 14, 21])
 (.cond (.t 21) (.seq (.reg [⟨some 22, .mv (.t 8), none⟩, ⟨some 23, .mv (.t 9), none⟩, ⟨some 6, .mv (.t 22), none⟩, ⟨some 7, .mv (.t 23), none⟩] [6, 7])
 (.ret))
 (.skip))))))
 (.reg [⟨some 24, .bin .add (.t 14) (.c (.int .i64 1)), none⟩, ⟨some 14, .mv (.t 24), none⟩] [2, 13, 14])))
def L501_0 : VCode := l501_0
/-- shunter/image.all -/
def b501 : VCode := .seq (.reg [⟨some 6, .mv (.c (.int .i64 0)), none⟩, ⟨some 7, .mv (.c (.int .i64 0)), none⟩] [0, 1, 2])
 (.seq (.seq (.reg [⟨some 10, .mv (.t 0), none⟩, ⟨some 11, .mv (.t 1), none⟩, ⟨some 12, .bin .gtr (.t 10) (.t 11), none⟩] [0, 2, 12])
 (.cond (.t 12) (.seq (.reg [⟨some 6, .mv (.c (.int .i64 0)), none⟩, ⟨some 7, .mv (.c (.int .i64 2)), none⟩] [6, 7])
 (.ret))
 (.skip)))
 (.seq (.seq (.reg [⟨some 13, .mv (.t 0), none⟩, ⟨some 14, .mv (.c (.int .i64 0)), none⟩] [2, 13, 14])
 (.blk 0 (.loop [2, 13, 14] (L501_0))))
 (.seq (.reg [⟨some 6, .mv (.c (.int .i64 0)), none⟩, ⟨some 7, .mv (.c (.int .i64 0)), none⟩] [6, 7])
 (.ret))))
def f501 : VFunc := ⟨false, [.tmp 6, .tmp 7], b501, none⟩

def l507_0 : VCode := .seq (.reg [⟨some 8, .bin .lss (.t 7) (.t 6), none⟩] [5, 6, 7, 8])
 (.seq (.cond (.t 8) (.skip)
 (.exit 0))
 (.seq (.blk 1 (.seq (.reg [⟨some 9, .iaddr 1 (.t 5) (.t 7), none⟩, ⟨some 10, .load false 1 (.t 9), none⟩, ⟨some 4, .mv (.t 10), none⟩] [4, 5, 6, 7])
 (.seq (.reg [⟨some 11, .mv (.t 4), none⟩, ⟨some 12, .bin .neq (.t 11) (.c (.int .i64 0)), none⟩] [4, 5, 6, 7, 12])
 (.cond (.t 12) (.seq (.reg [⟨some 13, .mv (.t 4), none⟩, ⟨some 2, .mv (.t 13), none⟩] [2])
 (.ret))
 (.skip)))))
 (.reg [⟨some 14, .bin .add (.t 7) (.c (.int .i64 1)), none⟩, ⟨some 7, .mv (.t 14), none⟩] [5, 6, 7])))
def L507_0 : VCode := l507_0
/-- shunter/image.first -/
def b507 : VCode := .seq (.reg [⟨some 2, .mv (.c (.int .i64 0)), none⟩] [0])
 (.seq (.seq (.reg [⟨some 5, .mv (.t 0), none⟩, ⟨some 6, .len false (.t 5), none⟩, ⟨some 7, .mv (.c (.int .i64 0)), none⟩] [5, 6, 7])
 (.blk 0 (.loop [5, 6, 7] (L507_0))))
 (.seq (.reg [⟨some 2, .mv (.c (.int .i64 0)), none⟩] [2])
 (.ret)))
def f507 : VFunc := ⟨false, [.tmp 2], b507, none⟩

/-- shunter/image.given -/
def b508 : VCode := .seq (.reg [⟨some 0, .alloc (.agg [.int .i64 0, .int .i64 0, .int .i64 0, .int .i64 0, .int .i64 0, .int .i64 0, .int .i64 0, .int .i64 0]), none⟩] [0])
 (.seq (.reg [⟨some 1, .build [.int .i64 0, .int .i64 0, .int .i64 0, .int .i64 0, .int .i64 0, .int .i64 0, .int .i64 0, .int .i64 0] [(0, 1, .c (.int .i64 8)), (1, 1, .c (.int .i64 8)), (2, 1, .c (.int .i64 8)), (3, 1, .c (.int .i64 1)), (4, 1, .c (.int .i64 8)), (5, 1, .c (.int .i64 1)), (6, 1, .c (.int .i64 16)), (7, 1, .c (.int .i64 8))], none⟩, ⟨none, .store 8 false (.t 0) (.t 1), none⟩] [0])
 (.ret))
def f508 : VFunc := ⟨false, [.cell 0 true 8], b508, none⟩

/-- shunter/image.log -/
def b509 : VCode := .seq (.reg [⟨some 2, .mv (.c (.int .i64 0)), none⟩] [0])
 (.seq (.reg [⟨some 3, .mv (.t 0), none⟩, ⟨some 4, .call 522 [.t 3, .c (.int .i64 1), .c (.int .i64 8)], none⟩, ⟨some 5, .call 521 [.t 4, .c (.int .i64 7)], none⟩, ⟨some 2, .mv (.t 5), none⟩] [2])
 (.ret))
def f509 : VFunc := ⟨false, [.tmp 2], b509, none⟩

/-- shunter/image.part -/
def b510 : VCode := .seq (.reg [⟨some 2, .box (.t 0), none⟩, ⟨some 3, .box (.t 1), none⟩, ⟨some 4, .mv (.c (.int .i64 0)), none⟩, ⟨some 5, .mv (.c (.bool false)), none⟩] [2, 3])
 (.seq (.seq (.reg [⟨some 6, .faddr 0 (.t 3), none⟩, ⟨some 7, .load false 1 (.t 6), none⟩] [2, 3, 7])
 (.blk 0 (.seq (.reg [⟨some 9, .bin .eql (.t 7) (.c (.int .i64 0)), none⟩, ⟨some 8, .mv (.t 9), none⟩] [2, 3, 7, 8])
 (.cond (.t 8) (.seq (.reg [⟨some 10, .load true 18 (.t 2), none⟩, ⟨some 11, .faddr 1 (.t 3), none⟩, ⟨some 12, .load false 1 (.t 11), none⟩, ⟨some 13, .faddr 2 (.t 3), none⟩, ⟨some 14, .load false 1 (.t 13), none⟩, ⟨some 15, .call 489 [.t 10, .t 12, .t 14], none⟩, ⟨some 16, .ext (.t 15) 0, none⟩, ⟨some 17, .ext (.t 15) 1, none⟩, ⟨some 4, .mv (.t 16), none⟩, ⟨some 5, .mv (.t 17), none⟩] [4, 5])
 (.ret))
 (.seq (.reg [⟨some 19, .bin .eql (.t 7) (.c (.int .i64 1)), none⟩, ⟨some 18, .mv (.t 19), none⟩] [2, 3, 7, 18])
 (.cond (.t 18) (.seq (.reg [⟨some 20, .load true 18 (.t 2), none⟩, ⟨some 21, .faddr 1 (.t 3), none⟩, ⟨some 22, .load false 1 (.t 21), none⟩, ⟨some 23, .call 491 [.t 20, .t 22], none⟩, ⟨some 24, .ext (.t 23) 0, none⟩, ⟨some 25, .ext (.t 23) 1, none⟩, ⟨some 4, .mv (.t 24), none⟩, ⟨some 5, .mv (.t 25), none⟩] [4, 5])
 (.ret))
 (.seq (.reg [⟨some 27, .bin .eql (.t 7) (.c (.int .i64 2)), none⟩, ⟨some 26, .mv (.t 27), none⟩] [3, 26])
 (.cond (.t 26) (.seq (.drw [⟨⟨some 28, .faddr 2 (.t 3), none⟩, 0, 0, []⟩, ⟨⟨some 30, .faddr 1 (.t 3), none⟩, 2, 0, []⟩, ⟨⟨some 29, .load false 1 (.t 28), none⟩, 1, 1, []⟩, ⟨⟨some 31, .load false 1 (.t 30), none⟩, 3, 4, []⟩, ⟨⟨some 32, .call 522 [.t 31, .c (.int .i64 0), .c (.int .i64 1024)], none⟩, 4, 12, []⟩, ⟨⟨some 33, .mv (.t 32), none⟩, 5, 28, []⟩, ⟨⟨some 34, .faddr 2 (.t 3), (some (33, true))⟩, 6, 60, []⟩, ⟨⟨some 35, .load false 1 (.t 34), (some (33, true))⟩, 7, 124, []⟩, ⟨⟨some 36, .call 522 [.t 35, .c (.int .i64 1), .c (.int .i64 64)], (some (33, true))⟩, 8, 252, []⟩, ⟨⟨some 37, .pick (.t 33) (.t 36) (.c (.bool false)), none⟩, 9, 508, []⟩, ⟨⟨some 4, .mv (.t 29), none⟩, 10, 511, []⟩, ⟨⟨some 5, .mv (.t 37), none⟩, 11, 2047, []⟩] [4, 5])
 (.ret))
 (.skip)))))))))
 (.seq (.reg [⟨some 4, .mv (.c (.int .i64 0)), none⟩, ⟨some 5, .mv (.c (.bool false)), none⟩] [4, 5])
 (.ret)))
def f510 : VFunc := ⟨false, [.tmp 4, .tmp 5], b510, none⟩

def l520_0 : VCode := .seq (.reg [⟨some 20, .bin .lss (.t 19) (.t 18), none⟩] [1, 5, 18, 19, 20])
 (.seq (.cond (.t 20) (.skip)
 (.exit 0))
 (.seq (.blk 1 (.seq (.reg [⟨some 21, .mv (.t 19), none⟩, ⟨some 7, .mv (.t 21), none⟩] [1, 5, 7, 18, 19])
 (.seq (.reg [⟨some 22, .mv (.t 1), none⟩, ⟨some 23, .mv (.t 7), none⟩, ⟨some 24, .calld true (.t 22) [.t 23], none⟩, ⟨some 25, .mv (.t 5), none⟩, ⟨some 26, .call 554 [.t 24, .t 25], none⟩] [1, 5, 18, 19, 26])
 (.cond (.t 26) (.seq (.reg [⟨some 4, .mv (.c (.int .i64 6)), none⟩] [4])
 (.ret))
 (.skip)))))
 (.reg [⟨some 27, .bin .add (.t 19) (.c (.int .i64 1)), none⟩, ⟨some 19, .mv (.t 27), none⟩] [1, 5, 18, 19])))
def L520_0 : VCode := l520_0
/-- shunter/image.titled -/
def b520 : VCode := .seq (.reg [⟨some 4, .mv (.c (.int .i64 0)), none⟩] [0, 1])
 (.seq (.reg [⟨some 8, .mv (.t 1), none⟩, ⟨some 9, .mv (.t 0), none⟩, ⟨some 10, .calld true (.t 8) [.t 9], none⟩, ⟨some 5, .mv (.t 10), none⟩] [0, 1, 5])
 (.seq (.seq (.reg [⟨some 11, .mv (.t 5), none⟩, ⟨some 12, .build [.str [], .int .i64 0] [(0, 1, .c (.str [120])), (1, 1, .c (.int .i64 8))], none⟩, ⟨some 13, .buildSl 2 [.t 12], none⟩, ⟨some 14, .build [.str [], .sl 2 [] .nl, .int .i64 0, .int .i64 0, .int .i64 0, .int .i64 0] [(0, 1, .t 11), (1, 1, .t 13)], none⟩, ⟨some 15, .call 641 [.t 14], none⟩, ⟨some 6, .mv (.t 15), none⟩] [0, 1, 5, 6])
 (.seq (.reg [⟨some 16, .mv (.t 6), none⟩, ⟨some 17, .bin .neq (.t 16) (.c (.int .i64 0)), none⟩] [0, 1, 5, 17])
 (.cond (.t 17) (.seq (.reg [⟨some 4, .mv (.c (.int .i64 4)), none⟩] [4])
 (.ret))
 (.skip))))
 (.seq (.seq (.reg [⟨some 18, .mv (.t 0), none⟩, ⟨some 19, .mv (.c (.int .i64 0)), none⟩] [1, 5, 18, 19])
 (.blk 0 (.loop [1, 5, 18, 19] (L520_0))))
 (.seq (.reg [⟨some 4, .mv (.c (.int .i64 0)), none⟩] [4])
 (.ret)))))
def f520 : VFunc := ⟨false, [.tmp 4], b520, none⟩

/-- shunter/image.wants -/
def b521 : VCode := .seq (.reg [⟨some 4, .mv (.c (.int .i64 0)), none⟩] [0, 1])
 (.seq (.seq (.reg [⟨some 5, .mv (.t 0), none⟩] [1, 5])
 (.cond (.t 5) (.seq (.reg [⟨some 4, .mv (.c (.int .i64 0)), none⟩] [4])
 (.ret))
 (.skip)))
 (.seq (.reg [⟨some 6, .mv (.t 1), none⟩, ⟨some 4, .mv (.t 6), none⟩] [4])
 (.ret)))
def f521 : VFunc := ⟨false, [.tmp 4], b521, none⟩

/-- shunter/image.within -/
def b522 : VCode := .seq (.reg [⟨some 6, .mv (.c (.bool false)), none⟩] [0, 1, 2])
 (.seq (.reg [⟨some 7, .mv (.t 0), none⟩, ⟨some 8, .mv (.t 1), none⟩, ⟨some 9, .bin .geq (.t 7) (.t 8), none⟩, ⟨some 10, .mv (.t 9), none⟩, ⟨some 11, .mv (.t 0), (some (10, true))⟩, ⟨some 12, .mv (.t 2), (some (10, true))⟩, ⟨some 13, .bin .leq (.t 11) (.t 12), (some (10, true))⟩, ⟨some 14, .pick (.t 10) (.t 13) (.c (.bool false)), none⟩, ⟨some 6, .mv (.t 14), none⟩] [6])
 (.ret))
def f522 : VFunc := ⟨false, [.tmp 6], b522, none⟩

/-- shunter/name.Alike -/
def b554 : VCode := .seq (.reg [⟨some 4, .mv (.c (.bool false)), none⟩] [0, 1])
 (.seq (.reg [⟨some 5, .mv (.t 0), none⟩, ⟨some 6, .call 560 [.t 5], none⟩, ⟨some 7, .mv (.t 1), none⟩, ⟨some 8, .call 560 [.t 7], none⟩, ⟨some 9, .bin .eql (.t 6) (.t 8), none⟩, ⟨some 4, .mv (.t 9), none⟩] [4])
 (.ret))
def f554 : VFunc := ⟨false, [.tmp 4], b554, none⟩

/-- shunter/name.Digit -/
def b556 : VCode := .seq (.reg [⟨some 2, .mv (.c (.bool false)), none⟩] [0])
 (.seq (.reg [⟨some 3, .mv (.t 0), none⟩, ⟨some 4, .call 564 [.t 3, .c (.int .i32 48), .c (.int .i32 57)], none⟩, ⟨some 2, .mv (.t 4), none⟩] [2])
 (.ret))
def f556 : VFunc := ⟨false, [.tmp 2], b556, none⟩

/-- shunter/name.Fold -/
def b557 : VCode := .seq (.reg [⟨some 2, .mv (.c (.int .i32 0)), none⟩] [0])
 (.seq (.blk 0 (.seq (.reg [⟨some 4, .mv (.t 0), none⟩, ⟨some 5, .call 561 [.t 4], none⟩, ⟨some 6, .un .not (.t 5), none⟩, ⟨some 3, .mv (.t 6), none⟩] [0, 3])
 (.cond (.t 3) (.seq (.reg [⟨some 7, .mv (.t 0), none⟩, ⟨some 2, .mv (.t 7), none⟩] [2])
 (.ret))
 (.seq (.reg [⟨some 9, .mv (.t 0), none⟩, ⟨some 10, .call 564 [.t 9, .c (.int .i32 65), .c (.int .i32 90)], none⟩, ⟨some 11, .mv (.t 10), none⟩, ⟨some 12, .mv (.t 0), (some (11, false))⟩, ⟨some 13, .call 564 [.t 12, .c (.int .i32 192), .c (.int .i32 222)], (some (11, false))⟩, ⟨some 14, .pick (.t 11) (.c (.bool true)) (.t 13), none⟩, ⟨some 15, .mv (.t 14), none⟩, ⟨some 16, .mv (.t 0), (some (15, false))⟩, ⟨some 17, .call 564 [.t 16, .c (.int .i32 913), .c (.int .i32 937)], (some (15, false))⟩, ⟨some 18, .pick (.t 15) (.c (.bool true)) (.t 17), none⟩, ⟨some 19, .mv (.t 18), none⟩, ⟨some 20, .mv (.t 0), (some (19, false))⟩, ⟨some 21, .call 564 [.t 20, .c (.int .i32 1040), .c (.int .i32 1071)], (some (19, false))⟩, ⟨some 22, .pick (.t 19) (.c (.bool true)) (.t 21), none⟩, ⟨some 8, .mv (.t 22), none⟩] [0, 8])
 (.cond (.t 8) (.seq (.reg [⟨some 23, .mv (.t 0), none⟩, ⟨some 24, .bin .add (.t 23) (.c (.int .i32 32)), none⟩, ⟨some 2, .mv (.t 24), none⟩] [2])
 (.ret))
 (.seq (.reg [⟨some 26, .mv (.t 0), none⟩, ⟨some 27, .call 564 [.t 26, .c (.int .i32 1024), .c (.int .i32 1039)], none⟩, ⟨some 25, .mv (.t 27), none⟩] [0, 25])
 (.cond (.t 25) (.seq (.reg [⟨some 28, .mv (.t 0), none⟩, ⟨some 29, .bin .add (.t 28) (.c (.int .i32 80)), none⟩, ⟨some 2, .mv (.t 29), none⟩] [2])
 (.ret))
 (.seq (.reg [⟨some 31, .mv (.t 0), none⟩, ⟨some 32, .bin .eql (.t 31) (.c (.int .i32 962)), none⟩, ⟨some 30, .mv (.t 32), none⟩] [0, 30])
 (.cond (.t 30) (.seq (.reg [⟨some 2, .mv (.c (.int .i32 963)), none⟩] [2])
 (.ret))
 (.skip))))))))))
 (.seq (.reg [⟨some 33, .mv (.t 0), none⟩, ⟨some 2, .mv (.t 33), none⟩] [2])
 (.ret)))
def f557 : VFunc := ⟨false, [.tmp 2], b557, none⟩

/-- shunter/name.Index -/
def b558 : VCode := .seq (.reg [⟨some 4, .mv (.c (.int .i64 0)), none⟩] [0, 1])
 (.seq (.reg [⟨some 6, .mv (.t 1), none⟩, ⟨some 7, .call 560 [.t 6], none⟩, ⟨some 5, .alloc (.str []), none⟩, ⟨none, .store 1 false (.t 5) (.t 7), none⟩] [0, 5])
 (.seq (.reg [⟨some 8, .mv (.t 0), none⟩, ⟨some 9, .mkfn 559 [] [.t 5], none⟩, ⟨some 10, .call 1203 [.t 8, .t 9], none⟩, ⟨some 4, .mv (.t 10), none⟩] [4])
 (.ret)))
def f558 : VFunc := ⟨false, [.tmp 4], b558, none⟩

/-- shunter/name.Index$1 -/
def b559 : VCode := .seq (.reg [⟨some 3, .mv (.c (.bool false)), none⟩] [0, 1])
 (.seq (.drw [⟨⟨some 4, .mv (.t 0), none⟩, 0, 0, []⟩, ⟨⟨some 6, .load false 1 (.t 1), none⟩, 2, 0, []⟩, ⟨⟨some 5, .call 560 [.t 4], none⟩, 1, 1, []⟩, ⟨⟨some 7, .bin .eql (.t 5) (.t 6), none⟩, 3, 7, []⟩, ⟨⟨some 3, .mv (.t 7), none⟩, 4, 15, []⟩] [3])
 (.ret))
def f559 : VFunc := ⟨false, [.tmp 3], b559, none⟩

/-- shunter/name.Letter -/
def b561 : VCode := .seq (.reg [⟨some 2, .mv (.c (.bool false)), none⟩] [0])
 (.seq (.blk 0 (.seq (.reg [⟨some 4, .mv (.t 0), none⟩, ⟨some 5, .bin .eql (.t 4) (.c (.int .i32 215)), none⟩, ⟨some 6, .mv (.t 5), none⟩, ⟨some 7, .mv (.t 0), (some (6, false))⟩, ⟨some 8, .bin .eql (.t 7) (.c (.int .i32 247)), (some (6, false))⟩, ⟨some 9, .pick (.t 6) (.c (.bool true)) (.t 8), none⟩, ⟨some 10, .mv (.t 9), none⟩, ⟨some 11, .mv (.t 0), (some (10, false))⟩, ⟨some 12, .bin .eql (.t 11) (.c (.int .i32 930)), (some (10, false))⟩, ⟨some 13, .pick (.t 10) (.c (.bool true)) (.t 12), none⟩, ⟨some 3, .mv (.t 13), none⟩] [0, 3])
 (.cond (.t 3) (.seq (.reg [⟨some 2, .mv (.c (.bool false)), none⟩] [2])
 (.ret))
 (.seq (.reg [⟨some 15, .mv (.t 0), none⟩, ⟨some 16, .call 564 [.t 15, .c (.int .i32 65), .c (.int .i32 90)], none⟩, ⟨some 17, .mv (.t 16), none⟩, ⟨some 18, .mv (.t 0), (some (17, false))⟩, ⟨some 19, .call 564 [.t 18, .c (.int .i32 97), .c (.int .i32 122)], (some (17, false))⟩, ⟨some 20, .pick (.t 17) (.c (.bool true)) (.t 19), none⟩, ⟨some 21, .mv (.t 20), none⟩, ⟨some 22, .mv (.t 0), (some (21, false))⟩, ⟨some 23, .bin .eql (.t 22) (.c (.int .i32 95)), (some (21, false))⟩, ⟨some 24, .pick (.t 21) (.c (.bool true)) (.t 23), none⟩, ⟨some 14, .mv (.t 24), none⟩] [0, 14])
 (.cond (.t 14) (.seq (.reg [⟨some 2, .mv (.c (.bool true)), none⟩] [2])
 (.ret))
 (.skip))))))
 (.seq (.reg [⟨some 25, .mv (.t 0), none⟩, ⟨some 26, .call 564 [.t 25, .c (.int .i32 192), .c (.int .i32 591)], none⟩, ⟨some 27, .mv (.t 26), none⟩, ⟨some 28, .mv (.t 0), (some (27, false))⟩, ⟨some 29, .call 564 [.t 28, .c (.int .i32 913), .c (.int .i32 969)], (some (27, false))⟩, ⟨some 30, .pick (.t 27) (.c (.bool true)) (.t 29), none⟩, ⟨some 31, .mv (.t 30), none⟩, ⟨some 32, .mv (.t 0), (some (31, false))⟩, ⟨some 33, .call 564 [.t 32, .c (.int .i32 1024), .c (.int .i32 1279)], (some (31, false))⟩, ⟨some 34, .pick (.t 31) (.c (.bool true)) (.t 33), none⟩, ⟨some 2, .mv (.t 34), none⟩] [2])
 (.ret)))
def f561 : VFunc := ⟨false, [.tmp 2], b561, none⟩

def l562_0 : VCode := .seq (.reg [⟨some 8, .nxt (.t 7), none⟩, ⟨some 9, .ext (.t 8) 0, none⟩] [3, 7, 8, 9])
 (.seq (.cond (.t 9) (.skip)
 (.exit 0))
 (.blk 1 (.seq (.reg [⟨some 10, .ext (.t 8) 2, none⟩, ⟨some 5, .mv (.t 10), none⟩] [3, 5, 7])
 (.seq (.seq (.reg [⟨some 11, .mv (.t 5), none⟩, ⟨some 12, .call 561 [.t 11], none⟩, ⟨some 13, .un .not (.t 12), none⟩, ⟨some 14, .mv (.t 13), none⟩, ⟨some 15, .mv (.t 3), (some (14, true))⟩, ⟨some 16, .bin .eql (.t 15) (.c (.int .i64 0)), (some (14, true))⟩, ⟨some 17, .mv (.t 16), (some (14, true))⟩, ⟨some 18, .mv (.t 5), (some (17, false))⟩, ⟨some 19, .call 556 [.t 18], (some (17, false))⟩, ⟨some 20, .un .not (.t 19), (some (17, false))⟩, ⟨some 21, .mv (.t 20), (some (17, false))⟩, ⟨some 22, .mv (.t 5), (some (21, true))⟩, ⟨some 23, .bin .neq (.t 22) (.c (.int .i32 45)), (some (21, true))⟩, ⟨some 24, .pick (.t 21) (.t 23) (.c (.bool false)), (some (17, false))⟩, ⟨some 25, .mv (.t 24), (some (17, false))⟩, ⟨some 26, .mv (.t 5), (some (25, true))⟩, ⟨some 27, .bin .neq (.t 26) (.c (.int .i32 46)), (some (25, true))⟩, ⟨some 28, .pick (.t 25) (.t 27) (.c (.bool false)), (some (17, false))⟩, ⟨some 29, .pick (.t 17) (.c (.bool true)) (.t 28), (some (14, true))⟩, ⟨some 30, .pick (.t 14) (.t 29) (.c (.bool false)), none⟩] [3, 7, 30])
 (.cond (.t 30) (.seq (.reg [⟨some 2, .mv (.c (.bool false)), none⟩] [2])
 (.ret))
 (.skip)))
 (.reg [⟨some 31, .mv (.t 3), none⟩, ⟨some 32, .bin .add (.t 31) (.c (.int .i64 1)), none⟩, ⟨some 3, .mv (.t 32), none⟩] [3, 7])))))
def L562_0 : VCode := l562_0
/-- shunter/name.May -/
def b562 : VCode := .seq (.reg [⟨some 2, .mv (.c (.bool false)), none⟩] [0])
 (.seq (.reg [⟨some 3, .mv (.c (.int .i64 0)), none⟩] [0, 3])
 (.seq (.seq (.reg [⟨some 6, .mv (.t 0), none⟩, ⟨some 7, .rng (.t 6), none⟩] [3, 7])
 (.blk 0 (.loop [3, 7] (L562_0))))
 (.seq (.reg [⟨some 33, .mv (.t 3), none⟩, ⟨some 34, .bin .geq (.t 33) (.c (.int .i64 1)), none⟩, ⟨some 35, .mv (.t 34), none⟩, ⟨some 36, .mv (.t 3), (some (35, true))⟩, ⟨some 37, .bin .leq (.t 36) (.c (.int .i64 24)), (some (35, true))⟩, ⟨some 38, .pick (.t 35) (.t 37) (.c (.bool false)), none⟩, ⟨some 2, .mv (.t 38), none⟩] [2])
 (.ret))))
def f562 : VFunc := ⟨false, [.tmp 2], b562, none⟩

/-- shunter/name.between -/
def b564 : VCode := .seq (.reg [⟨some 6, .mv (.c (.bool false)), none⟩] [0, 1, 2])
 (.seq (.reg [⟨some 7, .mv (.t 0), none⟩, ⟨some 8, .mv (.t 1), none⟩, ⟨some 9, .bin .geq (.t 7) (.t 8), none⟩, ⟨some 10, .mv (.t 9), none⟩, ⟨some 11, .mv (.t 0), (some (10, true))⟩, ⟨some 12, .mv (.t 2), (some (10, true))⟩, ⟨some 13, .bin .leq (.t 11) (.t 12), (some (10, true))⟩, ⟨some 14, .pick (.t 10) (.t 13) (.c (.bool false)), none⟩, ⟨some 6, .mv (.t 14), none⟩] [6])
 (.ret))
def f564 : VFunc := ⟨false, [.tmp 6], b564, none⟩

/-- shunter/shape.First -/
def b638 : VCode := .seq (.reg [⟨some 4, .mv (.c (.int .i64 0)), none⟩, ⟨some 5, .mv (.c (.bool false)), none⟩] [0, 1])
 (.seq (.seq (.reg [⟨some 6, .mv (.t 1), none⟩, ⟨some 7, .mv (.t 0), none⟩, ⟨some 8, .len false (.t 7), none⟩, ⟨some 9, .bin .sub (.t 8) (.c (.int .i64 1)), none⟩, ⟨some 10, .call 652 [.t 6, .c (.int .i64 0), .t 9], none⟩, ⟨some 11, .un .not (.t 10), none⟩, ⟨some 12, .mv (.t 11), none⟩, ⟨some 13, .mv (.t 0), (some (12, false))⟩, ⟨some 14, .mv (.t 1), (some (12, false))⟩, ⟨some 15, .iaddr 3 (.t 13) (.t 14), (some (12, false))⟩, ⟨some 16, .load true 3 (.t 15), (some (12, false))⟩, ⟨some 17, .call 649 [.t 16], (some (12, false))⟩, ⟨some 18, .bin .eql (.t 17) (.c (.int .i64 0)), (some (12, false))⟩, ⟨some 19, .pick (.t 12) (.c (.bool true)) (.t 18), none⟩] [0, 1, 19])
 (.cond (.t 19) (.seq (.reg [⟨some 4, .mv (.c (.int .i64 0)), none⟩, ⟨some 5, .mv (.c (.bool false)), none⟩] [4, 5])
 (.ret))
 (.skip)))
 (.seq (.reg [⟨some 20, .mv (.t 0), none⟩, ⟨some 21, .mv (.t 1), none⟩, ⟨some 22, .slice 3 (.t 20) none (some (.t 21)) none, none⟩, ⟨some 23, .call 645 [.t 22], none⟩, ⟨some 4, .mv (.t 23), none⟩, ⟨some 5, .mv (.c (.bool true)), none⟩] [4, 5])
 (.ret)))
def f638 : VFunc := ⟨false, [.tmp 4, .tmp 5], b638, none⟩

/-- shunter/shape.Header -/
def b639 : VCode := .seq (.reg [⟨some 6, .alloc (.agg [.str [], .sl 2 [] .nl, .int .i64 0, .int .i64 0, .int .i64 0, .int .i64 0]), none⟩, ⟨some 7, .mv (.c (.bool false)), none⟩] [0, 1, 2, 6])
 (.seq (.reg [⟨some 12, .mv (.t 1), none⟩, ⟨some 13, .mv (.t 2), none⟩, ⟨some 14, .call 643 [.t 12, .t 13], none⟩, ⟨some 11, .mv (.t 14), none⟩, ⟨some 15, .ext (.t 11) 0, none⟩, ⟨some 16, .ext (.t 11) 1, none⟩, ⟨some 17, .ext (.t 11) 2, none⟩, ⟨some 8, .mv (.t 15), none⟩, ⟨some 9, .mv (.t 16), none⟩, ⟨some 10, .mv (.t 17), none⟩] [0, 1, 6, 8, 10])
 (.seq (.seq (.reg [⟨some 18, .mv (.t 10), none⟩, ⟨some 19, .un .not (.t 18), none⟩, ⟨some 20, .mv (.t 19), none⟩, ⟨some 21, .mv (.t 1), (some (20, false))⟩, ⟨some 22, .mv (.t 8), (some (20, false))⟩, ⟨some 23, .iaddr 3 (.t 21) (.t 22), (some (20, false))⟩, ⟨some 24, .faddr 1 (.t 23), (some (20, false))⟩, ⟨some 25, .load false 1 (.t 24), (some (20, false))⟩, ⟨some 26, .mv (.t 0), (some (20, false))⟩, ⟨some 27, .len false (.t 26), (some (20, false))⟩, ⟨some 28, .bin .sub (.t 27) (.c (.int .i64 1)), (some (20, false))⟩, ⟨some 29, .call 652 [.t 25, .c (.int .i64 0), .t 28], (some (20, false))⟩, ⟨some 30, .un .not (.t 29), (some (20, false))⟩, ⟨some 31, .pick (.t 20) (.c (.bool true)) (.t 30), none⟩] [0, 1, 6, 8, 31])
 (.cond (.t 31) (.seq (.reg [⟨some 32, .build [.str [], .sl 2 [] .nl, .int .i64 0, .int .i64 0, .int .i64 0, .int .i64 0] [], none⟩, ⟨none, .store 6 true (.t 6) (.t 32), none⟩, ⟨some 7, .mv (.c (.bool false)), none⟩] [6, 7])
 (.ret))
 (.skip)))
 (.seq (.reg [⟨some 33, .mv (.t 0), none⟩, ⟨some 34, .mv (.t 1), none⟩, ⟨some 35, .mv (.t 8), none⟩, ⟨some 36, .iaddr 3 (.t 34) (.t 35), none⟩, ⟨some 37, .faddr 1 (.t 36), none⟩, ⟨some 38, .load false 1 (.t 37), none⟩, ⟨some 39, .iaddr 6 (.t 33) (.t 38), none⟩, ⟨some 40, .load true 6 (.t 39), none⟩, ⟨none, .store 6 true (.t 6) (.t 40), none⟩, ⟨some 7, .mv (.c (.bool true)), none⟩] [6, 7])
 (.ret))))
def f639 : VFunc := ⟨false, [.cell 6 true 6, .tmp 7], b639, none⟩

def l640_0 : VCode := .seq (.reg [⟨some 14, .bin .lss (.t 13) (.t 12), none⟩] [0, 1, 5, 11, 12, 13, 14])
 (.seq (.cond (.t 14) (.skip)
 (.exit 0))
 (.seq (.blk 1 (.seq (.reg [⟨some 15, .iaddr 3 (.t 11) (.t 13), none⟩, ⟨some 16, .load true 3 (.t 15), none⟩, ⟨some 7, .alloc (.agg [.str [], .int .i64 0, .int .i64 0]), none⟩, ⟨none, .store 3 false (.t 7) (.t 16), none⟩] [0, 1, 5, 7, 11, 12, 13])
 (.seq (.blk 2 (.seq (.reg [⟨some 18, .faddr 0 (.t 7), none⟩, ⟨some 19, .load false 1 (.t 18), none⟩, ⟨some 20, .call 650 [.t 19], none⟩, ⟨some 21, .un .not (.t 20), none⟩, ⟨some 17, .mv (.t 21), none⟩] [0, 1, 5, 7, 11, 12, 13, 17])
 (.cond (.t 17) (.seq (.reg [⟨some 4, .mv (.c (.int .i64 4)), none⟩] [4])
 (.ret))
 (.seq (.reg [⟨some 23, .mv (.t 5), none⟩, ⟨some 24, .faddr 0 (.t 7), none⟩, ⟨some 25, .load false 1 (.t 24), none⟩, ⟨some 26, .call 558 [.t 23, .t 25], none⟩, ⟨some 27, .bin .geq (.t 26) (.c (.int .i64 0)), none⟩, ⟨some 22, .mv (.t 27), none⟩] [0, 1, 5, 7, 11, 12, 13, 22])
 (.cond (.t 22) (.seq (.reg [⟨some 4, .mv (.c (.int .i64 6)), none⟩] [4])
 (.ret))
 (.seq (.reg [⟨some 29, .faddr 1 (.t 7), none⟩, ⟨some 30, .load false 1 (.t 29), none⟩, ⟨some 31, .mv (.t 0), none⟩, ⟨some 32, .len false (.t 31), none⟩, ⟨some 33, .bin .sub (.t 32) (.c (.int .i64 1)), none⟩, ⟨some 34, .call 652 [.t 30, .c (.int .i64 0), .t 33], none⟩, ⟨some 35, .un .not (.t 34), none⟩, ⟨some 28, .mv (.t 35), none⟩] [0, 1, 5, 7, 11, 12, 13, 28])
 (.cond (.t 28) (.seq (.reg [⟨some 4, .mv (.c (.int .i64 5)), none⟩] [4])
 (.ret))
 (.seq (.reg [⟨some 37, .faddr 2 (.t 7), none⟩, ⟨some 38, .load false 1 (.t 37), none⟩, ⟨some 39, .call 652 [.t 38, .c (.int .i64 0), .c (.int .i64 4)], none⟩, ⟨some 40, .un .not (.t 39), none⟩, ⟨some 36, .mv (.t 40), none⟩] [0, 1, 5, 7, 11, 12, 13, 36])
 (.cond (.t 36) (.seq (.reg [⟨some 4, .mv (.c (.int .i64 7)), none⟩] [4])
 (.ret))
 (.skip))))))))))
 (.reg [⟨some 41, .mv (.t 5), none⟩, ⟨some 42, .faddr 0 (.t 7), none⟩, ⟨some 43, .load false 1 (.t 42), none⟩, ⟨some 44, .buildSl 1 [.t 43], none⟩, ⟨some 45, .app 1 16 false (.t 41) (.t 44), none⟩, ⟨some 5, .mv (.t 45), none⟩] [0, 1, 5, 11, 12, 13]))))
 (.reg [⟨some 46, .bin .add (.t 13) (.c (.int .i64 1)), none⟩, ⟨some 13, .mv (.t 46), none⟩] [0, 1, 5, 11, 12, 13])))
def L640_0 : VCode := l640_0
/-- shunter/shape.Insts -/
def b640 : VCode := .seq (.reg [⟨some 4, .mv (.c (.int .i64 0)), none⟩] [0, 1])
 (.seq (.seq (.reg [⟨some 8, .mv (.t 1), none⟩, ⟨some 9, .len false (.t 8), none⟩, ⟨some 10, .bin .gtr (.t 9) (.c (.int .i64 16)), none⟩] [0, 1, 10])
 (.cond (.t 10) (.seq (.reg [⟨some 4, .mv (.c (.int .i64 2)), none⟩] [4])
 (.ret))
 (.skip)))
 (.seq (.reg [⟨some 5, .nilacc 1, none⟩] [0, 1, 5])
 (.seq (.seq (.reg [⟨some 11, .mv (.t 1), none⟩, ⟨some 12, .len false (.t 11), none⟩, ⟨some 13, .mv (.c (.int .i64 0)), none⟩] [0, 1, 5, 11, 12, 13])
 (.blk 0 (.loop [0, 1, 5, 11, 12, 13] (L640_0))))
 (.seq (.seq (.reg [⟨some 47, .mv (.t 1), none⟩, ⟨some 48, .call 645 [.t 47], none⟩, ⟨some 49, .bin .gtr (.t 48) (.c (.int .i64 32)), none⟩] [49])
 (.cond (.t 49) (.seq (.reg [⟨some 4, .mv (.c (.int .i64 8)), none⟩] [4])
 (.ret))
 (.skip)))
 (.seq (.reg [⟨some 4, .mv (.c (.int .i64 0)), none⟩] [4])
 (.ret))))))
def f640 : VFunc := ⟨false, [.tmp 4], b640, none⟩

/-- shunter/shape.May -/
def b641 : VCode := .seq (.reg [⟨some 1, .box (.t 0), none⟩, ⟨some 2, .mv (.c (.int .i64 0)), none⟩] [1])
 (.seq (.blk 0 (.seq (.reg [⟨some 5, .faddr 0 (.t 1), none⟩, ⟨some 6, .load false 1 (.t 5), none⟩, ⟨some 7, .call 650 [.t 6], none⟩, ⟨some 8, .un .not (.t 7), none⟩, ⟨some 4, .mv (.t 8), none⟩] [1, 4])
 (.cond (.t 4) (.seq (.reg [⟨some 2, .mv (.c (.int .i64 4)), none⟩] [2])
 (.ret))
 (.seq (.reg [⟨some 10, .faddr 1 (.t 1), none⟩, ⟨some 11, .load false 1 (.t 10), none⟩, ⟨some 12, .len false (.t 11), none⟩, ⟨some 13, .bin .gtr (.t 12) (.c (.int .i64 16)), none⟩, ⟨some 9, .mv (.t 13), none⟩] [1, 9])
 (.cond (.t 9) (.seq (.reg [⟨some 2, .mv (.c (.int .i64 2)), none⟩] [2])
 (.ret))
 (.seq (.reg [⟨some 15, .faddr 1 (.t 1), none⟩, ⟨some 16, .load false 1 (.t 15), none⟩, ⟨some 17, .len false (.t 16), none⟩, ⟨some 18, .bin .eql (.t 17) (.c (.int .i64 0)), none⟩, ⟨some 14, .mv (.t 18), none⟩] [1, 14])
 (.cond (.t 14) (.seq (.reg [⟨some 2, .mv (.c (.int .i64 5)), none⟩] [2])
 (.ret))
 (.skip))))))))
 (.seq (.seq (.reg [⟨some 19, .faddr 1 (.t 1), none⟩, ⟨some 20, .load false 1 (.t 19), none⟩, ⟨some 21, .call 648 [.t 20], none⟩, ⟨some 3, .mv (.t 21), none⟩] [1, 3])
 (.seq (.reg [⟨some 22, .mv (.t 3), none⟩, ⟨some 23, .bin .neq (.t 22) (.c (.int .i64 0)), none⟩] [1, 3, 23])
 (.cond (.t 23) (.seq (.reg [⟨some 24, .mv (.t 3), none⟩, ⟨some 2, .mv (.t 24), none⟩] [2])
 (.ret))
 (.skip))))
 (.seq (.seq (.reg [⟨some 25, .load true 6 (.t 1), none⟩, ⟨some 26, .call 651 [.t 25], none⟩, ⟨some 27, .un .not (.t 26), none⟩] [27])
 (.cond (.t 27) (.seq (.reg [⟨some 2, .mv (.c (.int .i64 7)), none⟩] [2])
 (.ret))
 (.skip)))
 (.seq (.reg [⟨some 2, .mv (.c (.int .i64 0)), none⟩] [2])
 (.ret)))))
def f641 : VFunc := ⟨false, [.tmp 2], b641, none⟩

def l643_0 : VCode := .seq (.reg [⟨some 14, .bin .lss (.t 13) (.t 12), none⟩] [1, 11, 12, 13, 14])
 (.seq (.cond (.t 14) (.skip)
 (.exit 0))
 (.seq (.blk 1 (.seq (.reg [⟨some 15, .mv (.t 13), none⟩, ⟨some 16, .iaddr 3 (.t 11) (.t 13), none⟩, ⟨some 17, .load true 3 (.t 16), none⟩, ⟨some 8, .alloc (.agg [.str [], .int .i64 0, .int .i64 0]), none⟩, ⟨some 7, .mv (.t 15), none⟩, ⟨none, .store 3 false (.t 8) (.t 17), none⟩] [1, 7, 8, 11, 12, 13])
 (.seq (.seq (.reg [⟨some 18, .mv (.t 1), none⟩, ⟨some 19, .load true 3 (.t 8), none⟩, ⟨some 20, .call 649 [.t 19], none⟩, ⟨some 21, .bin .lss (.t 18) (.t 20), none⟩] [1, 7, 8, 11, 12, 13, 21])
 (.cond (.t 21) (.seq (.reg [⟨some 22, .mv (.t 7), none⟩, ⟨some 23, .mv (.t 1), none⟩, ⟨some 4, .mv (.t 22), none⟩, ⟨some 5, .mv (.t 23), none⟩, ⟨some 6, .mv (.c (.bool true)), none⟩] [4, 5, 6])
 (.ret))
 (.skip)))
 (.reg [⟨some 24, .mv (.t 1), none⟩, ⟨some 25, .load true 3 (.t 8), none⟩, ⟨some 26, .call 649 [.t 25], none⟩, ⟨some 27, .bin .sub (.t 24) (.t 26), none⟩, ⟨some 1, .mv (.t 27), none⟩] [1, 11, 12, 13]))))
 (.reg [⟨some 28, .bin .add (.t 13) (.c (.int .i64 1)), none⟩, ⟨some 13, .mv (.t 28), none⟩] [1, 11, 12, 13])))
def L643_0 : VCode := l643_0
/-- shunter/shape.Of -/
def b643 : VCode := .seq (.reg [⟨some 4, .mv (.c (.int .i64 0)), none⟩, ⟨some 5, .mv (.c (.int .i64 0)), none⟩, ⟨some 6, .mv (.c (.bool false)), none⟩] [0, 1])
 (.seq (.seq (.reg [⟨some 9, .mv (.t 1), none⟩, ⟨some 10, .bin .lss (.t 9) (.c (.int .i64 0)), none⟩] [0, 1, 10])
 (.cond (.t 10) (.seq (.reg [⟨some 4, .mv (.c (.int .i64 0)), none⟩, ⟨some 5, .mv (.c (.int .i64 0)), none⟩, ⟨some 6, .mv (.c (.bool false)), none⟩] [4, 5, 6])
 (.ret))
 (.skip)))
 (.seq (.seq (.reg [⟨some 11, .mv (.t 0), none⟩, ⟨some 12, .len false (.t 11), none⟩, ⟨some 13, .mv (.c (.int .i64 0)), none⟩] [1, 11, 12, 13])
 (.blk 0 (.loop [1, 11, 12, 13] (L643_0))))
 (.seq (.reg [⟨some 4, .mv (.c (.int .i64 0)), none⟩, ⟨some 5, .mv (.c (.int .i64 0)), none⟩, ⟨some 6, .mv (.c (.bool false)), none⟩] [4, 5, 6])
 (.ret))))
def f643 : VFunc := ⟨false, [.tmp 4, .tmp 5, .tmp 6], b643, none⟩

/-- shunter/shape.Offset -/
def b644 : VCode := .seq (.reg [⟨some 2, .box (.t 0), none⟩, ⟨some 4, .mv (.c (.int .i64 0)), none⟩, ⟨some 5, .mv (.c (.bool false)), none⟩] [1, 2])
 (.seq (.seq (.reg [⟨some 6, .load true 6 (.t 2), none⟩, ⟨some 7, .call 641 [.t 6], none⟩, ⟨some 8, .bin .neq (.t 7) (.c (.int .i64 0)), none⟩, ⟨some 9, .mv (.t 8), none⟩, ⟨some 10, .mv (.t 1), (some (9, false))⟩, ⟨some 11, .faddr 1 (.t 2), (some (9, false))⟩, ⟨some 12, .load false 1 (.t 11), (some (9, false))⟩, ⟨some 13, .len false (.t 12), (some (9, false))⟩, ⟨some 14, .bin .sub (.t 13) (.c (.int .i64 1)), (some (9, false))⟩, ⟨some 15, .call 652 [.t 10, .c (.int .i64 0), .t 14], (some (9, false))⟩, ⟨some 16, .un .not (.t 15), (some (9, false))⟩, ⟨some 17, .pick (.t 9) (.c (.bool true)) (.t 16), none⟩] [1, 2, 17])
 (.cond (.t 17) (.seq (.reg [⟨some 4, .mv (.c (.int .i64 0)), none⟩, ⟨some 5, .mv (.c (.bool false)), none⟩] [4, 5])
 (.ret))
 (.skip)))
 (.seq (.reg [⟨some 18, .load true 6 (.t 2), none⟩, ⟨some 19, .mv (.t 1), none⟩, ⟨some 20, .call 647 [.t 18, .t 19], none⟩, ⟨some 21, .ext (.t 20) 0, none⟩, ⟨some 22, .ext (.t 20) 1, none⟩, ⟨some 4, .mv (.t 21), none⟩, ⟨some 5, .mv (.t 22), none⟩] [4, 5])
 (.ret)))
def f644 : VFunc := ⟨false, [.tmp 4, .tmp 5], b644, none⟩

def l645_0 : VCode := .seq (.reg [⟨some 9, .bin .lss (.t 8) (.t 7), none⟩] [3, 6, 7, 8, 9])
 (.seq (.cond (.t 9) (.skip)
 (.exit 0))
 (.seq (.blk 1 (.seq (.reg [⟨some 10, .iaddr 3 (.t 6) (.t 8), none⟩, ⟨some 11, .load true 3 (.t 10), none⟩, ⟨some 5, .alloc (.agg [.str [], .int .i64 0, .int .i64 0]), none⟩, ⟨none, .store 3 false (.t 5) (.t 11), none⟩] [3, 5, 6, 7, 8])
 (.reg [⟨some 12, .mv (.t 3), none⟩, ⟨some 13, .load true 3 (.t 5), none⟩, ⟨some 14, .call 649 [.t 13], none⟩, ⟨some 15, .bin .add (.t 12) (.t 14), none⟩, ⟨some 3, .mv (.t 15), none⟩] [3, 6, 7, 8])))
 (.reg [⟨some 16, .bin .add (.t 8) (.c (.int .i64 1)), none⟩, ⟨some 8, .mv (.t 16), none⟩] [3, 6, 7, 8])))
def L645_0 : VCode := l645_0
/-- shunter/shape.Slots -/
def b645 : VCode := .seq (.reg [⟨some 2, .mv (.c (.int .i64 0)), none⟩] [0])
 (.seq (.reg [⟨some 3, .mv (.c (.int .i64 0)), none⟩] [0, 3])
 (.seq (.seq (.reg [⟨some 6, .mv (.t 0), none⟩, ⟨some 7, .len false (.t 6), none⟩, ⟨some 8, .mv (.c (.int .i64 0)), none⟩] [3, 6, 7, 8])
 (.blk 0 (.loop [3, 6, 7, 8] (L645_0))))
 (.seq (.reg [⟨some 17, .mv (.t 3), none⟩, ⟨some 2, .mv (.t 17), none⟩] [2])
 (.ret))))
def f645 : VFunc := ⟨false, [.tmp 2], b645, none⟩

def l647_0 : VCode := .seq (.reg [⟨some 10, .bin .lss (.t 9) (.t 8), none⟩] [2, 6, 8, 9, 10])
 (.seq (.cond (.t 10) (.skip)
 (.exit 0))
 (.seq (.blk 1 (.seq (.reg [⟨some 11, .mv (.t 9), none⟩, ⟨some 7, .mv (.t 11), none⟩] [2, 6, 7, 8, 9])
 (.reg [⟨some 12, .mv (.t 6), none⟩, ⟨some 13, .faddr 1 (.t 2), none⟩, ⟨some 14, .load false 1 (.t 13), none⟩, ⟨some 15, .mv (.t 7), none⟩, ⟨some 16, .iaddr 2 (.t 14) (.t 15), none⟩, ⟨some 17, .faddr 1 (.t 16), none⟩, ⟨some 18, .load false 1 (.t 17), none⟩, ⟨some 19, .bin .add (.t 12) (.t 18), none⟩, ⟨some 6, .mv (.t 19), none⟩] [2, 6, 8, 9])))
 (.reg [⟨some 20, .bin .add (.t 9) (.c (.int .i64 1)), none⟩, ⟨some 9, .mv (.t 20), none⟩] [2, 6, 8, 9])))
def L647_0 : VCode := l647_0
/-- shunter/shape.ahead -/
def b647 : VCode := .seq (.reg [⟨some 2, .box (.t 0), none⟩, ⟨some 4, .mv (.c (.int .i64 0)), none⟩, ⟨some 5, .mv (.c (.bool false)), none⟩] [1, 2])
 (.seq (.reg [⟨some 6, .mv (.c (.int .i64 0)), none⟩] [1, 2, 6])
 (.seq (.seq (.reg [⟨some 8, .mv (.t 1), none⟩, ⟨some 9, .mv (.c (.int .i64 0)), none⟩] [2, 6, 8, 9])
 (.blk 0 (.loop [2, 6, 8, 9] (L647_0))))
 (.seq (.reg [⟨some 21, .mv (.t 6), none⟩, ⟨some 4, .mv (.t 21), none⟩, ⟨some 5, .mv (.c (.bool true)), none⟩] [4, 5])
 (.ret))))
def f647 : VFunc := ⟨false, [.tmp 4, .tmp 5], b647, none⟩

def l648_0 : VCode := .seq (.reg [⟨some 10, .bin .lss (.t 9) (.t 8), none⟩] [3, 4, 7, 8, 9, 10])
 (.seq (.cond (.t 10) (.skip)
 (.exit 0))
 (.seq (.blk 1 (.seq (.reg [⟨some 11, .iaddr 2 (.t 7) (.t 9), none⟩, ⟨some 12, .load true 2 (.t 11), none⟩, ⟨some 6, .alloc (.agg [.str [], .int .i64 0]), none⟩, ⟨none, .store 2 false (.t 6) (.t 12), none⟩] [3, 4, 6, 7, 8, 9])
 (.seq (.blk 2 (.seq (.reg [⟨some 14, .faddr 0 (.t 6), none⟩, ⟨some 15, .load false 1 (.t 14), none⟩, ⟨some 16, .call 650 [.t 15], none⟩, ⟨some 17, .un .not (.t 16), none⟩, ⟨some 13, .mv (.t 17), none⟩] [3, 4, 6, 7, 8, 9, 13])
 (.cond (.t 13) (.seq (.reg [⟨some 2, .mv (.c (.int .i64 4)), none⟩] [2])
 (.ret))
 (.seq (.reg [⟨some 19, .mv (.t 3), none⟩, ⟨some 20, .faddr 0 (.t 6), none⟩, ⟨some 21, .load false 1 (.t 20), none⟩, ⟨some 22, .call 558 [.t 19, .t 21], none⟩, ⟨some 23, .bin .geq (.t 22) (.c (.int .i64 0)), none⟩, ⟨some 18, .mv (.t 23), none⟩] [3, 4, 6, 7, 8, 9, 18])
 (.cond (.t 18) (.seq (.reg [⟨some 2, .mv (.c (.int .i64 6)), none⟩] [2])
 (.ret))
 (.seq (.reg [⟨some 25, .faddr 1 (.t 6), none⟩, ⟨some 26, .load false 1 (.t 25), none⟩, ⟨some 27, .call 652 [.t 26, .c (.int .i64 1), .c (.int .i64 128)], none⟩, ⟨some 28, .un .not (.t 27), none⟩, ⟨some 24, .mv (.t 28), none⟩] [3, 4, 6, 7, 8, 9, 24])
 (.cond (.t 24) (.seq (.reg [⟨some 2, .mv (.c (.int .i64 9)), none⟩] [2])
 (.ret))
 (.skip))))))))
 (.seq (.reg [⟨some 29, .mv (.t 3), none⟩, ⟨some 30, .faddr 0 (.t 6), none⟩, ⟨some 31, .load false 1 (.t 30), none⟩, ⟨some 32, .buildSl 1 [.t 31], none⟩, ⟨some 33, .app 1 16 false (.t 29) (.t 32), none⟩, ⟨some 3, .mv (.t 33), none⟩] [3, 4, 6, 7, 8, 9])
 (.reg [⟨some 34, .mv (.t 4), none⟩, ⟨some 35, .faddr 1 (.t 6), none⟩, ⟨some 36, .load false 1 (.t 35), none⟩, ⟨some 37, .bin .add (.t 34) (.t 36), none⟩, ⟨some 4, .mv (.t 37), none⟩] [3, 4, 7, 8, 9])))))
 (.reg [⟨some 38, .bin .add (.t 9) (.c (.int .i64 1)), none⟩, ⟨some 9, .mv (.t 38), none⟩] [3, 4, 7, 8, 9])))
def L648_0 : VCode := l648_0
/-- shunter/shape.fields -/
def b648 : VCode := .seq (.reg [⟨some 2, .mv (.c (.int .i64 0)), none⟩] [0])
 (.seq (.reg [⟨some 3, .nilacc 1, none⟩] [0, 3])
 (.seq (.reg [⟨some 4, .mv (.c (.int .i64 0)), none⟩] [0, 3, 4])
 (.seq (.seq (.reg [⟨some 7, .mv (.t 0), none⟩, ⟨some 8, .len false (.t 7), none⟩, ⟨some 9, .mv (.c (.int .i64 0)), none⟩] [3, 4, 7, 8, 9])
 (.blk 0 (.loop [3, 4, 7, 8, 9] (L648_0))))
 (.seq (.seq (.reg [⟨some 39, .mv (.t 4), none⟩, ⟨some 40, .bin .rem (.t 39) (.c (.int .i64 8)), none⟩, ⟨some 41, .bin .neq (.t 40) (.c (.int .i64 0)), none⟩] [41])
 (.cond (.t 41) (.seq (.reg [⟨some 2, .mv (.c (.int .i64 9)), none⟩] [2])
 (.ret))
 (.skip)))
 (.seq (.reg [⟨some 2, .mv (.c (.int .i64 0)), none⟩] [2])
 (.ret))))))
def f648 : VFunc := ⟨false, [.tmp 2], b648, none⟩

/-- shunter/shape.many -/
def b649 : VCode := .seq (.reg [⟨some 1, .box (.t 0), none⟩, ⟨some 2, .mv (.c (.int .i64 0)), none⟩] [1])
 (.seq (.seq (.reg [⟨some 3, .faddr 2 (.t 1), none⟩, ⟨some 4, .load false 1 (.t 3), none⟩, ⟨some 5, .call 652 [.t 4, .c (.int .i64 0), .c (.int .i64 4)], none⟩, ⟨some 6, .un .not (.t 5), none⟩] [1, 6])
 (.cond (.t 6) (.seq (.reg [⟨some 2, .mv (.c (.int .i64 0)), none⟩] [2])
 (.ret))
 (.skip)))
 (.seq (.reg [⟨some 7, .faddr 2 (.t 1), none⟩, ⟨some 8, .load false 1 (.t 7), none⟩, ⟨some 9, .mx [.t 8, .c (.int .i64 1)], none⟩, ⟨some 2, .mv (.t 9), none⟩] [2])
 (.ret)))
def f649 : VFunc := ⟨false, [.tmp 2], b649, none⟩

/-- shunter/shape.plain -/
def b650 : VCode := .seq (.reg [⟨some 2, .mv (.c (.bool false)), none⟩] [0])
 (.seq (.reg [⟨some 3, .mv (.t 0), none⟩, ⟨some 4, .call 562 [.t 3], none⟩, ⟨some 5, .mv (.t 4), none⟩, ⟨some 6, .mv (.t 0), (some (5, true))⟩, ⟨some 7, .call 1234 [.t 6, .c (.str [46])], (some (5, true))⟩, ⟨some 8, .un .not (.t 7), (some (5, true))⟩, ⟨some 9, .pick (.t 5) (.t 8) (.c (.bool false)), none⟩, ⟨some 2, .mv (.t 9), none⟩] [2])
 (.ret))
def f650 : VFunc := ⟨false, [.tmp 2], b650, none⟩

/-- shunter/shape.varies -/
def b651 : VCode := .seq (.reg [⟨some 1, .box (.t 0), none⟩, ⟨some 2, .mv (.c (.bool false)), none⟩] [1])
 (.seq (.seq (.reg [⟨some 3, .faddr 2 (.t 1), none⟩, ⟨some 4, .load false 1 (.t 3), none⟩, ⟨some 5, .bin .eql (.t 4) (.c (.int .i64 0)), none⟩] [1, 5])
 (.cond (.t 5) (.seq (.reg [⟨some 6, .faddr 3 (.t 1), none⟩, ⟨some 7, .load false 1 (.t 6), none⟩, ⟨some 8, .bin .eql (.t 7) (.c (.int .i64 0)), none⟩, ⟨some 9, .mv (.t 8), none⟩, ⟨some 10, .faddr 4 (.t 1), (some (9, true))⟩, ⟨some 11, .load false 1 (.t 10), (some (9, true))⟩, ⟨some 12, .bin .eql (.t 11) (.c (.int .i64 0)), (some (9, true))⟩, ⟨some 13, .pick (.t 9) (.t 12) (.c (.bool false)), none⟩, ⟨some 14, .mv (.t 13), none⟩, ⟨some 15, .faddr 5 (.t 1), (some (14, true))⟩, ⟨some 16, .load false 1 (.t 15), (some (14, true))⟩, ⟨some 17, .bin .eql (.t 16) (.c (.int .i64 0)), (some (14, true))⟩, ⟨some 18, .pick (.t 14) (.t 17) (.c (.bool false)), none⟩, ⟨some 2, .mv (.t 18), none⟩] [2])
 (.ret))
 (.skip)))
 (.seq (.reg [⟨some 19, .faddr 2 (.t 1), none⟩, ⟨some 20, .load false 1 (.t 19), none⟩, ⟨some 21, .call 652 [.t 20, .c (.int .i64 1), .c (.int .i64 64)], none⟩, ⟨some 22, .mv (.t 21), none⟩, ⟨some 23, .faddr 3 (.t 1), (some (22, true))⟩, ⟨some 24, .load false 1 (.t 23), (some (22, true))⟩, ⟨some 25, .faddr 1 (.t 1), (some (22, true))⟩, ⟨some 26, .load false 1 (.t 25), (some (22, true))⟩, ⟨some 27, .len false (.t 26), (some (22, true))⟩, ⟨some 28, .bin .sub (.t 27) (.c (.int .i64 1)), (some (22, true))⟩, ⟨some 29, .call 652 [.t 24, .c (.int .i64 0), .t 28], (some (22, true))⟩, ⟨some 30, .pick (.t 22) (.t 29) (.c (.bool false)), none⟩, ⟨some 31, .mv (.t 30), none⟩, ⟨some 32, .faddr 1 (.t 1), (some (31, true))⟩, ⟨some 33, .load false 1 (.t 32), (some (31, true))⟩, ⟨some 34, .faddr 3 (.t 1), (some (31, true))⟩, ⟨some 35, .load false 1 (.t 34), (some (31, true))⟩, ⟨some 36, .iaddr 2 (.t 33) (.t 35), (some (31, true))⟩, ⟨some 37, .faddr 1 (.t 36), (some (31, true))⟩, ⟨some 38, .load false 1 (.t 37), (some (31, true))⟩, ⟨some 39, .bin .leq (.t 38) (.c (.int .i64 16)), (some (31, true))⟩, ⟨some 40, .pick (.t 31) (.t 39) (.c (.bool false)), none⟩, ⟨some 41, .mv (.t 40), none⟩, ⟨some 42, .faddr 4 (.t 1), (some (41, true))⟩, ⟨some 43, .load false 1 (.t 42), (some (41, true))⟩, ⟨some 44, .call 652 [.t 43, .c (.int .i64 1), .c (.int .i64 64)], (some (41, true))⟩, ⟨some 45, .pick (.t 41) (.t 44) (.c (.bool false)), none⟩, ⟨some 46, .mv (.t 45), none⟩, ⟨some 47, .faddr 5 (.t 1), (some (46, true))⟩, ⟨some 48, .load false 1 (.t 47), (some (46, true))⟩, ⟨some 49, .call 652 [.t 48, .c (.int .i64 0), .c (.int .i64 4096)], (some (46, true))⟩, ⟨some 50, .pick (.t 46) (.t 49) (.c (.bool false)), none⟩, ⟨some 2, .mv (.t 50), none⟩] [2])
 (.ret)))
def f651 : VFunc := ⟨false, [.tmp 2], b651, none⟩

/-- shunter/shape.within -/
def b652 : VCode := .seq (.reg [⟨some 6, .mv (.c (.bool false)), none⟩] [0, 1, 2])
 (.seq (.reg [⟨some 7, .mv (.t 0), none⟩, ⟨some 8, .mv (.t 1), none⟩, ⟨some 9, .bin .geq (.t 7) (.t 8), none⟩, ⟨some 10, .mv (.t 9), none⟩, ⟨some 11, .mv (.t 0), (some (10, true))⟩, ⟨some 12, .mv (.t 2), (some (10, true))⟩, ⟨some 13, .bin .leq (.t 11) (.t 12), (some (10, true))⟩, ⟨some 14, .pick (.t 10) (.t 13) (.c (.bool false)), none⟩, ⟨some 6, .mv (.t 14), none⟩] [6])
 (.ret))
def f652 : VFunc := ⟨false, [.tmp 6], b652, none⟩

/-- shunter/shunterlaw10.ImageWidths -/
def b656 : VCode := .seq (.reg [⟨some 3, .box (.t 0), none⟩, ⟨some 4, .box (.t 1), none⟩, ⟨some 6, .mv (.c (.bool false)), none⟩] [2, 3, 4])
 (.seq (.seq (.reg [⟨some 29, .load true 18 (.t 3), none⟩, ⟨some 30, .call 658 [.t 29], none⟩, ⟨some 31, .un .not (.t 30), none⟩, ⟨some 32, .mv (.t 31), none⟩, ⟨some 33, .mv (.t 2), (some (32, false))⟩, ⟨some 34, .len false (.t 33), (some (32, false))⟩, ⟨some 35, .bin .gtr (.t 34) (.c (.int .i64 30)), (some (32, false))⟩, ⟨some 36, .pick (.t 32) (.c (.bool true)) (.t 35), none⟩] [2, 3, 4, 36])
 (.cond (.t 36) (.seq (.reg [⟨some 37, .call 659 [], none⟩, ⟨some 6, .mv (.t 37), none⟩] [6])
 (.ret))
 (.skip)))
 (.seq (.reg [⟨some 39, .load true 18 (.t 3), none⟩, ⟨some 40, .iaddrA 2 1 (.t 4) (.c (.int .i64 0)), none⟩, ⟨some 41, .load false 1 (.t 40), none⟩, ⟨some 42, .iaddrA 2 1 (.t 4) (.c (.int .i64 1)), none⟩, ⟨some 43, .load false 1 (.t 42), none⟩, ⟨some 44, .call 489 [.t 39, .t 41, .t 43], none⟩, ⟨some 38, .mv (.t 44), none⟩, ⟨some 45, .ext (.t 38) 0, none⟩, ⟨some 46, .ext (.t 38) 1, none⟩, ⟨some 7, .mv (.t 45), none⟩, ⟨some 8, .mv (.t 46), none⟩] [2, 3, 4, 7, 8])
 (.seq (.reg [⟨some 48, .load true 18 (.t 3), none⟩, ⟨some 49, .iaddrA 2 1 (.t 4) (.c (.int .i64 0)), none⟩, ⟨some 50, .load false 1 (.t 49), none⟩, ⟨some 51, .iaddrA 2 1 (.t 4) (.c (.int .i64 1)), none⟩, ⟨some 52, .load false 1 (.t 51), none⟩, ⟨some 53, .call 830 [.t 48, .t 50, .t 52], none⟩, ⟨some 47, .mv (.t 53), none⟩, ⟨some 54, .ext (.t 47) 0, none⟩, ⟨some 55, .ext (.t 47) 1, none⟩, ⟨some 9, .mv (.t 54), none⟩, ⟨some 10, .mv (.t 55), none⟩] [2, 3, 4, 7, 8, 9, 10])
 (.seq (.reg [⟨some 57, .load true 18 (.t 3), none⟩, ⟨some 58, .iaddrA 2 1 (.t 4) (.c (.int .i64 0)), none⟩, ⟨some 59, .load false 1 (.t 58), none⟩, ⟨some 60, .call 491 [.t 57, .t 59], none⟩, ⟨some 56, .mv (.t 60), none⟩, ⟨some 61, .ext (.t 56) 0, none⟩, ⟨some 62, .ext (.t 56) 1, none⟩, ⟨some 11, .mv (.t 61), none⟩, ⟨some 12, .mv (.t 62), none⟩] [2, 3, 4, 7, 8, 9, 10, 11, 12])
 (.seq (.reg [⟨some 64, .load true 18 (.t 3), none⟩, ⟨some 65, .iaddrA 2 1 (.t 4) (.c (.int .i64 0)), none⟩, ⟨some 66, .load false 1 (.t 65), none⟩, ⟨some 67, .call 832 [.t 64, .t 66], none⟩, ⟨some 63, .mv (.t 67), none⟩, ⟨some 68, .ext (.t 63) 0, none⟩, ⟨some 69, .ext (.t 63) 1, none⟩, ⟨some 13, .mv (.t 68), none⟩, ⟨some 14, .mv (.t 69), none⟩] [2, 3, 4, 7, 8, 9, 10, 11, 12, 13, 14])
 (.seq (.reg [⟨some 71, .load true 18 (.t 3), none⟩, ⟨some 72, .iaddrA 2 1 (.t 4) (.c (.int .i64 0)), none⟩, ⟨some 73, .load false 1 (.t 72), none⟩, ⟨some 74, .call 493 [.t 71, .t 73], none⟩, ⟨some 70, .mv (.t 74), none⟩, ⟨some 75, .ext (.t 70) 0, none⟩, ⟨some 76, .ext (.t 70) 1, none⟩, ⟨some 15, .alloc (.agg [.str [], .sl 2 [] .nl, .int .i64 0, .int .i64 0, .int .i64 0, .int .i64 0]), none⟩, ⟨none, .store 6 true (.t 15) (.t 75), none⟩, ⟨some 16, .mv (.t 76), none⟩] [2, 3, 4, 7, 8, 9, 10, 11, 12, 13, 14, 15, 16])
 (.seq (.reg [⟨some 78, .load true 18 (.t 3), none⟩, ⟨some 79, .iaddrA 2 1 (.t 4) (.c (.int .i64 0)), none⟩, ⟨some 80, .load false 1 (.t 79), none⟩, ⟨some 81, .call 834 [.t 78, .t 80], none⟩, ⟨some 77, .mv (.t 81), none⟩, ⟨some 82, .ext (.t 77) 0, none⟩, ⟨some 83, .ext (.t 77) 1, none⟩, ⟨some 17, .alloc (.agg [.str [], .sl 2 [] .nl, .int .i64 0, .int .i64 0, .int .i64 0, .int .i64 0]), none⟩, ⟨none, .store 6 true (.t 17) (.t 82), none⟩, ⟨some 18, .mv (.t 83), none⟩] [2, 3, 4, 7, 8, 9, 10, 11, 12, 13, 14, 15, 16, 17, 18])
 (.seq (.reg [⟨some 85, .load true 18 (.t 3), none⟩, ⟨some 86, .iaddrA 2 1 (.t 4) (.c (.int .i64 1)), none⟩, ⟨some 87, .load false 1 (.t 86), none⟩, ⟨some 88, .call 494 [.t 85, .t 87], none⟩, ⟨some 84, .mv (.t 88), none⟩, ⟨some 89, .ext (.t 84) 0, none⟩, ⟨some 90, .ext (.t 84) 1, none⟩, ⟨some 91, .ext (.t 84) 2, none⟩, ⟨some 19, .mv (.t 89), none⟩, ⟨some 20, .mv (.t 90), none⟩, ⟨some 21, .mv (.t 91), none⟩] [2, 3, 4, 7, 8, 9, 10, 11, 12, 13, 14, 15, 16, 17, 18, 19, 20, 21])
 (.seq (.reg [⟨some 93, .load true 18 (.t 3), none⟩, ⟨some 94, .iaddrA 2 1 (.t 4) (.c (.int .i64 1)), none⟩, ⟨some 95, .load false 1 (.t 94), none⟩, ⟨some 96, .call 835 [.t 93, .t 95], none⟩, ⟨some 92, .mv (.t 96), none⟩, ⟨some 97, .ext (.t 92) 0, none⟩, ⟨some 98, .ext (.t 92) 1, none⟩, ⟨some 99, .ext (.t 92) 2, none⟩, ⟨some 22, .mv (.t 97), none⟩, ⟨some 23, .mv (.t 98), none⟩, ⟨some 24, .mv (.t 99), none⟩] [2, 3, 7, 8, 9, 10, 11, 12, 13, 14, 15, 16, 17, 18, 19, 20, 21, 22, 23, 24])
 (.seq (.reg [⟨some 101, .load true 18 (.t 3), none⟩, ⟨some 102, .mv (.t 2), none⟩, ⟨some 103, .call 490 [.t 101, .t 102], none⟩, ⟨some 100, .mv (.t 103), none⟩, ⟨some 104, .ext (.t 100) 0, none⟩, ⟨some 105, .ext (.t 100) 1, none⟩, ⟨some 25, .mv (.t 104), none⟩, ⟨some 26, .mv (.t 105), none⟩] [2, 3, 7, 8, 9, 10, 11, 12, 13, 14, 15, 16, 17, 18, 19, 20, 21, 22, 23, 24, 25, 26])
 (.seq (.reg [⟨some 107, .load true 18 (.t 3), none⟩, ⟨some 108, .mv (.t 2), none⟩, ⟨some 109, .call 831 [.t 107, .t 108], none⟩, ⟨some 106, .mv (.t 109), none⟩, ⟨some 110, .ext (.t 106) 0, none⟩, ⟨some 111, .ext (.t 106) 1, none⟩, ⟨some 27, .mv (.t 110), none⟩, ⟨some 28, .mv (.t 111), none⟩] [7, 8, 9, 10, 11, 12, 13, 14, 15, 16, 17, 18, 19, 20, 21, 22, 23, 24, 25, 26, 27, 28])
 (.seq (.reg [⟨some 112, .mv (.t 7), none⟩, ⟨some 113, .mv (.t 9), none⟩, ⟨some 114, .bin .eql (.t 112) (.t 113), none⟩, ⟨some 115, .mv (.t 114), none⟩, ⟨some 116, .mv (.t 8), (some (115, true))⟩, ⟨some 117, .mv (.t 10), (some (115, true))⟩, ⟨some 118, .eq false none (.t 116) (.t 117), (some (115, true))⟩, ⟨some 119, .pick (.t 115) (.t 118) (.c (.bool false)), none⟩, ⟨some 120, .mv (.t 119), none⟩, ⟨some 121, .mv (.t 11), (some (120, true))⟩, ⟨some 122, .mv (.t 13), (some (120, true))⟩, ⟨some 123, .bin .eql (.t 121) (.t 122), (some (120, true))⟩, ⟨some 124, .pick (.t 120) (.t 123) (.c (.bool false)), none⟩, ⟨some 125, .mv (.t 124), none⟩, ⟨some 126, .mv (.t 12), (some (125, true))⟩, ⟨some 127, .mv (.t 14), (some (125, true))⟩, ⟨some 128, .eq false none (.t 126) (.t 127), (some (125, true))⟩, ⟨some 129, .pick (.t 125) (.t 128) (.c (.bool false)), none⟩, ⟨some 130, .mv (.t 129), none⟩, ⟨some 131, .faddr 0 (.t 15), (some (130, true))⟩, ⟨some 132, .load false 1 (.t 131), (some (130, true))⟩, ⟨some 133, .faddr 0 (.t 17), (some (130, true))⟩, ⟨some 134, .load false 1 (.t 133), (some (130, true))⟩, ⟨some 135, .bin .eql (.t 132) (.t 134), (some (130, true))⟩, ⟨some 136, .pick (.t 130) (.t 135) (.c (.bool false)), none⟩, ⟨some 137, .mv (.t 136), none⟩, ⟨some 138, .faddr 1 (.t 15), (some (137, true))⟩, ⟨some 139, .load false 1 (.t 138), (some (137, true))⟩, ⟨some 140, .len false (.t 139), (some (137, true))⟩, ⟨some 141, .faddr 1 (.t 17), (some (137, true))⟩, ⟨some 142, .load false 1 (.t 141), (some (137, true))⟩, ⟨some 143, .len false (.t 142), (some (137, true))⟩, ⟨some 144, .bin .eql (.t 140) (.t 143), (some (137, true))⟩, ⟨some 145, .pick (.t 137) (.t 144) (.c (.bool false)), none⟩, ⟨some 146, .mv (.t 145), none⟩, ⟨some 147, .mv (.t 16), (some (146, true))⟩, ⟨some 148, .mv (.t 18), (some (146, true))⟩, ⟨some 149, .eq false none (.t 147) (.t 148), (some (146, true))⟩, ⟨some 150, .pick (.t 146) (.t 149) (.c (.bool false)), none⟩, ⟨some 151, .mv (.t 150), none⟩, ⟨some 152, .mv (.t 19), (some (151, true))⟩, ⟨some 153, .mv (.t 22), (some (151, true))⟩, ⟨some 154, .bin .eql (.t 152) (.t 153), (some (151, true))⟩, ⟨some 155, .pick (.t 151) (.t 154) (.c (.bool false)), none⟩, ⟨some 156, .mv (.t 155), none⟩, ⟨some 157, .mv (.t 20), (some (156, true))⟩, ⟨some 158, .mv (.t 23), (some (156, true))⟩, ⟨some 159, .bin .eql (.t 157) (.t 158), (some (156, true))⟩, ⟨some 160, .pick (.t 156) (.t 159) (.c (.bool false)), none⟩, ⟨some 161, .mv (.t 160), none⟩, ⟨some 162, .mv (.t 21), (some (161, true))⟩, ⟨some 163, .mv (.t 24), (some (161, true))⟩, ⟨some 164, .eq false none (.t 162) (.t 163), (some (161, true))⟩, ⟨some 165, .pick (.t 161) (.t 164) (.c (.bool false)), none⟩, ⟨some 166, .mv (.t 165), none⟩, ⟨some 167, .mv (.t 25), (some (166, true))⟩, ⟨some 168, .mv (.t 27), (some (166, true))⟩, ⟨some 169, .bin .eql (.t 167) (.t 168), (some (166, true))⟩, ⟨some 170, .pick (.t 166) (.t 169) (.c (.bool false)), none⟩, ⟨some 171, .mv (.t 170), none⟩, ⟨some 172, .mv (.t 26), (some (171, true))⟩, ⟨some 173, .mv (.t 28), (some (171, true))⟩, ⟨some 174, .eq false none (.t 172) (.t 173), (some (171, true))⟩, ⟨some 175, .pick (.t 171) (.t 174) (.c (.bool false)), none⟩, ⟨some 176, .mv (.t 175), none⟩, ⟨some 177, .call 659 [], (some (176, true))⟩, ⟨some 178, .pick (.t 176) (.t 177) (.c (.bool false)), none⟩, ⟨some 6, .mv (.t 178), none⟩] [6])
 (.ret)))))))))))))
def f656 : VFunc := ⟨false, [.tmp 6], b656, none⟩

def l657_0 : VCode := .seq (.seq (.reg [⟨some 4, .mv (.t 3), none⟩, ⟨some 5, .mv (.t 0), none⟩, ⟨some 6, .len false (.t 5), none⟩, ⟨some 7, .bin .lss (.t 4) (.t 6), none⟩] [0, 3, 7])
 (.cond (.t 7) (.skip)
 (.exit 0)))
 (.seq (.blk 1 (.seq (.reg [⟨some 10, .mv (.t 0), none⟩, ⟨some 11, .mv (.t 3), none⟩, ⟨some 12, .iaddr 1 (.t 10) (.t 11), none⟩, ⟨some 13, .load false 1 (.t 12), none⟩, ⟨some 14, .len true (.t 13), none⟩, ⟨some 15, .bin .gtr (.t 14) (.c (.int .i64 100)), none⟩] [0, 3, 15])
 (.cond (.t 15) (.seq (.reg [⟨some 2, .mv (.c (.bool false)), none⟩] [2])
 (.ret))
 (.skip))))
 (.reg [⟨some 8, .mv (.t 3), none⟩, ⟨some 9, .bin .add (.t 8) (.c (.int .i64 1)), none⟩, ⟨some 3, .mv (.t 9), none⟩] [0, 3]))
def L657_0 : VCode := l657_0
/-- shunter/shunterlaw10.brief -/
def b657 : VCode := .seq (.reg [⟨some 2, .mv (.c (.bool false)), none⟩] [0])
 (.seq (.seq (.reg [⟨some 3, .mv (.c (.int .i64 0)), none⟩] [0, 3])
 (.blk 0 (.loop [0, 3] (L657_0))))
 (.seq (.reg [⟨some 16, .mv (.t 0), none⟩, ⟨some 17, .len false (.t 16), none⟩, ⟨some 18, .bin .leq (.t 17) (.c (.int .i64 70)), none⟩, ⟨some 2, .mv (.t 18), none⟩] [2])
 (.ret)))
def f657 : VFunc := ⟨false, [.tmp 2], b657, none⟩

def l658_0 : VCode := .seq (.seq (.reg [⟨some 224, .mv (.t 12), none⟩, ⟨some 225, .faddr 8 (.t 1), none⟩, ⟨some 226, .load false 1 (.t 225), none⟩, ⟨some 227, .len false (.t 226), none⟩, ⟨some 228, .bin .lss (.t 224) (.t 227), none⟩, ⟨some 229, .mv (.t 228), none⟩, ⟨some 230, .mv (.t 12), (some (229, true))⟩, ⟨some 231, .bin .lss (.t 230) (.c (.int .i64 300)), (some (229, true))⟩, ⟨some 232, .pick (.t 229) (.t 231) (.c (.bool false)), none⟩] [1, 4, 12, 232])
 (.cond (.t 232) (.skip)
 (.exit 16)))
 (.seq (.blk 17 (.drw [⟨⟨some 235, .mv (.t 4), none⟩, 0, 0, []⟩, ⟨⟨some 236, .faddr 8 (.t 1), none⟩, 1, 0, []⟩, ⟨⟨some 238, .mv (.t 12), none⟩, 3, 0, []⟩, ⟨⟨some 244, .faddr 8 (.t 1), none⟩, 9, 0, []⟩, ⟨⟨some 246, .mv (.t 12), none⟩, 11, 0, []⟩, ⟨⟨some 237, .load false 1 (.t 236), none⟩, 2, 2, []⟩, ⟨⟨some 239, .iaddr 6 (.t 237) (.t 238), none⟩, 4, 14, []⟩, ⟨⟨some 240, .faddr 2 (.t 239), none⟩, 5, 30, []⟩, ⟨⟨some 241, .load false 1 (.t 240), none⟩, 6, 62, []⟩, ⟨⟨some 242, .len false (.t 241), none⟩, 7, 126, []⟩, ⟨⟨some 243, .bin .add (.t 235) (.t 242), none⟩, 8, 255, []⟩, ⟨⟨some 245, .load false 1 (.t 244), none⟩, 10, 512, []⟩, ⟨⟨some 247, .iaddr 6 (.t 245) (.t 246), none⟩, 12, 3584, []⟩, ⟨⟨some 248, .faddr 3 (.t 247), none⟩, 13, 7680, []⟩, ⟨⟨some 249, .load false 1 (.t 248), none⟩, 14, 15872, []⟩, ⟨⟨some 250, .len false (.t 249), none⟩, 15, 32256, []⟩, ⟨⟨some 251, .bin .add (.t 243) (.t 250), none⟩, 16, 65535, []⟩, ⟨⟨some 4, .mv (.t 251), none⟩, 17, 131071, []⟩] [1, 4, 12]))
 (.reg [⟨some 233, .mv (.t 12), none⟩, ⟨some 234, .bin .add (.t 233) (.c (.int .i64 1)), none⟩, ⟨some 12, .mv (.t 234), none⟩] [1, 4, 12]))
def L658_0 : VCode := l658_0
def l658_1 : VCode := .seq (.seq (.reg [⟨some 196, .mv (.t 11), none⟩, ⟨some 197, .faddr 7 (.t 1), none⟩, ⟨some 198, .load false 1 (.t 197), none⟩, ⟨some 199, .len false (.t 198), none⟩, ⟨some 200, .bin .lss (.t 196) (.t 199), none⟩, ⟨some 201, .mv (.t 200), none⟩, ⟨some 202, .mv (.t 11), (some (201, true))⟩, ⟨some 203, .bin .lss (.t 202) (.c (.int .i64 300)), (some (201, true))⟩, ⟨some 204, .pick (.t 201) (.t 203) (.c (.bool false)), none⟩] [1, 4, 11, 204])
 (.cond (.t 204) (.skip)
 (.exit 14)))
 (.seq (.blk 15 (.drw [⟨⟨some 207, .mv (.t 4), none⟩, 0, 0, []⟩, ⟨⟨some 208, .faddr 7 (.t 1), none⟩, 1, 0, []⟩, ⟨⟨some 210, .mv (.t 11), none⟩, 3, 0, []⟩, ⟨⟨some 216, .faddr 7 (.t 1), none⟩, 9, 0, []⟩, ⟨⟨some 218, .mv (.t 11), none⟩, 11, 0, []⟩, ⟨⟨some 209, .load false 1 (.t 208), none⟩, 2, 2, []⟩, ⟨⟨some 211, .iaddr 6 (.t 209) (.t 210), none⟩, 4, 14, []⟩, ⟨⟨some 212, .faddr 2 (.t 211), none⟩, 5, 30, []⟩, ⟨⟨some 213, .load false 1 (.t 212), none⟩, 6, 62, []⟩, ⟨⟨some 214, .len false (.t 213), none⟩, 7, 126, []⟩, ⟨⟨some 215, .bin .add (.t 207) (.t 214), none⟩, 8, 255, []⟩, ⟨⟨some 217, .load false 1 (.t 216), none⟩, 10, 512, []⟩, ⟨⟨some 219, .iaddr 6 (.t 217) (.t 218), none⟩, 12, 3584, []⟩, ⟨⟨some 220, .faddr 3 (.t 219), none⟩, 13, 7680, []⟩, ⟨⟨some 221, .load false 1 (.t 220), none⟩, 14, 15872, []⟩, ⟨⟨some 222, .len false (.t 221), none⟩, 15, 32256, []⟩, ⟨⟨some 223, .bin .add (.t 215) (.t 222), none⟩, 16, 65535, []⟩, ⟨⟨some 4, .mv (.t 223), none⟩, 17, 131071, []⟩] [1, 4, 11]))
 (.reg [⟨some 205, .mv (.t 11), none⟩, ⟨some 206, .bin .add (.t 205) (.c (.int .i64 1)), none⟩, ⟨some 11, .mv (.t 206), none⟩] [1, 4, 11]))
def L658_1 : VCode := l658_1
def l658_2 : VCode := .seq (.seq (.reg [⟨some 163, .mv (.t 10), none⟩, ⟨some 164, .faddr 6 (.t 1), none⟩, ⟨some 165, .load false 1 (.t 164), none⟩, ⟨some 166, .len false (.t 165), none⟩, ⟨some 167, .bin .lss (.t 163) (.t 166), none⟩] [1, 4, 10, 167])
 (.cond (.t 167) (.skip)
 (.exit 12)))
 (.seq (.blk 13 (.drw [⟨⟨some 170, .mv (.t 4), none⟩, 0, 0, []⟩, ⟨⟨some 171, .faddr 6 (.t 1), none⟩, 1, 0, []⟩, ⟨⟨some 173, .mv (.t 10), none⟩, 3, 0, []⟩, ⟨⟨some 179, .faddr 6 (.t 1), none⟩, 9, 0, []⟩, ⟨⟨some 181, .mv (.t 10), none⟩, 11, 0, []⟩, ⟨⟨some 187, .faddr 6 (.t 1), none⟩, 17, 0, []⟩, ⟨⟨some 189, .mv (.t 10), none⟩, 19, 0, []⟩, ⟨⟨some 172, .load false 1 (.t 171), none⟩, 2, 2, []⟩, ⟨⟨some 174, .iaddr 7 (.t 172) (.t 173), none⟩, 4, 14, []⟩, ⟨⟨some 175, .faddr 2 (.t 174), none⟩, 5, 30, []⟩, ⟨⟨some 176, .load false 1 (.t 175), none⟩, 6, 62, []⟩, ⟨⟨some 177, .len false (.t 176), none⟩, 7, 126, []⟩, ⟨⟨some 178, .bin .add (.t 170) (.t 177), none⟩, 8, 255, []⟩, ⟨⟨some 180, .load false 1 (.t 179), none⟩, 10, 512, []⟩, ⟨⟨some 182, .iaddr 7 (.t 180) (.t 181), none⟩, 12, 3584, []⟩, ⟨⟨some 183, .faddr 3 (.t 182), none⟩, 13, 7680, []⟩, ⟨⟨some 184, .load false 1 (.t 183), none⟩, 14, 15872, []⟩, ⟨⟨some 185, .len false (.t 184), none⟩, 15, 32256, []⟩, ⟨⟨some 186, .bin .add (.t 178) (.t 185), none⟩, 16, 65535, []⟩, ⟨⟨some 188, .load false 1 (.t 187), none⟩, 18, 131072, []⟩, ⟨⟨some 190, .iaddr 7 (.t 188) (.t 189), none⟩, 20, 917504, []⟩, ⟨⟨some 191, .faddr 4 (.t 190), none⟩, 21, 1966080, []⟩, ⟨⟨some 192, .faddr 1 (.t 191), none⟩, 22, 4063232, []⟩, ⟨⟨some 193, .load false 1 (.t 192), none⟩, 23, 8257536, []⟩, ⟨⟨some 194, .len false (.t 193), none⟩, 24, 16646144, []⟩, ⟨⟨some 195, .bin .add (.t 186) (.t 194), none⟩, 25, 33554431, []⟩, ⟨⟨some 4, .mv (.t 195), none⟩, 26, 67108863, []⟩] [1, 4, 10]))
 (.reg [⟨some 168, .mv (.t 10), none⟩, ⟨some 169, .bin .add (.t 168) (.c (.int .i64 1)), none⟩, ⟨some 10, .mv (.t 169), none⟩] [1, 4, 10]))
def L658_2 : VCode := l658_2
def l658_3 : VCode := .seq (.seq (.reg [⟨some 139, .mv (.t 9), none⟩, ⟨some 140, .faddr 5 (.t 1), none⟩, ⟨some 141, .load false 1 (.t 140), none⟩, ⟨some 142, .len false (.t 141), none⟩, ⟨some 143, .bin .lss (.t 139) (.t 142), none⟩] [1, 4, 9, 143])
 (.cond (.t 143) (.skip)
 (.exit 10)))
 (.seq (.blk 11 (.drw [⟨⟨some 146, .mv (.t 4), none⟩, 0, 0, []⟩, ⟨⟨some 147, .faddr 5 (.t 1), none⟩, 1, 0, []⟩, ⟨⟨some 149, .mv (.t 9), none⟩, 3, 0, []⟩, ⟨⟨some 155, .faddr 5 (.t 1), none⟩, 9, 0, []⟩, ⟨⟨some 157, .mv (.t 9), none⟩, 11, 0, []⟩, ⟨⟨some 148, .load false 1 (.t 147), none⟩, 2, 2, []⟩, ⟨⟨some 150, .iaddr 3 (.t 148) (.t 149), none⟩, 4, 14, []⟩, ⟨⟨some 151, .faddr 1 (.t 150), none⟩, 5, 30, []⟩, ⟨⟨some 152, .load false 1 (.t 151), none⟩, 6, 62, []⟩, ⟨⟨some 153, .len false (.t 152), none⟩, 7, 126, []⟩, ⟨⟨some 154, .bin .add (.t 146) (.t 153), none⟩, 8, 255, []⟩, ⟨⟨some 156, .load false 1 (.t 155), none⟩, 10, 512, []⟩, ⟨⟨some 158, .iaddr 3 (.t 156) (.t 157), none⟩, 12, 3584, []⟩, ⟨⟨some 159, .faddr 2 (.t 158), none⟩, 13, 7680, []⟩, ⟨⟨some 160, .load false 1 (.t 159), none⟩, 14, 15872, []⟩, ⟨⟨some 161, .len false (.t 160), none⟩, 15, 32256, []⟩, ⟨⟨some 162, .bin .add (.t 154) (.t 161), none⟩, 16, 65535, []⟩, ⟨⟨some 4, .mv (.t 162), none⟩, 17, 131071, []⟩] [1, 4, 9]))
 (.reg [⟨some 144, .mv (.t 9), none⟩, ⟨some 145, .bin .add (.t 144) (.c (.int .i64 1)), none⟩, ⟨some 9, .mv (.t 145), none⟩] [1, 4, 9]))
def L658_3 : VCode := l658_3
def l658_4 : VCode := .seq (.seq (.reg [⟨some 107, .mv (.t 8), none⟩, ⟨some 108, .faddr 4 (.t 1), none⟩, ⟨some 109, .load false 1 (.t 108), none⟩, ⟨some 110, .len false (.t 109), none⟩, ⟨some 111, .bin .lss (.t 107) (.t 110), none⟩] [1, 4, 8, 111])
 (.cond (.t 111) (.skip)
 (.exit 8)))
 (.seq (.blk 9 (.drw [⟨⟨some 114, .mv (.t 4), none⟩, 0, 0, []⟩, ⟨⟨some 115, .faddr 4 (.t 1), none⟩, 1, 0, []⟩, ⟨⟨some 117, .mv (.t 8), none⟩, 3, 0, []⟩, ⟨⟨some 123, .faddr 4 (.t 1), none⟩, 9, 0, []⟩, ⟨⟨some 125, .mv (.t 8), none⟩, 11, 0, []⟩, ⟨⟨some 131, .faddr 4 (.t 1), none⟩, 17, 0, []⟩, ⟨⟨some 133, .mv (.t 8), none⟩, 19, 0, []⟩, ⟨⟨some 116, .load false 1 (.t 115), none⟩, 2, 2, []⟩, ⟨⟨some 118, .iaddr 5 (.t 116) (.t 117), none⟩, 4, 14, []⟩, ⟨⟨some 119, .faddr 1 (.t 118), none⟩, 5, 30, []⟩, ⟨⟨some 120, .load false 1 (.t 119), none⟩, 6, 62, []⟩, ⟨⟨some 121, .len false (.t 120), none⟩, 7, 126, []⟩, ⟨⟨some 122, .bin .add (.t 114) (.t 121), none⟩, 8, 255, []⟩, ⟨⟨some 124, .load false 1 (.t 123), none⟩, 10, 512, []⟩, ⟨⟨some 126, .iaddr 5 (.t 124) (.t 125), none⟩, 12, 3584, []⟩, ⟨⟨some 127, .faddr 2 (.t 126), none⟩, 13, 7680, []⟩, ⟨⟨some 128, .load false 1 (.t 127), none⟩, 14, 15872, []⟩, ⟨⟨some 129, .len false (.t 128), none⟩, 15, 32256, []⟩, ⟨⟨some 130, .bin .add (.t 122) (.t 129), none⟩, 16, 65535, []⟩, ⟨⟨some 132, .load false 1 (.t 131), none⟩, 18, 131072, []⟩, ⟨⟨some 134, .iaddr 5 (.t 132) (.t 133), none⟩, 20, 917504, []⟩, ⟨⟨some 135, .faddr 3 (.t 134), none⟩, 21, 1966080, []⟩, ⟨⟨some 136, .load false 1 (.t 135), none⟩, 22, 4063232, []⟩, ⟨⟨some 137, .len false (.t 136), none⟩, 23, 8257536, []⟩, ⟨⟨some 138, .bin .add (.t 130) (.t 137), none⟩, 24, 16777215, []⟩, ⟨⟨some 4, .mv (.t 138), none⟩, 25, 33554431, []⟩] [1, 4, 8]))
 (.reg [⟨some 112, .mv (.t 8), none⟩, ⟨some 113, .bin .add (.t 112) (.c (.int .i64 1)), none⟩, ⟨some 8, .mv (.t 113), none⟩] [1, 4, 8]))
def L658_4 : VCode := l658_4
def l658_5 : VCode := .seq (.seq (.reg [⟨some 88, .mv (.t 7), none⟩, ⟨some 89, .faddr 2 (.t 1), none⟩, ⟨some 90, .load false 1 (.t 89), none⟩, ⟨some 91, .len false (.t 90), none⟩, ⟨some 92, .bin .lss (.t 88) (.t 91), none⟩, ⟨some 93, .mv (.t 92), none⟩, ⟨some 94, .mv (.t 7), (some (93, true))⟩, ⟨some 95, .bin .lss (.t 94) (.c (.int .i64 300)), (some (93, true))⟩, ⟨some 96, .pick (.t 93) (.t 95) (.c (.bool false)), none⟩] [1, 4, 7, 96])
 (.cond (.t 96) (.skip)
 (.exit 6)))
 (.seq (.blk 7 (.seq (.reg [⟨some 99, .faddr 2 (.t 1), none⟩, ⟨some 100, .load false 1 (.t 99), none⟩, ⟨some 101, .mv (.t 7), none⟩, ⟨some 102, .iaddr 3 (.t 100) (.t 101), none⟩, ⟨some 103, .faddr 0 (.t 102), none⟩, ⟨some 104, .load false 1 (.t 103), none⟩, ⟨some 105, .len true (.t 104), none⟩, ⟨some 106, .bin .gtr (.t 105) (.c (.int .i64 100)), none⟩] [1, 4, 7, 106])
 (.cond (.t 106) (.seq (.reg [⟨some 2, .mv (.c (.bool false)), none⟩] [2])
 (.ret))
 (.skip))))
 (.reg [⟨some 97, .mv (.t 7), none⟩, ⟨some 98, .bin .add (.t 97) (.c (.int .i64 1)), none⟩, ⟨some 7, .mv (.t 98), none⟩] [1, 4, 7]))
def L658_5 : VCode := l658_5
def l658_6 : VCode := .seq (.seq (.reg [⟨some 61, .mv (.t 6), none⟩, ⟨some 62, .faddr 1 (.t 1), none⟩, ⟨some 63, .load false 1 (.t 62), none⟩, ⟨some 64, .mv (.t 5), none⟩, ⟨some 65, .iaddr 6 (.t 63) (.t 64), none⟩, ⟨some 66, .faddr 1 (.t 65), none⟩, ⟨some 67, .load false 1 (.t 66), none⟩, ⟨some 68, .len false (.t 67), none⟩, ⟨some 69, .bin .lss (.t 61) (.t 68), none⟩, ⟨some 70, .mv (.t 69), none⟩, ⟨some 71, .mv (.t 6), (some (70, true))⟩, ⟨some 72, .bin .lss (.t 71) (.c (.int .i64 300)), (some (70, true))⟩, ⟨some 73, .pick (.t 70) (.t 72) (.c (.bool false)), none⟩] [1, 4, 5, 6, 73])
 (.cond (.t 73) (.skip)
 (.exit 4)))
 (.seq (.blk 5 (.seq (.reg [⟨some 76, .faddr 1 (.t 1), none⟩, ⟨some 77, .load false 1 (.t 76), none⟩, ⟨some 78, .mv (.t 5), none⟩, ⟨some 79, .iaddr 6 (.t 77) (.t 78), none⟩, ⟨some 80, .faddr 1 (.t 79), none⟩, ⟨some 81, .load false 1 (.t 80), none⟩, ⟨some 82, .mv (.t 6), none⟩, ⟨some 83, .iaddr 2 (.t 81) (.t 82), none⟩, ⟨some 84, .faddr 0 (.t 83), none⟩, ⟨some 85, .load false 1 (.t 84), none⟩, ⟨some 86, .len true (.t 85), none⟩, ⟨some 87, .bin .gtr (.t 86) (.c (.int .i64 100)), none⟩] [1, 4, 5, 6, 87])
 (.cond (.t 87) (.seq (.reg [⟨some 2, .mv (.c (.bool false)), none⟩] [2])
 (.ret))
 (.skip))))
 (.reg [⟨some 74, .mv (.t 6), none⟩, ⟨some 75, .bin .add (.t 74) (.c (.int .i64 1)), none⟩, ⟨some 6, .mv (.t 75), none⟩] [1, 4, 5, 6]))
def L658_6 : VCode := l658_6
def l658_7 : VCode := .seq (.seq (.reg [⟨some 45, .mv (.t 5), none⟩, ⟨some 46, .faddr 1 (.t 1), none⟩, ⟨some 47, .load false 1 (.t 46), none⟩, ⟨some 48, .len false (.t 47), none⟩, ⟨some 49, .bin .lss (.t 45) (.t 48), none⟩] [1, 4, 5, 49])
 (.cond (.t 49) (.skip)
 (.exit 2)))
 (.seq (.blk 3 (.seq (.reg [⟨some 52, .mv (.t 4), none⟩, ⟨some 53, .faddr 1 (.t 1), none⟩, ⟨some 54, .load false 1 (.t 53), none⟩, ⟨some 55, .mv (.t 5), none⟩, ⟨some 56, .iaddr 6 (.t 54) (.t 55), none⟩, ⟨some 57, .faddr 1 (.t 56), none⟩, ⟨some 58, .load false 1 (.t 57), none⟩, ⟨some 59, .len false (.t 58), none⟩, ⟨some 60, .bin .add (.t 52) (.t 59), none⟩, ⟨some 4, .mv (.t 60), none⟩] [1, 4, 5])
 (.seq (.reg [⟨some 6, .mv (.c (.int .i64 0)), none⟩] [1, 4, 5, 6])
 (.blk 4 (.loop [1, 4, 5, 6] (L658_6))))))
 (.reg [⟨some 50, .mv (.t 5), none⟩, ⟨some 51, .bin .add (.t 50) (.c (.int .i64 1)), none⟩, ⟨some 5, .mv (.t 51), none⟩] [1, 4, 5]))
def L658_7 : VCode := l658_7
def l658_8 : VCode := .seq (.seq (.reg [⟨some 13, .mv (.t 3), none⟩, ⟨some 14, .bin .lss (.t 13) (.c (.int .i64 15)), none⟩] [1, 3, 14])
 (.cond (.t 14) (.skip)
 (.exit 0)))
 (.seq (.blk 1 (.seq (.reg [⟨some 17, .load true 18 (.t 1), none⟩, ⟨some 18, .mv (.t 3), none⟩, ⟨some 19, .call 836 [.t 17, .t 18], none⟩, ⟨some 20, .call 657 [.t 19], none⟩, ⟨some 21, .un .not (.t 20), none⟩] [1, 3, 21])
 (.cond (.t 21) (.seq (.reg [⟨some 2, .mv (.c (.bool false)), none⟩] [2])
 (.ret))
 (.skip))))
 (.reg [⟨some 15, .mv (.t 3), none⟩, ⟨some 16, .bin .add (.t 15) (.c (.int .i64 1)), none⟩, ⟨some 3, .mv (.t 16), none⟩] [1, 3]))
def L658_8 : VCode := l658_8
/-- shunter/shunterlaw10.light -/
def b658 : VCode := .seq (.reg [⟨some 1, .box (.t 0), none⟩, ⟨some 2, .mv (.c (.bool false)), none⟩] [1])
 (.seq (.seq (.reg [⟨some 3, .mv (.c (.int .i64 0)), none⟩] [1, 3])
 (.blk 0 (.loop [1, 3] (L658_8))))
 (.seq (.reg [⟨some 22, .faddr 2 (.t 1), none⟩, ⟨some 23, .load false 1 (.t 22), none⟩, ⟨some 24, .len false (.t 23), none⟩, ⟨some 25, .faddr 7 (.t 1), none⟩, ⟨some 26, .load false 1 (.t 25), none⟩, ⟨some 27, .len false (.t 26), none⟩, ⟨some 28, .bin .add (.t 24) (.t 27), none⟩, ⟨some 29, .faddr 8 (.t 1), none⟩, ⟨some 30, .load false 1 (.t 29), none⟩, ⟨some 31, .len false (.t 30), none⟩, ⟨some 32, .bin .add (.t 28) (.t 31), none⟩, ⟨some 33, .faddr 9 (.t 1), none⟩, ⟨some 34, .load false 1 (.t 33), none⟩, ⟨some 35, .len false (.t 34), none⟩, ⟨some 36, .bin .add (.t 32) (.t 35), none⟩, ⟨some 37, .faddr 10 (.t 1), none⟩, ⟨some 38, .load false 1 (.t 37), none⟩, ⟨some 39, .len false (.t 38), none⟩, ⟨some 40, .bin .add (.t 36) (.t 39), none⟩, ⟨some 41, .faddr 11 (.t 1), none⟩, ⟨some 42, .load false 1 (.t 41), none⟩, ⟨some 43, .len false (.t 42), none⟩, ⟨some 44, .bin .add (.t 40) (.t 43), none⟩, ⟨some 4, .mv (.t 44), none⟩] [1, 4])
 (.seq (.seq (.reg [⟨some 5, .mv (.c (.int .i64 0)), none⟩] [1, 4, 5])
 (.blk 2 (.loop [1, 4, 5] (L658_7))))
 (.seq (.seq (.reg [⟨some 7, .mv (.c (.int .i64 0)), none⟩] [1, 4, 7])
 (.blk 6 (.loop [1, 4, 7] (L658_5))))
 (.seq (.seq (.reg [⟨some 8, .mv (.c (.int .i64 0)), none⟩] [1, 4, 8])
 (.blk 8 (.loop [1, 4, 8] (L658_4))))
 (.seq (.seq (.reg [⟨some 9, .mv (.c (.int .i64 0)), none⟩] [1, 4, 9])
 (.blk 10 (.loop [1, 4, 9] (L658_3))))
 (.seq (.seq (.reg [⟨some 10, .mv (.c (.int .i64 0)), none⟩] [1, 4, 10])
 (.blk 12 (.loop [1, 4, 10] (L658_2))))
 (.seq (.seq (.reg [⟨some 11, .mv (.c (.int .i64 0)), none⟩] [1, 4, 11])
 (.blk 14 (.loop [1, 4, 11] (L658_1))))
 (.seq (.seq (.reg [⟨some 12, .mv (.c (.int .i64 0)), none⟩] [1, 4, 12])
 (.blk 16 (.loop [1, 4, 12] (L658_0))))
 (.seq (.reg [⟨some 252, .mv (.t 4), none⟩, ⟨some 253, .bin .leq (.t 252) (.c (.int .i64 900)), none⟩, ⟨some 254, .mv (.t 253), none⟩, ⟨some 255, .faddr 0 (.t 1), (some (254, true))⟩, ⟨some 256, .load false 1 (.t 255), (some (254, true))⟩, ⟨some 257, .len true (.t 256), (some (254, true))⟩, ⟨some 258, .bin .leq (.t 257) (.c (.int .i64 200)), (some (254, true))⟩, ⟨some 259, .pick (.t 254) (.t 258) (.c (.bool false)), none⟩, ⟨some 2, .mv (.t 259), none⟩] [2])
 (.ret)))))))))))
def f658 : VFunc := ⟨false, [.tmp 2], b658, none⟩

/-- shunter/shunterlaw10.lives -/
def b659 : VCode := .seq (.reg [⟨some 0, .mv (.c (.bool false)), none⟩] [])
 (.seq (.reg [⟨some 1, .build [.str [], .sl 2 [] .nl, .sl 3 [] .nl, .sl 7 [] .nl, .int .i64 0] [(0, 1, .c (.str [115])), (4, 1, .c (.int .i64 (-1)))], none⟩, ⟨some 2, .buildSl 5 [.t 1], none⟩, ⟨some 3, .build [.str [], .sl 6 [] .nl, .sl 3 [] .nl, .sl 2 [] .nl, .sl 5 [] .nl, .sl 3 [] .nl, .sl 7 [] .nl, .sl 6 [] .nl, .sl 6 [] .nl, .sl 1 [] .nl, .sl 2 [] .nl, .sl 2 [] .nl, .sl 3 [] .nl, .sl 2 [] .nl, .sl 4 [] .nl, .int .i64 0, .int .i64 0, .int .i64 0] [(0, 1, .c (.str [109])), (4, 1, .t 2), (15, 1, .c (.int .i64 1)), (16, 1, .c (.int .i64 1))], none⟩, ⟨some 4, .call 481 [.t 3], none⟩, ⟨some 5, .isnil .i false (.t 4), none⟩, ⟨some 6, .mv (.t 5), none⟩, ⟨some 7, .build [.str [], .sl 6 [] .nl, .sl 3 [] .nl, .sl 2 [] .nl, .sl 5 [] .nl, .sl 3 [] .nl, .sl 7 [] .nl, .sl 6 [] .nl, .sl 6 [] .nl, .sl 1 [] .nl, .sl 2 [] .nl, .sl 2 [] .nl, .sl 3 [] .nl, .sl 2 [] .nl, .sl 4 [] .nl, .int .i64 0, .int .i64 0, .int .i64 0] [], (some (6, true))⟩, ⟨some 8, .call 481 [.t 7], (some (6, true))⟩, ⟨some 9, .isnil .i true (.t 8), (some (6, true))⟩, ⟨some 10, .pick (.t 6) (.t 9) (.c (.bool false)), none⟩, ⟨some 0, .mv (.t 10), none⟩] [0])
 (.ret))
def f659 : VFunc := ⟨false, [.tmp 0], b659, none⟩

def l823_0 : VCode := .seq (.seq (.reg [⟨some 20, .mv (.t 6), none⟩, ⟨some 21, .mv (.t 5), none⟩, ⟨some 22, .bin .lss (.t 20) (.t 21), none⟩, ⟨some 23, .mv (.t 22), none⟩, ⟨some 24, .mv (.t 5), (some (23, true))⟩, ⟨some 25, .bin .leq (.t 24) (.c (.int .i64 4)), (some (23, true))⟩, ⟨some 26, .pick (.t 23) (.t 25) (.c (.bool false)), none⟩] [0, 3, 4, 5, 6, 26])
 (.cond (.t 26) (.skip)
 (.exit 2)))
 (.seq (.blk 3 (.reg [⟨some 29, .mv (.t 3), none⟩, ⟨some 30, .mv (.t 4), none⟩, ⟨some 31, .mv (.t 6), none⟩, ⟨some 32, .build [.int .i64 0, .int .i64 0] [(0, 1, .t 30), (1, 1, .t 31)], none⟩, ⟨some 33, .buildSl 2 [.t 32], none⟩, ⟨some 34, .app 2 16 false (.t 29) (.t 33), none⟩, ⟨some 3, .mv (.t 34), none⟩] [0, 3, 4, 5, 6]))
 (.reg [⟨some 27, .mv (.t 6), none⟩, ⟨some 28, .bin .add (.t 27) (.c (.int .i64 1)), none⟩, ⟨some 6, .mv (.t 28), none⟩] [0, 3, 4, 5, 6]))
def L823_0 : VCode := l823_0
def l823_1 : VCode := .seq (.seq (.reg [⟨some 7, .mv (.t 4), none⟩, ⟨some 8, .mv (.t 0), none⟩, ⟨some 9, .len false (.t 8), none⟩, ⟨some 10, .bin .lss (.t 7) (.t 9), none⟩] [0, 3, 4, 10])
 (.cond (.t 10) (.skip)
 (.exit 0)))
 (.seq (.blk 1 (.seq (.reg [⟨some 13, .mv (.t 0), none⟩, ⟨some 14, .mv (.t 4), none⟩, ⟨some 15, .iaddr 3 (.t 13) (.t 14), none⟩, ⟨some 16, .faddr 2 (.t 15), none⟩, ⟨some 17, .load false 1 (.t 16), none⟩, ⟨some 5, .mv (.t 17), none⟩] [0, 3, 4, 5])
 (.seq (.seq (.reg [⟨some 18, .mv (.t 5), none⟩, ⟨some 19, .bin .eql (.t 18) (.c (.int .i64 0)), none⟩] [0, 3, 4, 5, 19])
 (.cond (.t 19) (.reg [⟨some 5, .mv (.c (.int .i64 1)), none⟩] [0, 3, 4, 5])
 (.skip)))
 (.seq (.reg [⟨some 6, .mv (.c (.int .i64 0)), none⟩] [0, 3, 4, 5, 6])
 (.blk 2 (.loop [0, 3, 4, 5, 6] (L823_0)))))))
 (.reg [⟨some 11, .mv (.t 4), none⟩, ⟨some 12, .bin .add (.t 11) (.c (.int .i64 1)), none⟩, ⟨some 4, .mv (.t 12), none⟩] [0, 3, 4]))
def L823_1 : VCode := l823_1
/-- shunter/shunterref08.Slots -/
def b823 : VCode := .seq (.reg [⟨some 2, .mv (.c (.sl 2 [] .nl)), none⟩] [0])
 (.seq (.reg [⟨some 3, .nilacc 2, none⟩] [0, 3])
 (.seq (.seq (.reg [⟨some 4, .mv (.c (.int .i64 0)), none⟩] [0, 3, 4])
 (.blk 0 (.loop [0, 3, 4] (L823_1))))
 (.seq (.reg [⟨some 35, .mv (.t 3), none⟩, ⟨some 2, .mv (.t 35), none⟩] [2])
 (.ret))))
def f823 : VFunc := ⟨false, [.tmp 2], b823, none⟩

/-- shunter/shunterref10.Field -/
def b830 : VCode := .seq (.reg [⟨some 3, .box (.t 0), none⟩, ⟨some 6, .mv (.c (.int .i64 0)), none⟩, ⟨some 7, .mv (.c (.bool false)), none⟩] [1, 2, 3])
 (.seq (.reg [⟨some 11, .load true 18 (.t 3), none⟩, ⟨some 12, .mv (.t 1), none⟩, ⟨some 13, .call 834 [.t 11, .t 12], none⟩, ⟨some 10, .mv (.t 13), none⟩, ⟨some 14, .ext (.t 10) 0, none⟩, ⟨some 15, .ext (.t 10) 1, none⟩, ⟨some 8, .alloc (.agg [.str [], .sl 2 [] .nl, .int .i64 0, .int .i64 0, .int .i64 0, .int .i64 0]), none⟩, ⟨none, .store 6 true (.t 8) (.t 14), none⟩, ⟨some 9, .mv (.t 15), none⟩] [2, 8, 9])
 (.seq (.seq (.reg [⟨some 16, .mv (.t 9), none⟩, ⟨some 17, .un .not (.t 16), none⟩, ⟨some 18, .mv (.t 17), none⟩, ⟨some 19, .mv (.t 2), (some (18, false))⟩, ⟨some 20, .bin .lss (.t 19) (.c (.int .i64 0)), (some (18, false))⟩, ⟨some 21, .pick (.t 18) (.c (.bool true)) (.t 20), none⟩, ⟨some 22, .mv (.t 21), none⟩, ⟨some 23, .mv (.t 2), (some (22, false))⟩, ⟨some 24, .faddr 1 (.t 8), (some (22, false))⟩, ⟨some 25, .load false 1 (.t 24), (some (22, false))⟩, ⟨some 26, .len false (.t 25), (some (22, false))⟩, ⟨some 27, .bin .geq (.t 23) (.t 26), (some (22, false))⟩, ⟨some 28, .pick (.t 22) (.c (.bool true)) (.t 27), none⟩] [2, 8, 28])
 (.cond (.t 28) (.seq (.reg [⟨some 6, .mv (.c (.int .i64 0)), none⟩, ⟨some 7, .mv (.c (.bool false)), none⟩] [6, 7])
 (.ret))
 (.skip)))
 (.seq (.reg [⟨some 29, .faddr 1 (.t 8), none⟩, ⟨some 30, .load false 1 (.t 29), none⟩, ⟨some 31, .mv (.t 2), none⟩, ⟨some 32, .iaddr 2 (.t 30) (.t 31), none⟩, ⟨some 33, .faddr 1 (.t 32), none⟩, ⟨some 34, .load false 1 (.t 33), none⟩, ⟨some 6, .mv (.t 34), none⟩, ⟨some 7, .mv (.c (.bool true)), none⟩] [6, 7])
 (.ret))))
def f830 : VFunc := ⟨false, [.tmp 6, .tmp 7], b830, none⟩

def l831_0 : VCode := .seq (.seq (.reg [⟨some 10, .mv (.t 7), none⟩, ⟨some 11, .mv (.t 1), none⟩, ⟨some 12, .len false (.t 11), none⟩, ⟨some 13, .bin .lss (.t 10) (.t 12), none⟩] [1, 2, 6, 7, 13])
 (.cond (.t 13) (.skip)
 (.exit 0)))
 (.seq (.blk 1 (.seq (.drw [⟨⟨some 18, .mv (.t 1), none⟩, 1, 0, []⟩, ⟨⟨some 19, .mv (.t 7), none⟩, 2, 0, []⟩, ⟨⟨some 20, .iaddr 3 (.t 18) (.t 19), none⟩, 3, 6, []⟩, ⟨⟨some 17, .load true 18 (.t 2), none⟩, 0, 0, []⟩, ⟨⟨some 21, .load true 3 (.t 20), none⟩, 4, 14, []⟩, ⟨⟨some 22, .call 833 [.t 17, .t 21], none⟩, 5, 31, []⟩, ⟨⟨some 16, .mv (.t 22), none⟩, 6, 63, []⟩, ⟨⟨some 23, .ext (.t 16) 0, none⟩, 7, 127, []⟩, ⟨⟨some 24, .ext (.t 16) 1, none⟩, 8, 127, []⟩, ⟨⟨some 8, .mv (.t 23), none⟩, 9, 255, []⟩, ⟨⟨some 9, .mv (.t 24), none⟩, 10, 1023, []⟩] [1, 2, 6, 7, 8, 9])
 (.seq (.seq (.reg [⟨some 25, .mv (.t 9), none⟩, ⟨some 26, .un .not (.t 25), none⟩, ⟨some 27, .mv (.t 26), none⟩, ⟨some 28, .mv (.t 8), (some (27, false))⟩, ⟨some 29, .bin .lss (.t 28) (.c (.int .i64 1)), (some (27, false))⟩, ⟨some 30, .pick (.t 27) (.c (.bool true)) (.t 29), none⟩, ⟨some 31, .mv (.t 30), none⟩, ⟨some 32, .mv (.t 8), (some (31, false))⟩, ⟨some 33, .mv (.t 6), (some (31, false))⟩, ⟨some 34, .bin .sub (.c (.int .i64 128)) (.t 33), (some (31, false))⟩, ⟨some 35, .bin .gtr (.t 32) (.t 34), (some (31, false))⟩, ⟨some 36, .pick (.t 31) (.c (.bool true)) (.t 35), none⟩] [1, 2, 6, 7, 8, 36])
 (.cond (.t 36) (.seq (.reg [⟨some 4, .mv (.c (.int .i64 0)), none⟩, ⟨some 5, .mv (.c (.bool false)), none⟩] [4, 5])
 (.ret))
 (.skip)))
 (.reg [⟨some 37, .mv (.t 6), none⟩, ⟨some 38, .mv (.t 8), none⟩, ⟨some 39, .bin .add (.t 37) (.t 38), none⟩, ⟨some 6, .mv (.t 39), none⟩] [1, 2, 6, 7]))))
 (.reg [⟨some 14, .mv (.t 7), none⟩, ⟨some 15, .bin .add (.t 14) (.c (.int .i64 1)), none⟩, ⟨some 7, .mv (.t 15), none⟩] [1, 2, 6, 7]))
def L831_0 : VCode := l831_0
/-- shunter/shunterref10.Key -/
def b831 : VCode := .seq (.reg [⟨some 2, .box (.t 0), none⟩, ⟨some 4, .mv (.c (.int .i64 0)), none⟩, ⟨some 5, .mv (.c (.bool false)), none⟩] [1, 2])
 (.seq (.reg [⟨some 6, .mv (.c (.int .i64 0)), none⟩] [1, 2, 6])
 (.seq (.seq (.reg [⟨some 7, .mv (.c (.int .i64 0)), none⟩] [1, 2, 6, 7])
 (.blk 0 (.loop [1, 2, 6, 7] (L831_0))))
 (.seq (.reg [⟨some 40, .mv (.t 6), none⟩, ⟨some 4, .mv (.t 40), none⟩, ⟨some 5, .mv (.c (.bool true)), none⟩] [4, 5])
 (.ret))))
def f831 : VFunc := ⟨false, [.tmp 4, .tmp 5], b831, none⟩

/-- shunter/shunterref10.Meta -/
def b832 : VCode := .seq (.reg [⟨some 2, .box (.t 0), none⟩, ⟨some 4, .mv (.c (.int .i64 0)), none⟩, ⟨some 5, .mv (.c (.bool false)), none⟩] [1, 2])
 (.seq (.reg [⟨some 7, .buildSl 1 [.c (.int .i64 8), .c (.int .i64 8), .c (.int .i64 8), .c (.int .i64 1), .c (.int .i64 8), .c (.int .i64 1), .c (.int .i64 16), .c (.int .i64 8)], none⟩, ⟨some 6, .mv (.t 7), none⟩] [1, 2, 6])
 (.seq (.seq (.reg [⟨some 8, .mv (.t 1), none⟩, ⟨some 9, .bin .geq (.t 8) (.c (.int .i64 0)), none⟩, ⟨some 10, .mv (.t 9), none⟩, ⟨some 11, .mv (.t 1), (some (10, true))⟩, ⟨some 12, .bin .lss (.t 11) (.c (.int .i64 8)), (some (10, true))⟩, ⟨some 13, .pick (.t 10) (.t 12) (.c (.bool false)), none⟩] [1, 2, 6, 13])
 (.cond (.t 13) (.seq (.reg [⟨some 14, .mv (.t 6), none⟩, ⟨some 15, .mv (.t 1), none⟩, ⟨some 16, .iaddr 1 (.t 14) (.t 15), none⟩, ⟨some 17, .load false 1 (.t 16), none⟩, ⟨some 4, .mv (.t 17), none⟩, ⟨some 5, .mv (.c (.bool true)), none⟩] [4, 5])
 (.ret))
 (.skip)))
 (.seq (.seq (.reg [⟨some 18, .mv (.t 1), none⟩, ⟨some 19, .bin .geq (.t 18) (.c (.int .i64 8)), none⟩, ⟨some 20, .mv (.t 19), none⟩, ⟨some 21, .mv (.t 1), (some (20, true))⟩, ⟨some 22, .bin .sub (.t 21) (.c (.int .i64 8)), (some (20, true))⟩, ⟨some 23, .faddr 3 (.t 2), (some (20, true))⟩, ⟨some 24, .load false 1 (.t 23), (some (20, true))⟩, ⟨some 25, .len false (.t 24), (some (20, true))⟩, ⟨some 26, .bin .lss (.t 22) (.t 25), (some (20, true))⟩, ⟨some 27, .pick (.t 20) (.t 26) (.c (.bool false)), none⟩] [1, 2, 27])
 (.cond (.t 27) (.seq (.reg [⟨some 28, .faddr 3 (.t 2), none⟩, ⟨some 29, .load false 1 (.t 28), none⟩, ⟨some 30, .mv (.t 1), none⟩, ⟨some 31, .bin .sub (.t 30) (.c (.int .i64 8)), none⟩, ⟨some 32, .iaddr 2 (.t 29) (.t 31), none⟩, ⟨some 33, .faddr 1 (.t 32), none⟩, ⟨some 34, .load false 1 (.t 33), none⟩, ⟨some 4, .mv (.t 34), none⟩, ⟨some 5, .mv (.c (.bool true)), none⟩] [4, 5])
 (.ret))
 (.skip)))
 (.seq (.reg [⟨some 4, .mv (.c (.int .i64 0)), none⟩, ⟨some 5, .mv (.c (.bool false)), none⟩] [4, 5])
 (.ret)))))
def f832 : VFunc := ⟨false, [.tmp 4, .tmp 5], b832, none⟩

/-- shunter/shunterref10.Part -/
def b833 : VCode := .seq (.reg [⟨some 2, .box (.t 0), none⟩, ⟨some 3, .box (.t 1), none⟩, ⟨some 4, .mv (.c (.int .i64 0)), none⟩, ⟨some 5, .mv (.c (.bool false)), none⟩] [2, 3])
 (.seq (.seq (.reg [⟨some 6, .faddr 0 (.t 3), none⟩, ⟨some 7, .load false 1 (.t 6), none⟩, ⟨some 8, .bin .eql (.t 7) (.c (.int .i64 0)), none⟩] [2, 3, 8])
 (.cond (.t 8) (.seq (.reg [⟨some 9, .load true 18 (.t 2), none⟩, ⟨some 10, .faddr 1 (.t 3), none⟩, ⟨some 11, .load false 1 (.t 10), none⟩, ⟨some 12, .faddr 2 (.t 3), none⟩, ⟨some 13, .load false 1 (.t 12), none⟩, ⟨some 14, .call 830 [.t 9, .t 11, .t 13], none⟩, ⟨some 15, .ext (.t 14) 0, none⟩, ⟨some 16, .ext (.t 14) 1, none⟩, ⟨some 4, .mv (.t 15), none⟩, ⟨some 5, .mv (.t 16), none⟩] [4, 5])
 (.ret))
 (.skip)))
 (.seq (.seq (.reg [⟨some 17, .faddr 0 (.t 3), none⟩, ⟨some 18, .load false 1 (.t 17), none⟩, ⟨some 19, .bin .eql (.t 18) (.c (.int .i64 1)), none⟩] [2, 3, 19])
 (.cond (.t 19) (.seq (.reg [⟨some 20, .load true 18 (.t 2), none⟩, ⟨some 21, .faddr 1 (.t 3), none⟩, ⟨some 22, .load false 1 (.t 21), none⟩, ⟨some 23, .call 832 [.t 20, .t 22], none⟩, ⟨some 24, .ext (.t 23) 0, none⟩, ⟨some 25, .ext (.t 23) 1, none⟩, ⟨some 4, .mv (.t 24), none⟩, ⟨some 5, .mv (.t 25), none⟩] [4, 5])
 (.ret))
 (.skip)))
 (.seq (.seq (.reg [⟨some 26, .faddr 0 (.t 3), none⟩, ⟨some 27, .load false 1 (.t 26), none⟩, ⟨some 28, .bin .eql (.t 27) (.c (.int .i64 2)), none⟩, ⟨some 29, .mv (.t 28), none⟩, ⟨some 30, .faddr 1 (.t 3), (some (29, true))⟩, ⟨some 31, .load false 1 (.t 30), (some (29, true))⟩, ⟨some 32, .bin .geq (.t 31) (.c (.int .i64 0)), (some (29, true))⟩, ⟨some 33, .pick (.t 29) (.t 32) (.c (.bool false)), none⟩, ⟨some 34, .mv (.t 33), none⟩, ⟨some 35, .faddr 1 (.t 3), (some (34, true))⟩, ⟨some 36, .load false 1 (.t 35), (some (34, true))⟩, ⟨some 37, .bin .leq (.t 36) (.c (.int .i64 1024)), (some (34, true))⟩, ⟨some 38, .pick (.t 34) (.t 37) (.c (.bool false)), none⟩, ⟨some 39, .mv (.t 38), none⟩, ⟨some 40, .faddr 2 (.t 3), (some (39, true))⟩, ⟨some 41, .load false 1 (.t 40), (some (39, true))⟩, ⟨some 42, .bin .geq (.t 41) (.c (.int .i64 1)), (some (39, true))⟩, ⟨some 43, .pick (.t 39) (.t 42) (.c (.bool false)), none⟩, ⟨some 44, .mv (.t 43), none⟩, ⟨some 45, .faddr 2 (.t 3), (some (44, true))⟩, ⟨some 46, .load false 1 (.t 45), (some (44, true))⟩, ⟨some 47, .bin .leq (.t 46) (.c (.int .i64 64)), (some (44, true))⟩, ⟨some 48, .pick (.t 44) (.t 47) (.c (.bool false)), none⟩] [3, 48])
 (.cond (.t 48) (.seq (.reg [⟨some 49, .faddr 2 (.t 3), none⟩, ⟨some 50, .load false 1 (.t 49), none⟩, ⟨some 4, .mv (.t 50), none⟩, ⟨some 5, .mv (.c (.bool true)), none⟩] [4, 5])
 (.ret))
 (.skip)))
 (.seq (.reg [⟨some 4, .mv (.c (.int .i64 0)), none⟩, ⟨some 5, .mv (.c (.bool false)), none⟩] [4, 5])
 (.ret)))))
def f833 : VFunc := ⟨false, [.tmp 4, .tmp 5], b833, none⟩

/-- shunter/shunterref10.Slot -/
def b834 : VCode := .seq (.reg [⟨some 2, .box (.t 0), none⟩, ⟨some 4, .alloc (.agg [.str [], .sl 2 [] .nl, .int .i64 0, .int .i64 0, .int .i64 0, .int .i64 0]), none⟩, ⟨some 5, .mv (.c (.bool false)), none⟩] [1, 2, 4])
 (.seq (.reg [⟨some 8, .faddr 2 (.t 2), none⟩, ⟨some 9, .load false 1 (.t 8), none⟩, ⟨some 10, .call 823 [.t 9], none⟩, ⟨some 6, .mv (.t 10), none⟩] [1, 2, 4, 6])
 (.seq (.seq (.reg [⟨some 11, .mv (.t 1), none⟩, ⟨some 12, .bin .lss (.t 11) (.c (.int .i64 0)), none⟩, ⟨some 13, .mv (.t 12), none⟩, ⟨some 14, .mv (.t 1), (some (13, false))⟩, ⟨some 15, .mv (.t 6), (some (13, false))⟩, ⟨some 16, .len false (.t 15), (some (13, false))⟩, ⟨some 17, .bin .geq (.t 14) (.t 16), (some (13, false))⟩, ⟨some 18, .pick (.t 13) (.c (.bool true)) (.t 17), none⟩] [1, 2, 4, 6, 18])
 (.cond (.t 18) (.seq (.reg [⟨some 19, .build [.str [], .sl 2 [] .nl, .int .i64 0, .int .i64 0, .int .i64 0, .int .i64 0] [], none⟩, ⟨none, .store 6 true (.t 4) (.t 19), none⟩, ⟨some 5, .mv (.c (.bool false)), none⟩] [4, 5])
 (.ret))
 (.skip)))
 (.seq (.drw [⟨⟨some 20, .faddr 2 (.t 2), none⟩, 0, 0, []⟩, ⟨⟨some 22, .mv (.t 6), none⟩, 2, 0, []⟩, ⟨⟨some 23, .mv (.t 1), none⟩, 3, 0, []⟩, ⟨⟨some 24, .iaddr 2 (.t 22) (.t 23), none⟩, 4, 12, []⟩, ⟨⟨some 25, .iaddrA 2 1 (.t 24) (.c (.int .i64 0)), none⟩, 5, 28, []⟩, ⟨⟨some 21, .load false 1 (.t 20), none⟩, 1, 1, []⟩, ⟨⟨some 26, .load false 1 (.t 25), none⟩, 6, 60, []⟩, ⟨⟨some 27, .iaddr 3 (.t 21) (.t 26), none⟩, 7, 127, []⟩, ⟨⟨some 28, .faddr 1 (.t 27), none⟩, 8, 255, []⟩, ⟨⟨some 29, .load false 1 (.t 28), none⟩, 9, 511, []⟩, ⟨⟨some 7, .mv (.t 29), none⟩, 10, 1023, []⟩] [2, 4, 7])
 (.seq (.seq (.reg [⟨some 30, .mv (.t 7), none⟩, ⟨some 31, .bin .lss (.t 30) (.c (.int .i64 0)), none⟩, ⟨some 32, .mv (.t 31), none⟩, ⟨some 33, .mv (.t 7), (some (32, false))⟩, ⟨some 34, .faddr 1 (.t 2), (some (32, false))⟩, ⟨some 35, .load false 1 (.t 34), (some (32, false))⟩, ⟨some 36, .len false (.t 35), (some (32, false))⟩, ⟨some 37, .bin .geq (.t 33) (.t 36), (some (32, false))⟩, ⟨some 38, .pick (.t 32) (.c (.bool true)) (.t 37), none⟩] [2, 4, 7, 38])
 (.cond (.t 38) (.seq (.reg [⟨some 39, .build [.str [], .sl 2 [] .nl, .int .i64 0, .int .i64 0, .int .i64 0, .int .i64 0] [], none⟩, ⟨none, .store 6 true (.t 4) (.t 39), none⟩, ⟨some 5, .mv (.c (.bool false)), none⟩] [4, 5])
 (.ret))
 (.skip)))
 (.seq (.reg [⟨some 40, .faddr 1 (.t 2), none⟩, ⟨some 41, .load false 1 (.t 40), none⟩, ⟨some 42, .mv (.t 7), none⟩, ⟨some 43, .iaddr 6 (.t 41) (.t 42), none⟩, ⟨some 44, .load true 6 (.t 43), none⟩, ⟨none, .store 6 true (.t 4) (.t 44), none⟩, ⟨some 5, .mv (.c (.bool true)), none⟩] [4, 5])
 (.ret))))))
def f834 : VFunc := ⟨false, [.cell 4 true 6, .tmp 5], b834, none⟩

/-- shunter/shunterref10.Stacked -/
def b835 : VCode := .seq (.reg [⟨some 2, .box (.t 0), none⟩, ⟨some 4, .mv (.c (.int .i64 0)), none⟩, ⟨some 5, .mv (.c (.int .i64 0)), none⟩, ⟨some 6, .mv (.c (.bool false)), none⟩] [1, 2])
 (.seq (.seq (.reg [⟨some 7, .mv (.t 1), none⟩, ⟨some 8, .bin .lss (.t 7) (.c (.int .i64 0)), none⟩, ⟨some 9, .mv (.t 8), none⟩, ⟨some 10, .mv (.t 1), (some (9, false))⟩, ⟨some 11, .faddr 2 (.t 2), (some (9, false))⟩, ⟨some 12, .load false 1 (.t 11), (some (9, false))⟩, ⟨some 13, .len false (.t 12), (some (9, false))⟩, ⟨some 14, .bin .geq (.t 10) (.t 13), (some (9, false))⟩, ⟨some 15, .pick (.t 9) (.c (.bool true)) (.t 14), none⟩, ⟨some 16, .mv (.t 15), none⟩, ⟨some 17, .faddr 2 (.t 2), (some (16, false))⟩, ⟨some 18, .load false 1 (.t 17), (some (16, false))⟩, ⟨some 19, .mv (.t 1), (some (16, false))⟩, ⟨some 20, .iaddr 3 (.t 18) (.t 19), (some (16, false))⟩, ⟨some 21, .faddr 2 (.t 20), (some (16, false))⟩, ⟨some 22, .load false 1 (.t 21), (some (16, false))⟩, ⟨some 23, .bin .lss (.t 22) (.c (.int .i64 1)), (some (16, false))⟩, ⟨some 24, .pick (.t 16) (.c (.bool true)) (.t 23), none⟩, ⟨some 25, .mv (.t 24), none⟩, ⟨some 26, .faddr 2 (.t 2), (some (25, false))⟩, ⟨some 27, .load false 1 (.t 26), (some (25, false))⟩, ⟨some 28, .mv (.t 1), (some (25, false))⟩, ⟨some 29, .iaddr 3 (.t 27) (.t 28), (some (25, false))⟩, ⟨some 30, .faddr 2 (.t 29), (some (25, false))⟩, ⟨some 31, .load false 1 (.t 30), (some (25, false))⟩, ⟨some 32, .bin .gtr (.t 31) (.c (.int .i64 4)), (some (25, false))⟩, ⟨some 33, .pick (.t 25) (.c (.bool true)) (.t 32), none⟩] [1, 2, 33])
 (.cond (.t 33) (.seq (.reg [⟨some 4, .mv (.c (.int .i64 0)), none⟩, ⟨some 5, .mv (.c (.int .i64 0)), none⟩, ⟨some 6, .mv (.c (.bool false)), none⟩] [4, 5, 6])
 (.ret))
 (.skip)))
 (.seq (.drw [⟨⟨some 34, .faddr 2 (.t 2), none⟩, 0, 0, []⟩, ⟨⟨some 36, .mv (.t 1), none⟩, 2, 0, []⟩, ⟨⟨some 40, .faddr 2 (.t 2), none⟩, 6, 0, []⟩, ⟨⟨some 42, .mv (.t 1), none⟩, 8, 0, []⟩, ⟨⟨some 35, .load false 1 (.t 34), none⟩, 1, 1, []⟩, ⟨⟨some 37, .slice 3 (.t 35) none (some (.t 36)) none, none⟩, 3, 7, []⟩, ⟨⟨some 41, .load false 1 (.t 40), none⟩, 7, 64, []⟩, ⟨⟨some 43, .iaddr 3 (.t 41) (.t 42), none⟩, 9, 448, []⟩, ⟨⟨some 44, .faddr 2 (.t 43), none⟩, 10, 960, []⟩, ⟨⟨some 45, .load false 1 (.t 44), none⟩, 11, 1984, []⟩, ⟨⟨some 38, .call 823 [.t 37], none⟩, 4, 15, []⟩, ⟨⟨some 39, .len false (.t 38), none⟩, 5, 31, []⟩, ⟨⟨some 4, .mv (.t 39), none⟩, 12, 63, []⟩, ⟨⟨some 5, .mv (.t 45), none⟩, 13, 8191, []⟩, ⟨⟨some 6, .mv (.c (.bool true)), none⟩, 14, 16383, []⟩] [4, 5, 6])
 (.ret)))
def f835 : VFunc := ⟨false, [.tmp 4, .tmp 5, .tmp 6], b835, none⟩

def l836_0 : VCode := .seq (.seq (.reg [⟨some 154, .mv (.t 13), none⟩, ⟨some 155, .faddr 14 (.t 2), none⟩, ⟨some 156, .load false 1 (.t 155), none⟩, ⟨some 157, .len false (.t 156), none⟩, ⟨some 158, .bin .lss (.t 154) (.t 157), none⟩, ⟨some 159, .mv (.t 158), none⟩, ⟨some 160, .mv (.t 1), (some (159, true))⟩, ⟨some 161, .bin .eql (.t 160) (.c (.int .i64 14)), (some (159, true))⟩, ⟨some 162, .pick (.t 159) (.t 161) (.c (.bool false)), none⟩] [1, 2, 5, 13, 162])
 (.cond (.t 162) (.skip)
 (.exit 14)))
 (.seq (.blk 15 (.reg [⟨some 165, .mv (.t 5), none⟩, ⟨some 166, .faddr 14 (.t 2), none⟩, ⟨some 167, .load false 1 (.t 166), none⟩, ⟨some 168, .mv (.t 13), none⟩, ⟨some 169, .iaddr 4 (.t 167) (.t 168), none⟩, ⟨some 170, .faddr 0 (.t 169), none⟩, ⟨some 171, .load false 1 (.t 170), none⟩, ⟨some 172, .buildSl 1 [.t 171], none⟩, ⟨some 173, .app 1 16 false (.t 165) (.t 172), none⟩, ⟨some 5, .mv (.t 173), none⟩] [1, 2, 5, 13]))
 (.reg [⟨some 163, .mv (.t 13), none⟩, ⟨some 164, .bin .add (.t 163) (.c (.int .i64 1)), none⟩, ⟨some 13, .mv (.t 164), none⟩] [1, 2, 5, 13]))
def L836_0 : VCode := l836_0
def l836_1 : VCode := .seq (.seq (.reg [⟨some 134, .mv (.t 12), none⟩, ⟨some 135, .faddr 13 (.t 2), none⟩, ⟨some 136, .load false 1 (.t 135), none⟩, ⟨some 137, .len false (.t 136), none⟩, ⟨some 138, .bin .lss (.t 134) (.t 137), none⟩, ⟨some 139, .mv (.t 138), none⟩, ⟨some 140, .mv (.t 1), (some (139, true))⟩, ⟨some 141, .bin .eql (.t 140) (.c (.int .i64 13)), (some (139, true))⟩, ⟨some 142, .pick (.t 139) (.t 141) (.c (.bool false)), none⟩] [1, 2, 5, 12, 142])
 (.cond (.t 142) (.skip)
 (.exit 12)))
 (.seq (.blk 13 (.reg [⟨some 145, .mv (.t 5), none⟩, ⟨some 146, .faddr 13 (.t 2), none⟩, ⟨some 147, .load false 1 (.t 146), none⟩, ⟨some 148, .mv (.t 12), none⟩, ⟨some 149, .iaddr 2 (.t 147) (.t 148), none⟩, ⟨some 150, .faddr 0 (.t 149), none⟩, ⟨some 151, .load false 1 (.t 150), none⟩, ⟨some 152, .buildSl 1 [.t 151], none⟩, ⟨some 153, .app 1 16 false (.t 145) (.t 152), none⟩, ⟨some 5, .mv (.t 153), none⟩] [1, 2, 5, 12]))
 (.reg [⟨some 143, .mv (.t 12), none⟩, ⟨some 144, .bin .add (.t 143) (.c (.int .i64 1)), none⟩, ⟨some 12, .mv (.t 144), none⟩] [1, 2, 5, 12]))
def L836_1 : VCode := l836_1
def l836_2 : VCode := .seq (.seq (.reg [⟨some 114, .mv (.t 11), none⟩, ⟨some 115, .faddr 12 (.t 2), none⟩, ⟨some 116, .load false 1 (.t 115), none⟩, ⟨some 117, .len false (.t 116), none⟩, ⟨some 118, .bin .lss (.t 114) (.t 117), none⟩, ⟨some 119, .mv (.t 118), none⟩, ⟨some 120, .mv (.t 1), (some (119, true))⟩, ⟨some 121, .bin .eql (.t 120) (.c (.int .i64 12)), (some (119, true))⟩, ⟨some 122, .pick (.t 119) (.t 121) (.c (.bool false)), none⟩] [1, 2, 5, 11, 122])
 (.cond (.t 122) (.skip)
 (.exit 10)))
 (.seq (.blk 11 (.reg [⟨some 125, .mv (.t 5), none⟩, ⟨some 126, .faddr 12 (.t 2), none⟩, ⟨some 127, .load false 1 (.t 126), none⟩, ⟨some 128, .mv (.t 11), none⟩, ⟨some 129, .iaddr 3 (.t 127) (.t 128), none⟩, ⟨some 130, .faddr 0 (.t 129), none⟩, ⟨some 131, .load false 1 (.t 130), none⟩, ⟨some 132, .buildSl 1 [.t 131], none⟩, ⟨some 133, .app 1 16 false (.t 125) (.t 132), none⟩, ⟨some 5, .mv (.t 133), none⟩] [1, 2, 5, 11]))
 (.reg [⟨some 123, .mv (.t 11), none⟩, ⟨some 124, .bin .add (.t 123) (.c (.int .i64 1)), none⟩, ⟨some 11, .mv (.t 124), none⟩] [1, 2, 5, 11]))
def L836_2 : VCode := l836_2
def l836_3 : VCode := .seq (.seq (.reg [⟨some 94, .mv (.t 10), none⟩, ⟨some 95, .faddr 6 (.t 2), none⟩, ⟨some 96, .load false 1 (.t 95), none⟩, ⟨some 97, .len false (.t 96), none⟩, ⟨some 98, .bin .lss (.t 94) (.t 97), none⟩, ⟨some 99, .mv (.t 98), none⟩, ⟨some 100, .mv (.t 1), (some (99, true))⟩, ⟨some 101, .bin .eql (.t 100) (.c (.int .i64 6)), (some (99, true))⟩, ⟨some 102, .pick (.t 99) (.t 101) (.c (.bool false)), none⟩] [1, 2, 5, 10, 102])
 (.cond (.t 102) (.skip)
 (.exit 8)))
 (.seq (.blk 9 (.reg [⟨some 105, .mv (.t 5), none⟩, ⟨some 106, .faddr 6 (.t 2), none⟩, ⟨some 107, .load false 1 (.t 106), none⟩, ⟨some 108, .mv (.t 10), none⟩, ⟨some 109, .iaddr 7 (.t 107) (.t 108), none⟩, ⟨some 110, .faddr 0 (.t 109), none⟩, ⟨some 111, .load false 1 (.t 110), none⟩, ⟨some 112, .buildSl 1 [.t 111], none⟩, ⟨some 113, .app 1 16 false (.t 105) (.t 112), none⟩, ⟨some 5, .mv (.t 113), none⟩] [1, 2, 5, 10]))
 (.reg [⟨some 103, .mv (.t 10), none⟩, ⟨some 104, .bin .add (.t 103) (.c (.int .i64 1)), none⟩, ⟨some 10, .mv (.t 104), none⟩] [1, 2, 5, 10]))
def L836_3 : VCode := l836_3
def l836_4 : VCode := .seq (.seq (.reg [⟨some 74, .mv (.t 9), none⟩, ⟨some 75, .faddr 5 (.t 2), none⟩, ⟨some 76, .load false 1 (.t 75), none⟩, ⟨some 77, .len false (.t 76), none⟩, ⟨some 78, .bin .lss (.t 74) (.t 77), none⟩, ⟨some 79, .mv (.t 78), none⟩, ⟨some 80, .mv (.t 1), (some (79, true))⟩, ⟨some 81, .bin .eql (.t 80) (.c (.int .i64 5)), (some (79, true))⟩, ⟨some 82, .pick (.t 79) (.t 81) (.c (.bool false)), none⟩] [1, 2, 5, 9, 82])
 (.cond (.t 82) (.skip)
 (.exit 6)))
 (.seq (.blk 7 (.reg [⟨some 85, .mv (.t 5), none⟩, ⟨some 86, .faddr 5 (.t 2), none⟩, ⟨some 87, .load false 1 (.t 86), none⟩, ⟨some 88, .mv (.t 9), none⟩, ⟨some 89, .iaddr 3 (.t 87) (.t 88), none⟩, ⟨some 90, .faddr 0 (.t 89), none⟩, ⟨some 91, .load false 1 (.t 90), none⟩, ⟨some 92, .buildSl 1 [.t 91], none⟩, ⟨some 93, .app 1 16 false (.t 85) (.t 92), none⟩, ⟨some 5, .mv (.t 93), none⟩] [1, 2, 5, 9]))
 (.reg [⟨some 83, .mv (.t 9), none⟩, ⟨some 84, .bin .add (.t 83) (.c (.int .i64 1)), none⟩, ⟨some 9, .mv (.t 84), none⟩] [1, 2, 5, 9]))
def L836_4 : VCode := l836_4
def l836_5 : VCode := .seq (.seq (.reg [⟨some 54, .mv (.t 8), none⟩, ⟨some 55, .faddr 4 (.t 2), none⟩, ⟨some 56, .load false 1 (.t 55), none⟩, ⟨some 57, .len false (.t 56), none⟩, ⟨some 58, .bin .lss (.t 54) (.t 57), none⟩, ⟨some 59, .mv (.t 58), none⟩, ⟨some 60, .mv (.t 1), (some (59, true))⟩, ⟨some 61, .bin .eql (.t 60) (.c (.int .i64 4)), (some (59, true))⟩, ⟨some 62, .pick (.t 59) (.t 61) (.c (.bool false)), none⟩] [1, 2, 5, 8, 62])
 (.cond (.t 62) (.skip)
 (.exit 4)))
 (.seq (.blk 5 (.reg [⟨some 65, .mv (.t 5), none⟩, ⟨some 66, .faddr 4 (.t 2), none⟩, ⟨some 67, .load false 1 (.t 66), none⟩, ⟨some 68, .mv (.t 8), none⟩, ⟨some 69, .iaddr 5 (.t 67) (.t 68), none⟩, ⟨some 70, .faddr 0 (.t 69), none⟩, ⟨some 71, .load false 1 (.t 70), none⟩, ⟨some 72, .buildSl 1 [.t 71], none⟩, ⟨some 73, .app 1 16 false (.t 65) (.t 72), none⟩, ⟨some 5, .mv (.t 73), none⟩] [1, 2, 5, 8]))
 (.reg [⟨some 63, .mv (.t 8), none⟩, ⟨some 64, .bin .add (.t 63) (.c (.int .i64 1)), none⟩, ⟨some 8, .mv (.t 64), none⟩] [1, 2, 5, 8]))
def L836_5 : VCode := l836_5
def l836_6 : VCode := .seq (.seq (.reg [⟨some 34, .mv (.t 7), none⟩, ⟨some 35, .faddr 3 (.t 2), none⟩, ⟨some 36, .load false 1 (.t 35), none⟩, ⟨some 37, .len false (.t 36), none⟩, ⟨some 38, .bin .lss (.t 34) (.t 37), none⟩, ⟨some 39, .mv (.t 38), none⟩, ⟨some 40, .mv (.t 1), (some (39, true))⟩, ⟨some 41, .bin .eql (.t 40) (.c (.int .i64 3)), (some (39, true))⟩, ⟨some 42, .pick (.t 39) (.t 41) (.c (.bool false)), none⟩] [1, 2, 5, 7, 42])
 (.cond (.t 42) (.skip)
 (.exit 2)))
 (.seq (.blk 3 (.reg [⟨some 45, .mv (.t 5), none⟩, ⟨some 46, .faddr 3 (.t 2), none⟩, ⟨some 47, .load false 1 (.t 46), none⟩, ⟨some 48, .mv (.t 7), none⟩, ⟨some 49, .iaddr 2 (.t 47) (.t 48), none⟩, ⟨some 50, .faddr 0 (.t 49), none⟩, ⟨some 51, .load false 1 (.t 50), none⟩, ⟨some 52, .buildSl 1 [.t 51], none⟩, ⟨some 53, .app 1 16 false (.t 45) (.t 52), none⟩, ⟨some 5, .mv (.t 53), none⟩] [1, 2, 5, 7]))
 (.reg [⟨some 43, .mv (.t 7), none⟩, ⟨some 44, .bin .add (.t 43) (.c (.int .i64 1)), none⟩, ⟨some 7, .mv (.t 44), none⟩] [1, 2, 5, 7]))
def L836_6 : VCode := l836_6
def l836_7 : VCode := .seq (.seq (.reg [⟨some 14, .mv (.t 6), none⟩, ⟨some 15, .faddr 1 (.t 2), none⟩, ⟨some 16, .load false 1 (.t 15), none⟩, ⟨some 17, .len false (.t 16), none⟩, ⟨some 18, .bin .lss (.t 14) (.t 17), none⟩, ⟨some 19, .mv (.t 18), none⟩, ⟨some 20, .mv (.t 1), (some (19, true))⟩, ⟨some 21, .bin .eql (.t 20) (.c (.int .i64 1)), (some (19, true))⟩, ⟨some 22, .pick (.t 19) (.t 21) (.c (.bool false)), none⟩] [1, 2, 5, 6, 22])
 (.cond (.t 22) (.skip)
 (.exit 0)))
 (.seq (.blk 1 (.reg [⟨some 25, .mv (.t 5), none⟩, ⟨some 26, .faddr 1 (.t 2), none⟩, ⟨some 27, .load false 1 (.t 26), none⟩, ⟨some 28, .mv (.t 6), none⟩, ⟨some 29, .iaddr 6 (.t 27) (.t 28), none⟩, ⟨some 30, .faddr 0 (.t 29), none⟩, ⟨some 31, .load false 1 (.t 30), none⟩, ⟨some 32, .buildSl 1 [.t 31], none⟩, ⟨some 33, .app 1 16 false (.t 25) (.t 32), none⟩, ⟨some 5, .mv (.t 33), none⟩] [1, 2, 5, 6]))
 (.reg [⟨some 23, .mv (.t 6), none⟩, ⟨some 24, .bin .add (.t 23) (.c (.int .i64 1)), none⟩, ⟨some 6, .mv (.t 24), none⟩] [1, 2, 5, 6]))
def L836_7 : VCode := l836_7
/-- shunter/shunterref10.Titles -/
def b836 : VCode := .seq (.reg [⟨some 2, .box (.t 0), none⟩, ⟨some 4, .mv (.c (.sl 1 [] .nl)), none⟩] [1, 2])
 (.seq (.reg [⟨some 5, .nilacc 1, none⟩] [1, 2, 5])
 (.seq (.seq (.reg [⟨some 6, .mv (.c (.int .i64 0)), none⟩] [1, 2, 5, 6])
 (.blk 0 (.loop [1, 2, 5, 6] (L836_7))))
 (.seq (.seq (.reg [⟨some 7, .mv (.c (.int .i64 0)), none⟩] [1, 2, 5, 7])
 (.blk 2 (.loop [1, 2, 5, 7] (L836_6))))
 (.seq (.seq (.reg [⟨some 8, .mv (.c (.int .i64 0)), none⟩] [1, 2, 5, 8])
 (.blk 4 (.loop [1, 2, 5, 8] (L836_5))))
 (.seq (.seq (.reg [⟨some 9, .mv (.c (.int .i64 0)), none⟩] [1, 2, 5, 9])
 (.blk 6 (.loop [1, 2, 5, 9] (L836_4))))
 (.seq (.seq (.reg [⟨some 10, .mv (.c (.int .i64 0)), none⟩] [1, 2, 5, 10])
 (.blk 8 (.loop [1, 2, 5, 10] (L836_3))))
 (.seq (.seq (.reg [⟨some 11, .mv (.c (.int .i64 0)), none⟩] [1, 2, 5, 11])
 (.blk 10 (.loop [1, 2, 5, 11] (L836_2))))
 (.seq (.seq (.reg [⟨some 12, .mv (.c (.int .i64 0)), none⟩] [1, 2, 5, 12])
 (.blk 12 (.loop [1, 2, 5, 12] (L836_1))))
 (.seq (.seq (.reg [⟨some 13, .mv (.c (.int .i64 0)), none⟩] [1, 2, 5, 13])
 (.blk 14 (.loop [1, 2, 5, 13] (L836_0))))
 (.seq (.reg [⟨some 174, .mv (.t 5), none⟩, ⟨some 4, .mv (.t 174), none⟩] [4])
 (.ret)))))))))))
def f836 : VFunc := ⟨false, [.tmp 4], b836, none⟩

/-- shunter/vec.And -/
def b1082 : VCode := .seq (.reg [⟨some 2, .box (.t 0), none⟩, ⟨some 3, .box (.t 1), none⟩, ⟨some 4, .alloc (.agg [.int .i64 0, .int .u64 0, .int .u64 0]), none⟩, ⟨some 5, .mv (.c (.int .i64 0)), none⟩] [2, 3, 4])
 (.seq (.reg [⟨some 6, .load true 3 (.t 2), none⟩, ⟨some 7, .load true 3 (.t 3), none⟩, ⟨some 8, .call 1113 [.t 6, .t 7, .c (.func 1130 [] [])], none⟩, ⟨some 9, .ext (.t 8) 0, none⟩, ⟨some 10, .ext (.t 8) 1, none⟩, ⟨none, .store 3 false (.t 4) (.t 9), none⟩, ⟨some 5, .mv (.t 10), none⟩] [4, 5])
 (.ret))
def f1082 : VFunc := ⟨false, [.cell 4 true 3, .tmp 5], b1082, none⟩

/-- shunter/vec.Cut -/
def b1085 : VCode := .seq (.reg [⟨some 3, .box (.t 1), none⟩, ⟨some 4, .alloc (.agg [.int .i64 0, .int .u64 0, .int .u64 0]), none⟩, ⟨some 5, .mv (.c (.int .i64 0)), none⟩] [0, 3, 4])
 (.seq (.seq (.reg [⟨some 6, .mv (.t 0), none⟩, ⟨some 7, .call 1114 [.t 6], none⟩, ⟨some 8, .un .not (.t 7), none⟩] [0, 3, 4, 8])
 (.cond (.t 8) (.seq (.reg [⟨some 9, .build [.int .i64 0, .int .u64 0, .int .u64 0] [], none⟩, ⟨none, .store 3 false (.t 4) (.t 9), none⟩, ⟨some 5, .mv (.c (.int .i64 9)), none⟩] [4, 5])
 (.ret))
 (.skip)))
 (.seq (.drw [⟨⟨some 10, .mv (.t 0), none⟩, 0, 0, []⟩, ⟨⟨some 12, .mv (.t 0), none⟩, 2, 0, []⟩, ⟨⟨some 11, .load true 2 (.t 3), none⟩, 1, 0, []⟩, ⟨⟨some 13, .call 1137 [.t 12], none⟩, 3, 4, []⟩, ⟨⟨some 14, .call 1130 [.t 11, .t 13], none⟩, 4, 14, []⟩, ⟨⟨some 15, .call 1111 [.t 10, .t 14], none⟩, 5, 31, []⟩, ⟨⟨none, .store 3 false (.t 4) (.t 15), none⟩, 6, 63, []⟩, ⟨⟨some 5, .mv (.c (.int .i64 0)), none⟩, 7, 127, []⟩] [4, 5])
 (.ret)))
def f1085 : VFunc := ⟨false, [.cell 4 true 3, .tmp 5], b1085, none⟩

/-- shunter/vec.May -/
def b1090 : VCode := .seq (.reg [⟨some 1, .box (.t 0), none⟩, ⟨some 2, .mv (.c (.bool false)), none⟩] [1])
 (.seq (.drw [⟨⟨some 3, .faddr 0 (.t 1), none⟩, 0, 0, []⟩, ⟨⟨some 4, .load false 1 (.t 3), none⟩, 1, 1, []⟩, ⟨⟨some 5, .call 1114 [.t 4], none⟩, 2, 3, []⟩, ⟨⟨some 6, .mv (.t 5), none⟩, 3, 7, []⟩, ⟨⟨some 10, .faddr 0 (.t 1), (some (6, true))⟩, 7, 15, []⟩, ⟨⟨some 7, .load true 3 (.t 1), (some (6, true))⟩, 4, 15, []⟩, ⟨⟨some 11, .load false 1 (.t 10), (some (6, true))⟩, 8, 143, []⟩, ⟨⟨some 8, .call 1108 [.t 7], (some (6, true))⟩, 5, 31, []⟩, ⟨⟨some 9, .call 1134 [.t 8], (some (6, true))⟩, 6, 63, []⟩, ⟨⟨some 12, .bin .leq (.t 9) (.t 11), (some (6, true))⟩, 9, 511, []⟩, ⟨⟨some 13, .pick (.t 6) (.t 12) (.c (.bool false)), none⟩, 10, 1023, []⟩, ⟨⟨some 2, .mv (.t 13), none⟩, 11, 2047, []⟩] [2])
 (.ret))
def f1090 : VFunc := ⟨false, [.tmp 2], b1090, none⟩

/-- shunter/vec.Word -/
def b1108 : VCode := .seq (.reg [⟨some 1, .box (.t 0), none⟩, ⟨some 2, .alloc (.agg [.int .u64 0, .int .u64 0]), none⟩] [1, 2])
 (.seq (.reg [⟨some 3, .faddr 1 (.t 1), none⟩, ⟨some 4, .load false 1 (.t 3), none⟩, ⟨some 5, .faddr 2 (.t 1), none⟩, ⟨some 6, .load false 1 (.t 5), none⟩, ⟨some 7, .build [.int .u64 0, .int .u64 0] [(0, 1, .t 4), (1, 1, .t 6)], none⟩, ⟨none, .store 2 false (.t 2) (.t 7), none⟩] [2])
 (.ret))
def f1108 : VFunc := ⟨false, [.cell 2 true 2], b1108, none⟩

/-- shunter/vec.row -/
def b1111 : VCode := .seq (.reg [⟨some 3, .box (.t 1), none⟩, ⟨some 4, .alloc (.agg [.int .i64 0, .int .u64 0, .int .u64 0]), none⟩] [0, 3, 4])
 (.seq (.reg [⟨some 5, .mv (.t 0), none⟩, ⟨some 6, .faddr 0 (.t 3), none⟩, ⟨some 7, .load false 1 (.t 6), none⟩, ⟨some 8, .faddr 1 (.t 3), none⟩, ⟨some 9, .load false 1 (.t 8), none⟩, ⟨some 10, .build [.int .i64 0, .int .u64 0, .int .u64 0] [(0, 1, .t 5), (1, 1, .t 7), (2, 1, .t 9)], none⟩, ⟨none, .store 3 false (.t 4) (.t 10), none⟩] [4])
 (.ret))
def f1111 : VFunc := ⟨false, [.cell 4 true 3], b1111, none⟩

/-- shunter/vec.two -/
def b1113 : VCode := .seq (.reg [⟨some 3, .box (.t 0), none⟩, ⟨some 4, .box (.t 1), none⟩, ⟨some 6, .alloc (.agg [.int .i64 0, .int .u64 0, .int .u64 0]), none⟩, ⟨some 7, .mv (.c (.int .i64 0)), none⟩] [2, 3, 4, 6])
 (.seq (.blk 0 (.seq (.reg [⟨some 9, .load true 3 (.t 3), none⟩, ⟨some 10, .call 1090 [.t 9], none⟩, ⟨some 11, .un .not (.t 10), none⟩, ⟨some 12, .mv (.t 11), none⟩, ⟨some 13, .load true 3 (.t 4), (some (12, false))⟩, ⟨some 14, .call 1090 [.t 13], (some (12, false))⟩, ⟨some 15, .un .not (.t 14), (some (12, false))⟩, ⟨some 16, .pick (.t 12) (.c (.bool true)) (.t 15), none⟩, ⟨some 8, .mv (.t 16), none⟩] [2, 3, 4, 6, 8])
 (.cond (.t 8) (.seq (.reg [⟨some 17, .build [.int .i64 0, .int .u64 0, .int .u64 0] [], none⟩, ⟨none, .store 3 false (.t 6) (.t 17), none⟩, ⟨some 7, .mv (.c (.int .i64 1)), none⟩] [6, 7])
 (.ret))
 (.seq (.reg [⟨some 19, .faddr 0 (.t 3), none⟩, ⟨some 20, .load false 1 (.t 19), none⟩, ⟨some 21, .faddr 0 (.t 4), none⟩, ⟨some 22, .load false 1 (.t 21), none⟩, ⟨some 23, .bin .neq (.t 20) (.t 22), none⟩, ⟨some 18, .mv (.t 23), none⟩] [2, 3, 4, 6, 18])
 (.cond (.t 18) (.seq (.reg [⟨some 24, .build [.int .i64 0, .int .u64 0, .int .u64 0] [], none⟩, ⟨none, .store 3 false (.t 6) (.t 24), none⟩, ⟨some 7, .mv (.c (.int .i64 9)), none⟩] [6, 7])
 (.ret))
 (.skip))))))
 (.seq (.drw [⟨⟨some 25, .faddr 0 (.t 3), none⟩, 0, 0, []⟩, ⟨⟨some 27, .mv (.t 2), none⟩, 2, 0, []⟩, ⟨⟨some 26, .load false 1 (.t 25), none⟩, 1, 1, []⟩, ⟨⟨some 28, .load true 3 (.t 3), none⟩, 3, 0, []⟩, ⟨⟨some 30, .load true 3 (.t 4), none⟩, 5, 0, []⟩, ⟨⟨some 29, .call 1108 [.t 28], none⟩, 4, 8, []⟩, ⟨⟨some 31, .call 1108 [.t 30], none⟩, 6, 56, []⟩, ⟨⟨some 32, .calld true (.t 27) [.t 29, .t 31], none⟩, 7, 124, []⟩, ⟨⟨some 33, .call 1085 [.t 26, .t 32], none⟩, 8, 255, []⟩, ⟨⟨some 34, .ext (.t 33) 0, none⟩, 9, 511, []⟩, ⟨⟨some 35, .ext (.t 33) 1, none⟩, 10, 511, []⟩, ⟨⟨none, .store 3 false (.t 6) (.t 34), none⟩, 11, 2047, []⟩, ⟨⟨some 7, .mv (.t 35), none⟩, 12, 4095, []⟩] [6, 7])
 (.ret)))
def f1113 : VFunc := ⟨false, [.cell 6 true 3, .tmp 7], b1113, none⟩

/-- shunter/vec.width -/
def b1114 : VCode := .seq (.reg [⟨some 2, .mv (.c (.bool false)), none⟩] [0])
 (.seq (.reg [⟨some 3, .mv (.t 0), none⟩, ⟨some 4, .bin .geq (.t 3) (.c (.int .i64 1)), none⟩, ⟨some 5, .mv (.t 4), none⟩, ⟨some 6, .mv (.t 0), (some (5, true))⟩, ⟨some 7, .bin .leq (.t 6) (.c (.int .i64 128)), (some (5, true))⟩, ⟨some 8, .pick (.t 5) (.t 7) (.c (.bool false)), none⟩, ⟨some 2, .mv (.t 8), none⟩] [2])
 (.ret))
def f1114 : VFunc := ⟨false, [.tmp 2], b1114, none⟩

/-- shunter/word.And -/
def b1130 : VCode := .seq (.reg [⟨some 2, .box (.t 0), none⟩, ⟨some 3, .box (.t 1), none⟩, ⟨some 4, .alloc (.agg [.int .u64 0, .int .u64 0]), none⟩] [2, 3, 4])
 (.seq (.reg [⟨some 5, .faddr 0 (.t 2), none⟩, ⟨some 6, .load false 1 (.t 5), none⟩, ⟨some 7, .faddr 0 (.t 3), none⟩, ⟨some 8, .load false 1 (.t 7), none⟩, ⟨some 9, .bin .and (.t 6) (.t 8), none⟩, ⟨some 10, .faddr 1 (.t 2), none⟩, ⟨some 11, .load false 1 (.t 10), none⟩, ⟨some 12, .faddr 1 (.t 3), none⟩, ⟨some 13, .load false 1 (.t 12), none⟩, ⟨some 14, .bin .and (.t 11) (.t 13), none⟩, ⟨some 15, .build [.int .u64 0, .int .u64 0] [(0, 1, .t 9), (1, 1, .t 14)], none⟩, ⟨none, .store 2 false (.t 4) (.t 15), none⟩] [4])
 (.ret))
def f1130 : VFunc := ⟨false, [.cell 4 true 2], b1130, none⟩

/-- shunter/word.Len -/
def b1134 : VCode := .seq (.reg [⟨some 1, .box (.t 0), none⟩, ⟨some 2, .mv (.c (.int .i64 0)), none⟩] [1])
 (.seq (.seq (.reg [⟨some 3, .faddr 0 (.t 1), none⟩, ⟨some 4, .load false 1 (.t 3), none⟩, ⟨some 5, .bin .gtr (.t 4) (.c (.int .u64 0)), none⟩] [1, 5])
 (.cond (.t 5) (.seq (.reg [⟨some 6, .faddr 0 (.t 1), none⟩, ⟨some 7, .load false 1 (.t 6), none⟩, ⟨some 8, .call 374 [.t 7], none⟩, ⟨some 9, .bin .add (.c (.int .i64 64)) (.t 8), none⟩, ⟨some 2, .mv (.t 9), none⟩] [2])
 (.ret))
 (.skip)))
 (.seq (.reg [⟨some 10, .faddr 1 (.t 1), none⟩, ⟨some 11, .load false 1 (.t 10), none⟩, ⟨some 12, .call 374 [.t 11], none⟩, ⟨some 2, .mv (.t 12), none⟩] [2])
 (.ret)))
def f1134 : VFunc := ⟨false, [.tmp 2], b1134, none⟩

/-- shunter/word.Not -/
def b1136 : VCode := .seq (.reg [⟨some 1, .box (.t 0), none⟩, ⟨some 2, .alloc (.agg [.int .u64 0, .int .u64 0]), none⟩] [1, 2])
 (.seq (.reg [⟨some 3, .faddr 0 (.t 1), none⟩, ⟨some 4, .load false 1 (.t 3), none⟩, ⟨some 5, .un .xor (.t 4), none⟩, ⟨some 6, .faddr 1 (.t 1), none⟩, ⟨some 7, .load false 1 (.t 6), none⟩, ⟨some 8, .un .xor (.t 7), none⟩, ⟨some 9, .build [.int .u64 0, .int .u64 0] [(0, 1, .t 5), (1, 1, .t 8)], none⟩, ⟨none, .store 2 false (.t 2) (.t 9), none⟩] [2])
 (.ret))
def f1136 : VFunc := ⟨false, [.cell 2 true 2], b1136, none⟩

/-- shunter/word.Ones -/
def b1137 : VCode := .seq (.reg [⟨some 2, .alloc (.agg [.int .u64 0, .int .u64 0]), none⟩] [0, 2])
 (.seq (.blk 0 (.seq (.reg [⟨some 6, .mv (.t 0), none⟩, ⟨some 7, .bin .leq (.t 6) (.c (.int .i64 0)), none⟩, ⟨some 5, .mv (.t 7), none⟩] [0, 2, 5])
 (.cond (.t 5) (.seq (.reg [⟨some 8, .build [.int .u64 0, .int .u64 0] [], none⟩, ⟨none, .store 2 false (.t 2) (.t 8), none⟩] [2])
 (.ret))
 (.seq (.reg [⟨some 10, .mv (.t 0), none⟩, ⟨some 11, .bin .geq (.t 10) (.c (.int .i64 128)), none⟩, ⟨some 9, .mv (.t 11), none⟩] [0, 2, 9])
 (.cond (.t 9) (.seq (.reg [⟨some 12, .build [.int .u64 0, .int .u64 0] [], none⟩, ⟨some 13, .call 1136 [.t 12], none⟩, ⟨none, .store 2 false (.t 2) (.t 13), none⟩] [2])
 (.ret))
 (.skip))))))
 (.seq (.reg [⟨some 15, .build [.int .u64 0, .int .u64 0] [(0, 1, .c (.int .u64 0)), (1, 1, .c (.int .u64 1))], none⟩, ⟨some 16, .mv (.t 0), none⟩, ⟨some 17, .call 1140 [.t 15, .t 16], none⟩, ⟨some 18, .build [.int .u64 0, .int .u64 0] [(0, 1, .c (.int .u64 0)), (1, 1, .c (.int .u64 1))], none⟩, ⟨some 19, .call 1142 [.t 17, .t 18], none⟩, ⟨some 14, .mv (.t 19), none⟩, ⟨some 20, .ext (.t 14) 0, none⟩, ⟨some 21, .ext (.t 14) 1, none⟩, ⟨some 3, .alloc (.agg [.int .u64 0, .int .u64 0]), none⟩, ⟨none, .store 2 false (.t 3) (.t 20), none⟩, ⟨some 4, .mv (.t 21), none⟩] [2, 3])
 (.seq (.reg [⟨some 22, .load true 2 (.t 3), none⟩, ⟨none, .store 2 false (.t 2) (.t 22), none⟩] [2])
 (.ret))))
def f1137 : VFunc := ⟨false, [.cell 2 true 2], b1137, none⟩

/-- shunter/word.Shl -/
def b1140 : VCode := .seq (.reg [⟨some 2, .box (.t 0), none⟩, ⟨some 4, .alloc (.agg [.int .u64 0, .int .u64 0]), none⟩] [1, 2, 4])
 (.seq (.blk 0 (.seq (.reg [⟨some 6, .mv (.t 1), none⟩, ⟨some 7, .bin .leq (.t 6) (.c (.int .i64 (-128))), none⟩, ⟨some 8, .mv (.t 7), none⟩, ⟨some 9, .mv (.t 1), (some (8, false))⟩, ⟨some 10, .bin .geq (.t 9) (.c (.int .i64 128)), (some (8, false))⟩, ⟨some 11, .pick (.t 8) (.c (.bool true)) (.t 10), none⟩, ⟨some 5, .mv (.t 11), none⟩] [1, 2, 4, 5])
 (.cond (.t 5) (.seq (.reg [⟨some 12, .build [.int .u64 0, .int .u64 0] [], none⟩, ⟨none, .store 2 false (.t 4) (.t 12), none⟩] [4])
 (.ret))
 (.seq (.reg [⟨some 14, .mv (.t 1), none⟩, ⟨some 15, .bin .lss (.t 14) (.c (.int .i64 0)), none⟩, ⟨some 13, .mv (.t 15), none⟩] [1, 2, 4, 13])
 (.cond (.t 13) (.seq (.reg [⟨some 16, .load true 2 (.t 2), none⟩, ⟨some 17, .mv (.t 1), none⟩, ⟨some 18, .un .neg (.t 17), none⟩, ⟨some 19, .call 1141 [.t 16, .t 18], none⟩, ⟨none, .store 2 false (.t 4) (.t 19), none⟩] [4])
 (.ret))
 (.seq (.reg [⟨some 21, .mv (.t 1), none⟩, ⟨some 22, .bin .eql (.t 21) (.c (.int .i64 0)), none⟩, ⟨some 20, .mv (.t 22), none⟩] [1, 2, 4, 20])
 (.cond (.t 20) (.seq (.reg [⟨some 23, .load true 2 (.t 2), none⟩, ⟨none, .store 2 false (.t 4) (.t 23), none⟩] [4])
 (.ret))
 (.seq (.reg [⟨some 25, .mv (.t 1), none⟩, ⟨some 26, .bin .geq (.t 25) (.c (.int .i64 64)), none⟩, ⟨some 24, .mv (.t 26), none⟩] [1, 2, 4, 24])
 (.cond (.t 24) (.seq (.reg [⟨some 27, .faddr 1 (.t 2), none⟩, ⟨some 28, .load false 1 (.t 27), none⟩, ⟨some 29, .mv (.t 1), none⟩, ⟨some 30, .bin .sub (.t 29) (.c (.int .i64 64)), none⟩, ⟨some 31, .bin .shl (.t 28) (.t 30), none⟩, ⟨some 32, .build [.int .u64 0, .int .u64 0] [(0, 1, .t 31), (1, 1, .c (.int .u64 0))], none⟩, ⟨none, .store 2 false (.t 4) (.t 32), none⟩] [4])
 (.ret))
 (.skip))))))))))
 (.seq (.drw [⟨⟨some 33, .faddr 0 (.t 2), none⟩, 0, 0, []⟩, ⟨⟨some 35, .mv (.t 1), none⟩, 2, 0, []⟩, ⟨⟨some 37, .faddr 1 (.t 2), none⟩, 4, 0, []⟩, ⟨⟨some 39, .mv (.t 1), none⟩, 6, 0, []⟩, ⟨⟨some 40, .bin .sub (.c (.int .i64 64)) (.t 39), none⟩, 7, 64, []⟩, ⟨⟨some 43, .faddr 1 (.t 2), none⟩, 10, 0, []⟩, ⟨⟨some 45, .mv (.t 1), none⟩, 12, 0, []⟩, ⟨⟨some 34, .load false 1 (.t 33), none⟩, 1, 1, []⟩, ⟨⟨some 36, .bin .shl (.t 34) (.t 35), none⟩, 3, 7, []⟩, ⟨⟨some 38, .load false 1 (.t 37), none⟩, 5, 16, []⟩, ⟨⟨some 41, .bin .shr (.t 38) (.t 40), none⟩, 8, 240, []⟩, ⟨⟨some 42, .bin .or (.t 36) (.t 41), none⟩, 9, 511, []⟩, ⟨⟨some 44, .load false 1 (.t 43), none⟩, 11, 1024, []⟩, ⟨⟨some 46, .bin .shl (.t 44) (.t 45), none⟩, 13, 7168, []⟩, ⟨⟨some 47, .build [.int .u64 0, .int .u64 0] [(0, 1, .t 42), (1, 1, .t 46)], none⟩, 14, 16383, []⟩, ⟨⟨none, .store 2 false (.t 4) (.t 47), none⟩, 15, 32767, []⟩] [4])
 (.ret)))
def f1140 : VFunc := ⟨false, [.cell 4 true 2], b1140, none⟩

/-- shunter/word.Shr -/
def b1141 : VCode := .seq (.reg [⟨some 2, .box (.t 0), none⟩, ⟨some 4, .alloc (.agg [.int .u64 0, .int .u64 0]), none⟩] [1, 2, 4])
 (.seq (.blk 0 (.seq (.reg [⟨some 6, .mv (.t 1), none⟩, ⟨some 7, .bin .leq (.t 6) (.c (.int .i64 (-128))), none⟩, ⟨some 8, .mv (.t 7), none⟩, ⟨some 9, .mv (.t 1), (some (8, false))⟩, ⟨some 10, .bin .geq (.t 9) (.c (.int .i64 128)), (some (8, false))⟩, ⟨some 11, .pick (.t 8) (.c (.bool true)) (.t 10), none⟩, ⟨some 5, .mv (.t 11), none⟩] [1, 2, 4, 5])
 (.cond (.t 5) (.seq (.reg [⟨some 12, .build [.int .u64 0, .int .u64 0] [], none⟩, ⟨none, .store 2 false (.t 4) (.t 12), none⟩] [4])
 (.ret))
 (.seq (.reg [⟨some 14, .mv (.t 1), none⟩, ⟨some 15, .bin .lss (.t 14) (.c (.int .i64 0)), none⟩, ⟨some 13, .mv (.t 15), none⟩] [1, 2, 4, 13])
 (.cond (.t 13) (.seq (.reg [⟨some 16, .load true 2 (.t 2), none⟩, ⟨some 17, .mv (.t 1), none⟩, ⟨some 18, .un .neg (.t 17), none⟩, ⟨some 19, .call 1140 [.t 16, .t 18], none⟩, ⟨none, .store 2 false (.t 4) (.t 19), none⟩] [4])
 (.ret))
 (.seq (.reg [⟨some 21, .mv (.t 1), none⟩, ⟨some 22, .bin .eql (.t 21) (.c (.int .i64 0)), none⟩, ⟨some 20, .mv (.t 22), none⟩] [1, 2, 4, 20])
 (.cond (.t 20) (.seq (.reg [⟨some 23, .load true 2 (.t 2), none⟩, ⟨none, .store 2 false (.t 4) (.t 23), none⟩] [4])
 (.ret))
 (.seq (.reg [⟨some 25, .mv (.t 1), none⟩, ⟨some 26, .bin .geq (.t 25) (.c (.int .i64 64)), none⟩, ⟨some 24, .mv (.t 26), none⟩] [1, 2, 4, 24])
 (.cond (.t 24) (.seq (.reg [⟨some 27, .faddr 0 (.t 2), none⟩, ⟨some 28, .load false 1 (.t 27), none⟩, ⟨some 29, .mv (.t 1), none⟩, ⟨some 30, .bin .sub (.t 29) (.c (.int .i64 64)), none⟩, ⟨some 31, .bin .shr (.t 28) (.t 30), none⟩, ⟨some 32, .build [.int .u64 0, .int .u64 0] [(0, 1, .c (.int .u64 0)), (1, 1, .t 31)], none⟩, ⟨none, .store 2 false (.t 4) (.t 32), none⟩] [4])
 (.ret))
 (.skip))))))))))
 (.seq (.drw [⟨⟨some 33, .faddr 0 (.t 2), none⟩, 0, 0, []⟩, ⟨⟨some 35, .mv (.t 1), none⟩, 2, 0, []⟩, ⟨⟨some 37, .faddr 1 (.t 2), none⟩, 4, 0, []⟩, ⟨⟨some 39, .mv (.t 1), none⟩, 6, 0, []⟩, ⟨⟨some 41, .faddr 0 (.t 2), none⟩, 8, 0, []⟩, ⟨⟨some 43, .mv (.t 1), none⟩, 10, 0, []⟩, ⟨⟨some 44, .bin .sub (.c (.int .i64 64)) (.t 43), none⟩, 11, 1024, []⟩, ⟨⟨some 34, .load false 1 (.t 33), none⟩, 1, 1, []⟩, ⟨⟨some 36, .bin .shr (.t 34) (.t 35), none⟩, 3, 7, []⟩, ⟨⟨some 38, .load false 1 (.t 37), none⟩, 5, 16, []⟩, ⟨⟨some 40, .bin .shr (.t 38) (.t 39), none⟩, 7, 112, []⟩, ⟨⟨some 42, .load false 1 (.t 41), none⟩, 9, 256, []⟩, ⟨⟨some 45, .bin .shl (.t 42) (.t 44), none⟩, 12, 3840, []⟩, ⟨⟨some 46, .bin .or (.t 40) (.t 45), none⟩, 13, 8176, []⟩, ⟨⟨some 47, .build [.int .u64 0, .int .u64 0] [(0, 1, .t 36), (1, 1, .t 46)], none⟩, 14, 16383, []⟩, ⟨⟨none, .store 2 false (.t 4) (.t 47), none⟩, 15, 32767, []⟩] [4])
 (.ret)))
def f1141 : VFunc := ⟨false, [.cell 4 true 2], b1141, none⟩

/-- shunter/word.Sub -/
def b1142 : VCode := .seq (.reg [⟨some 2, .box (.t 0), none⟩, ⟨some 3, .box (.t 1), none⟩, ⟨some 4, .alloc (.agg [.int .u64 0, .int .u64 0]), none⟩, ⟨some 5, .mv (.c (.bool false)), none⟩] [2, 3, 4])
 (.seq (.reg [⟨some 11, .faddr 1 (.t 2), none⟩, ⟨some 12, .load false 1 (.t 11), none⟩, ⟨some 13, .faddr 1 (.t 3), none⟩, ⟨some 14, .load false 1 (.t 13), none⟩, ⟨some 15, .call 378 [.t 12, .t 14, .c (.int .u64 0)], none⟩, ⟨some 10, .mv (.t 15), none⟩, ⟨some 16, .ext (.t 10) 0, none⟩, ⟨some 17, .ext (.t 10) 1, none⟩, ⟨some 6, .mv (.t 16), none⟩, ⟨some 7, .mv (.t 17), none⟩] [2, 3, 4, 6, 7])
 (.seq (.reg [⟨some 19, .faddr 0 (.t 2), none⟩, ⟨some 20, .load false 1 (.t 19), none⟩, ⟨some 21, .faddr 0 (.t 3), none⟩, ⟨some 22, .load false 1 (.t 21), none⟩, ⟨some 23, .mv (.t 7), none⟩, ⟨some 24, .call 378 [.t 20, .t 22, .t 23], none⟩, ⟨some 18, .mv (.t 24), none⟩, ⟨some 25, .ext (.t 18) 0, none⟩, ⟨some 26, .ext (.t 18) 1, none⟩, ⟨some 8, .mv (.t 25), none⟩, ⟨some 9, .mv (.t 26), none⟩] [4, 6, 8, 9])
 (.seq (.reg [⟨some 27, .mv (.t 8), none⟩, ⟨some 28, .mv (.t 6), none⟩, ⟨some 29, .build [.int .u64 0, .int .u64 0] [(0, 1, .t 27), (1, 1, .t 28)], none⟩, ⟨some 30, .mv (.t 9), none⟩, ⟨some 31, .bin .gtr (.t 30) (.c (.int .u64 0)), none⟩, ⟨none, .store 2 false (.t 4) (.t 29), none⟩, ⟨some 5, .mv (.t 31), none⟩] [4, 5])
 (.ret))))
def f1142 : VFunc := ⟨false, [.cell 4 true 2, .tmp 5], b1142, none⟩

/-- slices.Contains[[]int,int] -/
def b1169 : VCode := .seq (.reg [⟨some 4, .mv (.c (.bool false)), none⟩] [0, 1])
 (.seq (.reg [⟨some 5, .mv (.t 0), none⟩, ⟨some 6, .mv (.t 1), none⟩, ⟨some 7, .call 1204 [.t 5, .t 6], none⟩, ⟨some 8, .bin .geq (.t 7) (.c (.int .i64 0)), none⟩, ⟨some 4, .mv (.t 8), none⟩] [4])
 (.ret))
def f1169 : VFunc := ⟨false, [.tmp 4], b1169, none⟩

def l1203_0 : VCode := .seq (.reg [⟨some 9, .bin .lss (.t 8) (.t 7), none⟩] [0, 1, 7, 8, 9])
 (.seq (.cond (.t 9) (.skip)
 (.exit 0))
 (.seq (.blk 1 (.seq (.reg [⟨some 10, .mv (.t 8), none⟩, ⟨some 5, .mv (.t 10), none⟩] [0, 1, 5, 7, 8])
 (.seq (.reg [⟨some 11, .mv (.t 1), none⟩, ⟨some 12, .mv (.t 0), none⟩, ⟨some 13, .mv (.t 5), none⟩, ⟨some 14, .iaddr 1 (.t 12) (.t 13), none⟩, ⟨some 15, .load false 1 (.t 14), none⟩, ⟨some 16, .calld true (.t 11) [.t 15], none⟩] [0, 1, 5, 7, 8, 16])
 (.cond (.t 16) (.seq (.reg [⟨some 17, .mv (.t 5), none⟩, ⟨some 4, .mv (.t 17), none⟩] [4])
 (.ret))
 (.skip)))))
 (.reg [⟨some 18, .bin .add (.t 8) (.c (.int .i64 1)), none⟩, ⟨some 8, .mv (.t 18), none⟩] [0, 1, 7, 8])))
def L1203_0 : VCode := l1203_0
/-- slices.IndexFunc[[]string,string] -/
def b1203 : VCode := .seq (.reg [⟨some 4, .mv (.c (.int .i64 0)), none⟩] [0, 1])
 (.seq (.seq (.reg [⟨some 6, .mv (.t 0), none⟩, ⟨some 7, .len false (.t 6), none⟩, ⟨some 8, .mv (.c (.int .i64 0)), none⟩] [0, 1, 7, 8])
 (.blk 0 (.loop [0, 1, 7, 8] (L1203_0))))
 (.seq (.reg [⟨some 4, .mv (.c (.int .i64 (-1))), none⟩] [4])
 (.ret)))
def f1203 : VFunc := ⟨false, [.tmp 4], b1203, none⟩

def l1204_0 : VCode := .seq (.reg [⟨some 9, .bin .lss (.t 8) (.t 7), none⟩] [0, 1, 7, 8, 9])
 (.seq (.cond (.t 9) (.skip)
 (.exit 0))
 (.seq (.blk 1 (.seq (.reg [⟨some 10, .mv (.t 8), none⟩, ⟨some 5, .mv (.t 10), none⟩] [0, 1, 5, 7, 8])
 (.seq (.reg [⟨some 11, .mv (.t 1), none⟩, ⟨some 12, .mv (.t 0), none⟩, ⟨some 13, .mv (.t 5), none⟩, ⟨some 14, .iaddr 1 (.t 12) (.t 13), none⟩, ⟨some 15, .load false 1 (.t 14), none⟩, ⟨some 16, .bin .eql (.t 11) (.t 15), none⟩] [0, 1, 5, 7, 8, 16])
 (.cond (.t 16) (.seq (.reg [⟨some 17, .mv (.t 5), none⟩, ⟨some 4, .mv (.t 17), none⟩] [4])
 (.ret))
 (.skip)))))
 (.reg [⟨some 18, .bin .add (.t 8) (.c (.int .i64 1)), none⟩, ⟨some 8, .mv (.t 18), none⟩] [0, 1, 7, 8])))
def L1204_0 : VCode := l1204_0
/-- slices.Index[[]int,int] -/
def b1204 : VCode := .seq (.reg [⟨some 4, .mv (.c (.int .i64 0)), none⟩] [0, 1])
 (.seq (.seq (.reg [⟨some 6, .mv (.t 0), none⟩, ⟨some 7, .len false (.t 6), none⟩, ⟨some 8, .mv (.c (.int .i64 0)), none⟩] [0, 1, 7, 8])
 (.blk 0 (.loop [0, 1, 7, 8] (L1204_0))))
 (.seq (.reg [⟨some 4, .mv (.c (.int .i64 (-1))), none⟩] [4])
 (.ret)))
def f1204 : VFunc := ⟨false, [.tmp 4], b1204, none⟩


end Go.VE.Un
