/- The texts of functions, for the evaluator: printed by a program. -/
import Derived.Test.YtlekfkibeafdiaaGreatVb0
namespace Go.VE.Un
open Go.VE.Tx
set_option maxRecDepth 100000
def Zb5:Zd:=sr [bt 34 .lss 33 32] [2,5,31,32,33,34]
 (wh 34 0
 (.seq (.blk 1 (sr [ia 35 1 31 33,ld 36 35,mv 8 36] [2,5,8,31,32,33]
 (sr [mv 37 8,cl 38 522 [.t 37,.c (.int .i64 1),.c (.int .i64 128)],nt 39 38] [2,5,31,32,33,39]
 (cr 39 [mi 4 9] [4]))))
 (.reg [bi 40 .add 33 1,mv 33 40] [2,5,31,32,33])))
def ZfV:Zd:=Zb5
def b109:Zd:=sr [bx 2 0,mi 4 0] [1,2]
 (sr [ld 9 2,nk 10 9,fa 11 0 10,fa 12 5 11,ld 13 12,mv 14 1,ia 15 3 13 14,la 16 3 15,al 5 (.agg [.str [],.sl 1 [] .nl,.sl 6 [] .nl]),i0 (.store 3 true (.t 5) (.t 16))] [1,2,5]
 (.seq (sd [E (mv 17 1) 0,D (it 18 (.mkfn 110 [] [.t 2])) 1 0,D (fa 20 1 5) 3 0,D (ld 21 20) 4 8,D (ln 22 21) 5 24,D (bi 23 .leq 22 8) 6 56,E (ct 19 520 [17,18]) 2,E (cl 24 521 [.t 23,.c (.int .i64 2)]) 7,E (it 25 (.buildSl 1 [.t 19,.t 24])) 8,E (ct 26 507 [25]) 9,E (mv 6 26) 10] [2,5,6]
 (sr [mv 27 6,bi 28 .neq 27 0] [2,5,6,28]
 (cr 28 [mv 29 6,mv 4 29] [4])))
 (.seq (sr [fa 30 1 5,ld 31 30,ln 32 31,mi 33 0] [2,5,31,32,33]
 (.blk 0 (.loop [2,5,31,32,33] (ZfV))))
 (rt [ld 41 2,fa 42 2 5,ld 43 42,fa 44 1 5,ld 45 44,ct 46 114 [41,43,45],mv 4 46] [4]))))
def f109:Zi:=⟨false,[.tmp 4],b109,none,false⟩
def b110:Zd:=sr [mc 3 (.str [])] [0,1]
 (rt [ld 4 1,nk 5 4,fa 6 0 5,fa 7 5 6,ld 8 7,mv 9 0,ia 10 3 8 9,fa 11 0 10,ld 12 11,mv 3 12] [3])
def f110:Zi:=⟨false,[.tmp 3],b110,none,false⟩
def Zdk:Zd:=sr [bt 27 .lss 26 25] [7,24,25,26,27]
 (wh 27 0
 (.seq (.blk 1 (sr [mv 28 26,ia 29 3 24 26,la 30 3 29,al 9 (.agg [.int .i64 0,.int .u64 0,.int .u64 0]),mv 8 28,st 3 9 30] [7,8,9,24,25,26]
 (sd [E (la 31 3 9) 0,E (ct 32 1090 [31]) 1,E (nt 33 32) 2,E (mv 34 33) 3,E (Gf 34 (fa 35 0 9)) 4,D (Gf 34 (mv 37 7)) 6 15,D (Gf 34 (mv 38 8)) 7 15,D (Gf 34 (ia 39 1 37 38)) 8 207,E (Gf 34 (ld 36 35)) 5,D (Gf 34 (ld 40 39)) 9 463,E (Gf 34 (bt 41 .neq 36 40)) 10,E (po 42 34 41) 11] [7,24,25,26,42]
 (cr 42 [mi 6 9] [6]))))
 (.reg [bi 43 .add 26 1,mv 26 43] [7,24,25,26])))
def ZgU:Zd:=Zdk
def b111:Zd:=sr [mi 6 0] [0,1,2]
 (sr [mv 10 0,nk 11 10,fa 12 0 11,fa 13 5 12,ld 14 13,mv 15 1,ia 16 3 14 15,fa 17 1 16,ld 18 17,mv 7 18] [2,7]
 (.seq (sr [mv 19 2,ln 20 19,mv 21 7,ln 22 21,bt 23 .neq 20 22] [2,7,23]
 (cr 23 [mi 6 2] [6]))
 (.seq (sr [mv 24 2,ln 25 24,mi 26 0] [7,24,25,26]
 (.blk 0 (.loop [7,24,25,26] (ZgU))))
 (rt [mi 6 0] [6]))))
def f111:Zi:=⟨false,[.tmp 6],b111,none,false⟩
def ZdD:Zd:=sr [bt 13 .lss 12 11] [0,1,10,11,12,13]
 (wh 13 0
 (.seq (.blk 1 (sr [mv 14 12,ia 15 1 10 12,ld 16 15,mv 5 14,mv 6 16] [0,1,5,6,10,11,12]
 (.blk 2 (sr [mv 18 6,mv 19 0,nk 20 19,fa 21 0 20,fa 22 5 21,ld 23 22,ln 24 23,bi 25 .sub 24 1,cl 26 522 [.t 18,.c (.int .i64 0),.t 25],nt 27 26,mv 17 27] [0,1,5,6,10,11,12,17]
 (.cond (.t 17) (rt [mi 4 5] [4])
 (sr [mv 29 1,mv 30 5,it 31 (.slice 1 (.t 29) none (some (.t 30)) none),mv 32 6,ct 33 1169 [31,32],mv 28 33] [0,1,10,11,12,28]
 (cr 28 [mi 4 6] [4])))))))
 (.reg [bi 34 .add 12 1,mv 12 34] [0,1,10,11,12])))
def Zh1:Zd:=ZdD
def b112:Zd:=sr [mi 4 0] [0,1]
 (.seq (sr [mv 7 1,ln 8 7,bi 9 .gtr 8 8] [0,1,9]
 (cr 9 [mi 4 2] [4]))
 (.seq (sr [mv 10 1,ln 11 10,mi 12 0] [0,1,10,11,12]
 (.blk 0 (.loop [0,1,10,11,12] (Zh1))))
 (rt [mv 35 1,ln 36 35,bi 37 .gtr 36 0,cl 38 521 [.t 37,.c (.int .i64 5)],mv 4 38] [4])))
def f112:Zi:=⟨false,[.tmp 4],b112,none,false⟩
def b113:Zd:=sr [bx 4 1,mc 6 (.bool false)] [0,2,4]
 (.seq (sr [fa 9 0 4,ld 10 9] [0,2,4,10]
 (.blk 0 (.seq (sr [bi 12 .eql 10 2,mv 11 12] [0,2,4,10,11]
 (.cond (.t 11) (.skip)
 (.reg [bi 13 .eql 10 23,mv 11 13] [0,2,4,10,11])))
 (.cond (.t 11) (sd [E (mv 15 0) 0,E (nk 16 15) 1,E (fa 17 0 16) 2,D (fa 19 1 4) 4 0,E (la 18 18 17) 3,D (ld 20 19) 5 16,E (ct 21 491 [18,20]) 6,E (mv 14 21) 7,E (ex 22 14 0) 8,D (ex 23 14 1) 9 255,D (mv 7 22) 10 511,E (mv 8 23) 11] [8]
 (rt [mv 24 8,mv 6 24] [6]))
 (sr [bi 26 .eql 10 3,mv 25 26] [0,2,4,10,25]
 (.cond (.t 25) (rt [fa 27 1 4,ld 28 27,mv 29 2,bt 30 .lss 28 29,mv 6 30] [6])
 (.seq (sr [bi 32 .eql 10 5,mv 31 32] [0,4,10,31]
 (.cond (.t 31) (.skip)
 (.reg [bi 33 .eql 10 24,mv 31 33] [0,4,10,31])))
 (.cond (.t 31) (sd [E (fa 34 1 4) 0,D (mv 36 0) 2 0,D (nk 37 36) 3 4,D (fa 38 0 37) 4 12,D (fa 39 12 38) 5 28,E (ld 35 34) 1,D (ld 40 39) 6 60,D (ln 41 40) 7 124,E (bt 42 .lss 35 41) 8,E (mv 6 42) 9] [6]
 (.ret))
 (sr [bi 44 .eql 10 29,mv 43 44] [0,4,43]
 (.cond (.t 43) (sd [E (fa 45 1 4) 0,D (mv 47 0) 2 0,D (nk 48 47) 3 4,D (fa 49 0 48) 4 12,D (fa 50 13 49) 5 28,E (ld 46 45) 1,D (ld 51 50) 6 60,D (ln 52 51) 7 124,E (bt 53 .lss 46 52) 8,E (mv 6 53) 9] [6]
 (.ret))
 (.skip)))))))))))
 (sd [E (fa 54 1 4) 0,D (mv 56 0) 2 0,D (nk 57 56) 3 4,D (fa 58 0 57) 4 12,D (fa 59 14 58) 5 28,E (ld 55 54) 1,D (ld 60 59) 6 60,D (ln 61 60) 7 124,E (bt 62 .lss 55 61) 8,E (mv 6 62) 9] [6]
 (.ret)))
def f113:Zi:=⟨false,[.tmp 6],b113,none,false⟩
def Zdv:Zd:=sr [bt 26 .lss 25 24] [0,1,2,23,24,25,26]
 (wh 26 0
 (.seq (.blk 1 (sr [mv 27 25,ia 28 1 23 25,ld 29 28,mv 10 27,mv 11 29] [0,1,2,10,11,23,24,25]
 (.seq (sr [mv 30 0,mv 31 11,mv 32 2,ct 33 134 [30,31,32],nt 34 33] [0,1,2,10,11,23,24,25,34]
 (cr 34 [mi 6 5] [6]))
 (sr [mv 36 11,ct 37 427 [36],mv 35 37,ex 38 35 0,ex 39 35 1,mv 12 38,mv 13 39] [0,1,2,10,12,13,23,24,25]
 (sr [mv 40 13,mv 41 40,Gt 41 (mv 42 12),Gt 41 (mv 43 10),Gt 41 (bi 44 .add 43 1),Gt 41 (mv 45 1),Gt 41 (ln 46 45),Gt 41 (ct 47 522 [42,44,46]),Gt 41 (nt 48 47),pa 49 41 48] [0,1,2,23,24,25,49]
 (cr 49 [mi 6 12] [6]))))))
 (.reg [bi 50 .add 25 1,mv 25 50] [0,1,2,23,24,25])))
def ZhA:Zd:=Zdv
def b114:Zd:=sr [mi 6 0] [0,1,2]
 (sr [mv 15 1,ct 16 422 [15],mv 14 16,ex 17 14 0,ex 18 14 1,ex 19 14 2,mv 7 17,mv 8 18,mv 9 19] [0,1,2,7,9]
 (.seq (sr [mv 20 9,bi 21 .neq 20 0] [0,1,2,7,9,21]
 (cr 21 [mv 22 9,mv 6 22] [6]))
 (.seq (sr [mv 23 7,ln 24 23,mi 25 0] [0,1,2,23,24,25]
 (.blk 0 (.loop [0,1,2,23,24,25] (ZhA))))
 (rt [mi 6 0] [6]))))
def f114:Zi:=⟨false,[.tmp 6],b114,none,false⟩
def b115:Zd:=sr [bx 2 0,mi 4 0] [1,2]
 (sd [E (mv 5 1) 0,D (it 6 (.mkfn 116 [] [.t 2])) 1 0,D (mv 13 1) 8 0,D (ld 8 2) 3 0,D (nk 9 8) 4 8,D (fa 10 0 9) 5 24,D (fa 11 13 10) 6 56,D (ld 12 11) 7 120,D (ia 14 2 12 13) 9 504,D (fa 15 1 14) 10 1016,D (ld 16 15) 11 2040,E (ct 7 520 [5,6]) 2,E (ct 17 509 [16]) 12,E (it 18 (.buildSl 1 [.t 7,.t 17])) 13,E (ct 19 507 [18]) 14,E (mv 4 19) 15] [4]
 (.ret))
def f115:Zi:=⟨false,[.tmp 4],b115,none,false⟩
def b116:Zd:=sr [mc 3 (.str [])] [0,1]
 (rt [ld 4 1,nk 5 4,fa 6 0 5,fa 7 13 6,ld 8 7,mv 9 0,ia 10 2 8 9,fa 11 0 10,ld 12 11,mv 3 12] [3])
def f116:Zi:=⟨false,[.tmp 3],b116,none,false⟩
def b117:Zd:=sr [bx 3 1,mi 4 0] [0,3]
 (.seq (sr [fa 10 0 3,ld 11 10] [0,3,11]
 (.blk 0 (sr [bi 13 .eql 11 0,mv 12 13] [0,3,11,12]
 (.cond (.t 12) (sr [mv 15 0,fa 16 1 3,ld 17 16,ct 18 120 [15,17],mv 14 18,ex 19 14 0,ex 20 14 1,mv 5 19,mv 6 20] [0,5,6]
 (rt [mv 21 6,mv 22 21,Gt 22 (mv 23 0),Gt 22 (nk 24 23),Gt 22 (fa 25 0 24),Gt 22 (fa 26 2 25),Gt 22 (ld 27 26),Gt 22 (mv 28 5),Gt 22 (ia 29 3 27 28),Gt 22 (fa 30 2 29),Gt 22 (ld 31 30),Gt 22 (bi 32 .eql 31 0),pa 33 22 32,cl 34 521 [.t 33,.c (.int .i64 5)],mv 4 34] [4]))
 (sr [bi 36 .eql 11 1,mv 35 36] [0,3,11,35]
 (.cond (.t 35) (sd [E (mv 38 0) 0,E (nk 39 38) 1,E (fa 40 0 39) 2,D (fa 42 1 3) 4 0,E (la 41 18 40) 3,D (ld 43 42) 5 16,E (ct 44 494 [41,43]) 6,E (mv 37 44) 7,E (ex 45 37 0) 8,D (ex 46 37 1) 9 255,D (ex 47 37 2) 10 255,D (mv 7 45) 11 511,D (mv 8 46) 12 3071,E (mv 9 47) 13] [9]
 (rt [mv 48 9,cl 49 521 [.t 48,.c (.int .i64 5)],mv 4 49] [4]))
 (sr [bi 51 .eql 11 2,mv 50 51] [3,50]
 (cr 50 [fa 52 1 3,ld 53 52,cl 54 522 [.t 53,.c (.int .i64 1),.c (.int .i64 64)],cl 55 521 [.t 54,.c (.int .i64 7)],mv 4 55] [4]))))))))
 (rt [mi 4 10] [4]))
def f117:Zi:=⟨false,[.tmp 4],b117,none,false⟩
def b118:Zd:=sr [bx 2 0,mi 4 0] [1,2]
 (.seq (sr [ld 6 2,nk 7 6,fa 8 0 7,fa 9 1 8,ld 10 9,mv 11 1,ia 12 6 10 11,la 13 6 12,ct 14 641 [13],mv 5 14] [1,2,5]
 (sr [mv 15 5,bi 16 .neq 15 0] [1,2,5,16]
 (cr 16 [mv 17 5,mv 4 17] [4])))
 (rt [mv 18 1,it 19 (.mkfn 119 [] [.t 2]),ct 20 520 [18,19],mv 4 20] [4]))
def f118:Zi:=⟨false,[.tmp 4],b118,none,false⟩
def b119:Zd:=sr [mc 3 (.str [])] [0,1]
 (rt [ld 4 1,nk 5 4,fa 6 0 5,fa 7 1 6,ld 8 7,mv 9 0,ia 10 6 8 9,fa 11 0 10,ld 12 11,mv 3 12] [3])
def f119:Zi:=⟨false,[.tmp 3],b119,none,false⟩
def ZcF:Zd:=sr [bt 29 .lss 28 27] [1,8,26,27,28,29]
 (wh 29 0
 (.seq (.blk 1 (sr [mv 30 28,ia 31 3 26 28,la 32 3 31,al 10 (.agg [.str [],.int .i64 0,.int .i64 0]),mv 9 30,st 3 10 32] [1,8,9,10,26,27,28]
 (sr [mv 33 8,fa 34 2 10,ld 35 34,it 36 (.mx [.t 35,.c (.int .i64 1)]),bt 37 .add 33 36,mv 8 37] [1,8,9,26,27,28]
 (sr [mv 38 1,mv 39 8,bt 40 .lss 38 39] [1,8,9,26,27,28,40]
 (cr 40 [mv 41 9,mv 4 41,mc 5 (.bool true)] [4,5])))))
 (.reg [bi 42 .add 28 1,mv 28 42] [1,8,26,27,28])))
def Zgr:Zd:=ZcF
def b120:Zd:=sr [mi 4 0,mc 5 (.bool false)] [0,1]
 (.seq (sr [mv 12 0,nk 13 12,fa 14 0 13,la 15 18 14,mv 16 1,ct 17 493 [15,16],mv 11 17,ex 18 11 0,ex 19 11 1,al 6 (.agg [.str [],.sl 2 [] .nl,.int .i64 0,.int .i64 0,.int .i64 0,.int .i64 0]),i0 (.store 6 true (.t 6) (.t 18)),mv 7 19] [0,1,7]
 (sr [mv 20 7,nt 21 20] [0,1,21]
 (cr 21 [mi 4 0,mc 5 (.bool false)] [4,5])))
 (sr [mi 8 0] [0,1,8]
 (.seq (sr [mv 22 0,nk 23 22,fa 24 0 23,fa 25 2 24,ld 26 25,ln 27 26,mi 28 0] [1,8,26,27,28]
 (.blk 0 (.loop [1,8,26,27,28] (Zgr))))
 (rt [mi 4 0,mc 5 (.bool false)] [4,5]))))
def f120:Zi:=⟨false,[.tmp 4,.tmp 5],b120,none,false⟩
def Zde:Zd:=sr [bt 19 .lss 18 17] [0,1,2,16,17,18,19]
 (wh 19 0
 (.seq (.blk 1 (sr [ia 20 3 16 18,la 21 3 20,al 8 (.agg [.int .i64 0,.int .i64 0,.int .i64 0]),st 3 8 21] [0,1,2,8,16,17,18]
 (sd [E (mv 23 0) 0,E (nk 24 23) 1,E (fa 25 0 24) 2,E (la 26 18 25) 3,D (la 27 3 8) 4 0,E (ct 28 510 [26,27]) 5,E (mv 22 28) 6,E (ex 29 22 0) 7,D (ex 30 22 1) 8 127,D (mv 9 29) 9 255,E (mv 10 30) 10] [0,1,2,8,10,16,17,18]
 (.blk 2 (sr [fa 32 0 8,ld 33 32,cl 34 522 [.t 33,.c (.int .i64 0),.c (.int .i64 2)],nt 35 34,mv 36 35,Gf 36 (fa 37 0 8),Gf 36 (ld 38 37),Gf 36 (bi 39 .eql 38 2),Gf 36 (mv 40 39),Gt 40 (mv 41 2),Gt 40 (nt 42 41),Gf 36 (pa 43 40 42),po 44 36 43,mv 31 44] [0,1,2,8,10,16,17,18,31]
 (.cond (.t 31) (rt [mi 6 10] [6])
 (sr [mv 46 10,nt 47 46,mv 48 47,Gt 48 (fa 49 0 8),Gt 48 (ld 50 49),Gt 48 (bi 51 .eql 50 2),pa 52 48 51,mv 53 52,Gf 53 (fa 54 0 8),Gf 53 (ld 55 54),Gf 53 (bi 56 .eql 55 1),Gf 53 (mv 57 56),Gt 57 (mv 58 10),Gf 53 (pa 59 57 58),Gf 53 (mv 60 59),Gt 60 (fa 61 2 8),Gt 60 (ld 62 61),Gt 60 (bi 63 .neq 62 0),Gf 53 (pa 64 60 63),po 65 53 64,mv 45 65] [0,1,2,10,16,17,18,45]
 (.cond (.t 45) (rt [mi 6 7] [6])
 (sr [mv 67 10,nt 68 67,mv 66 68] [0,1,2,16,17,18,66]
 (cr 66 [mi 6 5] [6]))))))))))
 (.reg [bi 69 .add 18 1,mv 18 69] [0,1,2,16,17,18])))
def Zgj:Zd:=Zde
def b121:Zd:=sr [mi 6 0] [0,1,2]
 (.seq (sr [mv 13 1,ln 14 13,bi 15 .gtr 14 4] [0,1,2,15]
 (cr 15 [mi 6 2] [6]))
 (.seq (sr [mv 16 1,ln 17 16,mi 18 0] [0,1,2,16,17,18]
 (.blk 0 (.loop [0,1,2,16,17,18] (Zgj))))
 (sr [mv 71 0,nk 72 71,fa 73 0 72,la 74 18 73,mv 75 1,ct 76 490 [74,75],mv 70 76,ex 77 70 0,ex 78 70 1,mv 11 77,mv 12 78] [12]
 (rt [mv 79 12,cl 80 521 [.t 79,.c (.int .i64 9)],mv 6 80] [6]))))
def f121:Zi:=⟨false,[.tmp 6],b121,none,false⟩
def b122:Zd:=sr [bx 2 0,mi 4 0] [1,2]
 (sd [E (mv 5 1) 0,D (it 6 (.mkfn 123 [] [.t 2])) 1 0,D (mv 13 1) 8 0,D (ld 8 2) 3 0,D (nk 9 8) 4 8,D (fa 10 0 9) 5 24,D (fa 11 3 10) 6 56,D (ld 12 11) 7 120,D (ia 14 2 12 13) 9 504,D (fa 15 1 14) 10 1016,D (ld 16 15) 11 2040,E (ct 7 520 [5,6]) 2,E (cl 17 522 [.t 16,.c (.int .i64 1),.c (.int .i64 128)]) 12,E (cl 18 521 [.t 17,.c (.int .i64 9)]) 13,E (it 19 (.buildSl 1 [.t 7,.t 18])) 14,E (ct 20 507 [19]) 15,E (mv 4 20) 16] [4]
 (.ret))
def f122:Zi:=⟨false,[.tmp 4],b122,none,false⟩
def b123:Zd:=sr [mc 3 (.str [])] [0,1]
 (rt [ld 4 1,nk 5 4,fa 6 0 5,fa 7 3 6,ld 8 7,mv 9 0,ia 10 2 8 9,fa 11 0 10,ld 12 11,mv 3 12] [3])
def f123:Zi:=⟨false,[.tmp 3],b123,none,false⟩
def b124:Zd:=sr [bx 2 0,mi 4 0] [1,2]
 (sr [ld 6 2,nk 7 6,fa 8 0 7,fa 9 14 8,ld 10 9,mv 11 1,ia 12 4 10 11,la 13 4 12,al 5 (.agg [.str [],.int .i64 0,.int .i64 0,.int .i64 0]),st 4 5 13] [1,2,5]
 (sd [E (mv 14 1) 0,D (it 15 (.mkfn 125 [] [.t 2])) 1 0,D (fa 17 1 5) 3 0,D (fa 20 2 5) 6 0,D (ld 18 17) 4 8,D (ld 21 20) 7 64,E (ct 16 520 [14,15]) 2,E (ct 19 509 [18]) 5,E (cl 22 522 [.t 21,.c (.int .i64 0),.c (.int .i64 65535)]) 8,E (mv 23 22) 9,E (Gt 23 (fa 24 3 5)) 10,E (Gt 23 (ld 25 24)) 11,E (Gt 23 (cl 26 522 [.t 25,.c (.int .i64 1),.c (.int .i64 1048576)])) 12,E (pa 27 23 26) 13,E (cl 28 521 [.t 27,.c (.int .i64 7)]) 14,E (it 29 (.buildSl 1 [.t 16,.t 19,.t 28])) 15,E (ct 30 507 [29]) 16,E (mv 4 30) 17] [4]
 (.ret)))
def f124:Zi:=⟨false,[.tmp 4],b124,none,false⟩
def b125:Zd:=sr [mc 3 (.str [])] [0,1]
 (rt [ld 4 1,nk 5 4,fa 6 0 5,fa 7 14 6,ld 8 7,mv 9 0,ia 10 4 8 9,fa 11 0 10,ld 12 11,mv 3 12] [3])
def f125:Zi:=⟨false,[.tmp 3],b125,none,false⟩
def b126:Zd:=sr [bx 3 1,mc 4 (.bool false)] [0,3]
 (.seq (sr [fa 7 0 3,ld 8 7] [0,3,8]
 (.blk 0 (sr [bi 10 .eql 8 0,mv 9 10] [0,3,8,9]
 (.cond (.t 9) (sd [E (fa 11 1 3) 0,D (mv 13 0) 2 0,D (nk 14 13) 3 4,D (fa 15 0 14) 4 12,D (fa 16 6 15) 5 28,E (ld 12 11) 1,D (ld 17 16) 6 60,D (ln 18 17) 7 124,D (bi 19 .sub 18 1) 8 252,E (cl 20 522 [.t 12,.c (.int .i64 0),.t 19]) 9,E (mv 4 20) 10] [4]
 (.ret))
 (sr [bi 22 .eql 8 2,mv 21 22] [0,3,8,21]
 (.cond (.t 21) (sd [E (fa 23 1 3) 0,D (mv 25 0) 2 0,D (nk 26 25) 3 4,D (fa 27 0 26) 4 12,D (fa 28 5 27) 5 28,E (ld 24 23) 1,D (ld 29 28) 6 60,D (ln 30 29) 7 124,D (bi 31 .sub 30 1) 8 252,E (cl 32 522 [.t 24,.c (.int .i64 0),.t 31]) 9,E (mv 4 32) 10] [4]
 (.ret))
 (sr [bi 34 .eql 8 1,mv 33 34] [0,3,33]
 (cr 33 [fa 35 1 3,ld 36 35,bi 37 .eql 36 0,mv 4 37] [4]))))))))
 (sd [E (mv 39 0) 0,E (nk 40 39) 1,E (fa 41 0 40) 2,D (fa 43 1 3) 4 0,E (la 42 18 41) 3,D (ld 44 43) 5 16,D (al 5 (.agg [.str [],.sl 2 [] .nl,.int .i64 0,.int .i64 0,.int .i64 0,.int .i64 0])) 10 0,E (ct 45 493 [42,44]) 6,E (mv 38 45) 7,E (ex 46 38 0) 8,D (ex 47 38 1) 9 255,D (i0 (.store 6 true (.t 5) (.t 46))) 11 1535,E (mv 6 47) 12] [6]
 (rt [mv 48 6,mv 4 48] [4])))
def f126:Zi:=⟨false,[.tmp 4],b126,none,false⟩
def b127:Zd:=sr [mi 4 0] [0,1]
 (rt [mv 5 1,mv 6 0,nk 7 6,fa 8 0 7,fa 9 4 8,ld 10 9,ln 11 10,bi 12 .sub 11 1,cl 13 522 [.t 5,.c (.int .i64 0),.t 12],mv 14 13,Gf 14 (mv 15 1),Gf 14 (bi 16 .eql 15 (-1)),po 17 14 16,mv 18 17,Gf 18 (mv 19 1),Gf 18 (bi 20 .eql 19 (-2)),po 21 18 20,cl 22 521 [.t 21,.c (.int .i64 5)],mv 4 22] [4])
def f127:Zi:=⟨false,[.tmp 4],b127,none,false⟩
def b128:Zd:=sr [bx 5 1,mi 8 0] [0,2,3,5]
 (sd [E (fa 10 0 5) 0,D (mv 14 0) 4 0,E (ld 11 10) 1,D (la 15 6 5) 5 0,E (cl 12 522 [.t 11,.c (.int .i64 0),.c (.int .i64 3)]) 2,E (cl 13 521 [.t 12,.c (.int .i64 10)]) 3,E (ct 16 126 [14,15]) 6,E (cl 17 521 [.t 16,.c (.int .i64 5)]) 7,E (it 18 (.buildSl 1 [.t 13,.t 17])) 8,E (ct 19 507 [18]) 9,E (mv 9 19) 10] [0,2,3,5,9]
 (.seq (sr [mv 20 9,bi 21 .neq 20 0] [0,2,3,5,9,21]
 (cr 21 [mv 22 9,mv 8 22] [8]))
 (.seq (sr [fa 23 0 5,ld 24 23,bi 25 .eql 24 1] [0,2,3,5,25]
 (.cond (.t 25) (.reg [mv 26 0,fa 27 2 5,ld 28 27,cl 29 114 [.t 26,.t 28,.c (.sl 1 [] .nl)],mv 9 29] [0,2,3,5,9])
 (.reg [fa 30 2 5,ld 31 30,ln 32 31,bi 33 .eql 32 0,cl 34 521 [.t 33,.c (.int .i64 4)],mv 9 34] [0,2,3,5,9])))
 (.seq (sr [mv 35 9,bi 36 .neq 35 0] [0,2,3,5,9,36]
 (cr 36 [mv 37 9,mv 8 37] [8]))
 (.seq (sr [fa 38 0 5,ld 39 38,bi 40 .eql 39 2] [0,2,3,5,40]
 (.cond (.t 40) (.drw [E (mv 41 0) 0,D (fa 42 1 5) 1 0,D (fa 44 3 5) 3 0,D (fa 47 5 5) 6 0,D (ld 43 42) 2 2,D (ld 45 44) 4 8,D (ld 48 47) 7 64,D (bi 49 .eql 48 0) 8 192,E (ct 46 111 [41,43,45]) 5,E (cl 50 521 [.t 49,.c (.int .i64 4)]) 9,E (it 51 (.buildSl 1 [.t 46,.t 50])) 10,E (ct 52 507 [51]) 11,E (mv 9 52) 12] [2,3,5,9])
 (.drw [E (fa 53 3 5) 0,D (fa 58 5 5) 5 0,D (mv 60 2) 7 0,D (bi 61 .add 60 1) 8 128,D (mv 62 3) 9 0,E (ld 54 53) 1,E (ln 55 54) 2,E (bi 56 .eql 55 0) 3,D (ld 59 58) 6 32,E (cl 57 521 [.t 56,.c (.int .i64 4)]) 4,E (ct 63 522 [59,61,62]) 10,E (cl 64 521 [.t 63,.c (.int .i64 12)]) 11,E (it 65 (.buildSl 1 [.t 57,.t 64])) 12,E (ct 66 507 [65]) 13,E (mv 9 66) 14] [2,3,5,9])))
 (rt [mv 67 9,fa 68 4 5,ld 69 68,mv 70 2,bi 71 .add 70 1,mv 72 3,ct 73 522 [69,71,72],cl 74 521 [.t 73,.c (.int .i64 12)],it 75 (.buildSl 1 [.t 67,.t 74]),ct 76 507 [75],mv 8 76] [8]))))))
def f128:Zi:=⟨false,[.tmp 8],b128,none,false⟩
def b129:Zd:=sr [bx 2 0,bx 3 1,mi 4 0,mi 5 0] [2,3]
 (rt [ld 6 3,ln 7 6,it 8 (.mkfn 130 [] [.t 2,.t 3]),cl 9 501 [.t 7,.c (.int .i64 32),.t 8],ex 10 9 0,ex 11 9 1,mv 4 10,mv 5 11] [4,5])
def f129:Zi:=⟨false,[.tmp 4,.tmp 5],b129,none,false⟩
def b130:Zd:=sr [mi 4 0] [0,1,2]
 (sd [D (mv 7 0) 2 0,D (mv 10 0) 5 0,E (ld 5 1) 0,D (ld 6 2) 1 0,D (ia 8 6 6 7) 3 6,D (la 9 6 8) 4 14,D (ld 11 2) 6 0,D (ln 12 11) 7 64,E (ct 13 128 [5,9,10,12]) 8,E (mv 4 13) 9] [4]
 (.ret))
def f130:Zi:=⟨false,[.tmp 4],b130,none,false⟩
def b131:Zd:=sr [bx 4 1,mi 6 0] [0,2,4]
 (.seq (sr [fa 9 0 4,la 10 3 9,ct 11 1090 [10],nt 12 11,mv 13 12,Gf 13 (fa 14 3 4),Gf 13 (la 15 3 14),Gf 13 (ct 16 1090 [15]),Gf 13 (nt 17 16),po 18 13 17,mv 19 18,Gf 19 (fa 20 0 4),Gf 19 (fa 21 0 20),Gf 19 (ld 22 21),Gf 19 (mv 23 2),Gf 19 (bt 24 .neq 22 23),po 25 19 24,mv 26 25,Gf 26 (fa 27 3 4),Gf 26 (fa 28 0 27),Gf 26 (ld 29 28),Gf 26 (mv 30 2),Gf 26 (bt 31 .neq 29 30),po 32 26 31] [0,4,32]
 (cr 32 [mi 6 9] [6]))
 (sr [fa 34 0 4,la 35 3 34,fa 36 3 4,la 37 3 36,ct 38 1082 [35,37],mv 33 38,ex 39 33 0,ex 40 33 1,al 7 (.agg [.int .i64 0,.int .u64 0,.int .u64 0]),st 3 7 39,mv 8 40] [0,4,7]
 (sd [D (fa 42 0 4) 1 0,D (mv 46 0) 5 0,D (fa 47 6 4) 6 0,E (la 41 3 7) 0,D (la 43 3 42) 2 2,E (it 44 (.eq false (some [.i,.i,.i]) (.t 41) (.t 43))) 3,D (ld 48 47) 7 64,E (cl 45 521 [.t 44,.c (.int .i64 14)]) 4,E (ct 49 127 [46,48]) 8,E (it 50 (.buildSl 1 [.t 45,.t 49])) 9,E (ct 51 507 [50]) 10,E (mv 6 51) 11] [6]
 (.ret))))
def f131:Zi:=⟨false,[.tmp 6],b131,none,false⟩
def Zb3:Zd:=sr [bt 27 .lss 26 25] [0,1,6,7,25,26,27]
 (wh 27 0
 (.seq (.blk 1 (sr [mv 28 26,mv 8 28] [0,1,6,7,8,25,26]
 (.drw [E (mv 29 7) 0,E (mv 30 29) 1,E (Gf 30 (mv 31 0)) 2,E (Gf 30 (nk 32 31)) 3,E (Gf 30 (fa 33 0 32)) 4,E (Gf 30 (fa 34 9 33)) 5,D (Gf 30 (mv 36 8)) 7 3,D (Gf 30 (mv 39 0)) 10 3,D (Gf 30 (nk 40 39)) 11 1027,D (Gf 30 (fa 41 0 40)) 12 3075,D (Gf 30 (fa 42 9 41)) 13 7171,D (Gf 30 (mv 44 1)) 15 3,E (Gf 30 (ld 35 34)) 6,E (Gf 30 (ia 37 1 35 36)) 8,E (Gf 30 (ld 38 37)) 9,D (Gf 30 (ld 43 42)) 14 15363,D (Gf 30 (ia 45 1 43 44)) 16 64515,D (Gf 30 (ld 46 45)) 17 130051,E (Gf 30 (bt 47 .eql 38 46)) 18,E (po 48 30 47) 19,E (mv 7 48) 20] [0,1,6,7,25,26])))
 (.reg [bi 49 .add 26 1,mv 26 49] [0,1,6,7,25,26])))
def ZhJ:Zd:=Zb3
def b132:Zd:=sr [mi 4 0] [0,1]
 (sd [E (mv 10 0) 0,E (nk 11 10) 1,E (fa 12 0 11) 2,D (mv 14 0) 4 0,D (nk 15 14) 5 16,D (fa 16 0 15) 6 48,D (fa 17 9 16) 7 112,D (mv 19 1) 9 0,E (la 13 18 12) 3,D (ld 18 17) 8 240,D (ia 20 1 18 19) 10 1008,D (ld 21 20) 11 2032,D (al 5 (.agg [.str [],.sl 2 [] .nl,.int .i64 0,.int .i64 0,.int .i64 0,.int .i64 0])) 16 0,E (ct 22 493 [13,21]) 12,E (mv 9 22) 13,E (ex 23 9 0) 14,D (ex 24 9 1) 15 16383,D (i0 (.store 6 true (.t 5) (.t 23))) 17 98303,E (mv 6 24) 18] [0,1,6]
 (sr [mc 7 (.bool false)] [0,1,6,7]
 (.seq (sr [mv 25 1,mi 26 0] [0,1,6,7,25,26]
 (.blk 0 (.loop [0,1,6,7,25,26] (ZhJ))))
 (rt [mv 50 6,cl 51 521 [.t 50,.c (.int .i64 5)],mv 52 7,nt 53 52,cl 54 521 [.t 53,.c (.int .i64 6)],it 55 (.buildSl 1 [.t 51,.t 54]),ct 56 507 [55],mv 4 56] [4]))))
def f132:Zi:=⟨false,[.tmp 4],b132,none,false⟩
def b133:Zd:=sr [mi 4 0,mi 5 0] [0,1]
 (sr [mv 7 0,nk 8 7,fa 9 0 8,la 10 18 9,al 6 (.agg [.str [],.sl 6 [] .nl,.sl 3 [] .nl,.sl 2 [] .nl,.sl 5 [] .nl,.sl 3 [] .nl,.sl 7 [] .nl,.sl 6 [] .nl,.sl 6 [] .nl,.sl 1 [] .nl,.sl 2 [] .nl,.sl 2 [] .nl,.sl 3 [] .nl,.sl 2 [] .nl,.sl 4 [] .nl,.int .i64 0,.int .i64 0,.int .i64 0]),i0 (.store 18 true (.t 6) (.t 10))] [0,1,6]
 (.seq (sr [mv 11 1] [0,6,11]
 (.blk 0 (sr [bi 13 .eql 11 0,mv 12 13] [0,6,11,12]
 (.cond (.t 12) (sd [E (fa 14 0 6) 0,D (fa 18 15 6) 4 0,E (ld 15 14) 1,D (ld 19 18) 5 16,E (ct 16 562 [15]) 2,E (cl 17 521 [.t 16,.c (.int .i64 4)]) 3,E (cl 20 522 [.t 19,.c (.int .i64 1),.c (.int .i64 64)]) 6,E (mv 21 20) 7,E (Gt 21 (fa 22 16 6)) 8,E (Gt 21 (ld 23 22)) 9,E (Gt 21 (cl 24 522 [.t 23,.c (.int .i64 1),.c (.int .i64 32)])) 10,E (pa 25 21 24) 11,E (mv 26 25) 12,E (Gt 26 (fa 27 17 6)) 13,E (Gt 26 (ld 28 27)) 14,E (Gt 26 (cl 29 522 [.t 28,.c (.int .i64 0),.c (.int .i64 4)])) 15,E (pa 30 26 29) 16,E (cl 31 521 [.t 30,.c (.int .i64 7)]) 17,E (it 32 (.buildSl 1 [.t 17,.t 31])) 18,E (ct 33 507 [32]) 19,E (mi 4 0) 20,E (mv 5 33) 21] [4,5]
 (.ret))
 (sr [bi 35 .eql 11 1,mv 34 35] [0,6,11,34]
 (.cond (.t 34) (rt [fa 36 1 6,ld 37 36,ln 38 37,mv 39 0,it 40 (.mkfn 118 [.t 39] []),cl 41 501 [.t 38,.c (.int .i64 16),.t 40],ex 42 41 0,ex 43 41 1,mv 4 42,mv 5 43] [4,5])
 (sr [bi 45 .eql 11 2,mv 44 45] [0,6,11,44]
 (.cond (.t 44) (rt [fa 46 1 6,ld 47 46,fa 48 2 6,ld 49 48,ct 50 640 [47,49],mi 4 0,mv 5 50] [4,5])
 (sr [bi 52 .eql 11 3,mv 51 52] [0,6,11,51]
 (.cond (.t 51) (rt [fa 53 3 6,ld 54 53,ln 55 54,mv 56 0,it 57 (.mkfn 122 [.t 56] []),cl 58 501 [.t 55,.c (.int .i64 16),.t 57],ex 59 58 0,ex 60 58 1,mv 4 59,mv 5 60] [4,5])
 (sr [bi 62 .eql 11 4,mv 61 62] [0,6,11,61]
 (.cond (.t 61) (.seq (sr [fa 63 4 6,ld 64 63,ln 65 64,bi 66 .eql 65 0] [0,6,66]
 (cr 66 [mi 4 0,mi 5 5] [4,5]))
 (rt [fa 67 4 6,ld 68 67,ln 69 68,mv 70 0,it 71 (.mkfn 137 [.t 70] []),cl 72 501 [.t 69,.c (.int .i64 16),.t 71],ex 73 72 0,ex 74 72 1,mv 4 73,mv 5 74] [4,5]))
 (sr [bi 76 .eql 11 5,mv 75 76] [0,6,11,75]
 (.cond (.t 75) (rt [fa 77 5 6,ld 78 77,ln 79 78,mv 80 0,it 81 (.mkfn 109 [.t 80] []),cl 82 501 [.t 79,.c (.int .i64 32),.t 81],ex 83 82 0,ex 84 82 1,mv 4 83,mv 5 84] [4,5])
 (sr [bi 86 .eql 11 6,mv 85 86] [0,6,11,85]
 (.cond (.t 85) (rt [fa 87 6 6,ld 88 87,ln 89 88,mv 90 0,it 91 (.mkfn 141 [.t 90] []),cl 92 501 [.t 89,.c (.int .i64 8),.t 91],ex 93 92 0,ex 94 92 1,mv 4 93,mv 5 94] [4,5])
 (sr [bi 96 .eql 11 7,mv 95 96] [0,6,11,95]
 (.cond (.t 95) (rt [mv 97 0,fa 98 7 6,ld 99 98,ct 100 129 [97,99],ex 101 100 0,ex 102 100 1,mv 4 101,mv 5 102] [4,5])
 (sr [bi 104 .eql 11 8,mv 103 104] [0,6,11,103]
 (.cond (.t 103) (rt [mv 105 0,fa 106 8 6,ld 107 106,ct 108 129 [105,107],ex 109 108 0,ex 110 108 1,mv 4 109,mv 5 110] [4,5])
 (sr [bi 112 .eql 11 9,mv 111 112] [0,6,11,111]
 (.cond (.t 111) (rt [fa 113 9 6,ld 114 113,ln 115 114,mv 116 0,it 117 (.mkfn 132 [.t 116] []),cl 118 501 [.t 115,.c (.int .i64 32),.t 117],ex 119 118 0,ex 120 118 1,mv 4 119,mv 5 120] [4,5])
 (sr [bi 122 .eql 11 10,mv 121 122] [0,6,11,121]
 (.cond (.t 121) (rt [mv 123 0,fa 124 10 6,ld 125 124,ct 126 139 [123,125],ex 127 126 0,ex 128 126 1,mv 4 127,mv 5 128] [4,5])
 (sr [bi 130 .eql 11 11,mv 129 130] [0,6,11,129]
 (.cond (.t 129) (rt [mv 131 0,fa 132 11 6,ld 133 132,ct 134 139 [131,133],ex 135 134 0,ex 136 134 1,mv 4 135,mv 5 136] [4,5])
 (sr [bi 138 .eql 11 12,mv 137 138] [0,6,11,137]
 (.cond (.t 137) (rt [fa 139 12 6,ld 140 139,ln 141 140,mv 142 0,it 143 (.mkfn 135 [.t 142] []),cl 144 501 [.t 141,.c (.int .i64 8),.t 143],ex 145 144 0,ex 146 144 1,mv 4 145,mv 5 146] [4,5])
 (sr [bi 148 .eql 11 13,mv 147 148] [0,6,147]
 (cr 147 [fa 149 13 6,ld 150 149,ln 151 150,mv 152 0,it 153 (.mkfn 115 [.t 152] []),cl 154 501 [.t 151,.c (.int .i64 8),.t 153],ex 155 154 0,ex 156 154 1,mv 4 155,mv 5 156] [4,5]))))))))))))))))))))))))))))))
 (rt [fa 157 14 6,ld 158 157,ln 159 158,mv 160 0,it 161 (.mkfn 124 [.t 160] []),cl 162 501 [.t 159,.c (.int .i64 8),.t 161],ex 163 162 0,ex 164 162 1,mv 4 163,mv 5 164] [4,5])))
def f133:Zi:=⟨false,[.tmp 4,.tmp 5],b133,none,false⟩
def b134:Zd:=sr [mc 6 (.bool false)] [0,1,2]
 (sr [mc 7 (.bool true)] [0,1,2,7]
 (.seq (sr [mv 13 1] [0,2,7,13]
 (.blk 0 (sr [it 14 (.tassert 281 (.agg [.int .i64 0,.int .i64 0,.int .i64 0]) true (.t 13)),ex 15 14 1,ex 16 14 0] [0,2,7,13,15,16]
 (.cond (.t 15) (sr [al 8 (.agg [.int .i64 0,.int .i64 0,.int .i64 0]),st 3 8 16] [0,8]
 (.drw [E (mv 18 0) 0,E (nk 19 18) 1,E (fa 20 0 19) 2,D (fa 22 1 8) 4 0,D (fa 24 2 8) 6 0,E (la 21 18 20) 3,D (ld 23 22) 5 16,D (ld 25 24) 7 64,E (ct 26 489 [21,23,25]) 8,E (mv 17 26) 9,E (ex 27 17 0) 10,D (ex 28 17 1) 11 1023,E (mv 7 28) 12] [7]))
 (sr [it 29 (.tassert 283 (.agg [.int .i64 0,.int .i64 0]) true (.t 13)),ex 30 29 1,ex 31 29 0] [0,2,7,13,30,31]
 (.cond (.t 30) (sr [al 9 (.agg [.int .i64 0,.int .i64 0]),st 2 9 31] [0,9]
 (.drw [E (mv 33 0) 0,E (nk 34 33) 1,E (fa 35 0 34) 2,D (fa 37 1 9) 4 0,E (la 36 18 35) 3,D (ld 38 37) 5 16,E (ct 39 493 [36,38]) 6,E (mv 32 39) 7,E (ex 40 32 0) 8,D (ex 41 32 1) 9 255,E (mv 7 41) 10] [7]))
 (sr [it 42 (.tassert 276 (.agg [.int .i64 0,.int .i64 0]) true (.t 13)),ex 43 42 1,ex 44 42 0] [0,2,7,13,43,44]
 (.cond (.t 43) (sr [al 10 (.agg [.int .i64 0,.int .i64 0]),st 2 10 44] [0,10]
 (.drw [E (mv 46 0) 0,E (nk 47 46) 1,E (fa 48 0 47) 2,D (fa 50 0 10) 4 0,E (la 49 18 48) 3,D (ld 51 50) 5 16,E (ct 52 493 [49,51]) 6,E (mv 45 52) 7,E (ex 53 45 0) 8,D (ex 54 45 1) 9 255,E (mv 7 54) 10] [7]))
 (sr [it 55 (.tassert 277 (.agg [.int .i64 0,.int .i64 0,.int .i64 0]) true (.t 13)),ex 56 55 1,ex 57 55 0] [0,2,7,13,56,57]
 (.cond (.t 56) (sr [al 11 (.agg [.int .i64 0,.int .i64 0,.int .i64 0]),st 3 11 57] [0,11]
 (.drw [E (mv 59 0) 0,E (nk 60 59) 1,E (fa 61 0 60) 2,D (fa 63 1 11) 4 0,E (la 62 18 61) 3,D (ld 64 63) 5 16,E (ct 65 494 [62,64]) 6,E (mv 58 65) 7,E (ex 66 58 0) 8,D (ex 67 58 1) 9 255,D (ex 68 58 2) 10 255,E (mv 7 68) 11] [7]))
 (sr [it 69 (.tassert 275 (.agg [.int .i64 0,.int .i64 0]) true (.t 13)),ex 70 69 1,ex 71 69 0] [0,2,7,70,71]
 (.cond (.t 70) (sr [al 12 (.agg [.int .i64 0,.int .i64 0]),st 2 12 71] [0,2,12]
 (.reg [mv 72 0,la 73 2 12,mv 74 2,ln 75 74,ct 76 113 [72,73,75],mv 7 76] [7]))
 (.skip)))))))))))))
 (rt [mv 77 7,mv 6 77] [6])))
def f134:Zi:=⟨false,[.tmp 6],b134,none,false⟩
def b135:Zd:=sr [bx 2 0,mi 4 0] [1,2]
 (sr [ld 6 2,nk 7 6,fa 8 0 7,fa 9 12 8,ld 10 9,mv 11 1,ia 12 3 10 11,la 13 3 12,al 5 (.agg [.str [],.int .i64 0,.int .i64 0]),st 3 5 13] [1,2,5]
 (sd [E (mv 14 1) 0,D (it 15 (.mkfn 136 [] [.t 2])) 1 0,D (fa 17 1 5) 3 0,D (fa 21 2 5) 7 0,D (ld 18 17) 4 8,D (ld 22 21) 8 128,E (ct 16 520 [14,15]) 2,E (cl 19 522 [.t 18,.c (.int .i64 1),.c (.int .i64 128)]) 5,E (cl 20 521 [.t 19,.c (.int .i64 9)]) 6,E (ct 23 509 [22]) 9,E (it 24 (.buildSl 1 [.t 16,.t 20,.t 23])) 10,E (ct 25 507 [24]) 11,E (mv 4 25) 12] [4]
 (.ret)))
def f135:Zi:=⟨false,[.tmp 4],b135,none,false⟩
def b136:Zd:=sr [mc 3 (.str [])] [0,1]
 (rt [ld 4 1,nk 5 4,fa 6 0 5,fa 7 12 6,ld 8 7,mv 9 0,ia 10 3 8 9,fa 11 0 10,ld 12 11,mv 3 12] [3])
def f136:Zi:=⟨false,[.tmp 3],b136,none,false⟩
def ZcL:Zd:=sr [bt 90 .lss 89 88] [2,5,11,87,88,89,90]
 (wh 90 2
 (.seq (.blk 3 (sr [ia 91 7 87 89,la 92 7 91,al 14 (.agg [.int .i64 0,.int .u64 0,.int .u64 0,.int .i64 0,.int .u64 0,.int .u64 0,.int .i64 0]),st 7 14 92] [2,5,11,14,87,88,89]
 (sr [ld 93 2,la 94 7 14,mv 95 11,ct 96 131 [93,94,95],mv 15 96] [2,5,11,15,87,88,89]
 (sr [mv 97 15,bi 98 .neq 97 0] [2,5,11,15,87,88,89,98]
 (cr 98 [mv 99 15,mv 4 99] [4])))))
 (.reg [bi 100 .add 89 1,mv 89 100] [2,5,11,87,88,89])))
def Zh3:Zd:=ZcL
def Zb6:Zd:=sr [bt 41 .lss 40 39] [2,5,38,39,40,41]
 (wh 41 0
 (.seq (.blk 1 (sr [ia 42 2 38 40,la 43 2 42,al 8 (.agg [.int .i64 0,.int .i64 0]),st 2 8 43] [2,5,8,38,39,40]
 (sr [ld 44 2,la 45 2 8,ct 46 117 [44,45],mv 9 46] [2,5,9,38,39,40]
 (sr [mv 47 9,bi 48 .neq 47 0] [2,5,9,38,39,40,48]
 (cr 48 [mv 49 9,mv 4 49] [4])))))
 (.reg [bi 50 .add 40 1,mv 40 50] [2,5,38,39,40])))
def ZhS:Zd:=Zb6
def b137:Zd:=sr [bx 2 0,mi 4 0] [1,2]
 (sr [ld 16 2,nk 17 16,fa 18 0 17,fa 19 4 18,ld 20 19,mv 21 1,ia 22 5 20 21,la 23 5 22,al 5 (.agg [.str [],.sl 2 [] .nl,.sl 3 [] .nl,.sl 7 [] .nl,.int .i64 0]),i0 (.store 5 true (.t 5) (.t 23))] [1,2,5]
 (.seq (sd [E (mv 24 1) 0,D (it 25 (.mkfn 138 [] [.t 2])) 1 0,D (fa 27 1 5) 3 0,D (ld 28 27) 4 8,D (ln 29 28) 5 24,D (bi 30 .leq 29 4) 6 56,E (ct 26 520 [24,25]) 2,E (cl 31 521 [.t 30,.c (.int .i64 2)]) 7,E (it 32 (.buildSl 1 [.t 26,.t 31])) 8,E (ct 33 507 [32]) 9,E (mv 6 33) 10] [2,5,6]
 (sr [mv 34 6,bi 35 .neq 34 0] [2,5,6,35]
 (cr 35 [mv 36 6,mv 4 36] [4])))
 (.seq (sr [fa 37 1 5,ld 38 37,ln 39 38,mi 40 0] [2,5,38,39,40]
 (.blk 0 (.loop [2,5,38,39,40] (ZhS))))
 (.seq (sd [D (fa 52 2 5) 1 0,D (fa 55 3 5) 4 0,D (fa 60 3 5) 9 0,E (ld 51 2) 0,D (ld 53 52) 2 2,D (ld 56 55) 5 16,D (ln 57 56) 6 48,D (bi 58 .leq 57 8) 7 112,D (ld 61 60) 10 512,D (ln 62 61) 11 1536,D (bi 63 .eql 62 0) 12 3584,E (cl 54 121 [.t 51,.t 53,.c (.bool true)]) 3,E (cl 59 521 [.t 58,.c (.int .i64 2)]) 8,E (mv 64 63) 13,E (Gf 64 (fa 65 2 5)) 14,E (Gf 64 (ld 66 65)) 15,E (Gf 64 (ln 67 66)) 16,E (Gf 64 (bi 68 .gtr 67 0)) 17,E (po 69 64 68) 18,E (cl 70 521 [.t 69,.c (.int .i64 4)]) 19,E (it 71 (.buildSl 1 [.t 54,.t 59,.t 70])) 20,E (ct 72 507 [71]) 21,E (mv 10 72) 22] [2,5,10]
 (sr [mv 73 10,bi 74 .neq 73 0] [2,5,10,74]
 (cr 74 [mv 75 10,mv 4 75] [4])))
 (sd [D (fa 81 2 5) 4 0,E (ld 77 2) 0,E (nk 78 77) 1,E (fa 79 0 78) 2,E (la 80 18 79) 3,D (ld 82 81) 5 16,E (ct 83 490 [80,82]) 6,E (mv 76 83) 7,E (ex 84 76 0) 8,D (ex 85 76 1) 9 255,D (mv 11 84) 10 511,E (mv 12 85) 11] [2,5,11]
 (.seq (sr [fa 86 3 5,ld 87 86,ln 88 87,mi 89 0] [2,5,11,87,88,89]
 (.blk 2 (.loop [2,5,11,87,88,89] (Zh3))))
 (rt [ld 101 2,fa 102 4 5,ld 103 102,ct 104 127 [101,103],mv 4 104] [4])))))))
def f137:Zi:=⟨false,[.tmp 4],b137,none,false⟩
def b138:Zd:=sr [mc 3 (.str [])] [0,1]
 (rt [ld 4 1,nk 5 4,fa 6 0 5,fa 7 4 6,ld 8 7,mv 9 0,ia 10 5 8 9,fa 11 0 10,ld 12 11,mv 3 12] [3])
def f138:Zi:=⟨false,[.tmp 3],b138,none,false⟩
def b139:Zd:=sr [bx 2 0,bx 3 1,mi 4 0,mi 5 0] [2,3]
 (rt [ld 6 3,ln 7 6,it 8 (.mkfn 140 [] [.t 2,.t 3]),cl 9 501 [.t 7,.c (.int .i64 4),.t 8],ex 10 9 0,ex 11 9 1,mv 4 10,mv 5 11] [4,5])
def f139:Zi:=⟨false,[.tmp 4,.tmp 5],b139,none,false⟩
def b140:Zd:=sr [mi 4 0] [0,1,2]
 (sd [D (mv 17 0) 5 0,D (mv 22 0) 10 0,E (ld 12 1) 0,E (nk 13 12) 1,E (fa 14 0 13) 2,E (la 15 18 14) 3,D (ld 16 2) 4 0,D (ia 18 2 16 17) 6 48,D (fa 19 0 18) 7 112,D (ld 20 19) 8 240,D (ld 21 2) 9 0,D (ia 23 2 21 22) 11 1536,D (fa 24 1 23) 12 3584,D (ld 25 24) 13 7680,E (ct 26 489 [15,20,25]) 14,E (mv 11 26) 15,E (ex 27 11 0) 16,D (ex 28 11 1) 17 65535,D (mv 5 27) 18 131071,E (mv 6 28) 19] [0,1,2,5,6]
 (.seq (sr [mv 29 6,nt 30 29] [0,1,2,5,30]
 (cr 30 [mi 4 5] [4]))
 (sd [D (mv 37 0) 5 0,E (ld 32 1) 0,E (nk 33 32) 1,E (fa 34 0 33) 2,E (la 35 18 34) 3,D (ld 36 2) 4 0,D (ia 38 2 36 37) 6 48,D (fa 39 0 38) 7 112,D (ld 40 39) 8 240,D (al 7 (.agg [.str [],.sl 2 [] .nl,.int .i64 0,.int .i64 0,.int .i64 0,.int .i64 0])) 13 0,E (ct 41 493 [35,40]) 9,E (mv 31 41) 10,E (ex 42 31 0) 11,D (ex 43 31 1) 12 2047,D (i0 (.store 6 true (.t 7) (.t 42))) 14 12287,E (mv 8 43) 15] [0,2,5,7]
 (sd [D (mv 47 0) 2 0,E (la 45 6 7) 0,D (ld 46 2) 1 0,D (ia 48 2 46 47) 3 6,D (fa 49 1 48) 4 14,D (ld 50 49) 5 30,E (ct 51 644 [45,50]) 6,E (mv 44 51) 7,E (ex 52 44 0) 8,D (ex 53 44 1) 9 255,D (mv 9 52) 10 511,E (mv 10 53) 11] [5,9]
 (rt [mv 54 5,bi 55 .eql 54 16,mv 56 55,Gt 56 (mv 57 9),Gt 56 (bi 58 .rem 57 16),Gt 56 (bi 59 .eql 58 0),pa 60 56 59,cl 61 521 [.t 60,.c (.int .i64 9)],mv 4 61] [4])))))
def f140:Zi:=⟨false,[.tmp 4],b140,none,false⟩
def b141:Zd:=sr [bx 2 0,mi 4 0] [1,2]
 (sr [ld 7 2,nk 8 7,fa 9 0 8,fa 10 6 9,ld 11 10,mv 12 1,ia 13 7 11 12,la 14 7 13,al 5 (.agg [.str [],.int .i64 0,.sl 3 [] .nl,.sl 1 [] .nl,.int .i64 0,.sl 3 [] .nl,.int .i64 0]),i0 (.store 7 true (.t 5) (.t 14))] [1,2,5]
 (sd [E (mv 15 1) 0,D (it 16 (.mkfn 142 [] [.t 2])) 1 0,D (fa 18 1 5) 3 0,D (fa 22 2 5) 7 0,D (fa 28 2 5) 13 0,D (fa 32 3 5) 17 0,D (fa 35 3 5) 20 0,D (fa 37 4 5) 22 0,D (fa 38 0 37) 23 4194304,D (ld 19 18) 4 8,D (ld 23 22) 8 128,D (ln 24 23) 9 384,D (bi 25 .gtr 24 0) 10 896,D (ld 27 2) 12 0,D (ld 29 28) 14 8192,D (ld 31 2) 16 0,D (ld 33 32) 18 131072,D (ld 36 35) 21 1048576,D (ld 39 38) 24 12582912,E (ct 17 520 [15,16]) 2,E (cl 20 522 [.t 19,.c (.int .i64 0),.c (.int .i64 3)]) 5,E (cl 21 521 [.t 20,.c (.int .i64 10)]) 6,E (cl 26 521 [.t 25,.c (.int .i64 5)]) 11,E (cl 30 121 [.t 27,.t 29,.c (.bool false)]) 15,E (ct 34 112 [31,33]) 19,E (ct 40 1169 [36,39]) 25,E (cl 41 521 [.t 40,.c (.int .i64 16)]) 26,E (it 42 (.buildSl 1 [.t 17,.t 21,.t 26,.t 30,.t 34,.t 41])) 27,E (ct 43 507 [42]) 28,E (mv 6 43) 29] [2,5,6]
 (.seq (sr [mv 44 6,bi 45 .neq 44 0] [2,5,6,45]
 (cr 45 [mv 46 6,mv 4 46] [4]))
 (sd [D (fa 48 4 5) 1 0,D (fa 49 0 48) 2 2,D (fa 51 4 5) 4 0,D (fa 52 1 51) 5 16,D (fa 55 6 5) 8 0,E (ld 47 2) 0,D (ld 50 49) 3 6,D (ld 53 52) 6 48,D (ld 56 55) 9 256,E (ct 54 111 [47,50,53]) 7,E (cl 57 522 [.t 56,.c (.int .i64 1),.c (.int .i64 256)]) 10,E (cl 58 521 [.t 57,.c (.int .i64 7)]) 11,E (it 59 (.buildSl 1 [.t 54,.t 58])) 12,E (ct 60 507 [59]) 13,E (mv 4 60) 14] [4]
 (.ret)))))
def f141:Zi:=⟨false,[.tmp 4],b141,none,false⟩
def b142:Zd:=sr [mc 3 (.str [])] [0,1]
 (rt [ld 4 1,nk 5 4,fa 6 0 5,fa 7 6 6,ld 8 7,mv 9 0,ia 10 7 8 9,fa 11 0 10,ld 12 11,mv 3 12] [3])
def f142:Zi:=⟨false,[.tmp 3],b142,none,false⟩
def b323:Zd:=sr [mc 4 (.int .u64 0)] [0,1]
 (rt [mv 5 0,mv 6 1,bt 7 .and 5 6,mv 4 7] [4])
def f323:Zi:=⟨false,[.tmp 4],b323,none,false⟩
def b324:Zd:=sr [mc 4 (.bool false)] [0,1]
 (rt [mv 5 0,mv 6 1,ct 7 465 [6],bt 8 .and 5 7,bu 9 .neq 8 0,mv 4 9] [4])
def f324:Zi:=⟨false,[.tmp 4],b324,none,false⟩
def b326:Zd:=sr [mc 4 (.int .u64 0)] [0,1]
 (rt [mv 5 0,mv 6 1,ct 7 465 [6],bt 8 .or 5 7,mv 4 8] [4])
def f326:Zi:=⟨false,[.tmp 4],b326,none,false⟩
def b329:Zd:=sr [bx 2 0,al 4 (.agg [.bool false,.int .u64 0])] [1,2,4]
 (.seq (sr [fa 5 0 2,ld 6 5] [1,2,4,6]
 (cr 6 [fa 7 1 2,ld 8 7,mv 9 1,ct 10 323 [8,9],it 11 (.build [.bool false,.int .u64 0] [(0,1,.c (.bool true)),(1,1,.t 10)]),st 2 4 11] [4]))
 (rt [mv 12 1,it 13 (.build [.bool false,.int .u64 0] [(0,1,.c (.bool true)),(1,1,.t 12)]),st 2 4 13] [4]))
def f329:Zi:=⟨false,[.cell 4 true 2],b329,none,false⟩
def Zdc:Zd:=sr [bt 17 .lss 16 15] [0,5,14,15,16,17]
 (wh 17 0
 (.seq (.blk 1 (sr [mv 18 16,ia 19 6 14 16,la 20 6 19,al 7 (.agg [.int .i64 0,.int .i64 0,.int .i64 0,.int .i64 0,.int .u64 0,.int .u64 0]),mv 6 18,st 6 7 20] [0,5,6,7,14,15,16]
 (sr [la 22 6 7,ct 23 424 [22],mv 21 23,ex 24 21 0,ex 25 21 1,mv 8 24,mv 9 25] [0,5,6,8,9,14,15,16]
 (.seq (sr [mv 26 9,bi 27 .neq 26 0] [0,5,6,8,9,14,15,16,27]
 (cr 27 [mv 28 6,mv 29 9,mc 2 (.sl 1 [] .nl),mv 3 28,mv 4 29] [2,3,4]))
 (.reg [mv 30 5,mv 31 8,it 32 (.buildSl 1 [.t 31]),it 33 (.app 1 16 false (.t 30) (.t 32)),mv 5 33] [0,5,14,15,16])))))
 (.reg [bi 34 .add 16 1,mv 16 34] [0,5,14,15,16])))
def Zg9:Zd:=Zdc
def b422:Zd:=sr [mc 2 (.sl 1 [] .nl),mi 3 0,mi 4 0] [0]
 (sr [it 5 (.nilacc 1)] [0,5]
 (.seq (sr [mv 10 0,mv 11 0,ln 12 11,it 13 (.mn [.t 12,.c (.int .i64 64)]),it 14 (.slice 6 (.t 10) none (some (.t 13)) none),ln 15 14,mi 16 0] [0,5,14,15,16]
 (.blk 0 (.loop [0,5,14,15,16] (Zg9))))
 (.seq (sr [mv 35 0,ln 36 35,bi 37 .gtr 36 64] [5,37]
 (cr 37 [mc 2 (.sl 1 [] .nl),mi 3 64,mi 4 2] [2,3,4]))
 (rt [mv 38 5,mv 39 5,ln 40 39,mv 2 38,mv 3 40,mi 4 0] [2,3,4]))))
def f422:Zi:=⟨false,[.tmp 2,.tmp 3,.tmp 4],b422,none,false⟩
def b424:Zd:=sr [bx 1 0,mc 2 (.nili),mi 3 0] [1]
 (.seq (sr [la 5 6 1,ct 6 425 [5],mv 4 6] [1,4]
 (sr [mv 7 4,bi 8 .neq 7 0] [1,4,8]
 (cr 8 [mv 9 4,mc 2 (.nili),mv 3 9] [2,3])))
 (.seq (sr [fa 10 0 1,ld 11 10] [1,11]
 (.blk 0 (sr [bi 13 .eql 11 0,mv 12 13] [1,11,12]
 (.cond (.t 12) (rt [fa 14 3 1,la 15 3 14,it 16 (.build [.int .i64 0,.int .u64 0,.int .u64 0] [(0,3,.t 15)]),it 17 (.mkif 282 (.t 16)),mv 2 17,mi 3 0] [2,3])
 (.seq (sr [bi 19 .eql 11 1,mv 18 19] [1,11,18]
 (.cond (.t 18) (.skip)
 (.reg [bi 20 .eql 11 22,mv 18 20] [1,11,18])))
 (.cond (.t 18) (rt [fa 21 0 1,ld 22 21,fa 23 1 1,ld 24 23,fa 25 2 1,ld 26 25,it 27 (.build [.int .i64 0,.int .i64 0,.int .i64 0] [(0,1,.t 22),(1,1,.t 24),(2,1,.t 26)]),it 28 (.mkif 281 (.t 27)),mv 2 28,mi 3 0] [2,3])
 (.seq (sr [bi 30 .eql 11 2,mv 29 30] [1,11,29]
 (.cond (.t 29) (.skip)
 (sr [bi 31 .eql 11 23,mv 29 31] [1,11,29]
 (.cond (.t 29) (.skip)
 (sr [bi 32 .eql 11 3,mv 29 32] [1,11,29]
 (.cond (.t 29) (.skip)
 (sr [bi 33 .eql 11 5,mv 29 33] [1,11,29]
 (.cond (.t 29) (.skip)
 (sr [bi 34 .eql 11 24,mv 29 34] [1,11,29]
 (.cond (.t 29) (.skip)
 (sr [bi 35 .eql 11 29,mv 29 35] [1,11,29]
 (.cond (.t 29) (.skip)
 (.reg [bi 36 .eql 11 30,mv 29 36] [1,11,29])))))))))))))
 (.cond (.t 29) (rt [fa 37 0 1,ld 38 37,fa 39 1 1,ld 40 39,it 41 (.build [.int .i64 0,.int .i64 0] [(0,1,.t 38),(1,1,.t 40)]),it 42 (.mkif 275 (.t 41)),mv 2 42,mi 3 0] [2,3])
 (.seq (sr [bi 44 .eql 11 4,mv 43 44] [1,11,43]
 (.cond (.t 43) (.skip)
 (sr [bi 45 .eql 11 25,mv 43 45] [1,11,43]
 (.cond (.t 43) (.skip)
 (.reg [bi 46 .eql 11 26,mv 43 46] [1,11,43])))))
 (.cond (.t 43) (rt [fa 47 0 1,ld 48 47,fa 49 1 1,ld 50 49,it 51 (.build [.int .i64 0,.int .i64 0] [(0,1,.t 48),(1,1,.t 50)]),it 52 (.mkif 283 (.t 51)),mv 2 52,mi 3 0] [2,3])
 (.seq (sr [bi 54 .eql 11 6,mv 53 54] [1,11,53]
 (.cond (.t 53) (.skip)
 (sr [bi 55 .eql 11 7,mv 53 55] [1,11,53]
 (.cond (.t 53) (.skip)
 (sr [bi 56 .eql 11 8,mv 53 56] [1,11,53]
 (.cond (.t 53) (.skip)
 (sr [bi 57 .eql 11 9,mv 53 57] [1,11,53]
 (.cond (.t 53) (.skip)
 (.reg [bi 58 .eql 11 11,mv 53 58] [1,11,53])))))))))
 (.cond (.t 53) (rt [fa 59 0 1,ld 60 59,fa 61 1 1,ld 62 61,it 63 (.build [.int .i64 0,.int .i64 0] [(0,1,.t 60),(1,1,.t 62)]),it 64 (.mkif 279 (.t 63)),mv 2 64,mi 3 0] [2,3])
 (sr [bi 66 .eql 11 10,mv 65 66] [1,11,65]
 (.cond (.t 65) (rt [fa 67 1 1,ld 68 67,fa 69 2 1,ld 70 69,it 71 (.build [.int .i64 0,.int .i64 0] [(0,1,.t 68),(1,1,.t 70)]),it 72 (.mkif 280 (.t 71)),mv 2 72,mi 3 0] [2,3])
 (.seq (sr [bi 74 .eql 11 27,mv 73 74] [1,11,73]
 (.cond (.t 73) (.skip)
 (.reg [bi 75 .eql 11 28,mv 73 75] [1,11,73])))
 (.cond (.t 73) (rt [fa 76 0 1,ld 77 76,fa 78 1 1,ld 79 78,fa 80 2 1,ld 81 80,it 82 (.build [.int .i64 0,.int .i64 0,.int .i64 0] [(0,1,.t 77),(1,1,.t 79),(2,1,.t 81)]),it 83 (.mkif 277 (.t 82)),mv 2 83,mi 3 0] [2,3])
 (.seq (sr [bi 85 .eql 11 31,mv 84 85] [1,11,84]
 (.cond (.t 84) (.skip)
 (.reg [bi 86 .eql 11 32,mv 84 86] [1,11,84])))
 (.cond (.t 84) (rt [fa 87 0 1,ld 88 87,fa 89 1 1,ld 90 89,it 91 (.build [.int .i64 0,.int .i64 0] [(0,1,.t 88),(1,1,.t 90)]),it 92 (.mkif 278 (.t 91)),mv 2 92,mi 3 0] [2,3])
 (sr [bi 94 .eql 11 33,mv 93 94] [1,11,93]
 (.cond (.t 93) (rt [fa 95 1 1,ld 96 95,fa 97 2 1,ld 98 97,it 99 (.build [.int .i64 0,.int .i64 0] [(0,1,.t 96),(1,1,.t 98)]),it 100 (.mkif 276 (.t 99)),mv 2 100,mi 3 0] [2,3])
 (sr [bi 102 .eql 11 34,mv 101 102] [1,101]
 (cr 101 [it 103 (.build [] []),it 104 (.mkif 285 (.t 103)),mv 2 104,mi 3 0] [2,3]))))))))))))))))))))))
 (rt [fa 105 0 1,ld 106 105,it 107 (.build [.int .i64 0] [(0,1,.t 106)]),it 108 (.mkif 286 (.t 107)),mv 2 108,mi 3 0] [2,3])))
def f424:Zi:=⟨false,[.tmp 2,.tmp 3],b424,none,false⟩
def b425:Zd:=sr [bx 1 0,mi 2 0] [1]
 (.seq (sr [fa 4 0 1,ld 5 4,ct 6 430 [5],nt 7 6] [1,7]
 (cr 7 [mi 2 10] [2]))
 (sr [fa 8 0 1,ld 9 8,ct 10 432 [9],al 3 (.agg [.bool false,.bool false,.int .i64 0,.int .i64 0,.int .i64 0,.int .i64 0,.int .i64 0,.int .i64 0]),st 8 3 10] [1,3]
 (.seq (.blk 0 (sr [fa 12 1 1,ld 13 12,fa 14 2 3,ld 15 14,fa 16 3 3,ld 17 16,ct 18 433 [13,15,17],nt 19 18,mv 20 19,Gf 20 (fa 21 2 1),Gf 20 (ld 22 21),Gf 20 (fa 23 4 3),Gf 20 (ld 24 23),Gf 20 (fa 25 5 3),Gf 20 (ld 26 25),Gf 20 (ct 27 433 [22,24,26]),Gf 20 (nt 28 27),po 29 20 28,mv 30 29,Gf 30 (fa 31 0 1),Gf 30 (ld 32 31),Gf 30 (bi 33 .eql 32 10),Gf 30 (mv 34 33),Gt 34 (fa 35 2 1),Gt 34 (ld 36 35),Gt 34 (fa 37 1 1),Gt 34 (ld 38 37),Gt 34 (bt 39 .gtr 36 38),Gf 30 (pa 40 34 39),po 41 30 40,mv 11 41] [1,11]
 (.cond (.t 11) (rt [mi 2 7] [2])
 (sr [fa 43 0 1,ld 44 43,bi 45 .eql 44 0,mv 46 45,Gt 46 (fa 47 3 1),Gt 46 (la 48 3 47),Gt 46 (ct 49 1090 [48]),Gt 46 (nt 50 49),pa 51 46 50,mv 52 51,Gf 52 (fa 53 0 1),Gf 52 (ld 54 53),Gf 52 (bi 55 .neq 54 0),Gf 52 (mv 56 55),Gt 56 (fa 57 3 1),Gt 56 (la 58 3 57),Gt 56 (it 59 (.build [.int .i64 0,.int .u64 0,.int .u64 0] [])),Gt 56 (it 60 (.eq true (some [.i,.i,.i]) (.t 58) (.t 59))),Gf 52 (pa 61 56 60),po 62 52 61,mv 42 62] [42]
 (cr 42 [mi 2 1] [2])))))
 (rt [mi 2 0] [2]))))
def f425:Zi:=⟨false,[.tmp 2],b425,none,false⟩
def b427:Zd:=sr [mi 2 0,mc 3 (.bool false)] [0]
 (.seq (sr [mv 9 0,it 10 (.tassert 278 (.agg [.int .i64 0,.int .i64 0]) true (.t 9)),mv 8 10,ex 11 8 0,ex 12 8 1,al 4 (.agg [.int .i64 0,.int .i64 0]),st 2 4 11,mv 5 12] [0,4,5]
 (sr [mv 13 5] [0,4,13]
 (cr 13 [fa 14 1 4,ld 15 14,mv 2 15,mc 3 (.bool true)] [2,3])))
 (.seq (sr [mv 17 0,it 18 (.tassert 276 (.agg [.int .i64 0,.int .i64 0]) true (.t 17)),mv 16 18,ex 19 16 0,ex 20 16 1,al 6 (.agg [.int .i64 0,.int .i64 0]),st 2 6 19,mv 7 20] [6,7]
 (sr [mv 21 7] [6,21]
 (cr 21 [fa 22 1 6,ld 23 22,mv 2 23,mc 3 (.bool true)] [2,3])))
 (rt [mi 2 0,mc 3 (.bool false)] [2,3])))
def f427:Zi:=⟨false,[.tmp 2,.tmp 3],b427,none,false⟩
def b428:Zd:=sr [al 8 (.agg [.bool false,.bool false,.int .i64 0,.int .i64 0,.int .i64 0,.int .i64 0,.int .i64 0,.int .i64 0])] [0,1,2,3,8]
 (rt [mv 9 0,mv 10 1,mv 11 2,mv 12 3,it 13 (.build [.bool false,.bool false,.int .i64 0,.int .i64 0,.int .i64 0,.int .i64 0,.int .i64 0,.int .i64 0] [(0,1,.c (.bool true)),(2,1,.t 9),(3,1,.t 10),(6,1,.t 11),(7,1,.t 12)]),st 8 8 13] [8])
def f428:Zi:=⟨false,[.cell 8 true 8],b428,none,false⟩
def b429:Zd:=sr [al 10 (.agg [.bool false,.bool false,.int .i64 0,.int .i64 0,.int .i64 0,.int .i64 0,.int .i64 0,.int .i64 0])] [0,1,2,3,4,10]
 (rt [mv 11 0,mv 12 1,mv 13 2,mv 14 3,mv 15 4,it 16 (.build [.bool false,.bool false,.int .i64 0,.int .i64 0,.int .i64 0,.int .i64 0,.int .i64 0,.int .i64 0] [(0,1,.c (.bool true)),(1,1,.c (.bool true)),(3,1,.t 11),(4,1,.t 12),(5,1,.t 13),(6,1,.t 14),(7,1,.t 15)]),st 8 10 16] [10])
def f429:Zi:=⟨false,[.cell 10 true 8],b429,none,false⟩
def b430:Zd:=sr [mc 2 (.bool false)] [0]
 (rt [mv 3 0,bi 4 .geq 3 0,mv 5 4,Gt 5 (mv 6 0),Gt 5 (bi 7 .lss 6 35),pa 8 5 7,mv 2 8] [2])
def f430:Zi:=⟨false,[.tmp 2],b430,none,false⟩
def b432:Zd:=sr [al 2 (.agg [.bool false,.bool false,.int .i64 0,.int .i64 0,.int .i64 0,.int .i64 0,.int .i64 0,.int .i64 0])] [0,2]
 (.seq (sr [mv 3 0] [2,3]
 (.blk 0 (sr [bi 5 .eql 3 0,mv 4 5] [2,3,4]
 (.cond (.t 4) (rt [it 6 (.build [.bool false,.bool false,.int .i64 0,.int .i64 0,.int .i64 0,.int .i64 0,.int .i64 0,.int .i64 0] [(7,1,.c (.int .i64 1))]),st 8 2 6] [2])
 (sr [bi 8 .eql 3 1,mv 7 8] [2,3,7]
 (.cond (.t 7) (rt [cl 9 429 [.c (.int .i64 31),.c (.int .i64 0),.c (.int .i64 15),.c (.int .i64 0),.c (.int .i64 1)],st 8 2 9] [2])
 (sr [bi 11 .eql 3 22,mv 10 11] [2,3,10]
 (.cond (.t 10) (rt [cl 12 429 [.c (.int .i64 31),.c (.int .i64 0),.c (.int .i64 15),.c (.int .i64 1),.c (.int .i64 0)],st 8 2 12] [2])
 (sr [bi 14 .eql 3 2,mv 13 14] [2,3,13]
 (.cond (.t 13) (rt [cl 15 428 [.c (.int .i64 0),.c (.int .i64 23),.c (.int .i64 0),.c (.int .i64 1)],st 8 2 15] [2])
 (sr [bi 17 .eql 3 23,mv 16 17] [2,3,16]
 (.cond (.t 16) (rt [cl 18 428 [.c (.int .i64 0),.c (.int .i64 23),.c (.int .i64 1),.c (.int .i64 0)],st 8 2 18] [2])
 (sr [bi 20 .eql 3 3,mv 19 20] [2,3,19]
 (.cond (.t 19) (rt [cl 21 428 [.c (.int .i64 0),.c (.int .i64 7),.c (.int .i64 0),.c (.int .i64 1)],st 8 2 21] [2])
 (sr [bi 23 .eql 3 4,mv 22 23] [2,3,22]
 (.cond (.t 22) (rt [cl 24 428 [.c (.int .i64 0),.c (.int .i64 31),.c (.int .i64 0),.c (.int .i64 1)],st 8 2 24] [2])
 (.seq (sr [bi 26 .eql 3 25,mv 25 26] [2,3,25]
 (.cond (.t 25) (.skip)
 (.reg [bi 27 .eql 3 26,mv 25 27] [2,3,25])))
 (.cond (.t 25) (rt [cl 28 428 [.c (.int .i64 0),.c (.int .i64 31),.c (.int .i64 0),.c (.int .i64 0)],st 8 2 28] [2])
 (.seq (sr [bi 30 .eql 3 5,mv 29 30] [2,3,29]
 (.cond (.t 29) (.skip)
 (.reg [bi 31 .eql 3 30,mv 29 31] [2,3,29])))
 (.cond (.t 29) (rt [cl 32 428 [.c (.int .i64 0),.c (.int .i64 7),.c (.int .i64 1),.c (.int .i64 1)],st 8 2 32] [2])
 (sr [bi 34 .eql 3 24,mv 33 34] [2,3,33]
 (.cond (.t 33) (rt [cl 35 428 [.c (.int .i64 0),.c (.int .i64 7),.c (.int .i64 2),.c (.int .i64 0)],st 8 2 35] [2])
 (sr [bi 37 .eql 3 29,mv 36 37] [2,3,36]
 (.cond (.t 36) (rt [cl 38 428 [.c (.int .i64 0),.c (.int .i64 7),.c (.int .i64 1),.c (.int .i64 0)],st 8 2 38] [2])
 (.seq (sr [bi 40 .eql 3 8,mv 39 40] [2,3,39]
 (.cond (.t 39) (.skip)
 (.reg [bi 41 .eql 3 9,mv 39 41] [2,3,39])))
 (.cond (.t 39) (rt [cl 42 428 [.c (.int .i64 0),.c (.int .i64 128),.c (.int .i64 1),.c (.int .i64 1)],st 8 2 42] [2])
 (sr [bi 44 .eql 3 11,mv 43 44] [2,3,43]
 (.cond (.t 43) (rt [cl 45 428 [.c (.int .i64 1),.c (.int .i64 128),.c (.int .i64 1),.c (.int .i64 1)],st 8 2 45] [2])
 (sr [bi 47 .eql 3 10,mv 46 47] [2,3,46]
 (.cond (.t 46) (rt [cl 48 429 [.c (.int .i64 127),.c (.int .i64 0),.c (.int .i64 127),.c (.int .i64 1),.c (.int .i64 1)],st 8 2 48] [2])
 (.seq (sr [bi 50 .eql 3 27,mv 49 50] [2,3,49]
 (.cond (.t 49) (.skip)
 (.reg [bi 51 .eql 3 28,mv 49 51] [2,3,49])))
 (.cond (.t 49) (rt [cl 52 429 [.c (.int .i64 15),.c (.int .i64 1),.c (.int .i64 4),.c (.int .i64 0),.c (.int .i64 0)],st 8 2 52] [2])
 (sr [bi 54 .eql 3 31,mv 53 54] [2,3,53]
 (.cond (.t 53) (rt [cl 55 428 [.c (.int .i64 0),.c (.int .i64 64),.c (.int .i64 0),.c (.int .i64 0)],st 8 2 55] [2])
 (sr [bi 57 .eql 3 32,mv 56 57] [2,3,56]
 (.cond (.t 56) (rt [cl 58 428 [.c (.int .i64 0),.c (.int .i64 64),.c (.int .i64 1),.c (.int .i64 0)],st 8 2 58] [2])
 (sr [bi 60 .eql 3 33,mv 59 60] [2,3,59]
 (.cond (.t 59) (rt [cl 61 429 [.c (.int .i64 31),.c (.int .i64 0),.c (.int .i64 64),.c (.int .i64 0),.c (.int .i64 0)],st 8 2 61] [2])
 (.seq (sr [bi 63 .eql 3 6,mv 62 63] [2,3,62]
 (.cond (.t 62) (.skip)
 (.reg [bi 64 .eql 3 7,mv 62 64] [2,3,62])))
 (.cond (.t 62) (rt [it 65 (.build [.bool false,.bool false,.int .i64 0,.int .i64 0,.int .i64 0,.int .i64 0,.int .i64 0,.int .i64 0] [(6,1,.c (.int .i64 1)),(7,1,.c (.int .i64 1))]),st 8 2 65] [2])
 (sr [bi 67 .eql 3 34,mv 66 67] [2,66]
 (cr 66 [it 68 (.build [.bool false,.bool false,.int .i64 0,.int .i64 0,.int .i64 0,.int .i64 0,.int .i64 0,.int .i64 0] []),st 8 2 68] [2]))))))))))))))))))))))))))))))))))))))))))
 (rt [it 69 (.build [.bool false,.bool false,.int .i64 0,.int .i64 0,.int .i64 0,.int .i64 0,.int .i64 0,.int .i64 0] [(6,1,.c (.int .i64 2)),(7,1,.c (.int .i64 1))]),st 8 2 69] [2]))
def f432:Zi:=⟨false,[.cell 2 true 8],b432,none,false⟩
def b433:Zd:=sr [mc 6 (.bool false)] [0,1,2]
 (rt [mv 7 0,mv 8 1,bt 9 .geq 7 8,mv 10 9,Gt 10 (mv 11 0),Gt 10 (mv 12 2),Gt 10 (bt 13 .leq 11 12),pa 14 10 13,mv 6 14] [6])
def f433:Zi:=⟨false,[.tmp 6],b433,none,false⟩
def ZEp:Zd:=sr [bt 10 .lss 9 8] [3,8,9,10]
 (wh 10 0
 (.seq (.blk 1 (sr [mv 11 9,mv 4 11] [3,4,8,9]
 (.reg [mv 12 3,mv 13 4,ct 14 326 [12,13],mv 3 14] [3,8,9])))
 (.reg [bi 15 .add 9 1,mv 9 15] [3,8,9])))
def ZEJ:Zd:=ZEp
def b460:Zd:=sr [bx 1 0,mc 2 (.int .u64 0)] [1]
 (sr [mc 3 (.int .u64 0)] [1,3]
 (.seq (sr [fa 5 2 1,ld 6 5,ct 7 645 [6],it 8 (.mn [.t 7,.c (.int .i64 64)]),mi 9 0] [3,8,9]
 (.blk 0 (.loop [3,8,9] (ZEJ))))
 (rt [mv 16 3,mv 2 16] [2])))
def f460:Zi:=⟨false,[.tmp 2],b460,none,false⟩
def b465:Zd:=sr [mc 2 (.int .u64 0)] [0]
 (.seq (sr [mv 3 0,bi 4 .lss 3 0,mv 5 4,Gf 5 (mv 6 0),Gf 5 (bi 7 .geq 6 64),po 8 5 7] [0,8]
 (cr 8 [mc 2 (.int .u64 0)] [2]))
 (rt [mv 9 0,it 10 (.bin .shl (.c (.int .u64 1)) (.t 9)),mv 2 10] [2]))
def f465:Zi:=⟨false,[.tmp 2],b465,none,false⟩
def ZDC:Zd:=sr [bt 25 .lss 24 23] [1,2,4,5,22,23,24,25]
 (wh 25 0
 (.seq (.blk 1 (sr [mv 26 24,ia 27 2 22 24,la 28 2 27,al 7 (.agg [.bool false,.int .u64 0]),mv 6 26,st 2 7 28] [1,2,4,5,6,7,22,23,24]
 (sr [fa 29 4 1,ld 30 29,mv 31 6,ia 32 5 30 31,la 33 5 32,al 8 (.agg [.str [],.sl 2 [] .nl,.sl 3 [] .nl,.sl 7 [] .nl,.int .i64 0]),i0 (.store 5 true (.t 8) (.t 33))] [1,2,4,5,6,7,8,22,23,24]
 (sd [E (fa 34 0 4) 0,D (fa 36 0 7) 2 0,D (fa 40 1 4) 6 0,D (fa 42 1 7) 8 0,E (ld 35 34) 1,D (ld 37 36) 3 4,D (it 38 (.buildSl 1 [.t 37])) 4 12,D (ld 41 40) 7 64,D (ld 43 42) 9 256,D (it 44 (.buildSl 1 [.t 43])) 10 768,⟨⟨some 39,.app 1 1 false (.t 35) (.t 38),none⟩,5,31,[7,8]⟩,D (fa 46 0 4) 12 255,E (it 45 (.app 1 8 false (.t 41) (.t 44))) 11,E (st 1 46 39) 13,E (fa 47 1 4) 14,E (st 1 47 45) 15] [1,2,4,5,6,7,8,22,23,24]
 (.seq (sr [fa 48 0 7,ld 49 48,nt 50 49] [1,2,4,5,6,7,8,22,23,24,50]
 (.cond (.t 50) (.exit 1)
 (.skip)))
 (sr [la 51 5 8,fa 52 1 7,ld 53 52,ct 54 472 [51,53],mv 9 54] [1,2,4,5,6,8,9,22,23,24]
 (.seq (sr [la 55 5 8,mv 56 9,ct 57 475 [55,56],mv 10 57] [1,2,4,5,6,8,9,10,22,23,24]
 (sr [mv 58 10,bi 59 .geq 58 0] [1,2,4,5,6,8,9,10,22,23,24,59]
 (cr 59 [it 60 (.build [.sl 1 [] .nl,.sl 1 [] .nl,.int .u64 0,.bool false,.int .i64 0,.int .i64 0] []),mv 61 6,mv 62 10,it 63 (.build [.int .i64 0,.int .i64 0,.int .i64 0,.int .i64 0] [(0,1,.c (.int .i64 4)),(1,1,.t 61),(2,1,.t 62),(3,1,.c (.int .i64 11))]),bx 64 63,it 65 (.mkif 149 (.t 64)),st 6 2 60,mv 3 65] [2,3])))
 (sr [la 66 5 8,ct 67 478 [66],cl 68 1169 [.t 67,.c (.int .i64 (-1))]] [1,2,4,5,9,22,23,24,68]
 (.cond (.t 68) (.reg [la 69 2 5,mv 70 9,ct 71 329 [69,70],st 2 5 71] [1,2,4,5,22,23,24])
 (.skip))))))))))
 (.reg [bi 72 .add 24 1,mv 24 72] [1,2,4,5,22,23,24])))
def ZDA:Zd:=ZDC
def b468:Zd:=sr [bx 1 0,al 2 (.agg [.sl 1 [] .nl,.sl 1 [] .nl,.int .u64 0,.bool false,.int .i64 0,.int .i64 0]),mc 3 (.nili)] [1,2]
 (.seq (sr [la 11 18 1,ct 12 481 [11],it 13 (.isnil .i true (.t 12))] [1,2,13]
 (cr 13 [it 14 (.build [.sl 1 [] .nl,.sl 1 [] .nl,.int .u64 0,.bool false,.int .i64 0,.int .i64 0] []),it 15 (.build [.int .i64 0,.int .i64 0,.int .i64 0,.int .i64 0] [(3,1,.c (.int .i64 1))]),bx 16 15,it 17 (.mkif 149 (.t 16)),st 6 2 14,mv 3 17] [2,3]))
 (sr [al 4 (.agg [.sl 1 [] .nl,.sl 1 [] .nl,.int .u64 0,.bool false,.int .i64 0,.int .i64 0])] [1,2,4]
 (sr [la 18 18 1,ct 19 460 [18],it 20 (.build [.bool false,.int .u64 0] [(1,1,.t 19)]),al 5 (.agg [.bool false,.int .u64 0]),st 2 5 20] [1,2,4,5]
 (.seq (sr [la 21 18 1,ct 22 474 [21],ln 23 22,mi 24 0] [1,2,4,5,22,23,24]
 (.blk 0 (.loop [1,2,4,5,22,23,24] (ZDA))))
 (sd [E (fa 73 1 5) 0,D (fa 75 0 5) 2 0,E (ld 74 73) 1,D (fa 77 2 4) 4 3,D (ld 76 75) 3 4,⟨⟨none,.store 1 false (.t 77) (.t 74),none⟩,5,19,[4]⟩,E (fa 78 3 4) 6,E (st 1 78 76) 7] [1,2,4]
 (sr [la 80 18 1,ct 81 477 [80],mv 79 81,ex 82 79 0,ex 83 79 1,fa 84 4 4,st 1 84 82,fa 85 5 4,st 1 85 83] [2,4]
 (rt [la 86 6 4,st 6 2 86,mc 3 (.nili)] [2,3])))))))
def f468:Zi:=⟨false,[.cell 2 true 6,.tmp 3],b468,none,false⟩
def ZDY:Zd:=sr [bt 11 .lss 10 9] [1,8,9,10,11]
 (wh 11 0
 (.seq (.blk 1 (sr [ia 12 2 8 10,la 13 2 12,al 6 (.agg [.int .i64 0,.int .i64 0]),st 2 6 13] [1,6,8,9,10]
 (sr [fa 14 0 6,ld 15 14,bi 16 .eql 15 0] [1,6,8,9,10,16]
 (.cond (.t 16) (.reg [mv 17 1,fa 18 1 6,ld 19 18,ct 20 326 [17,19],mv 1 20] [1,8,9,10])
 (.skip)))))
 (.reg [bi 21 .add 10 1,mv 10 21] [1,8,9,10])))
def ZEM:Zd:=ZDY
def b472:Zd:=sr [bx 2 0,mc 4 (.int .u64 0)] [1,2]
 (.seq (sr [fa 7 1 2,ld 8 7,ln 9 8,mi 10 0] [1,8,9,10]
 (.blk 0 (.loop [1,8,9,10] (ZEM))))
 (rt [mv 22 1,mv 4 22] [4]))
def f472:Zi:=⟨false,[.tmp 4],b472,none,false⟩
def ZDU:Zd:=sr [bt 20 .lss 19 18] [2,3,6,17,18,19,20]
 (wh 20 0
 (.seq (.blk 1 (sr [ia 21 2 17 19,la 22 2 21,al 8 (.agg [.int .i64 0,.int .i64 0]),st 2 8 22] [2,3,6,8,17,18,19]
 (sr [fa 23 0 8,ld 24 23] [2,3,6,8,17,18,19,24]
 (.blk 2 (sr [bi 30 .eql 24 0,mv 29 30] [2,3,6,8,17,18,19,24,29]
 (.cond (.t 29) (sr [la 32 18 2,fa 33 1 8,ld 34 33,ct 35 493 [32,34],mv 31 35,ex 36 31 0,ex 37 31 1,al 9 (.agg [.str [],.sl 2 [] .nl,.int .i64 0,.int .i64 0,.int .i64 0,.int .i64 0]),i0 (.store 6 true (.t 9) (.t 36)),mv 10 37] [2,3,6,9,17,18,19]
 (.reg [mv 38 6,la 39 6 9,ct 40 642 [39],bt 41 .add 38 40,mv 6 41] [2,3,6,17,18,19]))
 (sr [bi 43 .eql 24 1,mv 42 43] [2,3,6,8,17,18,19,42]
 (.cond (.t 42) (sr [la 45 18 2,fa 46 1 8,ld 47 46,ct 48 494 [45,47],mv 44 48,ex 49 44 0,ex 50 44 1,ex 51 44 2,mv 11 49,mv 12 50,mv 13 51] [2,3,6,11,17,18,19]
 (sr [la 53 18 2,mv 54 11,ct 55 493 [53,54],mv 52 55,ex 56 52 0,ex 57 52 1,al 14 (.agg [.str [],.sl 2 [] .nl,.int .i64 0,.int .i64 0,.int .i64 0,.int .i64 0]),i0 (.store 6 true (.t 14) (.t 56)),mv 15 57] [2,3,6,14,17,18,19]
 (.reg [mv 58 6,la 59 6 14,ct 60 642 [59],bt 61 .add 58 60,mv 6 61] [2,3,6,17,18,19])))
 (.reg [mv 25 6,fa 26 1 8,ld 27 26,bt 28 .add 25 27,mv 6 28] [2,3,6,17,18,19])))))))))
 (.reg [bi 62 .add 19 1,mv 19 62] [2,3,6,17,18,19])))
def ZEE:Zd:=ZDU
def b473:Zd:=sr [bx 2 0,bx 3 1,mi 4 0,mi 5 0] [2,3]
 (sr [mi 6 0] [2,3,6]
 (.seq (sr [fa 16 1 3,ld 17 16,ln 18 17,mi 19 0] [2,3,6,17,18,19]
 (.blk 0 (.loop [2,3,6,17,18,19] (ZEE))))
 (sd [E (mv 63 6) 0,D (fa 64 1 3) 1 0,D (mv 4 63) 5 1,D (ld 65 64) 2 2,D (ln 66 65) 3 6,D (it 67 (.bin .add (.c (.int .i64 1)) (.t 66))) 4 14,E (mv 5 67) 6] [4,5]
 (.ret))))
def f473:Zi:=⟨false,[.tmp 4,.tmp 5],b473,none,false⟩
def ZD9:Zd:=.seq (sr [la 11 18 1,mv 12 3,ct 13 479 [11,12]] [1,3,13]
 (.cond (.t 13) (.skip)
 (.exit 0)))
 (.blk 1 (.skip))
def ZED:Zd:=ZD9
def b474:Zd:=sr [bx 1 0,mc 2 (.sl 2 [] .nl)] [1]
 (sr [fa 4 4 1,ld 5 4,ln 6 5,it 7 (.mksl (.agg [.bool false,.int .u64 0]) 16 (.t 6) (.t 6)),mv 3 7] [1,3]
 (sr [mv 8 3,it 9 (.iaddr 2 (.t 8) (.c (.int .i64 0))),fa 10 0 9,i0 (.store 1 false (.t 10) (.c (.bool true)))] [1,3]
 (.seq (.blk 0 (.loop [1,3] (ZED)))
 (rt [mv 14 3,mv 2 14] [2]))))
def f474:Zi:=⟨false,[.tmp 2],b474,none,false⟩
def b475:Zd:=sr [bx 2 0,bx 3 1,mi 4 0] [2,3]
 (rt [fa 5 2 2,ld 6 5,it 7 (.mkfn 476 [] [.t 3]),ct 8 1198 [6,7],mv 4 8] [4])
def f475:Zi:=⟨false,[.tmp 4],b475,none,false⟩
def b476:Zd:=sr [bx 2 0,mc 3 (.bool false)] [1,2]
 (rt [fa 4 0 2,ld 5 4,bi 6 .eql 5 0,mv 7 6,Gt 7 (ld 8 1),Gt 7 (fa 9 1 2),Gt 7 (ld 10 9),Gt 7 (ct 11 324 [8,10]),Gt 7 (nt 12 11),pa 13 7 12,mv 3 13] [3])
def f476:Zi:=⟨false,[.tmp 3],b476,none,false⟩
def ZDW:Zd:=sr [bt 68 .lss 67 66] [1,4,5,6,7,12,13,14,16,17,49,50,57,58,59,65,66,67,68]
 (wh 68 6
 (.seq (.blk 7 (sr [ia 69 1 65 67,ld 70 69,mv 19 70] [1,4,5,6,7,12,13,14,16,17,19,49,50,57,58,59,65,66,67]
 (sr [mv 71 19,bi 72 .geq 71 0] [1,4,5,6,7,12,13,14,16,17,19,49,50,57,58,59,65,66,67,72]
 (.cond (.t 72) (.drw [E (mv 73 16) 0,D (mv 74 4) 1 0,D (mv 75 19) 2 0,D (ia 76 1 74 75) 3 6,D (mv 79 17) 6 0,D (mv 80 5) 7 0,D (mv 81 19) 8 0,D (ia 82 1 80 81) 9 384,D (ld 77 76) 4 14,E (it 78 (.mx [.t 73,.t 77])) 5,D (mv 16 78) 12 63,D (ld 83 82) 10 896,D (it 84 (.mx [.t 79,.t 83])) 11 1984,E (mv 17 84) 13] [1,4,5,6,7,12,13,14,16,17,49,50,57,58,59,65,66,67])
 (.skip)))))
 (.reg [bi 85 .add 67 1,mv 67 85] [1,4,5,6,7,12,13,14,16,17,49,50,57,58,59,65,66,67])))
def ZEG:Zd:=ZDW
def ZD7:Zd:=sr [bt 60 .lss 59 58] [1,4,5,6,7,12,13,49,50,57,58,59,60]
 (wh 60 4
 (.seq (.blk 5 (sr [mv 61 59,ia 62 5 57 59,la 63 5 62,al 15 (.agg [.str [],.sl 2 [] .nl,.sl 3 [] .nl,.sl 7 [] .nl,.int .i64 0]),mv 14 61,i0 (.store 5 true (.t 15) (.t 63))] [1,4,5,6,7,12,13,14,15,49,50,57,58,59]
 (sr [mi 16 0,mi 17 0] [1,4,5,6,7,12,13,14,15,16,17,49,50,57,58,59]
 (.seq (sr [la 64 5 15,ct 65 478 [64],ln 66 65,mi 67 0] [1,4,5,6,7,12,13,14,16,17,49,50,57,58,59,65,66,67]
 (.blk 6 (.loop [1,4,5,6,7,12,13,14,16,17,49,50,57,58,59,65,66,67] (ZEG))))
 (.drw [E (mv 86 12) 0,D (mv 87 14) 1 0,D (mv 88 13) 2 0,D (mv 89 14) 3 0,D (mv 90 6) 4 0,D (mv 91 14) 5 0,D (ia 92 1 90 91) 6 48,D (mv 94 16) 8 0,D (mv 96 7) 10 0,D (mv 97 14) 11 0,D (ia 98 1 96 97) 12 3072,D (mv 100 17) 14 0,D (ld 93 92) 7 112,D (bt 95 .add 93 94) 9 496,D (ld 99 98) 13 7168,D (bt 101 .add 99 100) 15 31744,D (ia 102 1 86 87) 16 16371,D (st 1 102 95) 17 81907,E (ia 103 1 88 89) 18,E (st 1 103 101) 19] [1,4,5,6,7,12,13,49,50,57,58,59])))))
 (.reg [bi 104 .add 59 1,mv 59 104] [1,4,5,6,7,12,13,49,50,57,58,59])))
def ZEL:Zd:=ZD7
def ZD8:Zd:=sr [bt 51 .lss 50 49] [1,4,5,6,7,49,50,51]
 (wh 51 2
 (.seq (.blk 3 (sr [mv 52 4,ct 53 1149 [52],mv 54 5,ct 55 1149 [54],mv 12 53,mv 13 55] [1,4,5,6,7,12,13,49,50]
 (.seq (sr [fa 56 4 1,ld 57 56,ln 58 57,mi 59 0] [1,4,5,6,7,12,13,49,50,57,58,59]
 (.blk 4 (.loop [1,4,5,6,7,12,13,49,50,57,58,59] (ZEL))))
 (.reg [mv 105 12,mv 106 13,mv 4 105,mv 5 106] [1,4,5,6,7,49,50]))))
 (.reg [bi 107 .add 50 1,mv 50 107] [1,4,5,6,7,49,50])))
def ZEC:Zd:=ZD8
def ZD3:Zd:=sr [bt 24 .lss 23 22] [1,4,5,6,7,21,22,23,24]
 (wh 24 0
 (.seq (.blk 1 (sr [ia 25 5 21 23,la 26 5 25,al 9 (.agg [.str [],.sl 2 [] .nl,.sl 3 [] .nl,.sl 7 [] .nl,.int .i64 0]),i0 (.store 5 true (.t 9) (.t 26))] [1,4,5,6,7,9,21,22,23]
 (sr [la 28 18 1,la 29 5 9,ct 30 473 [28,29],mv 27 30,ex 31 27 0,ex 32 27 1,mv 10 31,mv 11 32] [1,4,5,6,7,10,11,21,22,23]
 (sr [mv 33 4,it 34 (.buildSl 1 [.c (.int .i64 0)]),it 35 (.app 1 8 false (.t 33) (.t 34)),mv 36 5,it 37 (.buildSl 1 [.c (.int .i64 0)]),it 38 (.app 1 8 false (.t 36) (.t 37)),mv 4 35,mv 5 38] [1,4,5,6,7,10,11,21,22,23]
 (.reg [mv 39 6,mv 40 10,it 41 (.buildSl 1 [.t 40]),it 42 (.app 1 8 false (.t 39) (.t 41)),mv 43 7,mv 44 11,it 45 (.buildSl 1 [.t 44]),it 46 (.app 1 8 false (.t 43) (.t 45)),mv 6 42,mv 7 46] [1,4,5,6,7,21,22,23])))))
 (.reg [bi 47 .add 23 1,mv 23 47] [1,4,5,6,7,21,22,23])))
def ZEQ:Zd:=ZD3
def b477:Zd:=sr [bx 1 0,mi 2 0,mi 3 0] [1]
 (sr [it 4 (.nilacc 1),it 5 (.nilacc 1),it 6 (.nilacc 1),it 7 (.nilacc 1)] [1,4,5,6,7]
 (.seq (sr [fa 20 4 1,ld 21 20,ln 22 21,mi 23 0] [1,4,5,6,7,21,22,23]
 (.blk 0 (.loop [1,4,5,6,7,21,22,23] (ZEQ))))
 (.seq (sr [fa 48 16 1,ld 49 48,mi 50 0] [1,4,5,6,7,49,50]
 (.blk 2 (.loop [1,4,5,6,7,49,50] (ZEC))))
 (sd [E (mv 108 4) 0,E (it 109 (.iaddr 1 (.t 108) (.c (.int .i64 0)))) 1,D (mv 111 5) 3 0,D (it 112 (.iaddr 1 (.t 111) (.c (.int .i64 0)))) 4 8,E (ld 110 109) 2,D (mv 2 110) 6 7,D (ld 113 112) 5 24,E (mv 3 113) 7] [2,3]
 (.ret)))))
def f477:Zi:=⟨false,[.tmp 2,.tmp 3],b477,none,false⟩
def ZDR:Zd:=sr [bt 13 .lss 12 11] [3,10,11,12,13]
 (wh 13 0
 (.seq (.blk 1 (sr [ia 14 7 10 12,la 15 7 14,al 5 (.agg [.int .i64 0,.int .u64 0,.int .u64 0,.int .i64 0,.int .u64 0,.int .u64 0,.int .i64 0]),st 7 5 15] [3,5,10,11,12]
 (.reg [mv 16 3,fa 17 6 5,ld 18 17,it 19 (.buildSl 1 [.t 18]),it 20 (.app 1 8 false (.t 16) (.t 19)),mv 3 20] [3,10,11,12])))
 (.reg [bi 21 .add 12 1,mv 12 21] [3,10,11,12])))
def ZD4:Zd:=ZDR
def b478:Zd:=sr [bx 1 0,mc 2 (.sl 1 [] .nl)] [1]
 (sr [fa 6 4 1,ld 7 6,it 8 (.buildSl 1 [.t 7]),mv 3 8] [1,3]
 (.seq (sr [fa 9 3 1,ld 10 9,ln 11 10,mi 12 0] [3,10,11,12]
 (.blk 0 (.loop [3,10,11,12] (ZD4))))
 (rt [mv 22 3,mv 2 22] [2])))
def f478:Zi:=⟨false,[.tmp 2],b478,none,false⟩
def ZDQ:Zd:=sr [bt 37 .lss 36 35] [1,5,8,13,14,15,34,35,36,37]
 (wh 37 2
 (.seq (.blk 3 (sr [ia 38 1 34 36,ld 39 38,mv 10 39] [1,5,8,10,13,14,15,34,35,36]
 (.seq (sr [mv 40 10,bi 41 .lss 40 0] [1,5,8,10,13,14,15,34,35,36,41]
 (.cond (.t 41) (.exit 3)
 (.skip)))
 (sr [mv 42 1,mv 43 10,ia 44 2 42 43,la 45 2 44,mv 46 8,ct 47 329 [45,46],al 11 (.agg [.bool false,.int .u64 0]),st 2 11 47] [1,5,8,10,11,13,14,15,34,35,36]
 (sd [D (mv 49 1) 1 0,D (mv 50 10) 2 0,D (ia 51 2 49 50) 3 6,E (la 48 2 11) 0,D (la 52 2 51) 4 14,E (it 53 (.eq true (some [.b,.i]) (.t 48) (.t 52))) 5] [1,5,8,10,11,13,14,15,34,35,36,53]
 (.cond (.t 53) (.reg [mv 54 1,mv 55 10,la 56 2 11,ia 57 2 54 55,st 2 57 56,mc 5 (.bool true)] [1,5,8,13,14,15,34,35,36])
 (.skip)))))))
 (.reg [bi 58 .add 36 1,mv 36 58] [1,5,8,13,14,15,34,35,36])))
def ZEB:Zd:=ZDQ
def ZDZ:Zd:=sr [bt 16 .lss 15 14] [1,5,13,14,15,16]
 (wh 16 0
 (.seq (.blk 1 (sr [mv 17 15,ia 18 5 13 15,la 19 5 18,al 7 (.agg [.str [],.sl 2 [] .nl,.sl 3 [] .nl,.sl 7 [] .nl,.int .i64 0]),mv 6 17,i0 (.store 5 true (.t 7) (.t 19))] [1,5,6,7,13,14,15]
 (.seq (sr [mv 20 1,mv 21 6,ia 22 2 20 21,fa 23 0 22,ld 24 23,nt 25 24] [1,5,6,7,13,14,15,25]
 (.cond (.t 25) (.exit 1)
 (.skip)))
 (sd [D (mv 27 1) 1 0,D (mv 28 6) 2 0,D (ia 29 2 27 28) 3 6,D (fa 30 1 29) 4 14,E (la 26 5 7) 0,D (ld 31 30) 5 30,E (ct 32 472 [26,31]) 6,E (mv 8 32) 7] [1,5,7,8,13,14,15]
 (sr [la 33 5 7,ct 34 478 [33],ln 35 34,mi 36 0] [1,5,8,13,14,15,34,35,36]
 (.blk 2 (.loop [1,5,8,13,14,15,34,35,36] (ZEB))))))))
 (.reg [bi 59 .add 15 1,mv 15 59] [1,5,13,14,15])))
def ZEP:Zd:=ZDZ
def b479:Zd:=sr [bx 2 0,mc 4 (.bool false)] [1,2]
 (sr [mc 5 (.bool false)] [1,2,5]
 (.seq (sr [fa 12 4 2,ld 13 12,ln 14 13,mi 15 0] [1,5,13,14,15]
 (.blk 0 (.loop [1,5,13,14,15] (ZEP))))
 (rt [mv 60 5,mv 4 60] [4])))
def f479:Zi:=⟨true,[.tmp 4],b479,none,false⟩
def ZcC:Zd:=sr [bi 11 .lss 10 15] [3,10,11]
 (wh 11 0
 (.seq (.blk 1 (sr [mv 12 10,mv 4 12] [3,4,10]
 (sr [mv 14 3,mv 15 4,ct 16 133 [14,15],mv 13 16,ex 17 13 0,ex 18 13 1,mv 5 17,mv 6 18] [3,4,5,6,10]
 (sr [mv 19 6,bi 20 .neq 19 0] [3,4,5,6,10,20]
 (cr 20 [mv 21 4,mv 22 5,mv 23 6,it 24 (.build [.int .i64 0,.int .i64 0,.int .i64 0] [(0,1,.t 21),(1,1,.t 22),(2,1,.t 23)]),bx 25 24,it 26 (.mkif 121 (.t 25)),mv 2 26] [2])))))
 (.reg [bi 27 .add 10 1,mv 10 27] [3,10])))
def Zgb:Zd:=ZcC
def b481:Zd:=sr [bx 1 0,mc 2 (.nili)] [1]
 (sr [la 7 18 1,it 8 (.build [.str [],.sl 6 [] .nl,.sl 3 [] .nl,.sl 2 [] .nl,.sl 5 [] .nl,.sl 3 [] .nl,.sl 7 [] .nl,.sl 6 [] .nl,.sl 6 [] .nl,.sl 1 [] .nl,.sl 2 [] .nl,.sl 2 [] .nl,.sl 3 [] .nl,.sl 2 [] .nl,.sl 4 [] .nl,.int .i64 0,.int .i64 0,.int .i64 0] [(0,18,.t 7)]),bx 9 8,mv 3 9] [3]
 (.seq (sr [mi 10 0] [3,10]
 (.blk 0 (.loop [3,10] (Zgb))))
 (rt [mc 2 (.nili)] [2])))
def f481:Zi:=⟨false,[.tmp 2],b481,none,false⟩
def b489:Zd:=sr [bx 3 0,mi 6 0,mc 7 (.bool false)] [1,2,3]
 (sr [la 11 18 3,mv 12 1,ct 13 493 [11,12],mv 10 13,ex 14 10 0,ex 15 10 1,al 8 (.agg [.str [],.sl 2 [] .nl,.int .i64 0,.int .i64 0,.int .i64 0,.int .i64 0]),i0 (.store 6 true (.t 8) (.t 14)),mv 9 15] [2,8,9]
 (.seq (sr [mv 16 9,nt 17 16,mv 18 17,Gf 18 (mv 19 2),Gf 18 (fa 20 1 8),Gf 18 (ld 21 20),Gf 18 (ln 22 21),Gf 18 (bi 23 .sub 22 1),Gf 18 (cl 24 522 [.t 19,.c (.int .i64 0),.t 23]),Gf 18 (nt 25 24),po 26 18 25] [2,8,26]
 (cr 26 [mi 6 0,mc 7 (.bool false)] [6,7]))
 (rt [fa 27 1 8,ld 28 27,mv 29 2,ia 30 2 28 29,fa 31 1 30,ld 32 31,mv 6 32,mc 7 (.bool true)] [6,7])))
def f489:Zi:=⟨false,[.tmp 6,.tmp 7],b489,none,false⟩
def Zca:Zd:=sr [bt 14 .lss 13 12] [2,6,11,12,13,14]
 (wh 14 0
 (.seq (.blk 1 (sr [ia 15 3 11 13,la 16 3 15,al 8 (.agg [.int .i64 0,.int .i64 0,.int .i64 0]),st 3 8 16] [2,6,8,11,12,13]
 (sr [la 18 18 2,la 19 3 8,ct 20 510 [18,19],mv 17 20,ex 21 17 0,ex 22 17 1,mv 9 21,mv 10 22] [2,6,9,10,11,12,13]
 (.seq (sr [mv 23 10,nt 24 23,mv 25 24,Gf 25 (mv 26 9),Gf 25 (mv 27 6),Gf 25 (it 28 (.bin .sub (.c (.int .i64 128)) (.t 27))),Gf 25 (cl 29 522 [.t 26,.c (.int .i64 1),.t 28]),Gf 25 (nt 30 29),po 31 25 30] [2,6,9,11,12,13,31]
 (cr 31 [mi 4 0,mc 5 (.bool false)] [4,5]))
 (.reg [mv 32 6,mv 33 9,bt 34 .add 32 33,mv 6 34] [2,6,11,12,13])))))
 (.reg [bi 35 .add 13 1,mv 13 35] [2,6,11,12,13])))
def ZgV:Zd:=Zca
def b490:Zd:=sr [bx 2 0,mi 4 0,mc 5 (.bool false)] [1,2]
 (sr [mi 6 0] [1,2,6]
 (.seq (sr [mv 11 1,ln 12 11,mi 13 0] [2,6,11,12,13]
 (.blk 0 (.loop [2,6,11,12,13] (ZgV))))
 (rt [mv 36 6,mv 4 36,mc 5 (.bool true)] [4,5])))
def f490:Zi:=⟨false,[.tmp 4,.tmp 5],b490,none,false⟩
def b491:Zd:=sr [bx 2 0,mi 4 0,mc 5 (.bool false)] [1,2]
 (.seq (.blk 0 (sr [mv 7 1,cl 8 522 [.t 7,.c (.int .i64 0),.c (.int .i64 7)],mv 6 8] [1,2,6]
 (.cond (.t 6) (rt [ct 9 508 [],mv 10 1,it 11 (.idxA 8 1 false (.t 9) (.t 10)),mv 4 11,mc 5 (.bool true)] [4,5])
 (sr [mv 13 1,bi 14 .geq 13 0,mv 15 14,Gt 15 (mv 16 1),Gt 15 (bi 17 .sub 16 8),Gt 15 (fa 18 3 2),Gt 15 (ld 19 18),Gt 15 (ln 20 19),Gt 15 (bt 21 .lss 17 20),pa 22 15 21,mv 12 22] [1,2,12]
 (cr 12 [fa 23 3 2,ld 24 23,mv 25 1,bi 26 .sub 25 8,ia 27 2 24 26,fa 28 1 27,ld 29 28,mv 4 29,mc 5 (.bool true)] [4,5])))))
 (rt [mi 4 0,mc 5 (.bool false)] [4,5]))
def f491:Zi:=⟨false,[.tmp 4,.tmp 5],b491,none,false⟩
def b493:Zd:=sr [bx 2 0,al 4 (.agg [.str [],.sl 2 [] .nl,.int .i64 0,.int .i64 0,.int .i64 0,.int .i64 0]),mc 5 (.bool false)] [1,2,4]
 (rt [fa 6 1 2,ld 7 6,fa 8 2 2,ld 9 8,mv 10 1,ct 11 639 [7,9,10],ex 12 11 0,ex 13 11 1,i0 (.store 6 true (.t 4) (.t 12)),mv 5 13] [4,5])
def f493:Zi:=⟨false,[.cell 4 true 6,.tmp 5],b493,none,false⟩
def b494:Zd:=sr [bx 2 0,mi 4 0,mi 5 0,mc 6 (.bool false)] [1,2]
 (sr [fa 10 2 2,ld 11 10,mv 12 1,ct 13 638 [11,12],mv 9 13,ex 14 9 0,ex 15 9 1,mv 7 14,mv 8 15] [1,2,7,8]
 (.seq (sr [mv 16 8,nt 17 16,mv 18 17,Gf 18 (fa 19 2 2),Gf 18 (ld 20 19),Gf 18 (mv 21 1),Gf 18 (ia 22 3 20 21),Gf 18 (fa 23 2 22),Gf 18 (ld 24 23),Gf 18 (bi 25 .eql 24 0),po 26 18 25] [1,2,7,26]
 (cr 26 [mi 4 0,mi 5 0,mc 6 (.bool false)] [4,5,6]))
 (sd [E (mv 27 7) 0,D (fa 28 2 2) 1 0,D (mv 30 1) 3 0,D (mv 4 27) 7 1,D (ld 29 28) 2 2,D (ia 31 3 29 30) 4 14,D (fa 32 2 31) 5 30,D (ld 33 32) 6 62,E (mv 5 33) 8,E (mc 6 (.bool true)) 9] [4,5,6]
 (.ret))))
def f494:Zi:=⟨false,[.tmp 4,.tmp 5,.tmp 6],b494,none,false⟩
def Zc9:Zd:=sr [bt 15 .lss 14 13] [2,13,14,15]
 (wh 15 0
 (.seq (.blk 1 (sr [mv 16 14,mv 8 16] [2,8,13,14]
 (sr [mv 17 2,mv 18 8,it 19 (.calld true (.t 17) [.t 18]),mv 9 19] [2,8,9,13,14]
 (sr [mv 20 9,bi 21 .neq 20 0] [2,8,9,13,14,21]
 (cr 21 [mv 22 8,mv 23 9,mv 6 22,mv 7 23] [6,7])))))
 (.reg [bi 24 .add 14 1,mv 14 24] [2,13,14])))
def Zhr:Zd:=Zc9
def b501:Zd:=sr [mi 6 0,mi 7 0] [0,1,2]
 (.seq (sr [mv 10 0,mv 11 1,bt 12 .gtr 10 11] [0,2,12]
 (cr 12 [mi 6 0,mi 7 2] [6,7]))
 (.seq (sr [mv 13 0,mi 14 0] [2,13,14]
 (.blk 0 (.loop [2,13,14] (Zhr))))
 (rt [mi 6 0,mi 7 0] [6,7])))
def f501:Zi:=⟨false,[.tmp 6,.tmp 7],b501,none,false⟩
def ZdR:Zd:=sr [bt 8 .lss 7 6] [5,6,7,8]
 (wh 8 0
 (.seq (.blk 1 (sr [ia 9 1 5 7,ld 10 9,mv 4 10] [4,5,6,7]
 (sr [mv 11 4,bi 12 .neq 11 0] [4,5,6,7,12]
 (cr 12 [mv 13 4,mv 2 13] [2]))))
 (.reg [bi 14 .add 7 1,mv 7 14] [5,6,7])))
def ZgN:Zd:=ZdR
def b507:Zd:=sr [mi 2 0] [0]
 (.seq (sr [mv 5 0,ln 6 5,mi 7 0] [5,6,7]
 (.blk 0 (.loop [5,6,7] (ZgN))))
 (rt [mi 2 0] [2]))
def f507:Zi:=⟨false,[.tmp 2],b507,none,false⟩
def b508:Zd:=sr [al 0 (.agg [.int .i64 0,.int .i64 0,.int .i64 0,.int .i64 0,.int .i64 0,.int .i64 0,.int .i64 0,.int .i64 0])] [0]
 (rt [it 1 (.build [.int .i64 0,.int .i64 0,.int .i64 0,.int .i64 0,.int .i64 0,.int .i64 0,.int .i64 0,.int .i64 0] [(0,1,.c (.int .i64 8)),(1,1,.c (.int .i64 8)),(2,1,.c (.int .i64 8)),(3,1,.c (.int .i64 1)),(4,1,.c (.int .i64 8)),(5,1,.c (.int .i64 1)),(6,1,.c (.int .i64 16)),(7,1,.c (.int .i64 8))]),st 8 0 1] [0])
def f508:Zi:=⟨false,[.cell 0 true 8],b508,none,false⟩
def b509:Zd:=sr [mi 2 0] [0]
 (rt [mv 3 0,cl 4 522 [.t 3,.c (.int .i64 1),.c (.int .i64 8)],cl 5 521 [.t 4,.c (.int .i64 7)],mv 2 5] [2])
def f509:Zi:=⟨false,[.tmp 2],b509,none,false⟩
def b510:Zd:=sr [bx 2 0,bx 3 1,mi 4 0,mc 5 (.bool false)] [2,3]
 (.seq (sr [fa 6 0 3,ld 7 6] [2,3,7]
 (.blk 0 (sr [bi 9 .eql 7 0,mv 8 9] [2,3,7,8]
 (.cond (.t 8) (rt [la 10 18 2,fa 11 1 3,ld 12 11,fa 13 2 3,ld 14 13,ct 15 489 [10,12,14],ex 16 15 0,ex 17 15 1,mv 4 16,mv 5 17] [4,5])
 (sr [bi 19 .eql 7 1,mv 18 19] [2,3,7,18]
 (.cond (.t 18) (rt [la 20 18 2,fa 21 1 3,ld 22 21,ct 23 491 [20,22],ex 24 23 0,ex 25 23 1,mv 4 24,mv 5 25] [4,5])
 (sr [bi 27 .eql 7 2,mv 26 27] [3,26]
 (.cond (.t 26) (sd [E (fa 28 2 3) 0,D (fa 30 1 3) 2 0,E (ld 29 28) 1,D (ld 31 30) 3 4,D (cl 32 522 [.t 31,.c (.int .i64 0),.c (.int .i64 1024)]) 4 12,D (mv 33 32) 5 28,D (Gt 33 (fa 34 2 3)) 6 60,D (Gt 33 (ld 35 34)) 7 124,D (Gt 33 (cl 36 522 [.t 35,.c (.int .i64 1),.c (.int .i64 64)])) 8 252,D (pa 37 33 36) 9 508,D (mv 4 29) 10 511,E (mv 5 37) 11] [4,5]
 (.ret))
 (.skip)))))))))
 (rt [mi 4 0,mc 5 (.bool false)] [4,5]))
def f510:Zi:=⟨false,[.tmp 4,.tmp 5],b510,none,false⟩
def Zb4:Zd:=sr [bt 20 .lss 19 18] [1,5,18,19,20]
 (wh 20 0
 (.seq (.blk 1 (sr [mv 21 19,mv 7 21] [1,5,7,18,19]
 (sr [mv 22 1,mv 23 7,it 24 (.calld true (.t 22) [.t 23]),mv 25 5,ct 26 554 [24,25]] [1,5,18,19,26]
 (cr 26 [mi 4 6] [4]))))
 (.reg [bi 27 .add 19 1,mv 19 27] [1,5,18,19])))
def Zhb:Zd:=Zb4
def b520:Zd:=sr [mi 4 0] [0,1]
 (sr [mv 8 1,mv 9 0,it 10 (.calld true (.t 8) [.t 9]),mv 5 10] [0,1,5]
 (.seq (sr [mv 11 5,it 12 (.build [.str [],.int .i64 0] [(0,1,.c (.str [120])),(1,1,.c (.int .i64 8))]),it 13 (.buildSl 2 [.t 12]),it 14 (.build [.str [],.sl 2 [] .nl,.int .i64 0,.int .i64 0,.int .i64 0,.int .i64 0] [(0,1,.t 11),(1,1,.t 13)]),ct 15 641 [14],mv 6 15] [0,1,5,6]
 (sr [mv 16 6,bi 17 .neq 16 0] [0,1,5,17]
 (cr 17 [mi 4 4] [4])))
 (.seq (sr [mv 18 0,mi 19 0] [1,5,18,19]
 (.blk 0 (.loop [1,5,18,19] (Zhb))))
 (rt [mi 4 0] [4]))))
def f520:Zi:=⟨false,[.tmp 4],b520,none,false⟩
def b521:Zd:=sr [mi 4 0] [0,1]
 (.seq (sr [mv 5 0] [1,5]
 (cr 5 [mi 4 0] [4]))
 (rt [mv 6 1,mv 4 6] [4]))
def f521:Zi:=⟨false,[.tmp 4],b521,none,false⟩
def b522:Zd:=sr [mc 6 (.bool false)] [0,1,2]
 (rt [mv 7 0,mv 8 1,bt 9 .geq 7 8,mv 10 9,Gt 10 (mv 11 0),Gt 10 (mv 12 2),Gt 10 (bt 13 .leq 11 12),pa 14 10 13,mv 6 14] [6])
def f522:Zi:=⟨false,[.tmp 6],b522,none,false⟩
def b554:Zd:=sr [mc 4 (.bool false)] [0,1]
 (rt [mv 5 0,ct 6 560 [5],mv 7 1,ct 8 560 [7],bt 9 .eql 6 8,mv 4 9] [4])
def f554:Zi:=⟨false,[.tmp 4],b554,none,false⟩
def b556:Zd:=sr [mc 2 (.bool false)] [0]
 (rt [mv 3 0,cl 4 564 [.t 3,.c (.int .i32 48),.c (.int .i32 57)],mv 2 4] [2])
def f556:Zi:=⟨false,[.tmp 2],b556,none,false⟩
def b557:Zd:=sr [mc 2 (.int .i32 0)] [0]
 (.seq (.blk 0 (sr [mv 4 0,ct 5 561 [4],nt 6 5,mv 3 6] [0,3]
 (.cond (.t 3) (rt [mv 7 0,mv 2 7] [2])
 (sr [mv 9 0,cl 10 564 [.t 9,.c (.int .i32 65),.c (.int .i32 90)],mv 11 10,Gf 11 (mv 12 0),Gf 11 (cl 13 564 [.t 12,.c (.int .i32 192),.c (.int .i32 222)]),po 14 11 13,mv 15 14,Gf 15 (mv 16 0),Gf 15 (cl 17 564 [.t 16,.c (.int .i32 913),.c (.int .i32 937)]),po 18 15 17,mv 19 18,Gf 19 (mv 20 0),Gf 19 (cl 21 564 [.t 20,.c (.int .i32 1040),.c (.int .i32 1071)]),po 22 19 21,mv 8 22] [0,8]
 (.cond (.t 8) (rt [mv 23 0,it 24 (.bin .add (.t 23) (.c (.int .i32 32))),mv 2 24] [2])
 (sr [mv 26 0,cl 27 564 [.t 26,.c (.int .i32 1024),.c (.int .i32 1039)],mv 25 27] [0,25]
 (.cond (.t 25) (rt [mv 28 0,it 29 (.bin .add (.t 28) (.c (.int .i32 80))),mv 2 29] [2])
 (sr [mv 31 0,it 32 (.bin .eql (.t 31) (.c (.int .i32 962))),mv 30 32] [0,30]
 (cr 30 [mc 2 (.int .i32 963)] [2])))))))))
 (rt [mv 33 0,mv 2 33] [2]))
def f557:Zi:=⟨false,[.tmp 2],b557,none,false⟩
def b558:Zd:=sr [mi 4 0] [0,1]
 (sr [mv 6 1,ct 7 560 [6],al 5 (.str []),st 1 5 7] [0,5]
 (rt [mv 8 0,it 9 (.mkfn 559 [] [.t 5]),ct 10 1203 [8,9],mv 4 10] [4]))
def f558:Zi:=⟨false,[.tmp 4],b558,none,false⟩
def b559:Zd:=sr [mc 3 (.bool false)] [0,1]
 (sd [E (mv 4 0) 0,D (ld 6 1) 2 0,E (ct 5 560 [4]) 1,E (bt 7 .eql 5 6) 3,E (mv 3 7) 4] [3]
 (.ret))
def f559:Zi:=⟨false,[.tmp 3],b559,none,false⟩
def b561:Zd:=sr [mc 2 (.bool false)] [0]
 (.seq (.blk 0 (sr [mv 4 0,it 5 (.bin .eql (.t 4) (.c (.int .i32 215))),mv 6 5,Gf 6 (mv 7 0),Gf 6 (it 8 (.bin .eql (.t 7) (.c (.int .i32 247)))),po 9 6 8,mv 10 9,Gf 10 (mv 11 0),Gf 10 (it 12 (.bin .eql (.t 11) (.c (.int .i32 930)))),po 13 10 12,mv 3 13] [0,3]
 (.cond (.t 3) (rt [mc 2 (.bool false)] [2])
 (sr [mv 15 0,cl 16 564 [.t 15,.c (.int .i32 65),.c (.int .i32 90)],mv 17 16,Gf 17 (mv 18 0),Gf 17 (cl 19 564 [.t 18,.c (.int .i32 97),.c (.int .i32 122)]),po 20 17 19,mv 21 20,Gf 21 (mv 22 0),Gf 21 (it 23 (.bin .eql (.t 22) (.c (.int .i32 95)))),po 24 21 23,mv 14 24] [0,14]
 (cr 14 [mc 2 (.bool true)] [2])))))
 (rt [mv 25 0,cl 26 564 [.t 25,.c (.int .i32 192),.c (.int .i32 591)],mv 27 26,Gf 27 (mv 28 0),Gf 27 (cl 29 564 [.t 28,.c (.int .i32 913),.c (.int .i32 969)]),po 30 27 29,mv 31 30,Gf 31 (mv 32 0),Gf 31 (cl 33 564 [.t 32,.c (.int .i32 1024),.c (.int .i32 1279)]),po 34 31 33,mv 2 34] [2]))
def f561:Zi:=⟨false,[.tmp 2],b561,none,false⟩
def ZdU:Zd:=sr [it 8 (.nxt (.t 7)),ex 9 8 0] [3,7,8,9]
 (wh 9 0
 (.blk 1 (sr [ex 10 8 2,mv 5 10] [3,5,7]
 (.seq (sr [mv 11 5,ct 12 561 [11],nt 13 12,mv 14 13,Gt 14 (mv 15 3),Gt 14 (bi 16 .eql 15 0),Gt 14 (mv 17 16),Gf 17 (mv 18 5),Gf 17 (ct 19 556 [18]),Gf 17 (nt 20 19),Gf 17 (mv 21 20),Gt 21 (mv 22 5),Gt 21 (it 23 (.bin .neq (.t 22) (.c (.int .i32 45)))),Gf 17 (pa 24 21 23),Gf 17 (mv 25 24),Gt 25 (mv 26 5),Gt 25 (it 27 (.bin .neq (.t 26) (.c (.int .i32 46)))),Gf 17 (pa 28 25 27),Gt 14 (po 29 17 28),pa 30 14 29] [3,7,30]
 (cr 30 [mc 2 (.bool false)] [2]))
 (.reg [mv 31 3,bi 32 .add 31 1,mv 3 32] [3,7])))))
def ZgP:Zd:=ZdU
def b562:Zd:=sr [mc 2 (.bool false)] [0]
 (sr [mi 3 0] [0,3]
 (.seq (sr [mv 6 0,it 7 (.rng (.t 6))] [3,7]
 (.blk 0 (.loop [3,7] (ZgP))))
 (rt [mv 33 3,bi 34 .geq 33 1,mv 35 34,Gt 35 (mv 36 3),Gt 35 (bi 37 .leq 36 24),pa 38 35 37,mv 2 38] [2])))
def f562:Zi:=⟨false,[.tmp 2],b562,none,false⟩
def b564:Zd:=sr [mc 6 (.bool false)] [0,1,2]
 (rt [mv 7 0,mv 8 1,bt 9 .geq 7 8,mv 10 9,Gt 10 (mv 11 0),Gt 10 (mv 12 2),Gt 10 (bt 13 .leq 11 12),pa 14 10 13,mv 6 14] [6])
def f564:Zi:=⟨false,[.tmp 6],b564,none,false⟩
def b636:Zd:=sr [bx 1 0,mi 2 0] [1]
 (.seq (sr [la 5 6 1,ct 6 641 [5],bi 7 .neq 6 0] [1,7]
 (cr 7 [mi 2 0] [2]))
 (sr [la 9 6 1,fa 10 1 1,ld 11 10,ln 12 11,ct 13 647 [9,12],mv 8 13,ex 14 8 0,ex 15 8 1,mv 3 14,mv 4 15] [3]
 (rt [mv 16 3,mv 2 16] [2])))
def f636:Zi:=⟨false,[.tmp 2],b636,none,false⟩
def b637:Zd:=sr [bx 1 0,mi 2 0] [1]
 (rt [la 3 6 1,ct 4 636 [3],bi 5 .quo 4 8,mv 2 5] [2])
def f637:Zi:=⟨false,[.tmp 2],b637,none,false⟩
def b638:Zd:=sr [mi 4 0,mc 5 (.bool false)] [0,1]
 (.seq (sr [mv 6 1,mv 7 0,ln 8 7,bi 9 .sub 8 1,cl 10 652 [.t 6,.c (.int .i64 0),.t 9],nt 11 10,mv 12 11,Gf 12 (mv 13 0),Gf 12 (mv 14 1),Gf 12 (ia 15 3 13 14),Gf 12 (la 16 3 15),Gf 12 (ct 17 649 [16]),Gf 12 (bi 18 .eql 17 0),po 19 12 18] [0,1,19]
 (cr 19 [mi 4 0,mc 5 (.bool false)] [4,5]))
 (rt [mv 20 0,mv 21 1,it 22 (.slice 3 (.t 20) none (some (.t 21)) none),ct 23 645 [22],mv 4 23,mc 5 (.bool true)] [4,5]))
def f638:Zi:=⟨false,[.tmp 4,.tmp 5],b638,none,false⟩
def b639:Zd:=sr [al 6 (.agg [.str [],.sl 2 [] .nl,.int .i64 0,.int .i64 0,.int .i64 0,.int .i64 0]),mc 7 (.bool false)] [0,1,2,6]
 (sr [mv 12 1,mv 13 2,ct 14 643 [12,13],mv 11 14,ex 15 11 0,ex 16 11 1,ex 17 11 2,mv 8 15,mv 9 16,mv 10 17] [0,1,6,8,10]
 (.seq (sr [mv 18 10,nt 19 18,mv 20 19,Gf 20 (mv 21 1),Gf 20 (mv 22 8),Gf 20 (ia 23 3 21 22),Gf 20 (fa 24 1 23),Gf 20 (ld 25 24),Gf 20 (mv 26 0),Gf 20 (ln 27 26),Gf 20 (bi 28 .sub 27 1),Gf 20 (cl 29 652 [.t 25,.c (.int .i64 0),.t 28]),Gf 20 (nt 30 29),po 31 20 30] [0,1,6,8,31]
 (cr 31 [it 32 (.build [.str [],.sl 2 [] .nl,.int .i64 0,.int .i64 0,.int .i64 0,.int .i64 0] []),i0 (.store 6 true (.t 6) (.t 32)),mc 7 (.bool false)] [6,7]))
 (rt [mv 33 0,mv 34 1,mv 35 8,ia 36 3 34 35,fa 37 1 36,ld 38 37,ia 39 6 33 38,la 40 6 39,i0 (.store 6 true (.t 6) (.t 40)),mc 7 (.bool true)] [6,7])))
def f639:Zi:=⟨false,[.cell 6 true 6,.tmp 7],b639,none,false⟩
def Zcd:Zd:=sr [bt 14 .lss 13 12] [0,1,5,11,12,13,14]
 (wh 14 0
 (.seq (.blk 1 (sr [ia 15 3 11 13,la 16 3 15,al 7 (.agg [.str [],.int .i64 0,.int .i64 0]),st 3 7 16] [0,1,5,7,11,12,13]
 (.seq (.blk 2 (sr [fa 18 0 7,ld 19 18,ct 20 650 [19],nt 21 20,mv 17 21] [0,1,5,7,11,12,13,17]
 (.cond (.t 17) (rt [mi 4 4] [4])
 (sr [mv 23 5,fa 24 0 7,ld 25 24,ct 26 558 [23,25],bi 27 .geq 26 0,mv 22 27] [0,1,5,7,11,12,13,22]
 (.cond (.t 22) (rt [mi 4 6] [4])
 (sr [fa 29 1 7,ld 30 29,mv 31 0,ln 32 31,bi 33 .sub 32 1,cl 34 652 [.t 30,.c (.int .i64 0),.t 33],nt 35 34,mv 28 35] [0,1,5,7,11,12,13,28]
 (.cond (.t 28) (rt [mi 4 5] [4])
 (sr [fa 37 2 7,ld 38 37,cl 39 652 [.t 38,.c (.int .i64 0),.c (.int .i64 4)],nt 40 39,mv 36 40] [0,1,5,7,11,12,13,36]
 (cr 36 [mi 4 7] [4])))))))))
 (.reg [mv 41 5,fa 42 0 7,ld 43 42,it 44 (.buildSl 1 [.t 43]),it 45 (.app 1 16 false (.t 41) (.t 44)),mv 5 45] [0,1,5,11,12,13]))))
 (.reg [bi 46 .add 13 1,mv 13 46] [0,1,5,11,12,13])))
def ZhG:Zd:=Zcd
def b640:Zd:=sr [mi 4 0] [0,1]
 (.seq (sr [mv 8 1,ln 9 8,bi 10 .gtr 9 16] [0,1,10]
 (cr 10 [mi 4 2] [4]))
 (sr [it 5 (.nilacc 1)] [0,1,5]
 (.seq (sr [mv 11 1,ln 12 11,mi 13 0] [0,1,5,11,12,13]
 (.blk 0 (.loop [0,1,5,11,12,13] (ZhG))))
 (.seq (sr [mv 47 1,ct 48 645 [47],bi 49 .gtr 48 32] [49]
 (cr 49 [mi 4 8] [4]))
 (rt [mi 4 0] [4])))))
def f640:Zi:=⟨false,[.tmp 4],b640,none,false⟩
def b641:Zd:=sr [bx 1 0,mi 2 0] [1]
 (.seq (.blk 0 (sr [fa 5 0 1,ld 6 5,ct 7 650 [6],nt 8 7,mv 4 8] [1,4]
 (.cond (.t 4) (rt [mi 2 4] [2])
 (sr [fa 10 1 1,ld 11 10,ln 12 11,bi 13 .gtr 12 16,mv 9 13] [1,9]
 (.cond (.t 9) (rt [mi 2 2] [2])
 (sr [fa 15 1 1,ld 16 15,ln 17 16,bi 18 .eql 17 0,mv 14 18] [1,14]
 (cr 14 [mi 2 5] [2])))))))
 (.seq (sr [fa 19 1 1,ld 20 19,ct 21 648 [20],mv 3 21] [1,3]
 (sr [mv 22 3,bi 23 .neq 22 0] [1,3,23]
 (cr 23 [mv 24 3,mv 2 24] [2])))
 (.seq (sr [la 25 6 1,ct 26 651 [25],nt 27 26] [27]
 (cr 27 [mi 2 7] [2]))
 (rt [mi 2 0] [2]))))
def f641:Zi:=⟨false,[.tmp 2],b641,none,false⟩
def b642:Zd:=sr [bx 1 0,mi 2 0] [1]
 (.seq (sr [la 3 6 1,ct 4 641 [3],bi 5 .neq 4 0] [1,5]
 (cr 5 [mi 2 0] [2]))
 (sd [D (fa 8 2 1) 2 0,E (la 6 6 1) 0,D (ld 9 8) 3 4,E (ct 7 637 [6]) 1,E (bt 10 .add 7 9) 4,E (mv 2 10) 5] [2]
 (.ret)))
def f642:Zi:=⟨false,[.tmp 2],b642,none,false⟩
def Zb2:Zd:=sr [bt 14 .lss 13 12] [1,11,12,13,14]
 (wh 14 0
 (.seq (.blk 1 (sr [mv 15 13,ia 16 3 11 13,la 17 3 16,al 8 (.agg [.str [],.int .i64 0,.int .i64 0]),mv 7 15,st 3 8 17] [1,7,8,11,12,13]
 (.seq (sr [mv 18 1,la 19 3 8,ct 20 649 [19],bt 21 .lss 18 20] [1,7,8,11,12,13,21]
 (cr 21 [mv 22 7,mv 23 1,mv 4 22,mv 5 23,mc 6 (.bool true)] [4,5,6]))
 (.reg [mv 24 1,la 25 3 8,ct 26 649 [25],bt 27 .sub 24 26,mv 1 27] [1,11,12,13]))))
 (.reg [bi 28 .add 13 1,mv 13 28] [1,11,12,13])))
def Zga:Zd:=Zb2
def b643:Zd:=sr [mi 4 0,mi 5 0,mc 6 (.bool false)] [0,1]
 (.seq (sr [mv 9 1,bi 10 .lss 9 0] [0,1,10]
 (cr 10 [mi 4 0,mi 5 0,mc 6 (.bool false)] [4,5,6]))
 (.seq (sr [mv 11 0,ln 12 11,mi 13 0] [1,11,12,13]
 (.blk 0 (.loop [1,11,12,13] (Zga))))
 (rt [mi 4 0,mi 5 0,mc 6 (.bool false)] [4,5,6])))
def f643:Zi:=⟨false,[.tmp 4,.tmp 5,.tmp 6],b643,none,false⟩
def b644:Zd:=sr [bx 2 0,mi 4 0,mc 5 (.bool false)] [1,2]
 (.seq (sr [la 6 6 2,ct 7 641 [6],bi 8 .neq 7 0,mv 9 8,Gf 9 (mv 10 1),Gf 9 (fa 11 1 2),Gf 9 (ld 12 11),Gf 9 (ln 13 12),Gf 9 (bi 14 .sub 13 1),Gf 9 (cl 15 652 [.t 10,.c (.int .i64 0),.t 14]),Gf 9 (nt 16 15),po 17 9 16] [1,2,17]
 (cr 17 [mi 4 0,mc 5 (.bool false)] [4,5]))
 (rt [la 18 6 2,mv 19 1,ct 20 647 [18,19],ex 21 20 0,ex 22 20 1,mv 4 21,mv 5 22] [4,5]))
def f644:Zi:=⟨false,[.tmp 4,.tmp 5],b644,none,false⟩
def Zef:Zd:=sr [bt 9 .lss 8 7] [3,6,7,8,9]
 (wh 9 0
 (.seq (.blk 1 (sr [ia 10 3 6 8,la 11 3 10,al 5 (.agg [.str [],.int .i64 0,.int .i64 0]),st 3 5 11] [3,5,6,7,8]
 (.reg [mv 12 3,la 13 3 5,ct 14 649 [13],bt 15 .add 12 14,mv 3 15] [3,6,7,8])))
 (.reg [bi 16 .add 8 1,mv 8 16] [3,6,7,8])))
def ZgR:Zd:=Zef
def b645:Zd:=sr [mi 2 0] [0]
 (sr [mi 3 0] [0,3]
 (.seq (sr [mv 6 0,ln 7 6,mi 8 0] [3,6,7,8]
 (.blk 0 (.loop [3,6,7,8] (ZgR))))
 (rt [mv 17 3,mv 2 17] [2])))
def f645:Zi:=⟨false,[.tmp 2],b645,none,false⟩
def Zd6:Zd:=sr [bt 10 .lss 9 8] [2,6,8,9,10]
 (wh 10 0
 (.seq (.blk 1 (sr [mv 11 9,mv 7 11] [2,6,7,8,9]
 (.reg [mv 12 6,fa 13 1 2,ld 14 13,mv 15 7,ia 16 2 14 15,fa 17 1 16,ld 18 17,bt 19 .add 12 18,mv 6 19] [2,6,8,9])))
 (.reg [bi 20 .add 9 1,mv 9 20] [2,6,8,9])))
def ZgE:Zd:=Zd6
def b647:Zd:=sr [bx 2 0,mi 4 0,mc 5 (.bool false)] [1,2]
 (sr [mi 6 0] [1,2,6]
 (.seq (sr [mv 8 1,mi 9 0] [2,6,8,9]
 (.blk 0 (.loop [2,6,8,9] (ZgE))))
 (rt [mv 21 6,mv 4 21,mc 5 (.bool true)] [4,5])))
def f647:Zi:=⟨false,[.tmp 4,.tmp 5],b647,none,false⟩
def ZdG:Zd:=sr [bt 10 .lss 9 8] [3,4,7,8,9,10]
 (wh 10 0
 (.seq (.blk 1 (sr [ia 11 2 7 9,la 12 2 11,al 6 (.agg [.str [],.int .i64 0]),st 2 6 12] [3,4,6,7,8,9]
 (.seq (.blk 2 (sr [fa 14 0 6,ld 15 14,ct 16 650 [15],nt 17 16,mv 13 17] [3,4,6,7,8,9,13]
 (.cond (.t 13) (rt [mi 2 4] [2])
 (sr [mv 19 3,fa 20 0 6,ld 21 20,ct 22 558 [19,21],bi 23 .geq 22 0,mv 18 23] [3,4,6,7,8,9,18]
 (.cond (.t 18) (rt [mi 2 6] [2])
 (sr [fa 25 1 6,ld 26 25,cl 27 652 [.t 26,.c (.int .i64 1),.c (.int .i64 128)],nt 28 27,mv 24 28] [3,4,6,7,8,9,24]
 (cr 24 [mi 2 9] [2])))))))
 (sr [mv 29 3,fa 30 0 6,ld 31 30,it 32 (.buildSl 1 [.t 31]),it 33 (.app 1 16 false (.t 29) (.t 32)),mv 3 33] [3,4,6,7,8,9]
 (.reg [mv 34 4,fa 35 1 6,ld 36 35,bt 37 .add 34 36,mv 4 37] [3,4,7,8,9])))))
 (.reg [bi 38 .add 9 1,mv 9 38] [3,4,7,8,9])))
def Zhv:Zd:=ZdG
def b648:Zd:=sr [mi 2 0] [0]
 (sr [it 3 (.nilacc 1)] [0,3]
 (sr [mi 4 0] [0,3,4]
 (.seq (sr [mv 7 0,ln 8 7,mi 9 0] [3,4,7,8,9]
 (.blk 0 (.loop [3,4,7,8,9] (Zhv))))
 (.seq (sr [mv 39 4,bi 40 .rem 39 8,bi 41 .neq 40 0] [41]
 (cr 41 [mi 2 9] [2]))
 (rt [mi 2 0] [2])))))
def f648:Zi:=⟨false,[.tmp 2],b648,none,false⟩
def b649:Zd:=sr [bx 1 0,mi 2 0] [1]
 (.seq (sr [fa 3 2 1,ld 4 3,cl 5 652 [.t 4,.c (.int .i64 0),.c (.int .i64 4)],nt 6 5] [1,6]
 (cr 6 [mi 2 0] [2]))
 (rt [fa 7 2 1,ld 8 7,it 9 (.mx [.t 8,.c (.int .i64 1)]),mv 2 9] [2]))
def f649:Zi:=⟨false,[.tmp 2],b649,none,false⟩
def b650:Zd:=sr [mc 2 (.bool false)] [0]
 (rt [mv 3 0,ct 4 562 [3],mv 5 4,Gt 5 (mv 6 0),Gt 5 (cl 7 1234 [.t 6,.c (.str [46])]),Gt 5 (nt 8 7),pa 9 5 8,mv 2 9] [2])
def f650:Zi:=⟨false,[.tmp 2],b650,none,false⟩
def b651:Zd:=sr [bx 1 0,mc 2 (.bool false)] [1]
 (.seq (sr [fa 3 2 1,ld 4 3,bi 5 .eql 4 0] [1,5]
 (cr 5 [fa 6 3 1,ld 7 6,bi 8 .eql 7 0,mv 9 8,Gt 9 (fa 10 4 1),Gt 9 (ld 11 10),Gt 9 (bi 12 .eql 11 0),pa 13 9 12,mv 14 13,Gt 14 (fa 15 5 1),Gt 14 (ld 16 15),Gt 14 (bi 17 .eql 16 0),pa 18 14 17,mv 2 18] [2]))
 (rt [fa 19 2 1,ld 20 19,cl 21 652 [.t 20,.c (.int .i64 1),.c (.int .i64 64)],mv 22 21,Gt 22 (fa 23 3 1),Gt 22 (ld 24 23),Gt 22 (fa 25 1 1),Gt 22 (ld 26 25),Gt 22 (ln 27 26),Gt 22 (bi 28 .sub 27 1),Gt 22 (cl 29 652 [.t 24,.c (.int .i64 0),.t 28]),pa 30 22 29,mv 31 30,Gt 31 (fa 32 1 1),Gt 31 (ld 33 32),Gt 31 (fa 34 3 1),Gt 31 (ld 35 34),Gt 31 (ia 36 2 33 35),Gt 31 (fa 37 1 36),Gt 31 (ld 38 37),Gt 31 (bi 39 .leq 38 16),pa 40 31 39,mv 41 40,Gt 41 (fa 42 4 1),Gt 41 (ld 43 42),Gt 41 (cl 44 652 [.t 43,.c (.int .i64 1),.c (.int .i64 64)]),pa 45 41 44,mv 46 45,Gt 46 (fa 47 5 1),Gt 46 (ld 48 47),Gt 46 (cl 49 652 [.t 48,.c (.int .i64 0),.c (.int .i64 4096)]),pa 50 46 49,mv 2 50] [2]))
def f651:Zi:=⟨false,[.tmp 2],b651,none,false⟩
def b652:Zd:=sr [mc 6 (.bool false)] [0,1,2]
 (rt [mv 7 0,mv 8 1,bt 9 .geq 7 8,mv 10 9,Gt 10 (mv 11 0),Gt 10 (mv 12 2),Gt 10 (bt 13 .leq 11 12),pa 14 10 13,mv 6 14] [6])
def f652:Zi:=⟨false,[.tmp 6],b652,none,false⟩
def ZKD:Zd:=.seq (sr [mv 134 15,mv 135 14,ln 136 135,bt 137 .lss 134 136] [1,3,5,6,11,12,13,14,15,137]
 (.cond (.t 137) (.skip)
 (.exit 4)))
 (.seq (.blk 5 (sr [mv 140 14,mv 141 15,ia 142 1 140 141,ld 143 142,bi 144 .eql 143 (-1),mv 145 144,Gt 145 (mv 146 5),Gt 145 (mv 147 13),Gt 145 (ia 148 1 146 147),Gt 145 (ld 149 148),pa 150 145 149] [1,3,5,6,11,12,13,14,15,150]
 (.cond (.t 150) (sr [mc 12 (.bool true)] [1,3,5,6,11,12,13,14,15]
 (.drw [D (fa 152 4 1) 1 0,D (mv 154 13) 3 0,D (mv 157 6) 6 0,D (mv 158 13) 7 0,D (ia 159 64 157 158) 8 192,E (la 151 64 11) 0,D (ld 153 152) 2 2,D (ia 155 5 153 154) 4 14,D (la 156 5 155) 5 30,D (la 160 64 159) 9 448,D (ct 161 909 [156,160]) 10 1022,E (ct 162 902 [151,161]) 11,E (st 64 11 162) 12] [1,3,5,6,11,12,13,14,15]))
 (.skip))))
 (.reg [mv 138 15,bi 139 .add 138 1,mv 15 139] [1,3,5,6,11,12,13,14,15]))
def ZLA:Zd:=ZKD
def ZK2:Zd:=.seq (sr [mv 99 13,mv 100 5,ln 101 100,bt 102 .lss 99 101] [1,3,5,6,11,12,13,102]
 (.cond (.t 102) (.skip)
 (.exit 2)))
 (.seq (.blk 3 (.seq (sd [E (fa 105 0 3) 0,D (mv 107 13) 2 0,D (mv 110 5) 5 0,D (mv 111 13) 6 0,D (ia 112 1 110 111) 7 96,E (ld 106 105) 1,E (ia 108 1 106 107) 3,E (ld 109 108) 4,D (ld 113 112) 8 224,E (it 114 (.eq true none (.t 109) (.t 113))) 9,E (mv 115 114) 10,E (Gf 115 (fa 116 1 3)) 11,D (Gf 115 (mv 118 13)) 13 2047,D (Gf 115 (mv 122 6)) 17 2047,D (Gf 115 (mv 123 13)) 18 2047,D (Gf 115 (ia 124 64 122 123)) 19 395263,E (Gf 115 (ld 117 116)) 12,E (Gf 115 (ia 119 1 117 118)) 14,E (Gf 115 (ld 120 119)) 15,D (Gf 115 (la 125 64 124)) 20 919551,E (Gf 115 (ct 121 905 [120])) 16,E (Gf 115 (it 126 (.eq true (some (List.replicate 64 .b)) (.t 121) (.t 125)))) 21,E (po 127 115 126) 22] [1,3,5,6,11,12,13,127]
 (cr 127 [mc 2 (.bool false)] [2]))
 (sr [fa 128 4 1,ld 129 128,mv 130 13,ia 131 5 129 130,la 132 5 131,ct 133 912 [132],mv 14 133] [1,3,5,6,11,12,13,14]
 (sr [mi 15 0] [1,3,5,6,11,12,13,14,15]
 (.blk 4 (.loop [1,3,5,6,11,12,13,14,15] (ZLA)))))))
 (.reg [mv 103 13,bi 104 .add 103 1,mv 13 104] [1,3,5,6,11,12,13]))
def ZLF:Zd:=ZK2
def ZKE:Zd:=.seq (sr [mv 29 7,mv 30 5,ln 31 30,bt 32 .lss 29 31] [1,3,4,5,6,7,32]
 (.cond (.t 32) (.skip)
 (.exit 0)))
 (.seq (.blk 1 (sr [mi 8 (-1)] [1,3,4,5,6,7,8]
 (.seq (sr [mv 35 5,mv 36 7,ia 37 1 35 36,ld 38 37] [1,3,4,5,6,7,8,38]
 (.cond (.t 38) (.drw [E (fa 39 4 1) 0,D (mv 41 7) 2 0,D (fa 44 4 1) 5 0,D (mv 46 7) 7 0,D (mv 49 6) 10 0,D (mv 50 7) 11 0,D (ia 51 64 49 50) 12 3072,E (ld 40 39) 1,E (ia 42 5 40 41) 3,E (la 43 5 42) 4,D (ld 45 44) 6 32,D (ia 47 5 45 46) 8 224,D (la 48 5 47) 9 480,D (la 52 64 51) 13 7168,D (ct 53 909 [48,52]) 14 16352,E (ct 54 910 [43,53]) 15,E (mv 8 54) 16] [1,3,4,5,6,7,8])
 (.skip)))
 (sr [mv 55 8,bi 56 .geq 55 0] [1,3,4,5,6,7,8,56]
 (.cond (.t 56) (sr [mv 58 4,ct 59 1028 [58],mv 57 59,ex 60 57 0,ex 61 57 1,al 9 (.agg [.int .i64 0,.int .i64 0,.int .i64 0,.int .i64 0]),st 4 9 60,mv 10 61] [3,7,8,9,10]
 (rt [mv 62 10,mv 63 62,Gt 63 (la 64 4 9),Gt 63 (mv 65 7),Gt 63 (mv 66 8),Gt 63 (it 67 (.build [.int .i64 0,.int .i64 0,.int .i64 0,.int .i64 0] [(0,1,.c (.int .i64 4)),(1,1,.t 65),(2,1,.t 66),(3,1,.c (.int .i64 11))])),Gt 63 (it 68 (.eq false (some [.i,.i,.i,.i]) (.t 64) (.t 67))),pa 69 63 68,mv 70 69,Gt 70 (fa 71 0 3),Gt 70 (ld 72 71),Gt 70 (ln 73 72),Gt 70 (bi 74 .eql 73 0),pa 75 70 74,mv 76 75,Gt 76 (ct 77 707 []),pa 78 76 77,mv 2 78] [2]))
 (.skip))))))
 (.reg [mv 33 7,bi 34 .add 33 1,mv 7 34] [1,3,4,5,6,7]))
def ZKA:Zd:=ZKE
def b703:Zd:=sr [bx 1 0,mc 2 (.bool false)] [1]
 (.seq (sr [la 16 18 1,ct 17 708 [16],nt 18 17] [1,18]
 (cr 18 [ct 19 707 [],mv 2 19] [2]))
 (sr [la 21 18 1,ct 22 468 [21],mv 20 22,ex 23 20 0,ex 24 20 1,al 3 (.agg [.sl 1 [] .nl,.sl 1 [] .nl,.int .u64 0,.bool false,.int .i64 0,.int .i64 0]),st 6 3 23,mv 4 24] [1,3,4]
 (sd [E (la 25 18 1) 0,D (la 27 18 1) 2 0,E (ct 26 913 [25]) 1,E (ct 28 914 [27]) 3,E (mv 5 26) 4,E (mv 6 28) 5] [1,3,4,5,6]
 (.seq (sr [mi 7 0] [1,3,4,5,6,7]
 (.blk 0 (.loop [1,3,4,5,6,7] (ZKA))))
 (.seq (sr [mv 79 4,it 80 (.isnil .i true (.t 79)),mv 81 80,Gf 81 (fa 82 0 3),Gf 81 (ld 83 82),Gf 81 (ln 84 83),Gf 81 (mv 85 5),Gf 81 (ln 86 85),Gf 81 (bt 87 .neq 84 86),po 88 81 87,mv 89 88,Gf 89 (fa 90 1 3),Gf 89 (ld 91 90),Gf 89 (ln 92 91),Gf 89 (mv 93 5),Gf 89 (ln 94 93),Gf 89 (bt 95 .neq 92 94),po 96 89 95] [1,3,5,6,96]
 (cr 96 [mc 2 (.bool false)] [2]))
 (sr [la 97 18 1,ct 98 908 [97],al 11 (.agg (rp 64 (.bool false))),st 64 11 98,mc 12 (.bool false)] [1,3,5,6,11,12]
 (.seq (sr [mi 13 0] [1,3,5,6,11,12,13]
 (.blk 2 (.loop [1,3,5,6,11,12,13] (ZLF))))
 (sd [E (fa 163 3 3) 0,D (mv 165 12) 2 0,E (ld 164 163) 1,E (it 166 (.eq false none (.t 164) (.t 165))) 3,E (mv 167 166) 4,E (Gt 167 (fa 168 2 3)) 5,E (Gt 167 (ld 169 168)) 6,D (Gt 167 (la 171 64 11)) 8 31,E (Gt 167 (ct 170 905 [169])) 7,E (Gt 167 (it 172 (.eq false (some (List.replicate 64 .b)) (.t 170) (.t 171)))) 9,E (pa 173 167 172) 10,E (mv 174 173) 11,E (Gt 174 (ct 175 707 [])) 12,E (pa 176 174 175) 13,E (mv 2 176) 14] [2]
 (.ret)))))))))
def f703:Zi:=⟨false,[.tmp 2],b703,none,false⟩
def b707:Zd:=sr [mc 0 (.bool false)] []
 (sr [ct 4 709 [],ct 5 468 [4],mv 3 5,ex 6 3 0,ex 7 3 1,al 1 (.agg [.sl 1 [] .nl,.sl 1 [] .nl,.int .u64 0,.bool false,.int .i64 0,.int .i64 0]),st 6 1 6,mv 2 7] [1,2]
 (rt [mv 8 2,it 9 (.isnil .i false (.t 8)),mv 10 9,Gt 10 (fa 11 2 1),Gt 10 (ld 12 11),Gt 10 (bu 13 .eql 12 1),pa 14 10 13,mv 15 14,Gt 15 (fa 16 3 1),Gt 15 (ld 17 16),pa 18 15 17,mv 19 18,Gt 19 (fa 20 4 1),Gt 19 (ld 21 20),Gt 19 (bi 22 .eql 21 2),pa 23 19 22,mv 24 23,Gt 24 (fa 25 5 1),Gt 24 (ld 26 25),Gt 24 (bi 27 .eql 26 2),pa 28 24 27,mv 0 28] [0]))
def f707:Zi:=⟨false,[.tmp 0],b707,none,false⟩
def b708:Zd:=sr [bx 1 0,mc 2 (.bool false)] [1]
 (.seq (sr [fa 6 1 1,ld 7 6,ln 8 7,fa 9 2 1,ld 10 9,ln 11 10,bt 12 .add 8 11,fa 13 4 1,ld 14 13,ln 15 14,bt 16 .add 12 15,fa 17 5 1,ld 18 17,ln 19 18,bt 20 .add 16 19,fa 21 6 1,ld 22 21,ln 23 22,bt 24 .add 20 23,fa 25 7 1,ld 26 25,ln 27 26,bt 28 .add 24 27,fa 29 8 1,ld 30 29,ln 31 30,bt 32 .add 28 31,bi 33 .gtr 32 150] [1,33]
 (cr 33 [mc 2 (.bool false)] [2]))
 (sr [la 35 18 1,ct 36 828 [35],mv 34 36,ex 37 34 0,ex 38 34 1,ex 39 34 2,mv 3 37,mv 4 38,mv 5 39] [5]
 (rt [mv 40 5,bi 41 .eql 40 0,mv 2 41] [2])))
def f708:Zi:=⟨false,[.tmp 2],b708,none,false⟩
def b709:Zd:=sr [al 0 (.agg [.str [],.sl 6 [] .nl,.sl 3 [] .nl,.sl 2 [] .nl,.sl 5 [] .nl,.sl 3 [] .nl,.sl 7 [] .nl,.sl 6 [] .nl,.sl 6 [] .nl,.sl 1 [] .nl,.sl 2 [] .nl,.sl 2 [] .nl,.sl 3 [] .nl,.sl 2 [] .nl,.sl 4 [] .nl,.int .i64 0,.int .i64 0,.int .i64 0])] [0]
 (rt [it 1 (.build [.str [],.int .i64 0] [(0,1,.c (.str [97])),(1,1,.c (.int .i64 16))]),it 2 (.buildSl 2 [.t 1]),it 3 (.build [.str [],.sl 2 [] .nl,.int .i64 0,.int .i64 0,.int .i64 0,.int .i64 0] [(0,1,.c (.str [104])),(1,1,.t 2)]),it 4 (.buildSl 6 [.t 3]),it 5 (.build [.str [],.int .i64 0,.int .i64 0] [(0,1,.c (.str [120]))]),it 6 (.buildSl 3 [.t 5]),it 7 (.build [.int .i64 0,.int .i64 0] []),it 8 (.buildSl 2 [.t 7]),it 9 (.build [.str [],.sl 2 [] .nl,.sl 3 [] .nl,.sl 7 [] .nl,.int .i64 0] [(0,1,.c (.str [115])),(1,1,.t 8),(4,1,.c (.int .i64 (-1)))]),it 10 (.buildSl 5 [.t 9]),it 11 (.build [.str [],.sl 6 [] .nl,.sl 3 [] .nl,.sl 2 [] .nl,.sl 5 [] .nl,.sl 3 [] .nl,.sl 7 [] .nl,.sl 6 [] .nl,.sl 6 [] .nl,.sl 1 [] .nl,.sl 2 [] .nl,.sl 2 [] .nl,.sl 3 [] .nl,.sl 2 [] .nl,.sl 4 [] .nl,.int .i64 0,.int .i64 0,.int .i64 0] [(0,1,.c (.str [109])),(1,1,.t 4),(2,1,.t 6),(4,1,.t 10),(15,1,.c (.int .i64 1)),(16,1,.c (.int .i64 1))]),i0 (.store 18 true (.t 0) (.t 11))] [0])
def f709:Zi:=⟨false,[.cell 0 true 18],b709,none,false⟩
def ZcO:Zd:=.seq (sr [mv 7 6,bi 8 .geq 7 0] [1,4,5,6,8]
 (.cond (.t 8) (.skip)
 (.exit 0)))
 (.seq (.blk 1 (sr [mv 11 4,it 12 (.bin .mul (.c (.int .u64 2)) (.t 11)),mv 4 12] [1,4,5,6]
 (sr [mv 13 5,it 14 (.bin .mul (.c (.int .u64 2)) (.t 13)),mv 5 14] [1,4,5,6]
 (.seq (sr [mv 15 6,bi 16 .add 15 64,it 17 (.iaddrA 128 1 (.t 1) (.t 16)),ld 18 17] [1,4,5,6,18]
 (.cond (.t 18) (.reg [mv 19 4,bu 20 .add 19 1,mv 4 20] [1,4,5,6])
 (.skip)))
 (sr [mv 21 6,it 22 (.iaddrA 128 1 (.t 1) (.t 21)),ld 23 22] [1,4,5,6,23]
 (.cond (.t 23) (.reg [mv 24 5,bu 25 .add 24 1,mv 5 25] [1,4,5,6])
 (.skip)))))))
 (.reg [mv 9 6,bi 10 .sub 9 1,mv 6 10] [1,4,5,6]))
def ZhU:Zd:=ZcO
def b772:Zd:=sr [bx 1 0,mc 2 (.int .u64 0),mc 3 (.int .u64 0)] [1]
 (sr [mc 4 (.int .u64 0),mc 5 (.int .u64 0)] [1,4,5]
 (.seq (sr [mi 6 63] [1,4,5,6]
 (.blk 0 (.loop [1,4,5,6] (ZhU))))
 (rt [mv 26 4,mv 27 5,mv 2 26,mv 3 27] [2,3])))
def f772:Zi:=⟨false,[.tmp 2,.tmp 3],b772,none,false⟩
def ZdY:Zd:=.seq (sr [mv 4 3,bi 5 .geq 4 0] [1,3,5]
 (.cond (.t 5) (.skip)
 (.exit 0)))
 (.seq (.blk 1 (sr [mv 8 3,it 9 (.iaddrA 128 1 (.t 1) (.t 8)),ld 10 9] [1,3,10]
 (cr 10 [mv 11 3,bi 12 .add 11 1,mv 2 12] [2])))
 (.reg [mv 6 3,bi 7 .sub 6 1,mv 3 7] [1,3]))
def Zge:Zd:=ZdY
def b773:Zd:=sr [bx 1 0,mi 2 0] [1]
 (.seq (sr [mi 3 127] [1,3]
 (.blk 0 (.loop [1,3] (Zge))))
 (rt [mi 2 0] [2]))
def f773:Zi:=⟨false,[.tmp 2],b773,none,false⟩
def ZcR:Zd:=.seq (sr [mv 7 6,bi 8 .lss 7 64] [0,1,4,5,6,8]
 (.cond (.t 8) (.skip)
 (.exit 0)))
 (.seq (.blk 1 (sr [mv 11 6,mv 12 1,bu 13 .rem 12 2,bu 14 .eql 13 1,it 15 (.iaddrA 128 1 (.t 5) (.t 11)),st 1 15 14] [0,1,4,5,6]
 (sr [mv 16 6,bi 17 .add 16 64,mv 18 0,bu 19 .rem 18 2,bu 20 .eql 19 1,it 21 (.iaddrA 128 1 (.t 5) (.t 17)),st 1 21 20] [0,1,4,5,6]
 (sr [mv 22 1,bu 23 .quo 22 2,mv 1 23] [0,1,4,5,6]
 (.reg [mv 24 0,bu 25 .quo 24 2,mv 0 25] [0,1,4,5,6])))))
 (.reg [mv 9 6,bi 10 .add 9 1,mv 6 10] [0,1,4,5,6]))
def Zgd:Zd:=ZcR
def b777:Zd:=sr [al 4 (.agg (rp 128 (.bool false)))] [0,1,4]
 (sr [al 5 (.agg (rp 128 (.bool false)))] [0,1,4,5]
 (.seq (sr [mi 6 0] [0,1,4,5,6]
 (.blk 0 (.loop [0,1,4,5,6] (Zgd))))
 (rt [la 26 128 5,st 128 4 26] [4])))
def f777:Zi:=⟨false,[.cell 4 true 128],b777,none,false⟩
def Zam:Zd:=.seq (sr [mv 11 5,fa 12 0 1,ld 13 12,bt 14 .lss 11 13,mv 15 14,Gt 15 (mv 16 5),Gt 15 (bi 17 .lss 16 128),pa 18 15 17] [1,3,4,5,18]
 (.cond (.t 18) (.skip)
 (.exit 0)))
 (.seq (.blk 1 (.reg [mv 21 4,mv 22 5,it 23 (.iaddrA 128 1 (.t 3) (.t 22)),ld 24 23,it 25 (.buildSl 1 [.t 24]),it 26 (.app 1 1 false (.t 21) (.t 25)),mv 4 26] [1,3,4,5]))
 (.reg [mv 19 5,bi 20 .add 19 1,mv 5 20] [1,3,4,5]))
def Zgx:Zd:=Zam
def b783:Zd:=sr [bx 1 0,mc 2 (.sl 1 [] .nl)] [1]
 (sr [fa 6 1 1,ld 7 6,fa 8 2 1,ld 9 8,ct 10 777 [7,9],al 3 (.agg (rp 128 (.bool false))),st 128 3 10] [1,3]
 (sr [it 4 (.nilacc 1)] [1,3,4]
 (.seq (sr [mi 5 0] [1,3,4,5]
 (.blk 0 (.loop [1,3,4,5] (Zgx))))
 (rt [mv 27 4,mv 2 27] [2]))))
def f783:Zi:=⟨false,[.tmp 2],b783,none,false⟩
def b785:Zd:=sr [bx 1 0,mc 2 (.bool false)] [1]
 (sd [E (fa 3 0 1) 0,E (ld 4 3) 1,E (bi 5 .geq 4 1) 2,E (mv 6 5) 3,E (Gt 6 (fa 7 0 1)) 4,E (Gt 6 (ld 8 7)) 5,E (Gt 6 (bi 9 .leq 8 128)) 6,E (pa 10 6 9) 7,E (mv 11 10) 8,E (Gt 11 (fa 12 1 1)) 9,D (Gt 11 (fa 14 2 1)) 11 511,D (Gt 11 (fa 18 0 1)) 15 511,E (Gt 11 (ld 13 12)) 10,D (Gt 11 (ld 15 14)) 12 2559,D (Gt 11 (ld 19 18)) 16 33279,E (Gt 11 (ct 16 777 [13,15])) 13,E (Gt 11 (ct 17 773 [16])) 14,E (Gt 11 (bt 20 .leq 17 19)) 17,E (pa 21 11 20) 18,E (mv 2 21) 19] [2]
 (.ret))
def f785:Zi:=⟨false,[.tmp 2],b785,none,false⟩
def ZaI:Zd:=.seq (sr [mv 7 4,mv 8 0,ln 9 8,bt 10 .lss 7 9,mv 11 10,Gt 11 (mv 12 4),Gt 11 (bi 13 .lss 12 128),pa 14 11 13] [0,2,3,4,14]
 (.cond (.t 14) (.skip)
 (.exit 0)))
 (.seq (.blk 1 (.reg [mv 17 4,mv 18 0,mv 19 4,ia 20 1 18 19,ld 21 20,it 22 (.iaddrA 128 1 (.t 3) (.t 17)),st 1 22 21] [0,2,3,4]))
 (.reg [mv 15 4,bi 16 .add 15 1,mv 4 16] [0,2,3,4]))
def Zh0:Zd:=ZaI
def b787:Zd:=sr [al 2 (.agg [.int .i64 0,.int .u64 0,.int .u64 0])] [0,2]
 (sr [al 3 (.agg (rp 128 (.bool false)))] [0,2,3]
 (.seq (sr [mi 4 0] [0,2,3,4]
 (.blk 0 (.loop [0,2,3,4] (Zh0))))
 (sr [la 24 128 3,ct 25 772 [24],mv 23 25,ex 26 23 0,ex 27 23 1,mv 5 26,mv 6 27] [0,2,5,6]
 (rt [mv 28 0,ln 29 28,mv 30 5,mv 31 6,it 32 (.build [.int .i64 0,.int .u64 0,.int .u64 0] [(0,1,.t 29),(1,1,.t 30),(2,1,.t 31)]),st 3 2 32] [2]))))
def f787:Zi:=⟨false,[.cell 2 true 3],b787,none,false⟩
def Zaz:Zd:=.seq (sr [mv 132 20,mv 133 13,ln 134 133,bt 135 .lss 132 134] [0,6,10,13,14,20,135]
 (.cond (.t 135) (.skip)
 (.exit 4)))
 (.seq (.blk 5 (.seq (sr [mv 138 0,it 139 (.bin .eql (.t 138) (.c (.str [97,100,100,115,97,116]))),mv 140 139,Gt 140 (mv 141 14),pa 142 140 141] [0,6,10,13,14,20,142]
 (.cond (.t 142) (.reg [mv 143 13,mv 144 20,ia 145 1 143 144,i0 (.store 1 false (.t 145) (.c (.bool true)))] [0,6,10,13,14,20])
 (.skip)))
 (sr [mv 146 0,it 147 (.bin .eql (.t 146) (.c (.str [115,117,98,115,97,116]))),mv 148 147,Gt 148 (mv 149 10),pa 150 148 149] [0,6,10,13,14,20,150]
 (.cond (.t 150) (.reg [mv 151 13,mv 152 20,ia 153 1 151 152,i0 (.store 1 false (.t 153) (.c (.bool false)))] [0,6,10,13,14,20])
 (.skip)))))
 (.reg [mv 136 20,bi 137 .add 136 1,mv 20 137] [0,6,10,13,14,20]))
def Zf1:Zd:=Zaz
def Zag:Zd:=.seq (sr [mv 75 15,mv 76 8,ln 77 76,bt 78 .lss 75 77] [0,6,8,9,10,13,14,15,78]
 (.cond (.t 78) (.skip)
 (.exit 2)))
 (.seq (.blk 3 (sd [E (mv 81 8) 0,D (mv 82 15) 1 0,E (ia 83 1 81 82) 2,D (mv 85 9) 4 0,D (mv 86 15) 5 0,D (ia 87 1 85 86) 6 48,E (ld 84 83) 3,D (mv 16 84) 8 15,D (ld 88 87) 7 112,E (mv 17 88) 9] [0,6,8,9,10,13,14,15,16,17]
 (.seq (sr [mv 89 0,it 90 (.bin .eql (.t 89) (.c (.str [115,117,98]))),mv 91 90,Gf 91 (mv 92 0),Gf 91 (it 93 (.bin .eql (.t 92) (.c (.str [115,117,98,115,97,116])))),po 94 91 93] [0,6,8,9,10,13,14,15,16,17,94]
 (.cond (.t 94) (.reg [mv 95 17,nt 96 95,mv 17 96] [0,6,8,9,10,13,14,15,16,17])
 (.skip)))
 (sr [mi 18 0] [0,6,8,9,10,13,14,15,16,17,18]
 (.seq (sr [mv 97 16] [0,6,8,9,10,13,14,15,16,17,18,97]
 (.cond (.t 97) (.reg [mv 98 18,bi 99 .add 98 1,mv 18 99] [0,6,8,9,10,13,14,15,16,17,18])
 (.skip)))
 (.seq (sr [mv 100 17] [0,6,8,9,10,13,14,15,16,17,18,100]
 (.cond (.t 100) (.reg [mv 101 18,bi 102 .add 101 1,mv 18 102] [0,6,8,9,10,13,14,15,16,17,18])
 (.skip)))
 (.seq (sr [mv 103 14] [0,6,8,9,10,13,15,16,17,18,103]
 (.cond (.t 103) (.reg [mv 104 18,bi 105 .add 104 1,mv 18 105] [0,6,8,9,10,13,15,16,17,18])
 (.skip)))
 (sr [mv 106 18,bi 107 .rem 106 2,bi 108 .eql 107 1,mv 19 108] [0,6,8,9,10,13,15,16,17,18,19]
 (sr [mv 109 18,bi 110 .geq 109 2,mv 14 110] [0,6,8,9,10,13,14,15,16,17,19]
 (.seq (sr [mv 111 0,it 112 (.bin .eql (.t 111) (.c (.str [97,110,100])))] [0,6,8,9,10,13,14,15,16,17,19,112]
 (.cond (.t 112) (.reg [mv 113 16,mv 114 113,Gt 114 (mv 115 17),pa 116 114 115,mv 19 116] [0,6,8,9,10,13,14,15,16,17,19])
 (.skip)))
 (.seq (sr [mv 117 0,it 118 (.bin .eql (.t 117) (.c (.str [111,114])))] [0,6,8,9,10,13,14,15,16,17,19,118]
 (.cond (.t 118) (.reg [mv 119 16,mv 120 119,Gf 120 (mv 121 17),po 122 120 121,mv 19 122] [0,6,8,9,10,13,14,15,16,17,19])
 (.skip)))
 (.seq (sr [mv 123 0,it 124 (.bin .eql (.t 123) (.c (.str [120,111,114])))] [0,6,8,9,10,13,14,15,16,17,19,124]
 (.cond (.t 124) (.reg [mv 125 16,mv 126 17,it 127 (.eq true none (.t 125) (.t 126)),mv 19 127] [0,6,8,9,10,13,14,15,19])
 (.skip)))
 (.reg [mv 128 13,mv 129 19,it 130 (.buildSl 1 [.t 129]),it 131 (.app 1 1 false (.t 128) (.t 130)),mv 13 131] [0,6,8,9,10,13,14,15])))))))))))))
 (.reg [mv 79 15,bi 80 .add 79 1,mv 15 80] [0,6,8,9,10,13,14,15]))
def Zgw:Zd:=Zag
def ZaW:Zd:=.seq (sr [mv 40 12,mv 41 8,ln 42 41,bt 43 .lss 40 42] [0,6,8,9,10,11,12,43]
 (.cond (.t 43) (.skip)
 (.exit 0)))
 (.seq (.blk 1 (sd [E (mv 46 8) 0,D (mv 47 12) 1 0,E (ia 48 1 46 47) 2,D (mv 50 9) 4 0,D (mv 51 12) 5 0,D (ia 52 1 50 51) 6 48,E (ld 49 48) 3,D (ld 53 52) 7 112,E (it 54 (.eq true none (.t 49) (.t 53))) 8] [0,6,8,9,10,11,12,54]
 (.cond (.t 54) (sr [mv 55 9,mv 56 12,ia 57 1 55 56,ld 58 57,mv 10 58] [0,6,8,9,10,12]
 (.reg [mc 11 (.bool false)] [0,6,8,9,10,11,12]))
 (.skip))))
 (.reg [mv 44 12,bi 45 .add 44 1,mv 12 45] [0,6,8,9,10,11,12]))
def Zgz:Zd:=ZaW
def b790:Zd:=sr [bx 4 1,bx 5 2,al 6 (.agg [.int .i64 0,.int .u64 0,.int .u64 0]),mi 7 0] [0,4,5,6]
 (.seq (sr [la 21 3 4,ct 22 785 [21],nt 23 22,mv 24 23,Gf 24 (la 25 3 5),Gf 24 (ct 26 785 [25]),Gf 24 (nt 27 26),po 28 24 27] [0,4,5,6,28]
 (cr 28 [it 29 (.build [.int .i64 0,.int .u64 0,.int .u64 0] []),st 3 6 29,mi 7 1] [6,7]))
 (.seq (sr [fa 30 0 4,ld 31 30,fa 32 0 5,ld 33 32,bt 34 .neq 31 33] [0,4,5,6,34]
 (cr 34 [it 35 (.build [.int .i64 0,.int .u64 0,.int .u64 0] []),st 3 6 35,mi 7 9] [6,7]))
 (sd [E (la 36 3 4) 0,D (la 38 3 5) 2 0,E (ct 37 783 [36]) 1,E (ct 39 783 [38]) 3,E (mv 8 37) 4,E (mv 9 39) 5] [0,6,8,9]
 (sr [mc 10 (.bool false),mc 11 (.bool true)] [0,6,8,9,10,11]
 (.seq (sr [mi 12 0] [0,6,8,9,10,11,12]
 (.blk 0 (.loop [0,6,8,9,10,11,12] (Zgz))))
 (.seq (sr [mv 59 0,it 60 (.bin .eql (.t 59) (.c (.str [101,113])))] [0,6,8,9,10,11,60]
 (cr 60 [mv 61 11,it 62 (.buildSl 1 [.t 61]),ct 63 787 [62],st 3 6 63,mi 7 0] [6,7]))
 (.seq (sr [mv 64 0,it 65 (.bin .eql (.t 64) (.c (.str [108,101,115,115])))] [0,6,8,9,10,65]
 (cr 65 [mv 66 10,it 67 (.buildSl 1 [.t 66]),ct 68 787 [67],st 3 6 68,mi 7 0] [6,7]))
 (sr [it 13 (.nilacc 1)] [0,6,8,9,10,13]
 (sr [mv 69 0,it 70 (.bin .eql (.t 69) (.c (.str [115,117,98]))),mv 71 70,Gf 71 (mv 72 0),Gf 71 (it 73 (.bin .eql (.t 72) (.c (.str [115,117,98,115,97,116])))),po 74 71 73,mv 14 74] [0,6,8,9,10,13,14]
 (.seq (sr [mi 15 0] [0,6,8,9,10,13,14,15]
 (.blk 2 (.loop [0,6,8,9,10,13,14,15] (Zgw))))
 (.seq (sr [mi 20 0] [0,6,10,13,14,20]
 (.blk 4 (.loop [0,6,10,13,14,20] (Zf1))))
 (rt [mv 154 13,ct 155 787 [154],st 3 6 155,mi 7 0] [6,7]))))))))))))
def f790:Zi:=⟨false,[.cell 6 true 3,.tmp 7],b790,none,false⟩
def b801:Zd:=sr [mi 2 0,mi 3 0] [0]
 (.seq (sr [mv 7 0,lt 8 7,bi 9 .eql 8 0] [0,9]
 (cr 9 [mi 2 65533,mi 3 0] [2,3]))
 (sr [mv 10 0,it 11 (.idxS (.t 10) (.c (.int .i64 0))),it 12 (.conv (.int .i64) (.t 11)),mv 4 12] [0,4]
 (.seq (sr [mv 13 4,bi 14 .lss 13 128] [0,4,14]
 (cr 14 [mv 15 4,mv 2 15,mi 3 1] [2,3]))
 (.seq (sr [mv 16 4,bi 17 .geq 16 194,mv 18 17,Gt 18 (mv 19 4),Gt 18 (bi 20 .lss 19 224),pa 21 18 20,mv 22 21,Gt 22 (mv 23 0),Gt 22 (lt 24 23),Gt 22 (bi 25 .geq 24 2),pa 26 22 25,mv 27 26,Gt 27 (mv 28 0),Gt 27 (it 29 (.idxS (.t 28) (.c (.int .i64 1)))),Gt 27 (ct 30 808 [29]),pa 31 27 30] [0,4,31]
 (cr 31 [mv 32 4,bi 33 .sub 32 192,it 34 (.bin .mul (.c (.int .i64 64)) (.t 33)),mv 35 0,it 36 (.idxS (.t 35) (.c (.int .i64 1))),it 37 (.conv (.int .i64) (.t 36)),bt 38 .add 34 37,bi 39 .sub 38 128,mv 2 39,mi 3 2] [2,3]))
 (.seq (sr [mv 40 4,bi 41 .geq 40 224,mv 42 41,Gt 42 (mv 43 4),Gt 42 (bi 44 .lss 43 240),pa 45 42 44,mv 46 45,Gt 46 (mv 47 0),Gt 46 (lt 48 47),Gt 46 (bi 49 .geq 48 3),pa 50 46 49,mv 51 50,Gt 51 (mv 52 0),Gt 51 (it 53 (.idxS (.t 52) (.c (.int .i64 1)))),Gt 51 (ct 54 808 [53]),pa 55 51 54,mv 56 55,Gt 56 (mv 57 0),Gt 56 (it 58 (.idxS (.t 57) (.c (.int .i64 2)))),Gt 56 (ct 59 808 [58]),pa 60 56 59] [0,4,60]
 (.cond (.t 60) (sd [E (mv 61 4) 0,E (bi 62 .sub 61 224) 1,E (it 63 (.bin .mul (.c (.int .i64 4096)) (.t 62))) 2,D (mv 64 0) 3 0,D (it 65 (.idxS (.t 64) (.c (.int .i64 1)))) 4 8,D (it 66 (.conv (.int .i64) (.t 65))) 5 24,D (bi 67 .sub 66 128) 6 56,D (it 68 (.bin .mul (.c (.int .i64 64)) (.t 67))) 7 120,E (bt 69 .add 63 68) 8,D (mv 70 0) 9 0,D (it 71 (.idxS (.t 70) (.c (.int .i64 2)))) 10 512,D (it 72 (.conv (.int .i64) (.t 71))) 11 1536,E (bt 73 .add 69 72) 12,E (bi 74 .sub 73 128) 13,E (mv 5 74) 14] [0,4,5]
 (sr [mv 75 5,bi 76 .geq 75 2048,mv 77 76,Gt 77 (mv 78 5),Gt 77 (bi 79 .lss 78 55296),Gt 77 (mv 80 79),Gf 80 (mv 81 5),Gf 80 (bi 82 .gtr 81 57343),Gt 77 (po 83 80 82),pa 84 77 83] [0,4,5,84]
 (cr 84 [mv 85 5,mv 2 85,mi 3 3] [2,3])))
 (.skip)))
 (.seq (sr [mv 86 4,bi 87 .geq 86 240,mv 88 87,Gt 88 (mv 89 4),Gt 88 (bi 90 .lss 89 245),pa 91 88 90,mv 92 91,Gt 92 (mv 93 0),Gt 92 (lt 94 93),Gt 92 (bi 95 .geq 94 4),pa 96 92 95,mv 97 96,Gt 97 (mv 98 0),Gt 97 (it 99 (.idxS (.t 98) (.c (.int .i64 1)))),Gt 97 (ct 100 808 [99]),pa 101 97 100,mv 102 101,Gt 102 (mv 103 0),Gt 102 (it 104 (.idxS (.t 103) (.c (.int .i64 2)))),Gt 102 (ct 105 808 [104]),pa 106 102 105,mv 107 106,Gt 107 (mv 108 0),Gt 107 (it 109 (.idxS (.t 108) (.c (.int .i64 3)))),Gt 107 (ct 110 808 [109]),pa 111 107 110] [0,4,111]
 (.cond (.t 111) (sd [E (mv 112 4) 0,E (bi 113 .sub 112 240) 1,E (it 114 (.bin .mul (.c (.int .i64 262144)) (.t 113))) 2,D (mv 115 0) 3 0,D (it 116 (.idxS (.t 115) (.c (.int .i64 1)))) 4 8,D (it 117 (.conv (.int .i64) (.t 116))) 5 24,D (bi 118 .sub 117 128) 6 56,D (it 119 (.bin .mul (.c (.int .i64 4096)) (.t 118))) 7 120,E (bt 120 .add 114 119) 8,D (mv 121 0) 9 0,D (it 122 (.idxS (.t 121) (.c (.int .i64 2)))) 10 512,D (it 123 (.conv (.int .i64) (.t 122))) 11 1536,D (bi 124 .sub 123 128) 12 3584,D (it 125 (.bin .mul (.c (.int .i64 64)) (.t 124))) 13 7680,E (bt 126 .add 120 125) 14,D (mv 127 0) 15 0,D (it 128 (.idxS (.t 127) (.c (.int .i64 3)))) 16 32768,D (it 129 (.conv (.int .i64) (.t 128))) 17 98304,E (bt 130 .add 126 129) 18,E (bi 131 .sub 130 128) 19,E (mv 6 131) 20] [6]
 (sr [mv 132 6,bi 133 .geq 132 65536,mv 134 133,Gt 134 (mv 135 6),Gt 134 (bi 136 .leq 135 1114111),pa 137 134 136] [6,137]
 (cr 137 [mv 138 6,mv 2 138,mi 3 4] [2,3])))
 (.skip)))
 (rt [mi 2 65533,mi 3 1] [2,3])))))))
def f801:Zi:=⟨false,[.tmp 2,.tmp 3],b801,none,false⟩
def b802:Zd:=sr [mi 2 0] [0]
 (.seq (sr [mv 3 0,bi 4 .geq 3 65,mv 5 4,Gt 5 (mv 6 0),Gt 5 (bi 7 .leq 6 90),pa 8 5 7,mv 9 8,Gf 9 (mv 10 0),Gf 9 (bi 11 .geq 10 192),Gf 9 (mv 12 11),Gt 12 (mv 13 0),Gt 12 (bi 14 .leq 13 222),Gf 9 (pa 15 12 14),Gf 9 (mv 16 15),Gt 16 (mv 17 0),Gt 16 (bi 18 .neq 17 215),Gf 9 (pa 19 16 18),po 20 9 19,mv 21 20,Gf 21 (mv 22 0),Gf 21 (bi 23 .geq 22 913),Gf 21 (mv 24 23),Gt 24 (mv 25 0),Gt 24 (bi 26 .leq 25 937),Gf 21 (pa 27 24 26),Gf 21 (mv 28 27),Gt 28 (mv 29 0),Gt 28 (bi 30 .neq 29 930),Gf 21 (pa 31 28 30),po 32 21 31,mv 33 32,Gf 33 (mv 34 0),Gf 33 (bi 35 .geq 34 1040),Gf 33 (mv 36 35),Gt 36 (mv 37 0),Gt 36 (bi 38 .leq 37 1071),Gf 33 (pa 39 36 38),po 40 33 39] [0,40]
 (cr 40 [mv 41 0,bi 42 .add 41 32,mv 2 42] [2]))
 (.seq (sr [mv 43 0,bi 44 .geq 43 1024,mv 45 44,Gt 45 (mv 46 0),Gt 45 (bi 47 .leq 46 1039),pa 48 45 47] [0,48]
 (cr 48 [mv 49 0,bi 50 .add 49 80,mv 2 50] [2]))
 (.seq (sr [mv 51 0,bi 52 .eql 51 962] [0,52]
 (cr 52 [mi 2 963] [2]))
 (rt [mv 53 0,mv 2 53] [2]))))
def f802:Zi:=⟨false,[.tmp 2],b802,none,false⟩
def ZcQ:Zd:=.seq (sr [mv 7 4,mv 8 3,ln 9 8,bt 10 .lss 7 9] [3,4,10]
 (.cond (.t 10) (.skip)
 (.exit 0)))
 (.seq (.blk 1 (.reg [mv 13 3,mv 14 4,mv 15 3,mv 16 4,ia 17 1 15 16,ld 18 17,ct 19 802 [18],ia 20 1 13 14,st 1 20 19] [3,4]))
 (.reg [mv 11 4,bi 12 .add 11 1,mv 4 12] [3,4]))
def Zhe:Zd:=ZcQ
def b803:Zd:=sr [mc 2 (.sl 1 [] .nl)] [0]
 (sr [mv 5 0,ct 6 807 [5],mv 3 6] [3]
 (.seq (sr [mi 4 0] [3,4]
 (.blk 0 (.loop [3,4] (Zhe))))
 (rt [mv 21 3,mv 2 21] [2])))
def f803:Zi:=⟨false,[.tmp 2],b803,none,false⟩
def b804:Zd:=sr [mc 2 (.bool false)] [0]
 (.seq (sr [mv 3 0,bi 4 .geq 3 65,mv 5 4,Gt 5 (mv 6 0),Gt 5 (bi 7 .leq 6 90),pa 8 5 7,mv 9 8,Gf 9 (mv 10 0),Gf 9 (bi 11 .geq 10 97),Gf 9 (mv 12 11),Gt 12 (mv 13 0),Gt 12 (bi 14 .leq 13 122),Gf 9 (pa 15 12 14),po 16 9 15,mv 17 16,Gf 17 (mv 18 0),Gf 17 (bi 19 .eql 18 95),po 20 17 19] [0,20]
 (cr 20 [mc 2 (.bool true)] [2]))
 (.seq (sr [mv 21 0,bi 22 .eql 21 215,mv 23 22,Gf 23 (mv 24 0),Gf 23 (bi 25 .eql 24 247),po 26 23 25,mv 27 26,Gf 27 (mv 28 0),Gf 27 (bi 29 .eql 28 930),po 30 27 29] [0,30]
 (cr 30 [mc 2 (.bool false)] [2]))
 (rt [mv 31 0,bi 32 .geq 31 192,mv 33 32,Gt 33 (mv 34 0),Gt 33 (bi 35 .leq 34 591),pa 36 33 35,mv 37 36,Gf 37 (mv 38 0),Gf 37 (bi 39 .geq 38 913),Gf 37 (mv 40 39),Gt 40 (mv 41 0),Gt 40 (bi 42 .leq 41 969),Gf 37 (pa 43 40 42),po 44 37 43,mv 45 44,Gf 45 (mv 46 0),Gf 45 (bi 47 .geq 46 1024),Gf 45 (mv 48 47),Gt 48 (mv 49 0),Gt 48 (bi 50 .leq 49 1279),Gf 45 (pa 51 48 50),po 52 45 51,mv 2 52] [2])))
def f804:Zi:=⟨false,[.tmp 2],b804,none,false⟩
def Zdh:Zd:=.seq (sr [mv 22 4,mv 23 3,ln 24 23,bt 25 .lss 22 24] [3,4,25]
 (.cond (.t 25) (.skip)
 (.exit 0)))
 (.seq (.blk 1 (sr [mv 28 3,mv 29 4,ia 30 1 28 29,ld 31 30,ct 32 804 [31],nt 33 32,mv 34 33,Gt 34 (mv 35 3),Gt 34 (mv 36 4),Gt 34 (ia 37 1 35 36),Gt 34 (ld 38 37),Gt 34 (bi 39 .geq 38 48),Gt 34 (mv 40 39),Gt 40 (mv 41 3),Gt 40 (mv 42 4),Gt 40 (ia 43 1 41 42),Gt 40 (ld 44 43),Gt 40 (bi 45 .leq 44 57),Gt 34 (pa 46 40 45),Gt 34 (nt 47 46),pa 48 34 47,mv 49 48,Gt 49 (mv 50 3),Gt 49 (mv 51 4),Gt 49 (ia 52 1 50 51),Gt 49 (ld 53 52),Gt 49 (bi 54 .neq 53 45),pa 55 49 54,mv 56 55,Gt 56 (mv 57 3),Gt 56 (mv 58 4),Gt 56 (ia 59 1 57 58),Gt 56 (ld 60 59),Gt 56 (bi 61 .neq 60 46),pa 62 56 61] [3,4,62]
 (cr 62 [mc 2 (.bool false)] [2])))
 (.reg [mv 26 4,bi 27 .add 26 1,mv 4 27] [3,4]))
def ZgI:Zd:=Zdh
def b805:Zd:=sr [mc 2 (.bool false)] [0]
 (sr [mv 5 0,ct 6 807 [5],mv 3 6] [3]
 (.seq (sr [mv 7 3,ln 8 7,bi 9 .lss 8 1,mv 10 9,Gf 10 (mv 11 3),Gf 10 (ln 12 11),Gf 10 (bi 13 .gtr 12 24),po 14 10 13,mv 15 14,Gf 15 (mv 16 3),Gf 15 (it 17 (.iaddr 1 (.t 16) (.c (.int .i64 0)))),Gf 15 (ld 18 17),Gf 15 (ct 19 804 [18]),Gf 15 (nt 20 19),po 21 15 20] [3,21]
 (cr 21 [mc 2 (.bool false)] [2]))
 (.seq (sr [mi 4 0] [3,4]
 (.blk 0 (.loop [3,4] (ZgI))))
 (rt [mc 2 (.bool true)] [2]))))
def f805:Zi:=⟨false,[.tmp 2],b805,none,false⟩
def ZcV:Zd:=.seq (sr [mv 6 5,mv 7 0,ln 8 7,bt 9 .lss 6 8,mv 10 9,Gt 10 (mv 11 5),Gt 10 (mv 12 1),Gt 10 (ln 13 12),Gt 10 (bt 14 .lss 11 13),pa 15 10 14] [0,1,5,15]
 (.cond (.t 15) (.skip)
 (.exit 0)))
 (.seq (.blk 1 (.seq (sd [E (mv 18 0) 0,D (mv 19 5) 1 0,E (ia 20 1 18 19) 2,D (mv 22 1) 4 0,D (mv 23 5) 5 0,D (ia 24 1 22 23) 6 48,E (ld 21 20) 3,D (ld 25 24) 7 112,E (bt 26 .lss 21 25) 8] [0,1,5,26]
 (cr 26 [mi 4 (-1)] [4]))
 (sd [E (mv 27 0) 0,D (mv 28 5) 1 0,E (ia 29 1 27 28) 2,D (mv 31 1) 4 0,D (mv 32 5) 5 0,D (ia 33 1 31 32) 6 48,E (ld 30 29) 3,D (ld 34 33) 7 112,E (bt 35 .gtr 30 34) 8] [0,1,5,35]
 (cr 35 [mi 4 1] [4]))))
 (.reg [mv 16 5,bi 17 .add 16 1,mv 5 17] [0,1,5]))
def Zhn:Zd:=ZcV
def b806:Zd:=sr [mi 4 0] [0,1]
 (.seq (sr [mi 5 0] [0,1,5]
 (.blk 0 (.loop [0,1,5] (Zhn))))
 (.seq (sr [mv 36 0,ln 37 36,mv 38 1,ln 39 38,bt 40 .lss 37 39] [0,1,40]
 (cr 40 [mi 4 (-1)] [4]))
 (.seq (sr [mv 41 0,ln 42 41,mv 43 1,ln 44 43,bt 45 .gtr 42 44] [45]
 (cr 45 [mi 4 1] [4]))
 (rt [mi 4 0] [4]))))
def f806:Zi:=⟨false,[.tmp 4],b806,none,false⟩
def ZcP:Zd:=.seq (sr [mv 6 0,lt 7 6,bi 8 .gtr 7 0] [0,3,8]
 (.cond (.t 8) (.skip)
 (.exit 0)))
 (.blk 1 (sr [mv 10 0,ct 11 801 [10],mv 9 11,ex 12 9 0,ex 13 9 1,mv 4 12,mv 5 13] [0,3,4,5]
 (sr [mv 14 3,mv 15 4,it 16 (.buildSl 1 [.t 15]),it 17 (.app 1 8 false (.t 14) (.t 16)),mv 3 17] [0,3,5]
 (.reg [mv 18 0,mv 19 5,it 20 (.slice 0 (.t 18) (some (.t 19)) none none),mv 0 20] [0,3]))))
def ZgG:Zd:=ZcP
def b807:Zd:=sr [mc 2 (.sl 1 [] .nl)] [0]
 (sr [it 3 (.nilacc 1)] [0,3]
 (.seq (.blk 0 (.loop [0,3] (ZgG)))
 (rt [mv 21 3,mv 2 21] [2])))
def f807:Zi:=⟨true,[.tmp 2],b807,none,true⟩
def b808:Zd:=sr [mc 2 (.bool false)] [0]
 (rt [mv 3 0,it 4 (.bin .geq (.t 3) (.c (.int .u8 128))),mv 5 4,Gt 5 (mv 6 0),Gt 5 (it 7 (.bin .lss (.t 6) (.c (.int .u8 192)))),pa 8 5 7,mv 2 8] [2])
def f808:Zi:=⟨false,[.tmp 2],b808,none,false⟩
def b818:Zd:=sr [mc 4 (.bool false)] [0,1]
 (rt [mv 5 0,ct 6 803 [5],mv 7 1,ct 8 803 [7],ct 9 806 [6,8],bi 10 .eql 9 0,mv 4 10] [4])
def f818:Zi:=⟨false,[.tmp 4],b818,none,false⟩
def ZcG:Zd:=.seq (sr [mv 5 4,fa 6 1 1,ld 7 6,ln 8 7,bt 9 .lss 5 8] [1,3,4,9]
 (.cond (.t 9) (.skip)
 (.exit 0)))
 (.seq (.blk 1 (.reg [mv 12 3,fa 13 1 1,ld 14 13,mv 15 4,ia 16 2 14 15,fa 17 1 16,ld 18 17,bt 19 .add 12 18,mv 3 19] [1,3,4]))
 (.reg [mv 10 4,bi 11 .add 10 1,mv 4 11] [1,3,4]))
def Zhj:Zd:=ZcG
def b819:Zd:=sr [bx 1 0,mi 2 0] [1]
 (sr [mi 3 0] [1,3]
 (.seq (sr [mi 4 0] [1,3,4]
 (.blk 0 (.loop [1,3,4] (Zhj))))
 (rt [mv 20 3,mv 2 20] [2])))
def f819:Zi:=⟨false,[.tmp 2],b819,none,false⟩
def Zdu:Zd:=.seq (sr [mv 23 6,mv 24 5,bt 25 .lss 23 24] [0,1,5,6,25]
 (.cond (.t 25) (.skip)
 (.exit 2)))
 (.seq (.blk 3 (sd [E (mv 28 1) 0,D (mv 29 6) 1 0,E (ia 30 3 28 29) 2,E (fa 31 0 30) 3,D (mv 33 1) 5 0,D (mv 34 5) 6 0,D (ia 35 3 33 34) 7 96,D (fa 36 0 35) 8 224,E (ld 32 31) 4,D (ld 37 36) 9 480,E (ct 38 818 [32,37]) 10] [0,1,5,6,38]
 (cr 38 [mi 4 6] [4])))
 (.reg [mv 26 6,bi 27 .add 26 1,mv 6 27] [0,1,5,6]))
def Zhg:Zd:=Zdu
def Zd2:Zd:=.seq (sr [mv 10 5,mv 11 1,ln 12 11,bt 13 .lss 10 12] [0,1,5,13]
 (.cond (.t 13) (.skip)
 (.exit 0)))
 (.seq (.blk 1 (.seq (sr [mv 16 1,mv 17 5,ia 18 3 16 17,fa 19 0 18,ld 20 19,ct 21 822 [20],nt 22 21] [0,1,5,22]
 (cr 22 [mi 4 4] [4]))
 (.seq (sr [mi 6 0] [0,1,5,6]
 (.blk 2 (.loop [0,1,5,6] (Zhg))))
 (.seq (sr [mv 39 1,mv 40 5,ia 41 3 39 40,fa 42 1 41,ld 43 42,bi 44 .lss 43 0,mv 45 44,Gf 45 (mv 46 1),Gf 45 (mv 47 5),Gf 45 (ia 48 3 46 47),Gf 45 (fa 49 1 48),Gf 45 (ld 50 49),Gf 45 (mv 51 0),Gf 45 (ln 52 51),Gf 45 (bt 53 .geq 50 52),po 54 45 53] [0,1,5,54]
 (cr 54 [mi 4 5] [4]))
 (sr [mv 55 1,mv 56 5,ia 57 3 55 56,fa 58 2 57,ld 59 58,bi 60 .lss 59 0,mv 61 60,Gf 61 (mv 62 1),Gf 61 (mv 63 5),Gf 61 (ia 64 3 62 63),Gf 61 (fa 65 2 64),Gf 61 (ld 66 65),Gf 61 (bi 67 .gtr 66 4),po 68 61 67] [0,1,5,68]
 (cr 68 [mi 4 7] [4]))))))
 (.reg [mv 14 5,bi 15 .add 14 1,mv 5 15] [0,1,5]))
def Zf7:Zd:=Zd2
def b820:Zd:=sr [mi 4 0] [0,1]
 (.seq (sr [mv 7 1,ln 8 7,bi 9 .gtr 8 16] [0,1,9]
 (cr 9 [mi 4 2] [4]))
 (.seq (sr [mi 5 0] [0,1,5]
 (.blk 0 (.loop [0,1,5] (Zf7))))
 (.seq (sr [mv 69 1,ct 70 823 [69],ln 71 70,bi 72 .gtr 71 32] [72]
 (cr 72 [mi 4 8] [4]))
 (rt [mi 4 0] [4]))))
def f820:Zi:=⟨false,[.tmp 4],b820,none,false⟩
def ZdA:Zd:=.seq (sr [mv 35 6,mv 36 4,bt 37 .lss 35 36] [1,3,4,5,6,37]
 (.cond (.t 37) (.skip)
 (.exit 2)))
 (.seq (.blk 3 (sd [E (fa 40 1 1) 0,D (mv 42 6) 2 0,D (fa 46 0 5) 6 0,E (ld 41 40) 1,E (ia 43 2 41 42) 3,E (fa 44 0 43) 4,E (ld 45 44) 5,D (ld 47 46) 7 64,E (ct 48 818 [45,47]) 8] [1,3,4,5,6,48]
 (cr 48 [mi 2 6] [2])))
 (.reg [mv 38 6,bi 39 .add 38 1,mv 6 39] [1,3,4,5,6]))
def Zgi:Zd:=ZdA
def Zej:Zd:=.seq (sr [mv 19 4,fa 20 1 1,ld 21 20,ln 22 21,bt 23 .lss 19 22] [1,3,4,23]
 (.cond (.t 23) (.skip)
 (.exit 0)))
 (.seq (.blk 1 (sr [fa 26 1 1,ld 27 26,mv 28 4,ia 29 2 27 28,la 30 2 29,al 5 (.agg [.str [],.int .i64 0]),st 2 5 30] [1,3,4,5]
 (.seq (sr [fa 31 0 5,ld 32 31,ct 33 822 [32],nt 34 33] [1,3,4,5,34]
 (cr 34 [mi 2 4] [2]))
 (.seq (sr [mi 6 0] [1,3,4,5,6]
 (.blk 2 (.loop [1,3,4,5,6] (Zgi))))
 (.seq (sr [fa 49 1 5,ld 50 49,bi 51 .lss 50 1,mv 52 51,Gf 52 (fa 53 1 5),Gf 52 (ld 54 53),Gf 52 (bi 55 .gtr 54 128),po 56 52 55] [1,3,4,5,56]
 (cr 56 [mi 2 9] [2]))
 (.reg [mv 57 3,fa 58 1 5,ld 59 58,bt 60 .add 57 59,mv 3 60] [1,3,4]))))))
 (.reg [mv 24 4,bi 25 .add 24 1,mv 4 25] [1,3,4]))
def ZgW:Zd:=Zej
def b821:Zd:=sr [bx 1 0,mi 2 0] [1]
 (.seq (sr [fa 7 0 1,ld 8 7,ct 9 822 [8],nt 10 9] [1,10]
 (cr 10 [mi 2 4] [2]))
 (.seq (sr [fa 11 1 1,ld 12 11,ln 13 12,bi 14 .gtr 13 16] [1,14]
 (cr 14 [mi 2 2] [2]))
 (.seq (sr [fa 15 1 1,ld 16 15,ln 17 16,bi 18 .eql 17 0] [1,18]
 (cr 18 [mi 2 5] [2]))
 (sr [mi 3 0] [1,3]
 (.seq (sr [mi 4 0] [1,3,4]
 (.blk 0 (.loop [1,3,4] (ZgW))))
 (.seq (sr [mv 61 3,bi 62 .rem 61 8,bi 63 .neq 62 0] [1,63]
 (cr 63 [mi 2 9] [2]))
 (.seq (sr [fa 64 2 1,ld 65 64,bi 66 .eql 65 0] [1,66]
 (.cond (.t 66) (.seq (sr [fa 67 3 1,ld 68 67,bi 69 .neq 68 0,mv 70 69,Gf 70 (fa 71 4 1),Gf 70 (ld 72 71),Gf 70 (bi 73 .neq 72 0),po 74 70 73,mv 75 74,Gf 75 (fa 76 5 1),Gf 75 (ld 77 76),Gf 75 (bi 78 .neq 77 0),po 79 75 78] [79]
 (cr 79 [mi 2 7] [2]))
 (rt [mi 2 0] [2]))
 (.skip)))
 (.seq (sr [fa 80 2 1,ld 81 80,bi 82 .lss 81 1,mv 83 82,Gf 83 (fa 84 2 1),Gf 83 (ld 85 84),Gf 83 (bi 86 .gtr 85 64),po 87 83 86,mv 88 87,Gf 88 (fa 89 3 1),Gf 88 (ld 90 89),Gf 88 (bi 91 .lss 90 0),po 92 88 91,mv 93 92,Gf 93 (fa 94 3 1),Gf 93 (ld 95 94),Gf 93 (fa 96 1 1),Gf 93 (ld 97 96),Gf 93 (ln 98 97),Gf 93 (bt 99 .geq 95 98),po 100 93 99,mv 101 100,Gf 101 (fa 102 1 1),Gf 101 (ld 103 102),Gf 101 (fa 104 3 1),Gf 101 (ld 105 104),Gf 101 (ia 106 2 103 105),Gf 101 (fa 107 1 106),Gf 101 (ld 108 107),Gf 101 (bi 109 .gtr 108 16),po 110 101 109,mv 111 110,Gf 111 (fa 112 4 1),Gf 111 (ld 113 112),Gf 111 (bi 114 .lss 113 1),po 115 111 114,mv 116 115,Gf 116 (fa 117 4 1),Gf 116 (ld 118 117),Gf 116 (bi 119 .gtr 118 64),po 120 116 119,mv 121 120,Gf 121 (fa 122 5 1),Gf 121 (ld 123 122),Gf 121 (bi 124 .lss 123 0),po 125 121 124,mv 126 125,Gf 126 (fa 127 5 1),Gf 126 (ld 128 127),Gf 126 (bi 129 .gtr 128 4096),po 130 126 129] [130]
 (cr 130 [mi 2 7] [2]))
 (rt [mi 2 0] [2])))))))))
def f821:Zi:=⟨false,[.tmp 2],b821,none,false⟩
def Zcg:Zd:=.seq (sr [mv 4 3,mv 5 0,lt 6 5,bt 7 .lss 4 6] [0,3,7]
 (.cond (.t 7) (.skip)
 (.exit 0)))
 (.seq (.blk 1 (sr [mv 10 0,mv 11 3,it 12 (.idxS (.t 10) (.t 11)),it 13 (.bin .eql (.t 12) (.c (.int .u8 46)))] [0,3,13]
 (cr 13 [mc 2 (.bool false)] [2])))
 (.reg [mv 8 3,bi 9 .add 8 1,mv 3 9] [0,3]))
def Zho:Zd:=Zcg
def b822:Zd:=sr [mc 2 (.bool false)] [0]
 (.seq (sr [mi 3 0] [0,3]
 (.blk 0 (.loop [0,3] (Zho))))
 (rt [mv 14 0,ct 15 805 [14],mv 2 15] [2]))
def f822:Zi:=⟨false,[.tmp 2],b822,none,false⟩
def ZdT:Zd:=.seq (sr [mv 20 6,mv 21 5,bt 22 .lss 20 21,mv 23 22,Gt 23 (mv 24 5),Gt 23 (bi 25 .leq 24 4),pa 26 23 25] [0,3,4,5,6,26]
 (.cond (.t 26) (.skip)
 (.exit 2)))
 (.seq (.blk 3 (.reg [mv 29 3,mv 30 4,mv 31 6,it 32 (.build [.int .i64 0,.int .i64 0] [(0,1,.t 30),(1,1,.t 31)]),it 33 (.buildSl 2 [.t 32]),it 34 (.app 2 16 false (.t 29) (.t 33)),mv 3 34] [0,3,4,5,6]))
 (.reg [mv 27 6,bi 28 .add 27 1,mv 6 28] [0,3,4,5,6]))
def Zgp:Zd:=ZdT
def Zda:Zd:=.seq (sr [mv 7 4,mv 8 0,ln 9 8,bt 10 .lss 7 9] [0,3,4,10]
 (.cond (.t 10) (.skip)
 (.exit 0)))
 (.seq (.blk 1 (sr [mv 13 0,mv 14 4,ia 15 3 13 14,fa 16 2 15,ld 17 16,mv 5 17] [0,3,4,5]
 (.seq (sr [mv 18 5,bi 19 .eql 18 0] [0,3,4,5,19]
 (.cond (.t 19) (.reg [mi 5 1] [0,3,4,5])
 (.skip)))
 (sr [mi 6 0] [0,3,4,5,6]
 (.blk 2 (.loop [0,3,4,5,6] (Zgp)))))))
 (.reg [mv 11 4,bi 12 .add 11 1,mv 4 12] [0,3,4]))
def ZhQ:Zd:=Zda
def b823:Zd:=sr [mc 2 (.sl 2 [] .nl)] [0]
 (sr [it 3 (.nilacc 2)] [0,3]
 (.seq (sr [mi 4 0] [0,3,4]
 (.blk 0 (.loop [0,3,4] (ZhQ))))
 (rt [mv 35 3,mv 2 35] [2])))
def f823:Zi:=⟨false,[.tmp 2],b823,none,false⟩
def b826:Zd:=sr [bx 1 0,mi 2 0] [1]
 (.seq (sr [fa 4 0 1,ld 5 4,bi 6 .lss 5 0,mv 7 6,Gf 7 (fa 8 0 1),Gf 7 (ld 9 8),Gf 7 (bi 10 .gtr 9 34),po 11 7 10] [1,11]
 (cr 11 [mi 2 10] [2]))
 (sd [D (fa 13 0 1) 1 0,D (ld 14 13) 2 2,D (al 3 (.agg [.str [],.int .i64 0,.int .i64 0,.int .i64 0,.int .i64 0,.int .i64 0,.int .i64 0,.int .i64 0,.str []])) 5 0,E (ct 12 827 []) 0,E (ia 15 9 12 14) 3,E (la 16 9 15) 4,E (st 9 3 16) 6] [1,3]
 (.seq (sr [fa 17 1 1,ld 18 17,fa 19 4 3,it 20 (.iaddrA 2 1 (.t 19) (.c (.int .i64 0))),ld 21 20,bt 22 .lss 18 21,mv 23 22,Gf 23 (fa 24 1 1),Gf 23 (ld 25 24),Gf 23 (fa 26 4 3),Gf 23 (it 27 (.iaddrA 2 1 (.t 26) (.c (.int .i64 1)))),Gf 23 (ld 28 27),Gf 23 (bt 29 .gtr 25 28),po 30 23 29,mv 31 30,Gf 31 (fa 32 2 1),Gf 31 (ld 33 32),Gf 31 (fa 34 6 3),Gf 31 (it 35 (.iaddrA 2 1 (.t 34) (.c (.int .i64 0)))),Gf 31 (ld 36 35),Gf 31 (bt 37 .lss 33 36),po 38 31 37,mv 39 38,Gf 39 (fa 40 2 1),Gf 39 (ld 41 40),Gf 39 (fa 42 6 3),Gf 39 (it 43 (.iaddrA 2 1 (.t 42) (.c (.int .i64 1)))),Gf 39 (ld 44 43),Gf 39 (bt 45 .gtr 41 44),po 46 39 45,mv 47 46,Gf 47 (fa 48 0 3),Gf 47 (ld 49 48),Gf 47 (it 50 (.bin .eql (.t 49) (.c (.str [115,108,105,99,101])))),Gf 47 (mv 51 50),Gt 51 (fa 52 1 1),Gt 51 (ld 53 52),Gt 51 (fa 54 2 1),Gt 51 (ld 55 54),Gt 51 (bt 56 .lss 53 55),Gf 47 (pa 57 51 56),po 58 47 57] [1,3,58]
 (cr 58 [mi 2 7] [2]))
 (.seq (sr [fa 59 0 3,ld 60 59,it 61 (.bin .eql (.t 60) (.c (.str [112,117,115,104])))] [1,61]
 (.cond (.t 61) (.seq (sr [fa 62 3 1,la 63 3 62,ct 64 785 [63],nt 65 64] [65]
 (cr 65 [mi 2 1] [2]))
 (rt [mi 2 0] [2]))
 (.skip)))
 (.seq (sr [fa 66 3 1,la 67 3 66,it 68 (.build [.int .i64 0,.int .u64 0,.int .u64 0] []),it 69 (.eq true (some [.i,.i,.i]) (.t 67) (.t 68))] [69]
 (cr 69 [mi 2 1] [2]))
 (rt [mi 2 0] [2]))))))
def f826:Zi:=⟨false,[.tmp 2],b826,none,false⟩
def b827:Zd:=sr [mc 0 (.sl 9 [] .nl)] []
 (rt [it 1 (.build [.str [],.int .i64 0,.int .i64 0,.int .i64 0,.int .i64 0,.int .i64 0,.int .i64 0,.int .i64 0,.str []] [(0,1,.c (.str [112,117,115,104])),(2,1,.c (.int .i64 1)),(8,1,.c (.str [80,117,115,104]))]),it 2 (.build [.int .i64 0,.int .i64 0] [(0,1,.c (.int .i64 0)),(1,1,.c (.int .i64 31))]),it 3 (.build [.int .i64 0,.int .i64 0] [(0,1,.c (.int .i64 0)),(1,1,.c (.int .i64 15))]),it 4 (.build [.str [],.int .i64 0,.int .i64 0,.int .i64 0,.int .i64 0,.int .i64 0,.int .i64 0,.int .i64 0,.str []] [(0,1,.c (.str [102,105,101,108,100])),(1,1,.c (.int .i64 0)),(2,1,.c (.int .i64 1)),(3,1,.c (.int .i64 2)),(4,2,.t 2),(6,2,.t 3),(8,1,.c (.str [80,108,97,99,101]))]),it 5 (.build [.int .i64 0,.int .i64 0] [(0,1,.c (.int .i64 0)),(1,1,.c (.int .i64 23))]),it 6 (.build [.int .i64 0,.int .i64 0] [(0,1,.c (.int .i64 0)),(1,1,.c (.int .i64 0))]),it 7 (.build [.str [],.int .i64 0,.int .i64 0,.int .i64 0,.int .i64 0,.int .i64 0,.int .i64 0,.int .i64 0,.str []] [(0,1,.c (.str [109,101,116,97])),(1,1,.c (.int .i64 0)),(2,1,.c (.int .i64 1)),(3,1,.c (.int .i64 1)),(4,2,.t 5),(6,2,.t 6),(8,1,.c (.str [67,101,108,108]))]),it 8 (.build [.int .i64 0,.int .i64 0] [(0,1,.c (.int .i64 0)),(1,1,.c (.int .i64 7))]),it 9 (.build [.int .i64 0,.int .i64 0] [(0,1,.c (.int .i64 0)),(1,1,.c (.int .i64 0))]),it 10 (.build [.str [],.int .i64 0,.int .i64 0,.int .i64 0,.int .i64 0,.int .i64 0,.int .i64 0,.int .i64 0,.str []] [(0,1,.c (.str [112,97,114,97,109])),(1,1,.c (.int .i64 0)),(2,1,.c (.int .i64 1)),(3,1,.c (.int .i64 1)),(4,2,.t 8),(6,2,.t 9),(8,1,.c (.str [67,101,108,108]))]),it 11 (.build [.int .i64 0,.int .i64 0] [(0,1,.c (.int .i64 0)),(1,1,.c (.int .i64 31))]),it 12 (.build [.int .i64 0,.int .i64 0] [(0,1,.c (.int .i64 0)),(1,1,.c (.int .i64 0))]),it 13 (.build [.str [],.int .i64 0,.int .i64 0,.int .i64 0,.int .i64 0,.int .i64 0,.int .i64 0,.int .i64 0,.str []] [(0,1,.c (.str [118,97,108,105,100])),(1,1,.c (.int .i64 0)),(2,1,.c (.int .i64 1)),(3,1,.c (.int .i64 1)),(4,2,.t 11),(6,2,.t 12),(8,1,.c (.str [83,108,111,116]))]),it 14 (.build [.int .i64 0,.int .i64 0] [(0,1,.c (.int .i64 0)),(1,1,.c (.int .i64 7))]),it 15 (.build [.int .i64 0,.int .i64 0] [(0,1,.c (.int .i64 0)),(1,1,.c (.int .i64 0))]),it 16 (.build [.str [],.int .i64 0,.int .i64 0,.int .i64 0,.int .i64 0,.int .i64 0,.int .i64 0,.int .i64 0,.str []] [(0,1,.c (.str [114,101,103])),(1,1,.c (.int .i64 1)),(2,1,.c (.int .i64 1)),(3,1,.c (.int .i64 1)),(4,2,.t 14),(6,2,.t 15),(8,1,.c (.str [67,101,108,108]))]),it 17 (.build [.str [],.int .i64 0,.int .i64 0,.int .i64 0,.int .i64 0,.int .i64 0,.int .i64 0,.int .i64 0,.str []] [(0,1,.c (.str [110,111,116])),(1,1,.c (.int .i64 1)),(2,1,.c (.int .i64 1)),(8,1,.c (.str [79,110,101]))]),it 18 (.build [.str [],.int .i64 0,.int .i64 0,.int .i64 0,.int .i64 0,.int .i64 0,.int .i64 0,.int .i64 0,.str []] [(0,1,.c (.str [110,101,103])),(1,1,.c (.int .i64 1)),(2,1,.c (.int .i64 1)),(8,1,.c (.str [79,110,101]))]),it 19 (.build [.int .i64 0,.int .i64 0] [(0,1,.c (.int .i64 0)),(1,1,.c (.int .i64 128))]),it 20 (.build [.int .i64 0,.int .i64 0] [(0,1,.c (.int .i64 0)),(1,1,.c (.int .i64 0))]),it 21 (.build [.str [],.int .i64 0,.int .i64 0,.int .i64 0,.int .i64 0,.int .i64 0,.int .i64 0,.int .i64 0,.str []] [(0,1,.c (.str [115,104,108])),(1,1,.c (.int .i64 1)),(2,1,.c (.int .i64 1)),(3,1,.c (.int .i64 1)),(4,2,.t 19),(6,2,.t 20),(8,1,.c (.str [79,110,101]))]),it 22 (.build [.int .i64 0,.int .i64 0] [(0,1,.c (.int .i64 0)),(1,1,.c (.int .i64 128))]),it 23 (.build [.int .i64 0,.int .i64 0] [(0,1,.c (.int .i64 0)),(1,1,.c (.int .i64 0))]),it 24 (.build [.str [],.int .i64 0,.int .i64 0,.int .i64 0,.int .i64 0,.int .i64 0,.int .i64 0,.int .i64 0,.str []] [(0,1,.c (.str [115,104,114])),(1,1,.c (.int .i64 1)),(2,1,.c (.int .i64 1)),(3,1,.c (.int .i64 1)),(4,2,.t 22),(6,2,.t 23),(8,1,.c (.str [79,110,101]))]),it 25 (.build [.int .i64 0,.int .i64 0] [(0,1,.c (.int .i64 0)),(1,1,.c (.int .i64 127))]),it 26 (.build [.int .i64 0,.int .i64 0] [(0,1,.c (.int .i64 0)),(1,1,.c (.int .i64 127))]),it 27 (.build [.str [],.int .i64 0,.int .i64 0,.int .i64 0,.int .i64 0,.int .i64 0,.int .i64 0,.int .i64 0,.str []] [(0,1,.c (.str [115,108,105,99,101])),(1,1,.c (.int .i64 1)),(2,1,.c (.int .i64 1)),(3,1,.c (.int .i64 2)),(4,2,.t 25),(6,2,.t 26),(8,1,.c (.str [80,97,114,116]))]),it 28 (.build [.int .i64 0,.int .i64 0] [(0,1,.c (.int .i64 1)),(1,1,.c (.int .i64 128))]),it 29 (.build [.int .i64 0,.int .i64 0] [(0,1,.c (.int .i64 0)),(1,1,.c (.int .i64 0))]),it 30 (.build [.str [],.int .i64 0,.int .i64 0,.int .i64 0,.int .i64 0,.int .i64 0,.int .i64 0,.int .i64 0,.str []] [(0,1,.c (.str [99,97,115,116])),(1,1,.c (.int .i64 1)),(2,1,.c (.int .i64 1)),(3,1,.c (.int .i64 1)),(4,2,.t 28),(6,2,.t 29),(8,1,.c (.str [79,110,101]))]),it 31 (.build [.str [],.int .i64 0,.int .i64 0,.int .i64 0,.int .i64 0,.int .i64 0,.int .i64 0,.int .i64 0,.str []] [(0,1,.c (.str [97,100,100])),(1,1,.c (.int .i64 2)),(2,1,.c (.int .i64 1)),(8,1,.c (.str [84,119,111]))]),it 32 (.build [.str [],.int .i64 0,.int .i64 0,.int .i64 0,.int .i64 0,.int .i64 0,.int .i64 0,.int .i64 0,.str []] [(0,1,.c (.str [115,117,98])),(1,1,.c (.int .i64 2)),(2,1,.c (.int .i64 1)),(8,1,.c (.str [84,119,111]))]),it 33 (.build [.str [],.int .i64 0,.int .i64 0,.int .i64 0,.int .i64 0,.int .i64 0,.int .i64 0,.int .i64 0,.str []] [(0,1,.c (.str [97,100,100,45,115,97,116])),(1,1,.c (.int .i64 2)),(2,1,.c (.int .i64 1)),(8,1,.c (.str [84,119,111]))]),it 34 (.build [.str [],.int .i64 0,.int .i64 0,.int .i64 0,.int .i64 0,.int .i64 0,.int .i64 0,.int .i64 0,.str []] [(0,1,.c (.str [115,117,98,45,115,97,116])),(1,1,.c (.int .i64 2)),(2,1,.c (.int .i64 1)),(8,1,.c (.str [84,119,111]))]),it 35 (.build [.str [],.int .i64 0,.int .i64 0,.int .i64 0,.int .i64 0,.int .i64 0,.int .i64 0,.int .i64 0,.str []] [(0,1,.c (.str [97,110,100])),(1,1,.c (.int .i64 2)),(2,1,.c (.int .i64 1)),(8,1,.c (.str [84,119,111]))]),it 36 (.build [.str [],.int .i64 0,.int .i64 0,.int .i64 0,.int .i64 0,.int .i64 0,.int .i64 0,.int .i64 0,.str []] [(0,1,.c (.str [111,114])),(1,1,.c (.int .i64 2)),(2,1,.c (.int .i64 1)),(8,1,.c (.str [84,119,111]))]),it 37 (.build [.str [],.int .i64 0,.int .i64 0,.int .i64 0,.int .i64 0,.int .i64 0,.int .i64 0,.int .i64 0,.str []] [(0,1,.c (.str [120,111,114])),(1,1,.c (.int .i64 2)),(2,1,.c (.int .i64 1)),(8,1,.c (.str [84,119,111]))]),it 38 (.build [.str [],.int .i64 0,.int .i64 0,.int .i64 0,.int .i64 0,.int .i64 0,.int .i64 0,.int .i64 0,.str []] [(0,1,.c (.str [99,97,116])),(1,1,.c (.int .i64 2)),(2,1,.c (.int .i64 1)),(8,1,.c (.str [84,119,111]))]),it 39 (.build [.str [],.int .i64 0,.int .i64 0,.int .i64 0,.int .i64 0,.int .i64 0,.int .i64 0,.int .i64 0,.str []] [(0,1,.c (.str [101,113])),(1,1,.c (.int .i64 2)),(2,1,.c (.int .i64 1)),(8,1,.c (.str [84,119,111]))]),it 40 (.build [.str [],.int .i64 0,.int .i64 0,.int .i64 0,.int .i64 0,.int .i64 0,.int .i64 0,.int .i64 0,.str []] [(0,1,.c (.str [108,101,115,115])),(1,1,.c (.int .i64 2)),(2,1,.c (.int .i64 1)),(8,1,.c (.str [84,119,111]))]),it 41 (.build [.int .i64 0,.int .i64 0] [(0,1,.c (.int .i64 0)),(1,1,.c (.int .i64 31))]),it 42 (.build [.int .i64 0,.int .i64 0] [(0,1,.c (.int .i64 0)),(1,1,.c (.int .i64 15))]),it 43 (.build [.str [],.int .i64 0,.int .i64 0,.int .i64 0,.int .i64 0,.int .i64 0,.int .i64 0,.int .i64 0,.str []] [(0,1,.c (.str [112,117,116,45,102,105,101,108,100])),(1,1,.c (.int .i64 1)),(2,1,.c (.int .i64 0)),(3,1,.c (.int .i64 2)),(4,2,.t 41),(6,2,.t 42),(8,1,.c (.str [80,108,97,99,101]))]),it 44 (.build [.int .i64 0,.int .i64 0] [(0,1,.c (.int .i64 0)),(1,1,.c (.int .i64 23))]),it 45 (.build [.int .i64 0,.int .i64 0] [(0,1,.c (.int .i64 0)),(1,1,.c (.int .i64 0))]),it 46 (.build [.str [],.int .i64 0,.int .i64 0,.int .i64 0,.int .i64 0,.int .i64 0,.int .i64 0,.int .i64 0,.str []] [(0,1,.c (.str [112,117,116,45,109,101,116,97])),(1,1,.c (.int .i64 1)),(2,1,.c (.int .i64 0)),(3,1,.c (.int .i64 1)),(4,2,.t 44),(6,2,.t 45),(8,1,.c (.str [67,101,108,108]))]),it 47 (.build [.int .i64 0,.int .i64 0] [(0,1,.c (.int .i64 0)),(1,1,.c (.int .i64 7))]),it 48 (.build [.int .i64 0,.int .i64 0] [(0,1,.c (.int .i64 0)),(1,1,.c (.int .i64 0))]),it 49 (.build [.str [],.int .i64 0,.int .i64 0,.int .i64 0,.int .i64 0,.int .i64 0,.int .i64 0,.int .i64 0,.str []] [(0,1,.c (.str [112,117,116,45,114,101,103])),(1,1,.c (.int .i64 2)),(2,1,.c (.int .i64 0)),(3,1,.c (.int .i64 1)),(4,2,.t 47),(6,2,.t 48),(8,1,.c (.str [67,101,108,108]))]),it 50 (.build [.int .i64 0,.int .i64 0] [(0,1,.c (.int .i64 0)),(1,1,.c (.int .i64 31))]),it 51 (.build [.int .i64 0,.int .i64 0] [(0,1,.c (.int .i64 0)),(1,1,.c (.int .i64 0))]),it 52 (.build [.str [],.int .i64 0,.int .i64 0,.int .i64 0,.int .i64 0,.int .i64 0,.int .i64 0,.int .i64 0,.str []] [(0,1,.c (.str [115,104,111,119])),(1,1,.c (.int .i64 0)),(2,1,.c (.int .i64 0)),(3,1,.c (.int .i64 1)),(4,2,.t 50),(6,2,.t 51),(8,1,.c (.str [83,108,111,116]))]),it 53 (.build [.int .i64 0,.int .i64 0] [(0,1,.c (.int .i64 0)),(1,1,.c (.int .i64 31))]),it 54 (.build [.int .i64 0,.int .i64 0] [(0,1,.c (.int .i64 0)),(1,1,.c (.int .i64 0))]),it 55 (.build [.str [],.int .i64 0,.int .i64 0,.int .i64 0,.int .i64 0,.int .i64 0,.int .i64 0,.int .i64 0,.str []] [(0,1,.c (.str [104,105,100,101])),(1,1,.c (.int .i64 0)),(2,1,.c (.int .i64 0)),(3,1,.c (.int .i64 1)),(4,2,.t 53),(6,2,.t 54),(8,1,.c (.str [83,108,111,116]))]),it 56 (.build [.int .i64 0,.int .i64 0] [(0,1,.c (.int .i64 0)),(1,1,.c (.int .i64 15))]),it 57 (.build [.int .i64 0,.int .i64 0] [(0,1,.c (.int .i64 1)),(1,1,.c (.int .i64 4))]),it 58 (.build [.str [],.int .i64 0,.int .i64 0,.int .i64 0,.int .i64 0,.int .i64 0,.int .i64 0,.int .i64 0,.str []] [(0,1,.c (.str [112,117,115,104,45,104,101,97,100])),(1,1,.c (.int .i64 0)),(2,1,.c (.int .i64 0)),(3,1,.c (.int .i64 2)),(4,2,.t 56),(6,2,.t 57),(8,1,.c (.str [72,101,97,100,115]))]),it 59 (.build [.int .i64 0,.int .i64 0] [(0,1,.c (.int .i64 0)),(1,1,.c (.int .i64 15))]),it 60 (.build [.int .i64 0,.int .i64 0] [(0,1,.c (.int .i64 1)),(1,1,.c (.int .i64 4))]),it 61 (.build [.str [],.int .i64 0,.int .i64 0,.int .i64 0,.int .i64 0,.int .i64 0,.int .i64 0,.int .i64 0,.str []] [(0,1,.c (.str [112,111,112,45,104,101,97,100])),(1,1,.c (.int .i64 0)),(2,1,.c (.int .i64 0)),(3,1,.c (.int .i64 2)),(4,2,.t 59),(6,2,.t 60),(8,1,.c (.str [72,101,97,100,115]))]),it 62 (.build [.int .i64 0,.int .i64 0] [(0,1,.c (.int .i64 0)),(1,1,.c (.int .i64 7))]),it 63 (.build [.int .i64 0,.int .i64 0] [(0,1,.c (.int .i64 0)),(1,1,.c (.int .i64 0))]),it 64 (.build [.str [],.int .i64 0,.int .i64 0,.int .i64 0,.int .i64 0,.int .i64 0,.int .i64 0,.int .i64 0,.str []] [(0,1,.c (.str [99,111,117,110,116])),(1,1,.c (.int .i64 1)),(2,1,.c (.int .i64 0)),(3,1,.c (.int .i64 1)),(4,2,.t 62),(6,2,.t 63),(8,1,.c (.str [67,101,108,108]))]),it 65 (.build [.int .i64 0,.int .i64 0] [(0,1,.c (.int .i64 0)),(1,1,.c (.int .i64 7))]),it 66 (.build [.int .i64 0,.int .i64 0] [(0,1,.c (.int .i64 0)),(1,1,.c (.int .i64 0))]),it 67 (.build [.str [],.int .i64 0,.int .i64 0,.int .i64 0,.int .i64 0,.int .i64 0,.int .i64 0,.int .i64 0,.str []] [(0,1,.c (.str [109,101,116,101,114])),(1,1,.c (.int .i64 1)),(2,1,.c (.int .i64 1)),(3,1,.c (.int .i64 1)),(4,2,.t 65),(6,2,.t 66),(8,1,.c (.str [67,101,108,108]))]),it 68 (.build [.int .i64 0,.int .i64 0] [(0,1,.c (.int .i64 0)),(1,1,.c (.int .i64 64))]),it 69 (.build [.int .i64 0,.int .i64 0] [(0,1,.c (.int .i64 0)),(1,1,.c (.int .i64 0))]),it 70 (.build [.str [],.int .i64 0,.int .i64 0,.int .i64 0,.int .i64 0,.int .i64 0,.int .i64 0,.int .i64 0,.str []] [(0,1,.c (.str [106,117,109,112])),(1,1,.c (.int .i64 0)),(2,1,.c (.int .i64 0)),(3,1,.c (.int .i64 1)),(4,2,.t 68),(6,2,.t 69),(8,1,.c (.str [74,117,109,112]))]),it 71 (.build [.int .i64 0,.int .i64 0] [(0,1,.c (.int .i64 0)),(1,1,.c (.int .i64 64))]),it 72 (.build [.int .i64 0,.int .i64 0] [(0,1,.c (.int .i64 0)),(1,1,.c (.int .i64 0))]),it 73 (.build [.str [],.int .i64 0,.int .i64 0,.int .i64 0,.int .i64 0,.int .i64 0,.int .i64 0,.int .i64 0,.str []] [(0,1,.c (.str [106,117,109,112,45,122,101,114,111])),(1,1,.c (.int .i64 1)),(2,1,.c (.int .i64 0)),(3,1,.c (.int .i64 1)),(4,2,.t 71),(6,2,.t 72),(8,1,.c (.str [74,117,109,112]))]),it 74 (.build [.int .i64 0,.int .i64 0] [(0,1,.c (.int .i64 0)),(1,1,.c (.int .i64 31))]),it 75 (.build [.int .i64 0,.int .i64 0] [(0,1,.c (.int .i64 0)),(1,1,.c (.int .i64 64))]),it 76 (.build [.str [],.int .i64 0,.int .i64 0,.int .i64 0,.int .i64 0,.int .i64 0,.int .i64 0,.int .i64 0,.str []] [(0,1,.c (.str [106,117,109,112,45,103,111,110,101])),(1,1,.c (.int .i64 0)),(2,1,.c (.int .i64 0)),(3,1,.c (.int .i64 2)),(4,2,.t 74),(6,2,.t 75),(8,1,.c (.str [71,111,110,101]))]),it 77 (.build [.str [],.int .i64 0,.int .i64 0,.int .i64 0,.int .i64 0,.int .i64 0,.int .i64 0,.int .i64 0,.str []] [(0,1,.c (.str [115,116,111,112])),(8,1,.c (.str [83,116,111,112]))]),it 78 (.buildSl 9 [.t 1,.t 4,.t 7,.t 10,.t 13,.t 16,.t 17,.t 18,.t 21,.t 24,.t 27,.t 30,.t 31,.t 32,.t 33,.t 34,.t 35,.t 36,.t 37,.t 38,.t 39,.t 40,.t 43,.t 46,.t 49,.t 52,.t 55,.t 58,.t 61,.t 64,.t 67,.t 70,.t 73,.t 76,.t 77]),mv 0 78] [0])
def f827:Zi:=⟨false,[.tmp 0],b827,none,false⟩
def Zcq:Zd:=.seq (sr [mv 8 5,bi 9 .lss 8 15] [1,5,9]
 (.cond (.t 9) (.skip)
 (.exit 0)))
 (.seq (.blk 1 (sr [la 13 18 1,mv 14 5,ct 15 843 [13,14],mv 12 15,ex 16 12 0,ex 17 12 1,mv 6 16,mv 7 17] [1,5,6,7]
 (sr [mv 18 7,bi 19 .neq 18 0] [1,5,6,7,19]
 (cr 19 [mv 20 5,mv 21 6,mv 22 7,mv 2 20,mv 3 21,mv 4 22] [2,3,4]))))
 (.reg [mv 10 5,bi 11 .add 10 1,mv 5 11] [1,5]))
def Zh2:Zd:=Zcq
def b828:Zd:=sr [bx 1 0,mi 2 0,mi 3 0,mi 4 0] [1]
 (.seq (sr [mi 5 0] [1,5]
 (.blk 0 (.loop [1,5] (Zh2))))
 (rt [mi 2 0,mi 3 0,mi 4 0] [2,3,4]))
def f828:Zi:=⟨false,[.tmp 2,.tmp 3,.tmp 4],b828,none,false⟩
def ZcY:Zd:=.seq (sr [mv 33 9,mv 34 1,ln 35 34,bt 36 .lss 33 35] [1,2,3,9,36]
 (.cond (.t 36) (.skip)
 (.exit 2)))
 (.seq (.blk 3 (.seq (sd [D (mv 40 1) 1 0,D (mv 41 9) 2 0,D (ia 42 6 40 41) 3 6,D (mv 44 2) 5 0,E (la 39 18 3) 0,D (la 43 6 42) 4 14,E (ct 45 844 [39,43,44]) 6,E (nt 46 45) 7] [1,2,3,9,46]
 (cr 46 [mi 6 5] [6]))
 (sr [mi 10 (-1)] [1,2,3,9,10]
 (sd [D (mv 48 1) 1 0,D (mv 49 9) 2 0,D (ia 50 6 48 49) 3 6,D (fa 51 0 50) 4 14,D (ld 52 51) 5 30,E (ct 47 827 []) 0,E (ia 53 9 47 52) 6,E (fa 54 8 53) 7,E (ld 55 54) 8,E (mv 11 55) 9] [1,2,3,9,10,11]
 (.seq (sr [mv 56 11,it 57 (.bin .eql (.t 56) (.c (.str [74,117,109,112])))] [1,2,3,9,10,11,57]
 (.cond (.t 57) (.reg [mv 58 1,mv 59 9,ia 60 6 58 59,fa 61 1 60,ld 62 61,mv 10 62] [1,2,3,9,10,11])
 (.skip)))
 (.seq (sr [mv 63 11,it 64 (.bin .eql (.t 63) (.c (.str [71,111,110,101])))] [1,2,3,9,10,64]
 (.cond (.t 64) (.reg [mv 65 1,mv 66 9,ia 67 6 65 66,fa 68 2 67,ld 69 68,mv 10 69] [1,2,3,9,10])
 (.skip)))
 (sr [mv 70 10,bi 71 .geq 70 0,mv 72 71,Gt 72 (mv 73 10),Gt 72 (mv 74 9),Gt 72 (bt 75 .leq 73 74),Gt 72 (mv 76 75),Gf 76 (mv 77 10),Gf 76 (mv 78 1),Gf 76 (ln 79 78),Gf 76 (bt 80 .gtr 77 79),Gt 72 (po 81 76 80),pa 82 72 81] [1,2,3,9,82]
 (cr 82 [mi 6 12] [6]))))))))
 (.reg [mv 37 9,bi 38 .add 37 1,mv 9 38] [1,2,3,9]))
def Zhx:Zd:=ZcY
def ZdI:Zd:=.seq (sr [mv 12 7,mv 13 1,ln 14 13,bt 15 .lss 12 14,mv 16 15,Gt 16 (mv 17 7),Gt 16 (bi 18 .lss 17 64),pa 19 16 18] [1,2,3,7,19]
 (.cond (.t 19) (.skip)
 (.exit 0)))
 (.seq (.blk 1 (sr [mv 22 1,mv 23 7,ia 24 6 22 23,la 25 6 24,ct 26 826 [25],mv 8 26] [1,2,3,7,8]
 (sr [mv 27 8,bi 28 .neq 27 0] [1,2,3,7,8,28]
 (cr 28 [mv 29 8,mv 6 29] [6]))))
 (.reg [mv 20 7,bi 21 .add 20 1,mv 7 21] [1,2,3,7]))
def ZgB:Zd:=ZdI
def b829:Zd:=sr [bx 3 0,mi 6 0] [1,2,3]
 (.seq (sr [mi 7 0] [1,2,3,7]
 (.blk 0 (.loop [1,2,3,7] (ZgB))))
 (.seq (sr [mv 30 1,ln 31 30,bi 32 .gtr 31 64] [1,2,3,32]
 (cr 32 [mi 6 2] [6]))
 (.seq (sr [mi 9 0] [1,2,3,9]
 (.blk 2 (.loop [1,2,3,9] (Zhx))))
 (rt [mi 6 0] [6]))))
def f829:Zi:=⟨false,[.tmp 6],b829,none,false⟩
def b830:Zd:=sr [bx 3 0,mi 6 0,mc 7 (.bool false)] [1,2,3]
 (sr [la 11 18 3,mv 12 1,ct 13 834 [11,12],mv 10 13,ex 14 10 0,ex 15 10 1,al 8 (.agg [.str [],.sl 2 [] .nl,.int .i64 0,.int .i64 0,.int .i64 0,.int .i64 0]),i0 (.store 6 true (.t 8) (.t 14)),mv 9 15] [2,8,9]
 (.seq (sr [mv 16 9,nt 17 16,mv 18 17,Gf 18 (mv 19 2),Gf 18 (bi 20 .lss 19 0),po 21 18 20,mv 22 21,Gf 22 (mv 23 2),Gf 22 (fa 24 1 8),Gf 22 (ld 25 24),Gf 22 (ln 26 25),Gf 22 (bt 27 .geq 23 26),po 28 22 27] [2,8,28]
 (cr 28 [mi 6 0,mc 7 (.bool false)] [6,7]))
 (rt [fa 29 1 8,ld 30 29,mv 31 2,ia 32 2 30 31,fa 33 1 32,ld 34 33,mv 6 34,mc 7 (.bool true)] [6,7])))
def f830:Zi:=⟨false,[.tmp 6,.tmp 7],b830,none,false⟩
def Zd1:Zd:=.seq (sr [mv 10 7,mv 11 1,ln 12 11,bt 13 .lss 10 12] [1,2,6,7,13]
 (.cond (.t 13) (.skip)
 (.exit 0)))
 (.seq (.blk 1 (sd [D (mv 18 1) 1 0,D (mv 19 7) 2 0,D (ia 20 3 18 19) 3 6,E (la 17 18 2) 0,D (la 21 3 20) 4 14,E (ct 22 833 [17,21]) 5,E (mv 16 22) 6,E (ex 23 16 0) 7,D (ex 24 16 1) 8 127,D (mv 8 23) 9 255,E (mv 9 24) 10] [1,2,6,7,8,9]
 (.seq (sr [mv 25 9,nt 26 25,mv 27 26,Gf 27 (mv 28 8),Gf 27 (bi 29 .lss 28 1),po 30 27 29,mv 31 30,Gf 31 (mv 32 8),Gf 31 (mv 33 6),Gf 31 (it 34 (.bin .sub (.c (.int .i64 128)) (.t 33))),Gf 31 (bt 35 .gtr 32 34),po 36 31 35] [1,2,6,7,8,36]
 (cr 36 [mi 4 0,mc 5 (.bool false)] [4,5]))
 (.reg [mv 37 6,mv 38 8,bt 39 .add 37 38,mv 6 39] [1,2,6,7]))))
 (.reg [mv 14 7,bi 15 .add 14 1,mv 7 15] [1,2,6,7]))
def Zhk:Zd:=Zd1
def b831:Zd:=sr [bx 2 0,mi 4 0,mc 5 (.bool false)] [1,2]
 (sr [mi 6 0] [1,2,6]
 (.seq (sr [mi 7 0] [1,2,6,7]
 (.blk 0 (.loop [1,2,6,7] (Zhk))))
 (rt [mv 40 6,mv 4 40,mc 5 (.bool true)] [4,5])))
def f831:Zi:=⟨false,[.tmp 4,.tmp 5],b831,none,false⟩
def b832:Zd:=sr [bx 2 0,mi 4 0,mc 5 (.bool false)] [1,2]
 (sr [it 7 (.buildSl 1 [.c (.int .i64 8),.c (.int .i64 8),.c (.int .i64 8),.c (.int .i64 1),.c (.int .i64 8),.c (.int .i64 1),.c (.int .i64 16),.c (.int .i64 8)]),mv 6 7] [1,2,6]
 (.seq (sr [mv 8 1,bi 9 .geq 8 0,mv 10 9,Gt 10 (mv 11 1),Gt 10 (bi 12 .lss 11 8),pa 13 10 12] [1,2,6,13]
 (cr 13 [mv 14 6,mv 15 1,ia 16 1 14 15,ld 17 16,mv 4 17,mc 5 (.bool true)] [4,5]))
 (.seq (sr [mv 18 1,bi 19 .geq 18 8,mv 20 19,Gt 20 (mv 21 1),Gt 20 (bi 22 .sub 21 8),Gt 20 (fa 23 3 2),Gt 20 (ld 24 23),Gt 20 (ln 25 24),Gt 20 (bt 26 .lss 22 25),pa 27 20 26] [1,2,27]
 (cr 27 [fa 28 3 2,ld 29 28,mv 30 1,bi 31 .sub 30 8,ia 32 2 29 31,fa 33 1 32,ld 34 33,mv 4 34,mc 5 (.bool true)] [4,5]))
 (rt [mi 4 0,mc 5 (.bool false)] [4,5]))))
def f832:Zi:=⟨false,[.tmp 4,.tmp 5],b832,none,false⟩
def b833:Zd:=sr [bx 2 0,bx 3 1,mi 4 0,mc 5 (.bool false)] [2,3]
 (.seq (sr [fa 6 0 3,ld 7 6,bi 8 .eql 7 0] [2,3,8]
 (cr 8 [la 9 18 2,fa 10 1 3,ld 11 10,fa 12 2 3,ld 13 12,ct 14 830 [9,11,13],ex 15 14 0,ex 16 14 1,mv 4 15,mv 5 16] [4,5]))
 (.seq (sr [fa 17 0 3,ld 18 17,bi 19 .eql 18 1] [2,3,19]
 (cr 19 [la 20 18 2,fa 21 1 3,ld 22 21,ct 23 832 [20,22],ex 24 23 0,ex 25 23 1,mv 4 24,mv 5 25] [4,5]))
 (.seq (sr [fa 26 0 3,ld 27 26,bi 28 .eql 27 2,mv 29 28,Gt 29 (fa 30 1 3),Gt 29 (ld 31 30),Gt 29 (bi 32 .geq 31 0),pa 33 29 32,mv 34 33,Gt 34 (fa 35 1 3),Gt 34 (ld 36 35),Gt 34 (bi 37 .leq 36 1024),pa 38 34 37,mv 39 38,Gt 39 (fa 40 2 3),Gt 39 (ld 41 40),Gt 39 (bi 42 .geq 41 1),pa 43 39 42,mv 44 43,Gt 44 (fa 45 2 3),Gt 44 (ld 46 45),Gt 44 (bi 47 .leq 46 64),pa 48 44 47] [3,48]
 (cr 48 [fa 49 2 3,ld 50 49,mv 4 50,mc 5 (.bool true)] [4,5]))
 (rt [mi 4 0,mc 5 (.bool false)] [4,5]))))
def f833:Zi:=⟨false,[.tmp 4,.tmp 5],b833,none,false⟩
def b834:Zd:=sr [bx 2 0,al 4 (.agg [.str [],.sl 2 [] .nl,.int .i64 0,.int .i64 0,.int .i64 0,.int .i64 0]),mc 5 (.bool false)] [1,2,4]
 (sr [fa 8 2 2,ld 9 8,ct 10 823 [9],mv 6 10] [1,2,4,6]
 (.seq (sr [mv 11 1,bi 12 .lss 11 0,mv 13 12,Gf 13 (mv 14 1),Gf 13 (mv 15 6),Gf 13 (ln 16 15),Gf 13 (bt 17 .geq 14 16),po 18 13 17] [1,2,4,6,18]
 (cr 18 [it 19 (.build [.str [],.sl 2 [] .nl,.int .i64 0,.int .i64 0,.int .i64 0,.int .i64 0] []),i0 (.store 6 true (.t 4) (.t 19)),mc 5 (.bool false)] [4,5]))
 (sd [E (fa 20 2 2) 0,D (mv 22 6) 2 0,D (mv 23 1) 3 0,D (ia 24 2 22 23) 4 12,D (it 25 (.iaddrA 2 1 (.t 24) (.c (.int .i64 0)))) 5 28,E (ld 21 20) 1,D (ld 26 25) 6 60,E (ia 27 3 21 26) 7,E (fa 28 1 27) 8,E (ld 29 28) 9,E (mv 7 29) 10] [2,4,7]
 (.seq (sr [mv 30 7,bi 31 .lss 30 0,mv 32 31,Gf 32 (mv 33 7),Gf 32 (fa 34 1 2),Gf 32 (ld 35 34),Gf 32 (ln 36 35),Gf 32 (bt 37 .geq 33 36),po 38 32 37] [2,4,7,38]
 (cr 38 [it 39 (.build [.str [],.sl 2 [] .nl,.int .i64 0,.int .i64 0,.int .i64 0,.int .i64 0] []),i0 (.store 6 true (.t 4) (.t 39)),mc 5 (.bool false)] [4,5]))
 (rt [fa 40 1 2,ld 41 40,mv 42 7,ia 43 6 41 42,la 44 6 43,i0 (.store 6 true (.t 4) (.t 44)),mc 5 (.bool true)] [4,5])))))
def f834:Zi:=⟨false,[.cell 4 true 6,.tmp 5],b834,none,false⟩
def b835:Zd:=sr [bx 2 0,mi 4 0,mi 5 0,mc 6 (.bool false)] [1,2]
 (.seq (sr [mv 7 1,bi 8 .lss 7 0,mv 9 8,Gf 9 (mv 10 1),Gf 9 (fa 11 2 2),Gf 9 (ld 12 11),Gf 9 (ln 13 12),Gf 9 (bt 14 .geq 10 13),po 15 9 14,mv 16 15,Gf 16 (fa 17 2 2),Gf 16 (ld 18 17),Gf 16 (mv 19 1),Gf 16 (ia 20 3 18 19),Gf 16 (fa 21 2 20),Gf 16 (ld 22 21),Gf 16 (bi 23 .lss 22 1),po 24 16 23,mv 25 24,Gf 25 (fa 26 2 2),Gf 25 (ld 27 26),Gf 25 (mv 28 1),Gf 25 (ia 29 3 27 28),Gf 25 (fa 30 2 29),Gf 25 (ld 31 30),Gf 25 (bi 32 .gtr 31 4),po 33 25 32] [1,2,33]
 (cr 33 [mi 4 0,mi 5 0,mc 6 (.bool false)] [4,5,6]))
 (sd [E (fa 34 2 2) 0,D (mv 36 1) 2 0,D (fa 40 2 2) 6 0,D (mv 42 1) 8 0,E (ld 35 34) 1,E (it 37 (.slice 3 (.t 35) none (some (.t 36)) none)) 3,D (ld 41 40) 7 64,D (ia 43 3 41 42) 9 448,D (fa 44 2 43) 10 960,D (ld 45 44) 11 1984,E (ct 38 823 [37]) 4,E (ln 39 38) 5,D (mv 4 39) 12 63,E (mv 5 45) 13,E (mc 6 (.bool true)) 14] [4,5,6]
 (.ret)))
def f835:Zi:=⟨false,[.tmp 4,.tmp 5,.tmp 6],b835,none,false⟩
def Zec:Zd:=.seq (sr [mv 154 13,fa 155 14 2,ld 156 155,ln 157 156,bt 158 .lss 154 157,mv 159 158,Gt 159 (mv 160 1),Gt 159 (bi 161 .eql 160 14),pa 162 159 161] [1,2,5,13,162]
 (.cond (.t 162) (.skip)
 (.exit 14)))
 (.seq (.blk 15 (.reg [mv 165 5,fa 166 14 2,ld 167 166,mv 168 13,ia 169 4 167 168,fa 170 0 169,ld 171 170,it 172 (.buildSl 1 [.t 171]),it 173 (.app 1 16 false (.t 165) (.t 172)),mv 5 173] [1,2,5,13]))
 (.reg [mv 163 13,bi 164 .add 163 1,mv 13 164] [1,2,5,13]))
def Zdp:Zd:=Zec
def Zcp:Zd:=.seq (sr [mv 134 12,fa 135 13 2,ld 136 135,ln 137 136,bt 138 .lss 134 137,mv 139 138,Gt 139 (mv 140 1),Gt 139 (bi 141 .eql 140 13),pa 142 139 141] [1,2,5,12,142]
 (.cond (.t 142) (.skip)
 (.exit 12)))
 (.seq (.blk 13 (.reg [mv 145 5,fa 146 13 2,ld 147 146,mv 148 12,ia 149 2 147 148,fa 150 0 149,ld 151 150,it 152 (.buildSl 1 [.t 151]),it 153 (.app 1 16 false (.t 145) (.t 152)),mv 5 153] [1,2,5,12]))
 (.reg [mv 143 12,bi 144 .add 143 1,mv 12 144] [1,2,5,12]))
def Zcl:Zd:=Zcp
def Zcy:Zd:=.seq (sr [mv 114 11,fa 115 12 2,ld 116 115,ln 117 116,bt 118 .lss 114 117,mv 119 118,Gt 119 (mv 120 1),Gt 119 (bi 121 .eql 120 12),pa 122 119 121] [1,2,5,11,122]
 (.cond (.t 122) (.skip)
 (.exit 10)))
 (.seq (.blk 11 (.reg [mv 125 5,fa 126 12 2,ld 127 126,mv 128 11,ia 129 3 127 128,fa 130 0 129,ld 131 130,it 132 (.buildSl 1 [.t 131]),it 133 (.app 1 16 false (.t 125) (.t 132)),mv 5 133] [1,2,5,11]))
 (.reg [mv 123 11,bi 124 .add 123 1,mv 11 124] [1,2,5,11]))
def ZdM:Zd:=Zcy
def ZdO:Zd:=.seq (sr [mv 94 10,fa 95 6 2,ld 96 95,ln 97 96,bt 98 .lss 94 97,mv 99 98,Gt 99 (mv 100 1),Gt 99 (bi 101 .eql 100 6),pa 102 99 101] [1,2,5,10,102]
 (.cond (.t 102) (.skip)
 (.exit 8)))
 (.seq (.blk 9 (.reg [mv 105 5,fa 106 6 2,ld 107 106,mv 108 10,ia 109 7 107 108,fa 110 0 109,ld 111 110,it 112 (.buildSl 1 [.t 111]),it 113 (.app 1 16 false (.t 105) (.t 112)),mv 5 113] [1,2,5,10]))
 (.reg [mv 103 10,bi 104 .add 103 1,mv 10 104] [1,2,5,10]))
def Zd3:Zd:=ZdO
def Zcr:Zd:=.seq (sr [mv 74 9,fa 75 5 2,ld 76 75,ln 77 76,bt 78 .lss 74 77,mv 79 78,Gt 79 (mv 80 1),Gt 79 (bi 81 .eql 80 5),pa 82 79 81] [1,2,5,9,82]
 (.cond (.t 82) (.skip)
 (.exit 6)))
 (.seq (.blk 7 (.reg [mv 85 5,fa 86 5 2,ld 87 86,mv 88 9,ia 89 3 87 88,fa 90 0 89,ld 91 90,it 92 (.buildSl 1 [.t 91]),it 93 (.app 1 16 false (.t 85) (.t 92)),mv 5 93] [1,2,5,9]))
 (.reg [mv 83 9,bi 84 .add 83 1,mv 9 84] [1,2,5,9]))
def Zcj:Zd:=Zcr
def Zdf:Zd:=.seq (sr [mv 54 8,fa 55 4 2,ld 56 55,ln 57 56,bt 58 .lss 54 57,mv 59 58,Gt 59 (mv 60 1),Gt 59 (bi 61 .eql 60 4),pa 62 59 61] [1,2,5,8,62]
 (.cond (.t 62) (.skip)
 (.exit 4)))
 (.seq (.blk 5 (.reg [mv 65 5,fa 66 4 2,ld 67 66,mv 68 8,ia 69 5 67 68,fa 70 0 69,ld 71 70,it 72 (.buildSl 1 [.t 71]),it 73 (.app 1 16 false (.t 65) (.t 72)),mv 5 73] [1,2,5,8]))
 (.reg [mv 63 8,bi 64 .add 63 1,mv 8 64] [1,2,5,8]))
def Zc7:Zd:=Zdf
def ZdQ:Zd:=.seq (sr [mv 34 7,fa 35 3 2,ld 36 35,ln 37 36,bt 38 .lss 34 37,mv 39 38,Gt 39 (mv 40 1),Gt 39 (bi 41 .eql 40 3),pa 42 39 41] [1,2,5,7,42]
 (.cond (.t 42) (.skip)
 (.exit 2)))
 (.seq (.blk 3 (.reg [mv 45 5,fa 46 3 2,ld 47 46,mv 48 7,ia 49 2 47 48,fa 50 0 49,ld 51 50,it 52 (.buildSl 1 [.t 51]),it 53 (.app 1 16 false (.t 45) (.t 52)),mv 5 53] [1,2,5,7]))
 (.reg [mv 43 7,bi 44 .add 43 1,mv 7 44] [1,2,5,7]))
def ZdP:Zd:=ZdQ
def ZdZ:Zd:=.seq (sr [mv 14 6,fa 15 1 2,ld 16 15,ln 17 16,bt 18 .lss 14 17,mv 19 18,Gt 19 (mv 20 1),Gt 19 (bi 21 .eql 20 1),pa 22 19 21] [1,2,5,6,22]
 (.cond (.t 22) (.skip)
 (.exit 0)))
 (.seq (.blk 1 (.reg [mv 25 5,fa 26 1 2,ld 27 26,mv 28 6,ia 29 6 27 28,fa 30 0 29,ld 31 30,it 32 (.buildSl 1 [.t 31]),it 33 (.app 1 16 false (.t 25) (.t 32)),mv 5 33] [1,2,5,6]))
 (.reg [mv 23 6,bi 24 .add 23 1,mv 6 24] [1,2,5,6]))
def ZdH:Zd:=ZdZ
def b836:Zd:=sr [bx 2 0,mc 4 (.sl 1 [] .nl)] [1,2]
 (sr [it 5 (.nilacc 1)] [1,2,5]
 (.seq (sr [mi 6 0] [1,2,5,6]
 (.blk 0 (.loop [1,2,5,6] (ZdH))))
 (.seq (sr [mi 7 0] [1,2,5,7]
 (.blk 2 (.loop [1,2,5,7] (ZdP))))
 (.seq (sr [mi 8 0] [1,2,5,8]
 (.blk 4 (.loop [1,2,5,8] (Zc7))))
 (.seq (sr [mi 9 0] [1,2,5,9]
 (.blk 6 (.loop [1,2,5,9] (Zcj))))
 (.seq (sr [mi 10 0] [1,2,5,10]
 (.blk 8 (.loop [1,2,5,10] (Zd3))))
 (.seq (sr [mi 11 0] [1,2,5,11]
 (.blk 10 (.loop [1,2,5,11] (ZdM))))
 (.seq (sr [mi 12 0] [1,2,5,12]
 (.blk 12 (.loop [1,2,5,12] (Zcl))))
 (.seq (sr [mi 13 0] [1,2,5,13]
 (.blk 14 (.loop [1,2,5,13] (Zdp))))
 (rt [mv 174 5,mv 4 174] [4]))))))))))
def f836:Zi:=⟨false,[.tmp 4],b836,none,false⟩
def ZdL:Zd:=.seq (sr [mv 20 8,mv 21 2,ln 22 21,bt 23 .lss 20 22] [2,7,8,23]
 (.cond (.t 23) (.skip)
 (.exit 0)))
 (.seq (.blk 1 (sd [E (mv 26 2) 0,D (mv 27 8) 1 0,E (ia 28 3 26 27) 2,E (la 29 3 28) 3,E (ct 30 785 [29]) 4,E (nt 31 30) 5,E (mv 32 31) 6,E (Gf 32 (mv 33 2)) 7,D (Gf 32 (mv 34 8)) 8 127,E (Gf 32 (ia 35 3 33 34)) 9,E (Gf 32 (fa 36 0 35)) 10,D (Gf 32 (mv 38 7)) 12 127,D (Gf 32 (mv 39 8)) 13 127,D (Gf 32 (ia 40 1 38 39)) 14 12415,E (Gf 32 (ld 37 36)) 11,D (Gf 32 (ld 41 40)) 15 28799,E (Gf 32 (bt 42 .neq 37 41)) 16,E (po 43 32 42) 17] [2,7,8,43]
 (cr 43 [mi 6 9] [6])))
 (.reg [mv 24 8,bi 25 .add 24 1,mv 8 25] [2,7,8]))
def ZfL:Zd:=ZdL
def b837:Zd:=sr [bx 3 0,mi 6 0] [1,2,3]
 (sr [fa 9 5 3,ld 10 9,mv 11 1,ia 12 3 10 11,fa 13 1 12,ld 14 13,mv 7 14] [2,7]
 (.seq (sr [mv 15 2,ln 16 15,mv 17 7,ln 18 17,bt 19 .neq 16 18] [2,7,19]
 (cr 19 [mi 6 2] [6]))
 (.seq (sr [mi 8 0] [2,7,8]
 (.blk 0 (.loop [2,7,8] (ZfL))))
 (rt [mi 6 0] [6]))))
def f837:Zi:=⟨false,[.tmp 6],b837,none,false⟩
def b838:Zd:=sr [bx 2 0,bx 3 1,mi 4 0] [2,3]
 (.seq (sr [fa 9 0 3,ld 10 9,bi 11 .eql 10 0] [2,3,11]
 (.cond (.t 11) (sr [fa 12 2 2,ld 13 12,ct 14 823 [13],mv 5 14] [2,3,5]
 (.seq (sd [E (fa 15 1 3) 0,E (ld 16 15) 1,E (bi 17 .lss 16 0) 2,E (mv 18 17) 3,E (Gf 18 (fa 19 1 3)) 4,D (Gf 18 (mv 21 5)) 6 15,D (Gf 18 (ln 22 21)) 7 79,E (Gf 18 (ld 20 19)) 5,E (Gf 18 (bt 23 .geq 20 22)) 8,E (po 24 18 23) 9,E (mv 25 24) 10,E (Gf 25 (fa 26 2 2)) 11,D (Gf 25 (mv 28 5)) 13 2047,D (Gf 25 (fa 29 1 3)) 14 2047,E (Gf 25 (ld 27 26)) 12,D (Gf 25 (ld 30 29)) 15 18431,D (Gf 25 (ia 31 2 28 30)) 16 59391,D (Gf 25 (it 32 (.iaddrA 2 1 (.t 31) (.c (.int .i64 0))))) 17 124927,D (Gf 25 (ld 33 32)) 18 255999,E (Gf 25 (ia 34 3 27 33)) 19,E (Gf 25 (fa 35 2 34)) 20,E (Gf 25 (ld 36 35)) 21,E (Gf 25 (bi 37 .neq 36 0)) 22,E (po 38 25 37) 23] [38]
 (cr 38 [mi 4 5] [4]))
 (rt [mi 4 0] [4])))
 (.skip)))
 (.seq (sr [fa 39 0 3,ld 40 39,bi 41 .eql 40 1] [2,3,41]
 (.cond (.t 41) (sr [la 43 18 2,fa 44 1 3,ld 45 44,ct 46 835 [43,45],mv 42 46,ex 47 42 0,ex 48 42 1,ex 49 42 2,mv 6 47,mv 7 48,mv 8 49] [8]
 (.seq (sr [mv 50 8,nt 51 50] [51]
 (cr 51 [mi 4 5] [4]))
 (rt [mi 4 0] [4])))
 (.skip)))
 (.seq (sr [fa 52 0 3,ld 53 52,bi 54 .neq 53 2] [3,54]
 (cr 54 [mi 4 10] [4]))
 (.seq (sr [fa 55 1 3,ld 56 55,bi 57 .lss 56 1,mv 58 57,Gf 58 (fa 59 1 3),Gf 58 (ld 60 59),Gf 58 (bi 61 .gtr 60 64),po 62 58 61] [62]
 (cr 62 [mi 4 7] [4]))
 (rt [mi 4 0] [4])))))
def f838:Zi:=⟨false,[.tmp 4],b838,none,false⟩
def Zdl:Zd:=.seq (sr [mv 16 7,mv 17 1,ln 18 17,bt 19 .lss 16 18] [1,2,3,7,19]
 (.cond (.t 19) (.skip)
 (.exit 0)))
 (.seq (.blk 1 (sr [mv 22 1,mv 23 7,ia 24 3 22 23,la 25 3 24,al 8 (.agg [.int .i64 0,.int .i64 0,.int .i64 0]),st 3 8 25] [1,2,3,7,8]
 (.seq (sr [fa 26 0 8,ld 27 26,bi 28 .neq 27 0,mv 29 28,Gt 29 (fa 30 0 8),Gt 29 (ld 31 30),Gt 29 (bi 32 .neq 31 1),pa 33 29 32,mv 34 33,Gt 34 (fa 35 0 8),Gt 34 (ld 36 35),Gt 34 (bi 37 .eql 36 2),Gt 34 (mv 38 37),Gt 38 (mv 39 2),Gt 34 (pa 40 38 39),Gt 34 (nt 41 40),pa 42 34 41] [1,2,3,7,8,42]
 (cr 42 [mi 6 10] [6]))
 (sr [la 44 18 3,la 45 3 8,ct 46 833 [44,45],mv 43 46,ex 47 43 0,ex 48 43 1,mv 9 47,mv 10 48] [1,2,3,7,8,10]
 (.seq (sr [mv 49 10,nt 50 49,mv 51 50,Gt 51 (fa 52 0 8),Gt 51 (ld 53 52),Gt 51 (bi 54 .eql 53 2),pa 55 51 54] [1,2,3,7,8,10,55]
 (cr 55 [mi 6 7] [6]))
 (.seq (sr [mv 56 10,nt 57 56] [1,2,3,7,8,57]
 (cr 57 [mi 6 5] [6]))
 (sr [fa 58 0 8,ld 59 58,bi 60 .eql 59 1,mv 61 60,Gt 61 (fa 62 2 8),Gt 61 (ld 63 62),Gt 61 (bi 64 .neq 63 0),pa 65 61 64] [1,2,3,7,65]
 (cr 65 [mi 6 7] [6]))))))))
 (.reg [mv 20 7,bi 21 .add 20 1,mv 7 21] [1,2,3,7]))
def Zg0:Zd:=Zdl
def b839:Zd:=sr [bx 3 0,mi 6 0] [1,2,3]
 (.seq (sr [mv 13 1,ln 14 13,bi 15 .gtr 14 4] [1,2,3,15]
 (cr 15 [mi 6 2] [6]))
 (.seq (sr [mi 7 0] [1,2,3,7]
 (.blk 0 (.loop [1,2,3,7] (Zg0))))
 (sr [la 67 18 3,mv 68 1,ct 69 831 [67,68],mv 66 69,ex 70 66 0,ex 71 66 1,mv 11 70,mv 12 71] [12]
 (.seq (sr [mv 72 12,nt 73 72] [73]
 (cr 73 [mi 6 9] [6]))
 (rt [mi 6 0] [6])))))
def f839:Zi:=⟨false,[.tmp 6],b839,none,false⟩
def b840:Zd:=sr [bx 2 0,mc 4 (.bool false)] [1,2]
 (rt [mv 5 1,bi 6 .geq 5 (-2),mv 7 6,Gt 7 (mv 8 1),Gt 7 (fa 9 4 2),Gt 7 (ld 10 9),Gt 7 (ln 11 10),Gt 7 (bt 12 .lss 8 11),pa 13 7 12,mv 4 13] [4])
def f840:Zi:=⟨false,[.tmp 4],b840,none,false⟩
def b841:Zd:=sr [bx 4 0,bx 5 1,mi 8 0] [2,3,4,5]
 (.seq (sr [fa 13 0 5,ld 14 13,bi 15 .lss 14 0,mv 16 15,Gf 16 (fa 17 0 5),Gf 16 (ld 18 17),Gf 16 (bi 19 .gtr 18 3),po 20 16 19] [2,3,4,5,20]
 (cr 20 [mi 8 10] [8]))
 (sr [la 22 18 4,fa 23 1 5,ld 24 23,ct 25 834 [22,24],mv 21 25,ex 26 21 0,ex 27 21 1,al 9 (.agg [.str [],.sl 2 [] .nl,.int .i64 0,.int .i64 0,.int .i64 0,.int .i64 0]),i0 (.store 6 true (.t 9) (.t 26)),mv 10 27] [2,3,4,5,10]
 (.seq (sr [fa 28 0 5,ld 29 28,bi 30 .eql 29 0,mv 31 30,Gt 31 (fa 32 1 5),Gt 31 (ld 33 32),Gt 31 (bi 34 .lss 33 0),Gt 31 (mv 35 34),Gf 35 (fa 36 1 5),Gf 35 (ld 37 36),Gf 35 (fa 38 6 4),Gf 35 (ld 39 38),Gf 35 (ln 40 39),Gf 35 (bt 41 .geq 37 40),Gt 31 (po 42 35 41),pa 43 31 42,mv 44 43,Gf 44 (fa 45 0 5),Gf 44 (ld 46 45),Gf 44 (bi 47 .eql 46 2),Gf 44 (mv 48 47),Gt 48 (fa 49 1 5),Gt 48 (ld 50 49),Gt 48 (bi 51 .lss 50 0),Gt 48 (mv 52 51),Gf 52 (fa 53 1 5),Gf 52 (ld 54 53),Gf 52 (fa 55 5 4),Gf 52 (ld 56 55),Gf 52 (ln 57 56),Gf 52 (bt 58 .geq 54 57),Gt 48 (po 59 52 58),Gf 44 (pa 60 48 59),po 61 44 60,mv 62 61,Gf 62 (fa 63 0 5),Gf 62 (ld 64 63),Gf 62 (bi 65 .eql 64 1),Gf 62 (mv 66 65),Gt 66 (fa 67 1 5),Gt 66 (ld 68 67),Gt 66 (bi 69 .neq 68 0),Gf 62 (pa 70 66 69),po 71 62 70,mv 72 71,Gf 72 (fa 73 0 5),Gf 72 (ld 74 73),Gf 72 (bi 75 .eql 74 3),Gf 72 (mv 76 75),Gt 76 (mv 77 10),Gt 76 (nt 78 77),Gf 72 (pa 79 76 78),po 80 72 79] [2,3,4,5,80]
 (cr 80 [mi 8 5] [8]))
 (.seq (sr [fa 81 0 5,ld 82 81,bi 83 .eql 82 1] [2,3,4,5,83]
 (.cond (.t 83) (sr [la 84 18 4,fa 85 2 5,ld 86 85,cl 87 829 [.t 84,.t 86,.c (.int .i64 0)],mv 11 87] [2,3,4,5,11]
 (sr [mv 88 11,bi 89 .neq 88 0] [2,3,4,5,11,89]
 (cr 89 [mv 90 11,mv 8 90] [8])))
 (sr [fa 91 2 5,ld 92 91,ln 93 92,bi 94 .gtr 93 0] [2,3,4,5,94]
 (cr 94 [mi 8 4] [8]))))
 (.seq (sr [fa 95 0 5,ld 96 95,bi 97 .eql 96 2] [2,3,4,5,97]
 (.cond (.t 97) (sr [la 98 18 4,fa 99 1 5,ld 100 99,fa 101 3 5,ld 102 101,ct 103 837 [98,100,102],mv 12 103] [2,3,5,12]
 (.seq (sr [mv 104 12,bi 105 .neq 104 0] [2,3,5,12,105]
 (cr 105 [mv 106 12,mv 8 106] [8]))
 (sr [fa 107 5 5,ld 108 107,bi 109 .neq 108 0] [2,3,5,109]
 (cr 109 [mi 8 4] [8]))))
 (.seq (sr [fa 110 3 5,ld 111 110,ln 112 111,bi 113 .gtr 112 0] [2,3,5,113]
 (cr 113 [mi 8 4] [8]))
 (sr [fa 114 5 5,ld 115 114,mv 116 2,bt 117 .leq 115 116,mv 118 117,Gf 118 (fa 119 5 5),Gf 118 (ld 120 119),Gf 118 (mv 121 3),Gf 118 (bt 122 .gtr 120 121),po 123 118 122] [2,3,5,123]
 (cr 123 [mi 8 12] [8])))))
 (.seq (sr [fa 124 4 5,ld 125 124,mv 126 2,bt 127 .leq 125 126,mv 128 127,Gf 128 (fa 129 4 5),Gf 128 (ld 130 129),Gf 128 (mv 131 3),Gf 128 (bt 132 .gtr 130 131),po 133 128 132] [133]
 (cr 133 [mi 8 12] [8]))
 (rt [mi 8 0] [8])))))))
def f841:Zi:=⟨false,[.tmp 8],b841,none,false⟩
def ZcU:Zd:=.seq (sr [mv 11 6,mv 12 1,ln 13 12,bt 14 .lss 11 13] [1,2,6,14]
 (.cond (.t 14) (.skip)
 (.exit 0)))
 (.seq (.blk 1 (sd [D (mv 18 1) 1 0,D (mv 19 6) 2 0,D (ia 20 6 18 19) 3 6,D (mv 22 6) 5 0,D (mv 23 1) 6 0,D (ln 24 23) 7 64,E (la 17 18 2) 0,D (la 21 6 20) 4 14,E (ct 25 841 [17,21,22,24]) 8,E (mv 7 25) 9] [1,2,6,7]
 (sr [mv 26 7,bi 27 .neq 26 0] [1,2,6,7,27]
 (cr 27 [mv 28 6,mv 29 7,mv 4 28,mv 5 29] [4,5]))))
 (.reg [mv 15 6,bi 16 .add 15 1,mv 6 16] [1,2,6]))
def ZfS:Zd:=ZcU
def b842:Zd:=sr [bx 2 0,mi 4 0,mi 5 0] [1,2]
 (.seq (sr [mv 8 1,ln 9 8,bi 10 .gtr 9 32] [1,2,10]
 (cr 10 [mi 4 0,mi 5 2] [4,5]))
 (.seq (sr [mi 6 0] [1,2,6]
 (.blk 0 (.loop [1,2,6] (ZfS))))
 (rt [mi 4 0,mi 5 0] [4,5])))
def f842:Zi:=⟨false,[.tmp 4,.tmp 5],b842,none,false⟩
def Zea:Zd:=.seq (sr [mv 149 12,mv 150 10,ln 151 150,bt 152 .lss 149 151] [1,2,10,12,152]
 (.cond (.t 152) (.skip)
 (.exit 5)))
 (.seq (.blk 6 (sr [mi 13 0] [1,2,10,12,13]
 (.seq (sr [mv 155 1,bi 156 .eql 155 1] [1,2,10,12,13,156]
 (.cond (.t 156) (.reg [fa 157 1 2,ld 158 157,mv 159 12,ia 160 6 158 159,la 161 6 160,ct 162 821 [161],mv 13 162] [1,2,10,12,13])
 (.skip)))
 (.seq (sr [mv 163 13,bi 164 .eql 163 0] [1,2,10,12,13,164]
 (.cond (.t 164) (.reg [mv 165 10,mv 166 12,bi 167 .add 166 1,it 168 (.slice 1 (.t 165) none (some (.t 167)) none),ct 169 849 [168],mv 13 169] [1,2,10,12,13])
 (.skip)))
 (.seq (sr [mv 170 13,bi 171 .eql 170 0] [1,2,10,12,13,171]
 (.cond (.t 171) (.reg [la 172 18 2,mv 173 1,mv 174 12,ct 175 848 [172,173,174],mv 13 175] [1,2,10,12,13])
 (.skip)))
 (sr [mv 176 13,bi 177 .neq 176 0] [1,2,10,12,13,177]
 (cr 177 [mv 178 12,mv 179 13,mv 4 178,mv 5 179] [4,5])))))))
 (.reg [mv 153 12,bi 154 .add 153 1,mv 12 154] [1,2,10,12]))
def Zc2:Zd:=Zea
def ZcB:Zd:=.seq (sr [mv 98 9,mv 99 6,bt 100 .lss 98 99] [2,6,9,100]
 (.cond (.t 100) (.skip)
 (.exit 3)))
 (.seq (.blk 4 (sd [E (fa 103 9 2) 0,D (mv 105 9) 2 0,D (fa 108 9 2) 5 0,D (mv 110 6) 7 0,E (ld 104 103) 1,E (ia 106 1 104 105) 3,E (ld 107 106) 4,D (ld 109 108) 6 32,D (ia 111 1 109 110) 8 224,D (ld 112 111) 9 480,E (bt 113 .eql 107 112) 10] [2,6,9,113]
 (cr 113 [mv 114 6,mv 4 114,mi 5 6] [4,5])))
 (.reg [mv 101 9,bi 102 .add 101 1,mv 9 102] [2,6,9]))
def Zhf:Zd:=ZcB
def ZcZ:Zd:=.seq (sr [mv 78 6,fa 79 9 2,ld 80 79,ln 81 80,bt 82 .lss 78 81] [2,6,82]
 (.cond (.t 82) (.skip)
 (.exit 1)))
 (.seq (.blk 2 (sd [D (fa 87 9 2) 1 0,D (mv 89 6) 3 0,E (la 86 18 2) 0,D (ld 88 87) 2 2,D (ia 90 1 88 89) 4 14,D (ld 91 90) 5 30,D (al 7 (.agg [.str [],.sl 2 [] .nl,.int .i64 0,.int .i64 0,.int .i64 0,.int .i64 0])) 10 0,E (ct 92 834 [86,91]) 6,E (mv 85 92) 7,E (ex 93 85 0) 8,D (ex 94 85 1) 9 255,D (i0 (.store 6 true (.t 7) (.t 93))) 11 1535,E (mv 8 94) 12] [2,6,8]
 (.seq (sr [mv 95 8,nt 96 95] [2,6,96]
 (cr 96 [mv 97 6,mv 4 97,mi 5 5] [4,5]))
 (sr [mi 9 0] [2,6,9]
 (.blk 3 (.loop [2,6,9] (Zhf)))))))
 (.reg [mv 83 6,bi 84 .add 83 1,mv 6 84] [2,6]))
def ZgK:Zd:=ZcZ
def b843:Zd:=sr [bx 2 0,mi 4 0,mi 5 0] [1,2]
 (.seq (sr [mv 14 1] [1,2,14]
 (.blk 0 (sr [bi 16 .eql 14 0,mv 15 16] [1,2,14,15]
 (.cond (.t 15) (.seq (sr [fa 17 0 2,ld 18 17,ct 19 805 [18],nt 20 19] [2,20]
 (cr 20 [mi 4 0,mi 5 4] [4,5]))
 (.seq (sr [fa 21 15 2,ld 22 21,bi 23 .lss 22 1,mv 24 23,Gf 24 (fa 25 15 2),Gf 24 (ld 26 25),Gf 24 (bi 27 .gtr 26 64),po 28 24 27,mv 29 28,Gf 29 (fa 30 16 2),Gf 29 (ld 31 30),Gf 29 (bi 32 .lss 31 1),po 33 29 32,mv 34 33,Gf 34 (fa 35 16 2),Gf 34 (ld 36 35),Gf 34 (bi 37 .gtr 36 32),po 38 34 37,mv 39 38,Gf 39 (fa 40 17 2),Gf 39 (ld 41 40),Gf 39 (bi 42 .lss 41 0),po 43 39 42,mv 44 43,Gf 44 (fa 45 17 2),Gf 44 (ld 46 45),Gf 44 (bi 47 .gtr 46 4),po 48 44 47] [48]
 (cr 48 [mi 4 0,mi 5 7] [4,5]))
 (rt [mi 4 0,mi 5 0] [4,5])))
 (sr [bi 50 .eql 14 2,mv 49 50] [1,2,14,49]
 (.cond (.t 49) (rt [fa 51 1 2,ld 52 51,fa 53 2 2,ld 54 53,ct 55 820 [52,54],mi 4 0,mv 5 55] [4,5])
 (sr [bi 57 .eql 14 7,mv 56 57] [1,2,14,56]
 (.cond (.t 56) (rt [la 58 18 2,fa 59 7 2,ld 60 59,ct 61 842 [58,60],ex 62 61 0,ex 63 61 1,mv 4 62,mv 5 63] [4,5])
 (sr [bi 65 .eql 14 8,mv 64 65] [1,2,14,64]
 (.cond (.t 64) (rt [la 66 18 2,fa 67 8 2,ld 68 67,ct 69 842 [66,68],ex 70 69 0,ex 71 69 1,mv 4 70,mv 5 71] [4,5])
 (sr [bi 73 .eql 14 9,mv 72 73] [1,2,14,72]
 (.cond (.t 72) (.seq (sr [fa 74 9 2,ld 75 74,ln 76 75,bi 77 .gtr 76 32] [2,77]
 (cr 77 [mi 4 0,mi 5 2] [4,5]))
 (.seq (sr [mi 6 0] [2,6]
 (.blk 1 (.loop [2,6] (ZgK))))
 (rt [mi 4 0,mi 5 0] [4,5])))
 (sr [bi 116 .eql 14 10,mv 115 116] [1,2,14,115]
 (.cond (.t 115) (rt [la 117 18 2,fa 118 10 2,ld 119 118,ct 120 846 [117,119],ex 121 120 0,ex 122 120 1,mv 4 121,mv 5 122] [4,5])
 (sr [bi 124 .eql 14 11,mv 123 124] [1,2,123]
 (cr 123 [la 125 18 2,fa 126 11 2,ld 127 126,ct 128 846 [125,127],ex 129 128 0,ex 130 128 1,mv 4 129,mv 5 130] [4,5]))))))))))))))))
 (sr [la 131 18 2,mv 132 1,ct 133 836 [131,132],mv 10 133] [1,2,10]
 (sr [it 134 (.buildSl 1 [.c (.int .i64 0),.c (.int .i64 16),.c (.int .i64 0),.c (.int .i64 16),.c (.int .i64 16),.c (.int .i64 32),.c (.int .i64 8),.c (.int .i64 0),.c (.int .i64 0),.c (.int .i64 0),.c (.int .i64 0),.c (.int .i64 0),.c (.int .i64 8),.c (.int .i64 8),.c (.int .i64 8)]),mv 135 1,ia 136 1 134 135,ld 137 136,mv 11 137] [1,2,10,11]
 (.seq (sr [mv 138 1,bi 139 .eql 138 4,mv 140 139,Gt 140 (mv 141 10),Gt 140 (ln 142 141),Gt 140 (bi 143 .eql 142 0),pa 144 140 143] [1,2,10,11,144]
 (cr 144 [mi 4 0,mi 5 5] [4,5]))
 (.seq (sr [mv 145 10,ln 146 145,mv 147 11,bt 148 .gtr 146 147] [1,2,10,148]
 (cr 148 [mi 4 0,mi 5 2] [4,5]))
 (.seq (sr [mi 12 0] [1,2,10,12]
 (.blk 5 (.loop [1,2,10,12] (Zc2))))
 (rt [mi 4 0,mi 5 0] [4,5])))))))
def f843:Zi:=⟨false,[.tmp 4,.tmp 5],b843,none,false⟩
def b844:Zd:=sr [bx 3 0,bx 4 1,mc 6 (.bool false)] [2,3,4]
 (sr [mc 7 (.bool true)] [2,3,4,7]
 (.seq (sd [D (fa 9 0 4) 1 0,D (ld 10 9) 2 2,E (ct 8 827 []) 0,E (ia 11 9 8 10) 3,E (fa 12 0 11) 4,E (ld 13 12) 5] [2,3,4,7,13]
 (.blk 0 (.seq (sr [it 15 (.bin .eql (.t 13) (.c (.str [102,105,101,108,100]))),mv 14 15] [2,3,4,7,13,14]
 (.cond (.t 14) (.skip)
 (.reg [it 16 (.bin .eql (.t 13) (.c (.str [112,117,116,45,102,105,101,108,100]))),mv 14 16] [2,3,4,7,13,14])))
 (.cond (.t 14) (.reg [la 18 18 3,fa 19 1 4,ld 20 19,fa 21 2 4,ld 22 21,ct 23 830 [18,20,22],mv 17 23,ex 24 17 0,ex 25 17 1,mv 7 25] [7])
 (.seq (sr [it 27 (.bin .eql (.t 13) (.c (.str [109,101,116,97]))),mv 26 27] [2,3,4,7,13,26]
 (.cond (.t 26) (.skip)
 (.reg [it 28 (.bin .eql (.t 13) (.c (.str [112,117,116,45,109,101,116,97]))),mv 26 28] [2,3,4,7,13,26])))
 (.cond (.t 26) (.reg [la 30 18 3,fa 31 1 4,ld 32 31,ct 33 832 [30,32],mv 29 33,ex 34 29 0,ex 35 29 1,mv 7 35] [7])
 (sr [it 37 (.bin .eql (.t 13) (.c (.str [112,97,114,97,109]))),mv 36 37] [2,3,4,7,13,36]
 (.cond (.t 36) (.reg [fa 38 1 4,ld 39 38,mv 40 2,bt 41 .lss 39 40,mv 7 41] [7])
 (.seq (sr [it 43 (.bin .eql (.t 13) (.c (.str [114,101,103]))),mv 42 43] [3,4,7,13,42]
 (.cond (.t 42) (.skip)
 (.reg [it 44 (.bin .eql (.t 13) (.c (.str [112,117,116,45,114,101,103]))),mv 42 44] [3,4,7,13,42])))
 (.cond (.t 42) (.reg [fa 45 1 4,ld 46 45,fa 47 12 3,ld 48 47,ln 49 48,bt 50 .lss 46 49,mv 7 50] [7])
 (sr [it 52 (.bin .eql (.t 13) (.c (.str [99,111,117,110,116]))),mv 51 52] [3,4,7,13,51]
 (.cond (.t 51) (.reg [fa 53 1 4,ld 54 53,fa 55 13 3,ld 56 55,ln 57 56,bt 58 .lss 54 57,mv 7 58] [7])
 (sr [it 60 (.bin .eql (.t 13) (.c (.str [109,101,116,101,114]))),mv 59 60] [3,4,7,13,59]
 (.cond (.t 59) (.reg [fa 61 1 4,ld 62 61,fa 63 14 3,ld 64 63,ln 65 64,bt 66 .lss 62 65,mv 7 66] [7])
 (.seq (sr [it 68 (.bin .eql (.t 13) (.c (.str [118,97,108,105,100]))),mv 67 68] [3,4,7,13,67]
 (.cond (.t 67) (.skip)
 (sr [it 69 (.bin .eql (.t 13) (.c (.str [115,104,111,119]))),mv 67 69] [3,4,7,13,67]
 (.cond (.t 67) (.skip)
 (sr [it 70 (.bin .eql (.t 13) (.c (.str [104,105,100,101]))),mv 67 70] [3,4,7,13,67]
 (.cond (.t 67) (.skip)
 (.reg [it 71 (.bin .eql (.t 13) (.c (.str [106,117,109,112,45,103,111,110,101]))),mv 67 71] [3,4,7,13,67])))))))
 (.cond (.t 67) (.reg [la 73 18 3,fa 74 1 4,ld 75 74,ct 76 834 [73,75],mv 72 76,ex 77 72 0,ex 78 72 1,mv 7 78] [7])
 (.seq (sr [it 80 (.bin .eql (.t 13) (.c (.str [112,117,115,104,45,104,101,97,100]))),mv 79 80] [3,4,7,13,79]
 (.cond (.t 79) (.skip)
 (.reg [it 81 (.bin .eql (.t 13) (.c (.str [112,111,112,45,104,101,97,100]))),mv 79 81] [3,4,7,79])))
 (.cond (.t 79) (.reg [la 83 18 3,fa 84 1 4,ld 85 84,ct 86 835 [83,85],mv 82 86,ex 87 82 0,ex 88 82 1,ex 89 82 2,mv 7 89] [7])
 (.skip)))))))))))))))))))
 (rt [mv 90 7,mv 6 90] [6])))
def f844:Zi:=⟨false,[.tmp 6],b844,none,false⟩
def ZcE:Zd:=.seq (sr [mv 63 10,fa 64 3 3,ld 65 64,ln 66 65,bt 67 .lss 63 66] [2,3,8,10,67]
 (.cond (.t 67) (.skip)
 (.exit 2)))
 (.seq (.blk 3 (sr [fa 70 3 3,ld 71 70,mv 72 10,ia 73 7 71 72,la 74 7 73,al 11 (.agg [.int .i64 0,.int .u64 0,.int .u64 0,.int .i64 0,.int .u64 0,.int .u64 0,.int .i64 0]),st 7 11 74] [2,3,8,10,11]
 (.seq (sr [fa 75 0 11,la 76 3 75,ct 77 785 [76],nt 78 77,mv 79 78,Gf 79 (fa 80 3 11),Gf 79 (la 81 3 80),Gf 79 (ct 82 785 [81]),Gf 79 (nt 83 82),po 84 79 83,mv 85 84,Gf 85 (fa 86 0 11),Gf 85 (fa 87 0 86),Gf 85 (ld 88 87),Gf 85 (mv 89 8),Gf 85 (bt 90 .neq 88 89),po 91 85 90,mv 92 91,Gf 92 (fa 93 3 11),Gf 92 (fa 94 0 93),Gf 92 (ld 95 94),Gf 92 (mv 96 8),Gf 92 (bt 97 .neq 95 96),po 98 92 97] [2,3,8,10,11,98]
 (cr 98 [mi 4 9] [4]))
 (sr [fa 100 0 11,la 101 3 100,fa 102 3 11,la 103 3 102,cl 104 790 [.c (.str [97,110,100]),.t 101,.t 103],mv 99 104,ex 105 99 0,ex 106 99 1,al 12 (.agg [.int .i64 0,.int .u64 0,.int .u64 0]),st 3 12 105,mv 13 106] [2,3,8,10,11,12]
 (.seq (sr [la 107 3 12,fa 108 0 11,la 109 3 108,it 110 (.eq true (some [.i,.i,.i]) (.t 107) (.t 109))] [2,3,8,10,11,110]
 (cr 110 [mi 4 14] [4]))
 (sr [la 111 18 2,fa 112 6 11,ld 113 112,ct 114 840 [111,113],nt 115 114] [2,3,8,10,115]
 (cr 115 [mi 4 5] [4])))))))
 (.reg [mv 68 10,bi 69 .add 68 1,mv 10 69] [2,3,8,10]))
def Zhs:Zd:=ZcE
def ZdE:Zd:=.seq (sr [mv 18 5,fa 19 1 3,ld 20 19,ln 21 20,bt 22 .lss 18 21] [2,3,5,22]
 (.cond (.t 22) (.skip)
 (.exit 0)))
 (.seq (.blk 1 (sd [D (fa 26 1 3) 1 0,D (mv 28 5) 3 0,E (la 25 18 2) 0,D (ld 27 26) 2 2,D (ia 29 2 27 28) 4 14,D (la 30 2 29) 5 30,E (ct 31 838 [25,30]) 6,E (mv 6 31) 7] [2,3,5,6]
 (sr [mv 32 6,bi 33 .neq 32 0] [2,3,5,6,33]
 (cr 33 [mv 34 6,mv 4 34] [4]))))
 (.reg [mv 23 5,bi 24 .add 23 1,mv 5 24] [2,3,5]))
def ZhK:Zd:=ZdE
def b845:Zd:=sr [bx 2 0,bx 3 1,mi 4 0] [2,3]
 (.seq (sr [fa 14 1 3,ld 15 14,ln 16 15,bi 17 .gtr 16 4] [2,3,17]
 (cr 17 [mi 4 2] [4]))
 (.seq (sr [mi 5 0] [2,3,5]
 (.blk 0 (.loop [2,3,5] (ZhK))))
 (sr [la 35 18 2,fa 36 2 3,ld 37 36,cl 38 839 [.t 35,.t 37,.c (.bool true)],mv 7 38] [2,3,7]
 (.seq (sr [mv 39 7,bi 40 .neq 39 0] [2,3,7,40]
 (cr 40 [mv 41 7,mv 4 41] [4]))
 (.seq (sr [fa 42 3 3,ld 43 42,ln 44 43,bi 45 .gtr 44 8] [2,3,45]
 (cr 45 [mi 4 2] [4]))
 (.seq (sr [fa 46 3 3,ld 47 46,ln 48 47,bi 49 .gtr 48 0,mv 50 49,Gt 50 (fa 51 2 3),Gt 50 (ld 52 51),Gt 50 (ln 53 52),Gt 50 (bi 54 .eql 53 0),pa 55 50 54] [2,3,55]
 (cr 55 [mi 4 4] [4]))
 (sr [la 57 18 2,fa 58 2 3,ld 59 58,ct 60 831 [57,59],mv 56 60,ex 61 56 0,ex 62 56 1,mv 8 61,mv 9 62] [2,3,8]
 (.seq (sr [mi 10 0] [2,3,8,10]
 (.blk 2 (.loop [2,3,8,10] (Zhs))))
 (.seq (sr [la 116 18 2,fa 117 4 3,ld 118 117,ct 119 840 [116,118],nt 120 119] [120]
 (cr 120 [mi 4 5] [4]))
 (rt [mi 4 0] [4]))))))))))
def f845:Zi:=⟨false,[.tmp 4],b845,none,false⟩
def Zb1:Zd:=.seq (sr [mv 14 6,mv 15 1,ln 16 15,bt 17 .lss 14 16] [1,2,6,17]
 (.cond (.t 17) (.skip)
 (.exit 0)))
 (.seq (.blk 1 (sd [D (mv 22 1) 1 0,D (mv 23 6) 2 0,D (ia 24 2 22 23) 3 6,D (fa 25 0 24) 4 14,D (mv 27 1) 6 0,D (mv 28 6) 7 0,D (ia 29 2 27 28) 8 192,D (fa 30 1 29) 9 448,E (la 21 18 2) 0,D (ld 26 25) 5 30,D (ld 31 30) 10 960,E (ct 32 830 [21,26,31]) 11,E (mv 20 32) 12,E (ex 33 20 0) 13,D (ex 34 20 1) 14 8191,D (mv 7 33) 15 16383,E (mv 8 34) 16] [1,2,6,7,8]
 (.seq (sr [mv 35 8,nt 36 35] [1,2,6,7,36]
 (cr 36 [mv 37 6,mv 4 37,mi 5 5] [4,5]))
 (sd [D (mv 40 1) 1 0,D (mv 41 6) 2 0,D (ia 42 2 40 41) 3 6,D (fa 43 0 42) 4 14,E (la 39 18 2) 0,D (ld 44 43) 5 30,D (al 9 (.agg [.str [],.sl 2 [] .nl,.int .i64 0,.int .i64 0,.int .i64 0,.int .i64 0])) 10 0,E (ct 45 834 [39,44]) 6,E (mv 38 45) 7,E (ex 46 38 0) 8,D (ex 47 38 1) 9 255,D (i0 (.store 6 true (.t 9) (.t 46))) 11 1535,E (mv 10 47) 12] [1,2,6,7,9]
 (sd [E (mv 48 7) 0,E (bi 49 .neq 48 16) 1,E (mv 50 49) 2,E (Gf 50 (fa 51 1 9)) 3,D (Gf 50 (mv 53 1)) 5 7,D (Gf 50 (mv 54 6)) 6 7,D (Gf 50 (ia 55 2 53 54)) 7 103,D (Gf 50 (fa 56 1 55)) 8 231,E (Gf 50 (ld 52 51)) 4,D (Gf 50 (ld 57 56)) 9 487,E (Gf 50 (it 58 (.slice 2 (.t 52) none (some (.t 57)) none))) 10,E (Gf 50 (it 59 (.build [.str [],.sl 2 [] .nl,.int .i64 0,.int .i64 0,.int .i64 0,.int .i64 0] [(1,1,.t 58)]))) 11,E (Gf 50 (ct 60 819 [59])) 12,E (Gf 50 (bi 61 .rem 60 16)) 13,E (Gf 50 (bi 62 .neq 61 0)) 14,E (po 63 50 62) 15] [1,2,6,63]
 (cr 63 [mv 64 6,mv 4 64,mi 5 9] [4,5]))))))
 (.reg [mv 18 6,bi 19 .add 18 1,mv 6 19] [1,2,6]))
def ZfU:Zd:=Zb1
def b846:Zd:=sr [bx 2 0,mi 4 0,mi 5 0] [1,2]
 (.seq (sr [mv 11 1,ln 12 11,bi 13 .gtr 12 4] [1,2,13]
 (cr 13 [mi 4 0,mi 5 2] [4,5]))
 (.seq (sr [mi 6 0] [1,2,6]
 (.blk 0 (.loop [1,2,6] (ZfU))))
 (rt [mi 4 0,mi 5 0] [4,5])))
def f846:Zi:=⟨false,[.tmp 4,.tmp 5],b846,none,false⟩
def ZcM:Zd:=.seq (sr [mv 54 9,mv 55 7,bt 56 .lss 54 55] [2,3,6,7,8,9,56]
 (.cond (.t 56) (.skip)
 (.exit 2)))
 (.seq (.blk 3 (sr [fa 59 3 3,ld 60 59,mv 61 9,ia 62 1 60 61,ld 63 62,mv 64 8,bt 65 .eql 63 64] [2,3,6,7,8,9,65]
 (cr 65 [mi 4 6] [4])))
 (.reg [mv 57 9,bi 58 .add 57 1,mv 9 58] [2,3,6,7,8,9]))
def Zgy:Zd:=ZcM
def Zdm:Zd:=.seq (sr [mv 33 7,fa 34 3 3,ld 35 34,ln 36 35,bt 37 .lss 33 36] [2,3,6,7,37]
 (.cond (.t 37) (.skip)
 (.exit 0)))
 (.seq (.blk 1 (sr [fa 40 3 3,ld 41 40,mv 42 7,ia 43 1 41 42,ld 44 43,mv 8 44] [2,3,6,7,8]
 (.seq (sr [mv 45 8,bi 46 .lss 45 0,mv 47 46,Gf 47 (mv 48 8),Gf 47 (fa 49 5 2),Gf 47 (ld 50 49),Gf 47 (ln 51 50),Gf 47 (bt 52 .geq 48 51),po 53 47 52] [2,3,6,7,8,53]
 (cr 53 [mi 4 5] [4]))
 (.seq (sr [mi 9 0] [2,3,6,7,8,9]
 (.blk 2 (.loop [2,3,6,7,8,9] (Zgy))))
 (.reg [mv 66 6,mv 67 66,Gf 67 (mv 68 8),Gf 67 (fa 69 4 3),Gf 67 (fa 70 0 69),Gf 67 (ld 71 70),Gf 67 (bt 72 .eql 68 71),po 73 67 72,mv 6 73] [2,3,6,7])))))
 (.reg [mv 38 7,bi 39 .add 38 1,mv 7 39] [2,3,6,7]))
def Zgo:Zd:=Zdm
def b847:Zd:=sr [bx 2 0,bx 3 1,mi 4 0] [2,3]
 (.seq (sr [fa 10 1 3,ld 11 10,bi 12 .lss 11 0,mv 13 12,Gf 13 (fa 14 1 3),Gf 13 (ld 15 14),Gf 13 (bi 16 .gtr 15 3),po 17 13 16] [2,3,17]
 (cr 17 [mi 4 10] [4]))
 (.seq (sr [fa 18 2 3,ld 19 18,ln 20 19,bi 21 .eql 20 0] [2,3,21]
 (cr 21 [mi 4 5] [4]))
 (sr [la 22 18 2,fa 23 2 3,ld 24 23,cl 25 839 [.t 22,.t 24,.c (.bool false)],mv 5 25] [2,3,5]
 (.seq (sr [mv 26 5,bi 27 .neq 26 0] [2,3,5,27]
 (cr 27 [mv 28 5,mv 4 28] [4]))
 (.seq (sr [fa 29 3 3,ld 30 29,ln 31 30,bi 32 .gtr 31 8] [2,3,32]
 (cr 32 [mi 4 2] [4]))
 (sr [mc 6 (.bool false)] [2,3,6]
 (.seq (sr [mi 7 0] [2,3,6,7]
 (.blk 0 (.loop [2,3,6,7] (Zgo))))
 (.seq (sr [fa 74 3 3,ld 75 74,ln 76 75,bi 77 .eql 76 0] [2,3,6,77]
 (cr 77 [mi 4 5] [4]))
 (.seq (sr [mv 78 6,nt 79 78] [2,3,79]
 (cr 79 [mi 4 16] [4]))
 (sr [la 80 18 2,fa 81 4 3,fa 82 0 81,ld 83 82,fa 84 4 3,fa 85 1 84,ld 86 85,ct 87 837 [80,83,86],mv 5 87] [3,5]
 (.seq (sr [mv 88 5,bi 89 .neq 88 0] [3,5,89]
 (cr 89 [mv 90 5,mv 4 90] [4]))
 (.seq (sr [fa 91 6 3,ld 92 91,bi 93 .lss 92 1,mv 94 93,Gf 94 (fa 95 6 3),Gf 94 (ld 96 95),Gf 94 (bi 97 .gtr 96 256),po 98 94 97] [98]
 (cr 98 [mi 4 7] [4]))
 (rt [mi 4 0] [4])))))))))))))
def f847:Zi:=⟨false,[.tmp 4],b847,none,false⟩
def Zed:Zd:=.seq (sr [mv 49 9,fa 50 1 8,ld 51 50,ln 52 51,bt 53 .lss 49 52] [3,8,9,53]
 (.cond (.t 53) (.skip)
 (.exit 1)))
 (.seq (.blk 2 (sr [fa 56 1 8,ld 57 56,mv 58 9,ia 59 1 57 58,ld 60 59,bi 61 .lss 60 1,mv 62 61,Gf 62 (fa 63 1 8),Gf 62 (ld 64 63),Gf 62 (mv 65 9),Gf 62 (ia 66 1 64 65),Gf 62 (ld 67 66),Gf 62 (bi 68 .gtr 67 128),po 69 62 68] [3,8,9,69]
 (cr 69 [mi 6 9] [6])))
 (.reg [mv 54 9,bi 55 .add 54 1,mv 9 55] [3,8,9]))
def ZfX:Zd:=Zed
def b848:Zd:=sr [bx 3 0,mi 6 0] [1,2,3]
 (sr [mi 7 1] [1,2,3,7]
 (.seq (sr [mv 10 1] [2,3,7,10]
 (.blk 0 (sr [bi 12 .eql 10 3,mv 11 12] [2,3,7,10,11]
 (.cond (.t 11) (sr [fa 13 3 3,ld 14 13,mv 15 2,ia 16 2 14 15,fa 17 1 16,ld 18 17,bi 19 .lss 18 1,mv 20 19,Gf 20 (fa 21 3 3),Gf 20 (ld 22 21),Gf 20 (mv 23 2),Gf 20 (ia 24 2 22 23),Gf 20 (fa 25 1 24),Gf 20 (ld 26 25),Gf 20 (bi 27 .gtr 26 128),po 28 20 27] [7,28]
 (cr 28 [mi 6 9] [6]))
 (sr [bi 30 .eql 10 4,mv 29 30] [2,3,7,10,29]
 (.cond (.t 29) (sd [D (fa 32 4 3) 1 0,D (mv 34 2) 3 0,E (la 31 18 3) 0,D (ld 33 32) 2 2,D (ia 35 5 33 34) 4 14,D (la 36 5 35) 5 30,E (ct 37 845 [31,36]) 6,E (mv 6 37) 7] [6]
 (.ret))
 (sr [bi 39 .eql 10 5,mv 38 39] [2,3,7,10,38]
 (.cond (.t 38) (sr [fa 40 5 3,ld 41 40,mv 42 2,ia 43 3 41 42,la 44 3 43,al 8 (.agg [.str [],.sl 1 [] .nl,.sl 6 [] .nl]),i0 (.store 3 true (.t 8) (.t 44))] [3,8]
 (.seq (sr [fa 45 1 8,ld 46 45,ln 47 46,bi 48 .gtr 47 8] [3,8,48]
 (cr 48 [mi 6 2] [6]))
 (.seq (sr [mi 9 0] [3,8,9]
 (.blk 1 (.loop [3,8,9] (ZfX))))
 (rt [la 70 18 3,fa 71 2 8,ld 72 71,fa 73 1 8,ld 74 73,ln 75 74,ct 76 829 [70,72,75],mv 6 76] [6]))))
 (sr [bi 78 .eql 10 6,mv 77 78] [2,3,7,10,77]
 (.cond (.t 77) (sd [D (fa 80 6 3) 1 0,D (mv 82 2) 3 0,E (la 79 18 3) 0,D (ld 81 80) 2 2,D (ia 83 7 81 82) 4 14,D (la 84 7 83) 5 30,E (ct 85 847 [79,84]) 6,E (mv 6 85) 7] [6]
 (.ret))
 (sr [bi 87 .eql 10 12,mv 86 87] [2,3,7,10,86]
 (.cond (.t 86) (.seq (sr [fa 88 12 3,ld 89 88,mv 90 2,ia 91 3 89 90,fa 92 1 91,ld 93 92,bi 94 .lss 93 1,mv 95 94,Gf 95 (fa 96 12 3),Gf 95 (ld 97 96),Gf 95 (mv 98 2),Gf 95 (ia 99 3 97 98),Gf 95 (fa 100 1 99),Gf 95 (ld 101 100),Gf 95 (bi 102 .gtr 101 128),po 103 95 102] [2,3,103]
 (cr 103 [mi 6 9] [6]))
 (.reg [fa 104 12 3,ld 105 104,mv 106 2,ia 107 3 105 106,fa 108 2 107,ld 109 108,mv 7 109] [7]))
 (sr [bi 111 .eql 10 13,mv 110 111] [2,3,7,10,110]
 (.cond (.t 110) (.reg [fa 112 13 3,ld 113 112,mv 114 2,ia 115 2 113 114,fa 116 1 115,ld 117 116,mv 7 117] [7])
 (sr [bi 119 .eql 10 14,mv 118 119] [2,3,7,118]
 (.cond (.t 118) (sr [fa 120 14 3,ld 121 120,mv 122 2,ia 123 4 121 122,fa 124 1 123,ld 125 124,mv 7 125] [2,3,7]
 (sr [mv 126 7,bi 127 .geq 126 1,mv 128 127,Gt 128 (mv 129 7),Gt 128 (bi 130 .leq 129 8),pa 131 128 130,mv 132 131,Gt 132 (fa 133 14 3),Gt 132 (ld 134 133),Gt 132 (mv 135 2),Gt 132 (ia 136 4 134 135),Gt 132 (fa 137 2 136),Gt 132 (ld 138 137),Gt 132 (bi 139 .lss 138 0),Gt 132 (mv 140 139),Gf 140 (fa 141 14 3),Gf 140 (ld 142 141),Gf 140 (mv 143 2),Gf 140 (ia 144 4 142 143),Gf 140 (fa 145 2 144),Gf 140 (ld 146 145),Gf 140 (bi 147 .gtr 146 65535),Gt 132 (po 148 140 147),Gt 132 (mv 149 148),Gf 149 (fa 150 14 3),Gf 149 (ld 151 150),Gf 149 (mv 152 2),Gf 149 (ia 153 4 151 152),Gf 149 (fa 154 3 153),Gf 149 (ld 155 154),Gf 149 (bi 156 .lss 155 1),Gt 132 (po 157 149 156),Gt 132 (mv 158 157),Gf 158 (fa 159 14 3),Gf 158 (ld 160 159),Gf 158 (mv 161 2),Gf 158 (ia 162 4 160 161),Gf 158 (fa 163 3 162),Gf 158 (ld 164 163),Gf 158 (bi 165 .gtr 164 1048576),Gt 132 (po 166 158 165),pa 167 132 166] [7,167]
 (cr 167 [mi 6 7] [6])))
 (.skip)))))))))))))))))
 (.seq (sr [mv 168 7,bi 169 .lss 168 1,mv 170 169,Gf 170 (mv 171 7),Gf 170 (bi 172 .gtr 171 8),po 173 170 172] [173]
 (cr 173 [mi 6 7] [6]))
 (rt [mi 6 0] [6]))))
def f848:Zi:=⟨false,[.tmp 6],b848,none,false⟩
def Zei:Zd:=.seq (sr [mv 14 4,mv 15 0,ln 16 15,bi 17 .sub 16 1,bt 18 .lss 14 17] [0,3,4,18]
 (.cond (.t 18) (.skip)
 (.exit 0)))
 (.seq (.blk 1 (sr [mv 21 0,mv 22 4,ia 23 1 21 22,ld 24 23,mv 25 3,ct 26 818 [24,25]] [0,3,4,26]
 (cr 26 [mi 2 6] [2])))
 (.reg [mv 19 4,bi 20 .add 19 1,mv 4 20] [0,3,4]))
def ZfO:Zd:=Zei
def b849:Zd:=sr [mi 2 0] [0]
 (sr [mv 5 0,mv 6 0,ln 7 6,bi 8 .sub 7 1,ia 9 1 5 8,ld 10 9,mv 3 10] [0,3]
 (.seq (sr [mv 11 3,ct 12 822 [11],nt 13 12] [0,3,13]
 (cr 13 [mi 2 4] [2]))
 (.seq (sr [mi 4 0] [0,3,4]
 (.blk 0 (.loop [0,3,4] (ZfO))))
 (rt [mi 2 0] [2]))))
def f849:Zi:=⟨false,[.tmp 2],b849,none,false⟩
def ZGG:Zd:=.seq (sr [mv 7 6,bi 8 .lss 7 64] [2,3,4,5,6,8]
 (.cond (.t 8) (.skip)
 (.exit 0)))
 (.seq (.blk 1 (.reg [mv 11 6,mv 12 6,it 13 (.iaddrA 64 1 (.t 2) (.t 12)),ld 14 13,mv 15 14,Gt 15 (mv 16 6),Gt 15 (it 17 (.iaddrA 64 1 (.t 3) (.t 16))),Gt 15 (ld 18 17),pa 19 15 18,it 20 (.iaddrA 64 1 (.t 5) (.t 11)),st 1 20 19] [2,3,4,5,6]))
 (.reg [mv 9 6,bi 10 .add 9 1,mv 6 10] [2,3,4,5,6]))
def ZGM:Zd:=ZGG
def b902:Zd:=sr [bx 2 0,bx 3 1,al 4 (.agg (rp 64 (.bool false)))] [2,3,4]
 (sr [al 5 (.agg (rp 64 (.bool false)))] [2,3,4,5]
 (.seq (sr [mi 6 0] [2,3,4,5,6]
 (.blk 0 (.loop [2,3,4,5,6] (ZGM))))
 (rt [la 21 64 5,st 64 4 21] [4])))
def f902:Zi:=⟨false,[.cell 4 true 64],b902,none,false⟩
def ZGH:Zd:=.seq (sr [mv 5 4,bi 6 .lss 5 64] [0,2,3,4,6]
 (.cond (.t 6) (.skip)
 (.exit 0)))
 (.seq (.blk 1 (sr [mv 9 4,mv 10 0,bu 11 .rem 10 2,bu 12 .eql 11 1,it 13 (.iaddrA 64 1 (.t 3) (.t 9)),st 1 13 12] [0,2,3,4]
 (.reg [mv 14 0,bu 15 .quo 14 2,mv 0 15] [0,2,3,4])))
 (.reg [mv 7 4,bi 8 .add 7 1,mv 4 8] [0,2,3,4]))
def ZGT:Zd:=ZGH
def b905:Zd:=sr [al 2 (.agg (rp 64 (.bool false)))] [0,2]
 (sr [al 3 (.agg (rp 64 (.bool false)))] [0,2,3]
 (.seq (sr [mi 4 0] [0,2,3,4]
 (.blk 0 (.loop [0,2,3,4] (ZGT))))
 (rt [la 16 64 3,st 64 2 16] [2])))
def f905:Zi:=⟨false,[.cell 2 true 64],b905,none,false⟩
def ZK7:Zd:=.seq (sr [mv 10 5,mv 11 4,bt 12 .lss 10 11,mv 13 12,Gt 13 (mv 14 5),Gt 13 (bi 15 .lss 14 64),pa 16 13 15] [2,3,4,5,16]
 (.cond (.t 16) (.skip)
 (.exit 0)))
 (.seq (.blk 1 (.reg [mv 19 5,it 20 (.iaddrA 64 1 (.t 3) (.t 19)),i0 (.store 1 false (.t 20) (.c (.bool true)))] [2,3,4,5]))
 (.reg [mv 17 5,bi 18 .add 17 1,mv 5 18] [2,3,4,5]))
def ZLJ:Zd:=ZK7
def b908:Zd:=sr [bx 1 0,al 2 (.agg (rp 64 (.bool false)))] [1,2]
 (sr [al 3 (.agg (rp 64 (.bool false)))] [1,2,3]
 (sr [fa 6 2 1,ld 7 6,ct 8 823 [7],ln 9 8,mv 4 9] [2,3,4]
 (.seq (sr [mi 5 0] [2,3,4,5]
 (.blk 0 (.loop [2,3,4,5] (ZLJ))))
 (rt [la 21 64 3,st 64 2 21] [2]))))
def f908:Zi:=⟨false,[.cell 2 true 64],b908,none,false⟩
def ZGq:Zd:=.seq (sr [mv 6 5,fa 7 1 2,ld 8 7,ln 9 8,bt 10 .lss 6 9] [2,3,4,5,10]
 (.cond (.t 10) (.skip)
 (.exit 0)))
 (.seq (.blk 1 (sr [fa 13 1 2,ld 14 13,mv 15 5,ia 16 2 14 15,fa 17 0 16,ld 18 17,bi 19 .eql 18 0] [2,3,4,5,19]
 (.cond (.t 19) (.reg [fa 20 1 2,ld 21 20,mv 22 5,ia 23 2 21 22,fa 24 1 23,ld 25 24,it 26 (.iaddrA 64 1 (.t 3) (.t 25)),i0 (.store 1 false (.t 26) (.c (.bool true)))] [2,3,4,5])
 (.skip))))
 (.reg [mv 11 5,bi 12 .add 11 1,mv 5 12] [2,3,4,5]))
def ZGL:Zd:=ZGq
def b909:Zd:=sr [bx 2 0,bx 3 1,al 4 (.agg (rp 64 (.bool false)))] [2,3,4]
 (.seq (sr [mi 5 0] [2,3,4,5]
 (.blk 0 (.loop [2,3,4,5] (ZGL))))
 (rt [la 27 64 3,st 64 4 27] [4]))
def f909:Zi:=⟨false,[.cell 4 true 64],b909,none,false⟩
def ZGi:Zd:=.seq (sr [mv 6 5,fa 7 2 2,ld 8 7,ln 9 8,bt 10 .lss 6 9] [2,3,5,10]
 (.cond (.t 10) (.skip)
 (.exit 0)))
 (.seq (.blk 1 (sr [fa 13 2 2,ld 14 13,mv 15 5,ia 16 3 14 15,fa 17 0 16,ld 18 17,bi 19 .eql 18 0,mv 20 19,Gt 20 (fa 21 2 2),Gt 20 (ld 22 21),Gt 20 (mv 23 5),Gt 20 (ia 24 3 22 23),Gt 20 (fa 25 1 24),Gt 20 (ld 26 25),Gt 20 (it 27 (.iaddrA 64 1 (.t 3) (.t 26))),Gt 20 (ld 28 27),Gt 20 (nt 29 28),pa 30 20 29] [2,3,5,30]
 (cr 30 [mv 31 5,mv 4 31] [4])))
 (.reg [mv 11 5,bi 12 .add 11 1,mv 5 12] [2,3,5]))
def ZGR:Zd:=ZGi
def b910:Zd:=sr [bx 2 0,bx 3 1,mi 4 0] [2,3]
 (.seq (sr [mi 5 0] [2,3,5]
 (.blk 0 (.loop [2,3,5] (ZGR))))
 (rt [mi 4 (-1)] [4]))
def f910:Zi:=⟨false,[.tmp 4],b910,none,false⟩
def ZGt:Zd:=.seq (sr [mv 5 4,fa 6 3 1,ld 7 6,ln 8 7,bt 9 .lss 5 8] [1,3,4,9]
 (.cond (.t 9) (.skip)
 (.exit 0)))
 (.seq (.blk 1 (.reg [mv 12 3,fa 13 3 1,ld 14 13,mv 15 4,ia 16 7 14 15,fa 17 6 16,ld 18 17,it 19 (.buildSl 1 [.t 18]),it 20 (.app 1 8 false (.t 12) (.t 19)),mv 3 20] [1,3,4]))
 (.reg [mv 10 4,bi 11 .add 10 1,mv 4 11] [1,3,4]))
def ZGO:Zd:=ZGt
def b912:Zd:=sr [bx 1 0,mc 2 (.sl 1 [] .nl)] [1]
 (sr [it 3 (.nilacc 1)] [1,3]
 (.seq (sr [mi 4 0] [1,3,4]
 (.blk 0 (.loop [1,3,4] (ZGO))))
 (rt [mv 21 3,fa 22 4 1,ld 23 22,it 24 (.buildSl 1 [.t 23]),it 25 (.app 1 8 false (.t 21) (.t 24)),mv 2 25] [2])))
def f912:Zi:=⟨false,[.tmp 2],b912,none,false⟩
def ZKC:Zd:=.seq (sr [mv 34 7,mv 35 6,ln 36 35,bt 37 .lss 34 36,mv 38 37,Gt 38 (mv 39 3),Gt 38 (mv 40 5),Gt 38 (ia 41 1 39 40),Gt 38 (ld 42 41),pa 43 38 42] [1,3,4,5,6,7,43]
 (.cond (.t 43) (.skip)
 (.exit 4)))
 (.seq (.blk 5 (sr [mv 46 6,mv 47 7,ia 48 1 46 47,ld 49 48,bi 50 .geq 49 0] [1,3,4,5,6,7,50]
 (.cond (.t 50) (.reg [mv 51 3,mv 52 6,mv 53 7,ia 54 1 52 53,ld 55 54,ia 56 1 51 55,i0 (.store 1 false (.t 56) (.c (.bool true)))] [1,3,4,5,6,7])
 (.skip))))
 (.reg [mv 44 7,bi 45 .add 44 1,mv 7 45] [1,3,4,5,6,7]))
def ZLz:Zd:=ZKC
def ZK3:Zd:=.seq (sr [mv 21 5,fa 22 4 1,ld 23 22,ln 24 23,bt 25 .lss 21 24] [1,3,4,5,25]
 (.cond (.t 25) (.skip)
 (.exit 2)))
 (.seq (.blk 3 (sr [fa 28 4 1,ld 29 28,mv 30 5,ia 31 5 29 30,la 32 5 31,ct 33 912 [32],mv 6 33] [1,3,4,5,6]
 (sr [mi 7 0] [1,3,4,5,6,7]
 (.blk 4 (.loop [1,3,4,5,6,7] (ZLz))))))
 (.reg [mv 26 5,bi 27 .add 26 1,mv 5 27] [1,3,4,5]))
def ZLI:Zd:=ZK3
def ZK6:Zd:=.seq (sr [mv 14 4,fa 15 4 1,ld 16 15,ln 17 16,bt 18 .lss 14 17] [1,3,4,18]
 (.cond (.t 18) (.skip)
 (.exit 0)))
 (.seq (.blk 1 (sr [mi 5 0] [1,3,4,5]
 (.blk 2 (.loop [1,3,4,5] (ZLI)))))
 (.reg [mv 19 4,bi 20 .add 19 1,mv 4 20] [1,3,4]))
def ZLG:Zd:=ZK6
def b913:Zd:=sr [bx 1 0,mc 2 (.sl 1 [] .nl)] [1]
 (sr [fa 8 4 1,ld 9 8,ln 10 9,it 11 (.mksl (.bool false) 1 (.t 10) (.t 10)),mv 3 11] [1,3]
 (sr [mv 12 3,it 13 (.iaddr 1 (.t 12) (.c (.int .i64 0))),i0 (.store 1 false (.t 13) (.c (.bool true)))] [1,3]
 (.seq (sr [mi 4 0] [1,3,4]
 (.blk 0 (.loop [1,3,4] (ZLG))))
 (rt [mv 57 3,mv 2 57] [2]))))
def f913:Zi:=⟨false,[.tmp 2],b913,none,false⟩
def ZKy:Zd:=.seq (sr [mv 52 9,mv 53 8,ln 54 53,bt 55 .lss 52 54,mv 56 55,Gt 56 (mv 57 3),Gt 56 (mv 58 7),Gt 56 (ia 59 1 57 58),Gt 56 (ld 60 59),pa 61 56 60] [1,3,4,6,7,8,9,61]
 (.cond (.t 61) (.skip)
 (.exit 6)))
 (.seq (.blk 7 (sr [mv 64 8,mv 65 9,ia 66 1 64 65,ld 67 66,bi 68 .geq 67 0] [1,3,4,6,7,8,9,68]
 (.cond (.t 68) (.drw [E (mv 69 4) 0,D (mv 70 8) 1 0,D (mv 71 9) 2 0,D (ia 72 1 70 71) 3 6,D (mv 74 4) 5 0,D (mv 75 8) 6 0,D (mv 76 9) 7 0,D (ia 77 1 75 76) 8 192,D (fa 81 4 1) 12 0,D (mv 83 7) 14 0,D (mv 86 4) 17 0,D (mv 87 7) 18 0,D (ia 88 64 86 87) 19 393216,D (ld 73 72) 4 14,D (ld 78 77) 9 448,D (ia 79 64 74 78) 10 992,D (la 80 64 79) 11 2016,D (ld 82 81) 13 4096,D (ia 84 5 82 83) 15 28672,D (la 85 5 84) 16 61440,D (la 89 64 88) 20 917504,D (ct 90 909 [85,89]) 21 2093056,D (ct 91 902 [80,90]) 22 4194272,E (ia 92 64 69 73) 23,E (st 64 92 91) 24] [1,3,4,6,7,8,9])
 (.skip))))
 (.reg [mv 62 9,bi 63 .add 62 1,mv 9 63] [1,3,4,6,7,8,9]))
def ZLt:Zd:=ZKy
def ZKO:Zd:=.seq (sr [mv 39 7,fa 40 4 1,ld 41 40,ln 42 41,bt 43 .lss 39 42] [1,3,4,6,7,43]
 (.cond (.t 43) (.skip)
 (.exit 4)))
 (.seq (.blk 5 (sr [fa 46 4 1,ld 47 46,mv 48 7,ia 49 5 47 48,la 50 5 49,ct 51 912 [50],mv 8 51] [1,3,4,6,7,8]
 (sr [mi 9 0] [1,3,4,6,7,8,9]
 (.blk 6 (.loop [1,3,4,6,7,8,9] (ZLt))))))
 (.reg [mv 44 7,bi 45 .add 44 1,mv 7 45] [1,3,4,6,7]))
def ZLE:Zd:=ZKO
def ZK5:Zd:=.seq (sr [mv 31 6,fa 32 4 1,ld 33 32,ln 34 33,it 35 (.bin .mul (.c (.int .i64 40)) (.t 34)),bt 36 .lss 31 35] [1,3,4,6,36]
 (.cond (.t 36) (.skip)
 (.exit 2)))
 (.seq (.blk 3 (sr [mi 7 0] [1,3,4,6,7]
 (.blk 4 (.loop [1,3,4,6,7] (ZLE)))))
 (.reg [mv 37 6,bi 38 .add 37 1,mv 6 38] [1,3,4,6]))
def ZLB:Zd:=ZK5
def ZKN:Zd:=.seq (sr [mv 16 5,mv 17 4,ln 18 17,bt 19 .lss 16 18] [1,3,4,5,19]
 (.cond (.t 19) (.skip)
 (.exit 0)))
 (.seq (.blk 1 (sr [mv 22 3,mv 23 5,ia 24 1 22 23,ld 25 24] [1,3,4,5,25]
 (.cond (.t 25) (.reg [mv 26 4,mv 27 5,la 28 18 1,ct 29 908 [28],ia 30 64 26 27,st 64 30 29] [1,3,4,5])
 (.skip))))
 (.reg [mv 20 5,bi 21 .add 20 1,mv 5 21] [1,3,4,5]))
def ZLH:Zd:=ZKN
def b914:Zd:=sr [bx 1 0,mc 2 (.sl 64 [] .nl)] [1]
 (sr [la 10 18 1,ct 11 913 [10],mv 3 11] [1,3]
 (sr [fa 12 4 1,ld 13 12,ln 14 13,it 15 (.mksl (.agg (rp 64 (.bool false))) 64 (.t 14) (.t 14)),mv 4 15] [1,3,4]
 (.seq (sr [mi 5 1] [1,3,4,5]
 (.blk 0 (.loop [1,3,4,5] (ZLH))))
 (.seq (sr [mi 6 0] [1,3,4,6]
 (.blk 2 (.loop [1,3,4,6] (ZLB))))
 (rt [mv 93 4,mv 2 93] [2])))))
def f914:Zi:=⟨false,[.tmp 2],b914,none,false⟩
def b1028:Zd:=sr [al 2 (.agg [.int .i64 0,.int .i64 0,.int .i64 0,.int .i64 0]),mc 3 (.bool false)] [0,2]
 (sr [mv 7 0,it 8 (.tassert 149 (.nilp) true (.t 7)),mv 6 8,ex 9 6 0,ex 10 6 1,mv 4 9,mv 5 10] [2,4,5]
 (.seq (sr [mv 11 5,nt 12 11,mv 13 12,Gf 13 (mv 14 4),Gf 13 (it 15 (.isnil .p false (.t 14))),po 16 13 15] [2,4,16]
 (cr 16 [it 17 (.build [.int .i64 0,.int .i64 0,.int .i64 0,.int .i64 0] []),st 4 2 17,mc 3 (.bool false)] [2,3]))
 (rt [mv 18 4,nk 19 18,la 20 4 19,st 4 2 20,mc 3 (.bool true)] [2,3])))
def f1028:Zi:=⟨false,[.cell 2 true 4,.tmp 3],b1028,none,false⟩
def b1082:Zd:=sr [bx 2 0,bx 3 1,al 4 (.agg [.int .i64 0,.int .u64 0,.int .u64 0]),mi 5 0] [2,3,4]
 (rt [la 6 3 2,la 7 3 3,cl 8 1113 [.t 6,.t 7,.c (.func 1130 [] [])],ex 9 8 0,ex 10 8 1,st 3 4 9,mv 5 10] [4,5])
def f1082:Zi:=⟨false,[.cell 4 true 3,.tmp 5],b1082,none,false⟩
def b1085:Zd:=sr [bx 3 1,al 4 (.agg [.int .i64 0,.int .u64 0,.int .u64 0]),mi 5 0] [0,3,4]
 (.seq (sr [mv 6 0,ct 7 1114 [6],nt 8 7] [0,3,4,8]
 (cr 8 [it 9 (.build [.int .i64 0,.int .u64 0,.int .u64 0] []),st 3 4 9,mi 5 9] [4,5]))
 (sd [E (mv 10 0) 0,D (mv 12 0) 2 0,D (la 11 2 3) 1 0,D (ct 13 1137 [12]) 3 4,D (ct 14 1130 [11,13]) 4 14,E (ct 15 1111 [10,14]) 5,E (st 3 4 15) 6,E (mi 5 0) 7] [4,5]
 (.ret)))
def f1085:Zi:=⟨false,[.cell 4 true 3,.tmp 5],b1085,none,false⟩
def b1090:Zd:=sr [bx 1 0,mc 2 (.bool false)] [1]
 (sd [E (fa 3 0 1) 0,E (ld 4 3) 1,E (ct 5 1114 [4]) 2,E (mv 6 5) 3,D (Gt 6 (fa 10 0 1)) 7 15,E (Gt 6 (la 7 3 1)) 4,D (Gt 6 (ld 11 10)) 8 143,E (Gt 6 (ct 8 1108 [7])) 5,E (Gt 6 (ct 9 1134 [8])) 6,E (Gt 6 (bt 12 .leq 9 11)) 9,E (pa 13 6 12) 10,E (mv 2 13) 11] [2]
 (.ret))
def f1090:Zi:=⟨false,[.tmp 2],b1090,none,false⟩
def b1108:Zd:=sr [bx 1 0,al 2 (.agg [.int .u64 0,.int .u64 0])] [1,2]
 (rt [fa 3 1 1,ld 4 3,fa 5 2 1,ld 6 5,it 7 (.build [.int .u64 0,.int .u64 0] [(0,1,.t 4),(1,1,.t 6)]),st 2 2 7] [2])
def f1108:Zi:=⟨false,[.cell 2 true 2],b1108,none,false⟩
def b1111:Zd:=sr [bx 3 1,al 4 (.agg [.int .i64 0,.int .u64 0,.int .u64 0])] [0,3,4]
 (rt [mv 5 0,fa 6 0 3,ld 7 6,fa 8 1 3,ld 9 8,it 10 (.build [.int .i64 0,.int .u64 0,.int .u64 0] [(0,1,.t 5),(1,1,.t 7),(2,1,.t 9)]),st 3 4 10] [4])
def f1111:Zi:=⟨false,[.cell 4 true 3],b1111,none,false⟩
def b1113:Zd:=sr [bx 3 0,bx 4 1,al 6 (.agg [.int .i64 0,.int .u64 0,.int .u64 0]),mi 7 0] [2,3,4,6]
 (.seq (.blk 0 (sr [la 9 3 3,ct 10 1090 [9],nt 11 10,mv 12 11,Gf 12 (la 13 3 4),Gf 12 (ct 14 1090 [13]),Gf 12 (nt 15 14),po 16 12 15,mv 8 16] [2,3,4,6,8]
 (.cond (.t 8) (rt [it 17 (.build [.int .i64 0,.int .u64 0,.int .u64 0] []),st 3 6 17,mi 7 1] [6,7])
 (sr [fa 19 0 3,ld 20 19,fa 21 0 4,ld 22 21,bt 23 .neq 20 22,mv 18 23] [2,3,4,6,18]
 (cr 18 [it 24 (.build [.int .i64 0,.int .u64 0,.int .u64 0] []),st 3 6 24,mi 7 9] [6,7])))))
 (sd [E (fa 25 0 3) 0,D (mv 27 2) 2 0,E (ld 26 25) 1,D (la 28 3 3) 3 0,D (la 30 3 4) 5 0,D (ct 29 1108 [28]) 4 8,D (ct 31 1108 [30]) 6 56,D (it 32 (.calld true (.t 27) [.t 29,.t 31])) 7 124,E (ct 33 1085 [26,32]) 8,E (ex 34 33 0) 9,D (ex 35 33 1) 10 511,E (st 3 6 34) 11,E (mv 7 35) 12] [6,7]
 (.ret)))
def f1113:Zi:=⟨false,[.cell 6 true 3,.tmp 7],b1113,none,false⟩
def b1114:Zd:=sr [mc 2 (.bool false)] [0]
 (rt [mv 3 0,bi 4 .geq 3 1,mv 5 4,Gt 5 (mv 6 0),Gt 5 (bi 7 .leq 6 128),pa 8 5 7,mv 2 8] [2])
def f1114:Zi:=⟨false,[.tmp 2],b1114,none,false⟩
def b1130:Zd:=sr [bx 2 0,bx 3 1,al 4 (.agg [.int .u64 0,.int .u64 0])] [2,3,4]
 (rt [fa 5 0 2,ld 6 5,fa 7 0 3,ld 8 7,bt 9 .and 6 8,fa 10 1 2,ld 11 10,fa 12 1 3,ld 13 12,bt 14 .and 11 13,it 15 (.build [.int .u64 0,.int .u64 0] [(0,1,.t 9),(1,1,.t 14)]),st 2 4 15] [4])
def f1130:Zi:=⟨false,[.cell 4 true 2],b1130,none,false⟩
def b1134:Zd:=sr [bx 1 0,mi 2 0] [1]
 (.seq (sr [fa 3 0 1,ld 4 3,bu 5 .gtr 4 0] [1,5]
 (cr 5 [fa 6 0 1,ld 7 6,ct 8 374 [7],it 9 (.bin .add (.c (.int .i64 64)) (.t 8)),mv 2 9] [2]))
 (rt [fa 10 1 1,ld 11 10,ct 12 374 [11],mv 2 12] [2]))
def f1134:Zi:=⟨false,[.tmp 2],b1134,none,false⟩
def b1136:Zd:=sr [bx 1 0,al 2 (.agg [.int .u64 0,.int .u64 0])] [1,2]
 (rt [fa 3 0 1,ld 4 3,it 5 (.un .xor (.t 4)),fa 6 1 1,ld 7 6,it 8 (.un .xor (.t 7)),it 9 (.build [.int .u64 0,.int .u64 0] [(0,1,.t 5),(1,1,.t 8)]),st 2 2 9] [2])
def f1136:Zi:=⟨false,[.cell 2 true 2],b1136,none,false⟩
def b1137:Zd:=sr [al 2 (.agg [.int .u64 0,.int .u64 0])] [0,2]
 (.seq (.blk 0 (sr [mv 6 0,bi 7 .leq 6 0,mv 5 7] [0,2,5]
 (.cond (.t 5) (rt [it 8 (.build [.int .u64 0,.int .u64 0] []),st 2 2 8] [2])
 (sr [mv 10 0,bi 11 .geq 10 128,mv 9 11] [0,2,9]
 (cr 9 [it 12 (.build [.int .u64 0,.int .u64 0] []),ct 13 1136 [12],st 2 2 13] [2])))))
 (sr [it 15 (.build [.int .u64 0,.int .u64 0] [(0,1,.c (.int .u64 0)),(1,1,.c (.int .u64 1))]),mv 16 0,ct 17 1140 [15,16],it 18 (.build [.int .u64 0,.int .u64 0] [(0,1,.c (.int .u64 0)),(1,1,.c (.int .u64 1))]),ct 19 1142 [17,18],mv 14 19,ex 20 14 0,ex 21 14 1,al 3 (.agg [.int .u64 0,.int .u64 0]),st 2 3 20,mv 4 21] [2,3]
 (rt [la 22 2 3,st 2 2 22] [2])))
def f1137:Zi:=⟨false,[.cell 2 true 2],b1137,none,false⟩
def b1140:Zd:=sr [bx 2 0,al 4 (.agg [.int .u64 0,.int .u64 0])] [1,2,4]
 (.seq (.blk 0 (sr [mv 6 1,bi 7 .leq 6 (-128),mv 8 7,Gf 8 (mv 9 1),Gf 8 (bi 10 .geq 9 128),po 11 8 10,mv 5 11] [1,2,4,5]
 (.cond (.t 5) (rt [it 12 (.build [.int .u64 0,.int .u64 0] []),st 2 4 12] [4])
 (sr [mv 14 1,bi 15 .lss 14 0,mv 13 15] [1,2,4,13]
 (.cond (.t 13) (rt [la 16 2 2,mv 17 1,it 18 (.un .neg (.t 17)),ct 19 1141 [16,18],st 2 4 19] [4])
 (sr [mv 21 1,bi 22 .eql 21 0,mv 20 22] [1,2,4,20]
 (.cond (.t 20) (rt [la 23 2 2,st 2 4 23] [4])
 (sr [mv 25 1,bi 26 .geq 25 64,mv 24 26] [1,2,4,24]
 (cr 24 [fa 27 1 2,ld 28 27,mv 29 1,bi 30 .sub 29 64,bt 31 .shl 28 30,it 32 (.build [.int .u64 0,.int .u64 0] [(0,1,.t 31),(1,1,.c (.int .u64 0))]),st 2 4 32] [4])))))))))
 (sd [E (fa 33 0 2) 0,D (mv 35 1) 2 0,D (fa 37 1 2) 4 0,D (mv 39 1) 6 0,D (it 40 (.bin .sub (.c (.int .i64 64)) (.t 39))) 7 64,D (fa 43 1 2) 10 0,D (mv 45 1) 12 0,E (ld 34 33) 1,E (bt 36 .shl 34 35) 3,D (ld 38 37) 5 16,D (bt 41 .shr 38 40) 8 240,E (bt 42 .or 36 41) 9,D (ld 44 43) 11 1024,D (bt 46 .shl 44 45) 13 7168,E (it 47 (.build [.int .u64 0,.int .u64 0] [(0,1,.t 42),(1,1,.t 46)])) 14,E (st 2 4 47) 15] [4]
 (.ret)))
def f1140:Zi:=⟨false,[.cell 4 true 2],b1140,none,false⟩
def b1141:Zd:=sr [bx 2 0,al 4 (.agg [.int .u64 0,.int .u64 0])] [1,2,4]
 (.seq (.blk 0 (sr [mv 6 1,bi 7 .leq 6 (-128),mv 8 7,Gf 8 (mv 9 1),Gf 8 (bi 10 .geq 9 128),po 11 8 10,mv 5 11] [1,2,4,5]
 (.cond (.t 5) (rt [it 12 (.build [.int .u64 0,.int .u64 0] []),st 2 4 12] [4])
 (sr [mv 14 1,bi 15 .lss 14 0,mv 13 15] [1,2,4,13]
 (.cond (.t 13) (rt [la 16 2 2,mv 17 1,it 18 (.un .neg (.t 17)),ct 19 1140 [16,18],st 2 4 19] [4])
 (sr [mv 21 1,bi 22 .eql 21 0,mv 20 22] [1,2,4,20]
 (.cond (.t 20) (rt [la 23 2 2,st 2 4 23] [4])
 (sr [mv 25 1,bi 26 .geq 25 64,mv 24 26] [1,2,4,24]
 (cr 24 [fa 27 0 2,ld 28 27,mv 29 1,bi 30 .sub 29 64,bt 31 .shr 28 30,it 32 (.build [.int .u64 0,.int .u64 0] [(0,1,.c (.int .u64 0)),(1,1,.t 31)]),st 2 4 32] [4])))))))))
 (sd [E (fa 33 0 2) 0,D (mv 35 1) 2 0,D (fa 37 1 2) 4 0,D (mv 39 1) 6 0,D (fa 41 0 2) 8 0,D (mv 43 1) 10 0,D (it 44 (.bin .sub (.c (.int .i64 64)) (.t 43))) 11 1024,E (ld 34 33) 1,E (bt 36 .shr 34 35) 3,D (ld 38 37) 5 16,D (bt 40 .shr 38 39) 7 112,D (ld 42 41) 9 256,D (bt 45 .shl 42 44) 12 3840,D (bt 46 .or 40 45) 13 8176,E (it 47 (.build [.int .u64 0,.int .u64 0] [(0,1,.t 36),(1,1,.t 46)])) 14,E (st 2 4 47) 15] [4]
 (.ret)))
def f1141:Zi:=⟨false,[.cell 4 true 2],b1141,none,false⟩
def b1142:Zd:=sr [bx 2 0,bx 3 1,al 4 (.agg [.int .u64 0,.int .u64 0]),mc 5 (.bool false)] [2,3,4]
 (sr [fa 11 1 2,ld 12 11,fa 13 1 3,ld 14 13,cl 15 378 [.t 12,.t 14,.c (.int .u64 0)],mv 10 15,ex 16 10 0,ex 17 10 1,mv 6 16,mv 7 17] [2,3,4,6,7]
 (sr [fa 19 0 2,ld 20 19,fa 21 0 3,ld 22 21,mv 23 7,ct 24 378 [20,22,23],mv 18 24,ex 25 18 0,ex 26 18 1,mv 8 25,mv 9 26] [4,6,8,9]
 (rt [mv 27 8,mv 28 6,it 29 (.build [.int .u64 0,.int .u64 0] [(0,1,.t 27),(1,1,.t 28)]),mv 30 9,bu 31 .gtr 30 0,st 2 4 29,mv 5 31] [4,5])))
def f1142:Zi:=⟨false,[.cell 4 true 2,.tmp 5],b1142,none,false⟩
def b1149:Zd:=sr [mc 2 (.sl 1 [] .nl)] [0]
 (.seq (sr [mv 3 0,it 4 (.isnil .s false (.t 3))] [0,4]
 (cr 4 [mc 2 (.sl 1 [] .nl)] [2]))
 (rt [it 5 (.buildSl 1 []),mv 6 0,it 7 (.app 1 8 false (.t 5) (.t 6)),mv 2 7] [2]))
def f1149:Zi:=⟨true,[.tmp 2],b1149,none,true⟩
def b1169:Zd:=sr [mc 4 (.bool false)] [0,1]
 (rt [mv 5 0,mv 6 1,ct 7 1204 [5,6],bi 8 .geq 7 0,mv 4 8] [4])
def f1169:Zi:=⟨false,[.tmp 4],b1169,none,false⟩
def UQ:Zd:=sr [bt 9 .lss 8 7] [0,1,7,8,9]
 (wh 9 0
 (.seq (.blk 1 (sr [mv 10 8,mv 5 10] [0,1,5,7,8]
 (sr [mv 11 1,mv 12 0,mv 13 5,ia 14 3 12 13,la 15 3 14,it 16 (.calld true (.t 11) [.t 15])] [0,1,5,7,8,16]
 (cr 16 [mv 17 5,mv 4 17] [4]))))
 (.reg [bi 18 .add 8 1,mv 8 18] [0,1,7,8])))
def Zc5:Zd:=UQ
def b1198:Zd:=sr [mi 4 0] [0,1]
 (.seq (sr [mv 6 0,ln 7 6,mi 8 0] [0,1,7,8]
 (.blk 0 (.loop [0,1,7,8] (Zc5))))
 (rt [mi 4 (-1)] [4]))
def f1198:Zi:=⟨false,[.tmp 4],b1198,none,false⟩
def KW:Zd:=sr [bt 9 .lss 8 7] [0,1,7,8,9]
 (wh 9 0
 (.seq (.blk 1 (sr [mv 10 8,mv 5 10] [0,1,5,7,8]
 (sr [mv 11 1,mv 12 0,mv 13 5,ia 14 1 12 13,ld 15 14,it 16 (.calld true (.t 11) [.t 15])] [0,1,5,7,8,16]
 (cr 16 [mv 17 5,mv 4 17] [4]))))
 (.reg [bi 18 .add 8 1,mv 8 18] [0,1,7,8])))
def ZcK:Zd:=KW
def b1203:Zd:=sr [mi 4 0] [0,1]
 (.seq (sr [mv 6 0,ln 7 6,mi 8 0] [0,1,7,8]
 (.blk 0 (.loop [0,1,7,8] (ZcK))))
 (rt [mi 4 (-1)] [4]))
def f1203:Zi:=⟨false,[.tmp 4],b1203,none,false⟩
def KX:Zd:=sr [bt 9 .lss 8 7] [0,1,7,8,9]
 (wh 9 0
 (.seq (.blk 1 (sr [mv 10 8,mv 5 10] [0,1,5,7,8]
 (sr [mv 11 1,mv 12 0,mv 13 5,ia 14 1 12 13,ld 15 14,bt 16 .eql 11 15] [0,1,5,7,8,16]
 (cr 16 [mv 17 5,mv 4 17] [4]))))
 (.reg [bi 18 .add 8 1,mv 8 18] [0,1,7,8])))
def ZdN:Zd:=KX
def b1204:Zd:=sr [mi 4 0] [0,1]
 (.seq (sr [mv 6 0,ln 7 6,mi 8 0] [0,1,7,8]
 (.blk 0 (.loop [0,1,7,8] (ZdN))))
 (rt [mi 4 (-1)] [4]))
def f1204:Zi:=⟨false,[.tmp 4],b1204,none,false⟩
end Go.VE.Un
