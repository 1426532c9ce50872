/- The table of functions: printed by a program. -/
import Derived.Test.YtieifgngaaccmaaGreatUnF0
namespace Go.VE.Un
set_option maxRecDepth 100000
def fns:Tree VFunc:=(.node (.node (.node (.node (.node (.node (.node (.node .leaf 107 f107 .leaf) 109 f109 .leaf) 110 f110 (.node (.node .leaf 111 f111 .leaf) 112 f112 .leaf)) 113 f113 (.node (.node (.node .leaf 114 f114 .leaf) 115 f115 .leaf) 116 f116 (.node (.node .leaf 117 f117 .leaf) 118 f118 .leaf))) 119 f119 (.node (.node (.node (.node .leaf 120 f120 .leaf) 121 f121 .leaf) 122 f122 (.node (.node .leaf 123 f123 .leaf) 124 f124 .leaf)) 125 f125 (.node (.node (.node .leaf 126 f126 .leaf) 127 f127 .leaf) 128 f128 (.node .leaf 129 f129 .leaf)))) 130 f130 (.node (.node (.node (.node (.node .leaf 131 f131 .leaf) 132 f132 .leaf) 133 f133 (.node (.node .leaf 134 f134 .leaf) 135 f135 .leaf)) 136 f136 (.node (.node (.node .leaf 137 f137 .leaf) 138 f138 .leaf) 139 f139 (.node .leaf 140 f140 .leaf))) 141 f141 (.node (.node (.node (.node .leaf 142 f142 .leaf) 312 f312 .leaf) 313 f313 (.node (.node .leaf 314 f314 .leaf) 315 f315 .leaf)) 316 f316 (.node (.node (.node .leaf 317 f317 .leaf) 318 f318 .leaf) 319 f319 (.node .leaf 320 f320 .leaf))))) 321 f321 (.node (.node (.node (.node (.node (.node .leaf 322 f322 .leaf) 323 f323 .leaf) 324 f324 (.node (.node .leaf 326 f326 .leaf) 327 f327 .leaf)) 328 f328 (.node (.node (.node .leaf 374 x374 .leaf) 378 x378 .leaf) 422 f422 (.node .leaf 424 f424 .leaf))) 425 f425 (.node (.node (.node (.node .leaf 427 f427 .leaf) 428 f428 .leaf) 429 f429 (.node (.node .leaf 430 f430 .leaf) 432 f432 .leaf)) 433 f433 (.node (.node (.node .leaf 461 f461 .leaf) 462 f462 .leaf) 463 f463 (.node .leaf 465 f465 .leaf)))) 466 f466 (.node (.node (.node (.node (.node .leaf 467 f467 .leaf) 481 f481 .leaf) 482 f482 (.node (.node .leaf 489 f489 .leaf) 490 f490 .leaf)) 491 f491 (.node (.node (.node .leaf 493 f493 .leaf) 494 f494 .leaf) 501 f501 (.node .leaf 507 f507 .leaf))) 508 f508 (.node (.node (.node (.node .leaf 509 f509 .leaf) 510 f510 .leaf) 520 f520 (.node (.node .leaf 521 f521 .leaf) 522 f522 .leaf)) 554 f554 (.node (.node (.node .leaf 556 f556 .leaf) 557 f557 .leaf) 558 f558 (.node .leaf 559 f559 .leaf)))))) 560 x560 (.node (.node (.node (.node (.node (.node (.node .leaf 561 f561 .leaf) 562 f562 .leaf) 564 f564 (.node (.node .leaf 638 f638 .leaf) 639 f639 .leaf)) 640 f640 (.node (.node (.node .leaf 641 f641 .leaf) 643 f643 .leaf) 644 f644 (.node (.node .leaf 645 f645 .leaf) 647 f647 .leaf))) 648 f648 (.node (.node (.node (.node .leaf 649 f649 .leaf) 650 f650 .leaf) 651 f651 (.node (.node .leaf 652 f652 .leaf) 697 f697 .leaf)) 699 f699 (.node (.node (.node .leaf 700 f700 .leaf) 701 f701 .leaf) 702 f702 (.node .leaf 772 f772 .leaf)))) 773 f773 (.node (.node (.node (.node (.node .leaf 777 f777 .leaf) 783 f783 .leaf) 785 f785 (.node (.node .leaf 787 f787 .leaf) 790 f790 .leaf)) 801 f801 (.node (.node (.node .leaf 802 f802 .leaf) 803 f803 .leaf) 804 f804 (.node .leaf 805 f805 .leaf))) 806 f806 (.node (.node (.node (.node .leaf 807 f807 .leaf) 808 f808 .leaf) 818 f818 (.node (.node .leaf 819 f819 .leaf) 820 f820 .leaf)) 821 f821 (.node (.node (.node .leaf 822 f822 .leaf) 823 f823 .leaf) 826 f826 (.node .leaf 827 f827 .leaf))))) 828 f828 (.node (.node (.node (.node (.node (.node .leaf 829 f829 .leaf) 830 f830 .leaf) 831 f831 (.node (.node .leaf 832 f832 .leaf) 833 f833 .leaf)) 834 f834 (.node (.node (.node .leaf 835 f835 .leaf) 836 f836 .leaf) 837 f837 (.node .leaf 838 f838 .leaf))) 839 f839 (.node (.node (.node (.node .leaf 840 f840 .leaf) 841 f841 .leaf) 842 f842 (.node (.node .leaf 843 f843 .leaf) 844 f844 .leaf)) 845 f845 (.node (.node (.node .leaf 846 f846 .leaf) 847 f847 .leaf) 848 f848 (.node .leaf 849 f849 .leaf)))) 899 f899 (.node (.node (.node (.node (.node .leaf 903 f903 .leaf) 904 f904 .leaf) 905 f905 (.node (.node .leaf 1082 f1082 .leaf) 1085 f1085 .leaf)) 1090 f1090 (.node (.node (.node .leaf 1108 f1108 .leaf) 1111 f1111 .leaf) 1113 f1113 (.node .leaf 1114 f1114 .leaf))) 1130 f1130 (.node (.node (.node (.node .leaf 1134 f1134 .leaf) 1136 f1136 .leaf) 1137 f1137 (.node (.node .leaf 1140 f1140 .leaf) 1141 f1141 .leaf)) 1142 f1142 (.node (.node (.node .leaf 1169 f1169 .leaf) 1203 f1203 .leaf) 1204 f1204 (.node .leaf 1234 x1234 .leaf)))))))
def mt:Tree Nat:=(.node (.node (.node (.node .leaf 275 312 .leaf) 276 313 .leaf) 277 314 (.node (.node .leaf 278 315 .leaf) 279 316 .leaf)) 280 317 (.node (.node (.node .leaf 281 318 .leaf) 282 319 .leaf) 283 320 (.node (.node .leaf 285 321 .leaf) 286 322 .leaf)))
def vp:VP:=⟨true,fns.get,fun t m=>if m=0 then mt.get t else none⟩
@[simp] theorem mth275:vp.meth 275 0=some 312:=nr rfl
@[simp] theorem mth276:vp.meth 276 0=some 313:=nr rfl
@[simp] theorem mth277:vp.meth 277 0=some 314:=nr rfl
@[simp] theorem mth278:vp.meth 278 0=some 315:=nr rfl
@[simp] theorem mth279:vp.meth 279 0=some 316:=nr rfl
@[simp] theorem mth280:vp.meth 280 0=some 317:=nr rfl
@[simp] theorem mth281:vp.meth 281 0=some 318:=nr rfl
@[simp] theorem mth282:vp.meth 282 0=some 319:=nr rfl
@[simp] theorem mth283:vp.meth 283 0=some 320:=nr rfl
@[simp] theorem mth285:vp.meth 285 0=some 321:=nr rfl
@[simp] theorem mth286:vp.meth 286 0=some 322:=nr rfl
@[simp] theorem vpgc:vp.gc=true:=nr rfl
variable {β : Type} (lo : Nat) (h : Heap) (args : List V) (kv : V → Heap → Option β) (ks : List Nat) (fr : Fr)
theorem fn107:vp.fn 107=some f107:=rfl
@[simp] theorem call107:callK (orc vp) vp lo h 107 args kv=rwK vp lo h 107 args kv:=callK_rw fn107 rfl rfl rfl lo h args kv
theorem fn109:vp.fn 109=some f109:=rfl
theorem lp109_0:(orc vp).loop lo ks L109_0 fr h=execK (orc vp) vp lo l109_0 fr h (loopK vp lo ks L109_0 h):=loop_K ..
@[simp] theorem ro109:isRO vp 109=true:=nr rfl
@[simp] theorem call109:callK (orc vp) vp lo h 109 args kv=roK vp h 109 args kv:=callK_ro fn109 rfl rfl lo h args kv
theorem fn110:vp.fn 110=some f110:=rfl
@[simp] theorem ro110:isRO vp 110=true:=nr rfl
@[simp] theorem call110:callK (orc vp) vp lo h 110 args kv=roK vp h 110 args kv:=callK_ro fn110 rfl rfl lo h args kv
theorem fn111:vp.fn 111=some f111:=rfl
theorem lp111_0:(orc vp).loop lo ks L111_0 fr h=execK (orc vp) vp lo l111_0 fr h (loopK vp lo ks L111_0 h):=loop_K ..
@[simp] theorem ro111:isRO vp 111=true:=nr rfl
@[simp] theorem call111:callK (orc vp) vp lo h 111 args kv=roK vp h 111 args kv:=callK_ro fn111 rfl rfl lo h args kv
theorem fn112:vp.fn 112=some f112:=rfl
theorem lp112_0:(orc vp).loop lo ks L112_0 fr h=execK (orc vp) vp lo l112_0 fr h (loopK vp lo ks L112_0 h):=loop_K ..
@[simp] theorem ro112:isRO vp 112=true:=nr rfl
@[simp] theorem call112:callK (orc vp) vp lo h 112 args kv=roK vp h 112 args kv:=callK_ro fn112 rfl rfl lo h args kv
theorem fn113:vp.fn 113=some f113:=rfl
@[simp] theorem ro113:isRO vp 113=true:=nr rfl
@[simp] theorem call113:callK (orc vp) vp lo h 113 args kv=roK vp h 113 args kv:=callK_ro fn113 rfl rfl lo h args kv
theorem fn114:vp.fn 114=some f114:=rfl
theorem lp114_0:(orc vp).loop lo ks L114_0 fr h=execK (orc vp) vp lo l114_0 fr h (loopK vp lo ks L114_0 h):=loop_K ..
@[simp] theorem ro114:isRO vp 114=true:=nr rfl
@[simp] theorem call114:callK (orc vp) vp lo h 114 args kv=roK vp h 114 args kv:=callK_ro fn114 rfl rfl lo h args kv
theorem fn115:vp.fn 115=some f115:=rfl
@[simp] theorem ro115:isRO vp 115=true:=nr rfl
@[simp] theorem call115:callK (orc vp) vp lo h 115 args kv=roK vp h 115 args kv:=callK_ro fn115 rfl rfl lo h args kv
theorem fn116:vp.fn 116=some f116:=rfl
@[simp] theorem ro116:isRO vp 116=true:=nr rfl
@[simp] theorem call116:callK (orc vp) vp lo h 116 args kv=roK vp h 116 args kv:=callK_ro fn116 rfl rfl lo h args kv
theorem fn117:vp.fn 117=some f117:=rfl
@[simp] theorem ro117:isRO vp 117=true:=nr rfl
@[simp] theorem call117:callK (orc vp) vp lo h 117 args kv=roK vp h 117 args kv:=callK_ro fn117 rfl rfl lo h args kv
theorem fn118:vp.fn 118=some f118:=rfl
@[simp] theorem ro118:isRO vp 118=true:=nr rfl
@[simp] theorem call118:callK (orc vp) vp lo h 118 args kv=roK vp h 118 args kv:=callK_ro fn118 rfl rfl lo h args kv
theorem fn119:vp.fn 119=some f119:=rfl
@[simp] theorem ro119:isRO vp 119=true:=nr rfl
@[simp] theorem call119:callK (orc vp) vp lo h 119 args kv=roK vp h 119 args kv:=callK_ro fn119 rfl rfl lo h args kv
theorem fn120:vp.fn 120=some f120:=rfl
theorem lp120_0:(orc vp).loop lo ks L120_0 fr h=execK (orc vp) vp lo l120_0 fr h (loopK vp lo ks L120_0 h):=loop_K ..
@[simp] theorem ro120:isRO vp 120=true:=nr rfl
@[simp] theorem call120:callK (orc vp) vp lo h 120 args kv=roK vp h 120 args kv:=callK_ro fn120 rfl rfl lo h args kv
theorem fn121:vp.fn 121=some f121:=rfl
theorem lp121_0:(orc vp).loop lo ks L121_0 fr h=execK (orc vp) vp lo l121_0 fr h (loopK vp lo ks L121_0 h):=loop_K ..
@[simp] theorem ro121:isRO vp 121=true:=nr rfl
@[simp] theorem call121:callK (orc vp) vp lo h 121 args kv=roK vp h 121 args kv:=callK_ro fn121 rfl rfl lo h args kv
theorem fn122:vp.fn 122=some f122:=rfl
@[simp] theorem ro122:isRO vp 122=true:=nr rfl
@[simp] theorem call122:callK (orc vp) vp lo h 122 args kv=roK vp h 122 args kv:=callK_ro fn122 rfl rfl lo h args kv
theorem fn123:vp.fn 123=some f123:=rfl
@[simp] theorem ro123:isRO vp 123=true:=nr rfl
@[simp] theorem call123:callK (orc vp) vp lo h 123 args kv=roK vp h 123 args kv:=callK_ro fn123 rfl rfl lo h args kv
theorem fn124:vp.fn 124=some f124:=rfl
@[simp] theorem ro124:isRO vp 124=true:=nr rfl
@[simp] theorem call124:callK (orc vp) vp lo h 124 args kv=roK vp h 124 args kv:=callK_ro fn124 rfl rfl lo h args kv
theorem fn125:vp.fn 125=some f125:=rfl
@[simp] theorem ro125:isRO vp 125=true:=nr rfl
@[simp] theorem call125:callK (orc vp) vp lo h 125 args kv=roK vp h 125 args kv:=callK_ro fn125 rfl rfl lo h args kv
theorem fn126:vp.fn 126=some f126:=rfl
@[simp] theorem ro126:isRO vp 126=true:=nr rfl
@[simp] theorem call126:callK (orc vp) vp lo h 126 args kv=roK vp h 126 args kv:=callK_ro fn126 rfl rfl lo h args kv
theorem fn127:vp.fn 127=some f127:=rfl
@[simp] theorem ro127:isRO vp 127=true:=nr rfl
@[simp] theorem call127:callK (orc vp) vp lo h 127 args kv=roK vp h 127 args kv:=callK_ro fn127 rfl rfl lo h args kv
theorem fn128:vp.fn 128=some f128:=rfl
@[simp] theorem ro128:isRO vp 128=true:=nr rfl
@[simp] theorem call128:callK (orc vp) vp lo h 128 args kv=roK vp h 128 args kv:=callK_ro fn128 rfl rfl lo h args kv
theorem fn129:vp.fn 129=some f129:=rfl
@[simp] theorem ro129:isRO vp 129=true:=nr rfl
@[simp] theorem call129:callK (orc vp) vp lo h 129 args kv=roK vp h 129 args kv:=callK_ro fn129 rfl rfl lo h args kv
theorem fn130:vp.fn 130=some f130:=rfl
@[simp] theorem ro130:isRO vp 130=true:=nr rfl
@[simp] theorem call130:callK (orc vp) vp lo h 130 args kv=roK vp h 130 args kv:=callK_ro fn130 rfl rfl lo h args kv
theorem fn131:vp.fn 131=some f131:=rfl
@[simp] theorem ro131:isRO vp 131=true:=nr rfl
@[simp] theorem call131:callK (orc vp) vp lo h 131 args kv=roK vp h 131 args kv:=callK_ro fn131 rfl rfl lo h args kv
theorem fn132:vp.fn 132=some f132:=rfl
theorem lp132_0:(orc vp).loop lo ks L132_0 fr h=execK (orc vp) vp lo l132_0 fr h (loopK vp lo ks L132_0 h):=loop_K ..
@[simp] theorem ro132:isRO vp 132=true:=nr rfl
@[simp] theorem call132:callK (orc vp) vp lo h 132 args kv=roK vp h 132 args kv:=callK_ro fn132 rfl rfl lo h args kv
theorem fn133:vp.fn 133=some f133:=rfl
@[simp] theorem ro133:isRO vp 133=true:=nr rfl
@[simp] theorem call133:callK (orc vp) vp lo h 133 args kv=roK vp h 133 args kv:=callK_ro fn133 rfl rfl lo h args kv
theorem fn134:vp.fn 134=some f134:=rfl
@[simp] theorem ro134:isRO vp 134=true:=nr rfl
@[simp] theorem call134:callK (orc vp) vp lo h 134 args kv=roK vp h 134 args kv:=callK_ro fn134 rfl rfl lo h args kv
theorem fn135:vp.fn 135=some f135:=rfl
@[simp] theorem ro135:isRO vp 135=true:=nr rfl
@[simp] theorem call135:callK (orc vp) vp lo h 135 args kv=roK vp h 135 args kv:=callK_ro fn135 rfl rfl lo h args kv
theorem fn136:vp.fn 136=some f136:=rfl
@[simp] theorem ro136:isRO vp 136=true:=nr rfl
@[simp] theorem call136:callK (orc vp) vp lo h 136 args kv=roK vp h 136 args kv:=callK_ro fn136 rfl rfl lo h args kv
theorem fn137:vp.fn 137=some f137:=rfl
theorem lp137_0:(orc vp).loop lo ks L137_0 fr h=execK (orc vp) vp lo l137_0 fr h (loopK vp lo ks L137_0 h):=loop_K ..
theorem lp137_1:(orc vp).loop lo ks L137_1 fr h=execK (orc vp) vp lo l137_1 fr h (loopK vp lo ks L137_1 h):=loop_K ..
@[simp] theorem ro137:isRO vp 137=true:=nr rfl
@[simp] theorem call137:callK (orc vp) vp lo h 137 args kv=roK vp h 137 args kv:=callK_ro fn137 rfl rfl lo h args kv
theorem fn138:vp.fn 138=some f138:=rfl
@[simp] theorem ro138:isRO vp 138=true:=nr rfl
@[simp] theorem call138:callK (orc vp) vp lo h 138 args kv=roK vp h 138 args kv:=callK_ro fn138 rfl rfl lo h args kv
theorem fn139:vp.fn 139=some f139:=rfl
@[simp] theorem ro139:isRO vp 139=true:=nr rfl
@[simp] theorem call139:callK (orc vp) vp lo h 139 args kv=roK vp h 139 args kv:=callK_ro fn139 rfl rfl lo h args kv
theorem fn140:vp.fn 140=some f140:=rfl
@[simp] theorem ro140:isRO vp 140=true:=nr rfl
@[simp] theorem call140:callK (orc vp) vp lo h 140 args kv=roK vp h 140 args kv:=callK_ro fn140 rfl rfl lo h args kv
theorem fn141:vp.fn 141=some f141:=rfl
@[simp] theorem ro141:isRO vp 141=true:=nr rfl
@[simp] theorem call141:callK (orc vp) vp lo h 141 args kv=roK vp h 141 args kv:=callK_ro fn141 rfl rfl lo h args kv
theorem fn142:vp.fn 142=some f142:=rfl
@[simp] theorem ro142:isRO vp 142=true:=nr rfl
@[simp] theorem call142:callK (orc vp) vp lo h 142 args kv=roK vp h 142 args kv:=callK_ro fn142 rfl rfl lo h args kv
theorem fn312:vp.fn 312=some f312:=rfl
@[simp] theorem ro312:isRO vp 312=true:=nr rfl
@[simp] theorem call312:callK (orc vp) vp lo h 312 args kv=roK vp h 312 args kv:=callK_ro fn312 rfl rfl lo h args kv
theorem fn313:vp.fn 313=some f313:=rfl
@[simp] theorem ro313:isRO vp 313=true:=nr rfl
@[simp] theorem call313:callK (orc vp) vp lo h 313 args kv=roK vp h 313 args kv:=callK_ro fn313 rfl rfl lo h args kv
theorem fn314:vp.fn 314=some f314:=rfl
@[simp] theorem ro314:isRO vp 314=true:=nr rfl
@[simp] theorem call314:callK (orc vp) vp lo h 314 args kv=roK vp h 314 args kv:=callK_ro fn314 rfl rfl lo h args kv
theorem fn315:vp.fn 315=some f315:=rfl
@[simp] theorem ro315:isRO vp 315=true:=nr rfl
@[simp] theorem call315:callK (orc vp) vp lo h 315 args kv=roK vp h 315 args kv:=callK_ro fn315 rfl rfl lo h args kv
theorem fn316:vp.fn 316=some f316:=rfl
@[simp] theorem ro316:isRO vp 316=true:=nr rfl
@[simp] theorem call316:callK (orc vp) vp lo h 316 args kv=roK vp h 316 args kv:=callK_ro fn316 rfl rfl lo h args kv
theorem fn317:vp.fn 317=some f317:=rfl
@[simp] theorem ro317:isRO vp 317=true:=nr rfl
@[simp] theorem call317:callK (orc vp) vp lo h 317 args kv=roK vp h 317 args kv:=callK_ro fn317 rfl rfl lo h args kv
theorem fn318:vp.fn 318=some f318:=rfl
@[simp] theorem ro318:isRO vp 318=true:=nr rfl
@[simp] theorem call318:callK (orc vp) vp lo h 318 args kv=roK vp h 318 args kv:=callK_ro fn318 rfl rfl lo h args kv
theorem fn319:vp.fn 319=some f319:=rfl
@[simp] theorem ro319:isRO vp 319=true:=nr rfl
@[simp] theorem call319:callK (orc vp) vp lo h 319 args kv=roK vp h 319 args kv:=callK_ro fn319 rfl rfl lo h args kv
theorem fn320:vp.fn 320=some f320:=rfl
@[simp] theorem ro320:isRO vp 320=true:=nr rfl
@[simp] theorem call320:callK (orc vp) vp lo h 320 args kv=roK vp h 320 args kv:=callK_ro fn320 rfl rfl lo h args kv
theorem fn321:vp.fn 321=some f321:=rfl
@[simp] theorem ro321:isRO vp 321=true:=nr rfl
@[simp] theorem call321:callK (orc vp) vp lo h 321 args kv=roK vp h 321 args kv:=callK_ro fn321 rfl rfl lo h args kv
theorem fn322:vp.fn 322=some f322:=rfl
@[simp] theorem ro322:isRO vp 322=true:=nr rfl
@[simp] theorem call322:callK (orc vp) vp lo h 322 args kv=roK vp h 322 args kv:=callK_ro fn322 rfl rfl lo h args kv
theorem fn323:vp.fn 323=some f323:=rfl
@[simp] theorem ro323:isRO vp 323=true:=nr rfl
@[simp] theorem call323:callK (orc vp) vp lo h 323 args kv=roK vp h 323 args kv:=callK_ro fn323 rfl rfl lo h args kv
theorem fn324:vp.fn 324=some f324:=rfl
@[simp] theorem ro324:isRO vp 324=true:=nr rfl
@[simp] theorem call324:callK (orc vp) vp lo h 324 args kv=roK vp h 324 args kv:=callK_ro fn324 rfl rfl lo h args kv
theorem fn326:vp.fn 326=some f326:=rfl
@[simp] theorem ro326:isRO vp 326=true:=nr rfl
@[simp] theorem call326:callK (orc vp) vp lo h 326 args kv=roK vp h 326 args kv:=callK_ro fn326 rfl rfl lo h args kv
theorem fn327:vp.fn 327=some f327:=rfl
@[simp] theorem ro327:isRO vp 327=true:=nr rfl
@[simp] theorem call327:callK (orc vp) vp lo h 327 args kv=roK vp h 327 args kv:=callK_ro fn327 rfl rfl lo h args kv
theorem fn328:vp.fn 328=some f328:=rfl
@[simp] theorem ro328:isRO vp 328=true:=nr rfl
@[simp] theorem call328:callK (orc vp) vp lo h 328 args kv=roK vp h 328 args kv:=callK_ro fn328 rfl rfl lo h args kv
theorem fn422:vp.fn 422=some f422:=rfl
theorem lp422_0:(orc vp).loop lo ks L422_0 fr h=execK (orc vp) vp lo l422_0 fr h (loopK vp lo ks L422_0 h):=loop_K ..
@[simp] theorem ro422:isRO vp 422=true:=nr rfl
@[simp] theorem call422:callK (orc vp) vp lo h 422 args kv=roK vp h 422 args kv:=callK_ro fn422 rfl rfl lo h args kv
theorem fn424:vp.fn 424=some f424:=rfl
@[simp] theorem ro424:isRO vp 424=true:=nr rfl
@[simp] theorem call424:callK (orc vp) vp lo h 424 args kv=roK vp h 424 args kv:=callK_ro fn424 rfl rfl lo h args kv
theorem fn425:vp.fn 425=some f425:=rfl
@[simp] theorem ro425:isRO vp 425=true:=nr rfl
@[simp] theorem call425:callK (orc vp) vp lo h 425 args kv=roK vp h 425 args kv:=callK_ro fn425 rfl rfl lo h args kv
theorem fn427:vp.fn 427=some f427:=rfl
@[simp] theorem ro427:isRO vp 427=true:=nr rfl
@[simp] theorem call427:callK (orc vp) vp lo h 427 args kv=roK vp h 427 args kv:=callK_ro fn427 rfl rfl lo h args kv
theorem fn428:vp.fn 428=some f428:=rfl
@[simp] theorem ro428:isRO vp 428=true:=nr rfl
@[simp] theorem call428:callK (orc vp) vp lo h 428 args kv=roK vp h 428 args kv:=callK_ro fn428 rfl rfl lo h args kv
theorem fn429:vp.fn 429=some f429:=rfl
@[simp] theorem ro429:isRO vp 429=true:=nr rfl
@[simp] theorem call429:callK (orc vp) vp lo h 429 args kv=roK vp h 429 args kv:=callK_ro fn429 rfl rfl lo h args kv
theorem fn430:vp.fn 430=some f430:=rfl
@[simp] theorem ro430:isRO vp 430=true:=nr rfl
@[simp] theorem call430:callK (orc vp) vp lo h 430 args kv=roK vp h 430 args kv:=callK_ro fn430 rfl rfl lo h args kv
theorem fn432:vp.fn 432=some f432:=rfl
@[simp] theorem ro432:isRO vp 432=true:=nr rfl
@[simp] theorem call432:callK (orc vp) vp lo h 432 args kv=roK vp h 432 args kv:=callK_ro fn432 rfl rfl lo h args kv
theorem fn433:vp.fn 433=some f433:=rfl
@[simp] theorem ro433:isRO vp 433=true:=nr rfl
@[simp] theorem call433:callK (orc vp) vp lo h 433 args kv=roK vp h 433 args kv:=callK_ro fn433 rfl rfl lo h args kv
theorem fn461:vp.fn 461=some f461:=rfl
@[simp] theorem ro461:isRO vp 461=true:=nr rfl
@[simp] theorem call461:callK (orc vp) vp lo h 461 args kv=roK vp h 461 args kv:=callK_ro fn461 rfl rfl lo h args kv
theorem fn462:vp.fn 462=some f462:=rfl
theorem lp462_0:(orc vp).loop lo ks L462_0 fr h=execK (orc vp) vp lo l462_0 fr h (loopK vp lo ks L462_0 h):=loop_K ..
@[simp] theorem ro462:isRO vp 462=true:=nr rfl
@[simp] theorem call462:callK (orc vp) vp lo h 462 args kv=roK vp h 462 args kv:=callK_ro fn462 rfl rfl lo h args kv
theorem fn463:vp.fn 463=some f463:=rfl
theorem lp463_0:(orc vp).loop lo ks L463_0 fr h=execK (orc vp) vp lo l463_0 fr h (loopK vp lo ks L463_0 h):=loop_K ..
@[simp] theorem ro463:isRO vp 463=true:=nr rfl
@[simp] theorem call463:callK (orc vp) vp lo h 463 args kv=roK vp h 463 args kv:=callK_ro fn463 rfl rfl lo h args kv
theorem fn465:vp.fn 465=some f465:=rfl
@[simp] theorem ro465:isRO vp 465=true:=nr rfl
@[simp] theorem call465:callK (orc vp) vp lo h 465 args kv=roK vp h 465 args kv:=callK_ro fn465 rfl rfl lo h args kv
theorem fn466:vp.fn 466=some f466:=rfl
@[simp] theorem ro466:isRO vp 466=true:=nr rfl
@[simp] theorem call466:callK (orc vp) vp lo h 466 args kv=roK vp h 466 args kv:=callK_ro fn466 rfl rfl lo h args kv
theorem fn467:vp.fn 467=some f467:=rfl
theorem lp467_0:(orc vp).loop lo ks L467_0 fr h=execK (orc vp) vp lo l467_0 fr h (loopK vp lo ks L467_0 h):=loop_K ..
@[simp] theorem ro467:isRO vp 467=true:=nr rfl
@[simp] theorem call467:callK (orc vp) vp lo h 467 args kv=roK vp h 467 args kv:=callK_ro fn467 rfl rfl lo h args kv
theorem fn481:vp.fn 481=some f481:=rfl
theorem lp481_0:(orc vp).loop lo ks L481_0 fr h=execK (orc vp) vp lo l481_0 fr h (loopK vp lo ks L481_0 h):=loop_K ..
@[simp] theorem ro481:isRO vp 481=true:=nr rfl
@[simp] theorem call481:callK (orc vp) vp lo h 481 args kv=roK vp h 481 args kv:=callK_ro fn481 rfl rfl lo h args kv
theorem fn482:vp.fn 482=some f482:=rfl
@[simp] theorem ro482:isRO vp 482=true:=nr rfl
@[simp] theorem call482:callK (orc vp) vp lo h 482 args kv=roK vp h 482 args kv:=callK_ro fn482 rfl rfl lo h args kv
theorem fn489:vp.fn 489=some f489:=rfl
@[simp] theorem ro489:isRO vp 489=true:=nr rfl
@[simp] theorem call489:callK (orc vp) vp lo h 489 args kv=roK vp h 489 args kv:=callK_ro fn489 rfl rfl lo h args kv
theorem fn490:vp.fn 490=some f490:=rfl
theorem lp490_0:(orc vp).loop lo ks L490_0 fr h=execK (orc vp) vp lo l490_0 fr h (loopK vp lo ks L490_0 h):=loop_K ..
@[simp] theorem ro490:isRO vp 490=true:=nr rfl
@[simp] theorem call490:callK (orc vp) vp lo h 490 args kv=roK vp h 490 args kv:=callK_ro fn490 rfl rfl lo h args kv
theorem fn491:vp.fn 491=some f491:=rfl
@[simp] theorem ro491:isRO vp 491=true:=nr rfl
@[simp] theorem call491:callK (orc vp) vp lo h 491 args kv=roK vp h 491 args kv:=callK_ro fn491 rfl rfl lo h args kv
theorem fn493:vp.fn 493=some f493:=rfl
@[simp] theorem ro493:isRO vp 493=true:=nr rfl
@[simp] theorem call493:callK (orc vp) vp lo h 493 args kv=roK vp h 493 args kv:=callK_ro fn493 rfl rfl lo h args kv
theorem fn494:vp.fn 494=some f494:=rfl
@[simp] theorem ro494:isRO vp 494=true:=nr rfl
@[simp] theorem call494:callK (orc vp) vp lo h 494 args kv=roK vp h 494 args kv:=callK_ro fn494 rfl rfl lo h args kv
theorem fn501:vp.fn 501=some f501:=rfl
theorem lp501_0:(orc vp).loop lo ks L501_0 fr h=execK (orc vp) vp lo l501_0 fr h (loopK vp lo ks L501_0 h):=loop_K ..
@[simp] theorem ro501:isRO vp 501=true:=nr rfl
@[simp] theorem call501:callK (orc vp) vp lo h 501 args kv=roK vp h 501 args kv:=callK_ro fn501 rfl rfl lo h args kv
theorem fn507:vp.fn 507=some f507:=rfl
theorem lp507_0:(orc vp).loop lo ks L507_0 fr h=execK (orc vp) vp lo l507_0 fr h (loopK vp lo ks L507_0 h):=loop_K ..
@[simp] theorem ro507:isRO vp 507=true:=nr rfl
@[simp] theorem call507:callK (orc vp) vp lo h 507 args kv=roK vp h 507 args kv:=callK_ro fn507 rfl rfl lo h args kv
theorem fn508:vp.fn 508=some f508:=rfl
@[simp] theorem ro508:isRO vp 508=true:=nr rfl
@[simp] theorem call508:callK (orc vp) vp lo h 508 args kv=roK vp h 508 args kv:=callK_ro fn508 rfl rfl lo h args kv
theorem fn509:vp.fn 509=some f509:=rfl
@[simp] theorem ro509:isRO vp 509=true:=nr rfl
@[simp] theorem call509:callK (orc vp) vp lo h 509 args kv=roK vp h 509 args kv:=callK_ro fn509 rfl rfl lo h args kv
theorem fn510:vp.fn 510=some f510:=rfl
@[simp] theorem ro510:isRO vp 510=true:=nr rfl
@[simp] theorem call510:callK (orc vp) vp lo h 510 args kv=roK vp h 510 args kv:=callK_ro fn510 rfl rfl lo h args kv
theorem fn520:vp.fn 520=some f520:=rfl
theorem lp520_0:(orc vp).loop lo ks L520_0 fr h=execK (orc vp) vp lo l520_0 fr h (loopK vp lo ks L520_0 h):=loop_K ..
@[simp] theorem ro520:isRO vp 520=true:=nr rfl
@[simp] theorem call520:callK (orc vp) vp lo h 520 args kv=roK vp h 520 args kv:=callK_ro fn520 rfl rfl lo h args kv
theorem fn521:vp.fn 521=some f521:=rfl
@[simp] theorem ro521:isRO vp 521=true:=nr rfl
@[simp] theorem call521:callK (orc vp) vp lo h 521 args kv=roK vp h 521 args kv:=callK_ro fn521 rfl rfl lo h args kv
theorem fn522:vp.fn 522=some f522:=rfl
@[simp] theorem ro522:isRO vp 522=true:=nr rfl
@[simp] theorem call522:callK (orc vp) vp lo h 522 args kv=roK vp h 522 args kv:=callK_ro fn522 rfl rfl lo h args kv
theorem fn554:vp.fn 554=some f554:=rfl
@[simp] theorem ro554:isRO vp 554=true:=nr rfl
@[simp] theorem call554:callK (orc vp) vp lo h 554 args kv=roK vp h 554 args kv:=callK_ro fn554 rfl rfl lo h args kv
theorem fn556:vp.fn 556=some f556:=rfl
@[simp] theorem ro556:isRO vp 556=true:=nr rfl
@[simp] theorem call556:callK (orc vp) vp lo h 556 args kv=roK vp h 556 args kv:=callK_ro fn556 rfl rfl lo h args kv
theorem fn557:vp.fn 557=some f557:=rfl
@[simp] theorem ro557:isRO vp 557=true:=nr rfl
@[simp] theorem call557:callK (orc vp) vp lo h 557 args kv=roK vp h 557 args kv:=callK_ro fn557 rfl rfl lo h args kv
theorem fn558:vp.fn 558=some f558:=rfl
@[simp] theorem ro558:isRO vp 558=true:=nr rfl
@[simp] theorem call558:callK (orc vp) vp lo h 558 args kv=roK vp h 558 args kv:=callK_ro fn558 rfl rfl lo h args kv
theorem fn559:vp.fn 559=some f559:=rfl
@[simp] theorem ro559:isRO vp 559=true:=nr rfl
@[simp] theorem call559:callK (orc vp) vp lo h 559 args kv=roK vp h 559 args kv:=callK_ro fn559 rfl rfl lo h args kv
theorem fn561:vp.fn 561=some f561:=rfl
@[simp] theorem ro561:isRO vp 561=true:=nr rfl
@[simp] theorem call561:callK (orc vp) vp lo h 561 args kv=roK vp h 561 args kv:=callK_ro fn561 rfl rfl lo h args kv
theorem fn562:vp.fn 562=some f562:=rfl
theorem lp562_0:(orc vp).loop lo ks L562_0 fr h=execK (orc vp) vp lo l562_0 fr h (loopK vp lo ks L562_0 h):=loop_K ..
@[simp] theorem ro562:isRO vp 562=true:=nr rfl
@[simp] theorem call562:callK (orc vp) vp lo h 562 args kv=roK vp h 562 args kv:=callK_ro fn562 rfl rfl lo h args kv
theorem fn564:vp.fn 564=some f564:=rfl
@[simp] theorem ro564:isRO vp 564=true:=nr rfl
@[simp] theorem call564:callK (orc vp) vp lo h 564 args kv=roK vp h 564 args kv:=callK_ro fn564 rfl rfl lo h args kv
theorem fn638:vp.fn 638=some f638:=rfl
@[simp] theorem ro638:isRO vp 638=true:=nr rfl
@[simp] theorem call638:callK (orc vp) vp lo h 638 args kv=roK vp h 638 args kv:=callK_ro fn638 rfl rfl lo h args kv
theorem fn639:vp.fn 639=some f639:=rfl
@[simp] theorem ro639:isRO vp 639=true:=nr rfl
@[simp] theorem call639:callK (orc vp) vp lo h 639 args kv=roK vp h 639 args kv:=callK_ro fn639 rfl rfl lo h args kv
theorem fn640:vp.fn 640=some f640:=rfl
theorem lp640_0:(orc vp).loop lo ks L640_0 fr h=execK (orc vp) vp lo l640_0 fr h (loopK vp lo ks L640_0 h):=loop_K ..
@[simp] theorem ro640:isRO vp 640=true:=nr rfl
@[simp] theorem call640:callK (orc vp) vp lo h 640 args kv=roK vp h 640 args kv:=callK_ro fn640 rfl rfl lo h args kv
theorem fn641:vp.fn 641=some f641:=rfl
@[simp] theorem ro641:isRO vp 641=true:=nr rfl
@[simp] theorem call641:callK (orc vp) vp lo h 641 args kv=roK vp h 641 args kv:=callK_ro fn641 rfl rfl lo h args kv
theorem fn643:vp.fn 643=some f643:=rfl
theorem lp643_0:(orc vp).loop lo ks L643_0 fr h=execK (orc vp) vp lo l643_0 fr h (loopK vp lo ks L643_0 h):=loop_K ..
@[simp] theorem ro643:isRO vp 643=true:=nr rfl
@[simp] theorem call643:callK (orc vp) vp lo h 643 args kv=roK vp h 643 args kv:=callK_ro fn643 rfl rfl lo h args kv
theorem fn644:vp.fn 644=some f644:=rfl
@[simp] theorem ro644:isRO vp 644=true:=nr rfl
@[simp] theorem call644:callK (orc vp) vp lo h 644 args kv=roK vp h 644 args kv:=callK_ro fn644 rfl rfl lo h args kv
theorem fn645:vp.fn 645=some f645:=rfl
theorem lp645_0:(orc vp).loop lo ks L645_0 fr h=execK (orc vp) vp lo l645_0 fr h (loopK vp lo ks L645_0 h):=loop_K ..
@[simp] theorem ro645:isRO vp 645=true:=nr rfl
@[simp] theorem call645:callK (orc vp) vp lo h 645 args kv=roK vp h 645 args kv:=callK_ro fn645 rfl rfl lo h args kv
theorem fn647:vp.fn 647=some f647:=rfl
theorem lp647_0:(orc vp).loop lo ks L647_0 fr h=execK (orc vp) vp lo l647_0 fr h (loopK vp lo ks L647_0 h):=loop_K ..
@[simp] theorem ro647:isRO vp 647=true:=nr rfl
@[simp] theorem call647:callK (orc vp) vp lo h 647 args kv=roK vp h 647 args kv:=callK_ro fn647 rfl rfl lo h args kv
theorem fn648:vp.fn 648=some f648:=rfl
theorem lp648_0:(orc vp).loop lo ks L648_0 fr h=execK (orc vp) vp lo l648_0 fr h (loopK vp lo ks L648_0 h):=loop_K ..
@[simp] theorem ro648:isRO vp 648=true:=nr rfl
@[simp] theorem call648:callK (orc vp) vp lo h 648 args kv=roK vp h 648 args kv:=callK_ro fn648 rfl rfl lo h args kv
theorem fn649:vp.fn 649=some f649:=rfl
@[simp] theorem ro649:isRO vp 649=true:=nr rfl
@[simp] theorem call649:callK (orc vp) vp lo h 649 args kv=roK vp h 649 args kv:=callK_ro fn649 rfl rfl lo h args kv
theorem fn650:vp.fn 650=some f650:=rfl
@[simp] theorem ro650:isRO vp 650=true:=nr rfl
@[simp] theorem call650:callK (orc vp) vp lo h 650 args kv=roK vp h 650 args kv:=callK_ro fn650 rfl rfl lo h args kv
theorem fn651:vp.fn 651=some f651:=rfl
@[simp] theorem ro651:isRO vp 651=true:=nr rfl
@[simp] theorem call651:callK (orc vp) vp lo h 651 args kv=roK vp h 651 args kv:=callK_ro fn651 rfl rfl lo h args kv
theorem fn652:vp.fn 652=some f652:=rfl
@[simp] theorem ro652:isRO vp 652=true:=nr rfl
@[simp] theorem call652:callK (orc vp) vp lo h 652 args kv=roK vp h 652 args kv:=callK_ro fn652 rfl rfl lo h args kv
theorem fn697:vp.fn 697=some f697:=rfl
theorem lp697_0:(orc vp).loop lo ks L697_0 fr h=execK (orc vp) vp lo l697_0 fr h (loopK vp lo ks L697_0 h):=loop_K ..
@[simp] theorem ro697:isRO vp 697=true:=nr rfl
@[simp] theorem call697:callK (orc vp) vp lo h 697 args kv=roK vp h 697 args kv:=callK_ro fn697 rfl rfl lo h args kv
theorem fn699:vp.fn 699=some f699:=rfl
@[simp] theorem ro699:isRO vp 699=true:=nr rfl
@[simp] theorem call699:callK (orc vp) vp lo h 699 args kv=roK vp h 699 args kv:=callK_ro fn699 rfl rfl lo h args kv
theorem fn700:vp.fn 700=some f700:=rfl
theorem lp700_0:(orc vp).loop lo ks L700_0 fr h=execK (orc vp) vp lo l700_0 fr h (loopK vp lo ks L700_0 h):=loop_K ..
@[simp] theorem ro700:isRO vp 700=true:=nr rfl
@[simp] theorem call700:callK (orc vp) vp lo h 700 args kv=roK vp h 700 args kv:=callK_ro fn700 rfl rfl lo h args kv
theorem fn701:vp.fn 701=some f701:=rfl
@[simp] theorem ro701:isRO vp 701=true:=nr rfl
@[simp] theorem call701:callK (orc vp) vp lo h 701 args kv=roK vp h 701 args kv:=callK_ro fn701 rfl rfl lo h args kv
theorem fn702:vp.fn 702=some f702:=rfl
@[simp] theorem ro702:isRO vp 702=true:=nr rfl
@[simp] theorem call702:callK (orc vp) vp lo h 702 args kv=roK vp h 702 args kv:=callK_ro fn702 rfl rfl lo h args kv
theorem fn772:vp.fn 772=some f772:=rfl
theorem lp772_0:(orc vp).loop lo ks L772_0 fr h=execK (orc vp) vp lo l772_0 fr h (loopK vp lo ks L772_0 h):=loop_K ..
@[simp] theorem ro772:isRO vp 772=true:=nr rfl
@[simp] theorem call772:callK (orc vp) vp lo h 772 args kv=roK vp h 772 args kv:=callK_ro fn772 rfl rfl lo h args kv
theorem fn773:vp.fn 773=some f773:=rfl
theorem lp773_0:(orc vp).loop lo ks L773_0 fr h=execK (orc vp) vp lo l773_0 fr h (loopK vp lo ks L773_0 h):=loop_K ..
@[simp] theorem ro773:isRO vp 773=true:=nr rfl
@[simp] theorem call773:callK (orc vp) vp lo h 773 args kv=roK vp h 773 args kv:=callK_ro fn773 rfl rfl lo h args kv
theorem fn777:vp.fn 777=some f777:=rfl
theorem lp777_0:(orc vp).loop lo ks L777_0 fr h=execK (orc vp) vp lo l777_0 fr h (loopK vp lo ks L777_0 h):=loop_K ..
@[simp] theorem ro777:isRO vp 777=true:=nr rfl
@[simp] theorem call777:callK (orc vp) vp lo h 777 args kv=roK vp h 777 args kv:=callK_ro fn777 rfl rfl lo h args kv
theorem fn783:vp.fn 783=some f783:=rfl
theorem lp783_0:(orc vp).loop lo ks L783_0 fr h=execK (orc vp) vp lo l783_0 fr h (loopK vp lo ks L783_0 h):=loop_K ..
@[simp] theorem ro783:isRO vp 783=true:=nr rfl
@[simp] theorem call783:callK (orc vp) vp lo h 783 args kv=roK vp h 783 args kv:=callK_ro fn783 rfl rfl lo h args kv
theorem fn785:vp.fn 785=some f785:=rfl
@[simp] theorem ro785:isRO vp 785=true:=nr rfl
@[simp] theorem call785:callK (orc vp) vp lo h 785 args kv=roK vp h 785 args kv:=callK_ro fn785 rfl rfl lo h args kv
theorem fn787:vp.fn 787=some f787:=rfl
theorem lp787_0:(orc vp).loop lo ks L787_0 fr h=execK (orc vp) vp lo l787_0 fr h (loopK vp lo ks L787_0 h):=loop_K ..
@[simp] theorem ro787:isRO vp 787=true:=nr rfl
@[simp] theorem call787:callK (orc vp) vp lo h 787 args kv=roK vp h 787 args kv:=callK_ro fn787 rfl rfl lo h args kv
theorem fn790:vp.fn 790=some f790:=rfl
theorem lp790_0:(orc vp).loop lo ks L790_0 fr h=execK (orc vp) vp lo l790_0 fr h (loopK vp lo ks L790_0 h):=loop_K ..
theorem lp790_1:(orc vp).loop lo ks L790_1 fr h=execK (orc vp) vp lo l790_1 fr h (loopK vp lo ks L790_1 h):=loop_K ..
theorem lp790_2:(orc vp).loop lo ks L790_2 fr h=execK (orc vp) vp lo l790_2 fr h (loopK vp lo ks L790_2 h):=loop_K ..
@[simp] theorem ro790:isRO vp 790=true:=nr rfl
@[simp] theorem call790:callK (orc vp) vp lo h 790 args kv=roK vp h 790 args kv:=callK_ro fn790 rfl rfl lo h args kv
theorem fn801:vp.fn 801=some f801:=rfl
@[simp] theorem ro801:isRO vp 801=true:=nr rfl
@[simp] theorem call801:callK (orc vp) vp lo h 801 args kv=roK vp h 801 args kv:=callK_ro fn801 rfl rfl lo h args kv
theorem fn802:vp.fn 802=some f802:=rfl
@[simp] theorem ro802:isRO vp 802=true:=nr rfl
@[simp] theorem call802:callK (orc vp) vp lo h 802 args kv=roK vp h 802 args kv:=callK_ro fn802 rfl rfl lo h args kv
theorem fn803:vp.fn 803=some f803:=rfl
theorem lp803_0:(orc vp).loop lo ks L803_0 fr h=execK (orc vp) vp lo l803_0 fr h (loopK vp lo ks L803_0 h):=loop_K ..
@[simp] theorem ro803:isRO vp 803=true:=nr rfl
@[simp] theorem call803:callK (orc vp) vp lo h 803 args kv=roK vp h 803 args kv:=callK_ro fn803 rfl rfl lo h args kv
theorem fn804:vp.fn 804=some f804:=rfl
@[simp] theorem ro804:isRO vp 804=true:=nr rfl
@[simp] theorem call804:callK (orc vp) vp lo h 804 args kv=roK vp h 804 args kv:=callK_ro fn804 rfl rfl lo h args kv
theorem fn805:vp.fn 805=some f805:=rfl
theorem lp805_0:(orc vp).loop lo ks L805_0 fr h=execK (orc vp) vp lo l805_0 fr h (loopK vp lo ks L805_0 h):=loop_K ..
@[simp] theorem ro805:isRO vp 805=true:=nr rfl
@[simp] theorem call805:callK (orc vp) vp lo h 805 args kv=roK vp h 805 args kv:=callK_ro fn805 rfl rfl lo h args kv
theorem fn806:vp.fn 806=some f806:=rfl
theorem lp806_0:(orc vp).loop lo ks L806_0 fr h=execK (orc vp) vp lo l806_0 fr h (loopK vp lo ks L806_0 h):=loop_K ..
@[simp] theorem ro806:isRO vp 806=true:=nr rfl
@[simp] theorem call806:callK (orc vp) vp lo h 806 args kv=roK vp h 806 args kv:=callK_ro fn806 rfl rfl lo h args kv
theorem fn807:vp.fn 807=some f807:=rfl
theorem lp807_0:(orc vp).loop lo ks L807_0 fr h=execK (orc vp) vp lo l807_0 fr h (loopK vp lo ks L807_0 h):=loop_K ..
@[simp] theorem call807:callK (orc vp) vp lo h 807 args kv=ownK vp lo h 807 args kv:=callK_own fn807 rfl rfl rfl lo h args kv
theorem fn808:vp.fn 808=some f808:=rfl
@[simp] theorem ro808:isRO vp 808=true:=nr rfl
@[simp] theorem call808:callK (orc vp) vp lo h 808 args kv=roK vp h 808 args kv:=callK_ro fn808 rfl rfl lo h args kv
theorem fn818:vp.fn 818=some f818:=rfl
@[simp] theorem ro818:isRO vp 818=true:=nr rfl
@[simp] theorem call818:callK (orc vp) vp lo h 818 args kv=roK vp h 818 args kv:=callK_ro fn818 rfl rfl lo h args kv
theorem fn819:vp.fn 819=some f819:=rfl
theorem lp819_0:(orc vp).loop lo ks L819_0 fr h=execK (orc vp) vp lo l819_0 fr h (loopK vp lo ks L819_0 h):=loop_K ..
@[simp] theorem ro819:isRO vp 819=true:=nr rfl
@[simp] theorem call819:callK (orc vp) vp lo h 819 args kv=roK vp h 819 args kv:=callK_ro fn819 rfl rfl lo h args kv
theorem fn820:vp.fn 820=some f820:=rfl
theorem lp820_0:(orc vp).loop lo ks L820_0 fr h=execK (orc vp) vp lo l820_0 fr h (loopK vp lo ks L820_0 h):=loop_K ..
theorem lp820_1:(orc vp).loop lo ks L820_1 fr h=execK (orc vp) vp lo l820_1 fr h (loopK vp lo ks L820_1 h):=loop_K ..
@[simp] theorem ro820:isRO vp 820=true:=nr rfl
@[simp] theorem call820:callK (orc vp) vp lo h 820 args kv=roK vp h 820 args kv:=callK_ro fn820 rfl rfl lo h args kv
theorem fn821:vp.fn 821=some f821:=rfl
theorem lp821_0:(orc vp).loop lo ks L821_0 fr h=execK (orc vp) vp lo l821_0 fr h (loopK vp lo ks L821_0 h):=loop_K ..
theorem lp821_1:(orc vp).loop lo ks L821_1 fr h=execK (orc vp) vp lo l821_1 fr h (loopK vp lo ks L821_1 h):=loop_K ..
@[simp] theorem ro821:isRO vp 821=true:=nr rfl
@[simp] theorem call821:callK (orc vp) vp lo h 821 args kv=roK vp h 821 args kv:=callK_ro fn821 rfl rfl lo h args kv
theorem fn822:vp.fn 822=some f822:=rfl
theorem lp822_0:(orc vp).loop lo ks L822_0 fr h=execK (orc vp) vp lo l822_0 fr h (loopK vp lo ks L822_0 h):=loop_K ..
@[simp] theorem ro822:isRO vp 822=true:=nr rfl
@[simp] theorem call822:callK (orc vp) vp lo h 822 args kv=roK vp h 822 args kv:=callK_ro fn822 rfl rfl lo h args kv
theorem fn823:vp.fn 823=some f823:=rfl
theorem lp823_0:(orc vp).loop lo ks L823_0 fr h=execK (orc vp) vp lo l823_0 fr h (loopK vp lo ks L823_0 h):=loop_K ..
theorem lp823_1:(orc vp).loop lo ks L823_1 fr h=execK (orc vp) vp lo l823_1 fr h (loopK vp lo ks L823_1 h):=loop_K ..
@[simp] theorem ro823:isRO vp 823=true:=nr rfl
@[simp] theorem call823:callK (orc vp) vp lo h 823 args kv=roK vp h 823 args kv:=callK_ro fn823 rfl rfl lo h args kv
theorem fn826:vp.fn 826=some f826:=rfl
@[simp] theorem ro826:isRO vp 826=true:=nr rfl
@[simp] theorem call826:callK (orc vp) vp lo h 826 args kv=roK vp h 826 args kv:=callK_ro fn826 rfl rfl lo h args kv
theorem fn827:vp.fn 827=some f827:=rfl
@[simp] theorem ro827:isRO vp 827=true:=nr rfl
@[simp] theorem call827:callK (orc vp) vp lo h 827 args kv=roK vp h 827 args kv:=callK_ro fn827 rfl rfl lo h args kv
theorem fn828:vp.fn 828=some f828:=rfl
theorem lp828_0:(orc vp).loop lo ks L828_0 fr h=execK (orc vp) vp lo l828_0 fr h (loopK vp lo ks L828_0 h):=loop_K ..
@[simp] theorem ro828:isRO vp 828=true:=nr rfl
@[simp] theorem call828:callK (orc vp) vp lo h 828 args kv=roK vp h 828 args kv:=callK_ro fn828 rfl rfl lo h args kv
theorem fn829:vp.fn 829=some f829:=rfl
theorem lp829_0:(orc vp).loop lo ks L829_0 fr h=execK (orc vp) vp lo l829_0 fr h (loopK vp lo ks L829_0 h):=loop_K ..
theorem lp829_1:(orc vp).loop lo ks L829_1 fr h=execK (orc vp) vp lo l829_1 fr h (loopK vp lo ks L829_1 h):=loop_K ..
@[simp] theorem ro829:isRO vp 829=true:=nr rfl
@[simp] theorem call829:callK (orc vp) vp lo h 829 args kv=roK vp h 829 args kv:=callK_ro fn829 rfl rfl lo h args kv
theorem fn830:vp.fn 830=some f830:=rfl
@[simp] theorem ro830:isRO vp 830=true:=nr rfl
@[simp] theorem call830:callK (orc vp) vp lo h 830 args kv=roK vp h 830 args kv:=callK_ro fn830 rfl rfl lo h args kv
theorem fn831:vp.fn 831=some f831:=rfl
theorem lp831_0:(orc vp).loop lo ks L831_0 fr h=execK (orc vp) vp lo l831_0 fr h (loopK vp lo ks L831_0 h):=loop_K ..
@[simp] theorem ro831:isRO vp 831=true:=nr rfl
@[simp] theorem call831:callK (orc vp) vp lo h 831 args kv=roK vp h 831 args kv:=callK_ro fn831 rfl rfl lo h args kv
theorem fn832:vp.fn 832=some f832:=rfl
@[simp] theorem ro832:isRO vp 832=true:=nr rfl
@[simp] theorem call832:callK (orc vp) vp lo h 832 args kv=roK vp h 832 args kv:=callK_ro fn832 rfl rfl lo h args kv
theorem fn833:vp.fn 833=some f833:=rfl
@[simp] theorem ro833:isRO vp 833=true:=nr rfl
@[simp] theorem call833:callK (orc vp) vp lo h 833 args kv=roK vp h 833 args kv:=callK_ro fn833 rfl rfl lo h args kv
theorem fn834:vp.fn 834=some f834:=rfl
@[simp] theorem ro834:isRO vp 834=true:=nr rfl
@[simp] theorem call834:callK (orc vp) vp lo h 834 args kv=roK vp h 834 args kv:=callK_ro fn834 rfl rfl lo h args kv
theorem fn835:vp.fn 835=some f835:=rfl
@[simp] theorem ro835:isRO vp 835=true:=nr rfl
@[simp] theorem call835:callK (orc vp) vp lo h 835 args kv=roK vp h 835 args kv:=callK_ro fn835 rfl rfl lo h args kv
theorem fn836:vp.fn 836=some f836:=rfl
theorem lp836_0:(orc vp).loop lo ks L836_0 fr h=execK (orc vp) vp lo l836_0 fr h (loopK vp lo ks L836_0 h):=loop_K ..
theorem lp836_1:(orc vp).loop lo ks L836_1 fr h=execK (orc vp) vp lo l836_1 fr h (loopK vp lo ks L836_1 h):=loop_K ..
theorem lp836_2:(orc vp).loop lo ks L836_2 fr h=execK (orc vp) vp lo l836_2 fr h (loopK vp lo ks L836_2 h):=loop_K ..
theorem lp836_3:(orc vp).loop lo ks L836_3 fr h=execK (orc vp) vp lo l836_3 fr h (loopK vp lo ks L836_3 h):=loop_K ..
theorem lp836_4:(orc vp).loop lo ks L836_4 fr h=execK (orc vp) vp lo l836_4 fr h (loopK vp lo ks L836_4 h):=loop_K ..
theorem lp836_5:(orc vp).loop lo ks L836_5 fr h=execK (orc vp) vp lo l836_5 fr h (loopK vp lo ks L836_5 h):=loop_K ..
theorem lp836_6:(orc vp).loop lo ks L836_6 fr h=execK (orc vp) vp lo l836_6 fr h (loopK vp lo ks L836_6 h):=loop_K ..
theorem lp836_7:(orc vp).loop lo ks L836_7 fr h=execK (orc vp) vp lo l836_7 fr h (loopK vp lo ks L836_7 h):=loop_K ..
@[simp] theorem ro836:isRO vp 836=true:=nr rfl
@[simp] theorem call836:callK (orc vp) vp lo h 836 args kv=roK vp h 836 args kv:=callK_ro fn836 rfl rfl lo h args kv
theorem fn837:vp.fn 837=some f837:=rfl
theorem lp837_0:(orc vp).loop lo ks L837_0 fr h=execK (orc vp) vp lo l837_0 fr h (loopK vp lo ks L837_0 h):=loop_K ..
@[simp] theorem ro837:isRO vp 837=true:=nr rfl
@[simp] theorem call837:callK (orc vp) vp lo h 837 args kv=roK vp h 837 args kv:=callK_ro fn837 rfl rfl lo h args kv
theorem fn838:vp.fn 838=some f838:=rfl
@[simp] theorem ro838:isRO vp 838=true:=nr rfl
@[simp] theorem call838:callK (orc vp) vp lo h 838 args kv=roK vp h 838 args kv:=callK_ro fn838 rfl rfl lo h args kv
theorem fn839:vp.fn 839=some f839:=rfl
theorem lp839_0:(orc vp).loop lo ks L839_0 fr h=execK (orc vp) vp lo l839_0 fr h (loopK vp lo ks L839_0 h):=loop_K ..
@[simp] theorem ro839:isRO vp 839=true:=nr rfl
@[simp] theorem call839:callK (orc vp) vp lo h 839 args kv=roK vp h 839 args kv:=callK_ro fn839 rfl rfl lo h args kv
theorem fn840:vp.fn 840=some f840:=rfl
@[simp] theorem ro840:isRO vp 840=true:=nr rfl
@[simp] theorem call840:callK (orc vp) vp lo h 840 args kv=roK vp h 840 args kv:=callK_ro fn840 rfl rfl lo h args kv
theorem fn841:vp.fn 841=some f841:=rfl
@[simp] theorem ro841:isRO vp 841=true:=nr rfl
@[simp] theorem call841:callK (orc vp) vp lo h 841 args kv=roK vp h 841 args kv:=callK_ro fn841 rfl rfl lo h args kv
theorem fn842:vp.fn 842=some f842:=rfl
theorem lp842_0:(orc vp).loop lo ks L842_0 fr h=execK (orc vp) vp lo l842_0 fr h (loopK vp lo ks L842_0 h):=loop_K ..
@[simp] theorem ro842:isRO vp 842=true:=nr rfl
@[simp] theorem call842:callK (orc vp) vp lo h 842 args kv=roK vp h 842 args kv:=callK_ro fn842 rfl rfl lo h args kv
theorem fn843:vp.fn 843=some f843:=rfl
theorem lp843_0:(orc vp).loop lo ks L843_0 fr h=execK (orc vp) vp lo l843_0 fr h (loopK vp lo ks L843_0 h):=loop_K ..
theorem lp843_1:(orc vp).loop lo ks L843_1 fr h=execK (orc vp) vp lo l843_1 fr h (loopK vp lo ks L843_1 h):=loop_K ..
theorem lp843_2:(orc vp).loop lo ks L843_2 fr h=execK (orc vp) vp lo l843_2 fr h (loopK vp lo ks L843_2 h):=loop_K ..
@[simp] theorem ro843:isRO vp 843=true:=nr rfl
@[simp] theorem call843:callK (orc vp) vp lo h 843 args kv=roK vp h 843 args kv:=callK_ro fn843 rfl rfl lo h args kv
theorem fn844:vp.fn 844=some f844:=rfl
@[simp] theorem ro844:isRO vp 844=true:=nr rfl
@[simp] theorem call844:callK (orc vp) vp lo h 844 args kv=roK vp h 844 args kv:=callK_ro fn844 rfl rfl lo h args kv
theorem fn845:vp.fn 845=some f845:=rfl
theorem lp845_0:(orc vp).loop lo ks L845_0 fr h=execK (orc vp) vp lo l845_0 fr h (loopK vp lo ks L845_0 h):=loop_K ..
theorem lp845_1:(orc vp).loop lo ks L845_1 fr h=execK (orc vp) vp lo l845_1 fr h (loopK vp lo ks L845_1 h):=loop_K ..
@[simp] theorem ro845:isRO vp 845=true:=nr rfl
@[simp] theorem call845:callK (orc vp) vp lo h 845 args kv=roK vp h 845 args kv:=callK_ro fn845 rfl rfl lo h args kv
theorem fn846:vp.fn 846=some f846:=rfl
theorem lp846_0:(orc vp).loop lo ks L846_0 fr h=execK (orc vp) vp lo l846_0 fr h (loopK vp lo ks L846_0 h):=loop_K ..
@[simp] theorem ro846:isRO vp 846=true:=nr rfl
@[simp] theorem call846:callK (orc vp) vp lo h 846 args kv=roK vp h 846 args kv:=callK_ro fn846 rfl rfl lo h args kv
theorem fn847:vp.fn 847=some f847:=rfl
theorem lp847_0:(orc vp).loop lo ks L847_0 fr h=execK (orc vp) vp lo l847_0 fr h (loopK vp lo ks L847_0 h):=loop_K ..
theorem lp847_1:(orc vp).loop lo ks L847_1 fr h=execK (orc vp) vp lo l847_1 fr h (loopK vp lo ks L847_1 h):=loop_K ..
@[simp] theorem ro847:isRO vp 847=true:=nr rfl
@[simp] theorem call847:callK (orc vp) vp lo h 847 args kv=roK vp h 847 args kv:=callK_ro fn847 rfl rfl lo h args kv
theorem fn848:vp.fn 848=some f848:=rfl
theorem lp848_0:(orc vp).loop lo ks L848_0 fr h=execK (orc vp) vp lo l848_0 fr h (loopK vp lo ks L848_0 h):=loop_K ..
@[simp] theorem ro848:isRO vp 848=true:=nr rfl
@[simp] theorem call848:callK (orc vp) vp lo h 848 args kv=roK vp h 848 args kv:=callK_ro fn848 rfl rfl lo h args kv
theorem fn849:vp.fn 849=some f849:=rfl
theorem lp849_0:(orc vp).loop lo ks L849_0 fr h=execK (orc vp) vp lo l849_0 fr h (loopK vp lo ks L849_0 h):=loop_K ..
@[simp] theorem ro849:isRO vp 849=true:=nr rfl
@[simp] theorem call849:callK (orc vp) vp lo h 849 args kv=roK vp h 849 args kv:=callK_ro fn849 rfl rfl lo h args kv
theorem fn899:vp.fn 899=some f899:=rfl
@[simp] theorem ro899:isRO vp 899=true:=nr rfl
@[simp] theorem call899:callK (orc vp) vp lo h 899 args kv=roK vp h 899 args kv:=callK_ro fn899 rfl rfl lo h args kv
theorem fn903:vp.fn 903=some f903:=rfl
@[simp] theorem ro903:isRO vp 903=true:=nr rfl
@[simp] theorem call903:callK (orc vp) vp lo h 903 args kv=roK vp h 903 args kv:=callK_ro fn903 rfl rfl lo h args kv
theorem fn904:vp.fn 904=some f904:=rfl
theorem lp904_0:(orc vp).loop lo ks L904_0 fr h=execK (orc vp) vp lo l904_0 fr h (loopK vp lo ks L904_0 h):=loop_K ..
@[simp] theorem ro904:isRO vp 904=true:=nr rfl
@[simp] theorem call904:callK (orc vp) vp lo h 904 args kv=roK vp h 904 args kv:=callK_ro fn904 rfl rfl lo h args kv
theorem fn905:vp.fn 905=some f905:=rfl
theorem lp905_0:(orc vp).loop lo ks L905_0 fr h=execK (orc vp) vp lo l905_0 fr h (loopK vp lo ks L905_0 h):=loop_K ..
@[simp] theorem ro905:isRO vp 905=true:=nr rfl
@[simp] theorem call905:callK (orc vp) vp lo h 905 args kv=roK vp h 905 args kv:=callK_ro fn905 rfl rfl lo h args kv
theorem fn1082:vp.fn 1082=some f1082:=rfl
@[simp] theorem ro1082:isRO vp 1082=true:=nr rfl
@[simp] theorem call1082:callK (orc vp) vp lo h 1082 args kv=roK vp h 1082 args kv:=callK_ro fn1082 rfl rfl lo h args kv
theorem fn1085:vp.fn 1085=some f1085:=rfl
@[simp] theorem ro1085:isRO vp 1085=true:=nr rfl
@[simp] theorem call1085:callK (orc vp) vp lo h 1085 args kv=roK vp h 1085 args kv:=callK_ro fn1085 rfl rfl lo h args kv
theorem fn1090:vp.fn 1090=some f1090:=rfl
@[simp] theorem ro1090:isRO vp 1090=true:=nr rfl
@[simp] theorem call1090:callK (orc vp) vp lo h 1090 args kv=roK vp h 1090 args kv:=callK_ro fn1090 rfl rfl lo h args kv
theorem fn1108:vp.fn 1108=some f1108:=rfl
@[simp] theorem ro1108:isRO vp 1108=true:=nr rfl
@[simp] theorem call1108:callK (orc vp) vp lo h 1108 args kv=roK vp h 1108 args kv:=callK_ro fn1108 rfl rfl lo h args kv
theorem fn1111:vp.fn 1111=some f1111:=rfl
@[simp] theorem ro1111:isRO vp 1111=true:=nr rfl
@[simp] theorem call1111:callK (orc vp) vp lo h 1111 args kv=roK vp h 1111 args kv:=callK_ro fn1111 rfl rfl lo h args kv
theorem fn1113:vp.fn 1113=some f1113:=rfl
@[simp] theorem ro1113:isRO vp 1113=true:=nr rfl
@[simp] theorem call1113:callK (orc vp) vp lo h 1113 args kv=roK vp h 1113 args kv:=callK_ro fn1113 rfl rfl lo h args kv
theorem fn1114:vp.fn 1114=some f1114:=rfl
@[simp] theorem ro1114:isRO vp 1114=true:=nr rfl
@[simp] theorem call1114:callK (orc vp) vp lo h 1114 args kv=roK vp h 1114 args kv:=callK_ro fn1114 rfl rfl lo h args kv
theorem fn1130:vp.fn 1130=some f1130:=rfl
@[simp] theorem ro1130:isRO vp 1130=true:=nr rfl
@[simp] theorem call1130:callK (orc vp) vp lo h 1130 args kv=roK vp h 1130 args kv:=callK_ro fn1130 rfl rfl lo h args kv
theorem fn1134:vp.fn 1134=some f1134:=rfl
@[simp] theorem ro1134:isRO vp 1134=true:=nr rfl
@[simp] theorem call1134:callK (orc vp) vp lo h 1134 args kv=roK vp h 1134 args kv:=callK_ro fn1134 rfl rfl lo h args kv
theorem fn1136:vp.fn 1136=some f1136:=rfl
@[simp] theorem ro1136:isRO vp 1136=true:=nr rfl
@[simp] theorem call1136:callK (orc vp) vp lo h 1136 args kv=roK vp h 1136 args kv:=callK_ro fn1136 rfl rfl lo h args kv
theorem fn1137:vp.fn 1137=some f1137:=rfl
@[simp] theorem ro1137:isRO vp 1137=true:=nr rfl
@[simp] theorem call1137:callK (orc vp) vp lo h 1137 args kv=roK vp h 1137 args kv:=callK_ro fn1137 rfl rfl lo h args kv
theorem fn1140:vp.fn 1140=some f1140:=rfl
@[simp] theorem ro1140:isRO vp 1140=true:=nr rfl
@[simp] theorem call1140:callK (orc vp) vp lo h 1140 args kv=roK vp h 1140 args kv:=callK_ro fn1140 rfl rfl lo h args kv
theorem fn1141:vp.fn 1141=some f1141:=rfl
@[simp] theorem ro1141:isRO vp 1141=true:=nr rfl
@[simp] theorem call1141:callK (orc vp) vp lo h 1141 args kv=roK vp h 1141 args kv:=callK_ro fn1141 rfl rfl lo h args kv
theorem fn1142:vp.fn 1142=some f1142:=rfl
@[simp] theorem ro1142:isRO vp 1142=true:=nr rfl
@[simp] theorem call1142:callK (orc vp) vp lo h 1142 args kv=roK vp h 1142 args kv:=callK_ro fn1142 rfl rfl lo h args kv
theorem fn1169:vp.fn 1169=some f1169:=rfl
@[simp] theorem ro1169:isRO vp 1169=true:=nr rfl
@[simp] theorem call1169:callK (orc vp) vp lo h 1169 args kv=roK vp h 1169 args kv:=callK_ro fn1169 rfl rfl lo h args kv
theorem fn1203:vp.fn 1203=some f1203:=rfl
theorem lp1203_0:(orc vp).loop lo ks L1203_0 fr h=execK (orc vp) vp lo l1203_0 fr h (loopK vp lo ks L1203_0 h):=loop_K ..
@[simp] theorem ro1203:isRO vp 1203=true:=nr rfl
@[simp] theorem call1203:callK (orc vp) vp lo h 1203 args kv=roK vp h 1203 args kv:=callK_ro fn1203 rfl rfl lo h args kv
theorem fn1204:vp.fn 1204=some f1204:=rfl
theorem lp1204_0:(orc vp).loop lo ks L1204_0 fr h=execK (orc vp) vp lo l1204_0 fr h (loopK vp lo ks L1204_0 h):=loop_K ..
@[simp] theorem ro1204:isRO vp 1204=true:=nr rfl
@[simp] theorem call1204:callK (orc vp) vp lo h 1204 args kv=roK vp h 1204 args kv:=callK_ro fn1204 rfl rfl lo h args kv
theorem fn374:vp.fn 374=some x374:=rfl
@[simp] theorem call374:callK (orc vp) vp lo h 374 args kv=(optL (viewV h) args).bind fun us=>optK (p374 us) h kv:=callK_ext fn374 rfl lo h args kv
theorem fn378:vp.fn 378=some x378:=rfl
@[simp] theorem call378:callK (orc vp) vp lo h 378 args kv=(optL (viewV h) args).bind fun us=>optK (p378 us) h kv:=callK_ext fn378 rfl lo h args kv
theorem fn560:vp.fn 560=some x560:=rfl
@[simp] theorem call560:callK (orc vp) vp lo h 560 args kv=(optL (viewV h) args).bind fun us=>optK (p560 us) h kv:=callK_ext fn560 rfl lo h args kv
theorem fn1234:vp.fn 1234=some x1234:=rfl
@[simp] theorem call1234:callK (orc vp) vp lo h 1234 args kv=(optL (viewV h) args).bind fun us=>optK (p1234 us) h kv:=callK_ext fn1234 rfl lo h args kv
attribute [simp] b107 f107 l109_0 b109 f109 b110 f110 l111_0 b111 f111 l112_0 b112 f112 b113 f113 l114_0 b114 f114 b115 f115 b116 f116 b117 f117 b118 f118 b119 f119 l120_0 b120 f120 l121_0 b121 f121 b122 f122 b123 f123 b124 f124 b125 f125 b126 f126 b127 f127 b128 f128 b129 f129 b130 f130 b131 f131 l132_0 b132 f132 b133 f133 b134 f134 b135 f135 b136 f136 l137_0 l137_1 b137 f137 b138 f138 b139 f139 b140 f140 b141 f141 b142 f142 b312 f312 b313 f313 b314 f314 b315 f315 b316 f316 b317 f317 b318 f318 b319 f319 b320 f320 b321 f321 b322 f322 b323 f323 b324 f324 b326 f326 b327 f327 b328 f328 l422_0 b422 f422 b424 f424 b425 f425 b427 f427 b428 f428 b429 f429 b430 f430 b432 f432 b433 f433 b461 f461 l462_0 b462 f462 l463_0 b463 f463 b465 f465 b466 f466 l467_0 b467 f467 l481_0 b481 f481 b482 f482 b489 f489 l490_0 b490 f490 b491 f491 b493 f493 b494 f494 l501_0 b501 f501 l507_0 b507 f507 b508 f508 b509 f509 b510 f510 l520_0 b520 f520 b521 f521 b522 f522 b554 f554 b556 f556 b557 f557 b558 f558 b559 f559 b561 f561 l562_0 b562 f562 b564 f564 b638 f638 b639 f639 l640_0 b640 f640 b641 f641 l643_0 b643 f643 b644 f644 l645_0 b645 f645 l647_0 b647 f647 l648_0 b648 f648 b649 f649 b650 f650 b651 f651 b652 f652 l697_0 b697 f697 b699 f699 l700_0 b700 f700 b701 f701 b702 f702 l772_0 b772 f772 l773_0 b773 f773 l777_0 b777 f777 l783_0 b783 f783 b785 f785 l787_0 b787 f787 l790_0 l790_1 l790_2 b790 f790 b801 f801 b802 f802 l803_0 b803 f803 b804 f804 l805_0 b805 f805 l806_0 b806 f806 l807_0 b807 f807 b808 f808 b818 f818 l819_0 b819 f819 l820_0 l820_1 b820 f820 l821_0 l821_1 b821 f821 l822_0 b822 f822 l823_0 l823_1 b823 f823 b826 f826 b827 f827 l828_0 b828 f828 l829_0 l829_1 b829 f829 b830 f830 l831_0 b831 f831 b832 f832 b833 f833 b834 f834 b835 f835 l836_0 l836_1 l836_2 l836_3 l836_4 l836_5 l836_6 l836_7 b836 f836 l837_0 b837 f837 b838 f838 l839_0 b839 f839 b840 f840 b841 f841 l842_0 b842 f842 l843_0 l843_1 l843_2 b843 f843 b844 f844 l845_0 l845_1 b845 f845 l846_0 b846 f846 l847_0 l847_1 b847 f847 l848_0 b848 f848 l849_0 b849 f849 b899 f899 b903 f903 l904_0 b904 f904 l905_0 b905 f905 b1082 f1082 b1085 f1085 b1090 f1090 b1108 f1108 b1111 f1111 b1113 f1113 b1114 f1114 b1130 f1130 b1134 f1134 b1136 f1136 b1137 f1137 b1140 f1140 b1141 f1141 b1142 f1142 b1169 f1169 l1203_0 b1203 f1203 l1204_0 b1204 f1204
end Go.VE.Un
