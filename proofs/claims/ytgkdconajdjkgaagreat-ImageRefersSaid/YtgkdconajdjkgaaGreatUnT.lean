/- The table of functions: printed by a program. -/
import Derived.Test.YtgkdconajdjkgaaGreatUnF0
namespace Go.VE.Un
set_option maxRecDepth 100000
def fns : Tree VFunc := (.node (.node (.node (.node (.node (.node (.node .leaf 109 f109 .leaf) 110 f110 (.node .leaf 111 f111 .leaf)) 112 f112 (.node (.node .leaf 113 f113 .leaf) 114 f114 .leaf)) 115 f115 (.node (.node (.node .leaf 116 f116 .leaf) 117 f117 (.node .leaf 118 f118 .leaf)) 119 f119 (.node (.node .leaf 120 f120 .leaf) 121 f121 .leaf))) 122 f122 (.node (.node (.node (.node .leaf 123 f123 .leaf) 124 f124 (.node .leaf 125 f125 .leaf)) 126 f126 (.node (.node .leaf 127 f127 .leaf) 128 f128 .leaf)) 129 f129 (.node (.node (.node .leaf 130 f130 .leaf) 131 f131 .leaf) 132 f132 (.node (.node .leaf 133 f133 .leaf) 134 f134 .leaf)))) 135 f135 (.node (.node (.node (.node (.node .leaf 136 f136 .leaf) 137 f137 (.node .leaf 138 f138 .leaf)) 139 f139 (.node (.node .leaf 140 f140 .leaf) 141 f141 .leaf)) 142 f142 (.node (.node (.node .leaf 374 x374 .leaf) 378 x378 .leaf) 422 f422 (.node (.node .leaf 424 f424 .leaf) 425 f425 .leaf))) 427 f427 (.node (.node (.node (.node .leaf 428 f428 .leaf) 429 f429 (.node .leaf 430 f430 .leaf)) 432 f432 (.node (.node .leaf 433 f433 .leaf) 481 f481 .leaf)) 489 f489 (.node (.node (.node .leaf 490 f490 .leaf) 491 f491 .leaf) 493 f493 (.node (.node .leaf 494 f494 .leaf) 501 f501 .leaf))))) 507 f507 (.node (.node (.node (.node (.node (.node .leaf 508 f508 .leaf) 509 f509 (.node .leaf 510 f510 .leaf)) 520 f520 (.node (.node .leaf 521 f521 .leaf) 522 f522 .leaf)) 554 f554 (.node (.node (.node .leaf 556 f556 .leaf) 557 f557 .leaf) 558 f558 (.node (.node .leaf 559 f559 .leaf) 560 x560 .leaf))) 561 f561 (.node (.node (.node (.node .leaf 562 f562 .leaf) 564 f564 (.node .leaf 638 f638 .leaf)) 639 f639 (.node (.node .leaf 640 f640 .leaf) 641 f641 .leaf)) 643 f643 (.node (.node (.node .leaf 644 f644 .leaf) 645 f645 .leaf) 647 f647 (.node (.node .leaf 648 f648 .leaf) 649 f649 .leaf)))) 650 f650 (.node (.node (.node (.node (.node .leaf 651 f651 .leaf) 652 f652 (.node .leaf 655 f655 .leaf)) 657 f657 (.node (.node .leaf 658 f658 .leaf) 659 f659 .leaf)) 836 f836 (.node (.node (.node .leaf 1082 f1082 .leaf) 1085 f1085 .leaf) 1090 f1090 (.node (.node .leaf 1108 f1108 .leaf) 1111 f1111 .leaf))) 1113 f1113 (.node (.node (.node (.node .leaf 1114 f1114 .leaf) 1130 f1130 (.node .leaf 1134 f1134 .leaf)) 1136 f1136 (.node (.node .leaf 1137 f1137 .leaf) 1140 f1140 .leaf)) 1141 f1141 (.node (.node (.node .leaf 1142 f1142 .leaf) 1169 f1169 .leaf) 1203 f1203 (.node (.node .leaf 1204 f1204 .leaf) 1234 x1234 .leaf))))))
def vp : VP := ⟨true, fns.get, fun _ _ => none⟩
def vc : VP := ⟨false, fns.get, fun _ _ => none⟩
@[simp] theorem vpgc : vp.gc = true := nr rfl
theorem fn109 : vp.fn 109 = some f109 := rfl
theorem lp109_0 (lo : Nat) (ks : List Nat) (fr : Fr) (h : Heap) : (orc vp).loop lo ks L109_0 fr h = execK (orc vp) vp lo l109_0 fr h (loopK vp lo ks L109_0 h) := loop_K ..
@[simp] theorem ro109 : isRO vp 109 = true := nr rfl
@[simp] theorem call109 {β : Type} (lo : Nat) (h : Heap) (args : List V) (kv : V → Heap → Option β) : callK (orc vp) vp lo h 109 args kv = roK vp h 109 args kv := callK_ro fn109 rfl rfl lo h args kv
theorem fn110 : vp.fn 110 = some f110 := rfl
@[simp] theorem ro110 : isRO vp 110 = true := nr rfl
@[simp] theorem call110 {β : Type} (lo : Nat) (h : Heap) (args : List V) (kv : V → Heap → Option β) : callK (orc vp) vp lo h 110 args kv = roK vp h 110 args kv := callK_ro fn110 rfl rfl lo h args kv
theorem fn111 : vp.fn 111 = some f111 := rfl
theorem lp111_0 (lo : Nat) (ks : List Nat) (fr : Fr) (h : Heap) : (orc vp).loop lo ks L111_0 fr h = execK (orc vp) vp lo l111_0 fr h (loopK vp lo ks L111_0 h) := loop_K ..
@[simp] theorem ro111 : isRO vp 111 = true := nr rfl
@[simp] theorem call111 {β : Type} (lo : Nat) (h : Heap) (args : List V) (kv : V → Heap → Option β) : callK (orc vp) vp lo h 111 args kv = roK vp h 111 args kv := callK_ro fn111 rfl rfl lo h args kv
theorem fn112 : vp.fn 112 = some f112 := rfl
theorem lp112_0 (lo : Nat) (ks : List Nat) (fr : Fr) (h : Heap) : (orc vp).loop lo ks L112_0 fr h = execK (orc vp) vp lo l112_0 fr h (loopK vp lo ks L112_0 h) := loop_K ..
@[simp] theorem ro112 : isRO vp 112 = true := nr rfl
@[simp] theorem call112 {β : Type} (lo : Nat) (h : Heap) (args : List V) (kv : V → Heap → Option β) : callK (orc vp) vp lo h 112 args kv = roK vp h 112 args kv := callK_ro fn112 rfl rfl lo h args kv
theorem fn113 : vp.fn 113 = some f113 := rfl
@[simp] theorem ro113 : isRO vp 113 = true := nr rfl
@[simp] theorem call113 {β : Type} (lo : Nat) (h : Heap) (args : List V) (kv : V → Heap → Option β) : callK (orc vp) vp lo h 113 args kv = roK vp h 113 args kv := callK_ro fn113 rfl rfl lo h args kv
theorem fn114 : vp.fn 114 = some f114 := rfl
theorem lp114_0 (lo : Nat) (ks : List Nat) (fr : Fr) (h : Heap) : (orc vp).loop lo ks L114_0 fr h = execK (orc vp) vp lo l114_0 fr h (loopK vp lo ks L114_0 h) := loop_K ..
@[simp] theorem ro114 : isRO vp 114 = true := nr rfl
@[simp] theorem call114 {β : Type} (lo : Nat) (h : Heap) (args : List V) (kv : V → Heap → Option β) : callK (orc vp) vp lo h 114 args kv = roK vp h 114 args kv := callK_ro fn114 rfl rfl lo h args kv
theorem fn115 : vp.fn 115 = some f115 := rfl
@[simp] theorem ro115 : isRO vp 115 = true := nr rfl
@[simp] theorem call115 {β : Type} (lo : Nat) (h : Heap) (args : List V) (kv : V → Heap → Option β) : callK (orc vp) vp lo h 115 args kv = roK vp h 115 args kv := callK_ro fn115 rfl rfl lo h args kv
theorem fn116 : vp.fn 116 = some f116 := rfl
@[simp] theorem ro116 : isRO vp 116 = true := nr rfl
@[simp] theorem call116 {β : Type} (lo : Nat) (h : Heap) (args : List V) (kv : V → Heap → Option β) : callK (orc vp) vp lo h 116 args kv = roK vp h 116 args kv := callK_ro fn116 rfl rfl lo h args kv
theorem fn117 : vp.fn 117 = some f117 := rfl
@[simp] theorem ro117 : isRO vp 117 = true := nr rfl
@[simp] theorem call117 {β : Type} (lo : Nat) (h : Heap) (args : List V) (kv : V → Heap → Option β) : callK (orc vp) vp lo h 117 args kv = roK vp h 117 args kv := callK_ro fn117 rfl rfl lo h args kv
theorem fn118 : vp.fn 118 = some f118 := rfl
@[simp] theorem ro118 : isRO vp 118 = true := nr rfl
@[simp] theorem call118 {β : Type} (lo : Nat) (h : Heap) (args : List V) (kv : V → Heap → Option β) : callK (orc vp) vp lo h 118 args kv = roK vp h 118 args kv := callK_ro fn118 rfl rfl lo h args kv
theorem fn119 : vp.fn 119 = some f119 := rfl
@[simp] theorem ro119 : isRO vp 119 = true := nr rfl
@[simp] theorem call119 {β : Type} (lo : Nat) (h : Heap) (args : List V) (kv : V → Heap → Option β) : callK (orc vp) vp lo h 119 args kv = roK vp h 119 args kv := callK_ro fn119 rfl rfl lo h args kv
theorem fn120 : vp.fn 120 = some f120 := rfl
theorem lp120_0 (lo : Nat) (ks : List Nat) (fr : Fr) (h : Heap) : (orc vp).loop lo ks L120_0 fr h = execK (orc vp) vp lo l120_0 fr h (loopK vp lo ks L120_0 h) := loop_K ..
@[simp] theorem ro120 : isRO vp 120 = true := nr rfl
@[simp] theorem call120 {β : Type} (lo : Nat) (h : Heap) (args : List V) (kv : V → Heap → Option β) : callK (orc vp) vp lo h 120 args kv = roK vp h 120 args kv := callK_ro fn120 rfl rfl lo h args kv
theorem fn121 : vp.fn 121 = some f121 := rfl
theorem lp121_0 (lo : Nat) (ks : List Nat) (fr : Fr) (h : Heap) : (orc vp).loop lo ks L121_0 fr h = execK (orc vp) vp lo l121_0 fr h (loopK vp lo ks L121_0 h) := loop_K ..
@[simp] theorem ro121 : isRO vp 121 = true := nr rfl
@[simp] theorem call121 {β : Type} (lo : Nat) (h : Heap) (args : List V) (kv : V → Heap → Option β) : callK (orc vp) vp lo h 121 args kv = roK vp h 121 args kv := callK_ro fn121 rfl rfl lo h args kv
theorem fn122 : vp.fn 122 = some f122 := rfl
@[simp] theorem ro122 : isRO vp 122 = true := nr rfl
@[simp] theorem call122 {β : Type} (lo : Nat) (h : Heap) (args : List V) (kv : V → Heap → Option β) : callK (orc vp) vp lo h 122 args kv = roK vp h 122 args kv := callK_ro fn122 rfl rfl lo h args kv
theorem fn123 : vp.fn 123 = some f123 := rfl
@[simp] theorem ro123 : isRO vp 123 = true := nr rfl
@[simp] theorem call123 {β : Type} (lo : Nat) (h : Heap) (args : List V) (kv : V → Heap → Option β) : callK (orc vp) vp lo h 123 args kv = roK vp h 123 args kv := callK_ro fn123 rfl rfl lo h args kv
theorem fn124 : vp.fn 124 = some f124 := rfl
@[simp] theorem ro124 : isRO vp 124 = true := nr rfl
@[simp] theorem call124 {β : Type} (lo : Nat) (h : Heap) (args : List V) (kv : V → Heap → Option β) : callK (orc vp) vp lo h 124 args kv = roK vp h 124 args kv := callK_ro fn124 rfl rfl lo h args kv
theorem fn125 : vp.fn 125 = some f125 := rfl
@[simp] theorem ro125 : isRO vp 125 = true := nr rfl
@[simp] theorem call125 {β : Type} (lo : Nat) (h : Heap) (args : List V) (kv : V → Heap → Option β) : callK (orc vp) vp lo h 125 args kv = roK vp h 125 args kv := callK_ro fn125 rfl rfl lo h args kv
theorem fn126 : vp.fn 126 = some f126 := rfl
@[simp] theorem ro126 : isRO vp 126 = true := nr rfl
@[simp] theorem call126 {β : Type} (lo : Nat) (h : Heap) (args : List V) (kv : V → Heap → Option β) : callK (orc vp) vp lo h 126 args kv = roK vp h 126 args kv := callK_ro fn126 rfl rfl lo h args kv
theorem fn127 : vp.fn 127 = some f127 := rfl
@[simp] theorem ro127 : isRO vp 127 = true := nr rfl
@[simp] theorem call127 {β : Type} (lo : Nat) (h : Heap) (args : List V) (kv : V → Heap → Option β) : callK (orc vp) vp lo h 127 args kv = roK vp h 127 args kv := callK_ro fn127 rfl rfl lo h args kv
theorem fn128 : vp.fn 128 = some f128 := rfl
@[simp] theorem ro128 : isRO vp 128 = true := nr rfl
@[simp] theorem call128 {β : Type} (lo : Nat) (h : Heap) (args : List V) (kv : V → Heap → Option β) : callK (orc vp) vp lo h 128 args kv = roK vp h 128 args kv := callK_ro fn128 rfl rfl lo h args kv
theorem fn129 : vp.fn 129 = some f129 := rfl
@[simp] theorem ro129 : isRO vp 129 = true := nr rfl
@[simp] theorem call129 {β : Type} (lo : Nat) (h : Heap) (args : List V) (kv : V → Heap → Option β) : callK (orc vp) vp lo h 129 args kv = roK vp h 129 args kv := callK_ro fn129 rfl rfl lo h args kv
theorem fn130 : vp.fn 130 = some f130 := rfl
@[simp] theorem ro130 : isRO vp 130 = true := nr rfl
@[simp] theorem call130 {β : Type} (lo : Nat) (h : Heap) (args : List V) (kv : V → Heap → Option β) : callK (orc vp) vp lo h 130 args kv = roK vp h 130 args kv := callK_ro fn130 rfl rfl lo h args kv
theorem fn131 : vp.fn 131 = some f131 := rfl
@[simp] theorem ro131 : isRO vp 131 = true := nr rfl
@[simp] theorem call131 {β : Type} (lo : Nat) (h : Heap) (args : List V) (kv : V → Heap → Option β) : callK (orc vp) vp lo h 131 args kv = roK vp h 131 args kv := callK_ro fn131 rfl rfl lo h args kv
theorem fn132 : vp.fn 132 = some f132 := rfl
theorem lp132_0 (lo : Nat) (ks : List Nat) (fr : Fr) (h : Heap) : (orc vp).loop lo ks L132_0 fr h = execK (orc vp) vp lo l132_0 fr h (loopK vp lo ks L132_0 h) := loop_K ..
@[simp] theorem ro132 : isRO vp 132 = true := nr rfl
@[simp] theorem call132 {β : Type} (lo : Nat) (h : Heap) (args : List V) (kv : V → Heap → Option β) : callK (orc vp) vp lo h 132 args kv = roK vp h 132 args kv := callK_ro fn132 rfl rfl lo h args kv
theorem fn133 : vp.fn 133 = some f133 := rfl
@[simp] theorem ro133 : isRO vp 133 = true := nr rfl
@[simp] theorem call133 {β : Type} (lo : Nat) (h : Heap) (args : List V) (kv : V → Heap → Option β) : callK (orc vp) vp lo h 133 args kv = roK vp h 133 args kv := callK_ro fn133 rfl rfl lo h args kv
theorem fn134 : vp.fn 134 = some f134 := rfl
@[simp] theorem ro134 : isRO vp 134 = true := nr rfl
@[simp] theorem call134 {β : Type} (lo : Nat) (h : Heap) (args : List V) (kv : V → Heap → Option β) : callK (orc vp) vp lo h 134 args kv = roK vp h 134 args kv := callK_ro fn134 rfl rfl lo h args kv
theorem fn135 : vp.fn 135 = some f135 := rfl
@[simp] theorem ro135 : isRO vp 135 = true := nr rfl
@[simp] theorem call135 {β : Type} (lo : Nat) (h : Heap) (args : List V) (kv : V → Heap → Option β) : callK (orc vp) vp lo h 135 args kv = roK vp h 135 args kv := callK_ro fn135 rfl rfl lo h args kv
theorem fn136 : vp.fn 136 = some f136 := rfl
@[simp] theorem ro136 : isRO vp 136 = true := nr rfl
@[simp] theorem call136 {β : Type} (lo : Nat) (h : Heap) (args : List V) (kv : V → Heap → Option β) : callK (orc vp) vp lo h 136 args kv = roK vp h 136 args kv := callK_ro fn136 rfl rfl lo h args kv
theorem fn137 : vp.fn 137 = some f137 := rfl
theorem lp137_0 (lo : Nat) (ks : List Nat) (fr : Fr) (h : Heap) : (orc vp).loop lo ks L137_0 fr h = execK (orc vp) vp lo l137_0 fr h (loopK vp lo ks L137_0 h) := loop_K ..
theorem lp137_1 (lo : Nat) (ks : List Nat) (fr : Fr) (h : Heap) : (orc vp).loop lo ks L137_1 fr h = execK (orc vp) vp lo l137_1 fr h (loopK vp lo ks L137_1 h) := loop_K ..
@[simp] theorem ro137 : isRO vp 137 = true := nr rfl
@[simp] theorem call137 {β : Type} (lo : Nat) (h : Heap) (args : List V) (kv : V → Heap → Option β) : callK (orc vp) vp lo h 137 args kv = roK vp h 137 args kv := callK_ro fn137 rfl rfl lo h args kv
theorem fn138 : vp.fn 138 = some f138 := rfl
@[simp] theorem ro138 : isRO vp 138 = true := nr rfl
@[simp] theorem call138 {β : Type} (lo : Nat) (h : Heap) (args : List V) (kv : V → Heap → Option β) : callK (orc vp) vp lo h 138 args kv = roK vp h 138 args kv := callK_ro fn138 rfl rfl lo h args kv
theorem fn139 : vp.fn 139 = some f139 := rfl
@[simp] theorem ro139 : isRO vp 139 = true := nr rfl
@[simp] theorem call139 {β : Type} (lo : Nat) (h : Heap) (args : List V) (kv : V → Heap → Option β) : callK (orc vp) vp lo h 139 args kv = roK vp h 139 args kv := callK_ro fn139 rfl rfl lo h args kv
theorem fn140 : vp.fn 140 = some f140 := rfl
@[simp] theorem ro140 : isRO vp 140 = true := nr rfl
@[simp] theorem call140 {β : Type} (lo : Nat) (h : Heap) (args : List V) (kv : V → Heap → Option β) : callK (orc vp) vp lo h 140 args kv = roK vp h 140 args kv := callK_ro fn140 rfl rfl lo h args kv
theorem fn141 : vp.fn 141 = some f141 := rfl
@[simp] theorem ro141 : isRO vp 141 = true := nr rfl
@[simp] theorem call141 {β : Type} (lo : Nat) (h : Heap) (args : List V) (kv : V → Heap → Option β) : callK (orc vp) vp lo h 141 args kv = roK vp h 141 args kv := callK_ro fn141 rfl rfl lo h args kv
theorem fn142 : vp.fn 142 = some f142 := rfl
@[simp] theorem ro142 : isRO vp 142 = true := nr rfl
@[simp] theorem call142 {β : Type} (lo : Nat) (h : Heap) (args : List V) (kv : V → Heap → Option β) : callK (orc vp) vp lo h 142 args kv = roK vp h 142 args kv := callK_ro fn142 rfl rfl lo h args kv
theorem fn422 : vp.fn 422 = some f422 := rfl
theorem lp422_0 (lo : Nat) (ks : List Nat) (fr : Fr) (h : Heap) : (orc vp).loop lo ks L422_0 fr h = execK (orc vp) vp lo l422_0 fr h (loopK vp lo ks L422_0 h) := loop_K ..
@[simp] theorem ro422 : isRO vp 422 = true := nr rfl
@[simp] theorem call422 {β : Type} (lo : Nat) (h : Heap) (args : List V) (kv : V → Heap → Option β) : callK (orc vp) vp lo h 422 args kv = roK vp h 422 args kv := callK_ro fn422 rfl rfl lo h args kv
theorem fn424 : vp.fn 424 = some f424 := rfl
@[simp] theorem ro424 : isRO vp 424 = true := nr rfl
@[simp] theorem call424 {β : Type} (lo : Nat) (h : Heap) (args : List V) (kv : V → Heap → Option β) : callK (orc vp) vp lo h 424 args kv = roK vp h 424 args kv := callK_ro fn424 rfl rfl lo h args kv
theorem fn425 : vp.fn 425 = some f425 := rfl
@[simp] theorem ro425 : isRO vp 425 = true := nr rfl
@[simp] theorem call425 {β : Type} (lo : Nat) (h : Heap) (args : List V) (kv : V → Heap → Option β) : callK (orc vp) vp lo h 425 args kv = roK vp h 425 args kv := callK_ro fn425 rfl rfl lo h args kv
theorem fn427 : vp.fn 427 = some f427 := rfl
@[simp] theorem ro427 : isRO vp 427 = true := nr rfl
@[simp] theorem call427 {β : Type} (lo : Nat) (h : Heap) (args : List V) (kv : V → Heap → Option β) : callK (orc vp) vp lo h 427 args kv = roK vp h 427 args kv := callK_ro fn427 rfl rfl lo h args kv
theorem fn428 : vp.fn 428 = some f428 := rfl
@[simp] theorem ro428 : isRO vp 428 = true := nr rfl
@[simp] theorem call428 {β : Type} (lo : Nat) (h : Heap) (args : List V) (kv : V → Heap → Option β) : callK (orc vp) vp lo h 428 args kv = roK vp h 428 args kv := callK_ro fn428 rfl rfl lo h args kv
theorem fn429 : vp.fn 429 = some f429 := rfl
@[simp] theorem ro429 : isRO vp 429 = true := nr rfl
@[simp] theorem call429 {β : Type} (lo : Nat) (h : Heap) (args : List V) (kv : V → Heap → Option β) : callK (orc vp) vp lo h 429 args kv = roK vp h 429 args kv := callK_ro fn429 rfl rfl lo h args kv
theorem fn430 : vp.fn 430 = some f430 := rfl
@[simp] theorem ro430 : isRO vp 430 = true := nr rfl
@[simp] theorem call430 {β : Type} (lo : Nat) (h : Heap) (args : List V) (kv : V → Heap → Option β) : callK (orc vp) vp lo h 430 args kv = roK vp h 430 args kv := callK_ro fn430 rfl rfl lo h args kv
theorem fn432 : vp.fn 432 = some f432 := rfl
@[simp] theorem ro432 : isRO vp 432 = true := nr rfl
@[simp] theorem call432 {β : Type} (lo : Nat) (h : Heap) (args : List V) (kv : V → Heap → Option β) : callK (orc vp) vp lo h 432 args kv = roK vp h 432 args kv := callK_ro fn432 rfl rfl lo h args kv
theorem fn433 : vp.fn 433 = some f433 := rfl
@[simp] theorem ro433 : isRO vp 433 = true := nr rfl
@[simp] theorem call433 {β : Type} (lo : Nat) (h : Heap) (args : List V) (kv : V → Heap → Option β) : callK (orc vp) vp lo h 433 args kv = roK vp h 433 args kv := callK_ro fn433 rfl rfl lo h args kv
theorem fn481 : vp.fn 481 = some f481 := rfl
theorem lp481_0 (lo : Nat) (ks : List Nat) (fr : Fr) (h : Heap) : (orc vp).loop lo ks L481_0 fr h = execK (orc vp) vp lo l481_0 fr h (loopK vp lo ks L481_0 h) := loop_K ..
@[simp] theorem ro481 : isRO vp 481 = true := nr rfl
@[simp] theorem call481 {β : Type} (lo : Nat) (h : Heap) (args : List V) (kv : V → Heap → Option β) : callK (orc vp) vp lo h 481 args kv = roK vp h 481 args kv := callK_ro fn481 rfl rfl lo h args kv
theorem fn489 : vp.fn 489 = some f489 := rfl
@[simp] theorem ro489 : isRO vp 489 = true := nr rfl
@[simp] theorem call489 {β : Type} (lo : Nat) (h : Heap) (args : List V) (kv : V → Heap → Option β) : callK (orc vp) vp lo h 489 args kv = roK vp h 489 args kv := callK_ro fn489 rfl rfl lo h args kv
theorem fn490 : vp.fn 490 = some f490 := rfl
theorem lp490_0 (lo : Nat) (ks : List Nat) (fr : Fr) (h : Heap) : (orc vp).loop lo ks L490_0 fr h = execK (orc vp) vp lo l490_0 fr h (loopK vp lo ks L490_0 h) := loop_K ..
@[simp] theorem ro490 : isRO vp 490 = true := nr rfl
@[simp] theorem call490 {β : Type} (lo : Nat) (h : Heap) (args : List V) (kv : V → Heap → Option β) : callK (orc vp) vp lo h 490 args kv = roK vp h 490 args kv := callK_ro fn490 rfl rfl lo h args kv
theorem fn491 : vp.fn 491 = some f491 := rfl
@[simp] theorem ro491 : isRO vp 491 = true := nr rfl
@[simp] theorem call491 {β : Type} (lo : Nat) (h : Heap) (args : List V) (kv : V → Heap → Option β) : callK (orc vp) vp lo h 491 args kv = roK vp h 491 args kv := callK_ro fn491 rfl rfl lo h args kv
theorem fn493 : vp.fn 493 = some f493 := rfl
@[simp] theorem ro493 : isRO vp 493 = true := nr rfl
@[simp] theorem call493 {β : Type} (lo : Nat) (h : Heap) (args : List V) (kv : V → Heap → Option β) : callK (orc vp) vp lo h 493 args kv = roK vp h 493 args kv := callK_ro fn493 rfl rfl lo h args kv
theorem fn494 : vp.fn 494 = some f494 := rfl
@[simp] theorem ro494 : isRO vp 494 = true := nr rfl
@[simp] theorem call494 {β : Type} (lo : Nat) (h : Heap) (args : List V) (kv : V → Heap → Option β) : callK (orc vp) vp lo h 494 args kv = roK vp h 494 args kv := callK_ro fn494 rfl rfl lo h args kv
theorem fn501 : vp.fn 501 = some f501 := rfl
theorem lp501_0 (lo : Nat) (ks : List Nat) (fr : Fr) (h : Heap) : (orc vp).loop lo ks L501_0 fr h = execK (orc vp) vp lo l501_0 fr h (loopK vp lo ks L501_0 h) := loop_K ..
@[simp] theorem ro501 : isRO vp 501 = true := nr rfl
@[simp] theorem call501 {β : Type} (lo : Nat) (h : Heap) (args : List V) (kv : V → Heap → Option β) : callK (orc vp) vp lo h 501 args kv = roK vp h 501 args kv := callK_ro fn501 rfl rfl lo h args kv
theorem fn507 : vp.fn 507 = some f507 := rfl
theorem lp507_0 (lo : Nat) (ks : List Nat) (fr : Fr) (h : Heap) : (orc vp).loop lo ks L507_0 fr h = execK (orc vp) vp lo l507_0 fr h (loopK vp lo ks L507_0 h) := loop_K ..
@[simp] theorem ro507 : isRO vp 507 = true := nr rfl
@[simp] theorem call507 {β : Type} (lo : Nat) (h : Heap) (args : List V) (kv : V → Heap → Option β) : callK (orc vp) vp lo h 507 args kv = roK vp h 507 args kv := callK_ro fn507 rfl rfl lo h args kv
theorem fn508 : vp.fn 508 = some f508 := rfl
@[simp] theorem ro508 : isRO vp 508 = true := nr rfl
@[simp] theorem call508 {β : Type} (lo : Nat) (h : Heap) (args : List V) (kv : V → Heap → Option β) : callK (orc vp) vp lo h 508 args kv = roK vp h 508 args kv := callK_ro fn508 rfl rfl lo h args kv
theorem fn509 : vp.fn 509 = some f509 := rfl
@[simp] theorem ro509 : isRO vp 509 = true := nr rfl
@[simp] theorem call509 {β : Type} (lo : Nat) (h : Heap) (args : List V) (kv : V → Heap → Option β) : callK (orc vp) vp lo h 509 args kv = roK vp h 509 args kv := callK_ro fn509 rfl rfl lo h args kv
theorem fn510 : vp.fn 510 = some f510 := rfl
@[simp] theorem ro510 : isRO vp 510 = true := nr rfl
@[simp] theorem call510 {β : Type} (lo : Nat) (h : Heap) (args : List V) (kv : V → Heap → Option β) : callK (orc vp) vp lo h 510 args kv = roK vp h 510 args kv := callK_ro fn510 rfl rfl lo h args kv
theorem fn520 : vp.fn 520 = some f520 := rfl
theorem lp520_0 (lo : Nat) (ks : List Nat) (fr : Fr) (h : Heap) : (orc vp).loop lo ks L520_0 fr h = execK (orc vp) vp lo l520_0 fr h (loopK vp lo ks L520_0 h) := loop_K ..
@[simp] theorem ro520 : isRO vp 520 = true := nr rfl
@[simp] theorem call520 {β : Type} (lo : Nat) (h : Heap) (args : List V) (kv : V → Heap → Option β) : callK (orc vp) vp lo h 520 args kv = roK vp h 520 args kv := callK_ro fn520 rfl rfl lo h args kv
theorem fn521 : vp.fn 521 = some f521 := rfl
@[simp] theorem ro521 : isRO vp 521 = true := nr rfl
@[simp] theorem call521 {β : Type} (lo : Nat) (h : Heap) (args : List V) (kv : V → Heap → Option β) : callK (orc vp) vp lo h 521 args kv = roK vp h 521 args kv := callK_ro fn521 rfl rfl lo h args kv
theorem fn522 : vp.fn 522 = some f522 := rfl
@[simp] theorem ro522 : isRO vp 522 = true := nr rfl
@[simp] theorem call522 {β : Type} (lo : Nat) (h : Heap) (args : List V) (kv : V → Heap → Option β) : callK (orc vp) vp lo h 522 args kv = roK vp h 522 args kv := callK_ro fn522 rfl rfl lo h args kv
theorem fn554 : vp.fn 554 = some f554 := rfl
@[simp] theorem ro554 : isRO vp 554 = true := nr rfl
@[simp] theorem call554 {β : Type} (lo : Nat) (h : Heap) (args : List V) (kv : V → Heap → Option β) : callK (orc vp) vp lo h 554 args kv = roK vp h 554 args kv := callK_ro fn554 rfl rfl lo h args kv
theorem fn556 : vp.fn 556 = some f556 := rfl
@[simp] theorem ro556 : isRO vp 556 = true := nr rfl
@[simp] theorem call556 {β : Type} (lo : Nat) (h : Heap) (args : List V) (kv : V → Heap → Option β) : callK (orc vp) vp lo h 556 args kv = roK vp h 556 args kv := callK_ro fn556 rfl rfl lo h args kv
theorem fn557 : vp.fn 557 = some f557 := rfl
@[simp] theorem ro557 : isRO vp 557 = true := nr rfl
@[simp] theorem call557 {β : Type} (lo : Nat) (h : Heap) (args : List V) (kv : V → Heap → Option β) : callK (orc vp) vp lo h 557 args kv = roK vp h 557 args kv := callK_ro fn557 rfl rfl lo h args kv
theorem fn558 : vp.fn 558 = some f558 := rfl
@[simp] theorem ro558 : isRO vp 558 = true := nr rfl
@[simp] theorem call558 {β : Type} (lo : Nat) (h : Heap) (args : List V) (kv : V → Heap → Option β) : callK (orc vp) vp lo h 558 args kv = roK vp h 558 args kv := callK_ro fn558 rfl rfl lo h args kv
theorem fn559 : vp.fn 559 = some f559 := rfl
@[simp] theorem ro559 : isRO vp 559 = true := nr rfl
@[simp] theorem call559 {β : Type} (lo : Nat) (h : Heap) (args : List V) (kv : V → Heap → Option β) : callK (orc vp) vp lo h 559 args kv = roK vp h 559 args kv := callK_ro fn559 rfl rfl lo h args kv
theorem fn561 : vp.fn 561 = some f561 := rfl
@[simp] theorem ro561 : isRO vp 561 = true := nr rfl
@[simp] theorem call561 {β : Type} (lo : Nat) (h : Heap) (args : List V) (kv : V → Heap → Option β) : callK (orc vp) vp lo h 561 args kv = roK vp h 561 args kv := callK_ro fn561 rfl rfl lo h args kv
theorem fn562 : vp.fn 562 = some f562 := rfl
theorem lp562_0 (lo : Nat) (ks : List Nat) (fr : Fr) (h : Heap) : (orc vp).loop lo ks L562_0 fr h = execK (orc vp) vp lo l562_0 fr h (loopK vp lo ks L562_0 h) := loop_K ..
@[simp] theorem ro562 : isRO vp 562 = true := nr rfl
@[simp] theorem call562 {β : Type} (lo : Nat) (h : Heap) (args : List V) (kv : V → Heap → Option β) : callK (orc vp) vp lo h 562 args kv = roK vp h 562 args kv := callK_ro fn562 rfl rfl lo h args kv
theorem fn564 : vp.fn 564 = some f564 := rfl
@[simp] theorem ro564 : isRO vp 564 = true := nr rfl
@[simp] theorem call564 {β : Type} (lo : Nat) (h : Heap) (args : List V) (kv : V → Heap → Option β) : callK (orc vp) vp lo h 564 args kv = roK vp h 564 args kv := callK_ro fn564 rfl rfl lo h args kv
theorem fn638 : vp.fn 638 = some f638 := rfl
@[simp] theorem ro638 : isRO vp 638 = true := nr rfl
@[simp] theorem call638 {β : Type} (lo : Nat) (h : Heap) (args : List V) (kv : V → Heap → Option β) : callK (orc vp) vp lo h 638 args kv = roK vp h 638 args kv := callK_ro fn638 rfl rfl lo h args kv
theorem fn639 : vp.fn 639 = some f639 := rfl
@[simp] theorem ro639 : isRO vp 639 = true := nr rfl
@[simp] theorem call639 {β : Type} (lo : Nat) (h : Heap) (args : List V) (kv : V → Heap → Option β) : callK (orc vp) vp lo h 639 args kv = roK vp h 639 args kv := callK_ro fn639 rfl rfl lo h args kv
theorem fn640 : vp.fn 640 = some f640 := rfl
theorem lp640_0 (lo : Nat) (ks : List Nat) (fr : Fr) (h : Heap) : (orc vp).loop lo ks L640_0 fr h = execK (orc vp) vp lo l640_0 fr h (loopK vp lo ks L640_0 h) := loop_K ..
@[simp] theorem ro640 : isRO vp 640 = true := nr rfl
@[simp] theorem call640 {β : Type} (lo : Nat) (h : Heap) (args : List V) (kv : V → Heap → Option β) : callK (orc vp) vp lo h 640 args kv = roK vp h 640 args kv := callK_ro fn640 rfl rfl lo h args kv
theorem fn641 : vp.fn 641 = some f641 := rfl
@[simp] theorem ro641 : isRO vp 641 = true := nr rfl
@[simp] theorem call641 {β : Type} (lo : Nat) (h : Heap) (args : List V) (kv : V → Heap → Option β) : callK (orc vp) vp lo h 641 args kv = roK vp h 641 args kv := callK_ro fn641 rfl rfl lo h args kv
theorem fn643 : vp.fn 643 = some f643 := rfl
theorem lp643_0 (lo : Nat) (ks : List Nat) (fr : Fr) (h : Heap) : (orc vp).loop lo ks L643_0 fr h = execK (orc vp) vp lo l643_0 fr h (loopK vp lo ks L643_0 h) := loop_K ..
@[simp] theorem ro643 : isRO vp 643 = true := nr rfl
@[simp] theorem call643 {β : Type} (lo : Nat) (h : Heap) (args : List V) (kv : V → Heap → Option β) : callK (orc vp) vp lo h 643 args kv = roK vp h 643 args kv := callK_ro fn643 rfl rfl lo h args kv
theorem fn644 : vp.fn 644 = some f644 := rfl
@[simp] theorem ro644 : isRO vp 644 = true := nr rfl
@[simp] theorem call644 {β : Type} (lo : Nat) (h : Heap) (args : List V) (kv : V → Heap → Option β) : callK (orc vp) vp lo h 644 args kv = roK vp h 644 args kv := callK_ro fn644 rfl rfl lo h args kv
theorem fn645 : vp.fn 645 = some f645 := rfl
theorem lp645_0 (lo : Nat) (ks : List Nat) (fr : Fr) (h : Heap) : (orc vp).loop lo ks L645_0 fr h = execK (orc vp) vp lo l645_0 fr h (loopK vp lo ks L645_0 h) := loop_K ..
@[simp] theorem ro645 : isRO vp 645 = true := nr rfl
@[simp] theorem call645 {β : Type} (lo : Nat) (h : Heap) (args : List V) (kv : V → Heap → Option β) : callK (orc vp) vp lo h 645 args kv = roK vp h 645 args kv := callK_ro fn645 rfl rfl lo h args kv
theorem fn647 : vp.fn 647 = some f647 := rfl
theorem lp647_0 (lo : Nat) (ks : List Nat) (fr : Fr) (h : Heap) : (orc vp).loop lo ks L647_0 fr h = execK (orc vp) vp lo l647_0 fr h (loopK vp lo ks L647_0 h) := loop_K ..
@[simp] theorem ro647 : isRO vp 647 = true := nr rfl
@[simp] theorem call647 {β : Type} (lo : Nat) (h : Heap) (args : List V) (kv : V → Heap → Option β) : callK (orc vp) vp lo h 647 args kv = roK vp h 647 args kv := callK_ro fn647 rfl rfl lo h args kv
theorem fn648 : vp.fn 648 = some f648 := rfl
theorem lp648_0 (lo : Nat) (ks : List Nat) (fr : Fr) (h : Heap) : (orc vp).loop lo ks L648_0 fr h = execK (orc vp) vp lo l648_0 fr h (loopK vp lo ks L648_0 h) := loop_K ..
@[simp] theorem ro648 : isRO vp 648 = true := nr rfl
@[simp] theorem call648 {β : Type} (lo : Nat) (h : Heap) (args : List V) (kv : V → Heap → Option β) : callK (orc vp) vp lo h 648 args kv = roK vp h 648 args kv := callK_ro fn648 rfl rfl lo h args kv
theorem fn649 : vp.fn 649 = some f649 := rfl
@[simp] theorem ro649 : isRO vp 649 = true := nr rfl
@[simp] theorem call649 {β : Type} (lo : Nat) (h : Heap) (args : List V) (kv : V → Heap → Option β) : callK (orc vp) vp lo h 649 args kv = roK vp h 649 args kv := callK_ro fn649 rfl rfl lo h args kv
theorem fn650 : vp.fn 650 = some f650 := rfl
@[simp] theorem ro650 : isRO vp 650 = true := nr rfl
@[simp] theorem call650 {β : Type} (lo : Nat) (h : Heap) (args : List V) (kv : V → Heap → Option β) : callK (orc vp) vp lo h 650 args kv = roK vp h 650 args kv := callK_ro fn650 rfl rfl lo h args kv
theorem fn651 : vp.fn 651 = some f651 := rfl
@[simp] theorem ro651 : isRO vp 651 = true := nr rfl
@[simp] theorem call651 {β : Type} (lo : Nat) (h : Heap) (args : List V) (kv : V → Heap → Option β) : callK (orc vp) vp lo h 651 args kv = roK vp h 651 args kv := callK_ro fn651 rfl rfl lo h args kv
theorem fn652 : vp.fn 652 = some f652 := rfl
@[simp] theorem ro652 : isRO vp 652 = true := nr rfl
@[simp] theorem call652 {β : Type} (lo : Nat) (h : Heap) (args : List V) (kv : V → Heap → Option β) : callK (orc vp) vp lo h 652 args kv = roK vp h 652 args kv := callK_ro fn652 rfl rfl lo h args kv
theorem fn655 : vp.fn 655 = some f655 := rfl
theorem lp655_0 (lo : Nat) (ks : List Nat) (fr : Fr) (h : Heap) : (orc vp).loop lo ks L655_0 fr h = execK (orc vp) vp lo l655_0 fr h (loopK vp lo ks L655_0 h) := loop_K ..
theorem lp655_1 (lo : Nat) (ks : List Nat) (fr : Fr) (h : Heap) : (orc vp).loop lo ks L655_1 fr h = execK (orc vp) vp lo l655_1 fr h (loopK vp lo ks L655_1 h) := loop_K ..
theorem lp655_2 (lo : Nat) (ks : List Nat) (fr : Fr) (h : Heap) : (orc vp).loop lo ks L655_2 fr h = execK (orc vp) vp lo l655_2 fr h (loopK vp lo ks L655_2 h) := loop_K ..
theorem lp655_3 (lo : Nat) (ks : List Nat) (fr : Fr) (h : Heap) : (orc vp).loop lo ks L655_3 fr h = execK (orc vp) vp lo l655_3 fr h (loopK vp lo ks L655_3 h) := loop_K ..
theorem lp655_4 (lo : Nat) (ks : List Nat) (fr : Fr) (h : Heap) : (orc vp).loop lo ks L655_4 fr h = execK (orc vp) vp lo l655_4 fr h (loopK vp lo ks L655_4 h) := loop_K ..
@[simp] theorem ro655 : isRO vp 655 = true := nr rfl
@[simp] theorem call655 {β : Type} (lo : Nat) (h : Heap) (args : List V) (kv : V → Heap → Option β) : callK (orc vp) vp lo h 655 args kv = roK vp h 655 args kv := callK_ro fn655 rfl rfl lo h args kv
theorem fn657 : vp.fn 657 = some f657 := rfl
theorem lp657_0 (lo : Nat) (ks : List Nat) (fr : Fr) (h : Heap) : (orc vp).loop lo ks L657_0 fr h = execK (orc vp) vp lo l657_0 fr h (loopK vp lo ks L657_0 h) := loop_K ..
@[simp] theorem ro657 : isRO vp 657 = true := nr rfl
@[simp] theorem call657 {β : Type} (lo : Nat) (h : Heap) (args : List V) (kv : V → Heap → Option β) : callK (orc vp) vp lo h 657 args kv = roK vp h 657 args kv := callK_ro fn657 rfl rfl lo h args kv
theorem fn658 : vp.fn 658 = some f658 := rfl
theorem lp658_0 (lo : Nat) (ks : List Nat) (fr : Fr) (h : Heap) : (orc vp).loop lo ks L658_0 fr h = execK (orc vp) vp lo l658_0 fr h (loopK vp lo ks L658_0 h) := loop_K ..
theorem lp658_1 (lo : Nat) (ks : List Nat) (fr : Fr) (h : Heap) : (orc vp).loop lo ks L658_1 fr h = execK (orc vp) vp lo l658_1 fr h (loopK vp lo ks L658_1 h) := loop_K ..
theorem lp658_2 (lo : Nat) (ks : List Nat) (fr : Fr) (h : Heap) : (orc vp).loop lo ks L658_2 fr h = execK (orc vp) vp lo l658_2 fr h (loopK vp lo ks L658_2 h) := loop_K ..
theorem lp658_3 (lo : Nat) (ks : List Nat) (fr : Fr) (h : Heap) : (orc vp).loop lo ks L658_3 fr h = execK (orc vp) vp lo l658_3 fr h (loopK vp lo ks L658_3 h) := loop_K ..
theorem lp658_4 (lo : Nat) (ks : List Nat) (fr : Fr) (h : Heap) : (orc vp).loop lo ks L658_4 fr h = execK (orc vp) vp lo l658_4 fr h (loopK vp lo ks L658_4 h) := loop_K ..
theorem lp658_5 (lo : Nat) (ks : List Nat) (fr : Fr) (h : Heap) : (orc vp).loop lo ks L658_5 fr h = execK (orc vp) vp lo l658_5 fr h (loopK vp lo ks L658_5 h) := loop_K ..
theorem lp658_6 (lo : Nat) (ks : List Nat) (fr : Fr) (h : Heap) : (orc vp).loop lo ks L658_6 fr h = execK (orc vp) vp lo l658_6 fr h (loopK vp lo ks L658_6 h) := loop_K ..
theorem lp658_7 (lo : Nat) (ks : List Nat) (fr : Fr) (h : Heap) : (orc vp).loop lo ks L658_7 fr h = execK (orc vp) vp lo l658_7 fr h (loopK vp lo ks L658_7 h) := loop_K ..
theorem lp658_8 (lo : Nat) (ks : List Nat) (fr : Fr) (h : Heap) : (orc vp).loop lo ks L658_8 fr h = execK (orc vp) vp lo l658_8 fr h (loopK vp lo ks L658_8 h) := loop_K ..
@[simp] theorem ro658 : isRO vp 658 = true := nr rfl
@[simp] theorem call658 {β : Type} (lo : Nat) (h : Heap) (args : List V) (kv : V → Heap → Option β) : callK (orc vp) vp lo h 658 args kv = roK vp h 658 args kv := callK_ro fn658 rfl rfl lo h args kv
theorem fn659 : vp.fn 659 = some f659 := rfl
@[simp] theorem ro659 : isRO vp 659 = true := nr rfl
@[simp] theorem call659 {β : Type} (lo : Nat) (h : Heap) (args : List V) (kv : V → Heap → Option β) : callK (orc vp) vp lo h 659 args kv = roK vp h 659 args kv := callK_ro fn659 rfl rfl lo h args kv
theorem fn836 : vp.fn 836 = some f836 := rfl
theorem lp836_0 (lo : Nat) (ks : List Nat) (fr : Fr) (h : Heap) : (orc vp).loop lo ks L836_0 fr h = execK (orc vp) vp lo l836_0 fr h (loopK vp lo ks L836_0 h) := loop_K ..
theorem lp836_1 (lo : Nat) (ks : List Nat) (fr : Fr) (h : Heap) : (orc vp).loop lo ks L836_1 fr h = execK (orc vp) vp lo l836_1 fr h (loopK vp lo ks L836_1 h) := loop_K ..
theorem lp836_2 (lo : Nat) (ks : List Nat) (fr : Fr) (h : Heap) : (orc vp).loop lo ks L836_2 fr h = execK (orc vp) vp lo l836_2 fr h (loopK vp lo ks L836_2 h) := loop_K ..
theorem lp836_3 (lo : Nat) (ks : List Nat) (fr : Fr) (h : Heap) : (orc vp).loop lo ks L836_3 fr h = execK (orc vp) vp lo l836_3 fr h (loopK vp lo ks L836_3 h) := loop_K ..
theorem lp836_4 (lo : Nat) (ks : List Nat) (fr : Fr) (h : Heap) : (orc vp).loop lo ks L836_4 fr h = execK (orc vp) vp lo l836_4 fr h (loopK vp lo ks L836_4 h) := loop_K ..
theorem lp836_5 (lo : Nat) (ks : List Nat) (fr : Fr) (h : Heap) : (orc vp).loop lo ks L836_5 fr h = execK (orc vp) vp lo l836_5 fr h (loopK vp lo ks L836_5 h) := loop_K ..
theorem lp836_6 (lo : Nat) (ks : List Nat) (fr : Fr) (h : Heap) : (orc vp).loop lo ks L836_6 fr h = execK (orc vp) vp lo l836_6 fr h (loopK vp lo ks L836_6 h) := loop_K ..
theorem lp836_7 (lo : Nat) (ks : List Nat) (fr : Fr) (h : Heap) : (orc vp).loop lo ks L836_7 fr h = execK (orc vp) vp lo l836_7 fr h (loopK vp lo ks L836_7 h) := loop_K ..
@[simp] theorem ro836 : isRO vp 836 = true := nr rfl
@[simp] theorem call836 {β : Type} (lo : Nat) (h : Heap) (args : List V) (kv : V → Heap → Option β) : callK (orc vp) vp lo h 836 args kv = roK vp h 836 args kv := callK_ro fn836 rfl rfl lo h args kv
theorem fn1082 : vp.fn 1082 = some f1082 := rfl
@[simp] theorem ro1082 : isRO vp 1082 = true := nr rfl
@[simp] theorem call1082 {β : Type} (lo : Nat) (h : Heap) (args : List V) (kv : V → Heap → Option β) : callK (orc vp) vp lo h 1082 args kv = roK vp h 1082 args kv := callK_ro fn1082 rfl rfl lo h args kv
theorem fn1085 : vp.fn 1085 = some f1085 := rfl
@[simp] theorem ro1085 : isRO vp 1085 = true := nr rfl
@[simp] theorem call1085 {β : Type} (lo : Nat) (h : Heap) (args : List V) (kv : V → Heap → Option β) : callK (orc vp) vp lo h 1085 args kv = roK vp h 1085 args kv := callK_ro fn1085 rfl rfl lo h args kv
theorem fn1090 : vp.fn 1090 = some f1090 := rfl
@[simp] theorem ro1090 : isRO vp 1090 = true := nr rfl
@[simp] theorem call1090 {β : Type} (lo : Nat) (h : Heap) (args : List V) (kv : V → Heap → Option β) : callK (orc vp) vp lo h 1090 args kv = roK vp h 1090 args kv := callK_ro fn1090 rfl rfl lo h args kv
theorem fn1108 : vp.fn 1108 = some f1108 := rfl
@[simp] theorem ro1108 : isRO vp 1108 = true := nr rfl
@[simp] theorem call1108 {β : Type} (lo : Nat) (h : Heap) (args : List V) (kv : V → Heap → Option β) : callK (orc vp) vp lo h 1108 args kv = roK vp h 1108 args kv := callK_ro fn1108 rfl rfl lo h args kv
theorem fn1111 : vp.fn 1111 = some f1111 := rfl
@[simp] theorem ro1111 : isRO vp 1111 = true := nr rfl
@[simp] theorem call1111 {β : Type} (lo : Nat) (h : Heap) (args : List V) (kv : V → Heap → Option β) : callK (orc vp) vp lo h 1111 args kv = roK vp h 1111 args kv := callK_ro fn1111 rfl rfl lo h args kv
theorem fn1113 : vp.fn 1113 = some f1113 := rfl
@[simp] theorem ro1113 : isRO vp 1113 = true := nr rfl
@[simp] theorem call1113 {β : Type} (lo : Nat) (h : Heap) (args : List V) (kv : V → Heap → Option β) : callK (orc vp) vp lo h 1113 args kv = roK vp h 1113 args kv := callK_ro fn1113 rfl rfl lo h args kv
theorem fn1114 : vp.fn 1114 = some f1114 := rfl
@[simp] theorem ro1114 : isRO vp 1114 = true := nr rfl
@[simp] theorem call1114 {β : Type} (lo : Nat) (h : Heap) (args : List V) (kv : V → Heap → Option β) : callK (orc vp) vp lo h 1114 args kv = roK vp h 1114 args kv := callK_ro fn1114 rfl rfl lo h args kv
theorem fn1130 : vp.fn 1130 = some f1130 := rfl
@[simp] theorem ro1130 : isRO vp 1130 = true := nr rfl
@[simp] theorem call1130 {β : Type} (lo : Nat) (h : Heap) (args : List V) (kv : V → Heap → Option β) : callK (orc vp) vp lo h 1130 args kv = roK vp h 1130 args kv := callK_ro fn1130 rfl rfl lo h args kv
theorem fn1134 : vp.fn 1134 = some f1134 := rfl
@[simp] theorem ro1134 : isRO vp 1134 = true := nr rfl
@[simp] theorem call1134 {β : Type} (lo : Nat) (h : Heap) (args : List V) (kv : V → Heap → Option β) : callK (orc vp) vp lo h 1134 args kv = roK vp h 1134 args kv := callK_ro fn1134 rfl rfl lo h args kv
theorem fn1136 : vp.fn 1136 = some f1136 := rfl
@[simp] theorem ro1136 : isRO vp 1136 = true := nr rfl
@[simp] theorem call1136 {β : Type} (lo : Nat) (h : Heap) (args : List V) (kv : V → Heap → Option β) : callK (orc vp) vp lo h 1136 args kv = roK vp h 1136 args kv := callK_ro fn1136 rfl rfl lo h args kv
theorem fn1137 : vp.fn 1137 = some f1137 := rfl
@[simp] theorem ro1137 : isRO vp 1137 = true := nr rfl
@[simp] theorem call1137 {β : Type} (lo : Nat) (h : Heap) (args : List V) (kv : V → Heap → Option β) : callK (orc vp) vp lo h 1137 args kv = roK vp h 1137 args kv := callK_ro fn1137 rfl rfl lo h args kv
theorem fn1140 : vp.fn 1140 = some f1140 := rfl
@[simp] theorem ro1140 : isRO vp 1140 = true := nr rfl
@[simp] theorem call1140 {β : Type} (lo : Nat) (h : Heap) (args : List V) (kv : V → Heap → Option β) : callK (orc vp) vp lo h 1140 args kv = roK vp h 1140 args kv := callK_ro fn1140 rfl rfl lo h args kv
theorem fn1141 : vp.fn 1141 = some f1141 := rfl
@[simp] theorem ro1141 : isRO vp 1141 = true := nr rfl
@[simp] theorem call1141 {β : Type} (lo : Nat) (h : Heap) (args : List V) (kv : V → Heap → Option β) : callK (orc vp) vp lo h 1141 args kv = roK vp h 1141 args kv := callK_ro fn1141 rfl rfl lo h args kv
theorem fn1142 : vp.fn 1142 = some f1142 := rfl
@[simp] theorem ro1142 : isRO vp 1142 = true := nr rfl
@[simp] theorem call1142 {β : Type} (lo : Nat) (h : Heap) (args : List V) (kv : V → Heap → Option β) : callK (orc vp) vp lo h 1142 args kv = roK vp h 1142 args kv := callK_ro fn1142 rfl rfl lo h args kv
theorem fn1169 : vp.fn 1169 = some f1169 := rfl
@[simp] theorem ro1169 : isRO vp 1169 = true := nr rfl
@[simp] theorem call1169 {β : Type} (lo : Nat) (h : Heap) (args : List V) (kv : V → Heap → Option β) : callK (orc vp) vp lo h 1169 args kv = roK vp h 1169 args kv := callK_ro fn1169 rfl rfl lo h args kv
theorem fn1203 : vp.fn 1203 = some f1203 := rfl
theorem lp1203_0 (lo : Nat) (ks : List Nat) (fr : Fr) (h : Heap) : (orc vp).loop lo ks L1203_0 fr h = execK (orc vp) vp lo l1203_0 fr h (loopK vp lo ks L1203_0 h) := loop_K ..
@[simp] theorem ro1203 : isRO vp 1203 = true := nr rfl
@[simp] theorem call1203 {β : Type} (lo : Nat) (h : Heap) (args : List V) (kv : V → Heap → Option β) : callK (orc vp) vp lo h 1203 args kv = roK vp h 1203 args kv := callK_ro fn1203 rfl rfl lo h args kv
theorem fn1204 : vp.fn 1204 = some f1204 := rfl
theorem lp1204_0 (lo : Nat) (ks : List Nat) (fr : Fr) (h : Heap) : (orc vp).loop lo ks L1204_0 fr h = execK (orc vp) vp lo l1204_0 fr h (loopK vp lo ks L1204_0 h) := loop_K ..
@[simp] theorem ro1204 : isRO vp 1204 = true := nr rfl
@[simp] theorem call1204 {β : Type} (lo : Nat) (h : Heap) (args : List V) (kv : V → Heap → Option β) : callK (orc vp) vp lo h 1204 args kv = roK vp h 1204 args kv := callK_ro fn1204 rfl rfl lo h args kv
theorem fn374 : vp.fn 374 = some x374 := rfl
@[simp] theorem call374 {β : Type} (lo : Nat) (h : Heap) (args : List V) (kv : V → Heap → Option β) : callK (orc vp) vp lo h 374 args kv = (optL (viewV h) args).bind fun us => optK (p374 us) h kv := callK_ext fn374 rfl lo h args kv
theorem fn378 : vp.fn 378 = some x378 := rfl
@[simp] theorem call378 {β : Type} (lo : Nat) (h : Heap) (args : List V) (kv : V → Heap → Option β) : callK (orc vp) vp lo h 378 args kv = (optL (viewV h) args).bind fun us => optK (p378 us) h kv := callK_ext fn378 rfl lo h args kv
theorem fn560 : vp.fn 560 = some x560 := rfl
@[simp] theorem call560 {β : Type} (lo : Nat) (h : Heap) (args : List V) (kv : V → Heap → Option β) : callK (orc vp) vp lo h 560 args kv = (optL (viewV h) args).bind fun us => optK (p560 us) h kv := callK_ext fn560 rfl lo h args kv
theorem fn1234 : vp.fn 1234 = some x1234 := rfl
@[simp] theorem call1234 {β : Type} (lo : Nat) (h : Heap) (args : List V) (kv : V → Heap → Option β) : callK (orc vp) vp lo h 1234 args kv = (optL (viewV h) args).bind fun us => optK (p1234 us) h kv := callK_ext fn1234 rfl lo h args kv
end Go.VE.Un
