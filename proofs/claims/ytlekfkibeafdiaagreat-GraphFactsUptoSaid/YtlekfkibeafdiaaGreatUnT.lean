/- The table of functions: printed by a program. -/
import Derived.Test.YtlekfkibeafdiaaGreatUnF0
namespace Go.VE.Un
set_option maxRecDepth 100000
def fns:WM Zi:=(T3 (T3 (T3 (T3 (T3 (T3 (T2 (T1 109 f109) 110 f110) 111 f111 (T2 (T1 112 f112) 113 f113)) 114 f114 (T3 (T2 (T1 115 f115) 116 f116) 117 f117 (T2 (T1 118 f118) 119 f119))) 120 f120 (T3 (T3 (T2 (T1 121 f121) 122 f122) 123 f123 (T2 (T1 124 f124) 125 f125)) 126 f126 (T3 (T2 (T1 127 f127) 128 f128) 129 f129 (T1 130 f130)))) 131 f131 (T3 (T3 (T3 (T2 (T1 132 f132) 133 f133) 134 f134 (T2 (T1 135 f135) 136 f136)) 137 f137 (T3 (T2 (T1 138 f138) 139 f139) 140 f140 (T1 141 f141))) 142 f142 (T3 (T3 (T2 (T1 323 f323) 324 f324) 326 f326 (T2 (T1 329 f329) 374 x374)) 378 x378 (T3 (T2 (T1 422 f422) 424 f424) 425 f425 (T1 427 f427))))) 428 f428 (T3 (T3 (T3 (T3 (T2 (T1 429 f429) 430 f430) 432 f432 (T2 (T1 433 f433) 460 f460)) 465 f465 (T3 (T2 (T1 468 f468) 472 f472) 473 f473 (T1 474 f474))) 475 f475 (T3 (T3 (T2 (T1 476 f476) 477 f477) 478 f478 (T2 (T1 479 f479) 481 f481)) 489 f489 (T3 (T2 (T1 490 f490) 491 f491) 493 f493 (T1 494 f494)))) 501 f501 (T3 (T3 (T3 (T2 (T1 507 f507) 508 f508) 509 f509 (T2 (T1 510 f510) 520 f520)) 521 f521 (T3 (T2 (T1 522 f522) 554 f554) 556 f556 (T1 557 f557))) 558 f558 (T3 (T3 (T2 (T1 559 f559) 560 x560) 561 f561 (T2 (T1 562 f562) 564 f564)) 636 f636 (T3 (T2 (T1 637 f637) 638 f638) 639 f639 (T1 640 f640)))))) 641 f641 (T3 (T3 (T3 (T3 (T3 (T2 (T1 642 f642) 643 f643) 644 f644 (T2 (T1 645 f645) 647 f647)) 648 f648 (T3 (T2 (T1 649 f649) 650 f650) 651 f651 (T2 (T1 652 f652) 703 f703))) 707 f707 (T3 (T3 (T2 (T1 708 f708) 709 f709) 772 f772 (T2 (T1 773 f773) 777 f777)) 783 f783 (T3 (T2 (T1 785 f785) 787 f787) 790 f790 (T1 801 f801)))) 802 f802 (T3 (T3 (T3 (T2 (T1 803 f803) 804 f804) 805 f805 (T2 (T1 806 f806) 807 f807)) 808 f808 (T3 (T2 (T1 818 f818) 819 f819) 820 f820 (T1 821 f821))) 822 f822 (T3 (T3 (T2 (T1 823 f823) 826 f826) 827 f827 (T2 (T1 828 f828) 829 f829)) 830 f830 (T3 (T2 (T1 831 f831) 832 f832) 833 f833 (T1 834 f834))))) 835 f835 (T3 (T3 (T3 (T3 (T2 (T1 836 f836) 837 f837) 838 f838 (T2 (T1 839 f839) 840 f840)) 841 f841 (T3 (T2 (T1 842 f842) 843 f843) 844 f844 (T1 845 f845))) 846 f846 (T3 (T3 (T2 (T1 847 f847) 848 f848) 849 f849 (T2 (T1 902 f902) 905 f905)) 908 f908 (T3 (T2 (T1 909 f909) 910 f910) 912 f912 (T1 913 f913)))) 914 f914 (T3 (T3 (T3 (T2 (T1 1028 f1028) 1082 f1082) 1085 f1085 (T2 (T1 1090 f1090) 1108 f1108)) 1111 f1111 (T3 (T2 (T1 1113 f1113) 1114 f1114) 1130 f1130 (T1 1134 f1134))) 1136 f1136 (T3 (T3 (T2 (T1 1137 f1137) 1140 f1140) 1141 f1141 (T2 (T1 1142 f1142) 1149 f1149)) 1169 f1169 (T3 (T2 (T1 1198 f1198) 1203 f1203) 1204 f1204 (T1 1234 x1234)))))))
def vp:VP:=⟨true,fns.get,fun _ _=>none⟩
@[simp] theorem Zes:vp.gc=true:=nr rfl
variable {β : Type} (lo : Nat) (h : Zg) (args : List V) (kv : V → Zg → Option β) (ks : List Nat) (fr : Fr)
theorem roT:roB vp 417548126825372431904867097906730494223138710640695682836662293511942956421760534865355758246616202320065954885782747717108960365185503414785974538251462469893962005904952243414878401495288380505198915121481991220080922330545999500767571699704933830085745114120056106765562938570954765348427557556235725598701996249564008827366479438773653590488593466443914280960 1205=true:=by kernel_rfl
@[simp] theorem ZCt{f:Nat}(hf:417548126825372431904867097906730494223138710640695682836662293511942956421760534865355758246616202320065954885782747717108960365185503414785974538251462469893962005904952243414878401495288380505198915121481991220080922330545999500767571699704933830085745114120056106765562938570954765348427557556235725598701996249564008827366479438773653590488593466443914280960>>>f%2=1):YU (orc vp) vp lo h f args kv=roK vp h f args kv:=Zj9 roT hf ..
@[simp] theorem ZDq{f:Nat}(hf:417548126825372431904867097906730494223138710640695682836662293511942956421760534865355758246616202320065954885782747717108960365185503414785974538251462469893962005904952243414878401495288380505198915121481991220080922330545999500767571699704933830085745114120056106765562938570954765348427557556235725598701996249564008827366479438773653590488593466443914280960>>>f%2=1):U1 vp f=true:=ZmR roT hf
abbrev LP(L l:Zd):Prop:= ∀lo h ks fr,(orc vp).loop lo ks L fr h=Yx (orc vp) vp lo l fr h (Zbp vp lo ks L h)
theorem Zro:vp.fn 109=some f109:=rfl
theorem Zd9:LP ZfV Zb5:=Zw Zb5
theorem ZrJ:vp.fn 110=some f110:=rfl
theorem Zvr:vp.fn 111=some f111:=rfl
theorem KO:LP ZgU Zdk:=Zw Zdk
theorem Zys:vp.fn 112=some f112:=rfl
theorem Zjy:LP Zh1 ZdD:=Zw ZdD
theorem ZyD:vp.fn 113=some f113:=rfl
theorem Zyy:vp.fn 114=some f114:=rfl
theorem Zjj:LP ZhA Zdv:=Zw Zdv
theorem ZrK:vp.fn 115=some f115:=rfl
theorem Zrh:vp.fn 116=some f116:=rfl
theorem Zyk:vp.fn 117=some f117:=rfl
theorem Zrx:vp.fn 118=some f118:=rfl
theorem Zrk:vp.fn 119=some f119:=rfl
theorem Zwa:vp.fn 120=some f120:=rfl
theorem Zb7:LP Zgr ZcF:=Zw ZcF
theorem ZwR:vp.fn 121=some f121:=rfl
theorem V2:LP Zgj Zde:=Zw Zde
theorem ZrP:vp.fn 122=some f122:=rfl
theorem Zrj:vp.fn 123=some f123:=rfl
theorem ZrG:vp.fn 124=some f124:=rfl
theorem ZrR:vp.fn 125=some f125:=rfl
theorem Zxf:vp.fn 126=some f126:=rfl
theorem Zv3:vp.fn 127=some f127:=rfl
theorem Zzy:vp.fn 128=some f128:=rfl
theorem ZwB:vp.fn 129=some f129:=rfl
theorem ZrA:vp.fn 130=some f130:=rfl
theorem ZwU:vp.fn 131=some f131:=rfl
theorem Zrp:vp.fn 132=some f132:=rfl
theorem ZiT:LP ZhJ Zb3:=Zw Zb3
theorem VS:vp.fn 133=some f133:=rfl
theorem Zzf:vp.fn 134=some f134:=rfl
theorem Zq7:vp.fn 135=some f135:=rfl
theorem ZrI:vp.fn 136=some f136:=rfl
theorem Zri:vp.fn 137=some f137:=rfl
theorem Zce:LP Zh3 ZcL:=Zw ZcL
theorem Zd5:LP ZhS Zb6:=Zw Zb6
theorem Zrt:vp.fn 138=some f138:=rfl
theorem Zvb:vp.fn 139=some f139:=rfl
theorem Zrm:vp.fn 140=some f140:=rfl
theorem ZrB:vp.fn 141=some f141:=rfl
theorem Zrw:vp.fn 142=some f142:=rfl
theorem Zwi:vp.fn 323=some f323:=rfl
theorem ZyJ:vp.fn 324=some f324:=rfl
theorem Zzj:vp.fn 326=some f326:=rfl
theorem ZF3:vp.fn 329=some f329:=rfl
theorem Zzh:vp.fn 422=some f422:=rfl
theorem Zdq:LP Zg9 Zdc:=Zw Zdc
theorem Zru:vp.fn 424=some f424:=rfl
theorem Zre:vp.fn 425=some f425:=rfl
theorem Zwj:vp.fn 427=some f427:=rfl
theorem ZwG:vp.fn 428=some f428:=rfl
theorem Zyv:vp.fn 429=some f429:=rfl
theorem Zxg:vp.fn 430=some f430:=rfl
theorem YH:vp.fn 432=some f432:=rfl
theorem ZyI:vp.fn 433=some f433:=rfl
theorem ZFW:vp.fn 460=some f460:=rfl
theorem ZEY:LP ZEJ ZEp:=Zw ZEp
theorem Zyh:vp.fn 465=some f465:=rfl
theorem ZFb:vp.fn 468=some f468:=rfl
theorem ZDK:LP ZDA ZDC:=Zw ZDC
theorem ZF1:vp.fn 472=some f472:=rfl
theorem ZEo:LP ZEM ZDY:=Zw ZDY
theorem ZFX:vp.fn 473=some f473:=rfl
theorem ZEV:LP ZEE ZDU:=Zw ZDU
theorem ZFS:vp.fn 474=some f474:=rfl
theorem ZER:LP ZED ZD9:=Zw ZD9
theorem ZFU:vp.fn 475=some f475:=rfl
theorem ZFY:vp.fn 476=some f476:=rfl
theorem ZF7:vp.fn 477=some f477:=rfl
theorem ZEq:LP ZEG ZDW:=Zw ZDW
theorem ZEX:LP ZEL ZD7:=Zw ZD7
theorem ZEW:LP ZEC ZD8:=Zw ZD8
theorem ZE1:LP ZEQ ZD3:=Zw ZD3
theorem ZFI:vp.fn 478=some f478:=rfl
theorem ZEc:LP ZD4 ZDR:=Zw ZDR
theorem ZFJ:vp.fn 479=some f479:=rfl
theorem ZEa:LP ZEB ZDQ:=Zw ZDQ
theorem ZEm:LP ZEP ZDZ:=Zw ZDZ
@[simp] theorem ZGa:YU (orc vp) vp lo h 479 args kv=rwK vp lo h 479 args kv:=Jt ZFJ rfl rfl rfl lo h args kv
theorem ZyQ:vp.fn 481=some f481:=rfl
theorem Zji:LP Zgb ZcC:=Zw ZcC
theorem ZyS:vp.fn 489=some f489:=rfl
theorem Zwe:vp.fn 490=some f490:=rfl
theorem ZiL:LP ZgV Zca:=Zw Zca
theorem ZxV:vp.fn 491=some f491:=rfl
theorem ZxI:vp.fn 493=some f493:=rfl
theorem Zvv:vp.fn 494=some f494:=rfl
theorem ZwE:vp.fn 501=some f501:=rfl
theorem Zi4:LP Zhr Zc9:=Zw Zc9
theorem Zx6:vp.fn 507=some f507:=rfl
theorem Zix:LP ZgN ZdR:=Zw ZdR
theorem Zyt:vp.fn 508=some f508:=rfl
theorem ZxZ:vp.fn 509=some f509:=rfl
theorem Zyl:vp.fn 510=some f510:=rfl
theorem ZvG:vp.fn 520=some f520:=rfl
theorem Zjk:LP Zhb Zb4:=Zw Zb4
theorem ZyA:vp.fn 521=some f521:=rfl
theorem Zya:vp.fn 522=some f522:=rfl
theorem Zyr:vp.fn 554=some f554:=rfl
theorem Zyc:vp.fn 556=some f556:=rfl
theorem Zwc:vp.fn 558=some f558:=rfl
theorem ZvQ:vp.fn 559=some f559:=rfl
theorem ZwQ:vp.fn 561=some f561:=rfl
theorem ZxC:vp.fn 562=some f562:=rfl
theorem VX:LP ZgP ZdU:=Zw ZdU
theorem Zrr:vp.fn 564=some f564:=rfl
theorem ZF8:vp.fn 636=some f636:=rfl
theorem ZF9:vp.fn 637=some f637:=rfl
theorem Zu9:vp.fn 638=some f638:=rfl
theorem Zwv:vp.fn 639=some f639:=rfl
theorem ZwV:vp.fn 640=some f640:=rfl
theorem QJ:LP ZhG Zcd:=Zw Zcd
theorem ZyC:vp.fn 641=some f641:=rfl
theorem ZF0:vp.fn 642=some f642:=rfl
theorem ZvZ:vp.fn 643=some f643:=rfl
theorem Zia:LP Zga Zb2:=Zw Zb2
theorem Zzm:vp.fn 644=some f644:=rfl
theorem Zv0:vp.fn 645=some f645:=rfl
theorem ZiE:LP ZgR Zef:=Zw Zef
theorem Zyd:vp.fn 647=some f647:=rfl
theorem ZiG:LP ZgE Zd6:=Zw Zd6
theorem Zwo:vp.fn 648=some f648:=rfl
theorem JR:LP Zhv ZdG:=Zw ZdG
theorem Zxq:vp.fn 649=some f649:=rfl
theorem ZyF:vp.fn 650=some f650:=rfl
theorem ZyZ:vp.fn 651=some f651:=rfl
theorem Zy8:vp.fn 652=some f652:=rfl
theorem ZMj:vp.fn 703=some f703:=rfl
theorem ZLb:LP ZLA ZKD:=Zw ZKD
theorem ZLL:LP ZLF ZK2:=Zw ZK2
theorem ZK9:LP ZKA ZKE:=Zw ZKE
theorem ZFZ:vp.fn 708=some f708:=rfl
theorem Zvm:vp.fn 772=some f772:=rfl
theorem ZiY:LP ZhU ZcO:=Zw ZcO
theorem Zvf:vp.fn 773=some f773:=rfl
theorem Zjm:LP Zge ZdY:=Zw ZdY
theorem Zxi:vp.fn 777=some f777:=rfl
theorem Zju:LP Zgd ZcR:=Zw ZcR
theorem Zw5:vp.fn 783=some f783:=rfl
theorem Zi5:LP Zgx Zam:=Zw Zam
theorem Zxh:vp.fn 785=some f785:=rfl
theorem Zxo:vp.fn 787=some f787:=rfl
theorem Zjf:LP Zh0 ZaI:=Zw ZaI
theorem Zyg:vp.fn 790=some f790:=rfl
theorem Zja:LP Zf1 Zaz:=Zw Zaz
theorem ZcW:LP Zgw Zag:=Zw Zag
theorem Jr:LP Zgz ZaW:=Zw ZaW
theorem YD:vp.fn 801=some f801:=rfl
theorem ZwI:vp.fn 802=some f802:=rfl
theorem Zy9:vp.fn 803=some f803:=rfl
theorem Zi9:LP Zhe ZcQ:=Zw ZcQ
theorem ZyY:vp.fn 804=some f804:=rfl
theorem Zzd:vp.fn 805=some f805:=rfl
theorem Zir:LP ZgI Zdh:=Zw Zdh
theorem Zwn:vp.fn 806=some f806:=rfl
theorem Zdz:LP Zhn ZcV:=Zw ZcV
theorem ZrC:vp.fn 807=some f807:=rfl
theorem Zch:LP ZgG ZcP:=Zw ZcP
@[simp] theorem Zz7:YU (orc vp) vp lo h 807 args kv=Zg1 vp lo h 807 args kv:=Zj2 ZrC rfl rfl rfl lo h args kv
theorem ZxB:vp.fn 808=some f808:=rfl
theorem Zy1:vp.fn 818=some f818:=rfl
theorem Zvh:vp.fn 819=some f819:=rfl
theorem Zjo:LP Zhj ZcG:=Zw ZcG
theorem ZvX:vp.fn 820=some f820:=rfl
theorem Zi8:LP Zhg Zdu:=Zw Zdu
theorem Zjr:LP Zf7 Zd2:=Zw Zd2
theorem ZyB:vp.fn 821=some f821:=rfl
theorem ZiO:LP Zgi ZdA:=Zw ZdA
theorem ZjD:LP ZgW Zej:=Zw Zej
theorem Zvp:vp.fn 822=some f822:=rfl
theorem Zis:LP Zho Zcg:=Zw Zcg
theorem ZvY:vp.fn 823=some f823:=rfl
theorem Zif:LP Zgp ZdT:=Zw ZdT
theorem ZiM:LP ZhQ Zda:=Zw Zda
theorem ZvT:vp.fn 826=some f826:=rfl
theorem Zxz:vp.fn 828=some f828:=rfl
theorem Zje:LP Zh2 Zcq:=Zw Zcq
theorem ZxF:vp.fn 829=some f829:=rfl
theorem Zjv:LP Zhx ZcY:=Zw ZcY
theorem Ziu:LP ZgB ZdI:=Zw ZdI
theorem Zxm:vp.fn 830=some f830:=rfl
theorem Zxl:vp.fn 831=some f831:=rfl
theorem ZiD:LP Zhk Zd1:=Zw Zd1
theorem Zxe:vp.fn 832=some f832:=rfl
theorem ZxU:vp.fn 833=some f833:=rfl
theorem Zxw:vp.fn 834=some f834:=rfl
theorem Zwh:vp.fn 835=some f835:=rfl
theorem ZxO:vp.fn 836=some f836:=rfl
theorem Zdx:LP Zdp Zec:=Zw Zec
theorem ZdF:LP Zcl Zcp:=Zw Zcp
theorem Zcm:LP ZdM Zcy:=Zw Zcy
theorem Zdg:LP Zd3 ZdO:=Zw ZdO
theorem Zc3:LP Zcj Zcr:=Zw Zcr
theorem ZdW:LP Zc7 Zdf:=Zw Zdf
theorem Zct:LP ZdP ZdQ:=Zw ZdQ
theorem ZcA:LP ZdH ZdZ:=Zw ZdZ
theorem ZxQ:vp.fn 837=some f837:=rfl
theorem ZiI:LP ZfL ZdL:=Zw ZdL
theorem Zw8:vp.fn 838=some f838:=rfl
theorem ZwP:vp.fn 839=some f839:=rfl
theorem Zjn:LP Zg0 Zdl:=Zw Zdl
theorem Zw7:vp.fn 840=some f840:=rfl
theorem ZxM:vp.fn 841=some f841:=rfl
theorem Zzk:vp.fn 842=some f842:=rfl
theorem Zjt:LP ZfS ZcU:=Zw ZcU
theorem VT:vp.fn 843=some f843:=rfl
theorem KT:LP Zc2 Zea:=Zw Zea
theorem ZjC:LP Zhf ZcB:=Zw ZcB
theorem ZiC:LP ZgK ZcZ:=Zw ZcZ
theorem YI:vp.fn 844=some f844:=rfl
theorem ZwN:vp.fn 845=some f845:=rfl
theorem ZiV:LP Zhs ZcE:=Zw ZcE
theorem Zi1:LP ZhK ZdE:=Zw ZdE
theorem Zx5:vp.fn 846=some f846:=rfl
theorem ZiH:LP ZfU Zb1:=Zw Zb1
theorem Zx9:vp.fn 847=some f847:=rfl
theorem Zjb:LP Zgy ZcM:=Zw ZcM
theorem Ziw:LP Zgo Zdm:=Zw Zdm
theorem Kx:vp.fn 848=some f848:=rfl
theorem Zib:LP ZfX Zed:=Zw Zed
theorem ZxA:vp.fn 849=some f849:=rfl
theorem Zim:LP ZfO Zei:=Zw Zei
theorem ZHF:vp.fn 902=some f902:=rfl
theorem ZGW:LP ZGM ZGG:=Zw ZGG
theorem ZHJ:vp.fn 905=some f905:=rfl
theorem ZGY:LP ZGT ZGH:=Zw ZGH
theorem ZMi:vp.fn 908=some f908:=rfl
theorem ZLM:LP ZLJ ZK7:=Zw ZK7
theorem ZHG:vp.fn 909=some f909:=rfl
theorem ZGI:LP ZGL ZGq:=Zw ZGq
theorem ZHC:vp.fn 910=some f910:=rfl
theorem ZGx:LP ZGR ZGi:=Zw ZGi
theorem ZHI:vp.fn 912=some f912:=rfl
theorem ZGX:LP ZGO ZGt:=Zw ZGt
theorem ZMh:vp.fn 913=some f913:=rfl
theorem ZK8:LP ZLz ZKC:=Zw ZKC
theorem ZLR:LP ZLI ZK3:=Zw ZK3
theorem ZLO:LP ZLG ZK6:=Zw ZK6
theorem ZMg:vp.fn 914=some f914:=rfl
theorem ZLa:LP ZLt ZKy:=Zw ZKy
theorem ZLs:LP ZLE ZKO:=Zw ZKO
theorem ZLP:LP ZLB ZK5:=Zw ZK5
theorem ZLr:LP ZLH ZKN:=Zw ZKN
theorem ZJz:vp.fn 1028=some f1028:=rfl
theorem ZtW:vp.fn 1082=some f1082:=rfl
theorem ZsZ:vp.fn 1085=some f1085:=rfl
theorem ZtZ:vp.fn 1090=some f1090:=rfl
theorem ZtJ:vp.fn 1108=some f1108:=rfl
theorem Zs7:vp.fn 1111=some f1111:=rfl
theorem Ztr:vp.fn 1113=some f1113:=rfl
theorem ZsJ:vp.fn 1114=some f1114:=rfl
theorem Zr2:vp.fn 1130=some f1130:=rfl
theorem ZsB:vp.fn 1134=some f1134:=rfl
theorem ZsS:vp.fn 1136=some f1136:=rfl
theorem Zr8:vp.fn 1137=some f1137:=rfl
theorem Zti:vp.fn 1140=some f1140:=rfl
theorem Zth:vp.fn 1142=some f1142:=rfl
theorem ZFl:vp.fn 1149=some f1149:=rfl
@[simp] theorem ZFT:YU (orc vp) vp lo h 1149 args kv=Zg1 vp lo h 1149 args kv:=Zj2 ZFl rfl rfl rfl lo h args kv
theorem Zr3:vp.fn 1169=some f1169:=rfl
theorem Zr5:vp.fn 1198=some f1198:=rfl
theorem Zas:LP Zc5 UQ:=Zw UQ
theorem Ztu:vp.fn 1203=some f1203:=rfl
theorem Zfe:LP ZcK KW:=Zw KW
theorem Zr0:vp.fn 1204=some f1204:=rfl
theorem ZeC:LP ZdN KX:=Zw KX
theorem Zyo:vp.fn 374=some x374:=rfl
@[simp] theorem ZAi:YU (orc vp) vp lo h 374 args kv=(Y5 (X5 h) args).bind fun us=>YA (Zkv us) h kv:=QL Zyo rfl lo h args kv
theorem Zwg:vp.fn 378=some x378:=rfl
@[simp] theorem ZAo:YU (orc vp) vp lo h 378 args kv=(Y5 (X5 h) args).bind fun us=>YA (ZlG us) h kv:=QL Zwg rfl lo h args kv
theorem Zxt:vp.fn 560=some x560:=rfl
@[simp] theorem ZBc:YU (orc vp) vp lo h 560 args kv=(Y5 (X5 h) args).bind fun us=>YA (ZkM us) h kv:=QL Zxt rfl lo h args kv
theorem Zs4:vp.fn 1234=some x1234:=rfl
@[simp] theorem ZvB:YU (orc vp) vp lo h 1234 args kv=(Y5 (X5 h) args).bind fun us=>YA (ZfJ us) h kv:=QL Zs4 rfl lo h args kv
attribute [simp] Zb5 b109 f109 b110 f110 Zdk b111 f111 ZdD b112 f112 b113 f113 Zdv b114 f114 b115 f115 b116 f116 b117 f117 b118 f118 b119 f119 ZcF b120 f120 Zde b121 f121 b122 f122 b123 f123 b124 f124 b125 f125 b126 f126 b127 f127 b128 f128 b129 f129 b130 f130 b131 f131 Zb3 b132 f132 b133 f133 b134 f134 b135 f135 b136 f136 ZcL Zb6 b137 f137 b138 f138 b139 f139 b140 f140 b141 f141 b142 f142 b323 f323 b324 f324 b326 f326 b329 f329 Zdc b422 f422 b424 f424 b425 f425 b427 f427 b428 f428 b429 f429 b430 f430 b432 f432 b433 f433 ZEp b460 f460 b465 f465 ZDC b468 f468 ZDY b472 f472 ZDU b473 f473 ZD9 b474 f474 b475 f475 b476 f476 ZDW ZD7 ZD8 ZD3 b477 f477 ZDR b478 f478 ZDQ ZDZ b479 f479 ZcC b481 f481 b489 f489 Zca b490 f490 b491 f491 b493 f493 b494 f494 Zc9 b501 f501 ZdR b507 f507 b508 f508 b509 f509 b510 f510 Zb4 b520 f520 b521 f521 b522 f522 b554 f554 b556 f556 b557 f557 b558 f558 b559 f559 b561 f561 ZdU b562 f562 b564 f564 b636 f636 b637 f637 b638 f638 b639 f639 Zcd b640 f640 b641 f641 b642 f642 Zb2 b643 f643 b644 f644 Zef b645 f645 Zd6 b647 f647 ZdG b648 f648 b649 f649 b650 f650 b651 f651 b652 f652 ZKD ZK2 ZKE b703 f703 b707 f707 b708 f708 b709 f709 ZcO b772 f772 ZdY b773 f773 ZcR b777 f777 Zam b783 f783 b785 f785 ZaI b787 f787 Zaz Zag ZaW b790 f790 b801 f801 b802 f802 ZcQ b803 f803 b804 f804 Zdh b805 f805 ZcV b806 f806 ZcP b807 f807 b808 f808 b818 f818 ZcG b819 f819 Zdu Zd2 b820 f820 ZdA Zej b821 f821 Zcg b822 f822 ZdT Zda b823 f823 b826 f826 b827 f827 Zcq b828 f828 ZcY ZdI b829 f829 b830 f830 Zd1 b831 f831 b832 f832 b833 f833 b834 f834 b835 f835 Zec Zcp Zcy ZdO Zcr Zdf ZdQ ZdZ b836 f836 ZdL b837 f837 b838 f838 Zdl b839 f839 b840 f840 b841 f841 ZcU b842 f842 Zea ZcB ZcZ b843 f843 b844 f844 ZcE ZdE b845 f845 Zb1 b846 f846 ZcM Zdm b847 f847 Zed b848 f848 Zei b849 f849 ZGG b902 f902 ZGH b905 f905 ZK7 b908 f908 ZGq b909 f909 ZGi b910 f910 ZGt b912 f912 ZKC ZK3 ZK6 b913 f913 ZKy ZKO ZK5 ZKN b914 f914 b1028 f1028 b1082 f1082 b1085 f1085 b1090 f1090 b1108 f1108 b1111 f1111 b1113 f1113 b1114 f1114 b1130 f1130 b1134 f1134 b1136 f1136 b1137 f1137 b1140 f1140 b1141 f1141 b1142 f1142 b1149 f1149 b1169 f1169 UQ b1198 f1198 KW b1203 f1203 KX b1204 f1204
end Go.VE.Un
