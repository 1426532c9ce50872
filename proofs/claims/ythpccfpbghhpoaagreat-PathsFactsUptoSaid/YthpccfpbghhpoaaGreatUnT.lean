/- The table of functions: printed by a program. -/
import Derived.Test.YthpccfpbghhpoaaGreatUnF0
namespace Go.VE.Un
set_option maxRecDepth 100000
def fns:WM Zi:=(T3 (T3 (T3 (T3 (T3 (T3 (T3 (T1 107 f107) 109 f109 (T1 110 f110)) 111 f111 (T2 (T1 112 f112) 113 f113)) 114 f114 (T3 (T2 (T1 115 f115) 116 f116) 117 f117 (T2 (T1 118 f118) 119 f119))) 120 f120 (T3 (T3 (T2 (T1 121 f121) 122 f122) 123 f123 (T2 (T1 124 f124) 125 f125)) 126 f126 (T3 (T2 (T1 127 f127) 128 f128) 129 f129 (T2 (T1 130 f130) 131 f131)))) 132 f132 (T3 (T3 (T3 (T2 (T1 133 f133) 134 f134) 135 f135 (T2 (T1 136 f136) 137 f137)) 138 f138 (T3 (T2 (T1 139 f139) 140 f140) 141 f141 (T2 (T1 142 f142) 170 f170))) 171 f171 (T3 (T3 (T2 (T1 172 f172) 173 f173) 312 f312 (T2 (T1 313 f313) 314 f314)) 315 f315 (T3 (T2 (T1 316 f316) 317 f317) 318 f318 (T2 (T1 319 f319) 320 f320))))) 321 f321 (T3 (T3 (T3 (T3 (T3 (T1 322 f322) 323 f323 (T1 324 f324)) 326 f326 (T2 (T1 328 f328) 374 x374)) 378 x378 (T3 (T2 (T1 422 f422) 424 f424) 425 f425 (T2 (T1 427 f427) 428 f428))) 429 f429 (T3 (T3 (T2 (T1 430 f430) 432 f432) 433 f433 (T2 (T1 461 f461) 462 f462)) 465 f465 (T3 (T2 (T1 466 f466) 467 f467) 481 f481 (T2 (T1 482 f482) 489 f489)))) 490 f490 (T3 (T3 (T3 (T2 (T1 491 f491) 493 f493) 494 f494 (T2 (T1 501 f501) 507 f507)) 508 f508 (T3 (T2 (T1 509 f509) 510 f510) 520 f520 (T2 (T1 521 f521) 522 f522))) 554 f554 (T3 (T3 (T2 (T1 556 f556) 557 f557) 558 f558 (T2 (T1 559 f559) 560 x560)) 561 f561 (T3 (T2 (T1 562 f562) 564 f564) 620 f620 (T2 (T1 622 f622) 623 f623)))))) 624 f624 (T3 (T3 (T3 (T3 (T3 (T3 (T1 626 f626) 638 f638 (T1 639 f639)) 640 f640 (T2 (T1 641 f641) 643 f643)) 644 f644 (T3 (T2 (T1 645 f645) 647 f647) 648 f648 (T2 (T1 649 f649) 650 f650))) 651 f651 (T3 (T3 (T2 (T1 652 f652) 710 f710) 714 f714 (T2 (T1 715 f715) 716 f716)) 772 f772 (T3 (T2 (T1 773 f773) 777 f777) 783 f783 (T2 (T1 785 f785) 787 f787)))) 790 f790 (T3 (T3 (T3 (T2 (T1 801 f801) 802 f802) 803 f803 (T2 (T1 804 f804) 805 f805)) 806 f806 (T3 (T2 (T1 807 f807) 808 f808) 818 f818 (T2 (T1 819 f819) 820 f820))) 821 f821 (T3 (T3 (T2 (T1 822 f822) 823 f823) 826 f826 (T2 (T1 827 f827) 828 f828)) 829 f829 (T3 (T2 (T1 830 f830) 831 f831) 832 f832 (T2 (T1 833 f833) 834 f834))))) 835 f835 (T3 (T3 (T3 (T3 (T3 (T1 836 f836) 837 f837 (T1 838 f838)) 839 f839 (T2 (T1 840 f840) 841 f841)) 842 f842 (T3 (T2 (T1 843 f843) 844 f844) 845 f845 (T2 (T1 846 f846) 847 f847))) 848 f848 (T3 (T3 (T2 (T1 849 f849) 899 f899) 902 f902 (T2 (T1 903 f903) 904 f904)) 905 f905 (T3 (T2 (T1 906 f906) 907 f907) 916 f916 (T2 (T1 917 f917) 918 f918)))) 919 f919 (T3 (T3 (T3 (T2 (T1 920 f920) 921 f921) 922 f922 (T2 (T1 1028 f1028) 1082 f1082)) 1085 f1085 (T3 (T2 (T1 1090 f1090) 1108 f1108) 1111 f1111 (T2 (T1 1113 f1113) 1114 f1114))) 1130 f1130 (T3 (T3 (T2 (T1 1134 f1134) 1136 f1136) 1137 f1137 (T2 (T1 1140 f1140) 1141 f1141)) 1142 f1142 (T3 (T2 (T1 1169 f1169) 1198 f1198) 1203 f1203 (T2 (T1 1204 f1204) 1234 x1234)))))))
def mt:WM Nat:=(T3 (T3 (T2 (T1 275 312) 276 313) 277 314 (T2 (T1 278 315) 279 316)) 280 317 (T3 (T2 (T1 281 318) 282 319) 283 320 (T2 (T1 285 321) 286 322)))
def vp:VP:=⟨true,fns.get,fun t m=>if m=0 then mt.get t else none⟩
@[simp] theorem ZB1:vp.meth 275 0=some 312:=nr rfl
@[simp] theorem ZCl:vp.meth 276 0=some 313:=nr rfl
@[simp] theorem ZCw:vp.meth 277 0=some 314:=nr rfl
@[simp] theorem ZBA:vp.meth 278 0=some 315:=nr rfl
@[simp] theorem ZCo:vp.meth 279 0=some 316:=nr rfl
@[simp] theorem ZCB:vp.meth 280 0=some 317:=nr rfl
@[simp] theorem ZBS:vp.meth 281 0=some 318:=nr rfl
@[simp] theorem ZCC:vp.meth 282 0=some 319:=nr rfl
@[simp] theorem ZCO:vp.meth 283 0=some 320:=nr rfl
@[simp] theorem ZCi:vp.meth 285 0=some 321:=nr rfl
@[simp] theorem ZCP:vp.meth 286 0=some 322:=nr rfl
@[simp] theorem Zes:vp.gc=true:=nr rfl
variable {β : Type} (lo : Nat) (h : Zg) (args : List V) (kv : V → Zg → Option β) (ks : List Nat) (fr : Fr)
theorem roT:roB vp 417548126825372431904867097906730494223138710640695682836662293511942956421760534865425855107912488041325942389793634427016102074259292797884855254101028512361056000394792777758711511448709595298042063128201383919379670648585903581997729483179721623175489128485986967484998476069371726151850731685146649676147177970607687284900966971175401519575523076147714719744 1205=true:=by kernel_rfl
@[simp] theorem ZCt{f:Nat}(hf:417548126825372431904867097906730494223138710640695682836662293511942956421760534865425855107912488041325942389793634427016102074259292797884855254101028512361056000394792777758711511448709595298042063128201383919379670648585903581997729483179721623175489128485986967484998476069371726151850731685146649676147177970607687284900966971175401519575523076147714719744>>>f%2=1):YU (orc vp) vp lo h f args kv=roK vp h f args kv:=Zj9 roT hf ..
@[simp] theorem ZDq{f:Nat}(hf:417548126825372431904867097906730494223138710640695682836662293511942956421760534865425855107912488041325942389793634427016102074259292797884855254101028512361056000394792777758711511448709595298042063128201383919379670648585903581997729483179721623175489128485986967484998476069371726151850731685146649676147177970607687284900966971175401519575523076147714719744>>>f%2=1):U1 vp f=true:=ZmR roT hf
abbrev LP(L l:Zd):Prop:= ∀lo h ks fr,(orc vp).loop lo ks L fr h=Yx (orc vp) vp lo l fr h (Zbp vp lo ks L h)
theorem Zrd:vp.fn 107=some f107:=rfl
@[simp] theorem ZAY:YU (orc vp) vp lo h 107 args kv=rwK vp lo h 107 args kv:=Jt Zrd rfl rfl rfl lo h args kv
theorem Zro:vp.fn 109=some f109:=rfl
theorem Zd9:LP ZfV Zb5:=Zw Zb5
theorem ZrJ:vp.fn 110=some f110:=rfl
theorem Zvr:vp.fn 111=some f111:=rfl
theorem KO:LP ZgU Zdk:=Zw Zdk
theorem Zys:vp.fn 112=some f112:=rfl
theorem Zjy:LP Zh1 ZdD:=Zw ZdD
theorem ZyD:vp.fn 113=some f113:=rfl
theorem Zyy:vp.fn 114=some f114:=rfl
theorem Zjj:LP ZhA Zdv:=Zw Zdv
theorem ZrK:vp.fn 115=some f115:=rfl
theorem Zrh:vp.fn 116=some f116:=rfl
theorem Zyk:vp.fn 117=some f117:=rfl
theorem Zrx:vp.fn 118=some f118:=rfl
theorem Zrk:vp.fn 119=some f119:=rfl
theorem Zwa:vp.fn 120=some f120:=rfl
theorem Zb7:LP Zgr ZcF:=Zw ZcF
theorem ZwR:vp.fn 121=some f121:=rfl
theorem V2:LP Zgj Zde:=Zw Zde
theorem ZrP:vp.fn 122=some f122:=rfl
theorem Zrj:vp.fn 123=some f123:=rfl
theorem ZrG:vp.fn 124=some f124:=rfl
theorem ZrR:vp.fn 125=some f125:=rfl
theorem Zxf:vp.fn 126=some f126:=rfl
theorem Zv3:vp.fn 127=some f127:=rfl
theorem Zzy:vp.fn 128=some f128:=rfl
theorem ZwB:vp.fn 129=some f129:=rfl
theorem ZrA:vp.fn 130=some f130:=rfl
theorem ZwU:vp.fn 131=some f131:=rfl
theorem Zrp:vp.fn 132=some f132:=rfl
theorem ZiT:LP ZhJ Zb3:=Zw Zb3
theorem VS:vp.fn 133=some f133:=rfl
theorem Zzf:vp.fn 134=some f134:=rfl
theorem Zq7:vp.fn 135=some f135:=rfl
theorem ZrI:vp.fn 136=some f136:=rfl
theorem Zri:vp.fn 137=some f137:=rfl
theorem Zce:LP Zh3 ZcL:=Zw ZcL
theorem Zd5:LP ZhS Zb6:=Zw Zb6
theorem Zrt:vp.fn 138=some f138:=rfl
theorem Zvb:vp.fn 139=some f139:=rfl
theorem Zrm:vp.fn 140=some f140:=rfl
theorem ZrB:vp.fn 141=some f141:=rfl
theorem Zrw:vp.fn 142=some f142:=rfl
theorem Zwz:vp.fn 170=some f170:=rfl
theorem Zrc:vp.fn 171=some f171:=rfl
theorem KP:LP ZgF Qc:=Zw Qc
@[simp] theorem ZAU:YU (orc vp) vp lo h 171 args kv=rwK vp lo h 171 args kv:=Jt Zrc rfl rfl rfl lo h args kv
theorem ZrE:vp.fn 172=some f172:=rfl
@[simp] theorem ZA0:YU (orc vp) vp lo h 172 args kv=rwK vp lo h 172 args kv:=Jt ZrE rfl rfl rfl lo h args kv
theorem Zry:vp.fn 173=some f173:=rfl
@[simp] theorem ZAG:YU (orc vp) vp lo h 173 args kv=rwK vp lo h 173 args kv:=Jt Zry rfl rfl rfl lo h args kv
theorem ZvA:vp.fn 312=some f312:=rfl
theorem Zv1:vp.fn 313=some f313:=rfl
theorem Zx7:vp.fn 314=some f314:=rfl
theorem Zzb:vp.fn 315=some f315:=rfl
theorem Zwu:vp.fn 316=some f316:=rfl
theorem ZxW:vp.fn 317=some f317:=rfl
theorem Zze:vp.fn 318=some f318:=rfl
theorem ZyU:vp.fn 319=some f319:=rfl
theorem Zu7:vp.fn 320=some f320:=rfl
theorem Zwy:vp.fn 321=some f321:=rfl
theorem ZxL:vp.fn 322=some f322:=rfl
theorem Zwi:vp.fn 323=some f323:=rfl
theorem ZyJ:vp.fn 324=some f324:=rfl
theorem Zzj:vp.fn 326=some f326:=rfl
theorem ZxX:vp.fn 328=some f328:=rfl
theorem Zzh:vp.fn 422=some f422:=rfl
theorem Zdq:LP Zg9 Zdc:=Zw Zdc
theorem Zru:vp.fn 424=some f424:=rfl
theorem Zre:vp.fn 425=some f425:=rfl
theorem Zwj:vp.fn 427=some f427:=rfl
theorem ZwG:vp.fn 428=some f428:=rfl
theorem Zyv:vp.fn 429=some f429:=rfl
theorem Zxg:vp.fn 430=some f430:=rfl
theorem YH:vp.fn 432=some f432:=rfl
theorem ZyI:vp.fn 433=some f433:=rfl
theorem ZxR:vp.fn 461=some f461:=rfl
theorem Zxr:vp.fn 462=some f462:=rfl
theorem Jy:LP Zh6 Zck:=Zw Zck
theorem Zyh:vp.fn 465=some f465:=rfl
theorem Zvc:vp.fn 466=some f466:=rfl
theorem Zzq:vp.fn 467=some f467:=rfl
theorem UR:LP Zg2 Zcz:=Zw Zcz
theorem ZyQ:vp.fn 481=some f481:=rfl
theorem Zji:LP Zgb ZcC:=Zw ZcC
theorem Zwm:vp.fn 482=some f482:=rfl
theorem ZyS:vp.fn 489=some f489:=rfl
theorem Zwe:vp.fn 490=some f490:=rfl
theorem ZiL:LP ZgV Zca:=Zw Zca
theorem ZxV:vp.fn 491=some f491:=rfl
theorem ZxI:vp.fn 493=some f493:=rfl
theorem Zvv:vp.fn 494=some f494:=rfl
theorem ZwE:vp.fn 501=some f501:=rfl
theorem Zi4:LP Zhr Zc9:=Zw Zc9
theorem Zx6:vp.fn 507=some f507:=rfl
theorem Zix:LP ZgN ZdR:=Zw ZdR
theorem Zyt:vp.fn 508=some f508:=rfl
theorem ZxZ:vp.fn 509=some f509:=rfl
theorem Zyl:vp.fn 510=some f510:=rfl
theorem ZvG:vp.fn 520=some f520:=rfl
theorem Zjk:LP Zhb Zb4:=Zw Zb4
theorem ZyA:vp.fn 521=some f521:=rfl
theorem Zya:vp.fn 522=some f522:=rfl
theorem Zyr:vp.fn 554=some f554:=rfl
theorem Zyc:vp.fn 556=some f556:=rfl
theorem Zwc:vp.fn 558=some f558:=rfl
theorem ZvQ:vp.fn 559=some f559:=rfl
theorem ZwQ:vp.fn 561=some f561:=rfl
theorem ZxC:vp.fn 562=some f562:=rfl
theorem VX:LP ZgP ZdU:=Zw ZdU
theorem Zrr:vp.fn 564=some f564:=rfl
theorem ZlK:vp.fn 620=some f620:=rfl
theorem V6:LP JX X0:=Zw X0
theorem Zx0:vp.fn 622=some f622:=rfl
theorem ZiU:LP ZhN Ka:=Zw Ka
theorem Zzu:vp.fn 623=some f623:=rfl
theorem Zy4:vp.fn 624=some f624:=rfl
theorem Zyj:vp.fn 626=some f626:=rfl
theorem Zjx:LP ZhC Q7:=Zw Q7
theorem Zu9:vp.fn 638=some f638:=rfl
theorem Zwv:vp.fn 639=some f639:=rfl
theorem ZwV:vp.fn 640=some f640:=rfl
theorem QJ:LP ZhG Zcd:=Zw Zcd
theorem ZyC:vp.fn 641=some f641:=rfl
theorem ZvZ:vp.fn 643=some f643:=rfl
theorem Zia:LP Zga Zb2:=Zw Zb2
theorem Zzm:vp.fn 644=some f644:=rfl
theorem Zv0:vp.fn 645=some f645:=rfl
theorem ZiE:LP ZgR Zef:=Zw Zef
theorem Zyd:vp.fn 647=some f647:=rfl
theorem ZiG:LP ZgE Zd6:=Zw Zd6
theorem Zwo:vp.fn 648=some f648:=rfl
theorem JR:LP Zhv ZdG:=Zw ZdG
theorem Zxq:vp.fn 649=some f649:=rfl
theorem ZyF:vp.fn 650=some f650:=rfl
theorem ZyZ:vp.fn 651=some f651:=rfl
theorem Zy8:vp.fn 652=some f652:=rfl
theorem ZJU:vp.fn 710=some f710:=rfl
theorem ZJe:LP ZI7 ZIH:=Zw ZIH
theorem ZvP:vp.fn 715=some f715:=rfl
theorem Zvm:vp.fn 772=some f772:=rfl
theorem ZiY:LP ZhU ZcO:=Zw ZcO
theorem Zvf:vp.fn 773=some f773:=rfl
theorem Zjm:LP Zge ZdY:=Zw ZdY
theorem Zxi:vp.fn 777=some f777:=rfl
theorem Zju:LP Zgd ZcR:=Zw ZcR
theorem Zw5:vp.fn 783=some f783:=rfl
theorem Zi5:LP Zgx Zam:=Zw Zam
theorem Zxh:vp.fn 785=some f785:=rfl
theorem Zxo:vp.fn 787=some f787:=rfl
theorem Zjf:LP Zh0 ZaI:=Zw ZaI
theorem Zyg:vp.fn 790=some f790:=rfl
theorem Zja:LP Zf1 Zaz:=Zw Zaz
theorem ZcW:LP Zgw Zag:=Zw Zag
theorem Jr:LP Zgz ZaW:=Zw ZaW
theorem YD:vp.fn 801=some f801:=rfl
theorem ZwI:vp.fn 802=some f802:=rfl
theorem Zy9:vp.fn 803=some f803:=rfl
theorem Zi9:LP Zhe ZcQ:=Zw ZcQ
theorem ZyY:vp.fn 804=some f804:=rfl
theorem Zzd:vp.fn 805=some f805:=rfl
theorem Zir:LP ZgI Zdh:=Zw Zdh
theorem Zwn:vp.fn 806=some f806:=rfl
theorem Zdz:LP Zhn ZcV:=Zw ZcV
theorem ZrC:vp.fn 807=some f807:=rfl
theorem Zch:LP ZgG ZcP:=Zw ZcP
@[simp] theorem Zz7:YU (orc vp) vp lo h 807 args kv=Zg1 vp lo h 807 args kv:=Zj2 ZrC rfl rfl rfl lo h args kv
theorem ZxB:vp.fn 808=some f808:=rfl
theorem Zy1:vp.fn 818=some f818:=rfl
theorem Zvh:vp.fn 819=some f819:=rfl
theorem Zjo:LP Zhj ZcG:=Zw ZcG
theorem ZvX:vp.fn 820=some f820:=rfl
theorem Zi8:LP Zhg Zdu:=Zw Zdu
theorem Zjr:LP Zf7 Zd2:=Zw Zd2
theorem ZyB:vp.fn 821=some f821:=rfl
theorem ZiO:LP Zgi ZdA:=Zw ZdA
theorem ZjD:LP ZgW Zej:=Zw Zej
theorem Zvp:vp.fn 822=some f822:=rfl
theorem Zis:LP Zho Zcg:=Zw Zcg
theorem ZvY:vp.fn 823=some f823:=rfl
theorem Zif:LP Zgp ZdT:=Zw ZdT
theorem ZiM:LP ZhQ Zda:=Zw Zda
theorem ZvT:vp.fn 826=some f826:=rfl
theorem Zxz:vp.fn 828=some f828:=rfl
theorem Zje:LP Zh2 Zcq:=Zw Zcq
theorem ZxF:vp.fn 829=some f829:=rfl
theorem Zjv:LP Zhx ZcY:=Zw ZcY
theorem Ziu:LP ZgB ZdI:=Zw ZdI
theorem Zxm:vp.fn 830=some f830:=rfl
theorem Zxl:vp.fn 831=some f831:=rfl
theorem ZiD:LP Zhk Zd1:=Zw Zd1
theorem Zxe:vp.fn 832=some f832:=rfl
theorem ZxU:vp.fn 833=some f833:=rfl
theorem Zxw:vp.fn 834=some f834:=rfl
theorem Zwh:vp.fn 835=some f835:=rfl
theorem ZxO:vp.fn 836=some f836:=rfl
theorem Zdx:LP Zdp Zec:=Zw Zec
theorem ZdF:LP Zcl Zcp:=Zw Zcp
theorem Zcm:LP ZdM Zcy:=Zw Zcy
theorem Zdg:LP Zd3 ZdO:=Zw ZdO
theorem Zc3:LP Zcj Zcr:=Zw Zcr
theorem ZdW:LP Zc7 Zdf:=Zw Zdf
theorem Zct:LP ZdP ZdQ:=Zw ZdQ
theorem ZcA:LP ZdH ZdZ:=Zw ZdZ
theorem ZxQ:vp.fn 837=some f837:=rfl
theorem ZiI:LP ZfL ZdL:=Zw ZdL
theorem Zw8:vp.fn 838=some f838:=rfl
theorem ZwP:vp.fn 839=some f839:=rfl
theorem Zjn:LP Zg0 Zdl:=Zw Zdl
theorem Zw7:vp.fn 840=some f840:=rfl
theorem ZxM:vp.fn 841=some f841:=rfl
theorem Zzk:vp.fn 842=some f842:=rfl
theorem Zjt:LP ZfS ZcU:=Zw ZcU
theorem VT:vp.fn 843=some f843:=rfl
theorem KT:LP Zc2 Zea:=Zw Zea
theorem ZjC:LP Zhf ZcB:=Zw ZcB
theorem ZiC:LP ZgK ZcZ:=Zw ZcZ
theorem YI:vp.fn 844=some f844:=rfl
theorem ZwN:vp.fn 845=some f845:=rfl
theorem ZiV:LP Zhs ZcE:=Zw ZcE
theorem Zi1:LP ZhK ZdE:=Zw ZdE
theorem Zx5:vp.fn 846=some f846:=rfl
theorem ZiH:LP ZfU Zb1:=Zw Zb1
theorem Zx9:vp.fn 847=some f847:=rfl
theorem Zjb:LP Zgy ZcM:=Zw ZcM
theorem Ziw:LP Zgo Zdm:=Zw Zdm
theorem Kx:vp.fn 848=some f848:=rfl
theorem Zib:LP ZfX Zed:=Zw Zed
theorem ZxA:vp.fn 849=some f849:=rfl
theorem Zim:LP ZfO Zei:=Zw Zei
theorem ZJQ:vp.fn 899=some f899:=rfl
theorem ZHF:vp.fn 902=some f902:=rfl
theorem ZGW:LP ZGM ZGG:=Zw ZGG
theorem ZJ3:vp.fn 903=some f903:=rfl
theorem ZJ2:vp.fn 904=some f904:=rfl
theorem ZIE:LP ZI2 ZIT:=Zw ZIT
theorem ZHJ:vp.fn 905=some f905:=rfl
theorem ZGY:LP ZGT ZGH:=Zw ZGH
theorem ZJ5:vp.fn 906=some f906:=rfl
theorem ZJf:LP ZIG ZIS:=Zw ZIS
theorem ZIJ:LP ZI9 ZIU:=Zw ZIU
theorem ZJX:vp.fn 907=some f907:=rfl
theorem ZJ0:vp.fn 916=some f916:=rfl
theorem ZIh:LP ZIk ZIi:=Zw ZIi
theorem ZJR:vp.fn 917=some f917:=rfl
theorem ZJd:LP ZJb ZID:=Zw ZID
theorem ZIe:vp.fn 918=some f918:=rfl
theorem ZJW:vp.fn 919=some f919:=rfl
theorem ZJc:LP ZJa ZIA:=Zw ZIA
theorem ZJS:vp.fn 920=some f920:=rfl
theorem ZJZ:vp.fn 921=some f921:=rfl
theorem ZIK:LP ZI5 ZIz:=Zw ZIz
theorem ZIL:LP ZI3 ZIx:=Zw ZIx
theorem ZJ4:vp.fn 922=some f922:=rfl
theorem ZJz:vp.fn 1028=some f1028:=rfl
theorem ZtW:vp.fn 1082=some f1082:=rfl
theorem ZsZ:vp.fn 1085=some f1085:=rfl
theorem ZtZ:vp.fn 1090=some f1090:=rfl
theorem ZtJ:vp.fn 1108=some f1108:=rfl
theorem Zs7:vp.fn 1111=some f1111:=rfl
theorem Ztr:vp.fn 1113=some f1113:=rfl
theorem ZsJ:vp.fn 1114=some f1114:=rfl
theorem Zr2:vp.fn 1130=some f1130:=rfl
theorem ZsB:vp.fn 1134=some f1134:=rfl
theorem ZsS:vp.fn 1136=some f1136:=rfl
theorem Zr8:vp.fn 1137=some f1137:=rfl
theorem Zti:vp.fn 1140=some f1140:=rfl
theorem Zth:vp.fn 1142=some f1142:=rfl
theorem Zr3:vp.fn 1169=some f1169:=rfl
theorem Zr5:vp.fn 1198=some f1198:=rfl
theorem Zas:LP Zc5 UQ:=Zw UQ
theorem Ztu:vp.fn 1203=some f1203:=rfl
theorem Zfe:LP ZcK KW:=Zw KW
theorem Zr0:vp.fn 1204=some f1204:=rfl
theorem ZeC:LP ZdN KX:=Zw KX
theorem Zyo:vp.fn 374=some x374:=rfl
@[simp] theorem ZAi:YU (orc vp) vp lo h 374 args kv=(Y5 (X5 h) args).bind fun us=>YA (Zkv us) h kv:=QL Zyo rfl lo h args kv
theorem Zwg:vp.fn 378=some x378:=rfl
@[simp] theorem ZAo:YU (orc vp) vp lo h 378 args kv=(Y5 (X5 h) args).bind fun us=>YA (ZlG us) h kv:=QL Zwg rfl lo h args kv
theorem Zxt:vp.fn 560=some x560:=rfl
@[simp] theorem ZBc:YU (orc vp) vp lo h 560 args kv=(Y5 (X5 h) args).bind fun us=>YA (ZkM us) h kv:=QL Zxt rfl lo h args kv
theorem Zs4:vp.fn 1234=some x1234:=rfl
@[simp] theorem ZvB:YU (orc vp) vp lo h 1234 args kv=(Y5 (X5 h) args).bind fun us=>YA (ZfJ us) h kv:=QL Zs4 rfl lo h args kv
attribute [simp] b107 f107 Zb5 b109 f109 b110 f110 Zdk b111 f111 ZdD b112 f112 b113 f113 Zdv b114 f114 b115 f115 b116 f116 b117 f117 b118 f118 b119 f119 ZcF b120 f120 Zde b121 f121 b122 f122 b123 f123 b124 f124 b125 f125 b126 f126 b127 f127 b128 f128 b129 f129 b130 f130 b131 f131 Zb3 b132 f132 b133 f133 b134 f134 b135 f135 b136 f136 ZcL Zb6 b137 f137 b138 f138 b139 f139 b140 f140 b141 f141 b142 f142 b170 f170 Qc b171 f171 b172 f172 b173 f173 b312 f312 b313 f313 b314 f314 b315 f315 b316 f316 b317 f317 b318 f318 b319 f319 b320 f320 b321 f321 b322 f322 b323 f323 b324 f324 b326 f326 b328 f328 Zdc b422 f422 b424 f424 b425 f425 b427 f427 b428 f428 b429 f429 b430 f430 b432 f432 b433 f433 b461 f461 Zck b462 f462 b465 f465 b466 f466 Zcz b467 f467 ZcC b481 f481 b482 f482 b489 f489 Zca b490 f490 b491 f491 b493 f493 b494 f494 Zc9 b501 f501 ZdR b507 f507 b508 f508 b509 f509 b510 f510 Zb4 b520 f520 b521 f521 b522 f522 b554 f554 b556 f556 b557 f557 b558 f558 b559 f559 b561 f561 ZdU b562 f562 b564 f564 X0 b620 f620 Ka b622 f622 b623 f623 b624 f624 Q7 b626 f626 b638 f638 b639 f639 Zcd b640 f640 b641 f641 Zb2 b643 f643 b644 f644 Zef b645 f645 Zd6 b647 f647 ZdG b648 f648 b649 f649 b650 f650 b651 f651 b652 f652 ZIH b710 f710 b714 f714 b715 f715 b716 f716 ZcO b772 f772 ZdY b773 f773 ZcR b777 f777 Zam b783 f783 b785 f785 ZaI b787 f787 Zaz Zag ZaW b790 f790 b801 f801 b802 f802 ZcQ b803 f803 b804 f804 Zdh b805 f805 ZcV b806 f806 ZcP b807 f807 b808 f808 b818 f818 ZcG b819 f819 Zdu Zd2 b820 f820 ZdA Zej b821 f821 Zcg b822 f822 ZdT Zda b823 f823 b826 f826 b827 f827 Zcq b828 f828 ZcY ZdI b829 f829 b830 f830 Zd1 b831 f831 b832 f832 b833 f833 b834 f834 b835 f835 Zec Zcp Zcy ZdO Zcr Zdf ZdQ ZdZ b836 f836 ZdL b837 f837 b838 f838 Zdl b839 f839 b840 f840 b841 f841 ZcU b842 f842 Zea ZcB ZcZ b843 f843 b844 f844 ZcE ZdE b845 f845 Zb1 b846 f846 ZcM Zdm b847 f847 Zed b848 f848 Zei b849 f849 b899 f899 ZGG b902 f902 b903 f903 ZIT b904 f904 ZGH b905 f905 ZIS ZIU b906 f906 b907 f907 ZIi b916 f916 ZID b917 f917 b918 f918 ZIA b919 f919 b920 f920 ZIz ZIx b921 f921 b922 f922 b1028 f1028 b1082 f1082 b1085 f1085 b1090 f1090 b1108 f1108 b1111 f1111 b1113 f1113 b1114 f1114 b1130 f1130 b1134 f1134 b1136 f1136 b1137 f1137 b1140 f1140 b1141 f1141 b1142 f1142 b1169 f1169 UQ b1198 f1198 KW b1203 f1203 KX b1204 f1204
end Go.VE.Un
