/- The table of functions: printed by a program. -/
import Derived.Test.YthpccfpbghhpoaaGreatUnF0
namespace Go.VE.Un
set_option maxRecDepth 100000
def fns:WL Zi:=(T3 (T3 (T3 (T3 (T3 (T3 (T2 (T1 107 f107) 109 f109) 110 f110 (T2 (T1 111 f111) 112 f112)) 113 f113 (T3 (T2 (T1 114 f114) 115 f115) 116 f116 (T2 (T1 117 f117) 118 f118))) 119 f119 (T3 (T3 (T2 (T1 120 f120) 121 f121) 122 f122 (T2 (T1 123 f123) 124 f124)) 125 f125 (T3 (T2 (T1 126 f126) 127 f127) 128 f128 (T1 129 f129)))) 130 f130 (T3 (T3 (T3 (T2 (T1 131 f131) 132 f132) 133 f133 (T2 (T1 134 f134) 135 f135)) 136 f136 (T3 (T2 (T1 137 f137) 138 f138) 139 f139 (T2 (T1 140 f140) 141 f141))) 142 f142 (T3 (T3 (T2 (T1 170 f170) 171 f171) 172 f172 (T2 (T1 173 f173) 312 f312)) 313 f313 (T3 (T2 (T1 314 f314) 315 f315) 316 f316 (T1 317 f317))))) 318 f318 (T3 (T3 (T3 (T3 (T2 (T1 319 f319) 320 f320) 321 f321 (T2 (T1 322 f322) 323 f323)) 324 f324 (T3 (T2 (T1 326 f326) 328 f328) 374 x374 (T2 (T1 378 x378) 422 f422))) 424 f424 (T3 (T3 (T2 (T1 425 f425) 427 f427) 428 f428 (T2 (T1 429 f429) 430 f430)) 432 f432 (T3 (T2 (T1 433 f433) 461 f461) 462 f462 (T1 465 f465)))) 466 f466 (T3 (T3 (T3 (T2 (T1 467 f467) 481 f481) 482 f482 (T2 (T1 489 f489) 490 f490)) 491 f491 (T3 (T2 (T1 493 f493) 494 f494) 501 f501 (T1 507 f507))) 508 f508 (T3 (T3 (T2 (T1 509 f509) 510 f510) 520 f520 (T2 (T1 521 f521) 522 f522)) 554 f554 (T3 (T2 (T1 556 f556) 557 f557) 558 f558 (T1 559 f559)))))) 560 x560 (T3 (T3 (T3 (T3 (T3 (T2 (T1 561 f561) 562 f562) 564 f564 (T2 (T1 620 f620) 622 f622)) 623 f623 (T3 (T2 (T1 624 f624) 626 f626) 638 f638 (T2 (T1 639 f639) 640 f640))) 641 f641 (T3 (T3 (T2 (T1 643 f643) 644 f644) 645 f645 (T2 (T1 647 f647) 648 f648)) 649 f649 (T3 (T2 (T1 650 f650) 651 f651) 652 f652 (T1 712 f712)))) 714 f714 (T3 (T3 (T3 (T2 (T1 715 f715) 716 f716) 772 f772 (T2 (T1 773 f773) 777 f777)) 783 f783 (T3 (T2 (T1 785 f785) 787 f787) 790 f790 (T1 801 f801))) 802 f802 (T3 (T3 (T2 (T1 803 f803) 804 f804) 805 f805 (T2 (T1 806 f806) 807 f807)) 808 f808 (T3 (T2 (T1 818 f818) 819 f819) 820 f820 (T1 821 f821))))) 822 f822 (T3 (T3 (T3 (T3 (T2 (T1 823 f823) 826 f826) 827 f827 (T2 (T1 828 f828) 829 f829)) 830 f830 (T3 (T2 (T1 831 f831) 832 f832) 833 f833 (T2 (T1 834 f834) 835 f835))) 836 f836 (T3 (T3 (T2 (T1 837 f837) 838 f838) 839 f839 (T2 (T1 840 f840) 841 f841)) 842 f842 (T3 (T2 (T1 843 f843) 844 f844) 845 f845 (T1 846 f846)))) 847 f847 (T3 (T3 (T3 (T2 (T1 848 f848) 849 f849) 1082 f1082 (T2 (T1 1085 f1085) 1090 f1090)) 1108 f1108 (T3 (T2 (T1 1111 f1111) 1113 f1113) 1114 f1114 (T1 1130 f1130))) 1134 f1134 (T3 (T3 (T2 (T1 1136 f1136) 1137 f1137) 1140 f1140 (T2 (T1 1141 f1141) 1142 f1142)) 1169 f1169 (T3 (T2 (T1 1198 f1198) 1203 f1203) 1204 f1204 (T1 1234 x1234)))))))
def mt:WL Nat:=(T3 (T3 (T2 (T1 275 312) 276 313) 277 314 (T2 (T1 278 315) 279 316)) 280 317 (T3 (T2 (T1 281 318) 282 319) 283 320 (T2 (T1 285 321) 286 322)))
def vp:VP:=⟨true,fns.get,fun t m=>if m=0 then mt.get t else none⟩
@[simp] theorem ZBk:vp.meth 275 0=some 312:=nr rfl
@[simp] theorem ZCD:vp.meth 276 0=some 313:=nr rfl
@[simp] theorem ZB9:vp.meth 277 0=some 314:=nr rfl
@[simp] theorem ZBH:vp.meth 278 0=some 315:=nr rfl
@[simp] theorem ZB3:vp.meth 279 0=some 316:=nr rfl
@[simp] theorem ZCw:vp.meth 280 0=some 317:=nr rfl
@[simp] theorem ZCe:vp.meth 281 0=some 318:=nr rfl
@[simp] theorem ZBS:vp.meth 282 0=some 319:=nr rfl
@[simp] theorem ZBs:vp.meth 283 0=some 320:=nr rfl
@[simp] theorem ZCx:vp.meth 285 0=some 321:=nr rfl
@[simp] theorem ZCL:vp.meth 286 0=some 322:=nr rfl
@[simp] theorem ZeW:vp.gc=true:=nr rfl
variable {β : Type} (lo : Nat) (h : Zg) (args : List V) (kv : V → Zg → Option β) (ks : List Nat) (fr : Fr)
theorem roT:roB vp 417548126825372431904867097906730494223138710640695679960353277732237504054872229602915926650121841807735218569086409933282166279674987664147538935524945935182214515264783787831842864564936730304835092690072607592368138463170882267213070545526948087817010743569095508089009122154299189687031683037459654065349418195187317564218115907766035222241932676674353102848 1205=true:=by kernel_rfl
@[simp] theorem ZBy{f:Nat}(hf:417548126825372431904867097906730494223138710640695679960353277732237504054872229602915926650121841807735218569086409933282166279674987664147538935524945935182214515264783787831842864564936730304835092690072607592368138463170882267213070545526948087817010743569095508089009122154299189687031683037459654065349418195187317564218115907766035222241932676674353102848>>>f%2=1):YU (orc vp) vp lo h f args kv=roK vp h f args kv:=ZkC roT hf ..
@[simp] theorem ZDi{f:Nat}(hf:417548126825372431904867097906730494223138710640695679960353277732237504054872229602915926650121841807735218569086409933282166279674987664147538935524945935182214515264783787831842864564936730304835092690072607592368138463170882267213070545526948087817010743569095508089009122154299189687031683037459654065349418195187317564218115907766035222241932676674353102848>>>f%2=1):U3 vp f=true:=Zmr roT hf
abbrev LP(L l:Zd):Prop:= ∀lo h ks fr,(orc vp).loop lo ks L fr h=Yv (orc vp) vp lo l fr h (ZbA vp lo ks L h)
theorem Zrb:vp.fn 107=some f107:=rfl
@[simp] theorem ZzA:YU (orc vp) vp lo h 107 args kv=rwK vp lo h 107 args kv:=Jx Zrb rfl rfl rfl lo h args kv
theorem ZqW:vp.fn 109=some f109:=rfl
theorem ZcX:LP Zf9 ZdZ:=Zw ZdZ
theorem ZrK:vp.fn 110=some f110:=rfl
theorem Zxh:vp.fn 111=some f111:=rfl
theorem KS:LP ZfW Zcv:=Zw Zcv
theorem ZvY:vp.fn 112=some f112:=rfl
theorem ZiY:LP ZgA Zc1:=Zw Zc1
theorem ZvJ:vp.fn 113=some f113:=rfl
theorem Zzq:vp.fn 114=some f114:=rfl
theorem Zi3:LP ZhE ZdO:=Zw ZdO
theorem ZqU:vp.fn 115=some f115:=rfl
theorem ZqX:vp.fn 116=some f116:=rfl
theorem Zzf:vp.fn 117=some f117:=rfl
theorem Zrs:vp.fn 118=some f118:=rfl
theorem ZqZ:vp.fn 119=some f119:=rfl
theorem Zxc:vp.fn 120=some f120:=rfl
theorem Zcn:LP Zhh ZdT:=Zw ZdT
theorem Zzu:vp.fn 121=some f121:=rfl
theorem V5:LP ZhX Zc4:=Zw Zc4
theorem Zrx:vp.fn 122=some f122:=rfl
theorem Zq4:vp.fn 123=some f123:=rfl
theorem Zri:vp.fn 124=some f124:=rfl
theorem Zrn:vp.fn 125=some f125:=rfl
theorem ZvL:vp.fn 126=some f126:=rfl
theorem Zyv:vp.fn 127=some f127:=rfl
theorem ZyJ:vp.fn 128=some f128:=rfl
theorem ZvT:vp.fn 129=some f129:=rfl
theorem Zra:vp.fn 130=some f130:=rfl
theorem ZvW:vp.fn 131=some f131:=rfl
theorem Zq8:vp.fn 132=some f132:=rfl
theorem Zin:LP ZgD ZcP:=Zw ZcP
theorem VK:vp.fn 133=some f133:=rfl
theorem ZxJ:vp.fn 134=some f134:=rfl
theorem ZrC:vp.fn 135=some f135:=rfl
theorem ZrG:vp.fn 136=some f136:=rfl
theorem Zrp:vp.fn 137=some f137:=rfl
theorem Zb1:LP Zgl Zdb:=Zw Zdb
theorem Zd0:LP ZfJ Zc8:=Zw Zc8
theorem ZrI:vp.fn 138=some f138:=rfl
theorem ZwX:vp.fn 139=some f139:=rfl
theorem ZrA:vp.fn 140=some f140:=rfl
theorem ZrD:vp.fn 141=some f141:=rfl
theorem Zrh:vp.fn 142=some f142:=rfl
theorem ZvE:vp.fn 170=some f170:=rfl
theorem ZqT:vp.fn 171=some f171:=rfl
theorem KP:LP ZfQ U7:=Zw U7
@[simp] theorem ZAH:YU (orc vp) vp lo h 171 args kv=rwK vp lo h 171 args kv:=Jx ZqT rfl rfl rfl lo h args kv
theorem Zrd:vp.fn 172=some f172:=rfl
@[simp] theorem ZAV:YU (orc vp) vp lo h 172 args kv=rwK vp lo h 172 args kv:=Jx Zrd rfl rfl rfl lo h args kv
theorem Zq2:vp.fn 173=some f173:=rfl
@[simp] theorem ZAg:YU (orc vp) vp lo h 173 args kv=rwK vp lo h 173 args kv:=Jx Zq2 rfl rfl rfl lo h args kv
theorem Zyt:vp.fn 312=some f312:=rfl
theorem ZxT:vp.fn 313=some f313:=rfl
theorem ZvU:vp.fn 314=some f314:=rfl
theorem ZvB:vp.fn 315=some f315:=rfl
theorem Zvb:vp.fn 316=some f316:=rfl
theorem Zxa:vp.fn 317=some f317:=rfl
theorem Zx0:vp.fn 318=some f318:=rfl
theorem Zx5:vp.fn 319=some f319:=rfl
theorem ZyV:vp.fn 320=some f320:=rfl
theorem ZxI:vp.fn 321=some f321:=rfl
theorem ZuX:vp.fn 322=some f322:=rfl
theorem ZwZ:vp.fn 323=some f323:=rfl
theorem ZwC:vp.fn 324=some f324:=rfl
theorem Zxm:vp.fn 326=some f326:=rfl
theorem Zyf:vp.fn 328=some f328:=rfl
theorem ZwO:vp.fn 422=some f422:=rfl
theorem Zec:LP Zg6 ZdW:=Zw ZdW
theorem Zro:vp.fn 424=some f424:=rfl
theorem Zrw:vp.fn 425=some f425:=rfl
theorem Zvu:vp.fn 427=some f427:=rfl
theorem Zxv:vp.fn 428=some f428:=rfl
theorem Zvk:vp.fn 429=some f429:=rfl
theorem ZvO:vp.fn 430=some f430:=rfl
theorem YE:vp.fn 432=some f432:=rfl
theorem Zya:vp.fn 433=some f433:=rfl
theorem ZwS:vp.fn 461=some f461:=rfl
theorem Zy4:vp.fn 462=some f462:=rfl
theorem Jt:LP Zgx Zcj:=Zw Zcj
theorem ZxG:vp.fn 465=some f465:=rfl
theorem Zwk:vp.fn 466=some f466:=rfl
theorem Zv0:vp.fn 467=some f467:=rfl
theorem UV:LP ZfS ZcU:=Zw ZcU
theorem Zzi:vp.fn 481=some f481:=rfl
theorem Zi8:LP Zgy Zd9:=Zw Zd9
theorem Zwq:vp.fn 482=some f482:=rfl
theorem Zyw:vp.fn 489=some f489:=rfl
theorem ZyL:vp.fn 490=some f490:=rfl
theorem Zjt:LP ZhD Zea:=Zw Zea
theorem ZxA:vp.fn 491=some f491:=rfl
theorem ZyM:vp.fn 493=some f493:=rfl
theorem Zwr:vp.fn 494=some f494:=rfl
theorem Zwp:vp.fn 501=some f501:=rfl
theorem Ziu:LP ZgE Zc2:=Zw Zc2
theorem ZwE:vp.fn 507=some f507:=rfl
theorem Zh5:LP ZfR ZcZ:=Zw ZcZ
theorem ZwK:vp.fn 508=some f508:=rfl
theorem Zw6:vp.fn 509=some f509:=rfl
theorem Zzd:vp.fn 510=some f510:=rfl
theorem Zv6:vp.fn 520=some f520:=rfl
theorem Ziz:LP Zf7 Zdr:=Zw Zdr
theorem Zvv:vp.fn 521=some f521:=rfl
theorem Zyo:vp.fn 522=some f522:=rfl
theorem Zws:vp.fn 554=some f554:=rfl
theorem Zvc:vp.fn 556=some f556:=rfl
theorem Zx4:vp.fn 558=some f558:=rfl
theorem ZyT:vp.fn 559=some f559:=rfl
theorem Zwh:vp.fn 561=some f561:=rfl
theorem ZyC:vp.fn 562=some f562:=rfl
theorem VZ:LP Zf6 ZcS:=Zw ZcS
theorem ZrH:vp.fn 564=some f564:=rfl
theorem ZnV:vp.fn 620=some f620:=rfl
theorem V0:LP J0 X2:=Zw X2
theorem Zv3:vp.fn 622=some f622:=rfl
theorem Zit:LP Zge J4:=Zw J4
theorem Zvo:vp.fn 623=some f623:=rfl
theorem ZyS:vp.fn 624=some f624:=rfl
theorem Zwu:vp.fn 626=some f626:=rfl
theorem Zjj:LP Zgz Q6:=Zw Q6
theorem Zyi:vp.fn 638=some f638:=rfl
theorem ZxC:vp.fn 639=some f639:=rfl
theorem Zv2:vp.fn 640=some f640:=rfl
theorem QH:LP Zhp ZdL:=Zw ZdL
theorem Zzs:vp.fn 641=some f641:=rfl
theorem Zv4:vp.fn 643=some f643:=rfl
theorem Zio:LP ZgW Zc5:=Zw Zc5
theorem Zzo:vp.fn 644=some f644:=rfl
theorem ZwN:vp.fn 645=some f645:=rfl
theorem Zjm:LP ZfU ZcT:=Zw ZcT
theorem Zyy:vp.fn 647=some f647:=rfl
theorem Zjn:LP ZgC ZcF:=Zw ZcF
theorem Zxe:vp.fn 648=some f648:=rfl
theorem JJ:LP ZfK ZdD:=Zw ZdD
theorem ZyK:vp.fn 649=some f649:=rfl
theorem Zu4:vp.fn 650=some f650:=rfl
theorem Zwa:vp.fn 651=some f651:=rfl
theorem ZxE:vp.fn 652=some f652:=rfl
theorem Zxw:vp.fn 712=some f712:=rfl
theorem Zw2:vp.fn 715=some f715:=rfl
theorem ZvX:vp.fn 772=some f772:=rfl
theorem ZiP:LP Zhk ZbY:=Zw ZbY
theorem Zwt:vp.fn 773=some f773:=rfl
theorem Zi4:LP Zhf ZbV:=Zw ZbV
theorem Zwi:vp.fn 777=some f777:=rfl
theorem Ziv:LP ZfL Zb9:=Zw Zb9
theorem ZwP:vp.fn 783=some f783:=rfl
theorem Zif:LP Zg1 Za3:=Zw Za3
theorem Zwo:vp.fn 785=some f785:=rfl
theorem Zye:vp.fn 787=some f787:=rfl
theorem Zjb:LP Zh0 Zav:=Zw Zav
theorem ZwG:vp.fn 790=some f790:=rfl
theorem Zjd:LP Zf1 ZaY:=Zw ZaY
theorem ZcE:LP Zgv Zau:=Zw Zau
theorem Jr:LP ZgQ Zac:=Zw Zac
theorem YC:vp.fn 801=some f801:=rfl
theorem ZwJ:vp.fn 802=some f802:=rfl
theorem ZwA:vp.fn 803=some f803:=rfl
theorem Zjq:LP ZgY ZdA:=Zw ZdA
theorem Zu7:vp.fn 804=some f804:=rfl
theorem Zwj:vp.fn 805=some f805:=rfl
theorem ZiH:LP Zht ZdV:=Zw ZdV
theorem Zvp:vp.fn 806=some f806:=rfl
theorem Zb2:LP Zhs Zd3:=Zw Zd3
theorem Zq5:vp.fn 807=some f807:=rfl
theorem Zcq:LP ZgI Zdh:=Zw Zdh
@[simp] theorem Zzx:YU (orc vp) vp lo h 807 args kv=Zg2 vp lo h 807 args kv:=ZkA Zq5 rfl rfl rfl lo h args kv
theorem Zxi:vp.fn 808=some f808:=rfl
theorem ZyG:vp.fn 818=some f818:=rfl
theorem Zxp:vp.fn 819=some f819:=rfl
theorem Zju:LP ZgB ZbZ:=Zw ZbZ
theorem Zy6:vp.fn 820=some f820:=rfl
theorem Zh3:LP ZhT ZdH:=Zw ZdH
theorem Zjh:LP Zhy ZcM:=Zw ZcM
theorem Zyk:vp.fn 821=some f821:=rfl
theorem Zii:LP ZhU ZdX:=Zw ZdX
theorem ZiZ:LP Zgj ZcC:=Zw ZcC
theorem Zvn:vp.fn 822=some f822:=rfl
theorem Zim:LP Zgi Zb0:=Zw Zb0
theorem Zwn:vp.fn 823=some f823:=rfl
theorem Zjc:LP ZgX Zdo:=Zw Zdo
theorem Zjp:LP Zg0 Zds:=Zw Zds
theorem ZuZ:vp.fn 826=some f826:=rfl
theorem ZyN:vp.fn 828=some f828:=rfl
theorem Zjv:LP Zga Zb5:=Zw Zb5
theorem Zv5:vp.fn 829=some f829:=rfl
theorem ZiS:LP ZhF Zdk:=Zw Zdk
theorem Zie:LP Zgo ZcL:=Zw ZcL
theorem Zw1:vp.fn 830=some f830:=rfl
theorem Zx3:vp.fn 831=some f831:=rfl
theorem ZiV:LP ZhI Zch:=Zw Zch
theorem ZyZ:vp.fn 832=some f832:=rfl
theorem ZyH:vp.fn 833=some f833:=rfl
theorem Zxo:vp.fn 834=some f834:=rfl
theorem Zu3:vp.fn 835=some f835:=rfl
theorem Zwb:vp.fn 836=some f836:=rfl
theorem ZcW:LP Zb6 ZdK:=Zw ZdK
theorem Zdn:LP ZdJ Zdm:=Zw Zdm
theorem Zdu:LP Zcs ZcN:=Zw ZcN
theorem ZbW:LP Zcy Zdz:=Zw Zdz
theorem ZcB:LP Zdw ZcI:=Zw ZcI
theorem Zb8:LP Zce Zb7:=Zw Zb7
theorem Zdt:LP Zd5 ZdE:=Zw ZdE
theorem ZcA:LP Zdy ZdR:=Zw ZdR
theorem Zyz:vp.fn 837=some f837:=rfl
theorem ZiL:LP ZgL ZdG:=Zw ZdG
theorem Zvl:vp.fn 838=some f838:=rfl
theorem Zu1:vp.fn 839=some f839:=rfl
theorem Zh8:LP Zf5 Zc0:=Zw Zc0
theorem Zw3:vp.fn 840=some f840:=rfl
theorem ZwH:vp.fn 841=some f841:=rfl
theorem Zy7:vp.fn 842=some f842:=rfl
theorem ZiW:LP ZgR Zcg:=Zw Zcg
theorem VC:vp.fn 843=some f843:=rfl
theorem KW:LP Zdf ZdM:=Zw ZdM
theorem Zia:LP Zg7 Zc9:=Zw Zc9
theorem Zjf:LP Zhu Zdd:=Zw Zdd
theorem YG:vp.fn 844=some f844:=rfl
theorem Zyl:vp.fn 845=some f845:=rfl
theorem Zjk:LP ZhK Zdq:=Zw Zdq
theorem Zh2:LP Zhw Zdi:=Zw Zdi
theorem Zvs:vp.fn 846=some f846:=rfl
theorem ZiB:LP ZgZ Zd1:=Zw Zd1
theorem Zy2:vp.fn 847=some f847:=rfl
theorem ZiF:LP Zf4 ZdQ:=Zw ZdQ
theorem Zis:LP ZhA ZcO:=Zw ZcO
theorem Ko:vp.fn 848=some f848:=rfl
theorem ZiO:LP ZfX Zda:=Zw Zda
theorem ZwT:vp.fn 849=some f849:=rfl
theorem ZiE:LP Zgg ZdY:=Zw ZdY
theorem ZtC:vp.fn 1082=some f1082:=rfl
theorem ZtJ:vp.fn 1085=some f1085:=rfl
theorem ZsJ:vp.fn 1090=some f1090:=rfl
theorem Zs8:vp.fn 1108=some f1108:=rfl
theorem ZtI:vp.fn 1111=some f1111:=rfl
theorem ZsM:vp.fn 1113=some f1113:=rfl
theorem Zr9:vp.fn 1114=some f1114:=rfl
theorem Ztg:vp.fn 1130=some f1130:=rfl
theorem Zte:vp.fn 1134=some f1134:=rfl
theorem ZsN:vp.fn 1136=some f1136:=rfl
theorem Ztt:vp.fn 1137=some f1137:=rfl
theorem Zt1:vp.fn 1140=some f1140:=rfl
theorem ZsP:vp.fn 1142=some f1142:=rfl
theorem ZsX:vp.fn 1169=some f1169:=rfl
theorem ZrU:vp.fn 1198=some f1198:=rfl
theorem K5:LP Zcw UR:=Zw UR
theorem Zsz:vp.fn 1203=some f1203:=rfl
theorem ZeN:LP Zck KX:=Zw KX
theorem Zs9:vp.fn 1204=some f1204:=rfl
theorem ZeU:LP Zcu KT:=Zw KT
theorem ZyX:vp.fn 374=some x374:=rfl
@[simp] theorem ZA8:YU (orc vp) vp lo h 374 args kv=(Y4 (Wa h) args).bind fun us=>Yz (Zkw us) h kv:=QL ZyX rfl lo h args kv
theorem Zv8:vp.fn 378=some x378:=rfl
@[simp] theorem ZAn:YU (orc vp) vp lo h 378 args kv=(Y4 (Wa h) args).bind fun us=>Yz (ZjG us) h kv:=QL Zv8 rfl lo h args kv
theorem Zv1:vp.fn 560=some x560:=rfl
@[simp] theorem ZBa:YU (orc vp) vp lo h 560 args kv=(Y4 (Wa h) args).bind fun us=>Yz (Zk1 us) h kv:=QL Zv1 rfl lo h args kv
theorem Zs6:vp.fn 1234=some x1234:=rfl
@[simp] theorem Zva:YU (orc vp) vp lo h 1234 args kv=(Y4 (Wa h) args).bind fun us=>Yz (ZeM us) h kv:=QL Zs6 rfl lo h args kv
attribute [simp] b107 f107 ZdZ b109 f109 b110 f110 Zcv b111 f111 Zc1 b112 f112 b113 f113 ZdO b114 f114 b115 f115 b116 f116 b117 f117 b118 f118 b119 f119 ZdT b120 f120 Zc4 b121 f121 b122 f122 b123 f123 b124 f124 b125 f125 b126 f126 b127 f127 b128 f128 b129 f129 b130 f130 b131 f131 ZcP b132 f132 b133 f133 b134 f134 b135 f135 b136 f136 Zdb Zc8 b137 f137 b138 f138 b139 f139 b140 f140 b141 f141 b142 f142 b170 f170 U7 b171 f171 b172 f172 b173 f173 b312 f312 b313 f313 b314 f314 b315 f315 b316 f316 b317 f317 b318 f318 b319 f319 b320 f320 b321 f321 b322 f322 b323 f323 b324 f324 b326 f326 b328 f328 ZdW b422 f422 b424 f424 b425 f425 b427 f427 b428 f428 b429 f429 b430 f430 b432 f432 b433 f433 b461 f461 Zcj b462 f462 b465 f465 b466 f466 ZcU b467 f467 Zd9 b481 f481 b482 f482 b489 f489 Zea b490 f490 b491 f491 b493 f493 b494 f494 Zc2 b501 f501 ZcZ b507 f507 b508 f508 b509 f509 b510 f510 Zdr b520 f520 b521 f521 b522 f522 b554 f554 b556 f556 b557 f557 b558 f558 b559 f559 b561 f561 ZcS b562 f562 b564 f564 X2 b620 f620 J4 b622 f622 b623 f623 b624 f624 Q6 b626 f626 b638 f638 b639 f639 ZdL b640 f640 b641 f641 Zc5 b643 f643 b644 f644 ZcT b645 f645 ZcF b647 f647 ZdD b648 f648 b649 f649 b650 f650 b651 f651 b652 f652 b712 f712 b714 f714 b715 f715 b716 f716 ZbY b772 f772 ZbV b773 f773 Zb9 b777 f777 Za3 b783 f783 b785 f785 Zav b787 f787 ZaY Zau Zac b790 f790 b801 f801 b802 f802 ZdA b803 f803 b804 f804 ZdV b805 f805 Zd3 b806 f806 Zdh b807 f807 b808 f808 b818 f818 ZbZ b819 f819 ZdH ZcM b820 f820 ZdX ZcC b821 f821 Zb0 b822 f822 Zdo Zds b823 f823 b826 f826 b827 f827 Zb5 b828 f828 Zdk ZcL b829 f829 b830 f830 Zch b831 f831 b832 f832 b833 f833 b834 f834 b835 f835 ZdK Zdm ZcN Zdz ZcI Zb7 ZdE ZdR b836 f836 ZdG b837 f837 b838 f838 Zc0 b839 f839 b840 f840 b841 f841 Zcg b842 f842 ZdM Zc9 Zdd b843 f843 b844 f844 Zdq Zdi b845 f845 Zd1 b846 f846 ZdQ ZcO b847 f847 Zda b848 f848 ZdY b849 f849 b1082 f1082 b1085 f1085 b1090 f1090 b1108 f1108 b1111 f1111 b1113 f1113 b1114 f1114 b1130 f1130 b1134 f1134 b1136 f1136 b1137 f1137 b1140 f1140 b1141 f1141 b1142 f1142 b1169 f1169 UR b1198 f1198 KX b1203 f1203 KT b1204 f1204
end Go.VE.Un
