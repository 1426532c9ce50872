/- Joined texts: GrJ, GrK, GrM. No condition: what each theorem needs stands in it. -/
import Derived.Test.YtlekfkibeafdiaaGreatCc19
import Derived.Test.YtlekfkibeafdiaaGreatCc16
import Derived.Test.YtlekfkibeafdiaaGreatCc18
namespace Go.VE.Un
open Go.VE
abbrev fG:V:=.agg [.sl 1 [] .nl,.sl 1 [] .nl,.int .u64 0,.bool false,.int .i64 0,.int .i64 0]
abbrev gG(i:Nat):V:=.agg [.gsl 6 i 1 0 i,.gsl 7 i 1 0 i,.int .u64 0,.bool false,.int .i64 0,.int .i64 0]
def ctR(F:List (Bool ×Sl)):List ZJ→Nat→Bool ×Sl→Option (Int ×Int)×(Bool ×Sl)
 |[],_,a=>(none,a)
 |x::r,i,a=>
  if(F.getD i (false,0)).1=false then ctR F r (i+1) a
  else if 0≤JO x.Keys.l (ZDw x.Exts.l (F.getD i (false,0)).2)then(some ((i:Int),JO x.Keys.l (ZDw x.Exts.l (F.getD i (false,0)).2)),a)
  else ctR F r (i+1) (if(-1:Int)∈ZGb x then Js a (ZDw x.Exts.l (F.getD i (false,0)).2)else a)
abbrev frG(F:List (Bool ×Sl))(n:Nat)(i:Int):Fr:=[(1,.ptr 0 1 0 0),(2,.ptr 1 1 0 0),(4,.ptr 2 1 0 0),(5,.ptr 3 1 0 0),(22,.sl 2 (F.map plV) .perm),(23,.int .i64 n),(24,.int .i64 i)]
abbrev hpG(m:Zb)(F:List (Bool ×Sl))(i:Nat)(a:Bool ×Sl)(d1 d2:List V):Zg:=[.arr [m.v],.arr [fG],.arr [gG i],.arr [plV a],.arr d1,.arr d2,.arr (bS (F.take i)),.arr (sS (F.take i))]
def ZDT(m:Zb)(F:List (Bool ×Sl))(n:Nat)(q:Option (Int ×Int)×(Bool ×Sl))(res:Option (Ex ×Fr ×Zg)):Prop:=
 match q.1 with
 |none=> ∃fr d1 d2,res=some (.brk 0,(1,.ptr 0 1 0 0)::(2,.ptr 1 1 0 0)::(4,.ptr 2 1 0 0)::(5,.ptr 3 1 0 0)::fr,hpG m F n q.2 d1 d2)
 |some (a,k)=> ∃B hh,XR (.arr [m.v]::.arr [fG]::hh) B 1=some [wrV 4 a k 11]∧res=some (.ret,[(2,.ptr 1 1 0 0),(3,.iface 149 (.ptr B 1 0 0))],.arr [m.v]::.arr [fG]::hh)
theorem ZEj(fr:Fr)(a b:Nat)(i k:Int)(e1:lk fr a=.int .i64 i)(e2:lk fr b=.int .i64 k):
 Zf fr (.build [.int .i64 0,.int .i64 0,.int .i64 0,.int .i64 0] [(0,1,.c (.int .i64 4)),(1,1,.t a),(2,1,.t b),(3,1,.c (.int .i64 11))])=some (wrV 4 i k 11):=by
 simp[Zf,ZC,e1,e2,wrV]
section
variable (m : Zb) (hm : Clo m) (n : Nat) (hn : m.States.l.length = n) (hn2 : n ≤ 16) (hg : ∀ i x, Zh m.States.l i = some x → ZDI m x) (F : List (Bool × Sl)) (hF : F.length = n)
include hm hn hn2 hg hF in
set_option maxRecDepth 100000 in
set_option maxHeartbeats 4000000 in
theorem ZFs(x:ZJ)(r:List ZJ)(i:Nat)(a:Bool ×Sl)(d1 d2:List V)(hd:m.States.l.drop i=x::r):let q:=F.getD i (false,0)
 let out:=ZDw x.Exts.l q.2
 let l0:=(orc vp).loop 0 [1,2,4,5,22,23,24] ZDA (frG F n (i:Int)) (hpG m F i a d1 d2)
 let l1:=fun b d e=>(orc vp).loop 0 [1,2,4,5,22,23,24] ZDA (frG F n ((i+1:Nat):Int)) (hpG m F (i+1) b d e)
 (q.1=false→∃d e,l0=l1 a d e)∧(q.1=true→0≤JO x.Keys.l out→ZDT m F n (some ((i:Int),JO x.Keys.l out),a) l0)∧(q.1=true→¬0≤JO x.Keys.l out→∃d e,l0=l1 (if(-1:Int)∈ZGb x then Js a out else a) d e):=by
 intro q out l0 l1
 have hi2:i<n:=by
  have:i<m.States.l.length:=by
   rcases Nat.lt_or_ge i m.States.l.length with h|h
   ·exact h
   ·rw[List.drop_eq_nil_of_le h]at hd;simp at hd
  omega
 have hlt:(i:Int)<n:=by omega
 have hx:m.States.l[i]? =some x:=by
  have:=congrArg (fun q=>q[0]?) hd
  simpa using this
 have hx':Zh m.States.l (i:Int)=some x:=by simp[Zh,hx]
 obtain⟨i2,hi3⟩: ∃i2,i+1=i2:=⟨_,rfl⟩
 have w1:IntKind.i64.wrap ((i:Int)+1)=(i2:Int):=by rw[ZK (by omega) (by omega)];omega
 have hcl:Ze (GL.v 5 ZJ.v m.States)=true:=by
  simp only[Clo,Zb.closed,Bool.and_eq_true]at hm;simp[hm]
 have hxc:=Xc hcl hx'
 have hgx:=hg _ _ hx'
 have hq:F[i]? =some q:=by
  have:i<F.length:=by omega
  show _=some (F.getD i (false,0))
  rw[List.getD_eq_getElem?_getD,List.getElem?_eq_getElem this];rfl
 have g1:Yb 2 (.sl 2 (F.map plV) .perm) (.int .i64 (i:Int))=some (.eptr (plV q) 0 .perm):=by
  rw[Y7];simp[Zh,hq]
 have hl2: ∀a,ldc (plV a) true 2 0=some (plV a):=fun a=>QE rfl
 have hs2: ∀a b,stc (plV a) 2 0 (plV b)=some (plV b):=fun a b=>Zie rfl rfl
 have hz:V.agg [.bool false,.int .u64 0]=plV (false,0):=rfl
 have hp0: ∀a,ldc (plV a) false 1 0=some (.bool a.1):=fun _=>rfl
 have hp1: ∀a,ldc (plV a) false 1 1=some (sV a.2):=fun _=>rfl
 have et:F.take i2=F.take i++[q]:=by rw[←hi3,List.take_add_one,hq];rfl
 have eb:bS (F.take i2)=bS (F.take i)++[.bool q.1]:=by rw[et];simp[bS]
 have es:sS (F.take i2)=sS (F.take i)++[sV q.2]:=by rw[et];simp[sS]
 have hs1:=fun fr=>slK fr 1 37 (.bool q.1) rfl rfl
 have hs3:=fun fr=>slK fr 1 43 (sV q.2) rfl rfl
 have hfz: ∀fr,Zf fr (.build [.sl 1 [] .nl,.sl 1 [] .nl,.int .u64 0,.bool false,.int .i64 0,.int .i64 0] [])=some fG:=fun _=>rfl
 have lz: ∀(h:Zg) v,Wl h 1 (.sl 1 [v] .ce)=some [v]:=fun _ _=>rfl
 have hbe:Zc vp 472 [x.v,sV q.2]=some (sV out):=ZD6 x q.2
 have hke:=ZFm x out
 have hnx:=ZD0 x (by have:=hgx.cases;omega)
 have hnv:nxV x=.sl 1 ((ZGb x).map J6) (nxT x):=rfl
 have hct:=Zbc (-1) (ZGb x) (nxT x) (by have:=hgx.cases;unfold ZGb;simp;omega)
 have hme:=ZEk a out
 have hnb:=fun k=>Yq (k:=k) (f:=J6) (fun _=>rfl) (ZGb x)
 have hwr:=fun fr=>ZEj ((62,.int .i64 (JO x.Keys.l out))::(61,.int .i64 (i:Int))::fr) 61 62 (i:Int) (JO x.Keys.l out) (by simp) (by simp)
 have hwo: ∀k,okV (wrV 4 (i:Int) k 11)=true:=fun _=>rfl
 have pb:=fun k=>Uy k
 rw[hnv]at hnx
 have lb:(bS (F.take i)).length=i:=by simp[bS];omega
 have ls:(sS (F.take i)).length=i:=by simp[sS];omega
 have ab: ∀a b c d e f g h k l,X3 0 [a,b,c,d,e,f,.arr (bS (F.take i)),g,h,k] 1 1 (.gsl 6 i 1 0 i) [.bool l]=some (.gsl 6 i2 1 0 i2,[a,b,c,d,e,f,.arr (bS (F.take i)++[.bool l]),g,h,k]):=fun a b c d e f g h k l=>by
  rw[KY (es:=bS (F.take i)) (by simp) lb (by omega) rfl (by unfold YC;simp;omega)]
  simp[hi3]
 have as_: ∀a b c d e f g h k l,X3 0 [a,b,c,d,e,f,g,.arr (sS (F.take i)),h,k] 1 8 (.gsl 7 i 1 0 i) [sV l]=some (.gsl 7 i2 1 0 i2,[a,b,c,d,e,f,g,.arr (sS (F.take i)++[sV l]),h,k]):=fun a b c d e f g h k l=>by
  rw[KY (es:=sS (F.take i)) (by simp) ls (by omega) rfl (by unfold YC;simp;omega)]
  simp[hi3]
 have bb: ∀k,Zo k (bS (F.take i))=true:=fun k=>Yq (fun _=>rfl) _
 have bs: ∀k,Zo k (sS (F.take i))=true:=fun k=>Yq (fun _=>rfl) _
 have bb2: ∀k,Zo k (bS (F.take i2))=true:=fun k=>Yq (fun _=>rfl) _
 have bs2: ∀k,Zo k (sS (F.take i2))=true:=fun k=>Yq (fun _=>rfl) _
 rw[eb]at bb2
 rw[es]at bs2
 refine⟨fun c=>⟨d1,d2,?_⟩,fun c hk=> ?_,fun c hk=> ?_⟩
 ·show(orc vp).loop 0 [1,2,4,5,22,23,24] ZDA (frG F n (i:Int)) (hpG m F i a d1 d2)=_
  simp only[l1,hpG,frG,hi3,eb,es]
  rw[c]at hs1 bb2⊢
  rw[ZDK]
  simp -implicitDefEqProofs [ZDC,hlt,hx',hxc,g1,hl2,hs2,hz,hp0,hp1,hs1,hs3,hfz,lz,ab,as_,bb,bs,bb2,bs2,w1,c,Xd,Uk,Tx.E,Tx.D,Tx.mv,Tx.nk,Tx.fa,Tx.ld,Tx.ia,Tx.it,Tx.st,Xg,ZT]
 ·show ZDT m F n _ ((orc vp).loop 0 [1,2,4,5,22,23,24] ZDA (frG F n (i:Int)) (hpG m F i a d1 d2))
  simp only[ZDT]
  rw[c]at hs1
  rw[ZDK]
  simp -implicitDefEqProofs [ZDC,hlt,hx',hxc,g1,hl2,hs2,hz,hp0,hp1,hs1,hs3,hfz,lz,ab,as_,bb,bs,bb2,bs2,w1,c,hbe,hke,hk,hwr,hwo,Xd,Uk,Tx.E,Tx.D,Tx.mv,Tx.nk,Tx.fa,Tx.ld,Tx.ia,Tx.it,Tx.st,Xg,ZT]
 ·show∃d e,(orc vp).loop 0 [1,2,4,5,22,23,24] ZDA (frG F n (i:Int)) (hpG m F i a d1 d2)=_
  refine⟨d1,d2,?_⟩
  simp only[l1,hpG,frG,hi3,eb,es]
  rw[c]at hs1 bb2⊢
  rw[ZDK]
  by_cases c2:(-1:Int)∈ZGb x
  ·rw[if_pos c2]
   simp -implicitDefEqProofs [ZDC,hlt,hx',hxc,g1,hl2,hs2,hz,hp0,hp1,hs1,hs3,hfz,lz,ab,as_,bb,bs,bb2,bs2,w1,c,hbe,hke,hk,hnx,hnb,hct,c2,hme,Xd,Uk,Tx.E,Tx.D,Tx.mv,Tx.nk,Tx.fa,Tx.ld,Tx.ia,Tx.it,Tx.st,Xg,ZT]
  ·rw[if_neg c2]
   simp -implicitDefEqProofs [ZDC,hlt,hx',hxc,g1,hl2,hs2,hz,hp0,hp1,hs1,hs3,hfz,lz,ab,as_,bb,bs,bb2,bs2,w1,c,hbe,hke,hk,hnx,hnb,hct,c2,hme,Xd,Uk,Tx.E,Tx.D,Tx.mv,Tx.nk,Tx.fa,Tx.ld,Tx.ia,Tx.it,Tx.st,Xg,ZT]
include hm hn hn2 hg hF in
set_option maxRecDepth 100000 in
set_option maxHeartbeats 4000000 in
theorem ZFo(x:ZJ)(r:List ZJ)(a:Bool ×Sl)(hd:m.States.l=x::r):let q:=F.getD 0 (false,0)
 let out:=ZDw x.Exts.l q.2
 let l0:=(orc vp).loop 0 [1,2,4,5,22,23,24] ZDA (frG F n 0) ([.arr [m.v],.arr [fG],.arr [fG],.arr [plV a]])
 let l1:=fun b d e=>(orc vp).loop 0 [1,2,4,5,22,23,24] ZDA (frG F n ((0+1:Nat):Int)) (hpG m F (0+1) b d e)
 (q.1=false→∃d e,l0=l1 a d e)∧(q.1=true→0≤JO x.Keys.l out→ZDT m F n (some ((((0:Nat):Int):Int),JO x.Keys.l out),a) l0)∧(q.1=true→¬0≤JO x.Keys.l out→∃d e,l0=l1 (if(-1:Int)∈ZGb x then Js a out else a) d e):=by
 intro q out l0 l1
 have hi2:0<n:=by rw[←hn,hd];simp
 have hlt:(0:Int)<n:=by omega
 have hn0: ¬n=0:=by omega
 have hx':Zh m.States.l (0:Int)=some x:=by rw[hd];rfl
 have w1:IntKind.i64.wrap 1=((1:Nat):Int):=by rw[ZK (by omega) (by omega)];rfl
 have hcl:Ze (GL.v 5 ZJ.v m.States)=true:=by
  simp only[Clo,Zb.closed,Bool.and_eq_true]at hm;simp[hm]
 have hxc:=Xc hcl hx'
 have hgx:=hg _ _ hx'
 have hq:F[0]? =some q:=by
  have:0<F.length:=by omega
  show _=some (F.getD 0 (false,0))
  rw[List.getD_eq_getElem?_getD,List.getElem?_eq_getElem this];rfl
 have g1:Yb 2 (.sl 2 (F.map plV) .perm) (.int .i64 0)=some (.eptr (plV q) 0 .perm):=by
  rw[Y7];simp[Zh,hq]
 have hl2: ∀a,ldc (plV a) true 2 0=some (plV a):=fun a=>QE rfl
 have hs2: ∀a b,stc (plV a) 2 0 (plV b)=some (plV b):=fun a b=>Zie rfl rfl
 have hz:V.agg [.bool false,.int .u64 0]=plV (false,0):=rfl
 have hp0: ∀a,ldc (plV a) false 1 0=some (.bool a.1):=fun _=>rfl
 have hp1: ∀a,ldc (plV a) false 1 1=some (sV a.2):=fun _=>rfl
 have et:F.take 1=F.take 0++[q]:=by rw[List.take_add_one,hq];rfl
 have eb:bS (F.take 1)=bS (F.take 0)++[.bool q.1]:=by rw[et];simp[bS]
 have es:sS (F.take 1)=sS (F.take 0)++[sV q.2]:=by rw[et];simp[sS]
 have hs1:=fun fr=>slK fr 1 37 (.bool q.1) rfl rfl
 have hs3:=fun fr=>slK fr 1 43 (sV q.2) rfl rfl
 have hfz: ∀fr,Zf fr (.build [.sl 1 [] .nl,.sl 1 [] .nl,.int .u64 0,.bool false,.int .i64 0,.int .i64 0] [])=some fG:=fun _=>rfl
 have lz: ∀(h:Zg) v,Wl h 1 (.sl 1 [v] .ce)=some [v]:=fun _ _=>rfl
 have hbe:Zc vp 472 [x.v,sV q.2]=some (sV out):=ZD6 x q.2
 have hke:=ZFm x out
 have hnx:=ZD0 x (by have:=hgx.cases;omega)
 have hnv:nxV x=.sl 1 ((ZGb x).map J6) (nxT x):=rfl
 have hct:=Zbc (-1) (ZGb x) (nxT x) (by have:=hgx.cases;unfold ZGb;simp;omega)
 have hme:=ZEk a out
 have hnb:=fun k=>Yq (k:=k) (f:=J6) (fun _=>rfl) (ZGb x)
 have hwr:=fun fr=>ZEj ((62,.int .i64 (JO x.Keys.l out))::(61,.int .i64 0)::fr) 61 62 0 (JO x.Keys.l out) (by simp) (by simp)
 have hwo: ∀k,okV (wrV 4 0 k 11)=true:=fun _=>rfl
 have pb:=fun k=>Uy k
 rw[hnv]at hnx
 have hb0:bS (F.take 0)=[]:=rfl
 have hs0:sS (F.take 0)=[]:=rfl
 rw[hb0]at eb
 rw[hs0]at es
 simp only[List.nil_append]at eb es
 have ab: ∀a b c d e f,X3 0 [a,b,c,d,e,f] 1 1 (.sl 1 [] .nl) [.bool q.1]=some (.gsl 6 1 1 0 1,[a,b,c,d,e,f,.arr [.bool q.1]]):=fun a b c d e f=>by simp[X3,Qh,YC]
 have as_: ∀a b c d e f g,X3 0 [a,b,c,d,e,f,g] 1 8 (.sl 1 [] .nl) [sV q.2]=some (.gsl 7 1 1 0 1,[a,b,c,d,e,f,g,.arr [sV q.2]]):=fun a b c d e f g=>by simp[X3,Qh,YC]
 have hgl: ∀fr A B D E G,X1 vp [.arr [m.v],.arr [fG],.arr [fG],.arr [plV a]] fr [.arr [m.v],.arr [fG],.arr [gG 1],A,B,D,E,G]=[.arr [m.v],.arr [fG],.arr [gG 1],A,B,D,E,G]:=fun fr A B D E G=>ZfR (by
  have:(Je (.arr [gG 1]) (.arr [fG])||Vj 4 (.arr [gG 1]))=false:=rfl
  simp only[ZjR,Zfg,List.length_cons,List.length_nil,this];simp)
 refine⟨fun c=>⟨[plV q],[x.v],?_⟩,fun c hk=> ?_,fun c hk=> ?_⟩
 ·show(orc vp).loop 0 [1,2,4,5,22,23,24] ZDA (frG F n 0) ([.arr [m.v],.arr [fG],.arr [fG],.arr [plV a]])=_
  simp only[l1,hpG,frG,Nat.zero_add,eb,es]
  rw[c]at hs1 ab⊢
  rw[ZDK]
  simp -implicitDefEqProofs [ZDC,hlt,hx',hxc,g1,hl2,hs2,hz,hp0,hp1,hs1,hs3,hfz,lz,ab,as_,hgl,hi2,hn0,w1,c,Xd,Uk,Tx.E,Tx.D,Tx.mv,Tx.nk,Tx.fa,Tx.ld,Tx.ia,Tx.it,Tx.st,Xg,ZT]
 ·show ZDT m F n _ ((orc vp).loop 0 [1,2,4,5,22,23,24] ZDA (frG F n 0) ([.arr [m.v],.arr [fG],.arr [fG],.arr [plV a]]))
  simp only[ZDT]
  rw[c]at hs1 ab
  rw[ZDK]
  simp -implicitDefEqProofs [ZDC,hlt,hx',hxc,g1,hl2,hs2,hz,hp0,hp1,hs1,hs3,hfz,lz,ab,as_,hgl,hi2,hn0,w1,c,hbe,hke,hk,hwr,hwo,Xd,Uk,Tx.E,Tx.D,Tx.mv,Tx.nk,Tx.fa,Tx.ld,Tx.ia,Tx.it,Tx.st,Xg,ZT]
 ·show∃d e,(orc vp).loop 0 [1,2,4,5,22,23,24] ZDA (frG F n 0) ([.arr [m.v],.arr [fG],.arr [fG],.arr [plV a]])=_
  refine⟨[plV q],[x.v],?_⟩
  simp only[l1,hpG,frG,Nat.zero_add,eb,es]
  rw[c]at hs1 ab⊢
  rw[ZDK]
  by_cases c2:(-1:Int)∈ZGb x
  ·rw[if_pos c2]
   simp -implicitDefEqProofs [ZDC,hlt,hx',hxc,g1,hl2,hs2,hz,hp0,hp1,hs1,hs3,hfz,lz,ab,as_,hgl,hi2,hn0,w1,c,hbe,hke,hk,hnx,hnb,hct,c2,hme,Xd,Uk,Tx.E,Tx.D,Tx.mv,Tx.nk,Tx.fa,Tx.ld,Tx.ia,Tx.it,Tx.st,Xg,ZT]
  ·rw[if_neg c2]
   simp -implicitDefEqProofs [ZDC,hlt,hx',hxc,g1,hl2,hs2,hz,hp0,hp1,hs1,hs3,hfz,lz,ab,as_,hgl,hi2,hn0,w1,c,hbe,hke,hk,hnx,hnb,hct,c2,hme,Xd,Uk,Tx.E,Tx.D,Tx.mv,Tx.nk,Tx.fa,Tx.ld,Tx.ia,Tx.it,Tx.st,Xg,ZT]
end
end Go.VE.Un
namespace Go.VE.Un
open Go.VE
section
variable (m : Zb) (hm : Clo m) (n : Nat) (hn : m.States.l.length = n) (hn2 : n ≤ 16) (hg : ∀ i x, Zh m.States.l i = some x → ZDI m x) (F : List (Bool × Sl)) (hF : F.length = n)
include hm hn hn2 hg hF in
theorem ZET: ∀(r:List ZJ) (i:Nat) (a:Bool ×Sl) (d1 d2:List V),m.States.l.drop i=r→i≤n→
 ZDT m F n (ctR F r i a) ((orc vp).loop 0 [1,2,4,5,22,23,24] ZDA (frG F n (i:Int)) (hpG m F i a d1 d2)):=by
 intro r
 induction r with
 |nil=>
  intro i a d1 d2 hd hi
  have hin:i=n:=by
   have:m.States.l.length≤i:=List.drop_eq_nil_iff.1 hd
   omega
  subst hin
  refine⟨[(22,.sl 2 (F.map plV) .perm),(23,.int .i64 i),(24,.int .i64 i),(25,.bool false)],d1,d2,?_⟩
  show(orc vp).loop 0 [1,2,4,5,22,23,24] ZDA (frG F i (i:Int)) (hpG m F i a d1 d2)=some (.brk 0,_,hpG m F i a d1 d2)
  rw[ZDK]
  simp -implicitDefEqProofs [ZDC]
 |cons x r ih=>
  intro i a d1 d2 hd hi
  have hi2:i<n:=by
   have:i<m.States.l.length:=by
    rcases Nat.lt_or_ge i m.States.l.length with h|h
    ·exact h
    ·rw[List.drop_eq_nil_of_le h]at hd;simp at hd
   omega
  have hd':m.States.l.drop (i+1)=r:=by
   have:=congrArg (List.drop 1) hd
   simpa using this
  obtain⟨t1,t2,t3⟩:=ZFs m hm n hn hn2 hg F hF x r i a d1 d2 hd
  simp only[ctR]
  cases hq:(F.getD i (false,0)).1 with
  |false=>
   obtain⟨d,e,h⟩:=t1 hq
   rw[if_pos rfl,h]
   exact ih (i+1) _ d e hd' hi2
  |true=>
   rw[if_neg (by simp)]
   by_cases hk:0≤JO x.Keys.l (ZDw x.Exts.l (F.getD i (false,0)).2)
   ·rw[if_pos hk];exact t2 hq hk
   ·obtain⟨d,e,h⟩:=t3 hq hk
    rw[if_neg hk,h]
    exact ih (i+1) _ d e hd' hi2
include hm hn hn2 hg hF in
theorem ZFE(h0:0<n)(a:Bool ×Sl):
 ZDT m F n (ctR F m.States.l 0 a) ((orc vp).loop 0 [1,2,4,5,22,23,24] ZDA (frG F n 0) [.arr [m.v],.arr [fG],.arr [fG],.arr [plV a]]):=by
 cases hd:m.States.l with
 |nil=>rw[hd]at hn;simp at hn;omega
 |cons x r=>
  obtain⟨t1,t2,t3⟩:=ZFo m hm n hn hn2 hg F hF x r a hd
  have hd':m.States.l.drop 1=r:=by rw[hd];rfl
  simp only[ctR]
  cases hq:(F.getD 0 (false,0)).1 with
  |false=>
   obtain⟨d,e,h⟩:=t1 hq
   rw[if_pos rfl,h]
   exact ZET m hm n hn hn2 hg F hF r 1 _ d e hd' h0
  |true=>
   rw[if_neg (by simp)]
   by_cases hk:0≤JO x.Keys.l (ZDw x.Exts.l (F.getD 0 (false,0)).2)
   ·rw[if_pos hk];exact t2 hq hk
   ·obtain⟨d,e,h⟩:=t3 hq hk
    rw[if_neg hk,h]
    exact ZET m hm n hn hn2 hg F hF r 1 _ d e hd' h0
end
def ZFp(m:Zb)(F:List (Bool ×Sl))(a:Bool ×Sl):V:=.agg [.sl 1 (bS F) .perm,.sl 1 (sS F) .perm,sV a.2,.bool a.1,.int .i64 (ZEh m),.int .i64 (ZEi m)]
set_option maxRecDepth 100000 in
set_option maxHeartbeats 4000000 in
theorem ZFk(m:Zb)(hm:Clo m)(hsm:Z2 m)(hc:Yr m=none): ∃F,SpR m.States.l (ZDX m.States.l.length) F∧F.length=m.States.l.length∧ZDx m.States.l 0 false F=(false,F)∧
 Zc vp 468 [m.v]=some (match ctR F m.States.l 0 (false,ZEx m)with
  |(some (a,k),_)=>.tup [fG,.iface 149 (.eptr (wrV 4 a k 11) 0 .perm)]
  |(none,a)=>.tup [ZFp m F a,.nili]):=by
 have hck:=ZeP m hm hsm
 rw[hc]at hck
 obtain⟨F,f1,f2,f3,f4⟩:=ZFd m hm hc
 refine⟨F,f1,f2,f3,?_⟩
 obtain⟨h0,h16,hg⟩:=ZDO hc
 obtain⟨n,hn⟩: ∃n,m.States.l.length=n:=⟨_,rfl⟩
 rw[hn]at h0 h16 f2
 have hall:=ZFK m (ZtQ hc).2
 have hmo:=ZFx m hm hsm hc
 have hl:=ZFE m hm n hn h16 hg F f2 h0 (false,ZEx m)
 have hlf:((F.map plV).length:Int)=n:=by simp[f2]
 have hpb: ∀fr,Zf ((19,sV (ZEx m))::fr) (.build [.bool false,.int .u64 0] [(1,1,.t 19)])=some (plV (false,ZEx m)):=fun fr=>by simp[Zf,ZC,plV,sV]
 have hs2: ∀a b,stc (plV a) 2 0 (plV b)=some (plV b):=fun a b=>Zie rfl rfl
 have hz:V.agg [.bool false,.int .u64 0]=plV (false,0):=rfl
 have bl:=fun k=>Yq (k:=k) (fun q=>Uy k q) F
 generalize ctR F m.States.l 0 (false,ZEx m)=q at hl⊢
 obtain⟨o,a⟩:=q
 cases o with
 |some w=>
  obtain⟨i,k⟩:=w
  obtain⟨B,hh,h1,h2⟩:=hl
  have hwc:Ze (wrV 4 i k 11)=true:=rfl
  simp only[frG]at h2
  rw[Za ZFb]
  generalize F.map plV=W at*
  simp -implicitDefEqProofs [f468,b468,hck,f4,hall,hlf,hpb,hs2,hz,h2,h1,hwc]
 |none=>
  obtain⟨fr,d1,d2,h2⟩:=hl
  have et:F.take n=F:=List.take_of_length_le (by omega)
  simp only[frG,hpG,et]at h2
  have cb:=Zle F
  have cs:=ZkK F
  have k1:YG (bS F) n=some (bS F):=Yt (by simp[bS,f2])
  have k2:YG (sS F) n=some (sS F):=Yt (by simp[sS,f2])
  have k3:ZaK n 0 n (bS F)=some (bS F):=Qy (by simp[bS,f2])
  have k4:ZaK n 0 n (sS F)=some (sS F):=Qy (by simp[sS,f2])
  obtain⟨a1,a2⟩:=a
  have hp0: ∀a,ldc (plV a) false 1 0=some (.bool a.1):=fun _=>rfl
  have hp1: ∀a,ldc (plV a) false 1 1=some (sV a.2):=fun _=>rfl
  simp only[ZFp]
  rw[Za ZFb]
  generalize F.map plV=W at*
  generalize bS F=B at*
  generalize sS F=D at*
  generalize ZEh m=y1 at*
  generalize ZEi m=y2 at*
  simp -implicitDefEqProofs [f468,b468,hck,f4,hall,hlf,hpb,hs2,hz,h2,hmo,hp0,hp1,k1,k2,k3,k4,cb,cs,KZ,Xd,Uk,Zhh,UE,Tx.E,Tx.D,Tx.mv,Tx.nk,Tx.fa,Tx.ld,Tx.st,Tx.i0,Tx.ln,Tx.ia,Tx.la,Tx.ct,Xg,ZT]
end Go.VE.Un
namespace Go.VE.Un
open Go.VE
theorem ZGf(out:Sl): ∀(l:List Int) (P:List (Bool ×Sl)),(ZDB out l true P).1=true
 |[],_=>rfl
 |t::r,P=>by
  simp only[ZDB]
  split
  ·exact ZGf out r P
  ·split
   ·exact ZGf out r P
   ·exact ZGf out r _
theorem ZGA(out:Sl): ∀(l:List Int) (c:Bool) (P:List (Bool ×Sl)),(ZDB out l c P).1=false→ZDB out l c P=(c,P)∧c=false∧∀t∈l,0≤t→Js (P.getD t.toNat (false,0)) out=P.getD t.toNat (false,0)
 |[],c,P,h=>⟨rfl,h,fun t ht=>by simp at ht⟩
 |t::r,c,P,h=>by
  simp only[ZDB]at h⊢
  split at h
  ·rename_i c0
   rw[if_pos c0]
   obtain⟨h1,h2,h3⟩:=ZGA out r c P h
   refine⟨h1,h2,fun u hu h0=> ?_⟩
   rcases List.mem_cons.1 hu with rfl|hu
   ·omega
   ·exact h3 u hu h0
  ·rename_i c0
   rw[if_neg c0]
   split at h
   ·rename_i c1
    rw[if_pos c1]
    obtain⟨h1,h2,h3⟩:=ZGA out r c P h
    refine⟨h1,h2,fun u hu h0=> ?_⟩
    rcases List.mem_cons.1 hu with rfl|hu
    ·exact c1
    ·exact h3 u hu h0
   ·rw[ZGf]at h;simp at h
theorem ZGj: ∀(l:List ZJ) (i:Nat) (P:List (Bool ×Sl)),(ZDx l i true P).1=true
 |[],_,_=>rfl
 |x::r,i,P=>by
  simp only[ZDx]
  split
  ·exact ZGj r _ P
  ·have:=ZGf (ZDw x.Exts.l (P.getD i (false,0)).2) (ZGb x) P
   rw[this];exact ZGj r _ _
def ZHu(F:List (Bool ×Sl))(i:Nat)(x:ZJ):Prop:=
 (F.getD i (false,0)).1=true→∀t∈ZGb x,0≤t→Js (F.getD t.toNat (false,0)) (ZDw x.Exts.l (F.getD i (false,0)).2)=F.getD t.toNat (false,0)
theorem ZGp: ∀(l:List ZJ) (i:Nat) (c:Bool) (P:List (Bool ×Sl)),(ZDx l i c P).1=false→c=false∧∀(k:Nat) x,l[k]? =some x→ZHu P (i+k) x
 |[],i,c,P,h=>⟨h,fun k x hx=>by simp at hx⟩
 |y::r,i,c,P,h=>by
  simp only[ZDx]at h
  split at h
  ·rename_i c0
   obtain⟨h1,h2⟩:=ZGp r (i+1) c P h
   refine⟨h1,fun k x hx=> ?_⟩
   cases k with
   |zero=>intro h0;rw[Nat.add_zero]at h0;rw[c0]at h0;simp at h0
   |succ k=>have:=h2 k x (by simpa using hx);rwa[Nat.add_right_comm]at this
  ·cases hq:(ZDB (ZDw y.Exts.l (P.getD i (false,0)).2) (ZGb y) c P).1 with
   |true=>rw[hq,ZGj]at h;simp at h
   |false=>
    obtain⟨g1,g2,g3⟩:=ZGA _ _ _ _ hq
    rw[g1]at h
    obtain⟨h1,h2⟩:=ZGp r (i+1) c P h
    refine⟨g2,fun k x hx=> ?_⟩
    cases k with
    |zero=>
     simp only[List.getElem?_cons_zero,Option.some.injEq]at hx
     subst hx
     intro h0 t ht t0
     exact g3 t ht t0
    |succ k=>have:=h2 k x (by simpa using hx);rwa[Nat.add_right_comm]at this
theorem ZHh{p:Bool ×Sl}{s:Sl}(h:Js p s=p):p.1=true∧Xv p.2 s:=by
 obtain⟨r,t⟩:=p
 cases r with
 |false=>simp[Js]at h
 |true=>
  simp only[Js,if_true,Prod.mk.injEq,true_and]at h
  refine⟨rfl,fun k hk=> ?_⟩
  simp only at hk
  rw[←h,BitVec.getLsbD_and,Bool.and_eq_true]at hk
  exact hk.2
theorem ZHo{P:List (Bool ×Sl)}(h:P.getD 0 (false,0)=(true,0))(t:Nat)(s:Sl):(atP P t s).getD 0 (false,0)=(true,0):=by
 unfold atP
 rw[List.getD_eq_getElem?_getD]at h⊢
 rw[List.getElem?_set]
 split
 ·rename_i e
  subst e
  split
  ·rw[List.getD_eq_getElem?_getD,h]
   simp[Js]
  ·rename_i hl
   rw[List.getElem?_eq_none (by omega)]at h
   simp at h
 ·exact h
theorem ZGk(out:Sl): ∀(l:List Int) (c:Bool) (P:List (Bool ×Sl)),P.getD 0 (false,0)=(true,0)→(ZDB out l c P).2.getD 0 (false,0)=(true,0)
 |[],_,_,h=>h
 |t::r,c,P,h=>by
  simp only[ZDB]
  split
  ·exact ZGk out r c P h
  ·split
   ·exact ZGk out r c P h
   ·exact ZGk out r true _ (ZHo h _ _)
theorem ZGh: ∀(l:List ZJ) (i:Nat) (c:Bool) (P:List (Bool ×Sl)),P.getD 0 (false,0)=(true,0)→(ZDx l i c P).2.getD 0 (false,0)=(true,0)
 |[],_,_,_,h=>h
 |x::r,i,c,P,h=>by
  simp only[ZDx]
  split
  ·exact ZGh r _ _ P h
  ·exact ZGh r _ _ _ (ZGk _ _ _ _ h)
theorem ZHe{l:List ZJ}{P F:List (Bool ×Sl)}(h:SpR l P F)(hP:P.getD 0 (false,0)=(true,0)):F.getD 0 (false,0)=(true,0):=by
 induction h with
 |refl=>exact hP
 |step P F _ ih=>exact ih (ZGh _ _ _ _ hP)
theorem ZGQ{n:Nat}(h:0<n):(ZDX n).getD 0 (false,0)=(true,0):=by
 cases n with
 |zero=>omega
 |succ n=>rfl
theorem ZGe: ∀(l:List Ext) {s t:Sl},Xv s t→Xv (ZDw l s) (ZDw l t)
 |[],s,t,h=>h
 |x::r,s,t,h=>by
  simp only[ZDw]
  split
  ·exact ZGe r (h.with _)
  ·exact ZGe r h
end Go.VE.Un
