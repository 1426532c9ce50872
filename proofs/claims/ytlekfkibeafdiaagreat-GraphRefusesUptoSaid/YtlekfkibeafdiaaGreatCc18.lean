/- Joined texts: GrH, GrI, GrJ, GrK. No condition: what each theorem needs stands in it. -/
import Derived.Test.YtlekfkibeafdiaaGreatCc17
import Derived.Test.YtlekfkibeafdiaaGreatCc16
namespace Go.VE.Un
open Go.VE
theorem ZEz{m:Zb}: ∀(r:List Ext) (n:Int),(∀x∈r,WY m x=0)→n≤ZDL m r n∧ZDL m r n≤n+320*(r.length:Int)
 |[],n,_=>by simp[ZDL]
 |x::r,n,h=>by
  have h1:=ZEw (h x List.mem_cons_self)
  have h2:=ZEz r (n+ZDJ m x) fun y hy=>h y (List.mem_cons_of_mem _ hy)
  simp only[ZDL,List.length_cons]
  omega
theorem ZEd{bs:List Int}{M:Int}(hM:0≤M)(h: ∀t∈bs,0≤t∧t≤M): ∀(r:List Int) (a:Int),0≤a→a≤M→0≤mxL bs r a∧mxL bs r a≤M
 |[],a,h0,h1=>⟨h0,h1⟩
 |t::r,a,h0,h1=>by
  simp only[mxL]
  have hg:0≤bs.getD t.toNat 0∧bs.getD t.toNat 0≤M:=by
   rw[List.getD_eq_getElem?_getD]
   cases hx:bs[t.toNat]? with
   |none=>exact⟨Int.le_refl _,hM⟩
   |some y=>exact h y (List.mem_of_getElem? hx)
  split
  ·unfold mxI
   split
   ·exact ZEd hM h r _ hg.1 hg.2
   ·exact ZEd hM h r _ h0 h1
  ·exact ZEd hM h r _ h0 h1
def ZDP(m:Zb)(x:ZJ):Int:=ZDL m x.Exts.l 0
def ZDN(x:ZJ):Int:=1+(x.Exts.l.length:Int)
theorem ZEv{m:Zb}{bs:List Int}{M:Int}(hM:0≤M)(h: ∀t∈bs,0≤t∧t≤M){x:ZJ}(hx:ZDI m x):0≤ZDE m bs x∧ZDE m bs x≤M+1280:=by
 have h1:=ZEz x.Exts.l 0 (ZD2 hx.ext)
 have h2:=ZEd hM h (ZGb x) 0 (by omega) hM
 have h3:=hx.exts
 unfold ZDE;omega
theorem ZEy{m:Zb}{bs:List Int}{M:Int}(hM:0≤M)(h: ∀t∈bs,0≤t∧t≤M){x:ZJ}(hx:ZDI m x):0≤ZDF bs x∧ZDF bs x≤M+1280:=by
 have h2:=ZEd hM h (ZGb x) 0 (by omega) hM
 have h3:=hx.exts
 unfold ZDF;omega
theorem ZEn(X:List Int)(i:Nat)(v:Int):ivL (X.set i v)=(ivL X).set i (.int .i64 v):=List.map_set ..
section
variable (m : Zb) (hm : Clo m) (n : Nat) (hn : m.States.l.length = n) (hn2 : n ≤ 16) (hg : ∀ i x, Zh m.States.l i = some x → ZDI m x)
include hm hn hn2 hg in
set_option maxRecDepth 100000 in
theorem ZE7(h:Zg)(hok:Okh h)(B1 B2:Nat)(bs ss:List Int)(hm0:At h 0 1 [m.v])(hb:At h B1 n (ivL bs))(hs:At h B2 n (ivL ss))(hC:At h 3 n (ivL (m.States.l.map (ZDP m))))(hW:At h 4 n (ivL (m.States.l.map ZDN)))
 (lb:bs.length=n) (ls:ss.length=n) (M:Int) (hM:0≤M) (hM2:M≤1000000) (b1: ∀t∈bs,0≤t∧t≤M) (b2: ∀t∈ss,0≤t∧t≤M) (dep d:Int): ∀(r:List ZJ) (i:Nat) (X Y:List Int),i≤n→m.States.l.drop i=r→X.length=n→Y.length=n→∃fr,(orc vp).loop 0 [1,4,5,6,7,12,13,49,50,57,58,59] ZEL [(1,.ptr 0 1 0 0),(4,.gsl B1 n 1 0 n),(5,.gsl B2 n 1 0 n),(6,.gsl 3 n 1 0 n),(7,.gsl 4 n 1 0 n),(12,.gsl h.length n 1 0 n),(13,.gsl (h.length+1) n 1 0 n),(49,.int .i64 dep),(50,.int .i64 d),(57,GL.v 5 ZJ.v m.States),(58,.int .i64 n),(59,.int .i64 i)] (h++[.arr (ivL X),.arr (ivL Y)])=some (.brk 4,(1,.ptr 0 1 0 0)::(4,.gsl B1 n 1 0 n)::(5,.gsl B2 n 1 0 n)::(6,.gsl 3 n 1 0 n)::(7,.gsl 4 n 1 0 n)::(12,.gsl h.length n 1 0 n)::(13,.gsl (h.length+1) n 1 0 n)::(49,.int .i64 dep)::(50,.int .i64 d)::fr,h++[.arr (ivL (ZEg (ZDE m bs) r i X)),.arr (ivL (ZEg (ZDF ss) r i Y))]):=by
 have l1:=ZEZ hb
 have l2:=ZEZ hs
 have l3:=ZEZ hC
 have l4:=ZEZ hW
 have ho:=ZFB hok
 have hb': ∀t,XR (h++t) B1 n=some (ivL bs):=hb
 have hs': ∀t,XR (h++t) B2 n=some (ivL ss):=hs
 have hC': ∀t,XR (h++t) 3 n=some (ivL (m.States.l.map (ZDP m))):=hC
 have hW': ∀t,XR (h++t) 4 n=some (ivL (m.States.l.map ZDN)):=hW
 intro r
 induction r with
 |nil=>
  intro i X Y hi hd hX hY
  have hin:i=n:=by
   have:m.States.l.length≤i:=List.drop_eq_nil_iff.1 hd
   omega
  subst hin
  refine⟨[(57,GL.v 5 ZJ.v m.States),(58,.int .i64 i),(59,.int .i64 i),(60,.bool false)],?_⟩
  simp only[ZEg]
  rw[ZEX]
  simp -implicitDefEqProofs [ZD7]
 |cons x r ih=>
  intro i X Y hi hd hX hY
  have hi2:i<n:=by
   have:i<m.States.l.length:=by
    rcases Nat.lt_or_ge i m.States.l.length with h|h
    ·exact h
    ·rw[List.drop_eq_nil_of_le h]at hd;simp at hd
   omega
  have hlt:(i:Int)<n:=by omega
  have hx:m.States.l[i]? =some x:=by
   have:=congrArg (fun q=>q[0]?) hd
   simpa using this
  have hx':Zh m.States.l (i:Int)=some x:=by simp[Zh,hx]
  have hd':m.States.l.drop (i+1)=r:=by
   have:=congrArg (List.drop 1) hd
   simpa using this
  have hcl:Ze (GL.v 5 ZJ.v m.States)=true:=by
   simp only[Clo,Zb.closed,Bool.and_eq_true]at hm;simp[hm]
  have hxc:=Xc hcl hx'
  have hgx:=hg _ _ hx'
  obtain⟨i2,hi3⟩: ∃i2,i+1=i2:=⟨_,rfl⟩
  have w1:IntKind.i64.wrap ((i:Int)+1)=(i2:Int):=by rw[ZK (by omega) (by omega)];omega
  have hia: ∀B,Yb 1 (.gsl B n 1 0 n) (.int .i64 (i:Int))=some (.ptr B n i 0):=fun B=>by
   have:=iaG (B:=B) (z:=1) (ep:=n) (i:=(i:Int)) (by omega) hlt
   rwa[Int.toNat_natCast]at this
  have cX:YG (ivL X) n=some (ivL X):=Yt (by simp[hX])
  have cY:YG (ivL Y) n=some (ivL Y):=Yt (by simp[hY])
  have gX:=ZDV (i:=i) hX hi2
  have gY:=ZDV (i:=i) hY hi2
  have gC:(ivL (m.States.l.map (ZDP m)))[i]? =some (.int .i64 (ZDP m x)):=by rw[List.getElem?_map,List.getElem?_map,hx];rfl
  have gW:(ivL (m.States.l.map ZDN))[i]? =some (.int .i64 (ZDN x)):=by rw[List.getElem?_map,List.getElem?_map,hx];rfl
  have hnx:=ZD0 x (by have:=hgx.cases;omega)
  have hnl:(ZGb x).length≤9:=by have:=hgx.cases;unfold ZGb;simp;omega
  have hnb: ∀t∈ZGb x,t<(n:Int):=fun t ht=>by have:=(hgx.nx t ht).2;omega
  have hl:=ZE5 (h++[.arr (ivL X),.arr (ivL Y),.arr [x.v]]) B1 B2 n bs ss (hb _) (hs _) lb ls (ZGb x) (nxT x) hnb (by omega) (.ptr 0 1 0 0) (.gsl 3 n 1 0 n) (.gsl 4 n 1 0 n) (.gsl h.length n 1 0 n) (.gsl (h.length+1) n 1 0 n) (.int .i64 i)
   (.int .i64 dep) (.int .i64 d) (GL.v 5 ZJ.v m.States) (.int .i64 n) (.int .i64 i) (ZGb x) 0 0 0 (by omega) (by omega) rfl
  have nb:=ZEv hM b1 hgx
  have ns:=ZEy (m:=m) hM b2 hgx
  obtain⟨fr,ih⟩:=ih i2 (X.set i (ZDE m bs x)) (Y.set i (ZDF ss x)) (by omega) (by rw[←hi3];exact hd') (by simp[hX]) (by simp[hY])
  refine⟨fr,?_⟩
  have hA:=fun k=>ZDz k (X.set i (ZDE m bs x))
  have hD:=fun k=>ZDz k (Y.set i (ZDF ss x))
  rw[ZEn,ZEn]at ih
  rw[ZEn]at hA hD
  have w2:IntKind.i64.wrap (ZDE m bs x)=ZDE m bs x:=ZK (by omega) (by omega)
  have w3:IntKind.i64.wrap (ZDF ss x)=ZDF ss x:=ZK (by omega) (by omega)
  have q1:ZDE m bs x=ZDP m x+mxL bs (ZGb x) 0:=rfl
  have q2:ZDF ss x=ZDN x+mxL ss (ZGb x) 0:=rfl
  simp only[ZEg,hi3]
  rw[q1]at hA ih w2⊢
  rw[q2]at hD ih w3⊢
  have hml:((ivL (ZGb x)).length:Int)=(ZGb x).length:=by simp
  have hnv:nxV x=.sl 1 (ivL (ZGb x)) (nxT x):=rfl
  have htk: ∀a b c,(h++[a,b,c]).take (h.length+2)=h++[a,b]:=fun a b c=>by rw[List.take_length_add_append];rfl
  have hbl:=fun k=>ZDz k X
  have hbl2:=fun k=>ZDz k Y
  have k1:B1<h.length+2:=by omega
  have k2:B2<h.length+2:=by omega
  have k3:3<h.length+2:=by omega
  have k4:4<h.length+2:=by omega
  have k5:h.length<h.length+2:=by omega
  have k6:h.length+1<h.length+2:=by omega
  rw[hnv]at hnx
  rw[ZEX,←ih]
  generalize mxL bs (ZGb x) 0=z1 at*
  generalize mxL ss (ZGb x) 0=z2 at*
  generalize ZDP m x=z3 at*
  generalize ZDN x=z4 at*
  generalize ivL (ZGb x)=L at*
  generalize (ZGb x).length=ll at*
  generalize nxT x=tt at*
  generalize X.getD i 0=z5 at*
  generalize Y.getD i 0=z6 at*
  generalize ivL (m.States.l.map (ZDP m))=C at*
  generalize ivL (m.States.l.map ZDN)=W at*
  generalize ivL X=A at*
  generalize ivL Y=D at*
  simp -implicitDefEqProofs [ZD7,hlt,hx',hxc,hia,cX,cY,gX,gY,gC,gW,hC',hW',hnx,hml,hl,w1,w2,w3,hA,hD,hbl,hbl2,ho,htk,k1,k2,k3,k4,k5,k6]
end
end Go.VE.Un
namespace Go.VE.Un
open Go.VE
def ZEI(m:Zb):Nat→List Int→List Int
 |0,bs=>bs
 |j+1,bs=>ZEI m j (m.States.l.map (ZDE m bs))
def ZEN(m:Zb):Nat→List Int→List Int
 |0,ss=>ss
 |j+1,ss=>ZEN m j (m.States.l.map (ZDF ss))
theorem ZEs(m:Zb): ∀(j:Nat) (bs:List Int),bs.length=m.States.l.length→(ZEI m j bs).length=m.States.l.length
 |0,_,h=>h
 |j+1,bs,h=>ZEs m j _ (by simp)
theorem ZEt(m:Zb): ∀(j:Nat) (bs:List Int),bs.length=m.States.l.length→(ZEN m j bs).length=m.States.l.length
 |0,_,h=>h
 |j+1,bs,h=>ZEt m j _ (by simp)
section
variable (m : Zb) (hm : Clo m) (n : Nat) (hn : m.States.l.length = n) (h0 : 0 < n) (hn2 : n ≤ 16) (hg : ∀ i x, Zh m.States.l i = some x → ZDI m x)
include hm hn h0 hn2 hg in
set_option maxRecDepth 100000 in
theorem ZE3(dep:Nat)(hdep:dep≤32): ∀(j d:Nat) (h:Zg),Okh h→∀(B1 B2:Nat) (bs ss:List Int),At h 0 1 [m.v]→At h B1 n (ivL bs)→At h B2 n (ivL ss)→At h 3 n (ivL (m.States.l.map (ZDP m)))→At h 4 n (ivL (m.States.l.map ZDN))→bs.length=n→ss.length=n→(∀t∈bs,0≤t∧t≤1280*(d:Int))→(∀t∈ss,0≤t∧t≤1280*(d:Int))→d+j=dep→∃h' B1' B2' fr,At h' B1' n (ivL (ZEI m j bs))∧At h' B2' n (ivL (ZEN m j ss))∧(orc vp).loop 0 [1,4,5,6,7,49,50] ZEC [(1,.ptr 0 1 0 0),(4,.gsl B1 n 1 0 n),(5,.gsl B2 n 1 0 n),(6,.gsl 3 n 1 0 n),(7,.gsl 4 n 1 0 n),(49,.int .i64 dep),(50,.int .i64 d)] h=
 some (.brk 2,(1,.ptr 0 1 0 0)::(4,.gsl B1' n 1 0 n)::(5,.gsl B2' n 1 0 n)::fr,h'):=by
 intro j
 induction j with
 |zero=>
  intro d h hok B1 B2 bs ss hm0 hb hs hC hW lb ls b1 b2 hd
  have e:d=dep:=by omega
  subst e
  refine⟨h,B1,B2,[(6,.gsl 3 n 1 0 n),(7,.gsl 4 n 1 0 n),(49,.int .i64 d),(50,.int .i64 d),(51,.bool false)],hb,hs,?_⟩
  rw[ZEW]
  simp -implicitDefEqProofs [ZD8]
 |succ j ih=>
  intro d h hok B1 B2 bs ss hm0 hb hs hC hW lb ls b1 b2 hd
  have hlt:(d:Int)<dep:=by omega
  obtain⟨d2,hd2⟩: ∃d2,d+1=d2:=⟨_,rfl⟩
  have w1:IntKind.i64.wrap ((d:Int)+1)=(d2:Int):=by rw[ZK (by omega) (by omega)];omega
  have hc1:=fun kv=>ZFg (β:=Ex ×Fr ×Zg) 0 h B1 n (ivL bs) hb h0 (by omega) kv
  have hc2:=fun kv=>ZFg (β:=Ex ×Fr ×Zg) 0 (h++[.arr (ivL bs)]) B2 n (ivL ss) (ZEr hs _) h0 (by omega) kv
  have e1:(h++[Blk.arr (ivL bs)]).length=h.length+1:=by simp
  have e2:(h++[Blk.arr (ivL bs)])++[.arr (ivL ss)]=h++[.arr (ivL bs),.arr (ivL ss)]:=by simp
  rw[e1,e2]at hc2
  obtain⟨fr1,hl⟩:=ZE7 m hm n hn hn2 hg h hok B1 B2 bs ss hm0 hb hs hC hW lb ls (1280*(d:Int)) (by omega) (by omega) b1 b2 dep d m.States.l 0 bs ss (by omega) rfl lb ls
  have u1:ZEg (ZDE m bs) m.States.l 0 bs=m.States.l.map (ZDE m bs):=by rw[ZEl _ _ _ _ (by omega)];simp
  have u2:ZEg (ZDF ss) m.States.l 0 ss=m.States.l.map (ZDF ss):=by rw[ZEl _ _ _ _ (by omega)];simp
  rw[u1,u2]at hl
  have lX:(ivL (m.States.l.map (ZDE m bs))).length=n:=by simp[hn]
  have lY:(ivL (m.States.l.map (ZDF ss))).length=n:=by simp[hn]
  have mem: ∀x∈m.States.l,ZDI m x:=fun x hx=>by
   obtain⟨k,hk,he⟩:=List.getElem_of_mem hx
   exact hg (k:Int) x (by simp[Zh,hk,he])
  obtain⟨h',B1',B2',fr,r1,r2,r3⟩:=ih d2 (h++[.arr (ivL (m.States.l.map (ZDE m bs))),.arr (ivL (m.States.l.map (ZDF ss)))]) (ZFF hok (ZDH (ZDH ZES _) _)) h.length (h.length+1)
   (m.States.l.map (ZDE m bs)) (m.States.l.map (ZDF ss)) (ZEr hm0 _) (ZFM h _ lX) (ZFy h [] lY) (ZEr hC _) (ZEr hW _) (by simpa using lX) (by simpa using lY)
   (fun t ht=>by
     obtain⟨x,hx,rfl⟩:=List.mem_map.1 ht
     have:=ZEv (by omega) b1 (mem x hx);omega)
   (fun t ht=>by
     obtain⟨x,hx,rfl⟩:=List.mem_map.1 ht
     have:=ZEy (m:=m) (by omega) b2 (mem x hx);omega) (by omega)
  refine⟨h',B1',B2',fr,r1,r2,?_⟩
  have hm1: ∀t,XR (h++t) 0 1=some [m.v]:=hm0
  have hgl: ∀v fr b,X1 vp h ((1,v)::(4,.gsl h.length n 1 0 n)::fr) b=b:=fun v fr b=>ZEO (by simp)
  have hz:((0:Nat):Int)=0:=rfl
  rw[hz]at hl
  rw[ZEW,←r3]
  generalize ivL (m.States.l.map (ZDE m bs))=X at*
  generalize ivL (m.States.l.map (ZDF ss))=Y at*
  generalize ivL bs=A at*
  generalize ivL ss=D at*
  simp -implicitDefEqProofs [ZD8,hlt,hc1,hc2,hm1,hn,hl,hgl,w1]
include hm hn hn2 hg in
set_option maxRecDepth 100000 in
theorem ZE8(hsm:Z2 m): ∀(r:List ZJ) (k:Nat) (Z C W:List Int),k≤n→m.States.l.drop k=r→Z.length=k→C.length=k→W.length=k→∃fr,(orc vp).loop 0 [1,4,5,6,7,21,22,23] ZEQ [(1,.ptr 0 1 0 0),(4,.gsl 1 k 1 0 k),(5,.gsl 2 k 1 0 k),(6,.gsl 3 k 1 0 k),(7,.gsl 4 k 1 0 k),(21,GL.v 5 ZJ.v m.States),(22,.int .i64 n),(23,.int .i64 k)]
 [.arr [m.v],.arr (ivL Z),.arr (ivL Z),.arr (ivL C),.arr (ivL W)]=some (.brk 0,(1,.ptr 0 1 0 0)::(4,.gsl 1 n 1 0 n)::(5,.gsl 2 n 1 0 n)::(6,.gsl 3 n 1 0 n)::(7,.gsl 4 n 1 0 n)::fr,[.arr [m.v],.arr (ivL (Z++r.map fun _=>0)),.arr (ivL (Z++r.map fun _=>0)),.arr (ivL (C++r.map (ZDP m))),.arr (ivL (W++r.map ZDN))]):=by
 intro r
 induction r with
 |nil=>
  intro k Z C W hk hd hZ hC hW
  have hin:k=n:=by
   have:m.States.l.length≤k:=List.drop_eq_nil_iff.1 hd
   omega
  subst hin
  refine⟨[(21,GL.v 5 ZJ.v m.States),(22,.int .i64 k),(23,.int .i64 k),(24,.bool false)],?_⟩
  rw[ZE1]
  simp -implicitDefEqProofs [ZD3]
 |cons x r ih=>
  intro k Z C W hk hd hZ hC hW
  have hi2:k<n:=by
   have:k<m.States.l.length:=by
    rcases Nat.lt_or_ge k m.States.l.length with h|h
    ·exact h
    ·rw[List.drop_eq_nil_of_le h]at hd;simp at hd
   omega
  have hlt:(k:Int)<n:=by omega
  have hx:m.States.l[k]? =some x:=by
   have:=congrArg (fun q=>q[0]?) hd
   simpa using this
  have hx':Zh m.States.l (k:Int)=some x:=by simp[Zh,hx]
  have hd':m.States.l.drop (k+1)=r:=by
   have:=congrArg (List.drop 1) hd
   simpa using this
  have hcl:Ze (GL.v 5 ZJ.v m.States)=true:=by
   simp only[Clo,Zb.closed,Bool.and_eq_true]at hm;simp[hm]
  have hxc:=Xc hcl hx'
  have hgx:=hg _ _ hx'
  have hct:=ZFj m hm hsm x hgx
  obtain⟨k2,hk3⟩: ∃k2,k+1=k2:=⟨_,rfl⟩
  have w1:IntKind.i64.wrap ((k:Int)+1)=(k2:Int):=by rw[ZK (by omega) (by omega)];omega
  obtain⟨fr,ih⟩:=ih k2 (Z++[0]) (C++[ZDP m x]) (W++[ZDN x]) (by omega) (by rw[←hk3];exact hd') (by simp[hZ,hk3]) (by simp[hC,hk3]) (by simp[hW,hk3])
  refine⟨fr,?_⟩
  have ap: ∀(h:Zg) (B:Nat) (es:List Int) (v:Int),h[B]? =some (.arr (ivL es))→es.length=k→X3 0 h 1 8 (.gsl B k 1 0 k) [.int .i64 v]=some (.gsl B k2 1 0 k2,h.set B (.arr (ivL es++[.int .i64 v]))):=fun h B es v hB hE=>by
   rw[KY (es:=ivL es) hB (by simp[hE]) (by omega) rfl (by unfold YC;simp;omega)]
   simp[hk3]
  have a1: ∀a c d e f,X3 0 [a,.arr (ivL Z),c,d,e,f] 1 8 (.gsl 1 k 1 0 k) [.int .i64 0]=some (.gsl 1 k2 1 0 k2,[a,.arr (ivL Z++[.int .i64 0]),c,d,e,f]):=fun a c d e f=>by rw[ap _ 1 Z 0 rfl hZ];rfl
  have a2: ∀a c d e f,X3 0 [a,c,.arr (ivL Z),d,e,f] 1 8 (.gsl 2 k 1 0 k) [.int .i64 0]=some (.gsl 2 k2 1 0 k2,[a,c,.arr (ivL Z++[.int .i64 0]),d,e,f]):=fun a c d e f=>by rw[ap _ 2 Z 0 rfl hZ];rfl
  have a3: ∀a c d e f v,X3 0 [a,c,d,.arr (ivL C),e,f] 1 8 (.gsl 3 k 1 0 k) [.int .i64 v]=some (.gsl 3 k2 1 0 k2,[a,c,d,.arr (ivL C++[.int .i64 v]),e,f]):=fun a c d e f v=>by rw[ap _ 3 C v rfl hC];rfl
  have a4: ∀a c d e f v,X3 0 [a,c,d,e,.arr (ivL W),f] 1 8 (.gsl 4 k 1 0 k) [.int .i64 v]=some (.gsl 4 k2 1 0 k2,[a,c,d,e,.arr (ivL W++[.int .i64 v]),f]):=fun a c d e f v=>by rw[ap _ 4 W v rfl hW];rfl
  have hs0: ∀fr:Fr,Zf fr (.buildSl 1 [.c (.int .i64 0)])=some (.sl 1 [.int .i64 0] .ce):=fun _=>rfl
  have hs1:=fun fr=>slK fr 1 40 (.int .i64 (ZDP m x)) rfl rfl
  have hs2:=fun fr=>slK fr 1 44 (.int .i64 (ZDN x)) rfl rfl
  have lz1: ∀(h:Zg) v,Wl h 1 (.sl 1 [v] .ce)=some [v]:=fun _ _=>rfl
  have e1: ∀(L:List Int) (f:ZJ→Int),ivL (L++(x::r).map f)=ivL ((L++[f x])++r.map f):=fun L f=>by simp
  have e2: ∀(L:List Int) v,ivL (L++[v])=ivL L++[.int .i64 v]:=fun L v=>by simp
  have q1:ZDL m x.Exts.l 0=ZDP m x:=rfl
  have q2:1+(x.Exts.l.length:Int)=ZDN x:=rfl
  have z1:=fun k=>ZDz k Z
  have z2:=fun k=>ZDz k C
  have z3:=fun k=>ZDz k W
  have z4:=fun k=>ZDz k (Z++[0])
  have z5:=fun k=>ZDz k (C++[ZDP m x])
  have z6:=fun k=>ZDz k (W++[ZDN x])
  rw[q1,q2]at hct
  rw[e2]at z4 z5 z6
  rw[ZE1,e1,e1,e1,←ih,e2,e2,e2]
  generalize ZDP m x=c1 at*
  generalize ZDN x=c2 at*
  generalize ivL Z=A at*
  generalize ivL C=D at*
  generalize ivL W=E at*
  simp -implicitDefEqProofs [ZD3,hlt,hx',hxc,hct,w1,a1,a2,a3,a4,hs0,hs1,hs2,lz1,z1,z2,z3,z4,z5,z6]
end
def ZDy(m:Zb):List Int:=m.States.l.map fun _=>0
def ZEh(m:Zb):Int:=(ZEI m m.Depth.n.toNat (ZDy m)).getD 0 0
def ZEi(m:Zb):Int:=(ZEN m m.Depth.n.toNat (ZDy m)).getD 0 0
theorem ZEH{m:Zb}(hc:Yr m=none):1≤m.Depth.n∧m.Depth.n≤32:=by
 have hp:=W2 hc 0 (by omega) (by omega)
 have hp:ZI [Zl (J1 m.Name.s) 4,Zl (inB m.Ports.n 1 64&&(inB m.Depth.n 1 32&&inB m.Rounds.n 0 4)) 7]=0:=by simpa[Zn]using hp
 have:=JP (by omega) (UF hp (Zl (inB m.Ports.n 1 64&&(inB m.Depth.n 1 32&&inB m.Rounds.n 0 4)) 7) (by simp))
 simp[inB]at this;omega
set_option maxRecDepth 100000 in
theorem ZFx(m:Zb)(hm:Clo m)(hsm:Z2 m)(hc:Yr m=none):Zc vp 477 [m.v]=some (.tup [.int .i64 (ZEh m),.int .i64 (ZEi m)]):=by
 obtain⟨h0,h16,hg⟩:=ZDO hc
 have hdp:=ZEH hc
 obtain⟨D,hD⟩: ∃D:Nat,m.Depth.n=D:=⟨m.Depth.n.toNat,by omega⟩
 obtain⟨n,hn⟩: ∃n,m.States.l.length=n:=⟨_,rfl⟩
 have h0':=h0
 rw[hn]at h0 h16
 obtain⟨fr1,hl1⟩:=ZE8 m hm n hn h16 hg hsm m.States.l 0 [] [] [] (by omega) rfl rfl rfl rfl
 have zl:(ZDy m).length=n:=by simp[ZDy,hn]
 have hZ:([]:List Int)++m.States.l.map (fun _=>(0:Int))=ZDy m:=rfl
 have hz0:ivL []=[]:=rfl
 rw[hZ,List.nil_append,List.nil_append,hz0]at hl1
 have hok:Okh [.arr [m.v],.arr (ivL (ZDy m)),.arr (ivL (ZDy m)),.arr (ivL (m.States.l.map (ZDP m))),.arr (ivL (m.States.l.map ZDN))]:=ZDH (ZDH (ZDH (ZDH (ZDH ZES _) _) _) _) _
 have lz:(ivL (ZDy m)).length=n:=by simp[zl]
 have lc:(ivL (m.States.l.map (ZDP m))).length=n:=by simp[hn]
 have lw:(ivL (m.States.l.map ZDN)).length=n:=by simp[hn]
 have z0: ∀t∈ZDy m,0≤t∧t≤1280*((0:Nat):Int):=fun t ht=>by
  obtain⟨x,_,rfl⟩:=List.mem_map.1 ht;simp
 obtain⟨h',B1,B2,fr2,r1,r2,hl2⟩:=ZE3 m hm n hn h0 h16 hg D (by omega) D 0 _ hok 1 2 (ZDy m) (ZDy m) (fun t=>by simp) (fun t=>Yt lz) (fun t=>Yt lz) (fun t=>Yt lc) (fun t=>Yt lw) zl zl z0 z0 (by omega)
 have i1: ∀B,Yb 1 (.gsl B n 1 0 n) (.int .i64 0)=some (.ptr B n 0 0):=fun B=>by
  have:=iaG (B:=B) (z:=1) (ep:=n) (i:=0) (by omega) (by omega)
  rwa[Int.toNat_zero]at this
 have g1:XR h' B1 n=some (ivL (ZEI m D (ZDy m))):=by have:=r1 [];rwa[List.append_nil]at this
 have g2:XR h' B2 n=some (ivL (ZEN m D (ZDy m))):=by have:=r2 [];rwa[List.append_nil]at this
 have k1:=ZDV (i:=0) (ZEs m D (ZDy m) (by simp[ZDy])) h0'
 have k2:=ZDV (i:=0) (ZEt m D (ZDy m) (by simp[ZDy])) h0'
 have e1:ZEh m=(ZEI m D (ZDy m)).getD 0 0:=by unfold ZEh;rw[hD,Int.toNat_natCast]
 have e2:ZEi m=(ZEN m D (ZDy m)).getD 0 0:=by unfold ZEi;rw[hD,Int.toNat_natCast]
 rw[←e1]at k1
 rw[←e2]at k2
 have hz:((0:Nat):Int)=0:=rfl
 rw[hz]at hl1 hl2
 rw[Za ZF7]
 generalize ZEh m=q1 at*
 generalize ZEi m=q2 at*
 generalize ivL (ZEI m D (ZDy m))=A1 at*
 generalize ivL (ZEN m D (ZDy m))=A2 at*
 generalize ivL (ZDy m)=A3 at*
 generalize ivL (m.States.l.map (ZDP m))=A4 at*
 generalize ivL (m.States.l.map ZDN)=A5 at*
 simp -implicitDefEqProofs [f477,b477,hn,hD,hl1,hl2,i1,g1,g2,k1,k2]
end Go.VE.Un
namespace Go.VE.Un
open Go.VE
abbrev fG:V:=.agg [.sl 1 [] .nl,.sl 1 [] .nl,.int .u64 0,.bool false,.int .i64 0,.int .i64 0]
abbrev gG(i:Nat):V:=.agg [.gsl 6 i 1 0 i,.gsl 7 i 1 0 i,.int .u64 0,.bool false,.int .i64 0,.int .i64 0]
def ctR(F:List (Bool ×Sl)):List ZJ→Nat→Bool ×Sl→Option (Int ×Int)×(Bool ×Sl)
 |[],_,a=>(none,a)
 |x::r,i,a=>
  if(F.getD i (false,0)).1=false then ctR F r (i+1) a
  else if 0≤JO x.Keys.l (ZDw x.Exts.l (F.getD i (false,0)).2)then(some ((i:Int),JO x.Keys.l (ZDw x.Exts.l (F.getD i (false,0)).2)),a)
  else ctR F r (i+1) (if(-1:Int)∈ZGb x then Js a (ZDw x.Exts.l (F.getD i (false,0)).2)else a)
abbrev frG(F:List (Bool ×Sl))(n:Nat)(i:Int):Fr:=[(1,.ptr 0 1 0 0),(2,.ptr 1 1 0 0),(4,.ptr 2 1 0 0),(5,.ptr 3 1 0 0),(22,.sl 2 (F.map plV) .perm),(23,.int .i64 n),(24,.int .i64 i)]
abbrev hpG(m:Zb)(F:List (Bool ×Sl))(i:Nat)(a:Bool ×Sl)(d1 d2:List V):Zg:=[.arr [m.v],.arr [fG],.arr [gG i],.arr [plV a],.arr d1,.arr d2,.arr (bS (F.take i)),.arr (sS (F.take i))]
def ZDT(m:Zb)(F:List (Bool ×Sl))(n:Nat)(q:Option (Int ×Int)×(Bool ×Sl))(res:Option (Ex ×Fr ×Zg)):Prop:=
 match q.1 with
 |none=> ∃fr d1 d2,res=some (.brk 0,(1,.ptr 0 1 0 0)::(2,.ptr 1 1 0 0)::(4,.ptr 2 1 0 0)::(5,.ptr 3 1 0 0)::fr,hpG m F n q.2 d1 d2)
 |some (a,k)=> ∃B hh,XR (.arr [m.v]::.arr [fG]::hh) B 1=some [wrV 4 a k 11]∧res=some (.ret,[(2,.ptr 1 1 0 0),(3,.iface 149 (.ptr B 1 0 0))],.arr [m.v]::.arr [fG]::hh)
theorem ZEj(fr:Fr)(a b:Nat)(i k:Int)(e1:lk fr a=.int .i64 i)(e2:lk fr b=.int .i64 k):
 Zf fr (.build [.int .i64 0,.int .i64 0,.int .i64 0,.int .i64 0] [(0,1,.c (.int .i64 4)),(1,1,.t a),(2,1,.t b),(3,1,.c (.int .i64 11))])=some (wrV 4 i k 11):=by
 simp[Zf,ZC,e1,e2,wrV]
section
variable (m : Zb) (hm : Clo m) (n : Nat) (hn : m.States.l.length = n) (hn2 : n ≤ 16) (hg : ∀ i x, Zh m.States.l i = some x → ZDI m x) (F : List (Bool × Sl)) (hF : F.length = n)
include hm hn hn2 hg hF in
set_option maxRecDepth 100000 in
set_option maxHeartbeats 4000000 in
theorem ZFs(x:ZJ)(r:List ZJ)(i:Nat)(a:Bool ×Sl)(d1 d2:List V)(hd:m.States.l.drop i=x::r):let q:=F.getD i (false,0)
 let out:=ZDw x.Exts.l q.2
 let l0:=(orc vp).loop 0 [1,2,4,5,22,23,24] ZDA (frG F n (i:Int)) (hpG m F i a d1 d2)
 let l1:=fun b d e=>(orc vp).loop 0 [1,2,4,5,22,23,24] ZDA (frG F n ((i+1:Nat):Int)) (hpG m F (i+1) b d e)
 (q.1=false→∃d e,l0=l1 a d e)∧(q.1=true→0≤JO x.Keys.l out→ZDT m F n (some ((i:Int),JO x.Keys.l out),a) l0)∧(q.1=true→¬0≤JO x.Keys.l out→∃d e,l0=l1 (if(-1:Int)∈ZGb x then Js a out else a) d e):=by
 intro q out l0 l1
 have hi2:i<n:=by
  have:i<m.States.l.length:=by
   rcases Nat.lt_or_ge i m.States.l.length with h|h
   ·exact h
   ·rw[List.drop_eq_nil_of_le h]at hd;simp at hd
  omega
 have hlt:(i:Int)<n:=by omega
 have hx:m.States.l[i]? =some x:=by
  have:=congrArg (fun q=>q[0]?) hd
  simpa using this
 have hx':Zh m.States.l (i:Int)=some x:=by simp[Zh,hx]
 obtain⟨i2,hi3⟩: ∃i2,i+1=i2:=⟨_,rfl⟩
 have w1:IntKind.i64.wrap ((i:Int)+1)=(i2:Int):=by rw[ZK (by omega) (by omega)];omega
 have hcl:Ze (GL.v 5 ZJ.v m.States)=true:=by
  simp only[Clo,Zb.closed,Bool.and_eq_true]at hm;simp[hm]
 have hxc:=Xc hcl hx'
 have hgx:=hg _ _ hx'
 have hq:F[i]? =some q:=by
  have:i<F.length:=by omega
  show _=some (F.getD i (false,0))
  rw[List.getD_eq_getElem?_getD,List.getElem?_eq_getElem this];rfl
 have g1:Yb 2 (.sl 2 (F.map plV) .perm) (.int .i64 (i:Int))=some (.eptr (plV q) 0 .perm):=by
  rw[Y7];simp[Zh,hq]
 have hl2: ∀a,ldc (plV a) true 2 0=some (plV a):=fun a=>QE rfl
 have hs2: ∀a b,stc (plV a) 2 0 (plV b)=some (plV b):=fun a b=>Zie rfl rfl
 have hz:V.agg [.bool false,.int .u64 0]=plV (false,0):=rfl
 have hp0: ∀a,ldc (plV a) false 1 0=some (.bool a.1):=fun _=>rfl
 have hp1: ∀a,ldc (plV a) false 1 1=some (sV a.2):=fun _=>rfl
 have et:F.take i2=F.take i++[q]:=by rw[←hi3,List.take_add_one,hq];rfl
 have eb:bS (F.take i2)=bS (F.take i)++[.bool q.1]:=by rw[et];simp[bS]
 have es:sS (F.take i2)=sS (F.take i)++[sV q.2]:=by rw[et];simp[sS]
 have hs1:=fun fr=>slK fr 1 37 (.bool q.1) rfl rfl
 have hs3:=fun fr=>slK fr 1 43 (sV q.2) rfl rfl
 have hfz: ∀fr,Zf fr (.build [.sl 1 [] .nl,.sl 1 [] .nl,.int .u64 0,.bool false,.int .i64 0,.int .i64 0] [])=some fG:=fun _=>rfl
 have lz: ∀(h:Zg) v,Wl h 1 (.sl 1 [v] .ce)=some [v]:=fun _ _=>rfl
 have hbe:Zc vp 472 [x.v,sV q.2]=some (sV out):=ZD6 x q.2
 have hke:=ZFm x out
 have hnx:=ZD0 x (by have:=hgx.cases;omega)
 have hnv:nxV x=.sl 1 ((ZGb x).map J6) (nxT x):=rfl
 have hct:=Zbc (-1) (ZGb x) (nxT x) (by have:=hgx.cases;unfold ZGb;simp;omega)
 have hme:=ZEk a out
 have hnb:=fun k=>Yq (k:=k) (f:=J6) (fun _=>rfl) (ZGb x)
 have hwr:=fun fr=>ZEj ((62,.int .i64 (JO x.Keys.l out))::(61,.int .i64 (i:Int))::fr) 61 62 (i:Int) (JO x.Keys.l out) (by simp) (by simp)
 have hwo: ∀k,okV (wrV 4 (i:Int) k 11)=true:=fun _=>rfl
 have pb:=fun k=>Uy k
 rw[hnv]at hnx
 have lb:(bS (F.take i)).length=i:=by simp[bS];omega
 have ls:(sS (F.take i)).length=i:=by simp[sS];omega
 have ab: ∀a b c d e f g h k l,X3 0 [a,b,c,d,e,f,.arr (bS (F.take i)),g,h,k] 1 1 (.gsl 6 i 1 0 i) [.bool l]=some (.gsl 6 i2 1 0 i2,[a,b,c,d,e,f,.arr (bS (F.take i)++[.bool l]),g,h,k]):=fun a b c d e f g h k l=>by
  rw[KY (es:=bS (F.take i)) (by simp) lb (by omega) rfl (by unfold YC;simp;omega)]
  simp[hi3]
 have as_: ∀a b c d e f g h k l,X3 0 [a,b,c,d,e,f,g,.arr (sS (F.take i)),h,k] 1 8 (.gsl 7 i 1 0 i) [sV l]=some (.gsl 7 i2 1 0 i2,[a,b,c,d,e,f,g,.arr (sS (F.take i)++[sV l]),h,k]):=fun a b c d e f g h k l=>by
  rw[KY (es:=sS (F.take i)) (by simp) ls (by omega) rfl (by unfold YC;simp;omega)]
  simp[hi3]
 have bb: ∀k,Zo k (bS (F.take i))=true:=fun k=>Yq (fun _=>rfl) _
 have bs: ∀k,Zo k (sS (F.take i))=true:=fun k=>Yq (fun _=>rfl) _
 have bb2: ∀k,Zo k (bS (F.take i2))=true:=fun k=>Yq (fun _=>rfl) _
 have bs2: ∀k,Zo k (sS (F.take i2))=true:=fun k=>Yq (fun _=>rfl) _
 rw[eb]at bb2
 rw[es]at bs2
 refine⟨fun c=>⟨d1,d2,?_⟩,fun c hk=> ?_,fun c hk=> ?_⟩
 ·show(orc vp).loop 0 [1,2,4,5,22,23,24] ZDA (frG F n (i:Int)) (hpG m F i a d1 d2)=_
  simp only[l1,hpG,frG,hi3,eb,es]
  rw[c]at hs1 bb2⊢
  rw[ZDK]
  simp -implicitDefEqProofs [ZDC,hlt,hx',hxc,g1,hl2,hs2,hz,hp0,hp1,hs1,hs3,hfz,lz,ab,as_,bb,bs,bb2,bs2,w1,c,Xd,Uk,Tx.E,Tx.D,Tx.mv,Tx.nk,Tx.fa,Tx.ld,Tx.ia,Tx.it,Tx.st,Xg,ZT]
 ·show ZDT m F n _ ((orc vp).loop 0 [1,2,4,5,22,23,24] ZDA (frG F n (i:Int)) (hpG m F i a d1 d2))
  simp only[ZDT]
  rw[c]at hs1
  rw[ZDK]
  simp -implicitDefEqProofs [ZDC,hlt,hx',hxc,g1,hl2,hs2,hz,hp0,hp1,hs1,hs3,hfz,lz,ab,as_,bb,bs,bb2,bs2,w1,c,hbe,hke,hk,hwr,hwo,Xd,Uk,Tx.E,Tx.D,Tx.mv,Tx.nk,Tx.fa,Tx.ld,Tx.ia,Tx.it,Tx.st,Xg,ZT]
 ·show∃d e,(orc vp).loop 0 [1,2,4,5,22,23,24] ZDA (frG F n (i:Int)) (hpG m F i a d1 d2)=_
  refine⟨d1,d2,?_⟩
  simp only[l1,hpG,frG,hi3,eb,es]
  rw[c]at hs1 bb2⊢
  rw[ZDK]
  by_cases c2:(-1:Int)∈ZGb x
  ·rw[if_pos c2]
   simp -implicitDefEqProofs [ZDC,hlt,hx',hxc,g1,hl2,hs2,hz,hp0,hp1,hs1,hs3,hfz,lz,ab,as_,bb,bs,bb2,bs2,w1,c,hbe,hke,hk,hnx,hnb,hct,c2,hme,Xd,Uk,Tx.E,Tx.D,Tx.mv,Tx.nk,Tx.fa,Tx.ld,Tx.ia,Tx.it,Tx.st,Xg,ZT]
  ·rw[if_neg c2]
   simp -implicitDefEqProofs [ZDC,hlt,hx',hxc,g1,hl2,hs2,hz,hp0,hp1,hs1,hs3,hfz,lz,ab,as_,bb,bs,bb2,bs2,w1,c,hbe,hke,hk,hnx,hnb,hct,c2,hme,Xd,Uk,Tx.E,Tx.D,Tx.mv,Tx.nk,Tx.fa,Tx.ld,Tx.ia,Tx.it,Tx.st,Xg,ZT]
include hm hn hn2 hg hF in
set_option maxRecDepth 100000 in
set_option maxHeartbeats 4000000 in
theorem ZFo(x:ZJ)(r:List ZJ)(a:Bool ×Sl)(hd:m.States.l=x::r):let q:=F.getD 0 (false,0)
 let out:=ZDw x.Exts.l q.2
 let l0:=(orc vp).loop 0 [1,2,4,5,22,23,24] ZDA (frG F n 0) ([.arr [m.v],.arr [fG],.arr [fG],.arr [plV a]])
 let l1:=fun b d e=>(orc vp).loop 0 [1,2,4,5,22,23,24] ZDA (frG F n ((0+1:Nat):Int)) (hpG m F (0+1) b d e)
 (q.1=false→∃d e,l0=l1 a d e)∧(q.1=true→0≤JO x.Keys.l out→ZDT m F n (some ((((0:Nat):Int):Int),JO x.Keys.l out),a) l0)∧(q.1=true→¬0≤JO x.Keys.l out→∃d e,l0=l1 (if(-1:Int)∈ZGb x then Js a out else a) d e):=by
 intro q out l0 l1
 have hi2:0<n:=by rw[←hn,hd];simp
 have hlt:(0:Int)<n:=by omega
 have hn0: ¬n=0:=by omega
 have hx':Zh m.States.l (0:Int)=some x:=by rw[hd];rfl
 have w1:IntKind.i64.wrap 1=((1:Nat):Int):=by rw[ZK (by omega) (by omega)];rfl
 have hcl:Ze (GL.v 5 ZJ.v m.States)=true:=by
  simp only[Clo,Zb.closed,Bool.and_eq_true]at hm;simp[hm]
 have hxc:=Xc hcl hx'
 have hgx:=hg _ _ hx'
 have hq:F[0]? =some q:=by
  have:0<F.length:=by omega
  show _=some (F.getD 0 (false,0))
  rw[List.getD_eq_getElem?_getD,List.getElem?_eq_getElem this];rfl
 have g1:Yb 2 (.sl 2 (F.map plV) .perm) (.int .i64 0)=some (.eptr (plV q) 0 .perm):=by
  rw[Y7];simp[Zh,hq]
 have hl2: ∀a,ldc (plV a) true 2 0=some (plV a):=fun a=>QE rfl
 have hs2: ∀a b,stc (plV a) 2 0 (plV b)=some (plV b):=fun a b=>Zie rfl rfl
 have hz:V.agg [.bool false,.int .u64 0]=plV (false,0):=rfl
 have hp0: ∀a,ldc (plV a) false 1 0=some (.bool a.1):=fun _=>rfl
 have hp1: ∀a,ldc (plV a) false 1 1=some (sV a.2):=fun _=>rfl
 have et:F.take 1=F.take 0++[q]:=by rw[List.take_add_one,hq];rfl
 have eb:bS (F.take 1)=bS (F.take 0)++[.bool q.1]:=by rw[et];simp[bS]
 have es:sS (F.take 1)=sS (F.take 0)++[sV q.2]:=by rw[et];simp[sS]
 have hs1:=fun fr=>slK fr 1 37 (.bool q.1) rfl rfl
 have hs3:=fun fr=>slK fr 1 43 (sV q.2) rfl rfl
 have hfz: ∀fr,Zf fr (.build [.sl 1 [] .nl,.sl 1 [] .nl,.int .u64 0,.bool false,.int .i64 0,.int .i64 0] [])=some fG:=fun _=>rfl
 have lz: ∀(h:Zg) v,Wl h 1 (.sl 1 [v] .ce)=some [v]:=fun _ _=>rfl
 have hbe:Zc vp 472 [x.v,sV q.2]=some (sV out):=ZD6 x q.2
 have hke:=ZFm x out
 have hnx:=ZD0 x (by have:=hgx.cases;omega)
 have hnv:nxV x=.sl 1 ((ZGb x).map J6) (nxT x):=rfl
 have hct:=Zbc (-1) (ZGb x) (nxT x) (by have:=hgx.cases;unfold ZGb;simp;omega)
 have hme:=ZEk a out
 have hnb:=fun k=>Yq (k:=k) (f:=J6) (fun _=>rfl) (ZGb x)
 have hwr:=fun fr=>ZEj ((62,.int .i64 (JO x.Keys.l out))::(61,.int .i64 0)::fr) 61 62 0 (JO x.Keys.l out) (by simp) (by simp)
 have hwo: ∀k,okV (wrV 4 0 k 11)=true:=fun _=>rfl
 have pb:=fun k=>Uy k
 rw[hnv]at hnx
 have hb0:bS (F.take 0)=[]:=rfl
 have hs0:sS (F.take 0)=[]:=rfl
 rw[hb0]at eb
 rw[hs0]at es
 simp only[List.nil_append]at eb es
 have ab: ∀a b c d e f,X3 0 [a,b,c,d,e,f] 1 1 (.sl 1 [] .nl) [.bool q.1]=some (.gsl 6 1 1 0 1,[a,b,c,d,e,f,.arr [.bool q.1]]):=fun a b c d e f=>by simp[X3,Qh,YC]
 have as_: ∀a b c d e f g,X3 0 [a,b,c,d,e,f,g] 1 8 (.sl 1 [] .nl) [sV q.2]=some (.gsl 7 1 1 0 1,[a,b,c,d,e,f,g,.arr [sV q.2]]):=fun a b c d e f g=>by simp[X3,Qh,YC]
 have hgl: ∀fr A B D E G,X1 vp [.arr [m.v],.arr [fG],.arr [fG],.arr [plV a]] fr [.arr [m.v],.arr [fG],.arr [gG 1],A,B,D,E,G]=[.arr [m.v],.arr [fG],.arr [gG 1],A,B,D,E,G]:=fun fr A B D E G=>ZfR (by
  have:(Je (.arr [gG 1]) (.arr [fG])||Vj 4 (.arr [gG 1]))=false:=rfl
  simp only[ZjR,Zfg,List.length_cons,List.length_nil,this];simp)
 refine⟨fun c=>⟨[plV q],[x.v],?_⟩,fun c hk=> ?_,fun c hk=> ?_⟩
 ·show(orc vp).loop 0 [1,2,4,5,22,23,24] ZDA (frG F n 0) ([.arr [m.v],.arr [fG],.arr [fG],.arr [plV a]])=_
  simp only[l1,hpG,frG,Nat.zero_add,eb,es]
  rw[c]at hs1 ab⊢
  rw[ZDK]
  simp -implicitDefEqProofs [ZDC,hlt,hx',hxc,g1,hl2,hs2,hz,hp0,hp1,hs1,hs3,hfz,lz,ab,as_,hgl,hi2,hn0,w1,c,Xd,Uk,Tx.E,Tx.D,Tx.mv,Tx.nk,Tx.fa,Tx.ld,Tx.ia,Tx.it,Tx.st,Xg,ZT]
 ·show ZDT m F n _ ((orc vp).loop 0 [1,2,4,5,22,23,24] ZDA (frG F n 0) ([.arr [m.v],.arr [fG],.arr [fG],.arr [plV a]]))
  simp only[ZDT]
  rw[c]at hs1 ab
  rw[ZDK]
  simp -implicitDefEqProofs [ZDC,hlt,hx',hxc,g1,hl2,hs2,hz,hp0,hp1,hs1,hs3,hfz,lz,ab,as_,hgl,hi2,hn0,w1,c,hbe,hke,hk,hwr,hwo,Xd,Uk,Tx.E,Tx.D,Tx.mv,Tx.nk,Tx.fa,Tx.ld,Tx.ia,Tx.it,Tx.st,Xg,ZT]
 ·show∃d e,(orc vp).loop 0 [1,2,4,5,22,23,24] ZDA (frG F n 0) ([.arr [m.v],.arr [fG],.arr [fG],.arr [plV a]])=_
  refine⟨[plV q],[x.v],?_⟩
  simp only[l1,hpG,frG,Nat.zero_add,eb,es]
  rw[c]at hs1 ab⊢
  rw[ZDK]
  by_cases c2:(-1:Int)∈ZGb x
  ·rw[if_pos c2]
   simp -implicitDefEqProofs [ZDC,hlt,hx',hxc,g1,hl2,hs2,hz,hp0,hp1,hs1,hs3,hfz,lz,ab,as_,hgl,hi2,hn0,w1,c,hbe,hke,hk,hnx,hnb,hct,c2,hme,Xd,Uk,Tx.E,Tx.D,Tx.mv,Tx.nk,Tx.fa,Tx.ld,Tx.ia,Tx.it,Tx.st,Xg,ZT]
  ·rw[if_neg c2]
   simp -implicitDefEqProofs [ZDC,hlt,hx',hxc,g1,hl2,hs2,hz,hp0,hp1,hs1,hs3,hfz,lz,ab,as_,hgl,hi2,hn0,w1,c,hbe,hke,hk,hnx,hnb,hct,c2,hme,Xd,Uk,Tx.E,Tx.D,Tx.mv,Tx.nk,Tx.fa,Tx.ld,Tx.ia,Tx.it,Tx.st,Xg,ZT]
end
end Go.VE.Un
namespace Go.VE.Un
open Go.VE
section
variable (m : Zb) (hm : Clo m) (n : Nat) (hn : m.States.l.length = n) (hn2 : n ≤ 16) (hg : ∀ i x, Zh m.States.l i = some x → ZDI m x) (F : List (Bool × Sl)) (hF : F.length = n)
include hm hn hn2 hg hF in
theorem ZET: ∀(r:List ZJ) (i:Nat) (a:Bool ×Sl) (d1 d2:List V),m.States.l.drop i=r→i≤n→
 ZDT m F n (ctR F r i a) ((orc vp).loop 0 [1,2,4,5,22,23,24] ZDA (frG F n (i:Int)) (hpG m F i a d1 d2)):=by
 intro r
 induction r with
 |nil=>
  intro i a d1 d2 hd hi
  have hin:i=n:=by
   have:m.States.l.length≤i:=List.drop_eq_nil_iff.1 hd
   omega
  subst hin
  refine⟨[(22,.sl 2 (F.map plV) .perm),(23,.int .i64 i),(24,.int .i64 i),(25,.bool false)],d1,d2,?_⟩
  show(orc vp).loop 0 [1,2,4,5,22,23,24] ZDA (frG F i (i:Int)) (hpG m F i a d1 d2)=some (.brk 0,_,hpG m F i a d1 d2)
  rw[ZDK]
  simp -implicitDefEqProofs [ZDC]
 |cons x r ih=>
  intro i a d1 d2 hd hi
  have hi2:i<n:=by
   have:i<m.States.l.length:=by
    rcases Nat.lt_or_ge i m.States.l.length with h|h
    ·exact h
    ·rw[List.drop_eq_nil_of_le h]at hd;simp at hd
   omega
  have hd':m.States.l.drop (i+1)=r:=by
   have:=congrArg (List.drop 1) hd
   simpa using this
  obtain⟨t1,t2,t3⟩:=ZFs m hm n hn hn2 hg F hF x r i a d1 d2 hd
  simp only[ctR]
  cases hq:(F.getD i (false,0)).1 with
  |false=>
   obtain⟨d,e,h⟩:=t1 hq
   rw[if_pos rfl,h]
   exact ih (i+1) _ d e hd' hi2
  |true=>
   rw[if_neg (by simp)]
   by_cases hk:0≤JO x.Keys.l (ZDw x.Exts.l (F.getD i (false,0)).2)
   ·rw[if_pos hk];exact t2 hq hk
   ·obtain⟨d,e,h⟩:=t3 hq hk
    rw[if_neg hk,h]
    exact ih (i+1) _ d e hd' hi2
include hm hn hn2 hg hF in
theorem ZFE(h0:0<n)(a:Bool ×Sl):
 ZDT m F n (ctR F m.States.l 0 a) ((orc vp).loop 0 [1,2,4,5,22,23,24] ZDA (frG F n 0) [.arr [m.v],.arr [fG],.arr [fG],.arr [plV a]]):=by
 cases hd:m.States.l with
 |nil=>rw[hd]at hn;simp at hn;omega
 |cons x r=>
  obtain⟨t1,t2,t3⟩:=ZFo m hm n hn hn2 hg F hF x r a hd
  have hd':m.States.l.drop 1=r:=by rw[hd];rfl
  simp only[ctR]
  cases hq:(F.getD 0 (false,0)).1 with
  |false=>
   obtain⟨d,e,h⟩:=t1 hq
   rw[if_pos rfl,h]
   exact ZET m hm n hn hn2 hg F hF r 1 _ d e hd' h0
  |true=>
   rw[if_neg (by simp)]
   by_cases hk:0≤JO x.Keys.l (ZDw x.Exts.l (F.getD 0 (false,0)).2)
   ·rw[if_pos hk];exact t2 hq hk
   ·obtain⟨d,e,h⟩:=t3 hq hk
    rw[if_neg hk,h]
    exact ZET m hm n hn hn2 hg F hF r 1 _ d e hd' h0
end
def ZFp(m:Zb)(F:List (Bool ×Sl))(a:Bool ×Sl):V:=.agg [.sl 1 (bS F) .perm,.sl 1 (sS F) .perm,sV a.2,.bool a.1,.int .i64 (ZEh m),.int .i64 (ZEi m)]
theorem ZEF(m:Zb)(hm:Clo m)(hsm:Z2 m)(h:Yr m≠none):Zc vp 468 [m.v]=some (.tup [fG,.iface 149 (.eptr (wrV 0 0 0 1) 0 .perm)]):=by
 have hck:=ZeP m hm hsm
 cases hci:Yr m with
 |none=>exact absurd hci h
 |some t=>
  obtain⟨a,b,c⟩:=t
  rw[hci]at hck
  have hz0: ∀fr,Zf fr (.build [.sl 1 [] .nl,.sl 1 [] .nl,.int .u64 0,.bool false,.int .i64 0,.int .i64 0] [])=some fG:=fun _=>rfl
  have hwb: ∀fr,Zf fr (.build [.int .i64 0,.int .i64 0,.int .i64 0,.int .i64 0] [(3,1,.c (.int .i64 1))])=some (wrV 0 0 0 1):=fun _=>rfl
  have hwo:okV (wrV 0 0 0 1)=true:=rfl
  have hwc:Ze (wrV 0 0 0 1)=true:=rfl
  rw[Za ZFb]
  simp -implicitDefEqProofs [f468,b468,hck,hz0,hwb,hwo,hwc]
set_option maxRecDepth 100000 in
set_option maxHeartbeats 4000000 in
theorem ZFk(m:Zb)(hm:Clo m)(hsm:Z2 m)(hc:Yr m=none): ∃F,SpR m.States.l (ZDX m.States.l.length) F∧F.length=m.States.l.length∧ZDx m.States.l 0 false F=(false,F)∧
 Zc vp 468 [m.v]=some (match ctR F m.States.l 0 (false,ZEx m)with
  |(some (a,k),_)=>.tup [fG,.iface 149 (.eptr (wrV 4 a k 11) 0 .perm)]
  |(none,a)=>.tup [ZFp m F a,.nili]):=by
 have hck:=ZeP m hm hsm
 rw[hc]at hck
 obtain⟨F,f1,f2,f3,f4⟩:=ZFd m hm hc
 refine⟨F,f1,f2,f3,?_⟩
 obtain⟨h0,h16,hg⟩:=ZDO hc
 obtain⟨n,hn⟩: ∃n,m.States.l.length=n:=⟨_,rfl⟩
 rw[hn]at h0 h16 f2
 have hall:=ZFK m (ZtQ hc).2
 have hmo:=ZFx m hm hsm hc
 have hl:=ZFE m hm n hn h16 hg F f2 h0 (false,ZEx m)
 have hlf:((F.map plV).length:Int)=n:=by simp[f2]
 have hpb: ∀fr,Zf ((19,sV (ZEx m))::fr) (.build [.bool false,.int .u64 0] [(1,1,.t 19)])=some (plV (false,ZEx m)):=fun fr=>by simp[Zf,ZC,plV,sV]
 have hs2: ∀a b,stc (plV a) 2 0 (plV b)=some (plV b):=fun a b=>Zie rfl rfl
 have hz:V.agg [.bool false,.int .u64 0]=plV (false,0):=rfl
 have bl:=fun k=>Yq (k:=k) (fun q=>Uy k q) F
 generalize ctR F m.States.l 0 (false,ZEx m)=q at hl⊢
 obtain⟨o,a⟩:=q
 cases o with
 |some w=>
  obtain⟨i,k⟩:=w
  obtain⟨B,hh,h1,h2⟩:=hl
  have hwc:Ze (wrV 4 i k 11)=true:=rfl
  simp only[frG]at h2
  rw[Za ZFb]
  generalize F.map plV=W at*
  simp -implicitDefEqProofs [f468,b468,hck,f4,hall,hlf,hpb,hs2,hz,h2,h1,hwc]
 |none=>
  obtain⟨fr,d1,d2,h2⟩:=hl
  have et:F.take n=F:=List.take_of_length_le (by omega)
  simp only[frG,hpG,et]at h2
  have cb:=Zle F
  have cs:=ZkK F
  have k1:YG (bS F) n=some (bS F):=Yt (by simp[bS,f2])
  have k2:YG (sS F) n=some (sS F):=Yt (by simp[sS,f2])
  have k3:ZaK n 0 n (bS F)=some (bS F):=Qy (by simp[bS,f2])
  have k4:ZaK n 0 n (sS F)=some (sS F):=Qy (by simp[sS,f2])
  obtain⟨a1,a2⟩:=a
  have hp0: ∀a,ldc (plV a) false 1 0=some (.bool a.1):=fun _=>rfl
  have hp1: ∀a,ldc (plV a) false 1 1=some (sV a.2):=fun _=>rfl
  simp only[ZFp]
  rw[Za ZFb]
  generalize F.map plV=W at*
  generalize bS F=B at*
  generalize sS F=D at*
  generalize ZEh m=y1 at*
  generalize ZEi m=y2 at*
  simp -implicitDefEqProofs [f468,b468,hck,f4,hall,hlf,hpb,hs2,hz,h2,hmo,hp0,hp1,k1,k2,k3,k4,cb,cs,KZ,Xd,Uk,Zhh,UE,Tx.E,Tx.D,Tx.mv,Tx.nk,Tx.fa,Tx.ld,Tx.st,Tx.i0,Tx.ln,Tx.ia,Tx.la,Tx.ct,Xg,ZT]
end Go.VE.Un
