/- Joined texts: GrG, GrH, GrI. No condition: what each theorem needs stands in it. -/
import Derived.Test.YtlekfkibeafdiaaGreatCc17
namespace Go.VE.Un
open Go.VE
def Okh(h:Zg):Prop:= ∀n t t1,UM n (h++t) (h++t1)=UM n t t1
theorem ZES:Okh []:=fun _ _ _=>rfl
theorem ZDH{h:Zg}(hh:Okh h)(es:List V):Okh (.arr es::h):=fun n t t1=>by simp[hh n t t1]
theorem ZFF{h t:Zg}(hh:Okh h)(ht:Okh t):Okh (h++t):=fun n a b=>by rw[List.append_assoc,List.append_assoc,hh,ht]
theorem ZFB{h:Zg}(hh:Okh h)(t t1:Zg):Qu (h++t) (h++t1)=UM (h++t).length t t1:=hh _ _ _
def At(h:Zg)(B n:Nat)(es:List V):Prop:= ∀t,XR (h++t) B n=some es
theorem ZEr{h:Zg}{B n:Nat}{es:List V}(a:At h B n es)(t:Zg):At (h++t) B n es:=fun u=>by rw[List.append_assoc];exact a _
theorem ZFM(h t:Zg){n:Nat}{es:List V}(hl:es.length=n):At (h++.arr es::t) h.length n es:=fun u=>by
 rw[List.append_assoc,List.cons_append,Zr1,Zhp,Yt hl]
theorem ZFy(h t:Zg){n:Nat}{es d:List V}(hl:es.length=n):At (h++.arr d::.arr es::t) (h.length+1) n es:=fun u=>by
 rw[List.append_assoc,List.cons_append,List.cons_append,ZjU,ZgA,Zhp,Yt hl]
theorem ZFe{h:Zg}{B n:Nat}{es:List V}(a:At h B n es):h[B]? =some (.arr es)∧es.length=n:=by
 have:=a []
 rw[List.append_nil]at this
 unfold XR YG at this
 split at this
 ·rename_i e;split at this
  ·rename_i l;simp only[Option.some.injEq]at this;subst this;exact⟨e,l⟩
  ·simp at this
 ·simp at this
theorem ZEZ{h:Zg}{B n:Nat}{es:List V}(a:At h B n es):B<h.length:=(List.getElem?_eq_some_iff.1 (ZFe a).1).1
theorem ZE6(lo:Nat)(h:Zg)(B n:Nat)(es:List V)(ha:At h B n es)(h0:0<n)(hb:n≤1000000):
 (orc vp).call 1149 lo [.gsl B n 1 0 n] h=some (.gsl h.length n 1 0 n,h++[.arr es]):=by
 obtain⟨hg,hl⟩:=ZFe ha
 have hn:Ui .s (.gsl B n 1 0 n)=some false:=by cases n with
  |zero=>omega
  |succ q=>rfl
 have hbs: ∀fr:Fr,Zf fr (.buildSl 1 [])=some (.sl 1 [] .ce):=fun _=>rfl
 have hlo:Wl h 1 (.gsl B n 1 0 n)=some es:=by
  have:=ha []
  rw[List.append_nil]at this
  simp only[Wl,if_true,ZqT,this,Option.bind_some]
  exact Qy hl
 have hap:X3 lo h 1 8 (.sl 1 [] .ce) es=some (.gsl h.length n 1 0 n,h++[.arr es]):=by
  have:es.isEmpty=false:=by cases es with
   |nil=>simp at hl;omega
   |cons=>rfl
  simp[X3,this,Qh,hl,YC];omega
 rw[K9 ZFl]
 simp -implicitDefEqProofs [f1149,b1149,hn,hbs,hlo,hap]
theorem ZFg{β:Type}(lo:Nat)(h:Zg)(B n:Nat)(es:List V)(ha:At h B n es)(h0:0<n)(hb:n≤1000000)(kv:V→Zg→Option β):
 Zg1 vp lo h 1149 [.gsl B n 1 0 n] kv=kv (.gsl h.length n 1 0 n) (h++[.arr es]):=by
 unfold Zg1;rw[ZE6 lo h B n es ha h0 hb];rfl
def mxI(a b:Int):Int:=if a<b then b else a
def mxL(bs:List Int):List Int→Int→Int
 |[],a=>a
 |t::r,a=>mxL bs r (if 0≤t then mxI a (bs.getD t.toNat 0)else a)
abbrev ivL(l:List Int):List V:=l.map (V.int .i64)
theorem ZDz(k:Nat)(l:List Int):Zo k (ivL l)=true:=Yq (fun _=>rfl) l
theorem ZDV{l:List Int}{i n:Nat}(hl:l.length=n)(hi:i<n):(ivL l)[i]? =some (.int .i64 (l.getD i 0)):=by
 rw[List.getElem?_map,List.getD_eq_getElem?_getD,List.getElem?_eq_getElem (by omega)];rfl
set_option maxRecDepth 100000 in
theorem ZE5(h:Zg)(B1 B2 n:Nat)(bs ss:List Int)(hb:XR h B1 n=some (ivL bs))(hs:XR h B2 n=some (ivL ss))(lb:bs.length=n)(ls:ss.length=n)
 (L:List Int) (tg:Tag) (hL: ∀t∈L,t<(n:Int)) (hLl:L.length≤1000000) (v1 v6 v7 v12 v13 v14 v49 v50 v57 v58 v59:V): ∀(r:List Int) (k a b:Int),0≤k→k≤L.length→L.drop k.toNat=r→(orc vp).loop 0 [1,4,5,6,7,12,13,14,16,17,49,50,57,58,59,65,66,67] ZEG [(1,v1),(4,.gsl B1 n 1 0 n),(5,.gsl B2 n 1 0 n),(6,v6),(7,v7),(12,v12),(13,v13),(14,v14),(16,.int .i64 a),(17,.int .i64 b),(49,v49),(50,v50),(57,v57),(58,v58),(59,v59),(65,.sl 1 (ivL L) tg),(66,.int .i64 L.length),(67,.int .i64 k)] h=some (.brk 6,[(1,v1),(4,.gsl B1 n 1 0 n),(5,.gsl B2 n 1 0 n),(6,v6),(7,v7),(12,v12),(13,v13),(14,v14),(16,.int .i64 (mxL bs r a)),(17,.int .i64 (mxL ss r b)),(49,v49),(50,v50),(57,v57),(58,v58),(59,v59),(65,.sl 1 (ivL L) tg),(66,.int .i64 L.length),(67,.int .i64 L.length),(68,.bool false)],h):=by
 intro r
 induction r with
 |nil=>
  intro k a b hk hk2 hd
  have:=Zq hk hd
  have e:k=L.length:=by omega
  subst e
  rw[ZEq]
  simp -implicitDefEqProofs [ZDW,mxL]
 |cons y r ih=>
  intro k a b hk hk2 hd
  obtain⟨h1,h2,h3⟩:=Zp hk hd
  have w1:IntKind.i64.wrap (k+1)=k+1:=ZK (by omega) (by omega)
  have hy:y∈L:=by
   have:y∈L.drop k.toNat:=by rw[hd];simp
   exact List.mem_of_mem_drop this
  have hyn:=hL y hy
  have g1:Yb 1 (.sl 1 (ivL L) tg) (.int .i64 k)=some (.eptr (.int .i64 y) 0 tg):=by
   rw[Y7,h1];rfl
  simp only[mxL]
  by_cases c0:0≤y
  ·rw[if_pos c0,if_pos c0]
   have i1:=iaG (B:=B1) (z:=1) (ep:=n) (i:=y) c0 hyn
   have i2:=iaG (B:=B2) (z:=1) (ep:=n) (i:=y) c0 hyn
   have gb:=ZDV (i:=y.toNat) lb (by omega)
   have gs:=ZDV (i:=y.toNat) ls (by omega)
   have ih:=ih (k+1) (mxI a (bs.getD y.toNat 0)) (mxI b (ss.getD y.toNat 0)) (by omega) (by omega) h3
   rw[←ih,ZEq]
   generalize bs.getD y.toNat 0=x1 at*
   generalize ss.getD y.toNat 0=x2 at*
   simp -implicitDefEqProofs [ZDW,g1,h2,w1,c0,i1,i2,hb,hs,gb,gs,mxI]
  ·rw[if_neg c0,if_neg c0]
   have ih:=ih (k+1) a b (by omega) (by omega) h3
   rw[←ih,ZEq]
   simp -implicitDefEqProofs [ZDW,g1,h2,w1,c0]
def ZEg(f:ZJ→Int):List ZJ→Nat→List Int→List Int
 |[],_,X=>X
 |x::r,i,X=>ZEg f r (i+1) (X.set i (f x))
theorem ZEl(f:ZJ→Int): ∀(r:List ZJ) (i:Nat) (X:List Int),X.length=i+r.length→ZEg f r i X=X.take i++r.map f
 |[],i,X,h=>by simp only[ZEg,List.map_nil,List.append_nil];rw[List.take_of_length_le (by simp at h;omega)]
 |x::r,i,X,h=>by
  simp only[List.length_cons]at h
  simp only[ZEg]
  rw[ZEl f r (i+1) _ (by simp;omega),List.take_add_one,List.take_set_of_le (by omega)]
  simp[List.getElem?_set,show i<X.length by omega]
def ZDE(m:Zb)(bs:List Int)(x:ZJ):Int:=ZDL m x.Exts.l 0+mxL bs (ZGb x) 0
def ZDF(ss:List Int)(x:ZJ):Int:=1+(x.Exts.l.length:Int)+mxL ss (ZGb x) 0
end Go.VE.Un
namespace Go.VE.Un
open Go.VE
theorem ZEz{m:Zb}: ∀(r:List Ext) (n:Int),(∀x∈r,WY m x=0)→n≤ZDL m r n∧ZDL m r n≤n+320*(r.length:Int)
 |[],n,_=>by simp[ZDL]
 |x::r,n,h=>by
  have h1:=ZEw (h x List.mem_cons_self)
  have h2:=ZEz r (n+ZDJ m x) fun y hy=>h y (List.mem_cons_of_mem _ hy)
  simp only[ZDL,List.length_cons]
  omega
theorem ZEd{bs:List Int}{M:Int}(hM:0≤M)(h: ∀t∈bs,0≤t∧t≤M): ∀(r:List Int) (a:Int),0≤a→a≤M→0≤mxL bs r a∧mxL bs r a≤M
 |[],a,h0,h1=>⟨h0,h1⟩
 |t::r,a,h0,h1=>by
  simp only[mxL]
  have hg:0≤bs.getD t.toNat 0∧bs.getD t.toNat 0≤M:=by
   rw[List.getD_eq_getElem?_getD]
   cases hx:bs[t.toNat]? with
   |none=>exact⟨Int.le_refl _,hM⟩
   |some y=>exact h y (List.mem_of_getElem? hx)
  split
  ·unfold mxI
   split
   ·exact ZEd hM h r _ hg.1 hg.2
   ·exact ZEd hM h r _ h0 h1
  ·exact ZEd hM h r _ h0 h1
def ZDP(m:Zb)(x:ZJ):Int:=ZDL m x.Exts.l 0
def ZDN(x:ZJ):Int:=1+(x.Exts.l.length:Int)
theorem ZEv{m:Zb}{bs:List Int}{M:Int}(hM:0≤M)(h: ∀t∈bs,0≤t∧t≤M){x:ZJ}(hx:ZDI m x):0≤ZDE m bs x∧ZDE m bs x≤M+1280:=by
 have h1:=ZEz x.Exts.l 0 (ZD2 hx.ext)
 have h2:=ZEd hM h (ZGb x) 0 (by omega) hM
 have h3:=hx.exts
 unfold ZDE;omega
theorem ZEy{m:Zb}{bs:List Int}{M:Int}(hM:0≤M)(h: ∀t∈bs,0≤t∧t≤M){x:ZJ}(hx:ZDI m x):0≤ZDF bs x∧ZDF bs x≤M+1280:=by
 have h2:=ZEd hM h (ZGb x) 0 (by omega) hM
 have h3:=hx.exts
 unfold ZDF;omega
theorem ZEn(X:List Int)(i:Nat)(v:Int):ivL (X.set i v)=(ivL X).set i (.int .i64 v):=List.map_set ..
section
variable (m : Zb) (hm : Clo m) (n : Nat) (hn : m.States.l.length = n) (hn2 : n ≤ 16) (hg : ∀ i x, Zh m.States.l i = some x → ZDI m x)
include hm hn hn2 hg in
set_option maxRecDepth 100000 in
theorem ZE7(h:Zg)(hok:Okh h)(B1 B2:Nat)(bs ss:List Int)(hm0:At h 0 1 [m.v])(hb:At h B1 n (ivL bs))(hs:At h B2 n (ivL ss))(hC:At h 3 n (ivL (m.States.l.map (ZDP m))))(hW:At h 4 n (ivL (m.States.l.map ZDN)))
 (lb:bs.length=n) (ls:ss.length=n) (M:Int) (hM:0≤M) (hM2:M≤1000000) (b1: ∀t∈bs,0≤t∧t≤M) (b2: ∀t∈ss,0≤t∧t≤M) (dep d:Int): ∀(r:List ZJ) (i:Nat) (X Y:List Int),i≤n→m.States.l.drop i=r→X.length=n→Y.length=n→∃fr,(orc vp).loop 0 [1,4,5,6,7,12,13,49,50,57,58,59] ZEL [(1,.ptr 0 1 0 0),(4,.gsl B1 n 1 0 n),(5,.gsl B2 n 1 0 n),(6,.gsl 3 n 1 0 n),(7,.gsl 4 n 1 0 n),(12,.gsl h.length n 1 0 n),(13,.gsl (h.length+1) n 1 0 n),(49,.int .i64 dep),(50,.int .i64 d),(57,GL.v 5 ZJ.v m.States),(58,.int .i64 n),(59,.int .i64 i)] (h++[.arr (ivL X),.arr (ivL Y)])=some (.brk 4,(1,.ptr 0 1 0 0)::(4,.gsl B1 n 1 0 n)::(5,.gsl B2 n 1 0 n)::(6,.gsl 3 n 1 0 n)::(7,.gsl 4 n 1 0 n)::(12,.gsl h.length n 1 0 n)::(13,.gsl (h.length+1) n 1 0 n)::(49,.int .i64 dep)::(50,.int .i64 d)::fr,h++[.arr (ivL (ZEg (ZDE m bs) r i X)),.arr (ivL (ZEg (ZDF ss) r i Y))]):=by
 have l1:=ZEZ hb
 have l2:=ZEZ hs
 have l3:=ZEZ hC
 have l4:=ZEZ hW
 have ho:=ZFB hok
 have hb': ∀t,XR (h++t) B1 n=some (ivL bs):=hb
 have hs': ∀t,XR (h++t) B2 n=some (ivL ss):=hs
 have hC': ∀t,XR (h++t) 3 n=some (ivL (m.States.l.map (ZDP m))):=hC
 have hW': ∀t,XR (h++t) 4 n=some (ivL (m.States.l.map ZDN)):=hW
 intro r
 induction r with
 |nil=>
  intro i X Y hi hd hX hY
  have hin:i=n:=by
   have:m.States.l.length≤i:=List.drop_eq_nil_iff.1 hd
   omega
  subst hin
  refine⟨[(57,GL.v 5 ZJ.v m.States),(58,.int .i64 i),(59,.int .i64 i),(60,.bool false)],?_⟩
  simp only[ZEg]
  rw[ZEX]
  simp -implicitDefEqProofs [ZD7]
 |cons x r ih=>
  intro i X Y hi hd hX hY
  have hi2:i<n:=by
   have:i<m.States.l.length:=by
    rcases Nat.lt_or_ge i m.States.l.length with h|h
    ·exact h
    ·rw[List.drop_eq_nil_of_le h]at hd;simp at hd
   omega
  have hlt:(i:Int)<n:=by omega
  have hx:m.States.l[i]? =some x:=by
   have:=congrArg (fun q=>q[0]?) hd
   simpa using this
  have hx':Zh m.States.l (i:Int)=some x:=by simp[Zh,hx]
  have hd':m.States.l.drop (i+1)=r:=by
   have:=congrArg (List.drop 1) hd
   simpa using this
  have hcl:Ze (GL.v 5 ZJ.v m.States)=true:=by
   simp only[Clo,Zb.closed,Bool.and_eq_true]at hm;simp[hm]
  have hxc:=Xc hcl hx'
  have hgx:=hg _ _ hx'
  obtain⟨i2,hi3⟩: ∃i2,i+1=i2:=⟨_,rfl⟩
  have w1:IntKind.i64.wrap ((i:Int)+1)=(i2:Int):=by rw[ZK (by omega) (by omega)];omega
  have hia: ∀B,Yb 1 (.gsl B n 1 0 n) (.int .i64 (i:Int))=some (.ptr B n i 0):=fun B=>by
   have:=iaG (B:=B) (z:=1) (ep:=n) (i:=(i:Int)) (by omega) hlt
   rwa[Int.toNat_natCast]at this
  have cX:YG (ivL X) n=some (ivL X):=Yt (by simp[hX])
  have cY:YG (ivL Y) n=some (ivL Y):=Yt (by simp[hY])
  have gX:=ZDV (i:=i) hX hi2
  have gY:=ZDV (i:=i) hY hi2
  have gC:(ivL (m.States.l.map (ZDP m)))[i]? =some (.int .i64 (ZDP m x)):=by rw[List.getElem?_map,List.getElem?_map,hx];rfl
  have gW:(ivL (m.States.l.map ZDN))[i]? =some (.int .i64 (ZDN x)):=by rw[List.getElem?_map,List.getElem?_map,hx];rfl
  have hnx:=ZD0 x (by have:=hgx.cases;omega)
  have hnl:(ZGb x).length≤9:=by have:=hgx.cases;unfold ZGb;simp;omega
  have hnb: ∀t∈ZGb x,t<(n:Int):=fun t ht=>by have:=(hgx.nx t ht).2;omega
  have hl:=ZE5 (h++[.arr (ivL X),.arr (ivL Y),.arr [x.v]]) B1 B2 n bs ss (hb _) (hs _) lb ls (ZGb x) (nxT x) hnb (by omega) (.ptr 0 1 0 0) (.gsl 3 n 1 0 n) (.gsl 4 n 1 0 n) (.gsl h.length n 1 0 n) (.gsl (h.length+1) n 1 0 n) (.int .i64 i)
   (.int .i64 dep) (.int .i64 d) (GL.v 5 ZJ.v m.States) (.int .i64 n) (.int .i64 i) (ZGb x) 0 0 0 (by omega) (by omega) rfl
  have nb:=ZEv hM b1 hgx
  have ns:=ZEy (m:=m) hM b2 hgx
  obtain⟨fr,ih⟩:=ih i2 (X.set i (ZDE m bs x)) (Y.set i (ZDF ss x)) (by omega) (by rw[←hi3];exact hd') (by simp[hX]) (by simp[hY])
  refine⟨fr,?_⟩
  have hA:=fun k=>ZDz k (X.set i (ZDE m bs x))
  have hD:=fun k=>ZDz k (Y.set i (ZDF ss x))
  rw[ZEn,ZEn]at ih
  rw[ZEn]at hA hD
  have w2:IntKind.i64.wrap (ZDE m bs x)=ZDE m bs x:=ZK (by omega) (by omega)
  have w3:IntKind.i64.wrap (ZDF ss x)=ZDF ss x:=ZK (by omega) (by omega)
  have q1:ZDE m bs x=ZDP m x+mxL bs (ZGb x) 0:=rfl
  have q2:ZDF ss x=ZDN x+mxL ss (ZGb x) 0:=rfl
  simp only[ZEg,hi3]
  rw[q1]at hA ih w2⊢
  rw[q2]at hD ih w3⊢
  have hml:((ivL (ZGb x)).length:Int)=(ZGb x).length:=by simp
  have hnv:nxV x=.sl 1 (ivL (ZGb x)) (nxT x):=rfl
  have htk: ∀a b c,(h++[a,b,c]).take (h.length+2)=h++[a,b]:=fun a b c=>by rw[List.take_length_add_append];rfl
  have hbl:=fun k=>ZDz k X
  have hbl2:=fun k=>ZDz k Y
  have k1:B1<h.length+2:=by omega
  have k2:B2<h.length+2:=by omega
  have k3:3<h.length+2:=by omega
  have k4:4<h.length+2:=by omega
  have k5:h.length<h.length+2:=by omega
  have k6:h.length+1<h.length+2:=by omega
  rw[hnv]at hnx
  rw[ZEX,←ih]
  generalize mxL bs (ZGb x) 0=z1 at*
  generalize mxL ss (ZGb x) 0=z2 at*
  generalize ZDP m x=z3 at*
  generalize ZDN x=z4 at*
  generalize ivL (ZGb x)=L at*
  generalize (ZGb x).length=ll at*
  generalize nxT x=tt at*
  generalize X.getD i 0=z5 at*
  generalize Y.getD i 0=z6 at*
  generalize ivL (m.States.l.map (ZDP m))=C at*
  generalize ivL (m.States.l.map ZDN)=W at*
  generalize ivL X=A at*
  generalize ivL Y=D at*
  simp -implicitDefEqProofs [ZD7,hlt,hx',hxc,hia,cX,cY,gX,gY,gC,gW,hC',hW',hnx,hml,hl,w1,w2,w3,hA,hD,hbl,hbl2,ho,htk,k1,k2,k3,k4,k5,k6]
end
end Go.VE.Un
namespace Go.VE.Un
open Go.VE
def ZEI(m:Zb):Nat→List Int→List Int
 |0,bs=>bs
 |j+1,bs=>ZEI m j (m.States.l.map (ZDE m bs))
def ZEN(m:Zb):Nat→List Int→List Int
 |0,ss=>ss
 |j+1,ss=>ZEN m j (m.States.l.map (ZDF ss))
theorem ZEs(m:Zb): ∀(j:Nat) (bs:List Int),bs.length=m.States.l.length→(ZEI m j bs).length=m.States.l.length
 |0,_,h=>h
 |j+1,bs,h=>ZEs m j _ (by simp)
theorem ZEt(m:Zb): ∀(j:Nat) (bs:List Int),bs.length=m.States.l.length→(ZEN m j bs).length=m.States.l.length
 |0,_,h=>h
 |j+1,bs,h=>ZEt m j _ (by simp)
section
variable (m : Zb) (hm : Clo m) (n : Nat) (hn : m.States.l.length = n) (h0 : 0 < n) (hn2 : n ≤ 16) (hg : ∀ i x, Zh m.States.l i = some x → ZDI m x)
include hm hn h0 hn2 hg in
set_option maxRecDepth 100000 in
theorem ZE3(dep:Nat)(hdep:dep≤32): ∀(j d:Nat) (h:Zg),Okh h→∀(B1 B2:Nat) (bs ss:List Int),At h 0 1 [m.v]→At h B1 n (ivL bs)→At h B2 n (ivL ss)→At h 3 n (ivL (m.States.l.map (ZDP m)))→At h 4 n (ivL (m.States.l.map ZDN))→bs.length=n→ss.length=n→(∀t∈bs,0≤t∧t≤1280*(d:Int))→(∀t∈ss,0≤t∧t≤1280*(d:Int))→d+j=dep→∃h' B1' B2' fr,At h' B1' n (ivL (ZEI m j bs))∧At h' B2' n (ivL (ZEN m j ss))∧(orc vp).loop 0 [1,4,5,6,7,49,50] ZEC [(1,.ptr 0 1 0 0),(4,.gsl B1 n 1 0 n),(5,.gsl B2 n 1 0 n),(6,.gsl 3 n 1 0 n),(7,.gsl 4 n 1 0 n),(49,.int .i64 dep),(50,.int .i64 d)] h=
 some (.brk 2,(1,.ptr 0 1 0 0)::(4,.gsl B1' n 1 0 n)::(5,.gsl B2' n 1 0 n)::fr,h'):=by
 intro j
 induction j with
 |zero=>
  intro d h hok B1 B2 bs ss hm0 hb hs hC hW lb ls b1 b2 hd
  have e:d=dep:=by omega
  subst e
  refine⟨h,B1,B2,[(6,.gsl 3 n 1 0 n),(7,.gsl 4 n 1 0 n),(49,.int .i64 d),(50,.int .i64 d),(51,.bool false)],hb,hs,?_⟩
  rw[ZEW]
  simp -implicitDefEqProofs [ZD8]
 |succ j ih=>
  intro d h hok B1 B2 bs ss hm0 hb hs hC hW lb ls b1 b2 hd
  have hlt:(d:Int)<dep:=by omega
  obtain⟨d2,hd2⟩: ∃d2,d+1=d2:=⟨_,rfl⟩
  have w1:IntKind.i64.wrap ((d:Int)+1)=(d2:Int):=by rw[ZK (by omega) (by omega)];omega
  have hc1:=fun kv=>ZFg (β:=Ex ×Fr ×Zg) 0 h B1 n (ivL bs) hb h0 (by omega) kv
  have hc2:=fun kv=>ZFg (β:=Ex ×Fr ×Zg) 0 (h++[.arr (ivL bs)]) B2 n (ivL ss) (ZEr hs _) h0 (by omega) kv
  have e1:(h++[Blk.arr (ivL bs)]).length=h.length+1:=by simp
  have e2:(h++[Blk.arr (ivL bs)])++[.arr (ivL ss)]=h++[.arr (ivL bs),.arr (ivL ss)]:=by simp
  rw[e1,e2]at hc2
  obtain⟨fr1,hl⟩:=ZE7 m hm n hn hn2 hg h hok B1 B2 bs ss hm0 hb hs hC hW lb ls (1280*(d:Int)) (by omega) (by omega) b1 b2 dep d m.States.l 0 bs ss (by omega) rfl lb ls
  have u1:ZEg (ZDE m bs) m.States.l 0 bs=m.States.l.map (ZDE m bs):=by rw[ZEl _ _ _ _ (by omega)];simp
  have u2:ZEg (ZDF ss) m.States.l 0 ss=m.States.l.map (ZDF ss):=by rw[ZEl _ _ _ _ (by omega)];simp
  rw[u1,u2]at hl
  have lX:(ivL (m.States.l.map (ZDE m bs))).length=n:=by simp[hn]
  have lY:(ivL (m.States.l.map (ZDF ss))).length=n:=by simp[hn]
  have mem: ∀x∈m.States.l,ZDI m x:=fun x hx=>by
   obtain⟨k,hk,he⟩:=List.getElem_of_mem hx
   exact hg (k:Int) x (by simp[Zh,hk,he])
  obtain⟨h',B1',B2',fr,r1,r2,r3⟩:=ih d2 (h++[.arr (ivL (m.States.l.map (ZDE m bs))),.arr (ivL (m.States.l.map (ZDF ss)))]) (ZFF hok (ZDH (ZDH ZES _) _)) h.length (h.length+1)
   (m.States.l.map (ZDE m bs)) (m.States.l.map (ZDF ss)) (ZEr hm0 _) (ZFM h _ lX) (ZFy h [] lY) (ZEr hC _) (ZEr hW _) (by simpa using lX) (by simpa using lY)
   (fun t ht=>by
     obtain⟨x,hx,rfl⟩:=List.mem_map.1 ht
     have:=ZEv (by omega) b1 (mem x hx);omega)
   (fun t ht=>by
     obtain⟨x,hx,rfl⟩:=List.mem_map.1 ht
     have:=ZEy (m:=m) (by omega) b2 (mem x hx);omega) (by omega)
  refine⟨h',B1',B2',fr,r1,r2,?_⟩
  have hm1: ∀t,XR (h++t) 0 1=some [m.v]:=hm0
  have hgl: ∀v fr b,X1 vp h ((1,v)::(4,.gsl h.length n 1 0 n)::fr) b=b:=fun v fr b=>ZEO (by simp)
  have hz:((0:Nat):Int)=0:=rfl
  rw[hz]at hl
  rw[ZEW,←r3]
  generalize ivL (m.States.l.map (ZDE m bs))=X at*
  generalize ivL (m.States.l.map (ZDF ss))=Y at*
  generalize ivL bs=A at*
  generalize ivL ss=D at*
  simp -implicitDefEqProofs [ZD8,hlt,hc1,hc2,hm1,hn,hl,hgl,w1]
include hm hn hn2 hg in
set_option maxRecDepth 100000 in
theorem ZE8(hsm:Z2 m): ∀(r:List ZJ) (k:Nat) (Z C W:List Int),k≤n→m.States.l.drop k=r→Z.length=k→C.length=k→W.length=k→∃fr,(orc vp).loop 0 [1,4,5,6,7,21,22,23] ZEQ [(1,.ptr 0 1 0 0),(4,.gsl 1 k 1 0 k),(5,.gsl 2 k 1 0 k),(6,.gsl 3 k 1 0 k),(7,.gsl 4 k 1 0 k),(21,GL.v 5 ZJ.v m.States),(22,.int .i64 n),(23,.int .i64 k)]
 [.arr [m.v],.arr (ivL Z),.arr (ivL Z),.arr (ivL C),.arr (ivL W)]=some (.brk 0,(1,.ptr 0 1 0 0)::(4,.gsl 1 n 1 0 n)::(5,.gsl 2 n 1 0 n)::(6,.gsl 3 n 1 0 n)::(7,.gsl 4 n 1 0 n)::fr,[.arr [m.v],.arr (ivL (Z++r.map fun _=>0)),.arr (ivL (Z++r.map fun _=>0)),.arr (ivL (C++r.map (ZDP m))),.arr (ivL (W++r.map ZDN))]):=by
 intro r
 induction r with
 |nil=>
  intro k Z C W hk hd hZ hC hW
  have hin:k=n:=by
   have:m.States.l.length≤k:=List.drop_eq_nil_iff.1 hd
   omega
  subst hin
  refine⟨[(21,GL.v 5 ZJ.v m.States),(22,.int .i64 k),(23,.int .i64 k),(24,.bool false)],?_⟩
  rw[ZE1]
  simp -implicitDefEqProofs [ZD3]
 |cons x r ih=>
  intro k Z C W hk hd hZ hC hW
  have hi2:k<n:=by
   have:k<m.States.l.length:=by
    rcases Nat.lt_or_ge k m.States.l.length with h|h
    ·exact h
    ·rw[List.drop_eq_nil_of_le h]at hd;simp at hd
   omega
  have hlt:(k:Int)<n:=by omega
  have hx:m.States.l[k]? =some x:=by
   have:=congrArg (fun q=>q[0]?) hd
   simpa using this
  have hx':Zh m.States.l (k:Int)=some x:=by simp[Zh,hx]
  have hd':m.States.l.drop (k+1)=r:=by
   have:=congrArg (List.drop 1) hd
   simpa using this
  have hcl:Ze (GL.v 5 ZJ.v m.States)=true:=by
   simp only[Clo,Zb.closed,Bool.and_eq_true]at hm;simp[hm]
  have hxc:=Xc hcl hx'
  have hgx:=hg _ _ hx'
  have hct:=ZFj m hm hsm x hgx
  obtain⟨k2,hk3⟩: ∃k2,k+1=k2:=⟨_,rfl⟩
  have w1:IntKind.i64.wrap ((k:Int)+1)=(k2:Int):=by rw[ZK (by omega) (by omega)];omega
  obtain⟨fr,ih⟩:=ih k2 (Z++[0]) (C++[ZDP m x]) (W++[ZDN x]) (by omega) (by rw[←hk3];exact hd') (by simp[hZ,hk3]) (by simp[hC,hk3]) (by simp[hW,hk3])
  refine⟨fr,?_⟩
  have ap: ∀(h:Zg) (B:Nat) (es:List Int) (v:Int),h[B]? =some (.arr (ivL es))→es.length=k→X3 0 h 1 8 (.gsl B k 1 0 k) [.int .i64 v]=some (.gsl B k2 1 0 k2,h.set B (.arr (ivL es++[.int .i64 v]))):=fun h B es v hB hE=>by
   rw[KY (es:=ivL es) hB (by simp[hE]) (by omega) rfl (by unfold YC;simp;omega)]
   simp[hk3]
  have a1: ∀a c d e f,X3 0 [a,.arr (ivL Z),c,d,e,f] 1 8 (.gsl 1 k 1 0 k) [.int .i64 0]=some (.gsl 1 k2 1 0 k2,[a,.arr (ivL Z++[.int .i64 0]),c,d,e,f]):=fun a c d e f=>by rw[ap _ 1 Z 0 rfl hZ];rfl
  have a2: ∀a c d e f,X3 0 [a,c,.arr (ivL Z),d,e,f] 1 8 (.gsl 2 k 1 0 k) [.int .i64 0]=some (.gsl 2 k2 1 0 k2,[a,c,.arr (ivL Z++[.int .i64 0]),d,e,f]):=fun a c d e f=>by rw[ap _ 2 Z 0 rfl hZ];rfl
  have a3: ∀a c d e f v,X3 0 [a,c,d,.arr (ivL C),e,f] 1 8 (.gsl 3 k 1 0 k) [.int .i64 v]=some (.gsl 3 k2 1 0 k2,[a,c,d,.arr (ivL C++[.int .i64 v]),e,f]):=fun a c d e f v=>by rw[ap _ 3 C v rfl hC];rfl
  have a4: ∀a c d e f v,X3 0 [a,c,d,e,.arr (ivL W),f] 1 8 (.gsl 4 k 1 0 k) [.int .i64 v]=some (.gsl 4 k2 1 0 k2,[a,c,d,e,.arr (ivL W++[.int .i64 v]),f]):=fun a c d e f v=>by rw[ap _ 4 W v rfl hW];rfl
  have hs0: ∀fr:Fr,Zf fr (.buildSl 1 [.c (.int .i64 0)])=some (.sl 1 [.int .i64 0] .ce):=fun _=>rfl
  have hs1:=fun fr=>slK fr 1 40 (.int .i64 (ZDP m x)) rfl rfl
  have hs2:=fun fr=>slK fr 1 44 (.int .i64 (ZDN x)) rfl rfl
  have lz1: ∀(h:Zg) v,Wl h 1 (.sl 1 [v] .ce)=some [v]:=fun _ _=>rfl
  have e1: ∀(L:List Int) (f:ZJ→Int),ivL (L++(x::r).map f)=ivL ((L++[f x])++r.map f):=fun L f=>by simp
  have e2: ∀(L:List Int) v,ivL (L++[v])=ivL L++[.int .i64 v]:=fun L v=>by simp
  have q1:ZDL m x.Exts.l 0=ZDP m x:=rfl
  have q2:1+(x.Exts.l.length:Int)=ZDN x:=rfl
  have z1:=fun k=>ZDz k Z
  have z2:=fun k=>ZDz k C
  have z3:=fun k=>ZDz k W
  have z4:=fun k=>ZDz k (Z++[0])
  have z5:=fun k=>ZDz k (C++[ZDP m x])
  have z6:=fun k=>ZDz k (W++[ZDN x])
  rw[q1,q2]at hct
  rw[e2]at z4 z5 z6
  rw[ZE1,e1,e1,e1,←ih,e2,e2,e2]
  generalize ZDP m x=c1 at*
  generalize ZDN x=c2 at*
  generalize ivL Z=A at*
  generalize ivL C=D at*
  generalize ivL W=E at*
  simp -implicitDefEqProofs [ZD3,hlt,hx',hxc,hct,w1,a1,a2,a3,a4,hs0,hs1,hs2,lz1,z1,z2,z3,z4,z5,z6]
end
def ZDy(m:Zb):List Int:=m.States.l.map fun _=>0
def ZEh(m:Zb):Int:=(ZEI m m.Depth.n.toNat (ZDy m)).getD 0 0
def ZEi(m:Zb):Int:=(ZEN m m.Depth.n.toNat (ZDy m)).getD 0 0
theorem ZEH{m:Zb}(hc:Yr m=none):1≤m.Depth.n∧m.Depth.n≤32:=by
 have hp:=ZKS hc 0 (by omega) (by omega)
 have hp:ZI [Zl (J1 m.Name.s) 4,Zl (inB m.Ports.n 1 64&&(inB m.Depth.n 1 32&&inB m.Rounds.n 0 4)) 7]=0:=by simpa[Zn]using hp
 have:=JP (by omega) (UF hp (Zl (inB m.Ports.n 1 64&&(inB m.Depth.n 1 32&&inB m.Rounds.n 0 4)) 7) (by simp))
 simp[inB]at this;omega
set_option maxRecDepth 100000 in
theorem ZFx(m:Zb)(hm:Clo m)(hsm:Z2 m)(hc:Yr m=none):Zc vp 477 [m.v]=some (.tup [.int .i64 (ZEh m),.int .i64 (ZEi m)]):=by
 obtain⟨h0,h16,hg⟩:=ZDO hc
 have hdp:=ZEH hc
 obtain⟨D,hD⟩: ∃D:Nat,m.Depth.n=D:=⟨m.Depth.n.toNat,by omega⟩
 obtain⟨n,hn⟩: ∃n,m.States.l.length=n:=⟨_,rfl⟩
 have h0':=h0
 rw[hn]at h0 h16
 obtain⟨fr1,hl1⟩:=ZE8 m hm n hn h16 hg hsm m.States.l 0 [] [] [] (by omega) rfl rfl rfl rfl
 have zl:(ZDy m).length=n:=by simp[ZDy,hn]
 have hZ:([]:List Int)++m.States.l.map (fun _=>(0:Int))=ZDy m:=rfl
 have hz0:ivL []=[]:=rfl
 rw[hZ,List.nil_append,List.nil_append,hz0]at hl1
 have hok:Okh [.arr [m.v],.arr (ivL (ZDy m)),.arr (ivL (ZDy m)),.arr (ivL (m.States.l.map (ZDP m))),.arr (ivL (m.States.l.map ZDN))]:=ZDH (ZDH (ZDH (ZDH (ZDH ZES _) _) _) _) _
 have lz:(ivL (ZDy m)).length=n:=by simp[zl]
 have lc:(ivL (m.States.l.map (ZDP m))).length=n:=by simp[hn]
 have lw:(ivL (m.States.l.map ZDN)).length=n:=by simp[hn]
 have z0: ∀t∈ZDy m,0≤t∧t≤1280*((0:Nat):Int):=fun t ht=>by
  obtain⟨x,_,rfl⟩:=List.mem_map.1 ht;simp
 obtain⟨h',B1,B2,fr2,r1,r2,hl2⟩:=ZE3 m hm n hn h0 h16 hg D (by omega) D 0 _ hok 1 2 (ZDy m) (ZDy m) (fun t=>by simp) (fun t=>Yt lz) (fun t=>Yt lz) (fun t=>Yt lc) (fun t=>Yt lw) zl zl z0 z0 (by omega)
 have i1: ∀B,Yb 1 (.gsl B n 1 0 n) (.int .i64 0)=some (.ptr B n 0 0):=fun B=>by
  have:=iaG (B:=B) (z:=1) (ep:=n) (i:=0) (by omega) (by omega)
  rwa[Int.toNat_zero]at this
 have g1:XR h' B1 n=some (ivL (ZEI m D (ZDy m))):=by have:=r1 [];rwa[List.append_nil]at this
 have g2:XR h' B2 n=some (ivL (ZEN m D (ZDy m))):=by have:=r2 [];rwa[List.append_nil]at this
 have k1:=ZDV (i:=0) (ZEs m D (ZDy m) (by simp[ZDy])) h0'
 have k2:=ZDV (i:=0) (ZEt m D (ZDy m) (by simp[ZDy])) h0'
 have e1:ZEh m=(ZEI m D (ZDy m)).getD 0 0:=by unfold ZEh;rw[hD,Int.toNat_natCast]
 have e2:ZEi m=(ZEN m D (ZDy m)).getD 0 0:=by unfold ZEi;rw[hD,Int.toNat_natCast]
 rw[←e1]at k1
 rw[←e2]at k2
 have hz:((0:Nat):Int)=0:=rfl
 rw[hz]at hl1 hl2
 rw[Za ZF7]
 generalize ZEh m=q1 at*
 generalize ZEi m=q2 at*
 generalize ivL (ZEI m D (ZDy m))=A1 at*
 generalize ivL (ZEN m D (ZDy m))=A2 at*
 generalize ivL (ZDy m)=A3 at*
 generalize ivL (m.States.l.map (ZDP m))=A4 at*
 generalize ivL (m.States.l.map ZDN)=A5 at*
 simp -implicitDefEqProofs [f477,b477,hn,hD,hl1,hl2,i1,g1,g2,k1,k2]
end Go.VE.Un
