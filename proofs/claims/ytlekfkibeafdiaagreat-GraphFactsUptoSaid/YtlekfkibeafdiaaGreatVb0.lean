/- Joined texts: VeExt, VeKey, VeExts, VeAbb. No condition: what each theorem needs stands in it. -/
import Derived.Test.YtlekfkibeafdiaaGreatVc0
import Derived.Lib.RuneBytes
import Derived.Test.YtlekfkibeafdiaaGreatVa4
import Derived.Shelf.Strings.Search3
import Derived.Lib.BitFns
namespace Go.VE
open Go.RowKit
theorem Zhd{T:Tbl}{G:Gh}{lo:Nat}{h:Zg}{w w':World}(hi:Zz T G lo h w)(hb:Below w.heap.size w w'):Zz T G lo h w'∧Stp lo G h w G h w':=by
 have cell: ∀b off,b<w.heap.size→w'.cell? ⟨b,off,none⟩=w.cell? ⟨b,off,none⟩:=fun b off hl=>Xr (hb.block b hl)
 refine⟨⟨fun b off v e=> ?_,fun b off v e=> ?_,hi.llo,hi.nle,hi.sdom,hi.idom,hi.eple,fun B es g e hs=> ?_,fun B s pos r e hr=> ?_,hi.own,hi.iown⟩,⟨G.le_refl,hb.os,hb.tape,hb.output,hb.size,fun b hl hn=>⟨hb.block b hl,fun _=>rfl,hn⟩,rfl,fun _ _=>⟨fun _=>rfl,rfl⟩,.same fun _ _=>rfl⟩⟩
 ·rw[cell b off (hi.gp_lt e)];exact hi.gp _ _ _ e
 ·rw[cell b off (hi.gb_lt e)];exact hi.gb _ _ _ e
 ·obtain⟨c,t,fz,k1,k2⟩:=hi.live _ _ _ e hs
  exact⟨c,t,fz,by rw[hb.block _ (XE k1)];exact k1,k2⟩
 ·obtain⟨s',k1,k2⟩:=hi.iter _ _ _ _ e hr
  exact⟨s',k1,by rw[hb.block _ (XE k2)];exact k2⟩
def ZrQ(v:V)(rv:Value):Prop:= ∀(T:Tbl) (G:Gh),R T G v rv
theorem Za1{P:Program}{T:Tbl}{f:Nat}{p:List V→Option V}{fid:FuncId}(hf:T.fid f=some fid)(hrun: ∀(us:Array Value) (w:World),(callFunc fid us).run P w=.ok (.enter fid us) w)
 (h: ∀(G:Gh) (vs:List V) (us:Array Value) (r:V),RA T G vs us→p vs=some r→Ze r=true∧∃rv,ZrQ r rv∧∀w:World,Calls P fid us w fun e w'=>e=.returned rv∧Below w.heap.size w w'):Zat P T f p:=by
 refine⟨fid,hf,fun G lo hp w vs us r hi hR hr=> ?_⟩
 obtain⟨h1,rv,h2,h3⟩:=h G vs us r hR hr
 refine⟨h1,.inr ⟨fid,us,hrun us w,(h3 w).mono fun e w' ⟨he,hb⟩=> ?_⟩⟩
 obtain⟨k1,k2⟩:=Zhd hi hb
 exact⟨rv,G,he,h2 _ _,k1,k2⟩
theorem ZnE{P:Program}{T:Tbl}{f:Nat}{p:List V→Option V}{fid:FuncId}(hf:T.fid f=some fid)
 (h: ∀(G:Gh) (vs:List V) (us:Array Value) (r:V),RA T G vs us→p vs=some r→Ze r=true∧∃rv,ZrQ r rv∧∀w:World,(callFunc fid us).run P w=.ok (.value rv) w):Zat P T f p:=by
 refine⟨fid,hf,fun G lo hp w vs us r hi hR hr=> ?_⟩
 obtain⟨h1,rv,h2,h3⟩:=h G vs us r hR hr
 exact⟨h1,.inl (.same hi (h3 w) (h2 _ _))⟩
theorem RA.get1{T:Tbl}{G:Gh}{v:V}{us:Array Value}(h:RA T G [v] us): ∃a,us= #[a]∧R T G v a:=by
 obtain⟨h1,h2⟩:=h
 have hs:us.size=1:=by simpa using h1.symm
 refine⟨us[0],?_,h2 0 v us[0] rfl (by simp[hs])⟩
 apply Array.ext
 ·simp[hs]
 ·intro i h1 h2;simp at h2;subst h2;rfl
theorem RA.get2{T:Tbl}{G:Gh}{v u:V}{us:Array Value}(h:RA T G [v,u] us): ∃a b,us= #[a,b]∧R T G v a∧R T G u b:=by
 obtain⟨h1,h2⟩:=h
 have hs:us.size=2:=by simpa using h1.symm
 refine⟨us[0],us[1],?_,h2 0 v us[0] rfl (by simp[hs]),h2 1 u us[1] rfl (by simp[hs])⟩
 apply Array.ext
 ·simp[hs]
 ·intro i h1 h2
  have:i=0∨i=1:=by simp at h2;omega
  rcases this with rfl|rfl<;>rfl
theorem RA.get3{T:Tbl}{G:Gh}{v u t:V}{us:Array Value}(h:RA T G [v,u,t] us): ∃a b c,us= #[a,b,c]∧R T G v a∧R T G u b∧R T G t c:=by
 obtain⟨h1,h2⟩:=h
 have hs:us.size=3:=by simpa using h1.symm
 refine⟨us[0],us[1],us[2],?_,h2 0 v us[0] rfl (by simp[hs]),h2 1 u us[1] rfl (by simp[hs]),h2 2 t us[2] rfl (by simp[hs])⟩
 apply Array.ext
 ·simp[hs]
 ·intro i h1 h2
  have:i=0∨i=1∨i=2:=by simp at h2;omega
  rcases this with rfl|rfl|rfl<;>rfl
theorem Zfq{P:Program}{T:Tbl}{vp:VP}(tied:U6 P T vp){f:Nat}{vf:Zi}(hv:vp.fn f=some vf)(hx:vf.ext=none){fid:FuncId}(hf:T.fid f=some fid){W:World}{vs:List V}{us:Array Value}(hR:RA T (G0 W) vs us)
 {r:V} {h':Zg} (e:ZmY vp f 0 vs []=some (r,h')):Calls P fid us W fun e w'=>(∃rv G',e=.returned rv∧R T G' r rv)∧Below W.heap.size W w':=
 (Zfj tied hv hx e (Zrf T W) hf hR).mono fun e w' ⟨rv,G',h1,h2,h3,h4⟩=>⟨⟨rv,G',h1,h2⟩,h4.below⟩
end Go.VE
namespace Go.VE
def foldR(c:Int):Int:=
 if c=215∨c=247∨c=930 then c
 else if(65≤c∧c≤90)∨(192≤c∧c≤222)∨(913≤c∧c≤937)∨(1040≤c∧c≤1071)then c+32
 else if 1024≤c∧c≤1039 then c+80
 else if c=962 then 963 else c
theorem foldR_bd(c:Int)(h0: -2147483648≤c)(h1:c≤2147483647): -2147483648≤foldR c∧foldR c≤2147483647:=by unfold foldR;omega
end Go.VE
namespace Go.VE
def keyFrom(s:ByteArray):Nat→Nat→List UInt8
 |0,_=>[]
 |fuel+1,pos=>if pos<s.size then Lib.encodeRune (foldR (Utf8.decode s pos).1)++keyFrom s fuel (pos+(Utf8.decode s pos).2)else[]
def keyB(s:ByteArray):List UInt8:=keyFrom s s.size 0
def Yl(l:List UInt8):List UInt8:=keyB ⟨l.toArray⟩
theorem keyFrom_end(s:ByteArray)(fuel pos:Nat)(h: ¬pos<s.size):keyFrom s fuel pos=[]:=by
 cases fuel with
 |zero=>rfl
 |succ f=>simp[keyFrom,h]
end Go.VE
namespace Go.VE.Un
open Go.VE
def ZkM:List V→Option V
 |[.str s]=>if s.length≤35184372088831 then some (.str (Yl s))else none
 |_=>none
def x560:Zi:=⟨false,[],.skip,some ZkM,false⟩
def ZfJ:List V→Option V
 |[.str s,.str [c]]=>some (.bool (decide (0≤Lib.indexByte s c)))
 |_=>none
def x1234:Zi:=⟨false,[],.skip,some ZfJ,false⟩
def ZlG:List V→Option V
 |[.int .u64 x,.int .u64 y,.int .u64 b]=>
  if 0≤x∧0≤y∧0≤b∧b≤1 then some (.tup [.int .u64 (((x.toNat+18446744073709551616-y.toNat-b.toNat)%18446744073709551616:Nat):Int),.int .u64 ((if x.toNat<y.toNat+b.toNat then 1 else 0:Nat):Int)])else none
 |_=>none
def x378:Zi:=⟨false,[],.skip,some ZlG,false⟩
def Zkv:List V→Option V
 |[.int .u64 x]=>if 0≤x∧x≤18446744073709551615 then some (.int .i64 (Lib.bitLen x.toNat))else none
 |_=>none
def x374:Zi:=⟨false,[],.skip,some Zkv,false⟩
end Go.VE.Un
namespace Go.VE
def rp(n:Nat)(v:V):List V:=List.replicate n v
@[simp] theorem Zus(n:Nat)(v:V):(rp n v).length=n:=by simp[rp]
end Go.VE
namespace Go.VE.Tx
variable {β : Type} (O : Orc) (vp : VP) (lo : Nat) (fr : Fr) (h : Zg) (K : Ex → Fr → Zg → Option β) (k : Fr → Zg → Option β)
def un(x:VIt):VIt:=⟨x.dst,x.op,none⟩
def G(t:Nat)(w:Bool)(x:VIt):VIt:=⟨x.dst,x.op,some (t,w)⟩
def D(x:VIt)(i b:Nat):VDt:=⟨x,i,b,[]⟩
def sr(l:List VIt)(ks:List Nat)(c:Zd):Zd:=.seq (.reg l ks) c
def sd(l:List VDt)(ks:List Nat)(c:Zd):Zd:=.seq (.drw l ks) c
def wh(t i:Nat)(c:Zd):Zd:=.seq (.cond (.t t) .skip (.exit i)) c
def rt(l:List VIt)(ks:List Nat):Zd:=.seq (.reg l ks) .ret
def cr(t:Nat)(l:List VIt)(ks:List Nat):Zd:=.cond (.t t) (.seq (.reg l ks) .ret) .skip
def Gt(t:Nat)(x:VIt):VIt:=G t true x
def Gf(t:Nat)(x:VIt):VIt:=G t false x
def E(x:VIt)(i:Nat):VDt:=⟨x,i,2^i-1,[]⟩
def ir(t:Nat)(l:List VIt)(ks:List Nat)(c:Zd):Zd:=.seq (.cond (.t t) (.seq (.reg l ks) .ret) .skip) c
@[simp ↓] theorem Zv4(l:List VIt)(ks:List Nat)(c:Zd):Yx O vp lo (sr l ks c) fr h K=Zt O vp lo l fr h (fun fr h=>KM (keep ks fr) fun fr=>Yx O vp lo c fr h K):=by
  unfold sr;rw[WS,QD];rfl
@[simp ↓] theorem ZwA(l:List VIt)(ks:List Nat):Yx O vp lo (rt l ks) fr h K=Zt O vp lo l fr h (fun fr h=>KM (keep ks fr) fun fr=>K .ret fr h):=by
  unfold rt;rw[WS,QD];rfl
@[simp ↓] theorem Zxa(l:List VDt)(ks:List Nat)(c:Zd):Yx O vp lo (sd l ks c) fr h K=dK O vp lo l 0 [] fr h (fun fr h=>KM (keep ks fr) fun fr=>Yx O vp lo c fr h K):=by
  unfold sd;rw[WS,Zkr];rfl
@[simp ↓] theorem Zw4(t i:Nat)(c:Zd):Yx O vp lo (wh t i c) fr h K=Jp (lk fr t) (Yx O vp lo c fr h K) (K (.brk i) fr h):=by
  unfold wh;rw[WS,Jg];rfl
@[simp ↓] theorem Zu3(t:Nat)(l:List VIt)(ks:List Nat):Yx O vp lo (cr t l ks) fr h K=Jp (lk fr t) (Zt O vp lo l fr h (fun fr h=>KM (keep ks fr) fun fr=>K .ret fr h)) (K .nrm fr h):=by
  unfold cr;rw[Jg,WS,QD];rfl
@[simp ↓] theorem Zzt(t:Nat)(l:List VIt)(ks:List Nat)(c:Zd):Yx O vp lo (ir t l ks c) fr h K=Jp (lk fr t) (Zt O vp lo l fr h (fun fr h=>KM (keep ks fr) fun fr=>K .ret fr h)) (Yx O vp lo c fr h K):=by
  unfold ir;rw[WS,Jg,WS,QD];rfl
theorem YQ(t:Nat)(w:Bool)(x:VIt)(r:List VIt):Zt O vp lo (G t w x::r) fr h k=Z5 (lk fr t) w (Zt O vp lo (un x::r) fr h k) (Zt O vp lo r (put fr x.dst Ya) h k):=by
 unfold G un;rw[U5]
 congr 1
 unfold Zt ZS;simp only[YN,ZY];cases ZM O vp lo fr h x.op<;>rfl
@[simp ↓] theorem ZAZ(t:Nat)(x:VIt)(r:List VIt):Zt O vp lo (Gt t x::r) fr h k=Zt O vp lo (G t true x::r) fr h k:=rfl
@[simp ↓] theorem ZAK(t:Nat)(x:VIt)(r:List VIt):Zt O vp lo (Gf t x::r) fr h k=Zt O vp lo (G t false x::r) fr h k:=rfl
@[simp] theorem ZDd(x:VIt)(i:Nat)(ds:List VDt):xlB (E x i::ds)=xlB ds:=by simp[xlB,E]
@[simp ↓] theorem ZDt(x:VIt)(i:Nat)(r:List VDt):dP O vp lo (E x i::r) fr h k=Zt O vp lo [x] fr h (fun fr h=>dP O vp lo r fr h k):=by
  unfold dP Zt E;simp only[List.map_cons,YN];cases ZY O vp lo x fr h<;>rfl
@[simp] theorem ZCW(x:VIt)(i b:Nat)(ds:List VDt):xlB (D x i b::ds)=xlB ds:=by simp[xlB,D]
@[simp ↓] theorem ZDr(x:VIt)(i b:Nat)(r:List VDt):dP O vp lo (D x i b::r) fr h k=Zt O vp lo [x] fr h (fun fr h=>dP O vp lo r fr h k):=by
  unfold dP Zt D;simp only[List.map_cons,YN];cases ZY O vp lo x fr h<;>rfl
@[simp] theorem ZDu(x:VIt)(i b:Nat):(D x i b).it=x:=nr rfl
def st(n a x:Nat):VIt:=⟨none,.store n false (.t a) (.t x),none⟩
@[simp ↓] theorem Zzw(t:Nat)(w:Bool)(n a x:Nat)(r:List VIt):Zt O vp lo (G t w (st n a x)::r) fr h k=Z5 (lk fr t) w (Zt O vp lo (st n a x::r) fr h k) (Zt O vp lo r fr h k):=YQ ..
@[simp ↓] theorem ZAI(n a x:Nat)(r:List VIt):Zt O vp lo (st n a x::r) fr h k=(Xp lo h n (lk fr a) (lk fr x)).bind fun h=>Zt O vp lo r fr h k:=by
  unfold st;rw[UU,Zel];rfl
def i0(op:VOp):VIt:=⟨none,op,none⟩
@[simp ↓] theorem Zxn(t:Nat)(w:Bool)(op:VOp)(r:List VIt):Zt O vp lo (G t w (i0 op)::r) fr h k=Z5 (lk fr t) w (Zt O vp lo (i0 op::r) fr h k) (Zt O vp lo r fr h k):=YQ ..
@[simp ↓] theorem ZAm(op:VOp)(r:List VIt):Zt O vp lo (i0 op::r) fr h k=ZS O vp lo fr h op (fun v h=>Zt O vp lo r fr h k):=UU ..
def mv(d a:Nat):VIt:=⟨some d,.mv (.t a),none⟩
@[simp ↓] theorem ZyM(t:Nat)(w:Bool)(d a:Nat)(r:List VIt):Zt O vp lo (G t w (mv d a)::r) fr h k=Z5 (lk fr t) w (Zt O vp lo (mv d a::r) fr h k) (Zt O vp lo r ((d,Ya)::fr) h k):=YQ ..
@[simp ↓] theorem ZA8(d a:Nat)(r:List VIt):Zt O vp lo (mv d a::r) fr h k=KN (lk fr a) h fun v h=>Zt O vp lo r ((d,v)::fr) h k:=by
  unfold mv;rw[Z4,Zny];rfl
def mi(d:Nat)(n:Int):VIt:=⟨some d,.mv (.c (.int .i64 n)),none⟩
@[simp ↓] theorem ZxN(t:Nat)(w:Bool)(d:Nat)(n:Int)(r:List VIt):Zt O vp lo (G t w (mi d n)::r) fr h k=Z5 (lk fr t) w (Zt O vp lo (mi d n::r) fr h k) (Zt O vp lo r ((d,Ya)::fr) h k):=YQ ..
@[simp ↓] theorem ZAv(d:Nat)(n:Int)(r:List VIt):Zt O vp lo (mi d n::r) fr h k=Zt O vp lo r ((d,.int .i64 n)::fr) h k:=by
  unfold mi;rw[Z4,Zny];rfl
def mc(d:Nat)(v:V):VIt:=⟨some d,.mv (.c v),none⟩
@[simp ↓] theorem Zw2(t:Nat)(w:Bool)(d:Nat)(v:V)(r:List VIt):Zt O vp lo (G t w (mc d v)::r) fr h k=Z5 (lk fr t) w (Zt O vp lo (mc d v::r) fr h k) (Zt O vp lo r ((d,Ya)::fr) h k):=YQ ..
@[simp ↓] theorem ZAM(d:Nat)(v:V)(r:List VIt):Zt O vp lo (mc d v::r) fr h k=Zt O vp lo r ((d,v)::fr) h k:=by
  unfold mc;rw[Z4,Zny];rfl
def ld(d a:Nat):VIt:=⟨some d,.load false 1 (.t a),none⟩
@[simp ↓] theorem Zvo(t:Nat)(w:Bool)(d a:Nat)(r:List VIt):Zt O vp lo (G t w (ld d a)::r) fr h k=Z5 (lk fr t) w (Zt O vp lo (ld d a::r) fr h k) (Zt O vp lo r ((d,Ya)::fr) h k):=YQ ..
@[simp ↓] theorem ZAH(d a:Nat)(r:List VIt):Zt O vp lo (ld d a::r) fr h k=YA (Yv h false 1 (lk fr a)) h fun v h=>Zt O vp lo r ((d,v)::fr) h k:=by
  unfold ld;rw[Z4,ZjB];rfl
def la(d n a:Nat):VIt:=⟨some d,.load true n (.t a),none⟩
@[simp ↓] theorem ZvK(t:Nat)(w:Bool)(d n a:Nat)(r:List VIt):Zt O vp lo (G t w (la d n a)::r) fr h k=Z5 (lk fr t) w (Zt O vp lo (la d n a::r) fr h k) (Zt O vp lo r ((d,Ya)::fr) h k):=YQ ..
@[simp ↓] theorem ZBn(d n a:Nat)(r:List VIt):Zt O vp lo (la d n a::r) fr h k=YA (Yv h true n (lk fr a)) h fun v h=>Zt O vp lo r ((d,v)::fr) h k:=by
  unfold la;rw[Z4,ZjB];rfl
def fa(d o a:Nat):VIt:=⟨some d,.faddr o (.t a),none⟩
@[simp ↓] theorem Zym(t:Nat)(w:Bool)(d o a:Nat)(r:List VIt):Zt O vp lo (G t w (fa d o a)::r) fr h k=Z5 (lk fr t) w (Zt O vp lo (fa d o a::r) fr h k) (Zt O vp lo r ((d,Ya)::fr) h k):=YQ ..
@[simp ↓] theorem ZAw(d o a:Nat)(r:List VIt):Zt O vp lo (fa d o a::r) fr h k=YA (Ue (lk fr a) o) h fun v h=>Zt O vp lo r ((d,v)::fr) h k:=by
  unfold fa;rw[Z4,ZnO];rfl
def ia(d z a i:Nat):VIt:=⟨some d,.iaddr z (.t a) (.t i),none⟩
@[simp ↓] theorem Zxj(t:Nat)(w:Bool)(d z a i:Nat)(r:List VIt):Zt O vp lo (G t w (ia d z a i)::r) fr h k=Z5 (lk fr t) w (Zt O vp lo (ia d z a i::r) fr h k) (Zt O vp lo r ((d,Ya)::fr) h k):=YQ ..
@[simp ↓] theorem ZAF(d z a i:Nat)(r:List VIt):Zt O vp lo (ia d z a i::r) fr h k=YA (Yb z (lk fr a) (lk fr i)) h fun v h=>Zt O vp lo r ((d,v)::fr) h k:=by
  unfold ia;rw[Z4,ZnQ];rfl
def nk(d a:Nat):VIt:=⟨some d,.nilchk (.t a),none⟩
@[simp ↓] theorem ZxY(t:Nat)(w:Bool)(d a:Nat)(r:List VIt):Zt O vp lo (G t w (nk d a)::r) fr h k=Z5 (lk fr t) w (Zt O vp lo (nk d a::r) fr h k) (Zt O vp lo r ((d,Ya)::fr) h k):=YQ ..
@[simp ↓] theorem ZzI(d a:Nat)(r:List VIt):Zt O vp lo (nk d a::r) fr h k=YA (Zf fr (.nilchk (.t a))) h fun v h=>Zt O vp lo r ((d,v)::fr) h k:=by
  unfold nk;rw[Z4,Zkk]
def ln(d a:Nat):VIt:=⟨some d,.len false (.t a),none⟩
@[simp ↓] theorem ZwX(t:Nat)(w:Bool)(d a:Nat)(r:List VIt):Zt O vp lo (G t w (ln d a)::r) fr h k=Z5 (lk fr t) w (Zt O vp lo (ln d a::r) fr h k) (Zt O vp lo r ((d,Ya)::fr) h k):=YQ ..
@[simp ↓] theorem Zz0(d a:Nat)(r:List VIt):Zt O vp lo (ln d a::r) fr h k=YA (Zbd false (lk fr a)) h fun v h=>Zt O vp lo r ((d,v)::fr) h k:=by
  unfold ln;rw[Z4,ZlR];rfl
def lt(d a:Nat):VIt:=⟨some d,.len true (.t a),none⟩
@[simp ↓] theorem ZxT(t:Nat)(w:Bool)(d a:Nat)(r:List VIt):Zt O vp lo (G t w (lt d a)::r) fr h k=Z5 (lk fr t) w (Zt O vp lo (lt d a::r) fr h k) (Zt O vp lo r ((d,Ya)::fr) h k):=YQ ..
@[simp ↓] theorem ZAO(d a:Nat)(r:List VIt):Zt O vp lo (lt d a::r) fr h k=YA (Zbd true (lk fr a)) h fun v h=>Zt O vp lo r ((d,v)::fr) h k:=by
  unfold lt;rw[Z4,ZlR];rfl
def ex(d a i:Nat):VIt:=⟨some d,.ext (.t a) i,none⟩
@[simp ↓] theorem Zzr(t:Nat)(w:Bool)(d a i:Nat)(r:List VIt):Zt O vp lo (G t w (ex d a i)::r) fr h k=Z5 (lk fr t) w (Zt O vp lo (ex d a i::r) fr h k) (Zt O vp lo r ((d,Ya)::fr) h k):=YQ ..
@[simp ↓] theorem ZAJ(d a i:Nat)(r:List VIt):Zt O vp lo (ex d a i::r) fr h k=YA (Ztj i (lk fr a)) h fun v h=>Zt O vp lo r ((d,v)::fr) h k:=by
  unfold ex;rw[Z4,Zs6];rfl
def bt(d:Nat)(op:BinOp)(a b:Nat):VIt:=⟨some d,.bin op (.t a) (.t b),none⟩
@[simp ↓] theorem ZwC(t:Nat)(w:Bool)(d:Nat)(op:BinOp)(a b:Nat)(r:List VIt):Zt O vp lo (G t w (bt d op a b)::r) fr h k=Z5 (lk fr t) w (Zt O vp lo (bt d op a b::r) fr h k) (Zt O vp lo r ((d,Ya)::fr) h k):=YQ ..
@[simp ↓] theorem ZBf(d:Nat)(op:BinOp)(a b:Nat)(r:List VIt):Zt O vp lo (bt d op a b::r) fr h k=YA (Yh op (lk fr a) (lk fr b)) h fun v h=>Zt O vp lo r ((d,v)::fr) h k:=by
  unfold bt;rw[Z4,Zg3];rfl
def bi(d:Nat)(op:BinOp)(a:Nat)(n:Int):VIt:=⟨some d,.bin op (.t a) (.c (.int .i64 n)),none⟩
@[simp ↓] theorem Zzp(t:Nat)(w:Bool)(d:Nat)(op:BinOp)(a:Nat)(n:Int)(r:List VIt):Zt O vp lo (G t w (bi d op a n)::r) fr h k=Z5 (lk fr t) w (Zt O vp lo (bi d op a n::r) fr h k) (Zt O vp lo r ((d,Ya)::fr) h k):=YQ ..
@[simp ↓] theorem ZAc(d:Nat)(op:BinOp)(a:Nat)(n:Int)(r:List VIt):Zt O vp lo (bi d op a n::r) fr h k=YA (Yh op (lk fr a) (.int .i64 n)) h fun v h=>Zt O vp lo r ((d,v)::fr) h k:=by
  unfold bi;rw[Z4,Zg3];rfl
def bu(d:Nat)(op:BinOp)(a:Nat)(n:Int):VIt:=⟨some d,.bin op (.t a) (.c (.int .u64 n)),none⟩
@[simp ↓] theorem ZwW(t:Nat)(w:Bool)(d:Nat)(op:BinOp)(a:Nat)(n:Int)(r:List VIt):Zt O vp lo (G t w (bu d op a n)::r) fr h k=Z5 (lk fr t) w (Zt O vp lo (bu d op a n::r) fr h k) (Zt O vp lo r ((d,Ya)::fr) h k):=YQ ..
@[simp ↓] theorem ZAX(d:Nat)(op:BinOp)(a:Nat)(n:Int)(r:List VIt):Zt O vp lo (bu d op a n::r) fr h k=YA (Yh op (lk fr a) (.int .u64 n)) h fun v h=>Zt O vp lo r ((d,v)::fr) h k:=by
  unfold bu;rw[Z4,Zg3];rfl
def nt(d a:Nat):VIt:=⟨some d,.un .not (.t a),none⟩
@[simp ↓] theorem Zyz(t:Nat)(w:Bool)(d a:Nat)(r:List VIt):Zt O vp lo (G t w (nt d a)::r) fr h k=Z5 (lk fr t) w (Zt O vp lo (nt d a::r) fr h k) (Zt O vp lo r ((d,Ya)::fr) h k):=YQ ..
@[simp ↓] theorem ZzE(d a:Nat)(r:List VIt):Zt O vp lo (nt d a::r) fr h k=YA (unV .not (lk fr a)) h fun v h=>Zt O vp lo r ((d,v)::fr) h k:=by
  unfold nt;rw[Z4,Zu8];rfl
def po(d c b:Nat):VIt:=⟨some d,.pick (.t c) (.c (.bool true)) (.t b),none⟩
@[simp ↓] theorem Zyf(t:Nat)(w:Bool)(d c b:Nat)(r:List VIt):Zt O vp lo (G t w (po d c b)::r) fr h k=Z5 (lk fr t) w (Zt O vp lo (po d c b::r) fr h k) (Zt O vp lo r ((d,Ya)::fr) h k):=YQ ..
@[simp ↓] theorem ZBl(d c b:Nat)(r:List VIt):Zt O vp lo (po d c b::r) fr h k=YA (ZbP (lk fr c) (.bool true) (lk fr b)) h fun v h=>Zt O vp lo r ((d,v)::fr) h k:=by
  unfold po;rw[Z4,Zig];rfl
def pa(d c b:Nat):VIt:=⟨some d,.pick (.t c) (.t b) (.c (.bool false)),none⟩
@[simp ↓] theorem Zzg(t:Nat)(w:Bool)(d c b:Nat)(r:List VIt):Zt O vp lo (G t w (pa d c b)::r) fr h k=Z5 (lk fr t) w (Zt O vp lo (pa d c b::r) fr h k) (Zt O vp lo r ((d,Ya)::fr) h k):=YQ ..
@[simp ↓] theorem ZzT(d c b:Nat)(r:List VIt):Zt O vp lo (pa d c b::r) fr h k=YA (ZbP (lk fr c) (lk fr b) (.bool false)) h fun v h=>Zt O vp lo r ((d,v)::fr) h k:=by
  unfold pa;rw[Z4,Zig];rfl
def bx(d a:Nat):VIt:=⟨some d,.box (.t a),none⟩
@[simp ↓] theorem ZyN(t:Nat)(w:Bool)(d a:Nat)(r:List VIt):Zt O vp lo (G t w (bx d a)::r) fr h k=Z5 (lk fr t) w (Zt O vp lo (bx d a::r) fr h k) (Zt O vp lo r ((d,Ya)::fr) h k):=YQ ..
@[simp ↓] theorem ZBi(d a:Nat)(r:List VIt):Zt O vp lo (bx d a::r) fr h k=ZhP (lk fr a) h fun v h=>Zt O vp lo r ((d,v)::fr) h k:=by
  unfold bx;rw[Z4,ZsV];rfl
def al(d:Nat)(z:V):VIt:=⟨some d,.alloc z,none⟩
@[simp ↓] theorem ZyX(t:Nat)(w:Bool)(d:Nat)(z:V)(r:List VIt):Zt O vp lo (G t w (al d z)::r) fr h k=Z5 (lk fr t) w (Zt O vp lo (al d z::r) fr h k) (Zt O vp lo r ((d,Ya)::fr) h k):=YQ ..
@[simp ↓] theorem Zz2(d:Nat)(z:V)(r:List VIt):Zt O vp lo (al d z::r) fr h k=KN (.ptr h.length 1 0 0) (h++[.arr [z]]) fun v h=>Zt O vp lo r ((d,v)::fr) h k:=by
  unfold al;rw[Z4,Zl3]
def ct(d f:Nat)(l:List Nat):VIt:=⟨some d,.call f (l.map .t),none⟩
@[simp ↓] theorem Zu0(t:Nat)(w:Bool)(d f:Nat)(l:List Nat)(r:List VIt):Zt O vp lo (G t w (ct d f l)::r) fr h k=Z5 (lk fr t) w (Zt O vp lo (ct d f l::r) fr h k) (Zt O vp lo r ((d,Ya)::fr) h k):=YQ ..
@[simp ↓] theorem ZAL(d f:Nat)(l:List Nat)(r:List VIt):Zt O vp lo (ct d f l::r) fr h k=YU O vp lo h f (l.map (lk fr)) fun v h=>Zt O vp lo r ((d,v)::fr) h k:=by
  unfold ct;rw[Z4,Zij,List.map_map];rfl
def cl(d f:Nat)(l:List Z3):VIt:=⟨some d,.call f l,none⟩
@[simp ↓] theorem Zzo(t:Nat)(w:Bool)(d f:Nat)(l:List Z3)(r:List VIt):Zt O vp lo (G t w (cl d f l)::r) fr h k=Z5 (lk fr t) w (Zt O vp lo (cl d f l::r) fr h k) (Zt O vp lo r ((d,Ya)::fr) h k):=YQ ..
@[simp ↓] theorem ZBe(d f:Nat)(l:List Z3)(r:List VIt):Zt O vp lo (cl d f l::r) fr h k=YU O vp lo h f (l.map (opd fr)) fun v h=>Zt O vp lo r ((d,v)::fr) h k:=by
  unfold cl;rw[Z4,Zij]
def it(d:Nat)(op:VOp):VIt:=⟨some d,op,none⟩
@[simp ↓] theorem Zwl(t:Nat)(w:Bool)(d:Nat)(op:VOp)(r:List VIt):Zt O vp lo (G t w (it d op)::r) fr h k=Z5 (lk fr t) w (Zt O vp lo (it d op::r) fr h k) (Zt O vp lo r ((d,Ya)::fr) h k):=YQ ..
@[simp ↓] theorem ZBk(d:Nat)(op:VOp)(r:List VIt):Zt O vp lo (it d op::r) fr h k=ZS O vp lo fr h op fun v h=>Zt O vp lo r ((d,v)::fr) h k:=by
  unfold it;rw[Z4]
end Go.VE.Tx
