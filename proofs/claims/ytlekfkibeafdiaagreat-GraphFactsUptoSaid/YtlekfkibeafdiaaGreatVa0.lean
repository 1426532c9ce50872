/- Joined texts: VeCore, VeEval, VeChk, VeRel, VeRuns. No condition: what each theorem needs stands in it. -/
import GoSem.Core.Program
import GoSem.Core.Utf8
import GoSem.Op.String
import GoSem.Core.View
import GoSem.Core.Layout
import GoSem.Op.Equal
import GoSem.Machine.Frame
import Derived.Calls
import Derived.Below
import Derived.Laws.Cells
import GoSem.Dispatch
namespace Go.VE
inductive Tag where
 |perm|clip|brw|nl|em|ce
 deriving DecidableEq
def Qh:Tag→Bool
 |.clip|.nl|.ce=>true
 |_=>false
def ZaF:Tag→Bool
 |.em|.ce=>true
 |_=>false
inductive V where
 |undef
 |bool (b:Bool)
 |int (k:IntKind) (n:Int)
 |str (s:List UInt8)
 |agg (cs:List V)
 |tup (vs:List V)
 |sl (z:Nat) (es:List V) (t:Tag)
 |gsl (B ep z off len:Nat)
 |eptr (e:V) (o:Nat) (t:Tag)
 |ptr (B ep i o:Nat)
 |nilp
 |func (f:Nat) (first cap:List V)
 |nilf
 |iface (t:Nat) (v:V)
 |nili
 |itr (B:Nat)
 |mapr (B:Nat)
 |nilm
inductive Blk where
 |arr (es:List V)
 |iter (s:List UInt8) (pos:Nat)
 |map (es:List (Int ×V))
 |dead
abbrev Zg:=List Blk
abbrev Fr:=List (Nat ×V)
def lk:Fr→Nat→V
 |[],_=>.undef
 |(n,v)::fr,t=>if n=t then v else lk fr t
def keep(ks:List Nat)(fr:Fr):Fr:=ks.map fun t=>(t,lk fr t)
mutual
def Ze:V→Bool
 |.undef|.bool _|.int _ _|.str _|.nilp|.nilf|.nili|.nilm=>true
 |.agg cs=>Zv cs
 |.tup cs=>Zv cs
 |.sl _ es t=>(match t with|.brw=>false|_=>true)&&Zv es
 |.eptr e _ t=>(match t with|.brw=>false|_=>true)&&Ze e
 |.func _ a b=>Zv a&&Zv b
 |.iface _ v=>Ze v
 |.gsl .. |.ptr .. |.itr _|.mapr _=>false
def Zv:List V→Bool
 |[]=>true
 |v::l=>Ze v&&Zv l
end
mutual
def Zk(n:Nat):V→Bool
 |.undef|.bool _|.int _ _|.str _|.nilp|.nilf|.nili|.nilm=>true
 |.agg cs=>Zo n cs
 |.tup cs=>Zo n cs
 |.sl _ es _=>Zo n es
 |.eptr e _ _=>Zk n e
 |.func _ a b=>Zo n a&&Zo n b
 |.iface _ v=>Zk n v
 |.gsl B .. =>decide (B<n)
 |.ptr B .. =>decide (B<n)
 |.itr B=>decide (B<n)
 |.mapr B=>decide (B<n)
def Zo(n:Nat):List V→Bool
 |[]=>true
 |v::l=>Zk n v&&Zo n l
end
def Vj(n:Nat):Blk→Bool
 |.arr es=>Zo n es
 |.iter .. =>true
 |.map es=>es.all fun x=>Zk n x.2
 |.dead=>true
def V.cells:V→List V
 |.agg cs=>cs
 |v=>[v]
def okV:V→Bool
 |.tup _|.undef=>false
 |_=>true
def ldc(v:V)(agg:Bool)(n o:Nat):Option V:=
 if agg then(if o+n≤v.cells.length then some (.agg ((v.cells.drop o).take n))else none)else v.cells[o]?
def stc(v:V)(n o:Nat)(x:V):Option V:=
 if x.cells.length=n∧o+n≤v.cells.length∧okV x=true then
  match v with
  |.agg cs=>some (.agg (cs.take o++x.cells++cs.drop (o+n)))
  |_=>match x with|.agg _=>none|x=>some x
 else none
def WF(b:UInt8):V:=.int .u8 b.toNat
def bytesOf:List V→Option (List UInt8)
 |[]=>some []
 |.int .u8 n::l=>(bytesOf l).map (UInt8.ofNat n.toNat:: ·)
 |_=>none
inductive Z3 where
 |t (n:Nat)
 |c (v:V)
def opd(fr:Fr):Z3→V
 |.t n=>lk fr n
 |.c v=>v
inductive EK where
 |b|i|s
 deriving DecidableEq
def eqK(k:EK)(x y:V):Option Bool:=
 match k,x,y with
 |.b,.bool a,.bool b=>some (a==b)
 |.i,.int k a,.int k' b=>if k=k' then some (a==b)else none
 |.s,.str a,.str b=>some (a==b)
 |_,_,_=>none
def Ux:List EK→List V→List V→Option Bool
 |[],[],[]=>some true
 |k::ks,x::a,y::b=>(eqK k x y).bind fun r=>if r then Ux ks a b else some false
 |_,_,_=>none
def eqV(ks:Option (List EK))(x y:V):Option Bool:=
 match ks with
 |none=>eqK .b x y
 |some ks=>match x,y with
  |.agg a,.agg b=>if a.length=ks.length∧b.length=ks.length then Ux ks a b else none
  |_,_=>none
inductive NK where
 |p|i|f|m|s
 deriving DecidableEq
def Ui(k:NK)(x:V):Option Bool:=
 match k,x with
 |.p,.nilp=>some true
 |.p,.ptr .. =>some false
 |.p,.eptr .. =>some false
 |.i,.nili=>some true
 |.i,.iface .. =>some false
 |.f,.nilf=>some true
 |.f,.func .. =>some false
 |.m,.nilm=>some true
 |.m,.mapr _=>some false
 |.s,.sl _ [] .nl=>some true
 |.s,.sl _ [] .em=>some false
 |.s,.sl _ [] .ce=>some false
 |.s,.sl _ (_::_) _=>some false
 |.s,.gsl _ _ _ _ (_+1)=>some false
 |_,_=>none
inductive CK where
 |int (k:IntKind)
 |id
 |b2s
 |s2b
def Wa(k:IntKind)(n:Int):V:=.int k (k.wrap n)
def ZfA(op:BinOp)(x y:List UInt8):Option V:=
 match op with
 |.add=>if x.length+y.length≤9223372036854775807 then some (.str (x++y))else none
 |.eql=>some (.bool (x==y))
 |.neq=>some (.bool (!(x==y)))
 |.lss=>some (.bool (Op.bytesLess x y))
 |.leq=>some (.bool (Op.bytesLess x y||x==y))
 |.gtr=>some (.bool (!(Op.bytesLess x y||x==y)))
 |.geq=>some (.bool (!Op.bytesLess x y))
 |_=>none
def Ve(op:BinOp)(k:IntKind)(a b:Int):Option V:=
 match op with
 |.add=>some (Wa k (a+b))
 |.sub=>some (Wa k (a-b))
 |.mul=>some (Wa k (a*b))
 |.quo=>if b=0 then none else some (Wa k (a.tdiv b))
 |.rem=>if b=0 then none else some (.int k (a.tmod b))
 |.and=>some (Wa k (BitVec.ofInt k.bits a&&&BitVec.ofInt k.bits b).toNat)
 |.or=>some (Wa k (BitVec.ofInt k.bits a|||BitVec.ofInt k.bits b).toNat)
 |.xor=>some (Wa k (BitVec.ofInt k.bits a^^^BitVec.ofInt k.bits b).toNat)
 |.andNot=>some (Wa k (BitVec.ofInt k.bits a&&& ~~~BitVec.ofInt k.bits b).toNat)
 |.eql=>some (.bool (a==b))
 |.neq=>some (.bool (a !=b))
 |.lss=>some (.bool (decide (a<b)))
 |.leq=>some (.bool (decide (a≤b)))
 |.gtr=>some (.bool (decide (a>b)))
 |.geq=>some (.bool (decide (a≥b)))
 |_=>none
def JK(op:BinOp)(k:IntKind)(a b:Int):Option V:=
 if b<0 then none
 else match op with
  |.shl=>some (Wa k (a*2^min b.toNat k.bits))
  |.shr=>some (.int k (a.fdiv (2^min b.toNat k.bits)))
  |_=>none
def Yh(op:BinOp)(x y:V):Option V:=
 match x,y with
 |.int k a,.int k' b=>
  match op with
  |.shl|.shr=>JK op k a b
  |_=>if k=k' then Ve op k a b else none
 |.str a,.str b=>ZfA op a b
 |_,_=>none
def unV(op:UnOp)(x:V):Option V:=
 match op,x with
 |.not,.bool b=>some (.bool (!b))
 |.neg,.int k n=>some (Wa k (0-n))
 |.xor,.int k n=>some (Wa k (BitVec.ofInt k.bits (if k.signed then -1 else k.max)^^^BitVec.ofInt k.bits n).toNat)
 |_,_=>none
def ZaD(c:CK)(x:V):Option V:=
 match c,x with
 |.int k,.int _ n=>some (Wa k n)
 |.id,.str s=>some (.str s)
 |.b2s,.sl 1 es _=>(bytesOf es).map .str
 |.s2b,.str s=>some (.sl 1 (s.map WF) .perm)
 |_,_=>none
def Ue(x:V)(off:Nat):Option V:=
 match x with
 |.ptr B ep i o=>some (.ptr B ep i (o+off))
 |.eptr e o t=>some (.eptr e (o+off) t)
 |_=>none
def Yb(n:Nat)(x i:V):Option V:=
 match x,i with
 |.sl z es t,.int _ i=>
  if n=z∧0≤i then(es[i.toNat]?).map fun e=>.eptr e 0 t else none
 |.gsl B ep z off len,.int _ i=>
  if n=z∧0≤i∧i<len then some (.ptr B ep (off+i.toNat) 0)else none
 |_,_=>none
def iaddrA(len n:Nat)(x i:V):Option V:=
 match i with
 |.int _ i=>if 0≤i∧i<len then Ue x (i.toNat*n)else none
 |_=>none
def idxS(x i:V):Option V:=
 match x,i with
 |.str s,.int _ i=>if 0≤i then(s[i.toNat]?).map WF else none
 |_,_=>none
def idxA(len n:Nat)(agg:Bool)(x i:V):Option V:=
 match i with
 |.int _ i=>if 0≤i∧i<len then(match x with|.agg _=>ldc x agg n (i.toNat*n)|_=>none)else none
 |_=>none
def bnd(x:Option V)(d:Nat)(top:Nat):Option Nat:=
 match x with
 |none=>some d
 |some (.int _ i)=>if 0≤i∧i≤top then some i.toNat else none
 |_=>none
def Xj(t:Tag)(full given:Bool):Tag:=
 match t with
 |.brw=>.brw
 |.clip=>if full then .clip else .perm
 |.perm=>if given&&full then .clip else .perm
 |.nl=>.nl
 |.em=>if given&&full then .ce else .em
 |.ce=>if full then .ce else .em
def Uh(n:Nat)(x:V)(lo hi mx:Option V):Option V:=
 match x with
 |.str s=>
  if n=0∧mx.isNone=true then(bnd hi s.length s.length).bind fun h=>(bnd lo 0 h).map fun l=>.str ((s.take h).drop l)else none
 |.sl z es t=>
  if n=z∧0<n then
   (bnd mx es.length es.length).bind fun m=>(bnd hi es.length m).bind fun h=>(bnd lo 0 h).map fun l=>
     .sl z ((es.take h).drop l) (Xj t (h==m) mx.isSome)
  else none
 |.gsl B ep z off len=>
  if n=z∧0<n then
   (bnd mx len len).bind fun m=>(bnd hi len m).bind fun h=>(bnd lo 0 h).map fun l=>.gsl B ep z (off+l) (h-l)
  else none
 |_=>none
def Zbd(text:Bool)(x:V):Option V:=
 if text then(match x with|.str s=>some (.int .i64 s.length)|_=>none)
 else match x with
  |.sl _ es _=>some (.int .i64 es.length)
  |.gsl _ _ _ _ len=>some (.int .i64 len)
  |_=>none
def ZC(cells:List V):List (Nat ×V)→Option (List V)
 |[]=>some cells
 |(off,v)::r=>
  if off+v.cells.length≤cells.length∧okV v=true then ZC (cells.take off++v.cells++cells.drop (off+v.cells.length)) r else none
def Vq(f:Int→Int→Int):List V→Option V
 |[]=>none
 |.int k a::r=>go k a r
 |_=>none
where
 go (k:IntKind) (a:Int):List V→Option V
  |[]=>some (.int k a)
  |.int k' b::r=>if k=k' then go k (f a b) r else none
  |_=>none
def XI(ty:Nat)(zero:V)(ok:Bool)(x:V):Option V:=
 match x with
 |.iface t v=>if t=ty then some (if ok then .tup [v,.bool true]else v)else if ok then some (.tup [zero,.bool false])else none
 |.nili=>if ok then some (.tup [zero,.bool false])else none
 |_=>none
inductive VOp where
 |mv (x:Z3)
 |pick (c a b:Z3)
 |alloc (z:V)
 |box (x:Z3)
 |build (z:List V) (parts:List (Nat ×Nat ×Z3))
 |buildSl (n:Nat) (parts:List Z3)
 |load (agg:Bool) (n:Nat) (a:Z3)
 |store (n:Nat) (fz:Bool) (a x:Z3)
 |nilchk (x:Z3)
 |bin (op:BinOp) (x y:Z3)
 |isnil (k:NK) (neg:Bool) (x:Z3)
 |eq (neg:Bool) (ks:Option (List EK)) (x y:Z3)
 |un (op:UnOp) (x:Z3)
 |conv (k:CK) (x:Z3)
 |mkif (t:Nat) (x:Z3)
 |mkfn (f:Nat) (first cap:List Z3)
 |mksl (z:V) (bytes:Nat) (len cap:Z3)
 |slice (n:Nat) (x:Z3) (lo hi mx:Option Z3)
 |faddr (off:Nat) (x:Z3)
 |fld (agg:Bool) (n off:Nat) (x:Z3)
 |iaddr (n:Nat) (x i:Z3)
 |iaddrA (len n:Nat) (x i:Z3)
 |idxS (x i:Z3)
 |idxA (len n:Nat) (agg:Bool) (x i:Z3)
 |tassert (ty:Nat) (zero:V) (ok:Bool) (x:Z3)
 |ext (x:Z3) (i:Nat)
 |len (text:Bool) (x:Z3)
 |app (z bytes:Nat) (fz:Bool) (s x:Z3)
 |mn (xs:List Z3)
 |mx (xs:List Z3)
 |call (f:Nat) (args:List Z3)
 |calld (ro:Bool) (f:Z3) (args:List Z3)
 |inv (m:Nat) (recv:Z3) (args:List Z3)
 |rng (x:Z3)
 |nxt (it:Z3)
 |nilacc (z:Nat)
 |mkmap
 |mapget (ok:Bool) (zero:V) (m k:Z3)
 |mapput (m k x:Z3)
 |stuck
structure VIt where
 dst:Option Nat
 op:VOp
 g:Option (Nat ×Bool)
structure VDt where
 it:VIt
 ix:Nat
 bm:Nat
 xl:List Nat
inductive Zd where
 |skip
 |reg (ops:List VIt) (ks:List Nat)
 |drw (ds:List VDt) (ks:List Nat)
 |seq (a b:Zd)
 |cond (c:Z3) (a b:Zd)
 |blk (id:Nat) (body:Zd)
 |loop (ks:List Nat) (body:Zd)
 |exit (id:Nat)
 |ret
inductive U0 where
 |tmp (t:Nat)
 |cell (t:Nat) (agg:Bool) (n:Nat)
structure Zi where
 rw:Bool
 results:List U0
 body:Zd
 ext:Option (List V→Option V):=none
 own:Bool:=false
structure VP where
 gc:Bool
 fn:Nat→Option Zi
 meth:Nat→Nat→Option Nat
def Zf(fr:Fr):VOp→Option V
 |.mv x=>some (opd fr x)
 |.pick c a b=>(match opd fr c with|.bool c=>some (if c then opd fr a else opd fr b)|_=>none)
 |.build z ps=>(ZC z (ps.map fun p=>(p.1,opd fr p.2.2))).bind fun cs=>if(ps.all fun p=>(opd fr p.2.2).cells.length==p.2.1)then some (.agg cs)else none
 |.buildSl n ps=>if((ps.map (opd fr)).all fun v=>v.cells.length==n&&okV v)then some (.sl n (ps.map (opd fr)) .ce)else none
 |.nilchk x=>(match opd fr x with|.ptr B ep i o=>some (.ptr B ep i o)|.eptr e o t=>some (.eptr e o t)|.func f a b=>some (.func f a b)|.iface t v=>some (.iface t v)|_=>none)
 |.bin op x y=>Yh op (opd fr x) (opd fr y)
 |.isnil k neg x=>(Ui k (opd fr x)).map fun b=>.bool (if neg then !b else b)
 |.eq neg ks x y=>(eqV ks (opd fr x) (opd fr y)).map fun b=>.bool (if neg then !b else b)
 |.un op x=>unV op (opd fr x)
 |.conv k x=>ZaD k (opd fr x)
 |.mkif t x=>some (.iface t (opd fr x))
 |.mkfn f a b=>some (.func f (a.map (opd fr)) (b.map (opd fr)))
 |.slice n x lo hi mx=>Uh n (opd fr x) (lo.map (opd fr)) (hi.map (opd fr)) (mx.map (opd fr))
 |.faddr off x=>Ue (opd fr x) off
 |.fld agg n off x=>(match opd fr x with|.agg cs=>ldc (.agg cs) agg n off|_=>none)
 |.iaddr n x i=>Yb n (opd fr x) (opd fr i)
 |.iaddrA len n x i=>iaddrA len n (opd fr x) (opd fr i)
 |.idxS x i=>idxS (opd fr x) (opd fr i)
 |.idxA len n agg x i=>idxA len n agg (opd fr x) (opd fr i)
 |.tassert ty z ok x=>XI ty z ok (opd fr x)
 |.ext x i=>(match opd fr x with|.tup vs=>vs[i]? |_=>none)
 |.len text x=>Zbd text (opd fr x)
 |.mn xs=>Vq (fun a b=>if b<a then b else a) (xs.map (opd fr))
 |.mx xs=>Vq (fun a b=>if b>a then b else a) (xs.map (opd fr))
 |_=>none
mutual
def X7:V→V→Bool
 |.undef,y=>(match y with|.undef=>true|_=>false)
 |.bool a,y=>(match y with|.bool b=>a==b|_=>false)
 |.int k n,y=>(match y with|.int k' n'=>decide (k=k')&&n==n'|_=>false)
 |.str s,y=>(match y with|.str s'=>s==s'|_=>false)
 |.agg cs,y=>(match y with|.agg cs'=>Jv cs cs'|_=>false)
 |.tup cs,y=>(match y with|.tup cs'=>Jv cs cs'|_=>false)
 |.sl z es t,y=>(match y with|.sl z' es' t'=>z==z'&&decide (t=t')&&Jv es es'|_=>false)
 |.gsl B ep z off len,y=>(match y with|.gsl B' ep' z' off' len'=>B==B'&&ep==ep'&&z==z'&&off==off'&&len==len'|_=>false)
 |.eptr e o t,y=>(match y with|.eptr e' o' t'=>o==o'&&decide (t=t')&&X7 e e'|_=>false)
 |.ptr B ep i o,y=>(match y with|.ptr B' ep' i' o'=>B==B'&&ep==ep'&&i==i'&&o==o'|_=>false)
 |.nilp,y=>(match y with|.nilp=>true|_=>false)
 |.func f a b,y=>(match y with|.func f' a' b'=>f==f'&&Jv a a'&&Jv b b'|_=>false)
 |.nilf,y=>(match y with|.nilf=>true|_=>false)
 |.iface t v,y=>(match y with|.iface t' v'=>t==t'&&X7 v v'|_=>false)
 |.nili,y=>(match y with|.nili=>true|_=>false)
 |.itr B,y=>(match y with|.itr B'=>B==B'|_=>false)
 |.mapr B,y=>(match y with|.mapr B'=>B==B'|_=>false)
 |.nilm,y=>(match y with|.nilm=>true|_=>false)
def Jv:List V→List V→Bool
 |[],y=>(match y with|[]=>true|_=>false)
 |v::l,y=>(match y with|v'::l'=>X7 v v'&&Jv l l'|[]=>false)
end
mutual
theorem JQ: ∀(x y:V),X7 x y=true→x=y
 |.undef,y,h=>by cases y<;>simp[X7]at h;rfl
 |.bool a,y,h=>by cases y<;>simp[X7]at h;subst h;rfl
 |.int k n,y,h=>by cases y<;>simp[X7]at h;obtain⟨rfl,rfl⟩:=h;rfl
 |.str s,y,h=>by cases y<;>simp[X7]at h;subst h;rfl
 |.agg cs,y,h=>by cases y<;>simp[X7]at h;rw[UO _ _ h]
 |.tup cs,y,h=>by cases y<;>simp[X7]at h;rw[UO _ _ h]
 |.sl z es t,y,h=>by cases y<;>simp[X7]at h;obtain⟨⟨rfl,rfl⟩,h⟩:=h;rw[UO _ _ h]
 |.gsl B ep z off len,y,h=>by cases y<;>simp[X7]at h;obtain⟨⟨⟨⟨rfl,rfl⟩,rfl⟩,rfl⟩,rfl⟩:=h;rfl
 |.eptr e o t,y,h=>by cases y<;>simp[X7]at h;obtain⟨⟨rfl,rfl⟩,h⟩:=h;rw[JQ _ _ h]
 |.ptr B ep i o,y,h=>by cases y<;>simp[X7]at h;obtain⟨⟨⟨rfl,rfl⟩,rfl⟩,rfl⟩:=h;rfl
 |.nilp,y,h=>by cases y<;>simp[X7]at h;rfl
 |.func f a b,y,h=>by cases y<;>simp[X7]at h;obtain⟨⟨rfl,h⟩,h'⟩:=h;rw[UO _ _ h,UO _ _ h']
 |.nilf,y,h=>by cases y<;>simp[X7]at h;rfl
 |.iface t v,y,h=>by cases y<;>simp[X7]at h;obtain⟨rfl,h⟩:=h;rw[JQ _ _ h]
 |.nili,y,h=>by cases y<;>simp[X7]at h;rfl
 |.itr B,y,h=>by cases y<;>simp[X7]at h;subst h;rfl
 |.mapr B,y,h=>by cases y<;>simp[X7]at h;subst h;rfl
 |.nilm,y,h=>by cases y<;>simp[X7]at h;rfl
theorem UO: ∀(x y:List V),Jv x y=true→x=y
 |[],y,h=>by cases y<;>simp[Jv]at h;rfl
 |v::l,y,h=>by
  cases y with
  |nil=>simp[Jv]at h
  |cons v' l'=>simp[Jv]at h;rw[JQ _ _ h.1,UO _ _ h.2]
end
mutual
@[simp] theorem QG: ∀x:V,X7 x x=true
  |.undef|.bool _|.int _ _|.str _|.gsl .. |.ptr .. |.nilp|.nilf|.nili|.itr _|.mapr _|.nilm=>by simp[X7]
  |.agg cs=>by simp[X7,VC cs]
  |.tup cs=>by simp[X7,VC cs]
  |.sl z es t=>by simp[X7,VC es]
  |.eptr e o t=>by simp[X7,QG e]
  |.func f a b=>by simp[X7,VC a,VC b]
  |.iface t v=>by simp[X7,QG v]
@[simp] theorem VC: ∀x:List V,Jv x x=true
  |[]=>by simp[Jv]
  |v::l=>by simp[Jv,QG v,VC l]
end
def ZT(o:Option V)(v:V):Bool:=
 match o with
 |some x=>X7 x v
 |none=>false
theorem KE{o:Option V}{v:V}:ZT o v=true↔o=some v:=by
 cases o with
 |none=>simp[ZT]
 |some x=>simp only[ZT,Option.some.injEq];exact⟨JQ _ _,fun h=>by rw[h];exact QG _⟩
def Je:Blk→Blk→Bool
 |.arr es,y=>(match y with|.arr es'=>Jv es es'|_=>false)
 |.iter s p,y=>(match y with|.iter s' p'=>s==s'&&p==p'|_=>false)
 |.dead,y=>(match y with|.dead=>true|_=>false)
 |.map _,_=>false
theorem Zkw{x y:Blk}(h:Je x y=true):x=y:=by
 cases x<;>cases y<;>simp[Je]at h
 ·rw[UO _ _ h]
 ·obtain⟨rfl,rfl⟩:=h;rfl
 ·rfl
end Go.VE
namespace Go.VE
def Y5(f:V→Option V):List V→Option (List V)
 |[]=>some []
 |v::l=>(f v).bind fun v=>(Y5 f l).map (v:: ·)
def Yv(h:Zg)(agg:Bool)(n:Nat)(a:V):Option V:=
 match a with
 |.eptr e o _=>ldc e agg n o
 |.ptr B ep i o=>
  match h[B]? with
  |some (.arr es)=>if es.length=ep then(es[i]?).bind fun e=>ldc e agg n o else none
  |_=>none
 |_=>none
def KK(h:Zg)(B ep off len:Nat):Option (List V):=
 match h[B]? with
 |some (.arr es)=>if es.length=ep∧off+len≤ep then some ((es.drop off).take len)else none
 |_=>none
mutual
def fzV(lo:Nat)(h:Zg):V→Option (V ×Zg)
 |.agg cs=>if Zv cs then some (.agg cs,h)else(fzL lo h cs).map fun r=>(.agg r.1,r.2)
 |.gsl B ep z off len=>
  if lo≤B then
   (KK h B ep off len).bind fun es=>if Zv es then some (.sl z es .perm,h.set B .dead)else none
  else none
 |v=>if Ze v then some (v,h)else none
def fzL(lo:Nat)(h:Zg):List V→Option (List V ×Zg)
 |[]=>some ([],h)
 |v::l=>(fzV lo h v).bind fun r=>(fzL lo r.2 l).map fun s=>(r.1::s.1,s.2)
end
def Xp(lo:Nat)(h:Zg)(n:Nat)(a x:V):Option Zg:=
 match a with
 |.ptr B ep i o=>
  match h[B]? with
  |some (.arr es)=>
   if lo≤B∧es.length=ep then(es[i]?).bind fun e=>(stc e n o x).map fun e=>h.set B (.arr (es.set i e))else none
  |_=>none
 |_=>none
def Wl(h:Zg)(z:Nat)(x:V):Option (List V):=
 match x with
 |.sl z' es _=>if z'=z then some es else none
 |.gsl B ep z' off len=>if z'=z then KK h B ep off len else none
 |.str s=>if z=1 then some (s.map WF)else none
 |_=>none
def YC:Nat:=140737488355328
def X3(lo:Nat)(h:Zg)(z bytes:Nat)(s:V)(ns:List V):Option (V ×Zg):=
 if ns.isEmpty then(match s with|.sl .. |.gsl .. =>some (s,h)|_=>none)
 else match s with
  |.sl z' es t=>
   if Qh t=true∧z'=z∧(es.length+ns.length)*bytes≤YC then
    some (.gsl h.length (es.length+ns.length) z 0 (es.length+ns.length),h++[.arr (es++ns)])
   else none
  |.gsl B ep z' off len=>
   match h[B]? with
   |some (.arr es)=>
    if z'=z∧off=0∧len=ep∧lo≤B∧es.length=ep∧(ep+ns.length)*bytes≤YC then
     some (.gsl B (ep+ns.length) z 0 (ep+ns.length),h.set B (.arr (es++ns)))
    else none
   |_=>none
  |_=>none
def UW(h:Zg)(z:V)(bytes:Nat)(len cap:V):Option (V ×Zg):=
 match len,cap with
 |.int .i64 l,.int .i64 c=>
  if 0≤l∧l≤c∧c*bytes≤YC∧c≤YC then
   some (.gsl h.length l.toNat z.cells.length 0 l.toNat,h++[.arr (List.replicate l.toNat z)])
  else none
 |_,_=>none
def ZU(s:List UInt8)(pos:Nat):Nat ×Nat:=Utf8.decode ⟨s.toArray⟩ pos
def Kf(lo:Nat)(h:Zg)(it:V):Option (V ×Zg):=
 match it with
 |.itr B=>
  match h[B]? with
  |some (.iter s pos)=>
   if pos<s.length then
    if lo≤B then some (.tup [.bool true,.int .i64 pos,.int .i32 (ZU s pos).1],h.set B (.iter s (pos+(ZU s pos).2)))else none
   else some (.tup [.bool false],h)
  |_=>none
 |_=>none
def Yd(h:Zg):Nat→V→Option V
 |0,v=>some v
 |d+1,v=>
  if Ze v then some v else
  match v with
  |.gsl B ep z off len=>(KK h B ep off len).bind fun es=>(Y5 (Yd h d) es).map fun es=>.sl z es .brw
  |.ptr B ep i o=>
   match h[B]? with
   |some (.arr es)=>if es.length=ep then(es[i]?).bind fun e=>(Yd h d e).map fun e=>.eptr e o .brw else none
   |_=>none
  |.agg cs=>(Y5 (Yd h d) cs).map .agg
  |.func f a b=>(Y5 (Yd h d) a).bind fun a=>(Y5 (Yd h d) b).map fun b=>.func f a b
  |.iface t v=>(Yd h d v).map (.iface t)
  |v=>some v
def X5(h:Zg)(v:V):Option V:=Yd h 4 v
def frz(lo:Nat)(h:Zg):Nat→V→Option V
 |0,v=>if Ze v then some v else none
 |d+1,v=>
  if Ze v then some v else
  match v with
  |.gsl B ep z off len=>if B<lo then some v else(KK h B ep off len).bind fun es=>(Y5 (frz lo h d) es).map fun es=>.sl z es .perm
  |.ptr B ep i o=>
   if B<lo then some v else
   match h[B]? with
   |some (.arr es)=>if es.length=ep then(es[i]?).bind fun e=>(frz lo h d e).map fun e=>.eptr e o .perm else none
   |_=>none
  |.tup vs=>(Y5 (frz lo h d) vs).map .tup
  |.agg vs=>(Y5 (frz lo h d) vs).map .agg
  |.iface t v=>(frz lo h d v).map (.iface t)
  |_=>none
def Zn7(h h1:Zg):Prop:= ∀B,B<h.length→h1[B]? =h[B]? ∨∃b,h1[B]? =some b∧Vj h.length b=true
def UM(n:Nat):Zg→Zg→Bool
 |[],_=>true
 |_::_,[]=>false
 |b::h,b'::h1=>(Je b' b||Vj n b')&&UM n h h1
theorem ZaL{n:Nat}: ∀{h h1:Zg},UM n h h1=true→∀B,B<h.length→h1[B]? =h[B]? ∨∃b,h1[B]? =some b∧Vj n b=true
 |[],_,_,B,hB=>by simp at hB
 |_::_,[],hh,_,_=>by simp[UM]at hh
 |b::h,b'::h1,hh,B,hB=>by
  simp only[UM,Bool.and_eq_true,Bool.or_eq_true]at hh
  cases B with
  |zero=>
   rcases hh.1 with h0|h0
   ·exact .inl (by simp[Zkw h0])
   ·exact .inr ⟨b',rfl,h0⟩
  |succ B=>exact ZaL hh.2 B (by simpa using hB)
def Qu(h h1:Zg):Bool:=UM h.length h h1
theorem Zbj{h h1:Zg}(hh:Qu h h1=true):Zn7 h h1:=fun B hB=>ZaL hh B hB
def X1(vp:VP)(h:Zg)(fr:Fr)(h1:Zg):Zg:=
 if(vp.gc&&Zo h.length (fr.map Prod.snd)&&Qu h h1)=true then h1.take h.length else h1
def WP(vp:VP)(own:Bool)(h:Zg)(r:V)(h1:Zg):V ×Zg:=
 if(vp.gc&& !own&&Qu h h1)=true then
  match frz h.length h1 4 r with
  |some r'=>(r',h1.take h.length)
  |none=>(r,h1)
 else(r,h1)
inductive Ex where
 |nrm
 |brk (id:Nat)
 |ret
 deriving DecidableEq
structure Orc where
 call:Nat→Nat→List V→Zg→Option (V ×Zg)
 loop:Nat→List Nat→Zd→Fr→Zg→Option (Ex ×Fr ×Zg)
def Vt:Nat→List V→Fr
 |_,[]=>[]
 |n,v::l=>(n,v)::Vt (n+1) l
def put(fr:Fr)(dst:Option Nat)(v:V):Fr:=
 match dst with
 |some d=>(d,v)::fr
 |none=>fr
def Xq(O:Orc)(vp:VP)(lo:Nat)(h:Zg)(f:Nat)(args:List V):Option (V ×Zg):=
 match vp.fn f with
 |none=>none
 |some vf=>
  match vf.ext with
  |some p=>((Y5 (X5 h) args).bind p).map fun v=>(v,h)
  |none=>
   if vf.rw then(O.call f lo args h).map fun r=>WP vp vf.own h r.1 r.2
   else(Y5 (X5 h) args).bind fun as=>
    if Zo 0 as=true then(O.call f 0 as []).bind fun r=>(frz 0 r.2 4 r.1).map fun v=>(v,h)
    else(O.call f h.length as h).bind fun r=>(frz h.length r.2 4 r.1).map fun v=>(v,h)
def U1(vp:VP)(f:Nat):Bool:=
 match vp.fn f with
 |some vf=> !vf.rw||vf.ext.isSome
 |none=>false
def ZM(O:Orc)(vp:VP)(lo:Nat)(fr:Fr)(h:Zg)(op:VOp):Option (V ×Zg):=
 match op with
 |.alloc z=>some (.ptr h.length 1 0 0,h++[.arr [z]])
 |.box x=>if okV (opd fr x)then some (.ptr h.length 1 0 0,h++[.arr [opd fr x]])else none
 |.load agg n a=>(Yv h agg n (opd fr a)).map fun v=>(v,h)
 |.store n fz a x=>
  if fz then(fzV lo h (opd fr x)).bind fun r=>(Xp lo r.2 n (opd fr a) r.1).map fun h=>(.tup [],h)
  else(Xp lo h n (opd fr a) (opd fr x)).map fun h=>(.tup [],h)
 |.mksl z bytes len cap=>UW h z bytes (opd fr len) (opd fr cap)
 |.app z bytes fz s x=>
  (Wl h z (opd fr x)).bind fun ns=>
    if fz then(fzL lo h ns).bind fun r=>X3 lo r.2 z bytes (opd fr s) r.1
    else X3 lo h z bytes (opd fr s) ns
 |.nilacc z=>some (.gsl h.length 0 z 0 0,h++[.arr []])
 |.rng x=>(match opd fr x with|.str s=>some (.itr h.length,h++[.iter s 0])|_=>none)
 |.nxt it=>Kf lo h (opd fr it)
 |.call f args=>Xq O vp lo h f (args.map (opd fr))
 |.calld ro f args=>
  match opd fr f with
  |.func f a b=>if ro=true∧U1 vp f=false then none else Xq O vp lo h f (a++args.map (opd fr)++b)
  |_=>none
 |.inv m recv args=>
  match opd fr recv with
  |.iface t v=>(vp.meth t m).bind fun f=>Xq O vp lo h f (v::args.map (opd fr))
  |_=>none
 |op=>(Zf fr op).map fun v=>(v,h)
def Ya:V:=.tup []
def ZY(O:Orc)(vp:VP)(lo:Nat)(it:VIt)(fr:Fr)(h:Zg):Option (V ×Zg):=
 match it.g with
 |none=>ZM O vp lo fr h it.op
 |some (t,want)=>
  match lk fr t with
  |.bool b=>if b=want then ZM O vp lo fr h it.op else some (Ya,h)
  |.tup []=>some (Ya,h)
  |_=>none
def YN(O:Orc)(vp:VP)(lo:Nat):List VIt→Fr→Zg→Option (Fr ×Zg)
 |[],fr,h=>some (fr,h)
 |it::r,fr,h=>(ZY O vp lo it fr h).bind fun x=>YN O vp lo r (put fr it.dst x.1) x.2
structure Jf where
 p:Nat
 agg:Bool
 n:Nat
 a:V
 v:V
def Xg(p:Nat)(it:VIt)(fr:Fr)(h:Zg)(x:V):List Jf:=
 match it.op with
 |.load agg n a=>if ZT (Yv h agg n (opd fr a)) x=true then[⟨p,agg,n,opd fr a,x⟩]else[]
 |_=>[]
def Ur(O:Orc)(vp:VP)(lo:Nat):List VDt→Nat→List Jf→Fr→Zg→Option (Fr ×Zg)
 |[],_,_,fr,h=>some (fr,h)
 |d::r,p,rs,fr,h=>(ZY O vp lo d.it fr h).bind fun x=>
  if(rs.all fun e=> !d.xl.contains e.p||ZT (Yv x.2 e.agg e.n e.a) e.v)=true then Ur O vp lo r (p+1) (Xg p d.it fr h x.1++rs) (put fr d.it.dst x.1) x.2 else none
def Y4(O:Orc)(vp:VP)(lo:Nat):Zd→Fr→Zg→Option (Ex ×Fr ×Zg)
 |.skip,fr,h=>some (.nrm,fr,h)
 |.reg ops ks,fr,h=>(YN O vp lo ops fr h).map fun r=>(.nrm,keep ks r.1,r.2)
 |.drw ds ks,fr,h=>(Ur O vp lo ds 0 [] fr h).map fun r=>(.nrm,keep ks r.1,r.2)
 |.seq a b,fr,h=>(Y4 O vp lo a fr h).bind fun r=>
  match r with
  |(.nrm,fr,h)=>Y4 O vp lo b fr h
  |r=>some r
 |.cond c a b,fr,h=>
  match opd fr c with
  |.bool c=>if c then Y4 O vp lo a fr h else Y4 O vp lo b fr h
  |_=>none
 |.blk id body,fr,h=>(Y4 O vp lo body fr h).map fun r=>
  match r with
  |(.brk i,fr,h)=>if i=id then(.nrm,fr,h)else(.brk i,fr,h)
  |r=>r
 |.loop ks body,fr,h=>O.loop lo ks body (keep ks fr) h
 |.exit id,fr,h=>some (.brk id,fr,h)
 |.ret,fr,h=>some (.ret,fr,h)
def Xu(fr:Fr)(h:Zg):U0→Option V
 |.tmp t=>some (lk fr t)
 |.cell t agg n=>Yv h agg n (lk fr t)
def Zbe(fr:Fr)(h:Zg):List U0→Option (List V)
 |[]=>some []
 |r::l=>(Xu fr h r).bind fun v=>(Zbe fr h l).map (v:: ·)
def Ub(fr:Fr)(h:Zg)(l:List U0):Option V:=
 (Zbe fr h l).map fun vs=>match vs with|[v]=>v|vs=>.tup vs
def Y8(O:Orc)(vp:VP)(lo:Nat)(ks:List Nat)(body:Zd)(fr:Fr)(h:Zg):Option (Ex ×Fr ×Zg):=
 (Y4 O vp lo body fr h).bind fun r=>
   match r with
   |(.nrm,fr1,h1)=>O.loop lo ks body (keep ks fr1) (X1 vp h (keep ks fr1) h1)
   |r=>some r
def Xi(O:Orc)(vp:VP)(f lo:Nat)(args:List V)(h:Zg):Option (V ×Zg):=
 (vp.fn f).bind fun vf=>(Y4 O vp lo vf.body (Vt 0 args) h).bind fun r=>
   match r with
   |(.brk _,_,_)=>none
   |(_,fr,h1)=>(Ub fr h1 vf.results).map fun v=>(v,h1)
def YV(vp:VP):Nat→Orc
 |0=>⟨fun _ _ _ _=>none,fun _ _ _ _ _=>none⟩
 |n+1=>⟨fun f lo args h=>Xi (YV vp n) vp f lo args h,fun lo ks body fr h=>Y8 (YV vp n) vp lo ks body fr h⟩
structure Orc.le (O O':Orc):Prop where
 call: ∀f lo args h r,O.call f lo args h=some r→O'.call f lo args h=some r
 loop: ∀lo ks body fr h r,O.loop lo ks body fr h=some r→O'.loop lo ks body fr h=some r
theorem U9{O O':Orc}(hO:O.le O'){vp:VP}{lo:Nat}{h:Zg}{f:Nat}{args:List V}{r:V ×Zg}
 (e:Xq O vp lo h f args=some r):Xq O' vp lo h f args=some r:=by
 unfold Xq at*
 cases hf:vp.fn f with
 |none=>rw[hf]at e;exact absurd e (by simp)
 |some vf=>
  rw[hf]at e
  simp only at e⊢
  cases hx:vf.ext with
  |some p=>rw[hx]at e;exact e
  |none=>
   rw[hx]at e
   simp only at e⊢
   split at e
   ·rename_i hrw
    rw[if_pos hrw]
    simp only[Option.map_eq_some_iff]at e⊢
    obtain⟨x,hx,e⟩:=e
    exact⟨x,hO.call _ _ _ _ _ hx,e⟩
   ·rename_i hrw
    rw[if_neg hrw]
    simp only[Option.bind_eq_some_iff]at e⊢
    obtain⟨as,ha,e⟩:=e
    refine⟨as,ha,?_⟩
    split at e
    ·rename_i hb
     rw[if_pos hb]
     simp only[Option.bind_eq_some_iff]at e⊢
     obtain⟨x,hx,e⟩:=e
     exact⟨x,hO.call _ _ _ _ _ hx,e⟩
    ·rename_i hb
     rw[if_neg hb]
     simp only[Option.bind_eq_some_iff]at e⊢
     obtain⟨x,hx,e⟩:=e
     exact⟨x,hO.call _ _ _ _ _ hx,e⟩
theorem Kw{O O':Orc}(hO:O.le O'){vp:VP}{lo:Nat}{fr:Fr}{h:Zg}{op:VOp}{r:V ×Zg}
 (e:ZM O vp lo fr h op=some r):ZM O' vp lo fr h op=some r:=by
 cases op<;>simp only[ZM]at e⊢ <;>try exact e
 ·exact U9 hO e
 ·split at e
  ·split at e
   ·exact absurd e (by simp)
   ·rename_i hn;rw[if_neg hn];exact U9 hO e
  ·exact absurd e (by simp)
 ·split at e
  ·simp only[Option.bind_eq_some_iff]at e⊢
   obtain⟨f,hf,e⟩:=e
   exact⟨f,hf,U9 hO e⟩
  ·exact absurd e (by simp)
theorem V7{O O':Orc}(hO:O.le O'){vp:VP}{lo:Nat}{it:VIt}{fr:Fr}{h:Zg}{r:V ×Zg}(e:ZY O vp lo it fr h=some r):ZY O' vp lo it fr h=some r:=by
 unfold ZY at e⊢
 split at e
 ·exact Kw hO e
 ·split at e
  ·split at e
   ·rename_i hb
    rw[if_pos hb];exact Kw hO e
   ·rename_i hb
    rw[if_neg hb];exact e
  ·exact e
  ·exact absurd e (by simp)
theorem Ql{O O':Orc}(hO:O.le O'){vp:VP}{lo:Nat}: ∀(ops:List VIt) {fr:Fr} {h:Zg} {r:Fr ×Zg},YN O vp lo ops fr h=some r→YN O' vp lo ops fr h=some r
 |[],_,_,_,e=>e
 |it::ops,fr,h,r,e=>by
  simp only[YN,Option.bind_eq_some_iff]at e⊢
  obtain⟨x,hx,e⟩:=e
  exact⟨x,V7 hO hx,Ql hO ops e⟩
theorem JU{O O':Orc}(hO:O.le O'){vp:VP}{lo:Nat}: ∀(ds:List VDt) {p:Nat} {rs:List Jf} {fr:Fr} {h:Zg} {r:Fr ×Zg},Ur O vp lo ds p rs fr h=some r→Ur O' vp lo ds p rs fr h=some r
 |[],_,_,_,_,_,e=>e
 |d::ds,p,rs,fr,h,r,e=>by
  simp only[Ur,Option.bind_eq_some_iff]at e⊢
  obtain⟨x,hx,e⟩:=e
  refine⟨x,V7 hO hx,?_⟩
  split at e
  ·rename_i hc
   rw[if_pos hc];exact JU hO ds e
  ·exact absurd e (by simp)
theorem Uv{O O':Orc}(hO:O.le O'){vp:VP}{lo:Nat}: ∀(c:Zd) {fr:Fr} {h:Zg} {r:Ex ×Fr ×Zg},
 Y4 O vp lo c fr h=some r→Y4 O' vp lo c fr h=some r:=by
 intro c
 induction c with
 |skip=>intro fr h r e;exact e
 |reg ops ks=>
  intro fr h r e
  simp only[Y4,Option.map_eq_some_iff]at e⊢
  obtain⟨x,hx,rfl⟩:=e
  exact⟨x,Ql hO ops hx,rfl⟩
 |drw ds ks=>
  intro fr h r e
  simp only[Y4,Option.map_eq_some_iff]at e⊢
  obtain⟨x,hx,rfl⟩:=e
  exact⟨x,JU hO ds hx,rfl⟩
 |seq a b iha ihb=>
  intro fr h r e
  simp only[Y4,Option.bind_eq_some_iff]at e⊢
  obtain⟨x,hx,e⟩:=e
  refine⟨x,iha hx,?_⟩
  obtain⟨ex,fr1,h1⟩:=x
  cases ex<;>simp only at e⊢ <;>first|exact ihb e|exact e
 |cond c a b iha ihb=>
  intro fr h r e
  simp only[Y4]at e⊢
  split at e
  ·split at e
   ·rename_i hc;rw[if_pos hc];exact iha e
   ·rename_i hc;rw[if_neg hc];exact ihb e
  ·exact absurd e (by simp)
 |blk id body ih=>
  intro fr h r e
  simp only[Y4,Option.map_eq_some_iff]at e⊢
  obtain⟨x,hx,e⟩:=e
  exact⟨x,ih hx,e⟩
 |loop ks body ih=>intro fr h r e;exact hO.loop _ _ _ _ _ _ e
 |exit id=>intro fr h r e;exact e
 |ret=>intro fr h r e;exact e
theorem ZGl{O O':Orc}(hO:O.le O'){vp:VP}{lo:Nat}{ks:List Nat}{body:Zd}{fr:Fr}{h:Zg}{r:Ex ×Fr ×Zg}
 (e:Y8 O vp lo ks body fr h=some r):Y8 O' vp lo ks body fr h=some r:=by
 simp only[Y8,Option.bind_eq_some_iff]at e⊢
 obtain⟨x,hx,e⟩:=e
 refine⟨x,Uv hO _ hx,?_⟩
 obtain⟨ex,fr1,h1⟩:=x
 cases ex<;>simp only at e⊢ <;>first|exact hO.loop _ _ _ _ _ _ e|exact e
theorem QZ{O O':Orc}(hO:O.le O'){vp:VP}{f lo:Nat}{args:List V}{h:Zg}{r:V ×Zg}
 (e:Xi O vp f lo args h=some r):Xi O' vp f lo args h=some r:=by
 simp only[Xi,Option.bind_eq_some_iff]at e⊢
 obtain⟨vf,hv,x,hx,e⟩:=e
 exact⟨vf,hv,x,Uv hO _ hx,e⟩
theorem UJ(vp:VP): ∀n,(YV vp n).le (YV vp (n+1))
 |0=>⟨fun _ _ _ _ _ e=>absurd e (by simp[YV]),fun _ _ _ _ _ _ e=>absurd e (by simp[YV])⟩
 |n+1=>⟨fun _ _ _ _ _ e=>QZ (UJ vp n) e,fun _ _ _ _ _ _ e=>ZGl (UJ vp n) e⟩
theorem Orc.le_refl(O:Orc):O.le O:=⟨fun _ _ _ _ _ e=>e,fun _ _ _ _ _ _ e=>e⟩
theorem Orc.le_trans{A B C:Orc}(h:A.le B)(k:B.le C):A.le C:=
 ⟨fun _ _ _ _ _ e=>k.call _ _ _ _ _ (h.call _ _ _ _ _ e),fun _ _ _ _ _ _ e=>k.loop _ _ _ _ _ _ (h.loop _ _ _ _ _ _ e)⟩
theorem W8(vp:VP){m n:Nat}(h:m≤n):(YV vp m).le (YV vp n):=by
 induction h with
 |refl=>exact Orc.le_refl _
 |step _ ih=>exact Orc.le_trans ih (UJ vp _)
open Classical in
noncomputable def lim {α:Type} (g:Nat→Option α):Option α:=
 if h: ∃n a,g n=some a then some h.choose_spec.choose else none
theorem ZeX{α:Type}{g:Nat→Option α}{a:α}(h:lim g=some a): ∃n,g n=some a:=by
 unfold lim at h
 split at h
 ·rename_i hex
  have:=hex.choose_spec.choose_spec
  simp only[Option.some.injEq]at h
  exact⟨_,h▸this⟩
 ·exact absurd h (by simp)
theorem Zn4{α:Type}{g:Nat→Option α}(mono: ∀m n a,m≤n→g m=some a→g n=some a){n:Nat}{a:α}(h:g n=some a):lim g=some a:=by
 have hex: ∃n a,g n=some a:=⟨n,a,h⟩
 unfold lim
 rw[dif_pos hex]
 have hs:=hex.choose_spec.choose_spec
 rcases Nat.le_total n hex.choose with hle|hle
 ·exact hs.symm.trans (mono _ _ _ hle h)
 ·exact(mono _ _ _ hle hs).symm.trans h
noncomputable def orc (vp:VP):Orc:=
 ⟨fun f lo args h=>lim fun n=>(YV vp n).call f lo args h,fun lo ks body fr h=>lim fun n=>(YV vp n).loop lo ks body fr h⟩
theorem WA(vp:VP)(n:Nat):(YV vp n).le (orc vp):=
 ⟨fun f lo args h r e=>Zn4 (fun _ _ _ hle e=>(W8 vp hle).call _ _ _ _ _ e) e,fun lo ks body fr h r e=>Zn4 (fun _ _ _ hle e=>(W8 vp hle).loop _ _ _ _ _ _ e) e⟩
theorem Wc{vp:VP}{f lo:Nat}{args:List V}{h:Zg}{r:V ×Zg}(e:(orc vp).call f lo args h=some r): ∃n,(YV vp n).call f lo args h=some r:=ZeX e
theorem Uc{vp:VP}{lo:Nat}{ks:List Nat}{body:Zd}{fr:Fr}{h:Zg}{r:Ex ×Fr ×Zg}(e:(orc vp).loop lo ks body fr h=some r): ∃n,(YV vp n).loop lo ks body fr h=some r:=ZeX e
theorem U7{vp:VP}{lo:Nat}{h:Zg}{f:Nat}{args:List V}{r:V ×Zg}
 (e:Xq (orc vp) vp lo h f args=some r): ∃n,Xq (YV vp n) vp lo h f args=some r:=by
 unfold Xq at*
 cases hf:vp.fn f with
 |none=>rw[hf]at e;exact absurd e (by simp)
 |some vf=>
  rw[hf]at e
  simp only at e⊢
  cases hx:vf.ext with
  |some p=>rw[hx]at e;exact⟨0,e⟩
  |none=>
   rw[hx]at e
   simp only at e⊢
   split at e
   ·rename_i hrw
    simp only[if_pos hrw]
    simp only[Option.map_eq_some_iff]at e⊢
    obtain⟨x,hx,e⟩:=e
    obtain⟨n,hn⟩:=Wc hx
    exact⟨n,x,hn,e⟩
   ·rename_i hrw
    simp only[if_neg hrw]
    simp only[Option.bind_eq_some_iff]at e⊢
    obtain⟨as,ha,e⟩:=e
    split at e
    ·rename_i hb
     simp only[Option.bind_eq_some_iff]at e
     obtain⟨x,hx,e⟩:=e
     obtain⟨n,hn⟩:=Wc hx
     exact⟨n,as,ha,by rw[if_pos hb];simp only[Option.bind_eq_some_iff];exact⟨x,hn,e⟩⟩
    ·rename_i hb
     simp only[Option.bind_eq_some_iff]at e
     obtain⟨x,hx,e⟩:=e
     obtain⟨n,hn⟩:=Wc hx
     exact⟨n,as,ha,by rw[if_neg hb];simp only[Option.bind_eq_some_iff];exact⟨x,hn,e⟩⟩
theorem Kj{vp:VP}{lo:Nat}{fr:Fr}{h:Zg}{op:VOp}{r:V ×Zg}
 (e:ZM (orc vp) vp lo fr h op=some r): ∃n,ZM (YV vp n) vp lo fr h op=some r:=by
 cases op<;>simp only[ZM]at e⊢ <;>try exact⟨0,e⟩
 ·exact U7 e
 ·split at e
  ·split at e
   ·exact absurd e (by simp)
   ·rename_i hn
    obtain⟨n,h⟩:=U7 e
    exact⟨n,by rw[if_neg hn];exact h⟩
  ·exact absurd e (by simp)
 ·split at e
  ·simp only[Option.bind_eq_some_iff]at e⊢
   obtain⟨f,hf,e⟩:=e
   obtain⟨n,h⟩:=U7 e
   exact⟨n,f,hf,h⟩
  ·exact absurd e (by simp)
theorem KG{vp:VP}{lo:Nat}{it:VIt}{fr:Fr}{h:Zg}{r:V ×Zg}(e:ZY (orc vp) vp lo it fr h=some r): ∃n,ZY (YV vp n) vp lo it fr h=some r:=by
 unfold ZY at e⊢
 split at e
 ·exact Kj e
 ·split at e
  ·split at e
   ·rename_i hb
    simp only[if_pos hb];exact Kj e
   ·rename_i hb
    simp only[if_neg hb];exact⟨0,e⟩
  ·exact⟨0,e⟩
  ·exact absurd e (by simp)
theorem Kr{vp:VP}{lo:Nat}: ∀(ops:List VIt) {fr:Fr} {h:Zg} {r:Fr ×Zg},YN (orc vp) vp lo ops fr h=some r→∃n,YN (YV vp n) vp lo ops fr h=some r
 |[],_,_,_,e=>⟨0,e⟩
 |it::ops,fr,h,r,e=>by
  simp only[YN,Option.bind_eq_some_iff]at e⊢
  obtain⟨x,hx,e⟩:=e
  obtain⟨n,hn⟩:=KG hx
  obtain⟨m,hm⟩:=Kr ops e
  exact⟨max n m,x,V7 (W8 vp (Nat.le_max_left n m)) hn,Ql (W8 vp (Nat.le_max_right n m)) ops hm⟩
theorem Zbx{vp:VP}{lo:Nat}: ∀(ds:List VDt) {p:Nat} {rs:List Jf} {fr:Fr} {h:Zg} {r:Fr ×Zg},Ur (orc vp) vp lo ds p rs fr h=some r→∃n,Ur (YV vp n) vp lo ds p rs fr h=some r
 |[],_,_,_,_,_,e=>⟨0,e⟩
 |d::ds,p,rs,fr,h,r,e=>by
  simp only[Ur,Option.bind_eq_some_iff]at e⊢
  obtain⟨x,hx,e⟩:=e
  obtain⟨n,hn⟩:=KG hx
  split at e
  ·rename_i hc
   obtain⟨m,hm⟩:=Zbx ds e
   exact⟨max n m,x,V7 (W8 vp (Nat.le_max_left n m)) hn,by rw[if_pos hc];exact JU (W8 vp (Nat.le_max_right n m)) ds hm⟩
  ·exact absurd e (by simp)
theorem Zbt{vp:VP}{lo:Nat}: ∀(c:Zd) {fr:Fr} {h:Zg} {r:Ex ×Fr ×Zg},
 Y4 (orc vp) vp lo c fr h=some r→∃n,Y4 (YV vp n) vp lo c fr h=some r:=by
 intro c
 induction c with
 |skip=>intro fr h r e;exact⟨0,e⟩
 |reg ops ks=>
  intro fr h r e
  simp only[Y4,Option.map_eq_some_iff]at e⊢
  obtain⟨x,hx,rfl⟩:=e
  obtain⟨n,hn⟩:=Kr ops hx
  exact⟨n,x,hn,rfl⟩
 |drw ds ks=>
  intro fr h r e
  simp only[Y4,Option.map_eq_some_iff]at e⊢
  obtain⟨x,hx,rfl⟩:=e
  obtain⟨n,hn⟩:=Zbx ds hx
  exact⟨n,x,hn,rfl⟩
 |seq a b iha ihb=>
  intro fr h r e
  simp only[Y4,Option.bind_eq_some_iff]at e⊢
  obtain⟨x,hx,e⟩:=e
  obtain⟨n,hn⟩:=iha hx
  obtain⟨ex,fr1,h1⟩:=x
  cases ex with
  |nrm=>
   simp only at e
   obtain⟨m,hm⟩:=ihb e
   exact⟨max n m,_,Uv (W8 vp (Nat.le_max_left n m)) _ hn,Uv (W8 vp (Nat.le_max_right n m)) _ hm⟩
  |brk i=>exact⟨n,_,hn,e⟩
  |ret=>exact⟨n,_,hn,e⟩
 |cond c a b iha ihb=>
  intro fr h r e
  simp only[Y4]at e⊢
  split at e
  ·split at e
   ·rename_i hc;simp only[if_pos hc];exact iha e
   ·rename_i hc;simp only[if_neg hc];exact ihb e
  ·exact absurd e (by simp)
 |blk id body ih=>
  intro fr h r e
  simp only[Y4,Option.map_eq_some_iff]at e⊢
  obtain⟨x,hx,e⟩:=e
  obtain⟨n,hn⟩:=ih hx
  exact⟨n,x,hn,e⟩
 |loop ks body ih=>
  intro fr h r e
  simp only[Y4]at e⊢
  exact Uc e
 |exit id=>intro fr h r e;exact⟨0,e⟩
 |ret=>intro fr h r e;exact⟨0,e⟩
theorem Ze5(vp:VP)(f lo:Nat)(args:List V)(h:Zg):(orc vp).call f lo args h=Xi (orc vp) vp f lo args h:=by
 cases e:(orc vp).call f lo args h with
 |some r=>
  obtain⟨n,hn⟩:=Wc e
  cases n with
  |zero=>exact absurd hn (by simp[YV])
  |succ n=>exact(QZ (WA vp n) hn).symm
 |none=>
  cases e':Xi (orc vp) vp f lo args h with
  |none=>rfl
  |some r=>
   exfalso
   simp only[Xi,Option.bind_eq_some_iff]at e'
   obtain⟨vf,hv,x,hx,e'⟩:=e'
   obtain⟨n,hn⟩:=Zbt _ hx
   have:(YV vp (n+1)).call f lo args h=some r:=by
    show Xi (YV vp n) vp f lo args h=some r
    simp only[Xi,Option.bind_eq_some_iff]
    exact⟨vf,hv,x,hn,e'⟩
   rw[(WA vp (n+1)).call _ _ _ _ _ this]at e
   exact absurd e (by simp)
theorem ZlV(vp:VP)(lo:Nat)(ks:List Nat)(body:Zd)(fr:Fr)(h:Zg):(orc vp).loop lo ks body fr h=Y8 (orc vp) vp lo ks body fr h:=by
 cases e:(orc vp).loop lo ks body fr h with
 |some r=>
  obtain⟨n,hn⟩:=Uc e
  cases n with
  |zero=>exact absurd hn (by simp[YV])
  |succ n=>exact(ZGl (WA vp n) hn).symm
 |none=>
  cases e':Y8 (orc vp) vp lo ks body fr h with
  |none=>rfl
  |some r=>
   exfalso
   simp only[Y8,Option.bind_eq_some_iff]at e'
   obtain⟨x,hx,e'⟩:=e'
   obtain⟨n,hn⟩:=Zbt _ hx
   obtain⟨ex,fr1,h1⟩:=x
   have: ∃m,Y8 (YV vp m) vp lo ks body fr h=some r:=by
    cases ex with
    |nrm=>
     simp only at e'
     obtain⟨m,hm⟩:=Uc e'
     refine⟨max n m,?_⟩
     simp only[Y8,Option.bind_eq_some_iff]
     exact⟨_,Uv (W8 vp (Nat.le_max_left n m)) _ hn,(W8 vp (Nat.le_max_right n m)).loop _ _ _ _ _ _ hm⟩
    |brk i=>exact⟨n,by simp only[Y8,Option.bind_eq_some_iff];exact⟨_,hn,e'⟩⟩
    |ret=>exact⟨n,by simp only[Y8,Option.bind_eq_some_iff];exact⟨_,hn,e'⟩⟩
   obtain⟨m,hm⟩:=this
   rw[(WA vp (m+1)).loop _ _ _ _ _ _ hm]at e
   exact absurd e (by simp)
noncomputable def ZmY (vp:VP) (f lo:Nat) (args:List V) (h:Zg):Option (V ×Zg):=(orc vp).call f lo args h
end Go.VE
namespace Go.VE
structure Tbl where
 fid:Nat→Option FuncId
 tid:Nat→Option TypeId
 mname:Nat→String
mutual
def XB:V→Value→Bool
 |.bool b,v=>(match v with|.bool a=>a==b|_=>false)
 |.int k n,v=>(match v with|.int k' m=>decide (k'=k)&&decide (m=n)|_=>false)
 |.str l,v=>(match v with|.string s=>s.data.toList==l|_=>false)
 |.nilp,v=>(match v with|.pointer none=>true|_=>false)
 |.sl _ es t,v=>(match v with|.slice none 0 0=>es.isEmpty&&(match t with|.nl=>true|_=>false)|_=>false)
 |.nilm,v=>(match v with|.map none=>true|_=>false)
 |.nilf,v=>(match v with|.nilFunc=>true|_=>false)
 |.nili,v=>(match v with|.nilIface=>true|_=>false)
 |.agg vs,v=>(match v with|.agg cs=>QP vs cs.toList|_=>false)
 |_,_=>false
def QP:List V→List Value→Bool
 |[],l=>l.isEmpty
 |v::vs,l=>(match l with|c::cs=>(match c with|.agg _|.tuple _=>false|_=>true)&&XB v c&&QP vs cs|[]=>false)
end
def Zi7(v:Value)(x:V):Bool:=XB x v
def ZQ(T:Tbl):Operand→Z3→Bool
 |.tmp t,.t t'=>t==t'
 |.const v,.c v'=>Zi7 v v'
 |.func f,.c (.func i [] [])=>T.fid i==some f
 |_,_=>false
def XY(T:Tbl):List Operand→List Z3→Bool
 |[],[]=>true
 |x::l,y::r=>ZQ T x y&&XY T l r
 |_,_=>false
def Za2(T:Tbl):Option Operand→Option Z3→Bool
 |none,none=>true
 |some x,some y=>ZQ T x y
 |_,_=>false
section
variable (P : Program) (T : Tbl)
def Xh(t:TypeId):Option Nat:=(P.info? t).map (·.size)
def XX(t:TypeId)(n:Nat):Bool:=(P.info? t).map (·.bytes)==some n
def VR(t:TypeId)(z:V):Bool:=
 match(P.info? t).bind (·.zero)with
 |some v=>Zi7 v z
 |none=>false
def Xf(t:TypeId):Option Bool:=
 match P.underlying t with
 |some (.struct _)|some (.array _ _)=>some true
 |some _=>some false
 |none=>none
def Vn(k:EK)(t:TypeId):Bool:=
 match k,P.underlying t with
 |.b,some .bool=>true
 |.i,some (.int _)=>true
 |.s,some .string=>true
 |_,_=>false
def Znx(g:TypeId→Option (List EK)):Nat→List Field→Option (List EK)
 |_,[]=>some []
 |n,f::fs=>if(f.name != "_"&&f.offset==n)=true then(g f.type).bind fun ks=>(Znx g (n+ks.length) fs).map (ks++ ·)else none
def WJ:Nat→TypeId→Option (List EK)
 |0,_=>none
 |d+1,t=>
  match P.underlying t with
  |some .bool=>some [.b]
  |some (.int _)=>some [.i]
  |some .string=>some [.s]
  |some (.struct fs)=>if P.stoodInHeld t=false then(Znx (WJ d) 0 fs.toList).bind fun ks=>if Xh P t=some ks.length then some ks else none else none
  |some (.array n e)=>(WJ d e).bind fun ks=>if Xh P e=some ks.length∧Xh P t=some (n*ks.length)then some (List.replicate n ks).flatten else none
  |_=>none
def Zt8(t:TypeId)(ks:Option (List EK)):Bool:=
 match ks with
 |none=>Vn P .b t
 |some ks=>Xf P t==some true&& !P.eqGuardType P.depth t&&WJ P 8 t==some ks
def YK(t:TypeId):Option TypeId:=
 match P.underlying t with
 |some (.slice e)=>some e
 |_=>none
def Xk(p:TypeDesc→Bool)(t:TypeId):Bool:=
 match P.underlying t with
 |some d=>p d
 |none=>false
def ZmL(d:TypeDesc):Bool:=match d with|.int _=>true|_=>false
def Um(d:TypeDesc):Bool:=match d with|.string=>true|_=>false
def ZcI(d:TypeDesc):Bool:=match d with|.slice _=>true|_=>false
def Zpc(d:TypeDesc):Bool:=match d with|.int .u8=>true|_=>false
def US(d:TypeDesc):Bool:=match d with|.interface _=>true|_=>false
def Vh(place:Nat→Option (Nat ×Nat)):List (Nat ×Operand)→List (Nat ×Nat ×Z3)→Bool
 |[],[]=>true
 |(i,x)::l,(off,n,y)::r=>decide (place i=some (off,n))&&ZQ T x y&&Vh place l r
 |_,_=>false
def Up:Nat→List (Nat ×Operand)→List Z3→Bool
 |_,[],[]=>true
 |k,(i,x)::l,y::r=>i==k&&ZQ T x y&&Up (k+1) l r
 |_,_,_=>false
def Qo(fs:Array Field)(i:Nat):Option (Nat ×Nat):=(fs[i]?).bind fun f=>(Xh P f.type).map fun n=>(f.offset,n)
def XK(k:NK)(x:Operand):Bool:=
 match k,x with
 |.p,.const (.pointer none)|.i,.const .nilIface|.f,.const .nilFunc|.m,.const (.map none)|.s,.const (.slice none _ _)=>true
 |_,_=>false
def ZiB(k:NK)(d:TypeDesc):Bool:=
 match k,d with
 |.p,.pointer _|.i,.interface _|.f,.func _ _ _|.m,.map _ _|.s,.slice _=>true
 |_,_=>false
def VZ(op:Op)(v:VOp):Bool:=
 match op,v with
 |.move x,.mv y|.assign x,.mv y=>ZQ T x y
 |.assign (.const (.slice none 0 0)),.nilacc _=>true
 |.pick c a b,.pick c' a' b'=>ZQ T c c'&&ZQ T a a'&&ZQ T b b'
 |.alloc t,.alloc z=>VR P t z
 |.box _ x,.box y=>ZQ T x y
 |.build t ps,.build z ps'=>
  VR P t (.agg z)&&
  match P.underlying t with
  |some (.struct fs)=>(fs.toList.all fun f=>(Xh P f.type).isSome)&&Vh T (Qo P fs) ps.toList ps'
  |some (.array _ e)=>(match Xh P e with|some n=>Vh T (fun i=>some (i*n,n)) ps.toList ps'|none=>false)
  |_=>false
 |.buildSlice t len ps,.buildSl n ps'=>
  (match YK P t with
   |some e=>Xh P e==some n&&0<n&&decide (len*n≤2^24)&&(match(P.info? e).bind (·.zero)with|some z=>z.cells.size==n|none=>false)
   |none=>false)&&ps.size==len&&Up T 0 ps.toList ps'
 |.load t a,.load agg n b=>Xf P t==some agg&&(if agg then Xh P t==some n else true)&&ZQ T a b
 |.store t a x,.store n _ b y=>Xh P t==some n&&ZQ T a b&&ZQ T x y
 |.nilCheck x,.nilchk y=>ZQ T x y
 |.binOp op t x y _,.bin op' x' y'=>
  decide (op=op')&&ZQ T x x'&&ZQ T y y'
 |.binOp op t x y _,.eq neg ks x' y'=>
  (match op with|.eql=> !neg|.neq=>neg|_=>false)&&ZQ T x x'&&ZQ T y y'&&Zt8 P t ks
 |.binOp op t x y _,.isnil k neg x'=>
  (match op with|.eql=> !neg|.neq=>neg|_=>false)&&Xk P (ZiB k) t&&
  ((XK k y&&ZQ T x x')||(XK k x&&ZQ T y x'))
 |.unOp op _ x,.un op' y=>decide (op=op')&&ZQ T x y
 |.convert s d x,.conv k y=>
  ZQ T x y&&
  match k with
  |.int k=>(P.underlying s).isSome&&Xk P (fun d=>match d with|.int k'=>decide (k'=k)|_=>false) d
  |.id=>(P.underlying s).isSome&&Xk P Um d
  |.b2s=>(match YK P s with|some e=>Xk P Zpc e|none=>false)&&Xk P Um d
  |.s2b=>Xk P Um s&&(match YK P d with|some e=>Xk P Zpc e|none=>false)
 |.makeInterface t x,.mkif i y=>T.tid i==some t&&Xk P (fun d=> !US d) t&&ZQ T x y
 |.makeFunc (.func f) a b,.mkfn i a' b'=>T.fid i==some f&&XY T a.toList a'&&XY T b.toList b'
 |.makeSlice t l c,.mksl z bytes l' c'=>
  (match YK P t with
   |some e=>XX P e bytes&&VR P e z&&Xh P e==some z.cells.length&&0<z.cells.length&&0<bytes
   |none=>false)&&ZQ T l l'&&ZQ T c c'
 |.slice t x lo hi mx,.slice n y lo' hi' mx'=>
  (match P.underlying t with|some .string=>n==0|some (.slice e)=>Xh P e==some n&&decide (0<n)|_=>false)&&
  ZQ T x y&&Za2 T lo lo'&&Za2 T hi hi'&&Za2 T mx mx'&&(mx.isNone||hi.isSome)
 |.fieldAddr t x f,.faddr off y=>
  ZQ T x y&&
  match P.underlying t with
  |some (.struct fs)=>(match fs[f]? with|some fd=>fd.offset==off&&(match Xh P fd.type with|some n=>n !=0|none=>false)|none=>false)
  |_=>false
 |.field t x f,.fld agg n off y=>
  ZQ T x y&&
  match P.underlying t with
  |some (.struct fs)=>(match fs[f]? with|some fd=>fd.offset==off&&Xf P fd.type==some agg&&(if agg then Xh P fd.type==some n else true)|none=>false)
  |_=>false
 |.indexAddr t x i,.iaddr n y j=>
  (match YK P t with|some e=>Xh P e==some n&&0<n|none=>false)&&ZQ T x y&&ZQ T i j
 |.indexAddr t x i,.iaddrA len n y j=>
  (match P.underlying t with|some (.array l e)=>l==len&&Xh P e==some n|_=>false)&&ZQ T x y&&ZQ T i j
 |.index t x i,.idxS y j=>Xk P Um t&&ZQ T x y&&ZQ T i j
 |.index t x i,.idxA len n agg y j=>
  (match P.underlying t with|some (.array l e)=>l==len&&Xh P e==some n&&Xf P e==some agg|_=>false)&&ZQ T x y&&ZQ T i j
 |.typeAssert x _ t ok,.tassert i z ok' y=>T.tid i==some t&&Xk P (fun d=> !US d) t&&VR P t z&&ok==ok'&&ZQ T x y
 |.extract x i,.ext y j=>i==j&&ZQ T x y
 |.range t x,.rng y=>Xk P Um t&&ZQ T x y
 |.next x true,.nxt y=>ZQ T x y
 |.call c,v=>
  match c.callee,v with
  |.builtin .len,.len text y=>
   (match c.args.toList,c.argTypes[0]? with
    |[x],some t=>Xk P (if text then Um else ZcI) t&&ZQ T x y
    |_,_=>false)
  |.builtin .len,.mv (.c (.int .i64 n))=>
   (match c.args.toList,c.argTypes[0]? with
    |[_],some t=>(match P.underlying t with
      |some (.array m _)=>decide (n=(m:Int))
      |some (.pointer a)=>(match P.underlying a with|some (.array m _)=>decide (n=(m:Int))|_=>false)
      |_=>false)
    |_,_=>false)
  |.builtin .append,.app z bytes _ s x=>
   (match c.args.toList,c.argTypes[0]? with
    |[s',x'],some t=>
     (match YK P t with
      |some e=>Xh P e==some z&&0<z&&XX P e bytes&&0<bytes&&decide (bytes≤1048576)&&(match(P.info? e).bind (·.zero)with|some v=>v.cells.size==z|none=>false)
      |none=>false)&&
     (match c.argTypes[1]? with|some t'=>Xk P (fun d=> !ZmL d) t'|none=>true)&&ZQ T s' s&&ZQ T x' x
    |_,_=>false)
  |.builtin .min,.mn xs=>XY T c.args.toList xs
  |.builtin .max,.mx xs=>XY T c.args.toList xs
  |.value (.func f),.call i xs=>T.fid i==some f&&XY T c.args.toList xs
  |.value (.tmp t),.calld _ y xs=>ZQ T (.tmp t) y&&XY T c.args.toList xs
  |.invoke r m,.inv i y xs=>T.mname i==m&&ZQ T r y&&XY T c.args.toList xs
  |_,.stuck=>true
  |_,_=>false
 |_,.stuck=>true
 |_,_=>false
def Zaw(ops:Array Oper)(ntmps:Nat)(o:Oper)(v:VIt):Bool:=
 o.dst==v.dst&&(match o.dst with|some d=>d<ntmps|none=>true)&&
 (match o.guard,v.g with
  |none,none=>true
  |some (j,w),some (t,w')=>w==w'&&(ops[j]?).bind (·.dst)==some t
  |_,_=>false)&&VZ P T o.op v.op
def Qp(ops:Array Oper)(ntmps:Nat):List Oper→List VIt→Bool
 |[],[]=>true
 |o::l,v::r=>Zaw P T ops ntmps o v&&Qp ops ntmps l r
 |_,_=>false
inductive Cls where
 |reg|ld|ro|fresh|wr
 deriving DecidableEq
def Yc(vp:VP):VOp→Cls
 |.load .. =>.ld
 |.call f _=>if U1 vp f then .ro else .wr
 |.calld ro _ _=>if ro then .ro else .wr
 |.inv .. =>.wr
 |.alloc _|.box _=>.fresh
 |.store .. |.mksl .. |.app .. |.nilacc _|.rng _|.nxt _=>.wr
 |.mkmap|.mapget .. |.mapput .. =>.wr
 |_=>.reg
def X4:Cls→Cls→Bool
 |.reg,_|_,.reg=>true
 |.ld,_=>true
 |.fresh,.ld|.fresh,.fresh|.fresh,.ro=>true
 |.ro,.ld=>true
 |_,_=>false
def Jo:Option Z3→List Z3
 |none=>[]
 |some x=>[x]
def KJ:VOp→List Z3
 |.mv x|.box x|.nilchk x|.isnil _ _ x|.un _ x|.conv _ x|.mkif _ x|.faddr _ x|.fld _ _ _ x|.tassert _ _ _ x|.ext x _|.len _ x|.rng x|.nxt x|.load _ _ x=>[x]
 |.pick c a b=>[c,a,b]
 |.build _ ps=>ps.map fun p=>p.2.2
 |.buildSl _ ps=>ps
 |.store _ _ a x|.bin _ a x|.eq _ _ a x|.mksl _ _ a x|.iaddr _ a x|.iaddrA _ _ a x|.idxS a x|.idxA _ _ _ a x|.app _ _ _ a x=>[a,x]
 |.mkfn _ a b=>a++b
 |.slice _ x lo hi mx=>x::(Jo lo++Jo hi++Jo mx)
 |.mn xs|.mx xs|.call _ xs=>xs
 |.calld _ f xs|.inv _ f xs=>f::xs
 |.mapget _ _ m k=>[m,k]
 |.mapput m k x=>[m,k,x]
 |.alloc _|.nilacc _|.mkmap|.stuck=>[]
def VF:List Z3→List Nat
 |[]=>[]
 |.t n::l=>n::VF l
 |.c _::l=>VF l
def UI(it:VIt):List Nat:=VF (KJ it.op)++(match it.g with|some (t,_)=>[t]|none=>[])
def Qt(vp:VP)(p:Nat)(x y:VDt):Bool:=
 X4 (Yc vp x.it.op) (Yc vp y.it.op)&&
 (match Yc vp x.it.op,Yc vp y.it.op with|.ld,.wr=>y.xl.contains p|_,_=>true)&&
 (match x.it.dst with|some d=> !(UI y.it).contains d&&y.it.dst !=some d|none=>true)&&
 (match y.it.dst with|some d=> !(UI x.it).contains d|none=>true)
def J8(done:List (Nat ×VDt)):List Edge→Option Nat
 |[]=>some 0
 |e::es=>
  if Region.binds .any e then
   match done.find? (fun x=>x.2.ix==e.on)with
   |some x=>(J8 done es).map fun m=>m|||2^e.on|||x.2.bm
   |none=>none
  else J8 done es
def ZpB(vp:VP)(ops:Array Oper)(nt:Nat):Nat→List (Nat ×VDt)→List VDt→Bool
 |_,_,[]=>true
 |p,done,d::r=>
  (done.all fun x=>x.2.ix !=d.ix)&&d.ix<ops.size&&Zaw P T ops nt (ops.getD d.ix default) d.it&&
  (J8 done (ops.getD d.ix default).after.toList==some d.bm)&&
  (done.all fun x=>d.bm.testBit x.2.ix||Qt vp x.1 x.2 d)&&ZpB vp ops nt (p+1) ((p,d)::done) r
def Za4(vp:VP)(ops:Array Oper)(nt:Nat)(ds:List VDt):Bool:=
 ZpB P T vp ops nt 0 [] ds&&((List.range ops.size).all fun i=>ds.any fun d=>d.ix==i)
def YE(vp:VP)(ntmps:Nat):Code→Zd→Bool
 |.skip,.skip=>true
 |.region _ ops false,.reg vs _=>Qp P T ops ntmps ops.toList vs
 |.region _ ops true,.drw ds _=>Za4 P T vp ops ntmps ds
 |.seq a b,.seq a' b'=>YE vp ntmps a a'&&YE vp ntmps b b'
 |.cond c a b,.cond c' a' b'=>ZQ T c c'&&YE vp ntmps a a'&&YE vp ntmps b b'
 |.block i a,.blk i' a'=>i==i'&&YE vp ntmps a a'
 |.loop a,.loop _ a'=>YE vp ntmps a a'
 |.exit i,.exit i'=>i==i'
 |.ret,.ret=>true
 |_,_=>false
def W5:List ResultVar→List U0→Bool
 |[],[]=>true
 |.tmp t::l,.tmp t'::r=>t==t'&&W5 l r
 |.cell a t::l,.cell a' agg n::r=>a==a'&&Xf P t==some agg&&(if agg then Xh P t==some n else true)&&W5 l r
 |_,_=>false
def JS(vp:VP)(fn:Func)(vf:Zi):Bool:=
 match fn.body with
 |some c=>YE P T vp fn.ntmps c vf.body&&W5 P fn.results.toList vf.results&&fn.name != "runtime.NumGoroutine"
 |none=>false
def Zax(t:TypeId)(name:String)(f:FuncId):Bool:=
 match(P.info? t).bind fun i=>i.methods.find? (·.name==name)with
 |some m=>m.path.isEmpty&&(match m.func with|some (g,false)=>g==f|_=>false)&&Xk P (fun d=>match d with|.pointer _=>false|_=>true) t
 |none=>false
end
end Go.VE
namespace Go.VE
set_option linter.unnecessarySimpa false
def oc:Value→Bool
 |.agg _|.tuple _=>false
 |_=>true
structure Img where
 b:Nat
 o:Nat
 z:Nat
 m:Nat
structure Gh where
 Gp:Nat→Nat→Option Value
 Gb:Nat→Nat→Option Value
 sg:Nat→Nat→Option Img
 io:Nat→Option Nat
 n:Nat
def gAt(G:Gh)(t:Tag)(b off:Nat):Option Value:=
 match t with
 |.brw=>G.Gb b off
 |_=>G.Gp b off
def Zjz(t:Tag)(a:Option Addr)(n c:Nat):Prop:=(Qh t=true→c=n)∧(t=.nl→a=none)∧(ZaF t=true→a.isSome=true)
theorem Zjz.plain{t:Tag}(h1:Qh t=false)(h2:t≠.nl)(h3:ZaF t=false)(a:Option Addr)(n c:Nat):Zjz t a n c:=
 ⟨fun h=>by rw[h1]at h;simp at h,fun h=>absurd h h2,fun h=>by rw[h3]at h;simp at h⟩
inductive R (T:Tbl) (G:Gh):V→Value→Prop
 |undef (v:Value):R T G .undef v
 |bool (b:Bool):R T G (.bool b) (.bool b)
 |int (k:IntKind) (n:Int):R T G (.int k n) (.int k n)
 |str (s:ByteArray) (l:List UInt8) (h:s.data.toList=l):R T G (.str l) (.string s)
 |agg (cs:List V) (c:Array Value) (hl:cs.length=c.size) (h: ∀(i:Nat) (v:V) (rv:Value),cs[i]? =some v→c[i]? =some rv→R T G v rv)
   (ho: ∀(i:Nat) (rv:Value),c[i]? =some rv→oc rv=true):R T G (.agg cs) (.agg c)
 |tup (cs:List V) (c:Array Value) (hl:cs.length=c.size) (h: ∀(i:Nat) (v:V) (rv:Value),cs[i]? =some v→c[i]? =some rv→R T G v rv):R T G (.tup cs) (.tuple c)
 |sl (z:Nat) (es:List V) (t:Tag) (a:Option Addr) (cap b o:Nat) (f:Nat→Nat→Value) (hc:es.length≤cap) (ht:Zjz t a es.length cap)
   (ha:es≠[]→a=some ⟨b,o,none⟩) (hz: ∀(i:Nat) (e:V),es[i]? =some e→e.cells.length=z)
   (hg: ∀(i:Nat) (e:V) (j:Nat) (c:V),es[i]? =some e→e.cells[j]? =some c→gAt G t b (o+i*z+j)=some (f i j))
   (h: ∀(i:Nat) (e:V) (j:Nat) (c:V),es[i]? =some e→e.cells[j]? =some c→R T G c (f i j))
   (ho: ∀(i:Nat) (e:V) (j:Nat) (c:V),es[i]? =some e→e.cells[j]? =some c→oc (f i j)=true):R T G (.sl z es t) (.slice a es.length cap)
 |gsl (B ep z off len:Nat) (a:Option Addr) (cap:Nat) (hB:B<G.n) (hl:len≤cap)
   (hg:cap=0∨∃g,G.sg B ep=some g∧g.z=z∧a=some ⟨g.b,g.o+off*z,none⟩∧g.o+(off+cap)*z≤g.m):R T G (.gsl B ep z off len) (.slice a len cap)
 |eptr (e:V) (o:Nat) (t:Tag) (b base:Nat) (f:Nat→Value) (hg: ∀(j:Nat) (c:V),e.cells[j]? =some c→gAt G t b (base+j)=some (f j))
   (h: ∀(j:Nat) (c:V),e.cells[j]? =some c→R T G c (f j)) (ho: ∀(j:Nat) (c:V),e.cells[j]? =some c→oc (f j)=true):R T G (.eptr e o t) (.pointer (some ⟨b,base+o,none⟩))
 |ptr (B ep i o:Nat) (g:Img) (hg:G.sg B ep=some g):R T G (.ptr B ep i o) (.pointer (some ⟨g.b,g.o+i*g.z+o,none⟩))
 |nilp:R T G .nilp (.pointer none)
 |func (f fid:Nat) (as bs:List V) (a b:Array Value) (hf:T.fid f=some fid) (hla:as.length=a.size) (hlb:bs.length=b.size)
   (ha: ∀(i:Nat) (v:V) (rv:Value),as[i]? =some v→a[i]? =some rv→R T G v rv) (hb: ∀(i:Nat) (v:V) (rv:Value),bs[i]? =some v→b[i]? =some rv→R T G v rv):R T G (.func f as bs) (.func (.func fid) a b)
 |nilf:R T G .nilf .nilFunc
 |iface (t tid:Nat) (v:V) (rv:Value) (ht:T.tid t=some tid) (h:R T G v rv):R T G (.iface t v) (.iface tid rv)
 |nili:R T G .nili .nilIface
 |itr (B r:Nat) (h:G.io B=some r):R T G (.itr B) (.pointer (some ⟨r,0,none⟩))
 |mapr (B r:Nat) (h:G.io B=some r):R T G (.mapr B) (.map (some r))
 |nilm:R T G .nilm (.map none)
structure Gh.le (G G':Gh):Prop where
 gp: ∀b off v,G.Gp b off=some v→G'.Gp b off=some v
 gb: ∀b off v,G.Gb b off=some v→G'.Gb b off=some v
 sg: ∀B ep g,G.sg B ep=some g→G'.sg B ep=some g
 io: ∀B r,G.io B=some r→G'.io B=some r
 n:G.n≤G'.n
theorem Gh.le_refl(G:Gh):G.le G:=⟨fun _ _ _ h=>h,fun _ _ _ h=>h,fun _ _ _ h=>h,fun _ _ h=>h,Nat.le_refl _⟩
theorem Gh.le_trans{A B C:Gh}(h:A.le B)(k:B.le C):A.le C:=
 ⟨fun _ _ _ x=>k.gp _ _ _ (h.gp _ _ _ x),fun _ _ _ x=>k.gb _ _ _ (h.gb _ _ _ x),fun _ _ _ x=>k.sg _ _ _ (h.sg _ _ _ x),fun _ _ x=>k.io _ _ (h.io _ _ x),Nat.le_trans h.n k.n⟩
theorem Zex{G G':Gh}(h:G.le G'){t:Tag}{b off:Nat}{v:Value}(e:gAt G t b off=some v):gAt G' t b off=some v:=by
 cases t<;>simp only[gAt]at e⊢ <;>first|exact h.gp _ _ _ e|exact h.gb _ _ _ e
theorem R.mono{T:Tbl}{G G':Gh}(hG:G.le G'){v:V}{rv:Value}(h:R T G v rv):R T G' v rv:=by
 induction h with
 |undef v=>exact .undef v
 |bool b=>exact .bool b
 |int k n=>exact .int k n
 |str s l h=>exact .str s l h
 |agg cs c hl _ ho ih=>exact .agg cs c hl ih ho
 |tup cs c hl _ ih=>exact .tup cs c hl ih
 |sl z es t a cap b o f hc ht ha hz hg _ ho ih=>exact .sl z es t a cap b o f hc ht ha hz (fun i e j c h1 h2=>Zex hG (hg i e j c h1 h2)) ih ho
 |gsl B ep z off len a cap hB hl hg=>exact .gsl B ep z off len a cap (Nat.lt_of_lt_of_le hB hG.n) hl (hg.imp id fun⟨g,h1,h2⟩=>⟨g,hG.sg _ _ _ h1,h2⟩)
 |eptr e o t b base f hg _ ho ih=>exact .eptr e o t b base f (fun j c h=>Zex hG (hg j c h)) ih ho
 |ptr B ep i o g hg=>exact .ptr B ep i o g (hG.sg _ _ _ hg)
 |nilp=>exact .nilp
 |func f fid as bs a b hf hla hlb _ _ iha ihb=>exact .func f fid as bs a b hf hla hlb iha ihb
 |nilf=>exact .nilf
 |iface t tid v rv ht _ ih=>exact .iface t tid v rv ht ih
 |nili=>exact .nili
 |itr B r h=>exact .itr B r (hG.io _ _ h)
 |mapr B r h=>exact .mapr B r (hG.io _ _ h)
 |nilm=>exact .nilm
theorem Wu{l:List V}{i:Nat}{v:V}(h:Zv l=true)(hi:l[i]? =some v):Ze v=true:=by
 induction l generalizing i with
 |nil=>simp at hi
 |cons x l ih=>
  simp only[Zv,Bool.and_eq_true]at h
  cases i with
  |zero=>simp at hi;exact hi▸h.1
  |succ i=>exact ih h.2 (by simpa using hi)
theorem UH{v c:V}{j:Nat}(h:Ze v=true)(hj:v.cells[j]? =some c):Ze c=true:=by
 cases v<;>simp only[V.cells]at hj<;>first
  |exact Wu (by simpa[Ze]using h) hj
  |(cases j with
    |zero=>simp at hj;subst hj;exact h
    |succ j=>simp at hj)
theorem XG{n:Nat}{l:List V}{i:Nat}{v:V}(h:Zo n l=true)(hi:l[i]? =some v):Zk n v=true:=by
 induction l generalizing i with
 |nil=>simp at hi
 |cons x l ih=>
  simp only[Zo,Bool.and_eq_true]at h
  cases i with
  |zero=>simp at hi;exact hi▸h.1
  |succ i=>exact ih h.2 (by simpa using hi)
theorem Qj{n:Nat}{v c:V}{j:Nat}(h:Zk n v=true)(hj:v.cells[j]? =some c):Zk n c=true:=by
 cases v<;>simp only[V.cells]at hj<;>first
  |exact XG (by simpa[Zk]using h) hj
  |(cases j with
    |zero=>simp at hj;subst hj;exact h
    |succ j=>simp at hj)
theorem R.closed{T:Tbl}{G G':Gh}(hp: ∀b off v,G.Gp b off=some v→G'.Gp b off=some v){v:V}{rv:Value}(h:R T G v rv)(hc:Ze v=true):R T G' v rv:=by
 induction h with
 |undef v=>exact .undef v
 |bool b=>exact .bool b
 |int k n=>exact .int k n
 |str s l h=>exact .str s l h
 |agg cs c hl _ ho ih=>exact .agg cs c hl (fun i v rv h1 h2=>ih i v rv h1 h2 (Wu (by simpa[Ze]using hc) h1)) ho
 |tup cs c hl _ ih=>exact .tup cs c hl (fun i v rv h1 h2=>ih i v rv h1 h2 (Wu (by simpa[Ze]using hc) h1))
 |sl z es t a cap b o f hc' ht ha hz hg _ ho ih=>
  simp only[Ze,Bool.and_eq_true]at hc
  refine .sl z es t a cap b o f hc' ht ha hz (fun i e j c h1 h2=> ?_) (fun i e j c h1 h2=>ih i e j c h1 h2 (UH (Wu hc.2 h1) h2)) ho
  have:=hg i e j c h1 h2
  cases t<;>simp only[gAt]at this⊢ <;>first|exact hp _ _ _ this|exact absurd hc.1 (by simp)
 |gsl=>simp[Ze]at hc
 |eptr e o t b base f hg _ ho ih=>
  simp only[Ze,Bool.and_eq_true]at hc
  refine .eptr e o t b base f (fun j c h1=> ?_) (fun j c h1=>ih j c h1 (UH hc.2 h1)) ho
  have:=hg j c h1
  cases t<;>simp only[gAt]at this⊢ <;>first|exact hp _ _ _ this|exact absurd hc.1 (by simp)
 |ptr=>simp[Ze]at hc
 |nilp=>exact .nilp
 |func f fid as bs a b hf hla hlb _ _ iha ihb=>
  simp only[Ze,Bool.and_eq_true]at hc
  exact .func f fid as bs a b hf hla hlb (fun i v rv h1 h2=>iha i v rv h1 h2 (Wu hc.1 h1)) (fun i v rv h1 h2=>ihb i v rv h1 h2 (Wu hc.2 h1))
 |nilf=>exact .nilf
 |iface t tid v rv ht _ ih=>exact .iface t tid v rv ht (ih (by simpa[Ze]using hc))
 |nili=>exact .nili
 |itr=>simp[Ze]at hc
 |mapr=>simp[Ze]at hc
 |nilm=>exact .nilm
theorem R.under{T:Tbl}{G G':Gh}{n:Nat}(hp: ∀b off v,G.Gp b off=some v→G'.Gp b off=some v)(hb: ∀b off v,G.Gb b off=some v→G'.Gb b off=some v)
 (hs: ∀B ep g,B<n→G.sg B ep=some g→G'.sg B ep=some g) (hi: ∀B r,B<n→G.io B=some r→G'.io B=some r) (hn:n≤G'.n)
 {v:V} {rv:Value} (h:R T G v rv) (hc:Zk n v=true):R T G' v rv:=by
 have hgt: ∀{t:Tag} {b off:Nat} {v:Value},gAt G t b off=some v→gAt G' t b off=some v:=by
  intro t b off v h
  cases t<;>simp only[gAt]at h⊢ <;>first|exact hp _ _ _ h|exact hb _ _ _ h
 induction h with
 |undef v=>exact .undef v
 |bool b=>exact .bool b
 |int k n=>exact .int k n
 |str s l h=>exact .str s l h
 |agg cs c hl _ ho ih=>exact .agg cs c hl (fun i v rv h1 h2=>ih i v rv h1 h2 (XG (by simpa[Zk]using hc) h1)) ho
 |tup cs c hl _ ih=>exact .tup cs c hl (fun i v rv h1 h2=>ih i v rv h1 h2 (XG (by simpa[Zk]using hc) h1))
 |sl z es t a cap b o f hc' ht ha hz hg _ ho ih=>
  simp only[Zk]at hc
  exact .sl z es t a cap b o f hc' ht ha hz (fun i e j c h1 h2=>hgt (hg i e j c h1 h2)) (fun i e j c h1 h2=>ih i e j c h1 h2 (Qj (XG hc h1) h2)) ho
 |gsl B ep z off len a cap hB hl hg=>exact .gsl B ep z off len a cap (Nat.lt_of_lt_of_le (by simpa[Zk]using hc) hn) hl (hg.imp id fun⟨g,h1,h2⟩=>⟨g,hs _ _ _ (by simpa[Zk]using hc) h1,h2⟩)
 |eptr e o t b base f hg _ ho ih=>
  simp only[Zk]at hc
  exact .eptr e o t b base f (fun j c h1=>hgt (hg j c h1)) (fun j c h1=>ih j c h1 (Qj hc h1)) ho
 |ptr B ep i o g hg=>exact .ptr B ep i o g (hs _ _ _ (by simpa[Zk]using hc) hg)
 |nilp=>exact .nilp
 |func f fid as bs a b hf hla hlb _ _ iha ihb=>
  simp only[Zk,Bool.and_eq_true]at hc
  exact .func f fid as bs a b hf hla hlb (fun i v rv h1 h2=>iha i v rv h1 h2 (XG hc.1 h1)) (fun i v rv h1 h2=>ihb i v rv h1 h2 (XG hc.2 h1))
 |nilf=>exact .nilf
 |iface t tid v rv ht _ ih=>exact .iface t tid v rv ht (ih (by simpa[Zk]using hc))
 |nili=>exact .nili
 |itr B r h=>exact .itr B r (hi _ _ (by simpa[Zk]using hc) h)
 |mapr B r h=>exact .mapr B r (hi _ _ (by simpa[Zk]using hc) h)
 |nilm=>exact .nilm
mutual
theorem V3{m n:Nat}(hmn:m≤n): ∀{v:V},Zk m v=true→Zk n v=true
 |.undef,_|.bool _,_|.int _ _,_|.str _,_|.nilp,_|.nilf,_|.nili,_|.nilm,_=>rfl
 |.agg cs,h=>by simp only[Zk]at h⊢;exact Wn hmn h
 |.tup cs,h=>by simp only[Zk]at h⊢;exact Wn hmn h
 |.sl _ es _,h=>by simp only[Zk]at h⊢;exact Wn hmn h
 |.eptr e _ _,h=>by simp only[Zk]at h⊢;exact V3 hmn h
 |.func _ a b,h=>by simp only[Zk,Bool.and_eq_true]at h⊢;exact⟨Wn hmn h.1,Wn hmn h.2⟩
 |.iface _ v,h=>by simp only[Zk]at h⊢;exact V3 hmn h
 |.gsl ..,h=>by simp only[Zk,decide_eq_true_eq]at h⊢;omega
 |.ptr ..,h=>by simp only[Zk,decide_eq_true_eq]at h⊢;omega
 |.itr _,h=>by simp only[Zk,decide_eq_true_eq]at h⊢;omega
 |.mapr _,h=>by simp only[Zk,decide_eq_true_eq]at h⊢;omega
theorem Wn{m n:Nat}(hmn:m≤n): ∀{l:List V},Zo m l=true→Zo n l=true
 |[],_=>rfl
 |v::l,h=>by simp only[Zo,Bool.and_eq_true]at h⊢;exact⟨V3 hmn h.1,Wn hmn h.2⟩
end
theorem Uq{n:Nat}: ∀(l:List V),(∀(i:Nat) (v:V),l[i]? =some v→Zk n v=true)→Zo n l=true
 |[],_=>rfl
 |v::l,h=>by
  simp only[Zo,Bool.and_eq_true]
  exact⟨h 0 v rfl,Uq l fun i v e=>h (i+1) v (by simpa using e)⟩
theorem VI{n:Nat}{e:V}(h: ∀(j:Nat) (c:V),e.cells[j]? =some c→Zk n c=true):Zk n e=true:=by
 cases e with
 |agg cs=>simp only[Zk];exact Uq cs h
 |_=>exact h 0 _ rfl
theorem R.refs{T:Tbl}{G:Gh}(hs: ∀B ep g,G.sg B ep=some g→B<G.n)(hi: ∀B r,G.io B=some r→B<G.n){v:V}{rv:Value}(h:R T G v rv):Zk G.n v=true:=by
 have lists: ∀{cs:List V} {c:Array Value},cs.length=c.size→(∀(i:Nat) (v:V) (rv:Value),cs[i]? =some v→c[i]? =some rv→Zk G.n v=true)→Zo G.n cs=true:=by
  intro cs c hl h
  refine Uq cs fun i v e=> ?_
  have:i<c.size:=by rw[←hl];exact(List.getElem?_eq_some_iff.1 e).1
  exact h i v c[i] e (by simp[this])
 induction h with
 |undef v=>rfl
 |bool b=>rfl
 |int k n=>rfl
 |str s l h=>rfl
 |agg cs c hl _ ho ih=>simp only[Zk];exact lists hl ih
 |tup cs c hl _ ih=>simp only[Zk];exact lists hl ih
 |sl z es t a cap b o f hc' ht ha hz hg _ ho ih=>
  simp only[Zk]
  exact Uq es fun i e he=>VI fun j c hc=>ih i e j c he hc
 |gsl B ep z off len a cap hB hl hg=>simpa[Zk]using hB
 |eptr e o t b base f hg _ ho ih=>simp only[Zk];exact VI fun j c hc=>ih j c hc
 |ptr B ep i o g hg=>simpa[Zk]using hs _ _ _ hg
 |nilp=>rfl
 |func f fid as bs a b hf hla hlb _ _ iha ihb=>simp only[Zk,Bool.and_eq_true];exact⟨lists hla iha,lists hlb ihb⟩
 |nilf=>rfl
 |iface t tid v rv ht _ ih=>simpa[Zk]using ih
 |nili=>rfl
 |itr B r h=>simpa[Zk]using hi _ _ h
 |mapr B r h=>simpa[Zk]using hi _ _ h
 |nilm=>rfl
def Vk(T:Tbl)(G:Gh)(c:Array Value)(o z:Nat)(es:List V):Prop:=
 ∀i e,es[i]? =some e→e.cells.length=z∧∀j v,e.cells[j]? =some v→∃rv,c[o+i*z+j]? =some rv∧R T G v rv∧oc rv=true
theorem Vk.mono{T:Tbl}{G G':Gh}(hG:G.le G'){c:Array Value}{o z:Nat}{es:List V}(h:Vk T G c o z es):Vk T G' c o z es:=
 fun i e hi=>⟨(h i e hi).1,fun j v hj=>let⟨rv,h1,h2,h3⟩:=(h i e hi).2 j v hj;⟨rv,h1,h2.mono hG,h3⟩⟩
def ZBq(T:Tbl)(G:Gh)(w:World)(es:List V)(g:Img):Prop:=
 ∃c t fz,w.heap[g.b]? =some (.cells c t fz)∧c.size=g.m∧(∀off,off<c.size→¬(fz.1≤off∧off<fz.2))∧g.o+es.length*g.z≤g.m∧Vk T G c g.o g.z es
def Zv7(w:World)(s:List UInt8)(pos r:Nat):Prop:= ∃s':ByteArray,s'.data.toList=s∧w.heap[r]? =some (.stringIter s' pos)
def Own(G:Gh)(lo:Nat)(h:Zg)(b:Nat):Prop:=
 ∃B,lo≤B∧((∃es g,h[B]? =some (.arr es)∧G.sg B es.length=some g∧g.b=b)∨(∃s pos,h[B]? =some (.iter s pos)∧G.io B=some b))
structure Zz (T:Tbl) (G:Gh) (lo:Nat) (h:Zg) (w:World):Prop where
 gp: ∀b off v,G.Gp b off=some v→w.cell? ⟨b,off,none⟩=some v
 gb: ∀b off v,G.Gb b off=some v→w.cell? ⟨b,off,none⟩=some v
 llo:lo≤h.length
 nle:G.n≤h.length
 sdom: ∀B ep g,G.sg B ep=some g→B<G.n
 idom: ∀B r,G.io B=some r→B<G.n
 eple: ∀B es ep g,h[B]? =some (.arr es)→G.sg B ep=some g→ep≤es.length
 live: ∀B es g,h[B]? =some (.arr es)→G.sg B es.length=some g→ZBq T G w es g
 iter: ∀B s pos r,h[B]? =some (.iter s pos)→G.io B=some r→Zv7 w s pos r
 own: ∀B es g,lo≤B→h[B]? =some (.arr es)→G.sg B es.length=some g→(∀off,G.Gp g.b off=none∧G.Gb g.b off=none)∧∀B' es' g',B'≠B→h[B']? =some (.arr es')→G.sg B' es'.length=some g'→g'.b≠g.b
 iown: ∀B s pos r,lo≤B→h[B]? =some (.iter s pos)→G.io B=some r→∀B' s' pos' r',B'≠B→h[B']? =some (.iter s' pos')→G.io B'=some r'→r'≠r
def Jw(G:Gh)(h:Zg)(G':Gh)(h':Zg):Prop:=
 h.length≤h'.length∧∀B es',B<h.length→h'[B]? =some (.arr es')→∃es,h[B]? =some (.arr es)∧es.length≤es'.length∧(es.length=es'.length→(G'.sg B es'.length).isSome=true→(G.sg B es.length).isSome=true)
theorem Jw.same{G G':Gh}{h:Zg}(hs: ∀B ep,G'.sg B ep=G.sg B ep):Jw G h G' h:=
 ⟨Nat.le_refl _,fun B es' _ e=>⟨es',e,Nat.le_refl _,fun _ k=>by rwa[hs]at k⟩⟩
theorem Jw.trans{G G' G'':Gh}{h h' h'':Zg}(a:Jw G h G' h')(b:Jw G' h' G'' h''):Jw G h G'' h'':=by
 refine⟨Nat.le_trans a.1 b.1,fun B es2 hB e=> ?_⟩
 obtain⟨es1,e1,l1,k1⟩:=b.2 B es2 (Nat.lt_of_lt_of_le hB a.1) e
 obtain⟨es,e0,l0,k0⟩:=a.2 B es1 hB e1
 exact⟨es,e0,Nat.le_trans l0 l1,fun hl k=>k0 (by omega) (k1 (by omega) k)⟩
theorem Jw.push{G G':Gh}{h:Zg}{b:Blk}(hs: ∀B ep,B<h.length→G'.sg B ep=G.sg B ep):Jw G h G' (h++[b]):=
 ⟨by simp,fun B es' hB e=>by
   rw[List.getElem?_append_left hB]at e
   exact⟨es',e,Nat.le_refl _,fun _ k=>by rwa[hs _ _ hB]at k⟩⟩
theorem Jw.other{G:Gh}{h:Zg}{B:Nat}{b:Blk}(hb: ∀es,b≠.arr es){G':Gh}(hs: ∀B ep,G'.sg B ep=G.sg B ep):Jw G h G' (h.set B b):=by
 refine⟨by simp,fun B' es' hB e=> ?_⟩
 rw[List.getElem?_set]at e
 split at e
 ·split at e
  ·simp at e;exact absurd e (hb _)
  ·simp at e
 ·exact⟨es',e,Nat.le_refl _,fun _ k=>by rwa[hs]at k⟩
theorem Jw.setArr{G G':Gh}{h:Zg}{B:Nat}{es es':List V}(hB:h[B]? =some (.arr es))(hl:es.length≤es'.length)(hs: ∀B' ep,B'≠B→G'.sg B' ep=G.sg B' ep)
 (hg:es.length=es'.length→(G.sg B es.length).isSome=true):Jw G h G' (h.set B (.arr es')):=by
 refine⟨by simp,fun B' es2 hB' e=> ?_⟩
 rw[List.getElem?_set]at e
 split at e
 ·rename_i hh;subst hh
  rw[if_pos (List.getElem?_eq_some_iff.1 hB).1]at e
  simp at e;subst e
  exact⟨es,hB,hl,fun h1 _=>hg h1⟩
 ·rename_i hh
  exact⟨es2,e,Nat.le_refl _,fun _ k=>by rwa[hs _ _ (fun h=>hh h.symm)]at k⟩
structure Stp (lo:Nat) (G:Gh) (h:Zg) (w:World) (G':Gh) (h':Zg) (w':World):Prop where
 le:G.le G'
 os:w'.os=w.os
 tape:w'.tape=w.tape
 output:w'.output=w.output
 size:w.heap.size≤w'.heap.size
 keep: ∀b,b<w.heap.size→¬Own G lo h b→w'.heap[b]? =w.heap[b]? ∧(∀off,G'.Gp b off=G.Gp b off)∧¬Own G' lo h' b
 gbs:G'.Gb=G.Gb
 slo: ∀B,B<lo→(∀ep,G'.sg B ep=G.sg B ep)∧G'.io B=G.io B
 mono:Jw G h G' h'
theorem Stp.refl(lo:Nat)(G:Gh)(h:Zg)(w:World):Stp lo G h w G h w:=
 ⟨G.le_refl,rfl,rfl,rfl,Nat.le_refl _,fun _ _ hn=>⟨rfl,fun _=>rfl,hn⟩,rfl,fun _ _=>⟨fun _=>rfl,rfl⟩,.same fun _ _=>rfl⟩
theorem Stp.trans{lo:Nat}{G h w G' h' w' G'' h'' w''}(a:Stp lo G h w G' h' w')(b:Stp lo G' h' w' G'' h'' w''):Stp lo G h w G'' h'' w'':=
 ⟨Gh.le_trans a.le b.le,b.os.trans a.os,b.tape.trans a.tape,b.output.trans a.output,Nat.le_trans a.size b.size,
  fun x hx hn=>by
   obtain⟨h1,h2,h3⟩:=a.keep x hx hn
   obtain⟨k1,k2,k3⟩:=b.keep x (Nat.lt_of_lt_of_le hx a.size) h3
   exact⟨k1.trans h1,fun off=>(k2 off).trans (h2 off),k3⟩,b.gbs.trans a.gbs,fun B hB=>⟨fun ep=>((b.slo B hB).1 ep).trans ((a.slo B hB).1 ep),(b.slo B hB).2.trans (a.slo B hB).2⟩,a.mono.trans b.mono⟩
def XF(T:Tbl)(G:Gh)(fr:Fr)(tmps:Array Value):Prop:= ∀t,R T G (lk fr t) (tmps.getD t undef)
theorem XF.mono{T:Tbl}{G G':Gh}(hG:G.le G'){fr:Fr}{tmps:Array Value}(h:XF T G fr tmps):XF T G' fr tmps:=fun t=>(h t).mono hG
theorem XF.keep{T:Tbl}{G:Gh}{fr:Fr}{tmps:Array Value}(h:XF T G fr tmps)(ks:List Nat):XF T G (keep ks fr) tmps:=by
 intro t
 have:lk (VE.keep ks fr) t=lk fr t∨lk (VE.keep ks fr) t=.undef:=by
  induction ks with
  |nil=>exact .inr rfl
  |cons k ks ih=>
   simp only[VE.keep,List.map_cons,lk]
   split
   ·rename_i hk;subst hk;exact .inl rfl
   ·exact ih
 rcases this with e|e<;>rw[e]
 ·exact h t
 ·exact .undef _
theorem Zm5(fr:Fr)(d:Nat)(v:V)(t:Nat):lk (put fr (some d) v) t=if d=t then v else lk fr t:=rfl
theorem XF.put{T:Tbl}{G:Gh}{fr:Fr}{tmps:Array Value}(h:XF T G fr tmps){v:V}{rv:Value}(hv:R T G v rv)(dst:Option Nat)(hd: ∀d,dst=some d→d<tmps.size):
 XF T G (put fr dst v) (match dst with|some d=>tmps.setIfInBounds d rv|none=>tmps):=by
 cases dst with
 |none=>exact h
 |some d=>
  intro t
  rw[Zm5]
  have hlt:=hd d rfl
  split
  ·rename_i e;subst e
   simp only[Array.getD_eq_getD_getElem?,Array.getElem?_setIfInBounds,if_true,hlt]
   exact hv
  ·rename_i e
   simp only[Array.getD_eq_getD_getElem?,Array.getElem?_setIfInBounds,if_neg e]
   simpa[Array.getD_eq_getD_getElem?]using h t
end Go.VE
namespace Go.VE
set_option linter.unnecessarySimpa false
section
variable {P : Program} {T : Tbl} {G : Gh} {w : World}
theorem ZB{t:TypeId}{d:TypeDesc}(h:P.underlying t=some d):(underlying t).run P w=.ok d w:=by
 simp[underlying,h]
theorem VN{t:TypeId}{i:TypeInfo}(h:P.info? t=some i):(typeInfo t).run P w=.ok i w:=by
 simp[typeInfo,h]
theorem Xm{t:TypeId}{n:Nat}(h:Xh P t=some n):(sizeOf t).run P w=.ok n w:=by
 unfold Xh at h
 cases hi:P.info? t with
 |none=>simp[hi]at h
 |some i=>simp[hi]at h;simp[sizeOf,VN hi,h]
theorem Ju{t:TypeId}{b:Bool}(h:Xf P t=some b):(isAgg t).run P w=.ok b w:=by
 unfold Xf at h
 cases hd:P.underlying t with
 |none=>simp[hd]at h
 |some d=>cases d<;>simp[hd]at h<;>simp[isAgg,ZB hd,h]
theorem WC{t:TypeId}{v:Value}(h:(P.info? t).bind (·.zero)=some v):(zeroValue t).run P w=.ok v w:=by
 cases hi:P.info? t with
 |none=>simp[hi]at h
 |some i=>simp[hi]at h;simp[zeroValue,VN hi,h]
theorem add_zero(a:Addr):a.add 0=a:=by simp[Addr.add]
theorem XV(b o n:Nat):(⟨b,o,none⟩:Addr).add n=⟨b,o+n,none⟩:=by
 unfold Addr.add;split<;>simp_all
theorem R.bool_inv{b:Bool}{v:Value}(h:R T G (.bool b) v):v=.bool b:=by cases h;rfl
theorem R.int_inv{k:IntKind}{n:Int}{v:Value}(h:R T G (.int k n) v):v=.int k n:=by cases h;rfl
theorem R.str_inv{l:List UInt8}{v:Value}(h:R T G (.str l) v): ∃s:ByteArray,v=.string s∧s.data.toList=l:=by cases h;exact⟨_,rfl,‹_›⟩
theorem R.agg_inv{cs:List V}{v:Value}(h:R T G (.agg cs) v): ∃c,v=.agg c∧cs.length=c.size∧
 (∀(i:Nat) (v:V) (rv:Value),cs[i]? =some v→c[i]? =some rv→R T G v rv)∧(∀(i:Nat) (rv:Value),c[i]? =some rv→oc rv=true):=by
 cases h with
 |agg _ c hl h ho=>exact⟨c,rfl,hl,h,ho⟩
theorem R.tup_inv{cs:List V}{v:Value}(h:R T G (.tup cs) v): ∃c,v=.tuple c∧cs.length=c.size∧
 (∀(i:Nat) (v:V) (rv:Value),cs[i]? =some v→c[i]? =some rv→R T G v rv):=by
 cases h with
 |tup _ c hl h=>exact⟨c,rfl,hl,h⟩
theorem R.ptr_inv{B ep i o:Nat}{v:Value}(h:R T G (.ptr B ep i o) v): ∃g,G.sg B ep=some g∧v=.pointer (some ⟨g.b,g.o+i*g.z+o,none⟩):=by
 cases h with
 |ptr _ _ _ _ g hg=>exact⟨g,hg,rfl⟩
theorem R.eptr_inv{e:V}{o:Nat}{t:Tag}{v:Value}(h:R T G (.eptr e o t) v): ∃(b base:Nat) (f:Nat→Value),v=.pointer (some ⟨b,base+o,none⟩)∧(∀(j:Nat) (c:V),e.cells[j]? =some c→gAt G t b (base+j)=some (f j))∧(∀(j:Nat) (c:V),e.cells[j]? =some c→R T G c (f j))∧
 (∀(j:Nat) (c:V),e.cells[j]? =some c→oc (f j)=true):=by
 cases h with
 |eptr _ _ _ b base f hg h ho=>exact⟨b,base,f,rfl,hg,h,ho⟩
theorem R.gsl_inv{B ep z off len:Nat}{v:Value}(h:R T G (.gsl B ep z off len) v): ∃a cap,v=.slice a len cap∧B<G.n∧len≤cap∧
 (cap=0∨∃g,G.sg B ep=some g∧g.z=z∧a=some ⟨g.b,g.o+off*z,none⟩∧g.o+(off+cap)*z≤g.m):=by
 cases h with
 |gsl _ _ _ _ _ a cap hB hl hg=>exact⟨a,cap,rfl,hB,hl,hg⟩
theorem R.func_inv{f:Nat}{as bs:List V}{v:Value}(h:R T G (.func f as bs) v): ∃fid a b,v=.func (.func fid) a b∧T.fid f=some fid∧as.length=a.size∧bs.length=b.size∧(∀(i:Nat) (v:V) (rv:Value),as[i]? =some v→a[i]? =some rv→R T G v rv)∧
 (∀(i:Nat) (v:V) (rv:Value),bs[i]? =some v→b[i]? =some rv→R T G v rv):=by
 cases h with
 |func _ fid _ _ a b hf hla hlb ha hb=>exact⟨fid,a,b,rfl,hf,hla,hlb,ha,hb⟩
theorem R.iface_inv{t:Nat}{x:V}{v:Value}(h:R T G (.iface t x) v): ∃tid rv,v=.iface tid rv∧T.tid t=some tid∧R T G x rv:=by
 cases h with
 |iface _ tid _ rv ht h=>exact⟨tid,rv,rfl,ht,h⟩
theorem R.itr_inv{B:Nat}{v:Value}(h:R T G (.itr B) v): ∃r,v=.pointer (some ⟨r,0,none⟩)∧G.io B=some r:=by
 cases h with
 |itr _ r h=>exact⟨r,rfl,h⟩
theorem R.sl_inv{z:Nat}{es:List V}{t:Tag}{v:Value}(h:R T G (.sl z es t) v): ∃(a:Option Addr) (cap b o:Nat) (f:Nat→Nat→Value),v=.slice a es.length cap∧es.length≤cap∧Zjz t a es.length cap∧(es≠[]→a=some ⟨b,o,none⟩)∧(∀(i:Nat) (e:V),es[i]? =some e→e.cells.length=z)∧(∀(i:Nat) (e:V) (j:Nat) (c:V),es[i]? =some e→e.cells[j]? =some c→gAt G t b (o+i*z+j)=some (f i j))∧(∀(i:Nat) (e:V) (j:Nat) (c:V),es[i]? =some e→e.cells[j]? =some c→R T G c (f i j))∧
 (∀(i:Nat) (e:V) (j:Nat) (c:V),es[i]? =some e→e.cells[j]? =some c→oc (f i j)=true):=by
 cases h with
 |sl _ _ _ a cap b o f hc ht ha hz hg h ho=>exact⟨a,cap,b,o,f,rfl,hc,ht,ha,hz,hg,h,ho⟩
theorem R.cells{v:V}{rv:Value}(h:R T G v rv)(hv:okV v=true):v.cells.length=rv.cells.size∧
 (∀(i:Nat) (c:V) (rc:Value),v.cells[i]? =some c→rv.cells[i]? =some rc→R T G c rc)∧(∀(i:Nat) (rc:Value),rv.cells[i]? =some rc→oc rc=true):=by
 have one: ∀{v:V} {rv:Value},R T G v rv→v.cells=[v]→rv.cells= #[rv]→oc rv=true→v.cells.length=rv.cells.size∧
  (∀(i:Nat) (c:V) (rc:Value),v.cells[i]? =some c→rv.cells[i]? =some rc→R T G c rc)∧(∀(i:Nat) (rc:Value),rv.cells[i]? =some rc→oc rc=true):=by
  intro v rv h e1 e2 e3
  rw[e1,e2]
  refine⟨rfl,fun i c rc h1 h2=> ?_,fun i rc h2=> ?_⟩
  ·cases i with
   |zero=>simp at h1 h2;subst h1;subst h2;exact h
   |succ i=>simp at h1
  ·cases i with
   |zero=>simp at h2;subst h2;exact e3
   |succ i=>simp at h2
 cases h with
 |undef=>simp[okV]at hv
 |tup=>simp[okV]at hv
 |agg cs c hl h ho=>exact⟨hl,h,ho⟩
 |bool=>exact one (.bool _) rfl rfl rfl
 |int=>exact one (.int _ _) rfl rfl rfl
 |str s l hs=>exact one (.str s l hs) rfl rfl rfl
 |sl z es t a cap b o f hc ht ha hz hg h ho=>exact one (.sl z es t a cap b o f hc ht ha hz hg h ho) rfl rfl rfl
 |gsl B ep z off len a cap hB hl hg=>exact one (.gsl B ep z off len a cap hB hl hg) rfl rfl rfl
 |eptr e o t b base f hg h ho=>exact one (.eptr e o t b base f hg h ho) rfl rfl rfl
 |ptr B ep i o g hg=>exact one (.ptr B ep i o g hg) rfl rfl rfl
 |nilp=>exact one .nilp rfl rfl rfl
 |func f fid as bs a b hf hla hlb ha hb=>exact one (.func f fid as bs a b hf hla hlb ha hb) rfl rfl rfl
 |nilf=>exact one .nilf rfl rfl rfl
 |iface t tid v rv ht h=>exact one (.iface t tid v rv ht h) rfl rfl rfl
 |nili=>exact one .nili rfl rfl rfl
 |itr B r h=>exact one (.itr B r h) rfl rfl rfl
 |mapr B r h=>exact one (.mapr B r h) rfl rfl rfl
 |nilm=>exact one .nilm rfl rfl rfl
mutual
theorem KQ: ∀(v':V) (v:Value),XB v' v=true→R T G v' v
 |.bool b,v,h=>by
  cases v<;>simp[XB]at h
  subst h;exact .bool _
 |.int k n,v,h=>by
  cases v<;>simp[XB]at h
  obtain⟨rfl,rfl⟩:=h;exact .int _ _
 |.str l,v,h=>by
  cases v<;>simp[XB]at h
  exact .str _ _ h
 |.nilp,v,h=>by
  cases v<;>simp[XB]at h
  rename_i a;cases a<;>simp at h;exact .nilp
 |.sl z es t,v,h=>by
  simp only[XB]at h
  split at h
  ·cases es with
   |cons e es=>simp at h
   |nil=>
    cases t<;>simp at h
    exact .sl z [] .nl none 0 0 0 (fun _ _=>undef) (by simp) ⟨fun _=>rfl,fun _=>rfl,fun h=>by simp[ZaF]at h⟩ (by simp) (by simp) (by simp) (by simp) (by simp)
  ·exact absurd h (by simp)
 |.nilm,v,h=>by
  cases v<;>simp[XB]at h
  rename_i a;cases a<;>simp at h;exact .nilm
 |.nilf,v,h=>by cases v<;>simp[XB]at h;exact .nilf
 |.nili,v,h=>by cases v<;>simp[XB]at h;exact .nili
 |.agg vs,v,h=>by
  cases v<;>simp[XB]at h
  rename_i c
  have:=Zbr vs c.toList h
  refine .agg vs c (by simpa using this.1) (fun i v rv h1 h2=>(this.2 i v rv h1 (by simpa using h2)).1) (fun i rv h2=> ?_)
  have hi:i<c.size:=by
   rcases Nat.lt_or_ge i c.size with h|h
   ·exact h
   ·rw[Array.getElem?_eq_none h]at h2;simp at h2
  have hi':i<vs.length:=by rw[this.1];simpa using hi
  exact(this.2 i vs[i] rv (List.getElem?_eq_getElem hi') (by simpa using h2)).2
 |.undef,v,h=>by simp[XB]at h
 |.tup _,v,h=>by simp[XB]at h
 |.gsl ..,v,h=>by simp[XB]at h
 |.eptr ..,v,h=>by simp[XB]at h
 |.ptr ..,v,h=>by simp[XB]at h
 |.func ..,v,h=>by simp[XB]at h
 |.iface ..,v,h=>by simp[XB]at h
 |.itr ..,v,h=>by simp[XB]at h
 |.mapr ..,v,h=>by simp[XB]at h
theorem Zbr: ∀(l:List V) (cs:List Value),QP l cs=true→l.length=cs.length∧∀(i:Nat) (x:V) (rv:Value),l[i]? =some x→cs[i]? =some rv→R T G x rv∧oc rv=true
 |[],cs,h=>by cases cs<;>simp[QP]at h;exact⟨rfl,by simp⟩
 |v::l,cs,h=>by
  cases cs with
  |nil=>simp[QP]at h
  |cons c cs=>
   simp only[QP,Bool.and_eq_true]at h
   have h1:=KQ v c h.1.2
   have h2:=Zbr l cs h.2
   refine⟨by simp[h2.1],fun i x rv e1 e2=> ?_⟩
   cases i with
   |zero=>simp at e1 e2;subst e1;subst e2;refine⟨h1,?_⟩;cases c<;>simp_all[oc]
   |succ i=>exact h2.2 i x rv (by simpa using e1) (by simpa using e2)
end
theorem K1{v':V}{v:Value}(h:Zi7 v v'=true):R T G v' v:=KQ v' v h
theorem WL{fr:Fr}{a:Act}(hf:XF T G fr a.tmps){x:Operand}{y:Z3}(h:ZQ T x y=true):R T G (opd fr y) (a.eval x):=by
 unfold ZQ at h
 split at h
 ·simp at h;subst h;exact hf _
 ·exact K1 h
 ·simp at h;exact .func _ _ [] [] #[] #[] h rfl rfl (by simp) (by simp)
 ·exact absurd h (by simp)
theorem Zt5(v:Value):oc v=v.oneCell':=by cases v<;>rfl
end
end Go.VE
