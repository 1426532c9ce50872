/- The arguments of this program's laws, read as plain data. Printed by a program. -/
import Derived.Test.YtieifgngaaccmaaGreatVc0
import Derived.Test.YtieifgngaaccmaaGreatChecked
namespace Go.VE.Un
open Go.VE
set_option maxRecDepth 100000
theorem splitAt{α:Type}(xs:List α)(o n:Nat):xs.drop o=(xs.drop o).take n++xs.drop (o+n):=by
 rw[←List.drop_drop,List.take_append_drop]
theorem listOf{α:Type}{f:α→V}{Q:V→Prop}: ∀{es:List V},(∀x∈es,∃a:α,x=f a∧closedB (f a)=true)→∃l:List α,es=l.map f∧(l.all fun a=>closedB (f a))=true∧l.length=es.length
 |[],_=>⟨[],rfl,rfl,rfl⟩
 |x::es,h=>by
  obtain⟨a,h1,h2⟩:=h x List.mem_cons_self
  obtain⟨l,k1,k2,k3⟩:=listOf (Q:=Q) fun y hy=>h y (List.mem_cons_of_mem _ hy)
  exact⟨a::l,by rw[h1,k1];rfl,by simp[h2,k2],by simp[k3]⟩
theorem shp9{n:Nat}{xs:List V}(h:Shp Go.Proofs.Tryz.prog n 9 xs): ∃x:GS,xs=[.str x.s]:=by
 cases n with
 |zero=>exact h.elim
 |succ n=>
  simp only[Shp,Go.Proofs.Tryz.underlying9]at h
  obtain⟨l,rfl,h1⟩:=h
  exact⟨⟨l,Nat.le_trans h1 (by decide)⟩,rfl⟩
theorem shp3{n:Nat}{xs:List V}(h:Shp Go.Proofs.Tryz.prog n 3 xs): ∃x:I64,xs=[I64.v x]:=by
 cases n with
 |zero=>exact h.elim
 |succ n=>
  simp only[Shp,Go.Proofs.Tryz.underlying3]at h
  obtain⟨m,rfl,h1,h2⟩:=h
  exact⟨⟨m,by simpa[IntKind.min,IntKind.signed,IntKind.bits]using h1,by simpa[IntKind.max,IntKind.signed,IntKind.bits]using h2⟩,rfl⟩
theorem co115:Go.Proofs.Tryz.prog.cellsOf 115=2:=by kernel_rfl
theorem co9:Go.Proofs.Tryz.prog.cellsOf 9=1:=by kernel_rfl
theorem co3:Go.Proofs.Tryz.prog.cellsOf 3=1:=by kernel_rfl
theorem shp_Field{n:Nat}{xs:List V}(h:Shp Go.Proofs.Tryz.prog n 115 xs): ∃x:Field,xs=x.cs∧closedB x.v=true:=by
 cases n with
 |zero=>exact h.elim
 |succ n=>
  simp only[Shp,Go.Proofs.Tryz.underlying115,co115]at h
  obtain⟨hl,hf⟩:=h
  have h0:=hf _ (List.mem_of_getElem? (i:=0) rfl)
  simp only[co9]at h0
  obtain⟨x0,e0⟩:=shp9 h0
  have h1:=hf _ (List.mem_of_getElem? (i:=1) rfl)
  simp only[co3]at h1
  obtain⟨x1,e1⟩:=shp3 h1
  have hx:xs=((xs.drop 0).take 1)++((xs.drop 1).take 1):=by
   have e0:xs=xs.drop 0:=rfl
   conv=>lhs;rw[e0]
   conv=>lhs;rw[splitAt xs 0 1]
   simp only[Nat.zero_add,Nat.reduceAdd,List.append_assoc]
   rw[List.take_of_length_le (l:=xs.drop 1) (by simp;omega)]
  rw[e0,e1]at hx
  refine⟨⟨x0,x1⟩,by rw[hx];rfl,by simp[Field.closed]⟩
theorem bo115:Go.Proofs.Tryz.prog.bytesOf 115=24:=by kernel_rfl
theorem shp24{n:Nat}{xs:List V}(h:Shp Go.Proofs.Tryz.prog n 24 xs): ∃x:GL Field,xs=[GL.v 2 Field.v x]∧closedB (GL.v 2 Field.v x)=true∧x.l.length*24≤reachBytes:=by
 cases n with
 |zero=>exact h.elim
 |succ n=>
  simp only[Shp,Go.Proofs.Tryz.underlying24,co115,bo115]at h
  rcases h with rfl|⟨es,rfl,hb,he⟩
  ·exact⟨⟨[],.nl,by simp⟩,rfl,by simp[GL.closed,Tag.cl],by simp⟩
  ·obtain⟨l,rfl,h2,h3⟩:=listOf (f:=Field.v) (Q:=fun _=>True) (es:=es) fun x hx=>by
    obtain⟨ys,rfl,hy⟩:=he x hx
    obtain⟨a,rfl,ha⟩:=shp_Field hy;exact⟨a,by simp only[elV,Go.Proofs.Tryz.underlying115];rfl,ha⟩
   simp only[List.length_map]at hb
   refine⟨⟨l,.perm,?_⟩,rfl,by rw[GL.closed];simp only[Tag.cl,Bool.true_and];exact h2,hb⟩
   have:reachBytes=140737488351232:=rfl
   omega
theorem co117:Go.Proofs.Tryz.prog.cellsOf 117=6:=by kernel_rfl
theorem co24:Go.Proofs.Tryz.prog.cellsOf 24=1:=by kernel_rfl
theorem shp_Header{n:Nat}{xs:List V}(h:Shp Go.Proofs.Tryz.prog n 117 xs): ∃x:Header,xs=x.cs∧closedB x.v=true:=by
 cases n with
 |zero=>exact h.elim
 |succ n=>
  simp only[Shp,Go.Proofs.Tryz.underlying117,co117]at h
  obtain⟨hl,hf⟩:=h
  have h0:=hf _ (List.mem_of_getElem? (i:=0) rfl)
  simp only[co9]at h0
  obtain⟨x0,e0⟩:=shp9 h0
  have h1:=hf _ (List.mem_of_getElem? (i:=1) rfl)
  simp only[co24]at h1
  obtain⟨x1,e1,c1,b1⟩:=shp24 h1
  have h2:=hf _ (List.mem_of_getElem? (i:=2) rfl)
  simp only[co3]at h2
  obtain⟨x2,e2⟩:=shp3 h2
  have h3:=hf _ (List.mem_of_getElem? (i:=3) rfl)
  simp only[co3]at h3
  obtain⟨x3,e3⟩:=shp3 h3
  have h4:=hf _ (List.mem_of_getElem? (i:=4) rfl)
  simp only[co3]at h4
  obtain⟨x4,e4⟩:=shp3 h4
  have h5:=hf _ (List.mem_of_getElem? (i:=5) rfl)
  simp only[co3]at h5
  obtain⟨x5,e5⟩:=shp3 h5
  have hx:xs=((xs.drop 0).take 1)++((xs.drop 1).take 1)++((xs.drop 2).take 1)++((xs.drop 3).take 1)++((xs.drop 4).take 1)++((xs.drop 5).take 1):=by
   have e0:xs=xs.drop 0:=rfl
   conv=>lhs;rw[e0]
   conv=>lhs;rw[splitAt xs 0 1]
   conv=>lhs;arg 2;rw[splitAt xs 1 1]
   conv=>lhs;arg 2;arg 2;rw[splitAt xs 2 1]
   conv=>lhs;arg 2;arg 2;arg 2;rw[splitAt xs 3 1]
   conv=>lhs;arg 2;arg 2;arg 2;arg 2;rw[splitAt xs 4 1]
   simp only[Nat.zero_add,Nat.reduceAdd,List.append_assoc]
   rw[List.take_of_length_le (l:=xs.drop 5) (by simp;omega)]
  rw[e0,e1,e2,e3,e4,e5]at hx
  refine⟨⟨x0,x1,x2,x3,x4,x5⟩,by rw[hx];rfl,by simp[Header.closed,c1]⟩
theorem co110:Go.Proofs.Tryz.prog.cellsOf 110=3:=by kernel_rfl
theorem shp_Inst{n:Nat}{xs:List V}(h:Shp Go.Proofs.Tryz.prog n 110 xs): ∃x:Inst,xs=x.cs∧closedB x.v=true:=by
 cases n with
 |zero=>exact h.elim
 |succ n=>
  simp only[Shp,Go.Proofs.Tryz.underlying110,co110]at h
  obtain⟨hl,hf⟩:=h
  have h0:=hf _ (List.mem_of_getElem? (i:=0) rfl)
  simp only[co9]at h0
  obtain⟨x0,e0⟩:=shp9 h0
  have h1:=hf _ (List.mem_of_getElem? (i:=1) rfl)
  simp only[co3]at h1
  obtain⟨x1,e1⟩:=shp3 h1
  have h2:=hf _ (List.mem_of_getElem? (i:=2) rfl)
  simp only[co3]at h2
  obtain⟨x2,e2⟩:=shp3 h2
  have hx:xs=((xs.drop 0).take 1)++((xs.drop 1).take 1)++((xs.drop 2).take 1):=by
   have e0:xs=xs.drop 0:=rfl
   conv=>lhs;rw[e0]
   conv=>lhs;rw[splitAt xs 0 1]
   conv=>lhs;arg 2;rw[splitAt xs 1 1]
   simp only[Nat.zero_add,Nat.reduceAdd,List.append_assoc]
   rw[List.take_of_length_le (l:=xs.drop 2) (by simp;omega)]
  rw[e0,e1,e2]at hx
  refine⟨⟨x0,x1,x2⟩,by rw[hx];rfl,by simp[Inst.closed]⟩
theorem shp224{n:Nat}{xs:List V}(h:Shp Go.Proofs.Tryz.prog n 224 xs): ∃x:I64,xs=[I64.v x]:=by
 cases n with
 |zero=>exact h.elim
 |succ n=>
  simp only[Shp,Go.Proofs.Tryz.underlying224]at h
  obtain⟨m,rfl,h1,h2⟩:=h
  exact⟨⟨m,by simpa[IntKind.min,IntKind.signed,IntKind.bits]using h1,by simpa[IntKind.max,IntKind.signed,IntKind.bits]using h2⟩,rfl⟩
theorem co226:Go.Proofs.Tryz.prog.cellsOf 226=2:=by kernel_rfl
theorem co224:Go.Proofs.Tryz.prog.cellsOf 224=1:=by kernel_rfl
theorem shp_Ext{n:Nat}{xs:List V}(h:Shp Go.Proofs.Tryz.prog n 226 xs): ∃x:Ext,xs=x.cs∧closedB x.v=true:=by
 cases n with
 |zero=>exact h.elim
 |succ n=>
  simp only[Shp,Go.Proofs.Tryz.underlying226,co226]at h
  obtain⟨hl,hf⟩:=h
  have h0:=hf _ (List.mem_of_getElem? (i:=0) rfl)
  simp only[co224]at h0
  obtain⟨x0,e0⟩:=shp224 h0
  have h1:=hf _ (List.mem_of_getElem? (i:=1) rfl)
  simp only[co3]at h1
  obtain⟨x1,e1⟩:=shp3 h1
  have hx:xs=((xs.drop 0).take 1)++((xs.drop 1).take 1):=by
   have e0:xs=xs.drop 0:=rfl
   conv=>lhs;rw[e0]
   conv=>lhs;rw[splitAt xs 0 1]
   simp only[Nat.zero_add,Nat.reduceAdd,List.append_assoc]
   rw[List.take_of_length_le (l:=xs.drop 1) (by simp;omega)]
  rw[e0,e1]at hx
  refine⟨⟨x0,x1⟩,by rw[hx];rfl,by simp[Ext.closed]⟩
theorem shp260{n:Nat}{xs:List V}(h:Shp Go.Proofs.Tryz.prog n 260 xs): ∃x:I64,xs=[I64.v x]:=by
 cases n with
 |zero=>exact h.elim
 |succ n=>
  simp only[Shp,Go.Proofs.Tryz.underlying260]at h
  obtain⟨m,rfl,h1,h2⟩:=h
  exact⟨⟨m,by simpa[IntKind.min,IntKind.signed,IntKind.bits]using h1,by simpa[IntKind.max,IntKind.signed,IntKind.bits]using h2⟩,rfl⟩
theorem co262:Go.Proofs.Tryz.prog.cellsOf 262=3:=by kernel_rfl
theorem co260:Go.Proofs.Tryz.prog.cellsOf 260=1:=by kernel_rfl
theorem shp_Key{n:Nat}{xs:List V}(h:Shp Go.Proofs.Tryz.prog n 262 xs): ∃x:Key,xs=x.cs∧closedB x.v=true:=by
 cases n with
 |zero=>exact h.elim
 |succ n=>
  simp only[Shp,Go.Proofs.Tryz.underlying262,co262]at h
  obtain⟨hl,hf⟩:=h
  have h0:=hf _ (List.mem_of_getElem? (i:=0) rfl)
  simp only[co260]at h0
  obtain⟨x0,e0⟩:=shp260 h0
  have h1:=hf _ (List.mem_of_getElem? (i:=1) rfl)
  simp only[co3]at h1
  obtain⟨x1,e1⟩:=shp3 h1
  have h2:=hf _ (List.mem_of_getElem? (i:=2) rfl)
  simp only[co3]at h2
  obtain⟨x2,e2⟩:=shp3 h2
  have hx:xs=((xs.drop 0).take 1)++((xs.drop 1).take 1)++((xs.drop 2).take 1):=by
   have e0:xs=xs.drop 0:=rfl
   conv=>lhs;rw[e0]
   conv=>lhs;rw[splitAt xs 0 1]
   conv=>lhs;arg 2;rw[splitAt xs 1 1]
   simp only[Nat.zero_add,Nat.reduceAdd,List.append_assoc]
   rw[List.take_of_length_le (l:=xs.drop 2) (by simp;omega)]
  rw[e0,e1,e2]at hx
  refine⟨⟨x0,x1,x2⟩,by rw[hx];rfl,by simp[Key.closed]⟩
theorem shp37{n:Nat}{xs:List V}(h:Shp Go.Proofs.Tryz.prog n 37 xs): ∃x:U64,xs=[U64.v x]:=by
 cases n with
 |zero=>exact h.elim
 |succ n=>
  simp only[Shp,Go.Proofs.Tryz.underlying37]at h
  obtain⟨m,rfl,h1,h2⟩:=h
  exact⟨⟨m,by simpa[IntKind.min,IntKind.signed,IntKind.bits]using h1,by simpa[IntKind.max,IntKind.signed,IntKind.bits]using h2⟩,rfl⟩
theorem co58:Go.Proofs.Tryz.prog.cellsOf 58=3:=by kernel_rfl
theorem co37:Go.Proofs.Tryz.prog.cellsOf 37=1:=by kernel_rfl
theorem shp_Vec{n:Nat}{xs:List V}(h:Shp Go.Proofs.Tryz.prog n 58 xs): ∃x:Vec,xs=x.cs∧closedB x.v=true:=by
 cases n with
 |zero=>exact h.elim
 |succ n=>
  simp only[Shp,Go.Proofs.Tryz.underlying58,co58]at h
  obtain⟨hl,hf⟩:=h
  have h0:=hf _ (List.mem_of_getElem? (i:=0) rfl)
  simp only[co3]at h0
  obtain⟨x0,e0⟩:=shp3 h0
  have h1:=hf _ (List.mem_of_getElem? (i:=1) rfl)
  simp only[co37]at h1
  obtain⟨x1,e1⟩:=shp37 h1
  have h2:=hf _ (List.mem_of_getElem? (i:=2) rfl)
  simp only[co37]at h2
  obtain⟨x2,e2⟩:=shp37 h2
  have hx:xs=((xs.drop 0).take 1)++((xs.drop 1).take 1)++((xs.drop 2).take 1):=by
   have e0:xs=xs.drop 0:=rfl
   conv=>lhs;rw[e0]
   conv=>lhs;rw[splitAt xs 0 1]
   conv=>lhs;arg 2;rw[splitAt xs 1 1]
   simp only[Nat.zero_add,Nat.reduceAdd,List.append_assoc]
   rw[List.take_of_length_le (l:=xs.drop 2) (by simp;omega)]
  rw[e0,e1,e2]at hx
  refine⟨⟨x0,x1,x2⟩,by rw[hx];rfl,by simp[Vec.closed]⟩
theorem co231:Go.Proofs.Tryz.prog.cellsOf 231=7:=by kernel_rfl
theorem shp_Case{n:Nat}{xs:List V}(h:Shp Go.Proofs.Tryz.prog n 231 xs): ∃x:Case,xs=x.cs∧closedB x.v=true:=by
 cases n with
 |zero=>exact h.elim
 |succ n=>
  simp only[Shp,Go.Proofs.Tryz.underlying231,co231]at h
  obtain⟨hl,hf⟩:=h
  have h0:=hf _ (List.mem_of_getElem? (i:=0) rfl)
  simp only[co58]at h0
  obtain⟨x0,e0,c0⟩:=shp_Vec h0
  have k0:=c0;rw[Vec.closed]at k0
  have h1:=hf _ (List.mem_of_getElem? (i:=1) rfl)
  simp only[co58]at h1
  obtain⟨x1,e1,c1⟩:=shp_Vec h1
  have k1:=c1;rw[Vec.closed]at k1
  have h2:=hf _ (List.mem_of_getElem? (i:=2) rfl)
  simp only[co3]at h2
  obtain⟨x2,e2⟩:=shp3 h2
  have hx:xs=((xs.drop 0).take 3)++((xs.drop 3).take 3)++((xs.drop 6).take 1):=by
   have e0:xs=xs.drop 0:=rfl
   conv=>lhs;rw[e0]
   conv=>lhs;rw[splitAt xs 0 3]
   conv=>lhs;arg 2;rw[splitAt xs 3 3]
   simp only[Nat.zero_add,Nat.reduceAdd,List.append_assoc]
   rw[List.take_of_length_le (l:=xs.drop 6) (by simp;omega)]
  rw[e0,e1,e2]at hx
  refine⟨⟨x0,x1,x2⟩,by rw[hx];rfl,by simp[Case.closed,c0,k0,c1,k1]⟩
theorem bo226:Go.Proofs.Tryz.prog.bytesOf 226=16:=by kernel_rfl
theorem shp118{n:Nat}{xs:List V}(h:Shp Go.Proofs.Tryz.prog n 118 xs): ∃x:GL Ext,xs=[GL.v 2 Ext.v x]∧closedB (GL.v 2 Ext.v x)=true∧x.l.length*16≤reachBytes:=by
 cases n with
 |zero=>exact h.elim
 |succ n=>
  simp only[Shp,Go.Proofs.Tryz.underlying118,co226,bo226]at h
  rcases h with rfl|⟨es,rfl,hb,he⟩
  ·exact⟨⟨[],.nl,by simp⟩,rfl,by simp[GL.closed,Tag.cl],by simp⟩
  ·obtain⟨l,rfl,h2,h3⟩:=listOf (f:=Ext.v) (Q:=fun _=>True) (es:=es) fun x hx=>by
    obtain⟨ys,rfl,hy⟩:=he x hx
    obtain⟨a,rfl,ha⟩:=shp_Ext hy;exact⟨a,by simp only[elV,Go.Proofs.Tryz.underlying226];rfl,ha⟩
   simp only[List.length_map]at hb
   refine⟨⟨l,.perm,?_⟩,rfl,by rw[GL.closed];simp only[Tag.cl,Bool.true_and];exact h2,hb⟩
   have:reachBytes=140737488351232:=rfl
   omega
theorem bo262:Go.Proofs.Tryz.prog.bytesOf 262=24:=by kernel_rfl
theorem shp119{n:Nat}{xs:List V}(h:Shp Go.Proofs.Tryz.prog n 119 xs): ∃x:GL Key,xs=[GL.v 3 Key.v x]∧closedB (GL.v 3 Key.v x)=true∧x.l.length*24≤reachBytes:=by
 cases n with
 |zero=>exact h.elim
 |succ n=>
  simp only[Shp,Go.Proofs.Tryz.underlying119,co262,bo262]at h
  rcases h with rfl|⟨es,rfl,hb,he⟩
  ·exact⟨⟨[],.nl,by simp⟩,rfl,by simp[GL.closed,Tag.cl],by simp⟩
  ·obtain⟨l,rfl,h2,h3⟩:=listOf (f:=Key.v) (Q:=fun _=>True) (es:=es) fun x hx=>by
    obtain⟨ys,rfl,hy⟩:=he x hx
    obtain⟨a,rfl,ha⟩:=shp_Key hy;exact⟨a,by simp only[elV,Go.Proofs.Tryz.underlying262];rfl,ha⟩
   simp only[List.length_map]at hb
   refine⟨⟨l,.perm,?_⟩,rfl,by rw[GL.closed];simp only[Tag.cl,Bool.true_and];exact h2,hb⟩
   have:reachBytes=140737488351232:=rfl
   omega
theorem bo231:Go.Proofs.Tryz.prog.bytesOf 231=56:=by kernel_rfl
theorem shp120{n:Nat}{xs:List V}(h:Shp Go.Proofs.Tryz.prog n 120 xs): ∃x:GL Case,xs=[GL.v 7 Case.v x]∧closedB (GL.v 7 Case.v x)=true∧x.l.length*56≤reachBytes:=by
 cases n with
 |zero=>exact h.elim
 |succ n=>
  simp only[Shp,Go.Proofs.Tryz.underlying120,co231,bo231]at h
  rcases h with rfl|⟨es,rfl,hb,he⟩
  ·exact⟨⟨[],.nl,by simp⟩,rfl,by simp[GL.closed,Tag.cl],by simp⟩
  ·obtain⟨l,rfl,h2,h3⟩:=listOf (f:=Case.v) (Q:=fun _=>True) (es:=es) fun x hx=>by
    obtain⟨ys,rfl,hy⟩:=he x hx
    obtain⟨a,rfl,ha⟩:=shp_Case hy;exact⟨a,by simp only[elV,Go.Proofs.Tryz.underlying231];rfl,ha⟩
   simp only[List.length_map]at hb
   refine⟨⟨l,.perm,?_⟩,rfl,by rw[GL.closed];simp only[Tag.cl,Bool.true_and];exact h2,hb⟩
   have:reachBytes=140737488351232:=rfl
   omega
theorem co122:Go.Proofs.Tryz.prog.cellsOf 122=5:=by kernel_rfl
theorem co118:Go.Proofs.Tryz.prog.cellsOf 118=1:=by kernel_rfl
theorem co119:Go.Proofs.Tryz.prog.cellsOf 119=1:=by kernel_rfl
theorem co120:Go.Proofs.Tryz.prog.cellsOf 120=1:=by kernel_rfl
theorem shp_State{n:Nat}{xs:List V}(h:Shp Go.Proofs.Tryz.prog n 122 xs): ∃x:State,xs=x.cs∧closedB x.v=true:=by
 cases n with
 |zero=>exact h.elim
 |succ n=>
  simp only[Shp,Go.Proofs.Tryz.underlying122,co122]at h
  obtain⟨hl,hf⟩:=h
  have h0:=hf _ (List.mem_of_getElem? (i:=0) rfl)
  simp only[co9]at h0
  obtain⟨x0,e0⟩:=shp9 h0
  have h1:=hf _ (List.mem_of_getElem? (i:=1) rfl)
  simp only[co118]at h1
  obtain⟨x1,e1,c1,b1⟩:=shp118 h1
  have h2:=hf _ (List.mem_of_getElem? (i:=2) rfl)
  simp only[co119]at h2
  obtain⟨x2,e2,c2,b2⟩:=shp119 h2
  have h3:=hf _ (List.mem_of_getElem? (i:=3) rfl)
  simp only[co120]at h3
  obtain⟨x3,e3,c3,b3⟩:=shp120 h3
  have h4:=hf _ (List.mem_of_getElem? (i:=4) rfl)
  simp only[co3]at h4
  obtain⟨x4,e4⟩:=shp3 h4
  have hx:xs=((xs.drop 0).take 1)++((xs.drop 1).take 1)++((xs.drop 2).take 1)++((xs.drop 3).take 1)++((xs.drop 4).take 1):=by
   have e0:xs=xs.drop 0:=rfl
   conv=>lhs;rw[e0]
   conv=>lhs;rw[splitAt xs 0 1]
   conv=>lhs;arg 2;rw[splitAt xs 1 1]
   conv=>lhs;arg 2;arg 2;rw[splitAt xs 2 1]
   conv=>lhs;arg 2;arg 2;arg 2;rw[splitAt xs 3 1]
   simp only[Nat.zero_add,Nat.reduceAdd,List.append_assoc]
   rw[List.take_of_length_le (l:=xs.drop 4) (by simp;omega)]
  rw[e0,e1,e2,e3,e4]at hx
  refine⟨⟨x0,x1,x2,x3,x4⟩,by rw[hx];rfl,by simp[State.closed,c1,c2,c3]⟩
theorem shp56{n:Nat}{xs:List V}(h:Shp Go.Proofs.Tryz.prog n 56 xs): ∃x:I64,xs=[I64.v x]:=by
 cases n with
 |zero=>exact h.elim
 |succ n=>
  simp only[Shp,Go.Proofs.Tryz.underlying56]at h
  obtain⟨m,rfl,h1,h2⟩:=h
  exact⟨⟨m,by simpa[IntKind.min,IntKind.signed,IntKind.bits]using h1,by simpa[IntKind.max,IntKind.signed,IntKind.bits]using h2⟩,rfl⟩
theorem co60:Go.Proofs.Tryz.prog.cellsOf 60=6:=by kernel_rfl
theorem co56:Go.Proofs.Tryz.prog.cellsOf 56=1:=by kernel_rfl
theorem shp_Ins{n:Nat}{xs:List V}(h:Shp Go.Proofs.Tryz.prog n 60 xs): ∃x:Ins,xs=x.cs∧closedB x.v=true:=by
 cases n with
 |zero=>exact h.elim
 |succ n=>
  simp only[Shp,Go.Proofs.Tryz.underlying60,co60]at h
  obtain⟨hl,hf⟩:=h
  have h0:=hf _ (List.mem_of_getElem? (i:=0) rfl)
  simp only[co56]at h0
  obtain⟨x0,e0⟩:=shp56 h0
  have h1:=hf _ (List.mem_of_getElem? (i:=1) rfl)
  simp only[co3]at h1
  obtain⟨x1,e1⟩:=shp3 h1
  have h2:=hf _ (List.mem_of_getElem? (i:=2) rfl)
  simp only[co3]at h2
  obtain⟨x2,e2⟩:=shp3 h2
  have h3:=hf _ (List.mem_of_getElem? (i:=3) rfl)
  simp only[co58]at h3
  obtain⟨x3,e3,c3⟩:=shp_Vec h3
  have k3:=c3;rw[Vec.closed]at k3
  have hx:xs=((xs.drop 0).take 1)++((xs.drop 1).take 1)++((xs.drop 2).take 1)++((xs.drop 3).take 3):=by
   have e0:xs=xs.drop 0:=rfl
   conv=>lhs;rw[e0]
   conv=>lhs;rw[splitAt xs 0 1]
   conv=>lhs;arg 2;rw[splitAt xs 1 1]
   conv=>lhs;arg 2;arg 2;rw[splitAt xs 2 1]
   simp only[Nat.zero_add,Nat.reduceAdd,List.append_assoc]
   rw[List.take_of_length_le (l:=xs.drop 3) (by simp;omega)]
  rw[e0,e1,e2,e3]at hx
  refine⟨⟨x0,x1,x2,x3⟩,by rw[hx];rfl,by simp[Ins.closed,c3,k3]⟩
theorem bo3:Go.Proofs.Tryz.prog.bytesOf 3=8:=by kernel_rfl
theorem shp29{n:Nat}{xs:List V}(h:Shp Go.Proofs.Tryz.prog n 29 xs): ∃x:GL I64,xs=[GL.v 1 I64.v x]∧closedB (GL.v 1 I64.v x)=true∧x.l.length*8≤reachBytes:=by
 cases n with
 |zero=>exact h.elim
 |succ n=>
  simp only[Shp,Go.Proofs.Tryz.underlying29,co3,bo3]at h
  rcases h with rfl|⟨es,rfl,hb,he⟩
  ·exact⟨⟨[],.nl,by simp⟩,rfl,by simp[GL.closed,Tag.cl],by simp⟩
  ·obtain⟨l,rfl,h2,h3⟩:=listOf (f:=I64.v) (Q:=fun _=>True) (es:=es) fun x hx=>by
    obtain⟨ys,rfl,hy⟩:=he x hx
    obtain⟨a,rfl⟩:=shp3 hy;exact⟨a,by simp only[elV,Go.Proofs.Tryz.underlying3];rfl,by simp⟩
   simp only[List.length_map]at hb
   refine⟨⟨l,.perm,?_⟩,rfl,by rw[GL.closed];simp only[Tag.cl,Bool.true_and];exact h2,hb⟩
   have:reachBytes=140737488351232:=rfl
   omega
theorem bo60:Go.Proofs.Tryz.prog.bytesOf 60=48:=by kernel_rfl
theorem shp36{n:Nat}{xs:List V}(h:Shp Go.Proofs.Tryz.prog n 36 xs): ∃x:GL Ins,xs=[GL.v 6 Ins.v x]∧closedB (GL.v 6 Ins.v x)=true∧x.l.length*48≤reachBytes:=by
 cases n with
 |zero=>exact h.elim
 |succ n=>
  simp only[Shp,Go.Proofs.Tryz.underlying36,co60,bo60]at h
  rcases h with rfl|⟨es,rfl,hb,he⟩
  ·exact⟨⟨[],.nl,by simp⟩,rfl,by simp[GL.closed,Tag.cl],by simp⟩
  ·obtain⟨l,rfl,h2,h3⟩:=listOf (f:=Ins.v) (Q:=fun _=>True) (es:=es) fun x hx=>by
    obtain⟨ys,rfl,hy⟩:=he x hx
    obtain⟨a,rfl,ha⟩:=shp_Ins hy;exact⟨a,by simp only[elV,Go.Proofs.Tryz.underlying60];rfl,ha⟩
   simp only[List.length_map]at hb
   refine⟨⟨l,.perm,?_⟩,rfl,by rw[GL.closed];simp only[Tag.cl,Bool.true_and];exact h2,hb⟩
   have:reachBytes=140737488351232:=rfl
   omega
theorem co205:Go.Proofs.Tryz.prog.cellsOf 205=3:=by kernel_rfl
theorem co29:Go.Proofs.Tryz.prog.cellsOf 29=1:=by kernel_rfl
theorem co36:Go.Proofs.Tryz.prog.cellsOf 36=1:=by kernel_rfl
theorem shp_Action{n:Nat}{xs:List V}(h:Shp Go.Proofs.Tryz.prog n 205 xs): ∃x:Action,xs=x.cs∧closedB x.v=true:=by
 cases n with
 |zero=>exact h.elim
 |succ n=>
  simp only[Shp,Go.Proofs.Tryz.underlying205,co205]at h
  obtain⟨hl,hf⟩:=h
  have h0:=hf _ (List.mem_of_getElem? (i:=0) rfl)
  simp only[co9]at h0
  obtain⟨x0,e0⟩:=shp9 h0
  have h1:=hf _ (List.mem_of_getElem? (i:=1) rfl)
  simp only[co29]at h1
  obtain⟨x1,e1,c1,b1⟩:=shp29 h1
  have h2:=hf _ (List.mem_of_getElem? (i:=2) rfl)
  simp only[co36]at h2
  obtain⟨x2,e2,c2,b2⟩:=shp36 h2
  have hx:xs=((xs.drop 0).take 1)++((xs.drop 1).take 1)++((xs.drop 2).take 1):=by
   have e0:xs=xs.drop 0:=rfl
   conv=>lhs;rw[e0]
   conv=>lhs;rw[splitAt xs 0 1]
   conv=>lhs;arg 2;rw[splitAt xs 1 1]
   simp only[Nat.zero_add,Nat.reduceAdd,List.append_assoc]
   rw[List.take_of_length_le (l:=xs.drop 2) (by simp;omega)]
  rw[e0,e1,e2]at hx
  refine⟨⟨x0,x1,x2⟩,by rw[hx];rfl,by simp[Action.closed,c1,c2]⟩
theorem bo58:Go.Proofs.Tryz.prog.bytesOf 58=24:=by kernel_rfl
theorem shp198{n:Nat}{xs:List V}(h:Shp Go.Proofs.Tryz.prog n 198 xs): ∃x:GL Vec,xs=[GL.v 3 Vec.v x]∧closedB (GL.v 3 Vec.v x)=true∧x.l.length*24≤reachBytes:=by
 cases n with
 |zero=>exact h.elim
 |succ n=>
  simp only[Shp,Go.Proofs.Tryz.underlying198,co58,bo58]at h
  rcases h with rfl|⟨es,rfl,hb,he⟩
  ·exact⟨⟨[],.nl,by simp⟩,rfl,by simp[GL.closed,Tag.cl],by simp⟩
  ·obtain⟨l,rfl,h2,h3⟩:=listOf (f:=Vec.v) (Q:=fun _=>True) (es:=es) fun x hx=>by
    obtain⟨ys,rfl,hy⟩:=he x hx
    obtain⟨a,rfl,ha⟩:=shp_Vec hy;exact⟨a,by simp only[elV,Go.Proofs.Tryz.underlying58];rfl,ha⟩
   simp only[List.length_map]at hb
   refine⟨⟨l,.perm,?_⟩,rfl,by rw[GL.closed];simp only[Tag.cl,Bool.true_and];exact h2,hb⟩
   have:reachBytes=140737488351232:=rfl
   omega
theorem co208:Go.Proofs.Tryz.prog.cellsOf 208=2:=by kernel_rfl
theorem co198:Go.Proofs.Tryz.prog.cellsOf 198=1:=by kernel_rfl
theorem shp_Call{n:Nat}{xs:List V}(h:Shp Go.Proofs.Tryz.prog n 208 xs): ∃x:Call,xs=x.cs∧closedB x.v=true:=by
 cases n with
 |zero=>exact h.elim
 |succ n=>
  simp only[Shp,Go.Proofs.Tryz.underlying208,co208]at h
  obtain⟨hl,hf⟩:=h
  have h0:=hf _ (List.mem_of_getElem? (i:=0) rfl)
  simp only[co3]at h0
  obtain⟨x0,e0⟩:=shp3 h0
  have h1:=hf _ (List.mem_of_getElem? (i:=1) rfl)
  simp only[co198]at h1
  obtain⟨x1,e1,c1,b1⟩:=shp198 h1
  have hx:xs=((xs.drop 0).take 1)++((xs.drop 1).take 1):=by
   have e0:xs=xs.drop 0:=rfl
   conv=>lhs;rw[e0]
   conv=>lhs;rw[splitAt xs 0 1]
   simp only[Nat.zero_add,Nat.reduceAdd,List.append_assoc]
   rw[List.take_of_length_le (l:=xs.drop 1) (by simp;omega)]
  rw[e0,e1]at hx
  refine⟨⟨x0,x1⟩,by rw[hx];rfl,by simp[Call.closed,c1]⟩
theorem shp206{n:Nat}{xs:List V}(h:Shp Go.Proofs.Tryz.prog n 206 xs): ∃x:I64,xs=[I64.v x]:=by
 cases n with
 |zero=>exact h.elim
 |succ n=>
  simp only[Shp,Go.Proofs.Tryz.underlying206]at h
  obtain⟨m,rfl,h1,h2⟩:=h
  exact⟨⟨m,by simpa[IntKind.min,IntKind.signed,IntKind.bits]using h1,by simpa[IntKind.max,IntKind.signed,IntKind.bits]using h2⟩,rfl⟩
theorem co210:Go.Proofs.Tryz.prog.cellsOf 210=7:=by kernel_rfl
theorem co206:Go.Proofs.Tryz.prog.cellsOf 206=1:=by kernel_rfl
theorem shp_Table{n:Nat}{xs:List V}(h:Shp Go.Proofs.Tryz.prog n 210 xs): ∃x:Table,xs=x.cs∧closedB x.v=true:=by
 cases n with
 |zero=>exact h.elim
 |succ n=>
  simp only[Shp,Go.Proofs.Tryz.underlying210,co210]at h
  obtain⟨hl,hf⟩:=h
  have h0:=hf _ (List.mem_of_getElem? (i:=0) rfl)
  simp only[co9]at h0
  obtain⟨x0,e0⟩:=shp9 h0
  have h1:=hf _ (List.mem_of_getElem? (i:=1) rfl)
  simp only[co206]at h1
  obtain⟨x1,e1⟩:=shp206 h1
  have h2:=hf _ (List.mem_of_getElem? (i:=2) rfl)
  simp only[co119]at h2
  obtain⟨x2,e2,c2,b2⟩:=shp119 h2
  have h3:=hf _ (List.mem_of_getElem? (i:=3) rfl)
  simp only[co29]at h3
  obtain⟨x3,e3,c3,b3⟩:=shp29 h3
  have h4:=hf _ (List.mem_of_getElem? (i:=4) rfl)
  simp only[co208]at h4
  obtain⟨x4,e4,c4⟩:=shp_Call h4
  have k4:=c4;rw[Call.closed]at k4
  have h5:=hf _ (List.mem_of_getElem? (i:=5) rfl)
  simp only[co3]at h5
  obtain⟨x5,e5⟩:=shp3 h5
  have hx:xs=((xs.drop 0).take 1)++((xs.drop 1).take 1)++((xs.drop 2).take 1)++((xs.drop 3).take 1)++((xs.drop 4).take 2)++((xs.drop 6).take 1):=by
   have e0:xs=xs.drop 0:=rfl
   conv=>lhs;rw[e0]
   conv=>lhs;rw[splitAt xs 0 1]
   conv=>lhs;arg 2;rw[splitAt xs 1 1]
   conv=>lhs;arg 2;arg 2;rw[splitAt xs 2 1]
   conv=>lhs;arg 2;arg 2;arg 2;rw[splitAt xs 3 1]
   conv=>lhs;arg 2;arg 2;arg 2;arg 2;rw[splitAt xs 4 2]
   simp only[Nat.zero_add,Nat.reduceAdd,List.append_assoc]
   rw[List.take_of_length_le (l:=xs.drop 6) (by simp;omega)]
  rw[e0,e1,e2,e3,e4,e5]at hx
  refine⟨⟨x0,x1,x2,x3,x4,x5⟩,by rw[hx];rfl,by simp[Table.closed,c2,c3,c4,k4]⟩
theorem shp197{n:Nat}{xs:List V}(h:Shp Go.Proofs.Tryz.prog n 197 xs): ∃x:I64,xs=[I64.v x]:=by
 cases n with
 |zero=>exact h.elim
 |succ n=>
  simp only[Shp,Go.Proofs.Tryz.underlying197]at h
  obtain⟨m,rfl,h1,h2⟩:=h
  exact⟨⟨m,by simpa[IntKind.min,IntKind.signed,IntKind.bits]using h1,by simpa[IntKind.max,IntKind.signed,IntKind.bits]using h2⟩,rfl⟩
theorem co200:Go.Proofs.Tryz.prog.cellsOf 200=6:=by kernel_rfl
theorem co197:Go.Proofs.Tryz.prog.cellsOf 197=1:=by kernel_rfl
theorem shp_Node{n:Nat}{xs:List V}(h:Shp Go.Proofs.Tryz.prog n 200 xs): ∃x:Node,xs=x.cs∧closedB x.v=true:=by
 cases n with
 |zero=>exact h.elim
 |succ n=>
  simp only[Shp,Go.Proofs.Tryz.underlying200,co200]at h
  obtain⟨hl,hf⟩:=h
  have h0:=hf _ (List.mem_of_getElem? (i:=0) rfl)
  simp only[co197]at h0
  obtain⟨x0,e0⟩:=shp197 h0
  have h1:=hf _ (List.mem_of_getElem? (i:=1) rfl)
  simp only[co3]at h1
  obtain⟨x1,e1⟩:=shp3 h1
  have h2:=hf _ (List.mem_of_getElem? (i:=2) rfl)
  simp only[co36]at h2
  obtain⟨x2,e2,c2,b2⟩:=shp36 h2
  have h3:=hf _ (List.mem_of_getElem? (i:=3) rfl)
  simp only[co198]at h3
  obtain⟨x3,e3,c3,b3⟩:=shp198 h3
  have h4:=hf _ (List.mem_of_getElem? (i:=4) rfl)
  simp only[co3]at h4
  obtain⟨x4,e4⟩:=shp3 h4
  have h5:=hf _ (List.mem_of_getElem? (i:=5) rfl)
  simp only[co3]at h5
  obtain⟨x5,e5⟩:=shp3 h5
  have hx:xs=((xs.drop 0).take 1)++((xs.drop 1).take 1)++((xs.drop 2).take 1)++((xs.drop 3).take 1)++((xs.drop 4).take 1)++((xs.drop 5).take 1):=by
   have e0:xs=xs.drop 0:=rfl
   conv=>lhs;rw[e0]
   conv=>lhs;rw[splitAt xs 0 1]
   conv=>lhs;arg 2;rw[splitAt xs 1 1]
   conv=>lhs;arg 2;arg 2;rw[splitAt xs 2 1]
   conv=>lhs;arg 2;arg 2;arg 2;rw[splitAt xs 3 1]
   conv=>lhs;arg 2;arg 2;arg 2;arg 2;rw[splitAt xs 4 1]
   simp only[Nat.zero_add,Nat.reduceAdd,List.append_assoc]
   rw[List.take_of_length_le (l:=xs.drop 5) (by simp;omega)]
  rw[e0,e1,e2,e3,e4,e5]at hx
  refine⟨⟨x0,x1,x2,x3,x4,x5⟩,by rw[hx];rfl,by simp[Node.closed,c2,c3]⟩
theorem co202:Go.Proofs.Tryz.prog.cellsOf 202=2:=by kernel_rfl
theorem shp_CSum{n:Nat}{xs:List V}(h:Shp Go.Proofs.Tryz.prog n 202 xs): ∃x:CSum,xs=x.cs∧closedB x.v=true:=by
 cases n with
 |zero=>exact h.elim
 |succ n=>
  simp only[Shp,Go.Proofs.Tryz.underlying202,co202]at h
  obtain⟨hl,hf⟩:=h
  have h0:=hf _ (List.mem_of_getElem? (i:=0) rfl)
  simp only[co3]at h0
  obtain⟨x0,e0⟩:=shp3 h0
  have h1:=hf _ (List.mem_of_getElem? (i:=1) rfl)
  simp only[co3]at h1
  obtain⟨x1,e1⟩:=shp3 h1
  have hx:xs=((xs.drop 0).take 1)++((xs.drop 1).take 1):=by
   have e0:xs=xs.drop 0:=rfl
   conv=>lhs;rw[e0]
   conv=>lhs;rw[splitAt xs 0 1]
   simp only[Nat.zero_add,Nat.reduceAdd,List.append_assoc]
   rw[List.take_of_length_le (l:=xs.drop 1) (by simp;omega)]
  rw[e0,e1]at hx
  refine⟨⟨x0,x1⟩,by rw[hx];rfl,by simp[CSum.closed]⟩
theorem co212:Go.Proofs.Tryz.prog.cellsOf 212=3:=by kernel_rfl
theorem shp_Reg{n:Nat}{xs:List V}(h:Shp Go.Proofs.Tryz.prog n 212 xs): ∃x:Reg,xs=x.cs∧closedB x.v=true:=by
 cases n with
 |zero=>exact h.elim
 |succ n=>
  simp only[Shp,Go.Proofs.Tryz.underlying212,co212]at h
  obtain⟨hl,hf⟩:=h
  have h0:=hf _ (List.mem_of_getElem? (i:=0) rfl)
  simp only[co9]at h0
  obtain⟨x0,e0⟩:=shp9 h0
  have h1:=hf _ (List.mem_of_getElem? (i:=1) rfl)
  simp only[co3]at h1
  obtain⟨x1,e1⟩:=shp3 h1
  have h2:=hf _ (List.mem_of_getElem? (i:=2) rfl)
  simp only[co3]at h2
  obtain⟨x2,e2⟩:=shp3 h2
  have hx:xs=((xs.drop 0).take 1)++((xs.drop 1).take 1)++((xs.drop 2).take 1):=by
   have e0:xs=xs.drop 0:=rfl
   conv=>lhs;rw[e0]
   conv=>lhs;rw[splitAt xs 0 1]
   conv=>lhs;arg 2;rw[splitAt xs 1 1]
   simp only[Nat.zero_add,Nat.reduceAdd,List.append_assoc]
   rw[List.take_of_length_le (l:=xs.drop 2) (by simp;omega)]
  rw[e0,e1,e2]at hx
  refine⟨⟨x0,x1,x2⟩,by rw[hx];rfl,by simp[Reg.closed]⟩
theorem co214:Go.Proofs.Tryz.prog.cellsOf 214=2:=by kernel_rfl
theorem shp_Counter{n:Nat}{xs:List V}(h:Shp Go.Proofs.Tryz.prog n 214 xs): ∃x:Counter,xs=x.cs∧closedB x.v=true:=by
 cases n with
 |zero=>exact h.elim
 |succ n=>
  simp only[Shp,Go.Proofs.Tryz.underlying214,co214]at h
  obtain⟨hl,hf⟩:=h
  have h0:=hf _ (List.mem_of_getElem? (i:=0) rfl)
  simp only[co9]at h0
  obtain⟨x0,e0⟩:=shp9 h0
  have h1:=hf _ (List.mem_of_getElem? (i:=1) rfl)
  simp only[co3]at h1
  obtain⟨x1,e1⟩:=shp3 h1
  have hx:xs=((xs.drop 0).take 1)++((xs.drop 1).take 1):=by
   have e0:xs=xs.drop 0:=rfl
   conv=>lhs;rw[e0]
   conv=>lhs;rw[splitAt xs 0 1]
   simp only[Nat.zero_add,Nat.reduceAdd,List.append_assoc]
   rw[List.take_of_length_le (l:=xs.drop 1) (by simp;omega)]
  rw[e0,e1]at hx
  refine⟨⟨x0,x1⟩,by rw[hx];rfl,by simp[Counter.closed]⟩
theorem co216:Go.Proofs.Tryz.prog.cellsOf 216=4:=by kernel_rfl
theorem shp_Meter{n:Nat}{xs:List V}(h:Shp Go.Proofs.Tryz.prog n 216 xs): ∃x:Meter,xs=x.cs∧closedB x.v=true:=by
 cases n with
 |zero=>exact h.elim
 |succ n=>
  simp only[Shp,Go.Proofs.Tryz.underlying216,co216]at h
  obtain⟨hl,hf⟩:=h
  have h0:=hf _ (List.mem_of_getElem? (i:=0) rfl)
  simp only[co9]at h0
  obtain⟨x0,e0⟩:=shp9 h0
  have h1:=hf _ (List.mem_of_getElem? (i:=1) rfl)
  simp only[co3]at h1
  obtain⟨x1,e1⟩:=shp3 h1
  have h2:=hf _ (List.mem_of_getElem? (i:=2) rfl)
  simp only[co3]at h2
  obtain⟨x2,e2⟩:=shp3 h2
  have h3:=hf _ (List.mem_of_getElem? (i:=3) rfl)
  simp only[co3]at h3
  obtain⟨x3,e3⟩:=shp3 h3
  have hx:xs=((xs.drop 0).take 1)++((xs.drop 1).take 1)++((xs.drop 2).take 1)++((xs.drop 3).take 1):=by
   have e0:xs=xs.drop 0:=rfl
   conv=>lhs;rw[e0]
   conv=>lhs;rw[splitAt xs 0 1]
   conv=>lhs;arg 2;rw[splitAt xs 1 1]
   conv=>lhs;arg 2;arg 2;rw[splitAt xs 2 1]
   simp only[Nat.zero_add,Nat.reduceAdd,List.append_assoc]
   rw[List.take_of_length_le (l:=xs.drop 3) (by simp;omega)]
  rw[e0,e1,e2,e3]at hx
  refine⟨⟨x0,x1,x2,x3⟩,by rw[hx];rfl,by simp[Meter.closed]⟩
theorem bo117:Go.Proofs.Tryz.prog.bytesOf 117=72:=by kernel_rfl
theorem shp22{n:Nat}{xs:List V}(h:Shp Go.Proofs.Tryz.prog n 22 xs): ∃x:GL Header,xs=[GL.v 6 Header.v x]∧closedB (GL.v 6 Header.v x)=true∧x.l.length*72≤reachBytes:=by
 cases n with
 |zero=>exact h.elim
 |succ n=>
  simp only[Shp,Go.Proofs.Tryz.underlying22,co117,bo117]at h
  rcases h with rfl|⟨es,rfl,hb,he⟩
  ·exact⟨⟨[],.nl,by simp⟩,rfl,by simp[GL.closed,Tag.cl],by simp⟩
  ·obtain⟨l,rfl,h2,h3⟩:=listOf (f:=Header.v) (Q:=fun _=>True) (es:=es) fun x hx=>by
    obtain⟨ys,rfl,hy⟩:=he x hx
    obtain⟨a,rfl,ha⟩:=shp_Header hy;exact⟨a,by simp only[elV,Go.Proofs.Tryz.underlying117];rfl,ha⟩
   simp only[List.length_map]at hb
   refine⟨⟨l,.perm,?_⟩,rfl,by rw[GL.closed];simp only[Tag.cl,Bool.true_and];exact h2,hb⟩
   have:reachBytes=140737488351232:=rfl
   omega
theorem bo110:Go.Proofs.Tryz.prog.bytesOf 110=32:=by kernel_rfl
theorem shp23{n:Nat}{xs:List V}(h:Shp Go.Proofs.Tryz.prog n 23 xs): ∃x:GL Inst,xs=[GL.v 3 Inst.v x]∧closedB (GL.v 3 Inst.v x)=true∧x.l.length*32≤reachBytes:=by
 cases n with
 |zero=>exact h.elim
 |succ n=>
  simp only[Shp,Go.Proofs.Tryz.underlying23,co110,bo110]at h
  rcases h with rfl|⟨es,rfl,hb,he⟩
  ·exact⟨⟨[],.nl,by simp⟩,rfl,by simp[GL.closed,Tag.cl],by simp⟩
  ·obtain⟨l,rfl,h2,h3⟩:=listOf (f:=Inst.v) (Q:=fun _=>True) (es:=es) fun x hx=>by
    obtain⟨ys,rfl,hy⟩:=he x hx
    obtain⟨a,rfl,ha⟩:=shp_Inst hy;exact⟨a,by simp only[elV,Go.Proofs.Tryz.underlying110];rfl,ha⟩
   simp only[List.length_map]at hb
   refine⟨⟨l,.perm,?_⟩,rfl,by rw[GL.closed];simp only[Tag.cl,Bool.true_and];exact h2,hb⟩
   have:reachBytes=140737488351232:=rfl
   omega
theorem bo122:Go.Proofs.Tryz.prog.bytesOf 122=96:=by kernel_rfl
theorem shp25{n:Nat}{xs:List V}(h:Shp Go.Proofs.Tryz.prog n 25 xs): ∃x:GL State,xs=[GL.v 5 State.v x]∧closedB (GL.v 5 State.v x)=true∧x.l.length*96≤reachBytes:=by
 cases n with
 |zero=>exact h.elim
 |succ n=>
  simp only[Shp,Go.Proofs.Tryz.underlying25,co122,bo122]at h
  rcases h with rfl|⟨es,rfl,hb,he⟩
  ·exact⟨⟨[],.nl,by simp⟩,rfl,by simp[GL.closed,Tag.cl],by simp⟩
  ·obtain⟨l,rfl,h2,h3⟩:=listOf (f:=State.v) (Q:=fun _=>True) (es:=es) fun x hx=>by
    obtain⟨ys,rfl,hy⟩:=he x hx
    obtain⟨a,rfl,ha⟩:=shp_State hy;exact⟨a,by simp only[elV,Go.Proofs.Tryz.underlying122];rfl,ha⟩
   simp only[List.length_map]at hb
   refine⟨⟨l,.perm,?_⟩,rfl,by rw[GL.closed];simp only[Tag.cl,Bool.true_and];exact h2,hb⟩
   have:reachBytes=140737488351232:=rfl
   omega
theorem bo205:Go.Proofs.Tryz.prog.bytesOf 205=64:=by kernel_rfl
theorem shp26{n:Nat}{xs:List V}(h:Shp Go.Proofs.Tryz.prog n 26 xs): ∃x:GL Action,xs=[GL.v 3 Action.v x]∧closedB (GL.v 3 Action.v x)=true∧x.l.length*64≤reachBytes:=by
 cases n with
 |zero=>exact h.elim
 |succ n=>
  simp only[Shp,Go.Proofs.Tryz.underlying26,co205,bo205]at h
  rcases h with rfl|⟨es,rfl,hb,he⟩
  ·exact⟨⟨[],.nl,by simp⟩,rfl,by simp[GL.closed,Tag.cl],by simp⟩
  ·obtain⟨l,rfl,h2,h3⟩:=listOf (f:=Action.v) (Q:=fun _=>True) (es:=es) fun x hx=>by
    obtain⟨ys,rfl,hy⟩:=he x hx
    obtain⟨a,rfl,ha⟩:=shp_Action hy;exact⟨a,by simp only[elV,Go.Proofs.Tryz.underlying205];rfl,ha⟩
   simp only[List.length_map]at hb
   refine⟨⟨l,.perm,?_⟩,rfl,by rw[GL.closed];simp only[Tag.cl,Bool.true_and];exact h2,hb⟩
   have:reachBytes=140737488351232:=rfl
   omega
theorem bo210:Go.Proofs.Tryz.prog.bytesOf 210=112:=by kernel_rfl
theorem shp27{n:Nat}{xs:List V}(h:Shp Go.Proofs.Tryz.prog n 27 xs): ∃x:GL Table,xs=[GL.v 7 Table.v x]∧closedB (GL.v 7 Table.v x)=true∧x.l.length*112≤reachBytes:=by
 cases n with
 |zero=>exact h.elim
 |succ n=>
  simp only[Shp,Go.Proofs.Tryz.underlying27,co210,bo210]at h
  rcases h with rfl|⟨es,rfl,hb,he⟩
  ·exact⟨⟨[],.nl,by simp⟩,rfl,by simp[GL.closed,Tag.cl],by simp⟩
  ·obtain⟨l,rfl,h2,h3⟩:=listOf (f:=Table.v) (Q:=fun _=>True) (es:=es) fun x hx=>by
    obtain⟨ys,rfl,hy⟩:=he x hx
    obtain⟨a,rfl,ha⟩:=shp_Table hy;exact⟨a,by simp only[elV,Go.Proofs.Tryz.underlying210];rfl,ha⟩
   simp only[List.length_map]at hb
   refine⟨⟨l,.perm,?_⟩,rfl,by rw[GL.closed];simp only[Tag.cl,Bool.true_and];exact h2,hb⟩
   have:reachBytes=140737488351232:=rfl
   omega
theorem bo200:Go.Proofs.Tryz.prog.bytesOf 200=80:=by kernel_rfl
theorem shp28{n:Nat}{xs:List V}(h:Shp Go.Proofs.Tryz.prog n 28 xs): ∃x:GL Node,xs=[GL.v 6 Node.v x]∧closedB (GL.v 6 Node.v x)=true∧x.l.length*80≤reachBytes:=by
 cases n with
 |zero=>exact h.elim
 |succ n=>
  simp only[Shp,Go.Proofs.Tryz.underlying28,co200,bo200]at h
  rcases h with rfl|⟨es,rfl,hb,he⟩
  ·exact⟨⟨[],.nl,by simp⟩,rfl,by simp[GL.closed,Tag.cl],by simp⟩
  ·obtain⟨l,rfl,h2,h3⟩:=listOf (f:=Node.v) (Q:=fun _=>True) (es:=es) fun x hx=>by
    obtain⟨ys,rfl,hy⟩:=he x hx
    obtain⟨a,rfl,ha⟩:=shp_Node hy;exact⟨a,by simp only[elV,Go.Proofs.Tryz.underlying200];rfl,ha⟩
   simp only[List.length_map]at hb
   refine⟨⟨l,.perm,?_⟩,rfl,by rw[GL.closed];simp only[Tag.cl,Bool.true_and];exact h2,hb⟩
   have:reachBytes=140737488351232:=rfl
   omega
theorem bo202:Go.Proofs.Tryz.prog.bytesOf 202=16:=by kernel_rfl
theorem shp30{n:Nat}{xs:List V}(h:Shp Go.Proofs.Tryz.prog n 30 xs): ∃x:GL CSum,xs=[GL.v 2 CSum.v x]∧closedB (GL.v 2 CSum.v x)=true∧x.l.length*16≤reachBytes:=by
 cases n with
 |zero=>exact h.elim
 |succ n=>
  simp only[Shp,Go.Proofs.Tryz.underlying30,co202,bo202]at h
  rcases h with rfl|⟨es,rfl,hb,he⟩
  ·exact⟨⟨[],.nl,by simp⟩,rfl,by simp[GL.closed,Tag.cl],by simp⟩
  ·obtain⟨l,rfl,h2,h3⟩:=listOf (f:=CSum.v) (Q:=fun _=>True) (es:=es) fun x hx=>by
    obtain⟨ys,rfl,hy⟩:=he x hx
    obtain⟨a,rfl,ha⟩:=shp_CSum hy;exact⟨a,by simp only[elV,Go.Proofs.Tryz.underlying202];rfl,ha⟩
   simp only[List.length_map]at hb
   refine⟨⟨l,.perm,?_⟩,rfl,by rw[GL.closed];simp only[Tag.cl,Bool.true_and];exact h2,hb⟩
   have:reachBytes=140737488351232:=rfl
   omega
theorem bo212:Go.Proofs.Tryz.prog.bytesOf 212=32:=by kernel_rfl
theorem shp31{n:Nat}{xs:List V}(h:Shp Go.Proofs.Tryz.prog n 31 xs): ∃x:GL Reg,xs=[GL.v 3 Reg.v x]∧closedB (GL.v 3 Reg.v x)=true∧x.l.length*32≤reachBytes:=by
 cases n with
 |zero=>exact h.elim
 |succ n=>
  simp only[Shp,Go.Proofs.Tryz.underlying31,co212,bo212]at h
  rcases h with rfl|⟨es,rfl,hb,he⟩
  ·exact⟨⟨[],.nl,by simp⟩,rfl,by simp[GL.closed,Tag.cl],by simp⟩
  ·obtain⟨l,rfl,h2,h3⟩:=listOf (f:=Reg.v) (Q:=fun _=>True) (es:=es) fun x hx=>by
    obtain⟨ys,rfl,hy⟩:=he x hx
    obtain⟨a,rfl,ha⟩:=shp_Reg hy;exact⟨a,by simp only[elV,Go.Proofs.Tryz.underlying212];rfl,ha⟩
   simp only[List.length_map]at hb
   refine⟨⟨l,.perm,?_⟩,rfl,by rw[GL.closed];simp only[Tag.cl,Bool.true_and];exact h2,hb⟩
   have:reachBytes=140737488351232:=rfl
   omega
theorem bo214:Go.Proofs.Tryz.prog.bytesOf 214=24:=by kernel_rfl
theorem shp32{n:Nat}{xs:List V}(h:Shp Go.Proofs.Tryz.prog n 32 xs): ∃x:GL Counter,xs=[GL.v 2 Counter.v x]∧closedB (GL.v 2 Counter.v x)=true∧x.l.length*24≤reachBytes:=by
 cases n with
 |zero=>exact h.elim
 |succ n=>
  simp only[Shp,Go.Proofs.Tryz.underlying32,co214,bo214]at h
  rcases h with rfl|⟨es,rfl,hb,he⟩
  ·exact⟨⟨[],.nl,by simp⟩,rfl,by simp[GL.closed,Tag.cl],by simp⟩
  ·obtain⟨l,rfl,h2,h3⟩:=listOf (f:=Counter.v) (Q:=fun _=>True) (es:=es) fun x hx=>by
    obtain⟨ys,rfl,hy⟩:=he x hx
    obtain⟨a,rfl,ha⟩:=shp_Counter hy;exact⟨a,by simp only[elV,Go.Proofs.Tryz.underlying214];rfl,ha⟩
   simp only[List.length_map]at hb
   refine⟨⟨l,.perm,?_⟩,rfl,by rw[GL.closed];simp only[Tag.cl,Bool.true_and];exact h2,hb⟩
   have:reachBytes=140737488351232:=rfl
   omega
theorem bo216:Go.Proofs.Tryz.prog.bytesOf 216=40:=by kernel_rfl
theorem shp33{n:Nat}{xs:List V}(h:Shp Go.Proofs.Tryz.prog n 33 xs): ∃x:GL Meter,xs=[GL.v 4 Meter.v x]∧closedB (GL.v 4 Meter.v x)=true∧x.l.length*40≤reachBytes:=by
 cases n with
 |zero=>exact h.elim
 |succ n=>
  simp only[Shp,Go.Proofs.Tryz.underlying33,co216,bo216]at h
  rcases h with rfl|⟨es,rfl,hb,he⟩
  ·exact⟨⟨[],.nl,by simp⟩,rfl,by simp[GL.closed,Tag.cl],by simp⟩
  ·obtain⟨l,rfl,h2,h3⟩:=listOf (f:=Meter.v) (Q:=fun _=>True) (es:=es) fun x hx=>by
    obtain⟨ys,rfl,hy⟩:=he x hx
    obtain⟨a,rfl,ha⟩:=shp_Meter hy;exact⟨a,by simp only[elV,Go.Proofs.Tryz.underlying216];rfl,ha⟩
   simp only[List.length_map]at hb
   refine⟨⟨l,.perm,?_⟩,rfl,by rw[GL.closed];simp only[Tag.cl,Bool.true_and];exact h2,hb⟩
   have:reachBytes=140737488351232:=rfl
   omega
theorem co35:Go.Proofs.Tryz.prog.cellsOf 35=18:=by kernel_rfl
theorem co22:Go.Proofs.Tryz.prog.cellsOf 22=1:=by kernel_rfl
theorem co23:Go.Proofs.Tryz.prog.cellsOf 23=1:=by kernel_rfl
theorem co25:Go.Proofs.Tryz.prog.cellsOf 25=1:=by kernel_rfl
theorem co26:Go.Proofs.Tryz.prog.cellsOf 26=1:=by kernel_rfl
theorem co27:Go.Proofs.Tryz.prog.cellsOf 27=1:=by kernel_rfl
theorem co28:Go.Proofs.Tryz.prog.cellsOf 28=1:=by kernel_rfl
theorem co30:Go.Proofs.Tryz.prog.cellsOf 30=1:=by kernel_rfl
theorem co31:Go.Proofs.Tryz.prog.cellsOf 31=1:=by kernel_rfl
theorem co32:Go.Proofs.Tryz.prog.cellsOf 32=1:=by kernel_rfl
theorem co33:Go.Proofs.Tryz.prog.cellsOf 33=1:=by kernel_rfl
theorem shp_Image{n:Nat}{xs:List V}(h:Shp Go.Proofs.Tryz.prog n 35 xs): ∃x:Image,xs=x.cs∧closedB x.v=true∧x.Headers.l.length*72≤reachBytes∧x.Insts.l.length*32≤reachBytes∧x.Metas.l.length*24≤reachBytes∧x.States.l.length*96≤reachBytes∧x.Actions.l.length*64≤reachBytes∧x.Tables.l.length*112≤reachBytes∧x.Ingress.l.length*80≤reachBytes∧x.Egress.l.length*80≤reachBytes∧x.Deparse.l.length*8≤reachBytes∧x.Checks.l.length*16≤reachBytes∧x.Updates.l.length*16≤reachBytes∧x.Regs.l.length*32≤reachBytes∧x.Counters.l.length*24≤reachBytes∧x.Meters.l.length*40≤reachBytes:=by
 cases n with
 |zero=>exact h.elim
 |succ n=>
  simp only[Shp,Go.Proofs.Tryz.underlying35,co35]at h
  obtain⟨hl,hf⟩:=h
  have h0:=hf _ (List.mem_of_getElem? (i:=0) rfl)
  simp only[co9]at h0
  obtain⟨x0,e0⟩:=shp9 h0
  have h1:=hf _ (List.mem_of_getElem? (i:=1) rfl)
  simp only[co22]at h1
  obtain⟨x1,e1,c1,b1⟩:=shp22 h1
  have h2:=hf _ (List.mem_of_getElem? (i:=2) rfl)
  simp only[co23]at h2
  obtain⟨x2,e2,c2,b2⟩:=shp23 h2
  have h3:=hf _ (List.mem_of_getElem? (i:=3) rfl)
  simp only[co24]at h3
  obtain⟨x3,e3,c3,b3⟩:=shp24 h3
  have h4:=hf _ (List.mem_of_getElem? (i:=4) rfl)
  simp only[co25]at h4
  obtain⟨x4,e4,c4,b4⟩:=shp25 h4
  have h5:=hf _ (List.mem_of_getElem? (i:=5) rfl)
  simp only[co26]at h5
  obtain⟨x5,e5,c5,b5⟩:=shp26 h5
  have h6:=hf _ (List.mem_of_getElem? (i:=6) rfl)
  simp only[co27]at h6
  obtain⟨x6,e6,c6,b6⟩:=shp27 h6
  have h7:=hf _ (List.mem_of_getElem? (i:=7) rfl)
  simp only[co28]at h7
  obtain⟨x7,e7,c7,b7⟩:=shp28 h7
  have h8:=hf _ (List.mem_of_getElem? (i:=8) rfl)
  simp only[co28]at h8
  obtain⟨x8,e8,c8,b8⟩:=shp28 h8
  have h9:=hf _ (List.mem_of_getElem? (i:=9) rfl)
  simp only[co29]at h9
  obtain⟨x9,e9,c9,b9⟩:=shp29 h9
  have h10:=hf _ (List.mem_of_getElem? (i:=10) rfl)
  simp only[co30]at h10
  obtain⟨x10,e10,c10,b10⟩:=shp30 h10
  have h11:=hf _ (List.mem_of_getElem? (i:=11) rfl)
  simp only[co30]at h11
  obtain⟨x11,e11,c11,b11⟩:=shp30 h11
  have h12:=hf _ (List.mem_of_getElem? (i:=12) rfl)
  simp only[co31]at h12
  obtain⟨x12,e12,c12,b12⟩:=shp31 h12
  have h13:=hf _ (List.mem_of_getElem? (i:=13) rfl)
  simp only[co32]at h13
  obtain⟨x13,e13,c13,b13⟩:=shp32 h13
  have h14:=hf _ (List.mem_of_getElem? (i:=14) rfl)
  simp only[co33]at h14
  obtain⟨x14,e14,c14,b14⟩:=shp33 h14
  have h15:=hf _ (List.mem_of_getElem? (i:=15) rfl)
  simp only[co3]at h15
  obtain⟨x15,e15⟩:=shp3 h15
  have h16:=hf _ (List.mem_of_getElem? (i:=16) rfl)
  simp only[co3]at h16
  obtain⟨x16,e16⟩:=shp3 h16
  have h17:=hf _ (List.mem_of_getElem? (i:=17) rfl)
  simp only[co3]at h17
  obtain⟨x17,e17⟩:=shp3 h17
  have hx:xs=((xs.drop 0).take 1)++((xs.drop 1).take 1)++((xs.drop 2).take 1)++((xs.drop 3).take 1)++((xs.drop 4).take 1)++((xs.drop 5).take 1)++((xs.drop 6).take 1)++((xs.drop 7).take 1)++((xs.drop 8).take 1)++((xs.drop 9).take 1)++((xs.drop 10).take 1)++((xs.drop 11).take 1)++((xs.drop 12).take 1)++((xs.drop 13).take 1)++((xs.drop 14).take 1)++((xs.drop 15).take 1)++((xs.drop 16).take 1)++((xs.drop 17).take 1):=by
   have e0:xs=xs.drop 0:=rfl
   conv=>lhs;rw[e0]
   conv=>lhs;rw[splitAt xs 0 1]
   conv=>lhs;arg 2;rw[splitAt xs 1 1]
   conv=>lhs;arg 2;arg 2;rw[splitAt xs 2 1]
   conv=>lhs;arg 2;arg 2;arg 2;rw[splitAt xs 3 1]
   conv=>lhs;arg 2;arg 2;arg 2;arg 2;rw[splitAt xs 4 1]
   conv=>lhs;arg 2;arg 2;arg 2;arg 2;arg 2;rw[splitAt xs 5 1]
   conv=>lhs;arg 2;arg 2;arg 2;arg 2;arg 2;arg 2;rw[splitAt xs 6 1]
   conv=>lhs;arg 2;arg 2;arg 2;arg 2;arg 2;arg 2;arg 2;rw[splitAt xs 7 1]
   conv=>lhs;arg 2;arg 2;arg 2;arg 2;arg 2;arg 2;arg 2;arg 2;rw[splitAt xs 8 1]
   conv=>lhs;arg 2;arg 2;arg 2;arg 2;arg 2;arg 2;arg 2;arg 2;arg 2;rw[splitAt xs 9 1]
   conv=>lhs;arg 2;arg 2;arg 2;arg 2;arg 2;arg 2;arg 2;arg 2;arg 2;arg 2;rw[splitAt xs 10 1]
   conv=>lhs;arg 2;arg 2;arg 2;arg 2;arg 2;arg 2;arg 2;arg 2;arg 2;arg 2;arg 2;rw[splitAt xs 11 1]
   conv=>lhs;arg 2;arg 2;arg 2;arg 2;arg 2;arg 2;arg 2;arg 2;arg 2;arg 2;arg 2;arg 2;rw[splitAt xs 12 1]
   conv=>lhs;arg 2;arg 2;arg 2;arg 2;arg 2;arg 2;arg 2;arg 2;arg 2;arg 2;arg 2;arg 2;arg 2;rw[splitAt xs 13 1]
   conv=>lhs;arg 2;arg 2;arg 2;arg 2;arg 2;arg 2;arg 2;arg 2;arg 2;arg 2;arg 2;arg 2;arg 2;arg 2;rw[splitAt xs 14 1]
   conv=>lhs;arg 2;arg 2;arg 2;arg 2;arg 2;arg 2;arg 2;arg 2;arg 2;arg 2;arg 2;arg 2;arg 2;arg 2;arg 2;rw[splitAt xs 15 1]
   conv=>lhs;arg 2;arg 2;arg 2;arg 2;arg 2;arg 2;arg 2;arg 2;arg 2;arg 2;arg 2;arg 2;arg 2;arg 2;arg 2;arg 2;rw[splitAt xs 16 1]
   simp only[Nat.zero_add,Nat.reduceAdd,List.append_assoc]
   rw[List.take_of_length_le (l:=xs.drop 17) (by simp;omega)]
  rw[e0,e1,e2,e3,e4,e5,e6,e7,e8,e9,e10,e11,e12,e13,e14,e15,e16,e17]at hx
  refine⟨⟨x0,x1,x2,x3,x4,x5,x6,x7,x8,x9,x10,x11,x12,x13,x14,x15,x16,x17⟩,by rw[hx];rfl,by simp[Image.closed,c1,c2,c3,c4,c5,c6,c7,c8,c9,c10,c11,c12,c13,c14],b1,b2,b3,b4,b5,b6,b7,b8,b9,b10,b11,b12,b13,b14⟩
end Go.VE.Un
