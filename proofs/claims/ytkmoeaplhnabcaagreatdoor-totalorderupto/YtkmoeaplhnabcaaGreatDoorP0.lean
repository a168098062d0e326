/- TPr -/
import Derived.Test.YtkmoeaplhnabcaaGreatDoorU0
import Derived.Test.YtkmoeaplhnabcaaGreatDoorW1
import Derived.Test.YtkmoeaplhnabcaaGreatDoorD1

set_option linter.all false
open List renaming append_nil → j6, flatMap_cons → Ad, length_append → io, length_cons → im, mem_append → jc, mem_cons → i8, mem_nil_iff → jb
open Nat renaming beq → i5, ble_eq → iu
namespace Go.Proofs.YtkmoeaplhnabcaaGreatDoor
open Go Go.AM
inductive Pr where
 |mk (op:Int) (nm:ByteArray) (n:Int) (ks:List Pr) (nl:Option (Option Addr×Nat)) (cap:Option Nat)
def Pr.op:Pr→Int|.mk o _ _ _ _ _=>o
def Pr.nm:Pr→ByteArray|.mk _ s _ _ _ _=>s
def Pr.n:Pr→Int|.mk _ _ n _ _ _=>n
def Pr.ks:Pr→List Pr|.mk _ _ _ l _ _=>l
def noKids:Option (Option Addr×Nat)→Value
 |some (a,c)=>.slice a 0 c
 |none=>.slice none 0 0
def kidsA(cs:List AV)(n:Nat)(nl:Option (Option Addr×Nat))(cap:Option Nat):AV:=bif nl.isSome&&i5 n 0 then .val (noKids nl) else .imm cs n cap
mutual
def Pr.cells:Pr→List AV
 |.mk o s n ks nl cap=>[.val (.int .i64 o),.val (.string s),.val (.int .i64 n),kidsA (Pr.cellsL ks) ks.length nl cap]
def Pr.cellsL:List Pr→List AV
 | []=>[]
 |k::r=>k.cells++Pr.cellsL r
end
def Pr.kids:Pr→AV|.mk _ _ _ ks nl cap=>kidsA (Pr.cellsL ks) ks.length nl cap
theorem Pr.cells_eq(p:Pr):p.cells=[.val (.int .i64 p.op),.val (.string p.nm),.val (.int .i64 p.n),p.kids]:=by
 cases p;simp only[Pr.cells,Pr.op,Pr.nm,Pr.n,Pr.kids]
theorem Pr.len(p:Pr):p.cells.length=4:=by rw[p.cells_eq];rfl
theorem uy(k:Pr)(l:List AV):(k.cells++l).take 4=k.cells:=by
 rw[←k.len,List.take_left]
theorem kids_len(p:Pr):lenV p.kids=some (.val (.int .i64 (p.ks.length:Nat))):=by
 obtain⟨o,s,n,ks,nl,cap⟩:=p;simp only[Pr.kids,kidsA,Pr.ks];cases nl with
 |none=>rfl
 |some x=>
  cases ks with
  |nil=>rfl
  |cons k r=>rfl
theorem Od(k:Pr)(l:List AV):takeN (some 4) (k.cells++l)=some (.agg k.cells):=by
 have:Nat.ble 4 (k.cells++l).length=true:=iu.mpr (by rw[io,k.len];omega)
 simp only[takeN,this,cond_true,uy]
theorem Leaf.kids(p:Pr):Leaf p.kids:=by
 obtain⟨o,s,n,ks,nl,cap⟩:=p;simp only[Pr.kids,kidsA];cases (nl.isSome&&i5 ks.length 0) with
 |true=>exact Leaf.val _
 |false=>exact Leaf.imm _ _ _
theorem Tree.pr(p:Pr):Tree (.agg p.cells):=by
 rw[p.cells_eq];refine Tree.agg fun v hv=>?_
 simp only[i8,jb,or_false] at hv;rcases hv with rfl|rfl|rfl|rfl
 ·exact Leaf.val _
 ·exact Leaf.val _
 ·exact Leaf.val _
 ·exact Leaf.kids p
theorem bG{α:Type}{f:α→List AV}{es:Nat}(hf:∀a,(f a).length=es):∀l:List α,(l.flatMap f).length=l.length*es
 | []=>by simp
 |a::r=>by simp only[Ad,io,hf,bG hf r,im];rw[Nat.add_mul];omega
theorem cI{α:Type}{f:α→List AV}{es:Nat}(hf:∀a,(f a).length=es):∀(l:List α) (i:Nat),(l.flatMap f).drop (i*es)=(l.drop i).flatMap f
 |l,0=>by simp only[Nat.zero_mul,List.drop_zero]
 | [],i+1=>by simp
 |a::r,i+1=>by
  have:(i+1)*es=(f a).length+i*es:=by rw[hf,Nat.add_mul];omega
  rw[Ad,this,List.drop_length_add_append,cI hf r i,List.drop_succ_cons]
theorem Fk{α:Type}{f:α→List AV}{es:Nat}(hf:∀a,(f a).length=es){l:List α}{i:Nat}{k:α}{r:List α}{nl:Option (Option Addr×Nat)}{cap:Option Nat}(h:l.drop i=k::r):
  idxAddrSV es (kidsA (l.flatMap f) l.length nl cap) i=some (.iptr (f k++r.flatMap f)):=by
 have hi:i<l.length:=by
  rcases Nat.lt_or_ge i l.length with x|x
  ·exact x
  ·rw[List.drop_eq_nil_of_le x] at h;cases h
 have h0:i5 l.length 0=false:=by
  cases hb:i5 l.length 0 with
  |false=>rfl
  |true=>
   have:=Nat.eq_of_beq_eq_true hb;omega
 have h1:Nat.blt i l.length=true:=Nat.blt_eq.mpr hi;have h2:Nat.ble (i*es) (l.flatMap f).length=true:=iu.mpr (by rw[bG hf];exact Nat.mul_le_mul_right _ om)
 simp only[kidsA,h0,Bool.and_false,cond_false,idxAddrSV,h1,h2,Bool.and_self,cond_true,cI hf,h,Ad]
theorem xK{cs:List AV}{n:Nat}{nl:Option (Option Addr×Nat)}{cap:Option Nat}:lenV (kidsA cs n nl cap)=some (.val (.int .i64 (n:Nat))):=by
 simp only[kidsA];cases nl with
 |none=>rfl
 |some x=>
  cases n with
  |zero=>rfl
  |succ n=>rfl
theorem uA(cs:List AV)(n:Nat)(nl:Option (Option Addr×Nat))(cap:Option Nat):Leaf (kidsA cs n nl cap):=by
 simp only[kidsA];cases (nl.isSome&&i5 n 0) with
 |true=>exact Leaf.val _
 |false=>exact Leaf.imm _ _ _
theorem nj{cs:List AV}{n:Nat}{nl:Option (Option Addr×Nat)}{cap:Option Nat}:ids (kidsA cs n nl cap)=[]:=by
 simp only[kidsA];cases (nl.isSome&&i5 n 0)<;>rfl
theorem bq{n:Nat}{cs l:List AV}(h:cs.length=n):takeN (some n) (cs++l)=some (.agg cs):=by
 have h1:Nat.ble n (cs++l).length=true:=iu.mpr (by rw[io,h];omega)
 simp only[takeN,h1,cond_true];rw[←h,List.take_left]
theorem bf{n:Nat}{cs:List AV}(h:cs.length=n):takeN (some n) cs=some (.agg cs):=by
 have:=bq (l:=[]) h
 rwa [j6] at this
theorem Pr.cellsL_eq:∀l:List Pr,Pr.cellsL l=l.flatMap Pr.cells
 | []=>rfl
 |k::r=>by rw[Pr.cellsL,Pr.cellsL_eq r,Ad]
structure Vl (α:Type) where
 l:List α
 nl:Option (Option Addr×Nat)
 cap:Option Nat
def Vl.A{α:Type}(f:α→List AV)(v:Vl α):AV:=kidsA (v.l.flatMap f) v.l.length v.nl v.cap
theorem Vl.len{α:Type}{f:α→List AV}{v:Vl α}:lenV (v.A f)=some (.val (.int .i64 (v.l.length:Nat))):=xK
theorem Vl.leaf{α:Type}{f:α→List AV}{v:Vl α}:Leaf (v.A f):=uA _ _ _ _
theorem Vl.ids{α:Type}{f:α→List AV}{v:Vl α}:AM.ids (v.A f)=[]:=nj
theorem Vl.at{α:Type}{f:α→List AV}{es:Nat}(hf:∀a,(f a).length=es){v:Vl α}{i:Nat}{k:α}{r:List α}(h:v.l.drop i=k::r):idxAddrSV es (v.A f) i=some (.iptr (f k++r.flatMap f)):=Fk hf h
def strA(b:ByteArray):List AV:=[.val (.string b)]
theorem aI(b:ByteArray):(strA b).length=1:=rfl
inductive Ty where
 |mk (op:Int) (nm:ByteArray) (as:List Ty) (nl:Option (Option Addr×Nat)) (cap:Option Nat) (ns:Vl ByteArray) (p:Pr) (ps:Vl Pr)
mutual
def Ty.cells:Ty→List AV
 |.mk o s as nl cap ns p ps=>.val (.int .i64 o):: .val (.string s)::kidsA (Ty.cellsL as) as.length nl cap::ns.A strA::(p.cells++[ps.A Pr.cells])
def Ty.cellsL:List Ty→List AV
 | []=>[]
 |k::r=>k.cells++Ty.cellsL r
end
def Ty.nm:Ty→ByteArray|.mk _ s _ _ _ _ _ _=>s
def Ty.as:Ty→List Ty|.mk _ _ l _ _ _ _ _=>l
def Ty.op:Ty→Int|.mk o _ _ _ _ _ _ _=>o
def Ty.ns:Ty→Vl ByteArray|.mk _ _ _ _ _ w _ _=>w
def Ty.p:Ty→Pr|.mk _ _ _ _ _ _ p _=>p
def Ty.ps:Ty→Vl Pr|.mk _ _ _ _ _ _ _ p=>p
def Ty.args:Ty→AV|.mk _ _ as nl cap _ _ _=>kidsA (Ty.cellsL as) as.length nl cap
theorem Ty.cells_eq(t:Ty):t.cells=.val (.int .i64 t.op):: .val (.string t.nm)::t.args::t.ns.A strA::(t.p.cells++[t.ps.A Pr.cells]):=by
 cases t;simp only[Ty.cells,Ty.op,Ty.nm,Ty.args,Ty.ns,Ty.p,Ty.ps]
theorem Ty.len(t:Ty):t.cells.length=9:=by simp only[t.cells_eq,im,io,t.p.len,List.length_nil]
theorem Ty.cellsL_eq:∀l:List Ty,Ty.cellsL l=l.flatMap Ty.cells
 | []=>rfl
 |k::r=>by rw[Ty.cellsL,Ty.cellsL_eq r,Ad]
theorem Ty.args_eq(t:Ty):∃nl cap,t.args=Vl.A Ty.cells ⟨t.as,nl,cap⟩:=by
 obtain⟨o,s,as,nl,cap,ns,p,ps⟩:=t;exact⟨nl,cap,by simp only[Ty.args,Ty.as,Vl.A,Ty.cellsL_eq]⟩
structure Pm where
 nm:ByteArray
 t:Ty
def Pm.cells(p:Pm):List AV:=.val (.string p.nm)::p.t.cells
theorem Pm.len(p:Pm):p.cells.length=10:=by rw[Pm.cells,im,p.t.len]
mutual
inductive Ex where
 |mk (op:Int) (nm:ByteArray) (n:Int) (ks:List Ex) (nl:Option (Option Addr×Nat)) (cap:Option Nat) (pm:Vl Pm) (al:List Al) (anl:Option (Option Addr×Nat)) (acap:Option Nat) (ty:Vl Ty)
inductive Al where
 |mk (con:ByteArray) (ns:Vl ByteArray) (b:Ex)
end
mutual
def Ex.cells:Ex→List AV
 |.mk o s n ks nl cap pm al anl acap ty=>[.val (.int .i64 o),.val (.string s),.val (.int .i64 n),kidsA (Ex.cellsL ks) ks.length nl cap,pm.A Pm.cells,kidsA (Al.cellsL al) al.length anl acap,ty.A Ty.cells]
def Ex.cellsL:List Ex→List AV
 | []=>[]
 |k::r=>k.cells++Ex.cellsL r
def Al.cells:Al→List AV
 |.mk c ns b=>.val (.string c)::ns.A strA::b.cells
def Al.cellsL:List Al→List AV
 | []=>[]
 |k::r=>k.cells++Al.cellsL r
end
def Ex.op:Ex→Int|.mk o _ _ _ _ _ _ _ _ _ _=>o
def Ex.nm:Ex→ByteArray|.mk _ s _ _ _ _ _ _ _ _ _=>s
def Ex.n:Ex→Int|.mk _ _ n _ _ _ _ _ _ _ _=>n
def Ex.ks:Ex→List Ex|.mk _ _ _ l _ _ _ _ _ _ _=>l
def Ex.pm:Ex→Vl Pm|.mk _ _ _ _ _ _ w _ _ _ _=>w
def Ex.al:Ex→List Al|.mk _ _ _ _ _ _ _ l _ _ _=>l
def Ex.ty:Ex→Vl Ty|.mk _ _ _ _ _ _ _ _ _ _ w=>w
def Ex.kids:Ex→AV|.mk _ _ _ ks nl cap _ _ _ _ _=>kidsA (Ex.cellsL ks) ks.length nl cap
def Ex.alts:Ex→AV|.mk _ _ _ _ _ _ _ al nl cap _=>kidsA (Al.cellsL al) al.length nl cap
def Al.con:Al→ByteArray|.mk c _ _=>c
def Al.ns:Al→Vl ByteArray|.mk _ w _=>w
def Al.b:Al→Ex|.mk _ _ b=>b
theorem Ex.cells_eq(e:Ex):e.cells=[.val (.int .i64 e.op),.val (.string e.nm),.val (.int .i64 e.n),e.kids,e.pm.A Pm.cells,e.alts,e.ty.A Ty.cells]:=by
 cases e;simp only[Ex.cells,Ex.op,Ex.nm,Ex.n,Ex.kids,Ex.pm,Ex.alts,Ex.ty]
theorem Al.cells_eq(a:Al):a.cells=.val (.string a.con)::a.ns.A strA::a.b.cells:=by
 cases a;simp only[Al.cells,Al.con,Al.ns,Al.b]
theorem Ex.len(e:Ex):e.cells.length=7:=by rw[e.cells_eq];rfl
theorem Al.len(a:Al):a.cells.length=9:=by simp only[a.cells_eq,im,a.b.len]
theorem Ex.cellsL_eq:∀l:List Ex,Ex.cellsL l=l.flatMap Ex.cells
 | []=>by simp only[Ex.cellsL,List.flatMap_nil]
 |k::r=>by rw[Ex.cellsL,Ex.cellsL_eq r,Ad]
theorem Al.cellsL_eq:∀l:List Al,Al.cellsL l=l.flatMap Al.cells
 | []=>by simp only[Al.cellsL,List.flatMap_nil]
 |k::r=>by rw[Al.cellsL,Al.cellsL_eq r,Ad]
theorem Ex.kids_eq(e:Ex):∃nl cap,e.kids=Vl.A Ex.cells ⟨e.ks,nl,cap⟩:=by
 obtain⟨o,s,n,ks,nl,cap,pm,al,anl,acap,ty⟩:=e;exact⟨nl,cap,by simp only[Ex.kids,Ex.ks,Vl.A,Ex.cellsL_eq]⟩
theorem Ex.alts_eq(e:Ex):∃nl cap,e.alts=Vl.A Al.cells ⟨e.al,nl,cap⟩:=by
 obtain⟨o,s,n,ks,nl,cap,pm,al,anl,acap,ty⟩:=e;exact⟨anl,acap,by simp only[Ex.alts,Ex.al,Vl.A,Al.cellsL_eq]⟩
structure Df where
 nm:ByteArray
 ps:Vl ByteArray
 b:Ex
 rest:List AV
 hr:rest.length=16
 hl:∀v∈rest,Leaf v
def Df.cells(d:Df):List AV:=.val (.string d.nm)::d.ps.A strA::(d.b.cells++d.rest)
theorem Df.len(d:Df):d.cells.length=25:=by simp only[Df.cells,im,io,d.b.len,d.hr]
structure Md where
 x0:Value
 x1:Value
 x2:Value
 x3:Value
 x4:Value
 ds:Vl Df
def Md.cells(m:Md):List AV:=[.val m.x0,.val m.x1,.val m.x2,.val m.x3,.val m.x4,m.ds.A Df.cells]
theorem Md.len(m:Md):m.cells.length=6:=rfl
theorem Pr.leaves(p:Pr):∀v∈p.cells,Leaf v:=fun v hv=>by
 rw[p.cells_eq] at hv;simp only[i8,jb,or_false] at hv;rcases hv with rfl|rfl|rfl|rfl
 ·exact Leaf.val _
 ·exact Leaf.val _
 ·exact Leaf.val _
 ·exact Leaf.kids p
theorem Ty.leaves(t:Ty):∀v∈t.cells,Leaf v:=fun v hv=>by
 have ha:Leaf t.args:=by
  obtain⟨nl,cap,e⟩:=t.args_eq;rw[e];exact Vl.leaf
 simp only[t.cells_eq,i8,jc,jb,or_false] at hv;rcases hv with rfl|rfl|rfl|rfl|hv|rfl
 ·exact Leaf.val _
 ·exact Leaf.val _
 ·exact ha
 ·exact Vl.leaf
 ·exact t.p.leaves v hv
 ·exact Vl.leaf
theorem Ex.leaves(t:Ex):∀v∈t.cells,Leaf v:=fun v hv=>by
 have ha:Leaf t.kids:=by
  obtain⟨nl,cap,e⟩:=t.kids_eq;rw[e];exact Vl.leaf
 have hb:Leaf t.alts:=by
  obtain⟨nl,cap,e⟩:=t.alts_eq;rw[e];exact Vl.leaf
 simp only[t.cells_eq,i8,jb,or_false] at hv;rcases hv with rfl|rfl|rfl|rfl|rfl|rfl|rfl
 ·exact Leaf.val _
 ·exact Leaf.val _
 ·exact Leaf.val _
 ·exact ha
 ·exact Vl.leaf
 ·exact hb
 ·exact Vl.leaf
theorem Al.leaves(t:Al):∀v∈t.cells,Leaf v:=fun v hv=>by
 simp only[t.cells_eq,i8] at hv;rcases hv with rfl|rfl|hv
 ·exact Leaf.val _
 ·exact Vl.leaf
 ·exact t.b.leaves v hv
theorem Df.leaves(t:Df):∀v∈t.cells,Leaf v:=fun v hv=>by
 simp only[Df.cells,i8,jc] at hv;rcases hv with rfl|rfl|hv|hv
 ·exact Leaf.val _
 ·exact Vl.leaf
 ·exact t.b.leaves v hv
 ·exact t.hl v hv
theorem Md.leaves(t:Md):∀v∈t.cells,Leaf v:=fun v hv=>by
 simp only[Md.cells,i8,jb,or_false] at hv;rcases hv with rfl|rfl|rfl|rfl|rfl|rfl
 ·exact Leaf.val _
 ·exact Leaf.val _
 ·exact Leaf.val _
 ·exact Leaf.val _
 ·exact Leaf.val _
 ·exact Vl.leaf
theorem Tree.ty(v:Ty):Tree (.agg v.cells):=Tree.agg v.leaves
theorem Tree.ex(v:Ex):Tree (.agg v.cells):=Tree.agg v.leaves
theorem Tree.df(v:Df):Tree (.agg v.cells):=Tree.agg v.leaves
theorem Tree.md(v:Md):Tree (.agg v.cells):=Tree.agg v.leaves
theorem Pr.ids0(p:Pr):idsL p.cells=[]:=by
 rw[p.cells_eq];have:AM.ids p.kids=[]:=by cases p;exact nj
 simp only[idsL,AM.ids,this,j6]
theorem lz:∀{a b:List AV},idsL a=[]→idsL b=[]→idsL (a++b)=[]
 | [],b,_,h=>h
 |x::a,b,h,k=>by
  simp only[List.cons_append,idsL,List.append_eq_nil_iff] at h⊢
  exact⟨h.1,lz h.2 k⟩
theorem Ty.ids0(t:Ty):idsL t.cells=[]:=by
 have h:AM.ids t.args=[]:=by
  obtain⟨nl,cap,e⟩:=t.args_eq;rw[e];exact Vl.ids
 have h2:idsL (t.p.cells++[t.ps.A Pr.cells])=[]:=lz t.p.ids0 (by simp only[idsL,Vl.ids,j6])
 simp only[t.cells_eq,idsL,AM.ids,Vl.ids,h,h2,j6]
theorem Ex.ids0(t:Ex):idsL t.cells=[]:=by
 have h:AM.ids t.kids=[]:=by
  obtain⟨nl,cap,e⟩:=t.kids_eq;rw[e];exact Vl.ids
 have h2:AM.ids t.alts=[]:=by
  obtain⟨nl,cap,e⟩:=t.alts_eq;rw[e];exact Vl.ids
 simp only[t.cells_eq,idsL,AM.ids,Vl.ids,h,h2,j6]
theorem Df.ids0(d:Df):idsL d.cells=[]:=by
 have h2:idsL (d.b.cells++d.rest)=[]:=lz d.b.ids0 (bV d.hl);simp only[Df.cells,idsL,AM.ids,Vl.ids,h2,j6]
theorem Md.ids0(m:Md):idsL m.cells=[]:=by simp only[Md.cells,idsL,AM.ids,Vl.ids,j6]
end Go.Proofs.YtkmoeaplhnabcaaGreatDoor
