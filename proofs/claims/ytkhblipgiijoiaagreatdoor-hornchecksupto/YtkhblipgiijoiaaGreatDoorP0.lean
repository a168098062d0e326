/- ZPr -/
import Derived.Test.YtkhblipgiijoiaaGreatDoorU0
import Derived.Test.YtkhblipgiijoiaaGreatDoorW1

set_option linter.all false
open Bool renaming and_self → iu
open List renaming append_nil → iz, drop_succ_cons → jq, drop_zero → j9, flatMap_cons → A8, length_append → io, length_cons → il, length_nil → jf, mem_cons → ie, mem_nil_iff → j7, nil_append → im
open Nat renaming beq → i8, ble → ia, ble_eq → ir, eq_of_beq_eq_true → ij, zero_mul → Ap
namespace Go.Proofs.YtkhblipgiijoiaaGreatDoor
open Go Go.AM
inductive Pr where
 |mk (op:Int) (nm:ByteArray) (n:Int) (ks:List Pr) (nl:Option (Option Addr×Nat)) (cap:Option Nat)
def Pr.op:Pr→Int|.mk o _ _ _ _ _=>o
def Pr.nm:Pr→ByteArray|.mk _ s _ _ _ _=>s
def Pr.n:Pr→Int|.mk _ _ n _ _ _=>n
def Pr.ks:Pr→List Pr|.mk _ _ _ l _ _=>l
def noKids:Option (Option Addr×Nat)→Value
 |some (a,c)=>.slice a 0 c
 |none=>.slice none 0 0
def kidsA(cs:List AV)(n:Nat)(nl:Option (Option Addr×Nat))(cap:Option Nat):AV:=bif nl.isSome&&i8 n 0 then .val (noKids nl) else .imm cs n cap
mutual
def Pr.cells:Pr→List AV
 |.mk o s n ks nl cap=>[.val (.int .i64 o),.val (.string s),.val (.int .i64 n),kidsA (Pr.cellsL ks) ks.length nl cap]
def Pr.cellsL:List Pr→List AV
 | []=>[]
 |k::r=>k.cells++Pr.cellsL r
end
abbrev Pr.av(p:Pr):AV:=.agg p.cells
def Pr.kids:Pr→AV|.mk _ _ _ ks nl cap=>kidsA (Pr.cellsL ks) ks.length nl cap
theorem Pr.cells_eq(p:Pr):p.cells=[.val (.int .i64 p.op),.val (.string p.nm),.val (.int .i64 p.n),p.kids]:=by
 cases p;simp only[Pr.cells,Pr.op,Pr.nm,Pr.n,Pr.kids]
theorem Pr.len(p:Pr):p.cells.length=4:=by rw[p.cells_eq];rfl
theorem cG:∀l:List Pr,(Pr.cellsL l).length=l.length*4
 | []=>by simp only[Pr.cellsL,jf,Ap]
 |k::r=>by simp only[Pr.cellsL,io,k.len,cG r,il];omega
theorem gF:∀(l:List Pr) (i:Nat),(Pr.cellsL l).drop (i*4)=Pr.cellsL (l.drop i)
 |l,0=>by simp only[Ap,j9]
 | [],i+1=>by simp only[Pr.cellsL,List.drop_nil]
 |k::r,i+1=>by
  have:(i+1)*4=k.cells.length+i*4:=by rw[k.len];omega
  rw[Pr.cellsL,this,List.drop_length_add_append,gF r i,jq]
theorem Lc(k:Pr)(l:List AV):(k.cells++l).take 4=k.cells:=by
 rw[←k.len,List.take_left]
theorem dt{p:Pr}{i:Nat}{k:Pr}{r:List Pr}(h:p.ks.drop i=k::r):idxAddrSV 4 p.kids i=some (.iptr (k.cells++Pr.cellsL r)):=by
 obtain⟨o,s,n,ks,nl,cap⟩:=p;have h:ks.drop i=k::r:=h;have hi:i<ks.length:=by
  rcases Nat.lt_or_ge i ks.length with x|x
  ·exact x
  ·exact U29
 have h0:i8 ks.length 0=false:=by
  cases hb:i8 ks.length 0 with
  |false=>rfl
  |true=>
   have:=ij hb;omega
 have h1:Nat.blt i ks.length=true:=Nat.blt_eq.mpr hi;have h2:ia (i*4) (Pr.cellsL ks).length=true:=ir.mpr (by rw[cG];omega)
 simp only[Pr.kids,kidsA,h0,Bool.and_false,cond_false,idxAddrSV,h1,h2,iu,cond_true,gF,h,Pr.cellsL]
theorem Dx(p:Pr):lenV p.kids=some (.val (.int .i64 (p.ks.length:Nat))):=by
 obtain⟨o,s,n,ks,nl,cap⟩:=p;simp only[Pr.kids,kidsA,Pr.ks];cases nl with
 |none=>rfl
 |some x=>
  cases ks with
  |nil=>rfl
  |cons k r=>rfl
theorem Qb(k:Pr)(l:List AV):takeN (some 4) (k.cells++l)=some (.agg k.cells):=by
 have:ia 4 (k.cells++l).length=true:=ir.mpr (by rw[io,k.len];omega)
 simp only[takeN,this,cond_true,Lc]
theorem cL{h:AH}{z l:List AV}{n:Nat}(hz:z.length=n)(hl:l.length=n):storeH (h.alloc (.cells z true)) n (.ptr h.next 0) l=some ((h.alloc (.cells z true)).put h.next (some (.cells l true))):=by
 have h1:(h.alloc (.cells z true)).get h.next=some (.cells z true):=by rw[AH.get_alloc,if_pos rfl]
 have h2:i8 l.length n=true:=by rw[hl];exact Nat.beq_refl n
 have h3:ia (0+n) z.length=true:=ir.mpr om;have h4:putAt z 0 l=l:=by
  simp only[putAt,List.take_zero,im,Nat.zero_add];rw[List.drop_eq_nil_of_le om,iz]
 simp only[storeH,h1,h2,h3,iu,cond_true,h4]
theorem Mm(p:Pr)(off:Nat)(l:List AV)(h:ia off 4=true):fieldAddrV off (.iptr (p.cells++l))=some (.iptr ((p.cells++l).drop off)):=by
 have:ia off (p.cells++l).length=true:=by
  have:=Nat.le_of_ble_eq_true h;exact ir.mpr (by rw[io,p.len];omega)
 simp only[fieldAddrV,this,cond_true]
theorem Leaf.kids(p:Pr):Leaf p.kids:=by
 obtain⟨o,s,n,ks,nl,cap⟩:=p;simp only[Pr.kids,kidsA];cases (nl.isSome&&i8 ks.length 0) with
 |true=>exact Leaf.val _
 |false=>exact Leaf.imm _ _ _
theorem Tree.pr(p:Pr):Tree (.agg p.cells):=by
 rw[p.cells_eq];refine Tree.agg fun v hv=>?_
 simp only[ie,j7,or_false] at hv;rcases hv with rfl|rfl|rfl|rfl
 ·exact Leaf.val _
 ·exact Leaf.val _
 ·exact Leaf.val _
 ·exact Leaf.kids p
theorem au{α:Type}{f:α→List AV}{es:Nat}(hf:∀a,(f a).length=es):∀l:List α,(l.flatMap f).length=l.length*es
 | []=>by simp
 |a::r=>by simp only[A8,io,hf,au hf r,il];rw[Nat.add_mul];omega
theorem jI{α:Type}{f:α→List AV}{es:Nat}(hf:∀a,(f a).length=es):∀(l:List α) (i:Nat),(l.flatMap f).drop (i*es)=(l.drop i).flatMap f
 |l,0=>by simp only[Ap,j9]
 | [],i+1=>by simp
 |a::r,i+1=>by
  have:(i+1)*es=(f a).length+i*es:=by rw[hf,Nat.add_mul];omega
  rw[A8,this,List.drop_length_add_append,jI hf r i,jq]
theorem Zu{α:Type}{f:α→List AV}{es:Nat}(hf:∀a,(f a).length=es){l:List α}{i:Nat}{k:α}{r:List α}{nl:Option (Option Addr×Nat)}{cap:Option Nat}(h:l.drop i=k::r):
  idxAddrSV es (kidsA (l.flatMap f) l.length nl cap) i=some (.iptr (f k++r.flatMap f)):=by
 have hi:i<l.length:=by
  rcases Nat.lt_or_ge i l.length with x|x
  ·exact x
  ·exact U29
 have h0:i8 l.length 0=false:=by
  cases hb:i8 l.length 0 with
  |false=>rfl
  |true=>
   have:=ij hb;omega
 have h1:Nat.blt i l.length=true:=Nat.blt_eq.mpr hi;have h2:ia (i*es) (l.flatMap f).length=true:=ir.mpr (by rw[au hf];exact Nat.mul_le_mul_right _ om)
 simp only[kidsA,h0,Bool.and_false,cond_false,idxAddrSV,h1,h2,iu,cond_true,jI hf,h,A8]
theorem Rf{cs:List AV}{n:Nat}{nl:Option (Option Addr×Nat)}{cap:Option Nat}:lenV (kidsA cs n nl cap)=some (.val (.int .i64 (n:Nat))):=by
 simp only[kidsA];cases nl with
 |none=>rfl
 |some x=>
  cases n with
  |zero=>rfl
  |succ n=>rfl
theorem It(cs:List AV)(n:Nat)(nl:Option (Option Addr×Nat))(cap:Option Nat):Leaf (kidsA cs n nl cap):=by
 simp only[kidsA];cases (nl.isSome&&i8 n 0) with
 |true=>exact Leaf.val _
 |false=>exact Leaf.imm _ _ _
theorem ee{cs:List AV}{n:Nat}{nl:Option (Option Addr×Nat)}{cap:Option Nat}:ids (kidsA cs n nl cap)=[]:=by
 simp only[kidsA];cases (nl.isSome&&i8 n 0)<;>rfl
theorem dk{n:Nat}{cs l:List AV}(h:cs.length=n):takeN (some n) (cs++l)=some (.agg cs):=by
 have h1:ia n (cs++l).length=true:=ir.mpr (by rw[io,h];omega)
 simp only[takeN,h1,cond_true];rw[←h,List.take_left]
theorem iW{n:Nat}{cs:List AV}(h:cs.length=n):takeN (some n) cs=some (.agg cs):=by
 have:=dk (l:=[]) h
 rwa [iz] at this
theorem Pr.cellsL_eq:∀l:List Pr,Pr.cellsL l=l.flatMap Pr.cells
 | []=>rfl
 |k::r=>by rw[Pr.cellsL,Pr.cellsL_eq r,A8]
structure Vl (α:Type) where
 l:List α
 nl:Option (Option Addr×Nat)
 cap:Option Nat
def Vl.A{α:Type}(f:α→List AV)(v:Vl α):AV:=kidsA (v.l.flatMap f) v.l.length v.nl v.cap
theorem Vl.len{α:Type}{f:α→List AV}{v:Vl α}:lenV (v.A f)=some (.val (.int .i64 (v.l.length:Nat))):=Rf
theorem Vl.leaf{α:Type}{f:α→List AV}{v:Vl α}:Leaf (v.A f):=It _ _ _ _
theorem Vl.ids{α:Type}{f:α→List AV}{v:Vl α}:AM.ids (v.A f)=[]:=ee
theorem Vl.at{α:Type}{f:α→List AV}{es:Nat}(hf:∀a,(f a).length=es){v:Vl α}{i:Nat}{k:α}{r:List α}(h:v.l.drop i=k::r):idxAddrSV es (v.A f) i=some (.iptr (f k++r.flatMap f)):=Zu hf h
def strA(b:ByteArray):List AV:=[.val (.string b)]
structure Vr where
 nm:ByteArray
 so:ByteArray
def Vr.cells(v:Vr):List AV:=[.val (.string v.nm),.val (.string v.so)]
structure Sm where
 nm:ByteArray
 as:Vl ByteArray
 res:ByteArray
def Sm.cells(s:Sm):List AV:=[.val (.string s.nm),s.as.A strA,.val (.string s.res)]
structure Ho where
 nm:ByteArray
 ps:Vl Vr
def Ho.cells(h:Ho):List AV:=[.val (.string h.nm),h.ps.A Vr.cells]
structure Cl where
 vs:Vl Vr
 hy:Vl Pr
 hd:Pr
 tag:Int
def Cl.cells(c:Cl):List AV:=c.vs.A Vr.cells::c.hy.A Pr.cells::(c.hd.cells++[.val (.int .i64 c.tag)])
structure Hn where
 sy:Vl Sm
 hs:Vl Ho
 cs:Vl Cl
def Hn.cells(h:Hn):List AV:=[h.sy.A Sm.cells,h.hs.A Ho.cells,h.cs.A Cl.cells]
structure So where
 nm:ByteArray
 p:Pr
def So.cells(s:So):List AV:=.val (.string s.nm)::s.p.cells
structure Evr where
 vs:Vl Vr
 sy:Vl Sm
 hs:Vl Ho
def Evr.cells(v:Evr):List AV:=[v.vs.A Vr.cells,v.sy.A Sm.cells,v.hs.A Ho.cells]
theorem aK(b:ByteArray):(strA b).length=1:=rfl
theorem Vr.len(v:Vr):v.cells.length=2:=rfl
theorem Sm.len(v:Sm):v.cells.length=3:=rfl
theorem Ho.len(v:Ho):v.cells.length=2:=rfl
theorem Cl.len(c:Cl):c.cells.length=7:=by simp only[Cl.cells,il,io,c.hd.len,jf]
theorem So.len(s:So):s.cells.length=5:=by rw[So.cells,il,s.p.len]
theorem xn{a b c:AV}(ha:Leaf a)(hb:Leaf b)(hc:Leaf c):Tree (.agg [a,b,c]):=Tree.agg fun v hv=>by
 simp only[ie,j7,or_false] at hv;rcases hv with rfl|rfl|rfl
 ·exact ha
 ·exact hb
 ·exact hc
theorem aBD{a b:AV}(ha:Leaf a)(hb:Leaf b):Tree (.agg [a,b]):=Tree.agg fun v hv=>by
 simp only[ie,j7,or_false] at hv;rcases hv with rfl|rfl
 ·exact ha
 ·exact hb
theorem Pr.leaves(p:Pr):∀v∈p.cells,Leaf v:=fun v hv=>by
 rw[p.cells_eq] at hv;simp only[ie,j7,or_false] at hv;rcases hv with rfl|rfl|rfl|rfl
 ·exact Leaf.val _
 ·exact Leaf.val _
 ·exact Leaf.val _
 ·exact Leaf.kids p
theorem Cl.leaves(c:Cl):∀v∈c.cells,Leaf v:=fun v hv=>by
 simp only[Cl.cells,ie,List.mem_append,j7,or_false] at hv;rcases hv with rfl|rfl|hv|rfl
 ·exact Vl.leaf
 ·exact Vl.leaf
 ·exact c.hd.leaves v hv
 ·exact Leaf.val _
theorem So.leaves(s:So):∀v∈s.cells,Leaf v:=fun v hv=>by
 simp only[So.cells,ie] at hv;rcases hv with rfl|hv
 ·exact Leaf.val _
 ·exact s.p.leaves v hv
theorem Tree.sm(v:Sm):Tree (.agg v.cells):=xn (Leaf.val _) Vl.leaf (Leaf.val _)
theorem Tree.ho(v:Ho):Tree (.agg v.cells):=aBD (Leaf.val _) Vl.leaf
theorem Tree.cl(c:Cl):Tree (.agg c.cells):=Tree.agg c.leaves
theorem Tree.hn(v:Hn):Tree (.agg v.cells):=xn Vl.leaf Vl.leaf Vl.leaf
theorem Tree.so(v:So):Tree (.agg v.cells):=Tree.agg v.leaves
theorem Tree.ev(v:Evr):Tree (.agg v.cells):=xn Vl.leaf Vl.leaf Vl.leaf
theorem Pr.ids0(p:Pr):idsL p.cells=[]:=by
 rw[p.cells_eq];have:AM.ids p.kids=[]:=by cases p;exact ee
 simp only[idsL,AM.ids,this,iz]
theorem Dz:∀{a b:List AV},idsL a=[]→idsL b=[]→idsL (a++b)=[]
 | [],b,_,h=>h
 |x::a,b,h,k=>by
  simp only[List.cons_append,idsL,List.append_eq_nil_iff] at h⊢
  exact⟨h.1,Dz h.2 k⟩
theorem Vr.ids0(v:Vr):idsL v.cells=[]:=rfl
theorem Sm.ids0(v:Sm):idsL v.cells=[]:=by simp only[Sm.cells,idsL,AM.ids,Vl.ids,iz]
theorem Ho.ids0(v:Ho):idsL v.cells=[]:=by simp only[Ho.cells,idsL,AM.ids,Vl.ids,iz]
theorem Cl.ids0(v:Cl):idsL v.cells=[]:=by
 have h:idsL (v.hd.cells++[AV.val (.int .i64 v.tag)])=[]:=Dz v.hd.ids0 rfl;simp only[Cl.cells,idsL,Vl.ids,im,h]
theorem Hn.ids0(v:Hn):idsL v.cells=[]:=by simp only[Hn.cells,idsL,Vl.ids,iz]
theorem So.ids0(v:So):idsL v.cells=[]:=by simp only[So.cells,idsL,AM.ids,v.p.ids0,iz]
theorem Evr.ids0(v:Evr):idsL v.cells=[]:=by simp only[Evr.cells,idsL,Vl.ids,iz]
end Go.Proofs.YtkhblipgiijoiaaGreatDoor
