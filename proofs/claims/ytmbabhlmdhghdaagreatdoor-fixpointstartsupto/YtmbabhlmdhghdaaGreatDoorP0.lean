/- VPr -/
import Derived.Test.YtmbabhlmdhghdaaGreatDoorW1
set_option linter.all false
open Option renaming some->Z, none->Y
open Bool renaming true->J, false->U
open Bool renaming and_self->ja
open List renaming drop_eq_nil_of_le->Ba, drop_succ_cons->An, flatMap_cons->Ag, length_append->jh, length_cons->jf
open Nat renaming beq->ig, ble->ii, ble_eq->jo, eq_of_beq_eq_true->iu
namespace Go.Proofs.YtmbabhlmdhghdaaGreatDoor
open Go Go.AM
inductive Pr where
 |mk (op:Int) (nm:ByteArray) (n:Int) (ks:List Pr) (nl:Option (Option Addr×Nat)) (cap:Option Nat)
def Pr.op:Pr->Int|.mk o _ _ _ _ _=>o
def Pr.nm:Pr->ByteArray|.mk _ s _ _ _ _=>s
def Pr.n:Pr->Int|.mk _ _ n _ _ _=>n
def Pr.ks:Pr->List Pr|.mk _ _ _ l _ _=>l
def noKids:Option (Option Addr×Nat)->Value
 |some (a,c)=>.slice a 0 c
 |none=>.slice Y 0 0
def cV(cs:List AV)(n:Nat)(nl:Option (Option Addr×Nat))(cap:Option Nat):AV:=bif nl.isSome&&ig n 0 then .val (noKids nl) else .imm cs n cap
mutual
def Pr.cells:Pr->List AV
 |.mk o s n ks nl cap=>[.val (.int .i64 o),.val (.string s),.val (.int .i64 n),cV (Pr.aG ks) ks.length nl cap]
def Pr.aG:List Pr->List AV
 | []=>[]
 |k::r=>k.cells++Pr.aG r
end
abbrev Pr.av(p:Pr):AV:=.agg p.cells
def Pr.kids:Pr->AV|.mk _ _ _ ks nl cap=>cV (Pr.aG ks) ks.length nl cap
theorem Pr.bS(p:Pr):p.cells=[.val (.int .i64 p.op),.val (.string p.nm),.val (.int .i64 p.n),p.kids]:=by
 cases p;rfl
theorem Pr.len(p:Pr):p.cells.length=4:=by rw[p.bS];rfl
theorem pj:∀l:List Pr,(Pr.aG l).length=l.length*4
 | []=>by rfl
 |k::r=>by simp[Pr.aG,k.len,pj r];omega
theorem uZ:∀(l:List Pr) (i:Nat),(Pr.aG l).drop (i*4)=Pr.aG (l.drop i)
 |l,0=>by rfl
 | [],i+1=>by rfl
 |k::r,i+1=>by
  have:(i+1)*4=k.cells.length+i*4:=by rw[k.len];omega
  rw[Pr.aG,this,List.drop_length_add_append,uZ r i,An]
theorem Kx(k:Pr)(l:List AV):(k.cells++l).take 4=k.cells:=by
 rw[<-k.len,List.take_left]
theorem sY{p:Pr}{i:Nat}{k:Pr}{r:List Pr}(h:p.ks.drop i=k::r):aX 4 p.kids i=Z (.bD (k.cells++Pr.aG r)):=by
 obtain⟨o,s,n,ks,nl,cap⟩:=p;have h:ks.drop i=k::r:=h;have hi:i<ks.length:=by
  grind [Ba]
 have h0:ig ks.length 0=U:=by
  grind [iu]
 have h1:Nat.blt i ks.length=J:=Sa;have h2:ii (i*4) (Pr.aG ks).length=J:=jo.mpr (by grind [pj])
 simp only[Pr.kids,cV,h0,Bool.and_false,cond_false,aX,h1,h2,ja,cond_true,uZ,h,Pr.aG]
theorem Zr(p:Pr):oL p.kids=Z (.val (.int .i64 (p.ks.length:Nat))):=by
 obtain⟨o,s,n,ks,nl,cap⟩:=p;simp[Pr.kids,cV,Pr.ks];cases nl with
 |none=>rfl
 |some x=>
  cases ks<;>rfl
theorem Bp(k:Pr)(l:List AV):takeN (Z 4) (k.cells++l)=Z (.agg k.cells):=by
 have:ii 4 (k.cells++l).length=J:=jo.mpr (by rw[jh,k.len];omega)
 simp only[takeN,this,cond_true,Kx]
theorem vW{h:AH}{z l:List AV}{n:Nat}(hz:z.length=n)(hl:l.length=n):eu (h.alloc (.cells z J)) n (.ptr h.next 0) l=Z ((h.alloc (.cells z J)).put h.next (Z (.cells l J))):=by
 have h1:(h.alloc (.cells z J)).get h.next=Z (.cells z J):=by rw[AH.aS,if_pos rfl]
 have h2:=U192;have h3:ii (0+n) z.length=J:=Sa;have h4:putAt z 0 l=l:=by
  simp_all [putAt]
 simp only[eu,h1,h2,h3,ja,cond_true,h4]
theorem bEE(p:Pr)(off:Nat)(l:List AV)(h:ii off 4=J):bu off (.bD (p.cells++l))=Z (.bD ((p.cells++l).drop off)):=by
 have:ii off (p.cells++l).length=J:=by
  have:=Nat.le_of_ble_eq_true h;exact jo.mpr (by rw[jh,p.len];omega)
 simp only[bu,this,cond_true]
theorem aj.kids(p:Pr):aj p.kids:=by
 obtain⟨o,s,n,ks,nl,cap⟩:=p
 grind [Pr.kids,cV,aj.val,aj.imm]
theorem Tree.pr(p:Pr):Tree (.agg p.cells):=by
 rw[p.bS];refine Tree.agg λv hv=>?_
 exact U109
theorem uq{α:Type}{f:α->List AV}{es:Nat}(hf:∀a,(f a).length=es):∀l:List α,(l.flatMap f).length=l.length*es
 | []=>Sp
 |a::r=>by simp[hf,uq hf r];grind
theorem Ju{α:Type}{f:α->List AV}{es:Nat}(hf:∀a,(f a).length=es):∀(l:List α) (i:Nat),(l.flatMap f).drop (i*es)=(l.drop i).flatMap f
 |l,0=>Gr
 | [],i+1=>Sp
 |a::r,i+1=>by
  have:(i+1)*es=(f a).length+i*es:=Gr;rw[Ag,this,List.drop_length_add_append,Ju hf r i,An]
theorem bCB{α:Type}{f:α->List AV}{es:Nat}(hf:∀a,(f a).length=es){l:List α}{i:Nat}{k:α}{r:List α}{nl:Option (Option Addr×Nat)}{cap:Option Nat}(h:l.drop i=k::r):
  aX es (cV (l.flatMap f) l.length nl cap) i=Z (.bD (f k++r.flatMap f)):=by
 have hi:i<l.length:=by
  grind [Ba]
 have h0:ig l.length 0=U:=by
  grind [iu]
 have h1:Nat.blt i l.length=J:=Sa;have h2:ii (i*es) (l.flatMap f).length=J:=jo.mpr (by rw[uq hf];exact Nat.mul_le_mul_right _ om)
 simp only[cV,h0,Bool.and_false,cond_false,aX,h1,h2,ja,cond_true,Ju hf,h,Ag]
theorem aOU{cs:List AV}{n:Nat}{nl:Option (Option Addr×Nat)}{cap:Option Nat}:oL (cV cs n nl cap)=Z (.val (.int .i64 (n:Nat))):=by
 simp[cV];cases nl with
 |none=>rfl
 |some x=>
  cases n<;>rfl
theorem aEJ(cs:List AV)(n:Nat)(nl:Option (Option Addr×Nat))(cap:Option Nat):aj (cV cs n nl cap):=by
 grind [cV,aj.val,aj.imm]
theorem vk{cs:List AV}{n:Nat}{nl:Option (Option Addr×Nat)}{cap:Option Nat}:ids (cV cs n nl cap)=[]:=by
 simp[cV];cases (nl.isSome&&ig n 0)<;>rfl
theorem tv{n:Nat}{cs l:List AV}(h:cs.length=n):takeN (Z n) (cs++l)=Z (.agg cs):=by
 have h1:ii n (cs++l).length=J:=Sa;rw[takeN,h1,cond_true]
 grind
theorem cf{n:Nat}{cs:List AV}(h:cs.length=n):takeN (Z n) cs=Z (.agg cs):=by
 have:=tv (l:=[]) h
 grind
theorem Pr.bG:∀l:List Pr,Pr.aG l=l.flatMap Pr.cells
 | []=>rfl
 |k::r=>by rw[Pr.aG,Pr.bG r,Ag]
structure Vl (α:Type) where
 l:List α
 nl:Option (Option Addr×Nat)
 cap:Option Nat
def Vl.A{α:Type}(f:α->List AV)(v:Vl α):AV:=cV (v.l.flatMap f) v.l.length v.nl v.cap
theorem Vl.len{α:Type}{f:α->List AV}{v:Vl α}:oL (v.A f)=Z (.val (.int .i64 (v.l.length:Nat))):=aOU
theorem Vl.leaf{α:Type}{f:α->List AV}{v:Vl α}:aj (v.A f):=aEJ _ _ _ _
theorem Vl.ids{α:Type}{f:α->List AV}{v:Vl α}:AM.ids (v.A f)=[]:=vk
theorem Vl.at{α:Type}{f:α->List AV}{es:Nat}(hf:∀a,(f a).length=es){v:Vl α}{i:Nat}{k:α}{r:List α}(h:v.l.drop i=k::r):aX es (v.A f) i=Z (.bD (f k++r.flatMap f)):=bCB hf h
def bV(b:ByteArray):List AV:=[.val (.string b)]
structure Vr where
 nm:ByteArray
 so:ByteArray
def Vr.cells(v:Vr):List AV:=[.val (.string v.nm),.val (.string v.so)]
structure Sm where
 nm:ByteArray
 as:Vl ByteArray
 res:ByteArray
def Sm.cells(s:Sm):List AV:=[.val (.string s.nm),s.as.A bV,.val (.string s.res)]
structure Ho where
 nm:ByteArray
 ps:Vl Vr
def Ho.cells(h:Ho):List AV:=[.val (.string h.nm),h.ps.A Vr.cells]
structure Cl where
 vs:Vl Vr
 hy:Vl Pr
 hd:Pr
 tag:Int
def Cl.cells(c:Cl):List AV:=c.vs.A Vr.cells::c.hy.A Pr.cells::(c.hd.cells++[.val (.int .i64 c.tag)])
structure Hn where
 sy:Vl Sm
 hs:Vl Ho
 cs:Vl Cl
def Hn.cells(h:Hn):List AV:=[h.sy.A Sm.cells,h.hs.A Ho.cells,h.cs.A Cl.cells]
structure So where
 nm:ByteArray
 p:Pr
def So.cells(s:So):List AV:=.val (.string s.nm)::s.p.cells
structure Evr where
 vs:Vl Vr
 sy:Vl Sm
 hs:Vl Ho
def Evr.cells(v:Evr):List AV:=[v.vs.A Vr.cells,v.sy.A Sm.cells,v.hs.A Ho.cells]
theorem sz(b:ByteArray):(bV b).length=1:=rfl
theorem Vr.len(v:Vr):v.cells.length=2:=rfl
theorem Sm.len(v:Sm):v.cells.length=3:=rfl
theorem Ho.len(v:Ho):v.cells.length=2:=rfl
theorem Cl.len(c:Cl):c.cells.length=7:=by simp only[Cl.cells,jf,jh,c.hd.len,List.length_nil]
theorem So.len(s:So):s.cells.length=5:=by rw[So.cells,jf,s.p.len]
theorem aIF{a b c:AV}(ha:aj a)(hb:aj b)(hc:aj c):Tree (.agg [a,b,c]):=Tree.agg λv hv=>by
 grind
theorem bDJ{a b:AV}(ha:aj a)(hb:aj b):Tree (.agg [a,b]):=Tree.agg λv hv=>by
 grind
theorem Pr.leaves(p:Pr):∀v∈p.cells,aj v:=λv hv=>by
 rw[p.bS] at hv;exact U109
theorem Cl.leaves(c:Cl):∀v∈c.cells,aj v:=λv hv=>by
 simp[Cl.cells] at hv;rcases hv with rfl|rfl|hv|rfl
 ·exact Vl.leaf
 ·exact Vl.leaf
 ·exact c.hd.leaves v hv
 ·exact U181
theorem So.leaves(s:So):∀v∈s.cells,aj v:=λv hv=>by
 simp[So.cells] at hv;rcases hv with rfl|hv
 ·exact U181
 ·exact s.p.leaves v hv
theorem Tree.ho(v:Ho):Tree (.agg v.cells):=bDJ (aj.val _) Vl.leaf
theorem Tree.cl(c:Cl):Tree (.agg c.cells):=Tree.agg c.leaves
theorem Tree.hn(v:Hn):Tree (.agg v.cells):=aIF Vl.leaf Vl.leaf Vl.leaf
theorem Tree.so(v:So):Tree (.agg v.cells):=Tree.agg v.leaves
theorem Tree.ev(v:Evr):Tree (.agg v.cells):=aIF Vl.leaf Vl.leaf Vl.leaf
theorem Pr.bM(p:Pr):aQ p.cells=[]:=by
 rw[p.bS];have:AM.ids p.kids=[]:=by cases p;exact vk
 grind [aQ,AM.ids]
theorem Zw:∀{a b:List AV},aQ a=[]->aQ b=[]->aQ (a++b)=[]
 | [],b,_,h=>h
 |x::a,b,h,k=>by
  simp[aQ] at h⊢
  exact⟨h.1,Zw h.2 k⟩
theorem Vr.bM(v:Vr):aQ v.cells=[]:=rfl
theorem Sm.bM(v:Sm):aQ v.cells=[]:=by grind [Sm.cells,aQ,AM.ids,Vl.ids]
theorem Ho.bM(v:Ho):aQ v.cells=[]:=by grind [Ho.cells,aQ,AM.ids,Vl.ids]
theorem Cl.bM(v:Cl):aQ v.cells=[]:=by
 have h:aQ (v.hd.cells++[AV.val (.int .i64 v.tag)])=[]:=Zw v.hd.bM rfl
 grind [Cl.cells,aQ,Vl.ids]
theorem Hn.bM(v:Hn):aQ v.cells=[]:=by grind [Hn.cells,aQ,Vl.ids]
theorem So.bM(v:So):aQ v.cells=[]:=by simp only[So.cells,aQ,AM.ids,v.p.bM,List.append_nil]
theorem Evr.bM(v:Evr):aQ v.cells=[]:=by grind [Evr.cells,aQ,Vl.ids]
end Go.Proofs.YtmbabhlmdhghdaaGreatDoor
