/- TOpen TLaid -/
import Derived.Test.YtkmoeaplhnabcaaGreatDoorU0
import Derived.Test.YtkmoeaplhnabcaaGreatDoorE1
import Derived.Test.YtkmoeaplhnabcaaGreatDoorM4
import Derived.Test.YtkmoeaplhnabcaaGreatDoorL1
import Derived.Test.YtkmoeaplhnabcaaGreatDoorProg
import Derived.KernelRfl
import Derived.ProofKit
import Derived.ChangeArms
import Derived.ReadAgain
import Derived.Test.YtkmoeaplhnabcaaGreatDoorRows
import Derived.LaidSub
import Derived.MakeChecks
import Derived.Lib.LaidTab

set_option linter.all false
open Bool renaming and_eq_true → i9
open List renaming all_cons → j4, getElem?_eq_getElem → jk, getElem?_eq_none → Ck, getElem?_map → Ag, length_cons → im, length_nil → jf, map_cons → jd, map_nil → Bd
open Nat renaming add_zero → Aa, strongRecOn → Bk, zero_le → ir
open Option renaming map_eq_some_iff → iw
open Go.Proofs.Tryz renaming prog → i3
namespace Go.Proofs.YtkmoeaplhnabcaaGreatDoor
open Go Go.AM Go.WideShapes
set_option maxRecDepth 10000
mutual
def bulkD{H:Type}:DataW H→Nat
 |.lit (.string bytes)=>bytes.length+1
 |.lit _=>1
 |.nil=>1
 |.ptr d=>bulkD d+1
 |.slice elems spare=>bulkL elems+bulkL spare+1
 |.agg parts=>bulkL parts+1
 |.iface _ d=>bulkD d+1
 |.map _=>1
 |.held _=>1
def bulkL{H:Type}:List (DataW H)→Nat
 | []=>0
 |d::r=>bulkD d+bulkL r
end
def snapW(W:World):Snap:=fun b o=>W.cell? ⟨b,o,none⟩
theorem jW{S:Snap}:∀{xs ys:List AV} {b off:Nat},RelC S xs b off→RelC S ys b (off+xs.length)→RelC S (xs++ys) b off
 | [],ys,b,off,_,k=>by simpa only[List.nil_append,jf,Aa] using k
 |x::xs,ys,b,off,h,k=>by
  simp only[RelC] at h;simp only[List.cons_append,RelC];exact⟨h.1,jW h.2 (by rw[im] at k;rw[show off+1+xs.length=off+(xs.length+1) by omega];exact k)⟩
theorem o8{S:Snap}{b:Nat}:∀{cs:List AV} {vs:List Value} {off:Nat},RelL S nof cs vs→vs.all (·.oneCell')=true→(∀i v,vs[i]? =some v→S b (off+i)=some v)→RelC S cs b off
 | [],_,_,_,_,_=>by simp only[RelC]
 |c::cs,vs,off,h,ho,k=>by
  simp only[RelL] at h;obtain⟨y,ys,rfl,h1,h2⟩:=h;simp only[j4,i9] at ho;simp only[RelC];refine⟨⟨y,k 0 y rfl,ho.1,h1⟩,o8 h2 ho.2 fun i v hv=>?_⟩;have:=k (i+1) v hv;rw[show off+1+i=off+(i+1) by omega]
  exact this
theorem bF{S:Snap}{f:Emb}{v:Value}(ho:v.oneCell'=true):Rel S f (.val v) v:=by
 rw[Rel];exact⟨rfl,ho⟩
theorem qj{S:Snap}{f:Emb}:∀{cs:List AV} {vs:List Value},RelL S f cs vs→vs.length=cs.length
 | [],vs,h=>by
  simp only[RelL] at h;rw[h];rfl
 |c::cs,vs,h=>by
  simp only[RelL] at h;obtain⟨y,ys,rfl,_,h2⟩:=h;simp only[im,qj h2]
theorem ar{H:Type}:∀d:DataW H,1≤bulkD d
 |.lit l=>by cases l<;>simp only[bulkD]<;>omega
 |.nil=>by simp only[bulkD];omega
 |.ptr d=>by simp only[bulkD];omega
 |.slice _ _=>by simp only[bulkD];omega
 |.agg _=>by simp only[bulkD];omega
 |.iface _ _=>by simp only[bulkD];omega
 |.map _=>by simp only[bulkD];omega
 |.held _=>by simp only[bulkD];omega
section
variable {H:Type}{enc:TypeId×Value→H}{W:World}
def Holds{α:Type}(W:World)(f:α→List AV)(fit:α→Nat→Prop)(cs:List Value)(b:Nat):Prop:=∃a:α,RelL (snapW W) nof (f a) cs∧cs.all (·.oneCell')=true∧fit a b
def FitL{α:Type}(fit:α→Nat→Prop):List α→Nat→Prop
 | [],_=>True
 |a::l,b=>∃b1 b2,1≤b1∧b1+b2≤b∧fit a b1∧FitL fit l b2
theorem FitL.le{α:Type}{fit:α→Nat→Prop}:∀{l:List α} {b c:Nat},FitL fit l b→b≤c→FitL fit l c
 | [],_,_,_,_=>trivial
 |a::l,b,c,⟨b1,b2,h1,h2,h3,h4⟩,h=>⟨b1,b2,h1,om,h3,h4⟩
theorem FitL.len{α:Type}{fit:α→Nat→Prop}:∀{l:List α} {b:Nat},FitL fit l b→l.length≤b
 | [],_,_=>ir _
 |a::l,b,⟨b1,b2,h1,h2,h3,h4⟩=>by
  have:=FitL.len h4;rw[im];omega
theorem FitL.mem{α:Type}{fit:α→Nat→Prop}:∀{l:List α} {b:Nat} {a:α},FitL fit l b→a∈l→∃c,c≤b∧fit a c
 |x::l,b,a,⟨b1,b2,h1,h2,h3,h4⟩,h=>by
  rcases List.mem_cons.1 h with rfl|h
  ·exact⟨b1,om,h3⟩
  ·obtain⟨c,c1,c2⟩:=FitL.mem h4 h;exact⟨c,om,c2⟩
theorem nL{α:Type}{f:α→List AV}{fit:α→Nat→Prop}{es b off:Nat}(hf:∀a,(f a).length=es):∀(ds:List (DataW H)) (j:Nat),(∀i d,ds[i]? =some d→∃cs,W.cells? 0 ((⟨b,off,none⟩:Addr).add ((j+i)*es)) es=some cs∧Holds W f fit cs (bulkD d))→
  ∃l:List α,l.length=ds.length∧RelC (snapW W) (l.flatMap f) b (off+j*es)∧FitL fit l (bulkL ds)
 | [],j,_=>⟨[],rfl,by simp only[List.flatMap_nil,RelC],trivial⟩
 |d::ds,j,h=>by
  obtain⟨cs,hc,a,hp,ho,hn⟩:=h 0 d rfl;obtain⟨l,h1,h2,h3⟩:=nL hf ds (j+1) fun i e he=>by
   have:=h (i+1) e (by simpa only[List.getElem?_cons_succ] using he)
   rw[show j+1+i=j+(i+1) by omega]
   exact this
  obtain⟨_,hl,hcell⟩:=World.cells?_some hc;have hl':cs.length=es:=by rw[qj hp,hf]
  refine⟨a::l,by simp only[im,h1],?_,bulkD d,bulkL ds,ar d,by simp only[bulkL];omega,hn,h3⟩
  simp only[List.flatMap_cons];refine jW (o8 hp ho fun i v hv=>?_) ?_
  ·have hi:i<es:=by
    rcases Nat.lt_or_ge i cs.length with x|x
    ·omega
    ·rw[Ck x] at hv;cases hv
   have:=hcell i hi;rw[hv,add_plain,add_plain] at this
   simpa only[snapW,Aa] using this
  ·rw[hf,show off+j*es+es=off+(j+1)*es by rw[Nat.add_mul];omega]
   exact h2
theorem bg{α:Type}{f:α→List AV}{fit:α→Nat→Prop}{es n:Nat}{t e:TypeId}{v:Value}{x:DataW H×List MemPlace}(hf:∀a,(f a).length=es)(hes:0<es)(hu:i3.underlying t=some (.slice e))(hc:i3.cellsOf e=es)
  (h:DataW.trod enc i3 W 0 (fun _=>true) true n t [v]=some x) (ih:∀m,m<n→∀cs y,DataW.trod enc i3 W 0 (fun _=>true) true m e cs=some y→Holds W f fit cs (bulkD y.1)):
  ∃w:Vl α,Rel (snapW W) nof (w.A f) v∧v.oneCell'=true∧FitL fit w.l (bulkD x.1-1):=by
 rcases DataW.trod_slice hu h with⟨e3,rfl⟩|⟨a,len,cap,elems,rest,m,rfl,e3,rfl,_,hlc,_,hel,hget,_⟩
 ·cases e3;exact⟨⟨[],some (none,0),none⟩,bF rfl,rfl,trivial⟩
 ·cases e3;cases len with
  |zero=>exact⟨⟨[],some (some a,cap),none⟩,bF rfl,rfl,trivial⟩
  |succ len=>
   have hall:∀i,i<len+1→∃cs y,W.cells? 0 (a.add (i*es)) es=some cs∧DataW.trod enc i3 W 0 (fun _=>true) true m e cs=some y∧elems[i]? =some y:=fun i hi=>by
    have hg:=hget i hi;rw[hc] at hg;have hi':i<elems.length:=by omega
    rw[jk hi'] at hg;obtain⟨cs,q1,q2⟩:=Option.bind_eq_some_iff.1 hg;exact⟨cs,_,q1,q2,jk hi'⟩
   obtain⟨b,off,spot⟩:=a;have hspot:spot=none:=by
    obtain⟨cs,y,q1,_⟩:=hall 0 om;obtain⟨_,hl,hcell⟩:=World.cells?_some q1;have:=hcell 0 hes
    match cs,hl with
    | [],hl=>simp only[jf] at hl;omega
    |c0::_,_=>
     have hs:=World.cell?_spot this
     simpa [Addr.add] using hs
   subst hspot;obtain⟨l,g1,g2,g3⟩:=nL (W:=W) (b:=b) (off:=off) hf (elems.map (·.1)) 0 fun i d hd=>by
    rw[Ag] at hd;obtain⟨y,hy,rfl⟩:=iw.1 hd;have hi:i<elems.length:=by
     rcases Nat.lt_or_ge i elems.length with z|z
     ·exact z
     ·rw[Ck z] at hy;cases hy
    obtain⟨cs,y',q1,q2,q3⟩:=hall i om;rw[hy] at q3;cases q3;rw[Nat.zero_add];exact⟨cs,q1,ih m om cs y q2⟩
   rw[List.length_map] at g1;refine⟨⟨l,none,none⟩,?_,rfl,g3.le ?_⟩
   ·simp only[Vl.A,kidsA,Option.isSome_none,Bool.false_and,cond_false,Rel];refine⟨b,off,cap,?_,om,fun k hk=>(by cases hk),?_⟩
    ·rw[g1,hel]
    ·simpa only[Nat.zero_mul,Aa] using g2
   ·simp only[bulkD];omega
theorem Tc:i3.cellsOf 3=1:=by kernel_rfl
theorem Va:i3.cellsOf 4=1:=by kernel_rfl
theorem qI:i3.cellsOf 9=1:=by kernel_rfl
theorem Tj:i3.cellsOf 22=1:=by kernel_rfl
theorem Ti:i3.cellsOf 23=1:=by kernel_rfl
theorem Th:i3.cellsOf 24=1:=by kernel_rfl
theorem Tg:i3.cellsOf 25=1:=by kernel_rfl
theorem Tf:i3.cellsOf 26=1:=by kernel_rfl
theorem Te:i3.cellsOf 27=1:=by kernel_rfl
theorem Td:i3.cellsOf 29=6:=by kernel_rfl
theorem wP:i3.cellsOf 35=1:=by kernel_rfl
theorem Tb:i3.cellsOf 40=1:=by kernel_rfl
theorem Ta:i3.cellsOf 41=1:=by kernel_rfl
theorem Sz:i3.cellsOf 42=1:=by kernel_rfl
theorem Sy:i3.cellsOf 43=1:=by kernel_rfl
theorem Iz:i3.cellsOf 44=1:=by kernel_rfl
theorem wO:i3.cellsOf 46=7:=by kernel_rfl
theorem Sx:i3.cellsOf 47=1:=by kernel_rfl
theorem Sw:i3.cellsOf 48=1:=by kernel_rfl
theorem Sv:i3.cellsOf 49=1:=by kernel_rfl
theorem Su:i3.cellsOf 50=1:=by kernel_rfl
theorem Ss:i3.cellsOf 51=1:=by kernel_rfl
theorem Sr:i3.cellsOf 52=1:=by kernel_rfl
theorem Dt:i3.cellsOf 53=1:=by kernel_rfl
theorem wN:i3.cellsOf 55=4:=by kernel_rfl
theorem sw:i3.cellsOf 57=9:=by kernel_rfl
theorem Iy:i3.cellsOf 59=14:=by kernel_rfl
theorem Ix:i3.cellsOf 61=25:=by kernel_rfl
theorem Iw:i3.cellsOf 87=10:=by kernel_rfl
theorem Iv:i3.cellsOf 89=9:=by kernel_rfl
theorem Pv:i3.underlying 22=some (.slice 293):=by kernel_rfl
theorem Pu:i3.underlying 23=some (.slice 657):=by kernel_rfl
theorem Pt:i3.underlying 24=some (.slice 659):=by kernel_rfl
theorem Ps:i3.underlying 25=some (.slice 250):=by kernel_rfl
theorem Pq:i3.underlying 26=some (.slice 661):=by kernel_rfl
theorem Pp:i3.underlying 27=some (.slice 61):=by kernel_rfl
theorem vQ:i3.underlying 35=some (.slice 9):=by kernel_rfl
theorem Pl:i3.underlying 41=some (.slice 46):=by kernel_rfl
theorem Pk:i3.underlying 42=some (.slice 87):=by kernel_rfl
theorem Pj:i3.underlying 43=some (.slice 89):=by kernel_rfl
theorem Ig:i3.underlying 44=some (.slice 57):=by kernel_rfl
theorem Pg:i3.underlying 48=some (.slice 663):=by kernel_rfl
theorem Pf:i3.underlying 49=some (.slice 184):=by kernel_rfl
theorem Pe:i3.underlying 50=some (.slice 236):=by kernel_rfl
theorem xz:i3.underlying 53=some (.slice 55):=by kernel_rfl
theorem Po:i3.underlying 3=some (.int .i64):=by kernel_rfl
theorem Pn:i3.underlying 40=some (.int .i64):=by kernel_rfl
theorem Ph:i3.underlying 47=some (.int .i64):=by kernel_rfl
theorem Pd:i3.underlying 51=some (.int .i64):=by kernel_rfl
theorem Pc:i3.underlying 52=some (.int .i64):=by kernel_rfl
theorem tI:i3.underlying 9=some .string:=by kernel_rfl
theorem Uv:i3.underlying 4=some .bool:=by kernel_rfl
theorem au{S:Snap}{f:Emb}{x:AV}{v:Value}{xs:List AV}{vs:List Value}(h:Rel S f x v)(k:RelL S f xs vs):RelL S f (x::xs) (v::vs):=by
 simp only[RelL];exact⟨v,vs,rfl,h,k⟩
theorem iG{S:Snap}{f:Emb}:RelL S f [] []:=by simp only[RelL]
theorem lN{S:Snap}{f:Emb}:∀{xs ys:List AV} {us vs:List Value},RelL S f xs us→RelL S f ys vs→RelL S f (xs++ys) (us++vs)
 | [],ys,us,vs,h,k=>by
  simp only[RelL] at h;subst h;exact k
 |x::xs,ys,us,vs,h,k=>by
  simp only[RelL] at h;obtain⟨y,zs,rfl,h1,h2⟩:=h;exact au h1 (lN h2 k)
theorem bC{v:Value}{vs:List Value}(h:v.oneCell'=true)(k:vs.all (·.oneCell')=true):(v::vs).all (·.oneCell')=true:=by
 rw[j4,h,k];rfl
theorem pK{us vs:List Value}(h:us.all (·.oneCell')=true)(k:vs.all (·.oneCell')=true):(us++vs).all (·.oneCell')=true:=by
 rw[List.all_append,h,k];rfl
theorem cP{t e:TypeId}{n:Nat}{v:Value}{x:DataW H×List MemPlace}(hu:i3.underlying t=some (.slice e))(h:DataW.trod enc i3 W 0 (fun _=>true) true n t [v]=some x):v.oneCell'=true:=by
 rcases DataW.trod_slice hu h with⟨e3,rfl⟩|⟨a,len,cap,elems,rest,m,rfl,e3,rfl,_⟩
 ·cases e3;rfl
 ·cases e3;rfl
def fitStr(s:ByteArray)(b:Nat):Prop:=1+s.size≤b
theorem pU:∀{l:List ByteArray} {b:Nat},FitL fitStr l b→namW l≤b
 | [],_,_=>ir _
 |p::l,b,⟨b1,b2,h1,h2,h3,h4⟩=>by
  have:=pU h4;have h3:1+p.size≤b1:=h3;simp only[namW];omega
def fitPr(p:Pr)(b:Nat):Prop:=p.wt≤b
theorem uJ:∀{l:List Pr} {b:Nat},FitL fitPr l b→Pr.wtL l≤b
 | [],_,_=>ir _
 |p::l,b,⟨b1,b2,h1,h2,h3,h4⟩=>by
  have:=uJ h4;have h3:p.wt≤b1:=h3;simp only[Pr.wtL];omega
def fitTy(p:Ty)(b:Nat):Prop:=p.wt≤b
theorem uI:∀{l:List Ty} {b:Nat},FitL fitTy l b→Ty.wtL l≤b
 | [],_,_=>ir _
 |p::l,b,⟨b1,b2,h1,h2,h3,h4⟩=>by
  have:=uI h4;have h3:p.wt≤b1:=h3;rw[Ty.wtL];omega
def fitPm(p:Pm)(b:Nat):Prop:=1+p.nm.size+p.t.wt≤b
theorem zS:∀{l:List Pm} {b:Nat},FitL fitPm l b→pmW l≤b
 | [],_,_=>ir _
 |p::l,b,⟨b1,b2,h1,h2,h3,h4⟩=>by
  have:=zS h4;have h3:1+p.nm.size+p.t.wt≤b1:=h3;simp only[pmW];omega
def fitEx(p:Ex)(b:Nat):Prop:=p.wt≤b
theorem zT:∀{l:List Ex} {b:Nat},FitL fitEx l b→Ex.wtL l≤b
 | [],_,_=>ir _
 |p::l,b,⟨b1,b2,h1,h2,h3,h4⟩=>by
  have:=zT h4;have h3:p.wt≤b1:=h3;rw[Ex.wtL];omega
def fitAl(p:Al)(b:Nat):Prop:=1+p.con.size+namW p.ns.l+p.b.wt≤b
theorem zV:∀{l:List Al} {b:Nat},FitL fitAl l b→Al.wtL l≤b
 | [],_,_=>ir _
 |p::l,b,⟨b1,b2,h1,h2,h3,h4⟩=>by
  have:=zV h4;have h3:1+p.con.size+namW p.ns.l+p.b.wt≤b1:=h3;rw[@Al.wtL_cons ⟨fun _ _=>none⟩];omega
def fitDf(p:Df)(b:Nat):Prop:=defW p≤b
theorem zU:∀{l:List Df} {b:Nat},FitL fitDf l b→dsW l≤b
 | [],_,_=>ir _
 |p::l,b,⟨b1,b2,h1,h2,h3,h4⟩=>by
  have:=zU h4;have h3:defW p≤b1:=h3;rw[dsW];omega
theorem kz(fuel:Nat)(cs:List Value)(x:DataW H×List MemPlace)(h:DataW.trod enc i3 W 0 (fun _=>true) true fuel 9 cs=some x):Holds W strA fitStr cs (bulkD x.1):=by
 obtain⟨s,e,rfl,_⟩:=DataW.trod_string tI h;subst e;have es:s.data.toList.length=s.size:=rfl;refine⟨s,?_,rfl,?_⟩
 ·simp only[strA,RelL];exact⟨_,_,rfl,bF rfl,rfl⟩
 ·show 1+s.size≤_;simp only[bulkD];omega
theorem vW:∀(fuel:Nat) (cs:List Value) (x:DataW H×List MemPlace),DataW.trod enc i3 W 0 (fun _=>true) true fuel 55 cs=some x→Holds W Pr.cells fitPr cs (bulkD x.1):=by
 intro fuel
 induction fuel using Bk with
 |_ fuel ih=>
 intro cs x h;obtain⟨xs,n,rfl,rfl,hl,hlen,hf⟩:=DataW.trod_struct Tryz.underlying55 h;rw[wN] at hl
 match cs,hl with
 | [z0,z1,z2,z3],_=>
 match xs,hlen with
 | [x0,x1,x2,x3],_=>
 have h0:=hf 0 _ rfl;change DataW.trod enc i3 W 0 (fun _=>true) true n 52 (([z0,z1,z2,z3].drop 0).take (i3.cellsOf 52))=some x0 at h0;rw[Sr] at h0;change DataW.trod enc i3 W 0 (fun _=>true) true n 52 [z0]=some x0 at h0;have h1:=hf 1 _ rfl;change DataW.trod enc i3 W 0 (fun _=>true) true n 9 (([z0,z1,z2,z3].drop 1).take (i3.cellsOf 9))=some x1 at h1;rw[qI] at h1;change DataW.trod enc i3 W 0 (fun _=>true) true n 9 [z1]=some x1 at h1;have h2:=hf 2 _ rfl;change DataW.trod enc i3 W 0 (fun _=>true) true n 3 (([z0,z1,z2,z3].drop 2).take (i3.cellsOf 3))=some x2 at h2;rw[Tc] at h2;change DataW.trod enc i3 W 0 (fun _=>true) true n 3 [z2]=some x2 at h2;have h3:=hf 3 _ rfl;change DataW.trod enc i3 W 0 (fun _=>true) true n 53 (([z0,z1,z2,z3].drop 3).take (i3.cellsOf 53))=some x3 at h3;rw[Dt] at h3;change DataW.trod enc i3 W 0 (fun _=>true) true n 53 [z3]=some x3 at h3;obtain⟨k0,e0,rfl,_⟩:=DataW.trod_int Pc h0;cases e0;obtain⟨s1,e1,rfl,_⟩:=DataW.trod_string tI h1;cases e1;have es1:s1.data.toList.length=s1.size:=rfl;obtain⟨k2,e2,rfl,_⟩:=DataW.trod_int Po h2;cases e2;obtain⟨w3,r3,o3,q3⟩:=bg (f:=Pr.cells) (fit:=fitPr) Pr.len de xz wN h3 fun m hm cs y hy=>ih m om cs y hy;have f3:=uJ q3;have bp3:=ar x3.1;refine⟨.mk k0 s1 k2 w3.l w3.nl w3.cap,?_,?_,?_⟩
 ·rw[Pr.cells,Pr.cellsL_eq];exact au (bF rfl) (au (bF rfl) (au (bF rfl) (au r3 iG)))
 ·exact bC rfl (bC rfl (bC rfl (bC o3 rfl)))
 ·simp only[jd,Bd,bulkD,bulkL];show 1+s1.size+Pr.wtL w3.l≤_;omega
theorem oZ:∀(fuel:Nat) (cs:List Value) (x:DataW H×List MemPlace),DataW.trod enc i3 W 0 (fun _=>true) true fuel 57 cs=some x→Holds W Ty.cells fitTy cs (bulkD x.1):=by
 intro fuel
 induction fuel using Bk with
 |_ fuel ih=>
 intro cs x h;obtain⟨xs,n,rfl,rfl,hl,hlen,hf⟩:=DataW.trod_struct Tryz.underlying57 h;rw[sw] at hl
 match cs,hl with
 | [z0,z1,z2,z3,z4,z5,z6,z7,z8],_=>
 match xs,hlen with
 | [x0,x1,x2,x3,x4,x5],_=>
 have h0:=hf 0 _ rfl;change DataW.trod enc i3 W 0 (fun _=>true) true n 51 (([z0,z1,z2,z3,z4,z5,z6,z7,z8].drop 0).take (i3.cellsOf 51))=some x0 at h0;rw[Ss] at h0;change DataW.trod enc i3 W 0 (fun _=>true) true n 51 [z0]=some x0 at h0;have h1:=hf 1 _ rfl;change DataW.trod enc i3 W 0 (fun _=>true) true n 9 (([z0,z1,z2,z3,z4,z5,z6,z7,z8].drop 1).take (i3.cellsOf 9))=some x1 at h1;rw[qI] at h1;change DataW.trod enc i3 W 0 (fun _=>true) true n 9 [z1]=some x1 at h1;have h2:=hf 2 _ rfl;change DataW.trod enc i3 W 0 (fun _=>true) true n 44 (([z0,z1,z2,z3,z4,z5,z6,z7,z8].drop 2).take (i3.cellsOf 44))=some x2 at h2;rw[Iz] at h2;change DataW.trod enc i3 W 0 (fun _=>true) true n 44 [z2]=some x2 at h2;have h3:=hf 3 _ rfl;change DataW.trod enc i3 W 0 (fun _=>true) true n 35 (([z0,z1,z2,z3,z4,z5,z6,z7,z8].drop 3).take (i3.cellsOf 35))=some x3 at h3;rw[wP] at h3;change DataW.trod enc i3 W 0 (fun _=>true) true n 35 [z3]=some x3 at h3;have h4:=hf 4 _ rfl;change DataW.trod enc i3 W 0 (fun _=>true) true n 55 (([z0,z1,z2,z3,z4,z5,z6,z7,z8].drop 4).take (i3.cellsOf 55))=some x4 at h4;rw[wN] at h4;change DataW.trod enc i3 W 0 (fun _=>true) true n 55 [z4,z5,z6,z7]=some x4 at h4;have h5:=hf 5 _ rfl;change DataW.trod enc i3 W 0 (fun _=>true) true n 53 (([z0,z1,z2,z3,z4,z5,z6,z7,z8].drop 8).take (i3.cellsOf 53))=some x5 at h5;rw[Dt] at h5;change DataW.trod enc i3 W 0 (fun _=>true) true n 53 [z8]=some x5 at h5;obtain⟨k0,e0,rfl,_⟩:=DataW.trod_int Pd h0;cases e0;obtain⟨s1,e1,rfl,_⟩:=DataW.trod_string tI h1;cases e1;have es1:s1.data.toList.length=s1.size:=rfl;obtain⟨w2,r2,o2,q2⟩:=bg (f:=Ty.cells) (fit:=fitTy) Ty.len de Ig sw h2 fun m hm cs y hy=>ih m om cs y hy;have f2:=uI q2;have bp2:=ar x2.1;obtain⟨w3,r3,o3,q3⟩:=bg (f:=strA) (fit:=fitStr) aI de vQ qI h3 fun m hm cs y hy=>kz m cs y hy;have f3:=pU q3;have bp3:=ar x3.1;obtain⟨p4,r4,o4,f4⟩:=vW _ _ _ h4;have f4:=show _≤bulkD x4.1 from f4;obtain⟨w5,r5,o5,q5⟩:=bg (f:=Pr.cells) (fit:=fitPr) Pr.len de xz wN h5 fun m hm cs y hy=>vW m cs y hy;have f5:=uJ q5;have bp5:=ar x5.1;refine⟨.mk k0 s1 w2.l w2.nl w2.cap w3 p4 w5,?_,?_,?_⟩
 ·rw[Ty.cells,Ty.cellsL_eq];exact au (bF rfl) (au (bF rfl) (au r2 (au r3 (lN r4 (au r5 iG)))))
 ·exact bC rfl (bC rfl (bC o2 (bC o3 (pK o4 (bC o5 rfl)))))
 ·simp only[jd,Bd,bulkD,bulkL];show Ty.wt _≤_;rw[Ty.wt];have f4:p4.wt≤bulkD x4.1:=f4;omega
theorem Fs(fuel:Nat)(cs:List Value)(x:DataW H×List MemPlace)(h:DataW.trod enc i3 W 0 (fun _=>true) true fuel 87 cs=some x):Holds W Pm.cells fitPm cs (bulkD x.1):=by
 obtain⟨xs,n,rfl,rfl,hl,hlen,hf⟩:=DataW.trod_struct Tryz.underlying87 h;rw[Iw] at hl
 match cs,hl with
 | [z0,z1,z2,z3,z4,z5,z6,z7,z8,z9],_=>
 match xs,hlen with
 | [x0,x1],_=>
 have h0:=hf 0 _ rfl;change DataW.trod enc i3 W 0 (fun _=>true) true n 9 (([z0,z1,z2,z3,z4,z5,z6,z7,z8,z9].drop 0).take (i3.cellsOf 9))=some x0 at h0;rw[qI] at h0;change DataW.trod enc i3 W 0 (fun _=>true) true n 9 [z0]=some x0 at h0;have h1:=hf 1 _ rfl;change DataW.trod enc i3 W 0 (fun _=>true) true n 57 (([z0,z1,z2,z3,z4,z5,z6,z7,z8,z9].drop 1).take (i3.cellsOf 57))=some x1 at h1;rw[sw] at h1;change DataW.trod enc i3 W 0 (fun _=>true) true n 57 [z1,z2,z3,z4,z5,z6,z7,z8,z9]=some x1 at h1;obtain⟨s0,e0,rfl,_⟩:=DataW.trod_string tI h0;cases e0;have es0:s0.data.toList.length=s0.size:=rfl;obtain⟨p1,r1,o1,f1⟩:=oZ _ _ _ h1;have f1:=show _≤bulkD x1.1 from f1;refine⟨⟨s0,p1⟩,?_,?_,?_⟩
 ·exact au (bF rfl) r1
 ·exact bC rfl o1
 ·simp only[jd,Bd,bulkD,bulkL];show 1+s0.size+p1.wt≤_;have f1:p1.wt≤bulkD x1.1:=f1;omega
theorem Ic(fuel:Nat)(ih:∀m,m<fuel→∀cs x,DataW.trod enc i3 W 0 (fun _=>true) true m 46 cs=some x→Holds W Ex.cells fitEx cs (bulkD x.1))(cs:List Value)(x:DataW H×List MemPlace)(h:DataW.trod enc i3 W 0 (fun _=>true) true fuel 89 cs=some x):Holds W Al.cells fitAl cs (bulkD x.1):=by
 obtain⟨xs,n,rfl,rfl,hl,hlen,hf⟩:=DataW.trod_struct Tryz.underlying89 h;rw[Iv] at hl
 match cs,hl with
 | [z0,z1,z2,z3,z4,z5,z6,z7,z8],_=>
 match xs,hlen with
 | [x0,x1,x2],_=>
 have h0:=hf 0 _ rfl;change DataW.trod enc i3 W 0 (fun _=>true) true n 9 (([z0,z1,z2,z3,z4,z5,z6,z7,z8].drop 0).take (i3.cellsOf 9))=some x0 at h0;rw[qI] at h0;change DataW.trod enc i3 W 0 (fun _=>true) true n 9 [z0]=some x0 at h0;have h1:=hf 1 _ rfl;change DataW.trod enc i3 W 0 (fun _=>true) true n 35 (([z0,z1,z2,z3,z4,z5,z6,z7,z8].drop 1).take (i3.cellsOf 35))=some x1 at h1;rw[wP] at h1;change DataW.trod enc i3 W 0 (fun _=>true) true n 35 [z1]=some x1 at h1;have h2:=hf 2 _ rfl;change DataW.trod enc i3 W 0 (fun _=>true) true n 46 (([z0,z1,z2,z3,z4,z5,z6,z7,z8].drop 2).take (i3.cellsOf 46))=some x2 at h2;rw[wO] at h2;change DataW.trod enc i3 W 0 (fun _=>true) true n 46 [z2,z3,z4,z5,z6,z7,z8]=some x2 at h2;obtain⟨s0,e0,rfl,_⟩:=DataW.trod_string tI h0;cases e0;have es0:s0.data.toList.length=s0.size:=rfl;obtain⟨w1,r1,o1,q1⟩:=bg (f:=strA) (fit:=fitStr) aI de vQ qI h1 fun m hm cs y hy=>kz m cs y hy;have f1:=pU q1;have bp1:=ar x1.1;obtain⟨p2,r2,o2,f2⟩:=ih n om _ _ h2;have f2:=show _≤bulkD x2.1 from f2;refine⟨.mk s0 w1 p2,?_,?_,?_⟩
 ·rw[Al.cells];exact au (bF rfl) (au r1 r2)
 ·exact bC rfl (bC o1 o2)
 ·simp only[jd,Bd,bulkD,bulkL];show 1+s0.size+namW w1.l+p2.wt≤_;have f2:p2.wt≤bulkD x2.1:=f2;omega
theorem Hq:∀(fuel:Nat) (cs:List Value) (x:DataW H×List MemPlace),DataW.trod enc i3 W 0 (fun _=>true) true fuel 46 cs=some x→Holds W Ex.cells fitEx cs (bulkD x.1):=by
 intro fuel
 induction fuel using Bk with
 |_ fuel ih=>
 intro cs x h;obtain⟨xs,n,rfl,rfl,hl,hlen,hf⟩:=DataW.trod_struct Tryz.underlying46 h;rw[wO] at hl
 match cs,hl with
 | [z0,z1,z2,z3,z4,z5,z6],_=>
 match xs,hlen with
 | [x0,x1,x2,x3,x4,x5,x6],_=>
 have h0:=hf 0 _ rfl;change DataW.trod enc i3 W 0 (fun _=>true) true n 40 (([z0,z1,z2,z3,z4,z5,z6].drop 0).take (i3.cellsOf 40))=some x0 at h0;rw[Tb] at h0;change DataW.trod enc i3 W 0 (fun _=>true) true n 40 [z0]=some x0 at h0;have h1:=hf 1 _ rfl;change DataW.trod enc i3 W 0 (fun _=>true) true n 9 (([z0,z1,z2,z3,z4,z5,z6].drop 1).take (i3.cellsOf 9))=some x1 at h1;rw[qI] at h1;change DataW.trod enc i3 W 0 (fun _=>true) true n 9 [z1]=some x1 at h1;have h2:=hf 2 _ rfl;change DataW.trod enc i3 W 0 (fun _=>true) true n 3 (([z0,z1,z2,z3,z4,z5,z6].drop 2).take (i3.cellsOf 3))=some x2 at h2;rw[Tc] at h2;change DataW.trod enc i3 W 0 (fun _=>true) true n 3 [z2]=some x2 at h2;have h3:=hf 3 _ rfl;change DataW.trod enc i3 W 0 (fun _=>true) true n 41 (([z0,z1,z2,z3,z4,z5,z6].drop 3).take (i3.cellsOf 41))=some x3 at h3;rw[Ta] at h3;change DataW.trod enc i3 W 0 (fun _=>true) true n 41 [z3]=some x3 at h3;have h4:=hf 4 _ rfl;change DataW.trod enc i3 W 0 (fun _=>true) true n 42 (([z0,z1,z2,z3,z4,z5,z6].drop 4).take (i3.cellsOf 42))=some x4 at h4;rw[Sz] at h4;change DataW.trod enc i3 W 0 (fun _=>true) true n 42 [z4]=some x4 at h4;have h5:=hf 5 _ rfl;change DataW.trod enc i3 W 0 (fun _=>true) true n 43 (([z0,z1,z2,z3,z4,z5,z6].drop 5).take (i3.cellsOf 43))=some x5 at h5;rw[Sy] at h5;change DataW.trod enc i3 W 0 (fun _=>true) true n 43 [z5]=some x5 at h5;have h6:=hf 6 _ rfl;change DataW.trod enc i3 W 0 (fun _=>true) true n 44 (([z0,z1,z2,z3,z4,z5,z6].drop 6).take (i3.cellsOf 44))=some x6 at h6;rw[Iz] at h6;change DataW.trod enc i3 W 0 (fun _=>true) true n 44 [z6]=some x6 at h6;obtain⟨k0,e0,rfl,_⟩:=DataW.trod_int Pn h0;cases e0;obtain⟨s1,e1,rfl,_⟩:=DataW.trod_string tI h1;cases e1;have es1:s1.data.toList.length=s1.size:=rfl;obtain⟨k2,e2,rfl,_⟩:=DataW.trod_int Po h2;cases e2;obtain⟨w3,r3,o3,q3⟩:=bg (f:=Ex.cells) (fit:=fitEx) Ex.len de Pl wO h3 fun m hm cs y hy=>ih m om cs y hy;have f3:=zT q3;have bp3:=ar x3.1;obtain⟨w4,r4,o4,q4⟩:=bg (f:=Pm.cells) (fit:=fitPm) Pm.len de Pk Iw h4 fun m hm cs y hy=>Fs m cs y hy;have f4:=zS q4;have bp4:=ar x4.1;obtain⟨w5,r5,o5,q5⟩:=bg (f:=Al.cells) (fit:=fitAl) Al.len de Pj Iv h5 fun m hm cs y hy=>Ic m (fun k hk=>ih k om) cs y hy;have f5:=zV q5;have bp5:=ar x5.1;obtain⟨w6,r6,o6,q6⟩:=bg (f:=Ty.cells) (fit:=fitTy) Ty.len de Ig sw h6 fun m hm cs y hy=>oZ m cs y hy;have f6:=uI q6;have bp6:=ar x6.1;refine⟨.mk k0 s1 k2 w3.l w3.nl w3.cap w4 w5.l w5.nl w5.cap w6,?_,?_,?_⟩
 ·rw[Ex.cells,Ex.cellsL_eq,Al.cellsL_eq];exact au (bF rfl) (au (bF rfl) (au (bF rfl) (au r3 (au r4 (au r5 (au r6 iG))))))
 ·exact bC rfl (bC rfl (bC rfl (bC o3 (bC o4 (bC o5 (bC o6 rfl))))))
 ·simp only[jd,Bd,bulkD,bulkL];show Ex.wt _≤_;rw[Ex.wt];omega
theorem Ju(fuel:Nat)(cs:List Value)(x:DataW H×List MemPlace)(h:DataW.trod enc i3 W 0 (fun _=>true) true fuel 59 cs=some x):cs.all (·.oneCell')=true:=by
 obtain⟨xs,n,rfl,rfl,hl,hlen,hf⟩:=DataW.trod_struct Tryz.underlying59 h;rw[Iy] at hl
 match cs,hl with
 | [z0,z1,z2,z3,z4,z5,z6,z7,z8,z9,z10,z11,z12,z13],_=>
 match xs,hlen with
 | [x0,x1,x2,x3,x4,x5],_=>
 have h0:=hf 0 _ rfl;change DataW.trod enc i3 W 0 (fun _=>true) true n 35 (([z0,z1,z2,z3,z4,z5,z6,z7,z8,z9,z10,z11,z12,z13].drop 0).take (i3.cellsOf 35))=some x0 at h0;rw[wP] at h0;change DataW.trod enc i3 W 0 (fun _=>true) true n 35 [z0]=some x0 at h0;have o0:=cP vQ h0;have h1:=hf 1 _ rfl;change DataW.trod enc i3 W 0 (fun _=>true) true n 48 (([z0,z1,z2,z3,z4,z5,z6,z7,z8,z9,z10,z11,z12,z13].drop 1).take (i3.cellsOf 48))=some x1 at h1;rw[Sw] at h1;change DataW.trod enc i3 W 0 (fun _=>true) true n 48 [z1]=some x1 at h1;have o1:=cP Pg h1;have h2:=hf 2 _ rfl;change DataW.trod enc i3 W 0 (fun _=>true) true n 49 (([z0,z1,z2,z3,z4,z5,z6,z7,z8,z9,z10,z11,z12,z13].drop 2).take (i3.cellsOf 49))=some x2 at h2;rw[Sv] at h2;change DataW.trod enc i3 W 0 (fun _=>true) true n 49 [z2]=some x2 at h2;have o2:=cP Pf h2;have h3:=hf 3 _ rfl;change DataW.trod enc i3 W 0 (fun _=>true) true n 50 (([z0,z1,z2,z3,z4,z5,z6,z7,z8,z9,z10,z11,z12,z13].drop 3).take (i3.cellsOf 50))=some x3 at h3;rw[Su] at h3;change DataW.trod enc i3 W 0 (fun _=>true) true n 50 [z3]=some x3 at h3;have o3:=cP Pe h3;have h4:=hf 4 _ rfl;change DataW.trod enc i3 W 0 (fun _=>true) true n 57 (([z0,z1,z2,z3,z4,z5,z6,z7,z8,z9,z10,z11,z12,z13].drop 4).take (i3.cellsOf 57))=some x4 at h4;rw[sw] at h4;change DataW.trod enc i3 W 0 (fun _=>true) true n 57 [z4,z5,z6,z7,z8,z9,z10,z11,z12]=some x4 at h4;obtain⟨_,_,o4,_⟩:=oZ _ _ _ h4;have h5:=hf 5 _ rfl;change DataW.trod enc i3 W 0 (fun _=>true) true n 53 (([z0,z1,z2,z3,z4,z5,z6,z7,z8,z9,z10,z11,z12,z13].drop 13).take (i3.cellsOf 53))=some x5 at h5;rw[Dt] at h5;change DataW.trod enc i3 W 0 (fun _=>true) true n 53 [z13]=some x5 at h5;have o5:=cP xz h5;exact(bC o0 (bC o1 (bC o2 (bC o3 (pK o4 (bC o5 rfl))))))
theorem lL{S:Snap}{f:Emb}:∀{vs:List Value},vs.all (·.oneCell')=true→RelL S f (vs.map AV.val) vs
 | [],_=>iG
 |v::vs,h=>by
  simp only[j4,i9] at h;exact au (bF h.1) (lL h.2)
theorem xI(l:List Value):∀v∈l.map AV.val,Leaf v:=fun v hv=>by
 obtain⟨x,_,rfl⟩:=List.mem_map.1 hv;exact Leaf.val _
theorem Ht(fuel:Nat)(cs:List Value)(x:DataW H×List MemPlace)(h:DataW.trod enc i3 W 0 (fun _=>true) true fuel 61 cs=some x):Holds W Df.cells fitDf cs (bulkD x.1):=by
 obtain⟨xs,n,rfl,rfl,hl,hlen,hf⟩:=DataW.trod_struct Tryz.underlying61 h;rw[Ix] at hl
 match cs,hl with
 | [z0,z1,z2,z3,z4,z5,z6,z7,z8,z9,z10,z11,z12,z13,z14,z15,z16,z17,z18,z19,z20,z21,z22,z23,z24],_=>
 match xs,hlen with
 | [x0,x1,x2,x3,x4,x5],_=>
 have h0:=hf 0 _ rfl;change DataW.trod enc i3 W 0 (fun _=>true) true n 9 (([z0,z1,z2,z3,z4,z5,z6,z7,z8,z9,z10,z11,z12,z13,z14,z15,z16,z17,z18,z19,z20,z21,z22,z23,z24].drop 0).take (i3.cellsOf 9))=some x0 at h0;rw[qI] at h0;change DataW.trod enc i3 W 0 (fun _=>true) true n 9 [z0]=some x0 at h0;have h1:=hf 1 _ rfl;change DataW.trod enc i3 W 0 (fun _=>true) true n 35 (([z0,z1,z2,z3,z4,z5,z6,z7,z8,z9,z10,z11,z12,z13,z14,z15,z16,z17,z18,z19,z20,z21,z22,z23,z24].drop 1).take (i3.cellsOf 35))=some x1 at h1;rw[wP] at h1;change DataW.trod enc i3 W 0 (fun _=>true) true n 35 [z1]=some x1 at h1;have h2:=hf 2 _ rfl;change DataW.trod enc i3 W 0 (fun _=>true) true n 46 (([z0,z1,z2,z3,z4,z5,z6,z7,z8,z9,z10,z11,z12,z13,z14,z15,z16,z17,z18,z19,z20,z21,z22,z23,z24].drop 2).take (i3.cellsOf 46))=some x2 at h2;rw[wO] at h2;change DataW.trod enc i3 W 0 (fun _=>true) true n 46 [z2,z3,z4,z5,z6,z7,z8]=some x2 at h2;have h3:=hf 3 _ rfl;change DataW.trod enc i3 W 0 (fun _=>true) true n 47 (([z0,z1,z2,z3,z4,z5,z6,z7,z8,z9,z10,z11,z12,z13,z14,z15,z16,z17,z18,z19,z20,z21,z22,z23,z24].drop 9).take (i3.cellsOf 47))=some x3 at h3;rw[Sx] at h3;change DataW.trod enc i3 W 0 (fun _=>true) true n 47 [z9]=some x3 at h3;have h4:=hf 4 _ rfl;change DataW.trod enc i3 W 0 (fun _=>true) true n 4 (([z0,z1,z2,z3,z4,z5,z6,z7,z8,z9,z10,z11,z12,z13,z14,z15,z16,z17,z18,z19,z20,z21,z22,z23,z24].drop 10).take (i3.cellsOf 4))=some x4 at h4;rw[Va] at h4;change DataW.trod enc i3 W 0 (fun _=>true) true n 4 [z10]=some x4 at h4;have h5:=hf 5 _ rfl;change DataW.trod enc i3 W 0 (fun _=>true) true n 59 (([z0,z1,z2,z3,z4,z5,z6,z7,z8,z9,z10,z11,z12,z13,z14,z15,z16,z17,z18,z19,z20,z21,z22,z23,z24].drop 11).take (i3.cellsOf 59))=some x5 at h5;rw[Iy] at h5;change DataW.trod enc i3 W 0 (fun _=>true) true n 59 [z11,z12,z13,z14,z15,z16,z17,z18,z19,z20,z21,z22,z23,z24]=some x5 at h5;obtain⟨s0,e0,rfl,_⟩:=DataW.trod_string tI h0;cases e0;have es0:s0.data.toList.length=s0.size:=rfl;obtain⟨w1,r1,o1,q1⟩:=bg (f:=strA) (fit:=fitStr) aI de vQ qI h1 fun m hm cs y hy=>kz m cs y hy;have f1:=pU q1;have bp1:=ar x1.1;obtain⟨p2,r2,o2,f2⟩:=Hq _ _ _ h2;have f2:=show _≤bulkD x2.1 from f2;obtain⟨k3,e3,rfl,_⟩:=DataW.trod_int Ph h3;cases e3;obtain⟨k4,e4,rfl⟩:=DataW.trod_bool Uv h4;cases e4;have o5:[z11,z12,z13,z14,z15,z16,z17,z18,z19,z20,z21,z22,z23,z24].all (·.oneCell')=true:=Ju _ _ _ h5;refine⟨⟨s0,w1,p2,List.map AV.val [.int .i64 k3,.bool k4,z11,z12,z13,z14,z15,z16,z17,z18,z19,z20,z21,z22,z23,z24],rfl,xI _⟩,?_,?_,?_⟩
 ·exact au (bF rfl) (au r1 (lN r2 (lL (bC rfl (bC rfl o5)))))
 ·exact bC rfl (bC o1 (pK o2 (bC rfl (bC rfl o5))))
 ·simp only[jd,Bd,bulkD,bulkL];show s0.size+w1.l.length+p2.wt≤_;have f2:p2.wt≤bulkD x2.1:=f2;have:= @gL ⟨fun _ _=>none⟩ w1.l;omega
theorem Gt(fuel:Nat)(cs:List Value)(x:DataW H×List MemPlace)(h:DataW.trod enc i3 W 0 (fun _=>true) true fuel 29 cs=some x):Holds W Md.cells (fun m b=>dsW m.ds.l≤b∧m.ds.l.length≤b) cs (bulkD x.1):=by
 obtain⟨xs,n,rfl,rfl,hl,hlen,hf⟩:=DataW.trod_struct Tryz.underlying29 h;rw[Td] at hl
 match cs,hl with
 | [z0,z1,z2,z3,z4,z5],_=>
 match xs,hlen with
 | [x0,x1,x2,x3,x4,x5],_=>
 have h0:=hf 0 _ rfl;change DataW.trod enc i3 W 0 (fun _=>true) true n 22 (([z0,z1,z2,z3,z4,z5].drop 0).take (i3.cellsOf 22))=some x0 at h0;rw[Tj] at h0;change DataW.trod enc i3 W 0 (fun _=>true) true n 22 [z0]=some x0 at h0;have h1:=hf 1 _ rfl;change DataW.trod enc i3 W 0 (fun _=>true) true n 23 (([z0,z1,z2,z3,z4,z5].drop 1).take (i3.cellsOf 23))=some x1 at h1;rw[Ti] at h1;change DataW.trod enc i3 W 0 (fun _=>true) true n 23 [z1]=some x1 at h1;have h2:=hf 2 _ rfl;change DataW.trod enc i3 W 0 (fun _=>true) true n 24 (([z0,z1,z2,z3,z4,z5].drop 2).take (i3.cellsOf 24))=some x2 at h2;rw[Th] at h2;change DataW.trod enc i3 W 0 (fun _=>true) true n 24 [z2]=some x2 at h2;have h3:=hf 3 _ rfl;change DataW.trod enc i3 W 0 (fun _=>true) true n 25 (([z0,z1,z2,z3,z4,z5].drop 3).take (i3.cellsOf 25))=some x3 at h3;rw[Tg] at h3;change DataW.trod enc i3 W 0 (fun _=>true) true n 25 [z3]=some x3 at h3;have h4:=hf 4 _ rfl;change DataW.trod enc i3 W 0 (fun _=>true) true n 26 (([z0,z1,z2,z3,z4,z5].drop 4).take (i3.cellsOf 26))=some x4 at h4;rw[Tf] at h4;change DataW.trod enc i3 W 0 (fun _=>true) true n 26 [z4]=some x4 at h4;have h5:=hf 5 _ rfl;change DataW.trod enc i3 W 0 (fun _=>true) true n 27 (([z0,z1,z2,z3,z4,z5].drop 5).take (i3.cellsOf 27))=some x5 at h5;rw[Te] at h5;change DataW.trod enc i3 W 0 (fun _=>true) true n 27 [z5]=some x5 at h5;have o0:=cP Pv h0;have bp0:=ar x0.1;have o1:=cP Pu h1;have bp1:=ar x1.1;have o2:=cP Pt h2;have bp2:=ar x2.1;have o3:=cP Ps h3;have bp3:=ar x3.1;have o4:=cP Pq h4;have bp4:=ar x4.1;obtain⟨w5,r5,o5,q5⟩:=bg (f:=Df.cells) (fit:=fitDf) Df.len de Pp Ix h5 fun m hm cs y hy=>Ht m cs y hy;have f5:=zU q5;have bp5:=ar x5.1;refine⟨⟨z0,z1,z2,z3,z4,w5⟩,?_,?_,?_⟩
 ·exact au (bF o0) (au (bF o1) (au (bF o2) (au (bF o3) (au (bF o4) (au r5 iG)))))
 ·exact bC o0 (bC o1 (bC o2 (bC o3 (bC o4 (bC o5 rfl)))))
 ·simp only[jd,Bd,bulkD,bulkL];have:=q5.len;exact⟨show dsW w5.l≤_ by omega,show w5.l.length≤_ by omega⟩
end
end Go.Proofs.YtkmoeaplhnabcaaGreatDoor
namespace Go.Proofs.YtkmoeaplhnabcaaGreatDoor
open Go Go.AM Go.WideShapes
set_option maxRecDepth 10000
mutual
theorem kj{H:Type}:∀d:DataW H,bulkD d≤Rows.uptoBulk d
 |.lit l=>by cases l<;>simp[bulkD,Rows.uptoBulk]
 |.nil=>by simp[bulkD,Rows.uptoBulk]
 |.ptr d=>by have:=kj d;simp only[bulkD,Rows.uptoBulk];omega
 |.slice e s=>by have:=iA e;have:=iA s;simp only[bulkD,Rows.uptoBulk];omega
 |.agg p=>by have:=iA p;simp only[bulkD,Rows.uptoBulk];omega
 |.iface _ d=>by have:=kj d;simp only[bulkD,Rows.uptoBulk];omega
 |.map _=>by simp only[bulkD,Rows.uptoBulk];omega
 |.held _=>by simp only[bulkD,Rows.uptoBulk];omega
theorem iA{H:Type}:∀l:List (DataW H),bulkL l≤Rows.uptoBulkAll l
 | []=>by simp[bulkL,Rows.uptoBulkAll]
 |d::r=>by have:=kj d;have:=iA r;simp only[bulkL,Rows.uptoBulkAll];omega
end
theorem mf{H:Type}{enc:TypeId×Value→H}{P:Program}{w:World}{base:Nat}{sp:Nat→Bool}{held:Bool}{fuel:Nat}{t e:TypeId}{n:Nat}{cs:List Value}{l:List (List UInt8)}{p:List MemPlace}
  (ht:P.underlying t=some (.array n e)) (he:P.underlying e=some .string) (hce:P.cellsOf e=1) (hct:P.cellsOf t=n)
  (h:DataW.trod enc P w base sp held fuel t cs=some (.agg (l.map fun b=>.lit (.string b)),p)):cs=l.map fun b=>Value.string ⟨b.toArray⟩:=by
 cases fuel with
 |zero=>simp[DataW.trod] at h
 |succ fuel=>
  simp only[DataW.trod,ht,hce,hct,Nat.mul_one] at h;split at h
  ·rename_i hl;obtain⟨xs,hm,hx⟩:=iw.1 h;have hxs:xs.map (·.1)=l.map fun b=>(DataW.lit (.string b):DataW H):=by
    have:=congrArg Prod.fst hx
    simpa using this
   have hxl:xs.length=n:=by simpa using Lib.mapM_length hm
   have hzl:l.length=n:=by
    have:=congrArg List.length hxs;simp at this;omega
   apply List.ext_getElem?;intro i
   by_cases hi:i<n
   ·obtain⟨b,hb,hf⟩:=Lib.mapM_at hm i i (by simp[hi])
    obtain⟨z,hc,rfl,_⟩:=DataW.trod_string he hf;have h1:cs[i]? =some (.string z):=by
     have:=congrArg (·[0]?) hc
     simpa [List.getElem?_take,List.getElem?_drop] using this
    have h2:(xs.map (·.1))[i]? =some (DataW.lit (.string z.data.toList):DataW H):=by simp[hb]
    rw[hxs] at h2;simp only[Ag,iw,DataW.lit.injEq,Lit.string.injEq] at h2;obtain⟨z',hz',rfl⟩:=h2;simp[h1,hz']
   ·rw[Ck om,Ck (by simp;omega)]
  ·cases h
def unval:AV→Value
 |.val v=>v
 |_=>.bool false
def textOf:AV→List UInt8
 |.val (.string b)=>b.data.toList
 |_=>[]
def numOf:AV→Int
 |.val (.int _ n)=>n
 |_=>0
theorem Gx:keywordCells=(keywordCells.map unval).map AV.val:=by kernel_rfl
theorem Kx:(keywordCells.map unval).all (·.oneCell')=true:=by kernel_rfl
theorem y5:(keywordCells.map textOf).map (fun b=>Value.string ⟨b.toArray⟩)=keywordCells.map unval:=by kernel_rfl
theorem Gy:Rows.laid_liquidcheck_names_keywords=(.agg ((keywordCells.map textOf).map fun b=>.lit (.string b)):DataW Unit):=by kernel_rfl
theorem yS:pow10Cells=(pow10Cells.map unval).map AV.val:=by kernel_rfl
theorem Gb:(pow10Cells.map unval).all (·.oneCell')=true:=by kernel_rfl
theorem yT:(pow10Cells.map numOf).map (fun z=>Value.int .u64 z)=pow10Cells.map unval:=by kernel_rfl
theorem yU:Rows.laid_internal_strconv_uint64pow10=(Lib.tabData .u64 (pow10Cells.map numOf):DataW Unit):=by kernel_rfl
theorem vk:i3.globalNamed "liquidcheck/names.keywords" =some 0:=by kernel_rfl
theorem qu:i3.globalNamed "internal/strconv.uint64pow10" =some 1:=by kernel_rfl
theorem jY{W:World}{l:List (String×DataW Unit)}{name:String}{d:DataW Unit}(h:laidMetH i3 l W)(hf:l.filter (fun x=>x.1==name)=[(name,d)])(hn:d.handleName?.isNone=true):
  laidMet i3 [(name,d)] W:=by
 have h1:=h.filter fun x=>x.1==name;rw[hf] at h1;rw[MakeChecks.laidMetH_plain] at h1
 ·exact h1
 ·simp only[j4,List.all_nil,hn,Bool.and_self]
theorem oR{W:World}{name:String}{g:Nat}{cs:List AV}(hg:i3.globalNamed name=some g)(hv:W.var? i3 name=some (cs.map unval).toArray)(h1:cs=(cs.map unval).map AV.val)(h2:(cs.map unval).all (·.oneCell')=true):
  RelC (snapW W) cs g 0:=by
 rw[h1];refine o8 (lL h2) h2 fun i v hi=>?_
 have:=World.var?_cell hg hv i;rw[show(cs.map unval).toArray[i]? =(cs.map unval)[i]? by simp,hi] at this
 simpa only[snapW,Nat.zero_add] using this
theorem pO{W:World}{l:List (String×DataW Unit)}(h:laidMetH i3 l W)(hf:l.filter (fun x=>x.1== "liquidcheck/names.keywords")=[("liquidcheck/names.keywords",Rows.laid_liquidcheck_names_keywords)]):RelC (snapW W) keywordCells 0 0:=by
 have h1:=jY (name:= "liquidcheck/names.keywords") (d:=Rows.laid_liquidcheck_names_keywords) h hf kr;rw[Gy] at h1;obtain⟨ps,⟨g',t',cs,fuel,p,q,hg',ht',hvar,hd,_,_⟩,_⟩:=h1;obtain rfl:=Option.some.inj (vk.symm.trans hg');have q1:(i3.globals[0]?).map (·.type)=some 463:=by kernel_rfl
 have q2:i3.underlying 463=some (.array 42 9):=by kernel_rfl
 have q3:i3.underlying 9=some .string:=by kernel_rfl
 have q4:i3.cellsOf 9=1:=by kernel_rfl
 have q5:i3.cellsOf 463=42:=by kernel_rfl
 obtain rfl:=Option.some.inj (q1.symm.trans ht');have hcs:=mf q2 q3 q4 q5 hd;rw[y5] at hcs;refine oR vk ?_ Gx Kx;rw[hvar,←hcs]
theorem wl{W:World}{l:List (String×DataW Unit)}(h:laidMetH i3 l W)(hf:l.filter (fun x=>x.1== "internal/strconv.uint64pow10")=[("internal/strconv.uint64pow10",Rows.laid_internal_strconv_uint64pow10)]):RelC (snapW W) pow10Cells 1 0:=by
 have h1:=jY (name:= "internal/strconv.uint64pow10") (d:=Rows.laid_internal_strconv_uint64pow10) h hf kr;rw[yU] at h1;have q1:(i3.globals[1]?).map (·.type)=some 512:=by kernel_rfl
 obtain⟨e,q2,q3,q4⟩:∃e,i3.underlying 512=some (.array 20 e)∧i3.underlying e=some (.int .u64)∧i3.cellsOf e=1:=⟨357,kr,kr,kr⟩;have q5:i3.cellsOf 512=20:=by kernel_rfl
 have ht:=Lib.tabIs_of_head qu q1 q2 q3 q4 q5 h1;unfold Lib.TabIs at ht;rw[yT] at ht;exact oR qu ht yS Gb
theorem zK{W:World}{l:List (String×DataW Unit)}(h:laidMetH i3 l W)(h1:l.filter (fun x=>x.1== "liquidcheck/names.keywords")=[("liquidcheck/names.keywords",Rows.laid_liquidcheck_names_keywords)])(h2:l.filter (fun x=>x.1== "internal/strconv.uint64pow10")=[("internal/strconv.uint64pow10",Rows.laid_internal_strconv_uint64pow10)]):∀q cs,globCells q=some cs→RelC (snapW W) cs q 0:=by
 intro q cs hq;unfold globCells at hq;split at hq
 ·cases hq;exact pO h h1
 ·cases hq;exact wl h h2
 ·cases hq
end Go.Proofs.YtkmoeaplhnabcaaGreatDoor
