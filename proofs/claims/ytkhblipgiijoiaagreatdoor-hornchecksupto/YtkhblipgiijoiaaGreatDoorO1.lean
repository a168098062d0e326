/- ZOpen ZLaidH -/
import Derived.Test.YtkhblipgiijoiaaGreatDoorU0
import Derived.Test.YtkhblipgiijoiaaGreatDoorE1
import Derived.Test.YtkhblipgiijoiaaGreatDoorM4
import Derived.Test.YtkhblipgiijoiaaGreatDoorR4
import Derived.Test.YtkhblipgiijoiaaGreatDoorProg
import Derived.KernelRfl
import Derived.ProofKit
import Derived.ChangeArms
import Derived.ReadAgain
import Derived.Test.YtkhblipgiijoiaaGreatDoorRows
import Derived.LaidSub
import Derived.MakeChecks
import Derived.Lib.LaidTab

set_option linter.all false
open Bool renaming and_eq_true → ii
open List renaming all_cons → iv, cons_append → j6, getElem?_eq_getElem → jl, getElem?_eq_none → C2, getElem?_map → A6, length_cons → il, length_nil → jf, map_cons → jc, map_nil → As
open Nat renaming add_zero → A4
open Option renaming map_eq_some_iff → iy
open Go.Proofs.Tryz renaming prog → i7
namespace Go.Proofs.YtkhblipgiijoiaaGreatDoor
open Go Go.AM Go.WideShapes
set_option maxRecDepth 10000
mutual
def bulkD{H:Type}:DataW H→Nat
 |.lit (.string bytes)=>bytes.length+1
 |.lit _=>1
 |.nil=>1
 |.ptr d=>bulkD d+1
 |.slice elems spare=>bulkL elems+bulkL spare+1
 |.agg parts=>bulkL parts+1
 |.iface _ d=>bulkD d+1
 |.map _=>1
 |.held _=>1
def bulkL{H:Type}:List (DataW H)→Nat
 | []=>0
 |d::r=>bulkD d+bulkL r
end
def snapW(W:World):Snap:=fun b o=>W.cell? ⟨b,o,none⟩
theorem nN{S:Snap}:∀{xs ys:List AV} {b off:Nat},RelC S xs b off→RelC S ys b (off+xs.length)→RelC S (xs++ys) b off
 | [],ys,b,off,_,k=>by simpa only[List.nil_append,jf,A4] using k
 |x::xs,ys,b,off,h,k=>by
  simp only[RelC] at h;simp only[j6,RelC];exact⟨h.1,nN h.2 (by rw[il] at k;rw[show off+1+xs.length=off+(xs.length+1) by omega];exact k)⟩
theorem xY{S:Snap}{b:Nat}:∀{cs:List AV} {vs:List Value} {off:Nat},RelL S nof cs vs→vs.all (·.oneCell')=true→(∀i v,vs[i]? =some v→S b (off+i)=some v)→RelC S cs b off
 | [],_,_,_,_,_=>by simp only[RelC]
 |c::cs,vs,off,h,ho,k=>by
  simp only[RelL] at h;obtain⟨y,ys,rfl,h1,h2⟩:=h;simp only[iv,ii] at ho;simp only[RelC];refine⟨⟨y,k 0 y rfl,ho.1,h1⟩,xY h2 ho.2 fun i v hv=>?_⟩;have:=k (i+1) v hv;rw[show off+1+i=off+(i+1) by omega]
  exact this
theorem bq{S:Snap}{f:Emb}{v:Value}(ho:v.oneCell'=true):Rel S f (.val v) v:=by
 rw[Rel];exact⟨rfl,ho⟩
theorem Cv{S:Snap}{f:Emb}:∀{cs:List AV} {vs:List Value},RelL S f cs vs→vs.length=cs.length
 | [],vs,h=>by
  simp only[RelL] at h;rw[h];rfl
 |c::cs,vs,h=>by
  simp only[RelL] at h;obtain⟨y,ys,rfl,_,h2⟩:=h;simp only[il,Cv h2]
theorem xF{H:Type}:∀d:DataW H,1≤bulkD d
 |.lit l=>by cases l<;>simp only[bulkD]<;>omega
 |.nil=>by simp only[bulkD];omega
 |.ptr d=>by simp only[bulkD];omega
 |.slice _ _=>by simp only[bulkD];omega
 |.agg _=>by simp only[bulkD];omega
 |.iface _ _=>by simp only[bulkD];omega
 |.map _=>by simp only[bulkD];omega
 |.held _=>by simp only[bulkD];omega
section
variable {H:Type}{enc:TypeId×Value→H}{W:World}
def Holds{α:Type}(W:World)(f:α→List AV)(fit:α→Nat→Prop)(cs:List Value)(b:Nat):Prop:=∃a:α,RelL (snapW W) nof (f a) cs∧cs.all (·.oneCell')=true∧fit a b
def FitL{α:Type}(fit:α→Nat→Prop):List α→Nat→Prop
 | [],_=>True
 |a::l,b=>∃b1 b2,1≤b1∧b1+b2≤b∧fit a b1∧FitL fit l b2
theorem FitL.le{α:Type}{fit:α→Nat→Prop}:∀{l:List α} {b c:Nat},FitL fit l b→b≤c→FitL fit l c
 | [],_,_,_,_=>trivial
 |a::l,b,c,⟨b1,b2,h1,h2,h3,h4⟩,h=>⟨b1,b2,h1,om,h3,h4⟩
theorem FitL.len{α:Type}{fit:α→Nat→Prop}:∀{l:List α} {b:Nat},FitL fit l b→l.length≤b
 | [],_,_=>Nat.zero_le _
 |a::l,b,⟨b1,b2,h1,h2,h3,h4⟩=>by
  have:=FitL.len h4;rw[il];omega
theorem FitL.mem{α:Type}{fit:α→Nat→Prop}:∀{l:List α} {b:Nat} {a:α},FitL fit l b→a∈l→∃c,c≤b∧fit a c
 |x::l,b,a,⟨b1,b2,h1,h2,h3,h4⟩,h=>by
  rcases List.mem_cons.1 h with rfl|h
  ·exact⟨b1,om,h3⟩
  ·obtain⟨c,c1,c2⟩:=FitL.mem h4 h;exact⟨c,om,c2⟩
theorem vX{α:Type}{f:α→List AV}{fit:α→Nat→Prop}{es b off:Nat}(hf:∀a,(f a).length=es):∀(ds:List (DataW H)) (j:Nat),(∀i d,ds[i]? =some d→∃cs,W.cells? 0 ((⟨b,off,none⟩:Addr).add ((j+i)*es)) es=some cs∧Holds W f fit cs (bulkD d))→
  ∃l:List α,l.length=ds.length∧RelC (snapW W) (l.flatMap f) b (off+j*es)∧FitL fit l (bulkL ds)
 | [],j,_=>⟨[],rfl,by simp only[List.flatMap_nil,RelC],trivial⟩
 |d::ds,j,h=>by
  obtain⟨cs,hc,a,hp,ho,hn⟩:=h 0 d rfl;obtain⟨l,h1,h2,h3⟩:=vX hf ds (j+1) fun i e he=>by
   have:=h (i+1) e (by simpa only[List.getElem?_cons_succ] using he)
   rw[show j+1+i=j+(i+1) by omega]
   exact this
  obtain⟨_,hl,hcell⟩:=World.cells?_some hc;have hl':cs.length=es:=by rw[Cv hp,hf]
  refine⟨a::l,by simp only[il,h1],?_,bulkD d,bulkL ds,xF d,by simp only[bulkL];omega,hn,h3⟩
  simp only[List.flatMap_cons];refine nN (xY hp ho fun i v hv=>?_) ?_
  ·have hi:i<es:=by
    rcases Nat.lt_or_ge i cs.length with x|x
    ·omega
    ·rw[C2 x] at hv;cases hv
   have:=hcell i hi;rw[hv,add_plain,add_plain] at this
   simpa only[snapW,A4] using this
  ·rw[hf,show off+j*es+es=off+(j+1)*es by rw[Nat.add_mul];omega]
   exact h2
theorem dI{α:Type}{f:α→List AV}{fit:α→Nat→Prop}{es n:Nat}{t e:TypeId}{v:Value}{x:DataW H×List MemPlace}(hf:∀a,(f a).length=es)(hes:0<es)(hu:i7.underlying t=some (.slice e))(hc:i7.cellsOf e=es)
  (h:DataW.trod enc i7 W 0 (fun _=>true) true n t [v]=some x) (ih:∀m,m<n→∀cs y,DataW.trod enc i7 W 0 (fun _=>true) true m e cs=some y→Holds W f fit cs (bulkD y.1)):
  ∃w:Vl α,Rel (snapW W) nof (w.A f) v∧v.oneCell'=true∧FitL fit w.l (bulkD x.1-1):=by
 rcases DataW.trod_slice hu h with⟨e3,rfl⟩|⟨a,len,cap,elems,rest,m,rfl,e3,rfl,_,hlc,_,hel,hget,_⟩
 ·cases e3;exact⟨⟨[],some (none,0),none⟩,bq rfl,rfl,trivial⟩
 ·cases e3;cases len with
  |zero=>exact⟨⟨[],some (some a,cap),none⟩,bq rfl,rfl,trivial⟩
  |succ len=>
   have hall:∀i,i<len+1→∃cs y,W.cells? 0 (a.add (i*es)) es=some cs∧DataW.trod enc i7 W 0 (fun _=>true) true m e cs=some y∧elems[i]? =some y:=fun i hi=>by
    have hg:=hget i hi;rw[hc] at hg;have hi':i<elems.length:=by omega
    rw[jl hi'] at hg;obtain⟨cs,q1,q2⟩:=Option.bind_eq_some_iff.1 hg;exact⟨cs,_,q1,q2,jl hi'⟩
   obtain⟨b,off,spot⟩:=a;have hspot:spot=none:=by
    obtain⟨cs,y,q1,_⟩:=hall 0 om;obtain⟨_,hl,hcell⟩:=World.cells?_some q1;have:=hcell 0 hes
    match cs,hl with
    | [],hl=>simp only[jf] at hl;omega
    |c0::_,_=>
     have hs:=World.cell?_spot this
     simpa [Addr.add] using hs
   subst hspot;obtain⟨l,g1,g2,g3⟩:=vX (W:=W) (b:=b) (off:=off) hf (elems.map (·.1)) 0 fun i d hd=>by
    rw[A6] at hd;obtain⟨y,hy,rfl⟩:=iy.1 hd;have hi:i<elems.length:=by
     rcases Nat.lt_or_ge i elems.length with z|z
     ·exact z
     ·rw[C2 z] at hy;cases hy
    obtain⟨cs,y',q1,q2,q3⟩:=hall i om;rw[hy] at q3;cases q3;rw[Nat.zero_add];exact⟨cs,q1,ih m om cs y q2⟩
   rw[List.length_map] at g1;refine⟨⟨l,none,none⟩,?_,rfl,g3.le ?_⟩
   ·simp only[Vl.A,kidsA,Option.isSome_none,Bool.false_and,cond_false,Rel];refine⟨b,off,cap,?_,om,fun k hk=>(by cases hk),?_⟩
    ·rw[g1,hel]
    ·simpa only[Nat.zero_mul,A4] using g2
   ·simp only[bulkD];omega
theorem aNM:i7.cellsOf 3=1:=by kernel_rfl
theorem aEG:i7.cellsOf 9=1:=by kernel_rfl
theorem aNQ:i7.cellsOf 22=1:=by kernel_rfl
theorem aNP:i7.cellsOf 23=1:=by kernel_rfl
theorem aNO:i7.cellsOf 24=1:=by kernel_rfl
theorem aNN:i7.cellsOf 26=3:=by kernel_rfl
theorem aFK:i7.cellsOf 42=1:=by kernel_rfl
theorem aFJ:i7.cellsOf 43=1:=by kernel_rfl
theorem aNL:i7.cellsOf 44=1:=by kernel_rfl
theorem Pg:i7.cellsOf 46=4:=by kernel_rfl
theorem aFI:i7.cellsOf 48=7:=by kernel_rfl
theorem aFH:i7.cellsOf 59=2:=by kernel_rfl
theorem Yk:i7.cellsOf 79=1:=by kernel_rfl
theorem Yj:i7.cellsOf 81=2:=by kernel_rfl
theorem aNK:i7.cellsOf 88=1:=by kernel_rfl
theorem aFG:i7.cellsOf 90=3:=by kernel_rfl
theorem aLS:i7.underlying 22=some (.slice 90):=by kernel_rfl
theorem aLR:i7.underlying 23=some (.slice 59):=by kernel_rfl
theorem aLQ:i7.underlying 24=some (.slice 48):=by kernel_rfl
theorem aEP:i7.underlying 42=some (.slice 81):=by kernel_rfl
theorem aEO:i7.underlying 43=some (.slice 46):=by kernel_rfl
theorem aLN:i7.underlying 88=some (.slice 79):=by kernel_rfl
theorem aLP:i7.underlying 3=some (.int .i64):=by kernel_rfl
theorem aLO:i7.underlying 44=some (.int .i64):=by kernel_rfl
theorem Ze:i7.underlying 9=some .string:=by kernel_rfl
theorem Tc:i7.underlying 79=some .string:=by kernel_rfl
def fitPr(p:Pr)(b:Nat):Prop:=p.wt≤b
theorem Jd:∀{l:List Pr} {b:Nat},FitL fitPr l b→Pr.wtL l≤b
 | [],_,_=>Nat.zero_le _
 |p::l,b,⟨b1,b2,h1,h2,h3,h4⟩=>by
  have:=Jd h4;have h3:p.wt≤b1:=h3;simp only[Pr.wtL];omega
theorem Tm(fuel:Nat)(cs:List Value)(x:DataW H×List MemPlace)(h:DataW.trod enc i7 W 0 (fun _=>true) true fuel 79 cs=some x):Holds W strA (fun _ _=>True) cs (bulkD x.1):=by
 obtain⟨s,e,rfl,_⟩:=DataW.trod_string Tc h;subst e;refine⟨s,?_,rfl,trivial⟩;simp only[strA,RelL];exact⟨_,_,rfl,bq rfl,rfl⟩
theorem Lv:∀(fuel:Nat) (cs:List Value) (x:DataW H×List MemPlace),DataW.trod enc i7 W 0 (fun _=>true) true fuel 46 cs=some x→Holds W Pr.cells fitPr cs (bulkD x.1):=by
 intro fuel
 induction fuel using Nat.strongRecOn with
 |_ fuel ih=>
 intro cs x h;obtain⟨xs,n,rfl,rfl,hl,hlen,hf⟩:=DataW.trod_struct Tryz.underlying46 h;rw[Pg] at hl
 match cs,hl with
 | [a,b,c,d],_=>
 match xs,hlen with
 | [x0,x1,x2,x3],_=>
 have h0:=hf 0 _ rfl;have h1:=hf 1 _ rfl;have h2:=hf 2 _ rfl;have h3:=hf 3 _ rfl;change DataW.trod enc i7 W 0 (fun _=>true) true n 44 (([a,b,c,d].drop 0).take (i7.cellsOf 44))=some x0 at h0;rw[aNL] at h0;change DataW.trod enc i7 W 0 (fun _=>true) true n 44 [a]=some x0 at h0;change DataW.trod enc i7 W 0 (fun _=>true) true n 9 (([a,b,c,d].drop 1).take (i7.cellsOf 9))=some x1 at h1;rw[aEG] at h1;change DataW.trod enc i7 W 0 (fun _=>true) true n 9 [b]=some x1 at h1;change DataW.trod enc i7 W 0 (fun _=>true) true n 3 (([a,b,c,d].drop 2).take (i7.cellsOf 3))=some x2 at h2;rw[aNM] at h2;change DataW.trod enc i7 W 0 (fun _=>true) true n 3 [c]=some x2 at h2;change DataW.trod enc i7 W 0 (fun _=>true) true n 43 (([a,b,c,d].drop 3).take (i7.cellsOf 43))=some x3 at h3;rw[aFJ] at h3;change DataW.trod enc i7 W 0 (fun _=>true) true n 43 [d]=some x3 at h3;obtain⟨k0,e0,rfl,_⟩:=DataW.trod_int aLO h0;obtain⟨s1,e1,rfl,_⟩:=DataW.trod_string Ze h1;obtain⟨k2,e2,rfl,_⟩:=DataW.trod_int aLP h2;cases e0;cases e1;cases e2;obtain⟨w,hr,ho,hk⟩:=dI (f:=Pr.cells) (fit:=fitPr) Pr.len de aEO Pg h3 fun m hm cs y hy=>ih m om cs y hy;have hkl:=Jd hk;have es:s1.data.toList.length=s1.size:=rfl;refine⟨.mk k0 s1 k2 w.l w.nl w.cap,?_,?_,?_⟩
 ·simp only[Pr.cells,RelL,Pr.cellsL_eq];exact⟨_,_,rfl,bq rfl,_,_,rfl,bq rfl,_,_,rfl,bq rfl,_,_,rfl,hr,rfl⟩
 ·show(true&&(true&&(true&&(d.oneCell'&&true))))=true;rw[ho];rfl
 ·show 1+s1.size+Pr.wtL w.l≤_;have hp:=xF x3.1;simp only[jc,As,bulkD,bulkL];omega
theorem Lm(fuel:Nat)(cs:List Value)(x:DataW H×List MemPlace)(h:DataW.trod enc i7 W 0 (fun _=>true) true fuel 81 cs=some x):Holds W Vr.cells (fun _ _=>True) cs (bulkD x.1):=by
 obtain⟨xs,n,rfl,rfl,hl,hlen,hf⟩:=DataW.trod_struct Tryz.underlying81 h;rw[Yj] at hl
 match cs,hl with
 | [a,b],_=>
 match xs,hlen with
 | [x0,x1],_=>
 have h0:=hf 0 _ rfl;have h1:=hf 1 _ rfl;change DataW.trod enc i7 W 0 (fun _=>true) true n 9 (([a,b].drop 0).take (i7.cellsOf 9))=some x0 at h0;rw[aEG] at h0;change DataW.trod enc i7 W 0 (fun _=>true) true n 9 [a]=some x0 at h0;change DataW.trod enc i7 W 0 (fun _=>true) true n 79 (([a,b].drop 1).take (i7.cellsOf 79))=some x1 at h1;rw[Yk] at h1;change DataW.trod enc i7 W 0 (fun _=>true) true n 79 [b]=some x1 at h1;obtain⟨s0,e0,rfl,_⟩:=DataW.trod_string Ze h0;obtain⟨s1,e1,rfl,_⟩:=DataW.trod_string Tc h1;cases e0;cases e1;refine⟨⟨s0,s1⟩,?_,rfl,trivial⟩;simp only[Vr.cells,RelL];exact⟨_,_,rfl,bq rfl,_,_,rfl,bq rfl,rfl⟩
def fitSm(s:Sm)(b:Nat):Prop:=s.as.l.length≤b
theorem Zl(fuel:Nat)(cs:List Value)(x:DataW H×List MemPlace)(h:DataW.trod enc i7 W 0 (fun _=>true) true fuel 90 cs=some x):Holds W Sm.cells fitSm cs (bulkD x.1):=by
 obtain⟨xs,n,rfl,rfl,hl,hlen,hf⟩:=DataW.trod_struct Tryz.underlying90 h;rw[aFG] at hl
 match cs,hl with
 | [a,b,c],_=>
 match xs,hlen with
 | [x0,x1,x2],_=>
 have h0:=hf 0 _ rfl;have h1:=hf 1 _ rfl;have h2:=hf 2 _ rfl;change DataW.trod enc i7 W 0 (fun _=>true) true n 9 (([a,b,c].drop 0).take (i7.cellsOf 9))=some x0 at h0;rw[aEG] at h0;change DataW.trod enc i7 W 0 (fun _=>true) true n 9 [a]=some x0 at h0;change DataW.trod enc i7 W 0 (fun _=>true) true n 88 (([a,b,c].drop 1).take (i7.cellsOf 88))=some x1 at h1;rw[aNK] at h1;change DataW.trod enc i7 W 0 (fun _=>true) true n 88 [b]=some x1 at h1;change DataW.trod enc i7 W 0 (fun _=>true) true n 79 (([a,b,c].drop 2).take (i7.cellsOf 79))=some x2 at h2;rw[Yk] at h2;change DataW.trod enc i7 W 0 (fun _=>true) true n 79 [c]=some x2 at h2;obtain⟨s0,e0,rfl,_⟩:=DataW.trod_string Ze h0;obtain⟨s2,e2,rfl,_⟩:=DataW.trod_string Tc h2;cases e0;cases e2;obtain⟨w,hr,ho,hk⟩:=dI (f:=strA) (fit:=fun _ _=>True) aK de aLN Yk h1 fun m hm cs y hy=>Tm m cs y hy;have hkl:=hk.len;refine⟨⟨s0,w,s2⟩,?_,?_,?_⟩
 ·simp only[Sm.cells,RelL];exact⟨_,_,rfl,bq rfl,_,_,rfl,hr,_,_,rfl,bq rfl,rfl⟩
 ·show(true&&(b.oneCell'&&(true&&true)))=true;rw[ho];rfl
 ·show w.l.length≤_;simp only[jc,As,bulkD,bulkL];omega
def fitHo(s:Ho)(b:Nat):Prop:=s.ps.l.length≤b
theorem aBL(fuel:Nat)(cs:List Value)(x:DataW H×List MemPlace)(h:DataW.trod enc i7 W 0 (fun _=>true) true fuel 59 cs=some x):Holds W Ho.cells fitHo cs (bulkD x.1):=by
 obtain⟨xs,n,rfl,rfl,hl,hlen,hf⟩:=DataW.trod_struct Tryz.underlying59 h;rw[aFH] at hl
 match cs,hl with
 | [a,b],_=>
 match xs,hlen with
 | [x0,x1],_=>
 have h0:=hf 0 _ rfl;have h1:=hf 1 _ rfl;change DataW.trod enc i7 W 0 (fun _=>true) true n 9 (([a,b].drop 0).take (i7.cellsOf 9))=some x0 at h0;rw[aEG] at h0;change DataW.trod enc i7 W 0 (fun _=>true) true n 9 [a]=some x0 at h0;change DataW.trod enc i7 W 0 (fun _=>true) true n 42 (([a,b].drop 1).take (i7.cellsOf 42))=some x1 at h1;rw[aFK] at h1;change DataW.trod enc i7 W 0 (fun _=>true) true n 42 [b]=some x1 at h1;obtain⟨s0,e0,rfl,_⟩:=DataW.trod_string Ze h0;cases e0;obtain⟨w,hr,ho,hk⟩:=dI (f:=Vr.cells) (fit:=fun _ _=>True) Vr.len de aEP Yj h1 fun m hm cs y hy=>Lm m cs y hy;have hkl:=hk.len;refine⟨⟨s0,w⟩,?_,?_,?_⟩
 ·simp only[Ho.cells,RelL];exact⟨_,_,rfl,bq rfl,_,_,rfl,hr,rfl⟩
 ·show(true&&(b.oneCell'&&true))=true;rw[ho];rfl
 ·show w.l.length≤_;simp only[jc,As,bulkD,bulkL];omega
theorem Cw{S:Snap}{f:Emb}:∀{xs ys:List AV} {us vs:List Value},RelL S f xs us→RelL S f ys vs→RelL S f (xs++ys) (us++vs)
 | [],ys,us,vs,h,k=>by
  simp only[RelL] at h;subst h;exact k
 |x::xs,ys,us,vs,h,k=>by
  simp only[RelL] at h;obtain⟨y,zs,rfl,h1,h2⟩:=h;simp only[j6,RelL];exact⟨y,zs++vs,rfl,h1,Cw h2 k⟩
def fitCl(c:Cl)(b:Nat):Prop:=c.vs.l.length≤b∧Pr.wtL c.hy.l+c.hd.wt≤b
theorem aED(fuel:Nat)(cs:List Value)(x:DataW H×List MemPlace)(h:DataW.trod enc i7 W 0 (fun _=>true) true fuel 48 cs=some x):Holds W Cl.cells fitCl cs (bulkD x.1):=by
 obtain⟨xs,n,rfl,rfl,hl,hlen,hf⟩:=DataW.trod_struct Tryz.underlying48 h;rw[aFI] at hl
 match cs,hl with
 | [a,b,c,d,e,f,g],_=>
 match xs,hlen with
 | [x0,x1,x2,x3],_=>
 have h0:=hf 0 _ rfl;have h1:=hf 1 _ rfl;have h2:=hf 2 _ rfl;have h3:=hf 3 _ rfl;change DataW.trod enc i7 W 0 (fun _=>true) true n 42 (([a,b,c,d,e,f,g].drop 0).take (i7.cellsOf 42))=some x0 at h0;rw[aFK] at h0;change DataW.trod enc i7 W 0 (fun _=>true) true n 42 [a]=some x0 at h0;change DataW.trod enc i7 W 0 (fun _=>true) true n 43 (([a,b,c,d,e,f,g].drop 1).take (i7.cellsOf 43))=some x1 at h1;rw[aFJ] at h1;change DataW.trod enc i7 W 0 (fun _=>true) true n 43 [b]=some x1 at h1;change DataW.trod enc i7 W 0 (fun _=>true) true n 46 (([a,b,c,d,e,f,g].drop 2).take (i7.cellsOf 46))=some x2 at h2;rw[Pg] at h2;change DataW.trod enc i7 W 0 (fun _=>true) true n 46 [c,d,e,f]=some x2 at h2;change DataW.trod enc i7 W 0 (fun _=>true) true n 3 (([a,b,c,d,e,f,g].drop 6).take (i7.cellsOf 3))=some x3 at h3;rw[aNM] at h3;change DataW.trod enc i7 W 0 (fun _=>true) true n 3 [g]=some x3 at h3;obtain⟨k3,e3,rfl,_⟩:=DataW.trod_int aLP h3;cases e3;obtain⟨w0,hr0,ho0,hk0⟩:=dI (f:=Vr.cells) (fit:=fun _ _=>True) Vr.len de aEP Yj h0 fun m hm cs y hy=>Lm m cs y hy;obtain⟨w1,hr1,ho1,hk1⟩:=dI (f:=Pr.cells) (fit:=fitPr) Pr.len de aEO Pg h1 fun m hm cs y hy=>Lv m cs y hy;obtain⟨p,hp,hpo,hpf⟩:=Lv _ _ _ h2;have hkl0:=hk0.len;have hkl1:=Jd hk1;have hpf:p.wt≤bulkD x2.1:=hpf;refine⟨⟨w0,w1,p,k3⟩,?_,?_,?_,?_⟩
 ·simp only[Cl.cells,RelL];refine⟨_,_,rfl,hr0,_,_,rfl,hr1,?_⟩;have:=Cw (S:=snapW W) (f:=nof) (xs:=p.cells) (ys:=[vI k3]) (us:=[c,d,e,f]) (vs:=[.int .i64 k3]) hp (by
   simp only[RelL];exact⟨_,_,rfl,bq rfl,rfl⟩)
  exact this
 ·have hpo:(c.oneCell'&&(d.oneCell'&&(e.oneCell'&&(f.oneCell'&&true))))=true:=hpo;show(a.oneCell'&&(b.oneCell'&&(c.oneCell'&&(d.oneCell'&&(e.oneCell'&&(f.oneCell'&&(true&&true)))))))=true;rw[ho0,ho1]
  simpa using hpo
 ·show w0.l.length≤_;simp only[jc,As,bulkD,bulkL];omega
 ·show Pr.wtL w1.l+p.wt≤_;simp only[jc,As,bulkD,bulkL];omega
theorem aBM(fuel:Nat)(cs:List Value)(x:DataW H×List MemPlace)(h:DataW.trod enc i7 W 0 (fun _=>true) true fuel 26 cs=some x)(hb:bulkD x.1≤1048576):∃a:Hn,RelL (snapW W) nof a.cells cs∧cs.all (·.oneCell')=true∧HnB a:=by
 obtain⟨xs,n,rfl,rfl,hl,hlen,hf⟩:=DataW.trod_struct Tryz.underlying26 h;rw[aNN] at hl
 match cs,hl with
 | [a,b,c],_=>
 match xs,hlen with
 | [x0,x1,x2],_=>
 have h0:=hf 0 _ rfl;have h1:=hf 1 _ rfl;have h2:=hf 2 _ rfl;change DataW.trod enc i7 W 0 (fun _=>true) true n 22 (([a,b,c].drop 0).take (i7.cellsOf 22))=some x0 at h0;rw[aNQ] at h0;change DataW.trod enc i7 W 0 (fun _=>true) true n 22 [a]=some x0 at h0;change DataW.trod enc i7 W 0 (fun _=>true) true n 23 (([a,b,c].drop 1).take (i7.cellsOf 23))=some x1 at h1;rw[aNP] at h1;change DataW.trod enc i7 W 0 (fun _=>true) true n 23 [b]=some x1 at h1;change DataW.trod enc i7 W 0 (fun _=>true) true n 24 (([a,b,c].drop 2).take (i7.cellsOf 24))=some x2 at h2;rw[aNO] at h2;change DataW.trod enc i7 W 0 (fun _=>true) true n 24 [c]=some x2 at h2;obtain⟨w0,hr0,ho0,hk0⟩:=dI (f:=Sm.cells) (fit:=fitSm) Sm.len de aLS aFG h0 fun m hm cs y hy=>Zl m cs y hy;obtain⟨w1,hr1,ho1,hk1⟩:=dI (f:=Ho.cells) (fit:=fitHo) Ho.len de aLR aFH h1 fun m hm cs y hy=>aBL m cs y hy;obtain⟨w2,hr2,ho2,hk2⟩:=dI (f:=Cl.cells) (fit:=fitCl) Cl.len de aLQ aFI h2 fun m hm cs y hy=>aED m cs y hy;have l0:=hk0.len;have l1:=hk1.len;have l2:=hk2.len;simp only[jc,As,bulkD,bulkL] at hb;refine⟨⟨w0,w1,w2⟩,?_,by
  show(a.oneCell'&&(b.oneCell'&&(c.oneCell'&&true)))=true;rw[ho0,ho1,ho2];rfl,by show w0.l.length<_;omega,fun s hs=>?_,by show w1.l.length<_;omega,fun s hs=>?_,by show w2.l.length<_;omega,fun s hs=>?_,fun s hs=>?_⟩
 ·simp only[Hn.cells,RelL];exact⟨_,_,rfl,hr0,_,_,rfl,hr1,_,_,rfl,hr2,rfl⟩
 ·obtain⟨c,c1,c2⟩:=hk0.mem hs;have c2:s.as.l.length≤c:=c2;omega
 ·obtain⟨c,c1,c2⟩:=hk1.mem hs;have c2:s.ps.l.length≤c:=c2;omega
 ·obtain⟨c,c1,c2⟩:=hk2.mem hs;have c2:s.vs.l.length≤c:=c2.1;omega
 ·obtain⟨k,c1,c2⟩:=hk2.mem hs;have c2:Pr.wtL s.hy.l+s.hd.wt≤k:=c2.2;omega
end
end Go.Proofs.YtkhblipgiijoiaaGreatDoor
namespace Go.Proofs.YtkhblipgiijoiaaGreatDoor
open Go Go.AM Go.WideShapes
set_option maxRecDepth 10000
mutual
theorem p8{H:Type}:∀d:DataW H,bulkD d≤Rows.uptoBulk d
 |.lit l=>by cases l<;>simp[bulkD,Rows.uptoBulk]
 |.nil=>by simp[bulkD,Rows.uptoBulk]
 |.ptr d=>by have:=p8 d;simp only[bulkD,Rows.uptoBulk];omega
 |.slice e s=>by have:=lc e;have:=lc s;simp only[bulkD,Rows.uptoBulk];omega
 |.agg p=>by have:=lc p;simp only[bulkD,Rows.uptoBulk];omega
 |.iface _ d=>by have:=p8 d;simp only[bulkD,Rows.uptoBulk];omega
 |.map _=>by simp only[bulkD,Rows.uptoBulk];omega
 |.held _=>by simp only[bulkD,Rows.uptoBulk];omega
theorem lc{H:Type}:∀l:List (DataW H),bulkL l≤Rows.uptoBulkAll l
 | []=>by simp[bulkL,Rows.uptoBulkAll]
 |d::r=>by have:=p8 d;have:=lc r;simp only[bulkL,Rows.uptoBulkAll];omega
end
theorem tt{H:Type}{enc:TypeId×Value→H}{P:Program}{w:World}{base:Nat}{sp:Nat→Bool}{held:Bool}{fuel:Nat}{t e:TypeId}{n:Nat}{cs:List Value}{l:List (List UInt8)}{p:List MemPlace}
  (ht:P.underlying t=some (.array n e)) (he:P.underlying e=some .string) (hce:P.cellsOf e=1) (hct:P.cellsOf t=n)
  (h:DataW.trod enc P w base sp held fuel t cs=some (.agg (l.map fun b=>.lit (.string b)),p)):cs=l.map fun b=>Value.string ⟨b.toArray⟩:=by
 cases fuel with
 |zero=>simp[DataW.trod] at h
 |succ fuel=>
  simp only[DataW.trod,ht,hce,hct,Nat.mul_one] at h;split at h
  ·rename_i hl;obtain⟨xs,hm,hx⟩:=iy.1 h;have hxs:xs.map (·.1)=l.map fun b=>(DataW.lit (.string b):DataW H):=by
    have:=congrArg Prod.fst hx
    simpa using this
   have hxl:xs.length=n:=by simpa using Lib.mapM_length hm
   have hzl:l.length=n:=by
    have:=congrArg List.length hxs;simp at this;omega
   apply List.ext_getElem?;intro i
   by_cases hi:i<n
   ·obtain⟨b,hb,hf⟩:=Lib.mapM_at hm i i (by simp[hi])
    obtain⟨z,hc,rfl,_⟩:=DataW.trod_string he hf;have h1:cs[i]? =some (.string z):=by
     have:=congrArg (·[0]?) hc
     simpa [List.getElem?_take,List.getElem?_drop] using this
    have h2:(xs.map (·.1))[i]? =some (DataW.lit (.string z.data.toList):DataW H):=by simp[hb]
    rw[hxs] at h2;simp only[A6,iy,DataW.lit.injEq,Lit.string.injEq] at h2;obtain⟨z',hz',rfl⟩:=h2;simp[h1,hz']
   ·rw[C2 om,C2 (by simp;omega)]
  ·cases h
def unval:AV→Value
 |.val v=>v
 |_=>.bool false
def textOf:AV→List UInt8
 |.val (.string b)=>b.data.toList
 |_=>[]
def numOf:AV→Int
 |.val (.int _ n)=>n
 |_=>0
theorem va{S:Snap}{f:Emb}:∀{vs:List Value},vs.all (·.oneCell')=true→RelL S f (vs.map AV.val) vs
 | [],_=>by simp only[As,RelL]
 |v::vs,h=>by
  simp only[iv,ii] at h;simp only[jc,RelL];exact⟨v,vs,rfl,bq h.1,va h.2⟩
theorem aBF:keywordCells=(keywordCells.map unval).map AV.val:=by kernel_rfl
theorem aHL:(keywordCells.map unval).all (·.oneCell')=true:=by kernel_rfl
theorem Vd:(keywordCells.map textOf).map (fun b=>Value.string ⟨b.toArray⟩)=keywordCells.map unval:=by kernel_rfl
theorem aBH:Rows.laid_liquidcheck_names_keywords=(.agg ((keywordCells.map textOf).map fun b=>.lit (.string b)):DataW Unit):=by kernel_rfl
theorem Uf:pow10Cells=(pow10Cells.map unval).map AV.val:=by kernel_rfl
theorem aAF:(pow10Cells.map unval).all (·.oneCell')=true:=by kernel_rfl
theorem Ug:(pow10Cells.map numOf).map (fun z=>Value.int .u64 z)=pow10Cells.map unval:=by kernel_rfl
theorem Uh:Rows.laid_internal_strconv_uint64pow10=(Lib.tabData .u64 (pow10Cells.map numOf):DataW Unit):=by kernel_rfl
theorem Mi:i7.globalNamed "liquidcheck/names.keywords" =some 0:=by kernel_rfl
theorem Cz:i7.globalNamed "internal/strconv.uint64pow10" =some 3:=by kernel_rfl
theorem nQ{W:World}{l:List (String×DataW Unit)}{name:String}{d:DataW Unit}(h:laidMetH i7 l W)(hf:l.filter (fun x=>x.1==name)=[(name,d)])(hn:d.handleName?.isNone=true):
  laidMet i7 [(name,d)] W:=by
 have h1:=h.filter fun x=>x.1==name;rw[hf] at h1;rw[MakeChecks.laidMetH_plain] at h1
 ·exact h1
 ·simp only[iv,List.all_nil,hn,Bool.and_self]
theorem xB{W:World}{name:String}{g:Nat}{cs:List AV}(hg:i7.globalNamed name=some g)(hv:W.var? i7 name=some (cs.map unval).toArray)(h1:cs=(cs.map unval).map AV.val)(h2:(cs.map unval).all (·.oneCell')=true):
  RelC (snapW W) cs g 0:=by
 rw[h1];refine xY (va h2) h2 fun i v hi=>?_
 have:=World.var?_cell hg hv i;rw[show(cs.map unval).toArray[i]? =(cs.map unval)[i]? by simp,hi] at this
 simpa only[snapW,Nat.zero_add] using this
theorem yF{W:World}(h:laidMetH i7 Rows.hornChecksUptoRow.laid W):RelC (snapW W) keywordCells 0 0:=by
 have h1:=nQ (name:= "liquidcheck/names.keywords") (d:=Rows.laid_liquidcheck_names_keywords) h kr kr;rw[aBH] at h1;obtain⟨ps,⟨g',t',cs,fuel,p,q,hg',ht',hvar,hd,_,_⟩,_⟩:=h1;obtain rfl:=Option.some.inj (Mi.symm.trans hg');have q1:(i7.globals[0]?).map (·.type)=some 229:=by kernel_rfl
 have q2:i7.underlying 229=some (.array 42 9):=by kernel_rfl
 have q3:i7.underlying 9=some .string:=by kernel_rfl
 have q4:i7.cellsOf 9=1:=by kernel_rfl
 have q5:i7.cellsOf 229=42:=by kernel_rfl
 obtain rfl:=Option.some.inj (q1.symm.trans ht');have hcs:=tt q2 q3 q4 q5 hd;rw[Vd] at hcs;refine xB Mi ?_ aBF aHL;rw[hvar,←hcs]
theorem Qm{W:World}(h:laidMetH i7 Rows.hornChecksUptoRow.laid W):RelC (snapW W) pow10Cells 3 0:=by
 have h1:=nQ (name:= "internal/strconv.uint64pow10") (d:=Rows.laid_internal_strconv_uint64pow10) h kr kr;rw[Uh] at h1;have q1:(i7.globals[3]?).map (·.type)=some 370:=by kernel_rfl
 obtain⟨e,q2,q3,q4⟩:∃e,i7.underlying 370=some (.array 20 e)∧i7.underlying e=some (.int .u64)∧i7.cellsOf e=1:=⟨143,kr,kr,kr⟩;have q5:i7.cellsOf 370=20:=by kernel_rfl
 have ht:=Lib.tabIs_of_head Cz q1 q2 q3 q4 q5 h1;unfold Lib.TabIs at ht;rw[Ug] at ht;exact xB Cz ht Uf aAF
theorem Rl{W:World}(h:laidMetH i7 Rows.hornChecksUptoRow.laid W):∀q cs,globCells q=some cs→RelC (snapW W) cs q 0:=by
 intro q cs hq;unfold globCells at hq;split at hq
 ·cases hq;exact yF h
 ·cases hq;exact Qm h
 ·cases hq
end Go.Proofs.YtkhblipgiijoiaaGreatDoor
