/- VOpen VLaid -/
import Derived.Test.YtmbabhlmdhghdaaGreatDoorQ1
import Derived.ProofKit
import Derived.ChangeArms
import Derived.ReadAgain
import Derived.Test.YtmbabhlmdhghdaaGreatDoorRows
import Derived.LaidSub
import Derived.MakeChecks
import Derived.Lib.LaidTab
set_option linter.all false
open Option renaming some->Z, none->Y
open Bool renaming true->J, false->U
open Bool renaming and_eq_true->im
open List renaming all_cons->j9, cons_append->jj, getElem?_eq_getElem->ji, getElem?_eq_none->Bh, getElem?_map->Av, length_cons->jf, map_cons->jk
open Nat renaming add_zero->Ao
open Option renaming map_eq_some_iff->A8
open Go.Proofs.Tryz renaming prog->ib
namespace Go.Proofs.YtmbabhlmdhghdaaGreatDoor
open Go Go.AM Go.WideShapes
set_option maxRecDepth 10000
mutual
def cK{H:Type}:DataW H->Nat
 |.lit (.string bytes)=>bytes.length+1
 |.lit _=>1
 |.nil=>1
 |.ptr d=>cK d+1
 |.slice elems spare=>jU elems+jU spare+1
 |.agg parts=>jU parts+1
 |.iface _ d=>cK d+1
 |.map _=>1
 |.held _=>1
def jU{H:Type}:List (DataW H)->Nat
 | []=>0
 |d::r=>cK d+jU r
end
def fN(W:World):bE:=λb o=>W.cell? ⟨b,o,Y⟩
theorem Ds{S:bE}:∀{xs ys:List AV} {b off:Nat},cD S xs b off->cD S ys b (off+xs.length)->cD S (xs++ys) b off
 | [],ys,b,off,_,k=>by simpa only[List.nil_append,List.length_nil,Ao] using k
 |x::xs,ys,b,off,h,k=>by
  simp only[cD] at h;simp only[jj,cD];exact⟨h.1,Ds h.2 (by rw[jf] at k;rw[show off+1+xs.length=off+(xs.length+1) by omega];exact k)⟩
theorem Sc{S:bE}{b:Nat}:∀{cs:List AV} {vs:List Value} {off:Nat},aZ S nof cs vs->vs.all (·.oneCell')=J->(∀i v,vs[i]? =Z v->S b (off+i)=Z v)->cD S cs b off
 | [],_,_,_,_,_=>by simp only[cD]
 |c::cs,vs,off,h,ho,k=>by
  simp only[aZ] at h;obtain⟨y,ys,rfl,h1,h2⟩:=h;simp only[j9,im] at ho;simp only[cD];refine⟨⟨y,k 0 y rfl,ho.1,h1⟩,Sc h2 ho.2 λi v hv=>?_⟩;have:=k (i+1) v hv;rw[show off+1+i=off+(i+1) by omega]
  exact this
theorem tK{S:bE}{f:Emb}{v:Value}(ho:v.oneCell'=J):Rel S f (.val v) v:=by
 rw[Rel];exact⟨rfl,ho⟩
theorem Yh{S:bE}{f:Emb}:∀{cs:List AV} {vs:List Value},aZ S f cs vs->vs.length=cs.length
 | [],vs,h=>by
  simp only[aZ] at h;rw[h];rfl
 |c::cs,vs,h=>by
  simp only[aZ] at h;obtain⟨y,ys,rfl,_,h2⟩:=h;simp only[jf,Yh h2]
theorem Qt{H:Type}:∀d:DataW H,1<=cK d
 |.lit l=>by cases l<;>simp only[cK]<;>omega
 |.nil=>by simp only[cK];omega
 |.ptr d=>by simp only[cK];omega
 |.slice _ _=>by simp only[cK];omega
 |.agg _=>by simp only[cK];omega
 |.iface _ _=>by simp only[cK];omega
 |.map _=>by simp only[cK];omega
 |.held _=>by simp only[cK];omega
section
variable {H:Type}{enc:TypeId×Value->H}{W:World}
def Holds{α:Type}(W:World)(f:α->List AV)(fit:α->Nat->Prop)(cs:List Value)(b:Nat):Prop:=∃a:α,aZ (fN W) nof (f a) cs/\cs.all (·.oneCell')=J/\fit a b
def nc{α:Type}(fit:α->Nat->Prop):List α->Nat->Prop
 | [],_=>True
 |a::l,b=>∃b1 b2,1<=b1/\b1+b2<=b/\fit a b1/\nc fit l b2
theorem nc.le{α:Type}{fit:α->Nat->Prop}:∀{l:List α} {b c:Nat},nc fit l b->b<=c->nc fit l c
 | [],_,_,_,_=>trivial
 |a::l,b,c,⟨b1,b2,h1,h2,h3,h4⟩,h=>⟨b1,b2,h1,om,h3,h4⟩
theorem nc.len{α:Type}{fit:α->Nat->Prop}:∀{l:List α} {b:Nat},nc fit l b->l.length<=b
 | [],_,_=>Nat.zero_le _
 |a::l,b,⟨b1,b2,h1,h2,h3,h4⟩=>by
  have:=nc.len h4;rw[jf];omega
theorem nc.mem{α:Type}{fit:α->Nat->Prop}:∀{l:List α} {b:Nat} {a:α},nc fit l b->a∈l->∃c,c<=b/\fit a c
 |x::l,b,a,⟨b1,b2,h1,h2,h3,h4⟩,h=>by
  rcases List.mem_cons.1 h with rfl|h
  ·exact⟨b1,om,h3⟩
  ·obtain⟨c,c1,c2⟩:=nc.mem h4 h;exact⟨c,om,c2⟩
theorem Nq{α:Type}{f:α->List AV}{fit:α->Nat->Prop}{es b off:Nat}(hf:∀a,(f a).length=es):∀(ds:List (DataW H)) (j:Nat),(∀i d,ds[i]? =Z d->∃cs,W.cells? 0 ((⟨b,off,Y⟩:Addr).add ((j+i)*es)) es=Z cs/\Holds W f fit cs (cK d))->
  ∃l:List α,l.length=ds.length/\cD (fN W) (l.flatMap f) b (off+j*es)/\nc fit l (jU ds)
 | [],j,_=>⟨[],rfl,by simp only[List.flatMap_nil,cD],trivial⟩
 |d::ds,j,h=>by
  obtain⟨cs,hc,a,hp,ho,hn⟩:=h 0 d rfl;obtain⟨l,h1,h2,h3⟩:=Nq hf ds (j+1) λi e he=>by
   have:=h (i+1) e (by simpa only[List.getElem?_cons_succ] using he)
   rw[show j+1+i=j+(i+1) by omega]
   exact this
  obtain⟨_,hl,hcell⟩:=World.cells?_some hc;have hl':cs.length=es:=by rw[Yh hp,hf]
  refine⟨a::l,by simp only[jf,h1],?_,cK d,jU ds,Qt d,by simp only[jU];omega,hn,h3⟩
  simp only[List.flatMap_cons];refine Ds (Sc hp ho λi v hv=>?_) ?_
  ·have hi:i<es:=by
    rcases Nat.lt_or_ge i cs.length with x|x
    ·omega
    ·rw[Bh x] at hv;cases hv
   have:=hcell i hi;rw[hv,add_plain,add_plain] at this
   simpa only[fN,Ao] using this
  ·rw[hf,show off+j*es+es=off+(j+1)*es by rw[Nat.add_mul];omega]
   exact h2
theorem tZ{α:Type}{f:α->List AV}{fit:α->Nat->Prop}{es n:Nat}{t e:TypeId}{v:Value}{x:DataW H×List MemPlace}(hf:∀a,(f a).length=es)(hes:0<es)(hu:ib.underlying t=Z (.slice e))(hc:ib.cellsOf e=es)
  (h:DataW.trod enc ib W 0 (λ_=>J) J n t [v]=Z x) (ih:∀m,m<n->∀cs y,DataW.trod enc ib W 0 (λ_=>J) J m e cs=Z y->Holds W f fit cs (cK y.1)):
  ∃w:Vl α,Rel (fN W) nof (w.A f) v/\v.oneCell'=J/\nc fit w.l (cK x.1-1):=by
 rcases DataW.trod_slice hu h with⟨e3,rfl⟩|⟨a,len,cap,elems,rest,m,rfl,e3,rfl,_,hlc,_,hel,hget,_⟩
 ·cases e3;exact⟨⟨[],Z (Y,0),Y⟩,tK rfl,rfl,trivial⟩
 ·cases e3;cases len with
  |zero=>exact⟨⟨[],Z (Z a,cap),Y⟩,tK rfl,rfl,trivial⟩
  |succ len=>
   have hall:∀i,i<len+1->∃cs y,W.cells? 0 (a.add (i*es)) es=Z cs/\DataW.trod enc ib W 0 (λ_=>J) J m e cs=Z y/\elems[i]? =Z y:=λi hi=>by
    have hg:=hget i hi;rw[hc] at hg;have hi':i<elems.length:=om;rw[ji hi'] at hg;obtain⟨cs,q1,q2⟩:=Option.bind_eq_some_iff.1 hg;exact⟨cs,_,q1,q2,ji hi'⟩
   obtain⟨b,off,spot⟩:=a;have hspot:spot=Y:=by
    obtain⟨cs,y,q1,_⟩:=hall 0 om;obtain⟨_,hl,hcell⟩:=World.cells?_some q1;have:=hcell 0 hes
    match cs,hl with
    | [],hl=>simp only[List.length_nil] at hl;omega
    |c0::_,_=>
     have hs:=World.cell?_spot this
     simpa [Addr.add] using hs
   subst hspot;obtain⟨l,g1,g2,g3⟩:=Nq (W:=W) (b:=b) (off:=off) hf (elems.map (·.1)) 0 λi d hd=>by
    rw[Av] at hd;obtain⟨y,hy,rfl⟩:=A8.1 hd;have hi:i<elems.length:=by
     rcases Nat.lt_or_ge i elems.length with z|z
     ·exact z
     ·rw[Bh z] at hy;cases hy
    obtain⟨cs,y',q1,q2,q3⟩:=hall i om;rw[hy] at q3;cases q3;rw[Nat.zero_add];exact⟨cs,q1,ih m om cs y q2⟩
   rw[List.length_map] at g1;refine⟨⟨l,Y,Y⟩,?_,rfl,g3.le ?_⟩
   ·simp only[Vl.A,cV,Option.isSome_none,Bool.false_and,cond_false,Rel];refine⟨b,off,cap,?_,om,λk hk=>(by cases hk),?_⟩
    ·rw[g1,hel]
    ·simpa only[Nat.zero_mul,Ao] using g2
   ·simp only[cK];omega
theorem bSM:ib.cellsOf 3=1:=kr
theorem aZL:ib.cellsOf 9=1:=kr
theorem bSQ:ib.cellsOf 22=1:=kr
theorem bSP:ib.cellsOf 23=1:=kr
theorem bSO:ib.cellsOf 24=1:=kr
theorem bSN:ib.cellsOf 26=3:=kr
theorem aZN:ib.cellsOf 37=1:=kr
theorem bIN:ib.cellsOf 41=1:=kr
theorem bSL:ib.cellsOf 40=1:=kr
theorem aBV:ib.cellsOf 43=4:=kr
theorem bIL:ib.cellsOf 50=7:=kr
theorem bIO:ib.cellsOf 39=2:=kr
theorem bIM:ib.cellsOf 45=6:=kr
theorem aZM:ib.cellsOf 79=1:=kr
theorem aLS:ib.cellsOf 81=2:=kr
theorem bNZ:ib.cellsOf 153=1:=kr
theorem aZO:ib.cellsOf 155=3:=kr
theorem bQH:ib.underlying 22=Z (.slice 155):=kr
theorem bQG:ib.underlying 23=Z (.slice 39):=kr
theorem bQF:ib.underlying 24=Z (.slice 50):=kr
theorem aHJ:ib.underlying 27=Z (.slice 45):=kr
theorem aRK:ib.underlying 37=Z (.slice 81):=kr
theorem bHI:ib.underlying 41=Z (.slice 43):=kr
theorem bJR:ib.underlying 153=Z (.slice 79):=kr
theorem bQE:ib.underlying 3=Z (.int .i64):=kr
theorem bQD:ib.underlying 40=Z (.int .i64):=kr
theorem aRI:ib.underlying 9=Z .string:=kr
theorem aRJ:ib.underlying 79=Z .string:=kr
def fitPr(p:Pr)(b:Nat):Prop:=p.nodes<=b
theorem aFA:∀{l:List Pr} {b:Nat},nc fitPr l b->Pr.aI l<=b
 | [],_,_=>Nat.zero_le _
 |p::l,b,⟨b1,b2,h1,h2,h3,h4⟩=>by
  have:=aFA h4;have h3:p.nodes<=b1:=h3;simp only[Pr.aI];omega
theorem aRY(fuel:Nat)(cs:List Value)(x:DataW H×List MemPlace)(h:DataW.trod enc ib W 0 (λ_=>J) J fuel 79 cs=Z x):Holds W bV (λ_ _=>True) cs (cK x.1):=by
 obtain⟨s,e,rfl,_⟩:=DataW.trod_string aRJ h;subst e;refine⟨s,?_,rfl,trivial⟩;simp only[bV,aZ];exact⟨_,_,rfl,tK rfl,rfl⟩
theorem Si:∀(fuel:Nat) (cs:List Value) (x:DataW H×List MemPlace),DataW.trod enc ib W 0 (λ_=>J) J fuel 43 cs=Z x->Holds W Pr.cells fitPr cs (cK x.1):=by
 intro fuel
 induction fuel using Nat.strongRecOn with
 |_ fuel ih=>
 intro cs x h;obtain⟨xs,n,rfl,rfl,hl,hlen,hf⟩:=DataW.trod_struct Tryz.underlying43 h;rw[aBV] at hl
 match cs,hl with
 | [a,b,c,d],_=>
 match xs,hlen with
 | [x0,x1,x2,x3],_=>
 have h0:=hf 0 _ rfl;have h1:=hf 1 _ rfl;have h2:=hf 2 _ rfl;have h3:=hf 3 _ rfl;change DataW.trod enc ib W 0 (λ_=>J) J n 40 (([a,b,c,d].drop 0).take (ib.cellsOf 40))=Z x0 at h0;rw[bSL] at h0;change DataW.trod enc ib W 0 (λ_=>J) J n 40 [a]=Z x0 at h0;change DataW.trod enc ib W 0 (λ_=>J) J n 9 (([a,b,c,d].drop 1).take (ib.cellsOf 9))=Z x1 at h1;rw[aZL] at h1;change DataW.trod enc ib W 0 (λ_=>J) J n 9 [b]=Z x1 at h1;change DataW.trod enc ib W 0 (λ_=>J) J n 3 (([a,b,c,d].drop 2).take (ib.cellsOf 3))=Z x2 at h2;rw[bSM] at h2;change DataW.trod enc ib W 0 (λ_=>J) J n 3 [c]=Z x2 at h2;change DataW.trod enc ib W 0 (λ_=>J) J n 41 (([a,b,c,d].drop 3).take (ib.cellsOf 41))=Z x3 at h3;rw[bIN] at h3;change DataW.trod enc ib W 0 (λ_=>J) J n 41 [d]=Z x3 at h3;obtain⟨k0,e0,rfl,_⟩:=DataW.trod_int bQD h0;obtain⟨s1,e1,rfl,_⟩:=DataW.trod_string aRI h1;obtain⟨k2,e2,rfl,_⟩:=DataW.trod_int bQE h2;cases e0;cases e1;cases e2;obtain⟨w,hr,ho,hk⟩:=tZ (f:=Pr.cells) (fit:=fitPr) Pr.len de bHI aBV h3 λm hm cs y hy=>ih m om cs y hy;have hkl:=aFA hk;have es:s1.data.toList.length=s1.size:=rfl;refine⟨.mk k0 s1 k2 w.l w.nl w.cap,?_,?_,?_⟩
 ·simp only[Pr.cells,aZ,Pr.bG];exact⟨_,_,rfl,tK rfl,_,_,rfl,tK rfl,_,_,rfl,tK rfl,_,_,rfl,hr,rfl⟩
 ·show(J&&(J&&(J&&(d.oneCell'&&J))))=J;rw[ho];rfl
 ·show 1+Pr.aI w.l<=_;have hp:=Qt x3.1;exact U151
theorem Rd(fuel:Nat)(cs:List Value)(x:DataW H×List MemPlace)(h:DataW.trod enc ib W 0 (λ_=>J) J fuel 81 cs=Z x):Holds W Vr.cells (λ_ _=>True) cs (cK x.1):=by
 obtain⟨xs,n,rfl,rfl,hl,hlen,hf⟩:=DataW.trod_struct Tryz.underlying81 h;rw[aLS] at hl
 match cs,hl with
 | [a,b],_=>
 match xs,hlen with
 | [x0,x1],_=>
 have h0:=hf 0 _ rfl;have h1:=hf 1 _ rfl;change DataW.trod enc ib W 0 (λ_=>J) J n 9 (([a,b].drop 0).take (ib.cellsOf 9))=Z x0 at h0;rw[aZL] at h0;change DataW.trod enc ib W 0 (λ_=>J) J n 9 [a]=Z x0 at h0;change DataW.trod enc ib W 0 (λ_=>J) J n 79 (([a,b].drop 1).take (ib.cellsOf 79))=Z x1 at h1;rw[aZM] at h1;change DataW.trod enc ib W 0 (λ_=>J) J n 79 [b]=Z x1 at h1;obtain⟨s0,e0,rfl,_⟩:=DataW.trod_string aRI h0;obtain⟨s1,e1,rfl,_⟩:=DataW.trod_string aRJ h1;cases e0;cases e1;refine⟨⟨s0,s1⟩,?_,rfl,trivial⟩;simp only[Vr.cells,aZ];exact⟨_,_,rfl,tK rfl,_,_,rfl,tK rfl,rfl⟩
def fitSm(s:Sm)(b:Nat):Prop:=s.as.l.length<=b
theorem bBV(fuel:Nat)(cs:List Value)(x:DataW H×List MemPlace)(h:DataW.trod enc ib W 0 (λ_=>J) J fuel 155 cs=Z x):Holds W Sm.cells fitSm cs (cK x.1):=by
 obtain⟨xs,n,rfl,rfl,hl,hlen,hf⟩:=DataW.trod_struct Tryz.underlying155 h;rw[aZO] at hl
 match cs,hl with
 | [a,b,c],_=>
 match xs,hlen with
 | [x0,x1,x2],_=>
 have h0:=hf 0 _ rfl;have h1:=hf 1 _ rfl;have h2:=hf 2 _ rfl;change DataW.trod enc ib W 0 (λ_=>J) J n 9 (([a,b,c].drop 0).take (ib.cellsOf 9))=Z x0 at h0;rw[aZL] at h0;change DataW.trod enc ib W 0 (λ_=>J) J n 9 [a]=Z x0 at h0;change DataW.trod enc ib W 0 (λ_=>J) J n 153 (([a,b,c].drop 1).take (ib.cellsOf 153))=Z x1 at h1;rw[bNZ] at h1;change DataW.trod enc ib W 0 (λ_=>J) J n 153 [b]=Z x1 at h1;change DataW.trod enc ib W 0 (λ_=>J) J n 79 (([a,b,c].drop 2).take (ib.cellsOf 79))=Z x2 at h2;rw[aZM] at h2;change DataW.trod enc ib W 0 (λ_=>J) J n 79 [c]=Z x2 at h2;obtain⟨s0,e0,rfl,_⟩:=DataW.trod_string aRI h0;obtain⟨s2,e2,rfl,_⟩:=DataW.trod_string aRJ h2;cases e0;cases e2;obtain⟨w,hr,ho,hk⟩:=tZ (f:=bV) (fit:=λ_ _=>True) sz de bJR aZM h1 λm hm cs y hy=>aRY m cs y hy;have hkl:=hk.len;refine⟨⟨s0,w,s2⟩,?_,?_,?_⟩
 ·simp only[Sm.cells,aZ];exact⟨_,_,rfl,tK rfl,_,_,rfl,hr,_,_,rfl,tK rfl,rfl⟩
 ·show(J&&(b.oneCell'&&(J&&J)))=J;rw[ho];rfl
 ·show w.l.length<=_;exact U151
def fitHo(s:Ho)(b:Nat):Prop:=s.ps.l.length<=b
theorem bDZ(fuel:Nat)(cs:List Value)(x:DataW H×List MemPlace)(h:DataW.trod enc ib W 0 (λ_=>J) J fuel 39 cs=Z x):Holds W Ho.cells fitHo cs (cK x.1):=by
 obtain⟨xs,n,rfl,rfl,hl,hlen,hf⟩:=DataW.trod_struct Tryz.underlying39 h;rw[bIO] at hl
 match cs,hl with
 | [a,b],_=>
 match xs,hlen with
 | [x0,x1],_=>
 have h0:=hf 0 _ rfl;have h1:=hf 1 _ rfl;change DataW.trod enc ib W 0 (λ_=>J) J n 9 (([a,b].drop 0).take (ib.cellsOf 9))=Z x0 at h0;rw[aZL] at h0;change DataW.trod enc ib W 0 (λ_=>J) J n 9 [a]=Z x0 at h0;change DataW.trod enc ib W 0 (λ_=>J) J n 37 (([a,b].drop 1).take (ib.cellsOf 37))=Z x1 at h1;rw[aZN] at h1;change DataW.trod enc ib W 0 (λ_=>J) J n 37 [b]=Z x1 at h1;obtain⟨s0,e0,rfl,_⟩:=DataW.trod_string aRI h0;cases e0;obtain⟨w,hr,ho,hk⟩:=tZ (f:=Vr.cells) (fit:=λ_ _=>True) Vr.len de aRK aLS h1 λm hm cs y hy=>Rd m cs y hy;have hkl:=hk.len;refine⟨⟨s0,w⟩,?_,?_,?_⟩
 ·simp only[Ho.cells,aZ];exact⟨_,_,rfl,tK rfl,_,_,rfl,hr,rfl⟩
 ·show(J&&(b.oneCell'&&J))=J;rw[ho];rfl
 ·show w.l.length<=_;exact U151
theorem Yi{S:bE}{f:Emb}:∀{xs ys:List AV} {us vs:List Value},aZ S f xs us->aZ S f ys vs->aZ S f (xs++ys) (us++vs)
 | [],ys,us,vs,h,k=>by
  simp only[aZ] at h;subst h;exact k
 |x::xs,ys,us,vs,h,k=>by
  simp only[aZ] at h;obtain⟨y,zs,rfl,h1,h2⟩:=h;simp only[jj,aZ];exact⟨y,zs++vs,rfl,h1,Yi h2 k⟩
def fitCl(c:Cl)(b:Nat):Prop:=c.vs.l.length<=b/\Pr.aI c.hy.l+c.hd.nodes<=b
theorem bGL(fuel:Nat)(cs:List Value)(x:DataW H×List MemPlace)(h:DataW.trod enc ib W 0 (λ_=>J) J fuel 50 cs=Z x):Holds W Cl.cells fitCl cs (cK x.1):=by
 obtain⟨xs,n,rfl,rfl,hl,hlen,hf⟩:=DataW.trod_struct Tryz.underlying50 h;rw[bIL] at hl
 match cs,hl with
 | [a,b,c,d,e,f,g],_=>
 match xs,hlen with
 | [x0,x1,x2,x3],_=>
 have h0:=hf 0 _ rfl;have h1:=hf 1 _ rfl;have h2:=hf 2 _ rfl;have h3:=hf 3 _ rfl;change DataW.trod enc ib W 0 (λ_=>J) J n 37 (([a,b,c,d,e,f,g].drop 0).take (ib.cellsOf 37))=Z x0 at h0;rw[aZN] at h0;change DataW.trod enc ib W 0 (λ_=>J) J n 37 [a]=Z x0 at h0;change DataW.trod enc ib W 0 (λ_=>J) J n 41 (([a,b,c,d,e,f,g].drop 1).take (ib.cellsOf 41))=Z x1 at h1;rw[bIN] at h1;change DataW.trod enc ib W 0 (λ_=>J) J n 41 [b]=Z x1 at h1;change DataW.trod enc ib W 0 (λ_=>J) J n 43 (([a,b,c,d,e,f,g].drop 2).take (ib.cellsOf 43))=Z x2 at h2;rw[aBV] at h2;change DataW.trod enc ib W 0 (λ_=>J) J n 43 [c,d,e,f]=Z x2 at h2;change DataW.trod enc ib W 0 (λ_=>J) J n 3 (([a,b,c,d,e,f,g].drop 6).take (ib.cellsOf 3))=Z x3 at h3;rw[bSM] at h3;change DataW.trod enc ib W 0 (λ_=>J) J n 3 [g]=Z x3 at h3;obtain⟨k3,e3,rfl,_⟩:=DataW.trod_int bQE h3;cases e3;obtain⟨w0,hr0,ho0,hk0⟩:=tZ (f:=Vr.cells) (fit:=λ_ _=>True) Vr.len de aRK aLS h0 λm hm cs y hy=>Rd m cs y hy;obtain⟨w1,hr1,ho1,hk1⟩:=tZ (f:=Pr.cells) (fit:=fitPr) Pr.len de bHI aBV h1 λm hm cs y hy=>Si m cs y hy;obtain⟨p,hp,hpo,hpf⟩:=Si _ _ _ h2;have hkl0:=hk0.len;have hkl1:=aFA hk1;have hpf:p.nodes<=cK x2.1:=hpf;refine⟨⟨w0,w1,p,k3⟩,?_,?_,?_,?_⟩
 ·simp only[Cl.cells,aZ];refine⟨_,_,rfl,hr0,_,_,rfl,hr1,?_⟩;have:=Yi (S:=fN W) (f:=nof) (xs:=p.cells) (ys:=[vI k3]) (us:=[c,d,e,f]) (vs:=[.int .i64 k3]) hp (by
   simp only[aZ];exact⟨_,_,rfl,tK rfl,rfl⟩)
  exact this
 ·have hpo:=U407;show(a.oneCell'&&(b.oneCell'&&(c.oneCell'&&(d.oneCell'&&(e.oneCell'&&(f.oneCell'&&(J&&J)))))))=J;rw[ho0,ho1]
  simpa using hpo
 ·show w0.l.length<=_;exact U151
 ·show Pr.aI w1.l+p.nodes<=_;exact U151
def fitQu(q:Qu)(b:Nat):Prop:=q.vs.l.length<=b/\q.bd.nodes<=b
theorem bCJ(fuel:Nat)(cs:List Value)(x:DataW H×List MemPlace)(h:DataW.trod enc ib W 0 (λ_=>J) J fuel 45 cs=Z x):Holds W Qu.cells fitQu cs (cK x.1):=by
 obtain⟨xs,n,rfl,rfl,hl,hlen,hf⟩:=DataW.trod_struct Tryz.underlying45 h;rw[bIM] at hl
 match cs,hl with
 | [a,b,c,d,e,f],_=>
 match xs,hlen with
 | [x0,x1,x2],_=>
 have h0:=hf 0 _ rfl;have h1:=hf 1 _ rfl;have h2:=hf 2 _ rfl;change DataW.trod enc ib W 0 (λ_=>J) J n 9 (([a,b,c,d,e,f].drop 0).take (ib.cellsOf 9))=Z x0 at h0;rw[aZL] at h0;change DataW.trod enc ib W 0 (λ_=>J) J n 9 [a]=Z x0 at h0;change DataW.trod enc ib W 0 (λ_=>J) J n 37 (([a,b,c,d,e,f].drop 1).take (ib.cellsOf 37))=Z x1 at h1;rw[aZN] at h1;change DataW.trod enc ib W 0 (λ_=>J) J n 37 [b]=Z x1 at h1;change DataW.trod enc ib W 0 (λ_=>J) J n 43 (([a,b,c,d,e,f].drop 2).take (ib.cellsOf 43))=Z x2 at h2;rw[aBV] at h2;change DataW.trod enc ib W 0 (λ_=>J) J n 43 [c,d,e,f]=Z x2 at h2;obtain⟨s0,e0,rfl,_⟩:=DataW.trod_string aRI h0;cases e0;obtain⟨w1,hr1,ho1,hk1⟩:=tZ (f:=Vr.cells) (fit:=λ_ _=>True) Vr.len de aRK aLS h1 λm hm cs y hy=>Rd m cs y hy;obtain⟨p,hp,hpo,hpf⟩:=Si _ _ _ h2;have hkl1:=hk1.len;have hpf:p.nodes<=cK x2.1:=hpf;refine⟨⟨s0,w1,p⟩,?_,?_,?_,?_⟩
 ·simp only[Qu.cells,aZ];exact⟨_,_,rfl,tK rfl,_,_,rfl,hr1,hp⟩
 ·have hpo:=U407;show(J&&(b.oneCell'&&(c.oneCell'&&(d.oneCell'&&(e.oneCell'&&(f.oneCell'&&J))))))=J;rw[ho1]
  simpa using hpo
 ·show w1.l.length<=_;exact U151
 ·show p.nodes<=_;exact U151
structure HnB (H:Hn):Prop where
 sy:H.sy.l.length<2^28
 sa:∀x∈H.sy.l,x.as.l.length<2^28
 hs:H.hs.l.length<2^28
 hp:∀k∈H.hs.l,k.ps.l.length<2^28
 cs:H.cs.l.length<2^28
 cv:∀c∈H.cs.l,c.vs.l.length<2^28
 cn:∀c∈H.cs.l,Pr.aI c.hy.l+c.hd.nodes<2^28
theorem HnB.raw{H:Hn}(b:HnB H){L:Vl Qu}(hl:L.l.length<2^28)(hn:∀q∈L.l,q.bd.nodes<2^28):RawB H L:=⟨b.hs,b.hp,b.sy,b.sa,b.cs,b.cv,λc hc=>by
 have:=b.cn c hc;have:=rl c.hy.l;omega,λc hc=>by
 have:=b.cn c hc;exact⟨λp hp=>by have:=yL hp;omega,om⟩,hl,hn⟩
theorem bEA(fuel:Nat)(cs:List Value)(x:DataW H×List MemPlace)(h:DataW.trod enc ib W 0 (λ_=>J) J fuel 26 cs=Z x)(hb:cK x.1<=1048576):∃a:Hn,aZ (fN W) nof a.cells cs/\cs.all (·.oneCell')=J/\HnB a:=by
 obtain⟨xs,n,rfl,rfl,hl,hlen,hf⟩:=DataW.trod_struct Tryz.underlying26 h;rw[bSN] at hl
 match cs,hl with
 | [a,b,c],_=>
 match xs,hlen with
 | [x0,x1,x2],_=>
 have h0:=hf 0 _ rfl;have h1:=hf 1 _ rfl;have h2:=hf 2 _ rfl;change DataW.trod enc ib W 0 (λ_=>J) J n 22 (([a,b,c].drop 0).take (ib.cellsOf 22))=Z x0 at h0;rw[bSQ] at h0;change DataW.trod enc ib W 0 (λ_=>J) J n 22 [a]=Z x0 at h0;change DataW.trod enc ib W 0 (λ_=>J) J n 23 (([a,b,c].drop 1).take (ib.cellsOf 23))=Z x1 at h1;rw[bSP] at h1;change DataW.trod enc ib W 0 (λ_=>J) J n 23 [b]=Z x1 at h1;change DataW.trod enc ib W 0 (λ_=>J) J n 24 (([a,b,c].drop 2).take (ib.cellsOf 24))=Z x2 at h2;rw[bSO] at h2;change DataW.trod enc ib W 0 (λ_=>J) J n 24 [c]=Z x2 at h2;obtain⟨w0,hr0,ho0,hk0⟩:=tZ (f:=Sm.cells) (fit:=fitSm) Sm.len de bQH aZO h0 λm hm cs y hy=>bBV m cs y hy;obtain⟨w1,hr1,ho1,hk1⟩:=tZ (f:=Ho.cells) (fit:=fitHo) Ho.len de bQG bIO h1 λm hm cs y hy=>bDZ m cs y hy;obtain⟨w2,hr2,ho2,hk2⟩:=tZ (f:=Cl.cells) (fit:=fitCl) Cl.len de bQF bIL h2 λm hm cs y hy=>bGL m cs y hy;have l0:=hk0.len;have l1:=hk1.len;have l2:=hk2.len;simp only[jk,List.map_nil,cK,jU] at hb;refine⟨⟨w0,w1,w2⟩,?_,by
  show(a.oneCell'&&(b.oneCell'&&(c.oneCell'&&J)))=J;rw[ho0,ho1,ho2];rfl,by show w0.l.length<_;omega,λs hs=>?_,by show w1.l.length<_;omega,λs hs=>?_,by show w2.l.length<_;omega,λs hs=>?_,λs hs=>?_⟩
 ·simp only[Hn.cells,aZ];exact⟨_,_,rfl,hr0,_,_,rfl,hr1,_,_,rfl,hr2,rfl⟩
 ·obtain⟨c,c1,c2⟩:=hk0.mem hs;have c2:s.as.l.length<=c:=c2;omega
 ·obtain⟨c,c1,c2⟩:=hk1.mem hs;have c2:s.ps.l.length<=c:=c2;omega
 ·obtain⟨c,c1,c2⟩:=hk2.mem hs;have c2:s.vs.l.length<=c:=c2.1;omega
 ·obtain⟨k,c1,c2⟩:=hk2.mem hs;have c2:Pr.aI s.hy.l+s.hd.nodes<=k:=c2.2;omega
theorem aDP(fuel:Nat)(v:Value)(x:DataW H×List MemPlace)(h:DataW.trod enc ib W 0 (λ_=>J) J fuel 27 [v]=Z x)(hb:cK x.1<=1048576):∃w:Vl Qu,Rel (fN W) nof (w.A Qu.cells) v/\w.l.length<2^28/\∀q∈w.l,q.bd.nodes<2^28:=by
 obtain⟨w,hr,ho,hk⟩:=tZ (f:=Qu.cells) (fit:=fitQu) Qu.len de aHJ bIM h λm hm cs y hy=>bCJ m cs y hy;have l:=hk.len;refine⟨w,hr,om,λs hs=>?_⟩;obtain⟨c,c1,c2⟩:=hk.mem hs;have c2:s.bd.nodes<=c:=c2.2;omega
end
end Go.Proofs.YtmbabhlmdhghdaaGreatDoor
namespace Go.Proofs.YtmbabhlmdhghdaaGreatDoor
open Go Go.AM Go.WideShapes
set_option maxRecDepth 10000
mutual
theorem zu{H:Type}:∀d:DataW H,cK d<=Rows.uptoBulk d
 |.lit l=>by cases l<;>simp[cK,Rows.uptoBulk]
 |.nil=>by simp[cK,Rows.uptoBulk]
 |.ptr d=>by have:=zu d;simp only[cK,Rows.uptoBulk];omega
 |.slice e s=>by have:=zw e;have:=zw s;simp only[cK,Rows.uptoBulk];omega
 |.agg p=>by have:=zw p;simp only[cK,Rows.uptoBulk];omega
 |.iface _ d=>by have:=zu d;simp only[cK,Rows.uptoBulk];omega
 |.map _=>by simp only[cK,Rows.uptoBulk];omega
 |.held _=>by simp only[cK,Rows.uptoBulk];omega
theorem zw{H:Type}:∀l:List (DataW H),jU l<=Rows.uptoBulkAll l
 | []=>by simp[jU,Rows.uptoBulkAll]
 |d::r=>by have:=zu d;have:=zw r;simp only[jU,Rows.uptoBulkAll];omega
end
theorem Ky{H:Type}{enc:TypeId×Value->H}{P:Program}{w:World}{base:Nat}{sp:Nat->Bool}{held:Bool}{fuel:Nat}{t e:TypeId}{n:Nat}{cs:List Value}{l:List (List UInt8)}{p:List MemPlace}
  (ht:P.underlying t=Z (.array n e)) (he:P.underlying e=Z .string) (hce:P.cellsOf e=1) (hct:P.cellsOf t=n)
  (h:DataW.trod enc P w base sp held fuel t cs=Z (.agg (l.map λb=>.lit (.string b)),p)):cs=l.map λb=>Value.string ⟨b.toArray⟩:=by
 cases fuel with
 |zero=>simp[DataW.trod] at h
 |succ fuel=>
  simp only[DataW.trod,ht,hce,hct,Nat.mul_one] at h;split at h
  ·rename_i hl;obtain⟨xs,hm,hx⟩:=A8.1 h;have hxs:xs.map (·.1)=l.map λb=>(DataW.lit (.string b):DataW H):=by
    have:=congrArg Prod.fst hx
    simpa using this
   have hxl:xs.length=n:=by simpa using Lib.mapM_length hm
   have hzl:l.length=n:=by
    have:=congrArg List.length hxs;simp at this;omega
   apply List.ext_getElem?;intro i
   by_cases hi:i<n
   ·obtain⟨b,hb,hf⟩:=Lib.mapM_at hm i i (by simp[hi])
    obtain⟨z,hc,rfl,_⟩:=DataW.trod_string he hf;have h1:cs[i]? =Z (.string z):=by
     have:=congrArg (·[0]?) hc
     simpa [List.getElem?_take,List.getElem?_drop] using this
    have h2:(xs.map (·.1))[i]? =Z (DataW.lit (.string z.data.toList):DataW H):=by simp[hb]
    rw[hxs] at h2;simp only[Av,A8,DataW.lit.injEq,Lit.string.injEq] at h2;obtain⟨z',hz',rfl⟩:=h2;simp[h1,hz']
   ·rw[Bh om,Bh (by simp;omega)]
  ·cases h
def iE:AV->Value
 |.val v=>v
 |_=>.bool U
def textOf:AV->List UInt8
 |.val (.string b)=>b.data.toList
 |_=>[]
def numOf:AV->Int
 |.val (.int _ n)=>n
 |_=>0
theorem Ns{S:bE}{f:Emb}:∀{vs:List Value},vs.all (·.oneCell')=J->aZ S f (vs.map AV.val) vs
 | [],_=>by simp only[List.map_nil,aZ]
 |v::vs,h=>by
  simp only[j9,im] at h;simp only[jk,aZ];exact⟨v,vs,rfl,tK h.1,Ns h.2⟩
theorem bDQ:cY=(cY.map iE).map AV.val:=kr
theorem bLA:(cY.map iE).all (·.oneCell')=J:=kr
theorem aUG:(cY.map textOf).map (λb=>Value.string ⟨b.toArray⟩)=cY.map iE:=kr
theorem bDR:Rows.laid_liquidcheck_names_keywords=(.agg ((cY.map textOf).map λb=>.lit (.string b)):DataW Unit):=kr
theorem aTB:eA=(eA.map iE).map AV.val:=kr
theorem bCS:(eA.map iE).all (·.oneCell')=J:=kr
theorem aTC:(eA.map numOf).map (λz=>Value.int .u64 z)=eA.map iE:=kr
theorem aTD:Rows.laid_internal_strconv_uint64pow10=(Lib.tabData .u64 (eA.map numOf):DataW Unit):=kr
theorem aIH:ib.globalNamed "liquidcheck/names.keywords" =Z 0:=kr
theorem Ys:ib.globalNamed "internal/strconv.uint64pow10" =Z 3:=kr
theorem Dt{W:World}{l:List (String×DataW Unit)}{name:String}{d:DataW Unit}(h:laidMetH ib l W)(hf:l.filter (λx=>x.1==name)=[(name,d)])(hn:d.handleName?.isNone=J):
  laidMet ib [(name,d)] W:=by
 have h1:=h.filter λx=>x.1==name;rw[hf] at h1;rw[MakeChecks.laidMetH_plain] at h1
 ·exact h1
 ·simp only[j9,List.all_nil,hn,Bool.and_self]
theorem Qq{W:World}{name:String}{g:Nat}{cs:List AV}(hg:ib.globalNamed name=Z g)(hv:W.var? ib name=Z (cs.map iE).toArray)(h1:cs=(cs.map iE).map AV.val)(h2:(cs.map iE).all (·.oneCell')=J):
  cD (fN W) cs g 0:=by
 rw[h1];refine Sc (Ns h2) h2 λi v hi=>?_
 have:=World.var?_cell hg hv i;rw[show(cs.map iE).toArray[i]? =(cs.map iE)[i]? by simp,hi] at this
 simpa only[fN,Nat.zero_add] using this
theorem Td{W:World}(h:laidMetH ib Rows.fixpointStartsUptoRow.laid W):cD (fN W) cY 0 0:=by
 have h1:=Dt (name:= "liquidcheck/names.keywords") (d:=Rows.laid_liquidcheck_names_keywords) h kr kr;rw[bDR] at h1;obtain⟨ps,⟨g',t',cs,fuel,p,q,hg',ht',hvar,hd,_,_⟩,_⟩:=h1;obtain rfl:=Option.some.inj (aIH.symm.trans hg');have q1:(ib.globals[0]?).map (·.type)=Z 278:=kr;have q2:ib.underlying 278=Z (.array 42 9):=kr;have q3:ib.underlying 9=Z .string:=kr;have q4:ib.cellsOf 9=1:=kr;have q5:ib.cellsOf 278=42:=kr;obtain rfl:=Option.some.inj (q1.symm.trans ht');have hcs:=Ky q2 q3 q4 q5 hd;rw[aUG] at hcs;refine Qq aIH ?_ bDQ bLA;rw[hvar,<-hcs]
theorem aNL{W:World}(h:laidMetH ib Rows.fixpointStartsUptoRow.laid W):cD (fN W) eA 3 0:=by
 have h1:=Dt (name:= "internal/strconv.uint64pow10") (d:=Rows.laid_internal_strconv_uint64pow10) h kr kr;rw[aTD] at h1;have q1:(ib.globals[3]?).map (·.type)=Z 385:=kr;obtain⟨e,q2,q3,q4⟩:∃e,ib.underlying 385=Z (.array 20 e)/\ib.underlying e=Z (.int .u64)/\ib.cellsOf e=1:=⟨364,kr,kr,kr⟩;have q5:ib.cellsOf 385=20:=kr;have ht:=Lib.tabIs_of_head Ys q1 q2 q3 q4 q5 h1;unfold Lib.TabIs at ht;rw[aTC] at ht;exact Qq Ys ht aTB bCS
theorem aPD{W:World}(h:laidMetH ib Rows.fixpointStartsUptoRow.laid W):∀q cs,jD q=Z cs->cD (fN W) cs q 0:=by
 intro q cs hq;unfold jD at hq;split at hq
 ·cases hq;exact Td h
 ·cases hq;exact aNL h
 ·cases hq
end Go.Proofs.YtmbabhlmdhghdaaGreatDoor
