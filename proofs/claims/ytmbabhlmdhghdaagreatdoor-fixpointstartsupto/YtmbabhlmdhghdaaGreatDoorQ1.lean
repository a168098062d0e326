/- VApps VEqr VQue VHfl VQues VAskq VSmal VLaw -/
import Derived.Test.YtmbabhlmdhghdaaGreatDoorN9
import Derived.Test.YtmbabhlmdhghdaaGreatDoorA1
set_option linter.all false
open Nat renaming reduceEqDiff->rA, reduceAdd->rB, reduceMul->rC
open Int renaming reduceEq->rD, reduceLT->rE, reduceLE->rF
open Option renaming some->Z, none->Y
open Bool renaming true->J, false->U
open Bool renaming and_eq_true->im
open List renaming append_nil->jm, length_append->jh, length_cons->jf, map_append->Bc, map_cons->jk, map_map->Ak, mem_append->jv, mem_cons->jl, mem_cons_of_mem->iy, mem_cons_self->ip, mem_map->js, mem_nil_iff->jd, mem_of_mem_drop->jp, mem_singleton->jb, mem_singleton_self->Bn
open Nat renaming beq_refl->Am, le_refl->ij, le_succ->j5, lt_succ_self->je, zero_le->il
namespace Go.Proofs.YtmbabhlmdhghdaaGreatDoor
open Go Go.AM
set_option maxHeartbeats 8000000
set_option maxRecDepth 10000
theorem Hq(p:Pr)(hb:p.nodes<2^28)(h:AH):aE E1 (.f 60) [p.av] h ((⟨rin 5 p [],ai,Y⟩:Vl Pr).A Pr.cells) h:=by
 refine sf rf bML (qr (Tree.pr p)) (λs hs hh hd hr=>?_) h;have h0:=hs 0 _ rfl;obtain⟨v',h1,c1,r1,n1,o1,_⟩:=wD 5 p om (AH.empty.alloc (.cells p.cells J)) 0 (.val (.slice Y 0 0)) [] (λq hq=>by cases hq) ⟨λc hc=>(by cases hc),rfl,.inl ⟨rfl,rfl⟩⟩ (il _) Gr
 simp[aWU,f60,V, *];refine gt (v:=v') (h':=h1) ?_ ?_
 ·simp[V];exact c1
 simp only[V,hd];refine⟨_,rfl,1,de,?_⟩;have:=r1.x.rep;have e:iA v' (rin 5 p []).length (Pr.aG (rin 5 p []))=(⟨rin 5 p [],ai,Y⟩:Vl Pr).A Pr.cells:=by
  rw[<-uQ rfl,<-Pr.bG];rcases r1 with⟨_,_,⟨e0,rfl⟩|⟨B,_,_,h3,rfl,_⟩⟩
  ·rw[e0];rfl
  ·have:Nat.beq (rin 5 p []).length 0=U:=Lg h3;show AV.imm _ _ _=bif _ then _ else _
   grind
 grind
theorem Sf(p:Pr)(hb:p.nodes<2^28)(h:AH):aE E1 (.f 64) [p.av] h ((⟨rin 4 p [],ai,Y⟩:Vl Pr).A Pr.cells) h:=by
 refine sf rf bMH (qr (Tree.pr p)) (λs hs hh hd hr=>?_) h;have h0:=hs 0 _ rfl;obtain⟨v',h1,c1,r1,n1,o1,_⟩:=wD 4 p om (AH.empty.alloc (.cells p.cells J)) 0 (.val (.slice Y 0 0)) [] (λq hq=>by cases hq) ⟨λc hc=>(by cases hc),rfl,.inl ⟨rfl,rfl⟩⟩ (il _) Gr
 simp[aWB,f64,V, *];refine gt (v:=v') (h':=h1) ?_ ?_
 ·simp[V];exact c1
 simp only[V,hd];refine⟨_,rfl,1,de,?_⟩;have:=r1.x.rep;have e:iA v' (rin 4 p []).length (Pr.aG (rin 4 p []))=(⟨rin 4 p [],ai,Y⟩:Vl Pr).A Pr.cells:=by
  rw[<-uQ rfl,<-Pr.bG];rcases r1 with⟨_,_,⟨e0,rfl⟩|⟨B,_,_,h3,rfl,_⟩⟩
  ·rw[e0];rfl
  ·have:Nat.beq (rin 4 p []).length 0=U:=Lg h3;show AV.imm _ _ _=bif _ then _ else _
   grind
 grind
theorem aER{s:St}{X:List XR}{dst:Option Nat}{rd fr:List Nat}{f:Nat}{l:List AV}{b:Nat}{e:Evr}{fs:List Ln}{bs:List Pr}{kp:List (Nat×Nat×Nat)}{Q:AV->List Ln->List Pr->Prop}{kk:XR->St->Prop}(k:bX s.h b e fs bs)(hr:dc s rd=[b])
  (hc:∀h,bX h b e fs bs->∃v h1 fs' bs',aE E1 (.f f) l h v h1/\bL b h h1/\bX h1 b e fs' bs'/\eO b h h1/\Q v fs' bs')
  (hkp:∀h' fs' bs',eO b s.h h'->bX h' b e fs' bs'->(∃v,Q v fs' bs')->∀p∈kp,sameAt s.h h' p=J)
  (hfr:∀n,cS X (.turn (b::aq s.h b) (b::aq s.h b) s.h.next n kp) fr)
  (hk:∀v h' fs' bs',Q v fs' bs'->bL b s.h h'->bX h' b e fs' bs'->eO b s.h h'->kk (.turn (b::aq s.h b) (b::aq s.h b) s.h.next h'.next kp) ((s.toH h').put dst v)):lQ E1 s rd fr X dst (.f f) l kk:=by
 obtain⟨nt,vF,vB,lg,wr,a⟩:=id k;have lt:=k.lt;have leaf:∀y∈aq s.h b,aq s.h y=[]:=λy hy=>by
  exact U141
 refine Oh (B:=b::aq s.h b) (kp:=kp) (P:=λv h1=>∃fs' bs',bX h1 b e fs' bs'/\eO b s.h h1/\Q v fs' bs'/\∀y∈aq h1 b,y∈aq s.h b\/s.h.next<=y) (λx hx=>?_) (λx hx y hy=>?_) (λx hx=>?_) (λF f1 f2 x hx=>?_) ?_ nt (λh hn hg hnt=>?_) hfr (λv h1 h' p n1 n2 g1 g2 nt'=>?_)
 ·grind
 ·grind
 ·grind
 ·grind
 ·exact U51
 ·have kh:bX h b e fs bs:=⟨hnt,vF,vB,lg,wr,a.to om λy hy=>hg y (by
   grind)⟩
  have ei:aq h b=aq s.h b:=by grind [bX.oD]
  obtain⟨v,h1,fs',bs',rc,st,k1,sB,q⟩:=hc h kh;refine⟨v,h1,rc,by have:=st.nx;omega,k1.1,fs',bs',k1,(eO.of (hg b ip)).trans sB,q,λy hy=>?_⟩
  have:=st.ow y hy
  grind
 ·obtain⟨fs',bs',k1,sB,q,ow⟩:=p;have lt1:=k1.lt;have gs:=U376;have k':bX h' b e fs' bs':=by
   obtain⟨_,vF,vB,lg,wr,a1⟩:=k1;exact⟨nt',vF,vB,lg,wr,a1.to om gs⟩
  have ei:=U377;have st:bL b s.h h':=⟨om,λy y1 y2 y3=>g2 y y1 (λm=>by
   grind),λy hy=>by grind⟩
  have sB':eO b s.h h':=sB.trans (eO.of (gs b (.inl rfl)))
  grind
theorem zW:∀l:List UInt8,dZ l l=J
 | []=>by rfl
 |a::r=>by simp[dZ,zW r]
theorem aBK:∀c:Option Nat,eqN c c=J
 |none=>rfl
 |some n=>Am n
theorem aPO(a:Option Addr)(n c:Nat):eqV (.slice a n c) (.slice a n c)=J:=by
 cases a<;>grind [eqV,Am,aBK]
theorem Kn:∀{a b:List AV},eqL a a=J->eqL b b=J->eqL (a++b) (a++b)=J
 | [],b,_,h=>h
 |x::a,b,h,h'=>by
  simp[eqL] at h;simp only[List.cons_append,eqL,h.1,Kn h.2 h',Bool.and_self]
theorem aZF{cs:List AV}{n:Nat}{nl:Option (Option Addr×Nat)}{cap:Option Nat}(h:eqL cs cs=J):eqA (cV cs n nl cap) (cV cs n nl cap)=J:=by
 unfold cV;cases (nl.isSome&&Nat.beq n 0) with
 |true=>
  simp[eqA];cases nl with
  |none=>rfl
  |some p=>exact aPO p.1 0 p.2
 |false=>simp_all [eqA,aBK]
theorem bGF(k:IntKind)(z:Int):eqV (.int k z) (.int k z)=J:=by
 grind [eqV]
theorem bGE(b:ByteArray):eqV (.string b) (.string b)=J:=by grind [eqV,zW]
mutual
theorem aZD:∀p:Pr,eqL p.cells p.cells=J
 |.mk o nm n ks nl cap=>by
  have h:=aLG ks;show eqL [vI o,vS nm,vI n,cV (Pr.aG ks) ks.length nl cap] [vI o,vS nm,vI n,cV (Pr.aG ks) ks.length nl cap]=J
  grind [eqL,eqA,bGF,bGE,aZF]
theorem aLG:∀l:List Pr,eqL (Pr.aG l) (Pr.aG l)=J
 | []=>rfl
 |p::r=>by
  rw[Pr.aG];exact Kn (aZD p) (aLG r)
end
theorem Nn{h h':AH}{b o n:Nat}{cs cs' l:List AV}{r r':Bool}(g:h.get b=Z (.cells cs r))(g':h'.get b=Z (.cells cs' r'))(e1:(cs.drop o).take n=l)(e2:(cs'.drop o).take n=l)(h1:o+n<=cs.length)(h2:o+n<=cs'.length)(hl:eqL l l=J):sameAt h h' (b,o,n)=J:=by
 simp only[sameAt,dX,g,g',Nat.ble_eq.mpr h1,Nat.ble_eq.mpr h2,cond_true,e1,e2,hl]
theorem bGG(B n e:Nat):eqL [AV.own B 0 n e Y] [AV.own B 0 n e Y]=J:=by grind [eqL,eqA,Am,eqN]
theorem Na(a b:List Pr):Pr.aG (a++b)=Pr.aG a++Pr.aG b:=by grind [Pr.bG]
structure QuH (h:AH) (e:Evr) (p:Pr) (fs:List Ln) (bs:List Pr) (v:AV) (out:List Pr):Prop where
 eV:EvB e
 k:bX h 3 e fs bs
 B:jW fs bs
 g0:h.get 0=Z (.cells e.cells J)
 g1:h.get 1=Z (.cells p.cells J)
 g2:∃z,h.get 2=Z (.cells z J)/\z.length=5/\aQ z=[]
 n:4<=h.next
 r:aV h 4 out.length 4 v (Pr.aG out)
 dj:∀y∈ids v,y∉aq h 3
 nd:∀q∈out,q.nodes<2^30
theorem QuH.lo{h:AH}{e:Evr}{fs:List Ln}{bs:List Pr}(k:bX h 3 e fs bs):∀y∈aq h 3,4<=y:=λy hy=>by
 obtain⟨_,vF,vB,lg,wr,a⟩:=k;rw[a.at] at hy;rcases U340 with q|q
 ·exact(a.rF.ids y q).1
 ·exact(a.rB.ids y q).1
theorem QuH.push{h h1 h2:AH}{e:Evr}{p:Pr}{fs fs1:List Ln}{bs bs1:List Pr}{v:AV}{out new:List Pr}{N:Nat}(H:QuH h e p fs bs v out)(s1:bL 3 h h1)(k1:bX h1 3 e fs1 bs1)(B1:jW fs1 bs1)(hN:h1.next<=N)(hN2:N<h2.next)(r2:aV h2 4 (out.length+new.length) 4 (.own N 0 (out.length+new.length) 4 Y) (Pr.aG out++Pr.aG new))
  (o2:∀y,y<h1.next->y∉ids v->h2.get y=h1.get y) (nt2:ak h2) (nd:∀q∈new,q.nodes<2^30):QuH h2 e p fs1 bs1 (.own N 0 (out.length+new.length) 4 Y) (out++new):=by
 have n1:=s1.nx;have hn:=H.n;have l0:=QuH.lo H.k;have lv:∀y∈ids v,4<=y/\y<h.next:=λy hy=>⟨(H.r.ids y hy).1,(H.r.ids y hy).2.1⟩;have kp:∀y,y<3->h2.get y=h.get y:=λy hy=>by
  rw[o2 y om (λq=>by grind),s1.fr y om om (λq=>by grind)]
 have lt1:=k1.lt;have e2:∀y,y=3\/y∈aq h1 3->h2.get y=h1.get y:=λy hy=>o2 y (lt1 y hy) λq=>by
  rcases hy with rfl|hy
  ·grind
  ·rcases s1.ow y hy with q2|q2
   ·exact H.dj y q q2
   grind
 obtain⟨z,gz,lz,iz⟩:=H.g2;obtain⟨_,vF,vB,lg,wr,a1⟩:=id k1;have a2:gY h2 3 e fs1 bs1 vF vB lg wr:=a1.to om e2;refine⟨H.eV,⟨nt2,vF,vB,lg,wr,a2⟩,B1,by rw[kp 0 de,H.g0],by rw[kp 1 de,H.g1],⟨z,Gr,lz,iz⟩,om,?_,λy hy=>?_,λq hq=>?_⟩
 ·grind [Na]
 ·simp[ids] at hy;rw[bX.oD (e2 3 (.inl rfl))]
  grind
 ·rcases jv.1 hq with hq|hq
  ·exact H.nd q hq
  grind
structure QuT (s:St) (v:AV):Prop where
 t2:s.eval (.t 2)=Z (.ptr 0 0)
 t3:s.eval (.t 3)=Z (.ptr 1 0)
 t4:s.eval (.t 4)=Z (.ptr 2 0)
 t7:s.eval (.t 7)=Z (.ptr 3 0)
 t8:s.eval (.t 8)=Z v
 d:s.defers=[]
theorem Ki{e:Evr}{p:Pr}{w:Vl Pr}(hw:Pr.aI w.l<=40000000)(hA:∀c∈w.l,bdT e c/\c.nodes<=2400):∀(r:List Pr) (i:Nat) (fs:List Ln) (bs:List Pr) (v:AV) (out:List Pr) (s:St),w.l.drop i=r->i<=w.l.length->QuH s.h e p fs bs v out->QuT s v->fs.length+Pr.aI r<2^26->bs.length+Pr.aI r<2^26->out.length+r.length<2^26->
  s.eval (.t 9)=Z (w.A Pr.cells)->s.eval (.t 10)=Z (vI (i:Nat))->
  Run E1 m9 s λe' s'=>e'=.exit 0/\∃fs' bs' v' out',QuH s'.h e p fs' bs' v' out'/\QuT s' v'/\fs'.length<=fs.length+Pr.aI r/\bs'.length<=bs.length+Pr.aI r/\out'.length<=out.length+r.length
 | [],i,fs,bs,v,out,s,hd,hi,H,T,lf,lb,lo,u9,u10=>by
  have hl':=ca hd hi;subst hl';obtain⟨u2,u3,u4,u7,u8,hf⟩:=T;apply az (rfl:m9=.loop rG);simp only[rG,V,tE,seval, *];refine⟨fs,bs,v,out,H,⟨?_,?_,?_,?_,?_,?_⟩,Nat.le_add_right _ _,Nat.le_add_right _ _,ij _⟩
  all_goals simp[V, *]
 |c::r,i,fs,bs,v,out,s,hd,hi,H,T,lf,lb,lo,u9,u10=>by
  have hl:=cz hd;have hlt:=rj hl;have enL:Pr.aI (c::r)=c.nodes+Pr.aI r:=rfl;rw[enL] at lf lb;rw[jf] at lo;have wl:=rl w.l;have w1:=U204;have hix:=w.at Pr.len hd;obtain⟨hb,hn⟩:=hA c (jp (i:=i) Gr);obtain⟨u2,u3,u4,u7,u8,hf⟩:=T;obtain⟨q,h1,fs1,bs1,rc,s1,k1,B1,f1,b1,nq⟩:=xP e c hb om 3 fs bs s.h H.eV H.B om om H.k;have n1:=s1.nx;have hn4:=H.n;have rv1:aV h1 4 out.length 4 v (Pr.aG out):=H.r.toB n1 λy hy=>s1.fr y (H.r.ids y hy).2.1 (by have:=(H.r.ids y hy).1;omega) (H.dj y hy)
  apply az (rfl:m9=.loop rG);simp only[rG,V,u7,u8,u9,u10,hlt,hix,seval];refine gt (by simp[V];exact rc) ?_
  simp only[V,WF,Pr.av,sX];refine sk (k:=out.length) (m:=1) (lo:=4) (v:=v) (x:=.own h1.next 0 1 4 (Z 1)) (cs:=Pr.aG out) (new:=q.cells) ?_ ?_ ?_ de (by rw[q.len]) q.leaves (lR om de) ?_ ?_ ?_
  ·simp[V];exact rv1.to (j5 _) λy _ y2=>am y2
  ·simp[V];omega
  ·refine kl (rw':=J) ?_ (by rw[q.len])
   simp[V]
  ·simp[V]
  ·simp[V]
  intro h2 rv2 n2 o2 t2 gn2;simp[V] at rv2 n2 o2 t2 gn2;have cq:Pr.aG [q]=q.cells:=by grind [Pr.aG]
  have H2:=H.push (new:=[q]) (N:=h1.next+1) s1 k1 B1 om (h2:=h2) om Gr (λy y1 y2=>by
   grind) (t2 k1.1.alloc) (λx hx=>by grind)
  simp only[V,u10,w1,seval];refine(Ki (p:=p) hw hA r (i+1) fs1 bs1 (.own (h1.next+1) 0 (out.length+1) 4 Y) (out++[q]) _ (ba hd) om ?_ ⟨?_,?_,?_,?_,?_,?_⟩ om om Gr ?_ ?_).mono ?_
  all_goals try simp only[V,↓reduceIte,rA,u2,u3,u4,u7,u9,hf]
  ·exact H2
  grind
theorem Kh{e:Evr}{p:Pr}:∀(bs r:List Pr) (i:Nat) (fs:List Ln) (v:AV) (out:List Pr) (s:St),bs.drop i=r->i<=bs.length->QuH s.h e p fs bs v out->QuT s v->fs.length+2*r.length<2^27->bs.length<2^26->out.length+2*r.length<2^27->
  s.eval (.t 11)=Z (vI (i:Nat))->
  Run E1 m8 s λe' s'=>e'=.exit 2/\∃fs' v' out',QuH s'.h e p fs' bs v' out'/\QuT s' v'/\out'.length<=out.length+2*r.length
 |bs,[],i,fs,v,out,s,hd,hi,H,T,lf,lb,lo,u11=>by
  have hl':=ca hd hi;subst hl';obtain⟨u2,u3,u4,u7,u8,hf⟩:=T;obtain⟨nt,vF,vB,lg,wr,a⟩:=id H.k;have c4:=U370;apply az (rfl:m8=.loop rJ);simp only[rJ,V,a.g,a.rB.len,tE,seval, *];refine⟨fs,v,out,H,⟨?_,?_,?_,?_,?_,?_⟩,Nat.le_add_right _ _⟩
  all_goals simp[V, *]
 |bs,c::r,i,fs,v,out,s,hd,hi,H,T,lf,lb,lo,u11=>by
  have hl:=cz hd;have hlt:=rj hl;rw[jf] at lf lo;have w1:=U204;obtain⟨u2,u3,u4,u7,u8,hf⟩:=T;obtain⟨nt,vF,vB,lg,wr,a⟩:=id H.k;obtain⟨hok,hn⟩:=H.B.b c (jp (i:=i) Gr);obtain⟨y1,ly1,hc1⟩:=yJ c hok hn (-1) 0;obtain⟨y2,ly2,hc2⟩:=yJ c hok hn 1 (-1);have hn4:=H.n;have gb:=a.g;have c4:=U373;obtain⟨lfB,hlenB,⟨q,_⟩|⟨B,B1,B2,B3,rfl,gB⟩⟩:=id a.rB
  ·omega
  have kq:=U393;have kB:=U343;have kv:=bz H.r.x.nice;have kvB:=bz a.rB.x.nice;have hix:=U372;have hcf:cfB (Z (.cells (Pr.aG bs) J)) (i*4)=Z (c.cells++Pr.aG r):=by
   exact U138
  apply az (rfl:m8=.loop rJ);simp only[rJ,aXS,V,wF,seval, *];refine pb rfl ?_
  simp only[aXQ,X0,X1,X2,X3,X4,V,an c.ah,ge c.ah,ee hc1,an y1.ah,seval, *];refine rY (sK (j:=65) de (v:=.ptr 3 0) (by simp[V]) (λe=>by cases e)) ?_
  refine aER (b:=3) (e:=e) (fs:=fs) (bs:=bs) (kp:=[(3,4,1),(B,i*4,4)]) (Q:=λv fs' bs'=>∃q:Pr,v=q.av/\fs'.length<=fs.length+1/\(∀f∈fs',f.ts.l.length<=24)/\q.nodes<=8/\bs'=bs) ?_ ?_ (λh kh=>?_) ?_ ?_ ?_
  ·simpa-implicitDefEqProofs only[V,↓reduceIte,rA,rB,rC,reduceCtorEq,rD,rE,rF] using H.k
  ·simp[X3,V,y1.ah]
  ·obtain⟨q,h',fs',rc,s1,k1,f1,l1,nq,sB⟩:=w6 y1 ly1 om H.B.f kh
   grind
  ·rintro h' fs' bs' sB k' ⟨v',q,_,_,_,_,rfl⟩ pp hp;simp[V] at sB k';obtain⟨d3,l',g3⟩:=sB _ _ _ _ _ _ gb;obtain⟨_,vF',vB',lg',wr',a'⟩:=k';have e4:=a'.g;rw[g3] at e4;have eB:AV.own B 0 bs'.length 4 Y=vB':=Gr;have gB':h'.get B=Z (.cells (Pr.aG bs') J):=(a'.rB.ids B (by rw[<-eB];exact Bn B)).2.2
   simp[jd] at hp;have dB:((Pr.aG bs').drop (i*4)).take 4=c.cells:=by
    grind [uZ,Pr.aG,Kx]
   rcases hp with rfl|rfl
   ·refine Nn (l:=[AV.own B 0 bs'.length 4 Y]) (by simp[V];exact gb) g3 rfl rfl Gr ?_ (bGG _ _ _)
    grind
   ·exact Nn (l:=c.cells) (by simp[V];exact gB) gB' dB dB Gr Gr (aZD c)
  ·intro n;simp[X3,X4]
  rintro v1 h' fs' bs' ⟨q1,rfl,f1,l1,nq1,rfl⟩ st k' sB;simp[V] at st k' sB;obtain⟨d3,l',g3⟩:=sB _ _ _ _ _ _ gb;obtain⟨_,vF',vB',lg',wr',a'⟩:=id k';have e4:=a'.g;rw[g3] at e4;have eB:AV.own B 0 bs'.length 4 Y=vB':=Gr;subst eB;have gb':=a'.g;have gB':h'.get B=Z (.cells (Pr.aG bs') J):=(a'.rB.ids B (Bn B)).2.2;have kq':=U394;have kB':∀o,aN h' (Z (.ptr B o))=J:=λo=>bm (by have:=st.nx;omega) gB' (rX lfB)
  have rv1:aV h' 4 out.length 4 v (Pr.aG out):=H.r.toB st.nx λy hy=>st.fr y (H.r.ids y hy).2.1 (by have:=(H.r.ids y hy).1;omega) (H.dj y hy)
  have kv':=bz rv1.x.nice;have kvB':=bz a'.rB.x.nice;simp only[X0,X1,X2,X3,X4,V,an c.ah,ge c.ah,ee hc2,an y2.ah,seval, *];refine⟨.inr ⟨_,ip,rfl⟩,.inr ⟨_,iy _ ip,rfl⟩,?_⟩;refine rY (sK (j:=75) de (v:=.ptr 3 0) (by simp[V]) (λe=>by cases e)) ?_
  refine uA (b:=3) (e:=e) (fs:=fs') (bs:=bs') (Q:=λv fs2 bs2=>∃q:Pr,v=q.av/\fs2.length<=fs'.length+1/\(∀f∈fs2,f.ts.l.length<=24)/\q.nodes<=8/\bs2=bs') ?_ ?_ (λh kh=>?_) ?_ ?_
  ·exact U54
  ·simp[X3,V,y2.ah]
  ·obtain⟨q,h2,fs2,rc,s1,k1,f2,l2,nq,_⟩:=w6 y2 ly2 om l1 kh
   grind
  ·intro n;simp[X3,X4]
  rintro v2 h2 fs2 bs2 ⟨q2,rfl,f2,l2,nq2,rfl⟩ st2 k2;simp[V] at st2 k2;have st3:=st.trans st2;have n3:=st3.nx;have rv2':aV h2 4 out.length 4 v (Pr.aG out):=H.r.toB st3.nx λy hy=>st3.fr y (H.r.ids y hy).2.1 (by have:=(H.r.ids y hy).1;omega) (H.dj y hy)
  have kv2:=bz rv2'.x.nice;have ns:=λy=>(rv2'.to (h':=h2.alloc y) (j5 _) λz _ z2=>am z2).x.nice;have p1:=U365;have p2:=U366;have i12:aQ (q1.cells++q2.cells)=[]:=by rw[ms,q1.bM,q2.bM];rfl
  have c12:=U364;simp only[X0,X2,X3,X4,V,WF,Pr.av,an q1.ah,an q2.ah,seval, *];refine sk (k:=out.length) (m:=2) (lo:=4) (v:=v) (x:=.own h2.next 0 2 4 (Z 2)) (cs:=Pr.aG out) (new:=q1.cells++q2.cells) ?_ ?_ ?_ de (by rw[jh,q1.len,q2.len]) (λx hx=>(jv.1 hx).elim (q1.leaves x) (q2.leaves x)) (lR om de) ?_ ?_ ?_
  ·simp[V];exact rv2'.to (j5 _) λy _ y2=>am y2
  ·simp[V];omega
  ·refine kl (rw':=J) ?_ (by rw[jh,q1.len,q2.len])
   simp[V]
  ·simp[V]
  ·simp[V]
  intro h4 rv4 n4 o4 t4 gn4;simp[V] at rv4 n4 o4 t4 gn4;have H4:=H.push (new:=[q1,q2]) (N:=h2.next+1) st3 k2 ⟨l2,H.B.b⟩ om (h2:=h4) om Gr (λy y1 y2=>by
   grind) (t4 k2.1.alloc) (λx hx=>by
   grind)
  have kO:=bz rv4.x.nice;simp only[X0,X3,V,seval, *];refine(Kh (e:=e) (p:=p) bs2 r (i+1) fs2 (.own (h2.next+1) 0 (out.length+2) 4 Y) (out++[q1,q2]) _ (ba hd) om ?_ ⟨?_,?_,?_,?_,?_,?_⟩ om om Gr ?_).mono ?_
  all_goals try simp only[V,↓reduceIte,rA,u2,u3,u4,u7,hf]
  ·exact H4
  grind
theorem Jt{α:Type}{f:α->List AV}{es:Nat}(hf:∀a,(f a).length=es):∀l:List α,(l.flatMap f).length=l.length*es
 | []=>(Nat.zero_mul _).symm
 |a::r=>by rw[List.flatMap_cons,jh,hf,Jt hf r,jf,Nat.succ_mul,Nat.add_comm]
theorem wg{h:AH}{lo k es:Nat}{v:AV}{cs:List AV}(r:bn h lo k es v cs):AV.cells v=Z [v]:=by
 rcases r with⟨_,_,⟨_,rfl⟩|⟨b,_,_,_,rfl,_⟩⟩|⟨_,_,b,_,_,rfl,_⟩<;>rfl
theorem aMP(a:Vr):∀v∈a.cells,aj v:=λv hv=>by
 simp[Vr.cells] at hv;rcases hv with rfl|rfl<;>exact aj.val _
theorem Om{α:Type}{f:α->List AV}(hf:∀a,∀v∈f a,aj v)(l:List α):∀v∈l.flatMap f,aj v:=λv hv=>by
 grind
structure FlH (h:AH) (H:Hn) (c:Cl) (vv vh:AV) (q:Pr) (out:List Pr) (N:Nat):Prop where
 nt:ak h
 g0:h.get 0=Z (.cells H.cells J)
 g1:h.get 1=Z (.cells c.cells J)
 g2:∃z,h.get 2=Z (.cells z J)/\z.length=7
 n3:3<=N
 n:N<h.next
 gN:h.get N=Z (.cells (vv::vh::(q.cells++[vI c.tag])) J)
 rv:bn h 3 c.vs.l.length 2 vv (c.vs.l.flatMap Vr.cells)
 lv:∀y∈ids vv,y<N
 rh:aV h (N+1) out.length 4 vh (Pr.aG out)
theorem FlH.ids{h:AH}{H:Hn}{c:Cl}{vv vh:AV}{q:Pr}{out:List Pr}{N:Nat}(k:FlH h H c vv vh q out N):below h.next (aQ (vv::vh::(q.cells++[vI c.tag])))=J:=by
 have e:aQ (vv::vh::(q.cells++[vI c.tag]))=AM.ids vv++(AM.ids vh++[]):=by
  grind [AM.ids,aQ,ms,Pr.bM]
 rw[e];refine List.all_eq_true.2 λy hy=>Nat.blt_eq.mpr ?_
 rcases U340 with q|q
 ·exact(k.rv.ids y q).2.1
 ·rw[jm] at q;exact(k.rh.ids y q).2.1
theorem Kk{H:Hn}{c:Cl}{vv:AV}{q:Pr}{sv:AV}{N:Nat}{F:Pr->Pr}(hN:c.hy.l.length<2^20):∀(r:List Pr) (i:Nat) (out:List Pr) (vh:AV) (s:St),c.hy.l.drop i=r->i<=c.hy.l.length->(∀k∈r,∀h,aE E1 (.f 34) [k.av,H.hs.A Ho.cells,sv] h (F k).av h)->ids sv=[]->FlH s.h H c vv vh q out N->out=(c.hy.l.take i).map F->
  s.eval (.t 1)=Z sv->s.eval (.t 3)=Z (.ptr 0 0)->s.eval (.t 5)=Z (.ptr 1 0)->s.eval (.t 6)=Z (.ptr 2 0)->s.eval (.t 7)=Z (.ptr N 0)->s.eval (.t 8)=Z (vI (i:Nat))->s.defers=[]->
  Run E1 Vj s λe' s'=>e'=.exit 0/\s'.defers=[]/\s'.eval (.t 6)=Z (.ptr 2 0)/\s'.eval (.t 7)=Z (.ptr N 0)/\∃vh',FlH s'.h H c vv vh' q (c.hy.l.map F) N
 | [],i,out,vh,s,hd,hi,hc,isv,K,ho,u1,u3,u5,u6,u7,u8,hf=>by
  have hl':=ca hd hi;subst hl';have c1:=U395;have g1:=K.g1;rw[List.take_length] at ho;apply az (rfl:Vj=.loop rS);simp[rS,V, *]
  grind
 |k::r,i,out,vh,s,hd,hi,hc,isv,K,ho,u1,u3,u5,u6,u7,u8,hf=>by
  have hl:=cz hd;have hlt:=rj hl;have w1:=U204;have c1:=U395;have h1:=U396;have cN:∀u w:AV,cfB (Z (.cells (u::w::(q.cells++[vI c.tag])) J)) 1=Z (w::(q.cells++[vI c.tag])):=λ_ _=>rfl;have hix:=c.hy.at Pr.len hd;have hcall:=hc k ip;obtain⟨nt,g0,g1,⟨z,g2,lz⟩,n3,n,gN,rv,lv,rh⟩:=id K;have k0:∀o,aN s.h (Z (.ptr 0 o))=J:=λo=>bm om g0 H.bM;have k1:∀o,aN s.h (Z (.ptr 1 o))=J:=λo=>bm om g1 c.bM;have kN:∀o,aN s.h (Z (.ptr N o))=J:=λo=>rg n gN K.ids;have kv:=bz rh.x.nice;have ns:=λy=>(rh.to (h':=s.h.alloc y) (j5 _) λy _ y2=>am y2).x.nice;have ih:ids (c.hy.A Pr.cells)=[]:=Vl.ids;have io:ids (H.hs.A Ho.cells)=[]:=Vl.ids;have ol:out.length=i:=Gr;apply az (rfl:Vj=.loop rS);simp only[rS,aYR,V,seval, *];refine pb rfl ?_
  simp[aYO,X0,X1,X2,X3,X4,V,WF,an ih,an io,ge io,an isv,ge isv,an k.ah,ge k.ah,ee hcall,an (F k).ah,Pr.bM,sX,Pr.av, *];refine sk (k:=out.length) (m:=1) (lo:=N+1) (v:=vh) (x:=.own s.h.next 0 1 4 (Z 1)) (cs:=Pr.aG out) (new:=(F k).cells) ?_ ?_ ?_ de (by rw[Pr.len]) (Pr.leaves _) (lR om de) ?_ ?_ ?_
  ·simp[V];exact rh.to (j5 _) λy _ y2=>am y2
  ·simp[V];omega
  ·refine kl (rw':=J) ?_ (by rw[Pr.len])
   simp[V]
  ·simp[V]
  ·simp[V]
  intro h2 rv2 n2 o2 t2 gn2;simp[V] at rv2 n2 o2 t2 gn2;have nt2:=t2 nt.alloc;have fr:∀y,y<N+1->h2.get y=s.h.get y:=λy hy=>by
   rw[o2 y om (λq=>by have:=(rh.ids y q).1;omega)]
   grind
  have gN2:h2.get N=Z (.cells (vv::vh::(q.cells++[vI c.tag])) J):=Gr;have gl:=Pr.len q;have kO:=bz rv2.x.nice;have hv1:∀y∈ids vv,y<s.h.next:=Gr;have kN2:∀o,aN h2 (Z (.ptr N o))=J:=λo=>rg om gN2 (by
   refine tn K.ids ?_
   omega)
  have hst:∀(H:AH) (u w z:AV),stK H N 1 1 [z] (Z (.cells (u::w::(q.cells++[vI c.tag])) J))=Z (H.put N (Z (.cells (u::z::(q.cells++[vI c.tag])) J))):=λH u w z=>by
   rfl
  simp only[X0,X1,X3,X4,V,WF,u7,u8,kN2,gN2,hst,w1,seval];have ho2:out++[F k]=(c.hy.l.take (i+1)).map F:=by
   grind
  refine(Kk (H:=H) (c:=c) (vv:=vv) (q:=q) (sv:=sv) (N:=N) (F:=F) hN r (i+1) (out++[F k]) (.own (s.h.next+1) 0 (out.length+1) 4 Y) _ (ba hd) om (λx hx=>hc x (iy _ hx)) isv ⟨?_,?_,?_,⟨z,?_,lz⟩,n3,?_,?_,?_,lv,?_⟩ ho2 ?_ ?_ ?_ ?_ ?_ ?_ ?_).mono ?_
  all_goals try simp only[V,↓reduceIte,rA,u1,u3,u5,u6,u7,hf]
  ·exact nt2.put
  ·grind
  ·grind
  ·grind
  ·grind
  ·exact rv.toB (by show s.h.next<=h2.next;omega) λy hy=>by
    grind [bc]
  ·rw[jh,List.length_singleton,pl];exact rv2.toB (ij _) λy hy=>bc (by
    grind [ids])
  grind
theorem aAG(H:Hn)(S:Vl So)(c:Cl)(b1:c.vs.l.length<2^29)(b2:c.hy.l.length<2^20)(hHN:H.hs.l.length<2^29)(hH:∀h∈H.hs.l,h.ps.l.length<2^29)(hS:S.l.length<2^29)(hs:∀s∈S.l,s.p.nodes<2^29)(w2:c.hd.nodes<2^29)(w3:∀p∈c.hy.l,p.nodes<2^29):
  ∃c':Cl,c'.hy.l=c.hy.l.map (Pr.dP H.hs.l S.l)/\c'.hd=c.hd.dP H.hs.l S.l/\∀h,aE E1 (.f 15) [.agg H.cells,S.A So.cells,.agg c.cells] h (.agg c'.cells) h:=by
 obtain⟨t,⟨c',rfl,e1,e2⟩,hr⟩:=tI (g:=15) (l:=[.agg H.cells,S.A So.cells,.agg c.cells]) (P:=λt=>∃c':Cl,t=.agg c'.cells/\c'.hy.l=c.hy.l.map (Pr.dP H.hs.l S.l)/\c'.hd=c.hd.dP H.hs.l S.l) rf bNP (yy (Tree.hn H) Tree.vl (Tree.cl c)) λs hs' hh hd hr=>by
  have h0:=hs' 0 _ rfl;have h1:=hs' 1 _ rfl;have h2:=hs' 2 _ rfl;have c0:cfB (Z (.cells c.cells J)) 0=Z c.cells:=rfl;have c2:cfB (Z (.cells c.cells J)) 2=Z (c.hd.cells++[vI c.tag]):=rfl;have c6:cfB (Z (.cells c.cells J)) 6=Z [vI c.tag]:=by
   obtain⟨a0,a1,a2,a3,e⟩:∃x y z w,c.hd.cells=[x,y,z,w]:=by
    rw[Pr.bS]
    grind
   unfold Cl.cells;rw[e];rfl
  have h1':=U396;have hcall:=wB H.hs S hHN hH hS hs c.hd w2;have iv:ids (c.vs.A Vr.cells)=[]:=Vl.ids;have io:ids (H.hs.A Ho.cells)=[]:=Vl.ids;have is:ids (S.A So.cells)=[]:=Vl.ids;have k0:∀(G:AH) o,0<G.next->G.get 0=Z (.cells H.cells J)->aN G (Z (.ptr 0 o))=J:=λG o h g=>bm h g H.bM;have k1:∀(G:AH) o,1<G.next->G.get 1=Z (.cells c.cells J)->aN G (Z (.ptr 1 o))=J:=λG o h g=>bm h g c.bM;obtain⟨G,hG⟩:∃G,((AH.empty.alloc (.cells H.cells J)).alloc (.cells c.cells J)).alloc (.cells [.val (.slice Y 0 0),.val (.slice Y 0 0),vI 0,vS ⟨#[]⟩,vI 0,.val (.slice Y 0 0),vI 0] J)=G:=⟨_,rfl⟩;have Gn:G.next=3:=by rw[<-hG];rfl
  have Gt:=U397;have G0:G.get 0=Z (.cells H.cells J):=by grind [AH.aS,tG]
  have G1:G.get 1=Z (.cells c.cells J):=by grind [AH.aS,tG]
  have G2:G.get 2=Z (.cells [.val (.slice Y 0 0),.val (.slice Y 0 0),vI 0,vS ⟨#[]⟩,vI 0,.val (.slice Y 0 0),vI 0] J):=by grind [AH.aS,tG]
  have kG0:=λo=>k0 G o om G0;have kG1:=λo=>k1 G o om G1;simp[aYQ,f15,aYS,V, *];refine pb rfl ?_
  simp only[aYP,X0,X1,X2,X3,X4,V,WF,an iv,seval, *];refine⟨de,?_,?_,?_⟩
  ·have:=yN (h:=G) (cs:=[]) (rw:=J) (o:=0) (n:=0) (e:=2) (c:=Z 0) rfl
   grind
  ·have:=Oa (h:=G) (cs:=[]) (rw:=J) (o:=0) (n:=0) (e:=2) (c:=Z 0) rfl
   grind
  refine xb (k:=0) (m:=c.vs.l.length) (lo:=3) (v:=.own 3 0 0 2 (Z 0)) (x:=c.vs.A Vr.cells) (cs:=[]) (new:=c.vs.l.flatMap Vr.cells) ?_ ?_ (xF Vr.len _ _) (Jt Vr.len _) (Om aMP _) (lR om de) ?_ ?_ ?_
  all_goals try simp only[V,rA]
  ·exact U398
  ·omega
  intro v2 h2' r2 n2 o2 t2 i2;simp at r2;have lo2:∀y,y<3->h2'.get y=G.get y:=λy hy=>by
   rw[o2 y om (by grind [ids]),if_neg om]
  have g0:h2'.get 0=Z (.cells H.cells J):=Gr;have g1:h2'.get 1=Z (.cells c.cells J):=Gr;have kh0:=λo=>k0 h2' o om g0;have kh1:=λo=>k1 h2' o om g1;have kv2:=bz (bn.nice r2);have hcv:=wg r2;have l7:∀(u w:AV) (q:Pr),(u::w::(q.cells++[vI c.tag])).length=7:=λu w q=>by simp[q.len]
  have z7:([AV.val (.slice Y 0 0),.val (.slice Y 0 0),vI 0,vS ⟨#[]⟩,vI 0,.val (.slice Y 0 0),vI 0]).length=7:=rfl;have nf:¬(4<=1/\1<h2'.next):=om;have nf0:¬(4<=0/\0<h2'.next):=om;have tq:takeN (Z 4) (c.hd.cells++[vI c.tag])=Z c.hd.av:=Bp _ _;have q:=(c.hd.dP H.hs.l S.l);have p1:∀(u:AV) (z0 z1 z2 z3 z4 z5 z6:AV),dV [z0,z1,z2,z3,z4,z5,z6] 0 1 [u]=Z [u,z1,z2,z3,z4,z5,z6]:=λ_ _ _ _ _ _ _ _=>rfl;have p2:∀(q:Pr) (z0 z1 z2 z3 z4 z5 z6:AV),dV [z0,z1,z2,z3,z4,z5,z6] 2 4 q.cells=Z (z0::z1::(q.cells++[z6])):=λq _ _ _ _ _ _ _=>by
   exact U147
  have p3:∀(q:Pr) (z0 z1 z6 u:AV),dV (z0::z1::(q.cells++[z6])) 6 1 [u]=Z (z0::z1::(q.cells++[u])):=λq _ _ _ _=>by
   exact U147
  simp[X0,X1,X2,X3,X4,V,WF,an io,ge io,an is,ge is,an c.hd.ah,ge c.hd.ah,ee hcall,an (Pr.ah _),Pr.av,cy z7 (l7 _ _ _), *];refine(Kk (H:=H) (c:=c) (vv:=v2) (q:=c.hd.dP H.hs.l S.l) (sv:=S.A So.cells) (N:=h2'.next) (F:=Pr.dP H.hs.l S.l) b2 c.hy.l 0 [] (.val (.slice Y 0 0)) _ rfl (il _) (λk hk=>wB H.hs S hHN hH hS hs k (w3 k hk)) is ⟨?_,?_,?_,⟨_,?_,z7⟩,om,?_,?_,?_,λy hy=>(r2.ids y hy).2.1,?_⟩ rfl ?_ ?_ ?_ ?_ ?_ ?_ ?_).mono ?_
  all_goals try simp only[V,↓reduceIte,rA,h1,hd]
  ·exact(t2 Gt.alloc).alloc.put
  ·grind
  ·grind
  ·grind
  ·grind
  ·exact r2.toB Sp λy hy=>by
    have:=(r2.ids y hy).2.1
    grind [bc,am]
  ·exact U375
  ·rfl
  rintro e' s2 ⟨rfl,d2,e6,e7,vh,K⟩;obtain⟨nt',g0',g1',⟨z,g2',lz⟩,n3,n',gN',rv',lv',rh'⟩:=K;have cN:cfB (Z (.cells (v2::vh::((c.hd.dP H.hs.l S.l).cells++[vI c.tag])) J)) 0=Z (v2::vh::((c.hd.dP H.hs.l S.l).cells++[vI c.tag])):=rfl;have tN:=cf (l7 v2 vh (c.hd.dP H.hs.l S.l));simp only[V,WF,cy lz (l7 _ _ _),seval, *];have rv'':=bn.toB (h':=s2.h.put 2 (Z (.cells (v2::vh::((c.hd.dP H.hs.l S.l).cells++[vI c.tag])) J))) rv' (ij _) λy hy=>bc (by have:=(rv'.ids y hy).1;omega)
  have rh'':=aV.toB (h':=s2.h.put 2 (Z (.cells (v2::vh::((c.hd.dP H.hs.l S.l).cells++[vI c.tag])) J))) rh' (ij _) λy hy=>bc (by have:=(rh'.ids y hy).1;omega)
  obtain⟨wv,hwv,lwv⟩:=vE rv'';obtain⟨wh,hwh,lwh⟩:=vE (l:=c.hy.l.map (Pr.dP H.hs.l S.l)) (f:=Pr.cells) (by rw[<-Pr.bG];exact rh''.x)
  have r1:=rv''.rep;have r3:=rh''.x.rep;rw[hwv] at r1;rw[Pr.bG,hwh] at r3;refine⟨_,rfl,.agg (Cl.cells ⟨wv,wh,c.hd.dP H.hs.l S.l,c.tag⟩),2,de,?_,_,rfl,lwh,rfl⟩;have e1:((c.hd.dP H.hs.l S.l).cells.map λc=>(c,c)).map (·.1)=(c.hd.dP H.hs.l S.l).cells:=by rw[Ak];exact List.map_id _
  have e2:((c.hd.dP H.hs.l S.l).cells.map λc=>(c,c)).map (·.2)=(c.hd.dP H.hs.l S.l).cells:=by rw[Ak];exact List.map_id _
  have ra:=Rep.agg (h:=s2.h.put 2 (Z (.cells (v2::vh::((c.hd.dP H.hs.l S.l).cells++[vI c.tag])) J))) (lo:=0) (hi:=s2.h.next) (n:=1) (ps:=(v2,wv.A Vr.cells)::(vh,wh.A Pr.cells)::(((c.hd.dP H.hs.l S.l).cells.map λc=>(c,c))++[(vI c.tag,vI c.tag)])) (λp hp=>by
   rcases U173 with rfl|hp
   ·exact Rep.to (il _) (ij _) (λb _ _ cs rw g=>⟨rw,g⟩) (ij _) r1
   ·rcases U173 with rfl|hp
    ·exact Rep.to (il _) (ij _) (λb _ _ cs rw g=>⟨rw,g⟩) (ij _) r3
    ·rcases jv.1 hp with hp|hp
     ·obtain⟨c',hc',rfl⟩:=js.1 hp
      grind [Rep.leaf,Pr.leaves]
     grind [Rep.leaf,aj.val])
  simp only[jk,Bc,List.map_nil, *] at ra;exact ra
 grind
def aXP:aF:=(.seq Uj
 (.seq (.seq (.region [⟨Z 10,Y,.mv (.c (vI 0))⟩])
 (.block 0 m9))
 (.seq (.seq (.region [⟨Z 11,Y,.mv (.c (vI 0))⟩])
 (.block 2 m8))
 (.seq (.seq (.region [⟨Z 87,Y,.mv (.t 7)⟩,⟨Z 88,Y,.cE (.t 87)⟩,⟨Z 89,Y,.fieldAddr 6 (.t 88)⟩,⟨Z 90,Y,.load Y (.t 89)⟩])
 (.cond (.t 90) (.seq (.region [⟨Z 91,Y,.build [vI 0,vS ⟨#[]⟩,vI 0,.val (.slice Y 0 0),.val (.slice Y 0 0)] []⟩,⟨Y,Y,.store 5 (.t 4) (.t 91)⟩,⟨Z 5,Y,.mv (.c (vI 2))⟩])
 .ret) .skip))
 (.seq (.seq (.region [⟨Z 92,Y,.mv (.t 7)⟩,⟨Z 93,Y,.cE (.t 92)⟩,⟨Z 94,Y,.fieldAddr 5 (.t 93)⟩,⟨Z 95,Y,.load Y (.t 94)⟩])
 (.cond (.t 95) (.seq (.region [⟨Z 96,Y,.build [vI 0,vS ⟨#[]⟩,vI 0,.val (.slice Y 0 0),.val (.slice Y 0 0)] []⟩,⟨Y,Y,.store 5 (.t 4) (.t 96)⟩,⟨Z 5,Y,.mv (.c (vI 7))⟩])
 .ret) .skip))
 (.seq Ui
 .ret))))))
theorem zQ:(.seq Uj
 (.seq (.seq (.region [⟨Z 10,Y,.mv (.c (vI 0))⟩])
 (.block 0 m9))
 (.seq (.seq (.region [⟨Z 11,Y,.mv (.c (vI 0))⟩])
 (.block 2 m8))
 (.seq (.seq (.region [⟨Z 87,Y,.mv (.t 7)⟩,⟨Z 88,Y,.cE (.t 87)⟩,⟨Z 89,Y,.fieldAddr 6 (.t 88)⟩,⟨Z 90,Y,.load Y (.t 89)⟩])
 (.cond (.t 90) (.seq (.region [⟨Z 91,Y,.build [vI 0,vS ⟨#[]⟩,vI 0,.val (.slice Y 0 0),.val (.slice Y 0 0)] []⟩,⟨Y,Y,.store 5 (.t 4) (.t 91)⟩,⟨Z 5,Y,.mv (.c (vI 2))⟩])
 .ret) .skip))
 (.seq (.seq (.region [⟨Z 92,Y,.mv (.t 7)⟩,⟨Z 93,Y,.cE (.t 92)⟩,⟨Z 94,Y,.fieldAddr 5 (.t 93)⟩,⟨Z 95,Y,.load Y (.t 94)⟩])
 (.cond (.t 95) (.seq (.region [⟨Z 96,Y,.build [vI 0,vS ⟨#[]⟩,vI 0,.val (.slice Y 0 0),.val (.slice Y 0 0)] []⟩,⟨Y,Y,.store 5 (.t 4) (.t 96)⟩,⟨Z 5,Y,.mv (.c (vI 7))⟩])
 .ret) .skip))
 (.seq Ui
 .ret))))))=aXP:=rfl
def QuZ(s:St):Prop:=s.defers=[]/\s.eval (.t 4)=Z (.ptr 2 0)/\3<=s.h.next/\∃(z:Int) (q:Pr) (vF:AV) (fs:List Ln),s.eval (.t 5)=Z (vI z)/\s.h.get 2=Z (.cells (q.cells++[vF]) J)/\aV s.h 3 fs.length 2 vF (fs.flatMap Ln.cells)
theorem aV.lo{h:AH}{lo lo' k es:Nat}{v:AV}{cs:List AV}(r:aV h lo k es v cs)(hl:lo'<=lo):aV h lo' k es v cs:=U2
theorem aGF{e:Evr}{p:Pr}{fs:List Ln}{bs:List Pr}{v:AV}{out:List Pr}{s:St}(H:QuH s.h e p fs bs v out)(T:QuT s v)(hol:out.length<2^27):Run E1 Ui s λe' s'=>e'=.normal/\QuZ s':=by
 obtain⟨u2,u3,u4,u7,u8,hf⟩:=T;obtain⟨nt,vF,vB,lg,wr,a⟩:=id H.k;obtain⟨z,g2,lz,iz⟩:=H.g2;have hn4:=H.n;have gb:=a.g;have c3:∀(u w:AV) (l1 w1:Bool),cfB (Z (.cells [e.vs.A Vr.cells,e.sy.A Sm.cells,e.hs.A Ho.cells,u,w,Vb l1,Vb w1] J)) 3=Z [u,w,Vb l1,Vb w1]:=λ_ _ _ _=>rfl;have hsn:Pr.aI out<2^60:=by
  have:∀l:List Pr,(∀q∈l,q.nodes<2^30)->Pr.aI l<=l.length*2^30:=by
   intro l
   induction l with
   |nil=>intro _;exact il _
   |cons x r ih=>
    intro h;have h1:=ih λq hq=>h q (iy _ hq);have h2:=h x ip;have e1:Pr.aI (x::r)=x.nodes+Pr.aI r:=rfl
    grind
  have h1:=this out H.nd
  grind
 have p5:∀(z0 z1 z2 z3 z4:AV),dV [z0,z1,z2,z3,z4] 0 4 (bw out).cells=Z ((bw out).cells++[z4]):=λ_ _ _ _ _=>by
  exact U148
 have p6:∀(x z4:AV),dV ((bw out).cells++[z4]) 4 1 [x]=Z ((bw out).cells++[x]):=λx z4=>by
  exact U148
 have l5:∀x:AV,((bw out).cells++[x]).length=5:=by grind [Pr.len]
 have i5:∀x:AV,ids (.agg ((bw out).cells++[x]))=ids x:=λx=>by
  show aQ _=_;rw[ms,Pr.bM];exact jm _
 have hcF:=wg a.rF.x;have kvF:=bz a.rF.x.nice;have l0:=QuH.lo H.k;have kq:=U393;have k2:∀o,aN s.h (Z (.ptr 2 o))=J:=by grind [bm]
 rcases id H.r with⟨lf,hlen,⟨e0,rfl⟩|⟨B,B1,B2,B3,rfl,gB⟩⟩
 ·have es:out=[]:=by grind
  have hand:∀h,aE E1 (.f 31) [.val (.slice Y 0 0)] h (bw out).av h:=λh=>by
   have:=uP ⟨out,ai,Y⟩ Gr H.nd hsn h;rw[es] at this⊢
   exact this
  have inil:ids (.val (.slice Y 0 0))=[]:=rfl;refine pb rfl ?_
  simp[aGE,X0,X1,X2,X3,X4,V,WB,WF,u4,u7,u8,Rf,gb,c3,kq,k2,kvF,an inil,ge inil,ee hand,Pr.av,an (bw out).ah,(bw out).ah,p5,p6,hcF,i5,g2,cy lz (l5 _),hf];have kA:aN s.h (Z (.agg ((bw out).cells++[vF])))=J:=by
   have e1:fK s.h (.agg ((bw out).cells++[vF]))=fK s.h vF:=by
    grind [fK]
   show fK _ _=J;rw[e1];exact kvF
  refine⟨kA,?_,?_,?_,0,bw out,vF,fs,?_,?_,?_⟩
  all_goals try simp[V,u4,hf]
  ·grind
  ·exact aV.lo (aV.toB (h':=s.h.put 2 (Z (.cells ((bw out).cells++[vF]) J))) a.rF (ij _) λy hy=>bc (by have:=(a.rF.ids y hy).1;omega)) om
 ·obtain⟨w',hw',hl'⟩:=vE (h:=s.h) (lo:=4) (es:=4) (v:=.own B 0 out.length 4 Y) (l:=out) (f:=Pr.cells) (by rw[<-Pr.bG];exact H.r.x)
  rw[<-Pr.bG] at hw';have hand:∀h,aE E1 (.f 31) ([]++iA (.own B 0 out.length 4 Y) out.length (Pr.aG out)::[]) h (bw out).av h:=λh=>by
   have:=uP w' Gr (by rw[hl'];exact H.nd) Gr h
   grind
  have kB:aN s.h (Z (.own B 0 out.length 4 Y))=J:=bz H.r.x.nice;refine pb rfl ?_
  simp[aGE,X0,X1,X2,X3,V, *];refine rY (sK (j:=97) de (v:=.own B 0 out.length 4 Y) (by simp[V]) (λe=>by cases e)) ?_
  refine vm (xs:=[]) (ys:=[]) (w:=.own B 0 out.length 4 Y) (lo:=4) (k:=out.length) (es:=4) (cs:=Pr.aG out) (t:=(bw out).av) (by simpa-implicitDefEqProofs only[V,↓reduceIte,rA,rB,rC,reduceCtorEq,rD,rE,rF] using H.r.x) (eJ (g:=31) rf) (λv hv=>by cases hv) (λv hv=>by cases hv) ?_ (by simpa-implicitDefEqProofs only[V,↓reduceIte,rA,rB,rC,reduceCtorEq,rD,rE,rF] using nt) (aj.imm _ _ _).tree hand ?_ ?_
  ·simp[X3,V]
  ·simp[X3]
  intro h' n' g' nt';simp[V] at n' g' nt';have djB:=H.dj B (Bn B);have kA:bX h' 3 e fs bs:=⟨nt',vF,vB,lg,wr,a.to om λy hy=>g' y λq=>by
   rw[jb.1 q] at hy
   grind⟩
  obtain⟨_,vF',vB',lg',wr',a'⟩:=id kA;have e4:=a'.g;rw[g' 3 (by grind [ids]),gb] at e4
  have g2':h'.get 2=Z (.cells z J):=by grind [ids]
  have gb':=a'.g;have kq':=U394;have k2':∀o,aN h' (Z (.ptr 2 o))=J:=by grind [bm]
  have kvF':=bz a'.rF.x.nice;have hcF':=wg a'.rF.x;simp only[X0,X1,X2,X3,X4,V,WB,WF,Rf,Pr.av,an (bw out).ah,(bw out).ah,cy lz (l5 _),seval, *];have kA':aN h' (Z (.agg ((bw out).cells++[vF'])))=J:=by
   have e1:fK h' (.agg ((bw out).cells++[vF']))=fK h' vF':=by
    grind [fK]
   show fK _ _=J;rw[e1];exact kvF'
  refine⟨⟨om,om⟩,kA',?_,?_,?_,0,bw out,vF',fs,?_,?_,?_⟩
  all_goals try simp[V,u4,hf]
  ·grind
  ·exact aV.lo (aV.toB (h':=h'.put 2 (Z (.cells ((bw out).cells++[vF']) J))) a'.rF (ij _) λy hy=>bc (by have:=(a'.rF.ids y hy).1;omega)) om
theorem aAR{e:Evr}{p:Pr}{fs:List Ln}{bs:List Pr}{v:AV}{out:List Pr}{s:St}{K:Ex->St->Prop}(H:QuH s.h e p fs bs v out)(T:QuT s v)(hp:p.nodes<2^28)(hA:∀a∈rin 4 p [],ApP e a)(hl:(rin 4 p []).length<=400)(hs:Pr.aI (rin 4 p [])<=16000)(lf:fs.length<=400)(lb:bs.length<=400)(lo:out.length<=1)(hK:∀s',QuZ s'->K .ret s'):wp E1 aXP s K:=by
 obtain⟨u2,u3,u4,u7,u8,hf⟩:=T;obtain⟨w,w1,w2,hc⟩:=Kt H.eV (⟨rin 4 p [],ai,Y⟩:Vl Pr) hl hs hA;have ha:=Sf p hp;have g0:=H.g0;have g1:=H.g1;have hn4:=H.n;have v0:cfB (Z (.cells e.cells J)) 0=Z e.cells:=rfl;have tV:takeN (Z 3) e.cells=Z (.agg e.cells):=by rfl
 have tp:=U295;have iV:ids (.agg e.cells)=[]:=e.aQ;have k0:∀o,aN s.h (Z (.ptr 0 o))=J:=λo=>bm om g0 e.aQ;have k1:∀o,aN s.h (Z (.ptr 1 o))=J:=λo=>bm om g1 p.bM;have ia:ids ((⟨rin 4 p [],ai,Y⟩:Vl Pr).A Pr.cells)=[]:=Vl.ids;have iw:=U379;have wl:=rl w.l;simp[aXP,Uj,V];refine pb rfl ?_
 simp[aXR,X0,X1,X2,X3,X4,V,WB,WF,Er,an iV,ge iV,an p.ah,ge p.ah,p.ah,Pr.av,ee ha,an ia,ge ia,ee hc,an iw, *];have w1':∀c∈w.l,bdT e c/\c.nodes<=2400:=w1;refine(Ki (e:=e) (p:=p) (w:=w) w2 w1' w.l 0 fs bs v out _ rfl (il _) ?_ ⟨?_,?_,?_,?_,?_,?_⟩ om om om ?_ ?_).mono ?_
 all_goals try simp only[V,↓reduceIte,rA,rB,rC,reduceCtorEq,rD,rE,rF,u2,u3,u4,u7,u8,hf]
 ·exact H
 ·rfl
 rintro e' s2 ⟨rfl,fs2,bs2,v2,out2,H2,T2,f2,b2,o2⟩;obtain⟨y2,y3,y4,y7,y8,yf⟩:=id T2;simp[V];refine(Kh (e:=e) (p:=p) bs2 bs2 0 fs2 v2 out2 _ rfl (il _) ?_ ⟨?_,?_,?_,?_,?_,?_⟩ om om om ?_).mono ?_
 all_goals try simp only[V,↓reduceIte,rA,rB,rC,reduceCtorEq,rD,rE,rF,y2,y3,y4,y7,y8,yf]
 ·exact H2
 ·rfl
 rintro e' s3 ⟨rfl,fs3,v3,out3,H3,T3,o3⟩;obtain⟨x2,x3,x4,x7,x8,xf⟩:=id T3;obtain⟨nt,vF,vB,lg,wr,a⟩:=id H3.k;obtain⟨z,g2,lz,iz⟩:=H3.g2;have hn3:=H3.n;have gb:=a.g;have c6:cfB (Z (.cells [e.vs.A Vr.cells,e.sy.A Sm.cells,e.hs.A Ho.cells,vF,vB,Vb lg,Vb wr] J)) 6=Z [Vb wr]:=rfl;have c5:cfB (Z (.cells [e.vs.A Vr.cells,e.sy.A Sm.cells,e.hs.A Ho.cells,vF,vB,Vb lg,Vb wr] J)) 5=Z [Vb lg,Vb wr]:=rfl;have z5:=U399;have early:∀(s4:St) (k:Int),s4.h=s3.h.put 2 (Z (.cells [AV.val (.int .i64 0),vS ⟨#[]⟩,vI 0,.val (.slice Y 0 0),.val (.slice Y 0 0)] J))->s4.defers=[]->s4.eval (.t 4)=Z (.ptr 2 0)->s4.eval (.t 5)=Z (vI k)->QuZ s4:=λs4 k h1 h2 h3 h4=>by
  refine⟨h2,h3,by rw[h1];show 3<=s3.h.next;omega,k,zPr,.val (.slice Y 0 0),[],h4,by rw[h1];exact lA,⟨λc hc=>(by cases hc),rfl,.inl ⟨rfl,rfl⟩⟩⟩
 cases wr with
 |true=>
  simp[V,WF,x4,x7,gb,c6,g2,cy lz z5];refine hK _ (early _ 2 ?_ ?_ ?_ ?_)
  all_goals simp[V, *]
 |false=>
  cases lg with
  |true=>
   simp[V,WF,x4,x7,gb,c6,c5,g2,cy lz z5];refine hK _ (early _ 7 ?_ ?_ ?_ ?_)
   all_goals simp[V, *]
  |false=>
   simp[V, *];refine(aGF (e:=e) (p:=p) (fs:=fs3) (bs:=bs2) (v:=v3) (out:=out3) ?_ ⟨?_,?_,?_,?_,?_,?_⟩ om).mono ?_
   all_goals try simp only[V,↓reduceIte,rA,rB,rC,reduceCtorEq,rD,rE,rF,x2,x3,x4,x7,x8,xf]
   ·exact H3
   rintro e' s4 ⟨rfl,aA⟩;simp[V]
   grind
theorem aSQ{p:Pr}(h:p.same zPr=J):rin 4 p []=[]:=by
 have h:=(vD _ _).1 h;obtain⟨o,s,n,ks,a,b⟩:=p;have h:Pr.cp (.mk o s n ks a b)=Pr.cp (.mk 0 ⟨#[]⟩ 0 [] ai Y):=h;simp only[Pr.cp,Pr.cpL,Pr.mk.injEq] at h;obtain⟨rfl,_,_,h,_⟩:=h;cases ks with
 |nil=>rfl
 |cons k r=>grind [Pr.cpL]
def QuP(t:AV):Prop:=∃(q:Pr) (w:Vl Ln) (z:Int),t=.tup [.agg (q.cells++[w.A Ln.cells]),vI z]
theorem Ez{Vx:Evr}(hV:EvB Vx)(p:Pr)(hb:p.nodes<2^28):∃t,QuP t/\∀h,aE E1 (.f 35) [.agg Vx.cells,p.av] h t h:=by
 refine tI rf bNC (sE (Tree.ev Vx) (Tree.pr p)) λs hs hh hd hr=>?_
 have h0:=hs 0 _ rfl;have h1:=hs 1 _ rfl;have v0:=U388;have tV:=U385;have tp:=U295;have z5:=U399;have hc:=Se Vx hV p om;have hc2:=Hq p hb;have hz:=uE p;have l5:∀(q:Pr) (x:AV),(q.cells++[x]).length=5:=by grind [Pr.len]
 have fin:∀s',QuZ s'->(True/\s'.defers=[]/\∃rs,mQ (((s'.eval (.t 4)).bind (bI E1.aY s'.h)).bind (takeN (Z 5))) (mQ (s'.eval (.t 5)) (Z []))=Z rs/\∃t n,n<1000/\Rep s'.h 0 s'.h.next n (bQ rs) t/\QuP t):=λs' ⟨z1,z2,z3,z,q,vF,fs,z4,z5,z6⟩=>by
  refine⟨trivial,z1,?_⟩;have c0:cfB (Z (.cells (q.cells++[vF]) J)) 0=Z (q.cells++[vF]):=rfl;have t5:=cf (l5 q vF);simp only[V, *];obtain⟨w,hw,lw⟩:=vE z6.x;have r1:=z6.x.rep;rw[hw] at r1;have e1:(q.cells.map λc=>(c,c)).map (·.1)=q.cells:=by rw[Ak];exact List.map_id _
  have e2:(q.cells.map λc=>(c,c)).map (·.2)=q.cells:=by rw[Ak];exact List.map_id _
  have ra:=Rep.agg (h:=s'.h) (lo:=0) (hi:=s'.h.next) (n:=1) (ps:=(q.cells.map λc=>(c,c))++[(vF,w.A Ln.cells)]) (λp hp=>by
   rcases jv.1 hp with hp|hp
   ·obtain⟨c',hc',rfl⟩:=js.1 hp
    grind [Rep.leaf,Pr.leaves]
   ·rw[jb.1 hp];exact Rep.to (il _) (ij _) (λb _ _ cs rw g=>⟨rw,g⟩) (ij _) r1)
  simp only[Bc,jk,List.map_nil, *] at ra;have rt:=Rep.tup (h:=s'.h) (lo:=0) (hi:=s'.h.next) (n:=2) (ps:=[(.agg (q.cells++[vF]),.agg (q.cells++[w.A Ln.cells])),(vI z,vI z)]) (λp hp=>by
   simp[jd] at hp;rcases hp with rfl|rfl<;>grind [Rep.leaf,aj.val])
  exact⟨_,rfl,_,3,de,rt,q,w,z,rfl⟩
 have early:∀(G:AH) (hi:Nat) (k:Int),∃rs,mQ (takeN (Z 5) [AV.val (.int .i64 0),vS ⟨#[]⟩,vI 0,.val (.slice Y 0 0),.val (.slice Y 0 0)]) (Z [vI k])=Z rs/\∃t n,n<1000/\Rep G 0 hi n (bQ rs) t/\QuP t:=λG hi k=>by
  have ra:=Rep.agg (h:=G) (lo:=0) (hi:=hi) (n:=0) (ps:=[AV.val (.int .i64 0),vS ⟨#[]⟩,vI 0,.val (.slice Y 0 0),.val (.slice Y 0 0)].map λc=>(c,c)) (λp hp=>by
   obtain⟨c,hc,rfl⟩:=js.1 hp;simp only[jl,jd,or_false] at hc;rcases hc with rfl|rfl|rfl|rfl|rfl<;>exact Rep.leaf (aj.val _))
  have rt:=Rep.tup (h:=G) (lo:=0) (hi:=hi) (n:=1) (ps:=[(.agg [AV.val (.int .i64 0),vS ⟨#[]⟩,vI 0,.val (.slice Y 0 0),.val (.slice Y 0 0)],.agg [AV.val (.int .i64 0),vS ⟨#[]⟩,vI 0,.val (.slice Y 0 0),.val (.slice Y 0 0)]),(vI k,vI k)]) (λp hp=>by
   simp[jd] at hp;rcases hp with rfl|rfl<;>grind [Rep.leaf,aj.val])
  exact⟨_,rfl,_,2,de,rt,zPr,⟨[],ai,Y⟩,k,rfl⟩
 by_cases hbo:pq Vx p=0
 ·have db:decide (pq Vx p=0)=J:=by grind
  by_cases hho:rin 5 p []=[]
  ·have dh:decide ((0:Int)<((rin 5 p []).length:Nat))=U:=by grind
   have n3:bX ((((AH.empty.alloc (.cells Vx.cells J)).alloc (.cells p.cells J)).alloc (.cells [AV.val (.int .i64 0),vS ⟨#[]⟩,vI 0,.val (.slice Y 0 0),.val (.slice Y 0 0)] J)).alloc (.cells [Vx.vs.A Vr.cells,Vx.sy.A Sm.cells,Vx.hs.A Ho.cells,.val (.slice Y 0 0),.val (.slice Y 0 0),Vb U,Vb U] J)) 3 Vx [] []:=by
    refine⟨ak.empty.alloc.alloc.alloc.alloc,_,_,U,U,je 3,by simp[AH.aS,xG],⟨λc hc=>(by cases hc),rfl,.inl ⟨rfl,rfl⟩⟩,⟨λc hc=>(by cases hc),rfl,.inl ⟨rfl,rfl⟩⟩,λy hy=>by cases hy⟩
   have pV:∀z0 z1 z2 z3 z4 z5 z6:AV,dV [z0,z1,z2,z3,z4,z5,z6] 0 3 Vx.cells=Z [Vx.vs.A Vr.cells,Vx.sy.A Sm.cells,Vx.hs.A Ho.cells,z3,z4,z5,z6]:=λ_ _ _ _ _ _ _=>rfl;obtain⟨G,hG⟩:∃G,(((AH.empty.alloc (.cells Vx.cells J)).alloc (.cells p.cells J)).alloc (.cells [AV.val (.int .i64 0),vS ⟨#[]⟩,vI 0,.val (.slice Y 0 0),.val (.slice Y 0 0)] J)).alloc (.cells [Vx.vs.A Vr.cells,Vx.sy.A Sm.cells,Vx.hs.A Ho.cells,.val (.slice Y 0 0),.val (.slice Y 0 0),Vb U,Vb U] J)=G:=⟨_,rfl⟩;have Gn:G.next=4:=by rw[<-hG];rfl
   have kG:bX G 3 Vx [] []:=Gr;have G0:=U400;have G1:G.get 1=Z (.cells p.cells J):=by grind [AH.aS,tG]
   have G2:=U401;have B0:jW [] []:=⟨λx hx=>(by cases hx),λx hx=>by cases hx⟩
   have QG:QuH G Vx p [] [] (.val (.slice Y 0 0)) []:=⟨hV,kG,B0,G0,G1,⟨_,G2,rfl,rfl⟩,om,⟨λc hc=>(by cases hc),rfl,.inl ⟨rfl,rfl⟩⟩,(λy hy=>by cases hy),λq hq=>by cases hq⟩
   cases hq:p.same zPr with
   |true=>
    have hr:=aSQ hq;simp only[pZ,f35,zQ,V,WB,WF,h0,h1,hh,hd,v0,tV,Er,tp,ac hc,db,ac hc2,Vl.len,dh,pV,ac hz,hq,Pr.av,hG,G1,seval];refine aAR (e:=Vx) (p:=p) (fs:=[]) (bs:=[]) (v:=.val (.slice Y 0 0)) (out:=[]) ?_ ⟨?_,?_,?_,?_,?_,?_⟩ hb Gr Gr (by rw[hr];exact il _) (il _) (il _) (il _) (λs' aA=>⟨.inr rfl,(fin s' aA).2⟩)
    all_goals try simp only[V,↓reduceIte,rA,rB,rC,reduceCtorEq,rD,rE,rF,hd]
    grind
   |false=>
    obtain⟨ws,sb⟩:=bGR hbo hq;have nh:=(aHT p [] hho).2;have bd:=aLW p ws nh sb;have pn:=ws.n;obtain⟨a1,a2,a3⟩:=bGX ws nh;obtain⟨q,h1',fs1,bs1,rc,s1,k1,B1,f1,b1,nq⟩:=xP Vx p bd om 3 [] [] G hV B0 Gr Gr kG;have n1:=s1.nx;simp at f1 b1;simp only[pZ,f35,zQ,V,WB,WF,h0,h1,hh,hd,v0,tV,Er,tp,ac hc,db,ac hc2,Vl.len,dh,pV,ac hz,hq,Pr.av,hG,G1,seval];refine gt (by simp only[V];exact rc) ?_
    simp[V,WF,Pr.av,sX];refine sk (k:=0) (m:=1) (lo:=4) (v:=.val (.slice Y 0 0)) (x:=.own h1'.next 0 1 4 (Z 1)) (cs:=[]) (new:=q.cells) ?_ ?_ ?_ de (by rw[q.len]) q.leaves (lR om de) ?_ ?_ ?_
    ·exact U375
    ·simp only[V];omega
    ·refine kl (rw':=J) ?_ (by rw[q.len])
     simp[V]
    ·simp[V]
    ·simp[V]
    intro h2 rv2 n2 o2 t2 gn2;simp only[V] at rv2 n2 o2 t2 gn2;have cq:Pr.aG []++Pr.aG [q]=[]++q.cells:=by grind [Pr.aG]
    have H2:=QG.push (new:=[q]) (N:=h1'.next+1) s1 k1 B1 om (h2:=h2) om Gr (λy y1 y2=>by
     grind) (t2 k1.1.alloc) (λx hx=>by grind)
    simp[V];refine aAR (e:=Vx) (p:=p) (fs:=fs1) (bs:=bs1) (v:=.own (h1'.next+1) 0 1 4 Y) (out:=[]++[q]) ?_ ⟨?_,?_,?_,?_,?_,?_⟩ hb a1 a2 a3 om om Gr (λs' aA=>⟨.inr rfl,(fin s' aA).2⟩)
    all_goals try simp only[V,↓reduceIte,rA,rB,rC,reduceCtorEq,rD,rE,rF,hd]
    grind
  ·have dh:decide ((0:Int)<((rin 5 p []).length:Nat))=J:=by grind [List.length_pos_iff]
   simp only[pZ,f35,zQ,V,WB,WF,h0,h1,hh,hd,v0,tV,Er,tp,ac hc,db,ac hc2,Vl.len,dh,Pr.av,cy z5 z5,seval]
   simp_all
 ·have db:decide (pq Vx p=0)=U:=by grind
  simp[pZ,f35,zQ,V,WB,WF,h0,h1,hh,hd,v0,tV,Er,tp,ac hc,db,Pr.av,cy z5 z5]
  simp_all
theorem aEA(p:Pr):(notE p).nodes<=1+p.nodes:=by
 have h1:tPr.nodes=1:=rfl;have h2:fPr.nodes=1:=rfl;unfold notE;cases p.eX with
 |true=>grind
 |false=>
  cases p.same fPr with
  |true=>grind
  |false=>show 1+(p.nodes+0)<=_;omega
theorem aDZ(p:Pr):(fQ p).nodes<=1+p.nodes:=by
 have h:=aEA p;unfold fQ;cases decide (p.op=14) with
 |false=>exact h
 |true=>
  obtain⟨o,nm,n,ks,nl,cap⟩:=p;rw[cond_true]
  match ks,h with
  | [],h=>exact h
  | [k],h=>
   have e:(Pr.mk o nm n [k] nl cap).nodes=1+(k.nodes+0):=rfl;rw[e];show k.nodes<=_;omega
  |k::k'::r,h=>exact h
theorem aHF{Vx:Evr}(hV:EvB Vx)(w:Vl Pr)(g:Pr)(hl:w.l.length<=10)(hn:∀p∈w.l,p.nodes<=100000)(hg:g.nodes<=100000):∃t,QuP t/\∀h,aE E1 (.f 16) [.agg Vx.cells,w.A Pr.cells,g.av] h t h:=by
 have hN:∀p∈w.l++[fQ g],p.nodes<=100001:=by grind [aDZ]
 have hln:(w.l++[fQ g]).length=w.l.length+1:=Gr;have hs:=vd hN;rw[hln] at hs;have han:=yX (w.l++[fQ g]);obtain⟨t,⟨q,wl,z,rfl⟩,hq⟩:=Ez hV (bw (w.l++[fQ g])) om;refine tI rf bNO (yy (Tree.ev Vx) Vl.leaf.tree (Tree.pr g)) λs hs' hh hd hr=>?_
 have h0:=hs' 0 _ rfl;have h1:=hs' 1 _ rfl;have h2:=hs' 2 _ rfl;have v0:=U388;have tV:=U385;have tg:takeN (Z 4) g.cells=Z g.av:=cf g.len;have iV:=U392;have hnot:=aDY g om;have it:ids (.tup [.agg (q.cells++[wl.A Ln.cells]),vI z])=[]:=by
  show aQ (q.cells++[wl.A Ln.cells])++([]++[])=[];rw[ms,q.bM];show(ids (wl.A Ln.cells)++[])++_=[];rw[Vl.ids];rfl
 have iq:ids (.agg (q.cells++[wl.A Ln.cells]))=[]:=by
  grind [aQ,ids]
 have z5:=U399;have l5:=U402;obtain⟨G,hG⟩:∃G,((AH.empty.alloc (.cells Vx.cells J)).alloc (.cells g.cells J)).alloc (.cells [AV.val (.int .i64 0),vS ⟨#[]⟩,vI 0,.val (.slice Y 0 0),.val (.slice Y 0 0)] J)=G:=⟨_,rfl⟩;have Gn:G.next=3:=by rw[<-hG];rfl
 have Gt:=U397;have G0:=U400;have G1:G.get 1=Z (.cells g.cells J):=by grind [AH.aS,tG]
 have G2:=U401;simp[aYM,f16,V,WF, *];refine xb (k:=0) (m:=w.l.length) (lo:=3) (v:=.own 3 0 0 4 (Z 0)) (x:=w.A Pr.cells) (cs:=[]) (new:=w.l.flatMap Pr.cells) ?_ ?_ (xF Pr.len _ _) (Jt Pr.len _) (Om Pr.leaves _) (lR om de) ?_ ?_ ?_
 all_goals try simp only[V,rA]
 ·exact U398
 ·omega
 intro v2 h2' r2 n2 o2 t2 i2;simp at r2;have lo2:∀y,y<3->h2'.get y=G.get y:=λy hy=>by
  rw[o2 y om (by grind [ids]),if_neg om]
 have g0:h2'.get 0=Z (.cells Vx.cells J):=Gr;have g1:h2'.get 1=Z (.cells g.cells J):=Gr;have k0:∀o,aN h2' (Z (.ptr 0 o))=J:=λo=>bm om g0 Vx.aQ;have k1:∀o,aN h2' (Z (.ptr 1 o))=J:=λo=>bm om g1 g.bM;have nv2:=r2.nice;have kv2:=bz nv2;have nt2:=t2 Gt.alloc;have ns:=λy=>(r2.to (h':=h2'.alloc y) (j5 _) λz _ z2=>am z2).nice;simp[aYN];refine pb rfl ?_
 simp[aYL,X0,X1,X2,X3,X4,V,WF,an g.ah,ge g.ah,ee hnot,Pr.av,an (fQ g).ah,Pr.bM,sX, *];have cq:(fQ g).cells=Pr.aG [fQ g]:=by grind [Pr.aG]
 refine xb (k:=w.l.length) (m:=1) (lo:=3) (v:=v2) (x:=.own h2'.next 0 1 4 (Z 1)) (cs:=w.l.flatMap Pr.cells) (new:=(fQ g).cells) ?_ ?_ ?_ (by rw[Pr.len]) (Pr.leaves _) (lR om de) ?_ ?_ ?_
 ·simp[V];exact r2.to (j5 _) λy _ y2=>am y2
 ·simp[V];omega
 ·refine kl (rw':=J) ?_ (by rw[Pr.len])
  simp[V]
 ·simp[V]
 ·simp[V]
 intro v3 h3 r3 n3 o3 t3 i3;simp[V] at r3 n3 o3 t3 i3;have r4:bn h3 3 (w.l++[fQ g]).length 4 v3 (Pr.aG (w.l++[fQ g])):=by
  grind [Pr.bG]
 have nt3:=t3 nt2.alloc;have lo3:∀y,y<3->h3.get y=h2'.get y:=λy hy=>by
  rw[o3 y om (λq=>by have:=(r2.ids y q).1;omega),if_neg om]
 have g0':h3.get 0=Z (.cells Vx.cells J):=Gr;have k3:=bz r4.nice;have i0:∀x∈ids v2,¬x=0:=λx hx=>by have:=(r2.ids x hx).1;omega
 have i0':∀x∈ids v3,¬x=0:=Gr;obtain⟨w',hw',hl'⟩:=vE (h:=h3) (lo:=3) (es:=4) (v:=v3) (l:=w.l++[fQ g]) (f:=Pr.cells) Gr;rw[<-Pr.bG] at hw';have hand:∀h,aE E1 (.f 31) ([]++iA v3 (w.l++[fQ g]).length (Pr.aG (w.l++[fQ g]))::[]) h (bw (w.l++[fQ g])).av h:=by grind [uP]
 simp[X0,X2,X3,X4,V,k3];refine⟨i0,?_⟩;refine rY (sK (j:=17) de (v:=v3) (by simp[V]) (r4.ne om)) ?_
 refine vm (xs:=[]) (ys:=[]) (w:=v3) (lo:=3) (k:=(w.l++[fQ g]).length) (es:=4) (cs:=Pr.aG (w.l++[fQ g])) (t:=(bw (w.l++[fQ g])).av) (by simpa-implicitDefEqProofs only[V,↓reduceIte,rA,rB,rC,reduceCtorEq,rD,rE,rF] using r4) (eJ (g:=31) rf) (λv hv=>by cases hv) (λv hv=>by cases hv) ?_ (by simpa-implicitDefEqProofs only[V,↓reduceIte,rA,rB,rC,reduceCtorEq,rD,rE,rF] using nt3) (by rw[hw'];exact Vl.leaf.tree) hand ?_ ?_
 ·simp[X3,V]
 ·simp[X3,X4]
  grind
 intro h5 n5 o5 t5;simp[V] at n5 o5 t5;have g2':h5.get 2=Z (.cells [AV.val (.int .i64 0),vS ⟨#[]⟩,vI 0,.val (.slice Y 0 0),.val (.slice Y 0 0)] J):=by
  rw[o5 2 (λq=>by have:=(r4.ids 2 q).1;omega),lo3 2 de,lo2 2 de,G2]
 have k2':∀o,aN h5 (Z (.ptr 2 o))=J:=λo=>bm om g2' rfl;have iqc:aQ (q.cells++[wl.A Ln.cells])=[]:=iq;have t5':=cf l5;have c05:cfB (Z (.cells (q.cells++[wl.A Ln.cells]) J)) 0=Z (q.cells++[wl.A Ln.cells]):=rfl;simp only[X0,X1,X2,X3,X4,V,WF,an iV,ge iV,Pr.av,an (bw (w.l++[fQ g])).ah,ge (bw (w.l++[fQ g])).ah,ee hq,an it,an iq,k2',g2',cy z5 l5,hd,c05,t5',seval];have lv:∀v∈q.cells++[wl.A Ln.cells],aj v:=λv hv=>by
  rcases jv.1 hv with hv|hv
  ·exact q.leaves v hv
  grind [Vl.leaf]
 have rt:=Rep.tup (h:=h5.put 2 (Z (.cells (q.cells++[wl.A Ln.cells]) J))) (lo:=0) (hi:=h5.next) (n:=1) (ps:=[(.agg (q.cells++[wl.A Ln.cells]),.agg (q.cells++[wl.A Ln.cells])),(vI z,vI z)]) (λp hp=>by
  simp[jd] at hp;rcases hp with rfl|rfl<;>grind [sJ,Rep.leaf,aj.val])
 exact⟨_,rfl,_,2,de,rt,q,wl,z,rfl⟩
structure RawB (H:Hn) (L:Vl Qu):Prop where
 hs:H.hs.l.length<2^28
 hp:∀k∈H.hs.l,k.ps.l.length<2^28
 sy:H.sy.l.length<2^28
 sa:∀x∈H.sy.l,x.as.l.length<2^28
 cs:H.cs.l.length<2^28
 cv:∀c∈H.cs.l,c.vs.l.length<2^28
 ch:∀c∈H.cs.l,c.hy.l.length<2^28
 cn:∀c∈H.cs.l,(∀p∈c.hy.l,p.nodes<2^28)/\c.hd.nodes<2^28
 ls:L.l.length<2^28
 ln:∀q∈L.l,q.bd.nodes<2^28
theorem On:∀{l:List Pr},mI l=J->∀p∈l,p.nest<=2
 | [],_,p,hp=>by cases hp
 |q::r,h,p,hp=>by
  rw[mI,im] at h;rcases U173 with rfl|hp
  ·grind [n2]
  ·exact On h.2 p hp
theorem Oo:∀{l:List Cl},jT l=J->∀c∈l,(∀p∈c.hy.l,p.nest<=2)/\c.hd.nest<=2
 | [],_,p,hp=>by cases hp
 |q::r,h,c,hc=>by
  rw[jT,im,im] at h;rcases jl.1 hc with rfl|hc
  ·grind [On,n2]
  ·exact Oo h.2.2 c hc
theorem Oz{H:Hn}{L:Vl Qu}(R:RawB H L)(b:SmB H L)(hF:jT H.cs.l=J){S:Vl So}(hS:S.l.length<2^28)(hs:∀s∈S.l,s.p.nodes<=60):∀(r:List Cl) (i:Nat) (s:St),H.cs.l.drop i=r->i<=H.cs.l.length->K4 s H L->s.eval (.t 9)=Z (S.A So.cells)->s.eval (.t 91)=Z (H.cs.A Cl.cells)->s.eval (.t 92)=Z (vI (H.cs.l.length:Nat))->s.eval (.t 93)=Z (vI (i:Nat))->
  Run E1 aIU s λe s'=>(e=.exit 6/\s'.defers=[])\/Out4 e s'
 | [],i,s,hd,hi,K,u9,u46,u47,u48=>by
  have hl':=ca hd hi;subst hl';obtain⟨n,g,u1,u2,hf⟩:=K;apply az (rfl:aIU=.loop mm);simp[mm,V,u47,u48]
  grind
 |c::r,i,s,hd,hi,K,u9,u46,u47,u48=>by
  have hl:=cz hd;have hlt:=rj hl;have cs:=R.cs;have w1:=U204;have hix:=H.cs.at Cl.len hd;have mc:c∈H.cs.l:=by grind [ip]
  obtain⟨cn,hdn⟩:=R.cn c mc;obtain⟨fh,fd⟩:=Oo hF c mc;have hc:=sg c.hd om;have hc2:=uG c.hd om;obtain⟨n,g,u1,u2,hf⟩:=K;have tk:takeN (Z 7) (c.cells++r.flatMap Cl.cells)=Z (.agg c.cells):=Bq c.len;have hst:∀(h:AH) b (a0 a1 a2 a3 a4 a5 a6:AV),stK h b 7 0 c.cells (Z (.cells [a0,a1,a2,a3,a4,a5,a6] J))=Z (h.put b (Z (.cells c.cells J))):=λh b _ _ _ _ _ _ _=>cy rfl c.len;have c0:∀c:Cl,cfB (Z (.cells c.cells J)) 0=Z c.cells:=λ_=>rfl;have c1:∀c:Cl,cfB (Z (.cells c.cells J)) 1=Z (c.hy.A Pr.cells::(c.hd.cells++[vI c.tag])):=λ_=>rfl;have c2:∀c:Cl,cfB (Z (.cells c.cells J)) 2=Z (c.hd.cells++[vI c.tag]):=λ_=>rfl;have c00:takeN Y c.cells=Z (c.vs.A Vr.cells):=rfl;have t7:takeN (Z 7) c.cells=Z (.agg c.cells):=cf c.len;have tH:=U403;have h0:=U404;have n0:=U297;apply az (rfl:aIU=.loop mm);cases h3:decide ((3:Int)<(c.hy.l.length:Nat)) with
  |true=>
   simp only[mm,V,WF,u46,u47,u48,hlt,hix,tk,hst,c1,h3,seval];exact U374
  |false=>
  cases h5:decide ((5:Int)<(c.vs.l.length:Nat)) with
  |true=>
   simp only[mm,V,WF,u46,u47,u48,hlt,hix,tk,hst,c0,c1,c00,h3,h5,seval];exact U374
  |false=>
  cases h20:decide ((20:Int)<(c.hd.nodes:Nat)) with
  |true=>
   simp only[mm,V,WF,u46,u47,u48,hlt,hix,tk,hst,c0,c1,c2,c00,h3,h5,ac hc,h20,seval];exact U374
  |false=>
  cases h6:decide ((5:Int)<(c.hd.depth:Nat)) with
  |true=>
   simp only[mm,V,WF,u46,u47,u48,hlt,hix,tk,hst,c0,c1,c2,c00,h3,h5,ac hc,h20,ac hc2,h6,seval];exact U374
  |false=>
  have n3:=of_decide_eq_false h3;have n20:=of_decide_eq_false h20;simp only[mm,V,WF,ac hc,ac hc2,seval, *];refine(Pa (w:=c.hy) om (λq hq=>by grind) c.hy.l 0 _ rfl (il _) ?_ ?_ ?_ ?_).mono ?_
  all_goals try simp only[V,rA,hf]
  ·rfl
  rintro e s2 (⟨rfl,d2,n2,g2,ev,hh⟩|⟨rfl,d2,t4⟩)
  ·have y1:s2.eval (.t 1)=Z (L.A Qu.cells):=by grind
   have y2:s2.eval (.t 2)=Z (.ptr 0 0):=Gr;have y9:s2.eval (.t 9)=Z (S.A So.cells):=Gr;have y13:s2.eval (.t 13)=Z (.ptr s.h.next 0):=Gr;have y91:s2.eval (.t 91)=Z (H.cs.A Cl.cells):=Gr;have y92:s2.eval (.t 92)=Z (vI (H.cs.l.length:Nat)):=Gr;have y93:s2.eval (.t 93)=Z (vI (i:Nat)):=Gr;have z0:s2.h.get 0=Z (.cells H.cells J):=Gr;have zC:s2.h.get s.h.next=Z (.cells c.cells J):=Gr;have hsl:∀s∈S.l,s.p.nodes<2^29:=Gr;obtain⟨c',e1,e2,hfill⟩:=aAG H S c Gr om (by have:=R.hs;omega) (λk hk=>by have:=R.hp k hk;omega) om hsl om (λp hp=>by grind)
   have eV:EvB (clV H c):=⟨by have:=R.cv c mc;show c.vs.l.length<_;omega,by have:=R.sy;show H.sy.l.length<_;omega,λx hx=>by have:=R.sa x hx;omega,by have:=R.hs;show H.hs.l.length<_;omega,λx hx=>by have:=R.hp x hx;omega⟩
   obtain⟨t,⟨q,wl,z,rfl⟩,hask⟩:=aHF eV c'.hy c'.hd Gr (λp hp=>by
    rw[e1] at hp;obtain⟨p',hp',rfl⟩:=js.1 hp
    grind [aIL]) (by grind [aIL])
   have henv:=Yg H c;have hst':∀(h:AH) b (a0 a1 a2 a3 a4 a5 a6:AV),stK h b 7 0 c'.cells (Z (.cells [a0,a1,a2,a3,a4,a5,a6] J))=Z (h.put b (Z (.cells c'.cells J))):=λh b _ _ _ _ _ _ _=>cy rfl c'.len;have iH:=U405;have ic:ids (.agg c.cells)=[]:=c.bM;have iv:ids (.agg (clV H c).cells)=[]:=(clV H c).aQ;have ih:ids (c'.hy.A Pr.cells)=[]:=Vl.ids;have iq:ids (.agg (q.cells++[wl.A Ln.cells]))=[]:=by
    show aQ (q.cells++[wl.A Ln.cells])=[];rw[ms,q.bM];show ids (wl.A Ln.cells)++[]=[];rw[Vl.ids];rfl
   have iqc:aQ (q.cells++[wl.A Ln.cells])=[]:=iq;have it:ids (.tup [.agg (q.cells++[wl.A Ln.cells]),vI z])=[]:=by
    show ids (.agg (q.cells++[wl.A Ln.cells]))++([]++[])=[]
    grind
   have z5:=U399;have iz5:aQ [AV.val (.int .i64 0),vS ⟨#[]⟩,vI 0,.val (.slice Y 0 0),.val (.slice Y 0 0)]=[]:=rfl;have l5:=U402;obtain⟨G,hG⟩:∃G,(s2.h.alloc (.cells [AV.val (.slice Y 0 0),.val (.slice Y 0 0),vI 0,vS ⟨#[]⟩,vI 0,.val (.slice Y 0 0),vI 0] J)).put s2.h.next (Z (.cells c'.cells J))=G:=⟨_,rfl⟩;have Gn:G.next=s2.h.next+1:=by rw[<-hG];rfl
   have Gl:∀y,y<s2.h.next->G.get y=s2.h.get y:=by grind [bc,am]
   have G0:G.get 0=Z (.cells H.cells J):=Gr;have GC:G.get s.h.next=Z (.cells c.cells J):=Gr;have GN:G.get s2.h.next=Z (.cells c'.cells J):=by grind [lA]
   have k0:∀o,aN G (Z (.ptr 0 o))=J:=λo=>bm om G0 H.bM;have kC:∀o,aN G (Z (.ptr s.h.next o))=J:=λo=>bm om GC c.bM;have kN:∀o,aN G (Z (.ptr s2.h.next o))=J:=λo=>bm om GN c'.bM;have m4:cfB (Z (.cells (q.cells++[wl.A Ln.cells]) J)) 4=Z [wl.A Ln.cells]:=by
    exact U147
   have n00:¬0=G.next:=om;simp[V,WF,ac hfill,bID, *];refine pb rfl ?_
   simp[bIB,X0,X1,X2,X3,X4,V,WF,y2,y13,G0,GC,GN,h0,c0,c1,c2,t7,tH,k0,kC,kN,an iH,ge iH,an ic,ge ic,ee henv,an iv,ge iv,an ih,ge ih,an c'.hd.ah,ge c'.hd.ah,ee hask,an it,an iq,iz5,cy z5 l5]
   by_cases hz:z=0
   ·have dz:decide (z=0)=J:=by grind
    cases h8:decide ((8:Int)<(wl.l.length:Nat)) with
    |true=>
     simp only[V,dz,m4,h8,seval];exact .inr ⟨rfl,by simp[V,d2],by simp[V]⟩
    |false=>
     simp only[V,dz,m4,h8,y93,w1,seval];exact U149
   ·have dz:=U311;simp only[V,dz,y93,w1,seval];exact U149
  ·simp only[V,seval];exact .inr ⟨rfl,d2,t4⟩
theorem Xn{H:Hn}{L:Vl Qu}(R:RawB H L):∃x:Bool,(x=J->SmB H L)/\∀h,aE E1 (.f 4) [.agg H.cells,L.A Qu.cells] h (Vb x) h:=by
 obtain⟨t,⟨x,rfl,hx⟩,hr⟩:=tI (g:=4) (l:=[.agg H.cells,L.A Qu.cells]) (P:=λt=>∃x:Bool,t=Vb x/\(x=J->SmB H L)) rf bSD (sE (Tree.hn H) Vl.leaf.tree) λs hs hh hd hr=>by
  have h0:=hs 0 _ rfl;have h1:=hs 1 _ rfl;have b0:=U404;have b1:=U396;have b2:cfB (Z (.cells H.cells J)) 2=Z [H.cs.A Cl.cells]:=rfl;have t0:takeN Y H.cells=Z (H.sy.A Sm.cells):=rfl;have tH:=U403;have hc12:=aAE H (by have:=R.cs;omega) (λc hc=>⟨by have:=R.ch c hc;omega,λp hp=>by have:=(R.cn c hc).1 p hp;omega,by have:=(R.cn c hc).2;omega⟩)
  have no:∀(h:AH),∃rs,Z [AV.val (.bool U)]=Z rs/\∃t n,n<1000/\Rep h 0 h.next n (bQ rs) t/\∃x:Bool,t=Vb x/\(x=J->SmB H L):=λh=>⟨_,rfl,_,0,de,Rep.leaf (aj.val _),U,rfl,λq=>by cases q⟩
  have HD:=trivial;cases c1:decide ((3:Int)<(H.hs.l.length:Nat)) with
  |true=>
   exact U150
  |false=>
  cases c2:decide ((6:Int)<(H.cs.l.length:Nat)) with
  |true=>
   exact U150
  |false=>
  cases c3:decide ((5:Int)<(H.sy.l.length:Nat)) with
  |true=>
   exact U150
  |false=>
  cases c4:decide ((4:Int)<(L.l.length:Nat)) with
  |true=>
   exact U150
  |false=>
  cases c5:jT H.cs.l with
  |false=>
   rw[c5] at hc12;simp only[aIZ,f4,V,ac hc12,seval, *];exact no _
  |true=>
  rw[c5] at hc12;have n1:=of_decide_eq_false c1;have n4:=of_decide_eq_false c4;simp only[aIZ,f4,V,ac hc12,seval, *];have out:∀(s':St),s'.defers=[]->s'.eval (.t 4)=Z (Vb U)->(True/\s'.defers=[]/\∃rs,mQ (s'.eval (.t 4)) (Z [])=Z rs/\∃t n,n<1000/\Rep s'.h 0 s'.h.next n (bQ rs) t/\∃x:Bool,t=Vb x/\(x=J->SmB H L)):=λs' d t=>⟨trivial,d,by rw[t];exact no _⟩
  refine(Pd (H:=H) (L:=L) Gr H.hs.l 0 _ rfl (il _) ⟨?_,?_,?_,?_,?_⟩ ?_ ?_ ?_).mono ?_
  all_goals try simp only[V,↓reduceIte,rA,h1,hd]
  ·grind
  ·rfl
  rintro e s1 (⟨rfl,K1,hk⟩|⟨rfl,d,t4⟩)
  rotate_left
  ·exact U32
  obtain⟨a1,a2,a3,a4,a5⟩:=id K1;simp only[V,WF,a3];refine(Pc (H:=H) (L:=L) Gr (λq hq=>by have:=R.ln q hq;omega) L.l 0 _ rfl (il _) ⟨?_,?_,?_,?_,?_⟩ ?_ ?_ ?_).mono ?_
  all_goals try simp only[V,↓reduceIte,rA,a3,a4,a5]
  ·exact a1
  ·exact a2
  ·rfl
  rintro e s2 (⟨rfl,K2,hq⟩|⟨rfl,d,t4⟩)
  rotate_left
  ·exact U32
  obtain⟨b1',b2',b3,b4,b5⟩:=id K2;have b:SmB H L:=⟨om,hk,om,hq⟩;have z7:=aSA b;have z11:=aDB b (aUU b);have k0:∀o,aN s2.h (Z (.ptr 0 o))=J:=λo=>bm om b2' H.bM;have iH:=U405;have iL:ids (L.A Qu.cells)=[]:=Vl.ids;have i7:=U406;have i11:ids ((⟨dD bw (H.hs.l.map (gR L)) H.hs.l 0,ai,Y⟩:Vl So).A So.cells)=[]:=Vl.ids;simp only[V,WF,bIE];refine pb rfl ?_
  simp only[bIC,X0,X1,X2,X3,X4,V,b2',b3,b4,b0,tH,k0,an iH,ge iH,an iL,ge iL,ee z7,an i7,ge i7,ee z11,seval];have sl:=uw bw (H.hs.l.map (gR L)) H.hs.l 0;have hS:(⟨dD bw (H.hs.l.map (gR L)) H.hs.l 0,ai,Y⟩:Vl So).l.length<2^28:=by
   grind
  refine(Pb (H:=H) (L:=L) (S:=⟨dD bw (H.hs.l.map (gR L)) H.hs.l 0,ai,Y⟩) om (λs hs=>by have:=Hj (aUU b) H.hs.l 0 s hs;omega) _ 0 _ rfl (il _) ⟨?_,?_,?_,?_,?_⟩ ?_ ?_ ?_ ?_).mono ?_
  all_goals try simp only[V,↓reduceIte,rA,b3,b4,b5]
  ·grind
  ·grind
  ·rfl
  rintro e s3 (⟨rfl,K3,h9,hs6⟩|⟨rfl,d,t4⟩)
  rotate_left
  ·exact U32
  obtain⟨e1,e2,e3,e4,e5⟩:=id K3;simp only[V,WF,e4,e2];refine(Oz (H:=H) (L:=L) (S:=⟨dD bw (H.hs.l.map (gR L)) H.hs.l 0,ai,Y⟩) R b c5 hS hs6 H.cs.l 0 _ rfl (il _) ⟨?_,?_,?_,?_,?_⟩ ?_ ?_ ?_ ?_).mono ?_
  all_goals try simp only[V,↓reduceIte,rA,e3,e4,e5,h9]
  ·exact e1
  ·exact e2
  ·rfl
  rintro e s4 (⟨rfl,d4⟩|⟨rfl,d,t4⟩)
  ·simp only[V,WF,d4];exact⟨_,rfl,_,0,de,Rep.leaf (aj.val _),J,rfl,λ_=>b⟩
  ·exact U32
 exact⟨x,hx,hr⟩
def Live:Prop:=∀h,aE E1 (.f 5) [] h (Vb J) h
theorem bVX{H:Hn}{L:Vl Qu}(R:RawB H L)(hL:Live):∃h',Ev λn=>bh E1 (exec E1 n) 3 [.agg H.cells,L.A Qu.cells] .empty=Z (Vb J,h'):=by
 obtain⟨x,hx,hs⟩:=Xn R;obtain⟨v,h',rfl,hrun⟩:=yS (g:=3) (l:=[.agg H.cells,L.A Qu.cells]) (h:=.empty) (λv _=>v=Vb J) bSE λs hs' hh hd hr=>by
  refine rU _ _ _ ?_
  have h0:=hs' 0 _ rfl;have h1:=hs' 1 _ rfl;have b0:=U404;have tH:=U403;have hL:∀h,aE E1 (.f 5) [] h (Vb J) h:=hL;cases x with
  |false=>
   simp only[aXO,f3,V,ac hs,ac hL,seval, *];exact⟨_,rfl,rfl⟩
  |true=>
   have b:=hx rfl;have z6:=bJV b;have z7:=aSA b;have z8:=bOA b;have z10:=aSD b (aUU b);have z11:=aDB b (aUU b);have z9:=bHK b (aUU b);have y10:=aSD b aEW;have y11:=aDB b aEW;have y9:=bHK b aEW;have en:(⟨[],ai,Y⟩:Vl (Vl Pr)).A lsA=.val (.slice Y 0 0):=rfl;rw[en] at y10 y11;have iH:=U405;have iL:ids (L.A Qu.cells)=[]:=Vl.ids;have iR:=U406;have iP:ids ((⟨H.hs.l.map (gP L),ai,Y⟩:Vl (Vl Pr)).A lsA)=[]:=Vl.ids;have iS:∀w:Vl So,ids (w.A So.cells)=[]:=λ_=>Vl.ids;have G0:(AH.empty.alloc (.cells H.cells J)).get 0=Z (.cells H.cells J):=rfl;have k0:∀o,aN (AH.empty.alloc (.cells H.cells J)) (Z (.ptr 0 o))=J:=λo=>bm (je 0) G0 H.bM;simp[aXO,f3,bII,V,ac hs, *];refine pb rfl ?_
   simp[bIG,X0,X1,X2,X3,X4,V,an iH,ge iH,an iL,ge iL,ee z6,an iP,ee z7,bIH, *];refine pb rfl ?_
   simp only[bIF,X0,X1,X2,X3,X4,V,an iH,ge iH,an iP,ge iP,an iR,ge iR,ee z8,ee z10,ee z11,an (iS _),ge (iS _),ee z9,ee y10,ee y11,ee y9,ee hL,seval, *];exact⟨_,rfl,rfl⟩
 exact⟨h',hrun⟩
end Go.Proofs.YtmbabhlmdhghdaaGreatDoor
