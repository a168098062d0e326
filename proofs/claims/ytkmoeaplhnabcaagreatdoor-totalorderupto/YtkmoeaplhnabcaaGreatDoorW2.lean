/- TW TCall -/
import Derived.Test.YtkmoeaplhnabcaaGreatDoorU0
import Derived.Test.YtkmoeaplhnabcaaGreatDoorC1
import Derived.Test.YtkmoeaplhnabcaaGreatDoorD1
import Derived.Test.YtkmoeaplhnabcaaGreatDoorP0

set_option linter.all false
open And renaming intro → i4
open Bool renaming and_eq_true → i9
open List renaming append_assoc → jh, cons_append → ja, drop_left → Bu, drop_succ_cons → A6, drop_zero → jj, nil_append → iz
open Nat renaming beq → i5, ble → i6, le_of_ble_eq_true → is
open Go.Proofs.Tryz renaming prog → i3
namespace Go.Proofs.YtkmoeaplhnabcaaGreatDoor
open Go Go.AM
theorem Nz{cs:List AV}:(AV.agg cs).cells=some cs:=rfl
theorem Nt{v:Value}:(AV.val v).cells=some [.val v]:=rfl
theorem Nv{b o n e:Nat}{c:Option Nat}:(AV.own b o n e c).cells=some [.own b o n e c]:=rfl
theorem Nw{l:List AV}{n:Nat}{c:Option Nat}:(AV.imm l n c).cells=some [.imm l n c]:=rfl
theorem iB{l:List AV}{n:Nat}{x:Option (Option Addr×Nat)}{c:Option Nat}:(kidsA l n x c).cells=some [kidsA l n x c]:=by
 simp only[kidsA];cases (x.isSome&&i5 n 0)<;>rfl
theorem Sq{cs:List AV}{rw:Bool}:cfB (some (.cells cs rw)) 0=some cs:=rfl
theorem fa{cs l:List AV}{es k:Nat}(h:cs.length=es)(hk:i6 k es=true):fieldAddrV k (.iptr (cs++l))=some (.iptr ((cs++l).drop k)):=by
 have:i6 k (cs++l).length=true:=Nat.ble_eq.mpr (by have:=is hk;rw[List.length_append];omega)
 simp only[fieldAddrV,this,cond_true]
theorem eo{cs:List AV}{rw':Bool}{es k:Nat}(h:cs.length=es)(hk:i6 k es=true):cfB (some (.cells cs rw')) k=some (cs.drop k):=by
 have:i6 k cs.length=true:=Nat.ble_eq.mpr (by have:=is hk;omega)
 simp only[cfB,this,cond_true]
theorem Pr.c1{p:Pr}{rw:Bool}:cfB (some (.cells p.cells rw)) 1=some (vS p.nm::(vI p.n::(p.kids::[]))):=U10
theorem Pr.s1{p:Pr}{l:List AV}:fieldAddrV 1 (.iptr (p.cells++l))=some (.iptr (vS p.nm::(vI p.n::(p.kids::l)))):=U9
theorem Pr.c2{p:Pr}{rw:Bool}:cfB (some (.cells p.cells rw)) 2=some (vI p.n::(p.kids::[])):=U10
theorem Pr.s2{p:Pr}{l:List AV}:fieldAddrV 2 (.iptr (p.cells++l))=some (.iptr (vI p.n::(p.kids::l))):=U9
theorem Pr.c3{p:Pr}{rw:Bool}:cfB (some (.cells p.cells rw)) 3=some (p.kids::[]):=U10
theorem Pr.s3{p:Pr}{l:List AV}:fieldAddrV 3 (.iptr (p.cells++l))=some (.iptr (p.kids::l)):=U9
theorem Pr.hd0{p:Pr}:takeN none p.cells=some (vI p.op):=by rw[p.cells_eq];rfl
theorem Pr.hd1{p:Pr}{l:List AV}:takeN none (p.cells++l)=some (vI p.op):=by rw[p.cells_eq];rfl
theorem Pr.row{p:Pr}{l:List AV}:takeN (some 4) (p.cells++l)=some (.agg p.cells):=bq p.len
theorem Pr.all0{p:Pr}:takeN (some 4) p.cells=some (.agg p.cells):=bf p.len
theorem Ty.c1{p:Ty}{rw:Bool}:cfB (some (.cells p.cells rw)) 1=some (vS p.nm::(p.args::(p.ns.A strA::(p.p.cells++(p.ps.A Pr.cells::[]))))):=U6
theorem Ty.s1{p:Ty}{l:List AV}:fieldAddrV 1 (.iptr (p.cells++l))=some (.iptr (vS p.nm::(p.args::(p.ns.A strA::(p.p.cells++(p.ps.A Pr.cells::l)))))):=U5
theorem Ty.c2{p:Ty}{rw:Bool}:cfB (some (.cells p.cells rw)) 2=some (p.args::(p.ns.A strA::(p.p.cells++(p.ps.A Pr.cells::[])))):=U6
theorem Ty.s2{p:Ty}{l:List AV}:fieldAddrV 2 (.iptr (p.cells++l))=some (.iptr (p.args::(p.ns.A strA::(p.p.cells++(p.ps.A Pr.cells::l))))):=U5
theorem Ty.c3{p:Ty}{rw:Bool}:cfB (some (.cells p.cells rw)) 3=some (p.ns.A strA::(p.p.cells++(p.ps.A Pr.cells::[]))):=U6
theorem Ty.s3{p:Ty}{l:List AV}:fieldAddrV 3 (.iptr (p.cells++l))=some (.iptr (p.ns.A strA::(p.p.cells++(p.ps.A Pr.cells::l)))):=U5
theorem Ty.c4{p:Ty}{rw:Bool}:cfB (some (.cells p.cells rw)) 4=some (p.p.cells++(p.ps.A Pr.cells::[])):=U6
theorem Ty.s4{p:Ty}{l:List AV}:fieldAddrV 4 (.iptr (p.cells++l))=some (.iptr (p.p.cells++(p.ps.A Pr.cells::l))):=U5
theorem Ty.c8{p:Ty}{rw:Bool}:cfB (some (.cells p.cells rw)) 8=some (p.ps.A Pr.cells::[]):=by
 refine(eo (es:=9) p.len de).trans ?_
 congr 1
 rw[p.cells_eq]
 first|done|simp only[A6]
 rw[show 4=p.p.cells.length from p.p.len.symm,Bu]
theorem Ty.s8{p:Ty}{l:List AV}:fieldAddrV 8 (.iptr (p.cells++l))=some (.iptr (p.ps.A Pr.cells::l)):=by
 refine(fa (es:=9) p.len de).trans ?_
 congr 2
 rw[p.cells_eq]
 first|done|simp only[ja,jh,iz,A6]
 rw[show 4=p.p.cells.length from p.p.len.symm,Bu]
theorem Ty.hd0{p:Ty}:takeN none p.cells=some (vI p.op):=by rw[p.cells_eq];rfl
theorem Ty.hd1{p:Ty}{l:List AV}:takeN none (p.cells++l)=some (vI p.op):=by rw[p.cells_eq];rfl
theorem Ty.row{p:Ty}{l:List AV}:takeN (some 9) (p.cells++l)=some (.agg p.cells):=bq p.len
theorem Ty.all0{p:Ty}:takeN (some 9) p.cells=some (.agg p.cells):=bf p.len
theorem Pm.c1{p:Pm}{rw:Bool}:cfB (some (.cells p.cells rw)) 1=some p.t.cells:=by
 refine(eo (es:=10) p.len de).trans ?_
 congr 1
 first|done|simp only[Pm.cells,ja,jh,iz,A6,jj]
theorem Pm.s1{p:Pm}{l:List AV}:fieldAddrV 1 (.iptr (p.cells++l))=some (.iptr (p.t.cells++l)):=by
 refine(fa (es:=10) p.len de).trans ?_
 congr 2
 first|done|simp only[Pm.cells,ja,jh,iz,A6,jj]
theorem Pm.hd0{p:Pm}:takeN none p.cells=some (vS p.nm):=rfl
theorem Pm.hd1{p:Pm}{l:List AV}:takeN none (p.cells++l)=some (vS p.nm):=rfl
theorem Pm.row{p:Pm}{l:List AV}:takeN (some 10) (p.cells++l)=some (.agg p.cells):=bq p.len
theorem Pm.all0{p:Pm}:takeN (some 10) p.cells=some (.agg p.cells):=bf p.len
theorem Ex.c1{p:Ex}{rw:Bool}:cfB (some (.cells p.cells rw)) 1=some (vS p.nm::(vI p.n::(p.kids::(p.pm.A Pm.cells::(p.alts::(p.ty.A Ty.cells::[])))))):=U8
theorem Ex.s1{p:Ex}{l:List AV}:fieldAddrV 1 (.iptr (p.cells++l))=some (.iptr (vS p.nm::(vI p.n::(p.kids::(p.pm.A Pm.cells::(p.alts::(p.ty.A Ty.cells::l))))))):=U7
theorem Ex.c2{p:Ex}{rw:Bool}:cfB (some (.cells p.cells rw)) 2=some (vI p.n::(p.kids::(p.pm.A Pm.cells::(p.alts::(p.ty.A Ty.cells::[]))))):=U8
theorem Ex.s2{p:Ex}{l:List AV}:fieldAddrV 2 (.iptr (p.cells++l))=some (.iptr (vI p.n::(p.kids::(p.pm.A Pm.cells::(p.alts::(p.ty.A Ty.cells::l)))))):=U7
theorem Ex.c3{p:Ex}{rw:Bool}:cfB (some (.cells p.cells rw)) 3=some (p.kids::(p.pm.A Pm.cells::(p.alts::(p.ty.A Ty.cells::[])))):=U8
theorem Ex.s3{p:Ex}{l:List AV}:fieldAddrV 3 (.iptr (p.cells++l))=some (.iptr (p.kids::(p.pm.A Pm.cells::(p.alts::(p.ty.A Ty.cells::l))))):=U7
theorem Ex.c4{p:Ex}{rw:Bool}:cfB (some (.cells p.cells rw)) 4=some (p.pm.A Pm.cells::(p.alts::(p.ty.A Ty.cells::[]))):=U8
theorem Ex.s4{p:Ex}{l:List AV}:fieldAddrV 4 (.iptr (p.cells++l))=some (.iptr (p.pm.A Pm.cells::(p.alts::(p.ty.A Ty.cells::l)))):=U7
theorem Ex.c5{p:Ex}{rw:Bool}:cfB (some (.cells p.cells rw)) 5=some (p.alts::(p.ty.A Ty.cells::[])):=U8
theorem Ex.s5{p:Ex}{l:List AV}:fieldAddrV 5 (.iptr (p.cells++l))=some (.iptr (p.alts::(p.ty.A Ty.cells::l))):=U7
theorem Ex.c6{p:Ex}{rw:Bool}:cfB (some (.cells p.cells rw)) 6=some (p.ty.A Ty.cells::[]):=U8
theorem Ex.s6{p:Ex}{l:List AV}:fieldAddrV 6 (.iptr (p.cells++l))=some (.iptr (p.ty.A Ty.cells::l)):=U7
theorem Ex.hd0{p:Ex}:takeN none p.cells=some (vI p.op):=by rw[p.cells_eq];rfl
theorem Ex.hd1{p:Ex}{l:List AV}:takeN none (p.cells++l)=some (vI p.op):=by rw[p.cells_eq];rfl
theorem Ex.row{p:Ex}{l:List AV}:takeN (some 7) (p.cells++l)=some (.agg p.cells):=bq p.len
theorem Ex.all0{p:Ex}:takeN (some 7) p.cells=some (.agg p.cells):=bf p.len
theorem Al.c1{p:Al}{rw:Bool}:cfB (some (.cells p.cells rw)) 1=some (p.ns.A strA::p.b.cells):=U6
theorem Al.s1{p:Al}{l:List AV}:fieldAddrV 1 (.iptr (p.cells++l))=some (.iptr (p.ns.A strA::(p.b.cells++l))):=U5
theorem Al.c2{p:Al}{rw:Bool}:cfB (some (.cells p.cells rw)) 2=some p.b.cells:=U6
theorem Al.s2{p:Al}{l:List AV}:fieldAddrV 2 (.iptr (p.cells++l))=some (.iptr (p.b.cells++l)):=U5
theorem Al.hd0{p:Al}:takeN none p.cells=some (vS p.con):=by rw[p.cells_eq];rfl
theorem Al.hd1{p:Al}{l:List AV}:takeN none (p.cells++l)=some (vS p.con):=by rw[p.cells_eq];rfl
theorem Al.row{p:Al}{l:List AV}:takeN (some 9) (p.cells++l)=some (.agg p.cells):=bq p.len
theorem Al.all0{p:Al}:takeN (some 9) p.cells=some (.agg p.cells):=bf p.len
theorem Df.c1{p:Df}{rw:Bool}:cfB (some (.cells p.cells rw)) 1=some (p.ps.A strA::(p.b.cells++(p.rest))):=U4
theorem Df.s1{p:Df}{l:List AV}:fieldAddrV 1 (.iptr (p.cells++l))=some (.iptr (p.ps.A strA::(p.b.cells++(p.rest++l)))):=U3
theorem Df.c2{p:Df}{rw:Bool}:cfB (some (.cells p.cells rw)) 2=some (p.b.cells++(p.rest)):=U4
theorem Df.s2{p:Df}{l:List AV}:fieldAddrV 2 (.iptr (p.cells++l))=some (.iptr (p.b.cells++(p.rest++l))):=U3
theorem Df.c9{p:Df}{rw:Bool}:cfB (some (.cells p.cells rw)) 9=some (p.rest):=by
 refine(eo (es:=25) p.len de).trans ?_
 congr 1
 simp only[Df.cells,A6];rw[show 7=p.b.cells.length from p.b.len.symm,Bu]
theorem Df.s9{p:Df}{l:List AV}:fieldAddrV 9 (.iptr (p.cells++l))=some (.iptr (p.rest++l)):=by
 refine(fa (es:=25) p.len de).trans ?_
 congr 2
 simp only[Df.cells,ja,jh,A6];rw[show 7=p.b.cells.length from p.b.len.symm,Bu]
theorem Df.hd0{p:Df}:takeN none p.cells=some (vS p.nm):=rfl
theorem Df.hd1{p:Df}{l:List AV}:takeN none (p.cells++l)=some (vS p.nm):=rfl
theorem Df.row{p:Df}{l:List AV}:takeN (some 25) (p.cells++l)=some (.agg p.cells):=bq p.len
theorem Df.all0{p:Df}:takeN (some 25) p.cells=some (.agg p.cells):=bf p.len
theorem Md.c1{p:Md}{rw:Bool}:cfB (some (.cells p.cells rw)) 1=some (.val p.x1::(.val p.x2::(.val p.x3::(.val p.x4::(p.ds.A Df.cells::[]))))):=U2
theorem Md.c2{p:Md}{rw:Bool}:cfB (some (.cells p.cells rw)) 2=some (.val p.x2::(.val p.x3::(.val p.x4::(p.ds.A Df.cells::[])))):=U2
theorem Md.c3{p:Md}{rw:Bool}:cfB (some (.cells p.cells rw)) 3=some (.val p.x3::(.val p.x4::(p.ds.A Df.cells::[]))):=U2
theorem Md.c4{p:Md}{rw:Bool}:cfB (some (.cells p.cells rw)) 4=some (.val p.x4::(p.ds.A Df.cells::[])):=U2
theorem Md.c5{p:Md}{rw:Bool}:cfB (some (.cells p.cells rw)) 5=some (p.ds.A Df.cells::[]):=U2
theorem Md.hd0{p:Md}:takeN none p.cells=some (.val p.x0):=rfl
theorem Md.all0{p:Md}:takeN (some 6) p.cells=some (.agg p.cells):=bf p.len
theorem El{α:Type}{f:α→List AV}{v:Vl α}:(v.A f).cells=some [v.A f]:=iB
theorem n_2{k:IntKind}:asN (.val (.int k 2))=some 2:=rfl
theorem Uz{cs:List AV}:fieldAddrV 0 (.iptr cs)=some (.iptr cs):=rfl
theorem Ex.kids_len{e:Ex}:lenV e.kids=some (vI (e.ks.length:Nat)):=by
 obtain⟨nl,cap,h⟩:=e.kids_eq;rw[h];exact Vl.len
theorem Ex.alts_len{e:Ex}:lenV e.alts=some (vI (e.al.length:Nat)):=by
 obtain⟨nl,cap,h⟩:=e.alts_eq;rw[h];exact Vl.len
theorem Ty.args_len{e:Ty}:lenV e.args=some (vI (e.as.length:Nat)):=by
 obtain⟨nl,cap,h⟩:=e.args_eq;rw[h];exact Vl.len
theorem Ex.kid{e:Ex}{i:Nat}{k:Ex}{r:List Ex}(h:e.ks.drop i=k::r):idxAddrSV 7 e.kids i=some (.iptr (k.cells++r.flatMap Ex.cells)):=by
 obtain⟨nl,cap,h1⟩:=e.kids_eq;rw[h1];exact Vl.at (v:=⟨e.ks,nl,cap⟩) Ex.len h
theorem Ex.alt{e:Ex}{i:Nat}{k:Al}{r:List Al}(h:e.al.drop i=k::r):idxAddrSV 9 e.alts i=some (.iptr (k.cells++r.flatMap Al.cells)):=by
 obtain⟨nl,cap,h1⟩:=e.alts_eq;rw[h1];exact Vl.at (v:=⟨e.al,nl,cap⟩) Al.len h
theorem Nx{e:Ex}:(e.kids).cells=some [e.kids]:=by
 obtain⟨nl,cap,h⟩:=e.kids_eq;rw[h];exact iB
theorem Ny{e:Ex}:(e.alts).cells=some [e.alts]:=by
 obtain⟨nl,cap,h⟩:=e.alts_eq;rw[h];exact iB
theorem Nu{e:Ty}:(e.args).cells=some [e.args]:=by
 obtain⟨nl,cap,h⟩:=e.args_eq;rw[h];exact iB
def W0:=i4 @Nn (i4 @Tl (i4 @Np (i4 @Ee (i4 @Tk (i4 @Hz (i4 @y7 (i4 @Rs (i4 @Lc (i4 @Ei (i4 @Tm (i4 @Nr (i4 @y4 (i4 @Rh (i4 @Kw (@wT)))))))))))))))
def W1:=i4 @s_g (i4 @zB (i4 @zC (i4 @wW (i4 @wX (i4 @wV (i4 @Kb (i4 @Hu (i4 @Hv (i4 @tN (i4 @tP (i4 @tO (i4 @Ux (i4 @Jw (i4 @Ez (@Pz)))))))))))))))
def W2:=i4 @xh (i4 @Fj (i4 @xk (i4 @ou (i4 @wq (i4 @Jy (i4 @Fg (i4 @qS (i4 @Qa (i4 @xi (i4 @Uw (i4 @qa (i4 @tV (i4 @xM (i4 @yG (@uC)))))))))))))))
def W3:=i4 @wi (i4 @Jz (i4 @yF (i4 @yE (i4 @zP (i4 @Kc (i4 @ux (i4 @To (i4 @St.eval_set (i4 @St.eval_toH (i4 @St.eval_c (i4 @St.h_set (i4 @St.h_toH (i4 @Ka (i4 @Fh (i4 @Jv (@Fi))))))))))))))))
def W4:=i4 @St.df_set (i4 @St.df_toH (i4 @St.get_set (i4 @St.tm_toH (i4 @Nz (i4 @Nt (i4 @Nv (i4 @Nw (i4 @iB (i4 @Lr (i4 @Nm (i4 @Hx (i4 @AH.get_alloc (i4 @AH.get_put (i4 @Nj (i4 @vN (i4 @Kl (i4 @yD (@oo))))))))))))))))))
def W5:=i4 @Pr.c1 (i4 @Pr.s1 (i4 @Pr.c2 (i4 @Pr.s2 (i4 @Pr.c3 (i4 @Pr.s3 (i4 @Pr.hd0 (i4 @Pr.hd1 (i4 @Pr.row (i4 @Pr.all0 (i4 @Ty.c1 (i4 @Ty.s1 (i4 @Ty.c2 (i4 @Ty.s2 (i4 @Ty.c3 (i4 @Ty.s3 (i4 @Ty.c4 (i4 @Ty.s4 (i4 @Ty.c8 (i4 @Ty.s8 (i4 @Ty.hd0 (i4 @Ty.hd1 (i4 @Ty.row (i4 @Ty.all0 (i4 @Pm.c1 (i4 @Pm.s1 (i4 @Pm.hd0 (i4 @Pm.hd1 (i4 @Pm.row (i4 @Pm.all0 (i4 @Ex.c1 (i4 @Ex.s1 (i4 @Ex.c2 (i4 @Ex.s2 (i4 @Ex.c3 (i4 @Ex.s3 (i4 @Ex.c4 (i4 @Ex.s4 (i4 @Ex.c5 (i4 @Ex.s5 (@Ex.c6))))))))))))))))))))))))))))))))))))))))
def W6:=i4 @Ex.s6 (i4 @Ex.hd0 (i4 @Ex.hd1 (i4 @Ex.row (i4 @Ex.all0 (i4 @Al.c1 (i4 @Al.s1 (i4 @Al.c2 (i4 @Al.s2 (i4 @Al.hd0 (i4 @Al.hd1 (i4 @Al.row (i4 @Al.all0 (i4 @Df.c1 (i4 @Df.s1 (i4 @Df.c2 (i4 @Df.s2 (i4 @Df.c9 (i4 @Df.s9 (i4 @Df.hd0 (i4 @Df.hd1 (i4 @Df.row (i4 @Df.all0 (i4 @Md.c1 (i4 @Md.c2 (i4 @Md.c3 (i4 @Md.c4 (i4 @Md.c5 (i4 @Md.hd0 (i4 @Md.all0 (i4 @Ex.kids_len (i4 @Ex.alts_len (i4 @Ty.args_len (i4 @Nx (i4 @Ny (i4 @Nu (i4 @Fc (i4 @kids_len (i4 @Vl.len (i4 @El (i4 @Sq (@Ge)))))))))))))))))))))))))))))))))))))))))
def W7:=i4 @Ie (i4 @Ox (i4 @Oy (i4 @Oz (i4 @Pa (i4 @Ot (i4 @Pb (i4 @Oo (i4 @Ov (i4 @Jj (i4 @Ji (i4 @Oq (i4 @Jk (i4 @Jl (i4 @Fa (@Du)))))))))))))))
def W8:=i4 @Kt (i4 @n_0 (i4 @n_1 (i4 @n_2 (i4 @x_0 (i4 @x_1 (i4 @x_2 (i4 @sk (i4 @Qd (i4 @Fm (i4 @yJ (i4 @Kn (i4 @Km (i4 @wu (i4 @tU (i4 @qX (i4 @Jx (i4 @Ow (i4 @Ou @Uz))))))))))))))))))
def W9:=i4 @Nat.zero_add (i4 @Nat.add_zero (i4 @Nat.zero_mul (i4 @true_and (i4 @and_true (i4 @true_or (i4 @or_true (i4 @Bool.not_true (i4 @Bool.not_false (i4 @decide_true (i4 @decide_false (i4 @Bool.and_true (i4 @Bool.true_and (i4 @Bool.and_false (i4 @Bool.false_and (i4 @Bool.or_true (i4 @Bool.true_or (i4 @Bool.or_false (@Bool.false_or))))))))))))))))))
theorem Qf (s : St) (v : AV) : s.put none v = s := rfl
theorem Qe (s : St) (d : Nat) (v : AV) : s.put (some d) v = s.set d v := rfl
def V0 := i4 @Option.bind_some.{0,0} (i4 @Option.map_some.{0,0} (i4 @cond_true.{1} (i4 @cond_false.{1} (i4 @if_true.{1} (i4 @if_false.{1} (i4 @cond_true.{0} (i4 @cond_false.{0} (i4 @if_true.{0} @if_false.{0}))))))))
def VZ := i4 @zo.eq_1 (i4 @zg.eq_1 (i4 @m.eq_1 (i4 @n.eq_1 (i4 @zbf.eq_1 (i4 @zbt.eq_1 (i4 @zns.eq_1 (i4 @l.eq_1 (i4 @zL.eq_1 (i4 @zD.eq_1 (i4 @zln.eq_1 (i4 @zX.eq_1 (i4 @zc1.eq_1 (i4 @zc2.eq_1 (i4 @zbx.eq_1 (i4 @zpf.eq_1 (i4 @zpt.eq_1 (i4 @zex.eq_1 (i4 @zun.eq_1 (i4 @zbk.eq_1 (@zbv.eq_1))))))))))))))))))))
def V := i4 W0 (i4 W1 (i4 W2 (i4 W3 (i4 W4 (i4 W5 (i4 W6 (i4 W7 (i4 W8 (i4 W9 (i4 VZ (i4 Qf (i4 Qe V0))))))))))))
class KR where
 k:Nat→List AV→Option AV
def known3(g:Nat):Bool:=(i5 g 49||i5 g 6)||(i5 g 69||i5 g 83)
variable [KR]
noncomputable def E1:Env:={E0 with known:=fun g l=>bif known3 g then KR.k g l else none,shared:=(E0.shared.put 78 (some ())).put 111 (some ())}
theorem Vc:E1.P=i3:=rfl
noncomputable def freshF (g:Nat):Bool:=(E1.shared.get g).isNone&& !known3 g
theorem bI{g:Nat}(h:freshF g=true):E1.shared.get g=none:=by
 simp only[freshF,i9,Option.isNone_iff_eq_none] at h;exact h.1
theorem bX{g:Nat}(h:freshF g=true)(l:List AV):E1.known g l=none:=by
 simp only[freshF,i9,Bool.not_eq_true'] at h;show(bif known3 g then KR.k g l else none)=none;rw[h.2];rfl
theorem dT{g:Nat}{l:List AV}{h:AH}{a:AFun}(P:AV→AH→Prop)(hf:funOf i3 g=some a)
  (H:∀s:St,(∀i v,(enterTm l 0 .nil).get i=some v→s.eval (.t i)=some v)→s.h=h→s.defers=[]→s.round=none→Run E1 a.body s fun e s=>(e=.normal∨e=.ret)∧s.defers=[]∧∃r,resultsA E1.globs s a.res=some r∧P (oneOrTup r) s.h):
  ∃v h',P v h'∧Ev fun n=>enterA E1 (exec E1 n) g l h=some (v,h'):=by
 obtain⟨e,s',x,y1,y2,r,y3,hp⟩:=(H {tm:=enterTm l 0 .nil,h:=h,defers:=[],round:=none} (fun _ _ h=>h) rfl rfl rfl);refine⟨oneOrTup r,s'.h,hp,x.mono fun n p=>?_⟩;have hl:leaveA E1 a s'=some (oneOrTup r,s'.h):=by
  obtain⟨tm,h1,df,rd⟩:=s';simp only at y2 y3;subst y2;simp only[leaveA,runDefers,y3]
 simp only[enterA,(show funOf E1.P g=some a by rw[Vc];exact hf),p]
 rcases y1 with rfl|rfl<;>exact hl
theorem d6{g:Nat}{l:List AV}{h:AH}{a:AFun}(P:AV→AH→Prop)(hs:E1.shared.get g=some ())(hf:funOf i3 g=some a)
  (H:∀s:St,(∀i v,(enterTm l 0 .nil).get i=some v→s.eval (.t i)=some v)→s.h=h→s.defers=[]→s.round=none→wp E1 a.body s fun e s=>(e=.normal∨e=.ret)∧s.defers=[]∧∃r,resultsA E1.globs s a.res=some r∧P (oneOrTup r) s.h):
  ∃v h',RunCall E1 (.f g) l h v h'∧P v h':=by
 obtain⟨v,h',hp,hr⟩:=dT P hf fun s h1 h2 h3 h4=>ag _ _ _ (H s h1 h2 h3 h4);refine⟨v,h',hr.mono fun n p=>?_,hp⟩;simp only[aZ,cD,hs,p]
theorem gJ{g:Nat}{l:List AV}{a:AFun}{r:AV}(hs:freshF g=true)(hf:funOf i3 g=some a)(hl:∀v∈l,Tree v)(hr:isFlat r=true)(ht:Tree r)
  (H:∀s:St,(∀i v,(enterTm l 0 .nil).get i=some v→s.eval (.t i)=some v)→s.h=.empty→s.defers=[]→s.round=none→wp E1 a.body s fun e s=>(e=.normal∨e=.ret)∧s.defers=[]∧resultsA E1.globs s a.res=some [r]) (h:AH):
  RunCall E1 (.f g) l h r h:=by
 obtain⟨v,h',hp,hrun⟩:=dT (g:=g) (l:=l) (h:=.empty) (a:=a) (fun v _=>v=r) hf fun s h1 h2 h3 h4=>(ag _ _ _ (H s h1 h2 h3 h4)).mono fun e s' ⟨k1,k2,k3⟩=>⟨k1,k2,[r],k3,rfl⟩;subst hp;exact xd (bI hs) (bX hs _) hl hr ht ⟨h',hrun⟩ h
end Go.Proofs.YtkmoeaplhnabcaaGreatDoor
