/- A part of the proof about filled horn systems: XBits ZW ZCall. -/
import Derived.Test.YtkhblipgiijoiaaGreatDoorW1
import Derived.Test.YtkhblipgiijoiaaGreatDoorC1
import Derived.Test.YtkhblipgiijoiaaGreatDoorP0

set_option linter.all false
namespace Go.AM
variable {E:Env}{s:St}{K:St→Prop}{r:List AOper}{dst:Option Nat}
def convV(k:IntKind):AV→Option AV
 |.val (.int _ n)=>some (.val (.int k (k.wrap n)))
 |_=>none
theorem v_conv{k k':IntKind}{n:Int}:convV k (.val (.int k' n))=some (.val (.int k (k.wrap n))):=rfl
theorem s_conv{k:IntKind}{x:Opd}:wpOps E (⟨dst,none,.conv k x⟩::r) s K=stepV E r s dst K ((s.eval x).bind (convV k)):=by
 rw[bE (o:=(s.eval x).bind (convV k))]
 ·rfl
 ·simp only[runOp]
  cases s.eval x with
  |none=>rfl
  |some v=>
   cases v with
   |val v=>cases v<;>rfl
   |_=>rfl
 ·exact fun _ _=>rfl
theorem s_nilck{x:Opd}:wpOps E (⟨dst,none,.nilck x⟩::r) s K=stepV E r s dst K ((s.eval x).bind (nilckV E)):=by
 rw[bE (o:=(s.eval x).bind (nilckV E))]
 ·rfl
 ·rw[xA]
  cases s.eval x<;>rfl
 ·exact fun _ _=>rfl
theorem v_nilck{b o:Nat}:nilckV E (.ptr b o)=some (.ptr b o):=rfl
theorem s_strB{x:Opd}:wpOps E (⟨dst,none,.strOfBytes x⟩::r) s K=stepV E r s dst K ((s.eval x).bind (strB s.h)):=by
 rw[bE (o:=(s.eval x).bind (strB s.h))]
 ·rfl
 ·rw[strB_eq]
  cases s.eval x<;>rfl
 ·exact fun _ _=>rfl
def callvK(E:Env)(r:List AOper)(s:St)(dst:Option Nat)(K:St→Prop):Option AV→Option (List AV)→Prop
 |some (.fn (.func f) a b),some l=>aJ E f r s dst K (some (a++l++b))
 |some (.yld b),some l=>CallTo E (.y b) l s.h fun v h=>wpOps E r ((s.toH h).put dst v) K
 |_,_=>False
theorem callvK_f{f:Nat}{a b l:List AV}:callvK E r s dst K (some (.fn (.func f) a b)) (some l)=aJ E f r s dst K (some (a++l++b)):=rfl
theorem s_callv{x:Opd}{l:List Opd}:wpOps E (⟨dst,none,.callv x l⟩::r) s K=callvK E r s dst K (s.eval x) (evalAll s l):=by
 have hw:wpOps E (⟨dst,none,.callv x l⟩::r) s K=wpOp E (.callv x l) s fun v s'=>wpOps E r ({s' with round:=s.round}.put dst v) K:=by
  simp only[wpOps,wantedA,aO,forall_const,Bool.true_eq_false,false_implies,and_true]
 rw[hw]
 simp only[wpOp]
 cases hx:s.eval x with
 |none=>rfl
 |some v=>
  cases v with
  |yld b=>
   simp only
   cases evalAll s l<;>rfl
  |fn f a b=>
   cases f with
   |func f=>
    simp only
    cases evalAll s l<;>rfl
   |_=>rfl
  |_=>rfl
def NoTag(h:AH):Prop:=∀b x t n,h.get b≠some (.tag x t n)
theorem NoTag.empty:NoTag .empty:=fun b x t n h=>by cases h
theorem NoTag.alloc{h:AH}{cs:List AV}{rw:Bool}(k:NoTag h):NoTag (h.alloc (.cells cs rw)):=fun b x t n e=>by
 rw[AH.get_alloc] at e
 split at e
 ·cases e
 ·exact k b x t n e
theorem NoTag.put{h:AH}{cs:List AV}{rw:Bool}{c:Nat}(k:NoTag h):NoTag (h.put c (some (.cells cs rw))):=fun b x t n e=>by
 rw[AH.get_put] at e
 split at e
 ·cases e
 ·exact k b x t n e
theorem NoTag.drop{h:AH}{c:Nat}(k:NoTag h):NoTag (h.put c none):=fun b x t n e=>by
 rw[AH.get_put] at e
 split at e
 ·cases e
 ·exact k b x t n e
theorem NoTag.at{h:AH}(k:NoTag h)(b:Nat):tagOf h b=none:=by
 unfold tagOf
 split
 ·rename_i x t n e
  exact absurd e (k _ _ _ _)
 ·rfl
def bytesA(l:List UInt8):List AV:=l.flatMap fun b=>[.val (.int .u8 (b.toNat:Nat))]
end Go.AM
namespace Go.Proofs.YtkhblipgiijoiaaGreatDoor
open Go Go.AM
theorem av_agg{cs:List AV}:(AV.agg cs).cells=some cs:=rfl
theorem av_val{v:Value}:(AV.val v).cells=some [.val v]:=rfl
theorem av_own{b o n e:Nat}{c:Option Nat}:(AV.own b o n e c).cells=some [.own b o n e c]:=rfl
theorem av_imm{l:List AV}{n:Nat}{c:Option Nat}:(AV.imm l n c).cells=some [.imm l n c]:=rfl
theorem av_kids{l:List AV}{n:Nat}{x:Option (Option Addr×Nat)}{c:Option Nat}:(kidsA l n x c).cells=some [kidsA l n x c]:=by
 simp only[kidsA]
 cases (x.isSome&&Nat.beq n 0)<;>rfl
theorem cfB_0{cs:List AV}{rw:Bool}:cfB (some (.cells cs rw)) 0=some cs:=rfl
theorem Pr.f1{p:Pr}{rw:Bool}:cfB (some (.cells p.cells rw)) 1=some [.val (.string p.nm),.val (.int .i64 p.n),p.kids]:=by rw[p.cells_eq];rfl
theorem Pr.f2{p:Pr}{rw:Bool}:cfB (some (.cells p.cells rw)) 2=some [.val (.int .i64 p.n),p.kids]:=by rw[p.cells_eq];rfl
theorem Pr.f3{p:Pr}{rw:Bool}:cfB (some (.cells p.cells rw)) 3=some [p.kids]:=by rw[p.cells_eq];rfl
theorem Pr.hd{p:Pr}:takeN none p.cells=some (.val (.int .i64 p.op)):=by rw[p.cells_eq];rfl
theorem Pr.all{p:Pr}:takeN (some 4) p.cells=some (.agg p.cells):=dX p.len
theorem Vr.hd{p:Vr}{l:List AV}:takeN none (p.cells++l)=some (.val (.string p.nm)):=rfl
theorem Vr.s1{p:Vr}{l:List AV}:fieldAddrV 1 (.iptr (p.cells++l))=some (.iptr (.val (.string p.so)::l)):=rfl
theorem Sm.hd{p:Sm}{l:List AV}:takeN none (p.cells++l)=some (.val (.string p.nm)):=rfl
theorem Ho.hd{p:Ho}{l:List AV}:takeN none (p.cells++l)=some (.val (.string p.nm)):=rfl
theorem Ho.s1{p:Ho}{l:List AV}:fieldAddrV 1 (.iptr (p.cells++l))=some (.iptr (p.ps.A Vr.cells::l)):=rfl
theorem So.hd{p:So}{l:List AV}:takeN none (p.cells++l)=some (.val (.string p.nm)):=rfl
theorem So.s1{p:So}{l:List AV}:fieldAddrV 1 (.iptr (p.cells++l))=some (.iptr (p.p.cells++l)):=rfl
theorem Cl.s0{p:Cl}{l:List AV}:takeN none (p.cells++l)=some (p.vs.A Vr.cells):=rfl
theorem Vr.c0{p:Vr}:takeN none p.cells=some (.val (.string p.nm)):=rfl
theorem Vr.c1{p:Vr}{rw:Bool}:cfB (some (.cells p.cells rw)) 1=some [.val (.string p.so)]:=rfl
theorem Sm.c0{p:Sm}:takeN none p.cells=some (.val (.string p.nm)):=rfl
theorem Sm.c1{p:Sm}{rw:Bool}:cfB (some (.cells p.cells rw)) 1=some [p.as.A strA,.val (.string p.res)]:=rfl
theorem Sm.c2{p:Sm}{rw:Bool}:cfB (some (.cells p.cells rw)) 2=some [.val (.string p.res)]:=rfl
theorem Ho.c0{p:Ho}:takeN none p.cells=some (.val (.string p.nm)):=rfl
theorem Ho.c1{p:Ho}{rw:Bool}:cfB (some (.cells p.cells rw)) 1=some [p.ps.A Vr.cells]:=rfl
theorem Cl.c0{p:Cl}:takeN none p.cells=some (p.vs.A Vr.cells):=rfl
theorem Cl.c1{p:Cl}{rw:Bool}:cfB (some (.cells p.cells rw)) 1=some (p.hy.A Pr.cells::(p.hd.cells++[.val (.int .i64 p.tag)])):=rfl
theorem Cl.c2{p:Cl}{rw:Bool}:cfB (some (.cells p.cells rw)) 2=some (p.hd.cells++[.val (.int .i64 p.tag)]):=rfl
theorem Hn.c0{p:Hn}:takeN none p.cells=some (p.sy.A Sm.cells):=rfl
theorem Hn.c1{p:Hn}{rw:Bool}:cfB (some (.cells p.cells rw)) 1=some [p.hs.A Ho.cells,p.cs.A Cl.cells]:=rfl
theorem Hn.c2{p:Hn}{rw:Bool}:cfB (some (.cells p.cells rw)) 2=some [p.cs.A Cl.cells]:=rfl
theorem So.c0{p:So}:takeN none p.cells=some (.val (.string p.nm)):=rfl
theorem So.c1{p:So}{rw:Bool}:cfB (some (.cells p.cells rw)) 1=some p.p.cells:=rfl
theorem Evr.c0{p:Evr}:takeN none p.cells=some (p.vs.A Vr.cells):=rfl
theorem Evr.c1{p:Evr}{rw:Bool}:cfB (some (.cells p.cells rw)) 1=some [p.sy.A Sm.cells,p.hs.A Ho.cells]:=rfl
theorem Evr.c2{p:Evr}{rw:Bool}:cfB (some (.cells p.cells rw)) 2=some [p.hs.A Ho.cells]:=rfl
theorem Vr.all{p:Vr}:takeN (some 2) p.cells=some (.agg p.cells):=rfl
theorem Sm.all{p:Sm}:takeN (some 3) p.cells=some (.agg p.cells):=rfl
theorem Ho.all{p:Ho}:takeN (some 2) p.cells=some (.agg p.cells):=rfl
theorem Cl.all{p:Cl}:takeN (some 7) p.cells=some (.agg p.cells):=dX p.len
theorem Hn.all{p:Hn}:takeN (some 3) p.cells=some (.agg p.cells):=rfl
theorem So.all{p:So}:takeN (some 5) p.cells=some (.agg p.cells):=dX p.len
theorem Evr.all{p:Evr}:takeN (some 3) p.cells=some (.agg p.cells):=rfl
theorem cF{p:Vr}{l:List AV}:takeN (some 2) (p.cells++l)=some (.agg p.cells):=dT p.len
theorem eN{p:Sm}{l:List AV}:takeN (some 3) (p.cells++l)=some (.agg p.cells):=dT p.len
theorem bR{p:Ho}{l:List AV}:takeN (some 2) (p.cells++l)=some (.agg p.cells):=dT p.len
theorem fK{p:Cl}{l:List AV}:takeN (some 7) (p.cells++l)=some (.agg p.cells):=dT p.len
theorem cj{p:So}{l:List AV}:takeN (some 5) (p.cells++l)=some (.agg p.cells):=dT p.len
theorem av_vl{α:Type}{f:α→List AV}{v:Vl α}:(v.A f).cells=some [v.A f]:=av_kids
theorem n_2{k:IntKind}:asN (.val (.int k 2))=some 2:=rfl
theorem fa_0{cs:List AV}:fieldAddrV 0 (.iptr cs)=some (.iptr cs):=rfl
def W0:=And.intro @c_skip (And.intro @c_ret (And.intro @c_exit (And.intro @c_region (And.intro @c_seq (And.intro @c_block (And.intro @k_normal (And.intro @k_ret (And.intro @k_exit (And.intro @b_normal (And.intro @b_ret (And.intro @b_exit (And.intro @l_normal (And.intro @l_ret (And.intro @l_exit (@wpOps_nil)))))))))))))))
def W1:=And.intro @s_g (And.intro @guardK_t (And.intro @guardK_f (And.intro @wantedV_t (And.intro @wantedV_f (And.intro @wantedV_u (And.intro @s_cond (And.intro @condK_t (And.intro @condK_f (And.intro @yj (And.intro @yl (And.intro @yk (And.intro @s_mv (And.intro @s_pick (And.intro @w_alloc (@s_box)))))))))))))))
def W2:=And.intro @boxO_some (And.intro @s_build (And.intro @aggO_some (And.intro @tc (And.intro @ownO_some (And.intro @s_load (And.intro @s_store (And.intro @wQ (And.intro @s_bin (And.intro @binO_some (And.intro @s_un (And.intro @wc (And.intro @yu (And.intro @idxO_some (And.intro @s_idxStr (@zW)))))))))))))))
def W3:=And.intro @s_extract (And.intro @s_lenS (And.intro @s_lenStr (And.intro @s_mkFunc (And.intro @fnO_some (And.intro @s_call (And.intro @consO_some (And.intro @all_c (And.intro @St.eval_set (And.intro @St.eval_toH (And.intro @St.eval_c (And.intro @St.h_set (And.intro @St.h_toH (And.intro @s_conv (And.intro @s_nilck (And.intro @s_strB (@s_callv))))))))))))))))
def W4:=And.intro @St.df_set (And.intro @St.df_toH (And.intro @St.get_set (And.intro @St.tm_toH (And.intro @av_agg (And.intro @av_val (And.intro @av_own (And.intro @av_imm (And.intro @av_kids (And.intro @fa_ptr (And.intro @cf_ptr (And.intro @cf_iptr (And.intro @AH.get_alloc (And.intro @AH.get_put (And.intro @km (And.intro @fo (And.intro @dC (And.intro @iq (@dN))))))))))))))))))
def W5:=And.intro @cfB_0 (And.intro @Pr.f1 (And.intro @Pr.f2 (And.intro @Pr.f3 (And.intro @Pr.hd (And.intro @Pr.all (And.intro @Vr.hd (And.intro @Vr.s1 (And.intro @Sm.hd (And.intro @Ho.hd (And.intro @Ho.s1 (And.intro @So.hd (And.intro @So.s1 (And.intro @Cl.s0 (And.intro @Vr.c0 (And.intro @Vr.c1 (And.intro @Sm.c0 (And.intro @Sm.c1 (And.intro @Sm.c2 (And.intro @Ho.c0 (And.intro @Ho.c1 (And.intro @Cl.c0 (And.intro @Cl.c1 (And.intro @Cl.c2 (And.intro @Hn.c0 (And.intro @Hn.c1 @Hn.c2)))))))))))))))))))))))))
def W6:=And.intro @So.c0 (And.intro @So.c1 (And.intro @Evr.c0 (And.intro @Evr.c1 (And.intro @Evr.c2 (And.intro @Vr.all (And.intro @Sm.all (And.intro @Ho.all (And.intro @Cl.all (And.intro @Hn.all (And.intro @So.all (And.intro @Evr.all (And.intro @dt (And.intro @kids_len (And.intro @Vl.len (And.intro @ae (And.intro @cF (And.intro @eN (And.intro @bR (And.intro @fK (And.intro @cj @av_vl))))))))))))))))))))
def W7:=And.intro @v_lss (And.intro @v_leq (And.intro @v_gtr (And.intro @v_geq (And.intro @v_eql (And.intro @v_neq (And.intro @v_add (And.intro @v_sub (And.intro @v_mul (And.intro @v_seql (And.intro @v_sneq (And.intro @v_not (And.intro @v_pick (And.intro @v_conv (And.intro @v_nilck (@callvK_f)))))))))))))))
def W8:=And.intro @zL (And.intro @n_0 (And.intro @n_1 (And.intro @n_2 (And.intro @x_0 (And.intro @x_1 (And.intro @x_2 (And.intro @yF (And.intro @r_nil (And.intro @res_tmp (And.intro @res_cell (And.intro @tw (And.intro @tv (And.intro @gF (And.intro @yt (And.intro @wZ (And.intro @s_maxI (And.intro @v_max (And.intro @v_neg @fa_0))))))))))))))))))
def W9:=And.intro @Nat.zero_add (And.intro @Nat.add_zero (And.intro @Nat.zero_mul (And.intro @true_and (And.intro @and_true (And.intro @true_or (And.intro @or_true (And.intro @Bool.not_true (And.intro @Bool.not_false (And.intro @decide_true (And.intro @decide_false (And.intro @Bool.and_true (And.intro @Bool.true_and (And.intro @Bool.and_false (And.intro @Bool.false_and (And.intro @Bool.or_true (And.intro @Bool.true_or (And.intro @Bool.or_false (@Bool.false_or))))))))))))))))))
theorem put_n (s : St) (v : AV) : s.put none v = s := rfl
theorem put_s (s : St) (d : Nat) (v : AV) : s.put (some d) v = s.set d v := rfl
def V0 := And.intro @Option.bind_some.{0,0} (And.intro @Option.map_some.{0,0} (And.intro @cond_true.{1} (And.intro @cond_false.{1} (And.intro @if_true.{1} (And.intro @if_false.{1} (And.intro @cond_true.{0} (And.intro @cond_false.{0} (And.intro @if_true.{0} @if_false.{0}))))))))
def V := And.intro W0 (And.intro W1 (And.intro W2 (And.intro W3 (And.intro W4 (And.intro W5 (And.intro W6 (And.intro W7 (And.intro W8 (And.intro W9 (And.intro put_n (And.intro put_s V0)))))))))))
noncomputable def E1:Env:=E0.tab [(6,[],.val (.bool true))]
theorem E1_P:E1.P=Tryz.prog:=rfl
noncomputable def freshF (g:Nat):Bool:=(E1.shared.get g).isNone&& !Nat.beq 6 g
theorem fA{g:Nat}(h:freshF g=true):E1.shared.get g=none:=by
 simp only[freshF,Bool.and_eq_true,Option.isNone_iff_eq_none] at h
 exact h.1
theorem fW{g:Nat}(h:freshF g=true)(l:List AV):E1.known g l=none:=by
 simp only[freshF,Bool.and_eq_true,Bool.not_eq_true'] at h
 show(bif Nat.beq 6 g&&eqL [] l then some (AV.val (.bool true)) else none)=none
 rw[h.2,Bool.false_and]
 rfl
theorem kl{g:Nat}{l:List AV}{h:AH}{a:AFun}(P:AV→AH→Prop)(hf:funOf Tryz.prog g=some a)
  (H:∀s:St,(∀i v,(enterTm l 0 .nil).get i=some v→s.eval (.t i)=some v)→s.h=h→s.defers=[]→s.round=none→Run E1 a.body s fun e s=>(e=.normal∨e=.ret)∧s.defers=[]∧∃r,resultsA E1.globs s a.res=some r∧P (oneOrTup r) s.h):
  ∃v h',P v h'∧Ev fun n=>enterA E1 (exec E1 n) g l h=some (v,h'):=by
 obtain⟨e,s',x,y1,y2,r,y3,hp⟩:=(H {tm:=enterTm l 0 .nil,h:=h,defers:=[],round:=none} (fun _ _ h=>h) rfl rfl rfl)
 refine⟨oneOrTup r,s'.h,hp,x.mono fun n p=>?_⟩
 have hl:leaveA E1 a s'=some (oneOrTup r,s'.h):=by
  obtain⟨tm,h1,df,rd⟩:=s'
  simp only at y2 y3
  subst y2
  simp only[leaveA,runDefers,y3]
 simp only[enterA,(show funOf E1.P g=some a by rw[E1_P];exact hf),p]
 rcases y1 with rfl|rfl<;>exact hl
theorem il{g:Nat}{l:List AV}{h:AH}{a:AFun}(P:AV→AH→Prop)(hs:E1.shared.get g=some ())(hf:funOf Tryz.prog g=some a)
  (H:∀s:St,(∀i v,(enterTm l 0 .nil).get i=some v→s.eval (.t i)=some v)→s.h=h→s.defers=[]→s.round=none→wp E1 a.body s fun e s=>(e=.normal∨e=.ret)∧s.defers=[]∧∃r,resultsA E1.globs s a.res=some r∧P (oneOrTup r) s.h):
  ∃v h',RunCall E1 (.f g) l h v h'∧P v h':=by
 obtain⟨v,h',hp,hr⟩:=kl P hf fun s h1 h2 h3 h4=>bZ _ _ _ (H s h1 h2 h3 h4)
 refine⟨v,h',hr.mono fun n p=>?_,hp⟩
 simp only[aj,cQ,hs,p]
theorem cK{g:Nat}{l:List AV}{a:AFun}{r:AV}(hs:freshF g=true)(hf:funOf Tryz.prog g=some a)(hl:∀v∈l,Tree v)(hr:isFlat r=true)(ht:Tree r)
  (H:∀s:St,(∀i v,(enterTm l 0 .nil).get i=some v→s.eval (.t i)=some v)→s.h=.empty→s.defers=[]→s.round=none→wp E1 a.body s fun e s=>(e=.normal∨e=.ret)∧s.defers=[]∧resultsA E1.globs s a.res=some [r]) (h:AH):
  RunCall E1 (.f g) l h r h:=by
 obtain⟨v,h',hp,hrun⟩:=kl (g:=g) (l:=l) (h:=.empty) (a:=a) (fun v _=>v=r) hf fun s h1 h2 h3 h4=>(bZ _ _ _ (H s h1 h2 h3 h4)).mono fun e s' ⟨k1,k2,k3⟩=>⟨k1,k2,[r],k3,rfl⟩
 subst hp
 exact aB (fA hs) (fW hs _) hl hr ht ⟨h',hrun⟩ h
end Go.Proofs.YtkhblipgiijoiaaGreatDoor
