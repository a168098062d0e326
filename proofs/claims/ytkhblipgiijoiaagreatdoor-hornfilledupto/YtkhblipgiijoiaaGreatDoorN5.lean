/- A part of the proof about filled horn systems: ZRefn ZRefc ZNamed. -/
import Derived.Test.YtkhblipgiijoiaaGreatDoorU0
import Derived.Test.YtkhblipgiijoiaaGreatDoorW1
import Derived.Test.YtkhblipgiijoiaaGreatDoorN3
import Derived.Test.YtkhblipgiijoiaaGreatDoorN4

set_option linter.all false
open Nat renaming reduceEqDiff → rA, reduceAdd → rB, reduceMul → rC
open Int renaming reduceEq → rD, reduceLT → rE, reduceLE → rF
namespace Go.Proofs.YtkhblipgiijoiaaGreatDoor
open Go Go.AM
set_option maxHeartbeats 4000000
def refKw:List ByteArray:=[⟨#[97,110,100]⟩,⟨#[97,115,115,117,109,101]⟩,⟨#[98,111,111,108]⟩,⟨#[98,111,117,110,100]⟩,⟨#[99,97,115,101]⟩,⟨#[99,101,108,108]⟩,⟨#[99,108,97,115,115]⟩,⟨#[100,97,116,97]⟩,⟨#[100,101,102]⟩,⟨#[100,105,118]⟩,⟨#[101,108,115,101]⟩,⟨#[101,110,100]⟩,⟨#[102,97,108,115,101]⟩,⟨#[102,111,114,97,108,108]⟩,⟨#[102,117,110]⟩,⟨#[103,101,116]⟩,⟨#[105,102]⟩,⟨#[105,110]⟩,⟨#[105,110,115,116]⟩,⟨#[105,110,116]⟩,⟨#[105,110,118,97,114,105,97,110,116]⟩,⟨#[108,101,116]⟩,⟨#[109,97,116,99,104]⟩,⟨#[109,101,97,115,117,114,101]⟩,⟨#[109,101,116,114,105,99]⟩,⟨#[109,111,100]⟩,⟨#[109,117]⟩,⟨#[110,101,119]⟩,⟨#[110,111,116]⟩,⟨#[111,102]⟩,⟨#[111,114]⟩,⟨#[113,117,97,108]⟩,⟨#[114,101,102,108,101,99,116]⟩,⟨#[115,101,116]⟩,⟨#[116,104,101,110]⟩,⟨#[116,114,117,101]⟩,⟨#[117,115,101]⟩,⟨#[118]⟩,⟨#[118,97,108]⟩,⟨#[116,97,103]⟩,⟨#[119,104,101,114,101]⟩,⟨#[119,105,116,104]⟩]
def kwHeap:AH:=AH.empty.alloc (.cells (strs refKw) true)
theorem kw_run(n:Nat):enterA E1 (exec E1 (n+10)) 192 [] .empty=some (.own 0 0 42 1 (some 42),kwHeap):=by kernel_rfl
theorem kw_call(h:AH):RunCall E1 (.f 192) [] h (.imm (strs refKw) 42 (some 42)) h:=
 yS kr kr (fun v hv=>(by cases hv)) ⟨10,fun n hn=>by obtain⟨m,rfl⟩:∃m,n=m+10:=⟨n-10,om⟩;exact kw_run m⟩ (cs:=strs refKw) (rw:=true) kr kr (sA _) h
theorem xx(l:List ByteArray)(cap:Option Nat)(b:ByteArray)(hb:l.length<2^61):∀(r:List ByteArray) (i:Nat) (s:St),l.drop i=r→i≤l.length→s.eval (.t 0)=some (.imm (strs l) l.length cap)→s.eval (.t 6)=some (.imm (strs l) l.length cap)→s.eval (.t 1)=some (.val (.string b))→s.eval (.t 7)=some (.val (.int .i64 (l.length:Nat)))→s.eval (.t 8)=some (.val (.int .i64 i))→s.defers=[]→
  Run E1 vI s fun e s'=>s'.defers=[]∧(e=.exit 0∨e=.ret∧∃x,s'.eval (.t 4)=some (.val (.int .i64 x)))
 | [],i,s,hr,hi,h0,h6,h1,h7,h8,hd=>by
  have hl:i=l.length:=by
   have:=List.drop_eq_nil_iff.1 hr
   omega
  have hlt:decide ((i:Int)<(l.length:Nat))=false:=decide_eq_false om
  apply aC (rfl:vI=.loop pw)
  simp-implicitDefEqProofs only[pw,V,↓reduceIte,rA,rB,rC,reduceCtorEq,rD,rE,rF,h0,h1,h6,h7,h8,hd,hlt]
 |a::r,i,s,hr,hi,h0,h6,h1,h7,h8,hd=>by
  have hl:i<l.length:=by
   rcases Nat.lt_or_ge i l.length with x|x
   ·exact x
   ·rw[List.drop_eq_nil_of_le x] at hr;cases hr
  have hr':l.drop (i+1)=r:=by rw[←List.drop_drop,hr];rfl
  have hlt:decide ((i:Int)<(l.length:Nat))=true:=decide_eq_true om
  have w1:IntKind.i64.wrap ((i:Int)+1)=((i+1:Nat):Int):=aE (n:=i+1) om
  obtain⟨B1,e1⟩:∃B,strEq a b=B:=⟨_,rfl⟩
  apply aC (rfl:vI=.loop pw)
  cases B1<;>simp-implicitDefEqProofs only[pw,V,↓reduceIte,rA,rB,rC,reduceCtorEq,rD,rE,rF,h0,h1,h6,h7,h8,hd,hlt,w1,yh hr,dt,e1]
  all_goals first
   |exact⟨_,rfl⟩
   |exact .inr ⟨_,rfl⟩
   |(refine xx l cap b hb r (i+1) _ hr' om ?_ ?_ ?_ ?_ ?_ ?_<;>simp-implicitDefEqProofs only[V,↓reduceIte,rA,rB,rC,reduceCtorEq,rD,rE,rF,h0,h1,h6,h7,hd])
theorem find_ans(l:List ByteArray)(hb:l.length<2^61)(cap:Option Nat)(b:ByteArray):∃x,∀h,RunCall E1 (.f 42) [.imm (strs l) l.length cap,.val (.string b)] h (.val (.int .i64 x)) h:=by
 obtain⟨r,⟨x,hx⟩,ha⟩:=ansE (g:=42) (l:=[.imm (strs l) l.length cap,.val (.string b)]) (P:=fun r=>∃x,r=.val (.int .i64 x)) f42_ok fun s hs hh hd=>by
  have h0:=hs 0 _ rfl
  have h1:=hs 1 _ rfl
  simp-implicitDefEqProofs only[f42_fn,f42,V,↓reduceIte,rA,rB,rC,reduceCtorEq,rD,rE,rF,len_imm,h0,h1,hh,hd]
  refine(xx l cap b hb l 0 _ rfl (Nat.zero_le _) ?_ ?_ ?_ ?_ ?_ ?_).mono ?_
  ·exact U32
  ·exact U32
  ·exact U39
  ·exact U28
  ·exact U29
  ·exact U33
  ·exact U34
 subst hx
 exact⟨x,aB kr kr (mem2 (Leaf.imm _ _ _).tree (Tree.val _)) rfl (Tree.val _) ha⟩
theorem rkw_ans(b:ByteArray):∃x,∀h,RunCall E1 (.f 170) [.val (.string b)] h (.val (.bool x)) h:=by
 obtain⟨n,hn⟩:=find_ans refKw (by show(42:Nat)<2^61;omega) (some 42) b
 have hn:∀h,RunCall E1 (.f 42) [.imm (strs refKw) 42 (some 42),.val (.string b)] h (.val (.int .i64 n)) h:=hn
 obtain⟨r,⟨x,hx⟩,ha⟩:=ansE (g:=170) (l:=[.val (.string b)]) (P:=fun r=>∃x,r=.val (.bool x)) f170_ok fun s hs hh hd=>by
  have h0:=hs 0 _ rfl
  simp-implicitDefEqProofs only[f170_fn,f170,V,↓reduceIte,rA,rB,rC,reduceCtorEq,rD,rE,rF,h0,hh,hd,aA kw_call,aA hn]
  exact⟨_,⟨_,rfl⟩,rfl⟩
 subst hx
 exact⟨x,aB kr kr (mem1 (Tree.val _)) rfl (Tree.val _) ha⟩
theorem tD(b:ByteArray)(hb:b.size<2^61):∀(n i:Nat) (s:St),i+n=b.size→s.eval (.t 0)=some (.val (.string b))→s.eval (.t 23)=some (.val (.int .i64 (b.size:Nat)))→s.eval (.t 24)=some (.val (.int .i64 i))→s.defers=[]→
  Run E1 jN s fun e s'=>s'.defers=[]∧(e=.exit 0∨e=.ret∧∃x,s'.eval (.t 2)=some (.val (.int .i64 x)))
 |0,i,s,hi,h0,h4,h3,hd=>by
  have hlt:decide ((i:Int)<(b.size:Nat))=false:=decide_eq_false om
  apply aC (rfl:jN=.loop jO)
  simp-implicitDefEqProofs only[jO,V,↓reduceIte,rA,rB,rC,reduceCtorEq,rD,rE,rF,aR,h0,h3,h4,hd,hlt]
 |n+1,i,s,hi,h0,h4,h3,hd=>by
  have hlt:decide ((i:Int)<(b.size:Nat))=true:=decide_eq_true om
  have w1:IntKind.i64.wrap ((i:Int)+1)=((i+1:Nat):Int):=aE (n:=i+1) om
  obtain⟨c,hc⟩:=bl (b:=b) (i:=i) om
  obtain⟨B1,e1⟩:∃B,(decide (97≤(c:Int))&&decide ((c:Int)≤122))=B:=⟨_,rfl⟩
  obtain⟨B2,e2⟩:∃B,decide ((c:Int)=95)=B:=⟨_,rfl⟩
  obtain⟨B3,e3⟩:∃B,(decide (48≤(c:Int))&&decide ((c:Int)≤57))=B:=⟨_,rfl⟩
  apply aC (rfl:jN=.loop jO)
  cases B1<;>cases B2<;>cases B3<;>simp-implicitDefEqProofs only[jO,V,↓reduceIte,rA,rB,rC,reduceCtorEq,rD,rE,rF,aR,h0,h3,h4,hd,hlt,w1,hc,ca,ib,e1,e2,e3]
  all_goals first
   |exact⟨_,rfl⟩
   |exact .inr ⟨_,rfl⟩
   |(refine tD b hb n (i+1) _ om ?_ ?_ ?_ ?_<;>simp-implicitDefEqProofs only[V,↓reduceIte,rA,rB,rC,reduceCtorEq,rD,rE,rF,h0,h4,hd])
theorem tC(b:ByteArray)(hb:b.size<2^61):∀(n i:Nat) (s:St),i+n=b.size→s.eval (.t 0)=some (.val (.string b))→s.eval (.t 35)=some (.val (.int .i64 (b.size:Nat)))→s.eval (.t 36)=some (.val (.int .i64 i))→s.defers=[]→
  Run E1 jL s fun e s'=>s'.defers=[]∧(e=.exit 0∨e=.ret∧∃x,s'.eval (.t 2)=some (.val (.int .i64 x)))
 |0,i,s,hi,h0,h4,h3,hd=>by
  have hlt:decide ((i:Int)<(b.size:Nat))=false:=decide_eq_false om
  apply aC (rfl:jL=.loop jM)
  simp-implicitDefEqProofs only[jM,V,↓reduceIte,rA,rB,rC,reduceCtorEq,rD,rE,rF,aR,h0,h3,h4,hd,hlt]
 |n+1,i,s,hi,h0,h4,h3,hd=>by
  have hlt:decide ((i:Int)<(b.size:Nat))=true:=decide_eq_true om
  have w1:IntKind.i64.wrap ((i:Int)+1)=((i+1:Nat):Int):=aE (n:=i+1) om
  obtain⟨c,hc⟩:=bl (b:=b) (i:=i) om
  obtain⟨B1,e1⟩:∃B,(decide (97≤(c:Int))&&decide ((c:Int)≤122))=B:=⟨_,rfl⟩
  obtain⟨B2,e2⟩:∃B,(decide (65≤(c:Int))&&decide ((c:Int)≤90))=B:=⟨_,rfl⟩
  obtain⟨B3,e3⟩:∃B,(decide (48≤(c:Int))&&decide ((c:Int)≤57))=B:=⟨_,rfl⟩
  apply aC (rfl:jL=.loop jM)
  cases B1<;>cases B2<;>cases B3<;>simp-implicitDefEqProofs only[jM,V,↓reduceIte,rA,rB,rC,reduceCtorEq,rD,rE,rF,aR,h0,h3,h4,hd,hlt,w1,hc,ca,ib,fG,e1,e2,e3]
  all_goals first
   |exact⟨_,rfl⟩
   |exact .inr ⟨_,rfl⟩
   |(refine tC b hb n (i+1) _ om ?_ ?_ ?_ ?_<;>simp-implicitDefEqProofs only[V,↓reduceIte,rA,rB,rC,reduceCtorEq,rD,rE,rF,h0,h4,hd])
theorem tB(b:ByteArray)(hb:b.size<2^61):∀(n i:Nat) (s:St),i+n=b.size→s.eval (.t 0)=some (.val (.string b))→s.eval (.t 18)=some (.val (.int .i64 (b.size:Nat)))→s.eval (.t 19)=some (.val (.int .i64 i))→(∃m,s.eval (.t 3)=some (.val (.bool m)))→(∃m,s.eval (.t 4)=some (.val (.bool m)))→s.defers=[]→
  Run E1 ms s fun e s'=>s'.defers=[]∧e=.exit 0∧∃x y,s'.eval (.t 3)=some (.val (.bool x))∧s'.eval (.t 4)=some (.val (.bool y))
 |0,i,s,hi,h0,h8,h9,⟨m3,h3⟩,⟨m4,h4⟩,hd=>by
  have hlt:decide ((i:Int)<(b.size:Nat))=false:=decide_eq_false om
  apply aC (rfl:ms=.loop jK)
  simp-implicitDefEqProofs only[jK,V,↓reduceIte,rA,rB,rC,reduceCtorEq,rD,rE,rF,aR,h0,h3,h4,h8,h9,hd,hlt]
  exact⟨_,_,rfl,rfl⟩
 |n+1,i,s,hi,h0,h8,h9,⟨m3,h3⟩,⟨m4,h4⟩,hd=>by
  have hlt:decide ((i:Int)<(b.size:Nat))=true:=decide_eq_true om
  have w1:IntKind.i64.wrap ((i:Int)+1)=((i+1:Nat):Int):=aE (n:=i+1) om
  obtain⟨c,hc⟩:=bl (b:=b) (i:=i) om
  obtain⟨B1,e1⟩:∃B,(decide (97≤(c:Int))&&decide ((c:Int)≤122))=B:=⟨_,rfl⟩
  obtain⟨B2,e2⟩:∃B,(decide (65≤(c:Int))&&decide ((c:Int)≤90))=B:=⟨_,rfl⟩
  obtain⟨B3,e3⟩:∃B,(decide (48≤(c:Int))&&decide ((c:Int)≤57))=B:=⟨_,rfl⟩
  obtain⟨B4,e4⟩:∃B,decide ((c:Int)=95)=B:=⟨_,rfl⟩
  apply aC (rfl:ms=.loop jK)
  cases m3<;>cases m4<;>cases B1<;>cases B2<;>cases B3<;>cases B4<;>simp-implicitDefEqProofs only[jK,V,↓reduceIte,rA,rB,rC,reduceCtorEq,rD,rE,rF,aR,h0,h3,h4,h8,h9,hd,hlt,w1,hc,ca,ib,fG,e1,e2,e3,e4]
  all_goals
   refine tB b hb n (i+1) _ om ?_ ?_ ?_ ?_ ?_ ?_
   all_goals first
    |(simp-implicitDefEqProofs only[V,↓reduceIte,rA,rB,rC,reduceCtorEq,rD,rE,rF,h0,h8,hd];done)
    |(simp-implicitDefEqProofs only[V,↓reduceIte,rA,rB,rC,reduceCtorEq,rD,rE,rF,h0,h8,hd];exact⟨_,rfl⟩)
theorem wj (b : ByteArray) (hb : b.size < 2 ^ 61) : ∃ x, ∀ h, RunCall E1 (.f 135) [.val (.string b)] h (.val (.int .i64 x)) h := by
  obtain ⟨A, hA⟩ := rkw_ans b
  obtain ⟨r, ⟨x, hx⟩, ha⟩ := ansE (g := 135) (l := [.val (.string b)]) (P := fun r => ∃ x, r = .val (.int .i64 x)) f135_ok fun s hs hh hd => by
    have h0 := hs 0 _ rfl
    have hbeq : Nat.beq 0 0 = true := rfl
    by_cases hz : 1 ≤ b.size
    · obtain ⟨c, hc⟩ := bl (b := b) (i := 0) om
      have z1 : decide (((b.size : Nat) : Int) < 1) = false := decide_eq_false om
      obtain ⟨B0, e0⟩ : ∃ B, decide (24 < ((b.size : Nat) : Int)) = B := ⟨_, rfl⟩
      obtain ⟨B1, e1⟩ : ∃ B, (decide (97 ≤ (c : Int)) && decide ((c : Int) ≤ 122)) = B := ⟨_, rfl⟩
      obtain ⟨B2, e2⟩ : ∃ B, (decide (65 ≤ (c : Int)) && decide ((c : Int) ≤ 90)) = B := ⟨_, rfl⟩
      obtain ⟨s1, q1⟩ : ∃ B, strEq b ⟨#[73, 110, 116]⟩ = B := ⟨_, rfl⟩
      obtain ⟨s2, q2⟩ : ∃ B, strEq b ⟨#[66, 111, 111, 108]⟩ = B := ⟨_, rfl⟩
      obtain ⟨s3, q3⟩ : ∃ B, strEq b ⟨#[67, 101, 108, 108]⟩ = B := ⟨_, rfl⟩
      obtain ⟨s4, q4⟩ : ∃ B, strEq b ⟨#[70, 117, 110]⟩ = B := ⟨_, rfl⟩
      have key : ∀ s : St, s.eval (.t 0) = some (.val (.string b)) → s.eval (.t (if 242 = 242 then 23 else 35)) = some (.val (.int .i64 (b.size : Nat))) → s.eval (.t (if 242 = 242 then 24 else 36)) = some (.val (.int .i64 (0 : Nat))) → s.defers = [] →
          Run E1 jN s fun e s' => s'.defers = [] ∧ (e = .exit 0 ∨ e = .ret ∧ ∃ x, s'.eval (.t 2) = some (.val (.int .i64 x))) := fun s a1 a2 a3 a4 => tD b hb b.size 0 s om a1 a2 a3 a4
      simp only [↓reduceIte, Nat.reduceEqDiff] at key
      cases B0 with
      | true =>
        simp -implicitDefEqProofs only [mw, f135, V, ↓reduceIte, rA, rB, rC, reduceCtorEq, rD, rE, rF, aR, h0, hh, hd, z1, e0]
        exact ⟨_, ⟨_, rfl⟩, rfl⟩
      | false =>
        cases B1 <;> cases B2 <;> cases A <;> cases s1 <;> cases s2 <;> cases s3 <;> cases s4 <;> simp -implicitDefEqProofs only [mw, f135, V, ↓reduceIte, rA, rB, rC, reduceCtorEq, rD, rE, rF, aR, h0, hh, hd, ca, fG, aA hA, hc, z1, e0, e1, e2, q1, q2, q3, q4]
        all_goals first
          | exact ⟨_, ⟨_, rfl⟩, rfl⟩
          | (refine (key _ ?_ ?_ ?_ ?_).mono ?_
             ·exact U40
             ·exact U41
             ·exact U36
             ·exact U37
             · rintro e s' ⟨hf, rfl | ⟨rfl, x, h2⟩⟩
               ·exact U42
               · simp -implicitDefEqProofs only [V, ↓reduceIte, rA, rB, rC, reduceCtorEq, rD, rE, rF, hf, h2]
                 exact ⟨_, ⟨_, rfl⟩, rfl⟩)
    · have z1 : decide (((b.size : Nat) : Int) < 1) = true := decide_eq_true om
      simp -implicitDefEqProofs only [mw, f135, V, ↓reduceIte, rA, rB, rC, reduceCtorEq, rD, rE, rF, aR, h0, hh, hd, z1]
      exact ⟨_, ⟨_, rfl⟩, rfl⟩
  subst hx
  exact ⟨x, aB kr kr (mem1 (Tree.val _)) rfl (Tree.val _) ha⟩
theorem wi (b : ByteArray) (hb : b.size < 2 ^ 61) : ∃ x, ∀ h, RunCall E1 (.f 136) [.val (.string b)] h (.val (.int .i64 x)) h := by
  obtain ⟨A, hA⟩ := rkw_ans b
  obtain ⟨r, ⟨x, hx⟩, ha⟩ := ansE (g := 136) (l := [.val (.string b)]) (P := fun r => ∃ x, r = .val (.int .i64 x)) f136_ok fun s hs hh hd => by
    have h0 := hs 0 _ rfl
    have hbeq : Nat.beq 0 0 = true := rfl
    by_cases hz : 1 ≤ b.size
    · obtain ⟨c, hc⟩ := bl (b := b) (i := 0) om
      have z1 : decide (((b.size : Nat) : Int) < 1) = false := decide_eq_false om
      obtain ⟨B0, e0⟩ : ∃ B, decide (24 < ((b.size : Nat) : Int)) = B := ⟨_, rfl⟩
      obtain ⟨B1, e1⟩ : ∃ B, (decide (97 ≤ (c : Int)) && decide ((c : Int) ≤ 122)) = B := ⟨_, rfl⟩
      obtain ⟨B2, e2⟩ : ∃ B, (decide (65 ≤ (c : Int)) && decide ((c : Int) ≤ 90)) = B := ⟨_, rfl⟩
      obtain ⟨s1, q1⟩ : ∃ B, strEq b ⟨#[73, 110, 116]⟩ = B := ⟨_, rfl⟩
      obtain ⟨s2, q2⟩ : ∃ B, strEq b ⟨#[66, 111, 111, 108]⟩ = B := ⟨_, rfl⟩
      obtain ⟨s3, q3⟩ : ∃ B, strEq b ⟨#[67, 101, 108, 108]⟩ = B := ⟨_, rfl⟩
      obtain ⟨s4, q4⟩ : ∃ B, strEq b ⟨#[70, 117, 110]⟩ = B := ⟨_, rfl⟩
      have key : ∀ s : St, s.eval (.t 0) = some (.val (.string b)) → s.eval (.t (if 243 = 242 then 23 else 35)) = some (.val (.int .i64 (b.size : Nat))) → s.eval (.t (if 243 = 242 then 24 else 36)) = some (.val (.int .i64 (0 : Nat))) → s.defers = [] →
          Run E1 jL s fun e s' => s'.defers = [] ∧ (e = .exit 0 ∨ e = .ret ∧ ∃ x, s'.eval (.t 2) = some (.val (.int .i64 x))) := fun s a1 a2 a3 a4 => tC b hb b.size 0 s om a1 a2 a3 a4
      simp only [↓reduceIte, Nat.reduceEqDiff] at key
      cases B0 with
      | true =>
        simp -implicitDefEqProofs only [mu, f136, V, ↓reduceIte, rA, rB, rC, reduceCtorEq, rD, rE, rF, aR, h0, hh, hd, z1, e0]
        exact ⟨_, ⟨_, rfl⟩, rfl⟩
      | false =>
        cases B1 <;> cases B2 <;> cases A <;> cases s1 <;> cases s2 <;> cases s3 <;> cases s4 <;> simp -implicitDefEqProofs only [mu, f136, V, ↓reduceIte, rA, rB, rC, reduceCtorEq, rD, rE, rF, aR, h0, hh, hd, ca, fG, aA hA, hc, z1, e0, e1, e2, q1, q2, q3, q4]
        all_goals first
          | exact ⟨_, ⟨_, rfl⟩, rfl⟩
          | (refine (key _ ?_ ?_ ?_ ?_).mono ?_
             ·exact U40
             ·exact U41
             ·exact U36
             ·exact U37
             · rintro e s' ⟨hf, rfl | ⟨rfl, x, h2⟩⟩
               ·exact U42
               · simp -implicitDefEqProofs only [V, ↓reduceIte, rA, rB, rC, reduceCtorEq, rD, rE, rF, hf, h2]
                 exact ⟨_, ⟨_, rfl⟩, rfl⟩)
    · have z1 : decide (((b.size : Nat) : Int) < 1) = true := decide_eq_true om
      simp -implicitDefEqProofs only [mu, f136, V, ↓reduceIte, rA, rB, rC, reduceCtorEq, rD, rE, rF, aR, h0, hh, hd, z1]
      exact ⟨_, ⟨_, rfl⟩, rfl⟩
  subst hx
  exact ⟨x, aB kr kr (mem1 (Tree.val _)) rfl (Tree.val _) ha⟩
theorem part_ans(b:ByteArray)(hb:b.size<2^61):∃x,∀h,RunCall E1 (.f 137) [.val (.string b)] h (.val (.bool x)) h:=by
 obtain⟨r,⟨x,hx⟩,ha⟩:=ansE (g:=137) (l:=[.val (.string b)]) (P:=fun r=>∃x,r=.val (.bool x)) f137_ok fun s hs hh hd=>by
  have h0:=hs 0 _ rfl
  have hbeq:Nat.beq 0 0=true:=rfl
  by_cases hz:1≤b.size
  ·obtain⟨c,hc⟩:=bl (b:=b) (i:=0) om
   have z1:decide (((b.size:Nat):Int)<1)=false:=decide_eq_false om
   obtain⟨B0,e0⟩:∃B,decide (24<((b.size:Nat):Int))=B:=⟨_,rfl⟩
   obtain⟨B1,e1⟩:∃B,(decide (97≤(c:Int))&&decide ((c:Int)≤122))=B:=⟨_,rfl⟩
   cases B0 with
   |true=>
    simp-implicitDefEqProofs only[mt,f137,V,↓reduceIte,rA,rB,rC,reduceCtorEq,rD,rE,rF,aR,h0,hh,hd,z1,e0]
    exact⟨_,⟨_,rfl⟩,rfl⟩
   |false=>
    simp-implicitDefEqProofs only[mt,f137,V,↓reduceIte,rA,rB,rC,reduceCtorEq,rD,rE,rF,aR,h0,hh,hd,ca,hc,z1,e0,e1]
    refine(tB b hb b.size 0 _ om ?_ ?_ ?_ ⟨true,?_⟩ ⟨B1,?_⟩ ?_).mono ?_
    ·exact U32
    ·exact U28
    ·exact U29
    ·exact U28
    ·exact U28
    ·exact U33
    ·rintro e s' ⟨hf,rfl,x,y,h3,h4⟩
     cases x<;>simp-implicitDefEqProofs only[V,↓reduceIte,rA,rB,rC,reduceCtorEq,rD,rE,rF,hbeq,hf,h3,h4]<;>exact⟨_,⟨_,rfl⟩,rfl⟩
  ·have z1:decide (((b.size:Nat):Int)<1)=true:=decide_eq_true om
   simp-implicitDefEqProofs only[mt,f137,V,↓reduceIte,rA,rB,rC,reduceCtorEq,rD,rE,rF,aR,h0,hh,hd,z1]
   exact⟨_,⟨_,rfl⟩,rfl⟩
 subst hx
 exact⟨x,aB kr kr (mem1 (Tree.val _)) rfl (Tree.val _) ha⟩
theorem ansEh{g:Nat}{l:List AV}{a:AFun}{P:AV→AH→Prop}(hf:funOf Tryz.prog g=some a)
  (h:∀s:St,(∀i v,(enterTm l 0 .nil).get i=some v→s.eval (.t i)=some v)→s.h=.empty→s.defers=[]→wp E1 a.body s fun e s=>(e=.normal∨e=.ret)∧s.defers=[]∧∃r,P r s.h∧resultsA E1.globs s a.res=some [r]):∃r hc,P r hc∧Ev fun n=>enterA E1 (exec E1 n) g l .empty=some (r,hc):=by
 obtain⟨e,s',x,y1,y2,r,hp,y3⟩:=bZ _ _ _ (h {tm:=enterTm l 0 .nil,h:=.empty,defers:=[],round:=none} (fun _ _ h=>h) rfl rfl)
 refine⟨r,s'.h,hp,x.mono fun n p=>?_⟩
 have hl:leaveA E1 a s'=some (r,s'.h):=by
  obtain⟨tm,h1,df,rd⟩:=s'
  subst y2
  simp only[leaveA,runDefers,y3]
  rfl
 simp only[enterA,(show funOf E1.P g=some a by rw[E1_P];exact hf),p]
 rcases y1 with rfl|rfl<;>exact hl
theorem ok16{n:Nat}(h:n≤200):okLen n 16=true:=by
 have h1:Nat.ble (n*16) mostBytes=true:=Nat.ble_eq.mpr (by have:mostBytes=2^40:=rfl;omega)
 have h2:Nat.ble n mostBytes=true:=Nat.ble_eq.mpr (by have:mostBytes=2^40:=rfl;omega)
 simp only[okLen,h1,h2,Bool.and_self]
theorem kj(b:ByteArray)(hb:b.size≤120):∀(n i st:Nat) (l:List ByteArray) (v:AV) (s:St),i+n=b.size→st≤i→l.length≤i→(∀x∈l,x.size≤120)→s.eval (.t 0)=some (.val (.string b))→s.eval (.t 7)=some (.val (.int .i64 (b.size:Nat)))→s.eval (.t 8)=some (.val (.int .i64 i))→
  s.eval (.t 3)=some v→Row 0 s.h v (strs l)→s.eval (.t 4)=some (.val (.int .i64 st))→s.defers=[]→
  Run E1 my s fun e s'=>e=.exit 0∧s'.defers=[]∧s'.eval (.t 0)=some (.val (.string b))∧∃(st:Nat) (l:List ByteArray) (v:AV),st≤b.size∧l.length≤b.size∧(∀x∈l,x.size≤120)∧s'.eval (.t 3)=some v∧Row 0 s'.h v (strs l)∧s'.eval (.t 4)=some (.val (.int .i64 st))
 |0,i,st,l,v,s,hi,hst,hl,hx,h0,h7,h8,h3,hr,h4,hd=>by
  have hlt:decide ((i:Int)<(b.size:Nat))=false:=decide_eq_false om
  apply aC (rfl:my=.loop gT)
  simp-implicitDefEqProofs only[gT,V,↓reduceIte,rA,rB,rC,reduceCtorEq,rD,rE,rF,h0,h3,h4,h7,h8,hd,hlt]
  exact⟨st,l,v,om,om,hx,rfl,hr,rfl⟩
 |n+1,i,st,l,v,s,hi,hst,hl,hx,h0,h7,h8,h3,hr,h4,hd=>by
  have hlt:decide ((i:Int)<(b.size:Nat))=true:=decide_eq_true om
  have w1:IntKind.i64.wrap ((i:Int)+1)=((i+1:Nat):Int):=aE (n:=i+1) om
  obtain⟨c,hc⟩:=bl (b:=b) (i:=i) om
  obtain⟨B1,e1⟩:∃B,decide ((c:Int)=46)=B:=⟨_,rfl⟩
  apply aC (rfl:my=.loop gT)
  cases B1 with
  |false=>
   simp-implicitDefEqProofs only[gT,V,↓reduceIte,rA,rB,rC,reduceCtorEq,rD,rE,rF,h0,h3,h4,h7,h8,hd,hlt,w1,hc,e1]
   refine kj b hb n (i+1) st l v _ om om om hx ?_ ?_ ?_ ?_ ?_ ?_ ?_
   all_goals first
    |exact hr
    |simp-implicitDefEqProofs only[V,↓reduceIte,rA,rB,rC,reduceCtorEq,rD,rE,rF,h0,h3,h4,h7,h8,hd]
  |true=>
   have hm:=slice_mid (b:=b) (i:=st) (j:=i) hst om
   have ho:okLen ((strs l).length+1) 16=true:=ok16 (by rw[fM];omega)
   have ha:=fun(s:St) K r dst d1 a=>app_row (E:=E1) (s:=s) (K:=K) (r:=r) (dst:=dst) (d1:=d1) (a:=a) (e:=.val (.string (b.extract st i))) hr ho
   simp-implicitDefEqProofs only[gT,V,↓reduceIte,rA,rB,rC,reduceCtorEq,rD,rE,rF,iq,dN,tw,tv,gF,xW,sf,h0,h3,h4,h7,h8,hd,hlt,w1,hc,e1,hm,ha]
   refine kj b hb n (i+1) (i+1) (l++[b.extract st i]) (.own (s.h.next+1) 0 ((strs l).length+1) 1 none) _ om om (by simp only[List.length_append,List.length_cons,List.length_nil];omega) ?_ ?_ ?_ ?_ ?_ ?_ ?_ ?_
   ·exact U43
   ·exact U32
   ·exact U44
   ·exact U28
   ·exact U28
   ·simp-implicitDefEqProofs only[V,↓reduceIte,rA,rB,rC,reduceCtorEq,rD,rE,rF]
    rw[←wP]
    exact wk hr (Nat.zero_le _)
   ·exact U28
   ·exact U33
theorem parts_ans(b:ByteArray)(hb:b.size≤120):∃l:List ByteArray,1≤l.length∧l.length≤121∧(∀x∈l,x.size≤120)∧∀h,RunCall E1 (.f 134) [.val (.string b)] h (.imm (strs l) l.length none) h:=by
 obtain⟨r,hc,⟨l,k,hl1,hl2,hl3,hr,hg⟩,ha⟩:=ansEh (g:=134) (l:=[.val (.string b)]) (P:=fun r h=>∃(l:List ByteArray) (k:Nat),1≤l.length∧l.length≤121∧(∀x∈l,x.size≤120)∧r=.own k 0 l.length 1 none∧h.get k=some (.cells (strs l) true)) f134_ok fun s hs hh hd=>by
  have h0:=hs 0 _ rfl
  simp-implicitDefEqProofs only[f134_fn,f134,V,↓reduceIte,rA,rB,rC,reduceCtorEq,rD,rE,rF,aR,h0,hh,hd]
  refine(kj b hb b.size 0 0 [] (.val (.slice none 0 0)) _ om (Nat.le_refl _) (Nat.zero_le _) (fun x hx=>(by cases hx)) ?_ ?_ ?_ ?_ (.inl ⟨rfl,rfl⟩) ?_ ?_).mono ?_
  ·exact U32
  ·exact U28
  ·exact U29
  ·exact U28
  ·exact U29
  ·exact U33
  ·rintro e s' ⟨rfl,hf,g0,st,l,v,hst,hl,hx,g3,hr,g4⟩
   have:Nat.beq 0 0=true:=rfl
   have hm:=slice_end (b:=b) (i:=st) hst
   have ho:okLen ((strs l).length+1) 16=true:=ok16 (by rw[fM];omega)
   have ha:=fun(s:St) K r dst d1 a=>app_row (E:=E1) (s:=s) (K:=K) (r:=r) (dst:=dst) (d1:=d1) (a:=a) (e:=.val (.string (b.extract st b.size))) hr ho
   simp-implicitDefEqProofs only[V,↓reduceIte,rA,rB,rC,reduceCtorEq,rD,rE,rF,iq,dN,tw,tv,gF,xW,sf,this,hf,g0,g3,g4,hm,ha]
   have hp:=wk (e:=.val (.string (b.extract st b.size))) hr (Nat.zero_le _)
   rw[wP] at hp
   have hn:(l++[b.extract st b.size]).length=l.length+1:=by simp
   refine⟨_,⟨l++[b.extract st b.size],s'.h.next+1,om,om,?_,?_,?_⟩,rfl⟩
   ·exact U43
   ·rw[hn,fM]
   ·rcases hp with⟨q,_⟩|⟨c,_,_,_,q,g⟩
    ·cases q
    ·obtain⟨q1,_⟩:=AV.own.inj q
     rw[q1];exact g
 subst hr
 exact⟨l,hl1,hl2,hl3,yS kr kr (mem1 (Tree.val _)) ha hg (by rw[fM];omega) (sA l)⟩
theorem xa(l:List ByteArray)(hb:l.length<2^61)(hx:∀x∈l,x.size≤120):∀(r:List ByteArray) (i:Nat) (s:St),l.drop i=r→i≤l.length→s.eval (.t 35)=some (.imm (strs l) l.length none)→s.eval (.t 36)=some (.val (.int .i64 (l.length:Nat)))→s.eval (.t 37)=some (.val (.int .i64 i))→s.defers=[]→
  Run E1 ub s fun e s'=>s'.defers=[]∧(e=.exit 0∨e=.ret∧∃x,s'.eval (.t 2)=some (.val (.int .i64 x)))
 | [],i,s,hr,hi,h5,h6,h7,hd=>by
  have hl:i=l.length:=by
   have:=List.drop_eq_nil_iff.1 hr
   omega
  have hlt:decide ((i:Int)<(l.length:Nat))=false:=decide_eq_false om
  apply aC (rfl:ub=.loop pU)
  simp-implicitDefEqProofs only[pU,V,↓reduceIte,rA,rB,rC,reduceCtorEq,rD,rE,rF,h5,h6,h7,hd,hlt]
 |a::r,i,s,hr,hi,h5,h6,h7,hd=>by
  have hl:i<l.length:=by
   rcases Nat.lt_or_ge i l.length with x|x
   ·exact x
   ·rw[List.drop_eq_nil_of_le x] at hr;cases hr
  have hr':l.drop (i+1)=r:=by rw[←List.drop_drop,hr];rfl
  have hlt:decide ((i:Int)<(l.length:Nat))=true:=decide_eq_true om
  have w1:IntKind.i64.wrap ((i:Int)+1)=((i+1:Nat):Int):=aE (n:=i+1) om
  have ha:a∈l:=List.mem_of_mem_drop (i:=i) (by rw[hr];exact List.mem_cons_self)
  obtain⟨B1,hB⟩:=part_ans a (by have:=hx a ha;omega)
  apply aC (rfl:ub=.loop pU)
  cases B1<;>simp-implicitDefEqProofs only[pU,V,↓reduceIte,rA,rB,rC,reduceCtorEq,rD,rE,rF,h5,h6,h7,hd,hlt,w1,yh hr,dt,aA hB]
  all_goals first
   |exact⟨_,rfl⟩
   |exact .inr ⟨_,rfl⟩
   |(refine xa l hb hx r (i+1) _ hr' om ?_ ?_ ?_ ?_<;>simp-implicitDefEqProofs only[V,↓reduceIte,rA,rB,rC,reduceCtorEq,rD,rE,rF,h5,h6,hd])
theorem rcore_ans (b : ByteArray) : ∃ x, ∀ h, RunCall E1 (.f 89) [.val (.string b)] h (.val (.int .i64 x)) h := by
  obtain ⟨r, ⟨x, hx⟩, ha⟩ := ansE (g := 89) (l := [.val (.string b)]) (P := fun r => ∃ x, r = .val (.int .i64 x)) f89_ok fun s hs hh hd => by
    have h0 := hs 0 _ rfl
    have hbeq : Nat.beq 0 0 = true := rfl
    by_cases hz : 120 < b.size
    · have z1 : decide (120 < ((b.size : Nat) : Int)) = true := decide_eq_true om
      simp -implicitDefEqProofs only [zh, f89, V, ↓reduceIte, rA, rB, rC, reduceCtorEq, rD, rE, rF, aR, h0, hh, hd, z1]
      exact ⟨_, ⟨_, rfl⟩, rfl⟩
    · have z1 : decide (120 < ((b.size : Nat) : Int)) = false := decide_eq_false om
      obtain ⟨l, hl1, hl2, hl3, hp⟩ := parts_ans b om
      obtain ⟨a, r, rfl⟩ : ∃ a r, l = a :: r := by
        cases l with
        | nil => exact absurd hl1 de
        | cons a r => exact ⟨a, r, rfl⟩
      have h00 : (a :: r).drop 0 = a :: r := rfl
      have hxa := hl3 a List.mem_cons_self
      obtain ⟨A2, hA2⟩ := wj a om
      obtain ⟨A3, hA3⟩ := wi a om
      obtain ⟨B2, e2⟩ : ∃ B, decide (A2 = 0) = B := ⟨_, rfl⟩
      obtain ⟨B3, e3⟩ : ∃ B, decide (A3 = 0) = B := ⟨_, rfl⟩
      obtain ⟨Vx, hV⟩ : ∃ Vx, strEq a ⟨#[118]⟩ = Vx := ⟨_, rfl⟩
      obtain ⟨L, hL⟩ : ∃ L, decide ((((a :: r).length : Nat) : Int) = 1) = L := ⟨_, rfl⟩
      have ht := str_tail (l := a :: r) (cap := none) hl1 rfl
      have hsa := fun cap => yh (cap := cap) h00
      have hll : r.length ≤ 120 := by simp only [List.length_cons] at hl2; omega
      rw [show (a :: r).drop 1 = r from rfl] at ht
      cases B2 <;> cases B3 <;> cases Vx <;> cases L <;> simp -implicitDefEqProofs only [zh, f89, V, ↓reduceIte, rA, rB, rC, reduceCtorEq, rD, rE, rF, iq, dN, tw, tv, gF, len_imm, aR, h0, hh, hd, z1, aA hp, aA hA2, aA hA3, hsa, dt, e2, e3, hV, hL, ht]
      all_goals first
        | exact ⟨_, ⟨_, rfl⟩, rfl⟩
        | (refine (xa r om (fun x hx => hl3 x (List.mem_cons_of_mem _ hx)) r 0 _ rfl (Nat.zero_le _) ?_ ?_ ?_ ?_).mono ?_
           ·exact U41
           ·exact U41
           ·exact U36
           ·exact U37
           · rintro e s' ⟨hf, rfl | ⟨rfl, x, h2⟩⟩
             ·exact U42
             · simp -implicitDefEqProofs only [V, ↓reduceIte, rA, rB, rC, reduceCtorEq, rD, rE, rF, hf, h2]
               exact ⟨_, ⟨_, rfl⟩, rfl⟩)
  subst hx
  exact ⟨x, aB kr kr (mem1 (Tree.val _)) rfl (Tree.val _) ha⟩
end Go.Proofs.YtkhblipgiijoiaaGreatDoor
namespace Go.Proofs.YtkhblipgiijoiaaGreatDoor
open Go Go.AM
set_option maxHeartbeats 40000000
set_option maxRecDepth 10000
theorem nodeE56_3(p:Pr)(hk:p.op=3):∃x,∀h,RunCall E1 (.f 114) [p.av] h (.val (.int .i64 x)) h:=by
 obtain⟨A,hA⟩:=ff p.nm
 obtain⟨r,⟨x,hx⟩,ha⟩:=ansE (g:=114) (l:=[p.av]) (P:=fun r=>∃x,r=.val (.int .i64 x)) bC fun s hs hh hd=>by
  have h0:=hs 0 _ rfl
  obtain⟨B,hB⟩:∃B,decide (A=0)=B:=⟨_,rfl⟩
  obtain⟨z,hz⟩:∃B,decide (p.n=0)=B:=⟨_,rfl⟩
  obtain⟨L1,hL1⟩:∃B,decide (((p.ks.length:Nat):Int)<0)=B:=⟨_,rfl⟩
  obtain⟨L2,hL2⟩:∃B,decide ((0:Int)<((p.ks.length:Nat):Int))=B:=⟨_,rfl⟩
  obtain⟨Vx,hV⟩:∃B,strEq p.nm ⟨#[118]⟩=B:=⟨_,rfl⟩
  obtain⟨T,hT⟩:∃B,strEq p.nm ⟨#[116,97,103]⟩=B:=⟨_,rfl⟩
  obtain⟨U,hU⟩:∃B,strEq p.nm ⟨#[118,97,108]⟩=B:=⟨_,rfl⟩
  cases z with
  |false=>
   simp-implicitDefEqProofs only[aL,f114,V,↓reduceIte,rA,rB,rC,reduceCtorEq,rD,rE,rF,h0,hh,hd,hk,bH,aw,aI,hz]
   exact⟨_,⟨_,rfl⟩,rfl⟩
  |true=>cases L1 with
   |true=>
    simp-implicitDefEqProofs only[aL,f114,V,↓reduceIte,rA,rB,rC,reduceCtorEq,rD,rE,rF,h0,hh,hd,hk,bH,aw,aI,hz,hL1]
    exact⟨_,⟨_,rfl⟩,rfl⟩
   |false=>cases L2 with
    |true=>
     simp-implicitDefEqProofs only[aL,f114,V,↓reduceIte,rA,rB,rC,reduceCtorEq,rD,rE,rF,h0,hh,hd,hk,bH,aw,aI,hz,hL1,hL2]
     exact⟨_,⟨_,rfl⟩,rfl⟩
    |false=>cases B with
     |true=>
      simp-implicitDefEqProofs only[aL,f114,V,↓reduceIte,rA,rB,rC,reduceCtorEq,rD,rE,rF,h0,hh,hd,hk,bH,aw,aI,aA hA,hz,hL1,hL2,hB]
      exact⟨_,⟨_,rfl⟩,rfl⟩
     |false=>
      cases Vx<;>cases T<;>cases U<;>simp-implicitDefEqProofs only[aL,f114,V,↓reduceIte,rA,rB,rC,reduceCtorEq,rD,rE,rF,h0,hh,hd,hk,bH,aw,aI,aA hA,hz,hL1,hL2,hB,hV,hT,hU]
      all_goals exact⟨_,⟨_,rfl⟩,rfl⟩
 subst hx
 exact⟨x,aB kr kr (mem1 (Tree.pr p)) rfl (Tree.val _) ha⟩
theorem vt(p:Pr)(hk:p.op=3):∃x,∀h,RunCall E1 (.f 122) [p.av] h (.val (.bool x)) h:=U12
theorem zH(p:Pr)(hk:p.op=3):∃x,∀h,RunCall E1 (.f 79) [p.av] h (.val (.int .i64 x)) h:=by
 obtain⟨A,hA⟩:=vt p hk
 obtain⟨r,⟨x,hx⟩,ha⟩:=ansE (g:=79) (l:=[p.av]) (P:=fun r=>∃x,r=.val (.int .i64 x)) bd fun s hs hh hd=>by
  have h0:=hs 0 _ rfl
  obtain⟨e,he⟩:∃B,strEq p.nm ⟨#[]⟩=B:=⟨_,rfl⟩
  obtain⟨z,hz⟩:∃B,decide (p.n=0)=B:=⟨_,rfl⟩
  obtain⟨K,hK⟩:∃B,(bif 0==0 then decide (((p.ks.length:Nat):Int)=0) else(decide (1≤((p.ks.length:Nat):Int))&&decide (((p.ks.length:Nat):Int)≤24)))=B:=⟨_,rfl⟩
  simp only[Nat.reduceBEq,cond_true,cond_false] at hK
  cases e<;>cases z<;>cases K<;>cases A<;>simp-implicitDefEqProofs only[bP,f79,V,↓reduceIte,rA,rB,rC,reduceCtorEq,rD,rE,rF,h0,hh,hd,hk,uP,qz,ap,aA hA,he,hz,hK]
  all_goals exact⟨_,⟨_,rfl⟩,rfl⟩
 subst hx
 exact⟨x,aB kr kr (mem1 (Tree.pr p)) rfl (Tree.val _) ha⟩
theorem nodeE56_4(p:Pr)(hk:p.op=4):∃x,∀h,RunCall E1 (.f 114) [p.av] h (.val (.int .i64 x)) h:=by
 obtain⟨A,hA⟩:=ff p.nm
 obtain⟨r,⟨x,hx⟩,ha⟩:=ansE (g:=114) (l:=[p.av]) (P:=fun r=>∃x,r=.val (.int .i64 x)) bC fun s hs hh hd=>by
  have h0:=hs 0 _ rfl
  obtain⟨B,hB⟩:∃B,decide (A=0)=B:=⟨_,rfl⟩
  obtain⟨z,hz⟩:∃B,decide (p.n=0)=B:=⟨_,rfl⟩
  obtain⟨L1,hL1⟩:∃B,decide (((p.ks.length:Nat):Int)<1)=B:=⟨_,rfl⟩
  obtain⟨L2,hL2⟩:∃B,decide ((24:Int)<((p.ks.length:Nat):Int))=B:=⟨_,rfl⟩
  obtain⟨Vx,hV⟩:∃B,strEq p.nm ⟨#[118]⟩=B:=⟨_,rfl⟩
  obtain⟨T,hT⟩:∃B,strEq p.nm ⟨#[116,97,103]⟩=B:=⟨_,rfl⟩
  obtain⟨U,hU⟩:∃B,strEq p.nm ⟨#[118,97,108]⟩=B:=⟨_,rfl⟩
  cases z with
  |false=>
   simp-implicitDefEqProofs only[aL,f114,V,↓reduceIte,rA,rB,rC,reduceCtorEq,rD,rE,rF,h0,hh,hd,hk,bG,au,aI,hz]
   exact⟨_,⟨_,rfl⟩,rfl⟩
  |true=>cases L1 with
   |true=>
    simp-implicitDefEqProofs only[aL,f114,V,↓reduceIte,rA,rB,rC,reduceCtorEq,rD,rE,rF,h0,hh,hd,hk,bG,au,aI,hz,hL1]
    exact⟨_,⟨_,rfl⟩,rfl⟩
   |false=>cases L2 with
    |true=>
     simp-implicitDefEqProofs only[aL,f114,V,↓reduceIte,rA,rB,rC,reduceCtorEq,rD,rE,rF,h0,hh,hd,hk,bG,au,aI,hz,hL1,hL2]
     exact⟨_,⟨_,rfl⟩,rfl⟩
    |false=>cases B with
     |true=>
      simp-implicitDefEqProofs only[aL,f114,V,↓reduceIte,rA,rB,rC,reduceCtorEq,rD,rE,rF,h0,hh,hd,hk,bG,au,aI,aA hA,hz,hL1,hL2,hB]
      exact⟨_,⟨_,rfl⟩,rfl⟩
     |false=>
      cases Vx<;>cases T<;>cases U<;>simp-implicitDefEqProofs only[aL,f114,V,↓reduceIte,rA,rB,rC,reduceCtorEq,rD,rE,rF,h0,hh,hd,hk,bG,au,aI,aA hA,hz,hL1,hL2,hB,hV,hT,hU]
      all_goals exact⟨_,⟨_,rfl⟩,rfl⟩
 subst hx
 exact⟨x,aB kr kr (mem1 (Tree.pr p)) rfl (Tree.val _) ha⟩
theorem vr(p:Pr)(hk:p.op=4):∃x,∀h,RunCall E1 (.f 122) [p.av] h (.val (.bool x)) h:=U12
theorem zG(p:Pr)(hk:p.op=4):∃x,∀h,RunCall E1 (.f 79) [p.av] h (.val (.int .i64 x)) h:=by
 obtain⟨A,hA⟩:=vr p hk
 obtain⟨r,⟨x,hx⟩,ha⟩:=ansE (g:=79) (l:=[p.av]) (P:=fun r=>∃x,r=.val (.int .i64 x)) bd fun s hs hh hd=>by
  have h0:=hs 0 _ rfl
  obtain⟨e,he⟩:∃B,strEq p.nm ⟨#[]⟩=B:=⟨_,rfl⟩
  obtain⟨z,hz⟩:∃B,decide (p.n=0)=B:=⟨_,rfl⟩
  obtain⟨K,hK⟩:∃B,(bif 1==0 then decide (((p.ks.length:Nat):Int)=0) else(decide (1≤((p.ks.length:Nat):Int))&&decide (((p.ks.length:Nat):Int)≤24)))=B:=⟨_,rfl⟩
  simp only[Nat.reduceBEq,cond_true,cond_false] at hK
  cases e<;>cases z<;>cases K<;>cases A<;>simp-implicitDefEqProofs only[bP,f79,V,↓reduceIte,rA,rB,rC,reduceCtorEq,rD,rE,rF,h0,hh,hd,hk,uO,qy,ap,aA hA,he,hz,hK]
  all_goals exact⟨_,⟨_,rfl⟩,rfl⟩
 subst hx
 exact⟨x,aB kr kr (mem1 (Tree.pr p)) rfl (Tree.val _) ha⟩
theorem nodeE56_5(p:Pr)(hk:p.op=5):∃x,∀h,RunCall E1 (.f 114) [p.av] h (.val (.int .i64 x)) h:=by
 obtain⟨A,hA⟩:=ff p.nm
 obtain⟨r,⟨x,hx⟩,ha⟩:=ansE (g:=114) (l:=[p.av]) (P:=fun r=>∃x,r=.val (.int .i64 x)) bC fun s hs hh hd=>by
  have h0:=hs 0 _ rfl
  obtain⟨B,hB⟩:∃B,decide (A=0)=B:=⟨_,rfl⟩
  obtain⟨z,hz⟩:∃B,decide (p.n=0)=B:=⟨_,rfl⟩
  obtain⟨L1,hL1⟩:∃B,decide (((p.ks.length:Nat):Int)<1)=B:=⟨_,rfl⟩
  obtain⟨L2,hL2⟩:∃B,decide ((24:Int)<((p.ks.length:Nat):Int))=B:=⟨_,rfl⟩
  obtain⟨Vx,hV⟩:∃B,strEq p.nm ⟨#[118]⟩=B:=⟨_,rfl⟩
  obtain⟨T,hT⟩:∃B,strEq p.nm ⟨#[116,97,103]⟩=B:=⟨_,rfl⟩
  obtain⟨U,hU⟩:∃B,strEq p.nm ⟨#[118,97,108]⟩=B:=⟨_,rfl⟩
  cases z with
  |false=>
   simp-implicitDefEqProofs only[aL,f114,V,↓reduceIte,rA,rB,rC,reduceCtorEq,rD,rE,rF,h0,hh,hd,hk,bF,ar,aI,hz]
   exact⟨_,⟨_,rfl⟩,rfl⟩
  |true=>cases L1 with
   |true=>
    simp-implicitDefEqProofs only[aL,f114,V,↓reduceIte,rA,rB,rC,reduceCtorEq,rD,rE,rF,h0,hh,hd,hk,bF,ar,aI,hz,hL1]
    exact⟨_,⟨_,rfl⟩,rfl⟩
   |false=>cases L2 with
    |true=>
     simp-implicitDefEqProofs only[aL,f114,V,↓reduceIte,rA,rB,rC,reduceCtorEq,rD,rE,rF,h0,hh,hd,hk,bF,ar,aI,hz,hL1,hL2]
     exact⟨_,⟨_,rfl⟩,rfl⟩
    |false=>cases B with
     |true=>
      simp-implicitDefEqProofs only[aL,f114,V,↓reduceIte,rA,rB,rC,reduceCtorEq,rD,rE,rF,h0,hh,hd,hk,bF,ar,aI,aA hA,hz,hL1,hL2,hB]
      exact⟨_,⟨_,rfl⟩,rfl⟩
     |false=>
      cases Vx<;>cases T<;>cases U<;>simp-implicitDefEqProofs only[aL,f114,V,↓reduceIte,rA,rB,rC,reduceCtorEq,rD,rE,rF,h0,hh,hd,hk,bF,ar,aI,aA hA,hz,hL1,hL2,hB,hV,hT,hU]
      all_goals exact⟨_,⟨_,rfl⟩,rfl⟩
 subst hx
 exact⟨x,aB kr kr (mem1 (Tree.pr p)) rfl (Tree.val _) ha⟩
theorem vq(p:Pr)(hk:p.op=5):∃x,∀h,RunCall E1 (.f 122) [p.av] h (.val (.bool x)) h:=U12
theorem zF(p:Pr)(hk:p.op=5):∃x,∀h,RunCall E1 (.f 79) [p.av] h (.val (.int .i64 x)) h:=by
 obtain⟨A,hA⟩:=vq p hk
 obtain⟨r,⟨x,hx⟩,ha⟩:=ansE (g:=79) (l:=[p.av]) (P:=fun r=>∃x,r=.val (.int .i64 x)) bd fun s hs hh hd=>by
  have h0:=hs 0 _ rfl
  obtain⟨e,he⟩:∃B,strEq p.nm ⟨#[]⟩=B:=⟨_,rfl⟩
  obtain⟨z,hz⟩:∃B,decide (p.n=0)=B:=⟨_,rfl⟩
  obtain⟨K,hK⟩:∃B,(bif 1==0 then decide (((p.ks.length:Nat):Int)=0) else(decide (1≤((p.ks.length:Nat):Int))&&decide (((p.ks.length:Nat):Int)≤24)))=B:=⟨_,rfl⟩
  simp only[Nat.reduceBEq,cond_true,cond_false] at hK
  cases e<;>cases z<;>cases K<;>cases A<;>simp-implicitDefEqProofs only[bP,f79,V,↓reduceIte,rA,rB,rC,reduceCtorEq,rD,rE,rF,h0,hh,hd,hk,uN,qx,ap,aA hA,he,hz,hK]
  all_goals exact⟨_,⟨_,rfl⟩,rfl⟩
 subst hx
 exact⟨x,aB kr kr (mem1 (Tree.pr p)) rfl (Tree.val _) ha⟩
theorem iO(p:Pr)(hk:p.op<1∨18<p.op)(h:AH):RunCall E1 (.f 114) [p.av] h (.val (.int .i64 1)) h:=by
 refine aB kr kr (mem1 (Tree.pr p)) rfl (Tree.val _) (ad bC fun s hs hh hd=>?_) h
 have h0:=hs 0 _ rfl
 by_cases a:p.op<1
 ·have b:decide (p.op<1)=true:=decide_eq_true a
  simp-implicitDefEqProofs only[aL,f114,V,↓reduceIte,rA,rB,rC,reduceCtorEq,rD,rE,rF,h0,hh,hd,b]
 ·have b:decide (p.op<1)=false:=decide_eq_false a
  have c:decide (18<p.op)=true:=decide_eq_true om
  simp-implicitDefEqProofs only[aL,f114,V,↓reduceIte,rA,rB,rC,reduceCtorEq,rD,rE,rF,h0,hh,hd,b,c]
theorem wy(p:Pr)(hk:p.op<1∨18<p.op)(h:AH):RunCall E1 (.f 79) [p.av] h (.val (.int .i64 1)) h:=by
 refine aB kr kr (mem1 (Tree.pr p)) rfl (Tree.val _) (ad bd fun s hs hh hd=>?_) h
 have h0:=hs 0 _ rfl
 have n1:decide (p.op=1)=false:=decide_eq_false om
 have n2:decide (p.op=2)=false:=decide_eq_false om
 by_cases a:p.op<1
 ·have b:decide (p.op<1)=true:=decide_eq_true a
  simp-implicitDefEqProofs only[bP,f79,V,↓reduceIte,rA,rB,rC,reduceCtorEq,rD,rE,rF,h0,hh,hd,b,n1,n2]
 ·have b:decide (p.op<1)=false:=decide_eq_false a
  have c:decide (18<p.op)=true:=decide_eq_true om
  simp-implicitDefEqProofs only[bP,f79,V,↓reduceIte,rA,rB,rC,reduceCtorEq,rD,rE,rF,h0,hh,hd,b,c,n1,n2]
def isNamed(p:Pr):Prop:=p.op=3∨p.op=4∨p.op=5
def okNode(p:Pr):Prop:=1≤p.op∧p.op≤18∧((p.op=1∨p.op=2)→p.ks.length=0)∧((p.op=9∨p.op=14)→p.ks.length=1)∧((6≤p.op∧p.op≠9∧p.op≠14)→p.ks.length=2)
theorem bO{num e z l r m:Bool}(h:nodeS num e z l r m=0):l=true:=U11
theorem ww{o:Int}(h1:1≤o)(h2:o≤18):o=1∨o=2∨o=3∨o=4∨o=5∨o=6∨o=7∨o=8∨o=9∨o=10∨o=11∨o=12∨o=13∨o=14∨o=15∨o=16∨o=17∨o=18:=by omega
theorem kA(p:Pr):∃x y,(∀h,RunCall E1 (.f 114) [p.av] h (.val (.int .i64 x)) h)∧(∀h,RunCall E1 (.f 79) [p.av] h (.val (.int .i64 y)) h)∧(¬isNamed p→x=y∧(x=0→okNode p)):=by
 by_cases h:p.op<1∨18<p.op
 ·exact⟨1,1,iO p h,wy p h,fun _=>⟨rfl,fun e=>(by cases e)⟩⟩
 ·rcases ww (o:=p.op) om om with k|k|k|k|k|k|k|k|k|k|k|k|k|k|k|k|k|k
  ·refine⟨_,_,db p k,qo p k,fun _=>⟨rfl,fun e=>?_⟩⟩
   have hl:=of_decide_eq_true (bO e)
   exact⟨om,om,fun _=>by omega,fun q=>by omega,fun q=>by omega⟩
  ·refine⟨_,_,cN p k,qn p k,fun _=>⟨rfl,fun e=>?_⟩⟩
   have hl:=of_decide_eq_true (bO e)
   exact⟨om,om,fun _=>by omega,fun q=>by omega,fun q=>by omega⟩
  ·obtain⟨x,hx⟩:=nodeE56_3 p k
   obtain⟨y,hy⟩:=zH p k
   exact⟨x,y,hx,hy,fun q=>absurd (by unfold isNamed;omega) q⟩
  ·obtain⟨x,hx⟩:=nodeE56_4 p k
   obtain⟨y,hy⟩:=zG p k
   exact⟨x,y,hx,hy,fun q=>absurd (by unfold isNamed;omega) q⟩
  ·obtain⟨x,hx⟩:=nodeE56_5 p k
   obtain⟨y,hy⟩:=zF p k
   exact⟨x,y,hx,hy,fun q=>absurd (by unfold isNamed;omega) q⟩
  ·refine⟨_,_,da p k,qm p k,fun _=>⟨rfl,fun e=>?_⟩⟩
   have hl:=of_decide_eq_true (bO e)
   exact⟨om,om,fun q=>by omega,fun q=>by omega,fun q=>by omega⟩
  ·refine⟨_,_,dZ p k,ql p k,fun _=>⟨rfl,fun e=>?_⟩⟩
   have hl:=of_decide_eq_true (bO e)
   exact⟨om,om,fun q=>by omega,fun q=>by omega,fun q=>by omega⟩
  ·refine⟨_,_,cM p k,qk p k,fun _=>⟨rfl,fun e=>?_⟩⟩
   have hl:=of_decide_eq_true (bO e)
   exact⟨om,om,fun q=>by omega,fun q=>by omega,fun q=>by omega⟩
  ·refine⟨_,_,dY p k,qj p k,fun _=>⟨rfl,fun e=>?_⟩⟩
   have hl:=of_decide_eq_true (bO e)
   exact⟨om,om,fun q=>by omega,fun q=>by omega,fun q=>by omega⟩
  ·refine⟨_,_,dL p k,oN p k,fun _=>⟨rfl,fun e=>?_⟩⟩
   have hl:=of_decide_eq_true (bO e)
   exact⟨om,om,fun q=>by omega,fun q=>by omega,fun q=>by omega⟩
  ·refine⟨_,_,dK p k,oM p k,fun _=>⟨rfl,fun e=>?_⟩⟩
   have hl:=of_decide_eq_true (bO e)
   exact⟨om,om,fun q=>by omega,fun q=>by omega,fun q=>by omega⟩
  ·refine⟨_,_,dJ p k,oL p k,fun _=>⟨rfl,fun e=>?_⟩⟩
   have hl:=of_decide_eq_true (bO e)
   exact⟨om,om,fun q=>by omega,fun q=>by omega,fun q=>by omega⟩
  ·refine⟨_,_,dI p k,oK p k,fun _=>⟨rfl,fun e=>?_⟩⟩
   have hl:=of_decide_eq_true (bO e)
   exact⟨om,om,fun q=>by omega,fun q=>by omega,fun q=>by omega⟩
  ·refine⟨_,_,dH p k,oJ p k,fun _=>⟨rfl,fun e=>?_⟩⟩
   have hl:=of_decide_eq_true (bO e)
   exact⟨om,om,fun q=>by omega,fun q=>by omega,fun q=>by omega⟩
  ·refine⟨_,_,dG p k,oI p k,fun _=>⟨rfl,fun e=>?_⟩⟩
   have hl:=of_decide_eq_true (bO e)
   exact⟨om,om,fun q=>by omega,fun q=>by omega,fun q=>by omega⟩
  ·refine⟨_,_,dF p k,oH p k,fun _=>⟨rfl,fun e=>?_⟩⟩
   have hl:=of_decide_eq_true (bO e)
   exact⟨om,om,fun q=>by omega,fun q=>by omega,fun q=>by omega⟩
  ·refine⟨_,_,dE p k,oG p k,fun _=>⟨rfl,fun e=>?_⟩⟩
   have hl:=of_decide_eq_true (bO e)
   exact⟨om,om,fun q=>by omega,fun q=>by omega,fun q=>by omega⟩
  ·refine⟨_,_,dD p k,oF p k,fun _=>⟨rfl,fun e=>?_⟩⟩
   have hl:=of_decide_eq_true (bO e)
   exact⟨om,om,fun q=>by omega,fun q=>by omega,fun q=>by omega⟩
noncomputable def Na (p:Pr):Int:=(kA p).choose
theorem wE(p:Pr)(h:AH):RunCall E1 (.f 114) [p.av] h (.val (.int .i64 (Na p))) h:=(kA p).choose_spec.choose_spec.1 h
theorem Na_ok{p:Pr}(h:¬isNamed p)(k:Na p=0):okNode p:=((kA p).choose_spec.choose_spec.2.2 h).2 k
end Go.Proofs.YtkhblipgiijoiaaGreatDoor
