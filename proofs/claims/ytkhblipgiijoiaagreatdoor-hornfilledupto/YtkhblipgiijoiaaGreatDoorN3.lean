/- A part of the proof about filled horn systems: ZNode ZForm. -/
import Derived.Test.YtkhblipgiijoiaaGreatDoorU0
import Derived.Test.YtkhblipgiijoiaaGreatDoorN2

set_option linter.all false
open Nat renaming reduceEqDiff → rA, reduceAdd → rB, reduceMul → rC
open Int renaming reduceEq → rD, reduceLT → rE, reduceLE → rF
namespace Go.Proofs.YtkhblipgiijoiaaGreatDoor
open Go Go.AM
set_option maxHeartbeats 40000000
def nodeS(num e z l r m:Bool):Int:=bif !e||(!num&& !z)|| !l then 1 else bif !r then 2 else bif !m then 6 else 0
theorem tri(c n:Int):(decide (n<c)=true∧decide (c<n)=false∧decide (n=c)=false)∨(decide (n<c)=false∧decide (c<n)=false∧decide (n=c)=true)∨(decide (n<c)=false∧decide (c<n)=true∧decide (n=c)=false):=by
 rcases Int.lt_trichotomy n c with h|h|h
 ·exact .inl ⟨decide_eq_true h,decide_eq_false om,decide_eq_false om⟩
 ·exact .inr (.inl ⟨decide_eq_false om,decide_eq_false om,decide_eq_true h⟩)
 ·exact .inr (.inr ⟨decide_eq_false om,decide_eq_true h,decide_eq_false om⟩)
theorem bits(n:Int):(decide (n=0)=true∧decide (n=1)=false∧decide (n<0)=false∧decide (1<n)=false)∨(decide (n=0)=false∧decide (n=1)=true∧decide (n<0)=false∧decide (1<n)=false)∨
  (decide (n=0)=false∧decide (n=1)=false∧decide (n<0)=true∧decide (1<n)=false)∨(decide (n=0)=false∧decide (n=1)=false∧decide (n<0)=false∧decide (1<n)=true):=by
 by_cases a:n=0
 ·exact .inl ⟨decide_eq_true a,decide_eq_false om,decide_eq_false om,decide_eq_false om⟩
 ·by_cases b:n=1
  ·exact .inr (.inl ⟨decide_eq_false om,decide_eq_true b,decide_eq_false om,decide_eq_false om⟩)
  ·by_cases c:n<0
   ·exact .inr (.inr (.inl ⟨decide_eq_false om,decide_eq_false om,decide_eq_true c,decide_eq_false om⟩))
   ·exact .inr (.inr (.inr ⟨decide_eq_false om,decide_eq_false om,decide_eq_false om,decide_eq_true om⟩))
theorem take_k0(k:Pr)(l:List AV):takeN none ((k.cells++l).drop 0)=some (.val (.int .i64 k.op)):=by rw[k.cells_eq];rfl
def Pr.kid0(p:Pr):Int:=match p.ks with
 |k::_=>k.op
 | []=>0
theorem ku(p:Pr)(hk:p.op=1)(h:AH):RunCall E1 (.f 122) [p.av] h (.val (.bool true)) h:=U10
theorem kq(p:Pr)(hk:p.op=2)(h:AH):RunCall E1 (.f 122) [p.av] h (.val (.bool true)) h:=U10
theorem kp(p:Pr)(hk:p.op=6)(h:AH):RunCall E1 (.f 122) [p.av] h (.val (.bool true)) h:=U10
theorem ko(p:Pr)(hk:p.op=7)(h:AH):RunCall E1 (.f 122) [p.av] h (.val (.bool true)) h:=U10
theorem cY(p:Pr)(hk:p.op=8)(h:AH):RunCall E1 (.f 122) [p.av] h (.val (.bool true)) h:=U10
theorem kn(p:Pr)(hk:p.op=9)(h:AH):RunCall E1 (.f 122) [p.av] h (.val (.bool true)) h:=U10
theorem jp(p:Pr)(hk:p.op=10)(h:AH):RunCall E1 (.f 122) [p.av] h (.val (.bool true)) h:=U10
theorem jo(p:Pr)(hk:p.op=11)(h:AH):RunCall E1 (.f 122) [p.av] h (.val (.bool true)) h:=U10
theorem jn(p:Pr)(hk:p.op=12)(h:AH):RunCall E1 (.f 122) [p.av] h (.val (.bool true)) h:=U10
theorem jm(p:Pr)(hk:p.op=13)(h:AH):RunCall E1 (.f 122) [p.av] h (.val (.bool true)) h:=U10
theorem jl(p:Pr)(hk:p.op=14)(h:AH):RunCall E1 (.f 122) [p.av] h (.val (.bool true)) h:=U10
theorem jk(p:Pr)(hk:p.op=15)(h:AH):RunCall E1 (.f 122) [p.av] h (.val (.bool true)) h:=U10
theorem jj(p:Pr)(hk:p.op=16)(h:AH):RunCall E1 (.f 122) [p.av] h (.val (.bool true)) h:=U10
theorem ji(p:Pr)(hk:p.op=17)(h:AH):RunCall E1 (.f 122) [p.av] h (.val (.bool true)) h:=U10
theorem jh(p:Pr)(hk:p.op=18)(h:AH):RunCall E1 (.f 122) [p.av] h (.val (.bool true)) h:=U10
theorem db(p:Pr)(hk:p.op=1)(h:AH):RunCall E1 (.f 114) [p.av] h (.val (.int .i64 (nodeS true (strEq p.nm ⟨#[]⟩) (decide (p.n=0)) (decide (((p.ks.length:Nat):Int)=0)) (inB p.n) (true)))) h:=by
 refine aB kr kr (mem1 (Tree.pr p)) rfl (Tree.val _) (ad bC fun s hs hh hd=>?_) h
 have h0:=hs 0 _ rfl
 rcases tri 0 ((p.ks.length:Nat):Int) with⟨L1,L2,L3⟩|⟨L1,L2,L3⟩|⟨L1,L2,L3⟩
 all_goals cases e:strEq p.nm ⟨#[]⟩<;>cases z:decide (p.n=0)<;>cases i:inB p.n<;>simp-implicitDefEqProofs only[aL,f114,V,↓reduceIte,rA,rB,rC,reduceCtorEq,rD,rE,rF,h0,hh,hd,hk,uJ,qt,aI,nodeS,e,z,i,L1,L2,L3]
theorem cN(p:Pr)(hk:p.op=2)(h:AH):RunCall E1 (.f 114) [p.av] h (.val (.int .i64 (nodeS true (strEq p.nm ⟨#[]⟩) (decide (p.n=0)) (decide (((p.ks.length:Nat):Int)=0)) ((decide (p.n=0)||decide (p.n=1))) (true)))) h:=by
 refine aB kr kr (mem1 (Tree.pr p)) rfl (Tree.val _) (ad bC fun s hs hh hd=>?_) h
 have h0:=hs 0 _ rfl
 rcases bits p.n with⟨z,o,b1,b2⟩|⟨z,o,b1,b2⟩|⟨z,o,b1,b2⟩|⟨z,o,b1,b2⟩
 all_goals rcases tri 0 ((p.ks.length:Nat):Int) with⟨L1,L2,L3⟩|⟨L1,L2,L3⟩|⟨L1,L2,L3⟩
 all_goals cases e:strEq p.nm ⟨#[]⟩<;>simp-implicitDefEqProofs only[aL,f114,V,↓reduceIte,rA,rB,rC,reduceCtorEq,rD,rE,rF,h0,hh,hd,hk,uI,qs,aI,nodeS,e,z,o,b1,b2,L1,L2,L3]
theorem da(p:Pr)(hk:p.op=6)(h:AH):RunCall E1 (.f 114) [p.av] h (.val (.int .i64 (nodeS false (strEq p.nm ⟨#[]⟩) (decide (p.n=0)) (decide (((p.ks.length:Nat):Int)=2)) (true) (true)))) h:=by
 refine aB kr kr (mem1 (Tree.pr p)) rfl (Tree.val _) (ad bC fun s hs hh hd=>?_) h
 have h0:=hs 0 _ rfl
 rcases tri 2 ((p.ks.length:Nat):Int) with⟨L1,L2,L3⟩|⟨L1,L2,L3⟩|⟨L1,L2,L3⟩
 all_goals cases e:strEq p.nm ⟨#[]⟩<;>cases z:decide (p.n=0)<;>simp-implicitDefEqProofs only[aL,f114,V,↓reduceIte,rA,rB,rC,reduceCtorEq,rD,rE,rF,h0,hh,hd,hk,uH,qr,aI,nodeS,e,z,L1,L2,L3]
theorem dZ(p:Pr)(hk:p.op=7)(h:AH):RunCall E1 (.f 114) [p.av] h (.val (.int .i64 (nodeS false (strEq p.nm ⟨#[]⟩) (decide (p.n=0)) (decide (((p.ks.length:Nat):Int)=2)) (true) (true)))) h:=by
 refine aB kr kr (mem1 (Tree.pr p)) rfl (Tree.val _) (ad bC fun s hs hh hd=>?_) h
 have h0:=hs 0 _ rfl
 rcases tri 2 ((p.ks.length:Nat):Int) with⟨L1,L2,L3⟩|⟨L1,L2,L3⟩|⟨L1,L2,L3⟩
 all_goals cases e:strEq p.nm ⟨#[]⟩<;>cases z:decide (p.n=0)<;>simp-implicitDefEqProofs only[aL,f114,V,↓reduceIte,rA,rB,rC,reduceCtorEq,rD,rE,rF,h0,hh,hd,hk,uG,qq,aI,nodeS,e,z,L1,L2,L3]
theorem cM(p:Pr)(hk:p.op=8)(h:AH):RunCall E1 (.f 114) [p.av] h (.val (.int .i64 (nodeS false (strEq p.nm ⟨#[]⟩) (decide (p.n=0)) (decide (((p.ks.length:Nat):Int)=2)) (true) (decide (p.kid0=1))))) h:=by
 refine aB kr kr (mem1 (Tree.pr p)) rfl (Tree.val _) (ad bC fun s hs hh hd=>?_) h
 have h0:=hs 0 _ rfl
 have ek:∀k0 r,p.ks=k0::r→p.kid0=k0.op∧idxAddrSV 4 p.kids 0=some (.iptr (k0.cells++Pr.cellsL r)):=fun k0 r e=>⟨by simp only[Pr.kid0,e],ew (i:=0) (by rw[List.drop_zero,e])⟩
 rcases tri 2 ((p.ks.length:Nat):Int) with⟨L1,L2,L3⟩|⟨L1,L2,L3⟩|⟨L1,L2,L3⟩
 ·cases e:strEq p.nm ⟨#[]⟩<;>cases z:decide (p.n=0)<;>simp-implicitDefEqProofs only[aL,f114,V,↓reduceIte,rA,rB,rC,reduceCtorEq,rD,rE,rF,h0,hh,hd,hk,et,eI,aI,nodeS,e,z,L1,L2,L3]
 ·obtain⟨k0,r,e0⟩:∃k0 r,p.ks=k0::r:=by
   cases hks:p.ks with
   |nil=>rw[hks] at L3;cases L3
   |cons a b=>exact⟨a,b,rfl⟩
  obtain⟨e1,e2⟩:=ek k0 r e0
  cases e:strEq p.nm ⟨#[]⟩<;>cases z:decide (p.n=0)<;>cases q:decide (k0.op=1)<;>simp-implicitDefEqProofs only[aL,f114,V,↓reduceIte,rA,rB,rC,reduceCtorEq,rD,rE,rF,h0,hh,hd,hk,et,eI,aI,nodeS,e,z,L1,L2,L3,q,e1,e2,fa_iptr k0 0 (Pr.cellsL r) rfl,take_k0]
 ·cases e:strEq p.nm ⟨#[]⟩<;>cases z:decide (p.n=0)<;>simp-implicitDefEqProofs only[aL,f114,V,↓reduceIte,rA,rB,rC,reduceCtorEq,rD,rE,rF,h0,hh,hd,hk,et,eI,aI,nodeS,e,z,L1,L2,L3]
theorem dY(p:Pr)(hk:p.op=9)(h:AH):RunCall E1 (.f 114) [p.av] h (.val (.int .i64 (nodeS false (strEq p.nm ⟨#[]⟩) (decide (p.n=0)) (decide (((p.ks.length:Nat):Int)=1)) (true) (true)))) h:=by
 refine aB kr kr (mem1 (Tree.pr p)) rfl (Tree.val _) (ad bC fun s hs hh hd=>?_) h
 have h0:=hs 0 _ rfl
 rcases tri 1 ((p.ks.length:Nat):Int) with⟨L1,L2,L3⟩|⟨L1,L2,L3⟩|⟨L1,L2,L3⟩
 all_goals cases e:strEq p.nm ⟨#[]⟩<;>cases z:decide (p.n=0)<;>simp-implicitDefEqProofs only[aL,f114,V,↓reduceIte,rA,rB,rC,reduceCtorEq,rD,rE,rF,h0,hh,hd,hk,uF,qp,aI,nodeS,e,z,L1,L2,L3]
theorem dL(p:Pr)(hk:p.op=10)(h:AH):RunCall E1 (.f 114) [p.av] h (.val (.int .i64 (nodeS false (strEq p.nm ⟨#[]⟩) (decide (p.n=0)) (decide (((p.ks.length:Nat):Int)=2)) (true) (true)))) h:=by
 refine aB kr kr (mem1 (Tree.pr p)) rfl (Tree.val _) (ad bC fun s hs hh hd=>?_) h
 have h0:=hs 0 _ rfl
 rcases tri 2 ((p.ks.length:Nat):Int) with⟨L1,L2,L3⟩|⟨L1,L2,L3⟩|⟨L1,L2,L3⟩
 all_goals cases e:strEq p.nm ⟨#[]⟩<;>cases z:decide (p.n=0)<;>simp-implicitDefEqProofs only[aL,f114,V,↓reduceIte,rA,rB,rC,reduceCtorEq,rD,rE,rF,h0,hh,hd,hk,rR,oW,aI,nodeS,e,z,L1,L2,L3]
theorem dK(p:Pr)(hk:p.op=11)(h:AH):RunCall E1 (.f 114) [p.av] h (.val (.int .i64 (nodeS false (strEq p.nm ⟨#[]⟩) (decide (p.n=0)) (decide (((p.ks.length:Nat):Int)=2)) (true) (true)))) h:=by
 refine aB kr kr (mem1 (Tree.pr p)) rfl (Tree.val _) (ad bC fun s hs hh hd=>?_) h
 have h0:=hs 0 _ rfl
 rcases tri 2 ((p.ks.length:Nat):Int) with⟨L1,L2,L3⟩|⟨L1,L2,L3⟩|⟨L1,L2,L3⟩
 all_goals cases e:strEq p.nm ⟨#[]⟩<;>cases z:decide (p.n=0)<;>simp-implicitDefEqProofs only[aL,f114,V,↓reduceIte,rA,rB,rC,reduceCtorEq,rD,rE,rF,h0,hh,hd,hk,rQ,oV,aI,nodeS,e,z,L1,L2,L3]
theorem dJ(p:Pr)(hk:p.op=12)(h:AH):RunCall E1 (.f 114) [p.av] h (.val (.int .i64 (nodeS false (strEq p.nm ⟨#[]⟩) (decide (p.n=0)) (decide (((p.ks.length:Nat):Int)=2)) (true) (true)))) h:=by
 refine aB kr kr (mem1 (Tree.pr p)) rfl (Tree.val _) (ad bC fun s hs hh hd=>?_) h
 have h0:=hs 0 _ rfl
 rcases tri 2 ((p.ks.length:Nat):Int) with⟨L1,L2,L3⟩|⟨L1,L2,L3⟩|⟨L1,L2,L3⟩
 all_goals cases e:strEq p.nm ⟨#[]⟩<;>cases z:decide (p.n=0)<;>simp-implicitDefEqProofs only[aL,f114,V,↓reduceIte,rA,rB,rC,reduceCtorEq,rD,rE,rF,h0,hh,hd,hk,rP,oU,aI,nodeS,e,z,L1,L2,L3]
theorem dI(p:Pr)(hk:p.op=13)(h:AH):RunCall E1 (.f 114) [p.av] h (.val (.int .i64 (nodeS false (strEq p.nm ⟨#[]⟩) (decide (p.n=0)) (decide (((p.ks.length:Nat):Int)=2)) (true) (true)))) h:=by
 refine aB kr kr (mem1 (Tree.pr p)) rfl (Tree.val _) (ad bC fun s hs hh hd=>?_) h
 have h0:=hs 0 _ rfl
 rcases tri 2 ((p.ks.length:Nat):Int) with⟨L1,L2,L3⟩|⟨L1,L2,L3⟩|⟨L1,L2,L3⟩
 all_goals cases e:strEq p.nm ⟨#[]⟩<;>cases z:decide (p.n=0)<;>simp-implicitDefEqProofs only[aL,f114,V,↓reduceIte,rA,rB,rC,reduceCtorEq,rD,rE,rF,h0,hh,hd,hk,rO,oT,aI,nodeS,e,z,L1,L2,L3]
theorem dH(p:Pr)(hk:p.op=14)(h:AH):RunCall E1 (.f 114) [p.av] h (.val (.int .i64 (nodeS false (strEq p.nm ⟨#[]⟩) (decide (p.n=0)) (decide (((p.ks.length:Nat):Int)=1)) (true) (true)))) h:=by
 refine aB kr kr (mem1 (Tree.pr p)) rfl (Tree.val _) (ad bC fun s hs hh hd=>?_) h
 have h0:=hs 0 _ rfl
 rcases tri 1 ((p.ks.length:Nat):Int) with⟨L1,L2,L3⟩|⟨L1,L2,L3⟩|⟨L1,L2,L3⟩
 all_goals cases e:strEq p.nm ⟨#[]⟩<;>cases z:decide (p.n=0)<;>simp-implicitDefEqProofs only[aL,f114,V,↓reduceIte,rA,rB,rC,reduceCtorEq,rD,rE,rF,h0,hh,hd,hk,rN,oS,aI,nodeS,e,z,L1,L2,L3]
theorem dG(p:Pr)(hk:p.op=15)(h:AH):RunCall E1 (.f 114) [p.av] h (.val (.int .i64 (nodeS false (strEq p.nm ⟨#[]⟩) (decide (p.n=0)) (decide (((p.ks.length:Nat):Int)=2)) (true) (true)))) h:=by
 refine aB kr kr (mem1 (Tree.pr p)) rfl (Tree.val _) (ad bC fun s hs hh hd=>?_) h
 have h0:=hs 0 _ rfl
 rcases tri 2 ((p.ks.length:Nat):Int) with⟨L1,L2,L3⟩|⟨L1,L2,L3⟩|⟨L1,L2,L3⟩
 all_goals cases e:strEq p.nm ⟨#[]⟩<;>cases z:decide (p.n=0)<;>simp-implicitDefEqProofs only[aL,f114,V,↓reduceIte,rA,rB,rC,reduceCtorEq,rD,rE,rF,h0,hh,hd,hk,rM,oR,aI,nodeS,e,z,L1,L2,L3]
theorem dF(p:Pr)(hk:p.op=16)(h:AH):RunCall E1 (.f 114) [p.av] h (.val (.int .i64 (nodeS false (strEq p.nm ⟨#[]⟩) (decide (p.n=0)) (decide (((p.ks.length:Nat):Int)=2)) (true) (true)))) h:=by
 refine aB kr kr (mem1 (Tree.pr p)) rfl (Tree.val _) (ad bC fun s hs hh hd=>?_) h
 have h0:=hs 0 _ rfl
 rcases tri 2 ((p.ks.length:Nat):Int) with⟨L1,L2,L3⟩|⟨L1,L2,L3⟩|⟨L1,L2,L3⟩
 all_goals cases e:strEq p.nm ⟨#[]⟩<;>cases z:decide (p.n=0)<;>simp-implicitDefEqProofs only[aL,f114,V,↓reduceIte,rA,rB,rC,reduceCtorEq,rD,rE,rF,h0,hh,hd,hk,rL,oQ,aI,nodeS,e,z,L1,L2,L3]
theorem dE(p:Pr)(hk:p.op=17)(h:AH):RunCall E1 (.f 114) [p.av] h (.val (.int .i64 (nodeS false (strEq p.nm ⟨#[]⟩) (decide (p.n=0)) (decide (((p.ks.length:Nat):Int)=2)) (true) (true)))) h:=by
 refine aB kr kr (mem1 (Tree.pr p)) rfl (Tree.val _) (ad bC fun s hs hh hd=>?_) h
 have h0:=hs 0 _ rfl
 rcases tri 2 ((p.ks.length:Nat):Int) with⟨L1,L2,L3⟩|⟨L1,L2,L3⟩|⟨L1,L2,L3⟩
 all_goals cases e:strEq p.nm ⟨#[]⟩<;>cases z:decide (p.n=0)<;>simp-implicitDefEqProofs only[aL,f114,V,↓reduceIte,rA,rB,rC,reduceCtorEq,rD,rE,rF,h0,hh,hd,hk,rK,oP,aI,nodeS,e,z,L1,L2,L3]
theorem dD(p:Pr)(hk:p.op=18)(h:AH):RunCall E1 (.f 114) [p.av] h (.val (.int .i64 (nodeS false (strEq p.nm ⟨#[]⟩) (decide (p.n=0)) (decide (((p.ks.length:Nat):Int)=2)) (true) (true)))) h:=by
 refine aB kr kr (mem1 (Tree.pr p)) rfl (Tree.val _) (ad bC fun s hs hh hd=>?_) h
 have h0:=hs 0 _ rfl
 rcases tri 2 ((p.ks.length:Nat):Int) with⟨L1,L2,L3⟩|⟨L1,L2,L3⟩|⟨L1,L2,L3⟩
 all_goals cases e:strEq p.nm ⟨#[]⟩<;>cases z:decide (p.n=0)<;>simp-implicitDefEqProofs only[aL,f114,V,↓reduceIte,rA,rB,rC,reduceCtorEq,rD,rE,rF,h0,hh,hd,hk,rJ,oO,aI,nodeS,e,z,L1,L2,L3]
theorem qo(p:Pr)(hk:p.op=1)(h:AH):RunCall E1 (.f 79) [p.av] h (.val (.int .i64 (nodeS true (strEq p.nm ⟨#[]⟩) (decide (p.n=0)) (decide (((p.ks.length:Nat):Int)=0)) (inB p.n) (true)))) h:=by
 refine aB kr kr (mem1 (Tree.pr p)) rfl (Tree.val _) (ad bd fun s hs hh hd=>?_) h
 have h0:=hs 0 _ rfl
 rcases tri 0 ((p.ks.length:Nat):Int) with⟨L1,L2,L3⟩|⟨L1,L2,L3⟩|⟨L1,L2,L3⟩
 all_goals cases e:strEq p.nm ⟨#[]⟩<;>cases z:decide (p.n=0)<;>cases i:inB p.n<;>simp-implicitDefEqProofs only[bP,f79,V,↓reduceIte,rA,rB,rC,reduceCtorEq,rD,rE,rF,h0,hh,hd,hk,uR,rH,ap,aA (ku p hk),nodeS,e,z,i,L1,L2,L3]
theorem qn(p:Pr)(hk:p.op=2)(h:AH):RunCall E1 (.f 79) [p.av] h (.val (.int .i64 (nodeS true (strEq p.nm ⟨#[]⟩) (decide (p.n=0)) (decide (((p.ks.length:Nat):Int)=0)) ((decide (p.n=0)||decide (p.n=1))) (true)))) h:=by
 refine aB kr kr (mem1 (Tree.pr p)) rfl (Tree.val _) (ad bd fun s hs hh hd=>?_) h
 have h0:=hs 0 _ rfl
 rcases bits p.n with⟨z,o,b1,b2⟩|⟨z,o,b1,b2⟩|⟨z,o,b1,b2⟩|⟨z,o,b1,b2⟩
 all_goals rcases tri 0 ((p.ks.length:Nat):Int) with⟨L1,L2,L3⟩|⟨L1,L2,L3⟩|⟨L1,L2,L3⟩
 all_goals cases e:strEq p.nm ⟨#[]⟩<;>simp-implicitDefEqProofs only[bP,f79,V,↓reduceIte,rA,rB,rC,reduceCtorEq,rD,rE,rF,h0,hh,hd,hk,uQ,rG,ap,aA (kq p hk),nodeS,e,z,o,b1,b2,L1,L2,L3]
theorem qm(p:Pr)(hk:p.op=6)(h:AH):RunCall E1 (.f 79) [p.av] h (.val (.int .i64 (nodeS false (strEq p.nm ⟨#[]⟩) (decide (p.n=0)) (decide (((p.ks.length:Nat):Int)=2)) (true) (true)))) h:=by
 refine aB kr kr (mem1 (Tree.pr p)) rfl (Tree.val _) (ad bd fun s hs hh hd=>?_) h
 have h0:=hs 0 _ rfl
 rcases tri 2 ((p.ks.length:Nat):Int) with⟨L1,L2,L3⟩|⟨L1,L2,L3⟩|⟨L1,L2,L3⟩
 all_goals cases e:strEq p.nm ⟨#[]⟩<;>cases z:decide (p.n=0)<;>simp-implicitDefEqProofs only[bP,f79,V,↓reduceIte,rA,rB,rC,reduceCtorEq,rD,rE,rF,h0,hh,hd,hk,uM,qw,ap,aA (kp p hk),nodeS,e,z,L1,L2,L3]
theorem ql(p:Pr)(hk:p.op=7)(h:AH):RunCall E1 (.f 79) [p.av] h (.val (.int .i64 (nodeS false (strEq p.nm ⟨#[]⟩) (decide (p.n=0)) (decide (((p.ks.length:Nat):Int)=2)) (true) (true)))) h:=by
 refine aB kr kr (mem1 (Tree.pr p)) rfl (Tree.val _) (ad bd fun s hs hh hd=>?_) h
 have h0:=hs 0 _ rfl
 rcases tri 2 ((p.ks.length:Nat):Int) with⟨L1,L2,L3⟩|⟨L1,L2,L3⟩|⟨L1,L2,L3⟩
 all_goals cases e:strEq p.nm ⟨#[]⟩<;>cases z:decide (p.n=0)<;>simp-implicitDefEqProofs only[bP,f79,V,↓reduceIte,rA,rB,rC,reduceCtorEq,rD,rE,rF,h0,hh,hd,hk,uL,qv,ap,aA (ko p hk),nodeS,e,z,L1,L2,L3]
theorem qk(p:Pr)(hk:p.op=8)(h:AH):RunCall E1 (.f 79) [p.av] h (.val (.int .i64 (nodeS false (strEq p.nm ⟨#[]⟩) (decide (p.n=0)) (decide (((p.ks.length:Nat):Int)=2)) (true) (decide (p.kid0=1))))) h:=by
 refine aB kr kr (mem1 (Tree.pr p)) rfl (Tree.val _) (ad bd fun s hs hh hd=>?_) h
 have h0:=hs 0 _ rfl
 have ek:∀k0 r,p.ks=k0::r→p.kid0=k0.op∧idxAddrSV 4 p.kids 0=some (.iptr (k0.cells++Pr.cellsL r)):=fun k0 r e=>⟨by simp only[Pr.kid0,e],ew (i:=0) (by rw[List.drop_zero,e])⟩
 rcases tri 2 ((p.ks.length:Nat):Int) with⟨L1,L2,L3⟩|⟨L1,L2,L3⟩|⟨L1,L2,L3⟩
 ·cases e:strEq p.nm ⟨#[]⟩<;>cases z:decide (p.n=0)<;>simp-implicitDefEqProofs only[bP,f79,V,↓reduceIte,rA,rB,rC,reduceCtorEq,rD,rE,rF,h0,hh,hd,hk,eu,eJ,ap,aA (cY p hk),nodeS,e,z,L1,L2,L3]
 ·obtain⟨k0,r,e0⟩:∃k0 r,p.ks=k0::r:=by
   cases hks:p.ks with
   |nil=>rw[hks] at L3;cases L3
   |cons a b=>exact⟨a,b,rfl⟩
  obtain⟨e1,e2⟩:=ek k0 r e0
  cases e:strEq p.nm ⟨#[]⟩<;>cases z:decide (p.n=0)<;>cases q:decide (k0.op=1)<;>simp-implicitDefEqProofs only[bP,f79,V,↓reduceIte,rA,rB,rC,reduceCtorEq,rD,rE,rF,h0,hh,hd,hk,eu,eJ,ap,aA (cY p hk),nodeS,e,z,L1,L2,L3,q,e1,e2,fa_iptr k0 0 (Pr.cellsL r) rfl,take_k0]
 ·cases e:strEq p.nm ⟨#[]⟩<;>cases z:decide (p.n=0)<;>simp-implicitDefEqProofs only[bP,f79,V,↓reduceIte,rA,rB,rC,reduceCtorEq,rD,rE,rF,h0,hh,hd,hk,eu,eJ,ap,aA (cY p hk),nodeS,e,z,L1,L2,L3]
theorem qj(p:Pr)(hk:p.op=9)(h:AH):RunCall E1 (.f 79) [p.av] h (.val (.int .i64 (nodeS false (strEq p.nm ⟨#[]⟩) (decide (p.n=0)) (decide (((p.ks.length:Nat):Int)=1)) (true) (true)))) h:=by
 refine aB kr kr (mem1 (Tree.pr p)) rfl (Tree.val _) (ad bd fun s hs hh hd=>?_) h
 have h0:=hs 0 _ rfl
 rcases tri 1 ((p.ks.length:Nat):Int) with⟨L1,L2,L3⟩|⟨L1,L2,L3⟩|⟨L1,L2,L3⟩
 all_goals cases e:strEq p.nm ⟨#[]⟩<;>cases z:decide (p.n=0)<;>simp-implicitDefEqProofs only[bP,f79,V,↓reduceIte,rA,rB,rC,reduceCtorEq,rD,rE,rF,h0,hh,hd,hk,uK,qu,ap,aA (kn p hk),nodeS,e,z,L1,L2,L3]
theorem oN(p:Pr)(hk:p.op=10)(h:AH):RunCall E1 (.f 79) [p.av] h (.val (.int .i64 (nodeS false (strEq p.nm ⟨#[]⟩) (decide (p.n=0)) (decide (((p.ks.length:Nat):Int)=2)) (true) (true)))) h:=by
 refine aB kr kr (mem1 (Tree.pr p)) rfl (Tree.val _) (ad bd fun s hs hh hd=>?_) h
 have h0:=hs 0 _ rfl
 rcases tri 2 ((p.ks.length:Nat):Int) with⟨L1,L2,L3⟩|⟨L1,L2,L3⟩|⟨L1,L2,L3⟩
 all_goals cases e:strEq p.nm ⟨#[]⟩<;>cases z:decide (p.n=0)<;>simp-implicitDefEqProofs only[bP,f79,V,↓reduceIte,rA,rB,rC,reduceCtorEq,rD,rE,rF,h0,hh,hd,hk,ra,og,ap,aA (jp p hk),nodeS,e,z,L1,L2,L3]
theorem oM(p:Pr)(hk:p.op=11)(h:AH):RunCall E1 (.f 79) [p.av] h (.val (.int .i64 (nodeS false (strEq p.nm ⟨#[]⟩) (decide (p.n=0)) (decide (((p.ks.length:Nat):Int)=2)) (true) (true)))) h:=by
 refine aB kr kr (mem1 (Tree.pr p)) rfl (Tree.val _) (ad bd fun s hs hh hd=>?_) h
 have h0:=hs 0 _ rfl
 rcases tri 2 ((p.ks.length:Nat):Int) with⟨L1,L2,L3⟩|⟨L1,L2,L3⟩|⟨L1,L2,L3⟩
 all_goals cases e:strEq p.nm ⟨#[]⟩<;>cases z:decide (p.n=0)<;>simp-implicitDefEqProofs only[bP,f79,V,↓reduceIte,rA,rB,rC,reduceCtorEq,rD,rE,rF,h0,hh,hd,hk,rZ,oe,ap,aA (jo p hk),nodeS,e,z,L1,L2,L3]
theorem oL(p:Pr)(hk:p.op=12)(h:AH):RunCall E1 (.f 79) [p.av] h (.val (.int .i64 (nodeS false (strEq p.nm ⟨#[]⟩) (decide (p.n=0)) (decide (((p.ks.length:Nat):Int)=2)) (true) (true)))) h:=by
 refine aB kr kr (mem1 (Tree.pr p)) rfl (Tree.val _) (ad bd fun s hs hh hd=>?_) h
 have h0:=hs 0 _ rfl
 rcases tri 2 ((p.ks.length:Nat):Int) with⟨L1,L2,L3⟩|⟨L1,L2,L3⟩|⟨L1,L2,L3⟩
 all_goals cases e:strEq p.nm ⟨#[]⟩<;>cases z:decide (p.n=0)<;>simp-implicitDefEqProofs only[bP,f79,V,↓reduceIte,rA,rB,rC,reduceCtorEq,rD,rE,rF,h0,hh,hd,hk,rY,od,ap,aA (jn p hk),nodeS,e,z,L1,L2,L3]
theorem oK(p:Pr)(hk:p.op=13)(h:AH):RunCall E1 (.f 79) [p.av] h (.val (.int .i64 (nodeS false (strEq p.nm ⟨#[]⟩) (decide (p.n=0)) (decide (((p.ks.length:Nat):Int)=2)) (true) (true)))) h:=by
 refine aB kr kr (mem1 (Tree.pr p)) rfl (Tree.val _) (ad bd fun s hs hh hd=>?_) h
 have h0:=hs 0 _ rfl
 rcases tri 2 ((p.ks.length:Nat):Int) with⟨L1,L2,L3⟩|⟨L1,L2,L3⟩|⟨L1,L2,L3⟩
 all_goals cases e:strEq p.nm ⟨#[]⟩<;>cases z:decide (p.n=0)<;>simp-implicitDefEqProofs only[bP,f79,V,↓reduceIte,rA,rB,rC,reduceCtorEq,rD,rE,rF,h0,hh,hd,hk,rX,oc,ap,aA (jm p hk),nodeS,e,z,L1,L2,L3]
theorem oJ(p:Pr)(hk:p.op=14)(h:AH):RunCall E1 (.f 79) [p.av] h (.val (.int .i64 (nodeS false (strEq p.nm ⟨#[]⟩) (decide (p.n=0)) (decide (((p.ks.length:Nat):Int)=1)) (true) (true)))) h:=by
 refine aB kr kr (mem1 (Tree.pr p)) rfl (Tree.val _) (ad bd fun s hs hh hd=>?_) h
 have h0:=hs 0 _ rfl
 rcases tri 1 ((p.ks.length:Nat):Int) with⟨L1,L2,L3⟩|⟨L1,L2,L3⟩|⟨L1,L2,L3⟩
 all_goals cases e:strEq p.nm ⟨#[]⟩<;>cases z:decide (p.n=0)<;>simp-implicitDefEqProofs only[bP,f79,V,↓reduceIte,rA,rB,rC,reduceCtorEq,rD,rE,rF,h0,hh,hd,hk,rW,ob,ap,aA (jl p hk),nodeS,e,z,L1,L2,L3]
theorem oI(p:Pr)(hk:p.op=15)(h:AH):RunCall E1 (.f 79) [p.av] h (.val (.int .i64 (nodeS false (strEq p.nm ⟨#[]⟩) (decide (p.n=0)) (decide (((p.ks.length:Nat):Int)=2)) (true) (true)))) h:=by
 refine aB kr kr (mem1 (Tree.pr p)) rfl (Tree.val _) (ad bd fun s hs hh hd=>?_) h
 have h0:=hs 0 _ rfl
 rcases tri 2 ((p.ks.length:Nat):Int) with⟨L1,L2,L3⟩|⟨L1,L2,L3⟩|⟨L1,L2,L3⟩
 all_goals cases e:strEq p.nm ⟨#[]⟩<;>cases z:decide (p.n=0)<;>simp-implicitDefEqProofs only[bP,f79,V,↓reduceIte,rA,rB,rC,reduceCtorEq,rD,rE,rF,h0,hh,hd,hk,rV,oa,ap,aA (jk p hk),nodeS,e,z,L1,L2,L3]
theorem oH(p:Pr)(hk:p.op=16)(h:AH):RunCall E1 (.f 79) [p.av] h (.val (.int .i64 (nodeS false (strEq p.nm ⟨#[]⟩) (decide (p.n=0)) (decide (((p.ks.length:Nat):Int)=2)) (true) (true)))) h:=by
 refine aB kr kr (mem1 (Tree.pr p)) rfl (Tree.val _) (ad bd fun s hs hh hd=>?_) h
 have h0:=hs 0 _ rfl
 rcases tri 2 ((p.ks.length:Nat):Int) with⟨L1,L2,L3⟩|⟨L1,L2,L3⟩|⟨L1,L2,L3⟩
 all_goals cases e:strEq p.nm ⟨#[]⟩<;>cases z:decide (p.n=0)<;>simp-implicitDefEqProofs only[bP,f79,V,↓reduceIte,rA,rB,rC,reduceCtorEq,rD,rE,rF,h0,hh,hd,hk,rU,oZ,ap,aA (jj p hk),nodeS,e,z,L1,L2,L3]
theorem oG(p:Pr)(hk:p.op=17)(h:AH):RunCall E1 (.f 79) [p.av] h (.val (.int .i64 (nodeS false (strEq p.nm ⟨#[]⟩) (decide (p.n=0)) (decide (((p.ks.length:Nat):Int)=2)) (true) (true)))) h:=by
 refine aB kr kr (mem1 (Tree.pr p)) rfl (Tree.val _) (ad bd fun s hs hh hd=>?_) h
 have h0:=hs 0 _ rfl
 rcases tri 2 ((p.ks.length:Nat):Int) with⟨L1,L2,L3⟩|⟨L1,L2,L3⟩|⟨L1,L2,L3⟩
 all_goals cases e:strEq p.nm ⟨#[]⟩<;>cases z:decide (p.n=0)<;>simp-implicitDefEqProofs only[bP,f79,V,↓reduceIte,rA,rB,rC,reduceCtorEq,rD,rE,rF,h0,hh,hd,hk,rT,oY,ap,aA (ji p hk),nodeS,e,z,L1,L2,L3]
theorem oF(p:Pr)(hk:p.op=18)(h:AH):RunCall E1 (.f 79) [p.av] h (.val (.int .i64 (nodeS false (strEq p.nm ⟨#[]⟩) (decide (p.n=0)) (decide (((p.ks.length:Nat):Int)=2)) (true) (true)))) h:=by
 refine aB kr kr (mem1 (Tree.pr p)) rfl (Tree.val _) (ad bd fun s hs hh hd=>?_) h
 have h0:=hs 0 _ rfl
 rcases tri 2 ((p.ks.length:Nat):Int) with⟨L1,L2,L3⟩|⟨L1,L2,L3⟩|⟨L1,L2,L3⟩
 all_goals cases e:strEq p.nm ⟨#[]⟩<;>cases z:decide (p.n=0)<;>simp-implicitDefEqProofs only[bP,f79,V,↓reduceIte,rA,rB,rC,reduceCtorEq,rD,rE,rF,h0,hh,hd,hk,rS,oX,ap,aA (jh p hk),nodeS,e,z,L1,L2,L3]
end Go.Proofs.YtkhblipgiijoiaaGreatDoor
namespace Go.Proofs.YtkhblipgiijoiaaGreatDoor
open Go Go.AM
set_option maxHeartbeats 4000000
mutual
def chk(N:Pr→Int):Pr→Int
 |.mk o nm n ks nl cap=>if N (.mk o nm n ks nl cap)=0 then chkL N ks else N (.mk o nm n ks nl cap)
def chkL(N:Pr→Int):List Pr→Int
 | []=>0
 |k::r=>if chk N k=0 then chkL N r else chk N k
end
end Go.Proofs.YtkhblipgiijoiaaGreatDoor
