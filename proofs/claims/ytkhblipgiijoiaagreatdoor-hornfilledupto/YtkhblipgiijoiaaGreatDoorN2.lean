/- A part of the proof about filled horn systems: ZKids. -/
import Derived.Test.YtkhblipgiijoiaaGreatDoorU0
import Derived.Test.YtkhblipgiijoiaaGreatDoorN1

set_option linter.all false
open Nat renaming reduceEqDiff → rA, reduceAdd → rB, reduceMul → rC
open Int renaming reduceEq → rD, reduceLT → rE, reduceLE → rF
namespace Go.Proofs.YtkhblipgiijoiaaGreatDoor
open Go Go.AM
set_option maxHeartbeats 4000000
theorem pA(h:AH):RunCall E1 (.f 148) [.val (.int .i64 1)] h (.tup [.val (.int .i64 0),.val (.int .i64 0)]) h:=U9
theorem uJ{r:List AOper}{s:St}{dst:Option Nat}{K:St→Prop}:aJ E1 148 r s dst K (some [.val (.int .i64 1)])=AM.wpOps E1 r (s.put dst (.tup [.val (.int .i64 0),.val (.int .i64 0)])) K:=aA pA
theorem pK(n:Int)(h:AH):RunCall E1 (.f 120) [.val (.int .i64 1),.val (.int .i64 n)] h (.val (.bool (decide (n=0)))) h:=U5
theorem uR{n:Int}{r:List AOper}{s:St}{dst:Option Nat}{K:St→Prop}:aJ E1 120 r s dst K (some [.val (.int .i64 1),.val (.int .i64 n)])=AM.wpOps E1 r (s.put dst (.val (.bool (decide (n=0))))) K:=aA (pK n)
theorem ls(h:AH):RunCall E1 (.f 149) [.val (.int .i64 1)] h (.val (.bool false)) h:=U4
theorem qt{r:List AOper}{s:St}{dst:Option Nat}{K:St→Prop}:aJ E1 149 r s dst K (some [.val (.int .i64 1)])=AM.wpOps E1 r (s.put dst (.val (.bool false))) K:=aA ls
theorem mC(h:AH):RunCall E1 (.f 119) [.val (.int .i64 1)] h (.val (.bool false)) h:=U3
theorem rH{r:List AOper}{s:St}{dst:Option Nat}{K:St→Prop}:aJ E1 119 r s dst K (some [.val (.int .i64 1)])=AM.wpOps E1 r (s.put dst (.val (.bool false))) K:=aA mC
theorem oz(h:AH):RunCall E1 (.f 148) [.val (.int .i64 2)] h (.tup [.val (.int .i64 0),.val (.int .i64 0)]) h:=U9
theorem uI{r:List AOper}{s:St}{dst:Option Nat}{K:St→Prop}:aJ E1 148 r s dst K (some [.val (.int .i64 2)])=AM.wpOps E1 r (s.put dst (.tup [.val (.int .i64 0),.val (.int .i64 0)])) K:=aA oz
theorem pJ(n:Int)(h:AH):RunCall E1 (.f 120) [.val (.int .i64 2),.val (.int .i64 n)] h (.val (.bool (decide (n=0)))) h:=U5
theorem uQ{n:Int}{r:List AOper}{s:St}{dst:Option Nat}{K:St→Prop}:aJ E1 120 r s dst K (some [.val (.int .i64 2),.val (.int .i64 n)])=AM.wpOps E1 r (s.put dst (.val (.bool (decide (n=0))))) K:=aA (pJ n)
theorem lq(h:AH):RunCall E1 (.f 149) [.val (.int .i64 2)] h (.val (.bool false)) h:=U4
theorem qs{r:List AOper}{s:St}{dst:Option Nat}{K:St→Prop}:aJ E1 149 r s dst K (some [.val (.int .i64 2)])=AM.wpOps E1 r (s.put dst (.val (.bool false))) K:=aA lq
theorem mB(h:AH):RunCall E1 (.f 119) [.val (.int .i64 2)] h (.val (.bool false)) h:=U3
theorem rG{r:List AOper}{s:St}{dst:Option Nat}{K:St→Prop}:aJ E1 119 r s dst K (some [.val (.int .i64 2)])=AM.wpOps E1 r (s.put dst (.val (.bool false))) K:=aA mB
theorem oy(h:AH):RunCall E1 (.f 148) [.val (.int .i64 3)] h (.tup [.val (.int .i64 0),.val (.int .i64 0)]) h:=U9
theorem bH{r:List AOper}{s:St}{dst:Option Nat}{K:St→Prop}:aJ E1 148 r s dst K (some [.val (.int .i64 3)])=AM.wpOps E1 r (s.put dst (.tup [.val (.int .i64 0),.val (.int .i64 0)])) K:=aA oy
theorem pH(n:Int)(h:AH):RunCall E1 (.f 120) [.val (.int .i64 3),.val (.int .i64 n)] h (.val (.bool (decide (n=0)))) h:=U5
theorem uP{n:Int}{r:List AOper}{s:St}{dst:Option Nat}{K:St→Prop}:aJ E1 120 r s dst K (some [.val (.int .i64 3),.val (.int .i64 n)])=AM.wpOps E1 r (s.put dst (.val (.bool (decide (n=0))))) K:=aA (pH n)
theorem lp(h:AH):RunCall E1 (.f 149) [.val (.int .i64 3)] h (.val (.bool true)) h:=U4
theorem aw{r:List AOper}{s:St}{dst:Option Nat}{K:St→Prop}:aJ E1 149 r s dst K (some [.val (.int .i64 3)])=AM.wpOps E1 r (s.put dst (.val (.bool true))) K:=aA lp
theorem mA(h:AH):RunCall E1 (.f 119) [.val (.int .i64 3)] h (.val (.bool true)) h:=U3
theorem qz{r:List AOper}{s:St}{dst:Option Nat}{K:St→Prop}:aJ E1 119 r s dst K (some [.val (.int .i64 3)])=AM.wpOps E1 r (s.put dst (.val (.bool true))) K:=aA mA
theorem ox(h:AH):RunCall E1 (.f 148) [.val (.int .i64 4)] h (.tup [.val (.int .i64 1),.val (.int .i64 24)]) h:=U8
theorem bG{r:List AOper}{s:St}{dst:Option Nat}{K:St→Prop}:aJ E1 148 r s dst K (some [.val (.int .i64 4)])=AM.wpOps E1 r (s.put dst (.tup [.val (.int .i64 1),.val (.int .i64 24)])) K:=aA ox
theorem pG(n:Int)(h:AH):RunCall E1 (.f 120) [.val (.int .i64 4),.val (.int .i64 n)] h (.val (.bool (decide (1≤n)&&decide (n≤24)))) h:=U5
theorem uO{n:Int}{r:List AOper}{s:St}{dst:Option Nat}{K:St→Prop}:aJ E1 120 r s dst K (some [.val (.int .i64 4),.val (.int .i64 n)])=AM.wpOps E1 r (s.put dst (.val (.bool (decide (1≤n)&&decide (n≤24))))) K:=aA (pG n)
theorem lm(h:AH):RunCall E1 (.f 149) [.val (.int .i64 4)] h (.val (.bool true)) h:=U4
theorem au{r:List AOper}{s:St}{dst:Option Nat}{K:St→Prop}:aJ E1 149 r s dst K (some [.val (.int .i64 4)])=AM.wpOps E1 r (s.put dst (.val (.bool true))) K:=aA lm
theorem lz(h:AH):RunCall E1 (.f 119) [.val (.int .i64 4)] h (.val (.bool true)) h:=U3
theorem qy{r:List AOper}{s:St}{dst:Option Nat}{K:St→Prop}:aJ E1 119 r s dst K (some [.val (.int .i64 4)])=AM.wpOps E1 r (s.put dst (.val (.bool true))) K:=aA lz
theorem ow(h:AH):RunCall E1 (.f 148) [.val (.int .i64 5)] h (.tup [.val (.int .i64 1),.val (.int .i64 24)]) h:=U8
theorem bF{r:List AOper}{s:St}{dst:Option Nat}{K:St→Prop}:aJ E1 148 r s dst K (some [.val (.int .i64 5)])=AM.wpOps E1 r (s.put dst (.tup [.val (.int .i64 1),.val (.int .i64 24)])) K:=aA ow
theorem pF(n:Int)(h:AH):RunCall E1 (.f 120) [.val (.int .i64 5),.val (.int .i64 n)] h (.val (.bool (decide (1≤n)&&decide (n≤24)))) h:=U5
theorem uN{n:Int}{r:List AOper}{s:St}{dst:Option Nat}{K:St→Prop}:aJ E1 120 r s dst K (some [.val (.int .i64 5),.val (.int .i64 n)])=AM.wpOps E1 r (s.put dst (.val (.bool (decide (1≤n)&&decide (n≤24))))) K:=aA (pF n)
theorem ll(h:AH):RunCall E1 (.f 149) [.val (.int .i64 5)] h (.val (.bool true)) h:=U4
theorem ar{r:List AOper}{s:St}{dst:Option Nat}{K:St→Prop}:aJ E1 149 r s dst K (some [.val (.int .i64 5)])=AM.wpOps E1 r (s.put dst (.val (.bool true))) K:=aA ll
theorem ly(h:AH):RunCall E1 (.f 119) [.val (.int .i64 5)] h (.val (.bool true)) h:=U3
theorem qx{r:List AOper}{s:St}{dst:Option Nat}{K:St→Prop}:aJ E1 119 r s dst K (some [.val (.int .i64 5)])=AM.wpOps E1 r (s.put dst (.val (.bool true))) K:=aA ly
theorem ou(h:AH):RunCall E1 (.f 148) [.val (.int .i64 6)] h (.tup [.val (.int .i64 2),.val (.int .i64 2)]) h:=U6
theorem uH{r:List AOper}{s:St}{dst:Option Nat}{K:St→Prop}:aJ E1 148 r s dst K (some [.val (.int .i64 6)])=AM.wpOps E1 r (s.put dst (.tup [.val (.int .i64 2),.val (.int .i64 2)])) K:=aA ou
theorem pE(n:Int)(h:AH):RunCall E1 (.f 120) [.val (.int .i64 6),.val (.int .i64 n)] h (.val (.bool (decide (n=2)))) h:=U5
theorem uM{n:Int}{r:List AOper}{s:St}{dst:Option Nat}{K:St→Prop}:aJ E1 120 r s dst K (some [.val (.int .i64 6),.val (.int .i64 n)])=AM.wpOps E1 r (s.put dst (.val (.bool (decide (n=2))))) K:=aA (pE n)
theorem lk(h:AH):RunCall E1 (.f 149) [.val (.int .i64 6)] h (.val (.bool false)) h:=U4
theorem qr{r:List AOper}{s:St}{dst:Option Nat}{K:St→Prop}:aJ E1 149 r s dst K (some [.val (.int .i64 6)])=AM.wpOps E1 r (s.put dst (.val (.bool false))) K:=aA lk
theorem lx(h:AH):RunCall E1 (.f 119) [.val (.int .i64 6)] h (.val (.bool false)) h:=U3
theorem qw{r:List AOper}{s:St}{dst:Option Nat}{K:St→Prop}:aJ E1 119 r s dst K (some [.val (.int .i64 6)])=AM.wpOps E1 r (s.put dst (.val (.bool false))) K:=aA lx
theorem ot(h:AH):RunCall E1 (.f 148) [.val (.int .i64 7)] h (.tup [.val (.int .i64 2),.val (.int .i64 2)]) h:=U6
theorem uG{r:List AOper}{s:St}{dst:Option Nat}{K:St→Prop}:aJ E1 148 r s dst K (some [.val (.int .i64 7)])=AM.wpOps E1 r (s.put dst (.tup [.val (.int .i64 2),.val (.int .i64 2)])) K:=aA ot
theorem pD(n:Int)(h:AH):RunCall E1 (.f 120) [.val (.int .i64 7),.val (.int .i64 n)] h (.val (.bool (decide (n=2)))) h:=U5
theorem uL{n:Int}{r:List AOper}{s:St}{dst:Option Nat}{K:St→Prop}:aJ E1 120 r s dst K (some [.val (.int .i64 7),.val (.int .i64 n)])=AM.wpOps E1 r (s.put dst (.val (.bool (decide (n=2))))) K:=aA (pD n)
theorem lj(h:AH):RunCall E1 (.f 149) [.val (.int .i64 7)] h (.val (.bool false)) h:=U4
theorem qq{r:List AOper}{s:St}{dst:Option Nat}{K:St→Prop}:aJ E1 149 r s dst K (some [.val (.int .i64 7)])=AM.wpOps E1 r (s.put dst (.val (.bool false))) K:=aA lj
theorem lw(h:AH):RunCall E1 (.f 119) [.val (.int .i64 7)] h (.val (.bool false)) h:=U3
theorem qv{r:List AOper}{s:St}{dst:Option Nat}{K:St→Prop}:aJ E1 119 r s dst K (some [.val (.int .i64 7)])=AM.wpOps E1 r (s.put dst (.val (.bool false))) K:=aA lw
theorem oq(h:AH):RunCall E1 (.f 148) [.val (.int .i64 8)] h (.tup [.val (.int .i64 2),.val (.int .i64 2)]) h:=U6
theorem et{r:List AOper}{s:St}{dst:Option Nat}{K:St→Prop}:aJ E1 148 r s dst K (some [.val (.int .i64 8)])=AM.wpOps E1 r (s.put dst (.tup [.val (.int .i64 2),.val (.int .i64 2)])) K:=aA oq
theorem pC(n:Int)(h:AH):RunCall E1 (.f 120) [.val (.int .i64 8),.val (.int .i64 n)] h (.val (.bool (decide (n=2)))) h:=U5
theorem eu{n:Int}{r:List AOper}{s:St}{dst:Option Nat}{K:St→Prop}:aJ E1 120 r s dst K (some [.val (.int .i64 8),.val (.int .i64 n)])=AM.wpOps E1 r (s.put dst (.val (.bool (decide (n=2))))) K:=aA (pC n)
theorem lh(h:AH):RunCall E1 (.f 149) [.val (.int .i64 8)] h (.val (.bool false)) h:=U4
theorem eI{r:List AOper}{s:St}{dst:Option Nat}{K:St→Prop}:aJ E1 149 r s dst K (some [.val (.int .i64 8)])=AM.wpOps E1 r (s.put dst (.val (.bool false))) K:=aA lh
theorem lv(h:AH):RunCall E1 (.f 119) [.val (.int .i64 8)] h (.val (.bool false)) h:=U3
theorem eJ{r:List AOper}{s:St}{dst:Option Nat}{K:St→Prop}:aJ E1 119 r s dst K (some [.val (.int .i64 8)])=AM.wpOps E1 r (s.put dst (.val (.bool false))) K:=aA lv
theorem oo(h:AH):RunCall E1 (.f 148) [.val (.int .i64 9)] h (.tup [.val (.int .i64 1),.val (.int .i64 1)]) h:=U7
theorem uF{r:List AOper}{s:St}{dst:Option Nat}{K:St→Prop}:aJ E1 148 r s dst K (some [.val (.int .i64 9)])=AM.wpOps E1 r (s.put dst (.tup [.val (.int .i64 1),.val (.int .i64 1)])) K:=aA oo
theorem pB(n:Int)(h:AH):RunCall E1 (.f 120) [.val (.int .i64 9),.val (.int .i64 n)] h (.val (.bool (decide (n=1)))) h:=U5
theorem uK{n:Int}{r:List AOper}{s:St}{dst:Option Nat}{K:St→Prop}:aJ E1 120 r s dst K (some [.val (.int .i64 9),.val (.int .i64 n)])=AM.wpOps E1 r (s.put dst (.val (.bool (decide (n=1))))) K:=aA (pB n)
theorem lg(h:AH):RunCall E1 (.f 149) [.val (.int .i64 9)] h (.val (.bool false)) h:=U4
theorem qp{r:List AOper}{s:St}{dst:Option Nat}{K:St→Prop}:aJ E1 149 r s dst K (some [.val (.int .i64 9)])=AM.wpOps E1 r (s.put dst (.val (.bool false))) K:=aA lg
theorem lu(h:AH):RunCall E1 (.f 119) [.val (.int .i64 9)] h (.val (.bool false)) h:=U3
theorem qu{r:List AOper}{s:St}{dst:Option Nat}{K:St→Prop}:aJ E1 119 r s dst K (some [.val (.int .i64 9)])=AM.wpOps E1 r (s.put dst (.val (.bool false))) K:=aA lu
theorem mL(h:AH):RunCall E1 (.f 148) [.val (.int .i64 10)] h (.tup [.val (.int .i64 2),.val (.int .i64 2)]) h:=U6
theorem rR{r:List AOper}{s:St}{dst:Option Nat}{K:St→Prop}:aJ E1 148 r s dst K (some [.val (.int .i64 10)])=AM.wpOps E1 r (s.put dst (.tup [.val (.int .i64 2),.val (.int .i64 2)])) K:=aA mL
theorem mU(n:Int)(h:AH):RunCall E1 (.f 120) [.val (.int .i64 10),.val (.int .i64 n)] h (.val (.bool (decide (n=2)))) h:=U5
theorem ra{n:Int}{r:List AOper}{s:St}{dst:Option Nat}{K:St→Prop}:aJ E1 120 r s dst K (some [.val (.int .i64 10),.val (.int .i64 n)])=AM.wpOps E1 r (s.put dst (.val (.bool (decide (n=2))))) K:=aA (mU n)
theorem kK(h:AH):RunCall E1 (.f 149) [.val (.int .i64 10)] h (.val (.bool false)) h:=U4
theorem oW{r:List AOper}{s:St}{dst:Option Nat}{K:St→Prop}:aJ E1 149 r s dst K (some [.val (.int .i64 10)])=AM.wpOps E1 r (s.put dst (.val (.bool false))) K:=aA kK
theorem kT(h:AH):RunCall E1 (.f 119) [.val (.int .i64 10)] h (.val (.bool false)) h:=U3
theorem og{r:List AOper}{s:St}{dst:Option Nat}{K:St→Prop}:aJ E1 119 r s dst K (some [.val (.int .i64 10)])=AM.wpOps E1 r (s.put dst (.val (.bool false))) K:=aA kT
theorem mK(h:AH):RunCall E1 (.f 148) [.val (.int .i64 11)] h (.tup [.val (.int .i64 2),.val (.int .i64 2)]) h:=U6
theorem rQ{r:List AOper}{s:St}{dst:Option Nat}{K:St→Prop}:aJ E1 148 r s dst K (some [.val (.int .i64 11)])=AM.wpOps E1 r (s.put dst (.tup [.val (.int .i64 2),.val (.int .i64 2)])) K:=aA mK
theorem mT(n:Int)(h:AH):RunCall E1 (.f 120) [.val (.int .i64 11),.val (.int .i64 n)] h (.val (.bool (decide (n=2)))) h:=U5
theorem rZ{n:Int}{r:List AOper}{s:St}{dst:Option Nat}{K:St→Prop}:aJ E1 120 r s dst K (some [.val (.int .i64 11),.val (.int .i64 n)])=AM.wpOps E1 r (s.put dst (.val (.bool (decide (n=2))))) K:=aA (mT n)
theorem kJ(h:AH):RunCall E1 (.f 149) [.val (.int .i64 11)] h (.val (.bool false)) h:=U4
theorem oV{r:List AOper}{s:St}{dst:Option Nat}{K:St→Prop}:aJ E1 149 r s dst K (some [.val (.int .i64 11)])=AM.wpOps E1 r (s.put dst (.val (.bool false))) K:=aA kJ
theorem kS(h:AH):RunCall E1 (.f 119) [.val (.int .i64 11)] h (.val (.bool false)) h:=U3
theorem oe{r:List AOper}{s:St}{dst:Option Nat}{K:St→Prop}:aJ E1 119 r s dst K (some [.val (.int .i64 11)])=AM.wpOps E1 r (s.put dst (.val (.bool false))) K:=aA kS
theorem mJ(h:AH):RunCall E1 (.f 148) [.val (.int .i64 12)] h (.tup [.val (.int .i64 2),.val (.int .i64 2)]) h:=U6
theorem rP{r:List AOper}{s:St}{dst:Option Nat}{K:St→Prop}:aJ E1 148 r s dst K (some [.val (.int .i64 12)])=AM.wpOps E1 r (s.put dst (.tup [.val (.int .i64 2),.val (.int .i64 2)])) K:=aA mJ
theorem mS(n:Int)(h:AH):RunCall E1 (.f 120) [.val (.int .i64 12),.val (.int .i64 n)] h (.val (.bool (decide (n=2)))) h:=U5
theorem rY{n:Int}{r:List AOper}{s:St}{dst:Option Nat}{K:St→Prop}:aJ E1 120 r s dst K (some [.val (.int .i64 12),.val (.int .i64 n)])=AM.wpOps E1 r (s.put dst (.val (.bool (decide (n=2))))) K:=aA (mS n)
theorem kI(h:AH):RunCall E1 (.f 149) [.val (.int .i64 12)] h (.val (.bool false)) h:=U4
theorem oU{r:List AOper}{s:St}{dst:Option Nat}{K:St→Prop}:aJ E1 149 r s dst K (some [.val (.int .i64 12)])=AM.wpOps E1 r (s.put dst (.val (.bool false))) K:=aA kI
theorem kR(h:AH):RunCall E1 (.f 119) [.val (.int .i64 12)] h (.val (.bool false)) h:=U3
theorem od{r:List AOper}{s:St}{dst:Option Nat}{K:St→Prop}:aJ E1 119 r s dst K (some [.val (.int .i64 12)])=AM.wpOps E1 r (s.put dst (.val (.bool false))) K:=aA kR
theorem mI(h:AH):RunCall E1 (.f 148) [.val (.int .i64 13)] h (.tup [.val (.int .i64 2),.val (.int .i64 2)]) h:=U6
theorem rO{r:List AOper}{s:St}{dst:Option Nat}{K:St→Prop}:aJ E1 148 r s dst K (some [.val (.int .i64 13)])=AM.wpOps E1 r (s.put dst (.tup [.val (.int .i64 2),.val (.int .i64 2)])) K:=aA mI
theorem mR(n:Int)(h:AH):RunCall E1 (.f 120) [.val (.int .i64 13),.val (.int .i64 n)] h (.val (.bool (decide (n=2)))) h:=U5
theorem rX{n:Int}{r:List AOper}{s:St}{dst:Option Nat}{K:St→Prop}:aJ E1 120 r s dst K (some [.val (.int .i64 13),.val (.int .i64 n)])=AM.wpOps E1 r (s.put dst (.val (.bool (decide (n=2))))) K:=aA (mR n)
theorem kH(h:AH):RunCall E1 (.f 149) [.val (.int .i64 13)] h (.val (.bool false)) h:=U4
theorem oT{r:List AOper}{s:St}{dst:Option Nat}{K:St→Prop}:aJ E1 149 r s dst K (some [.val (.int .i64 13)])=AM.wpOps E1 r (s.put dst (.val (.bool false))) K:=aA kH
theorem kQ(h:AH):RunCall E1 (.f 119) [.val (.int .i64 13)] h (.val (.bool false)) h:=U3
theorem oc{r:List AOper}{s:St}{dst:Option Nat}{K:St→Prop}:aJ E1 119 r s dst K (some [.val (.int .i64 13)])=AM.wpOps E1 r (s.put dst (.val (.bool false))) K:=aA kQ
theorem mH(h:AH):RunCall E1 (.f 148) [.val (.int .i64 14)] h (.tup [.val (.int .i64 1),.val (.int .i64 1)]) h:=U7
theorem rN{r:List AOper}{s:St}{dst:Option Nat}{K:St→Prop}:aJ E1 148 r s dst K (some [.val (.int .i64 14)])=AM.wpOps E1 r (s.put dst (.tup [.val (.int .i64 1),.val (.int .i64 1)])) K:=aA mH
theorem mQ(n:Int)(h:AH):RunCall E1 (.f 120) [.val (.int .i64 14),.val (.int .i64 n)] h (.val (.bool (decide (n=1)))) h:=U5
theorem rW{n:Int}{r:List AOper}{s:St}{dst:Option Nat}{K:St→Prop}:aJ E1 120 r s dst K (some [.val (.int .i64 14),.val (.int .i64 n)])=AM.wpOps E1 r (s.put dst (.val (.bool (decide (n=1))))) K:=aA (mQ n)
theorem kG(h:AH):RunCall E1 (.f 149) [.val (.int .i64 14)] h (.val (.bool false)) h:=U4
theorem oS{r:List AOper}{s:St}{dst:Option Nat}{K:St→Prop}:aJ E1 149 r s dst K (some [.val (.int .i64 14)])=AM.wpOps E1 r (s.put dst (.val (.bool false))) K:=aA kG
theorem kP(h:AH):RunCall E1 (.f 119) [.val (.int .i64 14)] h (.val (.bool false)) h:=U3
theorem ob{r:List AOper}{s:St}{dst:Option Nat}{K:St→Prop}:aJ E1 119 r s dst K (some [.val (.int .i64 14)])=AM.wpOps E1 r (s.put dst (.val (.bool false))) K:=aA kP
theorem mG(h:AH):RunCall E1 (.f 148) [.val (.int .i64 15)] h (.tup [.val (.int .i64 2),.val (.int .i64 2)]) h:=U6
theorem rM{r:List AOper}{s:St}{dst:Option Nat}{K:St→Prop}:aJ E1 148 r s dst K (some [.val (.int .i64 15)])=AM.wpOps E1 r (s.put dst (.tup [.val (.int .i64 2),.val (.int .i64 2)])) K:=aA mG
theorem mP(n:Int)(h:AH):RunCall E1 (.f 120) [.val (.int .i64 15),.val (.int .i64 n)] h (.val (.bool (decide (n=2)))) h:=U5
theorem rV{n:Int}{r:List AOper}{s:St}{dst:Option Nat}{K:St→Prop}:aJ E1 120 r s dst K (some [.val (.int .i64 15),.val (.int .i64 n)])=AM.wpOps E1 r (s.put dst (.val (.bool (decide (n=2))))) K:=aA (mP n)
theorem kF(h:AH):RunCall E1 (.f 149) [.val (.int .i64 15)] h (.val (.bool false)) h:=U4
theorem oR{r:List AOper}{s:St}{dst:Option Nat}{K:St→Prop}:aJ E1 149 r s dst K (some [.val (.int .i64 15)])=AM.wpOps E1 r (s.put dst (.val (.bool false))) K:=aA kF
theorem kO(h:AH):RunCall E1 (.f 119) [.val (.int .i64 15)] h (.val (.bool false)) h:=U3
theorem oa{r:List AOper}{s:St}{dst:Option Nat}{K:St→Prop}:aJ E1 119 r s dst K (some [.val (.int .i64 15)])=AM.wpOps E1 r (s.put dst (.val (.bool false))) K:=aA kO
theorem mF(h:AH):RunCall E1 (.f 148) [.val (.int .i64 16)] h (.tup [.val (.int .i64 2),.val (.int .i64 2)]) h:=U6
theorem rL{r:List AOper}{s:St}{dst:Option Nat}{K:St→Prop}:aJ E1 148 r s dst K (some [.val (.int .i64 16)])=AM.wpOps E1 r (s.put dst (.tup [.val (.int .i64 2),.val (.int .i64 2)])) K:=aA mF
theorem mO(n:Int)(h:AH):RunCall E1 (.f 120) [.val (.int .i64 16),.val (.int .i64 n)] h (.val (.bool (decide (n=2)))) h:=U5
theorem rU{n:Int}{r:List AOper}{s:St}{dst:Option Nat}{K:St→Prop}:aJ E1 120 r s dst K (some [.val (.int .i64 16),.val (.int .i64 n)])=AM.wpOps E1 r (s.put dst (.val (.bool (decide (n=2))))) K:=aA (mO n)
theorem kE(h:AH):RunCall E1 (.f 149) [.val (.int .i64 16)] h (.val (.bool false)) h:=U4
theorem oQ{r:List AOper}{s:St}{dst:Option Nat}{K:St→Prop}:aJ E1 149 r s dst K (some [.val (.int .i64 16)])=AM.wpOps E1 r (s.put dst (.val (.bool false))) K:=aA kE
theorem kN(h:AH):RunCall E1 (.f 119) [.val (.int .i64 16)] h (.val (.bool false)) h:=U3
theorem oZ{r:List AOper}{s:St}{dst:Option Nat}{K:St→Prop}:aJ E1 119 r s dst K (some [.val (.int .i64 16)])=AM.wpOps E1 r (s.put dst (.val (.bool false))) K:=aA kN
theorem mE(h:AH):RunCall E1 (.f 148) [.val (.int .i64 17)] h (.tup [.val (.int .i64 2),.val (.int .i64 2)]) h:=U6
theorem rK{r:List AOper}{s:St}{dst:Option Nat}{K:St→Prop}:aJ E1 148 r s dst K (some [.val (.int .i64 17)])=AM.wpOps E1 r (s.put dst (.tup [.val (.int .i64 2),.val (.int .i64 2)])) K:=aA mE
theorem mN(n:Int)(h:AH):RunCall E1 (.f 120) [.val (.int .i64 17),.val (.int .i64 n)] h (.val (.bool (decide (n=2)))) h:=U5
theorem rT{n:Int}{r:List AOper}{s:St}{dst:Option Nat}{K:St→Prop}:aJ E1 120 r s dst K (some [.val (.int .i64 17),.val (.int .i64 n)])=AM.wpOps E1 r (s.put dst (.val (.bool (decide (n=2))))) K:=aA (mN n)
theorem kD(h:AH):RunCall E1 (.f 149) [.val (.int .i64 17)] h (.val (.bool false)) h:=U4
theorem oP{r:List AOper}{s:St}{dst:Option Nat}{K:St→Prop}:aJ E1 149 r s dst K (some [.val (.int .i64 17)])=AM.wpOps E1 r (s.put dst (.val (.bool false))) K:=aA kD
theorem kM(h:AH):RunCall E1 (.f 119) [.val (.int .i64 17)] h (.val (.bool false)) h:=U3
theorem oY{r:List AOper}{s:St}{dst:Option Nat}{K:St→Prop}:aJ E1 119 r s dst K (some [.val (.int .i64 17)])=AM.wpOps E1 r (s.put dst (.val (.bool false))) K:=aA kM
theorem mD(h:AH):RunCall E1 (.f 148) [.val (.int .i64 18)] h (.tup [.val (.int .i64 2),.val (.int .i64 2)]) h:=U6
theorem rJ{r:List AOper}{s:St}{dst:Option Nat}{K:St→Prop}:aJ E1 148 r s dst K (some [.val (.int .i64 18)])=AM.wpOps E1 r (s.put dst (.tup [.val (.int .i64 2),.val (.int .i64 2)])) K:=aA mD
theorem mM(n:Int)(h:AH):RunCall E1 (.f 120) [.val (.int .i64 18),.val (.int .i64 n)] h (.val (.bool (decide (n=2)))) h:=U5
theorem rS{n:Int}{r:List AOper}{s:St}{dst:Option Nat}{K:St→Prop}:aJ E1 120 r s dst K (some [.val (.int .i64 18),.val (.int .i64 n)])=AM.wpOps E1 r (s.put dst (.val (.bool (decide (n=2))))) K:=aA (mM n)
theorem kC(h:AH):RunCall E1 (.f 149) [.val (.int .i64 18)] h (.val (.bool false)) h:=U4
theorem oO{r:List AOper}{s:St}{dst:Option Nat}{K:St→Prop}:aJ E1 149 r s dst K (some [.val (.int .i64 18)])=AM.wpOps E1 r (s.put dst (.val (.bool false))) K:=aA kC
theorem kL(h:AH):RunCall E1 (.f 119) [.val (.int .i64 18)] h (.val (.bool false)) h:=U3
theorem oX{r:List AOper}{s:St}{dst:Option Nat}{K:St→Prop}:aJ E1 119 r s dst K (some [.val (.int .i64 18)])=AM.wpOps E1 r (s.put dst (.val (.bool false))) K:=aA kL
end Go.Proofs.YtkhblipgiijoiaaGreatDoor
