/- A part of the proof about filled horn systems: ZByte ZAlnum ZKeyw ZName ZCut ZCore. -/
import Derived.Test.YtkhblipgiijoiaaGreatDoorU0
import Derived.Test.YtkhblipgiijoiaaGreatDoorW1
import Derived.Test.YtkhblipgiijoiaaGreatDoorN1

set_option linter.all false
open Nat renaming reduceEqDiff → rA, reduceAdd → rB, reduceMul → rC
open Int renaming reduceEq → rD, reduceLT → rE, reduceLE → rF
namespace Go.Proofs.YtkhblipgiijoiaaGreatDoor
open Go Go.AM
set_option maxHeartbeats 4000000
theorem wB(c:Int)(h:AH):RunCall E1 (.f 164) [.val (.int .u8 c)] h (.val (.bool (decide (97≤c)&&decide (c≤122)))) h:=by
 refine aB kr kr (mem1 (Tree.val _)) rfl (Tree.val _) (ad f164_ok fun s hs hh hd=>?_) h
 have h0:=hs 0 _ rfl
 cases a:decide (97≤c)<;>cases b:decide (c≤122)<;>simp-implicitDefEqProofs only[f164_fn,f164,V,↓reduceIte,rA,rB,rC,reduceCtorEq,rD,rE,rF,h0,hh,hd,a,b]
theorem dm{c:Int}{r:List AOper}{s:St}{dst:Option Nat}{K:St→Prop}:aJ E1 164 r s dst K (some [.val (.int .u8 c)])=AM.wpOps E1 r (s.put dst (.val (.bool (decide (97≤c)&&decide (c≤122))))) K:=aA (wB c)
theorem wA(c:Int)(h:AH):RunCall E1 (.f 166) [.val (.int .u8 c)] h (.val (.bool (decide (48≤c)&&decide (c≤57)))) h:=by
 refine aB kr kr (mem1 (Tree.val _)) rfl (Tree.val _) (ad f166_ok fun s hs hh hd=>?_) h
 have h0:=hs 0 _ rfl
 cases a:decide (48≤c)<;>cases b:decide (c≤57)<;>simp-implicitDefEqProofs only[f166_fn,f166,V,↓reduceIte,rA,rB,rC,reduceCtorEq,rD,rE,rF,h0,hh,hd,a,b]
theorem ie{c:Int}{r:List AOper}{s:St}{dst:Option Nat}{K:St→Prop}:aJ E1 166 r s dst K (some [.val (.int .u8 c)])=AM.wpOps E1 r (s.put dst (.val (.bool (decide (48≤c)&&decide (c≤57))))) K:=aA (wA c)
theorem vz(c:Int)(h:AH):RunCall E1 (.f 167) [.val (.int .u8 c)] h (.val (.bool (decide (65≤c)&&decide (c≤90)))) h:=by
 refine aB kr kr (mem1 (Tree.val _)) rfl (Tree.val _) (ad f167_ok fun s hs hh hd=>?_) h
 have h0:=hs 0 _ rfl
 cases a:decide (65≤c)<;>cases b:decide (c≤90)<;>simp-implicitDefEqProofs only[f167_fn,f167,V,↓reduceIte,rA,rB,rC,reduceCtorEq,rD,rE,rF,h0,hh,hd,a,b]
theorem ic{c:Int}{r:List AOper}{s:St}{dst:Option Nat}{K:St→Prop}:aJ E1 167 r s dst K (some [.val (.int .u8 c)])=AM.wpOps E1 r (s.put dst (.val (.bool (decide (65≤c)&&decide (c≤90))))) K:=aA (vz c)
theorem vy(c:Int)(h:AH):RunCall E1 (.f 169) [.val (.int .u8 c)] h (.val (.bool (decide (97≤c)&&decide (c≤122)))) h:=by
 refine aB kr kr (mem1 (Tree.val _)) rfl (Tree.val _) (ad f169_ok fun s hs hh hd=>?_) h
 have h0:=hs 0 _ rfl
 cases a:decide (97≤c)<;>cases b:decide (c≤122)<;>simp-implicitDefEqProofs only[f169_fn,f169,V,↓reduceIte,rA,rB,rC,reduceCtorEq,rD,rE,rF,h0,hh,hd,a,b]
theorem ca{c:Int}{r:List AOper}{s:St}{dst:Option Nat}{K:St→Prop}:aJ E1 169 r s dst K (some [.val (.int .u8 c)])=AM.wpOps E1 r (s.put dst (.val (.bool (decide (97≤c)&&decide (c≤122))))) K:=aA (vy c)
theorem vx(c:Int)(h:AH):RunCall E1 (.f 171) [.val (.int .u8 c)] h (.val (.bool (decide (48≤c)&&decide (c≤57)))) h:=by
 refine aB kr kr (mem1 (Tree.val _)) rfl (Tree.val _) (ad f171_ok fun s hs hh hd=>?_) h
 have h0:=hs 0 _ rfl
 cases a:decide (48≤c)<;>cases b:decide (c≤57)<;>simp-implicitDefEqProofs only[f171_fn,f171,V,↓reduceIte,rA,rB,rC,reduceCtorEq,rD,rE,rF,h0,hh,hd,a,b]
theorem ib{c:Int}{r:List AOper}{s:St}{dst:Option Nat}{K:St→Prop}:aJ E1 171 r s dst K (some [.val (.int .u8 c)])=AM.wpOps E1 r (s.put dst (.val (.bool (decide (48≤c)&&decide (c≤57))))) K:=aA (vx c)
theorem vw(c:Int)(h:AH):RunCall E1 (.f 172) [.val (.int .u8 c)] h (.val (.bool (decide (65≤c)&&decide (c≤90)))) h:=by
 refine aB kr kr (mem1 (Tree.val _)) rfl (Tree.val _) (ad f172_ok fun s hs hh hd=>?_) h
 have h0:=hs 0 _ rfl
 cases a:decide (65≤c)<;>cases b:decide (c≤90)<;>simp-implicitDefEqProofs only[f172_fn,f172,V,↓reduceIte,rA,rB,rC,reduceCtorEq,rD,rE,rF,h0,hh,hd,a,b]
theorem fG{c:Int}{r:List AOper}{s:St}{dst:Option Nat}{K:St→Prop}:aJ E1 172 r s dst K (some [.val (.int .u8 c)])=AM.wpOps E1 r (s.put dst (.val (.bool (decide (65≤c)&&decide (c≤90))))) K:=aA (vw c)
theorem aR{b:ByteArray}:lenStrV (.val (.string b))=some (.val (.int .i64 (b.size:Nat))):=rfl
theorem qa(b:ByteArray)(h:AH):RunCall E1 (.f 130) [.val (.string b)] h (.val (.bool (decide (1≤((b.size:Nat):Int))&&decide (((b.size:Nat):Int)≤24)))) h:=by
 refine aB kr kr (mem1 (Tree.val _)) rfl (Tree.val _) (ad f130_ok fun s hs hh hd=>?_) h
 have h0:=hs 0 _ rfl
 cases x:decide (1≤((b.size:Nat):Int))<;>cases y:decide (((b.size:Nat):Int)≤24)<;>simp-implicitDefEqProofs only[f130_fn,f130,V,↓reduceIte,rA,rB,rC,reduceCtorEq,rD,rE,rF,aR,h0,hh,hd,x,y]
theorem bS{b:ByteArray}{r:List AOper}{s:St}{dst:Option Nat}{K:St→Prop}:aJ E1 130 r s dst K (some [.val (.string b)])=AM.wpOps E1 r (s.put dst (.val (.bool (decide (1≤((b.size:Nat):Int))&&decide (((b.size:Nat):Int)≤24))))) K:=aA (qa b)
theorem bl{b:ByteArray}{i:Nat}(h:i<b.size):∃c:Nat,idxStrV (.val (.string b)) i=some (.val (.int .u8 c)):=by
 have h':i<b.data.toList.length:=by simpa using h
 refine⟨(b.data.toList[i]).toNat,?_⟩
 simp only[idxStrV,List.getElem?_eq_getElem h',Option.map_some]
theorem ansE{g:Nat}{l:List AV}{a:AFun}{P:AV→Prop}(hf:funOf Tryz.prog g=some a)
  (h:∀s:St,(∀i v,(enterTm l 0 .nil).get i=some v→s.eval (.t i)=some v)→s.h=.empty→s.defers=[]→wp E1 a.body s fun e s=>(e=.normal∨e=.ret)∧s.defers=[]∧∃r,P r∧resultsA E1.globs s a.res=some [r]):∃r,P r∧Ans E1 g l r:=by
 obtain⟨e,s',x,y1,y2,r,hp,y3⟩:=bZ _ _ _ (h {tm:=enterTm l 0 .nil,h:=.empty,defers:=[],round:=none} (fun _ _ h=>h) rfl rfl)
 refine⟨r,hp,s'.h,x.mono fun n p=>?_⟩
 have hl:leaveA E1 a s'=some (r,s'.h):=by
  obtain⟨tm,h1,df,rd⟩:=s'
  subst y2
  simp only[leaveA,runDefers,y3]
  rfl
 simp only[enterA,(show funOf E1.P g=some a by rw[E1_P];exact hf),p]
 rcases y1 with rfl|rfl<;>exact hl
theorem tF(b:ByteArray)(hb:b.size<2^61):∀(n i:Nat) (s:St),i+n=b.size→s.eval (.t 0)=some (.val (.string b))→s.eval (.t 3)=some (.val (.int .i64 i))→s.defers=[]→
  Run E1 nD s fun e s'=>s'.defers=[]∧(e=.exit 0∨e=.ret∧∃x,s'.eval (.t 2)=some (.val (.bool x)))
 |0,i,s,hi,h0,h3,hd=>by
  have hlt:decide ((i:Int)<(b.size:Nat))=false:=decide_eq_false om
  apply aC (rfl:nD=.loop jQ)
  simp-implicitDefEqProofs only[jQ,V,↓reduceIte,rA,rB,rC,reduceCtorEq,rD,rE,rF,aR,h0,h3,hd,hlt]
 |n+1,i,s,hi,h0,h3,hd=>by
  have hlt:decide ((i:Int)<(b.size:Nat))=true:=decide_eq_true om
  have w1:IntKind.i64.wrap ((i:Int)+1)=((i+1:Nat):Int):=aE (n:=i+1) om
  obtain⟨c,hc⟩:=bl (b:=b) (i:=i) om
  obtain⟨B1,e1⟩:∃B,(decide (97≤(c:Int))&&decide ((c:Int)≤122))=B:=⟨_,rfl⟩
  obtain⟨B2,e2⟩:∃B,(decide (65≤(c:Int))&&decide ((c:Int)≤90))=B:=⟨_,rfl⟩
  obtain⟨B3,e3⟩:∃B,(decide (48≤(c:Int))&&decide ((c:Int)≤57))=B:=⟨_,rfl⟩
  apply aC (rfl:nD=.loop jQ)
  cases B1<;>cases B2<;>cases B3<;>simp-implicitDefEqProofs only[jQ,V,↓reduceIte,rA,rB,rC,reduceCtorEq,rD,rE,rF,aR,h0,h3,hd,hlt,w1,hc,dm,ie,ic,e1,e2,e3]
  all_goals first
   |exact⟨_,rfl⟩
   |exact .inr ⟨_,rfl⟩
   |(refine tF b hb n (i+1) _ om ?_ ?_ ?_<;>simp-implicitDefEqProofs only[V,↓reduceIte,rA,rB,rC,reduceCtorEq,rD,rE,rF,h0,hd])
theorem tX(b:ByteArray)(hb:b.size<2^61):∃x,∀h,RunCall E1 (.f 131) [.val (.string b)] h (.val (.bool x)) h:=by
 obtain⟨r,⟨x,hx⟩,ha⟩:=ansE (g:=131) (l:=[.val (.string b)]) (P:=fun r=>∃x,r=.val (.bool x)) f131_ok fun s hs hh hd=>by
  have h0:=hs 0 _ rfl
  simp-implicitDefEqProofs only[f131_fn,f131,V,↓reduceIte,rA,rB,rC,reduceCtorEq,rD,rE,rF,h0,hh,hd]
  refine(tF b hb b.size 0 _ om ?_ ?_ ?_).mono ?_
  ·exact U32
  ·exact U29
  ·exact U33
  ·exact U34
 subst hx
 exact⟨x,aB kr kr (mem1 (Tree.val _)) rfl (Tree.val _) ha⟩
theorem tE(b:ByteArray)(hb:b.size<2^61):∀(n i:Nat) (s:St),i+n=b.size→s.eval (.t 0)=some (.val (.string b))→s.eval (.t 3)=some (.val (.int .i64 i))→s.defers=[]→
  Run E1 mz s fun e s'=>s'.defers=[]∧(e=.exit 0∨e=.ret∧∃x,s'.eval (.t 2)=some (.val (.bool x)))
 |0,i,s,hi,h0,h3,hd=>by
  have hlt:decide ((i:Int)<(b.size:Nat))=false:=decide_eq_false om
  apply aC (rfl:mz=.loop jP)
  simp-implicitDefEqProofs only[jP,V,↓reduceIte,rA,rB,rC,reduceCtorEq,rD,rE,rF,aR,h0,h3,hd,hlt]
 |n+1,i,s,hi,h0,h3,hd=>by
  have hlt:decide ((i:Int)<(b.size:Nat))=true:=decide_eq_true om
  have w1:IntKind.i64.wrap ((i:Int)+1)=((i+1:Nat):Int):=aE (n:=i+1) om
  obtain⟨c,hc⟩:=bl (b:=b) (i:=i) om
  obtain⟨B1,e1⟩:∃B,(decide (97≤(c:Int))&&decide ((c:Int)≤122))=B:=⟨_,rfl⟩
  obtain⟨B2,e2⟩:∃B,decide ((c:Int)=95)=B:=⟨_,rfl⟩
  obtain⟨B4,e4⟩:∃B,decide ((i:Int)=0)=B:=⟨_,rfl⟩
  obtain⟨B3,e3⟩:∃B,(decide (48≤(c:Int))&&decide ((c:Int)≤57))=B:=⟨_,rfl⟩
  apply aC (rfl:mz=.loop jP)
  cases B1<;>cases B2<;>cases B3<;>cases B4<;>simp-implicitDefEqProofs only[jP,V,↓reduceIte,rA,rB,rC,reduceCtorEq,rD,rE,rF,aR,h0,h3,hd,hlt,w1,hc,dm,ie,e1,e2,e3,e4]
  all_goals first
   |exact⟨_,rfl⟩
   |exact .inr ⟨_,rfl⟩
   |(refine tE b hb n (i+1) _ om ?_ ?_ ?_<;>simp-implicitDefEqProofs only[V,↓reduceIte,rA,rB,rC,reduceCtorEq,rD,rE,rF,h0,hd])
theorem word_ans(b:ByteArray)(hb:b.size<2^61):∃x,∀h,RunCall E1 (.f 132) [.val (.string b)] h (.val (.bool x)) h:=by
 obtain⟨r,⟨x,hx⟩,ha⟩:=ansE (g:=132) (l:=[.val (.string b)]) (P:=fun r=>∃x,r=.val (.bool x)) f132_ok fun s hs hh hd=>by
  have h0:=hs 0 _ rfl
  simp-implicitDefEqProofs only[f132_fn,f132,V,↓reduceIte,rA,rB,rC,reduceCtorEq,rD,rE,rF,h0,hh,hd]
  refine(tE b hb b.size 0 _ om ?_ ?_ ?_).mono ?_
  ·exact U32
  ·exact U29
  ·exact U33
  ·exact U34
 subst hx
 exact⟨x,aB kr kr (mem1 (Tree.val _)) rfl (Tree.val _) ha⟩
theorem title_ans(b:ByteArray)(hb:b.size<2^61):∃x,∀h,RunCall E1 (.f 129) [.val (.string b)] h (.val (.bool x)) h:=by
 obtain⟨A,hA⟩:=tX b hb
 obtain⟨r,⟨x,hx⟩,ha⟩:=ansE (g:=129) (l:=[.val (.string b)]) (P:=fun r=>∃x,r=.val (.bool x)) f129_ok fun s hs hh hd=>by
  have h0:=hs 0 _ rfl
  by_cases hz:1≤b.size
  ·obtain⟨c,hc⟩:=bl (b:=b) (i:=0) om
   have z1:decide (1≤((b.size:Nat):Int))=true:=decide_eq_true om
   obtain⟨B0,e0⟩:∃B,decide (((b.size:Nat):Int)≤24)=B:=⟨_,rfl⟩
   obtain⟨B2,e2⟩:∃B,(decide (65≤(c:Int))&&decide ((c:Int)≤90))=B:=⟨_,rfl⟩
   cases B0<;>cases B2<;>cases A<;>try (simp-implicitDefEqProofs only[jR,f129,V,↓reduceIte,rA,rB,rC,reduceCtorEq,rD,rE,rF,h0,hh,hd,bS,ic,aA hA,hc,z1,e0,e2];exact⟨_,⟨_,rfl⟩,rfl⟩)
   obtain⟨s1,q1⟩:∃B,strEq b ⟨#[73,110,116]⟩=B:=⟨_,rfl⟩
   obtain⟨s2,q2⟩:∃B,strEq b ⟨#[66,111,111,108]⟩=B:=⟨_,rfl⟩
   obtain⟨s3,q3⟩:∃B,strEq b ⟨#[67,101,108,108]⟩=B:=⟨_,rfl⟩
   obtain⟨s4,q4⟩:∃B,strEq b ⟨#[70,117,110]⟩=B:=⟨_,rfl⟩
   cases s1<;>cases s2<;>cases s3<;>cases s4<;>(simp-implicitDefEqProofs only[jR,f129,V,↓reduceIte,rA,rB,rC,reduceCtorEq,rD,rE,rF,h0,hh,hd,bS,ic,aA hA,hc,z1,e0,e2,q1,q2,q3,q4];exact⟨_,⟨_,rfl⟩,rfl⟩)
  ·have z1:decide (1≤((b.size:Nat):Int))=false:=decide_eq_false om
   simp-implicitDefEqProofs only[jR,f129,V,↓reduceIte,rA,rB,rC,reduceCtorEq,rD,rE,rF,h0,hh,hd,bS,z1]
   exact⟨_,⟨_,rfl⟩,rfl⟩
 subst hx
 exact⟨x,aB kr kr (mem1 (Tree.val _)) rfl (Tree.val _) ha⟩
def isStrO:Option AV→Bool
 |some (.val (.string _))=>true
 |_=>false
theorem xI{o:Option AV}(h:isStrO o=true):∃b,o=some (.val (.string b)):=by
 unfold isStrO at h
 split at h
 ·exact⟨_,rfl⟩
 ·cases h
theorem kw_cells:cellsFrom E1.globs .empty (.val (.pointer (some ⟨0,0,none⟩)))=some keywordCells:=by kernel_rfl
theorem kw_take:takeN (some 42) keywordCells=some (.agg keywordCells):=by kernel_rfl
theorem kw_all:(List.range 42).all (fun i=>isStrO (idxAV 42 1 none (.agg keywordCells) i))=true:=by kernel_rfl
theorem kw_at{i:Nat}(h:i<42):∃b,idxAV 42 1 none (.agg keywordCells) i=some (.val (.string b)):=
 xI (List.all_eq_true.1 kw_all i (List.mem_range.2 h))
theorem sw(b:ByteArray):∀(n i:Nat) (s:St),i+n=42→s.eval (.t 0)=some (.val (.string b))→s.eval (.t 5)=some (.agg keywordCells)→s.eval (.t 6)=some (.val (.int .i64 i))→s.defers=[]→
  Run E1 mi s fun e s'=>s'.defers=[]∧(e=.exit 0∨e=.ret∧∃x,s'.eval (.t 2)=some (.val (.bool x)))
 |0,i,s,hi,h0,h5,h3,hd=>by
  have hlt:decide ((i:Int)<42)=false:=decide_eq_false om
  apply aC (rfl:mi=.loop jI)
  simp-implicitDefEqProofs only[jI,V,↓reduceIte,rA,rB,rC,reduceCtorEq,rD,rE,rF,h0,h3,hd,hlt]
 |n+1,i,s,hi,h0,h5,h3,hd=>by
  have hlt:decide ((i:Int)<42)=true:=decide_eq_true om
  have w1:IntKind.i64.wrap ((i:Int)+1)=((i+1:Nat):Int):=aE (n:=i+1) om
  obtain⟨c,hc⟩:=kw_at (i:=i) om
  obtain⟨B1,e1⟩:∃B,strEq c b=B:=⟨_,rfl⟩
  apply aC (rfl:mi=.loop jI)
  cases B1<;>simp-implicitDefEqProofs only[jI,V,↓reduceIte,rA,rB,rC,reduceCtorEq,rD,rE,rF,s_idxA,zX,h0,h3,h5,hd,hlt,w1,hc,e1]
  all_goals first
   |exact⟨_,rfl⟩
   |exact .inr ⟨_,rfl⟩
   |(refine sw b n (i+1) _ om ?_ ?_ ?_ ?_<;>simp-implicitDefEqProofs only[V,↓reduceIte,rA,rB,rC,reduceCtorEq,rD,rE,rF,h0,h5,hd])
theorem keyw_ans(b:ByteArray):∃x,∀h,RunCall E1 (.f 165) [.val (.string b)] h (.val (.bool x)) h:=by
 obtain⟨r,⟨x,hx⟩,ha⟩:=ansE (g:=165) (l:=[.val (.string b)]) (P:=fun r=>∃x,r=.val (.bool x)) f165_ok fun s hs hh hd=>by
  have h0:=hs 0 _ rfl
  simp-implicitDefEqProofs only[f165_fn,f165,V,↓reduceIte,rA,rB,rC,reduceCtorEq,rD,rE,rF,h0,hh,hd,kw_cells,kw_take]
  refine(sw b 42 0 _ om ?_ ?_ ?_ ?_).mono ?_
  ·exact U32
  ·exact U29
  ·exact U29
  ·exact U33
  ·exact U34
 subst hx
 exact⟨x,aB kr kr (mem1 (Tree.val _)) rfl (Tree.val _) ha⟩
theorem tG(b:ByteArray)(hb:b.size<2^61):∀(n i:Nat) (s:St),i+n=b.size→s.eval (.t 0)=some (.val (.string b))→s.eval (.t 3)=some (.val (.int .i64 i))→s.defers=[]→
  Run E1 nE s fun e s'=>s'.defers=[]∧(e=.exit 0∨e=.ret∧∃x,s'.eval (.t 2)=some (.val (.bool x)))
 |0,i,s,hi,h0,h3,hd=>by
  have hlt:decide ((i:Int)<(b.size:Nat))=false:=decide_eq_false om
  apply aC (rfl:nE=.loop jT)
  simp-implicitDefEqProofs only[jT,V,↓reduceIte,rA,rB,rC,reduceCtorEq,rD,rE,rF,aR,h0,h3,hd,hlt]
 |n+1,i,s,hi,h0,h3,hd=>by
  have hlt:decide ((i:Int)<(b.size:Nat))=true:=decide_eq_true om
  have w1:IntKind.i64.wrap ((i:Int)+1)=((i+1:Nat):Int):=aE (n:=i+1) om
  obtain⟨c,hc⟩:=bl (b:=b) (i:=i) om
  obtain⟨B1,e1⟩:∃B,(decide (97≤(c:Int))&&decide ((c:Int)≤122))=B:=⟨_,rfl⟩
  obtain⟨B2,e2⟩:∃B,decide ((c:Int)=95)=B:=⟨_,rfl⟩
  obtain⟨B3,e3⟩:∃B,(decide (48≤(c:Int))&&decide ((c:Int)≤57))=B:=⟨_,rfl⟩
  apply aC (rfl:nE=.loop jT)
  cases B1<;>cases B2<;>cases B3<;>simp-implicitDefEqProofs only[jT,V,↓reduceIte,rA,rB,rC,reduceCtorEq,rD,rE,rF,aR,h0,h3,hd,hlt,w1,hc,dm,ie,e1,e2,e3]
  all_goals first
   |exact⟨_,rfl⟩
   |exact .inr ⟨_,rfl⟩
   |(refine tG b hb n (i+1) _ om ?_ ?_ ?_<;>simp-implicitDefEqProofs only[V,↓reduceIte,rA,rB,rC,reduceCtorEq,rD,rE,rF,h0,hd])
theorem name_ans(b:ByteArray)(hb:b.size<2^61):∃x,∀h,RunCall E1 (.f 128) [.val (.string b)] h (.val (.bool x)) h:=by
 obtain⟨A,hA⟩:=keyw_ans b
 obtain⟨r,⟨x,hx⟩,ha⟩:=ansE (g:=128) (l:=[.val (.string b)]) (P:=fun r=>∃x,r=.val (.bool x)) f128_ok fun s hs hh hd=>by
  have h0:=hs 0 _ rfl
  by_cases hz:1≤b.size
  ·obtain⟨c,hc⟩:=bl (b:=b) (i:=0) om
   have z1:decide (1≤((b.size:Nat):Int))=true:=decide_eq_true om
   obtain⟨B0,e0⟩:∃B,decide (((b.size:Nat):Int)≤24)=B:=⟨_,rfl⟩
   obtain⟨B2,e2⟩:∃B,(decide (97≤(c:Int))&&decide ((c:Int)≤122))=B:=⟨_,rfl⟩
   cases B0<;>cases B2<;>cases A<;>try (simp-implicitDefEqProofs only[jS,f128,V,↓reduceIte,rA,rB,rC,reduceCtorEq,rD,rE,rF,h0,hh,hd,bS,dm,aA hA,hc,z1,e0,e2];exact⟨_,⟨_,rfl⟩,rfl⟩)
   simp-implicitDefEqProofs only[jS,f128,V,↓reduceIte,rA,rB,rC,reduceCtorEq,rD,rE,rF,h0,hh,hd,bS,dm,aA hA,hc,z1,e0,e2]
   refine(tG b hb (b.size-1) 1 _ om ?_ ?_ ?_).mono ?_
   ·exact U32
   ·exact U29
   ·exact U33
   ·exact U34
  ·have z1:decide (1≤((b.size:Nat):Int))=false:=decide_eq_false om
   simp-implicitDefEqProofs only[jS,f128,V,↓reduceIte,rA,rB,rC,reduceCtorEq,rD,rE,rF,h0,hh,hd,bS,z1]
   exact⟨_,⟨_,rfl⟩,rfl⟩
 subst hx
 exact⟨x,aB kr kr (mem1 (Tree.val _)) rfl (Tree.val _) ha⟩
section
variable {E:Env}{s:St}{K:St→Prop}{r:List DOp}{done:List DRec}
theorem flat1{t:Nat}{v:Value}(hv:s.eval (.t t)=some (.val v)):idsL (pickTm s.tm [t]).vals=[]:=
 nj fun i hi x hx=>by
  rw[List.mem_singleton.1 hi] at hx
  have hg:s.tm.get t=some (.val v):=hv
  rw[hg] at hx
  cases hx
  rfl
theorem flat2{t u:Nat}{v w:Value}(hv:s.eval (.t t)=some (.val v))(hw:s.eval (.t u)=some (.val w)):idsL (pickTm s.tm [t,u]).vals=[]:=
 nj fun i hi x hx=>by
  have hg:s.tm.get t=some (.val v):=hv
  have hg2:s.tm.get u=some (.val w):=hw
  simp only[List.mem_cons,List.mem_nil_iff,or_false] at hi
  rcases hi with rfl|rfl
  ·rw[hg] at hx;cases hx;rfl
  ·rw[hg2] at hx;cases hx;rfl
theorem seen_eval{l:List Nat}{t:Nat}(h:t∈l):(AM.seen s l []).tm.get t=s.tm.get t:=by
 simp only[AM.seen,bJ,if_pos h]
theorem gj{t d:Nat}{fr:List Nat}{v:Value}(hq:∀x∈done,Quiet x)(hf:∀i∈fr,i<done.length)(hv:s.eval (.t t)=some (.val v))
  (k:∀rec,Quiet rec→DrawTo E r (done++[rec]) (s.set d (.val v)) K):DrawTo E (⟨⟨some d,none,.mv (.t t)⟩,[t],fr⟩::r) done s K:=by
 have hg:s.tm.get t=some (.val v):=hv
 refine eU (v:=.val v) hq hf rfl rfl (flat1 hv) (fun _=>rfl) (fun _=>rfl) ?_ k
 simp only[runOp,St.eval,seen_eval (List.mem_singleton.2 rfl:t∈[t]),hg]
 rfl
theorem draw_mvc{d:Nat}{fr:List Nat}{v:Value}(hq:∀x∈done,Quiet x)(hf:∀i∈fr,i<done.length)
  (k:∀rec,Quiet rec→DrawTo E r (done++[rec]) (s.set d (.val v)) K):DrawTo E (⟨⟨some d,none,.mv (.c (.val v))⟩,[],fr⟩::r) done s K:=by
 refine eU (v:=.val v) hq hf rfl rfl rfl (fun _=>rfl) (fun _=>rfl) ?_ k
 rfl
theorem draw_inc{t d:Nat}{ty:TypeId}{g:Bool}{fr:List Nat}{n:Int}(hq:∀x∈done,Quiet x)(hf:∀i∈fr,i<done.length)(hv:s.eval (.t t)=some (.val (.int .i64 n)))
  (k:∀rec,Quiet rec→DrawTo E r (done++[rec]) (s.set d (.val (.int .i64 (IntKind.i64.wrap (n+1))))) K):DrawTo E (⟨⟨some d,none,.bin .add ty g (.t t) (.c (.val (.int .i64 1)))⟩,[t],fr⟩::r) done s K:=by
 have hg:s.tm.get t=some (.val (.int .i64 n)):=hv
 refine eU (v:=.val (.int .i64 (IntKind.i64.wrap (n+1)))) hq hf rfl rfl (flat1 hv) (fun _=>rfl) (fun _=>rfl) ?_ k
 simp only[runOp,St.eval,seen_eval (List.mem_singleton.2 rfl:t∈[t]),hg,v_add]
 rfl
theorem draw_to{t u d:Nat}{fr:List Nat}{b:ByteArray}{i:Nat}{v:Value}(hq:∀x∈done,Quiet x)(hf:∀i∈fr,i<done.length)(hv:s.eval (.t t)=some (.val (.string b)))(hw:s.eval (.t u)=some (.val (.int .i64 (i:Nat))))
  (hs:sliceStrV (.val (.string b)) none (some i)=some (.val v))
  (k:∀rec,Quiet rec→DrawTo E r (done++[rec]) (s.set d (.val v)) K):DrawTo E (⟨⟨some d,none,.sliceStr (.t t) none (some (.t u))⟩,[t,u],fr⟩::r) done s K:=by
 have hg:s.tm.get t=some (.val (.string b)):=hv
 have hg2:s.tm.get u=some (.val (.int .i64 (i:Nat))):=hw
 refine eU (v:=.val v) hq hf rfl rfl (flat2 hv hw) (fun _=>rfl) (fun _=>rfl) ?_ k
 simp only[runOp,St.eval,optN,seen_eval (List.mem_cons_self:t∈[t,u]),seen_eval (List.mem_cons_of_mem _ (List.mem_singleton.2 rfl):u∈[t,u]),hg,hg2,zL,Option.map_some]
 simp only[sliceStrV] at hs
 cases hb:sliceB b.size b.size none (some i) none with
 |none=>rw[hb] at hs;cases hs
 |some q=>rw[hb] at hs;cases hs;rfl
theorem draw_from{t u d:Nat}{fr:List Nat}{b:ByteArray}{i:Nat}{v:Value}(hq:∀x∈done,Quiet x)(hf:∀i∈fr,i<done.length)(hv:s.eval (.t t)=some (.val (.string b)))(hw:s.eval (.t u)=some (.val (.int .i64 (i:Nat))))
  (hs:sliceStrV (.val (.string b)) (some i) none=some (.val v))
  (k:∀rec,Quiet rec→DrawTo E r (done++[rec]) (s.set d (.val v)) K):DrawTo E (⟨⟨some d,none,.sliceStr (.t t) (some (.t u)) none⟩,[t,u],fr⟩::r) done s K:=by
 have hg:s.tm.get t=some (.val (.string b)):=hv
 have hg2:s.tm.get u=some (.val (.int .i64 (i:Nat))):=hw
 refine eU (v:=.val v) hq hf rfl rfl (flat2 hv hw) (fun _=>rfl) (fun _=>rfl) ?_ k
 simp only[runOp,St.eval,optN,seen_eval (List.mem_cons_self:t∈[t,u]),seen_eval (List.mem_cons_of_mem _ (List.mem_singleton.2 rfl):u∈[t,u]),hg,hg2,zL,Option.map_some]
 simp only[sliceStrV] at hs
 cases hb:sliceB b.size b.size (some i) none none with
 |none=>rw[hb] at hs;cases hs
 |some q=>rw[hb] at hs;cases hs;rfl
end
theorem slice_to{b:ByteArray}{i:Nat}(h:i≤b.size):sliceStrV (.val (.string b)) none (some i)=some (.val (.string (b.extract 0 i))):=by
 have h1:Nat.ble b.size b.size=true:=Nat.ble_eq.mpr (Nat.le_refl _)
 have h2:Nat.ble i b.size=true:=Nat.ble_eq.mpr h
 have h3:Nat.ble 0 i=true:=Nat.ble_eq.mpr (Nat.zero_le _)
 simp only[sliceStrV,sliceB,Option.getD_none,Option.getD_some,h1,h2,h3,Option.isNone_none,Bool.true_or,Bool.and_self,cond_true,Option.map_some]
theorem yq{b:ByteArray}{i:Nat}(h:i≤b.size):sliceStrV (.val (.string b)) (some i) none=some (.val (.string (b.extract i b.size))):=U1
theorem f127_draw(b:ByteArray)(i:Nat)(hi:i<b.size)(hb:b.size<2^61)(s:St)(h0:s.eval (.t 0)=some (.val (.string b)))(h5:s.eval (.t 5)=some (.val (.int .i64 (i:Nat))))(hd:s.defers=[]):
  Run E1 nF s fun e s'=>e=.normal∧s'.defers=[]∧s'.eval (.t 2)=some (.val (.string (b.extract 0 i)))∧s'.eval (.t 3)=some (.val (.string (b.extract (i+1) b.size)))∧s'.eval (.t 4)=some (.val (.bool true)):=by
 have w1:IntKind.i64.wrap ((i:Int)+1)=((i+1:Nat):Int):=aE (n:=i+1) om
 refine az ?_
 refine gj (v:=.string b) (by simp) (by simp) h0 fun r1 q1=>?_
 refine gj (v:=.int .i64 (i:Nat)) (by simp[q1]) (by simp) U35 fun r2 q2=>?_
 refine draw_to (b:=b) (i:=i) (by simp[q1,q2]) (by simp) U28 U28 (slice_to om) fun r3 q3=>?_
 refine gj (v:=.string b) (by simp[q1,q2,q3]) (by simp) U32 fun r4 q4=>?_
 refine gj (v:=.int .i64 (i:Nat)) (by simp[q1,q2,q3,q4]) (by simp) U35 fun r5 q5=>?_
 refine draw_inc (n:=i) (by simp[q1,q2,q3,q4,q5]) (by simp) U28 fun r6 q6=>?_
 rw[w1]
 refine draw_from (b:=b) (i:=i+1) (by simp[q1,q2,q3,q4,q5,q6]) (by simp) U28 U28 (yq om) fun r7 q7=>?_
 refine gj (v:=.string (b.extract 0 i)) (by simp[q1,q2,q3,q4,q5,q6,q7]) (by simp) U28 fun r8 q8=>?_
 refine gj (v:=.string (b.extract (i+1) b.size)) (by simp[q1,q2,q3,q4,q5,q6,q7,q8]) (by simp) U28 fun r9 q9=>?_
 refine draw_mvc (by simp[q1,q2,q3,q4,q5,q6,q7,q8,q9]) (by simp) fun r10 q10=>?_
 refine bV ?_
 exact U33
theorem tH(b:ByteArray)(hb:b.size<2^61):∀(n i:Nat) (s:St),i+n=b.size→s.eval (.t 0)=some (.val (.string b))→s.eval (.t 5)=some (.val (.int .i64 i))→s.defers=[]→
  Run E1 jU s fun e s'=>s'.defers=[]∧(e=.exit 0∧s'.eval (.t 0)=some (.val (.string b))∨e=.ret∧∃x y m,x.size≤b.size∧y.size≤b.size∧(m=true→y.size<b.size)∧s'.eval (.t 2)=some (.val (.string x))∧s'.eval (.t 3)=some (.val (.string y))∧s'.eval (.t 4)=some (.val (.bool m)))
 |0,i,s,hi,h0,h5,hd=>by
  have hlt:decide ((i:Int)<(b.size:Nat))=false:=decide_eq_false om
  apply aC (rfl:jU=.loop dy)
  simp-implicitDefEqProofs only[dy,V,↓reduceIte,rA,rB,rC,reduceCtorEq,rD,rE,rF,aR,h0,h5,hd,hlt]
 |n+1,i,s,hi,h0,h5,hd=>by
  have hlt:decide ((i:Int)<(b.size:Nat))=true:=decide_eq_true om
  have w1:IntKind.i64.wrap ((i:Int)+1)=((i+1:Nat):Int):=aE (n:=i+1) om
  obtain⟨c,hc⟩:=bl (b:=b) (i:=i) om
  obtain⟨B1,e1⟩:∃B,decide ((c:Int)=46)=B:=⟨_,rfl⟩
  have wd:∀(s:St) Q,wp E1 nF s Q=Run E1 nF s Q:=fun _ _=>rfl
  apply aC (rfl:jU=.loop dy)
  cases B1 with
  |false=>
   simp-implicitDefEqProofs only[dy,V,↓reduceIte,rA,rB,rC,reduceCtorEq,rD,rE,rF,aR,h0,h5,hd,hlt,w1,hc,e1]
   refine tH b hb n (i+1) _ om ?_ ?_ ?_<;>simp-implicitDefEqProofs only[V,↓reduceIte,rA,rB,rC,reduceCtorEq,rD,rE,rF,h0,hd]
  |true=>
   simp-implicitDefEqProofs only[dy,V,↓reduceIte,rA,rB,rC,reduceCtorEq,rD,rE,rF,aR,h0,h5,hd,hlt,w1,hc,e1,wd]
   refine(f127_draw b i om hb _ ?_ ?_ ?_).mono ?_
   ·exact U32
   ·exact U35
   ·exact U33
   ·rintro e s' ⟨rfl,g1,g2,g3,g4⟩
    simp-implicitDefEqProofs only[V,↓reduceIte,rA,rB,rC,reduceCtorEq,rD,rE,rF,g1]
    refine .inr ⟨_,_,_,?_,?_,fun _=>?_,g2,g3,g4⟩
    ·simp only[ByteArray.size_extract];omega
    ·simp only[ByteArray.size_extract];omega
    ·simp only[ByteArray.size_extract];omega
theorem ansEs{g:Nat}{l:List AV}{a:AFun}{P:List AV→Prop}(hf:funOf Tryz.prog g=some a)
  (h:∀s:St,(∀i v,(enterTm l 0 .nil).get i=some v→s.eval (.t i)=some v)→s.h=.empty→s.defers=[]→wp E1 a.body s fun e s=>(e=.normal∨e=.ret)∧s.defers=[]∧∃r,P r∧resultsA E1.globs s a.res=some r):∃r,P r∧Ans E1 g l (oneOrTup r):=by
 obtain⟨e,s',x,y1,y2,r,hp,y3⟩:=bZ _ _ _ (h {tm:=enterTm l 0 .nil,h:=.empty,defers:=[],round:=none} (fun _ _ h=>h) rfl rfl)
 refine⟨r,hp,s'.h,x.mono fun n p=>?_⟩
 have hl:leaveA E1 a s'=some (oneOrTup r,s'.h):=by
  obtain⟨tm,h1,df,rd⟩:=s'
  subst y2
  simp only[leaveA,runDefers,y3]
 simp only[enterA,(show funOf E1.P g=some a by rw[E1_P];exact hf),p]
 rcases y1 with rfl|rfl<;>exact hl
theorem cut_ans(b:ByteArray)(hb:b.size<2^61):∃(x y:ByteArray) (m:Bool),x.size≤b.size∧y.size≤b.size∧(m=true→y.size<b.size)∧∀h,RunCall E1 (.f 127) [.val (.string b)] h (.tup [.val (.string x),.val (.string y),.val (.bool m)]) h:=by
 obtain⟨r,⟨x,y,m,hx,hy,hm,hr⟩,ha⟩:=ansEs (g:=127) (l:=[.val (.string b)]) (P:=fun r=>∃(x y:ByteArray) (m:Bool),x.size≤b.size∧y.size≤b.size∧(m=true→y.size<b.size)∧r=[.val (.string x),.val (.string y),.val (.bool m)]) f127_ok fun s hs hh hd=>by
  have h0:=hs 0 _ rfl
  simp-implicitDefEqProofs only[va,f127,V,↓reduceIte,rA,rB,rC,reduceCtorEq,rD,rE,rF,h0,hh,hd]
  refine(tH b hb b.size 0 _ om ?_ ?_ ?_).mono ?_
  ·exact U32
  ·exact U29
  ·exact U33
  ·rintro e s' ⟨hf,⟨rfl,g0⟩|⟨rfl,x,y,m,hx,hy,hm,g2,g3,g4⟩⟩
   ·have:Nat.beq 0 0=true:=rfl
    simp-implicitDefEqProofs only[V,↓reduceIte,rA,rB,rC,reduceCtorEq,rD,rE,rF,this,hf,g0]
    exact⟨_,⟨b,⟨#[]⟩,false,Nat.le_refl _,Nat.zero_le _,fun h=>(by cases h),rfl⟩,rfl⟩
   ·simp-implicitDefEqProofs only[V,↓reduceIte,rA,rB,rC,reduceCtorEq,rD,rE,rF,hf,g2,g3,g4]
    exact⟨_,⟨x,y,m,hx,hy,hm,rfl⟩,rfl⟩
 subst hr
 exact⟨x,y,m,hx,hy,hm,aB kr kr (mem1 (Tree.val _)) rfl (Tree.three _ _ _) ha⟩
end Go.Proofs.YtkhblipgiijoiaaGreatDoor
namespace Go.Proofs.YtkhblipgiijoiaaGreatDoor
open Go Go.AM
set_option maxHeartbeats 4000000
theorem pZ:∀(n:Nat) (y:ByteArray) (m:Bool) (s:St),(m=true→y.size<n)→y.size<2^61→s.eval (.t 4)=some (.val (.string y))→s.eval (.t 5)=some (.val (.bool m))→s.defers=[]→
  Run E1 uh s fun e s'=>s'.defers=[]∧(e=.exit 0∨e=.ret∧∃x,s'.eval (.t 2)=some (.val (.int .i64 x)))
 |n,y,false,s,hn,hb,h4,h5,hd=>by
  apply aC (rfl:uh=.loop pb)
  simp-implicitDefEqProofs only[pb,V,↓reduceIte,rA,rB,rC,reduceCtorEq,rD,rE,rF,h4,h5,hd]
 |0,y,true,s,hn,hb,h4,h5,hd=>absurd (hn rfl) (Nat.not_lt_zero _)
 |n+1,y,true,s,hn,hb,h4,h5,hd=>by
  obtain⟨x,z,m,hx,hz,hm,hr⟩:=cut_ans y hb
  obtain⟨A,hA⟩:=tX x om
  obtain⟨B,hB⟩:=word_ans x om
  obtain⟨S,hS⟩:∃S,(decide (1≤((x.size:Nat):Int))&&decide (((x.size:Nat):Int)≤24))=S:=⟨_,rfl⟩
  have hlt:y.size<n+1:=hn rfl
  apply aC (rfl:uh=.loop pb)
  cases S<;>cases A<;>cases B<;>simp-implicitDefEqProofs only[pb,V,↓reduceIte,rA,rB,rC,reduceCtorEq,rD,rE,rF,h4,h5,hd,aA hr,aA hA,aA hB,bS,hS]
  all_goals first
   |exact⟨_,rfl⟩
   |exact .inr ⟨_,rfl⟩
   |(refine pZ n z m _ (fun e=>by have:=hm e;omega) om ?_ ?_ ?_<;>simp-implicitDefEqProofs only[V,↓reduceIte,rA,rB,rC,reduceCtorEq,rD,rE,rF,hd])
theorem ff (b : ByteArray) : ∃ x, ∀ h, RunCall E1 (.f 83) [.val (.string b)] h (.val (.int .i64 x)) h := by
  obtain ⟨r, ⟨x, hx⟩, ha⟩ := ansE (g := 83) (l := [.val (.string b)]) (P := fun r => ∃ x, r = .val (.int .i64 x)) f83_ok fun s hs hh hd => by
    have h0 := hs 0 _ rfl
    by_cases hz : 120 < b.size
    · have z1 : decide (120 < ((b.size : Nat) : Int)) = true := decide_eq_true om
      simp -implicitDefEqProofs only [uj, f83, V, ↓reduceIte, rA, rB, rC, reduceCtorEq, rD, rE, rF, aR, h0, hh, hd, z1]
      exact ⟨_, ⟨_, rfl⟩, rfl⟩
    · have z1 : decide (120 < ((b.size : Nat) : Int)) = false := decide_eq_false om
      obtain ⟨x, y, m, hx, hy, hm, hr⟩ := cut_ans b om
      obtain ⟨A, hA⟩ := name_ans x om
      obtain ⟨T, hT⟩ := title_ans x om
      obtain ⟨Vx, hV⟩ : ∃ Vx, strEq x ⟨#[118]⟩ = Vx := ⟨_, rfl⟩
      cases A <;> cases T <;> cases Vx <;> cases m <;> simp -implicitDefEqProofs only [uj, f83, V, ↓reduceIte, rA, rB, rC, reduceCtorEq, rD, rE, rF, aR, h0, hh, hd, z1, aA hr, aA hA, aA hT, hV]
      all_goals first
        | exact ⟨_, ⟨_, rfl⟩, rfl⟩
        | (refine (pZ (y.size + 1) y true _ (fun _ => by omega) om ?_ ?_ ?_).mono ?_
           ·exact U36
           ·exact U36
           ·exact U37
           · rintro e s' ⟨hf, rfl | ⟨rfl, x, h2⟩⟩
             ·exact U38
             · simp -implicitDefEqProofs only [V, ↓reduceIte, rA, rB, rC, reduceCtorEq, rD, rE, rF, hf, h2]
               exact ⟨_, ⟨_, rfl⟩, rfl⟩)
        | (refine (pZ (y.size + 1) y false _ (fun _ => by omega) om ?_ ?_ ?_).mono ?_
           ·exact U36
           ·exact U36
           ·exact U37
           · rintro e s' ⟨hf, rfl | ⟨rfl, x, h2⟩⟩
             ·exact U38
             · simp -implicitDefEqProofs only [V, ↓reduceIte, rA, rB, rC, reduceCtorEq, rD, rE, rF, hf, h2]
               exact ⟨_, ⟨_, rfl⟩, rfl⟩)
  subst hx
  exact ⟨x, aB kr kr (mem1 (Tree.val _)) rfl (Tree.val _) ha⟩
end Go.Proofs.YtkhblipgiijoiaaGreatDoor
