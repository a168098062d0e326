/- ZByte ZAlnum ZKeyw ZName ZCut ZCore ZRefn ZRefc ZNamed -/
import Derived.Test.YtkhblipgiijoiaaGreatDoorU0
import Derived.Test.YtkhblipgiijoiaaGreatDoorW1
import Derived.Test.YtkhblipgiijoiaaGreatDoorD1
import Derived.Test.YtkhblipgiijoiaaGreatDoorN1

set_option linter.all false
open Nat renaming reduceEqDiff → rA, reduceAdd → rB, reduceMul → rC
open Int renaming reduceEq → rD, reduceLT → rE, reduceLE → rF
open Bool renaming and_self → iu, false_and → jw, not_false → jv, true_and → jj
open List renaming all_cons → iv, all_nil → is, append_assoc → jk, append_nil → iz, drop_drop → Am, drop_eq_nil_iff → jz, drop_eq_nil_of_le → B5, getElem?_drop → A1, length_cons → il, length_drop → Az, length_map → jp, mem_cons_of_mem → j4, mem_cons_self → ik, mem_singleton → ig, nil_append → im, take_of_length_le → ji, take_zero → jg
open Nat renaming beq → i8, ble → ia, ble_eq → ir, le_refl → ib, lt_or_ge → jt, reduceBEq → Bp, zero_le → ic
open Option renaming map_some → jd
namespace Go.Proofs.YtkhblipgiijoiaaGreatDoor
open Go Go.AM
set_option maxHeartbeats 4000000
variable [KR]
theorem zk(c:Int)(h:AH):RunCall E1 (.f 164) [.val (.int .u8 c)] h (vB (decide (97≤c)&&decide (c≤122))) h:=by
 refine aC kr kr (aN (Tree.val _)) rfl (Tree.val _) (ah aCI fun s hs hh hd=>?_) h;have h0:=hs 0 _ rfl;cases a:decide (97≤c)<;>cases b:decide (c≤122)<;>simp-implicitDefEqProofs only[Nu,f164,V,↓reduceIte,rA,reduceCtorEq,h0,hd,a,b]
theorem cz{c:Int}{r:List AOper}{s:St}{dst:Option Nat}{K:St→Prop}:aM E1 164 r s dst K (some [.val (.int .u8 c)])=AM.wpOps E1 r (s.put dst (vB (decide (97≤c)&&decide (c≤122)))) K:=aA (zk c)
theorem zj(c:Int)(h:AH):RunCall E1 (.f 166) [.val (.int .u8 c)] h (vB (decide (48≤c)&&decide (c≤57))) h:=by
 refine aC kr kr (aN (Tree.val _)) rfl (Tree.val _) (ah aCG fun s hs hh hd=>?_) h;have h0:=hs 0 _ rfl;cases a:decide (48≤c)<;>cases b:decide (c≤57)<;>simp-implicitDefEqProofs only[Ns,f166,V,↓reduceIte,rA,reduceCtorEq,h0,hd,a,b]
theorem kC{c:Int}{r:List AOper}{s:St}{dst:Option Nat}{K:St→Prop}:aM E1 166 r s dst K (some [.val (.int .u8 c)])=AM.wpOps E1 r (s.put dst (vB (decide (48≤c)&&decide (c≤57)))) K:=aA (zj c)
theorem zh(c:Int)(h:AH):RunCall E1 (.f 167) [.val (.int .u8 c)] h (vB (decide (65≤c)&&decide (c≤90))) h:=by
 refine aC kr kr (aN (Tree.val _)) rfl (Tree.val _) (ah aCF fun s hs hh hd=>?_) h;have h0:=hs 0 _ rfl;cases a:decide (65≤c)<;>cases b:decide (c≤90)<;>simp-implicitDefEqProofs only[Nr,f167,V,↓reduceIte,rA,reduceCtorEq,h0,hd,a,b]
theorem fP{c:Int}{r:List AOper}{s:St}{dst:Option Nat}{K:St→Prop}:aM E1 167 r s dst K (some [.val (.int .u8 c)])=AM.wpOps E1 r (s.put dst (vB (decide (65≤c)&&decide (c≤90)))) K:=aA (zh c)
theorem zf(c:Int)(h:AH):RunCall E1 (.f 169) [.val (.int .u8 c)] h (vB (decide (97≤c)&&decide (c≤122))) h:=by
 refine aC kr kr (aN (Tree.val _)) rfl (Tree.val _) (ah aCD fun s hs hh hd=>?_) h;have h0:=hs 0 _ rfl;cases a:decide (97≤c)<;>cases b:decide (c≤122)<;>simp-implicitDefEqProofs only[Np,f169,V,↓reduceIte,rA,reduceCtorEq,h0,hd,a,b]
theorem cJ{c:Int}{r:List AOper}{s:St}{dst:Option Nat}{K:St→Prop}:aM E1 169 r s dst K (some [.val (.int .u8 c)])=AM.wpOps E1 r (s.put dst (vB (decide (97≤c)&&decide (c≤122)))) K:=aA (zf c)
theorem ze(c:Int)(h:AH):RunCall E1 (.f 171) [.val (.int .u8 c)] h (vB (decide (48≤c)&&decide (c≤57))) h:=by
 refine aC kr kr (aN (Tree.val _)) rfl (Tree.val _) (ah aCB fun s hs hh hd=>?_) h;have h0:=hs 0 _ rfl;cases a:decide (48≤c)<;>cases b:decide (c≤57)<;>simp-implicitDefEqProofs only[Nm,f171,V,↓reduceIte,rA,reduceCtorEq,h0,hd,a,b]
theorem kB{c:Int}{r:List AOper}{s:St}{dst:Option Nat}{K:St→Prop}:aM E1 171 r s dst K (some [.val (.int .u8 c)])=AM.wpOps E1 r (s.put dst (vB (decide (48≤c)&&decide (c≤57)))) K:=aA (ze c)
theorem zd(c:Int)(h:AH):RunCall E1 (.f 172) [.val (.int .u8 c)] h (vB (decide (65≤c)&&decide (c≤90))) h:=by
 refine aC kr kr (aN (Tree.val _)) rfl (Tree.val _) (ah aCA fun s hs hh hd=>?_) h;have h0:=hs 0 _ rfl;cases a:decide (65≤c)<;>cases b:decide (c≤90)<;>simp-implicitDefEqProofs only[Nl,f172,V,↓reduceIte,rA,reduceCtorEq,h0,hd,a,b]
theorem fO{c:Int}{r:List AOper}{s:St}{dst:Option Nat}{K:St→Prop}:aM E1 172 r s dst K (some [.val (.int .u8 c)])=AM.wpOps E1 r (s.put dst (vB (decide (65≤c)&&decide (c≤90)))) K:=aA (zd c)
theorem ae{b:ByteArray}:lenStrV (vS b)=some (vI (b.size:Nat)):=rfl
theorem uI(b:ByteArray)(h:AH):RunCall E1 (.f 130) [vS b] h (vB (decide (1≤((b.size:Nat):Int))&&decide (((b.size:Nat):Int)≤24))) h:=by
 refine aC kr kr (aN (Tree.val _)) rfl (Tree.val _) (ah aDC fun s hs hh hd=>?_) h;have h0:=hs 0 _ rfl;cases x:decide (1≤((b.size:Nat):Int))<;>cases y:decide (((b.size:Nat):Int)≤24)<;>simp-implicitDefEqProofs only[Ok,f130,V,↓reduceIte,rA,reduceCtorEq,ae,h0,hd,x,y]
theorem bI{b:ByteArray}{r:List AOper}{s:St}{dst:Option Nat}{K:St→Prop}:aM E1 130 r s dst K (some [vS b])=AM.wpOps E1 r (s.put dst (vB (decide (1≤((b.size:Nat):Int))&&decide (((b.size:Nat):Int)≤24)))) K:=aA (uI b)
def lowB(c:UInt8):Bool:=decide (97≤((c.toNat:Nat):Int))&&decide (((c.toNat:Nat):Int)≤122)
def capB(c:UInt8):Bool:=decide (65≤((c.toNat:Nat):Int))&&decide (((c.toNat:Nat):Int)≤90)
def digB(c:UInt8):Bool:=decide (48≤((c.toNat:Nat):Int))&&decide (((c.toNat:Nat):Int)≤57)
def undB(c:UInt8):Bool:=decide (((c.toNat:Nat):Int)=95)
def dotB(c:UInt8):Bool:=decide (((c.toNat:Nat):Int)=46)
abbrev bs(b:ByteArray):List UInt8:=b.data.toList
theorem m5{b:ByteArray}:(bs b).length=b.size:=by simp[bs]
theorem cE{b:ByteArray}{i:Nat}{c:UInt8}{r:List UInt8}(h:(bs b).drop i=c::r):idxStrV (vS b) i=some (.val (.int .u8 ((c.toNat:Nat):Int))):=by
 have h2:(bs b)[i]? =some c:=by
  have:=A1 (xs:=bs b) (i:=i) (j:=0);rw[h] at this
  simpa using this.symm
 simp only[idxStrV,show b.data.toList[i]? =some c from h2,jd]
theorem nn{b:ByteArray}{i:Nat}(h:(bs b).drop i=[]):decide ((i:Int)<((b.size:Nat):Int))=false:=by
 have:=jz.1 h;rw[m5] at this;exact decide_eq_false om
theorem cC{b:ByteArray}{i:Nat}{c:UInt8}{r:List UInt8}(h:(bs b).drop i=c::r):(bs b).drop (i+1)=r:=by rw[←Am,h];rfl
theorem nk{b:ByteArray}{i:Nat}{c:UInt8}{r:List UInt8}(h:(bs b).drop i=c::r):i<b.size:=by
 rcases jt i (bs b).length with h1|h1
 ·rw[←m5];exact h1
 ·rw[B5 h1] at h;cases h
def fnd(b:ByteArray):List ByteArray→Option Nat
 | []=>none
 |a::r=>bif strEq b a then some 0 else(fnd b r).map (· +1)
def fndI(b:ByteArray)(l:List ByteArray):Int:=match fnd b l with
 |some i=>(i:Nat)
 |none=> -1
theorem nG{k:ByteArray}{l:List AV}:takeN none (strA k++l)=some (vS k):=rfl
theorem Tree.vl{α:Type}{f:α→List AV}{v:Vl α}:Tree (v.A f):=Vl.leaf.tree
theorem aH{α:Type}{l r:List α}{k:α}{i:Nat}(h:l.drop i=k::r):i<l.length:=by
 rcases jt i l.length with x|x
 ·exact x
 ·exact U29
theorem aF{α:Type}{l r:List α}{k:α}{i:Nat}(h:l.drop i=k::r):l.drop (i+1)=r:=by rw[←Am,h];rfl
theorem aG{α:Type}{l:List α}{i:Nat}(h:l.drop i=[])(hi:i≤l.length):i=l.length:=by
 have:=jz.1 h;omega
theorem bD{i n:Nat}(h:i<n):decide ((i:Int)<(n:Int))=true:=decide_eq_true om
theorem bA{n:Nat}:decide ((n:Int)<(n:Int))=false:=decide_eq_false om
theorem Yt{g:Nat}{l:List AV}{a:AFun}{P:AV→Prop}(hf:funOf Tryz.prog g=some a)
  (h:∀s:St,(∀i v,(enterTm l 0 .nil).get i=some v→s.eval (.t i)=some v)→s.h=.empty→s.defers=[]→wp E1 a.body s fun e s=>(e=.normal∨e=.ret)∧s.defers=[]∧∃r,P r∧resultsA E1.globs s a.res=some [r]):∃r,P r∧Ans E1 g l r:=by
 obtain⟨e,s',x,y1,y2,r,hp,y3⟩:=ay _ _ _ (h {tm:=enterTm l 0 .nil,h:=.empty,defers:=[],round:=none} (fun _ _ h=>h) rfl rfl);refine⟨r,hp,s'.h,x.mono fun n p=>?_⟩;have hl:leaveA E1 a s'=some (r,s'.h):=by
  obtain⟨tm,h1,df,rd⟩:=s';subst y2;simp only[leaveA,runDefers,y3];rfl
 simp only[enterA,(show funOf E1.P g=some a by rw[Sw];exact hf),p]
 rcases y1 with rfl|rfl<;>exact hl
def alnB(c:UInt8):Bool:=lowB c||capB c||digB c
theorem wk(b:ByteArray)(hb:b.size<2^61):∀(r:List UInt8) (i:Nat) (s:St),(bs b).drop i=r→s.eval (.t 0)=some (vS b)→s.eval (.t 3)=some (vI i)→s.defers=[]→
  Run E1 pj s fun e s'=>s'.defers=[]∧((r.all alnB=true∧e=.exit 0)∨(r.all alnB=false∧e=.ret∧s'.eval (.t 2)=some (vB false)))
 | [],i,s,hi,h0,h3,hd=>by
  have hlt:=nn hi;apply aB (rfl:pj=.loop lG);simp-implicitDefEqProofs only[lG,V,↓reduceIte,rA,reduceCtorEq,ae,h0,h3,hd,hlt,is]
 |c::r,i,s,hi,h0,h3,hd=>by
  have hl:=nk hi;have hlt:decide ((i:Int)<(b.size:Nat))=true:=decide_eq_true om;have w1:IntKind.i64.wrap ((i:Int)+1)=((i+1:Nat):Int):=aD (n:=i+1) om;have hc:=cE hi;obtain⟨B1,e1⟩:∃B,(decide (97≤((c.toNat:Nat):Int))&&decide (((c.toNat:Nat):Int)≤122))=B:=⟨_,rfl⟩;obtain⟨B2,e2⟩:∃B,(decide (65≤((c.toNat:Nat):Int))&&decide (((c.toNat:Nat):Int)≤90))=B:=⟨_,rfl⟩;obtain⟨B3,e3⟩:∃B,(decide (48≤((c.toNat:Nat):Int))&&decide (((c.toNat:Nat):Int)≤57))=B:=⟨_,rfl⟩;have ea:alnB c=(B1||B2||B3):=by rw[←e1,←e2,←e3];rfl
  apply aB (rfl:pj=.loop lG);rw[iv,ea];cases B1<;>cases B2<;>cases B3<;>simp-implicitDefEqProofs only[lG,V,↓reduceIte,rA,reduceCtorEq,ae,h0,h3,hd,hlt,w1,hc,cz,kC,fP,e1,e2,e3]
  all_goals try (refine wk b hb r (i+1) _ (cC hi) ?_ ?_ ?_<;>simp-implicitDefEqProofs only[V,↓reduceIte,reduceCtorEq,h0,hd])
theorem iU(b:ByteArray)(hb:b.size<2^61)(h:AH):RunCall E1 (.f 131) [vS b] h (vB ((bs b).all alnB)) h:=by
 refine ai kr aDB (aN (Tree.val _)) rfl (Tree.val _) (fun s hs hh hd hr=>?_) h;have h0:=hs 0 _ rfl;simp-implicitDefEqProofs only[Oj,f131,V];refine(wk b hb (bs b) 0 _ rfl ?_ ?_ ?_).mono ?_
 ·exact U41
 ·exact U37
 ·exact U40
 ·exact U42
def wordL:Bool→List UInt8→Bool
 |_,[]=>true
 |z,c::r=>(lowB c||(!z&&(digB c||undB c)))&&wordL false r
theorem wj(b:ByteArray)(hb:b.size<2^61):∀(r:List UInt8) (i:Nat) (s:St),(bs b).drop i=r→s.eval (.t 0)=some (vS b)→s.eval (.t 3)=some (vI i)→s.defers=[]→
  Run E1 ph s fun e s'=>s'.defers=[]∧((wordL (decide ((i:Int)=0)) r=true∧e=.exit 0)∨(wordL (decide ((i:Int)=0)) r=false∧e=.ret∧s'.eval (.t 2)=some (vB false)))
 | [],i,s,hi,h0,h3,hd=>by
  have hlt:=nn hi;apply aB (rfl:ph=.loop lF);simp-implicitDefEqProofs only[lF,V,↓reduceIte,rA,reduceCtorEq,ae,h0,h3,hd,hlt,wordL]
 |c::r,i,s,hi,h0,h3,hd=>by
  have hl:=nk hi;have hlt:decide ((i:Int)<(b.size:Nat))=true:=decide_eq_true om;have w1:IntKind.i64.wrap ((i:Int)+1)=((i+1:Nat):Int):=aD (n:=i+1) om;have hc:=cE hi;obtain⟨B1,e1⟩:∃B,(decide (97≤((c.toNat:Nat):Int))&&decide (((c.toNat:Nat):Int)≤122))=B:=⟨_,rfl⟩;obtain⟨B2,e2⟩:∃B,decide (((c.toNat:Nat):Int)=95)=B:=⟨_,rfl⟩;obtain⟨B4,e4⟩:∃B,decide ((i:Int)=0)=B:=⟨_,rfl⟩;obtain⟨B3,e3⟩:∃B,(decide (48≤((c.toNat:Nat):Int))&&decide (((c.toNat:Nat):Int)≤57))=B:=⟨_,rfl⟩;have ea:(lowB c||(!B4&&(digB c||undB c)))=(B1||(!B4&&(B3||B2))):=by rw[←e1,←e2,←e3];rfl
  have i1:decide (((i+1:Nat):Int)=0)=false:=decide_eq_false om;apply aB (rfl:ph=.loop lF);rw[wordL,e4,ea];cases B1<;>cases B2<;>cases B3<;>cases B4<;>simp-implicitDefEqProofs only[lF,V,↓reduceIte,rA,reduceCtorEq,ae,h0,h3,hd,hlt,w1,hc,cz,kC,e1,e2,e3,e4]
  all_goals try (rw[←i1];refine wj b hb r (i+1) _ (cC hi) ?_ ?_ ?_<;>simp-implicitDefEqProofs only[V,↓reduceIte,reduceCtorEq,h0,hd])
theorem xH(b:ByteArray)(hb:b.size<2^61)(h:AH):RunCall E1 (.f 132) [vS b] h (vB (wordL true (bs b))) h:=by
 refine ai kr aDA (aN (Tree.val _)) rfl (Tree.val _) (fun s hs hh hd hr=>?_) h;have h0:=hs 0 _ rfl;simp-implicitDefEqProofs only[Oi,f132,V];refine(wj b hb (bs b) 0 _ rfl ?_ ?_ ?_).mono ?_
 ·exact U41
 ·exact U37
 ·exact U40
 ·rintro e s' ⟨hf,⟨q,rfl⟩|⟨q,rfl,h2⟩⟩
  ·have:i8 0 0=true:=rfl;have q:wordL true (bs b)=true:=q;exact U151
  ·have q:wordL true (bs b)=false:=q;exact U152
def headB(f:UInt8→Bool):List UInt8→Bool
 | []=>false
 |c::_=>f c
def sizedB(b:ByteArray):Bool:=decide (1≤((b.size:Nat):Int))&&decide (((b.size:Nat):Int)≤24)
def ttlW(b:ByteArray):Bool:=strEq b ⟨#[73,110,116]⟩||strEq b ⟨#[66,111,111,108]⟩||strEq b ⟨#[67,101,108,108]⟩||strEq b ⟨#[70,117,110]⟩
def titleB(b:ByteArray):Bool:=sizedB b&&headB capB (bs b)&&(bs b).all alnB&& !ttlW b
theorem d4{b:ByteArray}(h:1≤b.size):∃c r,(bs b).drop 0=c::r∧bs b=c::r:=by
 cases hb:bs b with
 |nil=>rw[←m5,hb] at h;exact absurd h de
 |cons c r=>exact⟨c,r,rfl,rfl⟩
theorem uH(b:ByteArray)(hb:b.size<2^61)(h:AH):RunCall E1 (.f 129) [vS b] h (vB (titleB b)) h:=by
 have hA:=iU b hb;refine ai kr aDD (aN (Tree.val _)) rfl (Tree.val _) (fun s hs hh hd hr=>?_) h;have h0:=hs 0 _ rfl
 by_cases hz:1≤b.size
 ·obtain⟨c,r,hi,hl⟩:=d4 hz;have hc:=cE hi;have z1:decide (1≤((b.size:Nat):Int))=true:=decide_eq_true om;obtain⟨B0,e0⟩:∃B,decide (((b.size:Nat):Int)≤24)=B:=⟨_,rfl⟩;obtain⟨B2,e2⟩:∃B,(decide (65≤((c.toNat:Nat):Int))&&decide (((c.toNat:Nat):Int)≤90))=B:=⟨_,rfl⟩;obtain⟨A,ea⟩:∃B,(bs b).all alnB=B:=⟨_,rfl⟩;obtain⟨s1,q1⟩:∃B,strEq b ⟨#[73,110,116]⟩=B:=⟨_,rfl⟩;obtain⟨s2,q2⟩:∃B,strEq b ⟨#[66,111,111,108]⟩=B:=⟨_,rfl⟩;obtain⟨s3,q3⟩:∃B,strEq b ⟨#[67,101,108,108]⟩=B:=⟨_,rfl⟩;obtain⟨s4,q4⟩:∃B,strEq b ⟨#[70,117,110]⟩=B:=⟨_,rfl⟩;have et:titleB b=(B0&&B2&&A&& !(s1||s2||s3||s4)):=by
   have:headB capB (bs b)=B2:=by rw[hl,←e2];rfl
   simp only[titleB,sizedB,z1,e0,this,ea,ttlW,q1,q2,q3,q4,jj]
  rw[et];cases B0 with
  |false=>simp-implicitDefEqProofs only[gr,f129,V,↓reduceIte,rA,reduceCtorEq,h0,hd,bI,z1,e0]
  |true=>cases B2 with
   |false=>simp-implicitDefEqProofs only[gr,f129,V,↓reduceIte,rA,reduceCtorEq,h0,hd,bI,fP,hc,z1,e0,e2]
   |true=>cases A with
    |false=>simp-implicitDefEqProofs only[gr,f129,V,↓reduceIte,rA,reduceCtorEq,h0,hd,bI,fP,aA hA,hc,z1,e0,e2,ea]
    |true=>cases s1<;>cases s2<;>cases s3<;>cases s4<;>simp-implicitDefEqProofs only[gr,f129,V,↓reduceIte,rA,reduceCtorEq,h0,hd,bI,fP,aA hA,hc,z1,e0,e2,ea,q1,q2,q3,q4]
 ·have z1:decide (1≤((b.size:Nat):Int))=false:=decide_eq_false om;have et:titleB b=false:=by simp only[titleB,sizedB,z1,jw]
  rw[et];simp-implicitDefEqProofs only[gr,f129,V,↓reduceIte,rA,reduceCtorEq,h0,hd,bI,z1]
def strOfA:AV→ByteArray
 |.val (.string b)=>b
 |_=>⟨#[]⟩
def kwL:List ByteArray:=keywordCells.map strOfA
theorem xo:kwL.length=42:=by kernel_rfl
theorem aET:keywordCells=kwL.map (fun b=>AV.val (.string b)):=by kernel_rfl
theorem Ve:cellsFrom E1.globs .empty (.val (.pointer (some ⟨0,0,none⟩)))=some keywordCells:=by kernel_rfl
theorem aBG:takeN (some 42) keywordCells=some (.agg keywordCells):=by kernel_rfl
theorem aMZ{i:Nat}{c:ByteArray}{r:List ByteArray}(h:kwL.drop i=c::r):idxAV 42 1 none (.agg keywordCells) i=some (vS c):=by
 have hl:i<42:=by
  rcases jt i 42 with x|x
  ·exact x
  ·rw[B5 (by rw[xo];exact x)] at h;cases h
 have h1:Nat.blt i 42=true:=Nat.blt_eq.mpr hl;have h2:ia (i*1) keywordCells.length=true:=ir.mpr (by rw[aET,jp,xo];omega)
 simp only[idxAV,h1,h2,iu,cond_true,takeN];rw[aET,Nat.mul_one,←List.map_drop,h];rfl
def kwB(b:ByteArray):Bool:=kwL.any fun k=>strEq k b
theorem wX(b:ByteArray):∀(r:List ByteArray) (i:Nat) (s:St),kwL.drop i=r→s.eval (.t 0)=some (vS b)→s.eval (.t 5)=some (.agg keywordCells)→s.eval (.t 6)=some (vI i)→s.defers=[]→
  Run E1 pT s fun e s'=>s'.defers=[]∧((r.any (fun k=>strEq k b)=false∧e=.exit 0)∨(r.any (fun k=>strEq k b)=true∧e=.ret∧s'.eval (.t 2)=some (vB true)))
 | [],i,s,hi,h0,h5,h3,hd=>by
  have hlt:decide ((i:Int)<42)=false:=decide_eq_false (by have:=jz.1 hi;rw[xo] at this;omega)
  apply aB (rfl:pT=.loop kx);simp-implicitDefEqProofs only[kx,V,↓reduceIte,rA,reduceCtorEq,h3,hd,hlt,List.any_nil]
 |c::r,i,s,hi,h0,h5,h3,hd=>by
  have hl:i<42:=by
   rcases jt i 42 with x|x
   ·exact x
   ·rw[B5 (by rw[xo];exact x)] at hi;cases hi
  have hlt:decide ((i:Int)<42)=true:=decide_eq_true om;have w1:IntKind.i64.wrap ((i:Int)+1)=((i+1:Nat):Int):=aD (n:=i+1) om;have hc:=aMZ hi;have hn:kwL.drop (i+1)=r:=by rw[←Am,hi];rfl
  obtain⟨B1,e1⟩:∃B,strEq c b=B:=⟨_,rfl⟩;apply aB (rfl:pT=.loop kx);rw[List.any_cons,e1];cases B1<;>simp-implicitDefEqProofs only[kx,V,↓reduceIte,rA,reduceCtorEq,aGI,Iz,h0,h3,h5,hd,hlt,w1,hc,e1]
  refine wX b r (i+1) _ hn ?_ ?_ ?_ ?_<;>simp-implicitDefEqProofs only[V,↓reduceIte,rA,reduceCtorEq,h0,h5,hd]
theorem yG(b:ByteArray)(h:AH):RunCall E1 (.f 165) [vS b] h (vB (kwB b)) h:=by
 refine ai kr aCH (aN (Tree.val _)) rfl (Tree.val _) (fun s hs hh hd hr=>?_) h;have h0:=hs 0 _ rfl;simp-implicitDefEqProofs only[Nt,f165,V,hh,Ve,aBG];refine(wX b kwL 0 _ rfl ?_ ?_ ?_ ?_).mono ?_
 ·exact U41
 ·exact U37
 ·exact U37
 ·exact U40
 ·rintro e s' ⟨hf,⟨q,rfl⟩|⟨q,rfl,h2⟩⟩
  ·have:i8 0 0=true:=rfl;have q:kwB b=false:=q;exact U151
  ·have q:kwB b=true:=q;exact U152
def nmB(c:UInt8):Bool:=lowB c||digB c||undB c
theorem wl(b:ByteArray)(hb:b.size<2^61):∀(r:List UInt8) (i:Nat) (s:St),(bs b).drop i=r→s.eval (.t 0)=some (vS b)→s.eval (.t 3)=some (vI i)→s.defers=[]→
  Run E1 pk s fun e s'=>s'.defers=[]∧((r.all nmB=true∧e=.exit 0)∨(r.all nmB=false∧e=.ret∧s'.eval (.t 2)=some (vB false)))
 | [],i,s,hi,h0,h3,hd=>by
  have hlt:=nn hi;apply aB (rfl:pk=.loop lH);simp-implicitDefEqProofs only[lH,V,↓reduceIte,rA,reduceCtorEq,ae,h0,h3,hd,hlt,is]
 |c::r,i,s,hi,h0,h3,hd=>by
  have hl:=nk hi;have hlt:decide ((i:Int)<(b.size:Nat))=true:=decide_eq_true om;have w1:IntKind.i64.wrap ((i:Int)+1)=((i+1:Nat):Int):=aD (n:=i+1) om;have hc:=cE hi;obtain⟨B1,e1⟩:∃B,(decide (97≤((c.toNat:Nat):Int))&&decide (((c.toNat:Nat):Int)≤122))=B:=⟨_,rfl⟩;obtain⟨B2,e2⟩:∃B,decide (((c.toNat:Nat):Int)=95)=B:=⟨_,rfl⟩;obtain⟨B3,e3⟩:∃B,(decide (48≤((c.toNat:Nat):Int))&&decide (((c.toNat:Nat):Int)≤57))=B:=⟨_,rfl⟩;have ea:nmB c=(B1||B3||B2):=by rw[←e1,←e2,←e3];rfl
  apply aB (rfl:pk=.loop lH);rw[iv,ea];cases B1<;>cases B2<;>cases B3<;>simp-implicitDefEqProofs only[lH,V,↓reduceIte,rA,reduceCtorEq,ae,h0,h3,hd,hlt,w1,hc,cz,kC,e1,e2,e3]
  all_goals try (refine wl b hb r (i+1) _ (cC hi) ?_ ?_ ?_<;>simp-implicitDefEqProofs only[V,↓reduceIte,reduceCtorEq,h0,hd])
def nameB(b:ByteArray):Bool:=sizedB b&&headB lowB (bs b)&& !kwB b&&(bs b).all nmB
theorem xk(b:ByteArray)(hb:b.size<2^61)(h:AH):RunCall E1 (.f 128) [vS b] h (vB (nameB b)) h:=by
 have hA:=yG b;refine ai kr aDE (aN (Tree.val _)) rfl (Tree.val _) (fun s hs hh hd hr=>?_) h;have h0:=hs 0 _ rfl
 by_cases hz:1≤b.size
 ·obtain⟨c,r,hi,hl⟩:=d4 hz;have hc:=cE hi;have z1:decide (1≤((b.size:Nat):Int))=true:=decide_eq_true om;obtain⟨B0,e0⟩:∃B,decide (((b.size:Nat):Int)≤24)=B:=⟨_,rfl⟩;obtain⟨B2,e2⟩:∃B,(decide (97≤((c.toNat:Nat):Int))&&decide (((c.toNat:Nat):Int)≤122))=B:=⟨_,rfl⟩;obtain⟨A,ea⟩:∃B,kwB b=B:=⟨_,rfl⟩;have hlow:headB lowB (bs b)=B2:=by rw[hl,←e2];rfl
  have et:nameB b=(B0&&B2&& !A&&(B2||nmB c)&&r.all nmB):=by
   have h2:(bs b).all nmB=(nmB c&&r.all nmB):=by rw[hl];rfl
   have h3:nmB c=(B2||(digB c||undB c)):=by rw[←e2,←Bool.or_assoc];rfl
   simp only[nameB,sizedB,z1,e0,hlow,ea,h2,h3,jj];cases B2<;>cases A<;>cases B0<;>simp
  rw[et];cases B0 with
  |false=>simp-implicitDefEqProofs only[gt,f128,V,↓reduceIte,rA,reduceCtorEq,h0,hd,bI,z1,e0]
  |true=>cases B2 with
   |false=>simp-implicitDefEqProofs only[gt,f128,V,↓reduceIte,rA,reduceCtorEq,h0,hd,bI,cz,hc,z1,e0,e2]
   |true=>cases A with
    |true=>simp-implicitDefEqProofs only[gt,f128,V,↓reduceIte,rA,reduceCtorEq,h0,hd,bI,cz,aA hA,hc,z1,e0,e2,ea]
    |false=>
     simp-implicitDefEqProofs only[gt,f128,V,↓reduceIte,rA,reduceCtorEq,h0,bI,cz,aA hA,hc,z1,e0,e2,ea];refine(wl b hb r 1 _ (cC hi) ?_ ?_ ?_).mono ?_
     ·exact U41
     ·exact U37
     ·exact U40
     ·exact U42
 ·have z1:decide (1≤((b.size:Nat):Int))=false:=decide_eq_false om;have et:nameB b=false:=by simp only[nameB,sizedB,z1,jw]
  rw[et];simp-implicitDefEqProofs only[gt,f128,V,↓reduceIte,rA,reduceCtorEq,h0,hd,bI,z1]
section
variable {E:Env}{s:St}{K:St→Prop}{r:List DOp}{done:List DRec}
theorem aEX{t:Nat}{v:Value}(hv:s.eval (.t t)=some (.val v)):idsL (pickTm s.tm [t]).vals=[]:=
 qX fun i hi x hx=>by
  rw[ig.1 hi] at hx;have hg:s.tm.get t=some (.val v):=hv;rw[hg] at hx;cases hx;rfl
theorem aEW{t u:Nat}{v w:Value}(hv:s.eval (.t t)=some (.val v))(hw:s.eval (.t u)=some (.val w)):idsL (pickTm s.tm [t,u]).vals=[]:=
 qX fun i hi x hx=>by
  have hg:s.tm.get t=some (.val v):=hv;have hg2:s.tm.get u=some (.val w):=hw;simp only[List.mem_cons,List.mem_nil_iff,or_false] at hi;rcases hi with rfl|rfl
  ·rw[hg] at hx;cases hx;rfl
  ·rw[hg2] at hx;cases hx;rfl
theorem seen_eval{l:List Nat}{t:Nat}(h:t∈l):(AM.seen s l []).tm.get t=s.tm.get t:=by
 simp only[AM.seen,bM,if_pos h]
theorem iA{t d:Nat}{fr:List Nat}{v:Value}(hq:∀x∈done,Quiet x)(hf:∀i∈fr,i<done.length)(hv:s.eval (.t t)=some (.val v))
  (k:∀rec,Quiet rec→DrawTo E r (done++[rec]) (s.set d (.val v)) K):DrawTo E (⟨⟨some d,none,.mv (.t t)⟩,[t],fr⟩::r) done s K:=by
 have hg:s.tm.get t=some (.val v):=hv;refine eu (v:=.val v) hq hf rfl rfl (aEX hv) (fun _=>rfl) (fun _=>rfl) ?_ k;simp only[runOp,St.eval,seen_eval (ig.2 rfl:t∈[t]),hg];rfl
theorem Yc{d:Nat}{fr:List Nat}{v:Value}(hq:∀x∈done,Quiet x)(hf:∀i∈fr,i<done.length)
  (k:∀rec,Quiet rec→DrawTo E r (done++[rec]) (s.set d (.val v)) K):DrawTo E (⟨⟨some d,none,.mv (.c (.val v))⟩,[],fr⟩::r) done s K:=by
 refine eu (v:=.val v) hq hf rfl rfl rfl (fun _=>rfl) (fun _=>rfl) ?_ k;rfl
theorem Yd{t d:Nat}{ty:TypeId}{g:Bool}{fr:List Nat}{n:Int}(hq:∀x∈done,Quiet x)(hf:∀i∈fr,i<done.length)(hv:s.eval (.t t)=some (vI n))
  (k:∀rec,Quiet rec→DrawTo E r (done++[rec]) (s.set d (vI (IntKind.i64.wrap (n+1)))) K):DrawTo E (⟨⟨some d,none,.bin .add ty g (.t t) (.c (vI 1))⟩,[t],fr⟩::r) done s K:=by
 have hg:s.tm.get t=some (vI n):=hv;refine eu (v:=vI (IntKind.i64.wrap (n+1))) hq hf rfl rfl (aEX hv) (fun _=>rfl) (fun _=>rfl) ?_ k;simp only[runOp,St.eval,seen_eval (ig.2 rfl:t∈[t]),hg,aEN];rfl
theorem aDX{t u d:Nat}{fr:List Nat}{b:ByteArray}{i:Nat}{v:Value}(hq:∀x∈done,Quiet x)(hf:∀i∈fr,i<done.length)(hv:s.eval (.t t)=some (vS b))(hw:s.eval (.t u)=some (vI (i:Nat)))
  (hs:sliceStrV (vS b) none (some i)=some (.val v))
  (k:∀rec,Quiet rec→DrawTo E r (done++[rec]) (s.set d (.val v)) K):DrawTo E (⟨⟨some d,none,.sliceStr (.t t) none (some (.t u))⟩,[t,u],fr⟩::r) done s K:=by
 have hg:s.tm.get t=some (vS b):=hv;have hg2:s.tm.get u=some (vI (i:Nat)):=hw;refine eu (v:=.val v) hq hf rfl rfl (aEW hv hw) (fun _=>rfl) (fun _=>rfl) ?_ k;simp only[runOp,St.eval,optN,seen_eval (ik:t∈[t,u]),seen_eval (j4 _ (ig.2 rfl):u∈[t,u]),hg,hg2,Io,jd];simp only[sliceStrV] at hs;cases hb:sliceB b.size b.size none (some i) none with
 |none=>rw[hb] at hs;cases hs
 |some q=>rw[hb] at hs;cases hs;rfl
theorem Sf{t u d:Nat}{fr:List Nat}{b:ByteArray}{i:Nat}{v:Value}(hq:∀x∈done,Quiet x)(hf:∀i∈fr,i<done.length)(hv:s.eval (.t t)=some (vS b))(hw:s.eval (.t u)=some (vI (i:Nat)))
  (hs:sliceStrV (vS b) (some i) none=some (.val v))
  (k:∀rec,Quiet rec→DrawTo E r (done++[rec]) (s.set d (.val v)) K):DrawTo E (⟨⟨some d,none,.sliceStr (.t t) (some (.t u)) none⟩,[t,u],fr⟩::r) done s K:=by
 have hg:s.tm.get t=some (vS b):=hv;have hg2:s.tm.get u=some (vI (i:Nat)):=hw;refine eu (v:=.val v) hq hf rfl rfl (aEW hv hw) (fun _=>rfl) (fun _=>rfl) ?_ k;simp only[runOp,St.eval,optN,seen_eval (ik:t∈[t,u]),seen_eval (j4 _ (ig.2 rfl):u∈[t,u]),hg,hg2,Io,jd];simp only[sliceStrV] at hs;cases hb:sliceB b.size b.size (some i) none none with
 |none=>rw[hb] at hs;cases hs
 |some q=>rw[hb] at hs;cases hs;rfl
end
theorem Ts{b:ByteArray}{i:Nat}(h:i≤b.size):sliceStrV (vS b) none (some i)=some (vS (b.extract 0 i)):=by
 have h1:ia b.size b.size=true:=ir.mpr (ib _);have h2:ia i b.size=true:=ir.mpr h;have h3:ia 0 i=true:=ir.mpr (ic _);simp only[sliceStrV,sliceB,Option.getD_none,Option.getD_some,h1,h2,h3,Option.isNone_none,Bool.true_or,iu,cond_true,jd]
theorem He{b:ByteArray}{i:Nat}(h:i≤b.size):sliceStrV (vS b) (some i) none=some (vS (b.extract i b.size)):=U1
theorem Ry(b:ByteArray)(i:Nat)(hi:i<b.size)(hb:b.size<2^61)(s:St)(h0:s.eval (.t 0)=some (vS b))(h5:s.eval (.t 5)=some (vI (i:Nat)))(hd:s.defers=[]):
  Run E1 pm s fun e s'=>e=.normal∧s'.defers=[]∧s'.eval (.t 2)=some (vS (b.extract 0 i))∧s'.eval (.t 3)=some (vS (b.extract (i+1) b.size))∧s'.eval (.t 4)=some (vB true):=by
 have w1:IntKind.i64.wrap ((i:Int)+1)=((i+1:Nat):Int):=aD (n:=i+1) om;refine am ?_
 refine iA (v:=.string b) (by simp) (by simp) h0 fun r1 q1=>?_
 refine iA (v:=.int .i64 (i:Nat)) (by simp[q1]) (by simp) U43 fun r2 q2=>?_
 refine aDX (b:=b) (i:=i) (by simp[q1,q2]) (by simp) U36 U36 (Ts om) fun r3 q3=>?_
 refine iA (v:=.string b) (by simp[q1,q2,q3]) (by simp) U41 fun r4 q4=>?_
 refine iA (v:=.int .i64 (i:Nat)) (by simp[q1,q2,q3,q4]) (by simp) U43 fun r5 q5=>?_
 refine Yd (n:=i) (by simp[q1,q2,q3,q4,q5]) (by simp) U36 fun r6 q6=>?_
 rw[w1];refine Sf (b:=b) (i:=i+1) (by simp[q1,q2,q3,q4,q5,q6]) (by simp) U36 U36 (He om) fun r7 q7=>?_
 refine iA (v:=.string (b.extract 0 i)) (by simp[q1,q2,q3,q4,q5,q6,q7]) (by simp) U36 fun r8 q8=>?_
 refine iA (v:=.string (b.extract (i+1) b.size)) (by simp[q1,q2,q3,q4,q5,q6,q7,q8]) (by simp) U36 fun r9 q9=>?_
 refine Yc (by simp[q1,q2,q3,q4,q5,q6,q7,q8,q9]) (by simp) fun r10 q10=>?_
 refine b9 ?_
 exact U40
def ofL(l:List UInt8):ByteArray:=⟨l.toArray⟩
theorem fe(l:List UInt8):(ofL l).size=l.length:=rfl
theorem Ie(b:ByteArray):ofL (bs b)=b:=by
 obtain⟨⟨l⟩⟩:=b;rfl
theorem tf{b:ByteArray}{i j:Nat}:b.extract i j=ofL (((bs b).drop i).take (j-i)):=by
 refine ByteArray.ext ?_
 rw[ByteArray.data_extract];apply Array.ext';simp[ofL,List.extract_eq_take_drop]
def cutS:List UInt8→List UInt8×List UInt8×Bool
 | []=>([],[],false)
 |c::r=>bif dotB c then([],r,true) else(c::(cutS r).1,(cutS r).2.1,(cutS r).2.2)
theorem Ge:∀l:List UInt8,(cutS l).2.2=false→(cutS l).1=l∧(cutS l).2.1=[]
 | [],_=>⟨rfl,rfl⟩
 |c::r,h=>by
  simp only[cutS] at h⊢
  cases hd:dotB c with
  |true=>rw[hd] at h;cases h
  |false=>
   rw[hd] at h;simp only[cond_false] at h⊢
   obtain⟨h1,h2⟩:=Ge r h;exact⟨by rw[h1],h2⟩
theorem Ky:∀l:List UInt8,(cutS l).1.length≤l.length∧(cutS l).2.1.length≤l.length∧((cutS l).2.2=true→(cutS l).2.1.length<l.length)
 | []=>⟨ib _,ib _,fun h=>by cases h⟩
 |c::r=>by
  obtain⟨h1,h2,h3⟩:=Ky r;simp only[cutS];cases dotB c with
  |true=>exact⟨ic _,Nat.le_succ _,fun _=>Nat.lt_succ_self _⟩
  |false=>
   simp only[cond_false,il];exact⟨om,om,fun h=>by have:=h3 h;omega⟩
theorem wm(b:ByteArray)(hb:b.size<2^61):∀(r:List UInt8) (i:Nat) (s:St),(bs b).drop i=r→i≤b.size→s.eval (.t 0)=some (vS b)→s.eval (.t 5)=some (vI i)→s.defers=[]→
  Run E1 pl s fun e s'=>s'.defers=[]∧(((cutS r).2.2=false∧e=.exit 0∧s'.eval (.t 0)=some (vS b))∨
   ((cutS r).2.2=true∧e=.ret∧s'.eval (.t 2)=some (vS (ofL ((bs b).take i++(cutS r).1)))∧s'.eval (.t 3)=some (vS (ofL (cutS r).2.1))∧s'.eval (.t 4)=some (vB true)))
 | [],i,s,hi,hle,h0,h5,hd=>by
  have hlt:=nn hi;apply aB (rfl:pl=.loop gu);simp-implicitDefEqProofs only[gu,V,↓reduceIte,rA,reduceCtorEq,ae,h0,h5,hd,hlt,cutS]
 |c::r,i,s,hi,hle,h0,h5,hd=>by
  have hl:=nk hi;have hlt:decide ((i:Int)<(b.size:Nat))=true:=decide_eq_true om;have w1:IntKind.i64.wrap ((i:Int)+1)=((i+1:Nat):Int):=aD (n:=i+1) om;have hc:=cE hi;obtain⟨B1,e1⟩:∃B,decide (((c.toNat:Nat):Int)=46)=B:=⟨_,rfl⟩;have eb:dotB c=B1:=e1;have wd:∀(s:St) Q,wp E1 pm s Q=Run E1 pm s Q:=fun _ _=>rfl;apply aB (rfl:pl=.loop gu);cases B1 with
  |false=>
   simp-implicitDefEqProofs only[gu,V,↓reduceIte,rA,reduceCtorEq,ae,h0,h5,hlt,w1,hc,e1];refine(wm b hb r (i+1) _ (cC hi) om ?_ ?_ ?_).mono ?_
   ·exact U41
   ·exact U36
   ·exact U40
   rintro e s1 ⟨d1,h⟩;have ht:(bs b).take (i+1)=(bs b).take i++[c]:=by
    have h2:(bs b)[i]? =some c:=by
     have:=A1 (xs:=bs b) (i:=i) (j:=0);rw[hi] at this
     simpa using this.symm
    rw[List.take_succ,h2];rfl
   rw[ht,jk] at h;refine⟨d1,?_⟩;simp only[cutS,eb,cond_false];exact h
  |true=>
   simp-implicitDefEqProofs only[gu,V,↓reduceIte,rA,reduceCtorEq,ae,h0,h5,hlt,hc,e1,wd];refine(Ry b i om hb _ ?_ ?_ ?_).mono ?_
   ·exact U41
   ·exact U43
   ·exact U40
   ·rintro e s' ⟨rfl,g1,g2,g3,g4⟩;simp-implicitDefEqProofs only[V,reduceCtorEq,g1];refine .inr ⟨by simp only[cutS,eb,cond_true],?_,?_,g4⟩
    ·rw[g2,tf];simp only[cutS,eb,cond_true,iz,List.drop_zero,Nat.sub_zero]
    ·rw[g3,tf,cC hi,ji]
     ·simp only[cutS,eb,cond_true]
     ·rw[←cC hi,Az,m5];exact ib _
theorem ng(b:ByteArray)(hb:b.size<2^61)(h:AH):RunCall E1 (.f 127) [vS b] h (.tup [vS (ofL (cutS (bs b)).1),vS (ofL (cutS (bs b)).2.1),vB ((cutS (bs b)).2.2)]) h:=by
 refine aC kr kr (aN (Tree.val _)) rfl (Tree.three _ _ _) (cg (rs:=[vS (ofL (cutS (bs b)).1),vS (ofL (cutS (bs b)).2.1),vB ((cutS (bs b)).2.2)]) aDF fun s hs hh hd=>?_) h;have h0:=hs 0 _ rfl;simp-implicitDefEqProofs only[Ol,f127,V];refine(wm b hb (bs b) 0 _ rfl (ic _) ?_ ?_ ?_).mono ?_
 ·exact U41
 ·exact U37
 ·exact U40
 ·rintro e s' ⟨hf,⟨q,rfl,g0⟩|⟨q,rfl,g2,g3,g4⟩⟩
  ·have:i8 0 0=true:=rfl;obtain⟨z1,z2⟩:=Ge _ q;rw[z1,z2,q,Ie];simp-implicitDefEqProofs only[V,↓reduceIte,rA,reduceCtorEq,this,hf,g0];rfl
  ·rw[jg,im] at g2;simp-implicitDefEqProofs only[V,reduceCtorEq,hf,g2,g3,g4,q]
end Go.Proofs.YtkhblipgiijoiaaGreatDoor
namespace Go.Proofs.YtkhblipgiijoiaaGreatDoor
open Go Go.AM
set_option maxHeartbeats 4000000
variable [KR]
def splitS:List UInt8→List UInt8×List (List UInt8)
 | []=>([],[])
 |c::r=>bif dotB c then([],(splitS r).1::(splitS r).2) else(c::(splitS r).1,(splitS r).2)
theorem lk:∀l:List UInt8,splitS l=((cutS l).1,bif (cutS l).2.2 then(splitS (cutS l).2.1).1::(splitS (cutS l).2.1).2 else [])
 | []=>rfl
 |c::r=>by
  simp only[splitS,cutS];cases dotB c with
  |true=>rfl
  |false=>
   simp only[cond_false];rw[lk r]
def partB(x:List UInt8):Bool:=sizedB (ofL x)&&(x.all alnB||wordL true x)
def restB(l:List UInt8)(m:Bool):Bool:= !m||(partB (splitS l).1&&(splitS l).2.all partB)
theorem Hq(l:List UInt8):restB l true=(partB (cutS l).1&&restB (cutS l).2.1 (cutS l).2.2):=by
 simp only[restB,Bool.not_true,Bool.false_or];rw[lk l];cases (cutS l).2.2 with
 |true=>rfl
 |false=>rfl
theorem sw:∀(n:Nat) (l:List UInt8) (m:Bool) (s:St),(m=true→l.length<n)→l.length<2^61→s.eval (.t 4)=some (vS (ofL l))→s.eval (.t 5)=some (vB m)→s.defers=[]→
  Run E1 yW s fun e s'=>s'.defers=[]∧((restB l m=true∧e=.exit 0)∨(restB l m=false∧e=.ret∧s'.eval (.t 2)=some (vI 3)))
 |n,l,false,s,hn,hb,h4,h5,hd=>by
  apply aB (rfl:yW=.loop sx);simp-implicitDefEqProofs only[sx,V,↓reduceIte,rA,reduceCtorEq,h5,hd,restB]
 |0,l,true,s,hn,hb,h4,h5,hd=>absurd (hn rfl) (Nat.not_lt_zero _)
 |n+1,l,true,s,hn,hb,h4,h5,hd=>by
  obtain⟨k1,k2,k3⟩:=Ky l;have hr:=ng (ofL l) (by rw[fe];exact hb)
  rw[show bs (ofL l)=l from rfl] at hr;have hA:=iU (ofL (cutS l).1) (by rw[fe];omega)
  have hB:=xH (ofL (cutS l).1) (by rw[fe];omega)
  rw[show bs (ofL (cutS l).1)=(cutS l).1 from rfl] at hA hB;obtain⟨A,eA⟩:∃A,(cutS l).1.all alnB=A:=⟨_,rfl⟩;obtain⟨B,eB⟩:∃B,wordL true (cutS l).1=B:=⟨_,rfl⟩;obtain⟨S,hS⟩:∃S,(decide (1≤(((ofL (cutS l).1).size:Nat):Int))&&decide ((((ofL (cutS l).1).size:Nat):Int)≤24))=S:=⟨_,rfl⟩;have hlt:l.length<n+1:=hn rfl;have ep:partB (cutS l).1=(S&&(A||B)):=by simp only[partB,sizedB,hS,eA,eB]
  rw[Hq,ep];rw[eA] at hA;rw[eB] at hB;apply aB (rfl:yW=.loop sx);cases S<;>cases A<;>cases B<;>simp-implicitDefEqProofs only[sx,V,↓reduceIte,rA,reduceCtorEq,h4,h5,hd,aA hr,aA hA,aA hB,bI,hS]
  all_goals (refine sw n (cutS l).2.1 (cutS l).2.2 _ (fun e=>by have:=k3 e;omega) om ?_ ?_ ?_<;>simp-implicitDefEqProofs only[V,↓reduceIte,rA,hd])
def coreB(b:ByteArray):Bool:= !decide (120<((b.size:Nat):Int))&&((nameB (ofL (splitS (bs b)).1)||titleB (ofL (splitS (bs b)).1)||(strEq (ofL (splitS (bs b)).1) ⟨#[118]⟩&& !(splitS (bs b)).2.isEmpty))&&(splitS (bs b)).2.all partB)
def coreA(b:ByteArray):Int:=bif coreB b then 0 else 3
theorem aj (b : ByteArray) (h : AH) : RunCall E1 (.f 83) [vS b] h (vI (coreA b)) h := by
  refine ai kr aID (aN (Tree.val _)) rfl (Tree.val _) (fun s hs hh hd hr => ?_) h;have h0 := hs 0 _ rfl
  by_cases hz : 120 < b.size
  · have z1 : decide (120 < ((b.size : Nat) : Int)) = true := decide_eq_true om
    simp -implicitDefEqProofs only [Jm, f83, V, ↓reduceIte, reduceCtorEq, ae, h0, hd, z1, coreA, coreB]
  · have z1 : decide (120 < ((b.size : Nat) : Int)) = false := decide_eq_false om
    obtain ⟨k1, k2, k3⟩ := Ky (bs b);rw [m5] at k1 k2 k3;have hr := ng b om;have hA := xk (ofL (cutS (bs b)).1) (by rw [fe]; omega)
    have hT := uH (ofL (cutS (bs b)).1) (by rw [fe]; omega)
    obtain ⟨A, eA⟩ : ∃ Vx, nameB (ofL (cutS (bs b)).1) = Vx := ⟨_, rfl⟩;obtain ⟨T, eT⟩ : ∃ Vx, titleB (ofL (cutS (bs b)).1) = Vx := ⟨_, rfl⟩;obtain ⟨Vx, hV⟩ : ∃ Vx, strEq (ofL (cutS (bs b)).1) ⟨#[118]⟩ = Vx := ⟨_, rfl⟩;obtain ⟨m, hm⟩ : ∃ Vx, (cutS (bs b)).2.2 = Vx := ⟨_, rfl⟩;have ec : coreB b = ((A || T || (Vx && m)) && restB (cutS (bs b)).2.1 m) := by
      simp only [coreB, z1, jv, jj];rw [lk (bs b)];simp only [eA, eT, hV, hm, restB];cases m <;> rfl
    rw [eA] at hA;rw [eT] at hT;rw [hm] at hr;rw [coreA, ec];cases A <;> cases T <;> cases Vx <;> cases m <;> simp -implicitDefEqProofs only [Jm, f83, V, ↓reduceIte, rA, reduceCtorEq, ae, h0, hd, z1, aA hr, aA hA, aA hT, hV]
    all_goals first
      | (refine (sw ((cutS (bs b)).2.1.length + 1) (cutS (bs b)).2.1 true _ (fun _ => by omega) om ?_ ?_ ?_).mono ?_
         ·exact U44
         ·exact U44
         ·exact U45
         · rintro e s' ⟨hf, ⟨q, rfl⟩ | ⟨q, rfl, h2⟩⟩
           ·exact U46
           · simp -implicitDefEqProofs only [V, reduceCtorEq, hf, h2, q])
      | (refine (sw ((cutS (bs b)).2.1.length + 1) (cutS (bs b)).2.1 false _ (fun _ => by omega) om ?_ ?_ ?_).mono ?_
         ·exact U44
         ·exact U44
         ·exact U45
         · rintro e s' ⟨hf, ⟨q, rfl⟩ | ⟨q, rfl, h2⟩⟩
           ·exact U46
           · simp -implicitDefEqProofs only [V, reduceCtorEq, hf, h2, q])
def refKw:List ByteArray:=[⟨#[97,110,100]⟩,⟨#[97,115,115,117,109,101]⟩,⟨#[98,111,111,108]⟩,⟨#[98,111,117,110,100]⟩,⟨#[99,97,115,101]⟩,⟨#[99,101,108,108]⟩,⟨#[99,108,97,115,115]⟩,⟨#[100,97,116,97]⟩,⟨#[100,101,102]⟩,⟨#[100,105,118]⟩,⟨#[101,108,115,101]⟩,⟨#[101,110,100]⟩,⟨#[102,97,108,115,101]⟩,⟨#[102,111,114,97,108,108]⟩,⟨#[102,117,110]⟩,⟨#[103,101,116]⟩,⟨#[105,102]⟩,⟨#[105,110]⟩,⟨#[105,110,115,116]⟩,⟨#[105,110,116]⟩,⟨#[105,110,118,97,114,105,97,110,116]⟩,⟨#[108,101,116]⟩,⟨#[109,97,116,99,104]⟩,⟨#[109,101,97,115,117,114,101]⟩,⟨#[109,101,116,114,105,99]⟩,⟨#[109,111,100]⟩,⟨#[109,117]⟩,⟨#[110,101,119]⟩,⟨#[110,111,116]⟩,⟨#[111,102]⟩,⟨#[111,114]⟩,⟨#[113,117,97,108]⟩,⟨#[114,101,102,108,101,99,116]⟩,⟨#[115,101,116]⟩,⟨#[116,104,101,110]⟩,⟨#[116,114,117,101]⟩,⟨#[117,115,101]⟩,⟨#[118]⟩,⟨#[118,97,108]⟩,⟨#[116,97,103]⟩,⟨#[119,104,101,114,101]⟩,⟨#[119,105,116,104]⟩]
def kwHeap:AH:=AH.empty.alloc (.cells (strs refKw) true)
theorem aHK(n:Nat):enterA E1 (exec E1 (n+10)) 192 [] .empty=some (.own 0 0 42 1 (some 42),kwHeap):=by kernel_rfl
theorem aBI(h:AH):RunCall E1 (.f 192) [] h (.imm (strs refKw) 42 (some 42)) h:=
 Gm kr kr (fun v hv=>(by cases hv)) ⟨10,fun n hn=>by obtain⟨m,rfl⟩:∃m,n=m+10:=⟨n-10,om⟩;exact aHK m⟩ (cs:=strs refKw) (rw:=true) kr kr (vQ _) h
theorem Fq(v:Vl ByteArray)(b:ByteArray)(hN:v.l.length<2^61):∀(r:List ByteArray) (i:Nat) (s:St),v.l.drop i=r→i≤v.l.length→s.eval (.t 0)=some (v.A strA)→s.eval (.t 6)=some (v.A strA)→s.eval (.t 1)=some (vS b)→s.eval (.t 7)=some (vI (v.l.length:Nat))→s.eval (.t 8)=some (vI (i:Nat))→s.defers=[]→
  Run E1 yu s fun e s'=>s'.defers=[]∧((fnd b r=none∧e=.exit 0)∨(∃j,fnd b r=some j∧e=.ret∧s'.eval (.t 4)=some (vI ((i+j:Nat):Int))))
 | [],i,s,hr,hi,h0,h6,h1,h7,h8,hd=>by
  have hl:=aG hr hi;subst hl;apply aB (rfl:yu=.loop mY);simp-implicitDefEqProofs only[mY,V,↓reduceIte,rA,reduceCtorEq,h7,h8,hd,bA,fnd]
 |a::r,i,s,hr,hi,h0,h6,h1,h7,h8,hd=>by
  have hl:=aH hr;have hlt:=bD hl;have w1:IntKind.i64.wrap ((i:Int)+1)=((i+1:Nat):Int):=aD (n:=i+1) om;apply aB (rfl:yu=.loop mY);rw[fnd,jA];cases hq:strEq a b with
  |true=>
   simp-implicitDefEqProofs only[mY,V,↓reduceIte,rA,reduceCtorEq,h0,h1,h7,h8,hd,hlt,v.at aK hr,nG,hq];exact .inr ⟨0,rfl,rfl⟩
  |false=>
   simp-implicitDefEqProofs only[mY,V,↓reduceIte,rA,reduceCtorEq,h0,h1,h7,h8,hlt,v.at aK hr,nG,hq,w1];refine(Fq v b hN r (i+1) _ (aF hr) om ?_ ?_ ?_ ?_ ?_ ?_).mono ?_
   all_goals try simp-implicitDefEqProofs only[V,↓reduceIte,rA,reduceCtorEq,h0,h1,h6,h7,hd]
   rintro e s1 ⟨d1,⟨q,rfl⟩|⟨j,q,rfl,q2⟩⟩
   ·exact⟨d1,.inl ⟨by rw[q];rfl,rfl⟩⟩
   ·exact⟨d1,.inr ⟨j+1,by rw[q];rfl,rfl,by rw[q2,show i+(j+1)=i+1+j by omega]⟩⟩
theorem nY(v:Vl ByteArray)(b:ByteArray)(hN:v.l.length<2^61)(h:AH):RunCall E1 (.f 42) [v.A strA,vS b] h (vI (fndI b v.l)) h:=by
 refine ai kr aJH (bT Tree.vl (Tree.val _)) rfl (Tree.val _) (fun s hs hh hd hr=>?_) h;have h0:=hs 0 _ rfl;have h1:=hs 1 _ rfl;simp-implicitDefEqProofs only[Ww,f42,V,↓reduceIte,reduceCtorEq,h0];refine(Fq v b hN v.l 0 _ rfl (ic _) ?_ ?_ ?_ ?_ ?_ ?_).mono ?_
 all_goals try simp-implicitDefEqProofs only[V,↓reduceIte,rA,reduceCtorEq,h0,h1,hd]
 ·rfl
 have h00:i8 0 0=true:=rfl;rintro e s1 ⟨d1,⟨q,rfl⟩|⟨j,q,rfl,q2⟩⟩
 ·simp-implicitDefEqProofs only[V,↓reduceIte,reduceCtorEq,h00,d1,fndI,q]
 ·simp-implicitDefEqProofs only[V,reduceCtorEq,d1,fndI,q,q2]
theorem Ml(b:ByteArray):∀l:List ByteArray,(fnd b l).isSome=l.any fun k=>strEq k b
 | []=>rfl
 |a::r=>by
  rw[fnd,List.any_cons,jA,←Ml b r];cases strEq a b with
  |true=>rfl
  |false=>cases fnd b r<;>rfl
theorem aBO(b:ByteArray)(l:List ByteArray):decide ((0:Int)≤fndI b l)=l.any fun k=>strEq k b:=by
 rw[←Ml,fndI];cases fnd b l with
 |none=>rfl
 |some j=>exact decide_eq_true (by show(0:Int)≤(j:Nat);omega)
theorem Ud:refKw=kwL:=by kernel_rfl
theorem Cq(b:ByteArray)(h:AH):RunCall E1 (.f 170) [vS b] h (vB (kwB b)) h:=by
 have hn:∀h,RunCall E1 (.f 42) [.imm (strs refKw) 42 (some 42),vS b] h (vI (fndI b refKw)) h:=nY ⟨refKw,none,some 42⟩ b (by show(42:Nat)<2^61;omega)
 refine ai kr aCC (aN (Tree.val _)) rfl (Tree.val _) (fun s hs hh hd hr=>?_) h;have h0:=hs 0 _ rfl;have he:decide ((0:Int)≤fndI b refKw)=kwB b:=by rw[aBO,Ud];rfl
 simp-implicitDefEqProofs only[Nn,f170,V,↓reduceIte,rA,reduceCtorEq,h0,hd,aA aBI,aA hn,he]
theorem wi(b:ByteArray)(hb:b.size<2^61):∀(r:List UInt8) (i:Nat) (s:St),(bs b).drop i=r→s.eval (.t 0)=some (vS b)→s.eval (.t 23)=some (vI (b.size:Nat))→s.eval (.t 24)=some (vI i)→s.defers=[]→
  Run E1 pf s fun e s'=>s'.defers=[]∧((r.all nmB=true∧e=.exit 0)∨(r.all nmB=false∧e=.ret∧s'.eval (.t 2)=some (vI 3)))
 | [],i,s,hi,h0,h4,h3,hd=>by
  have hlt:=nn hi;apply aB (rfl:pf=.loop lE);simp-implicitDefEqProofs only[lE,V,↓reduceIte,rA,reduceCtorEq,h3,h4,hd,hlt,is]
 |c::r,i,s,hi,h0,h4,h3,hd=>by
  have hl:=nk hi;have hlt:decide ((i:Int)<(b.size:Nat))=true:=decide_eq_true om;have w1:IntKind.i64.wrap ((i:Int)+1)=((i+1:Nat):Int):=aD (n:=i+1) om;have hc:=cE hi;obtain⟨B1,e1⟩:∃B,(decide (97≤((c.toNat:Nat):Int))&&decide (((c.toNat:Nat):Int)≤122))=B:=⟨_,rfl⟩;obtain⟨B2,e2⟩:∃B,decide (((c.toNat:Nat):Int)=95)=B:=⟨_,rfl⟩;obtain⟨B3,e3⟩:∃B,(decide (48≤((c.toNat:Nat):Int))&&decide (((c.toNat:Nat):Int)≤57))=B:=⟨_,rfl⟩;have ea:nmB c=(B1||B3||B2):=by rw[←e1,←e2,←e3];rfl
  apply aB (rfl:pf=.loop lE);rw[iv,ea];cases B1<;>cases B2<;>cases B3<;>simp-implicitDefEqProofs only[lE,V,↓reduceIte,rA,reduceCtorEq,h0,h3,h4,hd,hlt,w1,hc,cJ,kB,e1,e2,e3]
  all_goals try (refine wi b hb r (i+1) _ (cC hi) ?_ ?_ ?_ ?_<;>simp-implicitDefEqProofs only[V,↓reduceIte,rA,reduceCtorEq,h0,h4,hd])
theorem wh(b:ByteArray)(hb:b.size<2^61):∀(r:List UInt8) (i:Nat) (s:St),(bs b).drop i=r→s.eval (.t 0)=some (vS b)→s.eval (.t 35)=some (vI (b.size:Nat))→s.eval (.t 36)=some (vI i)→s.defers=[]→
  Run E1 pe s fun e s'=>s'.defers=[]∧((r.all alnB=true∧e=.exit 0)∨(r.all alnB=false∧e=.ret∧s'.eval (.t 2)=some (vI 3)))
 | [],i,s,hi,h0,h4,h3,hd=>by
  have hlt:=nn hi;apply aB (rfl:pe=.loop lD);simp-implicitDefEqProofs only[lD,V,↓reduceIte,rA,reduceCtorEq,h3,h4,hd,hlt,is]
 |c::r,i,s,hi,h0,h4,h3,hd=>by
  have hl:=nk hi;have hlt:decide ((i:Int)<(b.size:Nat))=true:=decide_eq_true om;have w1:IntKind.i64.wrap ((i:Int)+1)=((i+1:Nat):Int):=aD (n:=i+1) om;have hc:=cE hi;obtain⟨B1,e1⟩:∃B,(decide (97≤((c.toNat:Nat):Int))&&decide (((c.toNat:Nat):Int)≤122))=B:=⟨_,rfl⟩;obtain⟨B2,e2⟩:∃B,(decide (65≤((c.toNat:Nat):Int))&&decide (((c.toNat:Nat):Int)≤90))=B:=⟨_,rfl⟩;obtain⟨B3,e3⟩:∃B,(decide (48≤((c.toNat:Nat):Int))&&decide (((c.toNat:Nat):Int)≤57))=B:=⟨_,rfl⟩;have ea:alnB c=(B1||B2||B3):=by rw[←e1,←e2,←e3];rfl
  apply aB (rfl:pe=.loop lD);rw[iv,ea];cases B1<;>cases B2<;>cases B3<;>simp-implicitDefEqProofs only[lD,V,↓reduceIte,rA,reduceCtorEq,h0,h3,h4,hd,hlt,w1,hc,cJ,kB,fO,e1,e2,e3]
  all_goals try (refine wh b hb r (i+1) _ (cC hi) ?_ ?_ ?_ ?_<;>simp-implicitDefEqProofs only[V,↓reduceIte,rA,reduceCtorEq,h0,h4,hd])
theorem wg(b:ByteArray)(hb:b.size<2^61):∀(r:List UInt8) (i:Nat) (m3 m4:Bool) (s:St),(bs b).drop i=r→s.eval (.t 0)=some (vS b)→s.eval (.t 18)=some (vI (b.size:Nat))→s.eval (.t 19)=some (vI i)→s.eval (.t 3)=some (vB m3)→s.eval (.t 4)=some (vB m4)→s.defers=[]→
  Run E1 lA s fun e s'=>s'.defers=[]∧e=.exit 0∧s'.eval (.t 3)=some (vB (m3&&r.all alnB))∧s'.eval (.t 4)=some (vB (m4&&r.all nmB))
 | [],i,m3,m4,s,hi,h0,h8,h9,h3,h4,hd=>by
  have hlt:=nn hi;apply aB (rfl:lA=.loop lB);simp-implicitDefEqProofs only[lB,V,↓reduceIte,rA,h3,h4,h8,h9,hd,hlt,is]
 |c::r,i,m3,m4,s,hi,h0,h8,h9,h3,h4,hd=>by
  have hl:=nk hi;have hlt:decide ((i:Int)<(b.size:Nat))=true:=decide_eq_true om;have w1:IntKind.i64.wrap ((i:Int)+1)=((i+1:Nat):Int):=aD (n:=i+1) om;have hc:=cE hi;obtain⟨B1,e1⟩:∃B,(decide (97≤((c.toNat:Nat):Int))&&decide (((c.toNat:Nat):Int)≤122))=B:=⟨_,rfl⟩;obtain⟨B2,e2⟩:∃B,(decide (65≤((c.toNat:Nat):Int))&&decide (((c.toNat:Nat):Int)≤90))=B:=⟨_,rfl⟩;obtain⟨B3,e3⟩:∃B,(decide (48≤((c.toNat:Nat):Int))&&decide (((c.toNat:Nat):Int)≤57))=B:=⟨_,rfl⟩;obtain⟨B4,e4⟩:∃B,decide (((c.toNat:Nat):Int)=95)=B:=⟨_,rfl⟩;have ea:alnB c=(B1||B2||B3):=by rw[←e1,←e2,←e3];rfl
  have eb:nmB c=(B1||B3||B4):=by rw[←e1,←e3,←e4];rfl
  have key:∀s:St,s.eval (.t 0)=some (vS b)→s.eval (.t 18)=some (vI (b.size:Nat))→s.eval (.t 19)=some (vI ((i+1:Nat):Int))→s.eval (.t 3)=some (vB (m3&&alnB c))→s.eval (.t 4)=some (vB (m4&&nmB c))→s.defers=[]→
    Run E1 lA s fun e s'=>s'.defers=[]∧e=.exit 0∧s'.eval (.t 3)=some (vB (m3&&(c::r).all alnB))∧s'.eval (.t 4)=some (vB (m4&&(c::r).all nmB)):=fun s a0 a8 a9 a3 a4 ad=>by
   have:=wg b hb r (i+1) (m3&&alnB c) (m4&&nmB c) s (cC hi) a0 a8 a9 a3 a4 ad;rw[Bool.and_assoc,Bool.and_assoc] at this;exact this
  rw[ea,eb] at key;apply aB (rfl:lA=.loop lB);cases m3<;>cases m4<;>cases B1<;>cases B2<;>cases B3<;>cases B4<;>simp-implicitDefEqProofs only[lB,V,↓reduceIte,rA,reduceCtorEq,h0,h3,h4,h8,h9,hlt,w1,hc,cJ,kB,fO,e1,e2,e3,e4]
  all_goals (refine key _ ?_ ?_ ?_ ?_ ?_ ?_<;>simp-implicitDefEqProofs only[V,↓reduceIte,rA,reduceCtorEq,h0,h8,hd,Bool.or_self,iu])
def errN(b:Bool):Int:=bif b then 0 else 3
theorem uM(b:ByteArray)(hb:b.size<2^61)(h:AH):RunCall E1 (.f 135) [vS b] h (vI (errN (nameB b))) h:=by
 have hA:=Cq b;refine ai kr aCX (aN (Tree.val _)) rfl (Tree.val _) (fun s hs hh hd hr=>?_) h;have h0:=hs 0 _ rfl;have hbeq:i8 0 0=true:=rfl
 by_cases hz:1≤b.size
 ·obtain⟨c,r,hi,hl⟩:=d4 hz;have hc:=cE hi;have z1:decide (((b.size:Nat):Int)<1)=false:=decide_eq_false om;have z2:decide (1≤((b.size:Nat):Int))=true:=decide_eq_true om;obtain⟨B0,e0⟩:∃B,decide (24<((b.size:Nat):Int))=B:=⟨_,rfl⟩;have e0':decide (((b.size:Nat):Int)≤24)= !B0:=by rw[←e0,←decide_not,decide_eq_decide];omega
  obtain⟨B1,e1⟩:∃B,(decide (97≤((c.toNat:Nat):Int))&&decide (((c.toNat:Nat):Int)≤122))=B:=⟨_,rfl⟩;obtain⟨A,ea⟩:∃B,kwB b=B:=⟨_,rfl⟩;have et:nameB b=(!B0&&B1&& !A&&(bs b).all nmB):=by
   have:headB lowB (bs b)=B1:=by rw[hl,←e1];rfl
   simp only[nameB,sizedB,z2,e0',this,ea,jj]
  rw[et];rw[ea] at hA;cases B0 with
  |true=>simp-implicitDefEqProofs only[gj,f135,V,↓reduceIte,rA,reduceCtorEq,ae,h0,hd,z1,e0,errN]
  |false=>cases B1 with
   |false=>simp-implicitDefEqProofs only[gj,f135,V,↓reduceIte,rA,reduceCtorEq,ae,h0,hd,cJ,hc,z1,e0,e1,errN]
   |true=>cases A with
    |true=>simp-implicitDefEqProofs only[gj,f135,V,↓reduceIte,rA,reduceCtorEq,ae,h0,hd,cJ,aA hA,hc,z1,e0,e1,errN]
    |false=>
     simp-implicitDefEqProofs only[gj,f135,V,↓reduceIte,rA,reduceCtorEq,ae,h0,cJ,aA hA,hc,z1,e0,e1];refine(wi b hb (bs b) 0 _ rfl ?_ ?_ ?_ ?_).mono ?_
     ·exact U41
     ·exact U36
     ·exact U37
     ·exact U40
     ·rintro e s' ⟨hf,⟨q,rfl⟩|⟨q,rfl,h2⟩⟩
      ·simp-implicitDefEqProofs only[V,↓reduceIte,reduceCtorEq,hbeq,hf,q,errN]
      ·simp-implicitDefEqProofs only[V,reduceCtorEq,hf,h2,q,errN]
 ·have z1:decide (((b.size:Nat):Int)<1)=true:=decide_eq_true om;have z2:decide (1≤((b.size:Nat):Int))=false:=decide_eq_false om;have et:nameB b=false:=by simp only[nameB,sizedB,z2,jw]
  rw[et];simp-implicitDefEqProofs only[gj,f135,V,↓reduceIte,rA,reduceCtorEq,ae,h0,hd,z1,errN]
theorem qP(b:ByteArray)(hb:b.size<2^61)(h:AH):RunCall E1 (.f 136) [vS b] h (vI (errN (titleB b))) h:=by
 refine ai kr aCW (aN (Tree.val _)) rfl (Tree.val _) (fun s hs hh hd hr=>?_) h;have h0:=hs 0 _ rfl;have hbeq:i8 0 0=true:=rfl
 by_cases hz:1≤b.size
 ·obtain⟨c,r,hi,hl⟩:=d4 hz;have hc:=cE hi;have z1:decide (((b.size:Nat):Int)<1)=false:=decide_eq_false om;have z2:decide (1≤((b.size:Nat):Int))=true:=decide_eq_true om;obtain⟨B0,e0⟩:∃B,decide (24<((b.size:Nat):Int))=B:=⟨_,rfl⟩;have e0':decide (((b.size:Nat):Int)≤24)= !B0:=by rw[←e0,←decide_not,decide_eq_decide];omega
  obtain⟨B2,e2⟩:∃B,(decide (65≤((c.toNat:Nat):Int))&&decide (((c.toNat:Nat):Int)≤90))=B:=⟨_,rfl⟩;obtain⟨s1,q1⟩:∃B,strEq b ⟨#[73,110,116]⟩=B:=⟨_,rfl⟩;obtain⟨s2,q2⟩:∃B,strEq b ⟨#[66,111,111,108]⟩=B:=⟨_,rfl⟩;obtain⟨s3,q3⟩:∃B,strEq b ⟨#[67,101,108,108]⟩=B:=⟨_,rfl⟩;obtain⟨s4,q4⟩:∃B,strEq b ⟨#[70,117,110]⟩=B:=⟨_,rfl⟩;have et:titleB b=(!B0&&B2&&(bs b).all alnB&& !(s1||s2||s3||s4)):=by
   have:headB capB (bs b)=B2:=by rw[hl,←e2];rfl
   simp only[titleB,sizedB,z2,e0',this,ttlW,q1,q2,q3,q4,jj]
  rw[et];cases B0 with
  |true=>simp-implicitDefEqProofs only[lC,f136,V,↓reduceIte,rA,reduceCtorEq,ae,h0,hd,z1,e0,errN]
  |false=>cases B2 with
   |false=>simp-implicitDefEqProofs only[lC,f136,V,↓reduceIte,rA,reduceCtorEq,ae,h0,hd,fO,hc,z1,e0,e2,errN]
   |true=>
    cases s1<;>cases s2<;>cases s3<;>cases s4<;>simp-implicitDefEqProofs only[lC,f136,V,↓reduceIte,rA,reduceCtorEq,ae,h0,hd,fO,hc,z1,e0,e2,q1,q2,q3,q4,errN]
    refine(wh b hb (bs b) 0 _ rfl ?_ ?_ ?_ ?_).mono ?_
    ·exact U41
    ·exact U36
    ·exact U37
    ·exact U40
    ·exact U47
 ·have z1:decide (((b.size:Nat):Int)<1)=true:=decide_eq_true om;have z2:decide (1≤((b.size:Nat):Int))=false:=decide_eq_false om;have et:titleB b=false:=by simp only[titleB,sizedB,z2,jw]
  rw[et];simp-implicitDefEqProofs only[lC,f136,V,↓reduceIte,rA,reduceCtorEq,ae,h0,hd,z1,errN]
theorem zp:∀l:List UInt8,wordL false l=l.all nmB
 | []=>rfl
 |c::r=>by
  rw[wordL,iv,zp r];simp only[nmB,jv,jj,Bool.or_assoc]
theorem Ps(c:UInt8)(r:List UInt8):wordL true (c::r)=(lowB c&&(c::r).all nmB):=by
 rw[wordL,iv,zp r];simp only[nmB,Bool.not_true,jw,Bool.or_false];cases lowB c<;>rfl
theorem xe(b:ByteArray)(hb:b.size<2^61)(h:AH):RunCall E1 (.f 137) [vS b] h (vB (partB (bs b))) h:=by
 refine ai kr aCV (aN (Tree.val _)) rfl (Tree.val _) (fun s hs hh hd hr=>?_) h;have h0:=hs 0 _ rfl;have hbeq:i8 0 0=true:=rfl
 by_cases hz:1≤b.size
 ·obtain⟨c,r,hi,hl⟩:=d4 hz;have hc:=cE hi;have z1:decide (((b.size:Nat):Int)<1)=false:=decide_eq_false om;have z2:decide (1≤((b.size:Nat):Int))=true:=decide_eq_true om;obtain⟨B0,e0⟩:∃B,decide (24<((b.size:Nat):Int))=B:=⟨_,rfl⟩;have e0':decide (((b.size:Nat):Int)≤24)= !B0:=by rw[←e0,←decide_not,decide_eq_decide];omega
  obtain⟨B1,e1⟩:∃B,(decide (97≤((c.toNat:Nat):Int))&&decide (((c.toNat:Nat):Int)≤122))=B:=⟨_,rfl⟩;have et:partB (bs b)=(!B0&&((bs b).all alnB||(B1&&(bs b).all nmB))):=by
   have:wordL true (bs b)=(B1&&(bs b).all nmB):=by rw[hl,Ps,←e1];rfl
   simp only[partB,Ie,sizedB,z2,e0',this,jj]
  rw[et];cases B0 with
  |true=>simp-implicitDefEqProofs only[pc,f137,V,↓reduceIte,rA,reduceCtorEq,ae,h0,hd,z1,e0]
  |false=>
   simp-implicitDefEqProofs only[pc,f137,V,↓reduceIte,rA,reduceCtorEq,ae,h0,cJ,hc,z1,e0,e1];refine(wg b hb (bs b) 0 true B1 _ rfl ?_ ?_ ?_ ?_ ?_ ?_).mono ?_
   ·exact U41
   ·exact U36
   ·exact U37
   ·exact U36
   ·exact U36
   ·exact U40
   ·rintro e s' ⟨hf,rfl,h3,h4⟩;rw[jj] at h3;obtain⟨A,ea⟩:∃A,(bs b).all alnB=A:=⟨_,rfl⟩;rw[ea] at h3⊢
    cases A<;>simp-implicitDefEqProofs only[V,↓reduceIte,rA,reduceCtorEq,hbeq,hf,h3,h4]
 ·have z1:decide (((b.size:Nat):Int)<1)=true:=decide_eq_true om;have z2:decide (1≤((b.size:Nat):Int))=false:=decide_eq_false om;have et:partB (bs b)=false:=by simp only[partB,Ie,sizedB,z2,jw]
  rw[et];simp-implicitDefEqProofs only[pc,f137,V,↓reduceIte,rA,reduceCtorEq,ae,h0,hd,z1]
theorem aNV{g:Nat}{l:List AV}{a:AFun}{P:AV→AH→Prop}(hf:funOf Tryz.prog g=some a)
  (h:∀s:St,(∀i v,(enterTm l 0 .nil).get i=some v→s.eval (.t i)=some v)→s.h=.empty→s.defers=[]→wp E1 a.body s fun e s=>(e=.normal∨e=.ret)∧s.defers=[]∧∃r,P r s.h∧resultsA E1.globs s a.res=some [r]):∃r hc,P r hc∧Ev fun n=>enterA E1 (exec E1 n) g l .empty=some (r,hc):=by
 obtain⟨e,s',x,y1,y2,r,hp,y3⟩:=ay _ _ _ (h {tm:=enterTm l 0 .nil,h:=.empty,defers:=[],round:=none} (fun _ _ h=>h) rfl rfl);refine⟨r,s'.h,hp,x.mono fun n p=>?_⟩;have hl:leaveA E1 a s'=some (r,s'.h):=by
  obtain⟨tm,h1,df,rd⟩:=s';subst y2;simp only[leaveA,runDefers,y3];rfl
 simp only[enterA,(show funOf E1.P g=some a by rw[Sw];exact hf),p]
 rcases y1 with rfl|rfl<;>exact hl
theorem aMJ{n:Nat}(h:n≤200):okLen n 16=true:=by
 have h1:ia (n*16) mostBytes=true:=ir.mpr (by have:mostBytes=2^40:=rfl;omega)
 have h2:ia n mostBytes=true:=ir.mpr (by have:mostBytes=2^40:=rfl;omega)
 simp only[okLen,h1,h2,iu]
def mid(b:ByteArray)(st i:Nat):List UInt8:=((bs b).drop st).take (i-st)
theorem Mf(b:ByteArray)(st i:Nat):b.extract st i=ofL (mid b st i):=tf
theorem Uy{b:ByteArray}{st i:Nat}{c:UInt8}{r:List UInt8}(h:(bs b).drop i=c::r)(hs:st≤i):mid b st (i+1)=mid b st i++[c]:=by
 have h2:((bs b).drop st)[i-st]? =some c:=by
  rw[A1,show st+(i-st)=i by omega]
  have:=A1 (xs:=bs b) (i:=i) (j:=0);rw[h] at this
  simpa using this.symm
 rw[mid,show i+1-st=(i-st)+1 by omega,List.take_succ,h2]
 rfl
theorem Ds(b:ByteArray)(i:Nat):mid b i i=[]:=by rw[mid,Nat.sub_self,jg]
theorem Mg{b:ByteArray}{st:Nat}:mid b st b.size=(bs b).drop st:=by
 rw[mid,ji];rw[Az,m5];exact ib _
theorem mj(b:ByteArray)(hb:b.size≤120):∀(r:List UInt8) (i st:Nat) (l:List ByteArray) (v:AV) (s:St),(bs b).drop i=r→i≤b.size→st≤i→l.length≤i→(∀x∈l,x.size≤120)→s.eval (.t 0)=some (vS b)→s.eval (.t 7)=some (vI (b.size:Nat))→s.eval (.t 8)=some (vI i)→
  s.eval (.t 3)=some v→Row 0 s.h v (strs l)→s.eval (.t 4)=some (vI st)→s.defers=[]→
  Run E1 pg s fun e s'=>e=.exit 0∧s'.defers=[]∧s'.eval (.t 0)=some (vS b)∧∃(st':Nat) (l':List ByteArray) (v:AV),st'≤b.size∧l'.length≤b.size∧(∀x∈l',x.size≤120)∧l'++[ofL ((bs b).drop st')]=l++(ofL (mid b st i++(splitS r).1)::(splitS r).2.map ofL)∧s'.eval (.t 3)=some v∧Row 0 s'.h v (strs l')∧s'.eval (.t 4)=some (vI st')
 | [],i,st,l,v,s,hi,hle,hst,hl,hx,h0,h7,h8,h3,hr,h4,hd=>by
  have hlt:=nn hi;have hz:i=b.size:=by
   have:=of_decide_eq_false hlt;omega
  apply aB (rfl:pg=.loop gq);simp-implicitDefEqProofs only[gq,V,↓reduceIte,rA,reduceCtorEq,h0,h3,h4,h7,h8,hd,hlt];refine⟨st,l,v,om,om,hx,?_,rfl,hr,rfl⟩;rw[hz,Mg];simp only[splitS,iz,List.map_nil]
 |c::r,i,st,l,v,s,hi,hle,hst,hl,hx,h0,h7,h8,h3,hr,h4,hd=>by
  have hl':=nk hi;have hlt:decide ((i:Int)<(b.size:Nat))=true:=decide_eq_true om;have w1:IntKind.i64.wrap ((i:Int)+1)=((i+1:Nat):Int):=aD (n:=i+1) om;have hc:=cE hi;obtain⟨B1,e1⟩:∃B,decide (((c.toNat:Nat):Int)=46)=B:=⟨_,rfl⟩;have eb:dotB c=B1:=e1;apply aB (rfl:pg=.loop gq);cases B1 with
  |false=>
   simp-implicitDefEqProofs only[gq,V,↓reduceIte,rA,reduceCtorEq,h0,h7,h8,hlt,w1,hc,e1];refine(mj b hb r (i+1) st l v _ (cC hi) om om om hx ?_ ?_ ?_ ?_ ?_ ?_ ?_).mono ?_
   ·exact U41
   ·exact U48
   ·exact U36
   ·exact U49
   ·exact hr
   ·exact U153
   ·exact U40
   rintro e s1 ⟨d0,d1,d2,st',l',v',k1,k2,k3,k4,k5⟩;refine⟨d0,d1,d2,st',l',v',k1,k2,k3,?_,k5⟩;rw[k4,Uy hi hst,jk];simp only[splitS,eb,cond_false];rfl
  |true=>
   have hm:=Qe (b:=b) (i:=st) (j:=i) hst om;have ho:okLen ((strs l).length+1) 16=true:=aMJ (by rw[fU];omega)
   have ha:=fun(s:St) K r dst d1 a=>Pk (E:=E1) (s:=s) (K:=K) (r:=r) (dst:=dst) (d1:=d1) (a:=a) (e:=vS (b.extract st i)) hr ho;simp-implicitDefEqProofs only[gq,V,↓reduceIte,rA,reduceCtorEq,Ei,wE,h0,h3,h4,h7,h8,hlt,w1,hc,e1,hm,ha];refine(mj b hb r (i+1) (i+1) (l++[b.extract st i]) (.own (s.h.next+1) 0 ((strs l).length+1) 1 none) _ (cC hi) om (ib _) (by simp only[List.length_append,il,List.length_nil];omega) ?_ ?_ ?_ ?_ ?_ ?_ ?_ ?_).mono ?_
   ·exact U50
   ·exact U41
   ·exact U48
   ·exact U36
   ·exact U36
   ·simp-implicitDefEqProofs only[V];rw[←z8];exact Cy hr (ic _)
   ·exact U36
   ·exact U40
   rintro e s1 ⟨d0,d1,d2,st',l',v',k1,k2,k3,k4,k5⟩;refine⟨d0,d1,d2,st',l',v',k1,k2,k3,?_,k5⟩;rw[k4,Ds,Mf,jk];simp only[splitS,eb,cond_true,iz,im,List.map_cons];rfl
def partsS(b:ByteArray):List ByteArray:=ofL (splitS (bs b)).1::(splitS (bs b)).2.map ofL
theorem uR(b:ByteArray)(hb:b.size≤120):(partsS b).length≤121∧(∀x∈partsS b,x.size≤120)∧∀h,RunCall E1 (.f 134) [vS b] h (.imm (strs (partsS b)) (partsS b).length none) h:=by
 obtain⟨r,hc,⟨l,k,hl,hl2,hl3,hr,hg⟩,ha⟩:=aNV (g:=134) (l:=[vS b]) (P:=fun r h=>∃(l:List ByteArray) (k:Nat),l=partsS b∧l.length≤121∧(∀x∈l,x.size≤120)∧r=.own k 0 l.length 1 none∧h.get k=some (.cells (strs l) true)) aCY fun s hs hh hd=>by
  have h0:=hs 0 _ rfl;simp-implicitDefEqProofs only[Og,f134,V,↓reduceIte,reduceCtorEq,ae,h0];refine(mj b hb (bs b) 0 0 [] (.val (.slice none 0 0)) _ rfl (ic _) (ib _) (ic _) (fun x hx=>(by cases hx)) ?_ ?_ ?_ ?_ (.inl ⟨rfl,rfl⟩) ?_ ?_).mono ?_
  ·exact U41
  ·exact U36
  ·exact U37
  ·exact U36
  ·exact U37
  ·exact U40
  ·rintro e s' ⟨rfl,hf,g0,st,l,v,hst,hl,hx,hp0,g3,hr,g4⟩;have:i8 0 0=true:=rfl;have hm:=Qf (b:=b) (i:=st) hst;have ho:okLen ((strs l).length+1) 16=true:=aMJ (by rw[fU];omega)
   have ha:=fun(s:St) K r dst d1 a=>Pk (E:=E1) (s:=s) (K:=K) (r:=r) (dst:=dst) (d1:=d1) (a:=a) (e:=vS (b.extract st b.size)) hr ho;simp-implicitDefEqProofs only[V,↓reduceIte,rA,reduceCtorEq,Ei,wE,this,hf,g0,g3,g4,hm,ha];have hp:=Cy (e:=vS (b.extract st b.size)) hr (ic _);rw[z8] at hp;have hn:(l++[b.extract st b.size]).length=l.length+1:=by simp
   refine⟨_,⟨l++[b.extract st b.size],s'.h.next+1,?_,om,?_,?_,?_⟩,rfl⟩
   ·rw[Mf,Mg,hp0,Ds];rfl
   ·exact U50
   ·rw[hn,fU]
   ·rcases hp with⟨q,_⟩|⟨c,_,_,_,q,g⟩
    ·cases q
    ·obtain⟨q1,_⟩:=AV.own.inj q;rw[q1];exact g
 subst hr;subst hl;exact⟨hl2,hl3,Gm kr kr (aN (Tree.val _)) ha hg (by rw[fU];omega) (vQ _)⟩
def partR(b:ByteArray):Bool:=partB (bs b)
theorem Er(l:List ByteArray)(hb:l.length<2^61)(hx:∀x∈l,x.size≤120):∀(r:List ByteArray) (i:Nat) (s:St),l.drop i=r→i≤l.length→s.eval (.t 35)=some (.imm (strs l) l.length none)→s.eval (.t 36)=some (vI (l.length:Nat))→s.eval (.t 37)=some (vI i)→s.defers=[]→
  Run E1 yQ s fun e s'=>s'.defers=[]∧((r.all partR=true∧e=.exit 0)∨(r.all partR=false∧e=.ret∧s'.eval (.t 2)=some (vI 3)))
 | [],i,s,hr,hi,h5,h6,h7,hd=>by
  have hl:=aG hr hi;have hlt:decide ((i:Int)<(l.length:Nat))=false:=decide_eq_false om;apply aB (rfl:yQ=.loop sk);simp-implicitDefEqProofs only[sk,V,↓reduceIte,rA,reduceCtorEq,h6,h7,hd,hlt,is]
 |a::r,i,s,hr,hi,h5,h6,h7,hd=>by
  have hl:=aH hr;have hlt:decide ((i:Int)<(l.length:Nat))=true:=decide_eq_true om;have w1:IntKind.i64.wrap ((i:Int)+1)=((i+1:Nat):Int):=aD (n:=i+1) om;have ha:a∈l:=List.mem_of_mem_drop (i:=i) (by rw[hr];exact ik)
  have hB:=xe a (by have:=hx a ha;omega)
  obtain⟨B1,eB⟩:∃B,partB (bs a)=B:=⟨_,rfl⟩;have eB':partR a=B1:=eB;rw[eB] at hB;apply aB (rfl:yQ=.loop sk);rw[iv,eB'];cases B1<;>simp-implicitDefEqProofs only[sk,V,↓reduceIte,rA,reduceCtorEq,h5,h6,h7,hd,hlt,w1,Tn hr,aA hB]
  refine Er l hb hx r (i+1) _ (aF hr) om ?_ ?_ ?_ ?_<;>simp-implicitDefEqProofs only[V,↓reduceIte,rA,h5,h6,hd]
theorem bV(b:ByteArray)(h:AH):RunCall E1 (.f 89) [vS b] h (vI (coreA b)) h:=by
 refine ai kr aHX (aN (Tree.val _)) rfl (Tree.val _) (fun s hs hh hd hr=>?_) h;have h0:=hs 0 _ rfl;have hbeq:i8 0 0=true:=rfl
 by_cases hz:120<b.size
 ·have z1:decide (120<((b.size:Nat):Int))=true:=decide_eq_true om;simp-implicitDefEqProofs only[Jj,f89,V,↓reduceIte,reduceCtorEq,ae,h0,hd,z1,coreA,coreB]
 ·have z1:decide (120<((b.size:Nat):Int))=false:=decide_eq_false om;obtain⟨hl2,hl3,hp⟩:=uR b om;have ec:coreA b=bif (nameB (ofL (splitS (bs b)).1)||titleB (ofL (splitS (bs b)).1)||(strEq (ofL (splitS (bs b)).1) ⟨#[118]⟩&& !decide (((partsS b).length:Int)=1)))&&((splitS (bs b)).2.map ofL).all partR then 0 else 3:=by
   have e1:(splitS (bs b)).2.isEmpty=decide (((partsS b).length:Int)=1):=by
    rw[partsS,il,jp];cases (splitS (bs b)).2 with
    |nil=>rfl
    |cons x t=>rw[il];exact(decide_eq_false om).symm
   have e2:((splitS (bs b)).2.map ofL).all partR=(splitS (bs b)).2.all partB:=by rw[List.all_map];rfl
   simp only[coreA,coreB,z1,jv,jj,e1,e2]
  rw[ec];rw[partsS] at hl2 hl3 hp⊢
  generalize ofL (splitS (bs b)).1=a at*;generalize (splitS (bs b)).2.map ofL=r at*;have h00:(a::r).drop 0=a::r:=rfl;have hl1:1≤(a::r).length:=by rw[il];omega
  have hxa:=hl3 a ik;have hA2:=uM a om;have hA3:=qP a om;obtain⟨A2,e2⟩:∃B,nameB a=B:=⟨_,rfl⟩;obtain⟨A3,e3⟩:∃B,titleB a=B:=⟨_,rfl⟩;obtain⟨Vx,hV⟩:∃Vx,strEq a ⟨#[118]⟩=Vx:=⟨_,rfl⟩;obtain⟨L,hL⟩:∃L,decide ((((a::r).length:Nat):Int)=1)=L:=⟨_,rfl⟩;have ht:=Tl (l:=a::r) (cap:=none) hl1 rfl;have hsa:=fun cap=>Tn (cap:=cap) h00;have hll:r.length≤120:=by simp only[il] at hl2;omega
  rw[show(a::r).drop 1=r from rfl] at ht;rw[e2] at hA2;rw[e3] at hA3;rw[e2,e3,hV,hL];cases A2<;>cases A3<;>cases Vx<;>cases L<;>simp-implicitDefEqProofs only[Jj,f89,V,↓reduceIte,rA,reduceCtorEq,rD,aBC,ae,h0,hh,hd,z1,aA hp,aA hA2,aA hA3,errN,hsa,hV,hL,ht]
  all_goals
   refine(Er r om (fun x hx=>hl3 x (j4 _ hx)) r 0 _ rfl (ic _) ?_ ?_ ?_ ?_).mono ?_
   ·exact U36
   ·exact U36
   ·exact U37
   ·exact U40
   ·exact U47
set_option maxHeartbeats 40000000
set_option maxRecDepth 10000
def nvS(z l1 l2 b ok:Bool):Int:=bif !z||(l1||l2) then 1 else bif b then 0 else bif ok then 0 else 3
theorem aAS(p:Pr)(hk:p.op=3)(h:AH):RunCall E1 (.f 114) [p.av] h (vI (nvS (decide (p.n=0)) (decide (((p.ks.length:Nat):Int)<0)) (decide ((0:Int)<((p.ks.length:Nat):Int))) (decide (coreA p.nm=0)) (strEq p.nm ⟨#[118]⟩))) h:=by
 have hA:=aj p.nm;refine aC kr kr (aN (Tree.pr p)) rfl (Tree.val _) (ah bN fun s hs hh hd=>?_) h;have h0:=hs 0 _ rfl;obtain⟨B,hB⟩:∃B,decide (coreA p.nm=0)=B:=⟨_,rfl⟩;obtain⟨z,hz⟩:∃B,decide (p.n=0)=B:=⟨_,rfl⟩;obtain⟨L1,hL1⟩:∃B,decide (((p.ks.length:Nat):Int)<0)=B:=⟨_,rfl⟩;obtain⟨L2,hL2⟩:∃B,decide ((0:Int)<((p.ks.length:Nat):Int))=B:=⟨_,rfl⟩;obtain⟨Vx,hV⟩:∃B,strEq p.nm ⟨#[118]⟩=B:=⟨_,rfl⟩;obtain⟨T,hT⟩:∃B,strEq p.nm ⟨#[116,97,103]⟩=B:=⟨_,rfl⟩;obtain⟨U,hU⟩:∃B,strEq p.nm ⟨#[118,97,108]⟩=B:=⟨_,rfl⟩;cases z with
 |false=>
  simp-implicitDefEqProofs only[ag,f114,V,↓reduceIte,rA,reduceCtorEq,rD,rE,h0,hh,hd,hk,cd,bw,hz,nvS]
 |true=>cases L1 with
  |true=>
   simp-implicitDefEqProofs only[ag,f114,V,↓reduceIte,rA,reduceCtorEq,rD,rE,h0,hh,hd,hk,cd,bw,hz,hL1,nvS]
  |false=>cases L2 with
   |true=>
    simp-implicitDefEqProofs only[ag,f114,V,↓reduceIte,rA,reduceCtorEq,rD,rE,h0,hh,hd,hk,cd,bw,hz,hL1,hL2,nvS]
   |false=>cases B with
    |true=>
     simp-implicitDefEqProofs only[ag,f114,V,↓reduceIte,rA,reduceCtorEq,rD,rE,h0,hh,hd,hk,cd,bw,aA hA,hz,hL1,hL2,hB,nvS]
    |false=>
     cases Vx<;>cases T<;>cases U<;>simp-implicitDefEqProofs only[ag,f114,V,↓reduceIte,rA,reduceCtorEq,rD,rE,h0,hh,hd,hk,cd,bw,aA hA,hz,hL1,hL2,hB,hV,nvS]
theorem aAR(p:Pr)(hk:p.op=4)(h:AH):RunCall E1 (.f 114) [p.av] h (vI (nvS (decide (p.n=0)) (decide (((p.ks.length:Nat):Int)<1)) (decide ((24:Int)<((p.ks.length:Nat):Int))) (decide (coreA p.nm=0)) (strEq p.nm ⟨#[116,97,103]⟩||strEq p.nm ⟨#[118,97,108]⟩))) h:=by
 have hA:=aj p.nm;refine aC kr kr (aN (Tree.pr p)) rfl (Tree.val _) (ah bN fun s hs hh hd=>?_) h;have h0:=hs 0 _ rfl;obtain⟨B,hB⟩:∃B,decide (coreA p.nm=0)=B:=⟨_,rfl⟩;obtain⟨z,hz⟩:∃B,decide (p.n=0)=B:=⟨_,rfl⟩;obtain⟨L1,hL1⟩:∃B,decide (((p.ks.length:Nat):Int)<1)=B:=⟨_,rfl⟩;obtain⟨L2,hL2⟩:∃B,decide ((24:Int)<((p.ks.length:Nat):Int))=B:=⟨_,rfl⟩;obtain⟨Vx,hV⟩:∃B,strEq p.nm ⟨#[118]⟩=B:=⟨_,rfl⟩;obtain⟨T,hT⟩:∃B,strEq p.nm ⟨#[116,97,103]⟩=B:=⟨_,rfl⟩;obtain⟨U,hU⟩:∃B,strEq p.nm ⟨#[118,97,108]⟩=B:=⟨_,rfl⟩;cases z with
 |false=>
  simp-implicitDefEqProofs only[ag,f114,V,↓reduceIte,rA,reduceCtorEq,rD,rE,h0,hh,hd,hk,cZ,bv,hz,nvS]
 |true=>cases L1 with
  |true=>
   simp-implicitDefEqProofs only[ag,f114,V,↓reduceIte,rA,reduceCtorEq,rD,rE,h0,hh,hd,hk,cZ,bv,hz,hL1,nvS]
  |false=>cases L2 with
   |true=>
    simp-implicitDefEqProofs only[ag,f114,V,↓reduceIte,rA,reduceCtorEq,rD,rE,h0,hh,hd,hk,cZ,bv,hz,hL1,hL2,nvS]
   |false=>cases B with
    |true=>
     simp-implicitDefEqProofs only[ag,f114,V,↓reduceIte,rA,reduceCtorEq,rD,rE,h0,hh,hd,hk,cZ,bv,aA hA,hz,hL1,hL2,hB,nvS]
    |false=>
     cases Vx<;>cases T<;>cases U<;>simp-implicitDefEqProofs only[ag,f114,V,↓reduceIte,rA,reduceCtorEq,rD,rE,h0,hh,hd,hk,cZ,bv,aA hA,hz,hL1,hL2,hB,hT,hU,nvS]
theorem aAQ(p:Pr)(hk:p.op=5)(h:AH):RunCall E1 (.f 114) [p.av] h (vI (nvS (decide (p.n=0)) (decide (((p.ks.length:Nat):Int)<1)) (decide ((24:Int)<((p.ks.length:Nat):Int))) (decide (coreA p.nm=0)) false)) h:=by
 have hA:=aj p.nm;refine aC kr kr (aN (Tree.pr p)) rfl (Tree.val _) (ah bN fun s hs hh hd=>?_) h;have h0:=hs 0 _ rfl;obtain⟨B,hB⟩:∃B,decide (coreA p.nm=0)=B:=⟨_,rfl⟩;obtain⟨z,hz⟩:∃B,decide (p.n=0)=B:=⟨_,rfl⟩;obtain⟨L1,hL1⟩:∃B,decide (((p.ks.length:Nat):Int)<1)=B:=⟨_,rfl⟩;obtain⟨L2,hL2⟩:∃B,decide ((24:Int)<((p.ks.length:Nat):Int))=B:=⟨_,rfl⟩;obtain⟨Vx,hV⟩:∃B,strEq p.nm ⟨#[118]⟩=B:=⟨_,rfl⟩;obtain⟨T,hT⟩:∃B,strEq p.nm ⟨#[116,97,103]⟩=B:=⟨_,rfl⟩;obtain⟨U,hU⟩:∃B,strEq p.nm ⟨#[118,97,108]⟩=B:=⟨_,rfl⟩;cases z with
 |false=>
  simp-implicitDefEqProofs only[ag,f114,V,↓reduceIte,rA,reduceCtorEq,rD,rE,h0,hh,hd,hk,dd,dE,hz,nvS]
 |true=>cases L1 with
  |true=>
   simp-implicitDefEqProofs only[ag,f114,V,↓reduceIte,rA,reduceCtorEq,rD,rE,h0,hh,hd,hk,dd,dE,hz,hL1,nvS]
  |false=>cases L2 with
   |true=>
    simp-implicitDefEqProofs only[ag,f114,V,↓reduceIte,rA,reduceCtorEq,rD,rE,h0,hh,hd,hk,dd,dE,hz,hL1,hL2,nvS]
   |false=>cases B with
    |true=>
     exact U173
    |false=>
     cases Vx<;>cases T<;>cases U<;>exact U173
theorem Sp(p:Pr)(hk:p.op=3)(h:AH):RunCall E1 (.f 122) [p.av] h (vB ((strEq p.nm ⟨#[118]⟩)||decide (coreA p.nm=0))) h:=U11
theorem aAV(p:Pr)(hk:p.op=3)(h:AH):RunCall E1 (.f 79) [p.av] h (vI (nvS (decide (p.n=0)) (decide (((p.ks.length:Nat):Int)<0)) (decide ((0:Int)<((p.ks.length:Nat):Int))) (decide (coreA p.nm=0)) (strEq p.nm ⟨#[118]⟩))) h:=by
 have hA:=Sp p hk;refine aC kr kr (aN (Tree.pr p)) rfl (Tree.val _) (ah bd fun s hs hh hd=>?_) h;have h0:=hs 0 _ rfl;obtain⟨B,hB⟩:∃B,decide (coreA p.nm=0)=B:=⟨_,rfl⟩;obtain⟨W,hW⟩:∃B:Bool,(strEq p.nm ⟨#[118]⟩)=B:=⟨_,rfl⟩;obtain⟨e,he⟩:∃B,strEq p.nm ⟨#[]⟩=B:=⟨_,rfl⟩;obtain⟨z,hz⟩:∃B,decide (p.n=0)=B:=⟨_,rfl⟩;obtain⟨L1,hL1⟩:∃B,decide (((p.ks.length:Nat):Int)<0)=B:=⟨_,rfl⟩;obtain⟨L2,hL2⟩:∃B,decide ((0:Int)<((p.ks.length:Nat):Int))=B:=⟨_,rfl⟩;have hK:(bif 0==0 then decide (((p.ks.length:Nat):Int)=0) else(decide (1≤((p.ks.length:Nat):Int))&&decide (((p.ks.length:Nat):Int)≤24)))= !(L1||L2):=by
  rw[←hL1,←hL2];simp only[Bp,cond_true]
  first
   |(rw[show decide ((1:Int)≤((p.ks.length:Nat):Int))= !decide (((p.ks.length:Nat):Int)<1) by rw[←decide_not,decide_eq_decide];omega,show decide (((p.ks.length:Nat):Int)≤24)= !decide ((24:Int)<((p.ks.length:Nat):Int)) by rw[←decide_not,decide_eq_decide];omega,Bool.not_or])
   |(rw[←Bool.decide_or,←decide_not,decide_eq_decide];omega)
 simp only[Bp,cond_true] at hK;rw[hB,hW] at hA;rw[hB,hW];cases z with
 |false=>cases e<;>simp-implicitDefEqProofs only[bK,f79,V,↓reduceIte,rA,reduceCtorEq,rD,rE,h0,hh,hd,hk,iM,he,hz,nvS]
 |true=>
  obtain⟨L,hL⟩:∃L,(L1||L2)=L:=⟨_,rfl⟩;rw[hL] at hK;simp only[nvS,hL1,hL2,hL];cases e<;>cases L<;>cases B<;>cases W<;>simp-implicitDefEqProofs only[bK,f79,V,↓reduceIte,rA,reduceCtorEq,rD,rE,h0,hh,hd,hk,yB,iM,aA hA,he,hz,hK]
theorem Sn(p:Pr)(hk:p.op=4)(h:AH):RunCall E1 (.f 122) [p.av] h (vB ((strEq p.nm ⟨#[116,97,103]⟩||strEq p.nm ⟨#[118,97,108]⟩)||decide (coreA p.nm=0))) h:=U11
theorem aAU(p:Pr)(hk:p.op=4)(h:AH):RunCall E1 (.f 79) [p.av] h (vI (nvS (decide (p.n=0)) (decide (((p.ks.length:Nat):Int)<1)) (decide ((24:Int)<((p.ks.length:Nat):Int))) (decide (coreA p.nm=0)) (strEq p.nm ⟨#[116,97,103]⟩||strEq p.nm ⟨#[118,97,108]⟩))) h:=by
 have hA:=Sn p hk;refine aC kr kr (aN (Tree.pr p)) rfl (Tree.val _) (ah bd fun s hs hh hd=>?_) h;have h0:=hs 0 _ rfl;obtain⟨B,hB⟩:∃B,decide (coreA p.nm=0)=B:=⟨_,rfl⟩;obtain⟨W,hW⟩:∃B:Bool,(strEq p.nm ⟨#[116,97,103]⟩||strEq p.nm ⟨#[118,97,108]⟩)=B:=⟨_,rfl⟩;obtain⟨e,he⟩:∃B,strEq p.nm ⟨#[]⟩=B:=⟨_,rfl⟩;obtain⟨z,hz⟩:∃B,decide (p.n=0)=B:=⟨_,rfl⟩;obtain⟨L1,hL1⟩:∃B,decide (((p.ks.length:Nat):Int)<1)=B:=⟨_,rfl⟩;obtain⟨L2,hL2⟩:∃B,decide ((24:Int)<((p.ks.length:Nat):Int))=B:=⟨_,rfl⟩;have hK:(bif 1==0 then decide (((p.ks.length:Nat):Int)=0) else(decide (1≤((p.ks.length:Nat):Int))&&decide (((p.ks.length:Nat):Int)≤24)))= !(L1||L2):=by
  rw[←hL1,←hL2];simp only[Bp,cond_false]
  first
   |(rw[show decide ((1:Int)≤((p.ks.length:Nat):Int))= !decide (((p.ks.length:Nat):Int)<1) by rw[←decide_not,decide_eq_decide];omega,show decide (((p.ks.length:Nat):Int)≤24)= !decide ((24:Int)<((p.ks.length:Nat):Int)) by rw[←decide_not,decide_eq_decide];omega,Bool.not_or])
   |(rw[←Bool.decide_or,←decide_not,decide_eq_decide];omega)
 simp only[Bp,cond_false] at hK;rw[hB,hW] at hA;rw[hB,hW];cases z with
 |false=>cases e<;>simp-implicitDefEqProofs only[bK,f79,V,↓reduceIte,rA,reduceCtorEq,rD,rE,h0,hh,hd,hk,iL,he,hz,nvS]
 |true=>
  obtain⟨L,hL⟩:∃L,(L1||L2)=L:=⟨_,rfl⟩;rw[hL] at hK;simp only[nvS,hL1,hL2,hL];cases e<;>cases L<;>cases B<;>cases W<;>simp-implicitDefEqProofs only[bK,f79,V,↓reduceIte,rA,reduceCtorEq,rD,rE,h0,hh,hd,hk,yA,iL,aA hA,he,hz,hK]
theorem Sl(p:Pr)(hk:p.op=5)(h:AH):RunCall E1 (.f 122) [p.av] h (vB (false||decide (coreA p.nm=0))) h:=U11
theorem aAT(p:Pr)(hk:p.op=5)(h:AH):RunCall E1 (.f 79) [p.av] h (vI (nvS (decide (p.n=0)) (decide (((p.ks.length:Nat):Int)<1)) (decide ((24:Int)<((p.ks.length:Nat):Int))) (decide (coreA p.nm=0)) false)) h:=by
 have hA:=Sl p hk;refine aC kr kr (aN (Tree.pr p)) rfl (Tree.val _) (ah bd fun s hs hh hd=>?_) h;have h0:=hs 0 _ rfl;obtain⟨B,hB⟩:∃B,decide (coreA p.nm=0)=B:=⟨_,rfl⟩;obtain⟨W,hW⟩:∃B:Bool,false=B:=⟨_,rfl⟩;obtain⟨e,he⟩:∃B,strEq p.nm ⟨#[]⟩=B:=⟨_,rfl⟩;obtain⟨z,hz⟩:∃B,decide (p.n=0)=B:=⟨_,rfl⟩;obtain⟨L1,hL1⟩:∃B,decide (((p.ks.length:Nat):Int)<1)=B:=⟨_,rfl⟩;obtain⟨L2,hL2⟩:∃B,decide ((24:Int)<((p.ks.length:Nat):Int))=B:=⟨_,rfl⟩;have hK:(bif 1==0 then decide (((p.ks.length:Nat):Int)=0) else(decide (1≤((p.ks.length:Nat):Int))&&decide (((p.ks.length:Nat):Int)≤24)))= !(L1||L2):=by
  rw[←hL1,←hL2];simp only[Bp,cond_false]
  first
   |(rw[show decide ((1:Int)≤((p.ks.length:Nat):Int))= !decide (((p.ks.length:Nat):Int)<1) by rw[←decide_not,decide_eq_decide];omega,show decide (((p.ks.length:Nat):Int)≤24)= !decide ((24:Int)<((p.ks.length:Nat):Int)) by rw[←decide_not,decide_eq_decide];omega,Bool.not_or])
   |(rw[←Bool.decide_or,←decide_not,decide_eq_decide];omega)
 simp only[Bp,cond_false] at hK;rw[hB,hW] at hA;rw[hB,hW];cases z with
 |false=>cases e<;>simp-implicitDefEqProofs only[bK,f79,V,↓reduceIte,rA,reduceCtorEq,rD,rE,h0,hh,hd,hk,iK,he,hz,nvS]
 |true=>
  obtain⟨L,hL⟩:∃L,(L1||L2)=L:=⟨_,rfl⟩;rw[hL] at hK;simp only[nvS,hL1,hL2,hL];cases e<;>cases L<;>cases B<;>cases W<;>simp-implicitDefEqProofs only[bK,f79,V,↓reduceIte,rA,reduceCtorEq,rD,rE,h0,hh,hd,hk,x9,iK,aA hA,he,hz,hK]
theorem Ig(p:Pr)(hk:p.op<1∨18<p.op)(h:AH):RunCall E1 (.f 114) [p.av] h (vI 1) h:=by
 refine aC kr kr (aN (Tree.pr p)) rfl (Tree.val _) (ah bN fun s hs hh hd=>?_) h;have h0:=hs 0 _ rfl
 by_cases a:p.op<1
 ·have b:decide (p.op<1)=true:=decide_eq_true a;simp-implicitDefEqProofs only[ag,f114,V,↓reduceIte,rA,reduceCtorEq,h0,hh,hd,b]
 ·have b:decide (p.op<1)=false:=decide_eq_false a;have c:decide (18<p.op)=true:=decide_eq_true om;simp-implicitDefEqProofs only[ag,f114,V,↓reduceIte,rA,reduceCtorEq,h0,hh,hd,b,c]
theorem Dk(p:Pr)(hk:p.op<1∨18<p.op)(h:AH):RunCall E1 (.f 79) [p.av] h (vI 1) h:=by
 refine aC kr kr (aN (Tree.pr p)) rfl (Tree.val _) (ah bd fun s hs hh hd=>?_) h;have h0:=hs 0 _ rfl;have n1:decide (p.op=1)=false:=decide_eq_false om;have n2:decide (p.op=2)=false:=decide_eq_false om
 by_cases a:p.op<1
 ·have b:decide (p.op<1)=true:=decide_eq_true a;simp-implicitDefEqProofs only[bK,f79,V,↓reduceIte,rA,reduceCtorEq,h0,hh,hd,b,n1,n2]
 ·have b:decide (p.op<1)=false:=decide_eq_false a;have c:decide (18<p.op)=true:=decide_eq_true om;simp-implicitDefEqProofs only[bK,f79,V,↓reduceIte,rA,reduceCtorEq,h0,hh,hd,b,c,n1,n2]
def isNamed(p:Pr):Prop:=p.op=3∨p.op=4∨p.op=5
def okNode(p:Pr):Prop:=1≤p.op∧p.op≤18∧((p.op=1∨p.op=2)→p.ks.length=0)∧((p.op=9∨p.op=14)→p.ks.length=1)∧((6≤p.op∧p.op≠9∧p.op≠14)→p.ks.length=2)
theorem bS{num e z l r m:Bool}(h:nodeS num e z l r m=0):l=true:=by
 cases num<;>cases e<;>cases z<;>cases l<;>cases r<;>cases m<;>first|rfl|cases h
theorem Uo{o:Int}(h1:1≤o)(h2:o≤18):o=1∨o=2∨o=3∨o=4∨o=5∨o=6∨o=7∨o=8∨o=9∨o=10∨o=11∨o=12∨o=13∨o=14∨o=15∨o=16∨o=17∨o=18:=by omega
theorem dl(p:Pr):∃x y,(∀h,RunCall E1 (.f 114) [p.av] h (vI x) h)∧(∀h,RunCall E1 (.f 79) [p.av] h (vI y) h)∧(x=y)∧(¬isNamed p→(x=0→okNode p)):=by
 by_cases h:p.op<1∨18<p.op
 ·exact⟨1,1,Ig p h,Dk p h,rfl,fun _=>fun e=>(by cases e)⟩
 ·rcases Uo (o:=p.op) om om with k|k|k|k|k|k|k|k|k|k|k|k|k|k|k|k|k|k
  ·refine⟨_,_,rL p k,ua p k,rfl,fun _=>fun e=>?_⟩;have hl:=of_decide_eq_true (bS e);exact⟨om,om,fun _=>by omega,fun q=>by omega,fun q=>by omega⟩
  ·refine⟨_,_,rK p k,uZ p k,rfl,fun _=>fun e=>?_⟩;have hl:=of_decide_eq_true (bS e);exact⟨om,om,fun _=>by omega,fun q=>by omega,fun q=>by omega⟩
  ·exact⟨_,_,aAS p k,aAV p k,rfl,fun q=>absurd (by unfold isNamed;omega) q⟩
  ·exact⟨_,_,aAR p k,aAU p k,rfl,fun q=>absurd (by unfold isNamed;omega) q⟩
  ·exact⟨_,_,aAQ p k,aAT p k,rfl,fun q=>absurd (by unfold isNamed;omega) q⟩
  ·refine⟨_,_,rJ p k,uY p k,rfl,fun _=>fun e=>?_⟩;have hl:=of_decide_eq_true (bS e);exact⟨om,om,fun q=>by omega,fun q=>by omega,fun q=>by omega⟩
  ·refine⟨_,_,rI p k,uX p k,rfl,fun _=>fun e=>?_⟩;have hl:=of_decide_eq_true (bS e);exact⟨om,om,fun q=>by omega,fun q=>by omega,fun q=>by omega⟩
  ·refine⟨_,_,rH p k,uW p k,rfl,fun _=>fun e=>?_⟩;have hl:=of_decide_eq_true (bS e);exact⟨om,om,fun q=>by omega,fun q=>by omega,fun q=>by omega⟩
  ·refine⟨_,_,rG p k,uV p k,rfl,fun _=>fun e=>?_⟩;have hl:=of_decide_eq_true (bS e);exact⟨om,om,fun q=>by omega,fun q=>by omega,fun q=>by omega⟩
  ·refine⟨_,_,oH p k,qz p k,rfl,fun _=>fun e=>?_⟩;have hl:=of_decide_eq_true (bS e);exact⟨om,om,fun q=>by omega,fun q=>by omega,fun q=>by omega⟩
  ·refine⟨_,_,oG p k,qy p k,rfl,fun _=>fun e=>?_⟩;have hl:=of_decide_eq_true (bS e);exact⟨om,om,fun q=>by omega,fun q=>by omega,fun q=>by omega⟩
  ·refine⟨_,_,oF p k,qx p k,rfl,fun _=>fun e=>?_⟩;have hl:=of_decide_eq_true (bS e);exact⟨om,om,fun q=>by omega,fun q=>by omega,fun q=>by omega⟩
  ·refine⟨_,_,oE p k,qw p k,rfl,fun _=>fun e=>?_⟩;have hl:=of_decide_eq_true (bS e);exact⟨om,om,fun q=>by omega,fun q=>by omega,fun q=>by omega⟩
  ·refine⟨_,_,oD p k,qv p k,rfl,fun _=>fun e=>?_⟩;have hl:=of_decide_eq_true (bS e);exact⟨om,om,fun q=>by omega,fun q=>by omega,fun q=>by omega⟩
  ·refine⟨_,_,oC p k,qu p k,rfl,fun _=>fun e=>?_⟩;have hl:=of_decide_eq_true (bS e);exact⟨om,om,fun q=>by omega,fun q=>by omega,fun q=>by omega⟩
  ·refine⟨_,_,nz p k,qt p k,rfl,fun _=>fun e=>?_⟩;have hl:=of_decide_eq_true (bS e);exact⟨om,om,fun q=>by omega,fun q=>by omega,fun q=>by omega⟩
  ·refine⟨_,_,ny p k,qs p k,rfl,fun _=>fun e=>?_⟩;have hl:=of_decide_eq_true (bS e);exact⟨om,om,fun q=>by omega,fun q=>by omega,fun q=>by omega⟩
  ·refine⟨_,_,nw p k,qr p k,rfl,fun _=>fun e=>?_⟩;have hl:=of_decide_eq_true (bS e);exact⟨om,om,fun q=>by omega,fun q=>by omega,fun q=>by omega⟩
noncomputable def Na (p:Pr):Int:=(dl p).choose
noncomputable def Nb (p:Pr):Int:=(dl p).choose_spec.choose
theorem Pn(p:Pr)(h:AH):RunCall E1 (.f 114) [p.av] h (vI (Na p)) h:=(dl p).choose_spec.choose_spec.1 h
theorem aEL(p:Pr)(h:AH):RunCall E1 (.f 79) [p.av] h (vI (Nb p)) h:=(dl p).choose_spec.choose_spec.2.1 h
theorem aNY(p:Pr):Na p=Nb p:=(dl p).choose_spec.choose_spec.2.2.1
theorem aNX{p:Pr}(h:¬isNamed p)(k:Na p=0):okNode p:=(dl p).choose_spec.choose_spec.2.2.2 h k
end Go.Proofs.YtkhblipgiijoiaaGreatDoor
