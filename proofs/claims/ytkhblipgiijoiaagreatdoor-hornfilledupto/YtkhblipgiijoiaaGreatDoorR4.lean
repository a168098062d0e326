/- A part of the proof about filled horn systems: ZBool XMap ZSort ZSenv. -/
import Derived.Test.YtkhblipgiijoiaaGreatDoorU0
import Derived.Test.YtkhblipgiijoiaaGreatDoorR1
import Derived.Test.YtkhblipgiijoiaaGreatDoorR3

set_option linter.all false
open Nat renaming reduceEqDiff → rA, reduceAdd → rB, reduceMul → rC
open Int renaming reduceEq → rD, reduceLT → rE, reduceLE → rF
namespace Go.Proofs.YtkhblipgiijoiaaGreatDoor
open Go Go.AM
set_option maxHeartbeats 4000000
mutual
theorem chk_two:∀p:Pr,chk Na p=0→p.two=true
 |.mk o s n ks nl cap,h=>by
  simp only[chk] at h
  split at h
  ·rename_i q
   simp only[Pr.two,Bool.and_eq_true]
   refine⟨?_,yJ ks h⟩
   cases ho:(decide (o=10)||decide (o=11)) with
   |false=>rfl
   |true=>
    have:o=10∨o=11:=by simpa using ho
    have:=Na_two (p:=.mk o s n ks nl cap) q this
    have:ks.length=2:=this
    simp[this]
  ·rename_i q
   exact absurd h q
theorem yJ:∀l:List Pr,chkL Na l=0→Pr.twoL l=true
 | [],_=>rfl
 |k::r,h=>by
  simp only[chkL] at h
  split at h
  ·rename_i q
   simp only[Pr.twoL,Bool.and_eq_true]
   exact⟨chk_two k q,yJ r h⟩
  ·rename_i q
   exact absurd h q
end
theorem ck_two{p:Pr}(h:ckS Na p=0):p.two=true∧p.nodes≤400∧p.depth≤40∧chk Na p=0:=by
 unfold ckS at h
 split at h
 ·cases h
 ·split at h
  ·cases h
  ·exact⟨chk_two p h,om,om,h⟩
noncomputable def ofS (Vx:Evr) (p:Pr):ByteArray×Int:=bif decide (ckS Na p=0) then p.sor Vx else(⟨#[]⟩,ckS Na p)
theorem jz(Vx:Evr)(hV:EvB Vx)(p:Pr)(hb:p.nodes<2^61)(h:AH):RunCall E1 (.f 49) [.agg Vx.cells,p.av] h (ansA (ofS Vx p)) h:=by
 refine aB kr kr (mem2 (Tree.ev Vx) (Tree.pr p)) rfl (gt _) (iH (rs:=[.val (.string (ofS Vx p).1),.val (.int .i64 (ofS Vx p).2)]) f49_ok fun s hs hh hd=>?_) h
 have h0:=hs 0 _ rfl
 have h1:=hs 1 _ rfl
 unfold ofS
 cases hc:decide (ckS Na p=0) with
 |false=>
  simp-implicitDefEqProofs only[f49_fn,f49,V,↓reduceIte,rA,rB,rC,reduceCtorEq,rD,rE,rF,WB,WF,h0,h1,hh,hd,aA (jf p hb),hc]
 |true=>
  obtain⟨q1,q2,q3,q4⟩:=ck_two (of_decide_eq_true hc)
  simp-implicitDefEqProofs only[f49_fn,f49,V,↓reduceIte,rA,rB,rC,reduceCtorEq,rD,rE,rF,WB,WF,h0,h1,hh,aA (jf p hb),hc,yW,List.nil_append,List.cons_append]
  obtain⟨h',c1,n1,o1⟩:=sO Vx hV p q1 om ((((AH.empty.alloc (.cells Vx.cells true)).alloc (.cells p.cells true)).alloc (.cells [.val .nilFunc] true)).put 2 (some (.cells [.fn (.func 77) [] [.ptr 2 0,.ptr 0 0]] true))) 0 2 (by show 0<3;decide) (by show 2<3;decide) (by simp[AH.get_put,AH.get_alloc,fo,km]) (by simp[AH.get_put])
  refine ah (v:=ansA (p.sor Vx)) (h':=h') ?_ ?_
  ·exact U76
  simp-implicitDefEqProofs only[V,↓reduceIte,rA,rB,rC,reduceCtorEq,rD,rE,rF,WB,ansA,hd]
noncomputable def boolS (Vx:Evr) (p:Pr):Int:=bif p.same zPr then 0 else bif decide ((ofS Vx p).2=0)&& !strEq (ofS Vx p).1 sBool then 11 else(ofS Vx p).2
theorem eD(Vx:Evr)(hV:EvB Vx)(p:Pr)(hb:p.nodes<2^61)(h:AH):RunCall E1 (.f 23) [.agg Vx.cells,p.av] h (.val (.int .i64 (boolS Vx p))) h:=by
 refine cK kr f23_ok (mem2 (Tree.ev Vx) (Tree.pr p)) rfl (Tree.val _) (fun s hs hh hd hr=>?_) h
 have h0:=hs 0 _ rfl
 have h1:=hs 1 _ rfl
 have s1e:(⟨#[66,111,111,108]⟩:ByteArray)=sBool:=rfl
 unfold boolS
 cases hz:p.same zPr with
 |true=>
  simp-implicitDefEqProofs only[qC,f23,V,↓reduceIte,rA,rB,rC,reduceCtorEq,rD,rE,rF,WB,WF,h0,h1,hh,hd,eO hb,hz]
 |false=>
  cases hc:decide ((ofS Vx p).2=0) with
  |false=>simp-implicitDefEqProofs only[qC,f23,V,↓reduceIte,rA,rB,rC,reduceCtorEq,rD,rE,rF,WB,WF,h0,h1,hh,hd,eO hb,hz,aA (jz Vx hV p hb),ansA,hc]
  |true=>cases hq:strEq (ofS Vx p).1 sBool with
   |true=>simp-implicitDefEqProofs only[qC,f23,V,↓reduceIte,rA,rB,rC,reduceCtorEq,rD,rE,rF,WB,WF,h0,h1,hh,hd,eO hb,hz,aA (jz Vx hV p hb),ansA,hc,s1e,hq]
   |false=>simp-implicitDefEqProofs only[qC,f23,V,↓reduceIte,rA,rB,rC,reduceCtorEq,rD,rE,rF,WB,WF,h0,h1,hh,hd,eO hb,hz,aA (jz Vx hV p hb),ansA,hc,s1e,hq]
end Go.Proofs.YtkhblipgiijoiaaGreatDoor
namespace Go.AM
variable {E:Env}{s:St}{K:St→Prop}{r:List AOper}{dst:Option Nat}
def memS(x:ByteArray):List ByteArray→Bool
 | []=>false
 |y::r=>strEq x y||memS x r
def addS(x:ByteArray)(l:List ByteArray):List ByteArray:=bif memS x l then l else l++[x]
def mapB(l:List ByteArray):Blk:=.map (l.map fun b=>(.string b,.val (.bool true)))
theorem bx{a b:ByteArray}(h:strEq a b=true):a=b:=by
 rw[strEq,cA] at h
 have:=eq_of_beq h
 obtain⟨⟨a⟩⟩:=a
 obtain⟨⟨b⟩⟩:=b
 have:a=b:=this
 rw[this]
theorem eZ(a:ByteArray):strEq a a=true:=by rw[strEq,cA];exact beq_self_eq_true _
theorem iJ(a b:ByteArray):strEq a b=strEq b a:=by
 cases h:strEq a b with
 |true=>rw[bx h,eZ]
 |false=>cases k:strEq b a with
  |false=>rfl
  |true=>rw[bx k,eZ] at h;cases h
theorem mY:wpOps E (⟨dst,none,.mkMap⟩::r) s K=wpOps E r ((s.toH (s.h.alloc (.map []))).put dst (.mp s.h.next)) K:=by
 rw[eM (o:=some (.mp s.h.next,s.h.alloc (.map [])))]
 ·rfl
 ·rfl
 ·exact fun _ _=>rfl
def lookE(k:Value)(es:List (Value×AV)):Option AV:=match lookA .string k es with
 |some (some v)=>some v
 |some none=>some (.val (.bool false))
 |none=>none
def lookB(k:Value):Option Blk→Option AV
 |some (.map es)=>lookE k es
 |_=>none
def lookO(h:AH):Option AV→Option AV→Option AV
 |some (.val (.map none)),some (.val k)=>lookE k []
 |some (.mp b),some (.val k)=>lookB k (h.get b)
 |_,_=>none
theorem cH{m k:Opd}:wpOps E (⟨dst,none,.lookup .string (.val (.bool false)) m k false⟩::r) s K=stepV E r s dst K (lookO s.h (s.eval m) (s.eval k)):=by
 rw[bE (o:=lookO s.h (s.eval m) (s.eval k))]
 ·rfl
 ·simp only[runOp]
  cases s.eval m with
  |none=>rfl
  |some mv=>cases s.eval k with
   |none=>cases mv with
    |val v=>cases v<;>first|rfl|(rename_i x;cases x<;>rfl)
    |_=>rfl
   |some kv=>cases kv with
    |val kv=>
     cases mv with
     |val v=>
      cases v with
      |map x=>
       cases x with
       |none=>simp only[lookO,lookE,lookA,cond_false];rfl
       |some x=>rfl
      |_=>rfl
     |mp b=>
      simp only[lookO,lookB]
      cases s.h.get b with
      |none=>rfl
      |some x=>cases x with
       |map es=>
        simp only[lookE,cond_false]
        cases lookA .string kv es with
        |none=>rfl
        |some o=>cases o<;>rfl
       |_=>rfl
     |_=>rfl
    |_=>cases mv with
     |val v=>cases v<;>first|rfl|(rename_i x;cases x<;>rfl)
     |_=>rfl
 ·exact fun _ _=>rfl
theorem bT{h:AH}{b:Nat}{k:Value}:lookO h (some (.mp b)) (some (.val k))=lookB k (h.get b):=rfl
theorem ol{x:ByteArray}:∀l:List ByteArray,lookA .string (.string x) (l.map fun b=>(.string b,.val (.bool true)))=some (bif memS x l then some (.val (.bool true)) else none)
 | []=>rfl
 |y::r=>by
  simp only[List.map_cons,lookA,keyEq,memS]
  rw[show eqBytes x.data.toList y.data.toList=strEq x y from rfl]
  cases strEq x y with
  |true=>rfl
  |false=>exact ol r
theorem bk{x:ByteArray}{l:List ByteArray}:lookB (.string x) (some (mapB l))=some (.val (.bool (memS x l))):=by
 simp only[lookB,mapB,lookE,ol]
 cases memS x l<;>rfl
def updB(h:AH)(b:Nat)(k:Value)(x:AV):Option Blk→Option AH
 |some (.map es)=>(updA .string k x es).map fun es=>h.put b (some (.map es))
 |_=>none
def updO(h:AH):Option AV→Option AV→Option AV→Option AH
 |some (.mp b),some (.val k),some x=>updB h b k x (h.get b)
 |_,_,_=>none
theorem ip{m k x:Opd}:wpOps E (⟨none,none,.mapUpd .string m k x⟩::r) s K=stepS E r s K (updO s.h (s.eval m) (s.eval k) (s.eval x)):=by
 rw[eM (o:=(updO s.h (s.eval m) (s.eval k) (s.eval x)).map fun h=>(undefA,h))]
 ·cases updO s.h (s.eval m) (s.eval k) (s.eval x)<;>rfl
 ·simp only[runOp]
  cases s.eval m with
  |none=>rfl
  |some mv=>cases s.eval k with
   |none=>cases mv<;>rfl
   |some kv=>cases s.eval x with
    |none=>cases mv<;>cases kv<;>rfl
    |some xv=>
     cases mv with
     |mp b=>cases kv with
      |val kv=>
       simp only[updO,updB]
       cases s.h.get b with
       |none=>rfl
       |some y=>cases y with
        |map es=>
         simp only
         cases updA .string kv xv es<;>rfl
        |_=>rfl
      |_=>rfl
     |_=>cases kv<;>rfl
 ·exact fun _ _=>rfl
theorem dM{h:AH}{b:Nat}{k:Value}{x:AV}:updO h (some (.mp b)) (some (.val k)) (some x)=updB h b k x (h.get b):=rfl
theorem rl{x:ByteArray}:∀l:List ByteArray,updA .string (.string x) (.val (.bool true)) (l.map fun b=>(.string b,.val (.bool true)))=some ((addS x l).map fun b=>(.string b,.val (.bool true)))
 | []=>rfl
 |y::r=>by
  simp only[List.map_cons,updA,keyEq]
  rw[show eqBytes x.data.toList y.data.toList=strEq x y from rfl]
  cases h:strEq x y with
  |true=>
   rw[bx h]
   simp only[addS,memS,eZ,Bool.true_or,cond_true,List.map_cons]
  |false=>
   simp only[rl r,Option.map_some,addS,memS,h,Bool.false_or]
   cases memS x r<;>rfl
theorem eY{h:AH}{b:Nat}{x:ByteArray}{l:List ByteArray}:updB h b (.string x) (.val (.bool true)) (some (mapB l))=some (h.put b (some (mapB (addS x l)))):=by
 simp only[updB,mapB,rl,Option.map_some]
theorem jB:Blk.map []=mapB []:=rfl
end Go.AM
namespace Go.Proofs.YtkhblipgiijoiaaGreatDoor
open Go Go.AM
set_option maxHeartbeats 4000000
theorem cut_0(h:AH):RunCall E1 (.f 127) [.val (.string ⟨#[]⟩)] h (.tup [.val (.string ⟨#[]⟩),.val (.string ⟨#[]⟩),.val (.bool false)]) h:=by
 refine aB kr kr (mem1 (Tree.val _)) rfl (Tree.tup fun v hv=>?_) (iH (rs:=[.val (.string ⟨#[]⟩),.val (.string ⟨#[]⟩),.val (.bool false)]) f127_ok fun s hs hh hd=>?_) h
 ·simp only[List.mem_cons,List.mem_nil_iff,or_false] at hv
  rcases hv with rfl|rfl|rfl<;>exact Leaf.val _
 have h0:=hs 0 _ rfl
 have z:(((⟨#[]⟩:ByteArray).size:Nat):Int)=0:=rfl
 simp-implicitDefEqProofs only[va,f127,V,↓reduceIte,rA,rB,rC,reduceCtorEq,rD,rE,rF,h0,hh]
 apply aC (rfl:jU=.loop dy)
 simp-implicitDefEqProofs only[dy,V,↓reduceIte,rA,rB,rC,reduceCtorEq,rD,rE,rF,WB,h0,hd,aR,z]
theorem name_0(h:AH):RunCall E1 (.f 128) [.val (.string ⟨#[]⟩)] h (.val (.bool false)) h:=by
 refine aB kr kr (mem1 (Tree.val _)) rfl (Tree.val _) (ad f128_ok fun s hs hh hd=>?_) h
 have h0:=hs 0 _ rfl
 have z:(((⟨#[]⟩:ByteArray).size:Nat):Int)=0:=rfl
 simp-implicitDefEqProofs only[jS,f128,V,↓reduceIte,rA,rB,rC,reduceCtorEq,rD,rE,rF,h0,hh,hd,bS,z]
theorem title_0(h:AH):RunCall E1 (.f 129) [.val (.string ⟨#[]⟩)] h (.val (.bool false)) h:=by
 refine aB kr kr (mem1 (Tree.val _)) rfl (Tree.val _) (ad f129_ok fun s hs hh hd=>?_) h
 have h0:=hs 0 _ rfl
 have z:(((⟨#[]⟩:ByteArray).size:Nat):Int)=0:=rfl
 simp-implicitDefEqProofs only[jR,f129,V,↓reduceIte,rA,rB,rC,reduceCtorEq,rD,rE,rF,h0,hh,hd,bS,z]
theorem core_0(h:AH):RunCall E1 (.f 83) [.val (.string ⟨#[]⟩)] h (.val (.int .i64 3)) h:=by
 refine aB kr kr (mem1 (Tree.val _)) rfl (Tree.val _) (ad f83_ok fun s hs hh hd=>?_) h
 have h0:=hs 0 _ rfl
 have z:(((⟨#[]⟩:ByteArray).size:Nat):Int)=0:=rfl
 have e:strEq ⟨#[]⟩ ⟨#[118]⟩=false:=rfl
 simp-implicitDefEqProofs only[uj,f83,V,↓reduceIte,rA,rB,rC,reduceCtorEq,rD,rE,rF,aR,h0,hh,hd,z,aA cut_0,aA name_0,aA title_0,e]
theorem core_size{b:ByteArray}(h:coreA b=0):1≤b.size:=by
 rcases Nat.eq_zero_or_pos b.size with e|e
 ·obtain⟨⟨l⟩⟩:=b
  have:l=[]:=List.eq_nil_of_length_eq_zero e
  subst this
  have:=((aZ ⟨#[]⟩ .empty).det (core_0 .empty)).1
  rw[show coreA ⟨#[]⟩=0 from h] at this
  cases this
 ·exact e
theorem wS(b:ByteArray):∃x,∀h,RunCall E1 (.f 84) [.val (.string b)] h (.val (.int .i64 x)) h:=by
 have hA:=aZ b
 obtain⟨r,⟨x,hx⟩,ha⟩:=ansE (g:=84) (l:=[.val (.string b)]) (P:=fun r=>∃x,r=.val (.int .i64 x)) f84_ok fun s hs hh hd=>by
  have h0:=hs 0 _ rfl
  cases q1:strEq b ⟨#[73,110,116]⟩ with
  |true=>
   simp-implicitDefEqProofs only[fY,f84,V,↓reduceIte,rA,rB,rC,reduceCtorEq,rD,rE,rF,WB,h0,hh,hd,q1]
   exact⟨_,⟨_,rfl⟩,rfl⟩
  |false=>cases q2:strEq b ⟨#[66,111,111,108]⟩ with
   |true=>
    simp-implicitDefEqProofs only[fY,f84,V,↓reduceIte,rA,rB,rC,reduceCtorEq,rD,rE,rF,WB,h0,hh,hd,q1,q2]
    exact⟨_,⟨_,rfl⟩,rfl⟩
   |false=>cases q3:strEq b ⟨#[67,101,108,108]⟩ with
    |true=>
     simp-implicitDefEqProofs only[fY,f84,V,↓reduceIte,rA,rB,rC,reduceCtorEq,rD,rE,rF,WB,h0,hh,hd,q1,q2,q3]
     exact⟨_,⟨_,rfl⟩,rfl⟩
    |false=>cases hc:decide (coreA b=0) with
     |false=>
      simp-implicitDefEqProofs only[fY,f84,V,↓reduceIte,rA,rB,rC,reduceCtorEq,rD,rE,rF,WB,h0,hh,hd,q1,q2,q3,aA hA,hc]
      exact⟨_,⟨_,rfl⟩,rfl⟩
     |true=>
      have hz:=core_size (of_decide_eq_true hc)
      obtain⟨c,hi⟩:=bl (b:=b) (i:=0) om
      cases l1:decide (((c:Nat):Int)<65) with
      |true=>
       simp-implicitDefEqProofs only[fY,f84,V,↓reduceIte,rA,rB,rC,reduceCtorEq,rD,rE,rF,WB,h0,hh,hd,q1,q2,q3,aA hA,hc,hi,l1]
       exact⟨_,⟨_,rfl⟩,rfl⟩
      |false=>cases l2:decide ((90:Int)<((c:Nat):Int)) with
       |true=>
        simp-implicitDefEqProofs only[fY,f84,V,↓reduceIte,rA,rB,rC,reduceCtorEq,rD,rE,rF,WB,h0,hh,hd,q1,q2,q3,aA hA,hc,hi,l1,l2]
        exact⟨_,⟨_,rfl⟩,rfl⟩
       |false=>
        simp-implicitDefEqProofs only[fY,f84,V,↓reduceIte,rA,rB,rC,reduceCtorEq,rD,rE,rF,WB,h0,hh,hd,q1,q2,q3,aA hA,hc,hi,l1,l2]
        exact⟨_,⟨_,rfl⟩,rfl⟩
 subst hx
 exact⟨x,aB kr kr (mem1 (Tree.val _)) rfl (Tree.val _) ha⟩
noncomputable def srtE (b:ByteArray):Int:=(wS b).choose
theorem bm(b:ByteArray)(h:AH):RunCall E1 (.f 84) [.val (.string b)] h (.val (.int .i64 (srtE b))) h:=(wS b).choose_spec h
def sV:ByteArray:=⟨#[118]⟩
noncomputable def vE:List ByteArray→List Vr→Int
 |_,[]=>0
 |seen,v::r=>bif !strEq v.nm sV&& !decide (coreA v.nm=0) then 3 else bif memS v.nm seen then 4 else bif decide (srtE v.so=0) then vE (addS v.nm seen) r else srtE v.so
noncomputable def varsE (l:List Vr):Int:=bif decide ((24:Int)<(l.length:Nat)) then 7 else vE [] l
theorem iK{h:AH}{b:Nat}{a0 a1:AV}{p:Vr}:stK h b 2 0 p.cells (some (.cells [a0,a1] true))=some (h.put b (some (.cells p.cells true))):=bu rfl rfl
theorem pm(w:Vl Vr)(hN:w.l.length<2^61):∀(r:List Vr) (i:Nat) (s:St) (seen:List ByteArray),w.l.drop i=r→i≤w.l.length→0<s.h.next→s.h.get 0=some (mapB seen)→
  s.eval (.t 3)=some (.mp 0)→s.eval (.t 11)=some (w.A Vr.cells)→s.eval (.t 12)=some (.val (.int .i64 (w.l.length:Nat)))→s.eval (.t 13)=some (.val (.int .i64 (i:Nat)))→s.defers=[]→
  Run E1 uy s fun e s'=>s'.defers=[]∧((vE seen r=0∧e=.exit 0)∨(vE seen r≠0∧e=.ret∧s'.eval (.t 2)=some (.val (.int .i64 (vE seen r)))))
 | [],i,s,seen,hd,hi,hn,g0,h3,h11,h12,h13,hf=>by
  have hl:=aN hd hi
  subst hl
  apply aC (rfl:uy=.loop dj)
  simp-implicitDefEqProofs only[dj,V,↓reduceIte,rA,rB,rC,reduceCtorEq,rD,rE,rF,WB,h3,h11,h12,h13,hf,lt_f,vE]
 |k::r,i,s,seen,hd,hi,hn,g0,h3,h11,h12,h13,hf=>by
  have hl:=aV hd
  have hlt:=lt_t hl
  have w1:IntKind.i64.wrap ((i:Int)+1)=((i+1:Nat):Int):=aE (n:=i+1) om
  have n0:(0=s.h.next)=False:=eq_false om
  have s1e:(⟨#[118]⟩:ByteArray)=sV:=rfl
  apply aC (rfl:uy=.loop dj)
  cases hv:strEq k.nm sV with
  |true=>
   cases hm:memS k.nm seen with
   |true=>
    simp-implicitDefEqProofs only[dj,V,↓reduceIte,rA,rB,rC,reduceCtorEq,rD,rE,rF,WB,WF,h3,h11,h12,h13,hf,hlt,w.at Vr.len hd,cF,iK,s1e,hv,cH,bT,bk,g0,n0,hm,vE]
    exact .inr de
   |false=>cases ht:decide (srtE k.so=0) with
    |false=>
     simp-implicitDefEqProofs only[dj,V,↓reduceIte,rA,rB,rC,reduceCtorEq,rD,rE,rF,WB,WF,h3,h11,h12,h13,hf,hlt,w.at Vr.len hd,cF,iK,s1e,hv,cH,bT,bk,ip,dM,eY,g0,n0,hm,aA (bm k.so),ht,vE,(eq_false om:(s.h.next=0)=False)]
     exact .inr (of_decide_eq_false ht)
    |true=>
     simp-implicitDefEqProofs only[dj,V,↓reduceIte,rA,rB,rC,reduceCtorEq,rD,rE,rF,WB,WF,h3,h11,h12,h13,hlt,w.at Vr.len hd,cF,iK,s1e,hv,cH,bT,bk,ip,dM,eY,g0,n0,hm,aA (bm k.so),ht,vE,w1,(eq_false om:(s.h.next=0)=False)]
     refine pm w hN r (i+1) _ (addS k.nm seen) (aF hd) om ?_ ?_ ?_ ?_ ?_ ?_ ?_
     ·exact U53
     ·exact U28
     all_goals simp-implicitDefEqProofs only[V,↓reduceIte,rA,rB,rC,reduceCtorEq,rD,rE,rF,h3,h11,h12,hf]
  |false=>cases hc:decide (coreA k.nm=0) with
   |false=>
    simp-implicitDefEqProofs only[dj,V,↓reduceIte,rA,rB,rC,reduceCtorEq,rD,rE,rF,WB,WF,h3,h11,h12,h13,hf,hlt,w.at Vr.len hd,cF,iK,s1e,hv,aA (aZ k.nm),hc,vE]
    exact .inr de
   |true=>
    cases hm:memS k.nm seen with
    |true=>
     simp-implicitDefEqProofs only[dj,V,↓reduceIte,rA,rB,rC,reduceCtorEq,rD,rE,rF,WB,WF,h3,h11,h12,h13,hf,hlt,w.at Vr.len hd,cF,iK,s1e,hv,aA (aZ k.nm),hc,cH,bT,bk,g0,n0,hm,vE]
     exact .inr de
    |false=>cases ht:decide (srtE k.so=0) with
     |false=>
      simp-implicitDefEqProofs only[dj,V,↓reduceIte,rA,rB,rC,reduceCtorEq,rD,rE,rF,WB,WF,h3,h11,h12,h13,hf,hlt,w.at Vr.len hd,cF,iK,s1e,hv,aA (aZ k.nm),hc,cH,bT,bk,ip,dM,eY,g0,n0,hm,aA (bm k.so),ht,vE,(eq_false om:(s.h.next=0)=False)]
      exact .inr (of_decide_eq_false ht)
     |true=>
      simp-implicitDefEqProofs only[dj,V,↓reduceIte,rA,rB,rC,reduceCtorEq,rD,rE,rF,WB,WF,h3,h11,h12,h13,hlt,w.at Vr.len hd,cF,iK,s1e,hv,aA (aZ k.nm),hc,cH,bT,bk,ip,dM,eY,g0,n0,hm,aA (bm k.so),ht,vE,w1,(eq_false om:(s.h.next=0)=False)]
      refine pm w hN r (i+1) _ (addS k.nm seen) (aF hd) om ?_ ?_ ?_ ?_ ?_ ?_ ?_
      ·exact U53
      ·exact U28
      all_goals simp-implicitDefEqProofs only[V,↓reduceIte,rA,rB,rC,reduceCtorEq,rD,rE,rF,h3,h11,h12,hf]
theorem kz(w:Vl Vr)(hN:w.l.length<2^61)(h:AH):RunCall E1 (.f 57) [w.A Vr.cells] h (.val (.int .i64 (varsE w.l))) h:=by
 refine cK kr f57_ok (mem1 Vl.leaf.tree) rfl (Tree.val _) (fun s hs hh hd hr=>?_) h
 have h0:=hs 0 _ rfl
 unfold varsE
 cases hc:decide ((24:Int)<(w.l.length:Nat)) with
 |true=>simp-implicitDefEqProofs only[zu,f57,V,↓reduceIte,rA,rB,rC,reduceCtorEq,rD,rE,rF,WB,h0,hh,hd,Vl.len,hc]
 |false=>
  simp-implicitDefEqProofs only[zu,f57,V,↓reduceIte,rA,rB,rC,reduceCtorEq,rD,rE,rF,WB,h0,hh,Vl.len,hc,mY,jB]
  refine(pm w hN w.l 0 _ [] rfl (Nat.zero_le _) ?_ ?_ ?_ ?_ ?_ ?_ ?_).mono ?_
  ·exact U81
  ·exact U28
  ·exact U28
  ·exact U28
  ·exact U28
  ·exact U66
  ·exact U33
  rintro e s1 ⟨d1,⟨q,rfl⟩|⟨q,rfl,e2⟩⟩
  ·exact U93
  ·exact U101
theorem xc(y:Sm)(hN:y.as.l.length<2^61):∀(r:List ByteArray) (i:Nat) (s:St),y.as.l.drop i=r→i≤y.as.l.length→
  s.eval (.t 1)=some (.ptr 0 0)→s.eval (.t 21)=some (y.as.A strA)→s.eval (.t 22)=some (.val (.int .i64 (y.as.l.length:Nat)))→s.eval (.t 23)=some (.val (.int .i64 (i:Nat)))→s.defers=[]→
  Run E1 ug s fun e s'=>s'.defers=[]∧((e=.exit 0∧s'.h=s.h∧s'.eval (.t 1)=some (.ptr 0 0))∨(e=.ret∧∃x,s'.eval (.t 2)=some (.val (.int .i64 x))))
 | [],i,s,hd,hi,h1,h21,h22,h23,hf=>by
  have hl:=aN hd hi
  subst hl
  apply aC (rfl:ug=.loop kX)
  simp-implicitDefEqProofs only[kX,V,↓reduceIte,rA,rB,rC,reduceCtorEq,rD,rE,rF,WB,h1,h21,h22,h23,hf,lt_f]
 |k::r,i,s,hd,hi,h1,h21,h22,h23,hf=>by
  have hl:=aV hd
  have hlt:=lt_t hl
  have w1:IntKind.i64.wrap ((i:Int)+1)=((i+1:Nat):Int):=aE (n:=i+1) om
  apply aC (rfl:ug=.loop kX)
  cases ht:decide (srtE k=0) with
  |false=>
   simp-implicitDefEqProofs only[kX,V,↓reduceIte,rA,rB,rC,reduceCtorEq,rD,rE,rF,WB,WF,h1,h21,h22,h23,hf,hlt,y.as.at ax hd,strA,List.cons_append,List.nil_append,aA (bm k),ht]
   exact .inr ⟨_,rfl⟩
  |true=>
   simp-implicitDefEqProofs only[kX,V,↓reduceIte,rA,rB,rC,reduceCtorEq,rD,rE,rF,WB,WF,h1,h21,h22,h23,hlt,y.as.at ax hd,strA,List.cons_append,List.nil_append,aA (bm k),ht,w1]
   refine(xc y hN r (i+1) _ (aF hd) om ?_ ?_ ?_ ?_ ?_).mono ?_
   all_goals simp-implicitDefEqProofs only[V,↓reduceIte,rA,rB,rC,reduceCtorEq,rD,rE,rF,h1,h21,h22,hf]
   intro e s1 h
   exact h
theorem sym_ans(y:Sm)(hN:y.as.l.length<2^61):∃x,∀h,RunCall E1 (.f 85) [.agg y.cells] h (.val (.int .i64 x)) h:=by
 obtain⟨r,⟨x,hx⟩,ha⟩:=ansE (g:=85) (l:=[.agg y.cells]) (P:=fun r=>∃x,r=.val (.int .i64 x)) f85_ok fun s hs hh hd=>by
  have h0:=hs 0 _ rfl
  cases hc:decide (coreA y.nm=0) with
  |false=>
   simp-implicitDefEqProofs only[pY,f85,V,↓reduceIte,rA,rB,rC,reduceCtorEq,rD,rE,rF,WB,h0,hh,hd,aA (aZ y.nm),hc]
   exact⟨_,⟨_,rfl⟩,rfl⟩
  |true=>
   cases l1:decide (((y.as.l.length:Nat):Int)<1) with
   |true=>
    simp-implicitDefEqProofs only[pY,f85,V,↓reduceIte,rA,rB,rC,reduceCtorEq,rD,rE,rF,WB,h0,hh,hd,aA (aZ y.nm),hc,Vl.len,l1]
    exact⟨_,⟨_,rfl⟩,rfl⟩
   |false=>cases l2:decide ((6:Int)<((y.as.l.length:Nat):Int)) with
    |true=>
     simp-implicitDefEqProofs only[pY,f85,V,↓reduceIte,rA,rB,rC,reduceCtorEq,rD,rE,rF,WB,h0,hh,hd,aA (aZ y.nm),hc,Vl.len,l1,l2]
     exact⟨_,⟨_,rfl⟩,rfl⟩
    |false=>
     simp-implicitDefEqProofs only[pY,f85,V,↓reduceIte,rA,rB,rC,reduceCtorEq,rD,rE,rF,WB,h0,hh,aA (aZ y.nm),hc,Vl.len,l1,l2]
     refine(xc y hN y.as.l 0 _ rfl (Nat.zero_le _) ?_ ?_ ?_ ?_ ?_).mono ?_
     ·exact U28
     ·exact U28
     ·exact U28
     ·exact U66
     ·exact U33
     rintro e s1 ⟨d1,⟨rfl,e1,e2⟩|⟨rfl,x,e2⟩⟩
     ·simp-implicitDefEqProofs only[V,↓reduceIte,rA,rB,rC,reduceCtorEq,rD,rE,rF] at e1
      simp-implicitDefEqProofs only[V,↓reduceIte,rA,rB,rC,reduceCtorEq,rD,rE,rF,WB,d1,e1,e2,aA (bm y.res)]
      exact⟨_,⟨_,rfl⟩,rfl⟩
     ·simp-implicitDefEqProofs only[V,↓reduceIte,rA,rB,rC,reduceCtorEq,rD,rE,rF,WB,d1,e2]
      exact⟨_,⟨_,rfl⟩,rfl⟩
 subst hx
 exact⟨x,aB kr kr (mem1 (Tree.sm y)) rfl (Tree.val _) ha⟩
theorem xm(w:Vl Sm)(hN:w.l.length<2^61)(hP:∀x∈w.l,x.as.l.length<2^61):∀(r:List Sm) (i:Nat) (s:St) (seen:List ByteArray),w.l.drop i=r→i≤w.l.length→0<s.h.next→s.h.get 0=some (mapB seen)→
  s.eval (.t 3)=some (.mp 0)→s.eval (.t 11)=some (w.A Sm.cells)→s.eval (.t 12)=some (.val (.int .i64 (w.l.length:Nat)))→s.eval (.t 13)=some (.val (.int .i64 (i:Nat)))→s.defers=[]→
  Run E1 pk s fun e s'=>s'.defers=[]∧(e=.exit 0∨(e=.ret∧∃x,s'.eval (.t 2)=some (.val (.int .i64 x))))
 | [],i,s,seen,hd,hi,hn,g0,h3,h11,h12,h13,hf=>by
  have hl:=aN hd hi
  subst hl
  apply aC (rfl:pk=.loop fC)
  simp-implicitDefEqProofs only[fC,V,↓reduceIte,rA,rB,rC,reduceCtorEq,rD,rE,rF,WB,h3,h11,h12,h13,hf,lt_f]
 |k::r,i,s,seen,hd,hi,hn,g0,h3,h11,h12,h13,hf=>by
  have hl:=aV hd
  have hlt:=lt_t hl
  have w1:IntKind.i64.wrap ((i:Int)+1)=((i+1:Nat):Int):=aE (n:=i+1) om
  have n0:(0=s.h.next)=False:=eq_false om
  obtain⟨x,hx⟩:=sym_ans k (hP k (List.mem_of_mem_drop (i:=i) (by rw[hd];exact List.mem_cons_self)))
  apply aC (rfl:pk=.loop fC)
  cases hc:decide (x=0) with
  |false=>
   simp-implicitDefEqProofs only[fC,V,↓reduceIte,rA,rB,rC,reduceCtorEq,rD,rE,rF,WB,WF,h3,h11,h12,h13,hf,hlt,w.at Sm.len hd,eN,eF,aA hx,hc]
   exact .inr ⟨_,rfl⟩
  |true=>cases hm:memS k.nm seen with
   |true=>
    simp-implicitDefEqProofs only[fC,V,↓reduceIte,rA,rB,rC,reduceCtorEq,rD,rE,rF,WB,WF,h3,h11,h12,h13,hf,hlt,w.at Sm.len hd,eN,eF,aA hx,hc,cH,bT,bk,g0,n0,hm]
    exact .inr ⟨_,rfl⟩
   |false=>
    simp-implicitDefEqProofs only[fC,V,↓reduceIte,rA,rB,rC,reduceCtorEq,rD,rE,rF,WB,WF,h3,h11,h12,h13,hlt,w.at Sm.len hd,eN,eF,aA hx,hc,cH,bT,bk,ip,dM,eY,g0,n0,hm,w1,(eq_false om:(s.h.next=0)=False)]
    refine xm w hN hP r (i+1) _ (addS k.nm seen) (aF hd) om ?_ ?_ ?_ ?_ ?_ ?_ ?_
    ·exact U53
    ·exact U28
    all_goals simp-implicitDefEqProofs only[V,↓reduceIte,rA,rB,rC,reduceCtorEq,rD,rE,rF,h3,h11,h12,hf]
theorem syms_ans(w:Vl Sm)(hN:w.l.length<2^61)(hP:∀x∈w.l,x.as.l.length<2^61):∃x,(w.l=[]→x=0)∧∀h,RunCall E1 (.f 58) [w.A Sm.cells] h (.val (.int .i64 x)) h:=by
 obtain⟨r,⟨x,hz,hx⟩,ha⟩:=ansE (g:=58) (l:=[w.A Sm.cells]) (P:=fun r=>∃x,(w.l=[]→x=0)∧r=.val (.int .i64 x)) f58_ok fun s hs hh hd=>by
  have h0:=hs 0 _ rfl
  cases hc:decide ((64:Int)<(w.l.length:Nat)) with
  |true=>
   simp-implicitDefEqProofs only[zt,f58,V,↓reduceIte,rA,rB,rC,reduceCtorEq,rD,rE,rF,WB,h0,hh,hd,Vl.len,hc]
   refine⟨_,⟨_,fun e=>?_,rfl⟩,rfl⟩
   rw[e] at hc
   cases hc
  |false=>
   simp-implicitDefEqProofs only[zt,f58,V,↓reduceIte,rA,rB,rC,reduceCtorEq,rD,rE,rF,WB,h0,hh,Vl.len,hc,mY,jB]
   by_cases hw:w.l=[]
   ·apply aC (rfl:pk=.loop fC)
    have e0:(w.l.length:Int)=0:=by rw[hw];rfl
    simp-implicitDefEqProofs only[fC,V,↓reduceIte,rA,rB,rC,reduceCtorEq,rD,rE,rF,WB,e0,hd]
    exact⟨_,⟨_,fun _=>rfl,rfl⟩,rfl⟩
   refine(xm w hN hP w.l 0 _ [] rfl (Nat.zero_le _) ?_ ?_ ?_ ?_ ?_ ?_ ?_).mono ?_
   ·exact U81
   ·exact U28
   ·exact U28
   ·exact U28
   ·exact U28
   ·exact U66
   ·exact U33
   rintro e s1 ⟨d1,rfl|⟨rfl,x,e2⟩⟩
   ·simp-implicitDefEqProofs only[V,↓reduceIte,rA,rB,rC,reduceCtorEq,rD,rE,rF,WB,d1]
    exact⟨_,⟨_,fun e=>absurd e hw,rfl⟩,rfl⟩
   ·simp-implicitDefEqProofs only[V,↓reduceIte,rA,rB,rC,reduceCtorEq,rD,rE,rF,WB,d1,e2]
    exact⟨_,⟨_,fun e=>absurd e hw,rfl⟩,rfl⟩
 subst hx
 exact⟨x,hz,aB kr kr (mem1 Vl.leaf.tree) rfl (Tree.val _) ha⟩
noncomputable def hE:List ByteArray→List Ho→Int
 |_,[]=>0
 |seen,h::r=>bif !decide (coreA h.nm=0) then 3 else bif memS h.nm seen then 4 else bif decide (((h.ps.l.length:Nat):Int)=0) then 13 else bif decide (varsE h.ps.l=0) then hE (addS h.nm seen) r else varsE h.ps.l
noncomputable def holesE (l:List Ho):Int:=bif decide ((40:Int)<(l.length:Nat)) then 7 else hE [] l
theorem xl(w:Vl Ho)(hN:w.l.length<2^61)(hP:∀x∈w.l,x.ps.l.length<2^61):∀(r:List Ho) (i:Nat) (s:St) (seen:List ByteArray),w.l.drop i=r→i≤w.l.length→0<s.h.next→s.h.get 0=some (mapB seen)→
  s.eval (.t 3)=some (.mp 0)→s.eval (.t 11)=some (w.A Ho.cells)→s.eval (.t 12)=some (.val (.int .i64 (w.l.length:Nat)))→s.eval (.t 13)=some (.val (.int .i64 (i:Nat)))→s.defers=[]→
  Run E1 ux s fun e s'=>s'.defers=[]∧((hE seen r=0∧e=.exit 0)∨(hE seen r≠0∧e=.ret∧s'.eval (.t 2)=some (.val (.int .i64 (hE seen r)))))
 | [],i,s,seen,hd,hi,hn,g0,h3,h11,h12,h13,hf=>by
  have hl:=aN hd hi
  subst hl
  apply aC (rfl:ux=.loop fB)
  simp-implicitDefEqProofs only[fB,V,↓reduceIte,rA,rB,rC,reduceCtorEq,rD,rE,rF,WB,h3,h11,h12,h13,hf,lt_f,hE]
 |k::r,i,s,seen,hd,hi,hn,g0,h3,h11,h12,h13,hf=>by
  have hl:=aV hd
  have hlt:=lt_t hl
  have w1:IntKind.i64.wrap ((i:Int)+1)=((i+1:Nat):Int):=aE (n:=i+1) om
  have n0:(0=s.h.next)=False:=eq_false om
  have n1:(s.h.next=0)=False:=eq_false om
  have hv:=kz k.ps (hP k (List.mem_of_mem_drop (i:=i) (by rw[hd];exact List.mem_cons_self)))
  apply aC (rfl:ux=.loop fB)
  cases hc:decide (coreA k.nm=0) with
  |false=>
   simp-implicitDefEqProofs only[fB,V,↓reduceIte,rA,rB,rC,reduceCtorEq,rD,rE,rF,WB,WF,h3,h11,h12,h13,hf,hlt,w.at Ho.len hd,bR,bg,aA (aZ k.nm),hc,hE]
   exact .inr de
  |true=>cases hm:memS k.nm seen with
   |true=>
    simp-implicitDefEqProofs only[fB,V,↓reduceIte,rA,rB,rC,reduceCtorEq,rD,rE,rF,WB,WF,h3,h11,h12,h13,hf,hlt,w.at Ho.len hd,bR,bg,aA (aZ k.nm),hc,cH,bT,bk,g0,n0,hm,hE]
    exact .inr de
   |false=>cases hz:decide (((k.ps.l.length:Nat):Int)=0) with
    |true=>
     simp-implicitDefEqProofs only[fB,V,↓reduceIte,rA,rB,rC,reduceCtorEq,rD,rE,rF,WB,WF,h3,h11,h12,h13,hf,hlt,w.at Ho.len hd,bR,bg,aA (aZ k.nm),hc,cH,bT,bk,ip,dM,eY,g0,n0,n1,hm,Vl.len,hz,hE]
     exact .inr de
    |false=>cases ht:decide (varsE k.ps.l=0) with
     |false=>
      simp-implicitDefEqProofs only[fB,V,↓reduceIte,rA,rB,rC,reduceCtorEq,rD,rE,rF,WB,WF,h3,h11,h12,h13,hf,hlt,w.at Ho.len hd,bR,bg,aA (aZ k.nm),hc,cH,bT,bk,ip,dM,eY,g0,n0,n1,hm,Vl.len,hz,aA hv,ht,hE]
      exact .inr (of_decide_eq_false ht)
     |true=>
      simp-implicitDefEqProofs only[fB,V,↓reduceIte,rA,rB,rC,reduceCtorEq,rD,rE,rF,WB,WF,h3,h11,h12,h13,hlt,w.at Ho.len hd,bR,bg,aA (aZ k.nm),hc,cH,bT,bk,ip,dM,eY,g0,n0,n1,hm,Vl.len,hz,aA hv,ht,hE,w1]
      refine xl w hN hP r (i+1) _ (addS k.nm seen) (aF hd) om ?_ ?_ ?_ ?_ ?_ ?_ ?_
      ·exact U53
      ·exact U28
      all_goals simp-implicitDefEqProofs only[V,↓reduceIte,rA,rB,rC,reduceCtorEq,rD,rE,rF,h3,h11,h12,hf]
theorem uV(w:Vl Ho)(hN:w.l.length<2^61)(hP:∀x∈w.l,x.ps.l.length<2^61)(h:AH):RunCall E1 (.f 59) [w.A Ho.cells] h (.val (.int .i64 (holesE w.l))) h:=by
 refine cK kr f59_ok (mem1 Vl.leaf.tree) rfl (Tree.val _) (fun s hs hh hd hr=>?_) h
 have h0:=hs 0 _ rfl
 unfold holesE
 cases hc:decide ((40:Int)<(w.l.length:Nat)) with
 |true=>simp-implicitDefEqProofs only[zr,f59,V,↓reduceIte,rA,rB,rC,reduceCtorEq,rD,rE,rF,WB,h0,hh,hd,Vl.len,hc]
 |false=>
  simp-implicitDefEqProofs only[zr,f59,V,↓reduceIte,rA,rB,rC,reduceCtorEq,rD,rE,rF,WB,h0,hh,Vl.len,hc,mY,jB]
  refine(xl w hN hP w.l 0 _ [] rfl (Nat.zero_le _) ?_ ?_ ?_ ?_ ?_ ?_ ?_).mono ?_
  ·exact U81
  ·exact U28
  ·exact U28
  ·exact U28
  ·exact U28
  ·exact U66
  ·exact U33
  rintro e s1 ⟨d1,⟨q,rfl⟩|⟨q,rfl,e2⟩⟩
  ·exact U93
  ·exact U101
theorem env_ans(Vx:Evr)(hV:Vx.vs.l.length<2^61)(hY:Vx.sy.l.length<2^61)(hYP:∀x∈Vx.sy.l,x.as.l.length<2^61)(hN:Vx.hs.l.length<2^61)(hP:∀x∈Vx.hs.l,x.ps.l.length<2^61):
  ∃x,(x=0→varsE Vx.vs.l=0∧holesE Vx.hs.l=0)∧∀h,RunCall E1 (.f 33) [.agg Vx.cells] h (.val (.int .i64 x)) h:=by
 have c1:=kz Vx.vs hV
 obtain⟨y,_,c2⟩:=syms_ans Vx.sy hY hYP
 have c3:=uV Vx.hs hN hP
 refine⟨bif decide (varsE Vx.vs.l=0) then(bif decide (y=0) then holesE Vx.hs.l else y) else varsE Vx.vs.l,fun hx=>?_,fun h=>cK kr f33_ok (mem1 (Tree.ev Vx)) rfl (Tree.val _) (fun s hs hh hd hr=>?_) h⟩
 ·cases q1:decide (varsE Vx.vs.l=0) with
  |false=>
   rw[q1] at hx
   exact absurd hx (of_decide_eq_false q1)
  |true=>cases q2:decide (y=0) with
   |false=>
    rw[q1,q2] at hx
    exact absurd hx (of_decide_eq_false q2)
   |true=>
    rw[q1,q2] at hx
    exact⟨of_decide_eq_true q1,hx⟩
 ·have h0:=hs 0 _ rfl
  cases q1:decide (varsE Vx.vs.l=0) with
  |false=>simp-implicitDefEqProofs only[vL,f33,V,↓reduceIte,rA,rB,rC,reduceCtorEq,rD,rE,rF,WB,h0,hh,hd,aA c1,q1]
  |true=>cases q2:decide (y=0) with
   |false=>simp-implicitDefEqProofs only[vL,f33,V,↓reduceIte,rA,rB,rC,reduceCtorEq,rD,rE,rF,WB,h0,hh,hd,aA c1,aA c2,q1,q2]
   |true=>simp-implicitDefEqProofs only[vL,f33,V,↓reduceIte,rA,rB,rC,reduceCtorEq,rD,rE,rF,WB,h0,hh,hd,aA c1,aA c2,aA c3,q1,q2]
end Go.Proofs.YtkhblipgiijoiaaGreatDoor
