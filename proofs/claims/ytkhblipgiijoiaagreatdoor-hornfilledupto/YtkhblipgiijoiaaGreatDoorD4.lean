/- A part of the proof about filled horn systems: ZClone ZVoid. -/
import Derived.Test.YtkhblipgiijoiaaGreatDoorU0
import Derived.Test.YtkhblipgiijoiaaGreatDoorD3

set_option linter.all false
open Nat renaming reduceEqDiff → rA, reduceAdd → rB, reduceMul → rC
open Int renaming reduceEq → rD, reduceLT → rE, reduceLE → rF
namespace Go.Proofs.YtkhblipgiijoiaaGreatDoor
open Go Go.AM
set_option maxHeartbeats 4000000
theorem nP{s:St}{es bytes a d n b:Nat}{x:AV}{cs new:List AV}{rw':Bool}(hb:s.h.get b=some (.cells [] rw'))(he:elemsOf s.h es x=some (new,n))(hn:0<n)(hok:okLen n bytes=true)(ha:s.eval (.t a)=some (.own b 0 0 es (some 0)))(hx:s.eval (.t d)=some x):
  appendA s es bytes (.t a) (.t d)=some (.own s.h.next 0 n es none,s.toH (s.h.alloc (.cells new true))):=by
 have h0:Nat.beq n 0=false:=by
  cases hk:Nat.beq n 0 with
  |false=>rfl
  |true=>
   have:=Nat.eq_of_beq_eq_true hk
   omega
 have h1:Nat.beq es es=true:=Nat.beq_refl es
 have h2:Nat.ble 0 0=true:=rfl
 have h3:Nat.ble (0+n) 0=false:=by
  cases hk:Nat.ble (0+n) 0 with
  |false=>rfl
  |true=>
   have:=Nat.le_of_ble_eq_true hk
   omega
 simp only[appendA,ha,hx,he,h0,cond_false,hb,h1,h2,Nat.zero_add,Nat.zero_mul,List.length_nil,hok,Bool.and_self,cond_true] at h3⊢
 simp only[h3,cond_false,List.drop_nil,List.take_nil,List.nil_append]
 rfl
theorem ju{s:St}{es bytes a d b k:Nat}{c:Option Nat}{x:AV}{new:List AV}(he:elemsOf s.h es x=some (new,0))(ha:s.eval (.t a)=some (.own b 0 k es c))(hx:s.eval (.t d)=some x):
  appendA s es bytes (.t a) (.t d)=some (.own b 0 k es c,s):=by
 have h0:Nat.beq 0 0=true:=rfl
 simp only[appendA,ha,hx,he,h0,cond_true]
theorem bU{α:Type}{f:α→List AV}{es:Nat}(hf:∀a,(f a).length=es){w:Vl α}{h:AH}:elemsOf h es (w.A f)=some (w.l.flatMap f,w.l.length):=by
 obtain⟨l,nl,cap⟩:=w
 simp only[Vl.A,kidsA]
 cases nl with
 |none=>
  simp only[Option.isSome_none,Bool.false_and,cond_false]
  exact gi (bM hf l)
 |some x=>
  obtain⟨a,c⟩:=x
  cases l with
  |nil=>rfl
  |cons k r=>
   simp only[Option.isSome_some,Bool.true_and,List.length_cons]
   exact gi (by rw[bM hf];rfl)
theorem nil45_v{a:Option Addr}{c:Nat}:binA E1.P .eql 42 true (.val (.slice a 0 c)) (.val (.slice none 0 0))=some (.val (.bool a.isNone)):=by cases a<;>kernel_rfl
theorem nil45_i{cs:List AV}{n:Nat}{cap:Option Nat}:binA E1.P .eql 42 true (.imm cs n cap) (.val (.slice none 0 0))=some (.val (.bool false)):=by kernel_rfl
theorem fF(w:Vl Vr)(hl:∀v∈w.l.flatMap Vr.cells,Leaf v)(hN:w.l.length<2^31):∃w':Vl Vr,w'.l=w.l∧∀h,RunCall E1 (.f 45) [w.A Vr.cells] h (w'.A Vr.cells) h:=by
 have nilc:∀x:AV,binA E1.P .eql 42 true x (.val (.slice none 0 0))=some (.val (.bool true))→Leaf x→∀h,RunCall E1 (.f 45) [x] h ((⟨[],nilK,none⟩:Vl Vr).A Vr.cells) h:=fun x hx hlx h=>by
  refine bw kr f45_ok (mem1 hlx.tree) (fun s hs hh hd hr=>?_) h
  have h0:=hs 0 _ rfl
  simp-implicitDefEqProofs only[vG,f45,V,↓reduceIte,rA,rB,rC,reduceCtorEq,rD,rE,rF,WF,h0,hh,hd,hx]
  exact⟨_,rfl,1,de,Rep.leaf (Leaf.val _)⟩
 have emp:∀(w:Vl Vr) (x:AV),w.l=[]→w.A Vr.cells=x→binA E1.P .eql 42 true x (.val (.slice none 0 0))=some (.val (.bool false))→∀h,RunCall E1 (.f 45) [x] h ((⟨[],none,some 0⟩:Vl Vr).A Vr.cells) h:=fun w x hl0 hxe hx h=>by
  refine bw kr f45_ok (mem1 (by rw[←hxe];exact Tree.vl)) (fun s hs hh hd hr=>?_) h
  have h0:=hs 0 _ rfl
  have he:∀h:AH,elemsOf h 2 x=some ([],0):=fun h=>by
   have:=bU Vr.len (w:=w) (h:=h)
   rw[hl0,hxe] at this
   exact this
  simp-implicitDefEqProofs only[vG,f45,V,↓reduceIte,rA,rB,rC,reduceCtorEq,rD,rE,rF,WF,h0,hh,hd,hx]
  rw[bn,ju (x:=x) (new:=[]) (he _) U29 U28]
  simp-implicitDefEqProofs only[aO,V,↓reduceIte,rA,rB,rC,reduceCtorEq,rD,rE,rF,WF,hd]
  refine⟨_,rfl,1,de,?_⟩
  exact Rep.own (ps:=[]) (rw:=true) (Nat.le_refl _) (by show 0<1;decide) rfl rfl fun p hp=>by cases hp
 have some':∀x:AV,0<w.l.length→w.A Vr.cells=x→binA E1.P .eql 42 true x (.val (.slice none 0 0))=some (.val (.bool false))→∀h,RunCall E1 (.f 45) [x] h ((⟨w.l,nilK,none⟩:Vl Vr).A Vr.cells) h:=fun x hl0 hxe hx h=>by
  refine bw kr f45_ok (mem1 (by rw[←hxe];exact Tree.vl)) (fun s hs hh hd hr=>?_) h
  have h0:=hs 0 _ rfl
  have he:∀h:AH,elemsOf h 2 x=some (w.l.flatMap Vr.cells,w.l.length):=fun h=>by
   rw[←hxe]
   exact bU Vr.len
  simp-implicitDefEqProofs only[vG,f45,V,↓reduceIte,rA,rB,rC,reduceCtorEq,rD,rE,rF,WF,h0,hh,hd,hx]
  rw[bn,nP (cs:=[]) (rw':=true) (x:=x) (b:=0) U29 (he _) hl0 (bD hN de) U29 U28]
  simp-implicitDefEqProofs only[aO,V,↓reduceIte,rA,rB,rC,reduceCtorEq,rD,rE,rF,WF,hd]
  refine⟨_,rfl,1,de,?_⟩
  have r:RowC ((AH.empty.alloc (.cells [] true)).alloc (.cells (w.l.flatMap Vr.cells) true)) 0 w.l.length 2 (.own 1 0 w.l.length 2 none) (w.l.flatMap Vr.cells):=⟨hl,bM Vr.len _,.inr ⟨1,Nat.zero_le _,by show 1<2;decide,hl0,rfl,rfl⟩⟩
  have:=r.rep
  rw[show(bif Nat.beq w.l.length 0 then AV.val (.slice none 0 0) else .imm (w.l.flatMap Vr.cells) w.l.length none)=rowT w.l.length (w.l.flatMap Vr.cells) from rfl,cd rfl] at this
  exact this
 obtain⟨l,nl,cap⟩:=w
 cases l with
 |cons k r=>
  refine⟨⟨k::r,nilK,none⟩,rfl,some' _ (by show 0<r.length+1;omega) rfl ?_⟩
  have:(⟨k::r,nl,cap⟩:Vl Vr).A Vr.cells=.imm ((k::r).flatMap Vr.cells) (k::r).length cap:=by
   simp only[Vl.A,kidsA]
   cases nl<;>rfl
  rw[this]
  exact nil45_i
 |nil=>
  cases nl with
  |none=>exact⟨⟨[],none,some 0⟩,rfl,emp ⟨[],none,cap⟩ _ rfl rfl nil45_i⟩
  |some x=>
   obtain⟨a,c⟩:=x
   cases a with
   |none=>exact⟨⟨[],nilK,none⟩,rfl,nilc _ nil45_v (Leaf.val _)⟩
   |some a=>exact⟨⟨[],none,some 0⟩,rfl,emp ⟨[],some (some a,c),cap⟩ _ rfl rfl nil45_v⟩
theorem nil50_v{a:Option Addr}{c:Nat}:binA E1.P .eql 22 true (.val (.slice a 0 c)) (.val (.slice none 0 0))=some (.val (.bool a.isNone)):=by cases a<;>kernel_rfl
theorem nil50_i{cs:List AV}{n:Nat}{cap:Option Nat}:binA E1.P .eql 22 true (.imm cs n cap) (.val (.slice none 0 0))=some (.val (.bool false)):=by kernel_rfl
theorem vk(w:Vl Sm)(hl:∀v∈w.l.flatMap Sm.cells,Leaf v)(hN:w.l.length<2^31):∃w':Vl Sm,w'.l=w.l∧∀h,RunCall E1 (.f 50) [w.A Sm.cells] h (w'.A Sm.cells) h:=by
 have nilc:∀x:AV,binA E1.P .eql 22 true x (.val (.slice none 0 0))=some (.val (.bool true))→Leaf x→∀h,RunCall E1 (.f 50) [x] h ((⟨[],nilK,none⟩:Vl Sm).A Sm.cells) h:=fun x hx hlx h=>by
  refine bw kr f50_ok (mem1 hlx.tree) (fun s hs hh hd hr=>?_) h
  have h0:=hs 0 _ rfl
  simp-implicitDefEqProofs only[vB,f50,V,↓reduceIte,rA,rB,rC,reduceCtorEq,rD,rE,rF,WF,h0,hh,hd,hx]
  exact⟨_,rfl,1,de,Rep.leaf (Leaf.val _)⟩
 have emp:∀(w:Vl Sm) (x:AV),w.l=[]→w.A Sm.cells=x→binA E1.P .eql 22 true x (.val (.slice none 0 0))=some (.val (.bool false))→∀h,RunCall E1 (.f 50) [x] h ((⟨[],none,some 0⟩:Vl Sm).A Sm.cells) h:=fun w x hl0 hxe hx h=>by
  refine bw kr f50_ok (mem1 (by rw[←hxe];exact Tree.vl)) (fun s hs hh hd hr=>?_) h
  have h0:=hs 0 _ rfl
  have he:∀h:AH,elemsOf h 3 x=some ([],0):=fun h=>by
   have:=bU Sm.len (w:=w) (h:=h)
   rw[hl0,hxe] at this
   exact this
  simp-implicitDefEqProofs only[vB,f50,V,↓reduceIte,rA,rB,rC,reduceCtorEq,rD,rE,rF,WF,h0,hh,hd,hx]
  rw[bn,ju (x:=x) (new:=[]) (he _) U29 U28]
  simp-implicitDefEqProofs only[aO,V,↓reduceIte,rA,rB,rC,reduceCtorEq,rD,rE,rF,WF,hd]
  refine⟨_,rfl,1,de,?_⟩
  exact Rep.own (ps:=[]) (rw:=true) (Nat.le_refl _) (by show 0<1;decide) rfl rfl fun p hp=>by cases hp
 have some':∀x:AV,0<w.l.length→w.A Sm.cells=x→binA E1.P .eql 22 true x (.val (.slice none 0 0))=some (.val (.bool false))→∀h,RunCall E1 (.f 50) [x] h ((⟨w.l,nilK,none⟩:Vl Sm).A Sm.cells) h:=fun x hl0 hxe hx h=>by
  refine bw kr f50_ok (mem1 (by rw[←hxe];exact Tree.vl)) (fun s hs hh hd hr=>?_) h
  have h0:=hs 0 _ rfl
  have he:∀h:AH,elemsOf h 3 x=some (w.l.flatMap Sm.cells,w.l.length):=fun h=>by
   rw[←hxe]
   exact bU Sm.len
  simp-implicitDefEqProofs only[vB,f50,V,↓reduceIte,rA,rB,rC,reduceCtorEq,rD,rE,rF,WF,h0,hh,hd,hx]
  rw[bn,nP (cs:=[]) (rw':=true) (x:=x) (b:=0) U29 (he _) hl0 (bD hN de) U29 U28]
  simp-implicitDefEqProofs only[aO,V,↓reduceIte,rA,rB,rC,reduceCtorEq,rD,rE,rF,WF,hd]
  refine⟨_,rfl,1,de,?_⟩
  have r:RowC ((AH.empty.alloc (.cells [] true)).alloc (.cells (w.l.flatMap Sm.cells) true)) 0 w.l.length 3 (.own 1 0 w.l.length 3 none) (w.l.flatMap Sm.cells):=⟨hl,bM Sm.len _,.inr ⟨1,Nat.zero_le _,by show 1<2;decide,hl0,rfl,rfl⟩⟩
  have:=r.rep
  rw[show(bif Nat.beq w.l.length 0 then AV.val (.slice none 0 0) else .imm (w.l.flatMap Sm.cells) w.l.length none)=rowT w.l.length (w.l.flatMap Sm.cells) from rfl,cd rfl] at this
  exact this
 obtain⟨l,nl,cap⟩:=w
 cases l with
 |cons k r=>
  refine⟨⟨k::r,nilK,none⟩,rfl,some' _ (by show 0<r.length+1;omega) rfl ?_⟩
  have:(⟨k::r,nl,cap⟩:Vl Sm).A Sm.cells=.imm ((k::r).flatMap Sm.cells) (k::r).length cap:=by
   simp only[Vl.A,kidsA]
   cases nl<;>rfl
  rw[this]
  exact nil50_i
 |nil=>
  cases nl with
  |none=>exact⟨⟨[],none,some 0⟩,rfl,emp ⟨[],none,cap⟩ _ rfl rfl nil50_i⟩
  |some x=>
   obtain⟨a,c⟩:=x
   cases a with
   |none=>exact⟨⟨[],nilK,none⟩,rfl,nilc _ nil50_v (Leaf.val _)⟩
   |some a=>exact⟨⟨[],none,some 0⟩,rfl,emp ⟨[],some (some a,c),cap⟩ _ rfl rfl nil50_v⟩
theorem nil51_v{a:Option Addr}{c:Nat}:binA E1.P .eql 23 true (.val (.slice a 0 c)) (.val (.slice none 0 0))=some (.val (.bool a.isNone)):=by cases a<;>kernel_rfl
theorem nil51_i{cs:List AV}{n:Nat}{cap:Option Nat}:binA E1.P .eql 23 true (.imm cs n cap) (.val (.slice none 0 0))=some (.val (.bool false)):=by kernel_rfl
theorem vj(w:Vl Ho)(hl:∀v∈w.l.flatMap Ho.cells,Leaf v)(hN:w.l.length<2^31):∃w':Vl Ho,w'.l=w.l∧∀h,RunCall E1 (.f 51) [w.A Ho.cells] h (w'.A Ho.cells) h:=by
 have nilc:∀x:AV,binA E1.P .eql 23 true x (.val (.slice none 0 0))=some (.val (.bool true))→Leaf x→∀h,RunCall E1 (.f 51) [x] h ((⟨[],nilK,none⟩:Vl Ho).A Ho.cells) h:=fun x hx hlx h=>by
  refine bw kr zz (mem1 hlx.tree) (fun s hs hh hd hr=>?_) h
  have h0:=hs 0 _ rfl
  simp-implicitDefEqProofs only[vA,f51,V,↓reduceIte,rA,rB,rC,reduceCtorEq,rD,rE,rF,WF,h0,hh,hd,hx]
  exact⟨_,rfl,1,de,Rep.leaf (Leaf.val _)⟩
 have emp:∀(w:Vl Ho) (x:AV),w.l=[]→w.A Ho.cells=x→binA E1.P .eql 23 true x (.val (.slice none 0 0))=some (.val (.bool false))→∀h,RunCall E1 (.f 51) [x] h ((⟨[],none,some 0⟩:Vl Ho).A Ho.cells) h:=fun w x hl0 hxe hx h=>by
  refine bw kr zz (mem1 (by rw[←hxe];exact Tree.vl)) (fun s hs hh hd hr=>?_) h
  have h0:=hs 0 _ rfl
  have he:∀h:AH,elemsOf h 2 x=some ([],0):=fun h=>by
   have:=bU Ho.len (w:=w) (h:=h)
   rw[hl0,hxe] at this
   exact this
  simp-implicitDefEqProofs only[vA,f51,V,↓reduceIte,rA,rB,rC,reduceCtorEq,rD,rE,rF,WF,h0,hh,hd,hx]
  rw[bn,ju (x:=x) (new:=[]) (he _) U29 U28]
  simp-implicitDefEqProofs only[aO,V,↓reduceIte,rA,rB,rC,reduceCtorEq,rD,rE,rF,WF,hd]
  refine⟨_,rfl,1,de,?_⟩
  exact Rep.own (ps:=[]) (rw:=true) (Nat.le_refl _) (by show 0<1;decide) rfl rfl fun p hp=>by cases hp
 have some':∀x:AV,0<w.l.length→w.A Ho.cells=x→binA E1.P .eql 23 true x (.val (.slice none 0 0))=some (.val (.bool false))→∀h,RunCall E1 (.f 51) [x] h ((⟨w.l,nilK,none⟩:Vl Ho).A Ho.cells) h:=fun x hl0 hxe hx h=>by
  refine bw kr zz (mem1 (by rw[←hxe];exact Tree.vl)) (fun s hs hh hd hr=>?_) h
  have h0:=hs 0 _ rfl
  have he:∀h:AH,elemsOf h 2 x=some (w.l.flatMap Ho.cells,w.l.length):=fun h=>by
   rw[←hxe]
   exact bU Ho.len
  simp-implicitDefEqProofs only[vA,f51,V,↓reduceIte,rA,rB,rC,reduceCtorEq,rD,rE,rF,WF,h0,hh,hd,hx]
  rw[bn,nP (cs:=[]) (rw':=true) (x:=x) (b:=0) U29 (he _) hl0 (bD hN de) U29 U28]
  simp-implicitDefEqProofs only[aO,V,↓reduceIte,rA,rB,rC,reduceCtorEq,rD,rE,rF,WF,hd]
  refine⟨_,rfl,1,de,?_⟩
  have r:RowC ((AH.empty.alloc (.cells [] true)).alloc (.cells (w.l.flatMap Ho.cells) true)) 0 w.l.length 2 (.own 1 0 w.l.length 2 none) (w.l.flatMap Ho.cells):=⟨hl,bM Ho.len _,.inr ⟨1,Nat.zero_le _,by show 1<2;decide,hl0,rfl,rfl⟩⟩
  have:=r.rep
  rw[show(bif Nat.beq w.l.length 0 then AV.val (.slice none 0 0) else .imm (w.l.flatMap Ho.cells) w.l.length none)=rowT w.l.length (w.l.flatMap Ho.cells) from rfl,cd rfl] at this
  exact this
 obtain⟨l,nl,cap⟩:=w
 cases l with
 |cons k r=>
  refine⟨⟨k::r,nilK,none⟩,rfl,some' _ (by show 0<r.length+1;omega) rfl ?_⟩
  have:(⟨k::r,nl,cap⟩:Vl Ho).A Ho.cells=.imm ((k::r).flatMap Ho.cells) (k::r).length cap:=by
   simp only[Vl.A,kidsA]
   cases nl<;>rfl
  rw[this]
  exact nil51_i
 |nil=>
  cases nl with
  |none=>exact⟨⟨[],none,some 0⟩,rfl,emp ⟨[],none,cap⟩ _ rfl rfl nil51_i⟩
  |some x=>
   obtain⟨a,c⟩:=x
   cases a with
   |none=>exact⟨⟨[],nilK,none⟩,rfl,nilc _ nil51_v (Leaf.val _)⟩
   |some a=>exact⟨⟨[],none,some 0⟩,rfl,emp ⟨[],some (some a,c),cap⟩ _ rfl rfl nil51_v⟩
theorem xB{a:Option Addr}{c:Nat}:binA E1.P .eql 88 true (.val (.slice a 0 c)) (.val (.slice none 0 0))=some (.val (.bool a.isNone)):=by cases a<;>kernel_rfl
theorem xC{cs:List AV}{n:Nat}{cap:Option Nat}:binA E1.P .eql 88 true (.imm cs n cap) (.val (.slice none 0 0))=some (.val (.bool false)):=by kernel_rfl
theorem rf(w:Vl ByteArray)(hl:∀v∈w.l.flatMap strA,Leaf v)(hN:w.l.length<2^31):∃w':Vl ByteArray,w'.l=w.l∧∀h,RunCall E1 (.f 178) [w.A strA] h (w'.A strA) h:=by
 have nilc:∀x:AV,binA E1.P .eql 88 true x (.val (.slice none 0 0))=some (.val (.bool true))→Leaf x→∀h,RunCall E1 (.f 178) [x] h ((⟨[],nilK,none⟩:Vl ByteArray).A strA) h:=fun x hx hlx h=>by
  refine bw kr vY (mem1 hlx.tree) (fun s hs hh hd hr=>?_) h
  have h0:=hs 0 _ rfl
  simp-implicitDefEqProofs only[mg,f178,V,↓reduceIte,rA,rB,rC,reduceCtorEq,rD,rE,rF,WF,h0,hh,hd,hx]
  exact⟨_,rfl,1,de,Rep.leaf (Leaf.val _)⟩
 have emp:∀(w:Vl ByteArray) (x:AV),w.l=[]→w.A strA=x→binA E1.P .eql 88 true x (.val (.slice none 0 0))=some (.val (.bool false))→∀h,RunCall E1 (.f 178) [x] h ((⟨[],none,some 0⟩:Vl ByteArray).A strA) h:=fun w x hl0 hxe hx h=>by
  refine bw kr vY (mem1 (by rw[←hxe];exact Tree.vl)) (fun s hs hh hd hr=>?_) h
  have h0:=hs 0 _ rfl
  have he:∀h:AH,elemsOf h 1 x=some ([],0):=fun h=>by
   have:=bU ax (w:=w) (h:=h)
   rw[hl0,hxe] at this
   exact this
  simp-implicitDefEqProofs only[mg,f178,V,↓reduceIte,rA,rB,rC,reduceCtorEq,rD,rE,rF,WF,h0,hh,hd,hx]
  rw[bn,ju (x:=x) (new:=[]) (he _) U29 U28]
  simp-implicitDefEqProofs only[aO,V,↓reduceIte,rA,rB,rC,reduceCtorEq,rD,rE,rF,WF,hd]
  refine⟨_,rfl,1,de,?_⟩
  exact Rep.own (ps:=[]) (rw:=true) (Nat.le_refl _) (by show 0<1;decide) rfl rfl fun p hp=>by cases hp
 have some':∀x:AV,0<w.l.length→w.A strA=x→binA E1.P .eql 88 true x (.val (.slice none 0 0))=some (.val (.bool false))→∀h,RunCall E1 (.f 178) [x] h ((⟨w.l,nilK,none⟩:Vl ByteArray).A strA) h:=fun x hl0 hxe hx h=>by
  refine bw kr vY (mem1 (by rw[←hxe];exact Tree.vl)) (fun s hs hh hd hr=>?_) h
  have h0:=hs 0 _ rfl
  have he:∀h:AH,elemsOf h 1 x=some (w.l.flatMap strA,w.l.length):=fun h=>by
   rw[←hxe]
   exact bU ax
  simp-implicitDefEqProofs only[mg,f178,V,↓reduceIte,rA,rB,rC,reduceCtorEq,rD,rE,rF,WF,h0,hh,hd,hx]
  rw[bn,nP (cs:=[]) (rw':=true) (x:=x) (b:=0) U29 (he _) hl0 (bD hN de) U29 U28]
  simp-implicitDefEqProofs only[aO,V,↓reduceIte,rA,rB,rC,reduceCtorEq,rD,rE,rF,WF,hd]
  refine⟨_,rfl,1,de,?_⟩
  have r:RowC ((AH.empty.alloc (.cells [] true)).alloc (.cells (w.l.flatMap strA) true)) 0 w.l.length 1 (.own 1 0 w.l.length 1 none) (w.l.flatMap strA):=⟨hl,bM ax _,.inr ⟨1,Nat.zero_le _,by show 1<2;decide,hl0,rfl,rfl⟩⟩
  have:=r.rep
  rw[show(bif Nat.beq w.l.length 0 then AV.val (.slice none 0 0) else .imm (w.l.flatMap strA) w.l.length none)=rowT w.l.length (w.l.flatMap strA) from rfl,cd rfl] at this
  exact this
 obtain⟨l,nl,cap⟩:=w
 cases l with
 |cons k r=>
  refine⟨⟨k::r,nilK,none⟩,rfl,some' _ (by show 0<r.length+1;omega) rfl ?_⟩
  have:(⟨k::r,nl,cap⟩:Vl ByteArray).A strA=.imm ((k::r).flatMap strA) (k::r).length cap:=by
   simp only[Vl.A,kidsA]
   cases nl<;>rfl
  rw[this]
  exact xC
 |nil=>
  cases nl with
  |none=>exact⟨⟨[],none,some 0⟩,rfl,emp ⟨[],none,cap⟩ _ rfl rfl xC⟩
  |some x=>
   obtain⟨a,c⟩:=x
   cases a with
   |none=>exact⟨⟨[],nilK,none⟩,rfl,nilc _ xB (Leaf.val _)⟩
   |some a=>exact⟨⟨[],none,some 0⟩,rfl,emp ⟨[],some (some a,c),cap⟩ _ rfl rfl xB⟩
def Pr.void(p:Pr):Bool:=p.same zPr||p.same tPr
theorem zk{s:St}{p:Pr}{B:Nat}(hb:p.nodes<2^61)(hB:B<s.h.next)(g:s.h.get B=some (.cells p.cells true))(h1:s.eval (.t 1)=some (.ptr B 0)):
  Run E1 f87_d0 s fun e s'=>e=.normal∧s'.eval (.t 2)=some (.val (.bool p.void))∧s'.h=s.h∧s'.defers=s.defers:=by
 have n1:∀o,niceT s.h (some (.ptr B o))=true:=fun o=>bQ hB g (by rw[p.ids0];rfl)
 have o1:∀o,onlyT [B] (some (.ptr B o))=true:=fun o=>ba (by simp[memN])
 have z0:(AV.agg [.val (.int .i64 0),.val (.string ⟨#[]⟩),.val (.int .i64 0),.val (.slice none 0 0)])=zPr.av:=rfl
 have c0:∀h,RunCall E1 (.f 48) [p.av,.agg [.val (.int .i64 0),.val (.string ⟨#[]⟩),.val (.int .i64 0),.val (.slice none 0 0)]] h (.val (.bool (p.same zPr))) h:=cC p hb zPr
 have zi:ids (AV.agg [.val (.int .i64 0),.val (.string ⟨#[]⟩),.val (.int .i64 0),.val (.slice none 0 0)])=[]:=rfl
 have bi:∀b,ids (AV.val (.bool b))=[]:=fun _=>rfl
 have ui:ids undefA=[]:=rfl
 refine az ?_
 show DrawTo E1 ue [] s _
 refine gI (R:=[B]) rfl (fun x hx=>by cases hx) (fun r hr'=>by rw[List.mem_singleton.1 hr'];exact hB) ?_
 cases hz:p.same zPr with
 |true=>
  rw[hz] at c0
  simp-implicitDefEqProofs only[ue,wpDm,aW,bc,List.all_cons,List.all_nil,footed,V,↓reduceIte,rA,rB,rC,reduceCtorEq,rD,rE,rF,WF,h1,g,n1,o1,aM p.idsA,aK p.idsA,aM zi,aK zi]
  refine⟨_,c0,?_⟩
  simp-implicitDefEqProofs only[wpDm,aW,bc,cr,ct,List.all_cons,List.all_nil,footed,V,↓reduceIte,rA,rB,rC,reduceCtorEq,rD,rE,rF,WF,h1,g,n1,o1,aM p.idsA,aK p.idsA,aM zi,aK zi,aM (bi _),aK (bi _),ak (bi _),aM ui,ak ui,aK ui,Pr.void,hz]
 |false=>
  rw[hz] at c0
  simp-implicitDefEqProofs only[ue,wpDm,aW,bc,List.all_cons,List.all_nil,footed,V,↓reduceIte,rA,rB,rC,reduceCtorEq,rD,rE,rF,WF,h1,g,n1,o1,aM p.idsA,aK p.idsA,aM zi,aK zi]
  refine⟨_,c0,?_⟩
  simp-implicitDefEqProofs only[wpDm,aW,bc,cr,ct,List.all_cons,List.all_nil,footed,V,↓reduceIte,rA,rB,rC,reduceCtorEq,rD,rE,rF,WF,h1,g,n1,o1,aM p.idsA,aK p.idsA,aM zi,aK zi,aM (bi _),aK (bi _),ak (bi _),aM ui,ak ui,aK ui]
  refine⟨_,const_t,?_⟩
  simp-implicitDefEqProofs only[wpDm,aW,bc,cr,ct,List.all_cons,List.all_nil,footed,V,↓reduceIte,rA,rB,rC,reduceCtorEq,rD,rE,rF,WF,h1,g,n1,o1,aM p.idsA,aK p.idsA,aM tPr.idsA,aK tPr.idsA,aM (bi _),aK (bi _),ak (bi _),aM ui,ak ui,aK ui]
  refine⟨_,cC p hb tPr,?_⟩
  simp-implicitDefEqProofs only[wpDm,aW,bc,cr,ct,List.all_cons,List.all_nil,footed,V,↓reduceIte,rA,rB,rC,reduceCtorEq,rD,rE,rF,WF,h1,g,n1,o1,aM p.idsA,aK p.idsA,aM tPr.idsA,aK tPr.idsA,aM (bi _),aK (bi _),ak (bi _),aM ui,ak ui,aK ui,Pr.void,hz]
theorem wI(p:Pr)(hb:p.nodes<2^61)(h:AH):RunCall E1 (.f 87) [p.av] h (.val (.bool p.void)) h:=by
 refine cK kr f87_ok (mem1 (Tree.pr p)) rfl (Tree.val _) (fun s hs hh hd hr=>?_) h
 have h0:=hs 0 _ rfl
 simp-implicitDefEqProofs only[f87_fn,f87,V,↓reduceIte,rA,rB,rC,reduceCtorEq,rD,rE,rF,WB,h0,hh]
 refine(zk (p:=p) (B:=0) hb ?_ ?_ ?_).mono ?_
 ·exact U81
 ·exact U28
 ·exact U28
 rintro e s1 ⟨rfl,e2,e3,e4⟩
 simp-implicitDefEqProofs only[V,↓reduceIte,rA,rB,rC,reduceCtorEq,rD,rE,rF,hd] at e4
 simp-implicitDefEqProofs only[V,↓reduceIte,rA,rB,rC,reduceCtorEq,rD,rE,rF,WB,e2,e4]
theorem void_to{p:Pr}(hb:p.nodes<2^61){r:List AOper}{s:St}{dst:Option Nat}{K:St→Prop}:aJ E1 87 r s dst K (some [p.av])=AM.wpOps E1 r (s.put dst (.val (.bool p.void))) K:=aA (wI p hb)
end Go.Proofs.YtkhblipgiijoiaaGreatDoor
