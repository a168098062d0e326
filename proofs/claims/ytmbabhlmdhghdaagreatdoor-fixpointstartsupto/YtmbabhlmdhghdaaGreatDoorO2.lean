/- VWit -/
import Derived.Test.YtmbabhlmdhghdaaGreatDoorO1
import Derived.Deep.DeepWitnessRowRef
import Derived.Lib.LaidIn
import Derived.Great.LaidInts
set_option linter.all false
open Option renaming some->Z, none->Y
open Bool renaming true->J, false->U
open Nat renaming le_of_ble_eq_true->j6, ne_of_beq_eq_false->jz
open Go.Proofs.Tryz renaming prog->ib
namespace Go.Proofs.YtmbabhlmdhghdaaGreatDoor
open Go Go.AM Go.Great
set_option maxRecDepth 1000000
def zi(l:List Nat):List Int:=l.map λ(n:Nat)=>(n:Int)
theorem Gv(k:IntKind):∀l:List Nat,Pinned.numbers k l=(zi l).map λn=>(.lit (.int k n):DataW Unit)
 | []=>rfl
 |a::r=>by
  have:=Gv k r;simp only[Pinned.numbers,zi,List.map_cons,List.map_map] at this⊢
  rfl
theorem aUX(k:IntKind)(zs:List Int)(h:(zs.all λn=>(Lit.int k n).wf)=J):∀n∈zs,(Lit.int k n).wf=J:=λn hn=>List.all_eq_true.1 h n hn
def accCells:Array Value:= #[.int .u8 128,.int .u8 191,.int .u8 160,.int .u8 191,.int .u8 128,.int .u8 159,.int .u8 144,.int .u8 191,.int .u8 128,.int .u8 143,.int .u8 0,.int .u8 0,.int .u8 0,.int .u8 0,.int .u8 0,.int .u8 0,.int .u8 0,.int .u8 0,.int .u8 0,.int .u8 0,.int .u8 0,.int .u8 0,.int .u8 0,.int .u8 0,.int .u8 0,.int .u8 0,.int .u8 0,.int .u8 0,.int .u8 0,.int .u8 0,.int .u8 0,.int .u8 0]
def z32:List Int:=[0,1,28,2,29,14,24,3,30,22,20,15,25,17,4,8,31,27,13,23,21,19,16,7,26,12,18,6,11,5,10,9]
def z64:List Int:=[0,1,56,2,57,49,28,3,61,58,42,50,38,29,17,4,62,47,59,36,45,43,51,22,53,39,33,30,24,18,12,5,63,55,48,27,60,41,37,16,46,35,44,21,52,32,23,11,54,26,40,15,34,20,31,10,25,14,19,9,13,8,7,6]
noncomputable def eF (os:Os):World:=
 let N:=(World.settled ib os).heap.size
 let w0:=World.holding ib os ⟨#[
  .cells ((zi Pinned.isGraphicZ).map (Value.int .u16)).toArray 406,.cells ((zi Pinned.isNotPrint16Z).map (Value.int .u16)).toArray 406,.cells ((zi Pinned.isNotPrint32Z).map (Value.int .u16)).toArray 406,.cells ((zi Pinned.isPrint16Z).map (Value.int .u16)).toArray 406,.cells ((zi Pinned.isPrint32Z).map (Value.int .u32)).toArray 362,
  .cells #[.string ⟨#[118,97,108,117,101,32,111,117,116,32,111,102,32,114,97,110,103,101]⟩] 392,.cells #[.string ⟨#[105,110,118,97,108,105,100,32,115,121,110,116,97,120]⟩] 392], #[],[]⟩
 let put (h:Array Obj) (g:Nat) (cs:Array Value):Array Obj:=h.modify g fun
  |.cells _ t frozen=>.cells cs t frozen
  |o=>o
 let h0:=put (put w0.heap 2 #[.iface 390 (.pointer (Z ⟨N+5,0,Y⟩))]) 1 #[.iface 390 (.pointer (Z ⟨N+6,0,Y⟩))]
 let h1:=put (put (put h0 3 (eA.map iE).toArray) 5 (z32.map (Value.int .u8)).toArray) 6 (z64.map (Value.int .u8)).toArray
 let h2:=put (put (put h1 7 ((zi Pinned.utf8FirstZ).map (Value.int .u8)).toArray) 8 accCells) 0 (cY.map iE).toArray
 let h3:=put h2 13 #[.slice (Z ⟨N,0,Y⟩) (zi Pinned.isGraphicZ).length (zi Pinned.isGraphicZ).length]
 let h4:=put h3 10 #[.slice (Z ⟨N+1,0,Y⟩) (zi Pinned.isNotPrint16Z).length (zi Pinned.isNotPrint16Z).length]
 let h5:=put h4 12 #[.slice (Z ⟨N+2,0,Y⟩) (zi Pinned.isNotPrint32Z).length (zi Pinned.isNotPrint32Z).length]
 let h6:=put h5 9 #[.slice (Z ⟨N+3,0,Y⟩) (zi Pinned.isPrint16Z).length (zi Pinned.isPrint16Z).length]
 let h7:=put h6 11 #[.slice (Z ⟨N+4,0,Y⟩) (zi Pinned.isPrint32Z).length (zi Pinned.isPrint32Z).length]
 {w0 with heap:=h7}
noncomputable abbrev N0:Nat:=(World.settled ib default).heap.size
abbrev kS(k:IntKind)(zs:List Int):DataW Unit:=.slice (zs.map λn=>.lit (.int k n)) []
theorem bKN(os:Os)(args:Array Value):LaidIn ib ((eF os).forCall (λ_ _=>0) ⟨#[],args,[]⟩).memory (Rows.fixpointStartsUptoRow.laid.take 7) [5,6,3,8,2,N0+5,1,N0+6,0]:=
 LaidIn.of_run [5,6,3,8,2,N0+5,1,N0+6,0] 10 kr kr kr kr
theorem bCN(os:Os)(args:Array Value):LaidIn ib ((eF os).forCall (λ_ _=>0) ⟨#[],args,[]⟩).memory [("strconv.isGraphic",kS .u16 (zi Pinned.isGraphicZ))] [13,N0+0]:=
 laidIn_ints (name:= "strconv.isGraphic") (g:=13) (R:=N0+0) (t:=407) (e:=406) (tg:=407) (k:=.u16) (zs:=zi Pinned.isGraphicZ) kr kr kr kr kr (j6 kr) (aUX _ _ kr) kr kr (jz kr)
theorem bCQ(os:Os)(args:Array Value):LaidIn ib ((eF os).forCall (λ_ _=>0) ⟨#[],args,[]⟩).memory [("strconv.isNotPrint16",kS .u16 (zi Pinned.isNotPrint16Z))] [10,N0+1]:=
 laidIn_ints (name:= "strconv.isNotPrint16") (g:=10) (R:=N0+1) (t:=407) (e:=406) (tg:=407) (k:=.u16) (zs:=zi Pinned.isNotPrint16Z) kr kr kr kr kr (j6 kr) (aUX _ _ kr) kr kr (jz kr)
theorem bCO(os:Os)(args:Array Value):LaidIn ib ((eF os).forCall (λ_ _=>0) ⟨#[],args,[]⟩).memory [("strconv.isNotPrint32",kS .u16 (zi Pinned.isNotPrint32Z))] [12,N0+2]:=
 laidIn_ints (name:= "strconv.isNotPrint32") (g:=12) (R:=N0+2) (t:=407) (e:=406) (tg:=407) (k:=.u16) (zs:=zi Pinned.isNotPrint32Z) kr kr kr kr kr (j6 kr) (aUX _ _ kr) kr kr (jz kr)
theorem bKL(os:Os)(args:Array Value):LaidIn ib ((eF os).forCall (λ_ _=>0) ⟨#[],args,[]⟩).memory [("strconv.isPrint16",kS .u16 (zi Pinned.isPrint16Z))] [9,N0+3]:=
 laidIn_ints (name:= "strconv.isPrint16") (g:=9) (R:=N0+3) (t:=407) (e:=406) (tg:=407) (k:=.u16) (zs:=zi Pinned.isPrint16Z) kr kr kr kr kr (j6 kr) (aUX _ _ kr) kr kr (jz kr)
theorem bCP(os:Os)(args:Array Value):LaidIn ib ((eF os).forCall (λ_ _=>0) ⟨#[],args,[]⟩).memory [("strconv.isPrint32",kS .u32 (zi Pinned.isPrint32Z))] [11,N0+4]:=
 laidIn_ints (name:= "strconv.isPrint32") (g:=11) (R:=N0+4) (t:=409) (e:=362) (tg:=409) (k:=.u32) (zs:=zi Pinned.isPrint32Z) kr kr kr kr kr (j6 kr) (aUX _ _ kr) kr kr (jz kr)
theorem bKM(os:Os)(args:Array Value):LaidIn ib ((eF os).forCall (λ_ _=>0) ⟨#[],args,[]⟩).memory [("unicode/utf8.first",Rows.laid_unicode_utf8_first)] [7]:=
 LaidIn.of_run [7] 10 kr kr kr kr
theorem aEH:Rows.fixpointStartsUptoRow.laid=Rows.fixpointStartsUptoRow.laid.take 7++([("strconv.isGraphic",kS .u16 (zi Pinned.isGraphicZ))]++([("strconv.isNotPrint16",kS .u16 (zi Pinned.isNotPrint16Z))]++([("strconv.isNotPrint32",kS .u16 (zi Pinned.isNotPrint32Z))]++
  ([("strconv.isPrint16",kS .u16 (zi Pinned.isPrint16Z))]++([("strconv.isPrint32",kS .u32 (zi Pinned.isPrint32Z))]++[("unicode/utf8.first",Rows.laid_unicode_utf8_first)]))))):=by
 simp only[kS,<-Gv];rfl
theorem aUE(os:Os)(args:Array Value):laidMet ib Rows.fixpointStartsUptoRow.laid ((eF os).forCall (λ_ _=>0) ⟨#[],args,[]⟩).memory:=by
 rw[aEH];exact((bKN os args).append ((bCN os args).append ((bCQ os args).append ((bCO os args).append ((bKL os args).append ((bCP os args).append (bKM os args) kr) kr) kr) kr) kr) kr).met
end Go.Proofs.YtmbabhlmdhghdaaGreatDoor
