/- TWitO -/
import Derived.Test.YtkmoeaplhnabcaaGreatDoorU0
import Derived.Test.YtkmoeaplhnabcaaGreatDoorO1
import Derived.Deep.DeepWitnessRowRef
import Derived.Lib.LaidIn
import Derived.Great.LaidInts

set_option linter.all false
open Nat renaming le_of_ble_eq_true → is, ne_of_beq_eq_false → jx
open Go.Proofs.Tryz renaming prog → i3
namespace Go.Proofs.YtkmoeaplhnabcaaGreatDoor
open Go Go.AM Go.Great
set_option maxRecDepth 1000000
def zi(l:List Nat):List Int:=l.map fun(n:Nat)=>(n:Int)
theorem kl(k:IntKind):∀l:List Nat,Pinned.numbers k l=(zi l).map fun n=>(.lit (.int k n):DataW Unit)
 | []=>rfl
 |a::r=>by
  have:=kl k r;simp only[Pinned.numbers,zi,List.map_cons,List.map_map] at this⊢
  rfl
theorem zR(k:IntKind)(zs:List Int)(h:(zs.all fun n=>(Lit.int k n).wf)=true):∀n∈zs,(Lit.int k n).wf=true:=fun n hn=>List.all_eq_true.1 h n hn
def accCells:Array Value:= #[.int .u8 128,.int .u8 191,.int .u8 160,.int .u8 191,.int .u8 128,.int .u8 159,.int .u8 144,.int .u8 191,.int .u8 128,.int .u8 143,.int .u8 0,.int .u8 0,.int .u8 0,.int .u8 0,.int .u8 0,.int .u8 0,.int .u8 0,.int .u8 0,.int .u8 0,.int .u8 0,.int .u8 0,.int .u8 0,.int .u8 0,.int .u8 0,.int .u8 0,.int .u8 0,.int .u8 0,.int .u8 0,.int .u8 0,.int .u8 0,.int .u8 0,.int .u8 0]
def z32:List Int:=[0,1,28,2,29,14,24,3,30,22,20,15,25,17,4,8,31,27,13,23,21,19,16,7,26,12,18,6,11,5,10,9]
def z64:List Int:=[0,1,56,2,57,49,28,3,61,58,42,50,38,29,17,4,62,47,59,36,45,43,51,22,53,39,33,30,24,18,12,5,63,55,48,27,60,41,37,16,46,35,44,21,52,32,23,11,54,26,40,15,34,20,31,10,25,14,19,9,13,8,7,6]
noncomputable def laidWorld (os:Os):World:=
 let N:=(World.settled i3 os).heap.size
 let w0:=World.holding i3 os ⟨#[
  .cells ((zi Pinned.isGraphicZ).map (Value.int .u16)).toArray 637,.cells ((zi Pinned.isNotPrint16Z).map (Value.int .u16)).toArray 637,.cells ((zi Pinned.isNotPrint32Z).map (Value.int .u16)).toArray 637,.cells ((zi Pinned.isPrint16Z).map (Value.int .u16)).toArray 637,.cells ((zi Pinned.isPrint32Z).map (Value.int .u32)).toArray 355,
  .cells #[.string ⟨#[118,97,108,117,101,32,111,117,116,32,111,102,32,114,97,110,103,101]⟩] 627,.cells #[.string ⟨#[105,110,118,97,108,105,100,32,115,121,110,116,97,120]⟩] 627], #[],[]⟩
 let put (h:Array Obj) (g:Nat) (cs:Array Value):Array Obj:=h.modify g fun
  |.cells _ t frozen=>.cells cs t frozen
  |o=>o
 let h0:=put (put w0.heap 5 #[.iface 625 (.pointer (some ⟨N+5,0,none⟩))]) 4 #[.iface 625 (.pointer (some ⟨N+6,0,none⟩))]
 let h1:=put (put (put h0 1 (pow10Cells.map unval).toArray) 2 (z32.map (Value.int .u8)).toArray) 3 (z64.map (Value.int .u8)).toArray
 let h2:=put (put (put h1 7 ((zi Pinned.utf8FirstZ).map (Value.int .u8)).toArray) 8 accCells) 0 (keywordCells.map unval).toArray
 let h3:=put h2 13 #[.slice (some ⟨N,0,none⟩) (zi Pinned.isGraphicZ).length (zi Pinned.isGraphicZ).length]
 let h4:=put h3 10 #[.slice (some ⟨N+1,0,none⟩) (zi Pinned.isNotPrint16Z).length (zi Pinned.isNotPrint16Z).length]
 let h5:=put h4 12 #[.slice (some ⟨N+2,0,none⟩) (zi Pinned.isNotPrint32Z).length (zi Pinned.isNotPrint32Z).length]
 let h6:=put h5 9 #[.slice (some ⟨N+3,0,none⟩) (zi Pinned.isPrint16Z).length (zi Pinned.isPrint16Z).length]
 let h7:=put h6 11 #[.slice (some ⟨N+4,0,none⟩) (zi Pinned.isPrint32Z).length (zi Pinned.isPrint32Z).length]
 {w0 with heap:=h7}
noncomputable abbrev N0:Nat:=(World.settled i3 default).heap.size
abbrev intsD(k:IntKind)(zs:List Int):DataW Unit:=.slice (zs.map fun n=>.lit (.int k n)) []
theorem Kj(os:Os)(args:Array Value):LaidIn i3 ((laidWorld os).forCall (fun _ _=>0) ⟨#[],args,[]⟩).memory (Rows.totalOrderUptoRow.laid.take 6) [1,2,3,0,7,8]:=
 LaidIn.of_run [1,2,3,0,7,8] 10 kr kr kr kr
theorem Fu(os:Os)(args:Array Value):LaidIn i3 ((laidWorld os).forCall (fun _ _=>0) ⟨#[],args,[]⟩).memory [("strconv.isGraphic",intsD .u16 (zi Pinned.isGraphicZ))] [13,N0+0]:=
 laidIn_ints (name:= "strconv.isGraphic") (g:=13) (R:=N0+0) (t:=638) (e:=637) (tg:=638) (k:=.u16) (zs:=zi Pinned.isGraphicZ) kr kr kr kr kr (is kr) (zR _ _ kr) kr kr (jx kr)
theorem Fx(os:Os)(args:Array Value):LaidIn i3 ((laidWorld os).forCall (fun _ _=>0) ⟨#[],args,[]⟩).memory [("strconv.isNotPrint16",intsD .u16 (zi Pinned.isNotPrint16Z))] [10,N0+1]:=
 laidIn_ints (name:= "strconv.isNotPrint16") (g:=10) (R:=N0+1) (t:=638) (e:=637) (tg:=638) (k:=.u16) (zs:=zi Pinned.isNotPrint16Z) kr kr kr kr kr (is kr) (zR _ _ kr) kr kr (jx kr)
theorem Fv(os:Os)(args:Array Value):LaidIn i3 ((laidWorld os).forCall (fun _ _=>0) ⟨#[],args,[]⟩).memory [("strconv.isNotPrint32",intsD .u16 (zi Pinned.isNotPrint32Z))] [12,N0+2]:=
 laidIn_ints (name:= "strconv.isNotPrint32") (g:=12) (R:=N0+2) (t:=638) (e:=637) (tg:=638) (k:=.u16) (zs:=zi Pinned.isNotPrint32Z) kr kr kr kr kr (is kr) (zR _ _ kr) kr kr (jx kr)
theorem Kh(os:Os)(args:Array Value):LaidIn i3 ((laidWorld os).forCall (fun _ _=>0) ⟨#[],args,[]⟩).memory [("strconv.isPrint16",intsD .u16 (zi Pinned.isPrint16Z))] [9,N0+3]:=
 laidIn_ints (name:= "strconv.isPrint16") (g:=9) (R:=N0+3) (t:=638) (e:=637) (tg:=638) (k:=.u16) (zs:=zi Pinned.isPrint16Z) kr kr kr kr kr (is kr) (zR _ _ kr) kr kr (jx kr)
theorem Fw(os:Os)(args:Array Value):LaidIn i3 ((laidWorld os).forCall (fun _ _=>0) ⟨#[],args,[]⟩).memory [("strconv.isPrint32",intsD .u32 (zi Pinned.isPrint32Z))] [11,N0+4]:=
 laidIn_ints (name:= "strconv.isPrint32") (g:=11) (R:=N0+4) (t:=640) (e:=355) (tg:=640) (k:=.u32) (zs:=zi Pinned.isPrint32Z) kr kr kr kr kr (is kr) (zR _ _ kr) kr kr (jx kr)
theorem Ki(os:Os)(args:Array Value):LaidIn i3 ((laidWorld os).forCall (fun _ _=>0) ⟨#[],args,[]⟩).memory [("strconv.ErrSyntax",Rows.laid_strconv_ErrSyntax),("strconv.ErrRange",Rows.laid_strconv_ErrRange)] [4,N0+6,5,N0+5]:=
 LaidIn.of_run [4,N0+6,5,N0+5] 10 kr kr kr kr
theorem tz:Rows.totalOrderUptoRow.laid=Rows.totalOrderUptoRow.laid.take 6++([("strconv.isPrint16",intsD .u16 (zi Pinned.isPrint16Z))]++([("strconv.isNotPrint16",intsD .u16 (zi Pinned.isNotPrint16Z))]++([("strconv.isPrint32",intsD .u32 (zi Pinned.isPrint32Z))]++
  ([("strconv.isNotPrint32",intsD .u16 (zi Pinned.isNotPrint32Z))]++([("strconv.isGraphic",intsD .u16 (zi Pinned.isGraphicZ))]++[("strconv.ErrSyntax",Rows.laid_strconv_ErrSyntax),("strconv.ErrRange",Rows.laid_strconv_ErrRange)]))))):=by
 simp only[intsD,←kl];rfl
theorem yz(os:Os)(args:Array Value):laidMet i3 Rows.totalOrderUptoRow.laid ((laidWorld os).forCall (fun _ _=>0) ⟨#[],args,[]⟩).memory:=by
 rw[tz];exact((Kj os args).append ((Kh os args).append ((Fx os args).append ((Fw os args).append ((Fv os args).append ((Fu os args).append (Ki os args) kr) kr) kr) kr) kr) kr).met
end Go.Proofs.YtkmoeaplhnabcaaGreatDoor
