/- TClosed -/
import Derived.Test.YtkmoeaplhnabcaaGreatDoorU0
import Derived.Test.YtkmoeaplhnabcaaGreatDoorProg
import Derived.KernelRfl
import Derived.OpenShut
import Derived.ProofKit

set_option linter.all false
open Bool renaming and_true → Bs
open List renaming all_eq_true → j0, mem_range → Bc, range → jh
open Nat renaming lt_or_ge → jo
open Go.Proofs.Tryz renaming prog → i3
namespace Go.Proofs.YtkmoeaplhnabcaaGreatDoor
open Go Go.ChangeShapes Go.WideShapes Go.ChangeAt Go.RowKit
set_option maxRecDepth 100000
set_option maxHeartbeats 0
theorem own:ownKnob i3.godebug=none:=by kernel_rfl
theorem fh:i3.types.size=698:=by kernel_rfl
theorem Wx:(jh 35).all (fun i=>rowFine i3 (0+i))=true:=by kernel_rfl
theorem Ww:(jh 35).all (fun i=>rowFine i3 (35+i))=true:=by kernel_rfl
theorem Wv:(jh 35).all (fun i=>rowFine i3 (70+i))=true:=by kernel_rfl
theorem Wu:(jh 35).all (fun i=>rowFine i3 (105+i))=true:=by kernel_rfl
theorem Ws:(jh 35).all (fun i=>rowFine i3 (140+i))=true:=by kernel_rfl
theorem Wr:(jh 35).all (fun i=>rowFine i3 (175+i))=true:=by kernel_rfl
theorem Wq:(jh 35).all (fun i=>rowFine i3 (210+i))=true:=by kernel_rfl
theorem Wp:(jh 35).all (fun i=>rowFine i3 (245+i))=true:=by kernel_rfl
theorem Wo:(jh 35).all (fun i=>rowFine i3 (280+i))=true:=by kernel_rfl
theorem Wn:(jh 35).all (fun i=>rowFine i3 (315+i))=true:=by kernel_rfl
theorem Qd:(jh 35).all (fun i=>rowFine i3 (350+i))=true:=by kernel_rfl
theorem Qc:(jh 35).all (fun i=>rowFine i3 (385+i))=true:=by kernel_rfl
theorem Qb:(jh 35).all (fun i=>rowFine i3 (420+i))=true:=by kernel_rfl
theorem Qa:(jh 35).all (fun i=>rowFine i3 (455+i))=true:=by kernel_rfl
theorem Pz:(jh 35).all (fun i=>rowFine i3 (490+i))=true:=by kernel_rfl
theorem Py:(jh 35).all (fun i=>rowFine i3 (525+i))=true:=by kernel_rfl
theorem Px:(jh 35).all (fun i=>rowFine i3 (560+i))=true:=by kernel_rfl
theorem Pw:(jh 35).all (fun i=>rowFine i3 (595+i))=true:=by kernel_rfl
theorem Pv:(jh 35).all (fun i=>rowFine i3 (630+i))=true:=by kernel_rfl
theorem Pu:(jh 33).all (fun i=>rowFine i3 (665+i))=true:=by kernel_rfl
theorem Es:i3.globals.all (fun g=>decide (g.type<i3.types.size))=true:=by kernel_rfl
theorem yY:i3.funcs.all (fun f=>f.params.all fun t=>decide (t<i3.types.size))=true:=by kernel_rfl
theorem au{f:Nat→Bool}{a k t:Nat}(h:(jh k).all (fun i=>f (a+i))=true)(h1:a≤t)(h2:t<a+k):f t=true:=by
 have:=j0.1 h (t-a) (Bc.2 om)
 rwa [show a+(t-a)=t by omega] at this
theorem Ff(t:Nat)(h:t<698):rowFine i3 t=true:=by
 rcases jo t 35 with h0|h0
 ·exact au Wx om om
 rcases jo t 70 with h1|h1
 ·exact au Ww om om
 rcases jo t 105 with h2|h2
 ·exact au Wv om om
 rcases jo t 140 with h3|h3
 ·exact au Wu om om
 rcases jo t 175 with h4|h4
 ·exact au Ws om om
 rcases jo t 210 with h5|h5
 ·exact au Wr om om
 rcases jo t 245 with h6|h6
 ·exact au Wq om om
 rcases jo t 280 with h7|h7
 ·exact au Wp om om
 rcases jo t 315 with h8|h8
 ·exact au Wo om om
 rcases jo t 350 with h9|h9
 ·exact au Wn om om
 rcases jo t 385 with h10|h10
 ·exact au Qd om om
 rcases jo t 420 with h11|h11
 ·exact au Qc om om
 rcases jo t 455 with h12|h12
 ·exact au Qb om om
 rcases jo t 490 with h13|h13
 ·exact au Qa om om
 rcases jo t 525 with h14|h14
 ·exact au Pz om om
 rcases jo t 560 with h15|h15
 ·exact au Py om om
 rcases jo t 595 with h16|h16
 ·exact au Px om om
 rcases jo t 630 with h17|h17
 ·exact au Pw om om
 rcases jo t 665 with h18|h18
 ·exact au Pv om om
 exact au Pu om om
theorem Kw:laidOutB i3=true:=by
 unfold laidOutB;rw[Es,yY,Bs,Bs];refine j0.2 fun t ht=>Ff t ?_
 have:=Bc.1 ht
 rwa [fh] at this
theorem Us:mapsRowed i3=true:=by kernel_rfl
theorem full:∀t e,t<i3.types.size→i3.underlying t=some (.slice e)→0<i3.cellsOf e:=slices_full_of i3 kr
theorem Jj:29<i3.types.size:=by rw[fh];decide
theorem Og:9<i3.types.size:=by rw[fh];decide
end Go.Proofs.YtkmoeaplhnabcaaGreatDoor
