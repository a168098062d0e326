/- TClosed -/
import Derived.Test.YtkmoeaplhnabcaaGreatDoorU0
import Derived.Test.YtkmoeaplhnabcaaGreatDoorProg
import Derived.KernelRfl
import Derived.OpenShut
import Derived.ProofKit

set_option linter.all false
open List renaming all_eq_true → iy, mem_range → B8, range → jg
open Nat renaming lt_or_ge → jq
open Go.Proofs.Tryz renaming prog → i3
namespace Go.Proofs.YtkmoeaplhnabcaaGreatDoor
open Go Go.ChangeShapes Go.WideShapes Go.ChangeAt Go.RowKit
set_option maxRecDepth 100000
set_option maxHeartbeats 0
theorem own:ownKnob i3.godebug=none:=by kernel_rfl
theorem kp:i3.types.size=698:=by kernel_rfl
theorem Se:(jg 35).all (fun i=>rowFine i3 (0+i))=true:=by kernel_rfl
theorem Sd:(jg 35).all (fun i=>rowFine i3 (35+i))=true:=by kernel_rfl
theorem Sc:(jg 35).all (fun i=>rowFine i3 (70+i))=true:=by kernel_rfl
theorem Sb:(jg 35).all (fun i=>rowFine i3 (105+i))=true:=by kernel_rfl
theorem Sa:(jg 35).all (fun i=>rowFine i3 (140+i))=true:=by kernel_rfl
theorem Rz:(jg 35).all (fun i=>rowFine i3 (175+i))=true:=by kernel_rfl
theorem Ry:(jg 35).all (fun i=>rowFine i3 (210+i))=true:=by kernel_rfl
theorem Rx:(jg 35).all (fun i=>rowFine i3 (245+i))=true:=by kernel_rfl
theorem Rw:(jg 35).all (fun i=>rowFine i3 (280+i))=true:=by kernel_rfl
theorem Rv:(jg 35).all (fun i=>rowFine i3 (315+i))=true:=by kernel_rfl
theorem Lq:(jg 35).all (fun i=>rowFine i3 (350+i))=true:=by kernel_rfl
theorem Lp:(jg 35).all (fun i=>rowFine i3 (385+i))=true:=by kernel_rfl
theorem Lo:(jg 35).all (fun i=>rowFine i3 (420+i))=true:=by kernel_rfl
theorem Ln:(jg 35).all (fun i=>rowFine i3 (455+i))=true:=by kernel_rfl
theorem Lm:(jg 35).all (fun i=>rowFine i3 (490+i))=true:=by kernel_rfl
theorem Ll:(jg 35).all (fun i=>rowFine i3 (525+i))=true:=by kernel_rfl
theorem Lk:(jg 35).all (fun i=>rowFine i3 (560+i))=true:=by kernel_rfl
theorem Lj:(jg 35).all (fun i=>rowFine i3 (595+i))=true:=by kernel_rfl
theorem Li:(jg 35).all (fun i=>rowFine i3 (630+i))=true:=by kernel_rfl
theorem Lh:(jg 33).all (fun i=>rowFine i3 (665+i))=true:=by kernel_rfl
theorem zM:i3.globals.all (fun g=>decide (g.type<i3.types.size))=true:=by kernel_rfl
theorem wo:i3.funcs.all (fun f=>f.params.all fun t=>decide (t<i3.types.size))=true:=by kernel_rfl
theorem am{f:Nat→Bool}{a k t:Nat}(h:(jg k).all (fun i=>f (a+i))=true)(h1:a≤t)(h2:t<a+k):f t=true:=by
 have:=iy.1 h (t-a) (B8.2 om)
 rwa [show a+(t-a)=t by omega] at this
theorem zW(t:Nat)(h:t<698):rowFine i3 t=true:=by
 rcases jq t 35 with h0|h0
 ·exact am Se om om
 rcases jq t 70 with h1|h1
 ·exact am Sd om om
 rcases jq t 105 with h2|h2
 ·exact am Sc om om
 rcases jq t 140 with h3|h3
 ·exact am Sb om om
 rcases jq t 175 with h4|h4
 ·exact am Sa om om
 rcases jq t 210 with h5|h5
 ·exact am Rz om om
 rcases jq t 245 with h6|h6
 ·exact am Ry om om
 rcases jq t 280 with h7|h7
 ·exact am Rx om om
 rcases jq t 315 with h8|h8
 ·exact am Rw om om
 rcases jq t 350 with h9|h9
 ·exact am Rv om om
 rcases jq t 385 with h10|h10
 ·exact am Lq om om
 rcases jq t 420 with h11|h11
 ·exact am Lp om om
 rcases jq t 455 with h12|h12
 ·exact am Lo om om
 rcases jq t 490 with h13|h13
 ·exact am Ln om om
 rcases jq t 525 with h14|h14
 ·exact am Lm om om
 rcases jq t 560 with h15|h15
 ·exact am Ll om om
 rcases jq t 595 with h16|h16
 ·exact am Lk om om
 rcases jq t 630 with h17|h17
 ·exact am Lj om om
 rcases jq t 665 with h18|h18
 ·exact am Li om om
 exact am Lh om om
theorem Gw:laidOutB i3=true:=by
 unfold laidOutB;rw[zM,wo,Bool.and_true,Bool.and_true];refine iy.2 fun t ht=>zW t ?_
 have:=B8.1 ht
 rwa [kp] at this
theorem Qb:mapsRowed i3=true:=by kernel_rfl
theorem full:∀t e,t<i3.types.size→i3.underlying t=some (.slice e)→0<i3.cellsOf e:=slices_full_of i3 kr
theorem Ff:29<i3.types.size:=by rw[kp];decide
end Go.Proofs.YtkmoeaplhnabcaaGreatDoor
