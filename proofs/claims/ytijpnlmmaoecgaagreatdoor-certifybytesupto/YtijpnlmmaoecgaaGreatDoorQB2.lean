/- A part of the proofs about certificates: YRef YRefb YDr YDs YDrE. -/
import Derived.Test.YtijpnlmmaoecgaaGreatDoorQW1
import Derived.Test.YtijpnlmmaoecgaaGreatDoorQC1
import Derived.Test.YtijpnlmmaoecgaaGreatDoorQR2
import Derived.Test.YtijpnlmmaoecgaaGreatDoorQR3
import Derived.Test.YtijpnlmmaoecgaaGreatDoorQD1
import Derived.Test.YtijpnlmmaoecgaaGreatDoorQS2

set_option linter.all false

namespace Go.Proofs.YtijpnlmmaoecgaaGreatDoor
open Go Go.AM
def rd2 (F : List UInt8) (cap : Option Nat) (at' : Nat) (bad : Bool) : Blk := .cells [.imm (bytesA F) F.length cap, .val (.int .i64 (at' : Nat)), .val (.bool bad)] true
def Rq (h : AH) (r : Nat) (F : List UInt8) (s : RS) : Prop := r < h.next ∧ ∃ cap at', h.get r = some (rd2 F cap at' s.bad) ∧ s.rest = F.drop at' ∧ at' ≤ F.length
theorem Rq.put {h : AH} {r : Nat} {F : List UInt8} {cap : Option Nat} {a : Nat} {bad : Bool} {l : List UInt8} (hr : r < h.next) (hl : l = F.drop a) (ha : a ≤ F.length) : Rq (h.put r (some (rd2 F cap a bad))) r F ⟨l, bad⟩ := ⟨hr, cap, a, put_get, hl, ha⟩
theorem Rq.alloc {h : AH} {r : Nat} {F : List UInt8} {s : RS} {x : Blk} (k : Rq h r F s) : Rq (h.alloc x) r F s := by
 obtain ⟨a, cap, at', b, c⟩ := k
 exact ⟨by rw [a_next]; omega, cap, at', by rw [get_alloc_old a, b], c⟩
theorem Rq.other {h : AH} {r c : Nat} {F : List UInt8} {s : RS} {x : Option Blk} (k : Rq h r F s) (hc : r ≠ c) : Rq (h.put c x) r F s := by
 obtain ⟨a, cap, at', b, d⟩ := k
 exact ⟨a, cap, at', by rw [get_put_old hc, b], d⟩
end Go.Proofs.YtijpnlmmaoecgaaGreatDoor

namespace Go.Proofs.YtijpnlmmaoecgaaGreatDoor
open Go Go.AM
section
variable {E : Env} {s : St} {K : St → Prop} {rest : List DOp} {done : List DRec}
theorem pure_draw {dst : Option Nat} {op : AOp} {rd fr : List Nat} {v : AV} (hc : calmOp rd op = true) (hnf : footed op = false) (hn : (rd.all fun t => niceT s.h (s.eval (.t t))) = true) (ho : runOp E noCall s op = some (v, s)) (hf : ∀ i ∈ fr, i < done.length)
  (k : DrawTo E rest (done ++ [⟨[], [], s.h.next, s.h.next⟩]) (s.put dst v) K) : DrawTo E (⟨⟨dst, none, op⟩, rd, fr⟩ :: rest) done s K := by
 have st := calm_step (E := E) (d := ⟨⟨dst, none, op⟩, rd, fr⟩) (near := nearOf done fr) hc rfl rfl hn ho
 have e : theFoot op (idsL (pickTm s.tm rd).vals) = [] := by unfold theFoot; rw [hnf]; rfl
 rw [e] at st
 exact draw_next (d := ⟨⟨dst, none, op⟩, rd, fr⟩) (free_new hf) st k
def RowAt (h : AH) (v : AV) (k es : Nat) (pc : List AV) : Prop := (k = 0 ∧ v = .val (.slice none 0 0) ∧ pc = []) ∨ ∃ b, v = .own b 0 k es none ∧ b < h.next ∧ h.get b = some (.cells pc true) ∧ pc.length = k * es
end
end Go.Proofs.YtijpnlmmaoecgaaGreatDoor
