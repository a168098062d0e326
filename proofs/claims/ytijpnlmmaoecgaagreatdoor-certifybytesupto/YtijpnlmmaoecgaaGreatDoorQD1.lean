/- A part of the proofs about certificates: YDd YDc. -/
import Derived.Test.YtijpnlmmaoecgaaGreatDoorQW1
import Derived.Test.YtijpnlmmaoecgaaGreatDoorQR3

set_option linter.all false

namespace Go.Proofs.YtijpnlmmaoecgaaGreatDoor
open Go Go.AM
theorem strB_imm {h : AH} {l : List UInt8} {cap : Option Nat} : strB h (.imm (bytesA l) l.length cap) = some (.val (.string ⟨l.toArray⟩)) := by
 have e : elemsOf h 1 (.imm (bytesA l) l.length cap) = some (bytesA l, l.length) := by
  have h1 : Nat.ble (l.length * 1) (bytesA l).length = true := Nat.ble_eq.mpr (by rw [bytesA_len]; omega)
  simp only [elemsOf, h1, cond_true]
  rw [List.take_of_length_le (by rw [bytesA_len]; omega)]
 simp only [strB, e, bytesA_of, Option.map_some]
theorem strEq_list (a b : List UInt8) : strEq ⟨a.toArray⟩ ⟨b.toArray⟩ = (a == b) := eqBytes_eq _ _
theorem rep_below {h : AH} {lo hi n : Nat} {v t : AV} (k : Rep h lo hi n v t) (hh : hi ≤ h.next) : below h.next (ids v) = true := by
 obtain ⟨l, e1, e2, e3⟩ := rep_sees n v t k
 refine List.all_eq_true.2 fun b hb => Nat.blt_eq.mpr ?_
 rw [e1] at hb
 obtain ⟨p, hp, rfl⟩ := List.mem_map.1 hb
 cases e2 p hp with
 | mk _ h1 h2 => omega
structure Tl (s : St) (C : Nat) (b : List UInt8) (cap : Option Nat) (st : RS) (c : Ce) (cs : List AV) (lo n : Nat) : Prop where
 h0 : s.eval (.t 0) = some (.imm (bytesA b) b.length cap)
 h4 : s.eval (.t 4) = some (.ptr 1 0)
 h5 : s.eval (.t 5) = some (.ptr C 0)
 rd : Rd s.h 1 st
 gC : s.h.get C = some (.cells cs true)
 hC : C < s.h.next
 l4 : cs.length = 4
 rep : Rep s.h lo s.h.next n (.agg cs) (.agg c.cells)
end Go.Proofs.YtijpnlmmaoecgaaGreatDoor
