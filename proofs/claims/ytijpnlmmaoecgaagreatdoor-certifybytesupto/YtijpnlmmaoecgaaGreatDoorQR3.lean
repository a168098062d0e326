/- A part of the proofs about certificates: YRr YCost YFit YLen YRp. -/
import Derived.Test.YtijpnlmmaoecgaaGreatDoorQW1
import Derived.Test.YtijpnlmmaoecgaaGreatDoorQR2

set_option linter.all false

namespace Go.Proofs.YtijpnlmmaoecgaaGreatDoor
open Go Go.AM
theorem RowR.cells {h : AH} {lo n k es : Nat} {v : AV} {ps : List (AV × AV)} (r : RowR h lo n k es v ps) : v.cells = some [v] := by
 rcases r with ⟨_, _, rfl⟩ | ⟨b, _, _, _, rfl, _⟩ <;> rfl
def OneTo {α : Type} (h : AH) (r n : Nat) (cs : α → List AV) (a : α) (st : RS) (v : AV) (h' : AH) : Prop := ∃ qs : List (AV × AV), v = .agg (qs.map (·.1)) ∧ qs.map (·.2) = cs a ∧ (∀ q ∈ qs, Rep h' h.next h'.next n q.1 q.2) ∧ Rd h' r st ∧ Fd h h' r
theorem OneOk.of {α : Type} {one : Nat} {f : RS → α × RS} {cs : α → List AV} {F n : Nat} (k : ∀ (h : AH) (r : Nat) (st : RS), Rd h r st → st.bad = false → st.rest.length < F → ∃ v h', RunCall E1 (.f one) [.ptr r 0] h v h' ∧ OneTo h r n cs (f st).1 (f st).2 v h') : OneOk one f cs F n := by
 intro h r st a b c
 obtain ⟨v, h', hr, qs, rfl, q⟩ := k h r st a b c
 exact ⟨_, h', hr, qs, rfl, q⟩
end Go.Proofs.YtijpnlmmaoecgaaGreatDoor

namespace Go.Proofs.YtijpnlmmaoecgaaGreatDoor
open Go Go.AM
theorem numP_le : ∀ f u, (numP f u).length ≤ f
 | 0, u => by rw [numP]; exact Nat.le_refl _
 | f + 1, u => by
  rw [numP]
  split
  ·exact Nat.zero_le _
  ·have := numP_le f (u / 128)
   rw [List.length_cons]; omega
theorem encNum_le (n : Int) : (encNum n).length ≤ 10 := by
 have := numP_le 9 (zz n)
 simp only [encNum, encU, List.length_append, List.length_cons, List.length_nil]
 omega
end Go.Proofs.YtijpnlmmaoecgaaGreatDoor
