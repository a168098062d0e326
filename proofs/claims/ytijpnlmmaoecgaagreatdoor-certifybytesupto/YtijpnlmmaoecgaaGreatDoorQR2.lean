/- A part of the proofs about certificates: YRd YRt YLs. -/
import Derived.Test.YtijpnlmmaoecgaaGreatDoorQW1
import Derived.Test.YtijpnlmmaoecgaaGreatDoorQR1

set_option linter.all false

namespace Go.Proofs.YtijpnlmmaoecgaaGreatDoor
open Go Go.AM
def rdB (rest : List UInt8) (cap : Option Nat) (bad : Bool) : Blk := .cells [.imm (bytesA rest) rest.length cap, .val (.bool bad)] true
def Rd (h : AH) (r : Nat) (s : RS) : Prop := r < h.next ∧ ∃ cap, h.get r = some (rdB s.rest cap s.bad)
structure Fd (h h' : AH) (r : Nat) : Prop where
 le : h.next ≤ h'.next
 get : ∀ x, x < h.next → x ≠ r → h'.get x = h.get x
 nt : NoTag h → NoTag h'
theorem Fd.refl (h : AH) (r : Nat) : Fd h h r := ⟨Nat.le_refl _, fun _ _ _ => rfl, id⟩
theorem Fd.trans {h h1 h2 : AH} {r : Nat} (a : Fd h h1 r) (c : Fd h1 h2 r) : Fd h h2 r :=
 ⟨Nat.le_trans a.le c.le, fun x hx hr => by rw [c.get x (Nat.lt_of_lt_of_le hx a.le) hr, a.get x hx hr], fun k => c.nt (a.nt k)⟩
theorem Fd.put {h : AH} {r : Nat} {cs : List AV} {rw : Bool} : Fd h (h.put r (some (.cells cs rw))) r := ⟨Nat.le_refl _, fun _ _ hr => get_put_old hr, fun k => k.put⟩
theorem Fd.alloc {h : AH} {r : Nat} {cs : List AV} {rw : Bool} : Fd h (h.alloc (.cells cs rw)) r := ⟨by rw [a_next]; omega, fun _ hx _ => get_alloc_old hx, fun k => k.alloc⟩
theorem Fd.keep {h h' : AH} {r x : Nat} {k : Blk} (f : Fd h h' r) (hx : x < h.next) (h1 : x ≠ r) (g : h.get x = some k) : h'.get x = some k := by rw [f.get x hx h1, g]
theorem Rd.put {h : AH} {r : Nat} {rest : List UInt8} {cap : Option Nat} {bad : Bool} (hr : r < h.next) : Rd (h.put r (some (rdB rest cap bad))) r ⟨rest, bad⟩ := ⟨hr, cap, put_get⟩
theorem Rd.alloc {h : AH} {r : Nat} {s : RS} {x : Blk} (k : Rd h r s) : Rd (h.alloc x) r s := by
 obtain ⟨a, cap, b⟩ := k
 exact ⟨by rw [a_next]; omega, cap, by rw [get_alloc_old a, b]⟩
theorem Rd.other {h : AH} {r c : Nat} {s : RS} {x : Option Blk} (k : Rd h r s) (hc : r ≠ c) : Rd (h.put c x) r s := by
 obtain ⟨a, cap, b⟩ := k
 exact ⟨a, cap, by rw [get_put_old hc, b]⟩
end Go.Proofs.YtijpnlmmaoecgaaGreatDoor

namespace Go.Proofs.YtijpnlmmaoecgaaGreatDoor
open Go Go.AM
def RowR (h : AH) (lo n k es : Nat) (v : AV) (ps : List (AV × AV)) : Prop :=
 (k = 0 ∧ ps = [] ∧ v = .val (.slice none 0 0)) ∨ ∃ b, lo ≤ b ∧ b < h.next ∧ 0 < k ∧ v = .own b 0 k es none ∧ h.get b = some (.cells (ps.map (·.1)) true) ∧ ps.length = k * es ∧ ∀ p ∈ ps, Rep h lo b n p.1 p.2
theorem RowR.nil {h : AH} {lo n es : Nat} : RowR h lo n 0 es (.val (.slice none 0 0)) [] := .inl ⟨rfl, rfl, rfl⟩
theorem rep_same {h h' : AH} {lo hi lo' hi' n : Nat} {v t : AV} (hl : lo' ≤ lo) (hh : hi ≤ hi') (g : ∀ x, lo ≤ x → x < hi → h'.get x = h.get x) (k : Rep h lo hi n v t) : Rep h' lo' hi' n v t :=
 Rep.to hl hh (fun b h1 h2 cs rw e => ⟨rw, by rw [g b h1 h2, e]⟩) (Nat.le_refl _) k
theorem RowR.to {h h' : AH} {lo n k es : Nat} {v : AV} {ps : List (AV × AV)} (r : RowR h lo n k es v ps) (hn : h.next ≤ h'.next) (g : ∀ x, lo ≤ x → x < h.next → h'.get x = h.get x) : RowR h' lo n k es v ps := by
 rcases r with r | ⟨b, h1, h2, h3, e, h4, h5, h6⟩
 ·exact .inl r
 ·refine .inr ⟨b, h1, by omega, h3, e, by rw [g b h1 h2, h4], h5, fun p hp => rep_same (Nat.le_refl _) (Nat.le_refl _) (fun x x1 x2 => g x x1 (by omega)) (h6 p hp)⟩
theorem RowR.rep {h : AH} {lo n k es : Nat} {v : AV} {ps : List (AV × AV)} (r : RowR h lo n k es v ps) : Rep h lo h.next (n + 1) v (kidsA (ps.map (·.2)) k nilRow none) := by
 rcases r with ⟨rfl, rfl, rfl⟩ | ⟨b, b1, b2, b3, rfl, b4, b5, b6⟩
 ·exact Rep.leaf (Leaf.val _)
 ·have : kidsA (ps.map (·.2)) k nilRow none = .imm (ps.map (·.2)) k none := by
   have : Nat.beq k 0 = false := by
    cases hk : Nat.beq k 0 with
    | false => rfl
    | true =>
     have := Nat.eq_of_beq_eq_true hk
     omega
   simp only [kidsA, nilRow, this, Bool.and_false, cond_false]
  rw [this]
  exact Rep.own b1 b2 b4 b5 fun p hp => rep_same (Nat.le_refl _) (by omega) (fun _ _ _ => rfl) (b6 p hp)
def OneOk {α : Type} (one : Nat) (f : RS → α × RS) (cs : α → List AV) (F n : Nat) : Prop := ∀ (h : AH) (r : Nat) (st : RS), Rd h r st → st.bad = false → st.rest.length < F →
 ∃ v h', RunCall E1 (.f one) [.ptr r 0] h v h' ∧ ∃ qs : List (AV × AV), v.cells = some (qs.map (·.1)) ∧ qs.map (·.2) = cs (f st).1 ∧ (∀ q ∈ qs, Rep h' h.next h'.next n q.1 q.2) ∧ Rd h' r (f st).2 ∧ Fd h h' r
theorem okLen_of {k bytes : Nat} (hk : k < 2 ^ 30) (hb : bytes ≤ 100) : okLen (k + 1) bytes = true := by
 have : mostBytes = 2 ^ 40 := rfl
 simp only [okLen, this, Bool.and_eq_true]
 exact ⟨Nat.ble_eq.mpr (Nat.le_trans (Nat.mul_le_mul_left _ hb) (by omega)), Nat.ble_eq.mpr (by omega)⟩
end Go.Proofs.YtijpnlmmaoecgaaGreatDoor
