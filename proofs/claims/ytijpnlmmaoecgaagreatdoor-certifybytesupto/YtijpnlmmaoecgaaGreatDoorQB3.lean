/- A part of the proofs about certificates: YDt YDu YDv YDw. -/
import Derived.Test.YtijpnlmmaoecgaaGreatDoorQB2

set_option linter.all false
open Nat (reduceEqDiff reduceAdd reduceMul)
open Int (reduceEq reduceLT reduceLE)

namespace Go.Proofs.YtijpnlmmaoecgaaGreatDoor
open Go Go.AM
def OneD {α : Type} (one : Nat) (f : RS → α × RS) (cs : α → List AV) (B n : Nat) (F : List UInt8) : Prop := ∀ (h : AH) (r : Nat) (st : RS), Rq h r F st → NoTag h → st.bad = false → st.rest.length < B →
 ∃ v h', RunCall E1 (.f one) [.ptr r 0] h v h' ∧ ∃ qs : List (AV × AV), v.cells = some (qs.map (·.1)) ∧ ids v = idsL (qs.map (·.1)) ∧ qs.map (·.2) = cs (f st).1 ∧ (∀ q ∈ qs, Rep h' h.next h'.next n q.1 q.2) ∧ Rq h' r F (f st).2 ∧ Fd h h' r
theorem rows_below {h : AH} {lo hi n : Nat} (hh : hi ≤ h.next) : ∀ {ps : List (AV × AV)}, (∀ p ∈ ps, Rep h lo hi n p.1 p.2) → below h.next (idsL (ps.map (·.1))) = true
 | [], _ => rfl
 | p :: ps, k => by
  have a := rep_below (k p List.mem_cons_self) hh
  have b := rows_below hh fun q hq => k q (List.mem_cons_of_mem _ hq)
  simp only [List.map_cons, idsL, below, List.all_append, Bool.and_eq_true] at a b ⊢
  exact ⟨a, b⟩
theorem RowR.at {h : AH} {lo n k es : Nat} {v : AV} {ps : List (AV × AV)} (r : RowR h lo n k es v ps) : RowAt h v k es (ps.map (·.1)) ∧ below h.next (idsL (ps.map (·.1))) = true ∧ below h.next (ids v) = true := by
 rcases r with ⟨rfl, rfl, rfl⟩ | ⟨b, b1, b2, b3, rfl, b4, b5, b6⟩
 ·exact ⟨.inl ⟨rfl, rfl, rfl⟩, rfl, rfl⟩
 ·refine ⟨.inr ⟨b, rfl, b2, b4, by rw [List.length_map, b5]⟩, rows_below (by omega) b6, ?_⟩
  simp only [ids, below, List.all_cons, List.all_nil, Bool.and_true]
  exact Nat.blt_eq.mpr b2
structure DrTo (s s' : St) (r C lo n k es : Nat) (F : List UInt8) (X Y : List AV) (st : RS) (ps : List (AV × AV)) (q : List AV) : Prop where
 row : ∃ v' ps', RowR s'.h lo n (k + 1) es v' ps' ∧ ps'.map (·.2) = ps.map (·.2) ++ q ∧ s'.h.get C = some (.cells (X ++ v' :: Y) true)
 rq : Rq s'.h r F st
 nt : NoTag s'.h
 le : s.h.next ≤ s'.h.next
 old : ∀ x, x < lo → x ≠ r → x ≠ C → s'.h.get x = s.h.get x
 df : s'.defers = s.defers
end Go.Proofs.YtijpnlmmaoecgaaGreatDoor

namespace Go.Proofs.YtijpnlmmaoecgaaGreatDoor
open Go Go.AM
structure LsTo (s s' : St) (r C lo n k es : Nat) (F : List UInt8) (X Y : List AV) (st : RS) (ps : List (AV × AV)) (q : List AV) : Prop where
 row : ∃ v' ps', RowR s'.h lo n k es v' ps' ∧ ps'.map (·.2) = ps.map (·.2) ++ q ∧ s'.h.get C = some (.cells (X ++ v' :: Y) true)
 rq : Rq s'.h r F st
 nt : NoTag s'.h
 le : s.h.next ≤ s'.h.next
 old : ∀ x, x < lo → x ≠ r → x ≠ C → s'.h.get x = s.h.get x
 df : s'.defers = s.defers
end Go.Proofs.YtijpnlmmaoecgaaGreatDoor

namespace Go.Proofs.YtijpnlmmaoecgaaGreatDoor
open Go Go.AM
def TwoTo {α : Type} (h : AH) (r n : Nat) (F : List UInt8) (cs : α → List AV) (a : α) (st : RS) (v : AV) (h' : AH) : Prop := ∃ qs : List (AV × AV), v = .agg (qs.map (·.1)) ∧ qs.map (·.2) = cs a ∧ (∀ q ∈ qs, Rep h' h.next h'.next n q.1 q.2) ∧ Rq h' r F st ∧ Fd h h' r
theorem OneD.of {α : Type} {one : Nat} {f : RS → α × RS} {cs : α → List AV} {B n : Nat} {F : List UInt8} (k : ∀ (h : AH) (r : Nat) (st : RS), Rq h r F st → NoTag h → st.bad = false → st.rest.length < B → ∃ v h', RunCall E1 (.f one) [.ptr r 0] h v h' ∧ TwoTo h r n F cs (f st).1 (f st).2 v h') : OneD one f cs B n F := by
 intro h r st a nt b c
 obtain ⟨v, h', hr, qs, rfl, q⟩ := k h r st a nt b c
 exact ⟨_, h', hr, qs, rfl, rfl, q⟩
theorem Rq.len {h : AH} {r : Nat} {F : List UInt8} {st : RS} (k : Rq h r F st) : st.rest.length ≤ F.length := by
 obtain ⟨_, _, _, _, e, _⟩ := k
 rw [e, List.length_drop]
 omega
theorem LsTo.fd {s s' : St} {h0 : AH} {r C lo n k es : Nat} {F : List UInt8} {X Y : List AV} {st : RS} {ps : List (AV × AV)} {q : List AV} (t : LsTo s s' r C lo n k es F X Y st ps q) (f : Fd h0 s.h r) (hl : h0.next ≤ lo) (hC : h0.next ≤ C) : Fd h0 s'.h r :=
 ⟨Nat.le_trans f.le t.le, fun x hx hr => by rw [t.old x (by omega) hr (by omega), f.get x hx hr], fun k => t.nt⟩
end Go.Proofs.YtijpnlmmaoecgaaGreatDoor

namespace Go.Proofs.YtijpnlmmaoecgaaGreatDoor
open Go Go.AM
theorem xor_i64 {P : Program} {t : TypeId} {g : Bool} {a b : Nat} (ha : a < 2 ^ 32) (hb : b < 2 ^ 32) : binA P .xor t g (.val (.int .i64 (a : Nat))) (.val (.int .i64 (b : Nat))) = some (.val (.int .i64 ((a ^^^ b : Nat) : Int))) := by
 have hx : a ^^^ b < 2 ^ 32 := Nat.xor_lt_two_pow ha hb
 rw [v_xor, ofInt_nat, ofInt_nat, BitVec.toNat_xor, BitVec.toNat_ofNat, BitVec.toNat_ofNat]
 have : IntKind.i64.bits = 64 := rfl
 rw [this, Nat.mod_eq_of_lt (by omega), Nat.mod_eq_of_lt (by omega), wrap_in (by omega)]
theorem f54_loop (t : ByteArray) (hp : t.data.toList.length < 2 ^ 60) : ∀ (r : List UInt8) (i h : Nat) (s : St), t.data.toList.drop i = r → h < 4294967296 →
  s.eval (.t 0) = some (.val (.string t)) → s.eval (.t 3) = some (.val (.int .i64 (h : Nat))) → s.eval (.t 6) = some (.val (.int .i64 (t.data.toList.length : Nat))) → s.eval (.t 7) = some (.val (.int .i64 (i : Nat))) → s.defers = [] →
  Run E1 f54_l0 s fun e s' => e = .exit 0 ∧ s'.defers = [] ∧ s'.eval (.t 3) = some (.val (.int .i64 (r.foldl fnv1 h : Nat)))
 | [], i, h, s, hd, hh, h0, h3, h6, h7, hf => by
  have c1 := dec_ge (List.drop_eq_nil_iff.1 hd)
  apply loop_of (rfl : f54_l0 = .loop f54_b0)
  simp -implicitDefEqProofs only [f54_b0, V, ↓reduceIte, reduceEqDiff, reduceAdd, reduceMul, reduceCtorEq, reduceEq, reduceLT, reduceLE, h0, h3, h6, h7, hf, c1, List.foldl_nil]
 | c :: r, i, h, s, hd, hh, h0, h3, h6, h7, hf => by
  obtain ⟨hlt, hd'⟩ := lt_of_drop hd
  have c1 := dec_lt hlt
  have hc := c.toNat_lt
  have w1 := wrap_succ (i := i) (by omega)
  have w2 : IntKind.i64.wrap ((c.toNat : Nat) : Int) = ((c.toNat : Nat) : Int) := wrap_in (by omega)
  have hx : h ^^^ c.toNat < 2 ^ 32 := Nat.xor_lt_two_pow (by omega) (by omega)
  have x1 := xor_i64 (P := E1.P) (t := 3) (g := false) (a := h) (b := c.toNat) (by omega) (by omega)
  have w3 : IntKind.i64.wrap (((h ^^^ c.toNat : Nat) : Int) * 16777619) = (((h ^^^ c.toNat) * 16777619 : Nat) : Int) := wrap_nat (by rw [Int.natCast_mul]; rfl) (by omega)
  have x2 : binA E1.P .rem 3 true (.val (.int .i64 (((h ^^^ c.toNat) * 16777619 : Nat) : Int))) (.val (.int .i64 4294967296)) = some (.val (.int .i64 ((fnv1 h c : Nat) : Int))) := by
   rw [v_rem (by decide)]
   rfl
  apply loop_of (rfl : f54_l0 = .loop f54_b0)
  simp -implicitDefEqProofs only [f54_b0, V, ↓reduceIte, reduceEqDiff, reduceAdd, reduceMul, reduceCtorEq, reduceEq, reduceLT, reduceLE, h0, h3, h6, h7, c1, idx_str hd, w2, x1, w3, x2, w1]
  refine (f54_loop t hp r (i + 1) (fnv1 h c) _ hd' (fnv1_lt _ _) ?_ ?_ ?_ ?_ ?_).mono ?_
  ·simp -implicitDefEqProofs only [V, ↓reduceIte, reduceEqDiff, reduceAdd, reduceMul, reduceCtorEq, reduceEq, reduceLT, reduceLE, h0]
  ·simp -implicitDefEqProofs only [V, ↓reduceIte, reduceEqDiff, reduceAdd, reduceMul, reduceCtorEq, reduceEq, reduceLT, reduceLE]
  ·simp -implicitDefEqProofs only [V, ↓reduceIte, reduceEqDiff, reduceAdd, reduceMul, reduceCtorEq, reduceEq, reduceLT, reduceLE, h6]
  ·simp -implicitDefEqProofs only [V, ↓reduceIte, reduceEqDiff, reduceAdd, reduceMul, reduceCtorEq, reduceEq, reduceLT, reduceLE]
  ·simp -implicitDefEqProofs only [V, ↓reduceIte, reduceEqDiff, reduceAdd, reduceMul, reduceCtorEq, reduceEq, reduceLT, reduceLE, hf]
  ·rintro e s' ⟨r1, r2, r3⟩
   exact ⟨r1, r2, r3⟩
theorem sum54_call {t : ByteArray} (hp : t.data.toList.length < 2 ^ 60) : ∀ h, RunCall E1 (.f 54) [.val (.string t)] h (.val (.int .i64 (fnv t.data.toList : Nat))) h := by
 refine pure0 (by kernel_rfl) f54_ok (mem1 (Tree.val _)) rfl (Tree.val _) fun s hs hh hd hr => ?_
 have h0 := hs 0 _ rfl
 have q : lenStrV (.val (.string t)) = some (.val (.int .i64 (t.data.toList.length : Nat))) := rfl
 simp -implicitDefEqProofs only [f54_fn, f54, V, ↓reduceIte, reduceEqDiff, reduceAdd, reduceMul, reduceCtorEq, reduceEq, reduceLT, reduceLE, h0, q]
 refine (f54_loop t hp t.data.toList 0 2166136261 _ rfl (by decide) ?_ ?_ ?_ ?_ ?_).mono ?_
 ·simp -implicitDefEqProofs only [V, ↓reduceIte, reduceEqDiff, reduceAdd, reduceMul, reduceCtorEq, reduceEq, reduceLT, reduceLE, h0]
 ·simp -implicitDefEqProofs only [V, ↓reduceIte, reduceEqDiff, reduceAdd, reduceMul, reduceCtorEq, reduceEq, reduceLT, reduceLE] <;> rfl
 ·simp -implicitDefEqProofs only [V, ↓reduceIte, reduceEqDiff, reduceAdd, reduceMul, reduceCtorEq, reduceEq, reduceLT, reduceLE]
 ·simp -implicitDefEqProofs only [V, ↓reduceIte, reduceEqDiff, reduceAdd, reduceMul, reduceCtorEq, reduceEq, reduceLT, reduceLE] <;> rfl
 ·simp -implicitDefEqProofs only [V, ↓reduceIte, reduceEqDiff, reduceAdd, reduceMul, reduceCtorEq, reduceEq, reduceLT, reduceLE, hd]
 ·rintro e s' ⟨rfl, rd, r3⟩
  have hbeq : Nat.beq 0 0 = true := rfl
  have r3 : s'.eval (.t 3) = some (.val (.int .i64 (fnv t.data.toList : Nat))) := r3
  simp -implicitDefEqProofs only [V, ↓reduceIte, reduceEqDiff, reduceAdd, reduceMul, reduceCtorEq, reduceEq, reduceLT, reduceLE, hbeq, rd, r3]
def sealB (l : List UInt8) : List UInt8 := l ++ tail4 (fnv l)
end Go.Proofs.YtijpnlmmaoecgaaGreatDoor
