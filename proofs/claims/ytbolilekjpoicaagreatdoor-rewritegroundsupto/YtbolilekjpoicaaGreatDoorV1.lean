/- A part of the proof of the law RewriteGrounds: XVal XValb XCheck XTop. -/
import Derived.Test.YtbolilekjpoicaaGreatDoorW1
import Derived.Test.YtbolilekjpoicaaGreatDoorN3

set_option linter.all false

namespace Go.Proofs.YtbolilekjpoicaaGreatDoor
open Go Go.AM
set_option linter.all false
set_option maxHeartbeats 40000000
set_option maxRecDepth 10000

/-! ### values, in plain words -/
def ints (l : List Int) : List AV := l.map fun n => .val (.int .i64 n)
theorem ints_len (l : List Int) : (ints l).length = l.length := List.length_map _
theorem ints_app (l : List Int) (n : Int) : ints l ++ [.val (.int .i64 n)] = ints (l ++ [n]) := by simp only [ints, List.map_append, List.map_cons, List.map_nil]
theorem ints_leaf (l : List Int) : ∀ v ∈ ints l, Leaf v := fun v hv => by
  obtain ⟨b, _, rfl⟩ := List.mem_map.1 hv
  exact Leaf.val _
theorem ints_ids : ∀ l : List Int, idsL (ints l) = []
  | [] => rfl
  | a :: r => by
    have := ints_ids r
    simp only [ints, List.map_cons, idsL, ids, List.nil_append] at *
    exact this

/-- The value of a node from its kids' values. -/
def evN (o n : Int) (l : List Int) : Int × Bool := if o = 1 ∨ o = 2 then (n, true) else if o = 3 ∨ o = 4 ∨ o = 5 then (0, false) else match l with
  | [] => (0, false)
  | [a] => opS o a a
  | a :: b :: _ => opS o a b

mutual
def ev : Pr → Int × Bool
  | .mk o nm n ks nl cap => match evL ks with
    | some l => evN o n l
    | none => (0, false)
def evL : List Pr → Option (List Int)
  | [] => some []
  | k :: r => match ev k with
    | (v, true) => (match evL r with
      | some l => some (v :: l)
      | none => none)
    | (_, false) => none
end
theorem ev_eq (p : Pr) : ev p = match evL p.ks with
    | some l => evN p.op p.n l
    | none => (0, false) := by
  cases p
  simp only [ev, Pr.ks, Pr.op, Pr.n]
theorem evL_len : ∀ {r : List Pr} {l : List Int}, evL r = some l → l.length = r.length
  | [], l, h => by
    simp only [evL, Option.some.injEq] at h
    subst h; rfl
  | k :: r, l, h => by
    simp only [evL] at h
    split at h
    · split at h
      · rename_i l' hl
        simp only [Option.some.injEq] at h
        subst h
        simp only [List.length_cons, evL_len hl]
      · cases h
    · cases h
theorem evL_t {k : Pr} {r : List Pr} {x : Int} (h : ev k = (x, true)) : evL (k :: r) = match evL r with
      | some l => some (x :: l)
      | none => none := by simp only [evL, h]
theorem evL_f {k : Pr} {r : List Pr} {x : Int} (h : ev k = (x, false)) : evL (k :: r) = none := by simp only [evL, h]

/-- All nodes have a name, or are right. -/
def okOne (p : Pr) : Prop := isNamed p ∨ okNode p
mutual
def okAll : Pr → Prop
  | .mk o nm n ks nl cap => okOne (.mk o nm n ks nl cap) ∧ okAllL ks
def okAllL : List Pr → Prop
  | [] => True
  | k :: r => okAll k ∧ okAllL r
end

/-! ### no points, no facts -/
theorem len_nil : lenV (.val (.slice none 0 0)) = some (.val (.int .i64 0)) := rfl
theorem agg_cells {l : List AV} : (AV.agg l).cells = some l := rfl
theorem cfB_c0 {x : AV} {l : List AV} {rw : Bool} : cfB (some (.cells (x :: l) rw)) 0 = some (x :: l) := rfl
theorem cfB_c1 {x y : AV} {l : List AV} {rw : Bool} : cfB (some (.cells (x :: y :: l) rw)) 1 = some (y :: l) := rfl
theorem take_2 {a b : AV} : takeN (some 2) [a, b] = some (.agg [a, b]) := rfl

theorem find_loop57 (s : St) (h9 : s.eval (.t 9) = some (.val (.int .i64 0))) (h10 : s.eval (.t 10) = some (.val (.int .i64 0))) (hd : s.defers = []) : Run E1 f57_l0 s fun e s' => e = .exit 0 ∧ s'.defers = [] := by
  apply loop_of (rfl : f57_l0 = .loop f57_b0)
  simp -implicitDefEqProofs only [f57_b0, W0, W1, W2, W3, W4, W5, W6, W7, W8, St.put, Option.bind_some, Option.map_some, ↓reduceIte, Nat.reduceEqDiff, Nat.reduceAdd, Nat.reduceMul, reduceCtorEq, cond_true, cond_false, Int.reduceEq, Int.reduceLT, Int.reduceLE, if_true, if_false, h9, h10, hd]
theorem find_call57 (b : ByteArray) (h : AH) : RunCall E1 (.f 57) [.val (.slice none 0 0), .val (.string b)] h (prA (0, false)) h := by
  refine call_tree (by kernel_rfl) (by kernel_rfl) (mem2 (Tree.val _) (Tree.val _)) rfl (Tree.two _ _) (ans2s (rs := [.val (.int .i64 0), .val (.bool false)]) f57_ok fun s hs hh hd => ?_) h
  have h0 := hs 0 _ rfl
  have h1 := hs 1 _ rfl
  simp -implicitDefEqProofs only [f57_fn, f57, W0, W1, W2, W3, W4, W5, W6, W7, W8, St.put, Option.bind_some, Option.map_some, ↓reduceIte, Nat.reduceEqDiff, Nat.reduceAdd, Nat.reduceMul, reduceCtorEq, cond_true, cond_false, Int.reduceEq, Int.reduceLT, Int.reduceLE, if_true, if_false, len_nil, h0, h1, hh, hd]
  refine (find_loop57 _ ?_ ?_ ?_).mono ?_
  · simp -implicitDefEqProofs only [W0, W1, W2, W3, W4, W5, W6, W7, W8, St.put, Option.bind_some, Option.map_some, ↓reduceIte, Nat.reduceEqDiff, Nat.reduceAdd, Nat.reduceMul, reduceCtorEq, cond_true, cond_false, Int.reduceEq, Int.reduceLT, Int.reduceLE, if_true, if_false]
  · simp -implicitDefEqProofs only [W0, W1, W2, W3, W4, W5, W6, W7, W8, St.put, Option.bind_some, Option.map_some, ↓reduceIte, Nat.reduceEqDiff, Nat.reduceAdd, Nat.reduceMul, reduceCtorEq, cond_true, cond_false, Int.reduceEq, Int.reduceLT, Int.reduceLE, if_true, if_false]
  · simp -implicitDefEqProofs only [W0, W1, W2, W3, W4, W5, W6, W7, W8, St.put, Option.bind_some, Option.map_some, ↓reduceIte, Nat.reduceEqDiff, Nat.reduceAdd, Nat.reduceMul, reduceCtorEq, cond_true, cond_false, Int.reduceEq, Int.reduceLT, Int.reduceLE, if_true, if_false, hd]
  · rintro e s' ⟨rfl, hf⟩
    have : Nat.beq 0 0 = true := rfl
    simp -implicitDefEqProofs only [W0, W1, W2, W3, W4, W5, W6, W7, W8, St.put, Option.bind_some, Option.map_some, ↓reduceIte, Nat.reduceEqDiff, Nat.reduceAdd, Nat.reduceMul, reduceCtorEq, cond_true, cond_false, Int.reduceEq, Int.reduceLT, Int.reduceLE, if_true, if_false, this, hf]
theorem find_loop65 (s : St) (h9 : s.eval (.t 9) = some (.val (.int .i64 0))) (h10 : s.eval (.t 10) = some (.val (.int .i64 0))) (hd : s.defers = []) : Run E1 f65_l0 s fun e s' => e = .exit 0 ∧ s'.defers = [] := by
  apply loop_of (rfl : f65_l0 = .loop f65_b0)
  simp -implicitDefEqProofs only [f65_b0, W0, W1, W2, W3, W4, W5, W6, W7, W8, St.put, Option.bind_some, Option.map_some, ↓reduceIte, Nat.reduceEqDiff, Nat.reduceAdd, Nat.reduceMul, reduceCtorEq, cond_true, cond_false, Int.reduceEq, Int.reduceLT, Int.reduceLE, if_true, if_false, h9, h10, hd]
theorem find_call65 (b : ByteArray) (h : AH) : RunCall E1 (.f 65) [.val (.slice none 0 0), .val (.string b)] h (prA (0, false)) h := by
  refine call_tree (by kernel_rfl) (by kernel_rfl) (mem2 (Tree.val _) (Tree.val _)) rfl (Tree.two _ _) (ans2s (rs := [.val (.int .i64 0), .val (.bool false)]) f65_ok fun s hs hh hd => ?_) h
  have h0 := hs 0 _ rfl
  have h1 := hs 1 _ rfl
  simp -implicitDefEqProofs only [f65_fn, f65, W0, W1, W2, W3, W4, W5, W6, W7, W8, St.put, Option.bind_some, Option.map_some, ↓reduceIte, Nat.reduceEqDiff, Nat.reduceAdd, Nat.reduceMul, reduceCtorEq, cond_true, cond_false, Int.reduceEq, Int.reduceLT, Int.reduceLE, if_true, if_false, len_nil, h0, h1, hh, hd]
  refine (find_loop65 _ ?_ ?_ ?_).mono ?_
  · simp -implicitDefEqProofs only [W0, W1, W2, W3, W4, W5, W6, W7, W8, St.put, Option.bind_some, Option.map_some, ↓reduceIte, Nat.reduceEqDiff, Nat.reduceAdd, Nat.reduceMul, reduceCtorEq, cond_true, cond_false, Int.reduceEq, Int.reduceLT, Int.reduceLE, if_true, if_false]
  · simp -implicitDefEqProofs only [W0, W1, W2, W3, W4, W5, W6, W7, W8, St.put, Option.bind_some, Option.map_some, ↓reduceIte, Nat.reduceEqDiff, Nat.reduceAdd, Nat.reduceMul, reduceCtorEq, cond_true, cond_false, Int.reduceEq, Int.reduceLT, Int.reduceLE, if_true, if_false]
  · simp -implicitDefEqProofs only [W0, W1, W2, W3, W4, W5, W6, W7, W8, St.put, Option.bind_some, Option.map_some, ↓reduceIte, Nat.reduceEqDiff, Nat.reduceAdd, Nat.reduceMul, reduceCtorEq, cond_true, cond_false, Int.reduceEq, Int.reduceLT, Int.reduceLE, if_true, if_false, hd]
  · rintro e s' ⟨rfl, hf⟩
    have : Nat.beq 0 0 = true := rfl
    simp -implicitDefEqProofs only [W0, W1, W2, W3, W4, W5, W6, W7, W8, St.put, Option.bind_some, Option.map_some, ↓reduceIte, Nat.reduceEqDiff, Nat.reduceAdd, Nat.reduceMul, reduceCtorEq, cond_true, cond_false, Int.reduceEq, Int.reduceLT, Int.reduceLE, if_true, if_false, this, hf]

theorem bounded_call66 (h : AH) : RunCall E1 (.f 66) [.val (.int .i64 0), .val (.bool false)] h (prA (0, false)) h := by
  refine call_tree (by kernel_rfl) (by kernel_rfl) (mem2 (Tree.val _) (Tree.val _)) rfl (Tree.two _ _) (ans2s (rs := [.val (.int .i64 0), .val (.bool false)]) f66_ok fun s hs hh hd => ?_) h
  have h0 := hs 0 _ rfl
  have h1 := hs 1 _ rfl
  simp -implicitDefEqProofs only [f66_fn, f66, W0, W1, W2, W3, W4, W5, W6, W7, W8, St.put, Option.bind_some, Option.map_some, ↓reduceIte, Nat.reduceEqDiff, Nat.reduceAdd, Nat.reduceMul, reduceCtorEq, cond_true, cond_false, Int.reduceEq, Int.reduceLT, Int.reduceLE, if_true, if_false, h0, h1, hh, hd]

theorem fact_loop59 (s : St) (h9 : s.eval (.t 12) = some (.val (.int .i64 0))) (h10 : s.eval (.t 13) = some (.val (.int .i64 0))) (hd : s.defers = []) : Run E1 f59_l1 s fun e s' => e = .exit 0 ∧ s'.defers = [] := by
  apply loop_of (rfl : f59_l1 = .loop f59_b1)
  simp -implicitDefEqProofs only [f59_b1, W0, W1, W2, W3, W4, W5, W6, W7, W8, St.put, Option.bind_some, Option.map_some, ↓reduceIte, Nat.reduceEqDiff, Nat.reduceAdd, Nat.reduceMul, reduceCtorEq, cond_true, cond_false, Int.reduceEq, Int.reduceLT, Int.reduceLE, if_true, if_false, h9, h10, hd]
theorem fact_ans59 (b : ByteArray) (w : AV) : Ans E1 59 [.agg [.val (.slice none 0 0), .val (.slice none 0 0)], .val (.string b), w] (prA (0, false)) := by
  refine ans2s (rs := [.val (.int .i64 0), .val (.bool false)]) f59_ok fun s hs hh hd => ?_
  have h0 := hs 0 _ rfl
  have h1 := hs 1 _ rfl
  simp -implicitDefEqProofs only [f59_fn, f59, W0, W1, W2, W3, W4, W5, W6, W7, W8, St.put, Option.bind_some, Option.map_some, ↓reduceIte, Nat.reduceEqDiff, Nat.reduceAdd, Nat.reduceMul, reduceCtorEq, cond_true, cond_false, Int.reduceEq, Int.reduceLT, Int.reduceLE, if_true, if_false, len_nil, agg_cells, cfB_c1, take_hd, h0, h1, hh, hd]
  refine (fact_loop59 _ ?_ ?_ ?_).mono ?_
  · simp -implicitDefEqProofs only [W0, W1, W2, W3, W4, W5, W6, W7, W8, St.put, Option.bind_some, Option.map_some, ↓reduceIte, Nat.reduceEqDiff, Nat.reduceAdd, Nat.reduceMul, reduceCtorEq, cond_true, cond_false, Int.reduceEq, Int.reduceLT, Int.reduceLE, if_true, if_false]
  · simp -implicitDefEqProofs only [W0, W1, W2, W3, W4, W5, W6, W7, W8, St.put, Option.bind_some, Option.map_some, ↓reduceIte, Nat.reduceEqDiff, Nat.reduceAdd, Nat.reduceMul, reduceCtorEq, cond_true, cond_false, Int.reduceEq, Int.reduceLT, Int.reduceLE, if_true, if_false]
  · simp -implicitDefEqProofs only [W0, W1, W2, W3, W4, W5, W6, W7, W8, St.put, Option.bind_some, Option.map_some, ↓reduceIte, Nat.reduceEqDiff, Nat.reduceAdd, Nat.reduceMul, reduceCtorEq, cond_true, cond_false, Int.reduceEq, Int.reduceLT, Int.reduceLE, if_true, if_false, hd]
  · rintro e s' ⟨rfl, hf⟩
    have : Nat.beq 0 0 = true := rfl
    simp -implicitDefEqProofs only [W0, W1, W2, W3, W4, W5, W6, W7, W8, St.put, Option.bind_some, Option.map_some, ↓reduceIte, Nat.reduceEqDiff, Nat.reduceAdd, Nat.reduceMul, reduceCtorEq, cond_true, cond_false, Int.reduceEq, Int.reduceLT, Int.reduceLE, if_true, if_false, this, hf]

theorem fact_loop67 (s : St) (h9 : s.eval (.t 11) = some (.val (.int .i64 0))) (h10 : s.eval (.t 12) = some (.val (.int .i64 0))) (hd : s.defers = []) : Run E1 f67_l0 s fun e s' => e = .exit 0 ∧ s'.defers = [] := by
  apply loop_of (rfl : f67_l0 = .loop f67_b0)
  simp -implicitDefEqProofs only [f67_b0, W0, W1, W2, W3, W4, W5, W6, W7, W8, St.put, Option.bind_some, Option.map_some, ↓reduceIte, Nat.reduceEqDiff, Nat.reduceAdd, Nat.reduceMul, reduceCtorEq, cond_true, cond_false, Int.reduceEq, Int.reduceLT, Int.reduceLE, if_true, if_false, h9, h10, hd]
theorem fact_ans67 (b : ByteArray) (w : AV) : Ans E1 67 [.val (.string b), w, .val (.slice none 0 0)] (prA (0, false)) := by
  refine ans2s (rs := [.val (.int .i64 0), .val (.bool false)]) f67_ok fun s hs hh hd => ?_
  have h0 := hs 0 _ rfl
  have h2 := hs 2 _ rfl
  simp -implicitDefEqProofs only [f67_fn, f67, W0, W1, W2, W3, W4, W5, W6, W7, W8, St.put, Option.bind_some, Option.map_some, ↓reduceIte, Nat.reduceEqDiff, Nat.reduceAdd, Nat.reduceMul, reduceCtorEq, cond_true, cond_false, Int.reduceEq, Int.reduceLT, Int.reduceLE, if_true, if_false, len_nil, h0, h2, hh, hd]
  refine (fact_loop67 _ ?_ ?_ ?_).mono ?_
  · simp -implicitDefEqProofs only [W0, W1, W2, W3, W4, W5, W6, W7, W8, St.put, Option.bind_some, Option.map_some, ↓reduceIte, Nat.reduceEqDiff, Nat.reduceAdd, Nat.reduceMul, reduceCtorEq, cond_true, cond_false, Int.reduceEq, Int.reduceLT, Int.reduceLE, if_true, if_false]
  · simp -implicitDefEqProofs only [W0, W1, W2, W3, W4, W5, W6, W7, W8, St.put, Option.bind_some, Option.map_some, ↓reduceIte, Nat.reduceEqDiff, Nat.reduceAdd, Nat.reduceMul, reduceCtorEq, cond_true, cond_false, Int.reduceEq, Int.reduceLT, Int.reduceLE, if_true, if_false]
  · simp -implicitDefEqProofs only [W0, W1, W2, W3, W4, W5, W6, W7, W8, St.put, Option.bind_some, Option.map_some, ↓reduceIte, Nat.reduceEqDiff, Nat.reduceAdd, Nat.reduceMul, reduceCtorEq, cond_true, cond_false, Int.reduceEq, Int.reduceLT, Int.reduceLE, if_true, if_false, hd]
  · rintro e s' ⟨rfl, hf⟩
    have : Nat.beq 0 0 = true := rfl
    simp -implicitDefEqProofs only [W0, W1, W2, W3, W4, W5, W6, W7, W8, St.put, Option.bind_some, Option.map_some, ↓reduceIte, Nat.reduceEqDiff, Nat.reduceAdd, Nat.reduceMul, reduceCtorEq, cond_true, cond_false, Int.reduceEq, Int.reduceLT, Int.reduceLE, if_true, if_false, this, hf]

/-- A row in the making, frozen and unfolded. -/
theorem row_tree {lo : Nat} {h : AH} {v : AV} {cs : List AV} (hr : Row lo h v cs) (hv : ∀ c ∈ cs, Leaf c) : ∃ w, toTree (AM.freeze deepest v h) deepest v = some w := by
  rcases hr with ⟨rfl, rfl⟩ | ⟨b, _, _, _, rfl, hg⟩
  · exact ⟨_, rfl⟩
  · exact ⟨_, own_tree hg (by omega) hv⟩

theorem fact_call59 {lo : Nat} {h : AH} {v : AV} {cs : List AV} (hr : Row lo h v cs) (hv : ∀ c ∈ cs, Leaf c) (b : ByteArray) : RunCall E1 (.f 59) [.agg [.val (.slice none 0 0), .val (.slice none 0 0)], .val (.string b), v] h (prA (0, false)) h := by
  obtain ⟨w, hw⟩ := row_tree hr hv
  refine call_flat (l' := [.agg [.val (.slice none 0 0), .val (.slice none 0 0)], .val (.string b), w]) (h1 := AM.freeze deepest v h) (by kernel_rfl) rfl ?_ (by kernel_rfl) rfl (Tree.two _ _) (fact_ans59 b w)
  have e1 : toTree (AM.freeze deepest v h) deepest (.agg [.val (.slice none 0 0), .val (.slice none 0 0)]) = some (.agg [.val (.slice none 0 0), .val (.slice none 0 0)]) := rfl
  have e2 : toTree (AM.freeze deepest v h) deepest (.val (.string b)) = some (.val (.string b)) := rfl
  simp only [mapTree, e1, e2, hw]
theorem fact_call67 {lo : Nat} {h : AH} {v : AV} {cs : List AV} (hr : Row lo h v cs) (hv : ∀ c ∈ cs, Leaf c) (b : ByteArray) : RunCall E1 (.f 67) [.val (.string b), v, .val (.slice none 0 0)] h (prA (0, false)) h := by
  obtain ⟨w, hw⟩ := row_tree hr hv
  refine call_flat (l' := [.val (.string b), w, .val (.slice none 0 0)]) (h1 := AM.freeze deepest v h) (by kernel_rfl) rfl ?_ (by kernel_rfl) rfl (Tree.two _ _) (fact_ans67 b w)
  have e1 : toTree (AM.freeze deepest v h) deepest (.val (.slice none 0 0)) = some (.val (.slice none 0 0)) := rfl
  have e2 : toTree (AM.freeze deepest v h) deepest (.val (.string b)) = some (.val (.string b)) := rfl
  simp only [mapTree, e1, e2, hw]

theorem ok8 {n : Nat} (h : n ≤ 1000) : okLen n 8 = true := by
  have h1 : Nat.ble (n * 8) mostBytes = true := Nat.ble_eq.mpr (by have : mostBytes = 2 ^ 40 := rfl; omega)
  have h2 : Nat.ble n mostBytes = true := Nat.ble_eq.mpr (by have : mostBytes = 2 ^ 40 := rfl; omega)
  simp only [okLen, h1, h2, Bool.and_self]

theorem ids_cells (p : Pr) : idsL p.cells = [] := by
  have h : ids p.kids = [] := by
    obtain ⟨o, s, n, ks, nl, cap⟩ := p
    simp only [Pr.kids, kidsA]
    cases (nl.isSome && Nat.beq ks.length 0) <;> rfl
  rw [p.cells_eq]
  simp only [idsL, ids, h, List.nil_append]
theorem cell_op (p : Pr) : p.cells[0]? = some (.val (.int .i64 p.op)) := by rw [p.cells_eq]; rfl

def isBin (o : Int) : Prop := o = 6 ∨ o = 7 ∨ o = 8 ∨ o = 10 ∨ o = 11 ∨ o = 12 ∨ o = 13 ∨ o = 15 ∨ o = 16 ∨ o = 17 ∨ o = 18
theorem op_call62 {o : Int} (k : isBin o) (a b : Int) (h : AH) : RunCall E1 (.f 62) [.val (.int .i64 o), .val (.int .i64 a), .val (.int .i64 b)] h (prA (opS o a b)) h := by
  rcases k with k | k | k | k | k | k | k | k | k | k | k <;> subst k
  · exact op_call62_6 a b h
  · exact op_call62_7 a b h
  · exact op_call62_8 a b h
  · exact op_call62_10 a b h
  · exact op_call62_11 a b h
  · exact op_call62_12 a b h
  · exact op_call62_13 a b h
  · exact op_call62_15 a b h
  · exact op_call62_16 a b h
  · exact op_call62_17 a b h
  · exact op_call62_18 a b h
theorem op_call68 {o : Int} (k : isBin o ∨ o = 9 ∨ o = 14) (a b : Int) (h : AH) : RunCall E1 (.f 68) [.val (.int .i64 o), .val (.int .i64 a), .val (.int .i64 b)] h (prA (opS o a b)) h := by
  rcases k with (k | k | k | k | k | k | k | k | k | k | k) | k | k <;> subst k
  · exact op_call68_6 a b h
  · exact op_call68_7 a b h
  · exact op_call68_8 a b h
  · exact op_call68_10 a b h
  · exact op_call68_11 a b h
  · exact op_call68_12 a b h
  · exact op_call68_13 a b h
  · exact op_call68_15 a b h
  · exact op_call68_16 a b h
  · exact op_call68_17 a b h
  · exact op_call68_18 a b h
  · exact op_call68_9 a b h
  · exact op_call68_14 a b h

/-! ### the drawn ends -/
theorem f33_draw (p : Pr) (hk : isBin p.op) (a b : Int) (c : Nat) (s : St) (h3 : s.eval (.t 3) = some (.ptr 1 0)) (g1 : s.h.get 1 = some (.cells p.cells true)) (n1 : 1 < s.h.next)
    (h6 : s.eval (.t 6) = some (.own c 0 2 1 none)) (gc : s.h.get c = some (.cells [.val (.int .i64 a), .val (.int .i64 b)] true)) (nc : c < s.h.next) (hd : s.defers = []) :
    Run E1 f33_d1 s fun e s' => e = .normal ∧ s'.defers = [] ∧ s'.eval (.t 4) = some (.val (.int .i64 (opS p.op a b).1)) ∧ s'.eval (.t 5) = some (.val (.bool (opS p.op a b).2)) := by
  have hc0 : idsL [AV.val (.int .i64 a), .val (.int .i64 b)] = [] := rfl
  refine run_draw ?_
  refine drawB_fa (b := 1) (o := 0) (by simp) (by simp) h3 n1 fun r1 q1 => ?_
  refine drawB_ld (b := 1) (i := 0) (by simp [q1]) (by simp) (by simp -implicitDefEqProofs only [W0, W1, W2, W3, W4, W5, W6, W7, W8, St.put, Option.bind_some, Option.map_some, ↓reduceIte, Nat.reduceEqDiff, Nat.reduceAdd, Nat.reduceMul, reduceCtorEq, cond_true, cond_false, Int.reduceEq, Int.reduceLT, Int.reduceLE, if_true, if_false]) n1 g1 (ids_cells p) (cell_op p) fun r2 q2 => ?_
  refine drawB_mv (v := .own c 0 2 1 none) (by simp [q1, q2]) (by simp) (by simp -implicitDefEqProofs only [W0, W1, W2, W3, W4, W5, W6, W7, W8, St.put, Option.bind_some, Option.map_some, ↓reduceIte, Nat.reduceEqDiff, Nat.reduceAdd, Nat.reduceMul, reduceCtorEq, cond_true, cond_false, Int.reduceEq, Int.reduceLT, Int.reduceLE, if_true, if_false, h6]) (below_one nc) fun r3 q3 => ?_
  refine drawB_ix (b := c) (n := 2) (i := 0) (cap := none) (kd := .i64) rfl (by simp [q1, q2, q3]) (by simp) (by simp -implicitDefEqProofs only [W0, W1, W2, W3, W4, W5, W6, W7, W8, St.put, Option.bind_some, Option.map_some, ↓reduceIte, Nat.reduceEqDiff, Nat.reduceAdd, Nat.reduceMul, reduceCtorEq, cond_true, cond_false, Int.reduceEq, Int.reduceLT, Int.reduceLE, if_true, if_false]) nc (by omega) fun r4 q4 => ?_
  refine drawB_ld (b := c) (i := 0) (by simp [q1, q2, q3, q4]) (by simp) (by simp -implicitDefEqProofs only [W0, W1, W2, W3, W4, W5, W6, W7, W8, St.put, Option.bind_some, Option.map_some, ↓reduceIte, Nat.reduceEqDiff, Nat.reduceAdd, Nat.reduceMul, reduceCtorEq, cond_true, cond_false, Int.reduceEq, Int.reduceLT, Int.reduceLE, if_true, if_false]) nc gc hc0 rfl fun r5 q5 => ?_
  refine drawB_mv (v := .own c 0 2 1 none) (by simp [q1, q2, q3, q4, q5]) (by simp) (by simp -implicitDefEqProofs only [W0, W1, W2, W3, W4, W5, W6, W7, W8, St.put, Option.bind_some, Option.map_some, ↓reduceIte, Nat.reduceEqDiff, Nat.reduceAdd, Nat.reduceMul, reduceCtorEq, cond_true, cond_false, Int.reduceEq, Int.reduceLT, Int.reduceLE, if_true, if_false, h6]) (below_one nc) fun r6 q6 => ?_
  refine drawB_ix (b := c) (n := 2) (i := 1) (cap := none) (kd := .i64) rfl (by simp [q1, q2, q3, q4, q5, q6]) (by simp) (by simp -implicitDefEqProofs only [W0, W1, W2, W3, W4, W5, W6, W7, W8, St.put, Option.bind_some, Option.map_some, ↓reduceIte, Nat.reduceEqDiff, Nat.reduceAdd, Nat.reduceMul, reduceCtorEq, cond_true, cond_false, Int.reduceEq, Int.reduceLT, Int.reduceLE, if_true, if_false]) nc (by omega) fun r7 q7 => ?_
  refine drawB_ld (b := c) (i := 1) (by simp [q1, q2, q3, q4, q5, q6, q7]) (by simp) (by simp -implicitDefEqProofs only [W0, W1, W2, W3, W4, W5, W6, W7, W8, St.put, Option.bind_some, Option.map_some, ↓reduceIte, Nat.reduceEqDiff, Nat.reduceAdd, Nat.reduceMul, reduceCtorEq, cond_true, cond_false, Int.reduceEq, Int.reduceLT, Int.reduceLE, if_true, if_false]) nc gc hc0 rfl fun r8 q8 => ?_
  refine drawB_call3 (by simp [q1, q2, q3, q4, q5, q6, q7, q8]) (by simp) (by simp -implicitDefEqProofs only [W0, W1, W2, W3, W4, W5, W6, W7, W8, St.put, Option.bind_some, Option.map_some, ↓reduceIte, Nat.reduceEqDiff, Nat.reduceAdd, Nat.reduceMul, reduceCtorEq, cond_true, cond_false, Int.reduceEq, Int.reduceLT, Int.reduceLE, if_true, if_false] <;> rfl) (by simp -implicitDefEqProofs only [W0, W1, W2, W3, W4, W5, W6, W7, W8, St.put, Option.bind_some, Option.map_some, ↓reduceIte, Nat.reduceEqDiff, Nat.reduceAdd, Nat.reduceMul, reduceCtorEq, cond_true, cond_false, Int.reduceEq, Int.reduceLT, Int.reduceLE, if_true, if_false] <;> rfl) (by simp -implicitDefEqProofs only [W0, W1, W2, W3, W4, W5, W6, W7, W8, St.put, Option.bind_some, Option.map_some, ↓reduceIte, Nat.reduceEqDiff, Nat.reduceAdd, Nat.reduceMul, reduceCtorEq, cond_true, cond_false, Int.reduceEq, Int.reduceLT, Int.reduceLE, if_true, if_false] <;> rfl) (op_call62 hk a b) fun r9 q9 => ?_
  refine drawB_ex (by simp [q1, q2, q3, q4, q5, q6, q7, q8, q9]) (by simp) (by simp -implicitDefEqProofs only [W0, W1, W2, W3, W4, W5, W6, W7, W8, St.put, Option.bind_some, Option.map_some, ↓reduceIte, Nat.reduceEqDiff, Nat.reduceAdd, Nat.reduceMul, reduceCtorEq, cond_true, cond_false, Int.reduceEq, Int.reduceLT, Int.reduceLE, if_true, if_false, prA] <;> rfl) rfl fun r10 q10 => ?_
  refine drawB_ex (by simp [q1, q2, q3, q4, q5, q6, q7, q8, q9, q10]) (by simp) (by simp -implicitDefEqProofs only [W0, W1, W2, W3, W4, W5, W6, W7, W8, St.put, Option.bind_some, Option.map_some, ↓reduceIte, Nat.reduceEqDiff, Nat.reduceAdd, Nat.reduceMul, reduceCtorEq, cond_true, cond_false, Int.reduceEq, Int.reduceLT, Int.reduceLE, if_true, if_false, prA] <;> rfl) rfl fun r11 q11 => ?_
  refine drawB_mv (by simp [q1, q2, q3, q4, q5, q6, q7, q8, q9, q10, q11]) (by simp) (by simp -implicitDefEqProofs only [W0, W1, W2, W3, W4, W5, W6, W7, W8, St.put, Option.bind_some, Option.map_some, ↓reduceIte, Nat.reduceEqDiff, Nat.reduceAdd, Nat.reduceMul, reduceCtorEq, cond_true, cond_false, Int.reduceEq, Int.reduceLT, Int.reduceLE, if_true, if_false] <;> rfl) rfl fun r12 q12 => ?_
  refine drawB_mv (by simp [q1, q2, q3, q4, q5, q6, q7, q8, q9, q10, q11, q12]) (by simp) (by simp -implicitDefEqProofs only [W0, W1, W2, W3, W4, W5, W6, W7, W8, St.put, Option.bind_some, Option.map_some, ↓reduceIte, Nat.reduceEqDiff, Nat.reduceAdd, Nat.reduceMul, reduceCtorEq, cond_true, cond_false, Int.reduceEq, Int.reduceLT, Int.reduceLE, if_true, if_false] <;> rfl) rfl fun r13 q13 => ?_
  refine draw_nil ?_
  simp -implicitDefEqProofs only [W0, W1, W2, W3, W4, W5, W6, W7, W8, St.put, Option.bind_some, Option.map_some, ↓reduceIte, Nat.reduceEqDiff, Nat.reduceAdd, Nat.reduceMul, reduceCtorEq, cond_true, cond_false, Int.reduceEq, Int.reduceLT, Int.reduceLE, if_true, if_false, hd]

theorem f35_draw (p : Pr) (hk : isBin p.op ∨ p.op = 9 ∨ p.op = 14) (a b : Int) (c n : Nat) (cs : List AV) (s : St) (h3 : s.eval (.t 3) = some (.ptr 0 0)) (g1 : s.h.get 0 = some (.cells p.cells true)) (n1 : 0 < s.h.next)
    (h6 : s.eval (.t 10) = some (.own c 0 n 1 none)) (gc : s.h.get c = some (.cells cs true)) (hi : idsL cs = []) (hn : 1 ≤ n) (hn2 : n ≤ 1000) (hc0 : cs[0]? = some (.val (.int .i64 a))) (hc1 : cs[n - 1]? = some (.val (.int .i64 b))) (nc : c < s.h.next) (hd : s.defers = []) :
    Run E1 f35_d1 s fun e s' => e = .normal ∧ s'.defers = [] ∧ s'.eval (.t 6) = some (.val (.int .i64 (opS p.op a b).1)) ∧ s'.eval (.t 7) = some (.val (.bool (opS p.op a b).2)) := by
  have w1 : IntKind.i64.wrap ((n : Int) - 1) = ((n - 1 : Nat) : Int) := by
    have : (n : Int) - 1 = ((n - 1 : Nat) : Int) := by omega
    rw [this]; exact wrap_nat (by omega)
  refine run_draw ?_
  refine drawB_fa (b := 0) (o := 0) (by simp) (by simp) h3 n1 fun r1 q1 => ?_
  refine drawB_ld (b := 0) (i := 0) (by simp [q1]) (by simp) (by simp -implicitDefEqProofs only [W0, W1, W2, W3, W4, W5, W6, W7, W8, St.put, Option.bind_some, Option.map_some, ↓reduceIte, Nat.reduceEqDiff, Nat.reduceAdd, Nat.reduceMul, reduceCtorEq, cond_true, cond_false, Int.reduceEq, Int.reduceLT, Int.reduceLE, if_true, if_false]) n1 g1 (ids_cells p) (cell_op p) fun r2 q2 => ?_
  refine drawB_mv (v := .own c 0 n 1 none) (by simp [q1, q2]) (by simp) (by simp -implicitDefEqProofs only [W0, W1, W2, W3, W4, W5, W6, W7, W8, St.put, Option.bind_some, Option.map_some, ↓reduceIte, Nat.reduceEqDiff, Nat.reduceAdd, Nat.reduceMul, reduceCtorEq, cond_true, cond_false, Int.reduceEq, Int.reduceLT, Int.reduceLE, if_true, if_false, h6]) (below_one nc) fun r3 q3 => ?_
  refine drawB_ix (b := c) (n := n) (i := 0) (cap := none) (kd := .i64) rfl (by simp [q1, q2, q3]) (by simp) (by simp -implicitDefEqProofs only [W0, W1, W2, W3, W4, W5, W6, W7, W8, St.put, Option.bind_some, Option.map_some, ↓reduceIte, Nat.reduceEqDiff, Nat.reduceAdd, Nat.reduceMul, reduceCtorEq, cond_true, cond_false, Int.reduceEq, Int.reduceLT, Int.reduceLE, if_true, if_false]) nc (by omega) fun r4 q4 => ?_
  refine drawB_ld (b := c) (i := 0) (by simp [q1, q2, q3, q4]) (by simp) (by simp -implicitDefEqProofs only [W0, W1, W2, W3, W4, W5, W6, W7, W8, St.put, Option.bind_some, Option.map_some, ↓reduceIte, Nat.reduceEqDiff, Nat.reduceAdd, Nat.reduceMul, reduceCtorEq, cond_true, cond_false, Int.reduceEq, Int.reduceLT, Int.reduceLE, if_true, if_false]) nc gc hi hc0 fun r5 q5 => ?_
  refine drawB_mv (v := .own c 0 n 1 none) (by simp [q1, q2, q3, q4, q5]) (by simp) (by simp -implicitDefEqProofs only [W0, W1, W2, W3, W4, W5, W6, W7, W8, St.put, Option.bind_some, Option.map_some, ↓reduceIte, Nat.reduceEqDiff, Nat.reduceAdd, Nat.reduceMul, reduceCtorEq, cond_true, cond_false, Int.reduceEq, Int.reduceLT, Int.reduceLE, if_true, if_false, h6]) (below_one nc) fun r6 q6 => ?_
  refine drawB_mv (v := .own c 0 n 1 none) (by simp [q1, q2, q3, q4, q5, q6]) (by simp) (by simp -implicitDefEqProofs only [W0, W1, W2, W3, W4, W5, W6, W7, W8, St.put, Option.bind_some, Option.map_some, ↓reduceIte, Nat.reduceEqDiff, Nat.reduceAdd, Nat.reduceMul, reduceCtorEq, cond_true, cond_false, Int.reduceEq, Int.reduceLT, Int.reduceLE, if_true, if_false, h6]) (below_one nc) fun r6b q6b => ?_
  refine drawB_len (b := c) (n := n) (cap := none) (by simp [q1, q2, q3, q4, q5, q6, q6b]) (by simp) (by simp -implicitDefEqProofs only [W0, W1, W2, W3, W4, W5, W6, W7, W8, St.put, Option.bind_some, Option.map_some, ↓reduceIte, Nat.reduceEqDiff, Nat.reduceAdd, Nat.reduceMul, reduceCtorEq, cond_true, cond_false, Int.reduceEq, Int.reduceLT, Int.reduceLE, if_true, if_false] <;> rfl) nc gc hi fun r6c q6c => ?_
  refine drawB_sub (n := n) (by simp [q1, q2, q3, q4, q5, q6, q6b, q6c]) (by simp) (by simp -implicitDefEqProofs only [W0, W1, W2, W3, W4, W5, W6, W7, W8, St.put, Option.bind_some, Option.map_some, ↓reduceIte, Nat.reduceEqDiff, Nat.reduceAdd, Nat.reduceMul, reduceCtorEq, cond_true, cond_false, Int.reduceEq, Int.reduceLT, Int.reduceLE, if_true, if_false]) fun r6d q6d => ?_
  rw [w1]
  refine drawB_ixt (b := c) (n := n) (i := n - 1) (cap := none) (kd := .i64) (by simp [q1, q2, q3, q4, q5, q6, q6b, q6c, q6d]) (by simp) (by simp -implicitDefEqProofs only [W0, W1, W2, W3, W4, W5, W6, W7, W8, St.put, Option.bind_some, Option.map_some, ↓reduceIte, Nat.reduceEqDiff, Nat.reduceAdd, Nat.reduceMul, reduceCtorEq, cond_true, cond_false, Int.reduceEq, Int.reduceLT, Int.reduceLE, if_true, if_false] <;> rfl) (by simp -implicitDefEqProofs only [W0, W1, W2, W3, W4, W5, W6, W7, W8, St.put, Option.bind_some, Option.map_some, ↓reduceIte, Nat.reduceEqDiff, Nat.reduceAdd, Nat.reduceMul, reduceCtorEq, cond_true, cond_false, Int.reduceEq, Int.reduceLT, Int.reduceLE, if_true, if_false] <;> rfl) nc (by omega) fun r7 q7 => ?_
  refine drawB_ld (b := c) (i := n - 1) (by simp [q1, q2, q3, q4, q5, q6, q6b, q6c, q6d, q7]) (by simp) (by simp -implicitDefEqProofs only [W0, W1, W2, W3, W4, W5, W6, W7, W8, St.put, Option.bind_some, Option.map_some, ↓reduceIte, Nat.reduceEqDiff, Nat.reduceAdd, Nat.reduceMul, reduceCtorEq, cond_true, cond_false, Int.reduceEq, Int.reduceLT, Int.reduceLE, if_true, if_false]) nc gc hi hc1 fun r8 q8 => ?_
  refine drawB_call3 (by simp [q1, q2, q3, q4, q5, q6, q6b, q6c, q6d, q7, q8]) (by simp) (by simp -implicitDefEqProofs only [W0, W1, W2, W3, W4, W5, W6, W7, W8, St.put, Option.bind_some, Option.map_some, ↓reduceIte, Nat.reduceEqDiff, Nat.reduceAdd, Nat.reduceMul, reduceCtorEq, cond_true, cond_false, Int.reduceEq, Int.reduceLT, Int.reduceLE, if_true, if_false] <;> rfl) (by simp -implicitDefEqProofs only [W0, W1, W2, W3, W4, W5, W6, W7, W8, St.put, Option.bind_some, Option.map_some, ↓reduceIte, Nat.reduceEqDiff, Nat.reduceAdd, Nat.reduceMul, reduceCtorEq, cond_true, cond_false, Int.reduceEq, Int.reduceLT, Int.reduceLE, if_true, if_false] <;> rfl) (by simp -implicitDefEqProofs only [W0, W1, W2, W3, W4, W5, W6, W7, W8, St.put, Option.bind_some, Option.map_some, ↓reduceIte, Nat.reduceEqDiff, Nat.reduceAdd, Nat.reduceMul, reduceCtorEq, cond_true, cond_false, Int.reduceEq, Int.reduceLT, Int.reduceLE, if_true, if_false] <;> rfl) (op_call68 hk a b) fun r9 q9 => ?_
  refine drawB_ex (by simp [q1, q2, q3, q4, q5, q6, q6b, q6c, q6d, q7, q8, q9]) (by simp) (by simp -implicitDefEqProofs only [W0, W1, W2, W3, W4, W5, W6, W7, W8, St.put, Option.bind_some, Option.map_some, ↓reduceIte, Nat.reduceEqDiff, Nat.reduceAdd, Nat.reduceMul, reduceCtorEq, cond_true, cond_false, Int.reduceEq, Int.reduceLT, Int.reduceLE, if_true, if_false, prA] <;> rfl) rfl fun r10 q10 => ?_
  refine drawB_ex (by simp [q1, q2, q3, q4, q5, q6, q6b, q6c, q6d, q7, q8, q9, q10]) (by simp) (by simp -implicitDefEqProofs only [W0, W1, W2, W3, W4, W5, W6, W7, W8, St.put, Option.bind_some, Option.map_some, ↓reduceIte, Nat.reduceEqDiff, Nat.reduceAdd, Nat.reduceMul, reduceCtorEq, cond_true, cond_false, Int.reduceEq, Int.reduceLT, Int.reduceLE, if_true, if_false, prA] <;> rfl) rfl fun r11 q11 => ?_
  refine drawB_mv (by simp [q1, q2, q3, q4, q5, q6, q6b, q6c, q6d, q7, q8, q9, q10, q11]) (by simp) (by simp -implicitDefEqProofs only [W0, W1, W2, W3, W4, W5, W6, W7, W8, St.put, Option.bind_some, Option.map_some, ↓reduceIte, Nat.reduceEqDiff, Nat.reduceAdd, Nat.reduceMul, reduceCtorEq, cond_true, cond_false, Int.reduceEq, Int.reduceLT, Int.reduceLE, if_true, if_false] <;> rfl) rfl fun r12 q12 => ?_
  refine drawB_mv (by simp [q1, q2, q3, q4, q5, q6, q6b, q6c, q6d, q7, q8, q9, q10, q11, q12]) (by simp) (by simp -implicitDefEqProofs only [W0, W1, W2, W3, W4, W5, W6, W7, W8, St.put, Option.bind_some, Option.map_some, ↓reduceIte, Nat.reduceEqDiff, Nat.reduceAdd, Nat.reduceMul, reduceCtorEq, cond_true, cond_false, Int.reduceEq, Int.reduceLT, Int.reduceLE, if_true, if_false] <;> rfl) rfl fun r13 q13 => ?_
  refine draw_nil ?_
  simp -implicitDefEqProofs only [W0, W1, W2, W3, W4, W5, W6, W7, W8, St.put, Option.bind_some, Option.map_some, ↓reduceIte, Nat.reduceEqDiff, Nat.reduceAdd, Nat.reduceMul, reduceCtorEq, cond_true, cond_false, Int.reduceEq, Int.reduceLT, Int.reduceLE, if_true, if_false, hd]

end Go.Proofs.YtbolilekjpoicaaGreatDoor

namespace Go.Proofs.YtbolilekjpoicaaGreatDoor
open Go Go.AM
set_option linter.all false
set_option maxHeartbeats 40000000
set_option maxRecDepth 10000

theorem f33_loop (p : Pr) (hlen : p.ks.length ≤ 400) : ∀ (r : List Pr) (i : Nat) (l : List Int) (v : AV) (s : St), p.ks.drop i = r → i ≤ p.ks.length → l.length = i →
    (∀ k ∈ r, ∀ h, RunCall E1 (.f 33) [.agg [.val (.slice none 0 0), .val (.slice none 0 0)], k.av] h (prA (ev k)) h) →
    s.eval (.t 2) = some (.ptr 0 0) → s.eval (.t 3) = some (.ptr 1 0) → s.h.get 0 = some (.cells [.val (.slice none 0 0), .val (.slice none 0 0)] true) → s.h.get 1 = some (.cells p.cells true) → 2 ≤ s.h.next →
    s.eval (.t 6) = some v → Row 2 s.h v (ints l) → s.eval (.t 14) = some p.kids → s.eval (.t 15) = some (.val (.int .i64 (p.ks.length : Nat))) → s.eval (.t 16) = some (.val (.int .i64 i)) → s.defers = [] →
    Run E1 f33_l0 s fun e s' => s'.defers = [] ∧ ((∃ l', evL r = some l' ∧ e = .exit 0 ∧ ∃ v', s'.eval (.t 6) = some v' ∧ Row 2 s'.h v' (ints (l ++ l')) ∧ s'.eval (.t 2) = some (.ptr 0 0) ∧ s'.eval (.t 3) = some (.ptr 1 0) ∧ s'.h.get 0 = some (.cells [.val (.slice none 0 0), .val (.slice none 0 0)] true) ∧ s'.h.get 1 = some (.cells p.cells true) ∧ 2 ≤ s'.h.next) ∨
      (evL r = none ∧ e = .ret ∧ s'.eval (.t 4) = some (.val (.int .i64 0)) ∧ s'.eval (.t 5) = some (.val (.bool false))))
  | [], i, l, v, s, hr, hi, hl, ih, h2, h3, g0, g1, hn, h6, hv, h14, h15, h16, hd => by
    have hl : i = p.ks.length := by
      have := List.drop_eq_nil_iff.1 hr
      omega
    subst hl
    have hlt : decide (((p.ks.length : Nat) : Int) < (p.ks.length : Nat)) = false := by simp
    apply loop_of (rfl : f33_l0 = .loop f33_b0)
    simp -implicitDefEqProofs only [f33_b0, W0, W1, W2, W3, W4, W5, W6, W7, W8, St.put, Option.bind_some, Option.map_some, ↓reduceIte, Nat.reduceEqDiff, Nat.reduceAdd, Nat.reduceMul, reduceCtorEq, cond_true, cond_false, Int.reduceEq, Int.reduceLT, Int.reduceLE, if_true, if_false, h2, h3, h6, h14, h15, h16, hd, hlt]
    exact .inl ⟨[], rfl, v, rfl, by rw [List.append_nil]; exact hv, g0, g1, hn⟩
  | k :: r, i, l, v, s, hr, hi, hl, ih, h2, h3, g0, g1, hn, h6, hv, h14, h15, h16, hd => by
    have hl' : i < p.ks.length := by
      rcases Nat.lt_or_ge i p.ks.length with x | x
      · exact x
      · rw [List.drop_eq_nil_of_le x] at hr; cases hr
    have hlt : decide ((i : Int) < (p.ks.length : Nat)) = true := by simp; omega
    have hr' : p.ks.drop (i + 1) = r := by rw [← List.drop_drop, hr]; rfl
    have hs : ∀ h : AH, storeH (h.alloc (.cells [.val (.int .i64 0), .val (.string ⟨#[]⟩), .val (.int .i64 0), .val (.slice none 0 0)] true)) 4 (.ptr h.next 0) k.cells = _ := fun h => store_new rfl k.len
    have w1 : IntKind.i64.wrap ((i : Int) + 1) = ((i + 1 : Nat) : Int) := wrap_nat (n := i + 1) (by omega)
    have z0 : ¬ (0 = s.h.next) := by omega
    have z1 : ¬ (1 = s.h.next) := by omega
    obtain ⟨⟨x, ok⟩, hx⟩ : ∃ q, ev k = q := ⟨_, rfl⟩
    have hc := ih k List.mem_cons_self
    rw [hx] at hc
    apply loop_of (rfl : f33_l0 = .loop f33_b0)
    cases ok with
    | false =>
      simp -implicitDefEqProofs only [f33_b0, W0, W1, W2, W3, W4, W5, W6, W7, W8, St.put, Option.bind_some, Option.map_some, ↓reduceIte, Nat.reduceEqDiff, Nat.reduceAdd, Nat.reduceMul, reduceCtorEq, cond_true, cond_false, Int.reduceEq, Int.reduceLT, Int.reduceLE, if_true, if_false, h2, h3, h6, h14, h15, h16, hd, g0, g1, z0, z1, hlt, kid_at hr, hs, cfB_c0, take_2, callK_all hc, prA, w1]
      exact .inr (evL_f hx)
    | true =>
      obtain ⟨h1, hh1⟩ : ∃ h1, (s.h.alloc (.cells [.val (.int .i64 0), .val (.string ⟨#[]⟩), .val (.int .i64 0), .val (.slice none 0 0)] true)).put s.h.next (some (.cells k.cells true)) = h1 := ⟨_, rfl⟩
      have hn1 : h1.next = s.h.next + 1 := by rw [← hh1]; rfl
      have gk : h1.get s.h.next = some (.cells k.cells true) := by rw [← hh1, AH.get_put, if_pos rfl]
      have hg1 : ∀ b, b < s.h.next → h1.get b = s.h.get b := fun b hb => by rw [← hh1]; exact new_get hb
      have hv1 : Row 2 h1 v (ints l) := hv.to (by omega) hg1
      have g0' : h1.get 0 = some (.cells [.val (.slice none 0 0), .val (.slice none 0 0)] true) := by rw [hg1 0 (by omega), g0]
      have ho : okLen ((ints l).length + 1) 8 = true := ok8 (by rw [ints_len]; omega)
      have ha := fun (s : St) K r dst d1 a => app_row (E := E1) (s := s) (K := K) (r := r) (dst := dst) (d1 := d1) (a := a) (e := .val (.int .i64 x)) hv1 ho
      simp -implicitDefEqProofs only [f33_b0, W0, W1, W2, W3, W4, W5, W6, W7, W8, St.put, Option.bind_some, Option.map_some, ↓reduceIte, Nat.reduceEqDiff, Nat.reduceAdd, Nat.reduceMul, reduceCtorEq, cond_true, cond_false, Int.reduceEq, Int.reduceLT, Int.reduceLE, if_true, if_false, h2, h3, h6, h14, h15, h16, hd, g0, g1, z0, z1, hlt, kid_at hr, hs, cfB_c0, take_2, callK_all hc, prA, w1, fill_one, fillO_val, hh1, gk, g0', ha]
      have hp := push_row (e := .val (.int .i64 x)) hv1 (by omega)
      rw [ints_app] at hp
      refine (f33_loop p hlen r (i + 1) (l ++ [x]) (.own (h1.next + 1) 0 ((ints l).length + 1) 1 none) _ hr' (by omega) (by simp only [List.length_append, List.length_cons, List.length_nil]; omega) (fun k' hk => ih k' (List.mem_cons_of_mem _ hk)) ?_ ?_ ?_ ?_ ?_ ?_ ?_ ?_ ?_ ?_ ?_).mono ?_
      · simp -implicitDefEqProofs only [W0, W1, W2, W3, W4, W5, W6, W7, W8, St.put, Option.bind_some, Option.map_some, ↓reduceIte, Nat.reduceEqDiff, Nat.reduceAdd, Nat.reduceMul, reduceCtorEq, cond_true, cond_false, Int.reduceEq, Int.reduceLT, Int.reduceLE, if_true, if_false, h2]
      · simp -implicitDefEqProofs only [W0, W1, W2, W3, W4, W5, W6, W7, W8, St.put, Option.bind_some, Option.map_some, ↓reduceIte, Nat.reduceEqDiff, Nat.reduceAdd, Nat.reduceMul, reduceCtorEq, cond_true, cond_false, Int.reduceEq, Int.reduceLT, Int.reduceLE, if_true, if_false, h3]
      · simp -implicitDefEqProofs only [W0, W1, W2, W3, W4, W5, W6, W7, W8, St.put, Option.bind_some, Option.map_some, ↓reduceIte, Nat.reduceEqDiff, Nat.reduceAdd, Nat.reduceMul, reduceCtorEq, cond_true, cond_false, Int.reduceEq, Int.reduceLT, Int.reduceLE, if_true, if_false]
        rw [push_get hv1 (by omega) (by omega), hg1 0 (by omega), g0]
      · simp -implicitDefEqProofs only [W0, W1, W2, W3, W4, W5, W6, W7, W8, St.put, Option.bind_some, Option.map_some, ↓reduceIte, Nat.reduceEqDiff, Nat.reduceAdd, Nat.reduceMul, reduceCtorEq, cond_true, cond_false, Int.reduceEq, Int.reduceLT, Int.reduceLE, if_true, if_false]
        rw [push_get hv1 (by omega) (by omega), hg1 1 (by omega), g1]
      · simp -implicitDefEqProofs only [W0, W1, W2, W3, W4, W5, W6, W7, W8, St.put, Option.bind_some, Option.map_some, ↓reduceIte, Nat.reduceEqDiff, Nat.reduceAdd, Nat.reduceMul, reduceCtorEq, cond_true, cond_false, Int.reduceEq, Int.reduceLT, Int.reduceLE, if_true, if_false]
        rw [push_next hv1]
        omega
      · simp -implicitDefEqProofs only [W0, W1, W2, W3, W4, W5, W6, W7, W8, St.put, Option.bind_some, Option.map_some, ↓reduceIte, Nat.reduceEqDiff, Nat.reduceAdd, Nat.reduceMul, reduceCtorEq, cond_true, cond_false, Int.reduceEq, Int.reduceLT, Int.reduceLE, if_true, if_false]
      · simp -implicitDefEqProofs only [W0, W1, W2, W3, W4, W5, W6, W7, W8, St.put, Option.bind_some, Option.map_some, ↓reduceIte, Nat.reduceEqDiff, Nat.reduceAdd, Nat.reduceMul, reduceCtorEq, cond_true, cond_false, Int.reduceEq, Int.reduceLT, Int.reduceLE, if_true, if_false]
        exact hp
      · simp -implicitDefEqProofs only [W0, W1, W2, W3, W4, W5, W6, W7, W8, St.put, Option.bind_some, Option.map_some, ↓reduceIte, Nat.reduceEqDiff, Nat.reduceAdd, Nat.reduceMul, reduceCtorEq, cond_true, cond_false, Int.reduceEq, Int.reduceLT, Int.reduceLE, if_true, if_false, h14]
      · simp -implicitDefEqProofs only [W0, W1, W2, W3, W4, W5, W6, W7, W8, St.put, Option.bind_some, Option.map_some, ↓reduceIte, Nat.reduceEqDiff, Nat.reduceAdd, Nat.reduceMul, reduceCtorEq, cond_true, cond_false, Int.reduceEq, Int.reduceLT, Int.reduceLE, if_true, if_false, h15]
      · simp -implicitDefEqProofs only [W0, W1, W2, W3, W4, W5, W6, W7, W8, St.put, Option.bind_some, Option.map_some, ↓reduceIte, Nat.reduceEqDiff, Nat.reduceAdd, Nat.reduceMul, reduceCtorEq, cond_true, cond_false, Int.reduceEq, Int.reduceLT, Int.reduceLE, if_true, if_false]
      · simp -implicitDefEqProofs only [W0, W1, W2, W3, W4, W5, W6, W7, W8, St.put, Option.bind_some, Option.map_some, ↓reduceIte, Nat.reduceEqDiff, Nat.reduceAdd, Nat.reduceMul, reduceCtorEq, cond_true, cond_false, Int.reduceEq, Int.reduceLT, Int.reduceLE, if_true, if_false, hd]
      · rintro e s' ⟨hf, ⟨l', e1, rfl, v', m6, mv, m⟩ | ⟨e1, rfl, m⟩⟩
        · refine ⟨hf, .inl ⟨x :: l', by rw [evL_t hx, e1], rfl, v', m6, ?_, m⟩⟩
          rw [List.append_assoc] at mv
          exact mv
        · exact ⟨hf, .inr ⟨by rw [evL_t hx, e1], rfl, m⟩⟩

theorem f35_loop (p : Pr) (hlen : p.ks.length ≤ 400) : ∀ (r : List Pr) (i : Nat) (l : List Int) (v : AV) (s : St), p.ks.drop i = r → i ≤ p.ks.length → l.length = i →
    (∀ k ∈ r, ∀ h, RunCall E1 (.f 35) [k.av, .val (.slice none 0 0), .val (.slice none 0 0)] h (prA (ev k)) h) →
    s.eval (.t 1) = some (.val (.slice none 0 0)) → s.eval (.t 2) = some (.val (.slice none 0 0)) → s.eval (.t 3) = some (.ptr 0 0) → s.h.get 0 = some (.cells p.cells true) → 1 ≤ s.h.next →
    s.eval (.t 10) = some v → Row 1 s.h v (ints l) → s.eval (.t 39) = some p.kids → s.eval (.t 40) = some (.val (.int .i64 (p.ks.length : Nat))) → s.eval (.t 41) = some (.val (.int .i64 i)) → s.defers = [] →
    Run E1 f35_l0 s fun e s' => s'.defers = [] ∧ ((∃ l', evL r = some l' ∧ e = .exit 1 ∧ ∃ v', s'.eval (.t 10) = some v' ∧ Row 1 s'.h v' (ints (l ++ l')) ∧ s'.eval (.t 2) = some (.val (.slice none 0 0)) ∧ s'.eval (.t 3) = some (.ptr 0 0) ∧ s'.h.get 0 = some (.cells p.cells true) ∧ 1 ≤ s'.h.next) ∨
      (evL r = none ∧ e = .ret ∧ s'.eval (.t 6) = some (.val (.int .i64 0)) ∧ s'.eval (.t 7) = some (.val (.bool false))))
  | [], i, l, v, s, hr, hi, hl, ih, h1, h2, h3, g0, hn, h10, hv, h39, h40, h41, hd => by
    have hl : i = p.ks.length := by
      have := List.drop_eq_nil_iff.1 hr
      omega
    subst hl
    have hlt : decide (((p.ks.length : Nat) : Int) < (p.ks.length : Nat)) = false := by simp
    apply loop_of (rfl : f35_l0 = .loop f35_b0)
    simp -implicitDefEqProofs only [f35_b0, W0, W1, W2, W3, W4, W5, W6, W7, W8, St.put, Option.bind_some, Option.map_some, ↓reduceIte, Nat.reduceEqDiff, Nat.reduceAdd, Nat.reduceMul, reduceCtorEq, cond_true, cond_false, Int.reduceEq, Int.reduceLT, Int.reduceLE, if_true, if_false, h1, h2, h3, h10, h39, h40, h41, hd, hlt]
    exact .inl ⟨[], rfl, v, rfl, by rw [List.append_nil]; exact hv, g0, hn⟩
  | k :: r, i, l, v, s, hr, hi, hl, ih, h1, h2, h3, g0, hn, h10, hv, h39, h40, h41, hd => by
    have hl' : i < p.ks.length := by
      rcases Nat.lt_or_ge i p.ks.length with x | x
      · exact x
      · rw [List.drop_eq_nil_of_le x] at hr; cases hr
    have hlt : decide ((i : Int) < (p.ks.length : Nat)) = true := by simp; omega
    have hr' : p.ks.drop (i + 1) = r := by rw [← List.drop_drop, hr]; rfl
    have hs : ∀ h : AH, storeH (h.alloc (.cells [.val (.int .i64 0), .val (.string ⟨#[]⟩), .val (.int .i64 0), .val (.slice none 0 0)] true)) 4 (.ptr h.next 0) k.cells = _ := fun h => store_new rfl k.len
    have w1 : IntKind.i64.wrap ((i : Int) + 1) = ((i + 1 : Nat) : Int) := wrap_nat (n := i + 1) (by omega)
    have z0 : ¬ (0 = s.h.next) := by omega
    obtain ⟨⟨x, ok⟩, hx⟩ : ∃ q, ev k = q := ⟨_, rfl⟩
    have hc := ih k List.mem_cons_self
    rw [hx] at hc
    apply loop_of (rfl : f35_l0 = .loop f35_b0)
    cases ok with
    | false =>
      simp -implicitDefEqProofs only [f35_b0, W0, W1, W2, W3, W4, W5, W6, W7, W8, St.put, Option.bind_some, Option.map_some, ↓reduceIte, Nat.reduceEqDiff, Nat.reduceAdd, Nat.reduceMul, reduceCtorEq, cond_true, cond_false, Int.reduceEq, Int.reduceLT, Int.reduceLE, if_true, if_false, h1, h2, h3, h10, h39, h40, h41, hd, g0, z0, hlt, kid_at hr, hs, callK_all hc, prA, w1]
      exact .inr (evL_f hx)
    | true =>
      obtain ⟨ha1, hh1⟩ : ∃ h1, (s.h.alloc (.cells [.val (.int .i64 0), .val (.string ⟨#[]⟩), .val (.int .i64 0), .val (.slice none 0 0)] true)).put s.h.next (some (.cells k.cells true)) = h1 := ⟨_, rfl⟩
      have hn1 : ha1.next = s.h.next + 1 := by rw [← hh1]; rfl
      have gk : ha1.get s.h.next = some (.cells k.cells true) := by rw [← hh1, AH.get_put, if_pos rfl]
      have hg1 : ∀ b, b < s.h.next → ha1.get b = s.h.get b := fun b hb => by rw [← hh1]; exact new_get hb
      have hv1 : Row 1 ha1 v (ints l) := hv.to (by omega) hg1
      have ho : okLen ((ints l).length + 1) 8 = true := ok8 (by rw [ints_len]; omega)
      have ha := fun (s : St) K r dst d1 a => app_row (E := E1) (s := s) (K := K) (r := r) (dst := dst) (d1 := d1) (a := a) (e := .val (.int .i64 x)) hv1 ho
      simp -implicitDefEqProofs only [f35_b0, W0, W1, W2, W3, W4, W5, W6, W7, W8, St.put, Option.bind_some, Option.map_some, ↓reduceIte, Nat.reduceEqDiff, Nat.reduceAdd, Nat.reduceMul, reduceCtorEq, cond_true, cond_false, Int.reduceEq, Int.reduceLT, Int.reduceLE, if_true, if_false, h1, h2, h3, h10, h39, h40, h41, hd, g0, z0, hlt, kid_at hr, hs, callK_all hc, prA, w1, fill_one, fillO_val, hh1, gk, ha]
      have hp := push_row (e := .val (.int .i64 x)) hv1 (by omega)
      rw [ints_app] at hp
      refine (f35_loop p hlen r (i + 1) (l ++ [x]) (.own (ha1.next + 1) 0 ((ints l).length + 1) 1 none) _ hr' (by omega) (by simp only [List.length_append, List.length_cons, List.length_nil]; omega) (fun k' hk => ih k' (List.mem_cons_of_mem _ hk)) ?_ ?_ ?_ ?_ ?_ ?_ ?_ ?_ ?_ ?_ ?_).mono ?_
      · simp -implicitDefEqProofs only [W0, W1, W2, W3, W4, W5, W6, W7, W8, St.put, Option.bind_some, Option.map_some, ↓reduceIte, Nat.reduceEqDiff, Nat.reduceAdd, Nat.reduceMul, reduceCtorEq, cond_true, cond_false, Int.reduceEq, Int.reduceLT, Int.reduceLE, if_true, if_false, h1]
      · simp -implicitDefEqProofs only [W0, W1, W2, W3, W4, W5, W6, W7, W8, St.put, Option.bind_some, Option.map_some, ↓reduceIte, Nat.reduceEqDiff, Nat.reduceAdd, Nat.reduceMul, reduceCtorEq, cond_true, cond_false, Int.reduceEq, Int.reduceLT, Int.reduceLE, if_true, if_false, h2]
      · simp -implicitDefEqProofs only [W0, W1, W2, W3, W4, W5, W6, W7, W8, St.put, Option.bind_some, Option.map_some, ↓reduceIte, Nat.reduceEqDiff, Nat.reduceAdd, Nat.reduceMul, reduceCtorEq, cond_true, cond_false, Int.reduceEq, Int.reduceLT, Int.reduceLE, if_true, if_false, h3]
      · simp -implicitDefEqProofs only [W0, W1, W2, W3, W4, W5, W6, W7, W8, St.put, Option.bind_some, Option.map_some, ↓reduceIte, Nat.reduceEqDiff, Nat.reduceAdd, Nat.reduceMul, reduceCtorEq, cond_true, cond_false, Int.reduceEq, Int.reduceLT, Int.reduceLE, if_true, if_false]
        rw [push_get hv1 (by omega) (by omega), hg1 0 (by omega), g0]
      · simp -implicitDefEqProofs only [W0, W1, W2, W3, W4, W5, W6, W7, W8, St.put, Option.bind_some, Option.map_some, ↓reduceIte, Nat.reduceEqDiff, Nat.reduceAdd, Nat.reduceMul, reduceCtorEq, cond_true, cond_false, Int.reduceEq, Int.reduceLT, Int.reduceLE, if_true, if_false]
        rw [push_next hv1]
        omega
      · simp -implicitDefEqProofs only [W0, W1, W2, W3, W4, W5, W6, W7, W8, St.put, Option.bind_some, Option.map_some, ↓reduceIte, Nat.reduceEqDiff, Nat.reduceAdd, Nat.reduceMul, reduceCtorEq, cond_true, cond_false, Int.reduceEq, Int.reduceLT, Int.reduceLE, if_true, if_false]
      · simp -implicitDefEqProofs only [W0, W1, W2, W3, W4, W5, W6, W7, W8, St.put, Option.bind_some, Option.map_some, ↓reduceIte, Nat.reduceEqDiff, Nat.reduceAdd, Nat.reduceMul, reduceCtorEq, cond_true, cond_false, Int.reduceEq, Int.reduceLT, Int.reduceLE, if_true, if_false]
        exact hp
      · simp -implicitDefEqProofs only [W0, W1, W2, W3, W4, W5, W6, W7, W8, St.put, Option.bind_some, Option.map_some, ↓reduceIte, Nat.reduceEqDiff, Nat.reduceAdd, Nat.reduceMul, reduceCtorEq, cond_true, cond_false, Int.reduceEq, Int.reduceLT, Int.reduceLE, if_true, if_false, h39]
      · simp -implicitDefEqProofs only [W0, W1, W2, W3, W4, W5, W6, W7, W8, St.put, Option.bind_some, Option.map_some, ↓reduceIte, Nat.reduceEqDiff, Nat.reduceAdd, Nat.reduceMul, reduceCtorEq, cond_true, cond_false, Int.reduceEq, Int.reduceLT, Int.reduceLE, if_true, if_false, h40]
      · simp -implicitDefEqProofs only [W0, W1, W2, W3, W4, W5, W6, W7, W8, St.put, Option.bind_some, Option.map_some, ↓reduceIte, Nat.reduceEqDiff, Nat.reduceAdd, Nat.reduceMul, reduceCtorEq, cond_true, cond_false, Int.reduceEq, Int.reduceLT, Int.reduceLE, if_true, if_false]
      · simp -implicitDefEqProofs only [W0, W1, W2, W3, W4, W5, W6, W7, W8, St.put, Option.bind_some, Option.map_some, ↓reduceIte, Nat.reduceEqDiff, Nat.reduceAdd, Nat.reduceMul, reduceCtorEq, cond_true, cond_false, Int.reduceEq, Int.reduceLT, Int.reduceLE, if_true, if_false, hd]
      · rintro e s' ⟨hf, ⟨l', e1, rfl, v', m6, mv, m⟩ | ⟨e1, rfl, m⟩⟩
        · refine ⟨hf, .inl ⟨x :: l', by rw [evL_t hx, e1], rfl, v', m6, ?_, m⟩⟩
          rw [List.append_assoc] at mv
          exact mv
        · exact ⟨hf, .inr ⟨by rw [evL_t hx, e1], rfl, m⟩⟩

theorem okOne_cases {p : Pr} (h : okOne p) : (p.op = 1 ∧ p.ks = []) ∨ (p.op = 2 ∧ p.ks = []) ∨ p.op = 3 ∨ p.op = 4 ∨ p.op = 5 ∨ (p.op = 9 ∧ p.ks.length = 1) ∨ (p.op = 14 ∧ p.ks.length = 1) ∨ (isBin p.op ∧ p.ks.length = 2) := by
  rcases h with h | ⟨h1, h2, h3, h4, h5⟩
  · unfold isNamed at h
    omega
  · rcases op_cases h1 h2 with k | k | k | k | k | k | k | k | k | k | k | k | k | k | k | k | k | k
    · exact .inl ⟨k, List.eq_nil_of_length_eq_zero (h3 (.inl k))⟩
    · exact .inr (.inl ⟨k, List.eq_nil_of_length_eq_zero (h3 (.inr k))⟩)
    all_goals
      unfold isBin
      omega

theorem two_of {l : List Int} (h : l.length = 2) : ∃ a b, l = [a, b] := by
  match l, h with
  | [a, b], _ => exact ⟨a, b, rfl⟩
theorem one_of {l : List Int} (h : l.length = 1) : ∃ a, l = [a] := by
  match l, h with
  | [a], _ => exact ⟨a, rfl⟩

theorem row_own {lo : Nat} {h : AH} {v : AV} {l : List Int} (hr : Row lo h v (ints l)) (hl : l ≠ []) : ∃ c, c < h.next ∧ v = .own c 0 l.length 1 none ∧ h.get c = some (.cells (ints l) true) := by
  rcases hr with ⟨_, e⟩ | ⟨b, _, h2, _, rfl, hg⟩
  · exact absurd (by cases l with | nil => rfl | cons a r => cases e) hl
  · exact ⟨b, h2, by rw [ints_len], hg⟩

/-- What a node answers whose kids have values, after the loop. -/
theorem ix_own {c n i : Nat} {cap : Option Nat} (h : i < n) : idxAddrSV 1 (.own c 0 n 1 cap) i = some (.ptr c i) := by
  have a1 : Nat.blt i n = true := Nat.blt_eq.mpr h
  have a2 : Nat.beq 1 1 = true := rfl
  simp only [idxAddrSV, a1, a2, Bool.and_self, cond_true, Nat.zero_add, Nat.mul_one]

mutual
theorem value_call33 : ∀ (p : Pr), okAll p → p.nodes ≤ 400 → ∀ h, RunCall E1 (.f 33) [.agg [.val (.slice none 0 0), .val (.slice none 0 0)], p.av] h (prA (ev p)) h
  | .mk o nm n ks nl cap, hok, hb, h => by
    have hb' : 1 + Pr.nodesL ks ≤ 400 := hb
    have hk : ks.length ≤ Pr.nodesL ks := nodesL_len ks
    have hok1 : okOne (.mk o nm n ks nl cap) ∧ okAllL ks := by simpa only [okAll] using hok
    have hI := valueL_call33 ks hok1.2 (by omega)
    have hev := ev_eq (.mk o nm n ks nl cap)
    have hok2 := okOne_cases hok1.1
    generalize hp : Pr.mk o nm n ks nl cap = p at *
    have hks : p.ks = ks := by rw [← hp]; rfl
    have hcl : ∀ s : St, callK E1 59 = callK E1 59 := fun _ => rfl
    refine call_tree (by kernel_rfl) (by kernel_rfl) (mem2 (Tree.agg (fun v hv => by simp only [List.mem_cons, List.mem_nil_iff, or_false] at hv; rcases hv with rfl | rfl <;> exact Leaf.val _)) (Tree.pr _)) rfl (Tree.two _ _) (ans2s (rs := [.val (.int .i64 (ev p).1), .val (.bool (ev p).2)]) f33_ok fun s hs hh hd => ?_) h
    have h0 := hs 0 _ rfl
    have h1 := hs 1 _ rfl
    simp -implicitDefEqProofs only [f33_fn, f33, W0, W1, W2, W3, W4, W5, W6, W7, W8, St.put, Option.bind_some, Option.map_some, ↓reduceIte, Nat.reduceEqDiff, Nat.reduceAdd, Nat.reduceMul, reduceCtorEq, cond_true, cond_false, Int.reduceEq, Int.reduceLT, Int.reduceLE, if_true, if_false, agg_cells, h0, h1, hh, hd]
    refine (f33_loop p (by rw [hks]; omega) ks 0 [] (.val (.slice none 0 0)) _ (by rw [List.drop_zero, hks]) (Nat.zero_le _) rfl hI ?_ ?_ ?_ ?_ ?_ ?_ (.inl ⟨rfl, rfl⟩) ?_ ?_ ?_ ?_).mono ?_
    · simp -implicitDefEqProofs only [W0, W1, W2, W3, W4, W5, W6, W7, W8, St.put, Option.bind_some, Option.map_some, ↓reduceIte, Nat.reduceEqDiff, Nat.reduceAdd, Nat.reduceMul, reduceCtorEq, cond_true, cond_false, Int.reduceEq, Int.reduceLT, Int.reduceLE, if_true, if_false]
    · simp -implicitDefEqProofs only [W0, W1, W2, W3, W4, W5, W6, W7, W8, St.put, Option.bind_some, Option.map_some, ↓reduceIte, Nat.reduceEqDiff, Nat.reduceAdd, Nat.reduceMul, reduceCtorEq, cond_true, cond_false, Int.reduceEq, Int.reduceLT, Int.reduceLE, if_true, if_false]
    · simp -implicitDefEqProofs only [W0, W1, W2, W3, W4, W5, W6, W7, W8, St.put, Option.bind_some, Option.map_some, ↓reduceIte, Nat.reduceEqDiff, Nat.reduceAdd, Nat.reduceMul, reduceCtorEq, cond_true, cond_false, Int.reduceEq, Int.reduceLT, Int.reduceLE, if_true, if_false]
    · simp -implicitDefEqProofs only [W0, W1, W2, W3, W4, W5, W6, W7, W8, St.put, Option.bind_some, Option.map_some, ↓reduceIte, Nat.reduceEqDiff, Nat.reduceAdd, Nat.reduceMul, reduceCtorEq, cond_true, cond_false, Int.reduceEq, Int.reduceLT, Int.reduceLE, if_true, if_false]
    · simp -implicitDefEqProofs only [W0, W1, W2, W3, W4, W5, W6, W7, W8, St.put, Option.bind_some, Option.map_some, ↓reduceIte, Nat.reduceEqDiff, Nat.reduceAdd, Nat.reduceMul, reduceCtorEq, cond_true, cond_false, Int.reduceEq, Int.reduceLT, Int.reduceLE, if_true, if_false]
      exact Nat.le_refl _
    · simp -implicitDefEqProofs only [W0, W1, W2, W3, W4, W5, W6, W7, W8, St.put, Option.bind_some, Option.map_some, ↓reduceIte, Nat.reduceEqDiff, Nat.reduceAdd, Nat.reduceMul, reduceCtorEq, cond_true, cond_false, Int.reduceEq, Int.reduceLT, Int.reduceLE, if_true, if_false]
    · simp -implicitDefEqProofs only [W0, W1, W2, W3, W4, W5, W6, W7, W8, St.put, Option.bind_some, Option.map_some, ↓reduceIte, Nat.reduceEqDiff, Nat.reduceAdd, Nat.reduceMul, reduceCtorEq, cond_true, cond_false, Int.reduceEq, Int.reduceLT, Int.reduceLE, if_true, if_false]
    · simp -implicitDefEqProofs only [W0, W1, W2, W3, W4, W5, W6, W7, W8, St.put, Option.bind_some, Option.map_some, ↓reduceIte, Nat.reduceEqDiff, Nat.reduceAdd, Nat.reduceMul, reduceCtorEq, cond_true, cond_false, Int.reduceEq, Int.reduceLT, Int.reduceLE, if_true, if_false]
    · simp -implicitDefEqProofs only [W0, W1, W2, W3, W4, W5, W6, W7, W8, St.put, Option.bind_some, Option.map_some, ↓reduceIte, Nat.reduceEqDiff, Nat.reduceAdd, Nat.reduceMul, reduceCtorEq, cond_true, cond_false, Int.reduceEq, Int.reduceLT, Int.reduceLE, if_true, if_false] <;> rfl
    · simp -implicitDefEqProofs only [W0, W1, W2, W3, W4, W5, W6, W7, W8, St.put, Option.bind_some, Option.map_some, ↓reduceIte, Nat.reduceEqDiff, Nat.reduceAdd, Nat.reduceMul, reduceCtorEq, cond_true, cond_false, Int.reduceEq, Int.reduceLT, Int.reduceLE, if_true, if_false, hd]
    · have b0 : Nat.beq 0 0 = true := rfl
      rintro e s' ⟨hf, ⟨l, e1, rfl, v, m6, mv, m2, m3, m0, m1, mn⟩ | ⟨e1, rfl, m4, m5⟩⟩
      · rw [← hks] at e1
        rw [e1] at hev
        have hll := evL_len e1
        rw [List.nil_append] at mv
        rcases hok2 with ⟨k, _⟩ | ⟨k, _⟩ | k | k | k | ⟨k, q⟩ | ⟨k, q⟩ | ⟨k, q⟩
        · have hv : ev p = (p.n, true) := by rw [hev]; simp only [evN, k]; rfl
          simp -implicitDefEqProofs only [W0, W1, W2, W3, W4, W5, W6, W7, W8, St.put, Option.bind_some, Option.map_some, ↓reduceIte, Nat.reduceEqDiff, Nat.reduceAdd, Nat.reduceMul, reduceCtorEq, cond_true, cond_false, Int.reduceEq, Int.reduceLT, Int.reduceLE, if_true, if_false, b0, hf, m2, m3, m0, m1, m6, k, hv]
        · have hv : ev p = (p.n, true) := by rw [hev]; simp only [evN, k]; rfl
          simp -implicitDefEqProofs only [W0, W1, W2, W3, W4, W5, W6, W7, W8, St.put, Option.bind_some, Option.map_some, ↓reduceIte, Nat.reduceEqDiff, Nat.reduceAdd, Nat.reduceMul, reduceCtorEq, cond_true, cond_false, Int.reduceEq, Int.reduceLT, Int.reduceLE, if_true, if_false, b0, hf, m2, m3, m0, m1, m6, k, hv]
        · have hv : ev p = (0, false) := by rw [hev]; simp only [evN, k]; rfl
          simp -implicitDefEqProofs only [W0, W1, W2, W3, W4, W5, W6, W7, W8, St.put, Option.bind_some, Option.map_some, ↓reduceIte, Nat.reduceEqDiff, Nat.reduceAdd, Nat.reduceMul, reduceCtorEq, cond_true, cond_false, Int.reduceEq, Int.reduceLT, Int.reduceLE, if_true, if_false, b0, hf, m2, m3, m0, m1, m6, k, hv, cfB_c0, take_hd, callK_all (find_call57 p.nm), prA]
        · have hv : ev p = (0, false) := by rw [hev]; simp only [evN, k]; rfl
          have hc := fun (s : St) (hs : s.h = s'.h) K r dst => callK_to (E := E1) (s := s) (K := K) (r := r) (dst := dst) (by rw [hs]; exact fact_call59 mv (ints_leaf l) p.nm)
          simp -implicitDefEqProofs only [W0, W1, W2, W3, W4, W5, W6, W7, W8, St.put, Option.bind_some, Option.map_some, ↓reduceIte, Nat.reduceEqDiff, Nat.reduceAdd, Nat.reduceMul, reduceCtorEq, cond_true, cond_false, Int.reduceEq, Int.reduceLT, Int.reduceLE, if_true, if_false, b0, hf, m2, m3, m0, m1, m6, k, hv, cfB_c0, take_2, hc, prA]
        · have hv : ev p = (0, false) := by rw [hev]; simp only [evN, k]; rfl
          simp -implicitDefEqProofs only [W0, W1, W2, W3, W4, W5, W6, W7, W8, St.put, Option.bind_some, Option.map_some, ↓reduceIte, Nat.reduceEqDiff, Nat.reduceAdd, Nat.reduceMul, reduceCtorEq, cond_true, cond_false, Int.reduceEq, Int.reduceLT, Int.reduceLE, if_true, if_false, b0, hf, m2, m3, m0, m1, m6, k, hv]
        · obtain ⟨a, rfl⟩ := one_of (by rw [hll, q])
          have hv : ev p = arith 0 a (0 - a) := by rw [hev]; simp only [evN, k]; rfl
          obtain ⟨c, mc, rfl, mg⟩ := row_own mv (by simp)
          have mg : s'.h.get c = some (.cells [.val (.int .i64 a)] true) := mg
          have m6 : s'.eval (.t 6) = some (.own c 0 1 1 none) := m6
          have hix : idxAddrSV 1 (.own c 0 1 1 none) 0 = some (.ptr c 0) := rfl
          simp -implicitDefEqProofs only [W0, W1, W2, W3, W4, W5, W6, W7, W8, St.put, Option.bind_some, Option.map_some, ↓reduceIte, Nat.reduceEqDiff, Nat.reduceAdd, Nat.reduceMul, reduceCtorEq, cond_true, cond_false, Int.reduceEq, Int.reduceLT, Int.reduceLE, if_true, if_false, b0, hf, m2, m3, m0, m1, m6, k, hv, hix, mg, cfB_c0, take_hd, ar_to60, prA]
        · obtain ⟨a, rfl⟩ := one_of (by rw [hll, q])
          have hv : ev p = (tr (decide (a = 0)), true) := by rw [hev]; simp only [evN, k]; rfl
          obtain ⟨c, mc, rfl, mg⟩ := row_own mv (by simp)
          have mg : s'.h.get c = some (.cells [.val (.int .i64 a)] true) := mg
          have m6 : s'.eval (.t 6) = some (.own c 0 1 1 none) := m6
          have hix : idxAddrSV 1 (.own c 0 1 1 none) 0 = some (.ptr c 0) := rfl
          simp -implicitDefEqProofs only [W0, W1, W2, W3, W4, W5, W6, W7, W8, St.put, Option.bind_some, Option.map_some, ↓reduceIte, Nat.reduceEqDiff, Nat.reduceAdd, Nat.reduceMul, reduceCtorEq, cond_true, cond_false, Int.reduceEq, Int.reduceLT, Int.reduceLE, if_true, if_false, b0, hf, m2, m3, m0, m1, m6, k, hv, hix, mg, cfB_c0, take_hd, tr_to61, prA]
        · obtain ⟨a, b, rfl⟩ := two_of (by rw [hll, q])
          obtain ⟨c, mc, rfl, mg⟩ := row_own mv (by simp)
          have mg : s'.h.get c = some (.cells [.val (.int .i64 a), .val (.int .i64 b)] true) := mg
          have hv : ev p = opS p.op a b := by
            rw [hev]
            unfold isBin at k
            simp only [evN]
            rw [if_neg (by omega), if_neg (by omega)]
          have wd : ∀ (s : St) Q, wp E1 f33_d1 s Q = Run E1 f33_d1 s Q := fun _ _ => rfl
          have d1 : decide (p.op = 1) = false := decide_eq_false (by unfold isBin at k; omega)
          have d2 : decide (p.op = 2) = false := decide_eq_false (by unfold isBin at k; omega)
          have d3 : decide (p.op = 3) = false := decide_eq_false (by unfold isBin at k; omega)
          have d4 : decide (p.op = 4) = false := decide_eq_false (by unfold isBin at k; omega)
          have d5 : decide (p.op = 5) = false := decide_eq_false (by unfold isBin at k; omega)
          have d9 : decide (p.op = 9) = false := decide_eq_false (by unfold isBin at k; omega)
          have d14 : decide (p.op = 14) = false := decide_eq_false (by unfold isBin at k; omega)
          simp -implicitDefEqProofs only [W0, W1, W2, W3, W4, W5, W6, W7, W8, St.put, Option.bind_some, Option.map_some, ↓reduceIte, Nat.reduceEqDiff, Nat.reduceAdd, Nat.reduceMul, reduceCtorEq, cond_true, cond_false, Int.reduceEq, Int.reduceLT, Int.reduceLE, if_true, if_false, b0, hf, m2, m3, m0, m1, m6, d1, d2, d3, d4, d5, d9, d14, wd]
          refine (f33_draw p k a b c _ ?_ ?_ ?_ ?_ ?_ ?_ ?_).mono ?_
          · simp -implicitDefEqProofs only [W0, W1, W2, W3, W4, W5, W6, W7, W8, St.put, Option.bind_some, Option.map_some, ↓reduceIte, Nat.reduceEqDiff, Nat.reduceAdd, Nat.reduceMul, reduceCtorEq, cond_true, cond_false, Int.reduceEq, Int.reduceLT, Int.reduceLE, if_true, if_false, m3]
          · simp -implicitDefEqProofs only [W0, W1, W2, W3, W4, W5, W6, W7, W8, St.put, Option.bind_some, Option.map_some, ↓reduceIte, Nat.reduceEqDiff, Nat.reduceAdd, Nat.reduceMul, reduceCtorEq, cond_true, cond_false, Int.reduceEq, Int.reduceLT, Int.reduceLE, if_true, if_false, m1]
          · simp -implicitDefEqProofs only [W0, W1, W2, W3, W4, W5, W6, W7, W8, St.put, Option.bind_some, Option.map_some, ↓reduceIte, Nat.reduceEqDiff, Nat.reduceAdd, Nat.reduceMul, reduceCtorEq, cond_true, cond_false, Int.reduceEq, Int.reduceLT, Int.reduceLE, if_true, if_false]; omega
          · simp -implicitDefEqProofs only [W0, W1, W2, W3, W4, W5, W6, W7, W8, St.put, Option.bind_some, Option.map_some, ↓reduceIte, Nat.reduceEqDiff, Nat.reduceAdd, Nat.reduceMul, reduceCtorEq, cond_true, cond_false, Int.reduceEq, Int.reduceLT, Int.reduceLE, if_true, if_false, m6]; rfl
          · simp -implicitDefEqProofs only [W0, W1, W2, W3, W4, W5, W6, W7, W8, St.put, Option.bind_some, Option.map_some, ↓reduceIte, Nat.reduceEqDiff, Nat.reduceAdd, Nat.reduceMul, reduceCtorEq, cond_true, cond_false, Int.reduceEq, Int.reduceLT, Int.reduceLE, if_true, if_false, mg]
          · simp -implicitDefEqProofs only [W0, W1, W2, W3, W4, W5, W6, W7, W8, St.put, Option.bind_some, Option.map_some, ↓reduceIte, Nat.reduceEqDiff, Nat.reduceAdd, Nat.reduceMul, reduceCtorEq, cond_true, cond_false, Int.reduceEq, Int.reduceLT, Int.reduceLE, if_true, if_false]; exact mc
          · simp -implicitDefEqProofs only [W0, W1, W2, W3, W4, W5, W6, W7, W8, St.put, Option.bind_some, Option.map_some, ↓reduceIte, Nat.reduceEqDiff, Nat.reduceAdd, Nat.reduceMul, reduceCtorEq, cond_true, cond_false, Int.reduceEq, Int.reduceLT, Int.reduceLE, if_true, if_false, hf]
          · rintro e s2 ⟨rfl, z1, z2, z3⟩
            simp -implicitDefEqProofs only [W0, W1, W2, W3, W4, W5, W6, W7, W8, St.put, Option.bind_some, Option.map_some, ↓reduceIte, Nat.reduceEqDiff, Nat.reduceAdd, Nat.reduceMul, reduceCtorEq, cond_true, cond_false, Int.reduceEq, Int.reduceLT, Int.reduceLE, if_true, if_false, z1, z2, z3, hv]
      · rw [← hks] at e1
        rw [e1] at hev
        simp -implicitDefEqProofs only [W0, W1, W2, W3, W4, W5, W6, W7, W8, St.put, Option.bind_some, Option.map_some, ↓reduceIte, Nat.reduceEqDiff, Nat.reduceAdd, Nat.reduceMul, reduceCtorEq, cond_true, cond_false, Int.reduceEq, Int.reduceLT, Int.reduceLE, if_true, if_false, hf, m4, m5, hev]
theorem valueL_call33 : ∀ (l : List Pr), okAllL l → Pr.nodesL l ≤ 400 → ∀ k ∈ l, ∀ h, RunCall E1 (.f 33) [.agg [.val (.slice none 0 0), .val (.slice none 0 0)], k.av] h (prA (ev k)) h
  | [], _, _, k, hk, _ => by cases hk
  | a :: r, hok, hb, k, hk, h => by
    have hb' : a.nodes + Pr.nodesL r ≤ 400 := hb
    have hok : okAll a ∧ okAllL r := by simpa only [okAllL] using hok
    rcases List.mem_cons.1 hk with e | hk
    · rw [e]; exact value_call33 a hok.1 (by omega) h
    · exact valueL_call33 r hok.2 (by omega) k hk h
end

mutual
theorem value_call35 : ∀ (p : Pr), okAll p → p.nodes ≤ 400 → ∀ h, RunCall E1 (.f 35) [p.av, .val (.slice none 0 0), .val (.slice none 0 0)] h (prA (ev p)) h
  | .mk o nm n ks nl cap, hok, hb, h => by
    have hb' : 1 + Pr.nodesL ks ≤ 400 := hb
    have hk : ks.length ≤ Pr.nodesL ks := nodesL_len ks
    have hok1 : okOne (.mk o nm n ks nl cap) ∧ okAllL ks := by simpa only [okAll] using hok
    have hI := valueL_call35 ks hok1.2 (by omega)
    have hev := ev_eq (.mk o nm n ks nl cap)
    have hok2 := okOne_cases hok1.1
    generalize hp : Pr.mk o nm n ks nl cap = p at *
    have hks : p.ks = ks := by rw [← hp]; rfl
    have b0 : Nat.beq 0 0 = true := rfl
    have b1 : Nat.beq 1 1 = true := rfl
    refine call_tree (by kernel_rfl) (by kernel_rfl) (mem3 (Tree.pr _) (Tree.val _) (Tree.val _)) rfl (Tree.two _ _) (ans2s (rs := [.val (.int .i64 (ev p).1), .val (.bool (ev p).2)]) f35_ok fun s hs hh hd => ?_) h
    have h0 := hs 0 _ rfl
    have h1 := hs 1 _ rfl
    have h2 := hs 2 _ rfl
    have early : (p.op = 1 ∧ p.ks = []) ∨ (p.op = 2 ∧ p.ks = []) ∨ p.op = 3 ∨ p.op = 5 ∨ (p.op = 4 ∨ (p.op = 9 ∧ p.ks.length = 1) ∨ (p.op = 14 ∧ p.ks.length = 1) ∨ (isBin p.op ∧ p.ks.length = 2)) := by
      rcases hok2 with q | q | q | q | q | q | q | q
      · exact .inl q
      · exact .inr (.inl q)
      · exact .inr (.inr (.inl q))
      · exact .inr (.inr (.inr (.inr (.inl q))))
      · exact .inr (.inr (.inr (.inl q)))
      · exact .inr (.inr (.inr (.inr (.inr (.inl q)))))
      · exact .inr (.inr (.inr (.inr (.inr (.inr (.inl q))))))
      · exact .inr (.inr (.inr (.inr (.inr (.inr (.inr q))))))
    rcases early with ⟨k, q⟩ | ⟨k, q⟩ | k | k | k
    · have hv : ev p = (p.n, true) := by rw [hev, q]; simp only [evL, evN, k]; rfl
      simp -implicitDefEqProofs only [f35_fn, f35, W0, W1, W2, W3, W4, W5, W6, W7, W8, St.put, Option.bind_some, Option.map_some, ↓reduceIte, Nat.reduceEqDiff, Nat.reduceAdd, Nat.reduceMul, reduceCtorEq, cond_true, cond_false, Int.reduceEq, Int.reduceLT, Int.reduceLE, if_true, if_false, h0, h1, h2, hh, hd, k, hv]
    · have hv : ev p = (p.n, true) := by rw [hev, q]; simp only [evL, evN, k]; rfl
      simp -implicitDefEqProofs only [f35_fn, f35, W0, W1, W2, W3, W4, W5, W6, W7, W8, St.put, Option.bind_some, Option.map_some, ↓reduceIte, Nat.reduceEqDiff, Nat.reduceAdd, Nat.reduceMul, reduceCtorEq, cond_true, cond_false, Int.reduceEq, Int.reduceLT, Int.reduceLE, if_true, if_false, h0, h1, h2, hh, hd, k, hv]
    · have hv : ev p = (0, false) := by
        rw [hev]
        cases evL p.ks with
        | none => rfl
        | some l => simp only [evN, k]; rfl
      simp -implicitDefEqProofs only [f35_fn, f35, W0, W1, W2, W3, W4, W5, W6, W7, W8, St.put, Option.bind_some, Option.map_some, ↓reduceIte, Nat.reduceEqDiff, Nat.reduceAdd, Nat.reduceMul, reduceCtorEq, cond_true, cond_false, Int.reduceEq, Int.reduceLT, Int.reduceLE, if_true, if_false, h0, h1, h2, hh, hd, k, hv, callK_all (find_call65 p.nm), callK_all bounded_call66, prA]
    · have hv : ev p = (0, false) := by
        rw [hev]
        cases evL p.ks with
        | none => rfl
        | some l => simp only [evN, k]; rfl
      simp -implicitDefEqProofs only [f35_fn, f35, W0, W1, W2, W3, W4, W5, W6, W7, W8, St.put, Option.bind_some, Option.map_some, ↓reduceIte, Nat.reduceEqDiff, Nat.reduceAdd, Nat.reduceMul, reduceCtorEq, cond_true, cond_false, Int.reduceEq, Int.reduceLT, Int.reduceLE, if_true, if_false, h0, h1, h2, hh, hd, k, hv]
    · have d1 : decide (p.op = 1) = false := decide_eq_false (by unfold isBin at k; omega)
      have d2 : decide (p.op = 2) = false := decide_eq_false (by unfold isBin at k; omega)
      have d3 : decide (p.op = 3) = false := decide_eq_false (by unfold isBin at k; omega)
      have d5 : decide (p.op = 5) = false := decide_eq_false (by unfold isBin at k; omega)
      simp -implicitDefEqProofs only [f35_fn, f35, W0, W1, W2, W3, W4, W5, W6, W7, W8, St.put, Option.bind_some, Option.map_some, ↓reduceIte, Nat.reduceEqDiff, Nat.reduceAdd, Nat.reduceMul, reduceCtorEq, cond_true, cond_false, Int.reduceEq, Int.reduceLT, Int.reduceLE, if_true, if_false, h0, h1, h2, hh, hd, d1, d2, d3, d5]
      refine (f35_loop p (by rw [hks]; omega) ks 0 [] (.val (.slice none 0 0)) _ (by rw [List.drop_zero, hks]) (Nat.zero_le _) rfl hI ?_ ?_ ?_ ?_ ?_ ?_ (.inl ⟨rfl, rfl⟩) ?_ ?_ ?_ ?_).mono ?_
      · simp -implicitDefEqProofs only [W0, W1, W2, W3, W4, W5, W6, W7, W8, St.put, Option.bind_some, Option.map_some, ↓reduceIte, Nat.reduceEqDiff, Nat.reduceAdd, Nat.reduceMul, reduceCtorEq, cond_true, cond_false, Int.reduceEq, Int.reduceLT, Int.reduceLE, if_true, if_false, h1]
      · simp -implicitDefEqProofs only [W0, W1, W2, W3, W4, W5, W6, W7, W8, St.put, Option.bind_some, Option.map_some, ↓reduceIte, Nat.reduceEqDiff, Nat.reduceAdd, Nat.reduceMul, reduceCtorEq, cond_true, cond_false, Int.reduceEq, Int.reduceLT, Int.reduceLE, if_true, if_false, h2]
      · simp -implicitDefEqProofs only [W0, W1, W2, W3, W4, W5, W6, W7, W8, St.put, Option.bind_some, Option.map_some, ↓reduceIte, Nat.reduceEqDiff, Nat.reduceAdd, Nat.reduceMul, reduceCtorEq, cond_true, cond_false, Int.reduceEq, Int.reduceLT, Int.reduceLE, if_true, if_false]
      · simp -implicitDefEqProofs only [W0, W1, W2, W3, W4, W5, W6, W7, W8, St.put, Option.bind_some, Option.map_some, ↓reduceIte, Nat.reduceEqDiff, Nat.reduceAdd, Nat.reduceMul, reduceCtorEq, cond_true, cond_false, Int.reduceEq, Int.reduceLT, Int.reduceLE, if_true, if_false]
      · simp -implicitDefEqProofs only [W0, W1, W2, W3, W4, W5, W6, W7, W8, St.put, Option.bind_some, Option.map_some, ↓reduceIte, Nat.reduceEqDiff, Nat.reduceAdd, Nat.reduceMul, reduceCtorEq, cond_true, cond_false, Int.reduceEq, Int.reduceLT, Int.reduceLE, if_true, if_false]
        exact Nat.le_refl _
      · simp -implicitDefEqProofs only [W0, W1, W2, W3, W4, W5, W6, W7, W8, St.put, Option.bind_some, Option.map_some, ↓reduceIte, Nat.reduceEqDiff, Nat.reduceAdd, Nat.reduceMul, reduceCtorEq, cond_true, cond_false, Int.reduceEq, Int.reduceLT, Int.reduceLE, if_true, if_false]
      · simp -implicitDefEqProofs only [W0, W1, W2, W3, W4, W5, W6, W7, W8, St.put, Option.bind_some, Option.map_some, ↓reduceIte, Nat.reduceEqDiff, Nat.reduceAdd, Nat.reduceMul, reduceCtorEq, cond_true, cond_false, Int.reduceEq, Int.reduceLT, Int.reduceLE, if_true, if_false]
      · simp -implicitDefEqProofs only [W0, W1, W2, W3, W4, W5, W6, W7, W8, St.put, Option.bind_some, Option.map_some, ↓reduceIte, Nat.reduceEqDiff, Nat.reduceAdd, Nat.reduceMul, reduceCtorEq, cond_true, cond_false, Int.reduceEq, Int.reduceLT, Int.reduceLE, if_true, if_false]
      · simp -implicitDefEqProofs only [W0, W1, W2, W3, W4, W5, W6, W7, W8, St.put, Option.bind_some, Option.map_some, ↓reduceIte, Nat.reduceEqDiff, Nat.reduceAdd, Nat.reduceMul, reduceCtorEq, cond_true, cond_false, Int.reduceEq, Int.reduceLT, Int.reduceLE, if_true, if_false] <;> rfl
      · simp -implicitDefEqProofs only [W0, W1, W2, W3, W4, W5, W6, W7, W8, St.put, Option.bind_some, Option.map_some, ↓reduceIte, Nat.reduceEqDiff, Nat.reduceAdd, Nat.reduceMul, reduceCtorEq, cond_true, cond_false, Int.reduceEq, Int.reduceLT, Int.reduceLE, if_true, if_false, hd]
      · rintro e s' ⟨hf, ⟨l, e1, rfl, v, m6, mv, m2, m3, m0, mn⟩ | ⟨e1, rfl, m4, m5⟩⟩
        · rw [← hks] at e1
          rw [e1] at hev
          have hll := evL_len e1
          rw [List.nil_append] at mv
          rcases k with k | k
          · have hv : ev p = (0, false) := by rw [hev]; simp only [evN, k]; rfl
            have hc := fun (s : St) (hs : s.h = s'.h) K r dst => callK_to (E := E1) (s := s) (K := K) (r := r) (dst := dst) (by rw [hs]; exact fact_call67 mv (ints_leaf l) p.nm)
            simp -implicitDefEqProofs only [W0, W1, W2, W3, W4, W5, W6, W7, W8, St.put, Option.bind_some, Option.map_some, ↓reduceIte, Nat.reduceEqDiff, Nat.reduceAdd, Nat.reduceMul, reduceCtorEq, cond_true, cond_false, Int.reduceEq, Int.reduceLT, Int.reduceLE, if_true, if_false, b1, hf, m2, m3, m0, m6, k, hv, hc, prA]
          · have d4 : decide (p.op = 4) = false := decide_eq_false (by unfold isBin at k; omega)
            have kb : isBin p.op ∨ p.op = 9 ∨ p.op = 14 := by
              rcases k with ⟨k, _⟩ | ⟨k, _⟩ | ⟨k, _⟩
              · exact .inr (.inl k)
              · exact .inr (.inr k)
              · exact .inl k
            have wd : ∀ (s : St) Q, wp E1 f35_d1 s Q = Run E1 f35_d1 s Q := fun _ _ => rfl
            obtain ⟨a, b, c, n, cs, hv, m6', mg, hi, hn, hn2, hc0, hc1, mc⟩ : ∃ (a b : Int) (c n : Nat) (cs : List AV), ev p = opS p.op a b ∧ v = .own c 0 n 1 none ∧ s'.h.get c = some (.cells cs true) ∧ idsL cs = [] ∧ 1 ≤ n ∧ n ≤ 1000 ∧ cs[0]? = some (.val (.int .i64 a)) ∧ cs[n - 1]? = some (.val (.int .i64 b)) ∧ c < s'.h.next := by
              rcases k with ⟨k, q⟩ | ⟨k, q⟩ | ⟨k, q⟩
              · obtain ⟨a, rfl⟩ := one_of (by rw [hll, q])
                obtain ⟨c, mc, rfl, mg⟩ := row_own mv (by simp)
                exact ⟨a, a, c, 1, _, by rw [hev]; simp only [evN, k]; rfl, rfl, mg, ints_ids _, by omega, by omega, rfl, rfl, mc⟩
              · obtain ⟨a, rfl⟩ := one_of (by rw [hll, q])
                obtain ⟨c, mc, rfl, mg⟩ := row_own mv (by simp)
                exact ⟨a, a, c, 1, _, by rw [hev]; simp only [evN, k]; rfl, rfl, mg, ints_ids _, by omega, by omega, rfl, rfl, mc⟩
              · obtain ⟨a, b, rfl⟩ := two_of (by rw [hll, q])
                obtain ⟨c, mc, rfl, mg⟩ := row_own mv (by simp)
                refine ⟨a, b, c, 2, _, ?_, rfl, mg, ints_ids _, by omega, by omega, rfl, rfl, mc⟩
                rw [hev]
                unfold isBin at k
                simp only [evN]
                rw [if_neg (by omega), if_neg (by omega)]
            subst m6'
            simp -implicitDefEqProofs only [W0, W1, W2, W3, W4, W5, W6, W7, W8, St.put, Option.bind_some, Option.map_some, ↓reduceIte, Nat.reduceEqDiff, Nat.reduceAdd, Nat.reduceMul, reduceCtorEq, cond_true, cond_false, Int.reduceEq, Int.reduceLT, Int.reduceLE, if_true, if_false, b1, hf, m2, m3, m0, m6, d4, wd]
            refine (f35_draw p kb a b c n cs _ ?_ ?_ ?_ ?_ ?_ hi hn hn2 hc0 hc1 ?_ ?_).mono ?_
            · simp -implicitDefEqProofs only [W0, W1, W2, W3, W4, W5, W6, W7, W8, St.put, Option.bind_some, Option.map_some, ↓reduceIte, Nat.reduceEqDiff, Nat.reduceAdd, Nat.reduceMul, reduceCtorEq, cond_true, cond_false, Int.reduceEq, Int.reduceLT, Int.reduceLE, if_true, if_false, m3]
            · simp -implicitDefEqProofs only [W0, W1, W2, W3, W4, W5, W6, W7, W8, St.put, Option.bind_some, Option.map_some, ↓reduceIte, Nat.reduceEqDiff, Nat.reduceAdd, Nat.reduceMul, reduceCtorEq, cond_true, cond_false, Int.reduceEq, Int.reduceLT, Int.reduceLE, if_true, if_false, m0]
            · simp -implicitDefEqProofs only [W0, W1, W2, W3, W4, W5, W6, W7, W8, St.put, Option.bind_some, Option.map_some, ↓reduceIte, Nat.reduceEqDiff, Nat.reduceAdd, Nat.reduceMul, reduceCtorEq, cond_true, cond_false, Int.reduceEq, Int.reduceLT, Int.reduceLE, if_true, if_false]; omega
            · simp -implicitDefEqProofs only [W0, W1, W2, W3, W4, W5, W6, W7, W8, St.put, Option.bind_some, Option.map_some, ↓reduceIte, Nat.reduceEqDiff, Nat.reduceAdd, Nat.reduceMul, reduceCtorEq, cond_true, cond_false, Int.reduceEq, Int.reduceLT, Int.reduceLE, if_true, if_false, m6]
            · simp -implicitDefEqProofs only [W0, W1, W2, W3, W4, W5, W6, W7, W8, St.put, Option.bind_some, Option.map_some, ↓reduceIte, Nat.reduceEqDiff, Nat.reduceAdd, Nat.reduceMul, reduceCtorEq, cond_true, cond_false, Int.reduceEq, Int.reduceLT, Int.reduceLE, if_true, if_false, mg]
            · simp -implicitDefEqProofs only [W0, W1, W2, W3, W4, W5, W6, W7, W8, St.put, Option.bind_some, Option.map_some, ↓reduceIte, Nat.reduceEqDiff, Nat.reduceAdd, Nat.reduceMul, reduceCtorEq, cond_true, cond_false, Int.reduceEq, Int.reduceLT, Int.reduceLE, if_true, if_false]; exact mc
            · simp -implicitDefEqProofs only [W0, W1, W2, W3, W4, W5, W6, W7, W8, St.put, Option.bind_some, Option.map_some, ↓reduceIte, Nat.reduceEqDiff, Nat.reduceAdd, Nat.reduceMul, reduceCtorEq, cond_true, cond_false, Int.reduceEq, Int.reduceLT, Int.reduceLE, if_true, if_false, hf]
            · rintro e s2 ⟨rfl, z1, z2, z3⟩
              simp -implicitDefEqProofs only [W0, W1, W2, W3, W4, W5, W6, W7, W8, St.put, Option.bind_some, Option.map_some, ↓reduceIte, Nat.reduceEqDiff, Nat.reduceAdd, Nat.reduceMul, reduceCtorEq, cond_true, cond_false, Int.reduceEq, Int.reduceLT, Int.reduceLE, if_true, if_false, z1, z2, z3, hv]
        · rw [← hks] at e1
          rw [e1] at hev
          simp -implicitDefEqProofs only [W0, W1, W2, W3, W4, W5, W6, W7, W8, St.put, Option.bind_some, Option.map_some, ↓reduceIte, Nat.reduceEqDiff, Nat.reduceAdd, Nat.reduceMul, reduceCtorEq, cond_true, cond_false, Int.reduceEq, Int.reduceLT, Int.reduceLE, if_true, if_false, hf, m4, m5, hev]
theorem valueL_call35 : ∀ (l : List Pr), okAllL l → Pr.nodesL l ≤ 400 → ∀ k ∈ l, ∀ h, RunCall E1 (.f 35) [k.av, .val (.slice none 0 0), .val (.slice none 0 0)] h (prA (ev k)) h
  | [], _, _, k, hk, _ => by cases hk
  | a :: r, hok, hb, k, hk, h => by
    have hb' : a.nodes + Pr.nodesL r ≤ 400 := hb
    have hok : okAll a ∧ okAllL r := by simpa only [okAllL] using hok
    rcases List.mem_cons.1 hk with e | hk
    · rw [e]; exact value_call35 a hok.1 (by omega) h
    · exact valueL_call35 r hok.2 (by omega) k hk h
end

end Go.Proofs.YtbolilekjpoicaaGreatDoor

namespace Go.Proofs.YtbolilekjpoicaaGreatDoor
open Go Go.AM
set_option linter.all false
set_option maxHeartbeats 4000000
set_option maxRecDepth 10000

/-! ### the code of Check, with its range -/
def rangesOf : ACode → Option (Code × Code)
  | .range _ _ a b _ => some (a, b)
  | .seq a b => match rangesOf a with
    | some r => some r
    | none => rangesOf b
  | .cond _ a b => match rangesOf a with
    | some r => some r
    | none => rangesOf b
  | .block _ b => rangesOf b
  | .loop b => rangesOf b
  | _ => none
noncomputable def asg32 : Code := match (funOf Tryz.prog 32).bind fun a => rangesOf a.body with
  | some (a, _) => a
  | none => .skip
noncomputable def bdy32 : Code := match (funOf Tryz.prog 32).bind fun a => rangesOf a.body with
  | some (_, b) => b
  | none => .skip

noncomputable def f32_r : ACode := .range (.t 12) [13] asg32 bdy32 19
noncomputable def f32 : ACode := (.seq (.region [⟨(some 1), none, .box (.t 0)⟩, ⟨(some 2), none, .alloc [(.val (.int .i64 0))]⟩])
  (.seq (.seq (.region [⟨(some 5), none, .load (some 4) (.t 1)⟩, ⟨(some 6), none, .call 53 [(.t 5)]⟩, ⟨(some 7), none, .bin .gtr 3 true (.t 6) (.c (.val (.int .i64 400)))⟩])
  (.cond (.t 7) (.seq (.region [⟨none, none, .store 1 (.t 2) (.c (.val (.int .i64 7)))⟩])
  .ret) .skip))
  (.seq (.seq (.region [⟨(some 8), none, .load (some 4) (.t 1)⟩, ⟨(some 9), none, .call 54 [(.t 8)]⟩, ⟨(some 10), none, .bin .gtr 3 true (.t 9) (.c (.val (.int .i64 40)))⟩])
  (.cond (.t 10) (.seq (.region [⟨none, none, .store 1 (.t 2) (.c (.val (.int .i64 8)))⟩])
  .ret) .skip))
  (.seq (.seq (.region [⟨(some 11), none, .load (some 4) (.t 1)⟩, ⟨(some 12), none, .call 55 [(.t 11)]⟩])
  (.block 0 f32_r))
  (.seq (.region [⟨none, none, .store 1 (.t 2) (.c (.val (.int .i64 0)))⟩])
  .ret)))))
noncomputable def f32_fn : AFun := ⟨f32, [.cell 2 none]⟩
theorem f32_ok : funOf Tryz.prog 32 = some f32_fn := by kernel_rfl

def f32_asg : ACode := (.region [⟨(some 3), none, .alloc [(.val (.int .i64 0)), (.val (.string ⟨#[]⟩)), (.val (.int .i64 0)), (.val (.slice none 0 0))]⟩, ⟨none, none, .store 4 (.t 3) (.t 13)⟩])
def f32_bdy : ACode := (.block 1 (.seq (.region [⟨(some 14), none, .load (some 4) (.t 3)⟩, ⟨(some 15), none, .call 56 [(.t 14)]⟩, ⟨(some 4), none, .mv (.t 15)⟩])
  (.seq (.region [⟨(some 16), none, .mv (.t 4)⟩, ⟨(some 17), none, .bin .neq 45 true (.t 16) (.c (.val (.int .i64 0)))⟩])
  (.cond (.t 17) (.seq (.region [⟨(some 18), none, .mv (.t 4)⟩, ⟨none, none, .store 1 (.t 2) (.t 18)⟩])
  .ret) .skip))))
theorem asg32_c : cCode E1.P 19 asg32 = f32_asg := by kernel_rfl
theorem bdy32_c : cCode E1.P 19 bdy32 = f32_bdy := by kernel_rfl

/-! ### functions over their caller's heap -/
theorem enterE {g : Nat} {l : List AV} {h : AH} {a : AFun} {P : List AV → AH → Prop} (hf : funOf Tryz.prog g = some a)
    (H : ∀ s : St, (∀ i v, (enterTm l 0 .nil).get i = some v → s.eval (.t i) = some v) → s.h = h → s.defers = [] → s.round = none → wp E1 a.body s fun e s => (e = .normal ∨ e = .ret) ∧ ∃ h', runDefers E1 s.defers s.h = some h' ∧ ∃ r, P r h' ∧ resultsA E1.globs (s.toH h') a.res = some r) :
    ∃ r h', P r h' ∧ Ev fun n => enterA E1 (exec E1 n) g l h = some (oneOrTup r, h') := by
  obtain ⟨e, s', x, y1, h', y2, r, hp, y3⟩ := wp_run _ _ _ (H { tm := enterTm l 0 .nil, h := h, defers := [], round := none } (fun _ _ h => h) rfl rfl rfl)
  refine ⟨r, h', hp, x.mono fun n p => ?_⟩
  have y4 : resultsA E1.globs { s' with h := h' } a.res = some r := y3
  have hl : leaveA E1 a s' = some (oneOrTup r, h') := by
    simp only [leaveA, y2, y4]
  simp only [enterA, (show funOf E1.P g = some a by rw [E1_P]; exact hf), p]
  rcases y1 with rfl | rfl <;> exact hl

theorem call_heap {E : Env} {g : Nat} {l : List AV} {h h1 h' : AH} {r : AV} (hs : E.shared.get g = none) (hz : l.foldl (fun h v => AM.freeze deepest v h) h = h1) (hm : mapTree h1 l = none)
    (a : Ev fun n => enterA E (exec E n) g l h = some (r, h')) : RunCall E (.f g) l h r h' := by
  refine a.mono fun n p => ?_
  simp only [callA, callF, hs, hz, hm, p]
theorem call_shared {E : Env} {g : Nat} {l : List AV} {h h' : AH} {r : AV} (hs : E.shared.get g = some ()) (a : Ev fun n => enterA E (exec E n) g l h = some (r, h')) : RunCall E (.f g) l h r h' := by
  refine a.mono fun n p => ?_
  simp only [callA, callF, hs, p]

theorem callv_to {E : Env} {s : St} {K : St → Prop} {r : List AOper} {dst : Option Nat} {x : Opd} {l : List Opd} {b : Nat} {args : List AV} {v : AV} {h' : AH} (hx : s.eval x = some (.yld b)) (hl : evalAll s l = some args) (hr : RunCall E (.y b) args s.h v h') :
    AM.wpOps E (⟨dst, none, .callv x l⟩ :: r) s K = AM.wpOps E r ((s.toH h').put dst v) K := by
  rw [w_callv hx, hl]
  exact propext (callTo_iff hr)

/-! ### rounds -/
def LoopOk (tm : Tr AV) (b : Nat) (h : AH) : Prop := h.get b = some (.loop tm [13] asg32 bdy32 19 .ready) ∧ (∃ x, h.get 1 = some (.cells [.val (.int .i64 x)] true)) ∧ b < h.next ∧ 1 < b
def LoopDone (tm : Tr AV) (b : Nat) (x : Int) (h : AH) : Prop := h.get b = some (.loop tm [13] asg32 bdy32 19 (.done .ret)) ∧ h.get 1 = some (.cells [.val (.int .i64 x)] true) ∧ b < h.next ∧ 1 < b
def Frame (b : Nat) (h h' : AH) : Prop := h.next ≤ h'.next ∧ ∀ c, c < h.next → c ≠ b → c ≠ 1 → h'.get c = h.get c
theorem Frame.refl (b : Nat) (h : AH) : Frame b h h := ⟨Nat.le_refl _, fun _ _ _ _ => rfl⟩
theorem Frame.trans {b : Nat} {h h1 h2 : AH} (x : Frame b h h1) (y : Frame b h1 h2) : Frame b h h2 :=
  ⟨Nat.le_trans x.1 y.1, fun c h1 h2 h3 => by rw [y.2 c (Nat.lt_of_lt_of_le h1 x.1) h2 h3, x.2 c h1 h2 h3]⟩

theorem store_one {h : AH} {b : Nat} {x y : AV} (hb : h.get b = some (.cells [x] true)) : storeH h 1 (.ptr b 0) [y] = some (h.put b (some (.cells [y] true))) := by
  simp only [storeH, hb]
  rfl

theorem val_cells {v : Value} : (AV.val v).cells = some [.val v] := rfl

theorem asg_run (q : Pr) (b : Nat) (s : St) (h13 : s.eval (.t 13) = some q.av) (hd : s.defers = []) (hr : s.round = some b) :
    Run E1 f32_asg s fun e s' => e = .normal ∧ s'.defers = [] ∧ s'.round = some b ∧ s'.h = (s.h.alloc (.cells [(.val (.int .i64 0)), (.val (.string ⟨#[]⟩)), (.val (.int .i64 0)), (.val (.slice none 0 0))] true)).put s.h.next (some (.cells q.cells true)) ∧ s'.eval (.t 2) = s.eval (.t 2) ∧ s'.eval (.t 3) = some (.ptr s.h.next 0) := by
  have hs : ∀ h : AH, storeH (h.alloc (.cells [.val (.int .i64 0), .val (.string ⟨#[]⟩), .val (.int .i64 0), .val (.slice none 0 0)] true)) 4 (.ptr h.next 0) q.cells = _ := fun h => store_new rfl q.len
  refine wp_run _ _ _ ?_
  simp -implicitDefEqProofs only [f32_asg, W0, W1, W2, W3, W4, W5, W6, W7, W8, St.put, Option.bind_some, Option.map_some, ↓reduceIte, Nat.reduceEqDiff, Nat.reduceAdd, Nat.reduceMul, reduceCtorEq, cond_true, cond_false, Int.reduceEq, Int.reduceLT, Int.reduceLE, if_true, if_false, h13, hs, hd, hr, St.rd_set, St.rd_toH]

theorem bdy_run (q : Pr) (b c : Nat) (x : Int) (s : St) (h2 : s.eval (.t 2) = some (.ptr 1 0)) (h3 : s.eval (.t 3) = some (.ptr c 0)) (g1 : s.h.get 1 = some (.cells [.val (.int .i64 x)] true)) (gc : s.h.get c = some (.cells q.cells true)) (hd : s.defers = []) :
    Run E1 f32_bdy s fun e s' => s'.defers = [] ∧ (Na q = 0 ∧ e = .normal ∧ s'.h = s.h ∨ Na q ≠ 0 ∧ e = .ret ∧ s'.h = s.h.put 1 (some (.cells [.val (.int .i64 (Na q))] true))) := by
  have hs : storeH s.h 1 (.ptr 1 0) [.val (.int .i64 (Na q))] = some (s.h.put 1 (some (.cells [.val (.int .i64 (Na q))] true))) := store_one g1
  refine wp_run _ _ _ ?_
  by_cases e : Na q = 0
  · have e' : decide (Na q = 0) = true := decide_eq_true e
    simp -implicitDefEqProofs only [f32_bdy, W0, W1, W2, W3, W4, W5, W6, W7, W8, St.put, Option.bind_some, Option.map_some, ↓reduceIte, Nat.reduceEqDiff, Nat.reduceAdd, Nat.reduceMul, reduceCtorEq, cond_true, cond_false, Int.reduceEq, Int.reduceLT, Int.reduceLE, if_true, if_false, h2, h3, g1, gc, hd, callK_all (Na_call q), e']
    exact .inl e
  · have e' : decide (Na q = 0) = false := decide_eq_false e
    simp -implicitDefEqProofs only [f32_bdy, W0, W1, W2, W3, W4, W5, W6, W7, W8, St.put, Option.bind_some, Option.map_some, ↓reduceIte, Nat.reduceEqDiff, Nat.reduceAdd, Nat.reduceMul, reduceCtorEq, cond_true, cond_false, Int.reduceEq, Int.reduceLT, Int.reduceLE, if_true, if_false, h2, h3, g1, gc, hd, callK_all (Na_call q), e', val_cells, hs]
    exact .inr e

theorem round_call (tm : Tr AV) (htm : tm.get 2 = some (.ptr 1 0)) (q : Pr) (b : Nat) (h : AH) (ok : LoopOk tm b h) :
    ∃ h', RunCall E1 (.y b) [q.av] h (.val (.bool (decide (Na q = 0)))) h' ∧ Frame b h h' ∧ (Na q = 0 → LoopOk tm b h') ∧ (Na q ≠ 0 → LoopDone tm b (Na q) h') := by
  obtain ⟨hb, ⟨x, hx⟩, hn, h1b⟩ := ok
  obtain ⟨e1, s1, r1, rfl, d1, o1, k1, t2, t3⟩ := asg_run q b { tm := tm.put 13 (some q.av), h, defers := [], round := some b } (by show (tm.put 13 _).get 13 = _; rw [Tr.get_put, if_pos rfl]) rfl rfl
  simp only at k1 t2 t3
  have hp2 : s1.eval (.t 2) = some (.ptr 1 0) := by
    rw [t2]
    show (tm.put 13 _).get 2 = _
    rw [Tr.get_put, if_neg (by decide), htm]
  have gb : s1.h.get b = some (.loop tm [13] asg32 bdy32 19 .ready) := by rw [k1, new_get hn, hb]
  have gc : s1.h.get h.next = some (.cells q.cells true) := by rw [k1, AH.get_put, if_pos rfl]
  have g1 : s1.h.get 1 = some (.cells [.val (.int .i64 x)] true) := by rw [k1, new_get (by omega), hx]
  have n1 : s1.h.next = h.next + 1 := by rw [k1]; rfl
  have gf : ∀ c, c < h.next → s1.h.get c = h.get c := fun c hc => by rw [k1, new_get hc]
  obtain ⟨e2, s2, r2, d2, k2⟩ := bdy_run q b h.next x { s1 with h := s1.h.put b (some (.loop tm [13] asg32 bdy32 19 .busy)) } hp2 t3 (by show (s1.h.put b _).get 1 = _; rw [AH.get_put, if_neg (by omega), g1]) (by show (s1.h.put b _).get h.next = _; rw [AH.get_put, if_neg (by omega), gc]) d1
  simp only at k2
  have pa : putAll [13] [q.av] tm = some (tm.put 13 (some q.av)) := rfl
  have al : [13].all (fun p => Nat.blt p 19) = true := rfl
  rcases k2 with ⟨z, rfl, kh⟩ | ⟨z, rfl, kh⟩
  · have z' : decide (Na q = 0) = true := decide_eq_true z
    have gb2 : s2.h.get b = some (.loop tm [13] asg32 bdy32 19 .busy) := by rw [kh, AH.get_put, if_pos rfl]
    refine ⟨s2.h.put b (some (.loop tm [13] asg32 bdy32 19 .ready)), ?_, ?_, fun _ => ?_, fun q => absurd z q⟩
    · rw [z']
      refine (r1.and r2).mono fun n ⟨p1, p2⟩ => ?_
      simp only [callA, roundA, hb, pa, al, cond_true, asg32_c, p1, gb, bdy32_c, p2, d2, gb2, isNormal]
    · refine ⟨?_, fun c h1 h2 h3 => ?_⟩
      · rw [p_next, kh, p_next]; omega
      · rw [AH.get_put, if_neg h2, kh, AH.get_put, if_neg h2, gf c h1]
    · refine ⟨by rw [AH.get_put, if_pos rfl], ⟨x, ?_⟩, ?_, h1b⟩
      · rw [AH.get_put, if_neg (by omega), kh, AH.get_put, if_neg (by omega), g1]
      · rw [p_next, kh, p_next]; omega
  · have z' : decide (Na q = 0) = false := decide_eq_false z
    have gb2 : s2.h.get b = some (.loop tm [13] asg32 bdy32 19 .busy) := by rw [kh, AH.get_put, if_neg (by omega), AH.get_put, if_pos rfl]
    refine ⟨s2.h.put b (some (.loop tm [13] asg32 bdy32 19 (.done .ret))), ?_, ?_, fun q => absurd q z, fun _ => ?_⟩
    · rw [z']
      refine (r1.and r2).mono fun n ⟨p1, p2⟩ => ?_
      simp only [callA, roundA, hb, pa, al, cond_true, asg32_c, p1, gb, bdy32_c, p2, d2, gb2, isNormal, cond_false]
    · refine ⟨?_, fun c h1 h2 h3 => ?_⟩
      · rw [p_next, kh, p_next, p_next]; omega
      · rw [AH.get_put, if_neg h2, kh, AH.get_put, if_neg h3, AH.get_put, if_neg h2, gf c h1]
    · refine ⟨by rw [AH.get_put, if_pos rfl], ?_, ?_, h1b⟩
      · rw [AH.get_put, if_neg (by omega), kh, AH.get_put, if_pos rfl]
      · rw [p_next, kh, p_next, p_next]; omega

/-! ### visit -/
def Visits (tm : Tr AV) (q : Pr) : Prop := ∀ (b : Nat) (h : AH), LoopOk tm b h → ∃ h', RunCall E1 (.f 93) [q.av, .yld b] h (.val (.bool (decide (chk Na q = 0)))) h' ∧ Frame b h h' ∧ (chk Na q = 0 → LoopOk tm b h') ∧ (chk Na q ≠ 0 → LoopDone tm b (chk Na q) h')

theorem f93_loop (tm : Tr AV) (p : Pr) (b : Nat) : ∀ (r : List Pr) (i : Nat) (s : St), p.ks.drop i = r → i ≤ p.ks.length → i + r.length + 2 < 2 ^ 62 → (∀ k ∈ r, Visits tm k) → LoopOk tm b s.h →
    s.eval (.t 1) = some (.yld b) → s.eval (.t 12) = some p.kids → s.eval (.t 13) = some (.val (.int .i64 (p.ks.length : Nat))) → s.eval (.t 14) = some (.val (.int .i64 i)) → s.defers = [] →
    Run E1 f93_l0 s fun e s' => s'.defers = [] ∧ Frame b s.h s'.h ∧ (chkL Na r = 0 ∧ e = .exit 0 ∧ LoopOk tm b s'.h ∨ chkL Na r ≠ 0 ∧ e = .ret ∧ s'.eval (.t 4) = some (.val (.bool false)) ∧ LoopDone tm b (chkL Na r) s'.h)
  | [], i, s, hr, hi, hb, ih, ok, h1, h12, h13, h14, hd => by
    have hl : i = p.ks.length := by
      have := List.drop_eq_nil_iff.1 hr
      omega
    subst hl
    have hlt : decide (((p.ks.length : Nat) : Int) < (p.ks.length : Nat)) = false := by simp
    apply loop_of (rfl : f93_l0 = .loop f93_b0)
    simp -implicitDefEqProofs only [f93_b0, W0, W1, W2, W3, W4, W5, W6, W7, W8, St.put, Option.bind_some, Option.map_some, ↓reduceIte, Nat.reduceEqDiff, Nat.reduceAdd, Nat.reduceMul, reduceCtorEq, cond_true, cond_false, Int.reduceEq, Int.reduceLT, Int.reduceLE, if_true, if_false, h1, h12, h13, h14, hd, hlt]
    exact ⟨Frame.refl _ _, .inl ⟨rfl, ok⟩⟩
  | k :: r, i, s, hr, hi, hb, ih, ok, h1, h12, h13, h14, hd => by
    have hl' : i < p.ks.length := by
      rcases Nat.lt_or_ge i p.ks.length with x | x
      · exact x
      · rw [List.drop_eq_nil_of_le x] at hr; cases hr
    have hlt : decide ((i : Int) < (p.ks.length : Nat)) = true := by simp; omega
    have hr' : p.ks.drop (i + 1) = r := by rw [← List.drop_drop, hr]; rfl
    have hs : ∀ h : AH, storeH (h.alloc (.cells [.val (.int .i64 0), .val (.string ⟨#[]⟩), .val (.int .i64 0), .val (.slice none 0 0)] true)) 4 (.ptr h.next 0) k.cells = _ := fun h => store_new rfl k.len
    have w1 : IntKind.i64.wrap ((i : Int) + 1) = ((i + 1 : Nat) : Int) := wrap_nat (n := i + 1) (by simp only [List.length_cons] at hb; omega)
    obtain ⟨h2, hh2⟩ : ∃ h1, (s.h.alloc (.cells [.val (.int .i64 0), .val (.string ⟨#[]⟩), .val (.int .i64 0), .val (.slice none 0 0)] true)).put s.h.next (some (.cells k.cells true)) = h1 := ⟨_, rfl⟩
    have hn2 : h2.next = s.h.next + 1 := by rw [← hh2]; rfl
    have gk : h2.get s.h.next = some (.cells k.cells true) := by rw [← hh2, AH.get_put, if_pos rfl]
    have hg2 : ∀ c, c < s.h.next → h2.get c = s.h.get c := fun c hc => by rw [← hh2]; exact new_get hc
    have f2 : Frame b s.h h2 := ⟨by omega, fun c h1 _ _ => hg2 c h1⟩
    have ok2 : LoopOk tm b h2 := by
      obtain ⟨a1, ⟨x, a2⟩, a3, a4⟩ := ok
      exact ⟨by rw [hg2 b a3, a1], ⟨x, by rw [hg2 1 (by omega), a2]⟩, by omega, a4⟩
    obtain ⟨h3, hc, hf, hz, hnz⟩ := ih k List.mem_cons_self b h2 ok2
    have hk := fun (s : St) (hs : s.h = h2) K r dst => callK_to (E := E1) (s := s) (K := K) (r := r) (dst := dst) (by rw [hs]; exact hc)
    apply loop_of (rfl : f93_l0 = .loop f93_b0)
    by_cases c : chk Na k = 0
    · have hq : chkL Na (k :: r) = chkL Na r := by simp only [chkL, c, if_true]
      have c' : decide (chk Na k = 0) = true := decide_eq_true c
      simp -implicitDefEqProofs only [f93_b0, W0, W1, W2, W3, W4, W5, W6, W7, W8, St.put, Option.bind_some, Option.map_some, ↓reduceIte, Nat.reduceEqDiff, Nat.reduceAdd, Nat.reduceMul, reduceCtorEq, cond_true, cond_false, Int.reduceEq, Int.reduceLT, Int.reduceLE, if_true, if_false, h1, h12, h13, h14, hd, hlt, kid_at hr, hs, hh2, gk, hk, c', w1, hq]
      refine (f93_loop tm p b r (i + 1) _ hr' (by omega) (by simp only [List.length_cons] at hb; omega) (fun k' hk => ih k' (List.mem_cons_of_mem _ hk)) ?_ ?_ ?_ ?_ ?_ ?_).mono ?_
      · simp -implicitDefEqProofs only [W0, W1, W2, W3, W4, W5, W6, W7, W8, St.put, Option.bind_some, Option.map_some, ↓reduceIte, Nat.reduceEqDiff, Nat.reduceAdd, Nat.reduceMul, reduceCtorEq, cond_true, cond_false, Int.reduceEq, Int.reduceLT, Int.reduceLE, if_true, if_false]
        exact hz c
      all_goals try (simp -implicitDefEqProofs only [W0, W1, W2, W3, W4, W5, W6, W7, W8, St.put, Option.bind_some, Option.map_some, ↓reduceIte, Nat.reduceEqDiff, Nat.reduceAdd, Nat.reduceMul, reduceCtorEq, cond_true, cond_false, Int.reduceEq, Int.reduceLT, Int.reduceLE, if_true, if_false, h1, h12, h13, hd]; done)
      · rintro e s' ⟨m1, m2, m3⟩
        simp -implicitDefEqProofs only [W0, W1, W2, W3, W4, W5, W6, W7, W8, St.put, Option.bind_some, Option.map_some, ↓reduceIte, Nat.reduceEqDiff, Nat.reduceAdd, Nat.reduceMul, reduceCtorEq, cond_true, cond_false, Int.reduceEq, Int.reduceLT, Int.reduceLE, if_true, if_false] at m2
        exact ⟨m1, (f2.trans hf).trans m2, m3⟩
    · have hq : chkL Na (k :: r) = chk Na k := by simp only [chkL, c, if_false]
      have c' : decide (chk Na k = 0) = false := decide_eq_false c
      simp -implicitDefEqProofs only [f93_b0, W0, W1, W2, W3, W4, W5, W6, W7, W8, St.put, Option.bind_some, Option.map_some, ↓reduceIte, Nat.reduceEqDiff, Nat.reduceAdd, Nat.reduceMul, reduceCtorEq, cond_true, cond_false, Int.reduceEq, Int.reduceLT, Int.reduceLE, if_true, if_false, h1, h12, h13, h14, hd, hlt, kid_at hr, hs, hh2, gk, hk, c', w1, hq]
      exact ⟨f2.trans hf, .inr ⟨c, hnz c⟩⟩

mutual
theorem visit_call (tm : Tr AV) (htm : tm.get 2 = some (.ptr 1 0)) : ∀ (p : Pr), p.nodes < 2 ^ 61 → Visits tm p
  | .mk o nm n ks nl cap, hb => by
    have hb' : 1 + Pr.nodesL ks < 2 ^ 61 := hb
    have hk : ks.length ≤ Pr.nodesL ks := nodesL_len ks
    have hI := visitL_call tm htm ks (by omega)
    have hc : chk Na (.mk o nm n ks nl cap) = if Na (.mk o nm n ks nl cap) = 0 then chkL Na ks else Na (.mk o nm n ks nl cap) := by simp only [chk]
    generalize hp : Pr.mk o nm n ks nl cap = p at *
    have hks : p.ks = ks := by rw [← hp]; rfl
    intro b h ok
    have h1b := ok.2.2.2
    obtain ⟨r, h', ⟨rfl, hf, hz, hnz⟩, ha⟩ := enterE (g := 93) (l := [p.av, .yld b]) (h := h) (P := fun r h' => r = [.val (.bool (decide (chk Na p = 0)))] ∧ Frame b h h' ∧ (chk Na p = 0 → LoopOk tm b h') ∧ (chk Na p ≠ 0 → LoopDone tm b (chk Na p) h')) f93_ok fun s hs hh hd hrd => by
      have h0 := hs 0 _ rfl
      have h1 := hs 1 _ rfl
      have gb : ∀ c, c < h.next → (h.alloc (.cells p.cells true)).get c = h.get c := fun c hc => by rw [AH.get_alloc, if_neg (by omega)]
      have f1 : Frame b h (h.alloc (.cells p.cells true)) := ⟨Nat.le_succ _, fun c h1 _ _ => gb c h1⟩
      have ok1 : LoopOk tm b (h.alloc (.cells p.cells true)) := by
        obtain ⟨a1, ⟨x, a2⟩, a3, a4⟩ := ok
        exact ⟨by rw [gb b a3, a1], ⟨x, by rw [gb 1 (by omega), a2]⟩, Nat.lt_succ_of_lt a3, a4⟩
      obtain ⟨h2, hc2, hf2, hz2, hnz2⟩ := round_call tm htm p b _ ok1
      have gp : h2.get h.next = some (.cells p.cells true) := by
        rw [hf2.2 h.next (Nat.lt_succ_self _) (by have := ok.2.2.1; omega) (by have := ok.2.2.1; omega), AH.get_alloc, if_pos rfl]
      have hy := fun (s : St) (hs : s.h = h.alloc (.cells p.cells true)) (hx : s.eval (.t 7) = some (.yld b)) (ha : evalAll s [.t 8] = some [p.av]) K r dst => callv_to (E := E1) (s := s) (K := K) (r := r) (dst := dst) hx ha (by rw [hs]; exact hc2)
      by_cases c : Na p = 0
      · have c' : decide (Na p = 0) = true := decide_eq_true c
        rw [if_pos c] at hc
        simp -implicitDefEqProofs only [f93_fn, f93, W0, W1, W2, W3, W4, W5, W6, W7, W8, St.put, Option.bind_some, Option.map_some, ↓reduceIte, Nat.reduceEqDiff, Nat.reduceAdd, Nat.reduceMul, reduceCtorEq, cond_true, cond_false, Int.reduceEq, Int.reduceLT, Int.reduceLE, if_true, if_false, h0, h1, hh, hd, hy, c', gp]
        refine (f93_loop tm p b ks 0 _ (by rw [List.drop_zero, hks]) (Nat.zero_le _) (by omega) hI ?_ ?_ ?_ ?_ ?_ ?_).mono ?_
        · simp -implicitDefEqProofs only [W0, W1, W2, W3, W4, W5, W6, W7, W8, St.put, Option.bind_some, Option.map_some, ↓reduceIte, Nat.reduceEqDiff, Nat.reduceAdd, Nat.reduceMul, reduceCtorEq, cond_true, cond_false, Int.reduceEq, Int.reduceLT, Int.reduceLE, if_true, if_false]
          exact hz2 c
        · simp -implicitDefEqProofs only [W0, W1, W2, W3, W4, W5, W6, W7, W8, St.put, Option.bind_some, Option.map_some, ↓reduceIte, Nat.reduceEqDiff, Nat.reduceAdd, Nat.reduceMul, reduceCtorEq, cond_true, cond_false, Int.reduceEq, Int.reduceLT, Int.reduceLE, if_true, if_false, h1]
        · simp -implicitDefEqProofs only [W0, W1, W2, W3, W4, W5, W6, W7, W8, St.put, Option.bind_some, Option.map_some, ↓reduceIte, Nat.reduceEqDiff, Nat.reduceAdd, Nat.reduceMul, reduceCtorEq, cond_true, cond_false, Int.reduceEq, Int.reduceLT, Int.reduceLE, if_true, if_false] <;> rfl
        · simp -implicitDefEqProofs only [W0, W1, W2, W3, W4, W5, W6, W7, W8, St.put, Option.bind_some, Option.map_some, ↓reduceIte, Nat.reduceEqDiff, Nat.reduceAdd, Nat.reduceMul, reduceCtorEq, cond_true, cond_false, Int.reduceEq, Int.reduceLT, Int.reduceLE, if_true, if_false] <;> rfl
        · simp -implicitDefEqProofs only [W0, W1, W2, W3, W4, W5, W6, W7, W8, St.put, Option.bind_some, Option.map_some, ↓reduceIte, Nat.reduceEqDiff, Nat.reduceAdd, Nat.reduceMul, reduceCtorEq, cond_true, cond_false, Int.reduceEq, Int.reduceLT, Int.reduceLE, if_true, if_false] <;> rfl
        · simp -implicitDefEqProofs only [W0, W1, W2, W3, W4, W5, W6, W7, W8, St.put, Option.bind_some, Option.map_some, ↓reduceIte, Nat.reduceEqDiff, Nat.reduceAdd, Nat.reduceMul, reduceCtorEq, cond_true, cond_false, Int.reduceEq, Int.reduceLT, Int.reduceLE, if_true, if_false, hd]
        · rintro e s' ⟨m1, m2, ⟨z, rfl, m3⟩ | ⟨z, rfl, m4, m3⟩⟩
          · simp -implicitDefEqProofs only [W0, W1, W2, W3, W4, W5, W6, W7, W8, St.put, Option.bind_some, Option.map_some, ↓reduceIte, Nat.reduceEqDiff, Nat.reduceAdd, Nat.reduceMul, reduceCtorEq, cond_true, cond_false, Int.reduceEq, Int.reduceLT, Int.reduceLE, if_true, if_false] at m2
            have : Nat.beq 0 0 = true := rfl
            have z' : decide (chk Na p = 0) = true := decide_eq_true (by rw [hc]; exact z)
            simp -implicitDefEqProofs only [W0, W1, W2, W3, W4, W5, W6, W7, W8, St.put, Option.bind_some, Option.map_some, ↓reduceIte, Nat.reduceEqDiff, Nat.reduceAdd, Nat.reduceMul, reduceCtorEq, cond_true, cond_false, Int.reduceEq, Int.reduceLT, Int.reduceLE, if_true, if_false, this, m1]
            exact ⟨_, rfl, _, ⟨by rw [z'], (f1.trans hf2).trans m2, fun _ => m3, fun q => absurd (by rw [hc]; exact z) q⟩, by simp -implicitDefEqProofs only [W0, W1, W2, W3, W4, W5, W6, W7, W8, St.put, Option.bind_some, Option.map_some, ↓reduceIte, Nat.reduceEqDiff, Nat.reduceAdd, Nat.reduceMul, reduceCtorEq, cond_true, cond_false, Int.reduceEq, Int.reduceLT, Int.reduceLE, if_true, if_false] <;> rfl⟩
          · simp -implicitDefEqProofs only [W0, W1, W2, W3, W4, W5, W6, W7, W8, St.put, Option.bind_some, Option.map_some, ↓reduceIte, Nat.reduceEqDiff, Nat.reduceAdd, Nat.reduceMul, reduceCtorEq, cond_true, cond_false, Int.reduceEq, Int.reduceLT, Int.reduceLE, if_true, if_false] at m2
            have z' : decide (chk Na p = 0) = false := decide_eq_false (by rw [hc]; exact z)
            simp -implicitDefEqProofs only [W0, W1, W2, W3, W4, W5, W6, W7, W8, St.put, Option.bind_some, Option.map_some, ↓reduceIte, Nat.reduceEqDiff, Nat.reduceAdd, Nat.reduceMul, reduceCtorEq, cond_true, cond_false, Int.reduceEq, Int.reduceLT, Int.reduceLE, if_true, if_false, m1, m4]
            exact ⟨_, rfl, _, ⟨by rw [z'], (f1.trans hf2).trans m2, fun q => absurd (by rw [← hc]; exact q) z, fun _ => by rw [hc]; exact m3⟩, by simp -implicitDefEqProofs only [W0, W1, W2, W3, W4, W5, W6, W7, W8, St.put, Option.bind_some, Option.map_some, ↓reduceIte, Nat.reduceEqDiff, Nat.reduceAdd, Nat.reduceMul, reduceCtorEq, cond_true, cond_false, Int.reduceEq, Int.reduceLT, Int.reduceLE, if_true, if_false, m4] <;> rfl⟩
      · have c' : decide (Na p = 0) = false := decide_eq_false c
        rw [if_neg c] at hc
        have z' : decide (chk Na p = 0) = false := decide_eq_false (by rw [hc]; exact c)
        simp -implicitDefEqProofs only [f93_fn, f93, W0, W1, W2, W3, W4, W5, W6, W7, W8, St.put, Option.bind_some, Option.map_some, ↓reduceIte, Nat.reduceEqDiff, Nat.reduceAdd, Nat.reduceMul, reduceCtorEq, cond_true, cond_false, Int.reduceEq, Int.reduceLT, Int.reduceLE, if_true, if_false, h0, h1, hh, hd, hy, c', gp]
        exact ⟨_, rfl, _, ⟨by rw [z'], f1.trans hf2, fun q => absurd (by rw [← hc]; exact q) c, fun _ => by rw [hc]; exact hnz2 c⟩, by simp -implicitDefEqProofs only [W0, W1, W2, W3, W4, W5, W6, W7, W8, St.put, Option.bind_some, Option.map_some, ↓reduceIte, Nat.reduceEqDiff, Nat.reduceAdd, Nat.reduceMul, reduceCtorEq, cond_true, cond_false, Int.reduceEq, Int.reduceLT, Int.reduceLE, if_true, if_false] <;> rfl⟩
    refine ⟨h', call_heap (by kernel_rfl) (h1 := h) ?_ ?_ ha, hf, hz, hnz⟩
    · have e1 : AM.freeze deepest p.av h = h := (Tree.pr p).2 h 58
      simp only [List.foldl_cons, List.foldl_nil, e1]
      rfl
    · have e1 : toTree h deepest p.av = some p.av := (Tree.pr p).1 h 58
      have e2 : toTree h deepest (.yld b) = none := rfl
      simp only [mapTree, e1, e2]
theorem visitL_call (tm : Tr AV) (htm : tm.get 2 = some (.ptr 1 0)) : ∀ (l : List Pr), Pr.nodesL l < 2 ^ 61 → ∀ k ∈ l, Visits tm k
  | [], _, k, hk => by cases hk
  | a :: r, hb, k, hk => by
    have hb' : a.nodes + Pr.nodesL r < 2 ^ 61 := hb
    rcases List.mem_cons.1 hk with e | hk
    · rw [e]; exact visit_call tm htm a (by omega)
    · exact visitL_call tm htm r (by omega) k hk
end

end Go.Proofs.YtbolilekjpoicaaGreatDoor

namespace Go.Proofs.YtbolilekjpoicaaGreatDoor
open Go Go.AM
set_option linter.all false
set_option maxHeartbeats 40000000
set_option maxRecDepth 10000

theorem runDefers_nil {E : Env} {h : AH} : runDefers E [] h = some h := rfl
theorem runDefers_mark {E : Env} {h : AH} {b : Nat} (hg : h.get b = some (.dfr true)) : runDefers E [.mark b] h = some (h.put b (some (.dfr false))) := by
  simp only [runDefers, hg]

theorem before_call55 (p : Pr) (h : AH) : RunCall E1 (.f 55) [p.av] h (.fn (.func 92) [] [.ptr h.next 0]) (h.alloc (.cells p.cells true)) := by
  obtain ⟨r, h', ⟨rfl, rfl⟩, ha⟩ := enterE (g := 55) (l := [p.av]) (h := h) (P := fun r h' => r = [.fn (.func 92) [] [.ptr h.next 0]] ∧ h' = h.alloc (.cells p.cells true)) f55_ok fun s hs hh hd hrd => by
    have h0 := hs 0 _ rfl
    simp -implicitDefEqProofs only [f55_fn, f55, W0, W1, W2, W3, W4, W5, W6, W7, W8, St.put, Option.bind_some, Option.map_some, ↓reduceIte, Nat.reduceEqDiff, Nat.reduceAdd, Nat.reduceMul, reduceCtorEq, cond_true, cond_false, Int.reduceEq, Int.reduceLT, Int.reduceLE, if_true, if_false, h0, hh, hd]
    exact ⟨_, rfl, _, ⟨rfl, rfl⟩, by simp -implicitDefEqProofs only [W0, W1, W2, W3, W4, W5, W6, W7, W8, St.put, Option.bind_some, Option.map_some, ↓reduceIte, Nat.reduceEqDiff, Nat.reduceAdd, Nat.reduceMul, reduceCtorEq, cond_true, cond_false, Int.reduceEq, Int.reduceLT, Int.reduceLE, if_true, if_false]⟩
  exact call_shared (by kernel_rfl) ha

theorem before_call92 (tm : Tr AV) (htm : tm.get 2 = some (.ptr 1 0)) (p : Pr) (hb : p.nodes < 2 ^ 61) (b c : Nat) (h : AH) (ok : LoopOk tm b h) (hc : h.get c = some (.cells p.cells true)) :
    ∃ h', RunCall E1 (.f 92) [.yld b, .ptr c 0] h (.tup []) h' ∧ Frame b h h' ∧ (chk Na p = 0 → LoopOk tm b h') ∧ (chk Na p ≠ 0 → LoopDone tm b (chk Na p) h') := by
  obtain ⟨h2, hr2, hf, hz, hnz⟩ := visit_call tm htm p hb b h ok
  obtain ⟨r, h', ⟨rfl, rfl⟩, ha⟩ := enterE (g := 92) (l := [.yld b, .ptr c 0]) (h := h) (P := fun r h' => r = [] ∧ h' = h2) f92_ok fun s hs hh hd hrd => by
    have h0 := hs 0 _ rfl
    have h1 := hs 1 _ rfl
    have hk := fun (s : St) (hs : s.h = h) K r dst => callK_to (E := E1) (s := s) (K := K) (r := r) (dst := dst) (by rw [hs]; exact hr2)
    simp -implicitDefEqProofs only [f92_fn, f92, W0, W1, W2, W3, W4, W5, W6, W7, W8, St.put, Option.bind_some, Option.map_some, ↓reduceIte, Nat.reduceEqDiff, Nat.reduceAdd, Nat.reduceMul, reduceCtorEq, cond_true, cond_false, Int.reduceEq, Int.reduceLT, Int.reduceLE, if_true, if_false, h0, h1, hh, hd, hc, hk]
    exact ⟨_, rfl, _, ⟨rfl, rfl⟩, rfl⟩
  refine ⟨h', call_heap (by kernel_rfl) (h1 := h) rfl ?_ ha, hf, hz, hnz⟩
  have e2 : toTree h deepest (.yld b) = none := rfl
  simp only [mapTree, e2]

theorem run_range {E : Env} {g : Opd} {ps ps3 : List Nat} {asg body asg3 body3 : Code} {M M3 f : Nat} {s : St} {Q : Ex → St → Prop} {a bb : List AV} {v : AV} {h3 : AH} {tm3 : Tr AV} {st : LSt} {e : Ex} (hr : s.round = none) (hg : s.eval g = some (.fn (.func f) a bb))
    (hc : RunCall E (.f f) (a ++ (.yld (s.h.next + 1) :: bb)) ((s.h.alloc (.dfr true)).alloc (.loop s.tm ps asg body M .ready)) v h3) (hb : h3.get (s.h.next + 1) = some (.loop tm3 ps3 asg3 body3 M3 st))
    (hst : (st = .ready ∧ e = .normal) ∨ st = .done e)
    (hQ : Q e { s with h := h3.put (s.h.next + 1) (some (.loop tm3 ps3 asg3 body3 M3 .gone)), defers := .mark s.h.next :: s.defers }) : Run E (.range g ps asg body M) s Q := by
  refine ⟨_, _, (Ev.mono hc fun n p => ?_ : Ev fun n => exec E (n + 1) (.range g ps asg body M) s = some (e, _)).step, hQ⟩
  have hn : (s.h.alloc (.dfr true)).next = s.h.next + 1 := rfl
  simp only [exec, hg, hr, hn, p, hb]
  rcases hst with ⟨rfl, rfl⟩ | rfl <;> rfl

theorem f32_range (p : Pr) (hb : p.nodes < 2 ^ 61) (c : Nat) (x : Int) (s : St) (h12 : s.eval (.t 12) = some (.fn (.func 92) [] [.ptr c 0])) (h2 : s.eval (.t 2) = some (.ptr 1 0)) (hc : s.h.get c = some (.cells p.cells true)) (nc : c < s.h.next) (h1 : s.h.get 1 = some (.cells [.val (.int .i64 x)] true)) (n1 : 1 < s.h.next) (hd : s.defers = []) (hr : s.round = none) :
    Run E1 f32_r s fun e s' => s'.defers = [.mark s.h.next] ∧ s'.h.get s.h.next = some (.dfr true) ∧ s'.eval (.t 2) = some (.ptr 1 0) ∧ (chk Na p = 0 ∧ e = .normal ∧ (∃ x, s'.h.get 1 = some (.cells [.val (.int .i64 x)] true)) ∨ chk Na p ≠ 0 ∧ e = .ret ∧ s'.h.get 1 = some (.cells [.val (.int .i64 (chk Na p))] true)) := by
  have htm : s.tm.get 2 = some (.ptr 1 0) := h2
  have gg : ∀ k, k < s.h.next → ((s.h.alloc (.dfr true)).alloc (.loop s.tm [13] asg32 bdy32 19 .ready)).get k = s.h.get k := fun k hk => by
    have : (s.h.alloc (.dfr true)).next = s.h.next + 1 := rfl
    rw [AH.get_alloc, if_neg (by omega), AH.get_alloc, if_neg (by omega)]
  have gl : ((s.h.alloc (.dfr true)).alloc (.loop s.tm [13] asg32 bdy32 19 .ready)).get (s.h.next + 1) = some (.loop s.tm [13] asg32 bdy32 19 .ready) := by
    have : (s.h.alloc (.dfr true)).next = s.h.next + 1 := rfl
    rw [AH.get_alloc, if_pos this.symm]
  have gd : ((s.h.alloc (.dfr true)).alloc (.loop s.tm [13] asg32 bdy32 19 .ready)).get s.h.next = some (.dfr true) := by
    have : (s.h.alloc (.dfr true)).next = s.h.next + 1 := rfl
    rw [AH.get_alloc, if_neg (by omega), AH.get_alloc, if_pos rfl]
  have gn : ((s.h.alloc (.dfr true)).alloc (.loop s.tm [13] asg32 bdy32 19 .ready)).next = s.h.next + 2 := rfl
  have ok : LoopOk s.tm (s.h.next + 1) ((s.h.alloc (.dfr true)).alloc (.loop s.tm [13] asg32 bdy32 19 .ready)) := ⟨gl, ⟨x, by rw [gg 1 n1, h1]⟩, by rw [gn]; omega, by omega⟩
  obtain ⟨h3, hr3, hf, hz, hnz⟩ := before_call92 s.tm htm p hb (s.h.next + 1) c _ ok (by rw [gg c nc, hc])
  have fd : h3.get s.h.next = some (.dfr true) := by rw [hf.2 s.h.next (by rw [gn]; omega) (by omega) (by omega), gd]
  by_cases k : chk Na p = 0
  · obtain ⟨a1, ⟨y, a2⟩, a3, a4⟩ := hz k
    refine run_range (e := .normal) hr h12 hr3 a1 (.inl ⟨rfl, rfl⟩) ⟨by rw [hd], ?_, h2, .inl ⟨k, rfl, y, ?_⟩⟩
    · show (h3.put _ _).get _ = _
      rw [AH.get_put, if_neg (by omega), fd]
    · show (h3.put _ _).get _ = _
      rw [AH.get_put, if_neg (by omega), a2]
  · obtain ⟨a1, a2, a3, a4⟩ := hnz k
    refine run_range (e := .ret) hr h12 hr3 a1 (.inr rfl) ⟨by rw [hd], ?_, h2, .inr ⟨k, rfl, ?_⟩⟩
    · show (h3.put _ _).get _ = _
      rw [AH.get_put, if_neg (by omega), fd]
    · show (h3.put _ _).get _ = _
      rw [AH.get_put, if_neg (by omega), a2]

/-! ### the checks -/
def ckS (N : Pr → Int) (p : Pr) : Int := if 400 < p.nodes then 7 else if 40 < p.depth then 8 else chk N p

theorem check_call32 (p : Pr) (hb : p.nodes < 2 ^ 61) (h : AH) : RunCall E1 (.f 32) [p.av] h (.val (.int .i64 (ckS Na p))) h := by
  have hdp : p.depth < 2 ^ 61 := Nat.lt_of_le_of_lt (depth_nodes p) hb
  obtain ⟨r, h', rfl, ha⟩ := enterE (g := 32) (l := [p.av]) (h := .empty) (P := fun r _ => r = [.val (.int .i64 (ckS Na p))]) f32_ok fun s hs hh hd hrd => by
    have h0 := hs 0 _ rfl
    have b0 : Nat.beq 0 0 = true := rfl
    obtain ⟨H, hH⟩ : ∃ H, (AH.empty.alloc (.cells p.cells true)).alloc (.cells [.val (.int .i64 0)] true) = H := ⟨_, rfl⟩
    have H1 : H.get 1 = some (.cells [.val (.int .i64 0)] true) := by rw [← hH]; simp [AH.get_alloc, a_next, e_next]
    have H0 : H.get 0 = some (.cells p.cells true) := by rw [← hH]; simp [AH.get_alloc, a_next, e_next]
    have Hn : H.next = 2 := by rw [← hH]; rfl
    have hst : ∀ x : Int, storeH H 1 (.ptr 1 0) [.val (.int .i64 x)] = some (H.put 1 (some (.cells [.val (.int .i64 x)] true))) := fun x => store_one H1
    by_cases z1 : 400 < p.nodes
    · have c1 : decide (400 < ((p.nodes : Nat) : Int)) = true := decide_eq_true (by omega)
      have hv : ckS Na p = 7 := by unfold ckS; rw [if_pos z1]
      simp -implicitDefEqProofs only [f32_fn, f32, W0, W1, W2, W3, W4, W5, W6, W7, W8, St.put, Option.bind_some, Option.map_some, ↓reduceIte, Nat.reduceEqDiff, Nat.reduceAdd, Nat.reduceMul, reduceCtorEq, cond_true, cond_false, Int.reduceEq, Int.reduceLT, Int.reduceLE, if_true, if_false, h0, hh, hd, hH, H0, H1, callK_all (nodes_call53 p hb), c1, hst, val_cells, hv]
      exact ⟨_, rfl, _, rfl, by simp -implicitDefEqProofs only [W0, W1, W2, W3, W4, W5, W6, W7, W8, St.put, Option.bind_some, Option.map_some, ↓reduceIte, Nat.reduceEqDiff, Nat.reduceAdd, Nat.reduceMul, reduceCtorEq, cond_true, cond_false, Int.reduceEq, Int.reduceLT, Int.reduceLE, if_true, if_false, cfB_c0, take_hd]⟩
    · have c1 : decide (400 < ((p.nodes : Nat) : Int)) = false := decide_eq_false (by omega)
      by_cases z2 : 40 < p.depth
      · have c2 : decide (40 < ((p.depth : Nat) : Int)) = true := decide_eq_true (by omega)
        have hv : ckS Na p = 8 := by unfold ckS; rw [if_neg z1, if_pos z2]
        simp -implicitDefEqProofs only [f32_fn, f32, W0, W1, W2, W3, W4, W5, W6, W7, W8, St.put, Option.bind_some, Option.map_some, ↓reduceIte, Nat.reduceEqDiff, Nat.reduceAdd, Nat.reduceMul, reduceCtorEq, cond_true, cond_false, Int.reduceEq, Int.reduceLT, Int.reduceLE, if_true, if_false, h0, hh, hd, hH, H0, H1, callK_all (nodes_call53 p hb), callK_all (depth_call54 p hb), c1, c2, hst, val_cells, hv]
        exact ⟨_, rfl, _, rfl, by simp -implicitDefEqProofs only [W0, W1, W2, W3, W4, W5, W6, W7, W8, St.put, Option.bind_some, Option.map_some, ↓reduceIte, Nat.reduceEqDiff, Nat.reduceAdd, Nat.reduceMul, reduceCtorEq, cond_true, cond_false, Int.reduceEq, Int.reduceLT, Int.reduceLE, if_true, if_false, cfB_c0, take_hd]⟩
      · have c2 : decide (40 < ((p.depth : Nat) : Int)) = false := decide_eq_false (by omega)
        have hv : ckS Na p = chk Na p := by unfold ckS; rw [if_neg z1, if_neg z2]
        have hk := fun (s : St) (hs : s.h = H) K r dst => callK_to (E := E1) (s := s) (K := K) (r := r) (dst := dst) (by rw [hs]; exact before_call55 p H)
        have wd : ∀ (s : St) Q, wp E1 f32_r s Q = Run E1 f32_r s Q := fun _ _ => rfl
        simp -implicitDefEqProofs only [f32_fn, f32, W0, W1, W2, W3, W4, W5, W6, W7, W8, St.put, Option.bind_some, Option.map_some, ↓reduceIte, Nat.reduceEqDiff, Nat.reduceAdd, Nat.reduceMul, reduceCtorEq, cond_true, cond_false, Int.reduceEq, Int.reduceLT, Int.reduceLE, if_true, if_false, h0, hh, hd, hH, H0, H1, callK_all (nodes_call53 p hb), callK_all (depth_call54 p hb), c1, c2, hk, wd]
        refine (f32_range p hb H.next 0 _ ?_ ?_ ?_ ?_ ?_ ?_ ?_ ?_).mono ?_
        · simp -implicitDefEqProofs only [W0, W1, W2, W3, W4, W5, W6, W7, W8, St.put, Option.bind_some, Option.map_some, ↓reduceIte, Nat.reduceEqDiff, Nat.reduceAdd, Nat.reduceMul, reduceCtorEq, cond_true, cond_false, Int.reduceEq, Int.reduceLT, Int.reduceLE, if_true, if_false]
        · simp -implicitDefEqProofs only [W0, W1, W2, W3, W4, W5, W6, W7, W8, St.put, Option.bind_some, Option.map_some, ↓reduceIte, Nat.reduceEqDiff, Nat.reduceAdd, Nat.reduceMul, reduceCtorEq, cond_true, cond_false, Int.reduceEq, Int.reduceLT, Int.reduceLE, if_true, if_false, Hn]
        · simp -implicitDefEqProofs only [W0, W1, W2, W3, W4, W5, W6, W7, W8, St.put, Option.bind_some, Option.map_some, ↓reduceIte, Nat.reduceEqDiff, Nat.reduceAdd, Nat.reduceMul, reduceCtorEq, cond_true, cond_false, Int.reduceEq, Int.reduceLT, Int.reduceLE, if_true, if_false]
        · simp -implicitDefEqProofs only [W0, W1, W2, W3, W4, W5, W6, W7, W8, St.put, Option.bind_some, Option.map_some, ↓reduceIte, Nat.reduceEqDiff, Nat.reduceAdd, Nat.reduceMul, reduceCtorEq, cond_true, cond_false, Int.reduceEq, Int.reduceLT, Int.reduceLE, if_true, if_false]; omega
        · simp -implicitDefEqProofs only [W0, W1, W2, W3, W4, W5, W6, W7, W8, St.put, Option.bind_some, Option.map_some, ↓reduceIte, Nat.reduceEqDiff, Nat.reduceAdd, Nat.reduceMul, reduceCtorEq, cond_true, cond_false, Int.reduceEq, Int.reduceLT, Int.reduceLE, if_true, if_false, Hn, H1]
        · simp -implicitDefEqProofs only [W0, W1, W2, W3, W4, W5, W6, W7, W8, St.put, Option.bind_some, Option.map_some, ↓reduceIte, Nat.reduceEqDiff, Nat.reduceAdd, Nat.reduceMul, reduceCtorEq, cond_true, cond_false, Int.reduceEq, Int.reduceLT, Int.reduceLE, if_true, if_false]; omega
        · simp -implicitDefEqProofs only [W0, W1, W2, W3, W4, W5, W6, W7, W8, St.put, Option.bind_some, Option.map_some, ↓reduceIte, Nat.reduceEqDiff, Nat.reduceAdd, Nat.reduceMul, reduceCtorEq, cond_true, cond_false, Int.reduceEq, Int.reduceLT, Int.reduceLE, if_true, if_false, hd]
        · simp -implicitDefEqProofs only [St.rd_set, St.rd_toH, hrd]
        · rintro e s' ⟨m1, m2, m3, ⟨k, rfl, x, m4⟩ | ⟨k, rfl, m4⟩⟩
          · have hs2 : storeH s'.h 1 (.ptr 1 0) [.val (.int .i64 0)] = some (s'.h.put 1 (some (.cells [.val (.int .i64 0)] true))) := store_one m4
            simp -implicitDefEqProofs only [W0, W1, W2, W3, W4, W5, W6, W7, W8, St.put, Option.bind_some, Option.map_some, ↓reduceIte, Nat.reduceEqDiff, Nat.reduceAdd, Nat.reduceMul, reduceCtorEq, cond_true, cond_false, Int.reduceEq, Int.reduceLT, Int.reduceLE, if_true, if_false, Hn] at m1 m2
            simp -implicitDefEqProofs only [W0, W1, W2, W3, W4, W5, W6, W7, W8, St.put, Option.bind_some, Option.map_some, ↓reduceIte, Nat.reduceEqDiff, Nat.reduceAdd, Nat.reduceMul, reduceCtorEq, cond_true, cond_false, Int.reduceEq, Int.reduceLT, Int.reduceLE, if_true, if_false, m1, m3, hs2, val_cells]
            refine ⟨_, runDefers_mark ?_, _, rfl, ?_⟩
            · simp -implicitDefEqProofs only [W0, W1, W2, W3, W4, W5, W6, W7, W8, St.put, Option.bind_some, Option.map_some, ↓reduceIte, Nat.reduceEqDiff, Nat.reduceAdd, Nat.reduceMul, reduceCtorEq, cond_true, cond_false, Int.reduceEq, Int.reduceLT, Int.reduceLE, if_true, if_false, m2]
            · simp -implicitDefEqProofs only [W0, W1, W2, W3, W4, W5, W6, W7, W8, St.put, Option.bind_some, Option.map_some, ↓reduceIte, Nat.reduceEqDiff, Nat.reduceAdd, Nat.reduceMul, reduceCtorEq, cond_true, cond_false, Int.reduceEq, Int.reduceLT, Int.reduceLE, if_true, if_false, m3, cfB_c0, take_hd, hv, k]
          · simp -implicitDefEqProofs only [W0, W1, W2, W3, W4, W5, W6, W7, W8, St.put, Option.bind_some, Option.map_some, ↓reduceIte, Nat.reduceEqDiff, Nat.reduceAdd, Nat.reduceMul, reduceCtorEq, cond_true, cond_false, Int.reduceEq, Int.reduceLT, Int.reduceLE, if_true, if_false, Hn] at m1 m2
            simp -implicitDefEqProofs only [W0, W1, W2, W3, W4, W5, W6, W7, W8, St.put, Option.bind_some, Option.map_some, ↓reduceIte, Nat.reduceEqDiff, Nat.reduceAdd, Nat.reduceMul, reduceCtorEq, cond_true, cond_false, Int.reduceEq, Int.reduceLT, Int.reduceLE, if_true, if_false, m1, m3]
            refine ⟨_, runDefers_mark ?_, _, rfl, ?_⟩
            · simp -implicitDefEqProofs only [W0, W1, W2, W3, W4, W5, W6, W7, W8, St.put, Option.bind_some, Option.map_some, ↓reduceIte, Nat.reduceEqDiff, Nat.reduceAdd, Nat.reduceMul, reduceCtorEq, cond_true, cond_false, Int.reduceEq, Int.reduceLT, Int.reduceLE, if_true, if_false, m2]
            · simp -implicitDefEqProofs only [W0, W1, W2, W3, W4, W5, W6, W7, W8, St.put, Option.bind_some, Option.map_some, ↓reduceIte, Nat.reduceEqDiff, Nat.reduceAdd, Nat.reduceMul, reduceCtorEq, cond_true, cond_false, Int.reduceEq, Int.reduceLT, Int.reduceLE, if_true, if_false, m3, m4, cfB_c0, take_hd, hv]
  exact call_tree (by kernel_rfl) (by kernel_rfl) (mem1 (Tree.pr p)) rfl (Tree.val _) ⟨h', ha⟩ h

theorem check_call34 (p : Pr) (hb : p.nodes < 2 ^ 61) (h : AH) : RunCall E1 (.f 34) [p.av] h (.val (.int .i64 (ckS Nb p))) h := by
  refine call_tree (by kernel_rfl) (by kernel_rfl) (mem1 (Tree.pr p)) rfl (Tree.val _) (ans1s f34_ok fun s hs hh hd => ?_) h
  have h0 := hs 0 _ rfl
  by_cases z1 : 400 < p.nodes
  · have c1 : decide (400 < ((p.nodes : Nat) : Int)) = true := decide_eq_true (by omega)
    have hv : ckS Nb p = 7 := by unfold ckS; rw [if_pos z1]
    simp -implicitDefEqProofs only [f34_fn, f34, W0, W1, W2, W3, W4, W5, W6, W7, W8, St.put, Option.bind_some, Option.map_some, ↓reduceIte, Nat.reduceEqDiff, Nat.reduceAdd, Nat.reduceMul, reduceCtorEq, cond_true, cond_false, Int.reduceEq, Int.reduceLT, Int.reduceLE, if_true, if_false, h0, hh, hd, callK_all (nodes_call4 p hb), c1, hv]
  · have c1 : decide (400 < ((p.nodes : Nat) : Int)) = false := decide_eq_false (by omega)
    by_cases z2 : 40 < p.depth
    · have c2 : decide (40 < ((p.depth : Nat) : Int)) = true := decide_eq_true (by omega)
      have hv : ckS Nb p = 8 := by unfold ckS; rw [if_neg z1, if_pos z2]
      simp -implicitDefEqProofs only [f34_fn, f34, W0, W1, W2, W3, W4, W5, W6, W7, W8, St.put, Option.bind_some, Option.map_some, ↓reduceIte, Nat.reduceEqDiff, Nat.reduceAdd, Nat.reduceMul, reduceCtorEq, cond_true, cond_false, Int.reduceEq, Int.reduceLT, Int.reduceLE, if_true, if_false, h0, hh, hd, callK_all (nodes_call4 p hb), callK_all (depth_call63 p hb), c1, c2, hv]
    · have c2 : decide (40 < ((p.depth : Nat) : Int)) = false := decide_eq_false (by omega)
      have hv : ckS Nb p = chk Nb p := by unfold ckS; rw [if_neg z1, if_neg z2]
      simp -implicitDefEqProofs only [f34_fn, f34, W0, W1, W2, W3, W4, W5, W6, W7, W8, St.put, Option.bind_some, Option.map_some, ↓reduceIte, Nat.reduceEqDiff, Nat.reduceAdd, Nat.reduceMul, reduceCtorEq, cond_true, cond_false, Int.reduceEq, Int.reduceLT, Int.reduceLE, if_true, if_false, h0, hh, hd, callK_all (nodes_call4 p hb), callK_all (depth_call63 p hb), callK_all (form_call64 Nb Nb_call p hb), c1, c2, hv]

/-! ### what the checks mean for the values -/
mutual
theorem chk_ok (N : Pr → Int) (hN : ∀ q, ¬ isNamed q → N q = 0 → okNode q) : ∀ p : Pr, chk N p = 0 → okAll p
  | .mk o nm n ks nl cap, h => by
    simp only [chk] at h
    simp only [okAll]
    split at h
    · rename_i z
      refine ⟨?_, chkL_ok N hN ks h⟩
      rcases Classical.em (isNamed (.mk o nm n ks nl cap)) with q | q
      · exact .inl q
      · exact .inr (hN _ q z)
    · rename_i z
      exact absurd h z
theorem chkL_ok (N : Pr → Int) (hN : ∀ q, ¬ isNamed q → N q = 0 → okNode q) : ∀ l : List Pr, chkL N l = 0 → okAllL l
  | [], _ => by simp only [okAllL]
  | k :: r, h => by
    simp only [chkL] at h
    simp only [okAllL]
    split at h
    · rename_i z
      exact ⟨chk_ok N hN k z, chkL_ok N hN r h⟩
    · rename_i z
      exact absurd h z
end

mutual
theorem chk_part (N M : Pr → Int) (hNM : ∀ q, ¬ isNamed q → N q = M q) : ∀ p : Pr, chk N p = 0 → chk M p ≠ 0 → ev p = (0, false)
  | .mk o nm n ks nl cap, h, k => by
    simp only [chk] at h k
    split at h
    · rename_i z
      rcases Classical.em (isNamed (.mk o nm n ks nl cap)) with q | q
      · simp only [ev]
        cases evL ks with
        | none => rfl
        | some l =>
          have q : o = 3 ∨ o = 4 ∨ o = 5 := q
          simp only [evN]
          rw [if_neg (by omega), if_pos q]
      · rw [← hNM _ q, if_pos z] at k
        simp only [ev, chkL_part N M hNM ks h k]
    · rename_i z
      exact absurd h z
theorem chkL_part (N M : Pr → Int) (hNM : ∀ q, ¬ isNamed q → N q = M q) : ∀ l : List Pr, chkL N l = 0 → chkL M l ≠ 0 → evL l = none
  | [], _, k => absurd (by simp only [chkL]) k
  | a :: r, h, k => by
    simp only [chkL] at h k
    split at h
    · rename_i z
      split at k
      · have e := chkL_part N M hNM r h k
        simp only [evL, e]
        split <;> rfl
      · rename_i y
        have e := chk_part N M hNM a z y
        simp only [evL, e]
    · rename_i z
      exact absurd h z
end

theorem okP_f0 (n : Int) (b : Bool) (h : (okP n b).2 = false) : okP n b = (0, false) := by
  unfold okP at *
  cases hb : (b && inB n) with
  | true => rw [hb] at h; cases h
  | false => rfl
theorem arith_f0 (a b c : Int) (h : (arith a b c).2 = false) : arith a b c = (0, false) := by
  unfold arith at *
  cases hb : (inB a && inB b) with
  | true => rw [hb] at h; exact okP_f0 _ _ h
  | false => rfl
theorem opS_f0 (o a b : Int) (h : (opS o a b).2 = false) : opS o a b = (0, false) := by
  unfold opS at *
  by_cases c6 : o = 6
  · rw [if_pos c6] at h ⊢
    exact arith_f0 _ _ _ h
  rw [if_neg c6] at h ⊢
  by_cases c7 : o = 7
  · rw [if_pos c7] at h ⊢
    exact arith_f0 _ _ _ h
  rw [if_neg c7] at h ⊢
  by_cases c8 : o = 8
  · rw [if_pos c8] at h ⊢
    exact arith_f0 _ _ _ h
  rw [if_neg c8] at h ⊢
  by_cases c9 : o = 9
  · rw [if_pos c9] at h ⊢
    exact arith_f0 _ _ _ h
  rw [if_neg c9] at h ⊢
  by_cases c10 : o = 10
  · rw [if_pos c10] at h
    cases h
  rw [if_neg c10] at h ⊢
  by_cases c11 : o = 11
  · rw [if_pos c11] at h
    cases h
  rw [if_neg c11] at h ⊢
  by_cases c12 : o = 12
  · rw [if_pos c12] at h
    cases h
  rw [if_neg c12] at h ⊢
  by_cases c13 : o = 13
  · rw [if_pos c13] at h
    cases h
  rw [if_neg c13] at h ⊢
  by_cases c14 : o = 14
  · rw [if_pos c14] at h
    cases h
  rw [if_neg c14] at h ⊢
  by_cases c15 : o = 15
  · rw [if_pos c15] at h
    cases h
  rw [if_neg c15] at h ⊢
  by_cases c16 : o = 16
  · rw [if_pos c16] at h
    cases h
  rw [if_neg c16] at h ⊢
  by_cases c17 : o = 17
  · rw [if_pos c17] at h
    cases h
  rw [if_neg c17] at h ⊢
  cases h
theorem evN_f0 (o n : Int) (l : List Int) (h : (evN o n l).2 = false) : evN o n l = (0, false) := by
  unfold evN at *
  by_cases c : o = 1 ∨ o = 2
  · rw [if_pos c] at h; cases h
  · rw [if_neg c] at h ⊢
    by_cases d : o = 3 ∨ o = 4 ∨ o = 5
    · rw [if_pos d]
    · rw [if_neg d] at h ⊢
      match l, h with
      | [], _ => rfl
      | [a], h => exact opS_f0 _ _ _ h
      | a :: b :: _, h => exact opS_f0 _ _ _ h
theorem ev_f0 (p : Pr) (h : (ev p).2 = false) : ev p = (0, false) := by
  rw [ev_eq] at *
  cases e : evL p.ks with
  | none => rfl
  | some l =>
    rw [e] at h
    exact evN_f0 _ _ _ h

/-- What both sides answer. -/
noncomputable def evS (N : Pr → Int) (p : Pr) : Int × Bool := if ckS N p = 0 then ev p else (0, false)
theorem evS_same (p : Pr) : evS Na p = evS Nb p := by
  unfold evS ckS
  by_cases z1 : 400 < p.nodes
  · rw [if_pos z1, if_pos z1]
  · by_cases z2 : 40 < p.depth
    · rw [if_neg z1, if_neg z1, if_pos z2, if_pos z2]
    · rw [if_neg z1, if_neg z1, if_neg z2, if_neg z2]
      by_cases a : chk Na p = 0
      · by_cases b : chk Nb p = 0
        · rw [if_pos a, if_pos b]
        · rw [if_pos a, if_neg b]
          exact chk_part Na Nb (fun q h => Na_Nb h) p a b
      · by_cases b : chk Nb p = 0
        · rw [if_neg a, if_pos b]
          exact (chk_part Nb Na (fun q h => (Na_Nb h).symm) p b a).symm
        · rw [if_neg a, if_neg b]
theorem ckS_small {N : Pr → Int} {p : Pr} (h : ckS N p = 0) : p.nodes ≤ 400 ∧ chk N p = 0 := by
  unfold ckS at h
  split at h
  · cases h
  · split at h
    · cases h
    · exact ⟨by omega, h⟩

theorem eval_call19 (p : Pr) (hb : p.nodes < 2 ^ 61) (h : AH) : RunCall E1 (.f 19) [p.av, .val (.slice none 0 0), .val (.slice none 0 0)] h (prA (evS Na p)) h := by
  refine call_tree (by kernel_rfl) (by kernel_rfl) (mem3 (Tree.pr _) (Tree.val _) (Tree.val _)) rfl (Tree.two _ _) (ans2s (rs := [.val (.int .i64 (evS Na p).1), .val (.bool (evS Na p).2)]) f19_ok fun s hs hh hd => ?_) h
  have h0 := hs 0 _ rfl
  have h1 := hs 1 _ rfl
  have h2 := hs 2 _ rfl
  by_cases k : ckS Na p = 0
  · have k' : decide (ckS Na p = 0) = true := decide_eq_true k
    obtain ⟨hn, hk⟩ := ckS_small k
    have hok := chk_ok Na (fun q => Na_ok) p hk
    have hv : evS Na p = ev p := by unfold evS; rw [if_pos k]
    have hf2 := fun (s : St) (h1 : s.eval (.t 14) = some (.val (.slice none 0 0))) (h2 : s.eval (.t 15) = some (.val (.slice none 0 0))) z w => fill_two (s := s) (z := z) (w := w) h1 h2
    obtain ⟨⟨x, ok⟩, hx⟩ : ∃ q, ev p = q := ⟨_, rfl⟩
    have hc := value_call33 p hok hn
    rw [hx] at hc hv
    cases ok with
    | true => simp -implicitDefEqProofs only [f19_fn, f19, W0, W1, W2, W3, W4, W5, W6, W7, W8, St.put, Option.bind_some, Option.map_some, ↓reduceIte, Nat.reduceEqDiff, Nat.reduceAdd, Nat.reduceMul, reduceCtorEq, cond_true, cond_false, Int.reduceEq, Int.reduceLT, Int.reduceLE, if_true, if_false, h0, h1, h2, hh, hd, callK_all (check_call32 p hb), k', hf2, callK_all hc, prA, hv]
    | false =>
      have e0 := ev_f0 p (by rw [hx])
      rw [hx] at e0
      have x0 : x = 0 := congrArg Prod.fst e0
      subst x0
      simp -implicitDefEqProofs only [f19_fn, f19, W0, W1, W2, W3, W4, W5, W6, W7, W8, St.put, Option.bind_some, Option.map_some, ↓reduceIte, Nat.reduceEqDiff, Nat.reduceAdd, Nat.reduceMul, reduceCtorEq, cond_true, cond_false, Int.reduceEq, Int.reduceLT, Int.reduceLE, if_true, if_false, h0, h1, h2, hh, hd, callK_all (check_call32 p hb), k', hf2, callK_all hc, prA, hv]
  · have k' : decide (ckS Na p = 0) = false := decide_eq_false k
    have hv : evS Na p = (0, false) := by unfold evS; rw [if_neg k]
    simp -implicitDefEqProofs only [f19_fn, f19, W0, W1, W2, W3, W4, W5, W6, W7, W8, St.put, Option.bind_some, Option.map_some, ↓reduceIte, Nat.reduceEqDiff, Nat.reduceAdd, Nat.reduceMul, reduceCtorEq, cond_true, cond_false, Int.reduceEq, Int.reduceLT, Int.reduceLE, if_true, if_false, h0, h1, h2, hh, hd, callK_all (check_call32 p hb), k', hv]

theorem eval_call20 (p : Pr) (hb : p.nodes < 2 ^ 61) (h : AH) : RunCall E1 (.f 20) [p.av, .val (.slice none 0 0), .val (.slice none 0 0)] h (prA (evS Nb p)) h := by
  refine call_tree (by kernel_rfl) (by kernel_rfl) (mem3 (Tree.pr _) (Tree.val _) (Tree.val _)) rfl (Tree.two _ _) (ans2s (rs := [.val (.int .i64 (evS Nb p).1), .val (.bool (evS Nb p).2)]) f20_ok fun s hs hh hd => ?_) h
  have h0 := hs 0 _ rfl
  have h1 := hs 1 _ rfl
  have h2 := hs 2 _ rfl
  by_cases k : ckS Nb p = 0
  · have k' : decide (ckS Nb p = 0) = true := decide_eq_true k
    obtain ⟨hn, hk⟩ := ckS_small k
    have hok := chk_ok Nb (fun q => Nb_ok) p hk
    have hv : evS Nb p = ev p := by unfold evS; rw [if_pos k]
    have hc := value_call35 p hok hn
    simp -implicitDefEqProofs only [f20_fn, f20, W0, W1, W2, W3, W4, W5, W6, W7, W8, St.put, Option.bind_some, Option.map_some, ↓reduceIte, Nat.reduceEqDiff, Nat.reduceAdd, Nat.reduceMul, reduceCtorEq, cond_true, cond_false, Int.reduceEq, Int.reduceLT, Int.reduceLE, if_true, if_false, h0, h1, h2, hh, hd, callK_all (check_call34 p hb), k', callK_all hc, prA, hv]
  · have k' : decide (ckS Nb p = 0) = false := decide_eq_false k
    have hv : evS Nb p = (0, false) := by unfold evS; rw [if_neg k]
    simp -implicitDefEqProofs only [f20_fn, f20, W0, W1, W2, W3, W4, W5, W6, W7, W8, St.put, Option.bind_some, Option.map_some, ↓reduceIte, Nat.reduceEqDiff, Nat.reduceAdd, Nat.reduceMul, reduceCtorEq, cond_true, cond_false, Int.reduceEq, Int.reduceLT, Int.reduceLE, if_true, if_false, h0, h1, h2, hh, hd, callK_all (check_call34 p hb), k', hv]

theorem ground_call6 (p : Pr) (hb : p.nodes < 2 ^ 61) (h : AH) : RunCall E1 (.f 6) [p.av] h (prA (evS Na p)) h := by
  refine call_tree (by kernel_rfl) (by kernel_rfl) (mem1 (Tree.pr _)) rfl (Tree.two _ _) (ans2s (rs := [.val (.int .i64 (evS Na p).1), .val (.bool (evS Na p).2)]) f6_ok fun s hs hh hd => ?_) h
  have h0 := hs 0 _ rfl
  simp -implicitDefEqProofs only [f6_fn, f6, W0, W1, W2, W3, W4, W5, W6, W7, W8, St.put, Option.bind_some, Option.map_some, ↓reduceIte, Nat.reduceEqDiff, Nat.reduceAdd, Nat.reduceMul, reduceCtorEq, cond_true, cond_false, Int.reduceEq, Int.reduceLT, Int.reduceLE, if_true, if_false, h0, hh, hd, callK_all (eval_call19 p hb), prA]
theorem ground_call7 (p : Pr) (hb : p.nodes < 2 ^ 61) (h : AH) : RunCall E1 (.f 7) [p.av] h (prA (evS Nb p)) h := by
  refine call_tree (by kernel_rfl) (by kernel_rfl) (mem1 (Tree.pr _)) rfl (Tree.two _ _) (ans2s (rs := [.val (.int .i64 (evS Nb p).1), .val (.bool (evS Nb p).2)]) f7_ok fun s hs hh hd => ?_) h
  have h0 := hs 0 _ rfl
  simp -implicitDefEqProofs only [f7_fn, f7, W0, W1, W2, W3, W4, W5, W6, W7, W8, St.put, Option.bind_some, Option.map_some, ↓reduceIte, Nat.reduceEqDiff, Nat.reduceAdd, Nat.reduceMul, reduceCtorEq, cond_true, cond_false, Int.reduceEq, Int.reduceLT, Int.reduceLE, if_true, if_false, h0, hh, hd, callK_all (eval_call20 p hb), prA]

theorem alive_call (h : AH) : RunCall E1 (.f 5) [] h (.val (.bool true)) h := by
  refine Ev.of fun n => ?_
  have hs : E1.shared.get 5 = none := by kernel_rfl
  have hk : E1.known 5 [] = some (.val (.bool true)) := by kernel_rfl
  simp only [callA, callF, hs, mapTree, hk, List.foldl_nil]
  rfl

/-- The law answers true. -/
theorem law_ans (p : Pr) (hb : p.nodes < 2 ^ 61) : Ans E1 3 [p.av] (.val (.bool true)) := by
  refine ans1s f3_ok fun s hs hh hd => ?_
  have h0 := hs 0 _ rfl
  have be : binA E1.P .eql 4 false (.val (.bool (evS Nb p).2)) (.val (.bool (evS Nb p).2)) = some (.val (.bool true)) := by cases (evS Nb p).2 <;> kernel_rfl
  have h6 := ground_call6 p hb
  rw [evS_same p] at h6
  have e1 : decide ((evS Nb p).1 = (evS Nb p).1) = true := decide_eq_true rfl
  by_cases z1 : 600 < p.nodes
  · have c1 : decide (600 < ((p.nodes : Nat) : Int)) = true := decide_eq_true (by omega)
    simp -implicitDefEqProofs only [f3_fn, f3, W0, W1, W2, W3, W4, W5, W6, W7, W8, St.put, Option.bind_some, Option.map_some, ↓reduceIte, Nat.reduceEqDiff, Nat.reduceAdd, Nat.reduceMul, reduceCtorEq, cond_true, cond_false, Int.reduceEq, Int.reduceLT, Int.reduceLE, if_true, if_false, h0, hh, hd, callK_all (nodes_call4 p hb), c1, callK_all alive_call]
  · have c1 : decide (600 < ((p.nodes : Nat) : Int)) = false := decide_eq_false (by omega)
    simp -implicitDefEqProofs only [f3_fn, f3, W0, W1, W2, W3, W4, W5, W6, W7, W8, St.put, Option.bind_some, Option.map_some, ↓reduceIte, Nat.reduceEqDiff, Nat.reduceAdd, Nat.reduceMul, reduceCtorEq, cond_true, cond_false, Int.reduceEq, Int.reduceLT, Int.reduceLE, if_true, if_false, h0, hh, hd, callK_all (nodes_call4 p hb), c1, callK_all alive_call, callK_all h6, callK_all (ground_call7 p hb), prA, e1, be]

end Go.Proofs.YtbolilekjpoicaaGreatDoor
