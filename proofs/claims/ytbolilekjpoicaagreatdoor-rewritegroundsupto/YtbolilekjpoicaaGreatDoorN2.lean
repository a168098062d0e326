/- A part of the proof of the law RewriteGrounds: XRefn XRefc. -/
import Derived.Test.YtbolilekjpoicaaGreatDoorW1
import Derived.Test.YtbolilekjpoicaaGreatDoorN1

set_option linter.all false

namespace Go.Proofs.YtbolilekjpoicaaGreatDoor
open Go Go.AM
set_option linter.all false
set_option maxHeartbeats 4000000

def refKw : List ByteArray := [⟨#[97, 110, 100]⟩, ⟨#[97, 115, 115, 117, 109, 101]⟩, ⟨#[98, 111, 111, 108]⟩, ⟨#[98, 111, 117, 110, 100]⟩, ⟨#[99, 97, 115, 101]⟩, ⟨#[99, 101, 108, 108]⟩, ⟨#[99, 108, 97, 115, 115]⟩, ⟨#[100, 97, 116, 97]⟩, ⟨#[100, 101, 102]⟩, ⟨#[100, 105, 118]⟩, ⟨#[101, 108, 115, 101]⟩, ⟨#[101, 110, 100]⟩, ⟨#[102, 97, 108, 115, 101]⟩, ⟨#[102, 111, 114, 97, 108, 108]⟩, ⟨#[102, 117, 110]⟩, ⟨#[103, 101, 116]⟩, ⟨#[105, 102]⟩, ⟨#[105, 110]⟩, ⟨#[105, 110, 115, 116]⟩, ⟨#[105, 110, 116]⟩, ⟨#[105, 110, 118, 97, 114, 105, 97, 110, 116]⟩, ⟨#[108, 101, 116]⟩, ⟨#[109, 97, 116, 99, 104]⟩, ⟨#[109, 101, 97, 115, 117, 114, 101]⟩, ⟨#[109, 101, 116, 114, 105, 99]⟩, ⟨#[109, 111, 100]⟩, ⟨#[109, 117]⟩, ⟨#[110, 101, 119]⟩, ⟨#[110, 111, 116]⟩, ⟨#[111, 102]⟩, ⟨#[111, 114]⟩, ⟨#[113, 117, 97, 108]⟩, ⟨#[114, 101, 102, 108, 101, 99, 116]⟩, ⟨#[115, 101, 116]⟩, ⟨#[116, 104, 101, 110]⟩, ⟨#[116, 114, 117, 101]⟩, ⟨#[117, 115, 101]⟩, ⟨#[118]⟩, ⟨#[118, 97, 108]⟩, ⟨#[116, 97, 103]⟩, ⟨#[119, 104, 101, 114, 101]⟩, ⟨#[119, 105, 116, 104]⟩]

def kwHeap : AH := AH.empty.alloc (.cells (strs refKw) true)
theorem kw_run (n : Nat) : enterA E1 (exec E1 (n + 10)) 321 [] .empty = some (.own 0 0 42 1 (some 42), kwHeap) := by kernel_rfl
theorem kw_call (h : AH) : RunCall E1 (.f 321) [] h (.imm (strs refKw) 42 (some 42)) h :=
  call_own (by kernel_rfl) (by kernel_rfl) (fun v hv => (by cases hv)) ⟨10, fun n hn => by obtain ⟨m, rfl⟩ : ∃ m, n = m + 10 := ⟨n - 10, by omega⟩; exact kw_run m⟩ (cs := strs refKw) (rw := true) (by kernel_rfl) (by kernel_rfl) (strs_leaf _) h

theorem f43_loop (l : List ByteArray) (cap : Option Nat) (b : ByteArray) (hb : l.length < 2 ^ 61) : ∀ (r : List ByteArray) (i : Nat) (s : St), l.drop i = r → i ≤ l.length → s.eval (.t 0) = some (.imm (strs l) l.length cap) → s.eval (.t 6) = some (.imm (strs l) l.length cap) → s.eval (.t 1) = some (.val (.string b)) → s.eval (.t 7) = some (.val (.int .i64 (l.length : Nat))) → s.eval (.t 8) = some (.val (.int .i64 i)) → s.defers = [] →
    Run E1 f43_l0 s fun e s' => s'.defers = [] ∧ (e = .exit 0 ∨ e = .ret ∧ ∃ x, s'.eval (.t 4) = some (.val (.int .i64 x)))
  | [], i, s, hr, hi, h0, h6, h1, h7, h8, hd => by
    have hl : i = l.length := by
      have := List.drop_eq_nil_iff.1 hr
      omega
    have hlt : decide ((i : Int) < (l.length : Nat)) = false := decide_eq_false (by omega)
    apply loop_of (rfl : f43_l0 = .loop f43_b0)
    simp -implicitDefEqProofs only [f43_b0, W0, W1, W2, W3, W4, W5, W6, W7, W8, St.put, Option.bind_some, Option.map_some, ↓reduceIte, Nat.reduceEqDiff, Nat.reduceAdd, Nat.reduceMul, reduceCtorEq, cond_true, cond_false, Int.reduceEq, Int.reduceLT, Int.reduceLE, if_true, if_false, h0, h1, h6, h7, h8, hd, hlt]
  | a :: r, i, s, hr, hi, h0, h6, h1, h7, h8, hd => by
    have hl : i < l.length := by
      rcases Nat.lt_or_ge i l.length with x | x
      · exact x
      · rw [List.drop_eq_nil_of_le x] at hr; cases hr
    have hr' : l.drop (i + 1) = r := by rw [← List.drop_drop, hr]; rfl
    have hlt : decide ((i : Int) < (l.length : Nat)) = true := decide_eq_true (by omega)
    have w1 : IntKind.i64.wrap ((i : Int) + 1) = ((i + 1 : Nat) : Int) := wrap_nat (n := i + 1) (by omega)
    obtain ⟨B1, e1⟩ : ∃ B, strEq a b = B := ⟨_, rfl⟩
    apply loop_of (rfl : f43_l0 = .loop f43_b0)
    cases B1 <;> simp -implicitDefEqProofs only [f43_b0, W0, W1, W2, W3, W4, W5, W6, W7, W8, St.put, Option.bind_some, Option.map_some, ↓reduceIte, Nat.reduceEqDiff, Nat.reduceAdd, Nat.reduceMul, reduceCtorEq, cond_true, cond_false, Int.reduceEq, Int.reduceLT, Int.reduceLE, if_true, if_false, h0, h1, h6, h7, h8, hd, hlt, w1, str_at hr, take_hd, e1]
    all_goals first
      | exact ⟨_, rfl⟩
      | exact .inr ⟨_, rfl⟩
      | (refine f43_loop l cap b hb r (i + 1) _ hr' (by omega) ?_ ?_ ?_ ?_ ?_ ?_ <;> simp -implicitDefEqProofs only [W0, W1, W2, W3, W4, W5, W6, W7, W8, St.put, Option.bind_some, Option.map_some, ↓reduceIte, Nat.reduceEqDiff, Nat.reduceAdd, Nat.reduceMul, reduceCtorEq, cond_true, cond_false, Int.reduceEq, Int.reduceLT, Int.reduceLE, if_true, if_false, h0, h1, h6, h7, hd])

theorem find_ans (l : List ByteArray) (hb : l.length < 2 ^ 61) (cap : Option Nat) (b : ByteArray) : ∃ x, ∀ h, RunCall E1 (.f 43) [.imm (strs l) l.length cap, .val (.string b)] h (.val (.int .i64 x)) h := by
  obtain ⟨r, ⟨x, hx⟩, ha⟩ := ansE (g := 43) (l := [.imm (strs l) l.length cap, .val (.string b)]) (P := fun r => ∃ x, r = .val (.int .i64 x)) f43_ok fun s hs hh hd => by
    have h0 := hs 0 _ rfl
    have h1 := hs 1 _ rfl
    simp -implicitDefEqProofs only [f43_fn, f43, W0, W1, W2, W3, W4, W5, W6, W7, W8, St.put, Option.bind_some, Option.map_some, ↓reduceIte, Nat.reduceEqDiff, Nat.reduceAdd, Nat.reduceMul, reduceCtorEq, cond_true, cond_false, Int.reduceEq, Int.reduceLT, Int.reduceLE, if_true, if_false, len_imm, h0, h1, hh, hd]
    refine (f43_loop l cap b hb l 0 _ rfl (Nat.zero_le _) ?_ ?_ ?_ ?_ ?_ ?_).mono ?_
    · simp -implicitDefEqProofs only [W0, W1, W2, W3, W4, W5, W6, W7, W8, St.put, Option.bind_some, Option.map_some, ↓reduceIte, Nat.reduceEqDiff, Nat.reduceAdd, Nat.reduceMul, reduceCtorEq, cond_true, cond_false, Int.reduceEq, Int.reduceLT, Int.reduceLE, if_true, if_false, h0]
    · simp -implicitDefEqProofs only [W0, W1, W2, W3, W4, W5, W6, W7, W8, St.put, Option.bind_some, Option.map_some, ↓reduceIte, Nat.reduceEqDiff, Nat.reduceAdd, Nat.reduceMul, reduceCtorEq, cond_true, cond_false, Int.reduceEq, Int.reduceLT, Int.reduceLE, if_true, if_false, h0]
    · simp -implicitDefEqProofs only [W0, W1, W2, W3, W4, W5, W6, W7, W8, St.put, Option.bind_some, Option.map_some, ↓reduceIte, Nat.reduceEqDiff, Nat.reduceAdd, Nat.reduceMul, reduceCtorEq, cond_true, cond_false, Int.reduceEq, Int.reduceLT, Int.reduceLE, if_true, if_false, h1]
    · simp -implicitDefEqProofs only [W0, W1, W2, W3, W4, W5, W6, W7, W8, St.put, Option.bind_some, Option.map_some, ↓reduceIte, Nat.reduceEqDiff, Nat.reduceAdd, Nat.reduceMul, reduceCtorEq, cond_true, cond_false, Int.reduceEq, Int.reduceLT, Int.reduceLE, if_true, if_false]
    · simp -implicitDefEqProofs only [W0, W1, W2, W3, W4, W5, W6, W7, W8, St.put, Option.bind_some, Option.map_some, ↓reduceIte, Nat.reduceEqDiff, Nat.reduceAdd, Nat.reduceMul, reduceCtorEq, cond_true, cond_false, Int.reduceEq, Int.reduceLT, Int.reduceLE, if_true, if_false] <;> rfl
    · simp -implicitDefEqProofs only [W0, W1, W2, W3, W4, W5, W6, W7, W8, St.put, Option.bind_some, Option.map_some, ↓reduceIte, Nat.reduceEqDiff, Nat.reduceAdd, Nat.reduceMul, reduceCtorEq, cond_true, cond_false, Int.reduceEq, Int.reduceLT, Int.reduceLE, if_true, if_false, hd]
    · rintro e s' ⟨hf, rfl | ⟨rfl, x, h2⟩⟩
      · have : Nat.beq 0 0 = true := rfl
        simp -implicitDefEqProofs only [W0, W1, W2, W3, W4, W5, W6, W7, W8, St.put, Option.bind_some, Option.map_some, ↓reduceIte, Nat.reduceEqDiff, Nat.reduceAdd, Nat.reduceMul, reduceCtorEq, cond_true, cond_false, Int.reduceEq, Int.reduceLT, Int.reduceLE, if_true, if_false, this, hf]
        exact ⟨_, ⟨_, rfl⟩, rfl⟩
      · simp -implicitDefEqProofs only [W0, W1, W2, W3, W4, W5, W6, W7, W8, St.put, Option.bind_some, Option.map_some, ↓reduceIte, Nat.reduceEqDiff, Nat.reduceAdd, Nat.reduceMul, reduceCtorEq, cond_true, cond_false, Int.reduceEq, Int.reduceLT, Int.reduceLE, if_true, if_false, hf, h2]
        exact ⟨_, ⟨_, rfl⟩, rfl⟩
  subst hx
  exact ⟨x, call_tree (by kernel_rfl) (by kernel_rfl) (mem2 (Leaf.imm _ _ _).tree (Tree.val _)) rfl (Tree.val _) ha⟩

theorem rkw_ans (b : ByteArray) : ∃ x, ∀ h, RunCall E1 (.f 281) [.val (.string b)] h (.val (.bool x)) h := by
  obtain ⟨n, hn⟩ := find_ans refKw (by show (42 : Nat) < 2 ^ 61; omega) (some 42) b
  have hn : ∀ h, RunCall E1 (.f 43) [.imm (strs refKw) 42 (some 42), .val (.string b)] h (.val (.int .i64 n)) h := hn
  obtain ⟨r, ⟨x, hx⟩, ha⟩ := ansE (g := 281) (l := [.val (.string b)]) (P := fun r => ∃ x, r = .val (.bool x)) f281_ok fun s hs hh hd => by
    have h0 := hs 0 _ rfl
    simp -implicitDefEqProofs only [f281_fn, f281, W0, W1, W2, W3, W4, W5, W6, W7, W8, St.put, Option.bind_some, Option.map_some, ↓reduceIte, Nat.reduceEqDiff, Nat.reduceAdd, Nat.reduceMul, reduceCtorEq, cond_true, cond_false, Int.reduceEq, Int.reduceLT, Int.reduceLE, if_true, if_false, h0, hh, hd, callK_all kw_call, callK_all hn]
    exact ⟨_, ⟨_, rfl⟩, rfl⟩
  subst hx
  exact ⟨x, call_tree (by kernel_rfl) (by kernel_rfl) (mem1 (Tree.val _)) rfl (Tree.val _) ha⟩

theorem f242_loop (b : ByteArray) (hb : b.size < 2 ^ 61) : ∀ (n i : Nat) (s : St), i + n = b.size → s.eval (.t 0) = some (.val (.string b)) → s.eval (.t 23) = some (.val (.int .i64 (b.size : Nat))) → s.eval (.t 24) = some (.val (.int .i64 i)) → s.defers = [] →
    Run E1 f242_l0 s fun e s' => s'.defers = [] ∧ (e = .exit 0 ∨ e = .ret ∧ ∃ x, s'.eval (.t 2) = some (.val (.int .i64 x)))
  | 0, i, s, hi, h0, h4, h3, hd => by
    have hlt : decide ((i : Int) < (b.size : Nat)) = false := decide_eq_false (by omega)
    apply loop_of (rfl : f242_l0 = .loop f242_b0)
    simp -implicitDefEqProofs only [f242_b0, W0, W1, W2, W3, W4, W5, W6, W7, W8, St.put, Option.bind_some, Option.map_some, ↓reduceIte, Nat.reduceEqDiff, Nat.reduceAdd, Nat.reduceMul, reduceCtorEq, cond_true, cond_false, Int.reduceEq, Int.reduceLT, Int.reduceLE, if_true, if_false, len_str, h0, h3, h4, hd, hlt]
  | n + 1, i, s, hi, h0, h4, h3, hd => by
    have hlt : decide ((i : Int) < (b.size : Nat)) = true := decide_eq_true (by omega)
    have w1 : IntKind.i64.wrap ((i : Int) + 1) = ((i + 1 : Nat) : Int) := wrap_nat (n := i + 1) (by omega)
    obtain ⟨c, hc⟩ := idx_str (b := b) (i := i) (by omega)
    obtain ⟨B1, e1⟩ : ∃ B, (decide (97 ≤ (c : Int)) && decide ((c : Int) ≤ 122)) = B := ⟨_, rfl⟩
    obtain ⟨B2, e2⟩ : ∃ B, decide ((c : Int) = 95) = B := ⟨_, rfl⟩
    obtain ⟨B3, e3⟩ : ∃ B, (decide (48 ≤ (c : Int)) && decide ((c : Int) ≤ 57)) = B := ⟨_, rfl⟩
    apply loop_of (rfl : f242_l0 = .loop f242_b0)
    cases B1 <;> cases B2 <;> cases B3 <;> simp -implicitDefEqProofs only [f242_b0, W0, W1, W2, W3, W4, W5, W6, W7, W8, St.put, Option.bind_some, Option.map_some, ↓reduceIte, Nat.reduceEqDiff, Nat.reduceAdd, Nat.reduceMul, reduceCtorEq, cond_true, cond_false, Int.reduceEq, Int.reduceLT, Int.reduceLE, if_true, if_false, len_str, h0, h3, h4, hd, hlt, w1, hc, byte_to280, byte_to282, e1, e2, e3]
    all_goals first
      | exact ⟨_, rfl⟩
      | exact .inr ⟨_, rfl⟩
      | (refine f242_loop b hb n (i + 1) _ (by omega) ?_ ?_ ?_ ?_ <;> simp -implicitDefEqProofs only [W0, W1, W2, W3, W4, W5, W6, W7, W8, St.put, Option.bind_some, Option.map_some, ↓reduceIte, Nat.reduceEqDiff, Nat.reduceAdd, Nat.reduceMul, reduceCtorEq, cond_true, cond_false, Int.reduceEq, Int.reduceLT, Int.reduceLE, if_true, if_false, h0, h4, hd])

theorem f243_loop (b : ByteArray) (hb : b.size < 2 ^ 61) : ∀ (n i : Nat) (s : St), i + n = b.size → s.eval (.t 0) = some (.val (.string b)) → s.eval (.t 35) = some (.val (.int .i64 (b.size : Nat))) → s.eval (.t 36) = some (.val (.int .i64 i)) → s.defers = [] →
    Run E1 f243_l0 s fun e s' => s'.defers = [] ∧ (e = .exit 0 ∨ e = .ret ∧ ∃ x, s'.eval (.t 2) = some (.val (.int .i64 x)))
  | 0, i, s, hi, h0, h4, h3, hd => by
    have hlt : decide ((i : Int) < (b.size : Nat)) = false := decide_eq_false (by omega)
    apply loop_of (rfl : f243_l0 = .loop f243_b0)
    simp -implicitDefEqProofs only [f243_b0, W0, W1, W2, W3, W4, W5, W6, W7, W8, St.put, Option.bind_some, Option.map_some, ↓reduceIte, Nat.reduceEqDiff, Nat.reduceAdd, Nat.reduceMul, reduceCtorEq, cond_true, cond_false, Int.reduceEq, Int.reduceLT, Int.reduceLE, if_true, if_false, len_str, h0, h3, h4, hd, hlt]
  | n + 1, i, s, hi, h0, h4, h3, hd => by
    have hlt : decide ((i : Int) < (b.size : Nat)) = true := decide_eq_true (by omega)
    have w1 : IntKind.i64.wrap ((i : Int) + 1) = ((i + 1 : Nat) : Int) := wrap_nat (n := i + 1) (by omega)
    obtain ⟨c, hc⟩ := idx_str (b := b) (i := i) (by omega)
    obtain ⟨B1, e1⟩ : ∃ B, (decide (97 ≤ (c : Int)) && decide ((c : Int) ≤ 122)) = B := ⟨_, rfl⟩
    obtain ⟨B2, e2⟩ : ∃ B, (decide (65 ≤ (c : Int)) && decide ((c : Int) ≤ 90)) = B := ⟨_, rfl⟩
    obtain ⟨B3, e3⟩ : ∃ B, (decide (48 ≤ (c : Int)) && decide ((c : Int) ≤ 57)) = B := ⟨_, rfl⟩
    apply loop_of (rfl : f243_l0 = .loop f243_b0)
    cases B1 <;> cases B2 <;> cases B3 <;> simp -implicitDefEqProofs only [f243_b0, W0, W1, W2, W3, W4, W5, W6, W7, W8, St.put, Option.bind_some, Option.map_some, ↓reduceIte, Nat.reduceEqDiff, Nat.reduceAdd, Nat.reduceMul, reduceCtorEq, cond_true, cond_false, Int.reduceEq, Int.reduceLT, Int.reduceLE, if_true, if_false, len_str, h0, h3, h4, hd, hlt, w1, hc, byte_to280, byte_to282, byte_to283, e1, e2, e3]
    all_goals first
      | exact ⟨_, rfl⟩
      | exact .inr ⟨_, rfl⟩
      | (refine f243_loop b hb n (i + 1) _ (by omega) ?_ ?_ ?_ ?_ <;> simp -implicitDefEqProofs only [W0, W1, W2, W3, W4, W5, W6, W7, W8, St.put, Option.bind_some, Option.map_some, ↓reduceIte, Nat.reduceEqDiff, Nat.reduceAdd, Nat.reduceMul, reduceCtorEq, cond_true, cond_false, Int.reduceEq, Int.reduceLT, Int.reduceLE, if_true, if_false, h0, h4, hd])

theorem f244_loop (b : ByteArray) (hb : b.size < 2 ^ 61) : ∀ (n i : Nat) (s : St), i + n = b.size → s.eval (.t 0) = some (.val (.string b)) → s.eval (.t 18) = some (.val (.int .i64 (b.size : Nat))) → s.eval (.t 19) = some (.val (.int .i64 i)) → (∃ m, s.eval (.t 3) = some (.val (.bool m))) → (∃ m, s.eval (.t 4) = some (.val (.bool m))) → s.defers = [] →
    Run E1 f244_l0 s fun e s' => s'.defers = [] ∧ e = .exit 0 ∧ ∃ x y, s'.eval (.t 3) = some (.val (.bool x)) ∧ s'.eval (.t 4) = some (.val (.bool y))
  | 0, i, s, hi, h0, h8, h9, ⟨m3, h3⟩, ⟨m4, h4⟩, hd => by
    have hlt : decide ((i : Int) < (b.size : Nat)) = false := decide_eq_false (by omega)
    apply loop_of (rfl : f244_l0 = .loop f244_b0)
    simp -implicitDefEqProofs only [f244_b0, W0, W1, W2, W3, W4, W5, W6, W7, W8, St.put, Option.bind_some, Option.map_some, ↓reduceIte, Nat.reduceEqDiff, Nat.reduceAdd, Nat.reduceMul, reduceCtorEq, cond_true, cond_false, Int.reduceEq, Int.reduceLT, Int.reduceLE, if_true, if_false, len_str, h0, h3, h4, h8, h9, hd, hlt]
    exact ⟨_, _, rfl, rfl⟩
  | n + 1, i, s, hi, h0, h8, h9, ⟨m3, h3⟩, ⟨m4, h4⟩, hd => by
    have hlt : decide ((i : Int) < (b.size : Nat)) = true := decide_eq_true (by omega)
    have w1 : IntKind.i64.wrap ((i : Int) + 1) = ((i + 1 : Nat) : Int) := wrap_nat (n := i + 1) (by omega)
    obtain ⟨c, hc⟩ := idx_str (b := b) (i := i) (by omega)
    obtain ⟨B1, e1⟩ : ∃ B, (decide (97 ≤ (c : Int)) && decide ((c : Int) ≤ 122)) = B := ⟨_, rfl⟩
    obtain ⟨B2, e2⟩ : ∃ B, (decide (65 ≤ (c : Int)) && decide ((c : Int) ≤ 90)) = B := ⟨_, rfl⟩
    obtain ⟨B3, e3⟩ : ∃ B, (decide (48 ≤ (c : Int)) && decide ((c : Int) ≤ 57)) = B := ⟨_, rfl⟩
    obtain ⟨B4, e4⟩ : ∃ B, decide ((c : Int) = 95) = B := ⟨_, rfl⟩
    apply loop_of (rfl : f244_l0 = .loop f244_b0)
    cases m3 <;> cases m4 <;> cases B1 <;> cases B2 <;> cases B3 <;> cases B4 <;> simp -implicitDefEqProofs only [f244_b0, W0, W1, W2, W3, W4, W5, W6, W7, W8, St.put, Option.bind_some, Option.map_some, ↓reduceIte, Nat.reduceEqDiff, Nat.reduceAdd, Nat.reduceMul, reduceCtorEq, cond_true, cond_false, Int.reduceEq, Int.reduceLT, Int.reduceLE, if_true, if_false, len_str, h0, h3, h4, h8, h9, hd, hlt, w1, hc, byte_to280, byte_to282, byte_to283, e1, e2, e3, e4]
    all_goals
      refine f244_loop b hb n (i + 1) _ (by omega) ?_ ?_ ?_ ?_ ?_ ?_
      all_goals first
        | (simp -implicitDefEqProofs only [W0, W1, W2, W3, W4, W5, W6, W7, W8, St.put, Option.bind_some, Option.map_some, ↓reduceIte, Nat.reduceEqDiff, Nat.reduceAdd, Nat.reduceMul, reduceCtorEq, cond_true, cond_false, Int.reduceEq, Int.reduceLT, Int.reduceLE, if_true, if_false, h0, h8, hd]; done)
        | (simp -implicitDefEqProofs only [W0, W1, W2, W3, W4, W5, W6, W7, W8, St.put, Option.bind_some, Option.map_some, ↓reduceIte, Nat.reduceEqDiff, Nat.reduceAdd, Nat.reduceMul, reduceCtorEq, cond_true, cond_false, Int.reduceEq, Int.reduceLT, Int.reduceLE, if_true, if_false, h0, h8, hd]; exact ⟨_, rfl⟩)

theorem rchk_ans242 (b : ByteArray) (hb : b.size < 2 ^ 61) : ∃ x, ∀ h, RunCall E1 (.f 242) [.val (.string b)] h (.val (.int .i64 x)) h := by
  obtain ⟨A, hA⟩ := rkw_ans b
  obtain ⟨r, ⟨x, hx⟩, ha⟩ := ansE (g := 242) (l := [.val (.string b)]) (P := fun r => ∃ x, r = .val (.int .i64 x)) f242_ok fun s hs hh hd => by
    have h0 := hs 0 _ rfl
    have hbeq : Nat.beq 0 0 = true := rfl
    by_cases hz : 1 ≤ b.size
    · obtain ⟨c, hc⟩ := idx_str (b := b) (i := 0) (by omega)
      have z1 : decide (((b.size : Nat) : Int) < 1) = false := decide_eq_false (by omega)
      obtain ⟨B0, e0⟩ : ∃ B, decide (24 < ((b.size : Nat) : Int)) = B := ⟨_, rfl⟩
      obtain ⟨B1, e1⟩ : ∃ B, (decide (97 ≤ (c : Int)) && decide ((c : Int) ≤ 122)) = B := ⟨_, rfl⟩
      obtain ⟨B2, e2⟩ : ∃ B, (decide (65 ≤ (c : Int)) && decide ((c : Int) ≤ 90)) = B := ⟨_, rfl⟩
      obtain ⟨s1, q1⟩ : ∃ B, strEq b ⟨#[73, 110, 116]⟩ = B := ⟨_, rfl⟩
      obtain ⟨s2, q2⟩ : ∃ B, strEq b ⟨#[66, 111, 111, 108]⟩ = B := ⟨_, rfl⟩
      obtain ⟨s3, q3⟩ : ∃ B, strEq b ⟨#[67, 101, 108, 108]⟩ = B := ⟨_, rfl⟩
      obtain ⟨s4, q4⟩ : ∃ B, strEq b ⟨#[70, 117, 110]⟩ = B := ⟨_, rfl⟩
      have key : ∀ s : St, s.eval (.t 0) = some (.val (.string b)) → s.eval (.t (if 242 = 242 then 23 else 35)) = some (.val (.int .i64 (b.size : Nat))) → s.eval (.t (if 242 = 242 then 24 else 36)) = some (.val (.int .i64 (0 : Nat))) → s.defers = [] →
          Run E1 f242_l0 s fun e s' => s'.defers = [] ∧ (e = .exit 0 ∨ e = .ret ∧ ∃ x, s'.eval (.t 2) = some (.val (.int .i64 x))) := fun s a1 a2 a3 a4 => f242_loop b hb b.size 0 s (by omega) a1 a2 a3 a4
      simp only [↓reduceIte, Nat.reduceEqDiff] at key
      cases B0 with
      | true =>
        simp -implicitDefEqProofs only [f242_fn, f242, W0, W1, W2, W3, W4, W5, W6, W7, W8, St.put, Option.bind_some, Option.map_some, ↓reduceIte, Nat.reduceEqDiff, Nat.reduceAdd, Nat.reduceMul, reduceCtorEq, cond_true, cond_false, Int.reduceEq, Int.reduceLT, Int.reduceLE, if_true, if_false, len_str, h0, hh, hd, z1, e0]
        exact ⟨_, ⟨_, rfl⟩, rfl⟩
      | false =>
        cases B1 <;> cases B2 <;> cases A <;> cases s1 <;> cases s2 <;> cases s3 <;> cases s4 <;> simp -implicitDefEqProofs only [f242_fn, f242, W0, W1, W2, W3, W4, W5, W6, W7, W8, St.put, Option.bind_some, Option.map_some, ↓reduceIte, Nat.reduceEqDiff, Nat.reduceAdd, Nat.reduceMul, reduceCtorEq, cond_true, cond_false, Int.reduceEq, Int.reduceLT, Int.reduceLE, if_true, if_false, len_str, h0, hh, hd, byte_to280, byte_to283, callK_all hA, hc, z1, e0, e1, e2, q1, q2, q3, q4]
        all_goals first
          | exact ⟨_, ⟨_, rfl⟩, rfl⟩
          | (refine (key _ ?_ ?_ ?_ ?_).mono ?_
             · simp -implicitDefEqProofs only [W0, W1, W2, W3, W4, W5, W6, W7, W8, St.put, Option.bind_some, Option.map_some, ↓reduceIte, Nat.reduceEqDiff, Nat.reduceAdd, Nat.reduceMul, reduceCtorEq, cond_true, cond_false, Int.reduceEq, Int.reduceLT, Int.reduceLE, if_true, if_false, h0]
             · simp -implicitDefEqProofs only [W0, W1, W2, W3, W4, W5, W6, W7, W8, St.put, Option.bind_some, Option.map_some, ↓reduceIte, Nat.reduceEqDiff, Nat.reduceAdd, Nat.reduceMul, reduceCtorEq, cond_true, cond_false, Int.reduceEq, Int.reduceLT, Int.reduceLE, if_true, if_false]
             · simp -implicitDefEqProofs only [W0, W1, W2, W3, W4, W5, W6, W7, W8, St.put, Option.bind_some, Option.map_some, ↓reduceIte, Nat.reduceEqDiff, Nat.reduceAdd, Nat.reduceMul, reduceCtorEq, cond_true, cond_false, Int.reduceEq, Int.reduceLT, Int.reduceLE, if_true, if_false] <;> rfl
             · simp -implicitDefEqProofs only [W0, W1, W2, W3, W4, W5, W6, W7, W8, St.put, Option.bind_some, Option.map_some, ↓reduceIte, Nat.reduceEqDiff, Nat.reduceAdd, Nat.reduceMul, reduceCtorEq, cond_true, cond_false, Int.reduceEq, Int.reduceLT, Int.reduceLE, if_true, if_false, hd]
             · rintro e s' ⟨hf, rfl | ⟨rfl, x, h2⟩⟩
               · simp -implicitDefEqProofs only [W0, W1, W2, W3, W4, W5, W6, W7, W8, St.put, Option.bind_some, Option.map_some, ↓reduceIte, Nat.reduceEqDiff, Nat.reduceAdd, Nat.reduceMul, reduceCtorEq, cond_true, cond_false, Int.reduceEq, Int.reduceLT, Int.reduceLE, if_true, if_false, hbeq, hf]
                 exact ⟨_, ⟨_, rfl⟩, rfl⟩
               · simp -implicitDefEqProofs only [W0, W1, W2, W3, W4, W5, W6, W7, W8, St.put, Option.bind_some, Option.map_some, ↓reduceIte, Nat.reduceEqDiff, Nat.reduceAdd, Nat.reduceMul, reduceCtorEq, cond_true, cond_false, Int.reduceEq, Int.reduceLT, Int.reduceLE, if_true, if_false, hf, h2]
                 exact ⟨_, ⟨_, rfl⟩, rfl⟩)
    · have z1 : decide (((b.size : Nat) : Int) < 1) = true := decide_eq_true (by omega)
      simp -implicitDefEqProofs only [f242_fn, f242, W0, W1, W2, W3, W4, W5, W6, W7, W8, St.put, Option.bind_some, Option.map_some, ↓reduceIte, Nat.reduceEqDiff, Nat.reduceAdd, Nat.reduceMul, reduceCtorEq, cond_true, cond_false, Int.reduceEq, Int.reduceLT, Int.reduceLE, if_true, if_false, len_str, h0, hh, hd, z1]
      exact ⟨_, ⟨_, rfl⟩, rfl⟩
  subst hx
  exact ⟨x, call_tree (by kernel_rfl) (by kernel_rfl) (mem1 (Tree.val _)) rfl (Tree.val _) ha⟩
theorem rchk_ans243 (b : ByteArray) (hb : b.size < 2 ^ 61) : ∃ x, ∀ h, RunCall E1 (.f 243) [.val (.string b)] h (.val (.int .i64 x)) h := by
  obtain ⟨A, hA⟩ := rkw_ans b
  obtain ⟨r, ⟨x, hx⟩, ha⟩ := ansE (g := 243) (l := [.val (.string b)]) (P := fun r => ∃ x, r = .val (.int .i64 x)) f243_ok fun s hs hh hd => by
    have h0 := hs 0 _ rfl
    have hbeq : Nat.beq 0 0 = true := rfl
    by_cases hz : 1 ≤ b.size
    · obtain ⟨c, hc⟩ := idx_str (b := b) (i := 0) (by omega)
      have z1 : decide (((b.size : Nat) : Int) < 1) = false := decide_eq_false (by omega)
      obtain ⟨B0, e0⟩ : ∃ B, decide (24 < ((b.size : Nat) : Int)) = B := ⟨_, rfl⟩
      obtain ⟨B1, e1⟩ : ∃ B, (decide (97 ≤ (c : Int)) && decide ((c : Int) ≤ 122)) = B := ⟨_, rfl⟩
      obtain ⟨B2, e2⟩ : ∃ B, (decide (65 ≤ (c : Int)) && decide ((c : Int) ≤ 90)) = B := ⟨_, rfl⟩
      obtain ⟨s1, q1⟩ : ∃ B, strEq b ⟨#[73, 110, 116]⟩ = B := ⟨_, rfl⟩
      obtain ⟨s2, q2⟩ : ∃ B, strEq b ⟨#[66, 111, 111, 108]⟩ = B := ⟨_, rfl⟩
      obtain ⟨s3, q3⟩ : ∃ B, strEq b ⟨#[67, 101, 108, 108]⟩ = B := ⟨_, rfl⟩
      obtain ⟨s4, q4⟩ : ∃ B, strEq b ⟨#[70, 117, 110]⟩ = B := ⟨_, rfl⟩
      have key : ∀ s : St, s.eval (.t 0) = some (.val (.string b)) → s.eval (.t (if 243 = 242 then 23 else 35)) = some (.val (.int .i64 (b.size : Nat))) → s.eval (.t (if 243 = 242 then 24 else 36)) = some (.val (.int .i64 (0 : Nat))) → s.defers = [] →
          Run E1 f243_l0 s fun e s' => s'.defers = [] ∧ (e = .exit 0 ∨ e = .ret ∧ ∃ x, s'.eval (.t 2) = some (.val (.int .i64 x))) := fun s a1 a2 a3 a4 => f243_loop b hb b.size 0 s (by omega) a1 a2 a3 a4
      simp only [↓reduceIte, Nat.reduceEqDiff] at key
      cases B0 with
      | true =>
        simp -implicitDefEqProofs only [f243_fn, f243, W0, W1, W2, W3, W4, W5, W6, W7, W8, St.put, Option.bind_some, Option.map_some, ↓reduceIte, Nat.reduceEqDiff, Nat.reduceAdd, Nat.reduceMul, reduceCtorEq, cond_true, cond_false, Int.reduceEq, Int.reduceLT, Int.reduceLE, if_true, if_false, len_str, h0, hh, hd, z1, e0]
        exact ⟨_, ⟨_, rfl⟩, rfl⟩
      | false =>
        cases B1 <;> cases B2 <;> cases A <;> cases s1 <;> cases s2 <;> cases s3 <;> cases s4 <;> simp -implicitDefEqProofs only [f243_fn, f243, W0, W1, W2, W3, W4, W5, W6, W7, W8, St.put, Option.bind_some, Option.map_some, ↓reduceIte, Nat.reduceEqDiff, Nat.reduceAdd, Nat.reduceMul, reduceCtorEq, cond_true, cond_false, Int.reduceEq, Int.reduceLT, Int.reduceLE, if_true, if_false, len_str, h0, hh, hd, byte_to280, byte_to283, callK_all hA, hc, z1, e0, e1, e2, q1, q2, q3, q4]
        all_goals first
          | exact ⟨_, ⟨_, rfl⟩, rfl⟩
          | (refine (key _ ?_ ?_ ?_ ?_).mono ?_
             · simp -implicitDefEqProofs only [W0, W1, W2, W3, W4, W5, W6, W7, W8, St.put, Option.bind_some, Option.map_some, ↓reduceIte, Nat.reduceEqDiff, Nat.reduceAdd, Nat.reduceMul, reduceCtorEq, cond_true, cond_false, Int.reduceEq, Int.reduceLT, Int.reduceLE, if_true, if_false, h0]
             · simp -implicitDefEqProofs only [W0, W1, W2, W3, W4, W5, W6, W7, W8, St.put, Option.bind_some, Option.map_some, ↓reduceIte, Nat.reduceEqDiff, Nat.reduceAdd, Nat.reduceMul, reduceCtorEq, cond_true, cond_false, Int.reduceEq, Int.reduceLT, Int.reduceLE, if_true, if_false]
             · simp -implicitDefEqProofs only [W0, W1, W2, W3, W4, W5, W6, W7, W8, St.put, Option.bind_some, Option.map_some, ↓reduceIte, Nat.reduceEqDiff, Nat.reduceAdd, Nat.reduceMul, reduceCtorEq, cond_true, cond_false, Int.reduceEq, Int.reduceLT, Int.reduceLE, if_true, if_false] <;> rfl
             · simp -implicitDefEqProofs only [W0, W1, W2, W3, W4, W5, W6, W7, W8, St.put, Option.bind_some, Option.map_some, ↓reduceIte, Nat.reduceEqDiff, Nat.reduceAdd, Nat.reduceMul, reduceCtorEq, cond_true, cond_false, Int.reduceEq, Int.reduceLT, Int.reduceLE, if_true, if_false, hd]
             · rintro e s' ⟨hf, rfl | ⟨rfl, x, h2⟩⟩
               · simp -implicitDefEqProofs only [W0, W1, W2, W3, W4, W5, W6, W7, W8, St.put, Option.bind_some, Option.map_some, ↓reduceIte, Nat.reduceEqDiff, Nat.reduceAdd, Nat.reduceMul, reduceCtorEq, cond_true, cond_false, Int.reduceEq, Int.reduceLT, Int.reduceLE, if_true, if_false, hbeq, hf]
                 exact ⟨_, ⟨_, rfl⟩, rfl⟩
               · simp -implicitDefEqProofs only [W0, W1, W2, W3, W4, W5, W6, W7, W8, St.put, Option.bind_some, Option.map_some, ↓reduceIte, Nat.reduceEqDiff, Nat.reduceAdd, Nat.reduceMul, reduceCtorEq, cond_true, cond_false, Int.reduceEq, Int.reduceLT, Int.reduceLE, if_true, if_false, hf, h2]
                 exact ⟨_, ⟨_, rfl⟩, rfl⟩)
    · have z1 : decide (((b.size : Nat) : Int) < 1) = true := decide_eq_true (by omega)
      simp -implicitDefEqProofs only [f243_fn, f243, W0, W1, W2, W3, W4, W5, W6, W7, W8, St.put, Option.bind_some, Option.map_some, ↓reduceIte, Nat.reduceEqDiff, Nat.reduceAdd, Nat.reduceMul, reduceCtorEq, cond_true, cond_false, Int.reduceEq, Int.reduceLT, Int.reduceLE, if_true, if_false, len_str, h0, hh, hd, z1]
      exact ⟨_, ⟨_, rfl⟩, rfl⟩
  subst hx
  exact ⟨x, call_tree (by kernel_rfl) (by kernel_rfl) (mem1 (Tree.val _)) rfl (Tree.val _) ha⟩

theorem part_ans (b : ByteArray) (hb : b.size < 2 ^ 61) : ∃ x, ∀ h, RunCall E1 (.f 244) [.val (.string b)] h (.val (.bool x)) h := by
  obtain ⟨r, ⟨x, hx⟩, ha⟩ := ansE (g := 244) (l := [.val (.string b)]) (P := fun r => ∃ x, r = .val (.bool x)) f244_ok fun s hs hh hd => by
    have h0 := hs 0 _ rfl
    have hbeq : Nat.beq 0 0 = true := rfl
    by_cases hz : 1 ≤ b.size
    · obtain ⟨c, hc⟩ := idx_str (b := b) (i := 0) (by omega)
      have z1 : decide (((b.size : Nat) : Int) < 1) = false := decide_eq_false (by omega)
      obtain ⟨B0, e0⟩ : ∃ B, decide (24 < ((b.size : Nat) : Int)) = B := ⟨_, rfl⟩
      obtain ⟨B1, e1⟩ : ∃ B, (decide (97 ≤ (c : Int)) && decide ((c : Int) ≤ 122)) = B := ⟨_, rfl⟩
      cases B0 with
      | true =>
        simp -implicitDefEqProofs only [f244_fn, f244, W0, W1, W2, W3, W4, W5, W6, W7, W8, St.put, Option.bind_some, Option.map_some, ↓reduceIte, Nat.reduceEqDiff, Nat.reduceAdd, Nat.reduceMul, reduceCtorEq, cond_true, cond_false, Int.reduceEq, Int.reduceLT, Int.reduceLE, if_true, if_false, len_str, h0, hh, hd, z1, e0]
        exact ⟨_, ⟨_, rfl⟩, rfl⟩
      | false =>
        simp -implicitDefEqProofs only [f244_fn, f244, W0, W1, W2, W3, W4, W5, W6, W7, W8, St.put, Option.bind_some, Option.map_some, ↓reduceIte, Nat.reduceEqDiff, Nat.reduceAdd, Nat.reduceMul, reduceCtorEq, cond_true, cond_false, Int.reduceEq, Int.reduceLT, Int.reduceLE, if_true, if_false, len_str, h0, hh, hd, byte_to280, hc, z1, e0, e1]
        refine (f244_loop b hb b.size 0 _ (by omega) ?_ ?_ ?_ ⟨true, ?_⟩ ⟨B1, ?_⟩ ?_).mono ?_
        · simp -implicitDefEqProofs only [W0, W1, W2, W3, W4, W5, W6, W7, W8, St.put, Option.bind_some, Option.map_some, ↓reduceIte, Nat.reduceEqDiff, Nat.reduceAdd, Nat.reduceMul, reduceCtorEq, cond_true, cond_false, Int.reduceEq, Int.reduceLT, Int.reduceLE, if_true, if_false, h0]
        · simp -implicitDefEqProofs only [W0, W1, W2, W3, W4, W5, W6, W7, W8, St.put, Option.bind_some, Option.map_some, ↓reduceIte, Nat.reduceEqDiff, Nat.reduceAdd, Nat.reduceMul, reduceCtorEq, cond_true, cond_false, Int.reduceEq, Int.reduceLT, Int.reduceLE, if_true, if_false]
        · simp -implicitDefEqProofs only [W0, W1, W2, W3, W4, W5, W6, W7, W8, St.put, Option.bind_some, Option.map_some, ↓reduceIte, Nat.reduceEqDiff, Nat.reduceAdd, Nat.reduceMul, reduceCtorEq, cond_true, cond_false, Int.reduceEq, Int.reduceLT, Int.reduceLE, if_true, if_false] <;> rfl
        · simp -implicitDefEqProofs only [W0, W1, W2, W3, W4, W5, W6, W7, W8, St.put, Option.bind_some, Option.map_some, ↓reduceIte, Nat.reduceEqDiff, Nat.reduceAdd, Nat.reduceMul, reduceCtorEq, cond_true, cond_false, Int.reduceEq, Int.reduceLT, Int.reduceLE, if_true, if_false]
        · simp -implicitDefEqProofs only [W0, W1, W2, W3, W4, W5, W6, W7, W8, St.put, Option.bind_some, Option.map_some, ↓reduceIte, Nat.reduceEqDiff, Nat.reduceAdd, Nat.reduceMul, reduceCtorEq, cond_true, cond_false, Int.reduceEq, Int.reduceLT, Int.reduceLE, if_true, if_false]
        · simp -implicitDefEqProofs only [W0, W1, W2, W3, W4, W5, W6, W7, W8, St.put, Option.bind_some, Option.map_some, ↓reduceIte, Nat.reduceEqDiff, Nat.reduceAdd, Nat.reduceMul, reduceCtorEq, cond_true, cond_false, Int.reduceEq, Int.reduceLT, Int.reduceLE, if_true, if_false, hd]
        · rintro e s' ⟨hf, rfl, x, y, h3, h4⟩
          cases x <;> simp -implicitDefEqProofs only [W0, W1, W2, W3, W4, W5, W6, W7, W8, St.put, Option.bind_some, Option.map_some, ↓reduceIte, Nat.reduceEqDiff, Nat.reduceAdd, Nat.reduceMul, reduceCtorEq, cond_true, cond_false, Int.reduceEq, Int.reduceLT, Int.reduceLE, if_true, if_false, hbeq, hf, h3, h4] <;> exact ⟨_, ⟨_, rfl⟩, rfl⟩
    · have z1 : decide (((b.size : Nat) : Int) < 1) = true := decide_eq_true (by omega)
      simp -implicitDefEqProofs only [f244_fn, f244, W0, W1, W2, W3, W4, W5, W6, W7, W8, St.put, Option.bind_some, Option.map_some, ↓reduceIte, Nat.reduceEqDiff, Nat.reduceAdd, Nat.reduceMul, reduceCtorEq, cond_true, cond_false, Int.reduceEq, Int.reduceLT, Int.reduceLE, if_true, if_false, len_str, h0, hh, hd, z1]
      exact ⟨_, ⟨_, rfl⟩, rfl⟩
  subst hx
  exact ⟨x, call_tree (by kernel_rfl) (by kernel_rfl) (mem1 (Tree.val _)) rfl (Tree.val _) ha⟩

end Go.Proofs.YtbolilekjpoicaaGreatDoor

namespace Go.Proofs.YtbolilekjpoicaaGreatDoor
open Go Go.AM
set_option linter.all false
set_option maxHeartbeats 4000000

/-- What a function answers, and over which heap. -/
theorem ansEh {g : Nat} {l : List AV} {a : AFun} {P : AV → AH → Prop} (hf : funOf Tryz.prog g = some a)
    (h : ∀ s : St, (∀ i v, (enterTm l 0 .nil).get i = some v → s.eval (.t i) = some v) → s.h = .empty → s.defers = [] → wp E1 a.body s fun e s => (e = .normal ∨ e = .ret) ∧ s.defers = [] ∧ ∃ r, P r s.h ∧ resultsA E1.globs s a.res = some [r]) : ∃ r hc, P r hc ∧ Ev fun n => enterA E1 (exec E1 n) g l .empty = some (r, hc) := by
  obtain ⟨e, s', x, y1, y2, r, hp, y3⟩ := wp_run _ _ _ (h { tm := enterTm l 0 .nil, h := .empty, defers := [], round := none } (fun _ _ h => h) rfl rfl)
  refine ⟨r, s'.h, hp, x.mono fun n p => ?_⟩
  have hl : leaveA E1 a s' = some (r, s'.h) := by
    obtain ⟨tm, h1, df, rd⟩ := s'
    subst y2
    simp only [leaveA, runDefers, y3]
    rfl
  simp only [enterA, (show funOf E1.P g = some a by rw [E1_P]; exact hf), p]
  rcases y1 with rfl | rfl <;> exact hl

theorem ok16 {n : Nat} (h : n ≤ 200) : okLen n 16 = true := by
  have h1 : Nat.ble (n * 16) mostBytes = true := Nat.ble_eq.mpr (by have : mostBytes = 2 ^ 40 := rfl; omega)
  have h2 : Nat.ble n mostBytes = true := Nat.ble_eq.mpr (by have : mostBytes = 2 ^ 40 := rfl; omega)
  simp only [okLen, h1, h2, Bool.and_self]

theorem f241_loop (b : ByteArray) (hb : b.size ≤ 120) : ∀ (n i st : Nat) (l : List ByteArray) (v : AV) (s : St), i + n = b.size → st ≤ i → l.length ≤ i → (∀ x ∈ l, x.size ≤ 120) → s.eval (.t 0) = some (.val (.string b)) → s.eval (.t 7) = some (.val (.int .i64 (b.size : Nat))) → s.eval (.t 8) = some (.val (.int .i64 i)) →
    s.eval (.t 3) = some v → Row 0 s.h v (strs l) → s.eval (.t 4) = some (.val (.int .i64 st)) → s.defers = [] →
    Run E1 f241_l0 s fun e s' => e = .exit 0 ∧ s'.defers = [] ∧ s'.eval (.t 0) = some (.val (.string b)) ∧ ∃ (st : Nat) (l : List ByteArray) (v : AV), st ≤ b.size ∧ l.length ≤ b.size ∧ (∀ x ∈ l, x.size ≤ 120) ∧ s'.eval (.t 3) = some v ∧ Row 0 s'.h v (strs l) ∧ s'.eval (.t 4) = some (.val (.int .i64 st))
  | 0, i, st, l, v, s, hi, hst, hl, hx, h0, h7, h8, h3, hr, h4, hd => by
    have hlt : decide ((i : Int) < (b.size : Nat)) = false := decide_eq_false (by omega)
    apply loop_of (rfl : f241_l0 = .loop f241_b0)
    simp -implicitDefEqProofs only [f241_b0, W0, W1, W2, W3, W4, W5, W6, W7, W8, St.put, Option.bind_some, Option.map_some, ↓reduceIte, Nat.reduceEqDiff, Nat.reduceAdd, Nat.reduceMul, reduceCtorEq, cond_true, cond_false, Int.reduceEq, Int.reduceLT, Int.reduceLE, if_true, if_false, h0, h3, h4, h7, h8, hd, hlt]
    exact ⟨st, l, v, by omega, by omega, hx, rfl, hr, rfl⟩
  | n + 1, i, st, l, v, s, hi, hst, hl, hx, h0, h7, h8, h3, hr, h4, hd => by
    have hlt : decide ((i : Int) < (b.size : Nat)) = true := decide_eq_true (by omega)
    have w1 : IntKind.i64.wrap ((i : Int) + 1) = ((i + 1 : Nat) : Int) := wrap_nat (n := i + 1) (by omega)
    obtain ⟨c, hc⟩ := idx_str (b := b) (i := i) (by omega)
    obtain ⟨B1, e1⟩ : ∃ B, decide ((c : Int) = 46) = B := ⟨_, rfl⟩
    apply loop_of (rfl : f241_l0 = .loop f241_b0)
    cases B1 with
    | false =>
      simp -implicitDefEqProofs only [f241_b0, W0, W1, W2, W3, W4, W5, W6, W7, W8, St.put, Option.bind_some, Option.map_some, ↓reduceIte, Nat.reduceEqDiff, Nat.reduceAdd, Nat.reduceMul, reduceCtorEq, cond_true, cond_false, Int.reduceEq, Int.reduceLT, Int.reduceLE, if_true, if_false, h0, h3, h4, h7, h8, hd, hlt, w1, hc, e1]
      refine f241_loop b hb n (i + 1) st l v _ (by omega) (by omega) (by omega) hx ?_ ?_ ?_ ?_ ?_ ?_ ?_
      all_goals first
        | exact hr
        | simp -implicitDefEqProofs only [W0, W1, W2, W3, W4, W5, W6, W7, W8, St.put, Option.bind_some, Option.map_some, ↓reduceIte, Nat.reduceEqDiff, Nat.reduceAdd, Nat.reduceMul, reduceCtorEq, cond_true, cond_false, Int.reduceEq, Int.reduceLT, Int.reduceLE, if_true, if_false, h0, h3, h4, h7, h8, hd]
    | true =>
      have hm := slice_mid (b := b) (i := st) (j := i) hst (by omega)
      have ho : okLen ((strs l).length + 1) 16 = true := ok16 (by rw [strs_len]; omega)
      have ha := fun (s : St) K r dst d1 a => app_row (E := E1) (s := s) (K := K) (r := r) (dst := dst) (d1 := d1) (a := a) (e := .val (.string (b.extract st i))) hr ho
      simp -implicitDefEqProofs only [f241_b0, W0, W1, W2, W3, W4, W5, W6, W7, W8, St.put, Option.bind_some, Option.map_some, ↓reduceIte, Nat.reduceEqDiff, Nat.reduceAdd, Nat.reduceMul, reduceCtorEq, cond_true, cond_false, Int.reduceEq, Int.reduceLT, Int.reduceLE, if_true, if_false, s_sliceS, sliceSO_some, optN_n, optN_t, optM_some, fill_one, fillO_val, h0, h3, h4, h7, h8, hd, hlt, w1, hc, e1, hm, ha]
      refine f241_loop b hb n (i + 1) (i + 1) (l ++ [b.extract st i]) (.own (s.h.next + 1) 0 ((strs l).length + 1) 1 none) _ (by omega) (by omega) (by simp only [List.length_append, List.length_cons, List.length_nil]; omega) ?_ ?_ ?_ ?_ ?_ ?_ ?_ ?_
      · intro x hx'
        rcases List.mem_append.1 hx' with q | q
        · exact hx x q
        · rw [List.mem_singleton.1 q, ByteArray.size_extract]; omega
      · simp -implicitDefEqProofs only [W0, W1, W2, W3, W4, W5, W6, W7, W8, St.put, Option.bind_some, Option.map_some, ↓reduceIte, Nat.reduceEqDiff, Nat.reduceAdd, Nat.reduceMul, reduceCtorEq, cond_true, cond_false, Int.reduceEq, Int.reduceLT, Int.reduceLE, if_true, if_false, h0]
      · simp -implicitDefEqProofs only [W0, W1, W2, W3, W4, W5, W6, W7, W8, St.put, Option.bind_some, Option.map_some, ↓reduceIte, Nat.reduceEqDiff, Nat.reduceAdd, Nat.reduceMul, reduceCtorEq, cond_true, cond_false, Int.reduceEq, Int.reduceLT, Int.reduceLE, if_true, if_false, h7]
      · simp -implicitDefEqProofs only [W0, W1, W2, W3, W4, W5, W6, W7, W8, St.put, Option.bind_some, Option.map_some, ↓reduceIte, Nat.reduceEqDiff, Nat.reduceAdd, Nat.reduceMul, reduceCtorEq, cond_true, cond_false, Int.reduceEq, Int.reduceLT, Int.reduceLE, if_true, if_false]
      · simp -implicitDefEqProofs only [W0, W1, W2, W3, W4, W5, W6, W7, W8, St.put, Option.bind_some, Option.map_some, ↓reduceIte, Nat.reduceEqDiff, Nat.reduceAdd, Nat.reduceMul, reduceCtorEq, cond_true, cond_false, Int.reduceEq, Int.reduceLT, Int.reduceLE, if_true, if_false]
      · simp -implicitDefEqProofs only [W0, W1, W2, W3, W4, W5, W6, W7, W8, St.put, Option.bind_some, Option.map_some, ↓reduceIte, Nat.reduceEqDiff, Nat.reduceAdd, Nat.reduceMul, reduceCtorEq, cond_true, cond_false, Int.reduceEq, Int.reduceLT, Int.reduceLE, if_true, if_false]
        rw [← strs_app]
        exact push_row hr (Nat.zero_le _)
      · simp -implicitDefEqProofs only [W0, W1, W2, W3, W4, W5, W6, W7, W8, St.put, Option.bind_some, Option.map_some, ↓reduceIte, Nat.reduceEqDiff, Nat.reduceAdd, Nat.reduceMul, reduceCtorEq, cond_true, cond_false, Int.reduceEq, Int.reduceLT, Int.reduceLE, if_true, if_false]
      · simp -implicitDefEqProofs only [W0, W1, W2, W3, W4, W5, W6, W7, W8, St.put, Option.bind_some, Option.map_some, ↓reduceIte, Nat.reduceEqDiff, Nat.reduceAdd, Nat.reduceMul, reduceCtorEq, cond_true, cond_false, Int.reduceEq, Int.reduceLT, Int.reduceLE, if_true, if_false, hd]

theorem parts_ans (b : ByteArray) (hb : b.size ≤ 120) : ∃ l : List ByteArray, 1 ≤ l.length ∧ l.length ≤ 121 ∧ (∀ x ∈ l, x.size ≤ 120) ∧ ∀ h, RunCall E1 (.f 241) [.val (.string b)] h (.imm (strs l) l.length none) h := by
  obtain ⟨r, hc, ⟨l, k, hl1, hl2, hl3, hr, hg⟩, ha⟩ := ansEh (g := 241) (l := [.val (.string b)]) (P := fun r h => ∃ (l : List ByteArray) (k : Nat), 1 ≤ l.length ∧ l.length ≤ 121 ∧ (∀ x ∈ l, x.size ≤ 120) ∧ r = .own k 0 l.length 1 none ∧ h.get k = some (.cells (strs l) true)) f241_ok fun s hs hh hd => by
    have h0 := hs 0 _ rfl
    simp -implicitDefEqProofs only [f241_fn, f241, W0, W1, W2, W3, W4, W5, W6, W7, W8, St.put, Option.bind_some, Option.map_some, ↓reduceIte, Nat.reduceEqDiff, Nat.reduceAdd, Nat.reduceMul, reduceCtorEq, cond_true, cond_false, Int.reduceEq, Int.reduceLT, Int.reduceLE, if_true, if_false, len_str, h0, hh, hd]
    refine (f241_loop b hb b.size 0 0 [] (.val (.slice none 0 0)) _ (by omega) (Nat.le_refl _) (Nat.zero_le _) (fun x hx => (by cases hx)) ?_ ?_ ?_ ?_ (.inl ⟨rfl, rfl⟩) ?_ ?_).mono ?_
    · simp -implicitDefEqProofs only [W0, W1, W2, W3, W4, W5, W6, W7, W8, St.put, Option.bind_some, Option.map_some, ↓reduceIte, Nat.reduceEqDiff, Nat.reduceAdd, Nat.reduceMul, reduceCtorEq, cond_true, cond_false, Int.reduceEq, Int.reduceLT, Int.reduceLE, if_true, if_false, h0]
    · simp -implicitDefEqProofs only [W0, W1, W2, W3, W4, W5, W6, W7, W8, St.put, Option.bind_some, Option.map_some, ↓reduceIte, Nat.reduceEqDiff, Nat.reduceAdd, Nat.reduceMul, reduceCtorEq, cond_true, cond_false, Int.reduceEq, Int.reduceLT, Int.reduceLE, if_true, if_false]
    · simp -implicitDefEqProofs only [W0, W1, W2, W3, W4, W5, W6, W7, W8, St.put, Option.bind_some, Option.map_some, ↓reduceIte, Nat.reduceEqDiff, Nat.reduceAdd, Nat.reduceMul, reduceCtorEq, cond_true, cond_false, Int.reduceEq, Int.reduceLT, Int.reduceLE, if_true, if_false] <;> rfl
    · simp -implicitDefEqProofs only [W0, W1, W2, W3, W4, W5, W6, W7, W8, St.put, Option.bind_some, Option.map_some, ↓reduceIte, Nat.reduceEqDiff, Nat.reduceAdd, Nat.reduceMul, reduceCtorEq, cond_true, cond_false, Int.reduceEq, Int.reduceLT, Int.reduceLE, if_true, if_false]
    · simp -implicitDefEqProofs only [W0, W1, W2, W3, W4, W5, W6, W7, W8, St.put, Option.bind_some, Option.map_some, ↓reduceIte, Nat.reduceEqDiff, Nat.reduceAdd, Nat.reduceMul, reduceCtorEq, cond_true, cond_false, Int.reduceEq, Int.reduceLT, Int.reduceLE, if_true, if_false] <;> rfl
    · simp -implicitDefEqProofs only [W0, W1, W2, W3, W4, W5, W6, W7, W8, St.put, Option.bind_some, Option.map_some, ↓reduceIte, Nat.reduceEqDiff, Nat.reduceAdd, Nat.reduceMul, reduceCtorEq, cond_true, cond_false, Int.reduceEq, Int.reduceLT, Int.reduceLE, if_true, if_false, hd]
    · rintro e s' ⟨rfl, hf, g0, st, l, v, hst, hl, hx, g3, hr, g4⟩
      have : Nat.beq 0 0 = true := rfl
      have hm := slice_end (b := b) (i := st) hst
      have ho : okLen ((strs l).length + 1) 16 = true := ok16 (by rw [strs_len]; omega)
      have ha := fun (s : St) K r dst d1 a => app_row (E := E1) (s := s) (K := K) (r := r) (dst := dst) (d1 := d1) (a := a) (e := .val (.string (b.extract st b.size))) hr ho
      simp -implicitDefEqProofs only [W0, W1, W2, W3, W4, W5, W6, W7, W8, St.put, Option.bind_some, Option.map_some, ↓reduceIte, Nat.reduceEqDiff, Nat.reduceAdd, Nat.reduceMul, reduceCtorEq, cond_true, cond_false, Int.reduceEq, Int.reduceLT, Int.reduceLE, if_true, if_false, s_sliceS, sliceSO_some, optN_n, optN_t, optM_some, fill_one, fillO_val, this, hf, g0, g3, g4, hm, ha]
      have hp := push_row (e := .val (.string (b.extract st b.size))) hr (Nat.zero_le _)
      rw [strs_app] at hp
      have hn : (l ++ [b.extract st b.size]).length = l.length + 1 := by simp
      refine ⟨_, ⟨l ++ [b.extract st b.size], s'.h.next + 1, by omega, by omega, ?_, ?_, ?_⟩, rfl⟩
      · intro x hx'
        rcases List.mem_append.1 hx' with q | q
        · exact hx x q
        · rw [List.mem_singleton.1 q, ByteArray.size_extract]; omega
      · rw [hn, strs_len]
      · rcases hp with ⟨q, _⟩ | ⟨c, _, _, _, q, g⟩
        · cases q
        · obtain ⟨q1, _⟩ := AV.own.inj q
          rw [q1]; exact g
  subst hr
  exact ⟨l, hl1, hl2, hl3, call_own (by kernel_rfl) (by kernel_rfl) (mem1 (Tree.val _)) ha hg (by rw [strs_len]; omega) (strs_leaf l)⟩

theorem f197_loop (l : List ByteArray) (hb : l.length < 2 ^ 61) (hx : ∀ x ∈ l, x.size ≤ 120) : ∀ (r : List ByteArray) (i : Nat) (s : St), l.drop i = r → i ≤ l.length → s.eval (.t 35) = some (.imm (strs l) l.length none) → s.eval (.t 36) = some (.val (.int .i64 (l.length : Nat))) → s.eval (.t 37) = some (.val (.int .i64 i)) → s.defers = [] →
    Run E1 f197_l0 s fun e s' => s'.defers = [] ∧ (e = .exit 0 ∨ e = .ret ∧ ∃ x, s'.eval (.t 2) = some (.val (.int .i64 x)))
  | [], i, s, hr, hi, h5, h6, h7, hd => by
    have hl : i = l.length := by
      have := List.drop_eq_nil_iff.1 hr
      omega
    have hlt : decide ((i : Int) < (l.length : Nat)) = false := decide_eq_false (by omega)
    apply loop_of (rfl : f197_l0 = .loop f197_b0)
    simp -implicitDefEqProofs only [f197_b0, W0, W1, W2, W3, W4, W5, W6, W7, W8, St.put, Option.bind_some, Option.map_some, ↓reduceIte, Nat.reduceEqDiff, Nat.reduceAdd, Nat.reduceMul, reduceCtorEq, cond_true, cond_false, Int.reduceEq, Int.reduceLT, Int.reduceLE, if_true, if_false, h5, h6, h7, hd, hlt]
  | a :: r, i, s, hr, hi, h5, h6, h7, hd => by
    have hl : i < l.length := by
      rcases Nat.lt_or_ge i l.length with x | x
      · exact x
      · rw [List.drop_eq_nil_of_le x] at hr; cases hr
    have hr' : l.drop (i + 1) = r := by rw [← List.drop_drop, hr]; rfl
    have hlt : decide ((i : Int) < (l.length : Nat)) = true := decide_eq_true (by omega)
    have w1 : IntKind.i64.wrap ((i : Int) + 1) = ((i + 1 : Nat) : Int) := wrap_nat (n := i + 1) (by omega)
    have ha : a ∈ l := List.mem_of_mem_drop (i := i) (by rw [hr]; exact List.mem_cons_self)
    obtain ⟨B1, hB⟩ := part_ans a (by have := hx a ha; omega)
    apply loop_of (rfl : f197_l0 = .loop f197_b0)
    cases B1 <;> simp -implicitDefEqProofs only [f197_b0, W0, W1, W2, W3, W4, W5, W6, W7, W8, St.put, Option.bind_some, Option.map_some, ↓reduceIte, Nat.reduceEqDiff, Nat.reduceAdd, Nat.reduceMul, reduceCtorEq, cond_true, cond_false, Int.reduceEq, Int.reduceLT, Int.reduceLE, if_true, if_false, h5, h6, h7, hd, hlt, w1, str_at hr, take_hd, callK_all hB]
    all_goals first
      | exact ⟨_, rfl⟩
      | exact .inr ⟨_, rfl⟩
      | (refine f197_loop l hb hx r (i + 1) _ hr' (by omega) ?_ ?_ ?_ ?_ <;> simp -implicitDefEqProofs only [W0, W1, W2, W3, W4, W5, W6, W7, W8, St.put, Option.bind_some, Option.map_some, ↓reduceIte, Nat.reduceEqDiff, Nat.reduceAdd, Nat.reduceMul, reduceCtorEq, cond_true, cond_false, Int.reduceEq, Int.reduceLT, Int.reduceLE, if_true, if_false, h5, h6, hd])

theorem rcore_ans (b : ByteArray) : ∃ x, ∀ h, RunCall E1 (.f 197) [.val (.string b)] h (.val (.int .i64 x)) h := by
  obtain ⟨r, ⟨x, hx⟩, ha⟩ := ansE (g := 197) (l := [.val (.string b)]) (P := fun r => ∃ x, r = .val (.int .i64 x)) f197_ok fun s hs hh hd => by
    have h0 := hs 0 _ rfl
    have hbeq : Nat.beq 0 0 = true := rfl
    by_cases hz : 120 < b.size
    · have z1 : decide (120 < ((b.size : Nat) : Int)) = true := decide_eq_true (by omega)
      simp -implicitDefEqProofs only [f197_fn, f197, W0, W1, W2, W3, W4, W5, W6, W7, W8, St.put, Option.bind_some, Option.map_some, ↓reduceIte, Nat.reduceEqDiff, Nat.reduceAdd, Nat.reduceMul, reduceCtorEq, cond_true, cond_false, Int.reduceEq, Int.reduceLT, Int.reduceLE, if_true, if_false, len_str, h0, hh, hd, z1]
      exact ⟨_, ⟨_, rfl⟩, rfl⟩
    · have z1 : decide (120 < ((b.size : Nat) : Int)) = false := decide_eq_false (by omega)
      obtain ⟨l, hl1, hl2, hl3, hp⟩ := parts_ans b (by omega)
      obtain ⟨a, r, rfl⟩ : ∃ a r, l = a :: r := by
        cases l with
        | nil => exact absurd hl1 (by decide)
        | cons a r => exact ⟨a, r, rfl⟩
      have h00 : (a :: r).drop 0 = a :: r := rfl
      have hxa := hl3 a List.mem_cons_self
      obtain ⟨A2, hA2⟩ := rchk_ans242 a (by omega)
      obtain ⟨A3, hA3⟩ := rchk_ans243 a (by omega)
      obtain ⟨B2, e2⟩ : ∃ B, decide (A2 = 0) = B := ⟨_, rfl⟩
      obtain ⟨B3, e3⟩ : ∃ B, decide (A3 = 0) = B := ⟨_, rfl⟩
      obtain ⟨V, hV⟩ : ∃ V, strEq a ⟨#[118]⟩ = V := ⟨_, rfl⟩
      obtain ⟨L, hL⟩ : ∃ L, decide ((((a :: r).length : Nat) : Int) = 1) = L := ⟨_, rfl⟩
      have ht := str_tail (l := a :: r) (cap := none) hl1 rfl
      have hsa := fun cap => str_at (cap := cap) h00
      have hll : r.length ≤ 120 := by simp only [List.length_cons] at hl2; omega
      rw [show (a :: r).drop 1 = r from rfl] at ht
      cases B2 <;> cases B3 <;> cases V <;> cases L <;> simp -implicitDefEqProofs only [f197_fn, f197, W0, W1, W2, W3, W4, W5, W6, W7, W8, St.put, Option.bind_some, Option.map_some, ↓reduceIte, Nat.reduceEqDiff, Nat.reduceAdd, Nat.reduceMul, reduceCtorEq, cond_true, cond_false, Int.reduceEq, Int.reduceLT, Int.reduceLE, if_true, if_false, s_sliceS, sliceSO_some, optN_n, optN_t, optM_some, len_imm, len_str, h0, hh, hd, z1, callK_all hp, callK_all hA2, callK_all hA3, hsa, take_hd, e2, e3, hV, hL, ht]
      all_goals first
        | exact ⟨_, ⟨_, rfl⟩, rfl⟩
        | (refine (f197_loop r (by omega) (fun x hx => hl3 x (List.mem_cons_of_mem _ hx)) r 0 _ rfl (Nat.zero_le _) ?_ ?_ ?_ ?_).mono ?_
           · simp -implicitDefEqProofs only [W0, W1, W2, W3, W4, W5, W6, W7, W8, St.put, Option.bind_some, Option.map_some, ↓reduceIte, Nat.reduceEqDiff, Nat.reduceAdd, Nat.reduceMul, reduceCtorEq, cond_true, cond_false, Int.reduceEq, Int.reduceLT, Int.reduceLE, if_true, if_false]
           · simp -implicitDefEqProofs only [W0, W1, W2, W3, W4, W5, W6, W7, W8, St.put, Option.bind_some, Option.map_some, ↓reduceIte, Nat.reduceEqDiff, Nat.reduceAdd, Nat.reduceMul, reduceCtorEq, cond_true, cond_false, Int.reduceEq, Int.reduceLT, Int.reduceLE, if_true, if_false]
           · simp -implicitDefEqProofs only [W0, W1, W2, W3, W4, W5, W6, W7, W8, St.put, Option.bind_some, Option.map_some, ↓reduceIte, Nat.reduceEqDiff, Nat.reduceAdd, Nat.reduceMul, reduceCtorEq, cond_true, cond_false, Int.reduceEq, Int.reduceLT, Int.reduceLE, if_true, if_false] <;> rfl
           · simp -implicitDefEqProofs only [W0, W1, W2, W3, W4, W5, W6, W7, W8, St.put, Option.bind_some, Option.map_some, ↓reduceIte, Nat.reduceEqDiff, Nat.reduceAdd, Nat.reduceMul, reduceCtorEq, cond_true, cond_false, Int.reduceEq, Int.reduceLT, Int.reduceLE, if_true, if_false, hd]
           · rintro e s' ⟨hf, rfl | ⟨rfl, x, h2⟩⟩
             · simp -implicitDefEqProofs only [W0, W1, W2, W3, W4, W5, W6, W7, W8, St.put, Option.bind_some, Option.map_some, ↓reduceIte, Nat.reduceEqDiff, Nat.reduceAdd, Nat.reduceMul, reduceCtorEq, cond_true, cond_false, Int.reduceEq, Int.reduceLT, Int.reduceLE, if_true, if_false, hbeq, hf]
               exact ⟨_, ⟨_, rfl⟩, rfl⟩
             · simp -implicitDefEqProofs only [W0, W1, W2, W3, W4, W5, W6, W7, W8, St.put, Option.bind_some, Option.map_some, ↓reduceIte, Nat.reduceEqDiff, Nat.reduceAdd, Nat.reduceMul, reduceCtorEq, cond_true, cond_false, Int.reduceEq, Int.reduceLT, Int.reduceLE, if_true, if_false, hf, h2]
               exact ⟨_, ⟨_, rfl⟩, rfl⟩)
  subst hx
  exact ⟨x, call_tree (by kernel_rfl) (by kernel_rfl) (mem1 (Tree.val _)) rfl (Tree.val _) ha⟩

end Go.Proofs.YtbolilekjpoicaaGreatDoor
