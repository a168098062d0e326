/- A part of the proofs about certificates: YLaw YLawb. -/
import Derived.Test.YtijpnlmmaoecgaaGreatDoorS1
import Derived.Test.YtijpnlmmaoecgaaGreatDoorS2

set_option linter.all false

/- The laws CertifyRoundTrip and CertifyDamage, on trees. -/
namespace Go.Proofs.YtijpnlmmaoecgaaGreatDoor
open Go Go.AM
set_option linter.all false

theorem awake_call : ∀ h, RunCall E1 (.f 7) [] h (.val (.bool true)) h := fun h => Ev.of fun n => by
  have hs : E1.shared.get 7 = none := by kernel_rfl
  simp only [callA, callF, hs]
  rfl

theorem dec_any {f : Nat} {b : List UInt8} {nl : Option (Option Addr × Nat)} {cap : Option Nat} (h0 : 1 ≤ f) (h1 : b.length ≤ f) (hf : f ≤ 2 ^ 28) (hl : b.length ≤ 99999) :
    ∃ v h', DecTo f b v h' ∧ Ev fun n => enterA E1 (exec E1 n) 8 [kidsA (bytesA b) b.length nl cap] .empty = some (v, h') := by
  obtain ⟨g, rfl⟩ : ∃ g, f = g + 1 := ⟨f - 1, by omega⟩
  cases hb : headOk b with
  | false => exact decode_head hb
  | true => exact decode_body hb h1 hf hl

theorem dec_rep {f : Nat} {b : List UInt8} {v : AV} {h : AH} (k : DecTo f b v h) : ∃ n, n < deepest ∧ Rep h 0 h.next n v (.tup [.agg (decCells f b), .val (.int .i64 (decErr f b))]) := by
  obtain ⟨u, rfl, n, hn, hr⟩ := k
  refine ⟨n + 1, by show n + 1 < 1000000000; omega, ?_⟩
  refine Rep.tup (ps := [(u, .agg (decCells f b)), (.val (.int .i64 (decErr f b)), .val (.int .i64 (decErr f b)))]) fun p hp => ?_
  simp only [List.mem_cons, List.mem_nil_iff, or_false] at hp
  rcases hp with rfl | rfl
  · exact hr
  · exact Rep.leaf (Leaf.val _)

theorem decode_call {f : Nat} {b : List UInt8} {nl : Option (Option Addr × Nat)} {cap : Option Nat} (h0 : 1 ≤ f) (h1 : b.length ≤ f) (hf : f ≤ 2 ^ 28) (hl : b.length ≤ 99999) :
    ∀ h, RunCall E1 (.f 8) [kidsA (bytesA b) b.length nl cap] h (.tup [.agg (decCells f b), .val (.int .i64 (decErr f b))]) h := fun h => by
  obtain ⟨v, h', hd, hrun⟩ := dec_any (nl := nl) (cap := cap) h0 h1 hf hl
  obtain ⟨n, hn, hr⟩ := dec_rep hd
  exact call_rep (by kernel_rfl) (fresh_known (by kernel_rfl) _) (mem1 (kidsA_leaf _ _ _ _).tree) hrun hr hn h

/-- The bytes lie in a row of the caller's. -/
theorem decode_own {f b n : Nat} {l : List UInt8} {cap : Option Nat} {rw : Bool} {h : AH} (h0 : 1 ≤ f) (h1 : l.length ≤ f) (hf : f ≤ 2 ^ 28) (hl : l.length ≤ 99999) (hb : h.get b = some (.cells (bytesA l) rw)) (hn' : n = l.length) :
    ∃ v h', RunCall E1 (.f 8) [.own b 0 n 1 cap] h v h' ∧ v = .tup [.agg (decCells f l), .val (.int .i64 (decErr f l))] ∧ h'.next = h.next := by
  subst hn'
  obtain ⟨v, h', hd, hrun⟩ := dec_any (nl := none) (cap := cap) h0 h1 hf hl
  obtain ⟨n, hn, hr⟩ := dec_rep hd
  have ht := rep_tree n deepest hn v _ h' _ hr (Fz.refl _)
  have htr := own_tree (k := l.length) (es := 1) (cap := cap) hb (by rw [bytesA_len]; omega) (bytesA_leaf _)
  have hfr : AM.freeze deepest (.own b 0 l.length 1 cap) h = h.put b (some (.cells (bytesA l) false)) := by
    show (match h.get b with
      | some (.cells cs _) => ((cs.drop 0).take (l.length * 1)).foldl (fun h c => AM.freeze 999999999 c h) (h.put b (some (.cells cs false)))
      | _ => h) = _
    rw [hb]
    simp only [List.drop_zero]
    rw [List.take_of_length_le (by rw [bytesA_len]; omega)]
    exact leaves_fold (bytesA_leaf _)
  have hs : E1.shared.get 8 = none := by kernel_rfl
  have hk : E1.known 8 [.imm (bytesA l) l.length cap] = none := fresh_known (by kernel_rfl) _
  have hrun' : Ev fun n => enterA E1 (exec E1 n) 8 [.imm (bytesA l) l.length cap] .empty = some (v, h') := hrun
  rw [hfr] at htr
  refine ⟨_, bif isFlat (.tup [.agg (decCells f l), .val (.int .i64 (decErr f l))]) then h else h.put b (some (.cells (bytesA l) false)), hrun'.mono fun m p => ?_, rfl, ?_⟩
  · simp only [callA, callF, hs, List.foldl_cons, List.foldl_nil, hfr, mapTree, htr, hk, p, ht]
  · cases isFlat (.tup [.agg (decCells f l), .val (.int .i64 (decErr f l))]) <;> rfl

theorem len_le {b : List UInt8} (h : ¬ 4000 < b.length) : decide ((4000 : Int) < ((b.length : Nat) : Int)) = false := by simp; omega
theorem len_gt {b : List UInt8} (h : 4000 < b.length) : decide ((4000 : Int) < ((b.length : Nat) : Int)) = true := by simp; omega

/-! ### CertifyRoundTrip -/
theorem f4_calm : calmAt 0 f4_o0 = true := by rfl

theorem dec_fit {f : Nat} {b : List UInt8} {x : Ce} (hb : b.length ≤ 99999) (h : decCe f b = some x) : fitCe x := by
  rw [decCe] at h
  split at h
  · simp only at h
    split at h
    · cases h
    · cases h
      refine rCe_fit _ _ ?_
      have : (midOf b).length ≤ b.length := by rw [midOf, List.length_take, List.length_drop]; omega
      show (midOf b).length ≤ _
      omega
  · cases h

set_option maxHeartbeats 4000000 in
/-- The law's last line. -/
theorem f4_end {s : St} {c : Ce} {b : List UInt8} {nl : Option (Option Addr × Nat)} {cap : Option Nat} (hc : fitCe c) (hel : (encCe c).length ≤ 30100) (hb : b.length ≤ 4000) (nx : s.h.next = 3) (g0 : s.h.get 0 = some (.cells c.cells true)) (g1 : s.h.get 1 = some (.cells (stCe c).cells true))
    (g2 : s.h.get 2 = some (.cells (decCells (2 ^ 20) b) true)) (h1 : s.eval (.t 1) = some (kidsA (bytesA b) b.length nl cap)) (h2 : s.eval (.t 2) = some (.ptr 0 0)) (h5 : s.eval (.t 5) = some (.ptr 1 0)) (h6 : s.eval (.t 6) = some (.val (.int .i64 0))) (h7 : s.eval (.t 7) = some (.ptr 2 0)) (h8 : s.eval (.t 8) = some (.val (.int .i64 (decErr (2 ^ 20) b)))) :
    Run E1 f4_d0 s fun e s' => e = .normal ∧ s'.eval (.t 4) = some (.val (.bool true)) ∧ s'.defers = s.defers := by
  have hsame := same_ce c (stCe c) hc (stCe_idem c).symm
  have pc : plainT (some (.agg c.cells)) = true := by show (ids (.agg c.cells)).isEmpty = true; rw [ids, c.ids0]; rfl
  have ps : plainT (some (.agg (stCe c).cells)) = true := by show (ids (.agg (stCe c).cells)).isEmpty = true; rw [ids, (stCe c).ids0]; rfl
  have nc := plain_nice (h := s.h) pc
  have ns := plain_nice (h := s.h) ps
  have nb : niceT s.h (some (kidsA (bytesA b) b.length nl cap)) = true := plain_nice (by show (ids (kidsA (bytesA b) b.length nl cap)).isEmpty = true; rw [kidsA_ids]; rfl)
  have n0 : niceT s.h (some (.ptr 0 0)) = true := nice_ptr (by omega) g0 (by rw [c.ids0]; rfl)
  have n1 : niceT s.h (some (.ptr 1 0)) = true := nice_ptr (by omega) g1 (by rw [(stCe c).ids0]; rfl)
  have tc : takeN (some 4) c.cells = some (.agg c.cells) := rfl
  have ts : takeN (some 4) (stCe c).cells = some (.agg (stCe c).cells) := rfl
  refine run_calm f4_calm ?_
  cases hx : decCe (2 ^ 20) b with
  | none =>
    have hdc2 : decCells (2 ^ 20) b = zCe := by simp only [decCells, hx]
    have hde2 : decErr (2 ^ 20) b = 6 := by simp only [decErr, hx]
    rw [hdc2] at g2
    rw [hde2] at h8
    have n2 : niceT s.h (some (.ptr 2 0)) = true := nice_ptr (by omega) g2 rfl
    simp -implicitDefEqProofs only [f4_o0, wpDr, g_none, g_some, gIf_t, gIf_f, List.all_cons, List.all_nil, nice_val, nice_imm, nice_iptr, nice_undef, plain_val, W0, W1, W2, W3, W4, W5, W6, W7, W8, W9, St.put, Option.bind_some, Option.map_some, ↓reduceIte, Nat.reduceEqDiff, Nat.reduceAdd, Nat.reduceMul, reduceCtorEq, cond_true, cond_false, Int.reduceEq, Int.reduceLT, Int.reduceLE, if_true, if_false, h1, h2, h5, h6, h7, h8, g0, g1, g2, n0, n1, n2, nb, nc, ns, pc, ps, tc, ts]
    rw [withV_some]
    refine ⟨_, hsame, ?_⟩
    simp -implicitDefEqProofs only [g_none, g_some, gIf_t, gIf_f, List.all_cons, List.all_nil, nice_val, nice_imm, nice_iptr, nice_undef, plain_val, W0, W1, W2, W3, W4, W5, W6, W7, W8, W9, St.put, Option.bind_some, Option.map_some, ↓reduceIte, Nat.reduceEqDiff, Nat.reduceAdd, Nat.reduceMul, reduceCtorEq, cond_true, cond_false, Int.reduceEq, Int.reduceLT, Int.reduceLE, if_true, if_false, h1, h2, h5, h6, h7, h8, n0, n1, n2, nb]
    rw [withV_some]
    refine ⟨_, awake_call, ?_⟩
    simp -implicitDefEqProofs only [g_none, g_some, gIf_t, gIf_f, List.all_cons, List.all_nil, nice_val, nice_imm, nice_iptr, nice_undef, plain_val, W0, W1, W2, W3, W4, W5, W6, W7, W8, W9, St.put, Option.bind_some, Option.map_some, ↓reduceIte, Nat.reduceEqDiff, Nat.reduceAdd, Nat.reduceMul, reduceCtorEq, cond_true, cond_false, Int.reduceEq, Int.reduceLT, Int.reduceLE, if_true, if_false]
  | some x =>
    have hdc2 : decCells (2 ^ 20) b = x.cells := by simp only [decCells, hx]
    have hde2 : decErr (2 ^ 20) b = 0 := by simp only [decErr, hx]
    have hxb := dec_same hx
    have hfx := dec_fit (by omega) hx
    have hex := encode_call hfx (by rw [hxb]; omega)
    rw [hxb] at hex
    rw [hdc2] at g2
    rw [hde2] at h8
    have hb7 : b.length ≠ 0 := by
      rw [← hxb, encCe, List.length_append, tail4_len]
      omega
    have hk : kidsA (bytesA b) b.length nl cap = .imm (bytesA b) b.length cap := by
      have : Nat.beq b.length 0 = false := by
        cases hz : Nat.beq b.length 0 with
        | false => rfl
        | true => exact absurd (Nat.eq_of_beq_eq_true hz) hb7
      simp only [kidsA, this, Bool.and_false, cond_false]
    rw [hk] at h1
    have n2 : niceT s.h (some (.ptr 2 0)) = true := nice_ptr (by omega) g2 (by rw [x.ids0]; rfl)
    have px : plainT (some (.agg x.cells)) = true := by show (ids (.agg x.cells)).isEmpty = true; rw [ids, x.ids0]; rfl
    have nx' := plain_nice (h := s.h) px
    have tx : takeN (some 4) x.cells = some (.agg x.cells) := rfl
    have hbb : (b == b) = true := beq_self_eq_true _
    simp -implicitDefEqProofs only [f4_o0, wpDr, g_none, g_some, gIf_t, gIf_f, List.all_cons, List.all_nil, nice_val, nice_imm, nice_iptr, nice_undef, plain_val, plain_imm, W0, W1, W2, W3, W4, W5, W6, W7, W8, W9, St.put, Option.bind_some, Option.map_some, ↓reduceIte, Nat.reduceEqDiff, Nat.reduceAdd, Nat.reduceMul, reduceCtorEq, cond_true, cond_false, Int.reduceEq, Int.reduceLT, Int.reduceLE, if_true, if_false, h1, h2, h5, h6, h7, h8, g0, g1, g2, n0, n1, n2, nc, ns, pc, ps, tc, ts, px, nx', tx, strB_imm, strEq_list, hbb]
    rw [withV_some]
    refine ⟨_, hsame, ?_⟩
    simp -implicitDefEqProofs only [g_none, g_some, gIf_t, gIf_f, List.all_cons, List.all_nil, nice_val, nice_imm, nice_iptr, nice_undef, plain_val, plain_imm, W0, W1, W2, W3, W4, W5, W6, W7, W8, W9, St.put, Option.bind_some, Option.map_some, ↓reduceIte, Nat.reduceEqDiff, Nat.reduceAdd, Nat.reduceMul, reduceCtorEq, cond_true, cond_false, Int.reduceEq, Int.reduceLT, Int.reduceLE, if_true, if_false, h1, h2, h5, h6, h7, h8, g0, g1, g2, n0, n1, n2, nc, ns, pc, ps, tc, ts, px, nx', tx, strB_imm, strEq_list, hbb]
    rw [withV_some]
    refine ⟨_, hex, ?_⟩
    simp -implicitDefEqProofs only [g_none, g_some, gIf_t, gIf_f, List.all_cons, List.all_nil, nice_val, nice_imm, nice_iptr, nice_undef, plain_val, plain_imm, W0, W1, W2, W3, W4, W5, W6, W7, W8, W9, St.put, Option.bind_some, Option.map_some, ↓reduceIte, Nat.reduceEqDiff, Nat.reduceAdd, Nat.reduceMul, reduceCtorEq, cond_true, cond_false, Int.reduceEq, Int.reduceLT, Int.reduceLE, if_true, if_false, h1, h2, h5, h6, h7, h8, g0, g1, g2, n0, n1, n2, nc, ns, pc, ps, tc, ts, px, nx', tx, strB_imm, strEq_list, hbb]
    rw [withV_some]
    refine ⟨_, awake_call, ?_⟩
    simp -implicitDefEqProofs only [g_none, g_some, gIf_t, gIf_f, List.all_cons, List.all_nil, nice_val, nice_imm, nice_iptr, nice_undef, plain_val, W0, W1, W2, W3, W4, W5, W6, W7, W8, W9, St.put, Option.bind_some, Option.map_some, ↓reduceIte, Nat.reduceEqDiff, Nat.reduceAdd, Nat.reduceMul, reduceCtorEq, cond_true, cond_false, Int.reduceEq, Int.reduceLT, Int.reduceLE, if_true, if_false]

theorem law4 (c : Ce) (hc : fitCe c) (b : List UInt8) (nl : Option (Option Addr × Nat)) (cap : Option Nat) : ∃ h', Ev fun n => enterA E1 (exec E1 n) 4 [.agg c.cells, kidsA (bytesA b) b.length nl cap] .empty = some (.val (.bool true), h') := by
  obtain ⟨v, h', hp, hrun⟩ := enter1 (g := 4) (l := [.agg c.cells, kidsA (bytesA b) b.length nl cap]) (h := .empty) (fun v _ => v = .val (.bool true)) f4_ok fun s hs hh hd hr => by
    apply wp_run
    have h0 := hs 0 _ rfl
    have h1 := hs 1 _ rfl
    have hsm := small_call c hc
    cases hb : smallB c with
    | false =>
      rw [hb] at hsm
      simp -implicitDefEqProofs only [f4_fn, f4, W0, W1, W2, W3, W4, W5, W6, W7, W8, W9, St.put, Option.bind_some, Option.map_some, ↓reduceIte, Nat.reduceEqDiff, Nat.reduceAdd, Nat.reduceMul, reduceCtorEq, cond_true, cond_false, Int.reduceEq, Int.reduceLT, Int.reduceLE, if_true, if_false, h0, h1, hh, callK_all hsm, callK_all awake_call, hd]
      exact ⟨_, rfl, rfl⟩
    | true =>
      rw [hb] at hsm
      by_cases hlen : 4000 < b.length
      · have c1 := len_gt hlen
        simp -implicitDefEqProofs only [f4_fn, f4, W0, W1, W2, W3, W4, W5, W6, W7, W8, W9, St.put, Option.bind_some, Option.map_some, ↓reduceIte, Nat.reduceEqDiff, Nat.reduceAdd, Nat.reduceMul, reduceCtorEq, cond_true, cond_false, Int.reduceEq, Int.reduceLT, Int.reduceLE, if_true, if_false, h0, h1, hh, callK_all hsm, callK_all awake_call, hd, kidsA_len, c1]
        exact ⟨_, rfl, rfl⟩
      · have c1 := len_le hlen
        have hel := small_enc hb
        have henc := encode_call hc (by omega)
        have hd1 := decode_call (f := 2 ^ 20) (b := encCe c) (nl := none) (cap := none) (by decide) (by omega) (by decide) (by omega)
        have hd2 := decode_call (f := 2 ^ 20) (b := b) (nl := nl) (cap := cap) (by decide) (by omega) (by decide) (by omega)
        have hback := dec_back hc (f := 2 ^ 20) (by omega)
        have hdc1 : decCells (2 ^ 20) (encCe c) = (stCe c).cells := by simp only [decCells, hback]
        have hde1 : decErr (2 ^ 20) (encCe c) = 0 := by simp only [decErr, hback]
        rw [hdc1, hde1] at hd1
        have hd1 : ∀ h, RunCall E1 (.f 8) [.imm (bytesA (encCe c)) (encCe c).length none] h (.tup [.agg (stCe c).cells, .val (.int .i64 0)]) h := hd1
        have x0 : ∀ (a : AV) (e : AV), extractV 0 (.tup [a, e]) = some a := fun _ _ => rfl
        have x1 : ∀ (a : AV) (e : AV), extractV 1 (.tup [a, e]) = some e := fun _ _ => rfl
        have dl : (decCells (2 ^ 20) b).length = 4 := by
          rw [decCells]
          cases decCe (2 ^ 20) b <;> rfl
        have st1 := st_all (h := (AH.empty.alloc (.cells c.cells true)).alloc (.cells zCe true)) (b := 1) (n := 4) (cs := zCe) (l := (stCe c).cells) (box_get (h := AH.empty.alloc (.cells c.cells true))) rfl rfl
        have st2 := st_all (h := (((AH.empty.alloc (.cells c.cells true)).alloc (.cells zCe true)).put 1 (some (.cells (stCe c).cells true))).alloc (.cells zCe true)) (b := 2) (n := 4) (cs := zCe) (l := decCells (2 ^ 20) b) (box_get (h := ((AH.empty.alloc (.cells c.cells true)).alloc (.cells zCe true)).put 1 (some (.cells (stCe c).cells true)))) rfl dl
        simp only [zCe] at st1 st2
        simp -implicitDefEqProofs only [f4_fn, f4, W0, W1, W2, W3, W4, W5, W6, W7, W8, W9, St.put, Option.bind_some, Option.map_some, ↓reduceIte, Nat.reduceEqDiff, Nat.reduceAdd, Nat.reduceMul, reduceCtorEq, cond_true, cond_false, Int.reduceEq, Int.reduceLT, Int.reduceLE, if_true, if_false, h0, h1, hh, callK_all hsm, callK_all henc, callK_all hd1, callK_all hd2, hd, kidsA_len, c1, x0, x1, st1, st2]
        refine (f4_end (b := b) (nl := nl) (cap := cap) hc hel (by omega) ?_ ?_ ?_ ?_ ?_ ?_ ?_ ?_ ?_ ?_).mono ?_
        · simp -implicitDefEqProofs only [W0, W1, W2, W3, W4, W5, W6, W7, W8, W9, St.put, Option.bind_some, Option.map_some, ↓reduceIte, Nat.reduceEqDiff, Nat.reduceAdd, Nat.reduceMul, reduceCtorEq, cond_true, cond_false, Int.reduceEq, Int.reduceLT, Int.reduceLE, if_true, if_false]
        · simp -implicitDefEqProofs only [W0, W1, W2, W3, W4, W5, W6, W7, W8, W9, St.put, Option.bind_some, Option.map_some, ↓reduceIte, Nat.reduceEqDiff, Nat.reduceAdd, Nat.reduceMul, reduceCtorEq, cond_true, cond_false, Int.reduceEq, Int.reduceLT, Int.reduceLE, if_true, if_false]
        · simp -implicitDefEqProofs only [W0, W1, W2, W3, W4, W5, W6, W7, W8, W9, St.put, Option.bind_some, Option.map_some, ↓reduceIte, Nat.reduceEqDiff, Nat.reduceAdd, Nat.reduceMul, reduceCtorEq, cond_true, cond_false, Int.reduceEq, Int.reduceLT, Int.reduceLE, if_true, if_false]
        · simp -implicitDefEqProofs only [W0, W1, W2, W3, W4, W5, W6, W7, W8, W9, St.put, Option.bind_some, Option.map_some, ↓reduceIte, Nat.reduceEqDiff, Nat.reduceAdd, Nat.reduceMul, reduceCtorEq, cond_true, cond_false, Int.reduceEq, Int.reduceLT, Int.reduceLE, if_true, if_false]
        · simp -implicitDefEqProofs only [W0, W1, W2, W3, W4, W5, W6, W7, W8, W9, St.put, Option.bind_some, Option.map_some, ↓reduceIte, Nat.reduceEqDiff, Nat.reduceAdd, Nat.reduceMul, reduceCtorEq, cond_true, cond_false, Int.reduceEq, Int.reduceLT, Int.reduceLE, if_true, if_false, h1]
        · simp -implicitDefEqProofs only [W0, W1, W2, W3, W4, W5, W6, W7, W8, W9, St.put, Option.bind_some, Option.map_some, ↓reduceIte, Nat.reduceEqDiff, Nat.reduceAdd, Nat.reduceMul, reduceCtorEq, cond_true, cond_false, Int.reduceEq, Int.reduceLT, Int.reduceLE, if_true, if_false]
        · simp -implicitDefEqProofs only [W0, W1, W2, W3, W4, W5, W6, W7, W8, W9, St.put, Option.bind_some, Option.map_some, ↓reduceIte, Nat.reduceEqDiff, Nat.reduceAdd, Nat.reduceMul, reduceCtorEq, cond_true, cond_false, Int.reduceEq, Int.reduceLT, Int.reduceLE, if_true, if_false]
        · simp -implicitDefEqProofs only [W0, W1, W2, W3, W4, W5, W6, W7, W8, W9, St.put, Option.bind_some, Option.map_some, ↓reduceIte, Nat.reduceEqDiff, Nat.reduceAdd, Nat.reduceMul, reduceCtorEq, cond_true, cond_false, Int.reduceEq, Int.reduceLT, Int.reduceLE, if_true, if_false]
        · simp -implicitDefEqProofs only [W0, W1, W2, W3, W4, W5, W6, W7, W8, W9, St.put, Option.bind_some, Option.map_some, ↓reduceIte, Nat.reduceEqDiff, Nat.reduceAdd, Nat.reduceMul, reduceCtorEq, cond_true, cond_false, Int.reduceEq, Int.reduceLT, Int.reduceLE, if_true, if_false]
        · simp -implicitDefEqProofs only [W0, W1, W2, W3, W4, W5, W6, W7, W8, W9, St.put, Option.bind_some, Option.map_some, ↓reduceIte, Nat.reduceEqDiff, Nat.reduceAdd, Nat.reduceMul, reduceCtorEq, cond_true, cond_false, Int.reduceEq, Int.reduceLT, Int.reduceLE, if_true, if_false]
        rintro e s' ⟨rfl, q1, q2⟩
        have q2 : s'.defers = [] := by rw [q2]; simp -implicitDefEqProofs only [W0, W1, W2, W3, W4, W5, W6, W7, W8, W9, St.put, Option.bind_some, Option.map_some, ↓reduceIte, Nat.reduceEqDiff, Nat.reduceAdd, Nat.reduceMul, reduceCtorEq, cond_true, cond_false, Int.reduceEq, Int.reduceLT, Int.reduceLE, if_true, if_false, hd]
        simp -implicitDefEqProofs only [W0, W1, W2, W3, W4, W5, W6, W7, W8, W9, St.put, Option.bind_some, Option.map_some, ↓reduceIte, Nat.reduceEqDiff, Nat.reduceAdd, Nat.reduceMul, reduceCtorEq, cond_true, cond_false, Int.reduceEq, Int.reduceLT, Int.reduceLE, if_true, if_false, q1, q2]
        exact ⟨_, rfl, rfl⟩
  subst hp
  exact ⟨h', hrun⟩

end Go.Proofs.YtijpnlmmaoecgaaGreatDoor

/- The law CertifyDamage, on trees. -/
namespace Go.Proofs.YtijpnlmmaoecgaaGreatDoor
open Go Go.AM
set_option linter.all false

theorem byte_xor_ne {x : UInt8} {y : Nat} (hy : y < 256) (h0 : y ≠ 0) : UInt8.ofNat (x.toNat ^^^ y) ≠ x := by
  intro e
  have hx := x.toNat_lt
  have hlt : x.toNat ^^^ y < 2 ^ 8 := Nat.xor_lt_two_pow (by omega) (by omega)
  have e2 := congrArg UInt8.toNat e
  rw [ofNat_toNat (by omega)] at e2
  have e3 : x.toNat ^^^ (x.toNat ^^^ y) = x.toNat ^^^ x.toNat := by rw [e2]
  rw [← Nat.xor_assoc, Nat.xor_self, Nat.zero_xor] at e3
  exact h0 e3

theorem bytesA_set (l : List UInt8) (i : Nat) (v : Nat) (hv : v < 256) : (bytesA l).set i (.val (.int .u8 (v : Nat))) = bytesA (l.set i (UInt8.ofNat v)) := by
  induction l generalizing i with
  | nil => rfl
  | cons x l ih =>
    cases i with
    | zero =>
      show AV.val (.int .u8 (v : Nat)) :: bytesA l = AV.val (.int .u8 ((UInt8.ofNat v).toNat : Nat)) :: bytesA l
      rw [ofNat_toNat hv]
    | succ i =>
      show AV.val (.int .u8 (x.toNat : Nat)) :: (bytesA l).set i _ = AV.val (.int .u8 (x.toNat : Nat)) :: bytesA (l.set i _)
      rw [ih]

theorem law5 (c : Ce) (hc : fitCe c) (at' y : Nat) (hat : at' < 65536) (hy : y < 256) : ∃ h', Ev fun n => enterA E1 (exec E1 n) 5 [.agg c.cells, .val (.int .u16 (at' : Nat)), .val (.int .u8 (y : Nat))] .empty = some (.val (.bool true), h') := by
  obtain ⟨v, h', hp, hrun⟩ := enter1 (g := 5) (l := [.agg c.cells, .val (.int .u16 (at' : Nat)), .val (.int .u8 (y : Nat))]) (h := .empty) (fun v _ => v = .val (.bool true)) f5_ok fun s hs hh hd hr => by
    apply wp_run
    have h0 := hs 0 _ rfl
    have h1 := hs 1 _ rfl
    have h2 := hs 2 _ rfl
    have hsm := small_call c hc
    cases hb : smallB c with
    | false =>
      rw [hb] at hsm
      simp -implicitDefEqProofs only [f5_fn, f5, W0, W1, W2, W3, W4, W5, W6, W7, W8, W9, St.put, Option.bind_some, Option.map_some, ↓reduceIte, Nat.reduceEqDiff, Nat.reduceAdd, Nat.reduceMul, reduceCtorEq, cond_true, cond_false, Int.reduceEq, Int.reduceLT, Int.reduceLE, if_true, if_false, h0, h1, h2, hh, callK_all hsm, callK_all awake_call, hd]
      exact ⟨_, rfl, rfl⟩
    | true =>
      rw [hb] at hsm
      by_cases hy0 : y = 0
      · subst hy0
        have c1 : decide (((0 : Nat) : Int) = 0) = true := rfl
        simp -implicitDefEqProofs only [f5_fn, f5, W0, W1, W2, W3, W4, W5, W6, W7, W8, W9, St.put, Option.bind_some, Option.map_some, ↓reduceIte, Nat.reduceEqDiff, Nat.reduceAdd, Nat.reduceMul, reduceCtorEq, cond_true, cond_false, Int.reduceEq, Int.reduceLT, Int.reduceLE, if_true, if_false, h0, h1, h2, hh, callK_all hsm, callK_all awake_call, hd, c1]
        exact ⟨_, rfl, rfl⟩
      · have c1 : decide (((y : Nat) : Int) = 0) = false := by simp; omega
        have hel := small_enc hb
        have henc := encode_call hc (by omega)
        have hpos : 4 ≤ (encCe c).length := by
          rw [encCe, List.length_append, tail4_len]
          omega
        have hnil : encCe c ≠ [] := by
          intro e
          rw [e] at hpos
          simp at hpos
        have hf0 : ∀ s' : St, fill s' [] [] = some [] := fun _ => rfl
        simp -implicitDefEqProofs only [f5_fn, f5, W0, W1, W2, W3, W4, W5, W6, W7, W8, W9, St.put, Option.bind_some, Option.map_some, ↓reduceIte, Nat.reduceEqDiff, Nat.reduceAdd, Nat.reduceMul, reduceCtorEq, cond_true, cond_false, Int.reduceEq, Int.reduceLT, Int.reduceLE, if_true, if_false, h0, h1, h2, hh, callK_all hsm, callK_all henc, hd, c1, hf0]
        refine app_bytes' (b := 1) (cap := some 0) (x := .imm (bytesA (encCe c)) (encCe c).length none) (l := []) (new := encCe c) hnil (.inr rfl) ?_ ?_ (by simp only [List.length_nil]; omega) ?_ ?_ ?_ ?_
        · simp -implicitDefEqProofs only [W0, W1, W2, W3, W4, W5, W6, W7, W8, W9, St.put, Option.bind_some, Option.map_some, ↓reduceIte, Nat.reduceEqDiff, Nat.reduceAdd, Nat.reduceMul, reduceCtorEq, cond_true, cond_false, Int.reduceEq, Int.reduceLT, Int.reduceLE, if_true, if_false]
          exact NoTag.alloc (NoTag.alloc NoTag.empty)
        · simp -implicitDefEqProofs only [W0, W1, W2, W3, W4, W5, W6, W7, W8, W9, St.put, Option.bind_some, Option.map_some, ↓reduceIte, Nat.reduceEqDiff, Nat.reduceAdd, Nat.reduceMul, reduceCtorEq, cond_true, cond_false, Int.reduceEq, Int.reduceLT, Int.reduceLE, if_true, if_false]
          rfl
        · have h1 : Nat.ble ((encCe c).length * 1) (bytesA (encCe c)).length = true := Nat.ble_eq.mpr (by rw [bytesA_len]; omega)
          simp only [elemsOf, h1, cond_true]
          rw [List.take_of_length_le (by rw [bytesA_len]; omega)]
        · simp -implicitDefEqProofs only [W0, W1, W2, W3, W4, W5, W6, W7, W8, W9, St.put, Option.bind_some, Option.map_some, ↓reduceIte, Nat.reduceEqDiff, Nat.reduceAdd, Nat.reduceMul, reduceCtorEq, cond_true, cond_false, Int.reduceEq, Int.reduceLT, Int.reduceLE, if_true, if_false] <;> rfl
        · simp -implicitDefEqProofs only [W0, W1, W2, W3, W4, W5, W6, W7, W8, W9, St.put, Option.bind_some, Option.map_some, ↓reduceIte, Nat.reduceEqDiff, Nat.reduceAdd, Nat.reduceMul, reduceCtorEq, cond_true, cond_false, Int.reduceEq, Int.reduceLT, Int.reduceLE, if_true, if_false]
        obtain ⟨hA, eA⟩ : ∃ hA, appH ((AH.empty.alloc (.cells c.cells true)).alloc (.cells [] true)) 1 (some 0) (bytesA (encCe c)) = hA := ⟨_, rfl⟩
        have gA : hA.get 2 = some (.cells (bytesA (encCe c)) true) := by rw [← eA]; exact appH_new (h := (AH.empty.alloc (.cells c.cells true)).alloc (.cells [] true))
        have nA : hA.next = 3 := by rw [← eA]; rfl
        obtain ⟨k, hk⟩ : ∃ k, at' % (encCe c).length = k := ⟨_, rfl⟩
        have hkl : k < (encCe c).length := by rw [← hk]; exact Nat.mod_lt _ (by omega)
        obtain ⟨x, r, hdr⟩ : ∃ x r, (encCe c).drop k = x :: r := by
          cases hq : (encCe c).drop k with
          | nil => exact absurd (List.drop_eq_nil_iff.1 hq) (by omega)
          | cons x r => exact ⟨x, r, rfl⟩
        have hxk : (encCe c)[k]? = some x := by
          have := List.head?_drop (l := encCe c) (i := k)
          rw [hdr] at this
          exact this.symm
        have hxlt := x.toNat_lt
        have hvlt : x.toNat ^^^ y < 256 := Nat.xor_lt_two_pow (n := 8) (by omega) (by omega)
        have hlen : ∀ n : Nat, lenV (.own 2 0 n 1 none) = some (.val (.int .i64 (n : Nat))) := fun _ => rfl
        have c2 : decide ((((encCe c).length : Nat) : Int) = 0) = false := by simp; omega
        have w1 : IntKind.i64.wrap ((at' : Nat) : Int) = ((at' : Nat) : Int) := wrap_in (by omega)
        have hrem : binA E1.P .rem 3 false (.val (.int .i64 (at' : Nat))) (.val (.int .i64 (((encCe c).length : Nat) : Int))) = some (.val (.int .i64 (k : Nat))) := by
          rw [v_rem (by omega), ← hk]
          rfl
        have hidx : idxAddrSV 1 (.own 2 0 (encCe c).length 1 none) k = some (.ptr 2 k) := by
          have b1 : Nat.blt k (encCe c).length = true := Nat.blt_eq.mpr hkl
          have b2 : Nat.beq 1 1 = true := rfl
          simp only [idxAddrSV, b1, b2, Bool.and_self, cond_true, Nat.zero_add, Nat.mul_one]
        have hcf : cfB (some (.cells (bytesA (encCe c)) true)) k = some (.val (.int .u8 (x.toNat : Nat)) :: bytesA r) := by
          have b1 : Nat.ble k (bytesA (encCe c)).length = true := Nat.ble_eq.mpr (by rw [bytesA_len]; omega)
          have b2 := bytesA_drop (encCe c) k
          rw [Nat.mul_one, hdr] at b2
          simp only [cfB, b1, cond_true, b2]
          rfl
        have hxor : binA E1.P .xor 5 false (.val (.int .u8 (x.toNat : Nat))) (.val (.int .u8 (y : Nat))) = some (.val (.int .u8 ((x.toNat ^^^ y : Nat) : Int))) := by
          rw [v_xor, xor_u8 (by omega) (by omega)]
        have hst := st_at (x := .val (.int .u8 ((x.toNat ^^^ y : Nat) : Int))) (i := k) gA (by rw [bytesA_len]; omega)
        rw [bytesA_set _ _ _ hvlt] at hst
        have hdam : decCe (2 ^ 20) ((encCe c).set k (UInt8.ofNat (x.toNat ^^^ y))) = none := dec_damage hkl (by
          rw [hxk]
          intro e
          exact byte_xor_ne hy hy0 (Option.some.inj e).symm)
        simp -implicitDefEqProofs only [W0, W1, W2, W3, W4, W5, W6, W7, W8, W9, St.put, Option.bind_some, Option.map_some, ↓reduceIte, Nat.reduceEqDiff, Nat.reduceAdd, Nat.reduceMul, reduceCtorEq, cond_true, cond_false, Int.reduceEq, Int.reduceLT, Int.reduceLE, if_true, if_false, List.nil_append, eA, gA, h1, h2, hlen, c2, w1, hrem, hidx, hcf, hxor, hst]
        refine callK_of (decode_own (f := 2 ^ 20) (l := (encCe c).set k (UInt8.ofNat (x.toNat ^^^ y))) (rw := true) (by decide) (by rw [List.length_set]; omega) (by decide) (by rw [List.length_set]; omega) ?_ (by rw [List.length_set])) ?_
        · simp -implicitDefEqProofs only [W0, W1, W2, W3, W4, W5, W6, W7, W8, W9, St.put, Option.bind_some, Option.map_some, ↓reduceIte, Nat.reduceEqDiff, Nat.reduceAdd, Nat.reduceMul, reduceCtorEq, cond_true, cond_false, Int.reduceEq, Int.reduceLT, Int.reduceLE, if_true, if_false]
        rintro v h2' ⟨rfl, nx⟩
        have hdc : decCells (2 ^ 20) ((encCe c).set k (UInt8.ofNat (x.toNat ^^^ y))) = zCe := by simp only [decCells, hdam]
        have hde : decErr (2 ^ 20) ((encCe c).set k (UInt8.ofNat (x.toNat ^^^ y))) = 6 := by simp only [decErr, hdam]
        have x0 : ∀ (a : AV) (e : AV), extractV 0 (.tup [a, e]) = some a := fun _ _ => rfl
        have x1 : ∀ (a : AV) (e : AV), extractV 1 (.tup [a, e]) = some e := fun _ _ => rfl
        have hz : ∀ s' : St, fill s' zCe [] = some zCe := fun _ => rfl
        have st3 := store_new (h := h2') (z := zCe) (l := zCe) (n := 4) rfl rfl
        have hg3 : ((h2'.alloc (.cells zCe true)).put h2'.next (some (.cells zCe true))).get h2'.next = some (.cells zCe true) := put_get
        have tk : takeN (some 4) zCe = some (.agg zCe) := rfl
        have hfz : fitCe ⟨⟨#[]⟩, 0, [], nilRow, none, [], nilRow, none⟩ := ⟨by decide, in64_0, by decide, (fun s hs => by cases hs), by decide, trivial⟩
        have hsame : ∀ h, RunCall E1 (.f 10) [.agg zCe, .agg zCe] h (.val (.bool true)) h := same_ce ⟨⟨#[]⟩, 0, [], nilRow, none, [], nilRow, none⟩ ⟨⟨#[]⟩, 0, [], nilRow, none, [], nilRow, none⟩ hfz rfl
        simp only [zCe] at st3 hg3 tk hz hdc hsame
        simp -implicitDefEqProofs only [W0, W1, W2, W3, W4, W5, W6, W7, W8, W9, St.put, Option.bind_some, Option.map_some, ↓reduceIte, Nat.reduceEqDiff, Nat.reduceAdd, Nat.reduceMul, reduceCtorEq, cond_true, cond_false, Int.reduceEq, Int.reduceLT, Int.reduceLE, if_true, if_false, hdc, hde, x0, x1, st3, hg3, tk, hz, callK_all hsame, callK_all awake_call, hd]
        exact ⟨_, rfl, rfl⟩
  subst hp
  exact ⟨h', hrun⟩

end Go.Proofs.YtijpnlmmaoecgaaGreatDoor
