/- A part of the proofs about certificates: YLaw YLawb YEb. -/
import Derived.Test.YtijpnlmmaoecgaaGreatDoorQS2
import Derived.Test.YtijpnlmmaoecgaaGreatDoorQB5

set_option linter.all false
open Nat (reduceEqDiff reduceAdd reduceMul)
open Int (reduceEq reduceLT reduceLE)

namespace Go.Proofs.YtijpnlmmaoecgaaGreatDoor
open Go Go.AM
theorem awake_call : ∀ h, RunCall E1 (.f 7) [] h (.val (.bool true)) h := fun h => Ev.of fun n => by
 have hs : E1.shared.get 7 = none := by kernel_rfl
 simp only [callA, callF, hs]
 rfl
theorem dec_any {f : Nat} {b : List UInt8} {nl : Option (Option Addr × Nat)} {cap : Option Nat} (h0 : 1 ≤ f) (h1 : b.length ≤ f) (hf : f ≤ 2 ^ 28) (hl : b.length ≤ 99999) :
  ∃ v h', DecTo f b v h' ∧ Ev fun n => enterA E1 (exec E1 n) 8 [kidsA (bytesA b) b.length nl cap] .empty = some (v, h') := by
 obtain ⟨g, rfl⟩ : ∃ g, f = g + 1 := ⟨f - 1, by omega⟩
 cases hb : headOk b with
 | false => exact decode_head hb
 | true => exact decode_body hb h1 hf hl
theorem dec_rep {f : Nat} {b : List UInt8} {v : AV} {h : AH} (k : DecTo f b v h) : ∃ n, n < deepest ∧ Rep h 0 h.next n v (.tup [.agg (decCells f b), .val (.int .i64 (decErr f b))]) := by
 obtain ⟨u, rfl, n, hn, hr⟩ := k
 refine ⟨n + 1, by show n + 1 < 1000000000; omega, ?_⟩
 refine Rep.tup (ps := [(u, .agg (decCells f b)), (.val (.int .i64 (decErr f b)), .val (.int .i64 (decErr f b)))]) fun p hp => ?_
 simp only [List.mem_cons, List.mem_nil_iff, or_false] at hp
 rcases hp with rfl | rfl
 ·exact hr
 ·exact Rep.leaf (Leaf.val _)
theorem decode_call {f : Nat} {b : List UInt8} {nl : Option (Option Addr × Nat)} {cap : Option Nat} (h0 : 1 ≤ f) (h1 : b.length ≤ f) (hf : f ≤ 2 ^ 28) (hl : b.length ≤ 99999) :
  ∀ h, RunCall E1 (.f 8) [kidsA (bytesA b) b.length nl cap] h (.tup [.agg (decCells f b), .val (.int .i64 (decErr f b))]) h := fun h => by
 obtain ⟨v, h', hd, hrun⟩ := dec_any (nl := nl) (cap := cap) h0 h1 hf hl
 obtain ⟨n, hn, hr⟩ := dec_rep hd
 exact call_rep (by kernel_rfl) (fresh_known (by kernel_rfl) _) (mem1 (kidsA_leaf _ _ _ _).tree) hrun hr hn h
theorem len_le {b : List UInt8} (h : ¬ 4000 < b.length) : decide ((4000 : Int) < ((b.length : Nat) : Int)) = false := by simp; omega
theorem len_gt {b : List UInt8} (h : 4000 < b.length) : decide ((4000 : Int) < ((b.length : Nat) : Int)) = true := by simp; omega
theorem dec_fit {f : Nat} {b : List UInt8} {x : Ce} (hb : b.length ≤ 99999) (h : decCe f b = some x) : fitCe x := by
 rw [decCe] at h
 split at h
 ·simp only at h
  split at h
  ·cases h
  ·cases h
   refine rCe_fit _ _ ?_
   have : (midOf b).length ≤ b.length := by rw [midOf, List.length_take, List.length_drop]; omega
   show (midOf b).length ≤ _
   omega
 ·cases h
end Go.Proofs.YtijpnlmmaoecgaaGreatDoor

namespace Go.Proofs.YtijpnlmmaoecgaaGreatDoor
open Go Go.AM
theorem ref_rep {f : Nat} {b : List UInt8} {v : AV} {h : AH} (k : RefTo f b v h) : ∃ n, n < deepest ∧ Rep h 0 h.next n v (.tup [.agg (refCells f b), .val (.int .i64 (refErr f b))]) := by
 obtain ⟨u, rfl, n, hn, hr⟩ := k
 refine ⟨n + 1, by show n + 1 < 1000000000; omega, ?_⟩
 refine Rep.tup (ps := [(u, .agg (refCells f b)), (.val (.int .i64 (refErr f b)), .val (.int .i64 (refErr f b)))]) fun p hp => ?_
 simp only [List.mem_cons, List.mem_nil_iff, or_false] at hp
 rcases hp with rfl | rfl
 ·exact hr
 ·exact Rep.leaf (Leaf.val _)
theorem ref_any {f : Nat} {b : List UInt8} {nl : Option (Option Addr × Nat)} {cap : Option Nat} (h0 : 1 ≤ f) (h1 : b.length ≤ f) (hf : f ≤ 2 ^ 28) (hl : b.length ≤ 99999) :
  ∃ v h', RefTo f b v h' ∧ Ev fun n => enterA E1 (exec E1 n) 9 [kidsA (bytesA b) b.length nl cap] .empty = some (v, h') := by
 obtain ⟨g, rfl⟩ : ∃ g, f = g + 1 := ⟨f - 1, by omega⟩
 cases hb : headOk b with
 | false => exact ref_head hb
 | true => exact ref_body hb h1 hf hl
theorem ref_call {f : Nat} {b : List UInt8} {nl : Option (Option Addr × Nat)} {cap : Option Nat} (h0 : 1 ≤ f) (h1 : b.length ≤ f) (hf : f ≤ 2 ^ 28) (hl : b.length ≤ 99999) :
  ∀ h, RunCall E1 (.f 9) [kidsA (bytesA b) b.length nl cap] h (.tup [.agg (refCells f b), .val (.int .i64 (refErr f b))]) h := fun h => by
 obtain ⟨v, h', hd, hrun⟩ := ref_any (nl := nl) (cap := cap) h0 h1 hf hl
 obtain ⟨n, hn, hr⟩ := ref_rep hd
 exact call_rep (by kernel_rfl) (fresh_known (by kernel_rfl) _) (mem1 (kidsA_leaf _ _ _ _).tree) hrun hr hn h
theorem zCe_fit : fitCe ⟨⟨#[]⟩, 0, [], nilRow, none, [], nilRow, none⟩ := ⟨by decide, in64_0, by decide, (fun s hs => by cases hs), by decide, trivial⟩
theorem both_same {b : List UInt8} (hb : b.length ≤ 99999) : (∀ h, RunCall E1 (.f 10) [.agg (decCells (2 ^ 20) b), .agg (refCells (2 ^ 20) b)] h (.val (.bool true)) h) ∧ decErr (2 ^ 20) b = refErr (2 ^ 20) b := by
 have hr := ref_dec (f := 2 ^ 20) (b := b) (by omega) (by omega)
 cases hd : decCe (2 ^ 20) b with
 | none =>
  cases hc : refCe (2 ^ 20) b with
  | none =>
   refine ⟨?_, by simp only [decErr, refErr, hd, hc]⟩
   simp only [decCells, refCells, hd, hc]
   exact same_ce ⟨⟨#[]⟩, 0, [], nilRow, none, [], nilRow, none⟩ ⟨⟨#[]⟩, 0, [], nilRow, none, [], nilRow, none⟩ zCe_fit rfl
  | some c =>
   rw [hd, hc] at hr
   cases hr
 | some c =>
  cases hc : refCe (2 ^ 20) b with
  | none =>
   rw [hd, hc] at hr
   cases hr
  | some c' =>
   rw [hd, hc] at hr
   simp only [Option.map_some, Option.some.injEq] at hr
   refine ⟨?_, by simp only [decErr, refErr, hd, hc]⟩
   simp only [decCells, refCells, hd, hc]
   exact same_ce c c' (dec_fit hb hd) hr.symm
theorem decErr_two (f : Nat) (b : List UInt8) : decErr f b = 0 ∨ decErr f b = 6 := by
 rw [decErr]
 cases decCe f b with
 | none => exact .inr rfl
 | some _ => exact .inl rfl
theorem law3 (b : List UInt8) (nl : Option (Option Addr × Nat)) (cap : Option Nat) : ∃ h', Ev fun n => enterA E1 (exec E1 n) 3 [kidsA (bytesA b) b.length nl cap] .empty = some (.val (.bool true), h') := by
 obtain ⟨v, h', hp, hrun⟩ := enter1 (g := 3) (l := [kidsA (bytesA b) b.length nl cap]) (h := .empty) (fun v _ => v = .val (.bool true)) f3_ok fun s hs hh hd hr => by
  apply wp_run
  have h0 := hs 0 _ rfl
  by_cases hlen : 4000 < b.length
  ·have c1 := len_gt hlen
   simp -implicitDefEqProofs only [f3_fn, f3, V, ↓reduceIte, reduceEqDiff, reduceAdd, reduceMul, reduceCtorEq, reduceEq, reduceLT, reduceLE, h0, hh, callK_all awake_call, hd, kidsA_len, c1]
   exact ⟨_, rfl, rfl⟩
  ·have c1 := len_le hlen
   have hd1 := decode_call (f := 2 ^ 20) (b := b) (nl := nl) (cap := cap) (by decide) (by omega) (by decide) (by omega)
   have hd2 := ref_call (f := 2 ^ 20) (b := b) (nl := nl) (cap := cap) (by decide) (by omega) (by decide) (by omega)
   obtain ⟨hsame, herr⟩ := both_same (b := b) (by omega)
   rw [← herr] at hd2
   have x0 : ∀ (a : AV) (e : AV), extractV 0 (.tup [a, e]) = some a := fun _ _ => rfl
   have x1 : ∀ (a : AV) (e : AV), extractV 1 (.tup [a, e]) = some e := fun _ _ => rfl
   have dl : (decCells (2 ^ 20) b).length = 4 := by
    rw [decCells]
    cases decCe (2 ^ 20) b <;> rfl
   have rl : (refCells (2 ^ 20) b).length = 4 := by
    rw [refCells]
    cases refCe (2 ^ 20) b <;> rfl
   have st1 := st_all (h := AH.empty.alloc (.cells zCe true)) (b := 0) (n := 4) (cs := zCe) (l := decCells (2 ^ 20) b) (box_get (h := AH.empty)) rfl dl
   have st2 := st_all (h := ((AH.empty.alloc (.cells zCe true)).put 0 (some (.cells (decCells (2 ^ 20) b) true))).alloc (.cells zCe true)) (b := 1) (n := 4) (cs := zCe) (l := refCells (2 ^ 20) b) (box_get (h := (AH.empty.alloc (.cells zCe true)).put 0 (some (.cells (decCells (2 ^ 20) b) true)))) rfl rl
   have td : takeN (some 4) (decCells (2 ^ 20) b) = some (.agg (decCells (2 ^ 20) b)) := takeN_full dl
   have tr : takeN (some 4) (refCells (2 ^ 20) b) = some (.agg (refCells (2 ^ 20) b)) := takeN_full rl
   simp only [zCe] at st1 st2
   rcases decErr_two (2 ^ 20) b with he | he
   ·rw [he] at hd1 hd2
    simp -implicitDefEqProofs only [f3_fn, f3, V, ↓reduceIte, reduceEqDiff, reduceAdd, reduceMul, reduceCtorEq, reduceEq, reduceLT, reduceLE, h0, hh, callK_all hd1, callK_all hd2, hd, kidsA_len, c1, x0, x1, st1, st2, td, tr, callK_all hsame, callK_all awake_call]
    exact ⟨_, rfl, rfl⟩
   ·rw [he] at hd1 hd2
    simp -implicitDefEqProofs only [f3_fn, f3, V, ↓reduceIte, reduceEqDiff, reduceAdd, reduceMul, reduceCtorEq, reduceEq, reduceLT, reduceLE, h0, hh, callK_all hd1, callK_all hd2, hd, kidsA_len, c1, x0, x1, st1, st2, td, tr, callK_all hsame, callK_all awake_call]
    exact ⟨_, rfl, rfl⟩
 subst hp
 exact ⟨h', hrun⟩
end Go.Proofs.YtijpnlmmaoecgaaGreatDoor
