/- A part of the proofs about certificates: YSm YSmb YSame YSamf. -/
import Derived.Test.YtijpnlmmaoecgaaGreatDoorQW1
import Derived.Test.YtijpnlmmaoecgaaGreatDoorQD1

set_option linter.all false
open Nat (reduceEqDiff reduceAdd reduceMul)
open Int (reduceEq reduceLT reduceLE)

namespace Go.Proofs.YtijpnlmmaoecgaaGreatDoor
open Go Go.AM
theorem wrap_nat {x : Int} {n : Nat} (e : x = (n : Int)) (h : n < 2 ^ 62) : IntKind.i64.wrap x = (n : Int) := by rw [e]; exact wrap_in h
theorem dec_le {i n : Nat} (h : i ≤ n) : decide ((i : Int) ≤ (n : Nat)) = true := by simp; omega
theorem dec_gt {i n : Nat} (h : ¬ i ≤ n) : decide ((i : Int) ≤ (n : Nat)) = false := by simp; omega
end Go.Proofs.YtijpnlmmaoecgaaGreatDoor

namespace Go.Proofs.YtijpnlmmaoecgaaGreatDoor
open Go Go.AM
theorem strEq_refl (a : ByteArray) : strEq a a = true := by rw [strEq, eqBytes_eq]; exact beq_self_eq_true _
theorem len_of_map {α β : Type} {f : α → β} {l l' : List α} (h : l.map f = l'.map f) : l.length = l'.length := by
 rw [← List.length_map (f := f), h, List.length_map]
theorem drop_both {α β : Type} {f : α → β} {l l' : List α} (h : l.map f = l'.map f) {i : Nat} {k : α} {r : List α} (hd : l.drop i = k :: r) : ∃ k' r', l'.drop i = k' :: r' ∧ f k = f k' := by
 have e : (l.drop i).map f = (l'.drop i).map f := by rw [List.map_drop, h, List.map_drop]
 rw [hd, List.map_cons] at e
 cases hq : l'.drop i with
 | nil => rw [hq] at e; cases e
 | cons k' r' =>
  rw [hq, List.map_cons] at e
  exact ⟨k', r', rfl, (List.cons.inj e).1⟩
def SmPr (a : Pr) : Prop := ∀ b, stPr a = stPr b → ∀ h, RunCall E1 (.f 56) [.agg a.cells, .agg b.cells] h (.val (.bool true)) h
theorem f56_calm : calmAt 0 f56_o0 = true := by rfl
theorem f56_loop (a b : Pr) (hl : a.ks.length < 2 ^ 60) (hab : a.ks.map stPr = b.ks.map stPr) : ∀ (r : List Pr) (i : Nat) (s : St), a.ks.drop i = r → i ≤ a.ks.length → (∀ k ∈ r, SmPr k) → s.h.next = 2 → s.h.get 0 = some (.cells a.cells true) → s.h.get 1 = some (.cells b.cells true) →
  s.eval (.t 2) = some (.ptr 0 0) → s.eval (.t 3) = some (.ptr 1 0) → s.eval (.t 36) = some (.val (.int .i64 (a.ks.length : Nat))) → s.eval (.t 37) = some (.val (.int .i64 (i : Nat))) → s.defers = [] →
  Run E1 f56_l1 s fun e s' => e = .exit 0 ∧ s'.defers = []
 | [], i, s, hd, hi, hk, hx, hg, hg', h2, h3, h36, h37, hf => by
  have c1 := dec_ge (List.drop_eq_nil_iff.1 hd)
  apply loop_of (rfl : f56_l1 = .loop f56_b1)
  simp -implicitDefEqProofs only [f56_b1, V, ↓reduceIte, reduceEqDiff, reduceAdd, reduceMul, reduceCtorEq, reduceEq, reduceLT, reduceLE, h36, h37, hf, c1]
 | k :: r, i, s, hd, hi, hk, hx, hg, hg', h2, h3, h36, h37, hf => by
  obtain ⟨hlt, hd'⟩ := lt_of_drop hd
  have c1 := dec_lt hlt
  have w1 := wrap_succ (i := i) (by omega)
  obtain ⟨k', r', hdb, hkk⟩ := drop_both hab hd
  have hc := hk k List.mem_cons_self k' hkk
  have n0 : ∀ o, niceT s.h (some (.ptr 0 o)) = true := fun o => nice_ptr (by omega) hg (by rw [a.ids0]; rfl)
  have n1 : ∀ o, niceT s.h (some (.ptr 1 o)) = true := fun o => nice_ptr (by omega) hg' (by rw [b.ids0]; rfl)
  have nk : niceT s.h (some a.kids) = true := plain_nice (by show (ids a.kids).isEmpty = true; rw [a.kids_ids]; rfl)
  have nk' : niceT s.h (some b.kids) = true := plain_nice (by show (ids b.kids).isEmpty = true; rw [b.kids_ids]; rfl)
  have pk : plainT (some (.agg k.cells)) = true := by show (ids (.agg k.cells)).isEmpty = true; rw [ids, k.ids0]; rfl
  have pk' : plainT (some (.agg k'.cells)) = true := by show (ids (.agg k'.cells)).isEmpty = true; rw [ids, k'.ids0]; rfl
  have np := plain_nice (h := s.h) pk
  have np' := plain_nice (h := s.h) pk'
  apply loop_of (rfl : f56_l1 = .loop f56_b1)
  simp -implicitDefEqProofs only [f56_b1, V, ↓reduceIte, reduceEqDiff, reduceAdd, reduceMul, reduceCtorEq, reduceEq, reduceLT, reduceLE, h36, h37, c1]
  refine run_calm f56_calm ?_
  simp -implicitDefEqProofs only [f56_o0, wpDr, g_none, List.all_cons, List.all_nil, nice_val, nice_imm, nice_iptr, nice_undef, plain_val, V, ↓reduceIte, reduceEqDiff, reduceAdd, reduceMul, reduceCtorEq, reduceEq, reduceLT, reduceLE, h2, h3, h36, h37, hg, hg', n0, n1, nk, nk', np, np', pk, pk', kid_at hd, kid_at hdb]
  rw [withV_some]
  refine ⟨_, hc, ?_⟩
  simp -implicitDefEqProofs only [g_none, List.all_cons, List.all_nil, nice_val, V, ↓reduceIte, reduceEqDiff, reduceAdd, reduceMul, reduceCtorEq, reduceEq, reduceLT, reduceLE, w1, h37]
  refine (f56_loop a b hl hab r (i + 1) _ hd' (by omega) (fun k' h' => hk k' (List.mem_cons_of_mem _ h')) ?_ ?_ ?_ ?_ ?_ ?_ ?_ ?_).mono ?_
  ·simp -implicitDefEqProofs only [V, ↓reduceIte, reduceEqDiff, reduceAdd, reduceMul, reduceCtorEq, reduceEq, reduceLT, reduceLE, hx]
  ·simp -implicitDefEqProofs only [V, ↓reduceIte, reduceEqDiff, reduceAdd, reduceMul, reduceCtorEq, reduceEq, reduceLT, reduceLE, hg]
  ·simp -implicitDefEqProofs only [V, ↓reduceIte, reduceEqDiff, reduceAdd, reduceMul, reduceCtorEq, reduceEq, reduceLT, reduceLE, hg']
  ·simp -implicitDefEqProofs only [V, ↓reduceIte, reduceEqDiff, reduceAdd, reduceMul, reduceCtorEq, reduceEq, reduceLT, reduceLE, h2]
  ·simp -implicitDefEqProofs only [V, ↓reduceIte, reduceEqDiff, reduceAdd, reduceMul, reduceCtorEq, reduceEq, reduceLT, reduceLE, h3]
  ·simp -implicitDefEqProofs only [V, ↓reduceIte, reduceEqDiff, reduceAdd, reduceMul, reduceCtorEq, reduceEq, reduceLT, reduceLE, h36]
  ·simp -implicitDefEqProofs only [V, ↓reduceIte, reduceEqDiff, reduceAdd, reduceMul, reduceCtorEq, reduceEq, reduceLT, reduceLE]
  ·simp -implicitDefEqProofs only [V, ↓reduceIte, reduceEqDiff, reduceAdd, reduceMul, reduceCtorEq, reduceEq, reduceLT, reduceLE, hf]
  ·rintro e s' ⟨r1, r2⟩
   exact ⟨r1, r2⟩
theorem stPr_parts {a b : Pr} (h : stPr a = stPr b) : a.op = b.op ∧ a.nm = b.nm ∧ a.n = b.n ∧ a.ks.map stPr = b.ks.map stPr := by
 obtain ⟨o, t, n, ks, nl, cap⟩ := a
 obtain ⟨o', t', n', ks', nl', cap'⟩ := b
 simp only [stPr, Pr.mk.injEq, stPrL_map] at h
 exact ⟨h.1, h.2.1, h.2.2.1, h.2.2.2.1⟩
theorem same_pr_one (a : Pr) (hf : fitPr a) (hk : ∀ k ∈ a.ks, SmPr k) : SmPr a := by
 intro b hab
 obtain ⟨e1, e2, e3, e4⟩ := stPr_parts hab
 have el := len_of_map e4
 have hlen : a.ks.length < 2 ^ 60 := by
  obtain ⟨o, t, n, ks, nl, cap⟩ := a
  simp only [fitPr] at hf
  exact hf.2.2.2.1
 refine pure0 (by kernel_rfl) f56_ok (mem2 (Tree.pr a) (Tree.pr b)) rfl (Tree.val _) fun s hs hh hd hr => ?_
 have h0 := hs 0 _ rfl
 have h1 := hs 1 _ rfl
 simp -implicitDefEqProofs only [f56_fn, f56, V, ↓reduceIte, reduceEqDiff, reduceAdd, reduceMul, reduceCtorEq, reduceEq, reduceLT, reduceLE, h0, h1, hh, ← e1, ← e2, ← e3, ← el, strEq_refl, eq_self]
 refine (f56_loop a b hlen e4 a.ks 0 _ rfl (Nat.zero_le _) hk ?_ ?_ ?_ ?_ ?_ ?_ ?_ ?_).mono ?_
 ·simp -implicitDefEqProofs only [V, ↓reduceIte, reduceEqDiff, reduceAdd, reduceMul, reduceCtorEq, reduceEq, reduceLT, reduceLE]
 ·simp -implicitDefEqProofs only [V, ↓reduceIte, reduceEqDiff, reduceAdd, reduceMul, reduceCtorEq, reduceEq, reduceLT, reduceLE]
 ·simp -implicitDefEqProofs only [V, ↓reduceIte, reduceEqDiff, reduceAdd, reduceMul, reduceCtorEq, reduceEq, reduceLT, reduceLE]
 ·simp -implicitDefEqProofs only [V, ↓reduceIte, reduceEqDiff, reduceAdd, reduceMul, reduceCtorEq, reduceEq, reduceLT, reduceLE]
 ·simp -implicitDefEqProofs only [V, ↓reduceIte, reduceEqDiff, reduceAdd, reduceMul, reduceCtorEq, reduceEq, reduceLT, reduceLE]
 ·simp -implicitDefEqProofs only [V, ↓reduceIte, reduceEqDiff, reduceAdd, reduceMul, reduceCtorEq, reduceEq, reduceLT, reduceLE]
 ·simp -implicitDefEqProofs only [V, ↓reduceIte, reduceEqDiff, reduceAdd, reduceMul, reduceCtorEq, reduceEq, reduceLT, reduceLE] <;> rfl
 ·simp -implicitDefEqProofs only [V, ↓reduceIte, reduceEqDiff, reduceAdd, reduceMul, reduceCtorEq, reduceEq, reduceLT, reduceLE, hd]
 ·rintro e s' ⟨rfl, r2⟩
  have hbeq : Nat.beq 0 0 = true := rfl
  simp -implicitDefEqProofs only [V, ↓reduceIte, reduceEqDiff, reduceAdd, reduceMul, reduceCtorEq, reduceEq, reduceLT, reduceLE, hbeq, r2]
mutual
theorem same_pr : ∀ (p : Pr), fitPr p → SmPr p
 | .mk o t n ks nl cap, h => same_pr_one (.mk o t n ks nl cap) h (same_prs ks (by simp only [fitPr] at h; exact h.2.2.2.2))
theorem same_prs : ∀ (l : List Pr), fitPrL l → ∀ k ∈ l, SmPr k
 | [], _, k, hk => by cases hk
 | a :: r, h, k, hk => by
  simp only [fitPrL] at h
  rcases List.mem_cons.1 hk with e | hk
  ·rw [e]; exact same_pr a h.1
  ·exact same_prs r h.2 k hk
end
theorem f29_calm : calmAt 0 f29_o0 = true := by rfl
theorem stSo_parts {a b : So} (h : stSo a = stSo b) : a.nm = b.nm ∧ stPr a.p = stPr b.p := by
 simp only [stSo, So.mk.injEq] at h
 exact h
theorem f29_loop (a b : Ce) (hl : a.ss.length < 2 ^ 60) (hab : a.ss.map stSo = b.ss.map stSo) : ∀ (r : List So) (i : Nat) (s : St), a.ss.drop i = r → i ≤ a.ss.length → (∀ k ∈ r, fitSo k) →
  s.eval (.t 0) = some a.ssA → s.eval (.t 1) = some b.ssA → s.eval (.t 5) = some (.val (.int .i64 (i : Nat))) → s.defers = [] →
  Run E1 f29_l1 s fun e s' => e = .exit 0 ∧ s'.defers = []
 | [], i, s, hd, hi, hk, h0, h1, h5, hf => by
  have c1 := dec_ge (List.drop_eq_nil_iff.1 hd)
  apply loop_of (rfl : f29_l1 = .loop f29_b1)
  simp -implicitDefEqProofs only [f29_b1, V, ↓reduceIte, reduceEqDiff, reduceAdd, reduceMul, reduceCtorEq, reduceEq, reduceLT, reduceLE, h0, h5, hf, c1]
 | k :: r, i, s, hd, hi, hk, h0, h1, h5, hf => by
  obtain ⟨hlt, hd'⟩ := lt_of_drop hd
  have c1 := dec_lt hlt
  have w1 := wrap_succ (i := i) (by omega)
  obtain ⟨k', r', hdb, hkk⟩ := drop_both hab hd
  obtain ⟨e1, e2⟩ := stSo_parts hkk
  have hc := same_pr k.p (hk k List.mem_cons_self).2 k'.p e2
  have nk : niceT s.h (some a.ssA) = true := plain_nice (by show (ids a.ssA).isEmpty = true; rw [a.ss_ids]; rfl)
  have nk' : niceT s.h (some b.ssA) = true := plain_nice (by show (ids b.ssA).isEmpty = true; rw [b.ss_ids]; rfl)
  have pk : plainT (some (.agg k.p.cells)) = true := by show (ids (.agg k.p.cells)).isEmpty = true; rw [ids, k.p.ids0]; rfl
  have pk' : plainT (some (.agg k'.p.cells)) = true := by show (ids (.agg k'.p.cells)).isEmpty = true; rw [ids, k'.p.ids0]; rfl
  have np := plain_nice (h := s.h) pk
  have np' := plain_nice (h := s.h) pk'
  have fs0k : fieldAddrV 0 (.iptr (k.cells ++ r.flatMap So.cells)) = some (.iptr (k.cells ++ r.flatMap So.cells)) := rfl
  have fs1k : fieldAddrV 1 (.iptr (k.cells ++ r.flatMap So.cells)) = some (.iptr (k.p.cells ++ r.flatMap So.cells)) := rfl
  have t0k : takeN none (k.cells ++ r.flatMap So.cells) = some (.val (.string k.nm)) := rfl
  have t1k : takeN (some 4) (k.p.cells ++ r.flatMap So.cells) = some (.agg k.p.cells) := takeN_row k.p.len
  have fs0k' : fieldAddrV 0 (.iptr (k'.cells ++ r'.flatMap So.cells)) = some (.iptr (k'.cells ++ r'.flatMap So.cells)) := rfl
  have fs1k' : fieldAddrV 1 (.iptr (k'.cells ++ r'.flatMap So.cells)) = some (.iptr (k'.p.cells ++ r'.flatMap So.cells)) := rfl
  have t0k' : takeN none (k'.cells ++ r'.flatMap So.cells) = some (.val (.string k'.nm)) := rfl
  have t1k' : takeN (some 4) (k'.p.cells ++ r'.flatMap So.cells) = some (.agg k'.p.cells) := takeN_row k'.p.len
  rw [← e1] at t0k'
  apply loop_of (rfl : f29_l1 = .loop f29_b1)
  simp -implicitDefEqProofs only [f29_b1, V, ↓reduceIte, reduceEqDiff, reduceAdd, reduceMul, reduceCtorEq, reduceEq, reduceLT, reduceLE, h0, h5, c1]
  refine run_calm f29_calm ?_
  simp -implicitDefEqProofs only [f29_o0, wpDr, g_none, g_some, gIf_t, gIf_f, List.all_cons, List.all_nil, nice_val, nice_imm, nice_iptr, nice_undef, plain_val, V, ↓reduceIte, reduceEqDiff, reduceAdd, reduceMul, reduceCtorEq, reduceEq, reduceLT, reduceLE, h0, h1, h5, nk, nk', np, np', pk, pk', Ce.ssAt hd, Ce.ssAt hdb, fs0k, fs1k, t0k, t1k, fs0k', fs1k', t0k', t1k', strEq_refl]
  rw [withV_some]
  refine ⟨_, hc, ?_⟩
  simp -implicitDefEqProofs only [g_none, g_some, gIf_t, gIf_f, List.all_cons, List.all_nil, nice_val, V, ↓reduceIte, reduceEqDiff, reduceAdd, reduceMul, reduceCtorEq, reduceEq, reduceLT, reduceLE, w1, h5]
  refine (f29_loop a b hl hab r (i + 1) _ hd' (by omega) (fun k' h' => hk k' (List.mem_cons_of_mem _ h')) ?_ ?_ ?_ ?_).mono ?_
  ·simp -implicitDefEqProofs only [V, ↓reduceIte, reduceEqDiff, reduceAdd, reduceMul, reduceCtorEq, reduceEq, reduceLT, reduceLE, h0]
  ·simp -implicitDefEqProofs only [V, ↓reduceIte, reduceEqDiff, reduceAdd, reduceMul, reduceCtorEq, reduceEq, reduceLT, reduceLE, h1]
  ·simp -implicitDefEqProofs only [V, ↓reduceIte, reduceEqDiff, reduceAdd, reduceMul, reduceCtorEq, reduceEq, reduceLT, reduceLE]
  ·simp -implicitDefEqProofs only [V, ↓reduceIte, reduceEqDiff, reduceAdd, reduceMul, reduceCtorEq, reduceEq, reduceLT, reduceLE, hf]
  ·rintro e s' ⟨r1, r2⟩
   exact ⟨r1, r2⟩
theorem same_sols (a b : Ce) (hf : fitCe a) (hab : a.ss.map stSo = b.ss.map stSo) : ∀ h, RunCall E1 (.f 29) [a.ssA, b.ssA] h (.val (.bool true)) h := by
 have el := len_of_map hab
 refine pure0 (by kernel_rfl) f29_ok (mem2 (kidsA_leaf _ _ _ _).tree (kidsA_leaf _ _ _ _).tree) rfl (Tree.val _) fun s hs hh hd hr => ?_
 have h0 := hs 0 _ rfl
 have h1 := hs 1 _ rfl
 simp -implicitDefEqProofs only [f29_fn, f29, V, ↓reduceIte, reduceEqDiff, reduceAdd, reduceMul, reduceCtorEq, reduceEq, reduceLT, reduceLE, h0, h1, hh, ← el, eq_self]
 refine (f29_loop a b hf.sl hab a.ss 0 _ rfl (Nat.zero_le _) hf.ss ?_ ?_ ?_ ?_).mono ?_
 ·simp -implicitDefEqProofs only [V, ↓reduceIte, reduceEqDiff, reduceAdd, reduceMul, reduceCtorEq, reduceEq, reduceLT, reduceLE, h0]
 ·simp -implicitDefEqProofs only [V, ↓reduceIte, reduceEqDiff, reduceAdd, reduceMul, reduceCtorEq, reduceEq, reduceLT, reduceLE, h1]
 ·simp -implicitDefEqProofs only [V, ↓reduceIte, reduceEqDiff, reduceAdd, reduceMul, reduceCtorEq, reduceEq, reduceLT, reduceLE] <;> rfl
 ·simp -implicitDefEqProofs only [V, ↓reduceIte, reduceEqDiff, reduceAdd, reduceMul, reduceCtorEq, reduceEq, reduceLT, reduceLE, hd]
 ·rintro e s' ⟨rfl, r2⟩
  have hbeq : Nat.beq 0 0 = true := rfl
  simp -implicitDefEqProofs only [V, ↓reduceIte, reduceEqDiff, reduceAdd, reduceMul, reduceCtorEq, reduceEq, reduceLT, reduceLE, hbeq, r2]
end Go.Proofs.YtijpnlmmaoecgaaGreatDoor

namespace Go.Proofs.YtijpnlmmaoecgaaGreatDoor
open Go Go.AM
def SmPf (a : Pf) : Prop := ∀ b, stPf a = stPf b → ∀ h, RunCall E1 (.f 30) [.agg a.cells, .agg b.cells] h (.val (.bool true)) h
theorem f30_calm1 : calmAt 0 f30_o1 = true := by rfl
theorem f30_calm4 : calmAt 0 f30_o4 = true := by rfl
theorem stBg_parts {a b : Bg} (h : stBg a = stBg b) : a.neg = b.neg ∧ a.ds = b.ds := by
 simp only [stBg, Bg.mk.injEq] at h
 exact ⟨h.1, h.2.1⟩
theorem neq_bool (b : Bool) : binA E1.P .neq 4 false (.val (.bool b)) (.val (.bool b)) = some (.val (.bool false)) := by
 cases b
 ·kernel_rfl
 ·kernel_rfl
theorem f30_digits (x y : Bg) (hl : x.ds.length < 2 ^ 60) (hxy : x.ds = y.ds) (X Y : Nat) : ∀ (r : List Int) (i : Nat) (s : St), x.ds.drop i = r → i ≤ x.ds.length → X < s.h.next → Y < s.h.next → s.h.get X = some (.cells x.cells true) → s.h.get Y = some (.cells y.cells true) →
  s.eval (.t 6) = some (.ptr X 0) → s.eval (.t 7) = some (.ptr Y 0) → s.eval (.t 8) = some (.val (.int .i64 (i : Nat))) → s.defers = [] →
  Run E1 f30_l2 s fun e s' => e = .exit 2 ∧ s'.defers = [] ∧ s'.h = s.h ∧ s'.eval (.t 2) = s.eval (.t 2) ∧ s'.eval (.t 3) = s.eval (.t 3) ∧ s'.eval (.t 5) = s.eval (.t 5)
 | [], i, s, hd, hi, hX, hY, hg, hg', h6, h7, h8, hf => by
  have c1 := dec_ge (List.drop_eq_nil_iff.1 hd)
  apply loop_of (rfl : f30_l2 = .loop f30_b2)
  simp -implicitDefEqProofs only [f30_b2, V, ↓reduceIte, reduceEqDiff, reduceAdd, reduceMul, reduceCtorEq, reduceEq, reduceLT, reduceLE, h6, h7, h8, hg, hg', hf, c1]
 | k :: r, i, s, hd, hi, hX, hY, hg, hg', h6, h7, h8, hf => by
  obtain ⟨hlt, hd'⟩ := lt_of_drop hd
  have c1 := dec_lt hlt
  have w1 := wrap_succ (i := i) (by omega)
  have hdb : y.ds.drop i = k :: r := by rw [← hxy]; exact hd
  have n0 : ∀ o, niceT s.h (some (.ptr X o)) = true := fun o => nice_ptr hX hg (by rw [x.ids0]; rfl)
  have n1 : ∀ o, niceT s.h (some (.ptr Y o)) = true := fun o => nice_ptr hY hg' (by rw [y.ids0]; rfl)
  have nk : niceT s.h (some x.dsA) = true := plain_nice (by show (ids x.dsA).isEmpty = true; rw [x.ids]; rfl)
  have nk' : niceT s.h (some y.dsA) = true := plain_nice (by show (ids y.dsA).isEmpty = true; rw [y.ids]; rfl)
  apply loop_of (rfl : f30_l2 = .loop f30_b2)
  simp -implicitDefEqProofs only [f30_b2, V, ↓reduceIte, reduceEqDiff, reduceAdd, reduceMul, reduceCtorEq, reduceEq, reduceLT, reduceLE, h6, h7, h8, hg, hg', c1]
  refine run_calm f30_calm1 ?_
  simp -implicitDefEqProofs only [f30_o1, wpDr, g_none, List.all_cons, List.all_nil, nice_val, nice_imm, nice_iptr, nice_undef, plain_val, V, ↓reduceIte, reduceEqDiff, reduceAdd, reduceMul, reduceCtorEq, reduceEq, reduceLT, reduceLE, h6, h7, h8, hg, hg', n0, n1, nk, nk', Bg.at hd, Bg.at hdb, eq_self, w1]
  refine (f30_digits x y hl hxy X Y r (i + 1) _ hd' (by omega) ?_ ?_ ?_ ?_ ?_ ?_ ?_ ?_).mono ?_
  ·simp -implicitDefEqProofs only [V, ↓reduceIte, reduceEqDiff, reduceAdd, reduceMul, reduceCtorEq, reduceEq, reduceLT, reduceLE, hX]
  ·simp -implicitDefEqProofs only [V, ↓reduceIte, reduceEqDiff, reduceAdd, reduceMul, reduceCtorEq, reduceEq, reduceLT, reduceLE, hY]
  ·simp -implicitDefEqProofs only [V, ↓reduceIte, reduceEqDiff, reduceAdd, reduceMul, reduceCtorEq, reduceEq, reduceLT, reduceLE, hg]
  ·simp -implicitDefEqProofs only [V, ↓reduceIte, reduceEqDiff, reduceAdd, reduceMul, reduceCtorEq, reduceEq, reduceLT, reduceLE, hg']
  ·simp -implicitDefEqProofs only [V, ↓reduceIte, reduceEqDiff, reduceAdd, reduceMul, reduceCtorEq, reduceEq, reduceLT, reduceLE, h6]
  ·simp -implicitDefEqProofs only [V, ↓reduceIte, reduceEqDiff, reduceAdd, reduceMul, reduceCtorEq, reduceEq, reduceLT, reduceLE, h7]
  ·simp -implicitDefEqProofs only [V, ↓reduceIte, reduceEqDiff, reduceAdd, reduceMul, reduceCtorEq, reduceEq, reduceLT, reduceLE]
  ·simp -implicitDefEqProofs only [V, ↓reduceIte, reduceEqDiff, reduceAdd, reduceMul, reduceCtorEq, reduceEq, reduceLT, reduceLE, hf]
  ·rintro e s' ⟨r1, r2, r3, r4, r5, r6⟩
   refine ⟨r1, r2, ?_, ?_, ?_, ?_⟩
   ·rw [r3]; simp -implicitDefEqProofs only [V, ↓reduceIte, reduceEqDiff, reduceAdd, reduceMul, reduceCtorEq, reduceEq, reduceLT, reduceLE]
   ·rw [r4]; simp -implicitDefEqProofs only [V, ↓reduceIte, reduceEqDiff, reduceAdd, reduceMul, reduceCtorEq, reduceEq, reduceLT, reduceLE]
   ·rw [r5]; simp -implicitDefEqProofs only [V, ↓reduceIte, reduceEqDiff, reduceAdd, reduceMul, reduceCtorEq, reduceEq, reduceLT, reduceLE]
   ·rw [r6]; simp -implicitDefEqProofs only [V, ↓reduceIte, reduceEqDiff, reduceAdd, reduceMul, reduceCtorEq, reduceEq, reduceLT, reduceLE]
def f30_oA : List DOp := f30_o0.take 10
def f30_oB : List DOp := f30_o0.drop 10
theorem f30_split : f30_o0 = f30_oA ++ f30_oB := rfl
theorem f30_calmA : calmAt 0 f30_oA = true := by rfl
theorem f30_boxes (a b : Pf) {i : Nat} {k k' : Bg} {r r' : List Bg} {s : St} (hd : a.ms.drop i = k :: r) (hdb : b.ms.drop i = k' :: r') (hx : 2 ≤ s.h.next) (hg : s.h.get 0 = some (.cells a.cells true)) (hg' : s.h.get 1 = some (.cells b.cells true))
  (h2 : s.eval (.t 2) = some (.ptr 0 0)) (h3 : s.eval (.t 3) = some (.ptr 1 0)) (h5 : s.eval (.t 5) = some (.val (.int .i64 (i : Nat)))) (hf : s.defers = []) :
  Run E1 f30_d0 s fun e s' => e = .normal ∧ s'.defers = [] ∧ s'.h.next = s.h.next + 2 ∧ s'.h.get 0 = some (.cells a.cells true) ∧ s'.h.get 1 = some (.cells b.cells true) ∧ s'.h.get s.h.next = some (.cells k.cells true) ∧ s'.h.get (s.h.next + 1) = some (.cells k'.cells true) ∧
   s'.eval (.t 2) = some (.ptr 0 0) ∧ s'.eval (.t 3) = some (.ptr 1 0) ∧ s'.eval (.t 5) = some (.val (.int .i64 (i : Nat))) ∧ s'.eval (.t 6) = some (.ptr s.h.next 0) ∧ s'.eval (.t 7) = some (.ptr (s.h.next + 1) 0) := by
 have n0 : ∀ o, niceT s.h (some (.ptr 0 o)) = true := fun o => nice_ptr (by omega) hg (by rw [a.ids0]; rfl)
 have n1 : ∀ o, niceT s.h (some (.ptr 1 o)) = true := fun o => nice_ptr (by omega) hg' (by rw [b.ids0]; rfl)
 have nk : niceT s.h (some a.msA) = true := plain_nice (by show (ids a.msA).isEmpty = true; rw [a.ms_ids]; rfl)
 have nk' : niceT s.h (some b.msA) = true := plain_nice (by show (ids b.msA).isEmpty = true; rw [b.ms_ids]; rfl)
 refine run_draw ?_
 rw [f30_split]
 refine calm_preB f30_oA [] s f30_calmA (fun x hx => by cases hx) ?_
 have eA : f30_oA = [⟨⟨(some 47), none, .fieldAddr 2 (.t 2)⟩, [2], []⟩, ⟨⟨(some 48), none, .load none (.t 47)⟩, [47], []⟩, ⟨⟨(some 49), none, .mv (.t 5)⟩, [5], [0, 1]⟩, ⟨⟨(some 50), none, .idxAddrS 2 (.t 48) (.t 49)⟩, [48, 49], []⟩, ⟨⟨(some 51), none, .load (some 2) (.t 50)⟩, [50], []⟩, ⟨⟨(some 52), none, .fieldAddr 2 (.t 3)⟩, [3], [0, 1, 2, 3, 4]⟩, ⟨⟨(some 53), none, .load none (.t 52)⟩, [52], [0, 1, 2, 3, 4]⟩, ⟨⟨(some 54), none, .mv (.t 5)⟩, [5], [0, 1, 2, 3, 4, 5, 6]⟩, ⟨⟨(some 55), none, .idxAddrS 2 (.t 53) (.t 54)⟩, [53, 54], [0, 1, 2, 3, 4]⟩, ⟨⟨(some 56), none, .load (some 2) (.t 55)⟩, [55], [0, 1, 2, 3, 4]⟩] := rfl
 have eB : f30_oB = [⟨⟨(some 6), none, .alloc [(.val (.bool false)), (.val (.slice none 0 0))]⟩, [], [0, 1, 2, 3, 4, 5, 6, 7, 8, 9]⟩, ⟨⟨(some 7), none, .alloc [(.val (.bool false)), (.val (.slice none 0 0))]⟩, [], [0, 1, 2, 3, 4, 5, 6, 7, 8, 9, 10]⟩, ⟨⟨none, none, .store 2 (.t 6) (.t 51)⟩, [6, 51], [5, 6, 7, 8, 9]⟩, ⟨⟨none, none, .store 2 (.t 7) (.t 56)⟩, [7, 56], []⟩] := rfl
 simp -implicitDefEqProofs only [eA, wpDr, g_none, List.all_cons, List.all_nil, nice_val, nice_imm, nice_iptr, nice_undef, plain_val, V, ↓reduceIte, reduceEqDiff, reduceAdd, reduceMul, reduceCtorEq, reduceEq, reduceLT, reduceLE, h2, h3, h5, hg, hg', n0, n1, nk, nk', Pf.msAt hd, Pf.msAt hdb]
 generalize es1 : St.set _ 56 (.agg k'.cells) = s1
 have a2 : s1.eval (.t 2) = some (.ptr 0 0) := by rw [← es1]; simp -implicitDefEqProofs only [V, ↓reduceIte, reduceEqDiff, reduceAdd, reduceMul, reduceCtorEq, reduceEq, reduceLT, reduceLE, h2]
 have a3 : s1.eval (.t 3) = some (.ptr 1 0) := by rw [← es1]; simp -implicitDefEqProofs only [V, ↓reduceIte, reduceEqDiff, reduceAdd, reduceMul, reduceCtorEq, reduceEq, reduceLT, reduceLE, h3]
 have a5 : s1.eval (.t 5) = some (.val (.int .i64 (i : Nat))) := by rw [← es1]; simp -implicitDefEqProofs only [V, ↓reduceIte, reduceEqDiff, reduceAdd, reduceMul, reduceCtorEq, reduceEq, reduceLT, reduceLE, h5]
 have a51 : s1.eval (.t 51) = some (.agg k.cells) := by rw [← es1]; simp -implicitDefEqProofs only [V, ↓reduceIte, reduceEqDiff, reduceAdd, reduceMul, reduceCtorEq, reduceEq, reduceLT, reduceLE]
 have a56 : s1.eval (.t 56) = some (.agg k'.cells) := by rw [← es1]; simp -implicitDefEqProofs only [V, ↓reduceIte, reduceEqDiff, reduceAdd, reduceMul, reduceCtorEq, reduceEq, reduceLT, reduceLE]
 have eh : s1.h = s.h := by rw [← es1]; simp -implicitDefEqProofs only [V, ↓reduceIte, reduceEqDiff, reduceAdd, reduceMul, reduceCtorEq, reduceEq, reduceLT, reduceLE]
 have ed : s1.defers = [] := by rw [← es1]; simp -implicitDefEqProofs only [V, ↓reduceIte, reduceEqDiff, reduceAdd, reduceMul, reduceCtorEq, reduceEq, reduceLT, reduceLE, hf]
 clear es1
 intro _ done' hdl hq
 have hdl : done'.length = 10 := hdl
 rw [eB]
 rw [← eh] at hq hg hg' ⊢
 have hx : 2 ≤ s1.h.next := by rw [eh]; exact hx
 have lt10 : ∀ i ∈ ([0, 1, 2, 3, 4, 5, 6, 7, 8, 9] : List Nat), i < done'.length := by rw [hdl]; decide
 have i1 : ids (.agg k.cells) = [] := by rw [ids, k.ids0]
 have i2 : ids (.agg k'.cells) = [] := by rw [ids, k'.ids0]
 refine alloc_draw lt10 (alloc_draw ?_ ?_)
 ·rw [List.length_append, hdl]
  show ∀ i ∈ ([0, 1, 2, 3, 4, 5, 6, 7, 8, 9, 10] : List Nat), i < 11
  decide
 have hs1 := store_new (h := s1.h) (z := [.val (.bool false), .val (.slice none 0 0)]) (l := k.cells) (n := 2) rfl k.len
 generalize eq1 : ((s1.h.alloc (.cells [.val (.bool false), .val (.slice none 0 0)] true)).alloc (.cells [.val (.bool false), .val (.slice none 0 0)] true)) = h1
 have hn1 : h1.next = s1.h.next + 2 := by rw [← eq1]; rfl
 have g1 : h1.get s1.h.next = some (.cells [.val (.bool false), .val (.slice none 0 0)] true) := by
  rw [← eq1, get_alloc_old (by rw [a_next]; omega)]; exact box_get
 have g2 : h1.get (s1.h.next + 1) = some (.cells [.val (.bool false), .val (.slice none 0 0)] true) := by
  rw [← eq1]; exact box_get (h := s1.h.alloc _)
 have go : ∀ x, x < s1.h.next → h1.get x = s1.h.get x := fun x hx => by
  rw [← eq1, get_alloc_old (by rw [a_next]; omega), get_alloc_old hx]
 have st1 := st_all (h := h1) (b := s1.h.next) (n := 2) (l := k.cells) g1 rfl k.len
 refine store_draw (cs := [.val (.bool false), .val (.slice none 0 0)]) (b := s1.h.next) (off := 0) (v := .agg k.cells) (l := k.cells) (h' := h1.put s1.h.next (some (.cells k.cells true))) ?_ ?_ i1 rfl (by decide) ?_ rfl ?_ ?_ ?_ ?_
 ·simp -implicitDefEqProofs only [V, ↓reduceIte, reduceEqDiff, reduceAdd, reduceMul, reduceCtorEq, reduceEq, reduceLT, reduceLE]
 ·simp -implicitDefEqProofs only [V, ↓reduceIte, reduceEqDiff, reduceAdd, reduceMul, reduceCtorEq, reduceEq, reduceLT, reduceLE, a51]
 ·simp -implicitDefEqProofs only [V, ↓reduceIte, reduceEqDiff, reduceAdd, reduceMul, reduceCtorEq, reduceEq, reduceLT, reduceLE, eq1, g1]
 ·simp -implicitDefEqProofs only [V, ↓reduceIte, reduceEqDiff, reduceAdd, reduceMul, reduceCtorEq, reduceEq, reduceLT, reduceLE]
  omega
 ·simp -implicitDefEqProofs only [V, ↓reduceIte, reduceEqDiff, reduceAdd, reduceMul, reduceCtorEq, reduceEq, reduceLT, reduceLE, eq1, st1]
 ·simp -implicitDefEqProofs only [V, ↓reduceIte, reduceEqDiff, reduceAdd, reduceMul, reduceCtorEq, reduceEq, reduceLT, reduceLE]
  rw [List.append_assoc]
  exact free_old hq (Nat.le_refl _) (fun i hi => by rw [hdl]; revert i; decide)
 have g2' : (h1.put s1.h.next (some (.cells k.cells true))).get (s1.h.next + 1) = some (.cells [.val (.bool false), .val (.slice none 0 0)] true) := by rw [get_put_old (by omega), g2]
 have st2 := st_all (h := h1.put s1.h.next (some (.cells k.cells true))) (b := s1.h.next + 1) (n := 2) (l := k'.cells) g2' rfl k'.len
 refine store_draw (cs := [.val (.bool false), .val (.slice none 0 0)]) (b := s1.h.next + 1) (off := 0) (v := .agg k'.cells) (l := k'.cells) (h' := (h1.put s1.h.next (some (.cells k.cells true))).put (s1.h.next + 1) (some (.cells k'.cells true))) ?_ ?_ i2 rfl (by decide) ?_ rfl ?_ ?_ rfl ?_
 ·simp -implicitDefEqProofs only [V, ↓reduceIte, reduceEqDiff, reduceAdd, reduceMul, reduceCtorEq, reduceEq, reduceLT, reduceLE]
 ·simp -implicitDefEqProofs only [V, ↓reduceIte, reduceEqDiff, reduceAdd, reduceMul, reduceCtorEq, reduceEq, reduceLT, reduceLE, a56]
 ·simp -implicitDefEqProofs only [V, ↓reduceIte, reduceEqDiff, reduceAdd, reduceMul, reduceCtorEq, reduceEq, reduceLT, reduceLE, g2']
 ·simp -implicitDefEqProofs only [V, ↓reduceIte, reduceEqDiff, reduceAdd, reduceMul, reduceCtorEq, reduceEq, reduceLT, reduceLE, hn1]
  omega
 ·simp -implicitDefEqProofs only [V, ↓reduceIte, reduceEqDiff, reduceAdd, reduceMul, reduceCtorEq, reduceEq, reduceLT, reduceLE, st2]
 refine draw_nil ?_
 have o0 : ((h1.put s1.h.next (some (.cells k.cells true))).put (s1.h.next + 1) (some (.cells k'.cells true))).get 0 = some (.cells a.cells true) := by rw [get_put_old (by omega), get_put_old (by omega), go 0 (by omega), hg]
 have o1 : ((h1.put s1.h.next (some (.cells k.cells true))).put (s1.h.next + 1) (some (.cells k'.cells true))).get 1 = some (.cells b.cells true) := by rw [get_put_old (by omega), get_put_old (by omega), go 1 (by omega), hg']
 have o2 : ((h1.put s1.h.next (some (.cells k.cells true))).put (s1.h.next + 1) (some (.cells k'.cells true))).get s1.h.next = some (.cells k.cells true) := by rw [get_put_old (by omega), put_get]
 have o3 : ((h1.put s1.h.next (some (.cells k.cells true))).put (s1.h.next + 1) (some (.cells k'.cells true))).get (s1.h.next + 1) = some (.cells k'.cells true) := put_get
 refine ⟨?_, ?_, o0, o1, o2, o3, ?_, ?_, ?_, ?_, ?_⟩
 ·simp -implicitDefEqProofs only [V, ↓reduceIte, reduceEqDiff, reduceAdd, reduceMul, reduceCtorEq, reduceEq, reduceLT, reduceLE, ed]
 ·exact hn1
 ·simp -implicitDefEqProofs only [V, ↓reduceIte, reduceEqDiff, reduceAdd, reduceMul, reduceCtorEq, reduceEq, reduceLT, reduceLE, a2]
 ·simp -implicitDefEqProofs only [V, ↓reduceIte, reduceEqDiff, reduceAdd, reduceMul, reduceCtorEq, reduceEq, reduceLT, reduceLE, a3]
 ·simp -implicitDefEqProofs only [V, ↓reduceIte, reduceEqDiff, reduceAdd, reduceMul, reduceCtorEq, reduceEq, reduceLT, reduceLE, a5]
 ·simp -implicitDefEqProofs only [V, ↓reduceIte, reduceEqDiff, reduceAdd, reduceMul, reduceCtorEq, reduceEq, reduceLT, reduceLE]
 ·simp -implicitDefEqProofs only [V, ↓reduceIte, reduceEqDiff, reduceAdd, reduceMul, reduceCtorEq, reduceEq, reduceLT, reduceLE]
theorem f30_bigs (a b : Pf) (hl : a.ms.length < 2 ^ 60) (hab : a.ms.map stBg = b.ms.map stBg) : ∀ (r : List Bg) (i : Nat) (s : St), a.ms.drop i = r → i ≤ a.ms.length → (∀ k ∈ r, fitBg k) → 2 ≤ s.h.next → s.h.get 0 = some (.cells a.cells true) → s.h.get 1 = some (.cells b.cells true) →
  s.eval (.t 2) = some (.ptr 0 0) → s.eval (.t 3) = some (.ptr 1 0) → s.eval (.t 5) = some (.val (.int .i64 (i : Nat))) → s.defers = [] →
  Run E1 f30_l3 s fun e s' => e = .exit 0 ∧ s'.defers = [] ∧ 2 ≤ s'.h.next ∧ s'.h.get 0 = some (.cells a.cells true) ∧ s'.h.get 1 = some (.cells b.cells true) ∧ s'.eval (.t 2) = some (.ptr 0 0) ∧ s'.eval (.t 3) = some (.ptr 1 0)
 | [], i, s, hd, hi, hk, hx, hg, hg', h2, h3, h5, hf => by
  have c1 := dec_ge (List.drop_eq_nil_iff.1 hd)
  apply loop_of (rfl : f30_l3 = .loop f30_b3)
  simp -implicitDefEqProofs only [f30_b3, V, ↓reduceIte, reduceEqDiff, reduceAdd, reduceMul, reduceCtorEq, reduceEq, reduceLT, reduceLE, h2, h3, h5, hg, hg', hf, c1]
  exact hx
 | k :: r, i, s, hd, hi, hk, hx, hg, hg', h2, h3, h5, hf => by
  obtain ⟨hlt, hd'⟩ := lt_of_drop hd
  have c1 := dec_lt hlt
  have w1 := wrap_succ (i := i) (by omega)
  obtain ⟨k', r', hdb, hkk⟩ := drop_both hab hd
  obtain ⟨e1, e2⟩ := stBg_parts hkk
  apply loop_of (rfl : f30_l3 = .loop f30_b3)
  simp -implicitDefEqProofs only [f30_b3, V, ↓reduceIte, reduceEqDiff, reduceAdd, reduceMul, reduceCtorEq, reduceEq, reduceLT, reduceLE, h2, h3, h5, hg, c1]
  refine (f30_boxes a b (i := i) hd hdb ?_ ?_ ?_ ?_ ?_ ?_ ?_).mono ?_
  ·simp -implicitDefEqProofs only [V, ↓reduceIte, reduceEqDiff, reduceAdd, reduceMul, reduceCtorEq, reduceEq, reduceLT, reduceLE, hx]
  ·simp -implicitDefEqProofs only [V, ↓reduceIte, reduceEqDiff, reduceAdd, reduceMul, reduceCtorEq, reduceEq, reduceLT, reduceLE, hg]
  ·simp -implicitDefEqProofs only [V, ↓reduceIte, reduceEqDiff, reduceAdd, reduceMul, reduceCtorEq, reduceEq, reduceLT, reduceLE, hg']
  ·simp -implicitDefEqProofs only [V, ↓reduceIte, reduceEqDiff, reduceAdd, reduceMul, reduceCtorEq, reduceEq, reduceLT, reduceLE, h2]
  ·simp -implicitDefEqProofs only [V, ↓reduceIte, reduceEqDiff, reduceAdd, reduceMul, reduceCtorEq, reduceEq, reduceLT, reduceLE, h3]
  ·simp -implicitDefEqProofs only [V, ↓reduceIte, reduceEqDiff, reduceAdd, reduceMul, reduceCtorEq, reduceEq, reduceLT, reduceLE, h5]
  ·simp -implicitDefEqProofs only [V, ↓reduceIte, reduceEqDiff, reduceAdd, reduceMul, reduceCtorEq, reduceEq, reduceLT, reduceLE, hf]
  rintro e s1 ⟨rfl, f1, nx, g0, g1, gX, gY, b2, b3, b5, b6, b7⟩
  simp -implicitDefEqProofs only [V, ↓reduceIte, reduceEqDiff, reduceAdd, reduceMul, reduceCtorEq, reduceEq, reduceLT, reduceLE] at nx gX gY b6 b7
  generalize s.h.next = X at *
  have c2 : decide (((k.ds.length : Nat) : Int) = ((k'.ds.length : Nat) : Int)) = true := by rw [e2]; simp
  have c3 : binA E1.P .neq 4 false (.val (.bool k.neg)) (.val (.bool k'.neg)) = some (.val (.bool false)) := by
   rw [e1]
   exact neq_bool _
  simp -implicitDefEqProofs only [V, ↓reduceIte, reduceEqDiff, reduceAdd, reduceMul, reduceCtorEq, reduceEq, reduceLT, reduceLE, b6, b7, gX, gY, c2, c3]
  refine (f30_digits k k' (hk k List.mem_cons_self).1 e2 X (X + 1) k.ds 0 _ rfl (Nat.zero_le _) ?_ ?_ ?_ ?_ ?_ ?_ ?_ ?_).mono ?_
  ·simp -implicitDefEqProofs only [V, ↓reduceIte, reduceEqDiff, reduceAdd, reduceMul, reduceCtorEq, reduceEq, reduceLT, reduceLE]
   omega
  ·simp -implicitDefEqProofs only [V, ↓reduceIte, reduceEqDiff, reduceAdd, reduceMul, reduceCtorEq, reduceEq, reduceLT, reduceLE]
   omega
  ·simp -implicitDefEqProofs only [V, ↓reduceIte, reduceEqDiff, reduceAdd, reduceMul, reduceCtorEq, reduceEq, reduceLT, reduceLE, gX]
  ·simp -implicitDefEqProofs only [V, ↓reduceIte, reduceEqDiff, reduceAdd, reduceMul, reduceCtorEq, reduceEq, reduceLT, reduceLE, gY]
  ·simp -implicitDefEqProofs only [V, ↓reduceIte, reduceEqDiff, reduceAdd, reduceMul, reduceCtorEq, reduceEq, reduceLT, reduceLE, b6]
  ·simp -implicitDefEqProofs only [V, ↓reduceIte, reduceEqDiff, reduceAdd, reduceMul, reduceCtorEq, reduceEq, reduceLT, reduceLE, b7]
  ·simp -implicitDefEqProofs only [V, ↓reduceIte, reduceEqDiff, reduceAdd, reduceMul, reduceCtorEq, reduceEq, reduceLT, reduceLE] <;> rfl
  ·simp -implicitDefEqProofs only [V, ↓reduceIte, reduceEqDiff, reduceAdd, reduceMul, reduceCtorEq, reduceEq, reduceLT, reduceLE, f1]
  rintro e s2 ⟨rfl, q1, q2, q3, q4, q5⟩
  simp -implicitDefEqProofs only [V, ↓reduceIte, reduceEqDiff, reduceAdd, reduceMul, reduceCtorEq, reduceEq, reduceLT, reduceLE, b2, b3, b5] at q2 q3 q4 q5
  have hbeq2 : Nat.beq 2 2 = true := rfl
  simp -implicitDefEqProofs only [V, ↓reduceIte, reduceEqDiff, reduceAdd, reduceMul, reduceCtorEq, reduceEq, reduceLT, reduceLE, hbeq2, q5, w1]
  refine (f30_bigs a b hl hab r (i + 1) _ hd' (by omega) (fun k' h' => hk k' (List.mem_cons_of_mem _ h')) ?_ ?_ ?_ ?_ ?_ ?_ ?_).mono ?_
  ·simp -implicitDefEqProofs only [V, ↓reduceIte, reduceEqDiff, reduceAdd, reduceMul, reduceCtorEq, reduceEq, reduceLT, reduceLE, q2]
   omega
  ·simp -implicitDefEqProofs only [V, ↓reduceIte, reduceEqDiff, reduceAdd, reduceMul, reduceCtorEq, reduceEq, reduceLT, reduceLE, q2, g0]
  ·simp -implicitDefEqProofs only [V, ↓reduceIte, reduceEqDiff, reduceAdd, reduceMul, reduceCtorEq, reduceEq, reduceLT, reduceLE, q2, g1]
  ·simp -implicitDefEqProofs only [V, ↓reduceIte, reduceEqDiff, reduceAdd, reduceMul, reduceCtorEq, reduceEq, reduceLT, reduceLE, q3]
  ·simp -implicitDefEqProofs only [V, ↓reduceIte, reduceEqDiff, reduceAdd, reduceMul, reduceCtorEq, reduceEq, reduceLT, reduceLE, q4]
  ·simp -implicitDefEqProofs only [V, ↓reduceIte, reduceEqDiff, reduceAdd, reduceMul, reduceCtorEq, reduceEq, reduceLT, reduceLE]
  ·simp -implicitDefEqProofs only [V, ↓reduceIte, reduceEqDiff, reduceAdd, reduceMul, reduceCtorEq, reduceEq, reduceLT, reduceLE, q1]
  ·rintro e s' r1
   exact r1
theorem f30_kids (a b : Pf) (hl : a.ks.length < 2 ^ 60) (hab : a.ks.map stPf = b.ks.map stPf) : ∀ (r : List Pf) (i : Nat) (s : St), a.ks.drop i = r → i ≤ a.ks.length → (∀ k ∈ r, SmPf k) → 2 ≤ s.h.next → s.h.get 0 = some (.cells a.cells true) → s.h.get 1 = some (.cells b.cells true) →
  s.eval (.t 2) = some (.ptr 0 0) → s.eval (.t 3) = some (.ptr 1 0) → s.eval (.t 9) = some (.val (.int .i64 (i : Nat))) → s.defers = [] →
  Run E1 f30_l5 s fun e s' => e = .exit 4 ∧ s'.defers = []
 | [], i, s, hd, hi, hk, hx, hg, hg', h2, h3, h9, hf => by
  have c1 := dec_ge (List.drop_eq_nil_iff.1 hd)
  apply loop_of (rfl : f30_l5 = .loop f30_b5)
  simp -implicitDefEqProofs only [f30_b5, V, ↓reduceIte, reduceEqDiff, reduceAdd, reduceMul, reduceCtorEq, reduceEq, reduceLT, reduceLE, h2, h3, h9, hg, hg', hf, c1]
 | k :: r, i, s, hd, hi, hk, hx, hg, hg', h2, h3, h9, hf => by
  obtain ⟨hlt, hd'⟩ := lt_of_drop hd
  have c1 := dec_lt hlt
  have w1 := wrap_succ (i := i) (by omega)
  obtain ⟨k', r', hdb, hkk⟩ := drop_both hab hd
  have hc := hk k List.mem_cons_self k' hkk
  have n0 : ∀ o, niceT s.h (some (.ptr 0 o)) = true := fun o => nice_ptr (by omega) hg (by rw [a.ids0]; rfl)
  have n1 : ∀ o, niceT s.h (some (.ptr 1 o)) = true := fun o => nice_ptr (by omega) hg' (by rw [b.ids0]; rfl)
  have nk : niceT s.h (some a.ksA) = true := plain_nice (by show (ids a.ksA).isEmpty = true; rw [a.ks_ids]; rfl)
  have nk' : niceT s.h (some b.ksA) = true := plain_nice (by show (ids b.ksA).isEmpty = true; rw [b.ks_ids]; rfl)
  have pk : plainT (some (.agg k.cells)) = true := by show (ids (.agg k.cells)).isEmpty = true; rw [ids, k.ids0]; rfl
  have pk' : plainT (some (.agg k'.cells)) = true := by show (ids (.agg k'.cells)).isEmpty = true; rw [ids, k'.ids0]; rfl
  have np := plain_nice (h := s.h) pk
  have np' := plain_nice (h := s.h) pk'
  apply loop_of (rfl : f30_l5 = .loop f30_b5)
  simp -implicitDefEqProofs only [f30_b5, V, ↓reduceIte, reduceEqDiff, reduceAdd, reduceMul, reduceCtorEq, reduceEq, reduceLT, reduceLE, h2, h3, h9, hg, hg', c1]
  refine run_calm f30_calm4 ?_
  simp -implicitDefEqProofs only [f30_o4, wpDr, g_none, List.all_cons, List.all_nil, nice_val, nice_imm, nice_iptr, nice_undef, plain_val, V, ↓reduceIte, reduceEqDiff, reduceAdd, reduceMul, reduceCtorEq, reduceEq, reduceLT, reduceLE, h2, h3, h9, hg, hg', n0, n1, nk, nk', np, np', pk, pk', Pf.ksAt hd, Pf.ksAt hdb]
  rw [withV_some]
  refine ⟨_, hc, ?_⟩
  simp -implicitDefEqProofs only [g_none, List.all_cons, List.all_nil, nice_val, V, ↓reduceIte, reduceEqDiff, reduceAdd, reduceMul, reduceCtorEq, reduceEq, reduceLT, reduceLE, w1, h9]
  refine (f30_kids a b hl hab r (i + 1) _ hd' (by omega) (fun k' h' => hk k' (List.mem_cons_of_mem _ h')) ?_ ?_ ?_ ?_ ?_ ?_ ?_).mono ?_
  ·simp -implicitDefEqProofs only [V, ↓reduceIte, reduceEqDiff, reduceAdd, reduceMul, reduceCtorEq, reduceEq, reduceLT, reduceLE, hx]
  ·simp -implicitDefEqProofs only [V, ↓reduceIte, reduceEqDiff, reduceAdd, reduceMul, reduceCtorEq, reduceEq, reduceLT, reduceLE, hg]
  ·simp -implicitDefEqProofs only [V, ↓reduceIte, reduceEqDiff, reduceAdd, reduceMul, reduceCtorEq, reduceEq, reduceLT, reduceLE, hg']
  ·simp -implicitDefEqProofs only [V, ↓reduceIte, reduceEqDiff, reduceAdd, reduceMul, reduceCtorEq, reduceEq, reduceLT, reduceLE, h2]
  ·simp -implicitDefEqProofs only [V, ↓reduceIte, reduceEqDiff, reduceAdd, reduceMul, reduceCtorEq, reduceEq, reduceLT, reduceLE, h3]
  ·simp -implicitDefEqProofs only [V, ↓reduceIte, reduceEqDiff, reduceAdd, reduceMul, reduceCtorEq, reduceEq, reduceLT, reduceLE]
  ·simp -implicitDefEqProofs only [V, ↓reduceIte, reduceEqDiff, reduceAdd, reduceMul, reduceCtorEq, reduceEq, reduceLT, reduceLE, hf]
  ·rintro e s' ⟨r1, r2⟩
   exact ⟨r1, r2⟩
theorem stPf_parts {a b : Pf} (h : stPf a = stPf b) : a.kd = b.kd ∧ a.fm = b.fm ∧ a.ms.map stBg = b.ms.map stBg ∧ a.ks.map stPf = b.ks.map stPf := by
 obtain ⟨kd, fm, ms, mnl, mcap, ks, nl, cap⟩ := a
 obtain ⟨kd', fm', ms', mnl', mcap', ks', nl', cap'⟩ := b
 simp only [stPf, Pf.mk.injEq, stPfL_map] at h
 exact ⟨h.1, h.2.1, h.2.2.1, h.2.2.2.2.2.1⟩
theorem same_pf_one (a : Pf) (hf : fitPf a) (hk : ∀ k ∈ a.ks, SmPf k) : SmPf a := by
 intro b hab
 obtain ⟨e1, e2, e3, e4⟩ := stPf_parts hab
 have el := len_of_map e4
 have em := len_of_map e3
 obtain ⟨hm, hbg, hlen⟩ : a.ms.length < 2 ^ 60 ∧ (∀ k ∈ a.ms, fitBg k) ∧ a.ks.length < 2 ^ 60 := by
  obtain ⟨kd, fm, ms, mnl, mcap, ks, nl, cap⟩ := a
  simp only [fitPf] at hf
  exact ⟨hf.2.2.1, hf.2.2.2.1, hf.2.2.2.2.1⟩
 refine pure0 (by kernel_rfl) f30_ok (mem2 (Tree.pf a) (Tree.pf b)) rfl (Tree.val _) fun s hs hh hd hr => ?_
 have h0 := hs 0 _ rfl
 have h1 := hs 1 _ rfl
 simp -implicitDefEqProofs only [f30_fn, f30, V, ↓reduceIte, reduceEqDiff, reduceAdd, reduceMul, reduceCtorEq, reduceEq, reduceLT, reduceLE, h0, h1, hh, ← e1, ← e2, ← el, ← em, eq_self]
 refine (f30_bigs a b hm e3 a.ms 0 _ rfl (Nat.zero_le _) hbg ?_ ?_ ?_ ?_ ?_ ?_ ?_).mono ?_
 ·simp -implicitDefEqProofs only [V, ↓reduceIte, reduceEqDiff, reduceAdd, reduceMul, reduceCtorEq, reduceEq, reduceLT, reduceLE]
  exact Nat.le_refl _
 ·simp -implicitDefEqProofs only [V, ↓reduceIte, reduceEqDiff, reduceAdd, reduceMul, reduceCtorEq, reduceEq, reduceLT, reduceLE]
 ·simp -implicitDefEqProofs only [V, ↓reduceIte, reduceEqDiff, reduceAdd, reduceMul, reduceCtorEq, reduceEq, reduceLT, reduceLE]
 ·simp -implicitDefEqProofs only [V, ↓reduceIte, reduceEqDiff, reduceAdd, reduceMul, reduceCtorEq, reduceEq, reduceLT, reduceLE]
 ·simp -implicitDefEqProofs only [V, ↓reduceIte, reduceEqDiff, reduceAdd, reduceMul, reduceCtorEq, reduceEq, reduceLT, reduceLE]
 ·simp -implicitDefEqProofs only [V, ↓reduceIte, reduceEqDiff, reduceAdd, reduceMul, reduceCtorEq, reduceEq, reduceLT, reduceLE] <;> rfl
 ·simp -implicitDefEqProofs only [V, ↓reduceIte, reduceEqDiff, reduceAdd, reduceMul, reduceCtorEq, reduceEq, reduceLT, reduceLE, hd]
 rintro e s1 ⟨rfl, f1, nx, g0, g1, b2, b3⟩
 have hbeq : Nat.beq 0 0 = true := rfl
 have hbeq4 : Nat.beq 4 4 = true := rfl
 simp -implicitDefEqProofs only [V, ↓reduceIte, reduceEqDiff, reduceAdd, reduceMul, reduceCtorEq, reduceEq, reduceLT, reduceLE, hbeq]
 refine (f30_kids a b hlen e4 a.ks 0 _ rfl (Nat.zero_le _) hk ?_ ?_ ?_ ?_ ?_ ?_ ?_).mono ?_
 ·simp -implicitDefEqProofs only [V, ↓reduceIte, reduceEqDiff, reduceAdd, reduceMul, reduceCtorEq, reduceEq, reduceLT, reduceLE]
  exact nx
 ·simp -implicitDefEqProofs only [V, ↓reduceIte, reduceEqDiff, reduceAdd, reduceMul, reduceCtorEq, reduceEq, reduceLT, reduceLE, g0]
 ·simp -implicitDefEqProofs only [V, ↓reduceIte, reduceEqDiff, reduceAdd, reduceMul, reduceCtorEq, reduceEq, reduceLT, reduceLE, g1]
 ·simp -implicitDefEqProofs only [V, ↓reduceIte, reduceEqDiff, reduceAdd, reduceMul, reduceCtorEq, reduceEq, reduceLT, reduceLE, b2]
 ·simp -implicitDefEqProofs only [V, ↓reduceIte, reduceEqDiff, reduceAdd, reduceMul, reduceCtorEq, reduceEq, reduceLT, reduceLE, b3]
 ·simp -implicitDefEqProofs only [V, ↓reduceIte, reduceEqDiff, reduceAdd, reduceMul, reduceCtorEq, reduceEq, reduceLT, reduceLE] <;> rfl
 ·simp -implicitDefEqProofs only [V, ↓reduceIte, reduceEqDiff, reduceAdd, reduceMul, reduceCtorEq, reduceEq, reduceLT, reduceLE, f1]
 rintro e s' ⟨rfl, r2⟩
 simp -implicitDefEqProofs only [V, ↓reduceIte, reduceEqDiff, reduceAdd, reduceMul, reduceCtorEq, reduceEq, reduceLT, reduceLE, hbeq4, r2]
mutual
theorem same_pf : ∀ (p : Pf), fitPf p → SmPf p
 | .mk kd fm ms mnl mcap ks nl cap, h => same_pf_one (.mk kd fm ms mnl mcap ks nl cap) h (same_pfs ks (by simp only [fitPf] at h; exact h.2.2.2.2.2))
theorem same_pfs : ∀ (l : List Pf), fitPfL l → ∀ k ∈ l, SmPf k
 | [], _, k, hk => by cases hk
 | a :: r, h, k, hk => by
  simp only [fitPfL] at h
  rcases List.mem_cons.1 hk with e | hk
  ·rw [e]; exact same_pf a h.1
  ·exact same_pfs r h.2 k hk
end
theorem f10_calm : calmAt 0 f10_o0 = true := by rfl
theorem f10_loop (a b : Ce) (hl : a.ps.length < 2 ^ 60) (hab : a.ps.map stPf = b.ps.map stPf) : ∀ (r : List Pf) (i : Nat) (s : St), a.ps.drop i = r → i ≤ a.ps.length → (∀ k ∈ r, fitPf k) → 2 ≤ s.h.next → s.h.get 0 = some (.cells a.cells true) → s.h.get 1 = some (.cells b.cells true) →
  s.eval (.t 2) = some (.ptr 0 0) → s.eval (.t 3) = some (.ptr 1 0) → s.eval (.t 5) = some (.val (.int .i64 (i : Nat))) → s.defers = [] →
  Run E1 f10_l1 s fun e s' => e = .exit 0 ∧ s'.defers = []
 | [], i, s, hd, hi, hk, hx, hg, hg', h2, h3, h9, hf => by
  have c1 := dec_ge (List.drop_eq_nil_iff.1 hd)
  apply loop_of (rfl : f10_l1 = .loop f10_b1)
  simp -implicitDefEqProofs only [f10_b1, V, ↓reduceIte, reduceEqDiff, reduceAdd, reduceMul, reduceCtorEq, reduceEq, reduceLT, reduceLE, h2, h3, h9, hg, hg', hf, c1]
 | k :: r, i, s, hd, hi, hk, hx, hg, hg', h2, h3, h9, hf => by
  obtain ⟨hlt, hd'⟩ := lt_of_drop hd
  have c1 := dec_lt hlt
  have w1 := wrap_succ (i := i) (by omega)
  obtain ⟨k', r', hdb, hkk⟩ := drop_both hab hd
  have hc := same_pf k (hk k List.mem_cons_self) k' hkk
  have n0 : ∀ o, niceT s.h (some (.ptr 0 o)) = true := fun o => nice_ptr (by omega) hg (by rw [a.ids0]; rfl)
  have n1 : ∀ o, niceT s.h (some (.ptr 1 o)) = true := fun o => nice_ptr (by omega) hg' (by rw [b.ids0]; rfl)
  have nk : niceT s.h (some a.psA) = true := plain_nice (by show (ids a.psA).isEmpty = true; rw [a.ps_ids]; rfl)
  have nk' : niceT s.h (some b.psA) = true := plain_nice (by show (ids b.psA).isEmpty = true; rw [b.ps_ids]; rfl)
  have pk : plainT (some (.agg k.cells)) = true := by show (ids (.agg k.cells)).isEmpty = true; rw [ids, k.ids0]; rfl
  have pk' : plainT (some (.agg k'.cells)) = true := by show (ids (.agg k'.cells)).isEmpty = true; rw [ids, k'.ids0]; rfl
  have np := plain_nice (h := s.h) pk
  have np' := plain_nice (h := s.h) pk'
  apply loop_of (rfl : f10_l1 = .loop f10_b1)
  simp -implicitDefEqProofs only [f10_b1, V, ↓reduceIte, reduceEqDiff, reduceAdd, reduceMul, reduceCtorEq, reduceEq, reduceLT, reduceLE, h2, h3, h9, hg, hg', c1]
  refine run_calm f10_calm ?_
  simp -implicitDefEqProofs only [f10_o0, wpDr, g_none, List.all_cons, List.all_nil, nice_val, nice_imm, nice_iptr, nice_undef, plain_val, V, ↓reduceIte, reduceEqDiff, reduceAdd, reduceMul, reduceCtorEq, reduceEq, reduceLT, reduceLE, h2, h3, h9, hg, hg', n0, n1, nk, nk', np, np', pk, pk', Ce.psAt hd, Ce.psAt hdb]
  rw [withV_some]
  refine ⟨_, hc, ?_⟩
  simp -implicitDefEqProofs only [g_none, List.all_cons, List.all_nil, nice_val, V, ↓reduceIte, reduceEqDiff, reduceAdd, reduceMul, reduceCtorEq, reduceEq, reduceLT, reduceLE, w1, h9]
  refine (f10_loop a b hl hab r (i + 1) _ hd' (by omega) (fun k' h' => hk k' (List.mem_cons_of_mem _ h')) ?_ ?_ ?_ ?_ ?_ ?_ ?_).mono ?_
  ·simp -implicitDefEqProofs only [V, ↓reduceIte, reduceEqDiff, reduceAdd, reduceMul, reduceCtorEq, reduceEq, reduceLT, reduceLE, hx]
  ·simp -implicitDefEqProofs only [V, ↓reduceIte, reduceEqDiff, reduceAdd, reduceMul, reduceCtorEq, reduceEq, reduceLT, reduceLE, hg]
  ·simp -implicitDefEqProofs only [V, ↓reduceIte, reduceEqDiff, reduceAdd, reduceMul, reduceCtorEq, reduceEq, reduceLT, reduceLE, hg']
  ·simp -implicitDefEqProofs only [V, ↓reduceIte, reduceEqDiff, reduceAdd, reduceMul, reduceCtorEq, reduceEq, reduceLT, reduceLE, h2]
  ·simp -implicitDefEqProofs only [V, ↓reduceIte, reduceEqDiff, reduceAdd, reduceMul, reduceCtorEq, reduceEq, reduceLT, reduceLE, h3]
  ·simp -implicitDefEqProofs only [V, ↓reduceIte, reduceEqDiff, reduceAdd, reduceMul, reduceCtorEq, reduceEq, reduceLT, reduceLE]
  ·simp -implicitDefEqProofs only [V, ↓reduceIte, reduceEqDiff, reduceAdd, reduceMul, reduceCtorEq, reduceEq, reduceLT, reduceLE, hf]
  ·rintro e s' ⟨r1, r2⟩
   exact ⟨r1, r2⟩
theorem same_ce (a b : Ce) (hf : fitCe a) (hab : stCe a = stCe b) : ∀ h, RunCall E1 (.f 10) [.agg a.cells, .agg b.cells] h (.val (.bool true)) h := by
 simp only [stCe, Ce.mk.injEq, stPfL_map] at hab
 obtain ⟨e1, e2, e3, -, -, e4, -, -⟩ := hab
 have el := len_of_map e4
 have hss := same_sols a b hf e3
 refine pure0 (by kernel_rfl) f10_ok (mem2 (Tree.ce a) (Tree.ce b)) rfl (Tree.val _) fun s hs hh hd hr => ?_
 have h0 := hs 0 _ rfl
 have h1 := hs 1 _ rfl
 simp -implicitDefEqProofs only [f10_fn, f10, V, ↓reduceIte, reduceEqDiff, reduceAdd, reduceMul, reduceCtorEq, reduceEq, reduceLT, reduceLE, h0, h1, hh, ← e1, ← e2, ← el, strEq_refl, eq_self, callK_all hss]
 refine (f10_loop a b hf.pl e4 a.ps 0 _ rfl (Nat.zero_le _) (fun k hk => fitPfL_mem hf.ps k hk) ?_ ?_ ?_ ?_ ?_ ?_ ?_).mono ?_
 ·simp -implicitDefEqProofs only [V, ↓reduceIte, reduceEqDiff, reduceAdd, reduceMul, reduceCtorEq, reduceEq, reduceLT, reduceLE]
  exact Nat.le_refl _
 ·simp -implicitDefEqProofs only [V, ↓reduceIte, reduceEqDiff, reduceAdd, reduceMul, reduceCtorEq, reduceEq, reduceLT, reduceLE]
 ·simp -implicitDefEqProofs only [V, ↓reduceIte, reduceEqDiff, reduceAdd, reduceMul, reduceCtorEq, reduceEq, reduceLT, reduceLE]
 ·simp -implicitDefEqProofs only [V, ↓reduceIte, reduceEqDiff, reduceAdd, reduceMul, reduceCtorEq, reduceEq, reduceLT, reduceLE]
 ·simp -implicitDefEqProofs only [V, ↓reduceIte, reduceEqDiff, reduceAdd, reduceMul, reduceCtorEq, reduceEq, reduceLT, reduceLE]
 ·simp -implicitDefEqProofs only [V, ↓reduceIte, reduceEqDiff, reduceAdd, reduceMul, reduceCtorEq, reduceEq, reduceLT, reduceLE] <;> rfl
 ·simp -implicitDefEqProofs only [V, ↓reduceIte, reduceEqDiff, reduceAdd, reduceMul, reduceCtorEq, reduceEq, reduceLT, reduceLE, hd]
 ·rintro e s' ⟨rfl, r2⟩
  have hbeq : Nat.beq 0 0 = true := rfl
  simp -implicitDefEqProofs only [V, ↓reduceIte, reduceEqDiff, reduceAdd, reduceMul, reduceCtorEq, reduceEq, reduceLT, reduceLE, hbeq, r2]
end Go.Proofs.YtijpnlmmaoecgaaGreatDoor
