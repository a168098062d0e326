/- A part of the proofs about certificates: YFe YFf. -/
import Derived.Test.YtijpnlmmaoecgaaGreatDoorQB3
import Derived.Test.YtijpnlmmaoecgaaGreatDoorQB5

set_option linter.all false
open Nat (reduceEqDiff reduceAdd reduceMul)
open Int (reduceEq reduceLT reduceLE)

namespace Go.Proofs.YtijpnlmmaoecgaaGreatDoor
open Go Go.AM
structure RowU (h : AH) (b : Nat) (bs : List UInt8) : Prop where
 cb : h.get b = some (.cells (bytesA bs) true)
 nx : b + 1 = h.next
section
variable {E : Env} {s : St} {K : St → Prop}
theorem app_uu {r : List AOper} {dst : Option Nat} {a d b c : Nat} {l new : List UInt8} (kb : s.h.get b = some (.cells (bytesA l) true)) (htu : TagsUp (b + 1) s.h) (hb : b + 1 ≤ c) (kc : RowT s.h c new) (h0 : new ≠ []) (hl : l.length + new.length ≤ 2 ^ 40) (ha : s.eval (.t a) = some (.own b 0 l.length 1 none)) (hd : s.eval (.t d) = some (.own c 0 new.length 1 none))
  (k : ∀ h', RowU h' s.h.next (l ++ new) → (∀ x, x < s.h.next → x ≠ b → h'.get x = s.h.get x) → AM.wpOps E r ((s.toH h').put dst (.own s.h.next 0 (l ++ new).length 1 none)) K) : AM.wpOps E (⟨dst, none, .appT 5 (.t a) (.t d)⟩ :: r) s K := by
 have hc := kc.lt
 have n2 : (s.h.put b none).next = s.h.next := rfl
 refine app_u (tag_none htu (by omega)) h0 kb hl (elems_row kc.cb (bytesA_len _)) ha hd (k _ ⟨?_, rfl⟩ fun x h1 h2 => ?_)
 ·rw [AH.get_alloc, n2, if_pos rfl]
 ·rw [AH.get_alloc, n2, if_neg (by omega), get_put_old h2]
theorem app_du {rest : List DOp} {done : List DRec} {dst a d b c : Nat} {l new : List UInt8} (kb : s.h.get b = some (.cells (bytesA l) true)) (htu : TagsUp (b + 1) s.h) (hb : b + 1 ≤ c) (kc : RowT s.h c new) (h0 : new ≠ []) (hl : l.length + new.length ≤ 2 ^ 40) (ha : s.eval (.t a) = some (.own b 0 l.length 1 none)) (hd : s.eval (.t d) = some (.own c 0 new.length 1 none))
  (k : ∀ F D h', RowU h' s.h.next (l ++ new) → (∀ x, x < s.h.next → x ≠ b → h'.get x = s.h.get x) → (∀ x ∈ D, x = b) → DrawTo E rest (done ++ [⟨F, D, s.h.next, h'.next⟩]) ((s.toH h').put (some dst) (.own s.h.next 0 (l ++ new).length 1 none)) K) :
  DrawTo E (⟨⟨some dst, none, .appT 5 (.t a) (.t d)⟩, [a, d], []⟩ :: rest) done s K := by
 have hc := kc.lt
 exact app_drawU kb (by omega) (tag_none htu (by omega)) (tag_known htu (Nat.le_refl _) (by omega)) kc h0 hl ha hd fun F D h' q1 q2 q3 q4 _ => k F D h' ⟨q2, by omega⟩ q3 q4
end
structure EndTo (b0 : Nat) (s s' : St) (t : Nat) (bs : List UInt8) : Prop where
 row : ∃ b, s.h.next ≤ b ∧ s'.eval (.t t) = some (.own b 0 bs.length 1 none) ∧ RowU s'.h b bs
 old : ∀ x, x < s.h.next → x ≠ b0 → s'.h.get x = s.h.get x
 df : s'.defers = s.defers
theorem only_val {R : List Nat} {v : Value} : onlyT R (some (.val v)) = true := rfl
theorem only_iptr {R : List Nat} {l : List AV} : onlyT R (some (.iptr l)) = true := rfl
theorem ts1 {so : So} {l : List AV} : takeN none (so.cells ++ l) = some (.val (.string so.nm)) := rfl
theorem f13_d0_run {s : St} {r0 b0 : Nat} {c : Ce} {l : List UInt8} (hg : s.h.get r0 = some (.cells c.cells true)) (hr : r0 < b0) (hrow : RowU s.h b0 l) (hl : l.length + ((encText c.nm).length + (encNum c.dg).length) ≤ 2 ^ 40)
  (c2 : ∀ h, ∃ v h', RunCall E1 (.f 39) [.val (.int .i64 c.dg)] h v h' ∧ RowTo h (encNum c.dg) v h')
  (h1 : s.eval (.t 1) = some (.ptr r0 0)) (h3 : s.eval (.t 3) = some (.own b0 0 l.length 1 none)) :
  Run E1 f13_d0 s fun e s' => e = .normal ∧ s'.eval (.t 1) = some (.ptr r0 0) ∧ EndTo b0 s s' 3 (l ++ encText c.nm ++ encNum c.dg) := by
 have hnx := hrow.nx
 have np : ∀ (h : AH) o, h.get r0 = some (.cells c.cells true) → r0 < h.next → niceT h (some (.ptr r0 o)) = true := fun h o g k => nice_ptr k g (by rw [c.ids0]; rfl)
 have n0 := fun o => np s.h o hg (by omega)
 have on : ∀ o, onlyT [r0] (some (.ptr r0 o)) = true := fun o => by simp [onlyT, ids, memN]
 have nss : ∀ h : AH, niceT h (some c.ssA) = true := fun h => plain_nice (by simp only [plainT, c.ss_ids]; rfl)
 have nb : niceT s.h (some (.own b0 0 l.length 1 none)) = true := nice_row hrow.cb (by omega)
 refine run_draw ?_
 show DrawTo E1 (f13_o0.take 3 ++ f13_o0.drop 3) [] s _
 refine mild_pre (R := [r0]) _ [] s rfl (fun x hx => by cases hx) (fun r hr' => by rw [List.mem_singleton.1 hr']; omega) ?_
 simp -implicitDefEqProofs only [f13_o0, List.take_succ_cons, List.take_zero, wpDm, g_none, List.all_cons, List.all_nil, footed, V, ↓reduceIte, reduceEqDiff, reduceAdd, reduceMul, reduceCtorEq, reduceEq, reduceLT, reduceLE, h1, h3, hg, n0, on, nb, nss, only_val, only_iptr, nice_iptr, nice_val]
 intro _ done hdl hdm
 have hdl : done.length = 3 := hdl
 refine call_drawR (f := 38) (i := 12) (a := .val (.string c.nm)) (bs := encText c.nm) ?_ rfl (fun j hj => ?_) (fun h => text38_call (by omega)) ?_
 ·simp -implicitDefEqProofs only [V, ↓reduceIte, reduceEqDiff, reduceAdd, reduceMul, reduceCtorEq, reduceEq, reduceLT, reduceLE]
 ·rw [hdl, List.mem_singleton.1 hj]; decide
 intro h2 b2 hb2 hr2 hn2 ho2 ht2
 simp -implicitDefEqProofs only [St.h_set, St.h_toH] at hb2 hn2 ho2 ht2
 have hg2 : h2.get r0 = some (.cells c.cells true) := by rw [ho2 _ (by omega), hg]
 have hdm2 := mild_snoc hdm (mild_call (r0 := r0) (lo := s.h.next) (hi := h2.next) (by omega))
 refine app_du (b := b0) (c := b2) (l := l) (new := encText c.nm) ?_ ?_ (by omega) hr2 (encText_ne _) (by omega) ?_ ?_ ?_
 ·show h2.get b0 = _
  rw [ho2 b0 (by omega), hrow.cb]
 ·show TagsUp (b0 + 1) h2
  rw [hnx]
  exact ht2
 ·simp -implicitDefEqProofs only [V, ↓reduceIte, reduceEqDiff, reduceAdd, reduceMul, reduceCtorEq, reduceEq, reduceLT, reduceLE, h3]
 ·simp -implicitDefEqProofs only [V, ↓reduceIte, reduceEqDiff, reduceAdd, reduceMul, reduceCtorEq, reduceEq, reduceLT, reduceLE]
 intro F D h3' hr3 ho3 hD
 simp -implicitDefEqProofs only [St.h_set, St.h_toH, St.put] at hr3 ho3
 have hnx3 := hr3.nx
 have hg3 : h3'.get r0 = some (.cells c.cells true) := by rw [ho3 _ (by omega) (by omega), hg2]
 have n3 := fun o => np h3' o hg3 (by omega)
 have hdm3 := mild_snoc hdm2 (mild_app (r0 := r0) (b := b0) (lo := h2.next) (hi := h3'.next) (F := F) (D := D) (by omega) (by omega) hD)
 show DrawTo E1 ((f13_o0.drop 5).take 2 ++ f13_o0.drop 7) _ _ _
 refine mild_pre (R := [r0]) _ _ _ ?_ hdm3 (fun r hr' => by rw [List.mem_singleton.1 hr']; show r0 < h3'.next; omega) ?_
 ·rw [List.length_append, List.length_append, hdl]
  rfl
 simp -implicitDefEqProofs only [f13_o0, List.take_succ_cons, List.take_zero, List.drop_succ_cons, List.drop_zero, wpDm, g_none, List.all_cons, List.all_nil, footed, V, ↓reduceIte, reduceEqDiff, reduceAdd, reduceMul, reduceCtorEq, reduceEq, reduceLT, reduceLE, h1, hg3, n3, on, nss, only_val, only_iptr, nice_iptr, nice_val]
 intro _ done4 hdl4 hdm4
 refine call_drawR (f := 39) (i := 16) (a := .val (.int .i64 c.dg)) (bs := encNum c.dg) ?_ rfl (fun j hj => by cases hj) c2 ?_
 ·simp -implicitDefEqProofs only [V, ↓reduceIte, reduceEqDiff, reduceAdd, reduceMul, reduceCtorEq, reduceEq, reduceLT, reduceLE]
 intro h4' b4 hb4 hr4 hn4 ho4 ht4
 simp -implicitDefEqProofs only [St.h_set, St.h_toH, St.put] at hb4 hn4 ho4 ht4
 refine app_du (b := h2.next) (c := b4) (l := l ++ encText c.nm) (new := encNum c.dg) ?_ ?_ (by omega) hr4 (encNum_ne _) (by rw [List.length_append]; omega) ?_ ?_ ?_
 ·show h4'.get h2.next = _
  rw [ho4 _ (by omega), hr3.cb]
 ·show TagsUp (h2.next + 1) h4'
  rw [hnx3]
  exact ht4
 ·simp -implicitDefEqProofs only [V, ↓reduceIte, reduceEqDiff, reduceAdd, reduceMul, reduceCtorEq, reduceEq, reduceLT, reduceLE]
 ·simp -implicitDefEqProofs only [V, ↓reduceIte, reduceEqDiff, reduceAdd, reduceMul, reduceCtorEq, reduceEq, reduceLT, reduceLE]
 intro F' D' h5 hr5 ho5 hD'
 simp -implicitDefEqProofs only [St.h_set, St.h_toH, St.put] at hr5 ho5
 have hnx5 := hr5.nx
 refine mv_draw (v := .own h4'.next 0 (l ++ encText c.nm ++ encNum c.dg).length 1 none) ?_ ?_ (fun j hj => by cases hj) (draw_nil ?_)
 ·simp -implicitDefEqProofs only [V, ↓reduceIte, reduceEqDiff, reduceAdd, reduceMul, reduceCtorEq, reduceEq, reduceLT, reduceLE]
 ·exact nice_row hr5.cb (by show h4'.next < h5.next; omega)
 refine ⟨?_, ⟨⟨h4'.next, by omega, ?_, ?_⟩, ?_, ?_⟩⟩
 ·simp -implicitDefEqProofs only [V, ↓reduceIte, reduceEqDiff, reduceAdd, reduceMul, reduceCtorEq, reduceEq, reduceLT, reduceLE, h1]
 ·simp -implicitDefEqProofs only [V, ↓reduceIte, reduceEqDiff, reduceAdd, reduceMul, reduceCtorEq, reduceEq, reduceLT, reduceLE]
 ·exact hr5
 ·intro z hz hzb
  show h5.get z = s.h.get z
  rw [ho5 z (by omega) (by omega), ho4 z (by omega), ho3 z (by omega) hzb, ho2 z hz]
 ·simp -implicitDefEqProofs only [V, ↓reduceIte, reduceEqDiff, reduceAdd, reduceMul, reduceCtorEq, reduceEq, reduceLT, reduceLE]
theorem f13_d1_run {s : St} {r0 b0 i : Nat} {c : Ce} {so : So} {rs : List So} {l : List UInt8} (hg : s.h.get r0 = some (.cells c.cells true)) (hr : r0 < b0) (hrow : RowU s.h b0 l) (hm : c.ss.drop i = so :: rs) (hl : l.length + ((encText so.nm).length + (encPr so.p).length) ≤ 2 ^ 40)
  (c2 : ∀ h, ∃ v h', RunCall E1 (.f 40) [.agg so.p.cells] h v h' ∧ RowTo h (encPr so.p) v h')
  (h1 : s.eval (.t 1) = some (.ptr r0 0)) (h3 : s.eval (.t 3) = some (.own b0 0 l.length 1 none)) (h4 : s.eval (.t 4) = some (.val (.int .i64 (i : Nat)))) :
  Run E1 f13_d1 s fun e s' => e = .normal ∧ s'.eval (.t 1) = some (.ptr r0 0) ∧ s'.eval (.t 4) = some (.val (.int .i64 (i : Nat))) ∧ EndTo b0 s s' 3 (l ++ encText so.nm ++ encPr so.p) := by
 have hnx := hrow.nx
 have np : ∀ (h : AH) o, h.get r0 = some (.cells c.cells true) → r0 < h.next → niceT h (some (.ptr r0 o)) = true := fun h o g k => nice_ptr k g (by rw [c.ids0]; rfl)
 have n0 := fun o => np s.h o hg (by omega)
 have on : ∀ o, onlyT [r0] (some (.ptr r0 o)) = true := fun o => by simp [onlyT, ids, memN]
 have nss : ∀ h : AH, niceT h (some c.ssA) = true := fun h => plain_nice (by simp only [plainT, c.ss_ids]; rfl)
 have nb : niceT s.h (some (.own b0 0 l.length 1 none)) = true := nice_row hrow.cb (by omega)
 refine run_draw ?_
 show DrawTo E1 (f13_o1.take 7 ++ f13_o1.drop 7) [] s _
 refine mild_pre (R := [r0]) _ [] s rfl (fun x hx => by cases hx) (fun r hr' => by rw [List.mem_singleton.1 hr']; omega) ?_
 simp -implicitDefEqProofs only [f13_o1, List.take_succ_cons, List.take_zero, wpDm, g_none, List.all_cons, List.all_nil, footed, V, ↓reduceIte, reduceEqDiff, reduceAdd, reduceMul, reduceCtorEq, reduceEq, reduceLT, reduceLE, h1, h3, hg, n0, on, nb, nss, only_val, only_iptr, nice_iptr, nice_val, h4, Ce.ssAt hm, ts1, c.ss_ids]
 intro _ done hdl hdm
 have hdl : done.length = 7 := hdl
 refine call_drawR (f := 38) (i := 38) (a := .val (.string so.nm)) (bs := encText so.nm) ?_ rfl (fun j hj => ?_) (fun h => text38_call (by omega)) ?_
 ·simp -implicitDefEqProofs only [V, ↓reduceIte, reduceEqDiff, reduceAdd, reduceMul, reduceCtorEq, reduceEq, reduceLT, reduceLE]
 ·rw [hdl, List.mem_singleton.1 hj]; decide
 intro h2 b2 hb2 hr2 hn2 ho2 ht2
 simp -implicitDefEqProofs only [St.h_set, St.h_toH] at hb2 hn2 ho2 ht2
 have hg2 : h2.get r0 = some (.cells c.cells true) := by rw [ho2 _ (by omega), hg]
 have hdm2 := mild_snoc hdm (mild_call (r0 := r0) (lo := s.h.next) (hi := h2.next) (by omega))
 refine app_du (b := b0) (c := b2) (l := l) (new := encText so.nm) ?_ ?_ (by omega) hr2 (encText_ne _) (by omega) ?_ ?_ ?_
 ·show h2.get b0 = _
  rw [ho2 b0 (by omega), hrow.cb]
 ·show TagsUp (b0 + 1) h2
  rw [hnx]
  exact ht2
 ·simp -implicitDefEqProofs only [V, ↓reduceIte, reduceEqDiff, reduceAdd, reduceMul, reduceCtorEq, reduceEq, reduceLT, reduceLE, h3]
 ·simp -implicitDefEqProofs only [V, ↓reduceIte, reduceEqDiff, reduceAdd, reduceMul, reduceCtorEq, reduceEq, reduceLT, reduceLE]
 intro F D h3' hr3 ho3 hD
 simp -implicitDefEqProofs only [St.h_set, St.h_toH, St.put] at hr3 ho3
 have hnx3 := hr3.nx
 have hg3 : h3'.get r0 = some (.cells c.cells true) := by rw [ho3 _ (by omega) (by omega), hg2]
 have n3 := fun o => np h3' o hg3 (by omega)
 have hdm3 := mild_snoc hdm2 (mild_app (r0 := r0) (b := b0) (lo := h2.next) (hi := h3'.next) (F := F) (D := D) (by omega) (by omega) hD)
 show DrawTo E1 ((f13_o1.drop 9).take 6 ++ f13_o1.drop 15) _ _ _
 refine mild_pre (R := [r0]) _ _ _ ?_ hdm3 (fun r hr' => by rw [List.mem_singleton.1 hr']; show r0 < h3'.next; omega) ?_
 ·rw [List.length_append, List.length_append, hdl]
  rfl
 simp -implicitDefEqProofs only [f13_o1, List.take_succ_cons, List.take_zero, List.drop_succ_cons, List.drop_zero, wpDm, g_none, List.all_cons, List.all_nil, footed, V, ↓reduceIte, reduceEqDiff, reduceAdd, reduceMul, reduceCtorEq, reduceEq, reduceLT, reduceLE, h1, hg3, n3, on, nss, only_val, only_iptr, nice_iptr, nice_val, h4, Ce.ssAt hm, ts1, c.ss_ids]
 intro _ done4 hdl4 hdm4
 refine call_drawR (f := 40) (i := 46) (a := .agg so.p.cells) (bs := encPr so.p) ?_ so.p.ids0 (fun j hj => by cases hj) c2 ?_
 ·simp -implicitDefEqProofs only [V, ↓reduceIte, reduceEqDiff, reduceAdd, reduceMul, reduceCtorEq, reduceEq, reduceLT, reduceLE]
 intro h4' b4 hb4 hr4 hn4 ho4 ht4
 simp -implicitDefEqProofs only [St.h_set, St.h_toH, St.put] at hb4 hn4 ho4 ht4
 refine app_du (b := h2.next) (c := b4) (l := l ++ encText so.nm) (new := encPr so.p) ?_ ?_ (by omega) hr4 (by cases so.p; exact fun e => encNum_ne _ (List.append_eq_nil_iff.1 e).1) (by rw [List.length_append]; omega) ?_ ?_ ?_
 ·show h4'.get h2.next = _
  rw [ho4 _ (by omega), hr3.cb]
 ·show TagsUp (h2.next + 1) h4'
  rw [hnx3]
  exact ht4
 ·simp -implicitDefEqProofs only [V, ↓reduceIte, reduceEqDiff, reduceAdd, reduceMul, reduceCtorEq, reduceEq, reduceLT, reduceLE]
 ·simp -implicitDefEqProofs only [V, ↓reduceIte, reduceEqDiff, reduceAdd, reduceMul, reduceCtorEq, reduceEq, reduceLT, reduceLE]
 intro F' D' h5 hr5 ho5 hD'
 simp -implicitDefEqProofs only [St.h_set, St.h_toH, St.put] at hr5 ho5
 have hnx5 := hr5.nx
 refine mv_draw (v := .own h4'.next 0 (l ++ encText so.nm ++ encPr so.p).length 1 none) ?_ ?_ (fun j hj => by cases hj) (draw_nil ?_)
 ·simp -implicitDefEqProofs only [V, ↓reduceIte, reduceEqDiff, reduceAdd, reduceMul, reduceCtorEq, reduceEq, reduceLT, reduceLE]
 ·exact nice_row hr5.cb (by show h4'.next < h5.next; omega)
 refine ⟨?_, ?_, ⟨⟨h4'.next, by omega, ?_, ?_⟩, ?_, ?_⟩⟩
 ·simp -implicitDefEqProofs only [V, ↓reduceIte, reduceEqDiff, reduceAdd, reduceMul, reduceCtorEq, reduceEq, reduceLT, reduceLE, h1]
 ·simp -implicitDefEqProofs only [V, ↓reduceIte, reduceEqDiff, reduceAdd, reduceMul, reduceCtorEq, reduceEq, reduceLT, reduceLE, h4]
 ·simp -implicitDefEqProofs only [V, ↓reduceIte, reduceEqDiff, reduceAdd, reduceMul, reduceCtorEq, reduceEq, reduceLT, reduceLE]
 ·exact hr5
 ·intro z hz hzb
  show h5.get z = s.h.get z
  rw [ho5 z (by omega) (by omega), ho4 z (by omega), ho3 z (by omega) hzb, ho2 z hz]
 ·simp -implicitDefEqProofs only [V, ↓reduceIte, reduceEqDiff, reduceAdd, reduceMul, reduceCtorEq, reduceEq, reduceLT, reduceLE]
end Go.Proofs.YtijpnlmmaoecgaaGreatDoor

namespace Go.Proofs.YtijpnlmmaoecgaaGreatDoor
open Go Go.AM
structure TailTo (r0 : Nat) (s s' : St) (t : Nat) (bs : List UInt8) : Prop where
 row : ∃ b, r0 < b ∧ s'.eval (.t t) = some (.own b 0 bs.length 1 none) ∧ RowU s'.h b bs
 le : s.h.next ≤ s'.h.next
 old : s'.h.get r0 = s.h.get r0
theorem f13_sols (r0 : Nat) (c : Ce) (hp : c.ss.length < 2 ^ 60) : ∀ (r : List So) (i : Nat) (s : St) (b : Nat) (bs : List UInt8), c.ss.drop i = r → RowU s.h b bs → r0 < b → s.h.get r0 = some (.cells c.cells true) → bs.length + (encSos r).length ≤ 2 ^ 40 → (∀ k ∈ r, fitSo k) →
  s.eval (.t 1) = some (.ptr r0 0) → s.eval (.t 3) = some (.own b 0 bs.length 1 none) → s.eval (.t 4) = some (.val (.int .i64 (i : Nat))) → s.defers = [] →
  Run E1 f13_l2 s fun e s' => e = .exit 0 ∧ s'.defers = [] ∧ s'.eval (.t 1) = some (.ptr r0 0) ∧ TailTo r0 s s' 3 (bs ++ encSos r)
 | [], i, s, b, bs, hd, hrow, hb, hg, hl, hn, h1, h3, h4, hf => by
  have c1 := dec_ge (List.drop_eq_nil_iff.1 hd)
  apply loop_of (rfl : f13_l2 = .loop f13_b2)
  simp -implicitDefEqProofs only [f13_b2, V, ↓reduceIte, reduceEqDiff, reduceAdd, reduceMul, reduceCtorEq, reduceEq, reduceLT, reduceLE, h1, h3, h4, hg, hf, c1]
  have e : encSos [] = [] := rfl
  rw [e, List.append_nil]
  refine ⟨⟨b, hb, ?_, hrow⟩, Nat.le_refl _, rfl⟩
  simp -implicitDefEqProofs only [V, ↓reduceIte, reduceEqDiff, reduceAdd, reduceMul, reduceCtorEq, reduceEq, reduceLT, reduceLE, h3]
 | k :: r, i, s, b, bs, hd, hrow, hb, hg, hl, hn, h1, h3, h4, hf => by
  obtain ⟨hlt, hd'⟩ := lt_of_drop hd
  have c1 := dec_lt hlt
  have hfk := hn k List.mem_cons_self
  have w1 := wrap_succ (i := i) (by omega)
  have e0 : encSos (k :: r) = encSo k ++ encSos r := rfl
  have e1 : encSo k = encText k.nm ++ encPr k.p := rfl
  rw [e0, e1] at hl
  simp only [List.length_append] at hl
  have hnx := hrow.nx
  apply loop_of (rfl : f13_l2 = .loop f13_b2)
  simp -implicitDefEqProofs only [f13_b2, V, ↓reduceIte, reduceEqDiff, reduceAdd, reduceMul, reduceCtorEq, reduceEq, reduceLT, reduceLE, h1, h3, h4, hg, c1]
  refine (f13_d1_run (r0 := r0) (b0 := b) (i := i) (c := c) (so := k) (rs := r) (l := bs) ?_ hb ?_ hd (by omega) (fun h => pred40_call k.p hfk.2 h (by omega)) ?_ ?_ ?_).mono ?_
  ·exact hg
  ·exact hrow
  ·simp -implicitDefEqProofs only [V, ↓reduceIte, reduceEqDiff, reduceAdd, reduceMul, reduceCtorEq, reduceEq, reduceLT, reduceLE, h1]
  ·simp -implicitDefEqProofs only [V, ↓reduceIte, reduceEqDiff, reduceAdd, reduceMul, reduceCtorEq, reduceEq, reduceLT, reduceLE, h3]
  ·simp -implicitDefEqProofs only [V, ↓reduceIte, reduceEqDiff, reduceAdd, reduceMul, reduceCtorEq, reduceEq, reduceLT, reduceLE, h4]
  rintro e s2 ⟨rfl, k1, k4, ⟨⟨b2, hb2, k3, hrow2⟩, ho2, hdf2⟩⟩
  simp -implicitDefEqProofs only [St.h_set, St.h_toH, St.put, St.df_set, St.df_toH] at hb2 ho2 hdf2
  have hg2 : s2.h.get r0 = some (.cells c.cells true) := by rw [ho2 r0 (by omega) (by omega), hg]
  have hnx2 := hrow2.nx
  have e6 : bs ++ encText k.nm ++ encPr k.p = bs ++ encSo k := by rw [e1, List.append_assoc]
  rw [e6] at hrow2 k3
  simp -implicitDefEqProofs only [V, ↓reduceIte, reduceEqDiff, reduceAdd, reduceMul, reduceCtorEq, reduceEq, reduceLT, reduceLE, k4, w1]
  refine (f13_sols r0 c hp r (i + 1) _ b2 (bs ++ encSo k) hd' ?_ (by omega) ?_ ?_ (fun k' hk => hn k' (List.mem_cons_of_mem _ hk)) ?_ ?_ ?_ ?_).mono ?_
  ·exact hrow2
  ·exact hg2
  ·rw [e1]
   simp only [List.length_append]
   omega
  ·simp -implicitDefEqProofs only [V, ↓reduceIte, reduceEqDiff, reduceAdd, reduceMul, reduceCtorEq, reduceEq, reduceLT, reduceLE, k1]
  ·simp -implicitDefEqProofs only [V, ↓reduceIte, reduceEqDiff, reduceAdd, reduceMul, reduceCtorEq, reduceEq, reduceLT, reduceLE, k3]
  ·simp -implicitDefEqProofs only [V, ↓reduceIte, reduceEqDiff, reduceAdd, reduceMul, reduceCtorEq, reduceEq, reduceLT, reduceLE]
  ·simp -implicitDefEqProofs only [V, ↓reduceIte, reduceEqDiff, reduceAdd, reduceMul, reduceCtorEq, reduceEq, reduceLT, reduceLE, hdf2, hf]
  ·rintro e s' ⟨r1, r2, r3, ⟨row, le, old⟩⟩
   simp -implicitDefEqProofs only [St.h_set, St.h_toH, St.put] at le old
   refine ⟨r1, r2, r3, ⟨?_, by omega, by rw [old, hg2, hg]⟩⟩
   rw [List.append_assoc] at row
   exact row
theorem encPf_ne (p : Pf) : encPf p ≠ [] := by
 cases p
 exact fun e => encNum_ne _ (List.append_eq_nil_iff.1 e).1
theorem f13_pfs (r0 : Nat) (c : Ce) (hp : c.ps.length < 2 ^ 60) : ∀ (r : List Pf) (i : Nat) (s : St) (b : Nat) (bs : List UInt8), c.ps.drop i = r → RowU s.h b bs → r0 < b → s.h.get r0 = some (.cells c.cells true) → bs.length + (encPfL r).length ≤ 2 ^ 40 → (∀ k ∈ r, fitPf k) →
  s.eval (.t 1) = some (.ptr r0 0) → s.eval (.t 3) = some (.own b 0 bs.length 1 none) → s.eval (.t 5) = some (.val (.int .i64 (i : Nat))) → s.defers = [] →
  Run E1 f13_l3 s fun e s' => e = .exit 2 ∧ s'.defers = [] ∧ s'.eval (.t 1) = some (.ptr r0 0) ∧ TailTo r0 s s' 3 (bs ++ encPfL r)
 | [], i, s, b, bs, hd, hrow, hb, hg, hl, hn, h1, h3, h4, hf => by
  have c1 := dec_ge (List.drop_eq_nil_iff.1 hd)
  apply loop_of (rfl : f13_l3 = .loop f13_b3)
  simp -implicitDefEqProofs only [f13_b3, V, ↓reduceIte, reduceEqDiff, reduceAdd, reduceMul, reduceCtorEq, reduceEq, reduceLT, reduceLE, h1, h3, h4, hg, hf, c1]
  rw [encPfL, List.append_nil]
  refine ⟨⟨b, hb, ?_, hrow⟩, Nat.le_refl _, rfl⟩
  simp -implicitDefEqProofs only [V, ↓reduceIte, reduceEqDiff, reduceAdd, reduceMul, reduceCtorEq, reduceEq, reduceLT, reduceLE, h3]
 | k :: r, i, s, b, bs, hd, hrow, hb, hg, hl, hn, h1, h3, h4, hf => by
  obtain ⟨hlt, hd'⟩ := lt_of_drop hd
  have c1 := dec_lt hlt
  have hfk := hn k List.mem_cons_self
  have w1 := wrap_succ (i := i) (by omega)
  rw [encPfL] at hl
  simp only [List.length_append] at hl
  have hnx := hrow.nx
  apply loop_of (rfl : f13_l3 = .loop f13_b3)
  simp -implicitDefEqProofs only [f13_b3, V, ↓reduceIte, reduceEqDiff, reduceAdd, reduceMul, reduceCtorEq, reduceEq, reduceLT, reduceLE, h1, h3, h4, hg, c1, Ce.psAt hd]
  refine callK_of (proof41_call k hfk _ (by omega)) ?_
  rintro v h2 ⟨⟨b2, hb2, rfl, hr2⟩, hle2, ho2, htu2⟩
  simp -implicitDefEqProofs only [St.h_set, St.h_toH, St.put] at hb2 hle2 ho2 htu2
  refine app_uu (b := b) (c := b2) (l := bs) (new := encPf k) ?_ ?_ (by omega) hr2 (encPf_ne k) (by omega) ?_ ?_ ?_
  ·show h2.get b = _
   rw [ho2 b (by omega), hrow.cb]
  ·show TagsUp (b + 1) h2
   rw [hnx]
   exact htu2
  ·simp -implicitDefEqProofs only [V, ↓reduceIte, reduceEqDiff, reduceAdd, reduceMul, reduceCtorEq, reduceEq, reduceLT, reduceLE, h3]
  ·simp -implicitDefEqProofs only [V, ↓reduceIte, reduceEqDiff, reduceAdd, reduceMul, reduceCtorEq, reduceEq, reduceLT, reduceLE]
  intro h3' hr3 ho3
  simp -implicitDefEqProofs only [St.h_set, St.h_toH, St.put] at hr3 ho3
  have hnx3 := hr3.nx
  have hg3 : h3'.get r0 = some (.cells c.cells true) := by rw [ho3 r0 (by omega) (by omega), ho2 r0 (by omega), hg]
  simp -implicitDefEqProofs only [V, ↓reduceIte, reduceEqDiff, reduceAdd, reduceMul, reduceCtorEq, reduceEq, reduceLT, reduceLE, h4, w1]
  refine (f13_pfs r0 c hp r (i + 1) _ h2.next (bs ++ encPf k) hd' ?_ (by omega) ?_ ?_ (fun k' hk => hn k' (List.mem_cons_of_mem _ hk)) ?_ ?_ ?_ ?_).mono ?_
  ·exact hr3
  ·exact hg3
  ·rw [List.length_append]
   omega
  ·simp -implicitDefEqProofs only [V, ↓reduceIte, reduceEqDiff, reduceAdd, reduceMul, reduceCtorEq, reduceEq, reduceLT, reduceLE, h1]
  ·simp -implicitDefEqProofs only [V, ↓reduceIte, reduceEqDiff, reduceAdd, reduceMul, reduceCtorEq, reduceEq, reduceLT, reduceLE]
  ·simp -implicitDefEqProofs only [V, ↓reduceIte, reduceEqDiff, reduceAdd, reduceMul, reduceCtorEq, reduceEq, reduceLT, reduceLE]
  ·simp -implicitDefEqProofs only [V, ↓reduceIte, reduceEqDiff, reduceAdd, reduceMul, reduceCtorEq, reduceEq, reduceLT, reduceLE, hf]
  ·rintro e s' ⟨r1, r2, r3, ⟨row, le, old⟩⟩
   simp -implicitDefEqProofs only [St.h_set, St.h_toH, St.put] at le old
   refine ⟨r1, r2, r3, ⟨?_, by omega, by rw [old, hg3, hg]⟩⟩
   rw [List.append_assoc] at row
   rw [encPfL]
   exact row
theorem sealed_callU {h : AH} {b : Nat} {l : List UInt8} (hrow : RowU h b l) (hl : l.length ≤ 2 ^ 39) :
  ∃ v h', RunCall E1 (.f 23) [.own b 0 l.length 1 none] h v h' ∧ v = .own (h.next + 1) 0 (sealB l).length 1 none ∧ h'.next = h.next + 2 ∧ h'.get (h.next + 1) = some (.cells (bytesA (sealB l)) true) := by
 refine shared0 _ (by kernel_rfl) f23_ok fun s hs hh hd hr => ?_
 have h0 := hs 0 _ rfl
 subst hh
 have hnx := hrow.nx
 have hstr : strB s.h (.own b 0 l.length 1 none) = some (.val (.string ⟨l.toArray⟩)) := by
  have := elems_row (cap := none) hrow.cb (bytesA_len _)
  simp only [strB, this, bytesA_of, Option.map_some]
 have hsum := sum54_call (t := ⟨l.toArray⟩) (by show l.length < _; omega)
 have ee : (⟨l.toArray⟩ : ByteArray).data.toList = l := rfl
 rw [ee] at hsum
 have hfl := fnv_lt l
 have z24 := fun k' : IntKind => shr_n (P := E1.P) (t := 3) (g := true) (u := fnv l) (k := 24) (k' := k') (by omega)
 have z16 := fun k' : IntKind => shr_n (P := E1.P) (t := 3) (g := true) (u := fnv l) (k := 16) (k' := k') (by omega)
 have z8 := fun k' : IntKind => shr_n (P := E1.P) (t := 3) (g := true) (u := fnv l) (k := 8) (k' := k') (by omega)
 have e24 : ((24 : Nat) : Int) = 24 := rfl
 have e16 : ((16 : Nat) : Int) = 16 := rfl
 have e8 : ((8 : Nat) : Int) = 8 := rfl
 rw [e24] at z24
 rw [e16] at z16
 rw [e8] at z8
 have m1 : IntKind.u8.wrap ((fnv l / 2 ^ 24 : Nat) : Int) = ((fnv l / 2 ^ 24 % 256 : Nat) : Int) := wrap_u8_mod _
 have m2 : IntKind.u8.wrap ((fnv l / 2 ^ 16 : Nat) : Int) = ((fnv l / 2 ^ 16 % 256 : Nat) : Int) := wrap_u8_mod _
 have m3 : IntKind.u8.wrap ((fnv l / 2 ^ 8 : Nat) : Int) = ((fnv l / 2 ^ 8 % 256 : Nat) : Int) := wrap_u8_mod _
 have m4 : IntKind.u8.wrap ((fnv l : Nat) : Int) = ((fnv l % 256 : Nat) : Int) := wrap_u8_mod _
 have hfill : ∀ s' : St, s'.eval (.t 10) = some (.val (.int .u8 ((fnv l / 2 ^ 24 % 256 : Nat) : Int))) → s'.eval (.t 13) = some (.val (.int .u8 ((fnv l / 2 ^ 16 % 256 : Nat) : Int))) → s'.eval (.t 16) = some (.val (.int .u8 ((fnv l / 2 ^ 8 % 256 : Nat) : Int))) → s'.eval (.t 18) = some (.val (.int .u8 ((fnv l % 256 : Nat) : Int))) →
   fill s' [.val (.int .u8 0), .val (.int .u8 0), .val (.int .u8 0), .val (.int .u8 0)] [(0, 1, .t 10), (1, 1, .t 13), (2, 1, .t 16), (3, 1, .t 18)] = some (bytesA (tail4 (fnv l))) := fun s' h1 h2 h3 h4 => by
  rw [fill_four h1 h2 h3 h4, tail_cells]
 simp -implicitDefEqProofs only [f23_fn, f23, V, ↓reduceIte, reduceEqDiff, reduceAdd, reduceMul, reduceCtorEq, reduceEq, reduceLT, reduceLE, h0, hstr, callK_all hsum, z24, z16, z8, m1, m2, m3, m4, hfill]
 have t4 := tail4_len (fnv l)
 refine app_u (b := b) (x := .own s.h.next 0 4 1 (some 4)) (l := l) (new := tail4 (fnv l)) ?_ (List.cons_ne_nil _ _) ?_ (by rw [t4]; omega) ?_ ?_ ?_ ?_
 ·show tagOf (s.h.alloc (.cells (bytesA (tail4 (fnv l))) true)) b = none
  simp only [tagOf, AH.get_alloc, hnx, if_true]
 ·show (s.h.alloc _).get b = _
  rw [get_alloc_old (by omega), hrow.cb]
 ·show elemsOf (s.h.alloc (.cells (bytesA (tail4 (fnv l))) true)) 1 _ = _
  exact elems_row (h := s.h.alloc _) (by rw [AH.get_alloc, if_pos rfl]) rfl
 ·simp -implicitDefEqProofs only [V, ↓reduceIte, reduceEqDiff, reduceAdd, reduceMul, reduceCtorEq, reduceEq, reduceLT, reduceLE, h0]
 ·simp -implicitDefEqProofs only [V, ↓reduceIte, reduceEqDiff, reduceAdd, reduceMul, reduceCtorEq, reduceEq, reduceLT, reduceLE]
 ·simp -implicitDefEqProofs only [V, ↓reduceIte, reduceEqDiff, reduceAdd, reduceMul, reduceCtorEq, reduceEq, reduceLT, reduceLE, hd]
  refine ⟨_, rfl, rfl, ?_⟩
  rfl
section
variable {E : Env} {s : St} {K : St → Prop} {r : List AOper} {dst : Option Nat}
def cvO (h : AH) : Option AV → Option AV
 | some (.own b off n es cap) => match h.get b with
  | some (.cells (_ :: _) true) => some (.own b off n es cap)
  | _ => none
 | _ => none
theorem s_convId {x : Opd} : AM.wpOps E (⟨dst, none, .convId x⟩ :: r) s K = stepV E r s dst K (cvO s.h (s.eval x)) := by
 rw [wpOps_v (o := cvO s.h (s.eval x))]
 ·rfl
 ·simp only [runOp, cvO]
  cases s.eval x with
  | none => rfl
  | some v =>
   cases v with
   | own b off n es cap =>
    simp only
    cases s.h.get b with
    | none => rfl
    | some k =>
     cases k with
     | cells cs rw' =>
      cases cs with
      | nil => rfl
      | cons a l => cases rw' <;> rfl
     | _ => rfl
   | _ => rfl
 ·exact fun _ _ => rfl
theorem app_full {a b c : Nat} {x : AV} {l new : List UInt8} (h0 : new ≠ []) (hb : s.h.get b = some (.cells (bytesA l) true)) (hl : l.length + new.length ≤ 2 ^ 40) (he : elemsOf s.h 1 x = some (bytesA new, new.length)) (ha : s.eval (.t a) = some (.own b 0 l.length 1 (some l.length))) (hx : s.eval (.t c) = some x)
  (k : AM.wpOps E r ((s.toH (s.h.alloc (.cells (bytesA (l ++ new)) true))).put dst (.own s.h.next 0 (l ++ new).length 1 none)) K) : AM.wpOps E (⟨dst, none, .appT 5 (.t a) (.t c)⟩ :: r) s K := by
 have hpos : 0 < new.length := List.length_pos_iff.2 h0
 have z := Go.AM.beq0_of hpos
 have ok := Go.AM.okLen_of hl
 have lb : Nat.ble (0 + l.length * 1) (bytesA l).length = true := Nat.ble_eq.mpr (by rw [bytesA_len]; omega)
 have b11 : Nat.beq 1 1 = true := rfl
 have tk : (bytesA l).take (l.length * 1) = bytesA l := List.take_of_length_le (by rw [bytesA_len]; omega)
 have htt : appTyped s 5 (.t a) (.t c) = none := by
  simp only [appTyped, ha, hx, he]
 have hnb : Nat.ble (l.length + new.length) l.length = false := by
  cases hz : Nat.ble (l.length + new.length) l.length with
  | false => rfl
  | true =>
   have := Nat.le_of_ble_eq_true hz
   omega
 have hop : runOp E noCall s (.appT 5 (.t a) (.t c)) = some (.own s.h.next 0 (l ++ new).length 1 none, s.toH (s.h.alloc (.cells (bytesA (l ++ new)) true))) := by
  simp only [runOp, htt, appendA, ha, hx, he, z, cond_false, hb, b11, lb, ok, Bool.and_self, cond_true, List.drop_zero, tk, hnb, bytesA_app, List.length_append]
  rfl
 rw [wpOps_vh (o := some (.own s.h.next 0 (l ++ new).length 1 none, s.h.alloc (.cells (bytesA (l ++ new)) true)))]
 ·exact k
 ·rw [hop]; rfl
 ·exact fun _ _ => rfl
end
theorem encode13_call {c : Ce} (hc : fitCe c) (hl : (encCe c).length ≤ 2 ^ 39) (h : AH) : ∃ v h', RunCall E1 (.f 13) [.agg c.cells] h v h' ∧ ∃ b, v = .own b 0 (encCe c).length 1 none ∧ h.next ≤ b ∧ b < h'.next ∧ h'.get b = some (.cells (bytesA (encCe c)) true) := by
 refine shared0 _ (by kernel_rfl) f13_ok fun s hs hh hd hr => ?_
 have h0 := hs 0 _ rfl
 subst hh
 rw [encCe, List.length_append, tail4_len] at hl
 have eb : [69, 67, 1] ++ encText c.nm ++ encNum c.dg ++ encNum (c.ss.length : Nat) ++ encSos c.ss ++ encNum (c.ps.length : Nat) ++ encPfL c.ps = encBody c := by simp only [encBody, List.append_assoc]
 have hle := congrArg List.length eb
 simp only [List.length_append, List.length_cons, List.length_nil] at hle
 have hf2 : ∀ s' : St, fill s' [.val (.int .u8 0), .val (.int .u8 0)] [(0, 1, .c (.val (.int .u8 69))), (1, 1, .c (.val (.int .u8 67)))] = some (bytesA [69, 67]) := fun _ => rfl
 have hf1 : ∀ s' : St, fill s' [.val (.int .u8 0)] [(0, 1, .c (.val (.int .u8 1)))] = some (bytesA [1]) := fun _ => rfl
 have hcv : ∀ (h : AH) (b : Nat), h.get b = some (.cells (bytesA [69, 67]) true) → cvO h (some (.own b 0 2 1 (some 2))) = some (.own b 0 2 1 (some 2)) := fun h b g => by
  simp only [cvO, g]
  rfl
 have hg6 : ((s.h.alloc (.cells c.cells true)).alloc (.cells (bytesA [69, 67]) true)).get (s.h.next + 1) = some (.cells (bytesA [69, 67]) true) := by
  have n2 : (s.h.alloc (.cells c.cells true)).next = s.h.next + 1 := rfl
  rw [AH.get_alloc, n2, if_pos rfl]
 simp -implicitDefEqProofs only [f13_fn, f13, V, ↓reduceIte, reduceEqDiff, reduceAdd, reduceMul, reduceCtorEq, reduceEq, reduceLT, reduceLE, h0, hf2, hf1, s_convId, hcv _ _ hg6]
 refine app_full (b := s.h.next + 1) (x := .own (s.h.next + 1 + 1) 0 1 1 (some 1)) (l := [69, 67]) (new := [1]) (List.cons_ne_nil _ _) ?_ (by decide) ?_ ?_ ?_ ?_
 ·show (((s.h.alloc (.cells c.cells true)).alloc (.cells (bytesA [69, 67]) true)).alloc (.cells (bytesA [1]) true)).get (s.h.next + 1) = _
  rw [get_alloc_old (by show s.h.next + 1 < s.h.next + 1 + 1; omega), hg6]
 ·show elemsOf (((s.h.alloc (.cells c.cells true)).alloc (.cells (bytesA [69, 67]) true)).alloc (.cells (bytesA [1]) true)) 1 _ = _
  exact elems_row (h := ((s.h.alloc (.cells c.cells true)).alloc (.cells (bytesA [69, 67]) true)).alloc _) (by rw [AH.get_alloc]; exact if_pos rfl) rfl
 ·simp -implicitDefEqProofs only [V, ↓reduceIte, reduceEqDiff, reduceAdd, reduceMul, reduceCtorEq, reduceEq, reduceLT, reduceLE] <;> rfl
 ·simp -implicitDefEqProofs only [V, ↓reduceIte, reduceEqDiff, reduceAdd, reduceMul, reduceCtorEq, reduceEq, reduceLT, reduceLE] <;> rfl
 obtain ⟨hA, eA⟩ : ∃ hA, (((s.h.alloc (.cells c.cells true)).alloc (.cells (bytesA [69, 67]) true)).alloc (.cells (bytesA [1]) true)).alloc (.cells (bytesA ([69, 67] ++ [1])) true) = hA := ⟨_, rfl⟩
 have nA : hA.next = s.h.next + 4 := by rw [← eA]; rfl
 have gA : hA.get s.h.next = some (.cells c.cells true) := by
  rw [← eA, get_alloc_old (by show s.h.next < s.h.next + 3; omega), get_alloc_old (by show s.h.next < s.h.next + 2; omega), get_alloc_old (by show s.h.next < s.h.next + 1; omega), box_get]
 have rA : RowU hA (s.h.next + 3) [69, 67, 1] := by
  refine ⟨?_, by rw [nA]⟩
  rw [← eA, AH.get_alloc]
  exact if_pos rfl
 simp -implicitDefEqProofs only [V, ↓reduceIte, reduceEqDiff, reduceAdd, reduceMul, reduceCtorEq, reduceEq, reduceLT, reduceLE, eA]
 refine (f13_d0_run (r0 := s.h.next) (b0 := s.h.next + 3) (c := c) (l := [69, 67, 1]) ?_ (by omega) ?_ (by simp only [List.length_cons, List.length_nil]; omega) (fun h => num39_call hc.dg) ?_ ?_).mono ?_
 ·exact gA
 ·exact rA
 ·simp -implicitDefEqProofs only [V, ↓reduceIte, reduceEqDiff, reduceAdd, reduceMul, reduceCtorEq, reduceEq, reduceLT, reduceLE]
 ·simp -implicitDefEqProofs only [V, ↓reduceIte, reduceEqDiff, reduceAdd, reduceMul, reduceCtorEq, reduceEq, reduceLT, reduceLE] <;> rfl
 rintro e s1 ⟨rfl, k1, ⟨⟨b1, hb1, k3, hrow1⟩, ho1, hdf1⟩⟩
 simp -implicitDefEqProofs only [St.h_set, St.h_toH, St.put, St.df_set, St.df_toH] at hb1 ho1 hdf1
 have hg1 : s1.h.get s.h.next = some (.cells c.cells true) := by rw [ho1 _ (by omega) (by omega), gA]
 have hnx1 := hrow1.nx
 simp -implicitDefEqProofs only [V, ↓reduceIte, reduceEqDiff, reduceAdd, reduceMul, reduceCtorEq, reduceEq, reduceLT, reduceLE, k1, k3, hg1]
 refine callK_of (num39_call (in64_nat hc.sl)) ?_
 rintro v h2 ⟨⟨b2, hb2, rfl, hr2⟩, hle2, ho2, htu2⟩
 simp -implicitDefEqProofs only [St.h_set, St.h_toH, St.put] at hb2 hle2 ho2 htu2
 refine app_uu (b := b1) (c := b2) (l := [69, 67, 1] ++ encText c.nm ++ encNum c.dg) (new := encNum (c.ss.length : Nat)) ?_ ?_ (by omega) hr2 (encNum_ne _) (by simp only [List.length_append, List.length_cons, List.length_nil]; omega) ?_ ?_ ?_
 ·show h2.get b1 = _
  rw [ho2 b1 (by omega), hrow1.cb]
 ·show TagsUp (b1 + 1) h2
  rw [hnx1]
  exact htu2
 ·simp -implicitDefEqProofs only [V, ↓reduceIte, reduceEqDiff, reduceAdd, reduceMul, reduceCtorEq, reduceEq, reduceLT, reduceLE, k3]
 ·simp -implicitDefEqProofs only [V, ↓reduceIte, reduceEqDiff, reduceAdd, reduceMul, reduceCtorEq, reduceEq, reduceLT, reduceLE]
 intro h3' hr3 ho3
 simp -implicitDefEqProofs only [St.h_set, St.h_toH, St.put] at hr3 ho3
 have hnx3 := hr3.nx
 have hg3 : h3'.get s.h.next = some (.cells c.cells true) := by rw [ho3 _ (by omega) (by omega), ho2 _ (by omega), hg1]
 simp -implicitDefEqProofs only [V, ↓reduceIte, reduceEqDiff, reduceAdd, reduceMul, reduceCtorEq, reduceEq, reduceLT, reduceLE]
 refine (f13_sols s.h.next c hc.sl c.ss 0 _ h2.next ([69, 67, 1] ++ encText c.nm ++ encNum c.dg ++ encNum (c.ss.length : Nat)) rfl ?_ (by omega) ?_ ?_ hc.ss ?_ ?_ ?_ ?_).mono ?_
 ·exact hr3
 ·exact hg3
 ·simp only [List.length_append, List.length_cons, List.length_nil]
  omega
 ·simp -implicitDefEqProofs only [V, ↓reduceIte, reduceEqDiff, reduceAdd, reduceMul, reduceCtorEq, reduceEq, reduceLT, reduceLE, k1]
 ·simp -implicitDefEqProofs only [V, ↓reduceIte, reduceEqDiff, reduceAdd, reduceMul, reduceCtorEq, reduceEq, reduceLT, reduceLE]
 ·simp -implicitDefEqProofs only [V, ↓reduceIte, reduceEqDiff, reduceAdd, reduceMul, reduceCtorEq, reduceEq, reduceLT, reduceLE] <;> rfl
 ·simp -implicitDefEqProofs only [V, ↓reduceIte, reduceEqDiff, reduceAdd, reduceMul, reduceCtorEq, reduceEq, reduceLT, reduceLE, hdf1, hd]
 rintro e s4 ⟨rfl, rd4, j1, ⟨⟨b4, hb4, j3, hrow4⟩, hle4, ho4⟩⟩
 simp -implicitDefEqProofs only [St.h_set, St.h_toH, St.put] at hle4 ho4
 have hg4 : s4.h.get s.h.next = some (.cells c.cells true) := by rw [ho4, hg3]
 have hnx4 := hrow4.nx
 have hbeq : Nat.beq 0 0 = true := rfl
 simp -implicitDefEqProofs only [V, ↓reduceIte, reduceEqDiff, reduceAdd, reduceMul, reduceCtorEq, reduceEq, reduceLT, reduceLE, hbeq, j1, j3, hg4]
 refine callK_of (num39_call (in64_nat hc.pl)) ?_
 rintro v h5 ⟨⟨b5, hb5, rfl, hr5⟩, hle5, ho5, htu5⟩
 simp -implicitDefEqProofs only [St.h_set, St.h_toH, St.put] at hb5 hle5 ho5 htu5
 refine app_uu (b := b4) (c := b5) (l := [69, 67, 1] ++ encText c.nm ++ encNum c.dg ++ encNum (c.ss.length : Nat) ++ encSos c.ss) (new := encNum (c.ps.length : Nat)) ?_ ?_ (by omega) hr5 (encNum_ne _) (by simp only [List.length_append, List.length_cons, List.length_nil]; omega) ?_ ?_ ?_
 ·show h5.get b4 = _
  rw [ho5 b4 (by omega), hrow4.cb]
 ·show TagsUp (b4 + 1) h5
  rw [hnx4]
  exact htu5
 ·simp -implicitDefEqProofs only [V, ↓reduceIte, reduceEqDiff, reduceAdd, reduceMul, reduceCtorEq, reduceEq, reduceLT, reduceLE, j3]
 ·simp -implicitDefEqProofs only [V, ↓reduceIte, reduceEqDiff, reduceAdd, reduceMul, reduceCtorEq, reduceEq, reduceLT, reduceLE]
 intro h6 hr6 ho6
 simp -implicitDefEqProofs only [St.h_set, St.h_toH, St.put] at hr6 ho6
 have hnx6 := hr6.nx
 have hg6' : h6.get s.h.next = some (.cells c.cells true) := by rw [ho6 _ (by omega) (by omega), ho5 _ (by omega), hg4]
 simp -implicitDefEqProofs only [V, ↓reduceIte, reduceEqDiff, reduceAdd, reduceMul, reduceCtorEq, reduceEq, reduceLT, reduceLE]
 refine (f13_pfs s.h.next c hc.pl c.ps 0 _ h5.next ([69, 67, 1] ++ encText c.nm ++ encNum c.dg ++ encNum (c.ss.length : Nat) ++ encSos c.ss ++ encNum (c.ps.length : Nat)) rfl ?_ (by omega) ?_ ?_ (fitPfL_mem hc.ps) ?_ ?_ ?_ ?_).mono ?_
 ·exact hr6
 ·exact hg6'
 ·simp only [List.length_append, List.length_cons, List.length_nil]
  omega
 ·simp -implicitDefEqProofs only [V, ↓reduceIte, reduceEqDiff, reduceAdd, reduceMul, reduceCtorEq, reduceEq, reduceLT, reduceLE, j1]
 ·simp -implicitDefEqProofs only [V, ↓reduceIte, reduceEqDiff, reduceAdd, reduceMul, reduceCtorEq, reduceEq, reduceLT, reduceLE]
 ·simp -implicitDefEqProofs only [V, ↓reduceIte, reduceEqDiff, reduceAdd, reduceMul, reduceCtorEq, reduceEq, reduceLT, reduceLE] <;> rfl
 ·simp -implicitDefEqProofs only [V, ↓reduceIte, reduceEqDiff, reduceAdd, reduceMul, reduceCtorEq, reduceEq, reduceLT, reduceLE, rd4]
 rintro e s7 ⟨rfl, rd7, i1, ⟨⟨b7, hb7, i3, hrow7⟩, hle7, ho7⟩⟩
 simp -implicitDefEqProofs only [St.h_set, St.h_toH, St.put] at hle7 ho7
 have hnx7 := hrow7.nx
 have hbeq2 : Nat.beq 2 2 = true := rfl
 rw [eb] at i3 hrow7
 simp -implicitDefEqProofs only [V, ↓reduceIte, reduceEqDiff, reduceAdd, reduceMul, reduceCtorEq, reduceEq, reduceLT, reduceLE, hbeq2, i3]
 refine callK_of (sealed_callU (b := b7) (l := encBody c) ?_ (by omega)) ?_
 ·exact hrow7
 rintro v h8 ⟨rfl, hn8, hg8⟩
 simp -implicitDefEqProofs only [St.h_set, St.h_toH, St.put] at hn8 hg8
 simp -implicitDefEqProofs only [V, ↓reduceIte, reduceEqDiff, reduceAdd, reduceMul, reduceCtorEq, reduceEq, reduceLT, reduceLE, rd7]
 refine ⟨_, rfl, s7.h.next + 1, rfl, by omega, by omega, hg8⟩
end Go.Proofs.YtijpnlmmaoecgaaGreatDoor
