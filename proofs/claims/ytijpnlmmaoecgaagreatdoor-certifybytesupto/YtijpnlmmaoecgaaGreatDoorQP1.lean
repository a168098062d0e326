/- A part of the proofs about certificates: YPr YW YSpec YDec. -/
import Derived.Test.YtijpnlmmaoecgaaGreatDoorQW1

set_option linter.all false

namespace Go.Proofs.YtijpnlmmaoecgaaGreatDoor
open Go Go.AM
inductive Pr where
 | mk (op : Int) (nm : ByteArray) (n : Int) (ks : List Pr) (nl : Option (Option Addr × Nat)) (cap : Option Nat)
def Pr.op : Pr → Int | .mk o _ _ _ _ _ => o
def Pr.nm : Pr → ByteArray | .mk _ s _ _ _ _ => s
def Pr.n : Pr → Int | .mk _ _ n _ _ _ => n
def Pr.ks : Pr → List Pr | .mk _ _ _ l _ _ => l
def noKids : Option (Option Addr × Nat) → Value
 | some (a, c) => .slice a 0 c
 | none => .slice none 0 0
def kidsA (cs : List AV) (n : Nat) (nl : Option (Option Addr × Nat)) (cap : Option Nat) : AV := bif nl.isSome && Nat.beq n 0 then .val (noKids nl) else .imm cs n cap
mutual
def Pr.cells : Pr → List AV
 | .mk o s n ks nl cap => [.val (.int .i64 o), .val (.string s), .val (.int .i64 n), kidsA (Pr.cellsL ks) ks.length nl cap]
def Pr.cellsL : List Pr → List AV
 | [] => []
 | k :: r => k.cells ++ Pr.cellsL r
end
def Pr.kids : Pr → AV | .mk _ _ _ ks nl cap => kidsA (Pr.cellsL ks) ks.length nl cap
theorem Pr.cells_eq (p : Pr) : p.cells = [.val (.int .i64 p.op), .val (.string p.nm), .val (.int .i64 p.n), p.kids] := by
 cases p
 simp only [Pr.cells, Pr.op, Pr.nm, Pr.n, Pr.kids]
theorem Pr.len (p : Pr) : p.cells.length = 4 := by rw [p.cells_eq]; rfl
theorem cellsL_len : ∀ l : List Pr, (Pr.cellsL l).length = l.length * 4
 | [] => by simp only [Pr.cellsL, List.length_nil, Nat.zero_mul]
 | k :: r => by simp only [Pr.cellsL, List.length_append, k.len, cellsL_len r, List.length_cons]; omega
theorem cellsL_drop : ∀ (l : List Pr) (i : Nat), (Pr.cellsL l).drop (i * 4) = Pr.cellsL (l.drop i)
 | l, 0 => by simp only [Nat.zero_mul, List.drop_zero]
 | [], i + 1 => by simp only [Pr.cellsL, List.drop_nil]
 | k :: r, i + 1 => by
  have : (i + 1) * 4 = k.cells.length + i * 4 := by rw [k.len]; omega
  rw [Pr.cellsL, this, List.drop_length_add_append, cellsL_drop r i, List.drop_succ_cons]
theorem cells_take (k : Pr) (l : List AV) : (k.cells ++ l).take 4 = k.cells := by
 rw [← k.len, List.take_left]
theorem kid_at {p : Pr} {i : Nat} {k : Pr} {r : List Pr} (h : p.ks.drop i = k :: r) : idxAddrSV 4 p.kids i = some (.iptr (k.cells ++ Pr.cellsL r)) := by
 obtain ⟨o, s, n, ks, nl, cap⟩ := p
 have h : ks.drop i = k :: r := h
 have hi : i < ks.length := by
  rcases Nat.lt_or_ge i ks.length with x | x
  ·exact x
  ·rw [List.drop_eq_nil_of_le x] at h; cases h
 have h0 : Nat.beq ks.length 0 = false := by
  cases hb : Nat.beq ks.length 0 with
  | false => rfl
  | true =>
   have := Nat.eq_of_beq_eq_true hb
   omega
 have h1 : Nat.blt i ks.length = true := Nat.blt_eq.mpr hi
 have h2 : Nat.ble (i * 4) (Pr.cellsL ks).length = true := Nat.ble_eq.mpr (by rw [cellsL_len]; omega)
 simp only [Pr.kids, kidsA, h0, Bool.and_false, cond_false, idxAddrSV, h1, h2, Bool.and_self, cond_true, cellsL_drop, h, Pr.cellsL]
theorem kids_len (p : Pr) : lenV p.kids = some (.val (.int .i64 (p.ks.length : Nat))) := by
 obtain ⟨o, s, n, ks, nl, cap⟩ := p
 simp only [Pr.kids, kidsA, Pr.ks]
 cases nl with
 | none => rfl
 | some x =>
  cases ks with
  | nil => rfl
  | cons k r => rfl
theorem takeN_kid (k : Pr) (l : List AV) : takeN (some 4) (k.cells ++ l) = some (.agg k.cells) := by
 have : Nat.ble 4 (k.cells ++ l).length = true := Nat.ble_eq.mpr (by rw [List.length_append, k.len]; omega)
 simp only [takeN, this, cond_true, cells_take]
theorem store_new {h : AH} {z l : List AV} {n : Nat} (hz : z.length = n) (hl : l.length = n) : storeH (h.alloc (.cells z true)) n (.ptr h.next 0) l = some ((h.alloc (.cells z true)).put h.next (some (.cells l true))) := by
 have h1 : (h.alloc (.cells z true)).get h.next = some (.cells z true) := by rw [AH.get_alloc, if_pos rfl]
 have h2 : Nat.beq l.length n = true := by rw [hl]; exact Nat.beq_refl n
 have h3 : Nat.ble (0 + n) z.length = true := Nat.ble_eq.mpr (by omega)
 have h4 : putAt z 0 l = l := by
  simp only [putAt, List.take_zero, List.nil_append, Nat.zero_add]
  rw [List.drop_eq_nil_of_le (by omega), List.append_nil]
 simp only [storeH, h1, h2, h3, Bool.and_self, cond_true, h4]
theorem Leaf.kids (p : Pr) : Leaf p.kids := by
 obtain ⟨o, s, n, ks, nl, cap⟩ := p
 simp only [Pr.kids, kidsA]
 cases (nl.isSome && Nat.beq ks.length 0) with
 | true => exact Leaf.val _
 | false => exact Leaf.imm _ _ _
theorem Tree.pr (p : Pr) : Tree (.agg p.cells) := by
 rw [p.cells_eq]
 refine Tree.agg fun v hv => ?_
 simp only [List.mem_cons, List.mem_nil_iff, or_false] at hv
 rcases hv with rfl | rfl | rfl | rfl
 ·exact Leaf.val _
 ·exact Leaf.val _
 ·exact Leaf.val _
 ·exact Leaf.kids p
theorem flatC_len {α : Type} {f : α → List AV} {es : Nat} (hf : ∀ a, (f a).length = es) : ∀ l : List α, (l.flatMap f).length = l.length * es
 | [] => by simp
 | a :: r => by simp only [List.flatMap_cons, List.length_append, hf, flatC_len hf r, List.length_cons]; rw [Nat.add_mul]; omega
theorem flatC_drop {α : Type} {f : α → List AV} {es : Nat} (hf : ∀ a, (f a).length = es) : ∀ (l : List α) (i : Nat), (l.flatMap f).drop (i * es) = (l.drop i).flatMap f
 | l, 0 => by simp only [Nat.zero_mul, List.drop_zero]
 | [], i + 1 => by simp
 | a :: r, i + 1 => by
  have : (i + 1) * es = (f a).length + i * es := by rw [hf, Nat.add_mul]; omega
  rw [List.flatMap_cons, this, List.drop_length_add_append, flatC_drop hf r i, List.drop_succ_cons]
theorem row_kid {α : Type} {f : α → List AV} {es : Nat} (hf : ∀ a, (f a).length = es) {l : List α} {i : Nat} {k : α} {r : List α} {nl : Option (Option Addr × Nat)} {cap : Option Nat} (h : l.drop i = k :: r) :
  idxAddrSV es (kidsA (l.flatMap f) l.length nl cap) i = some (.iptr (f k ++ r.flatMap f)) := by
 have hi : i < l.length := by
  rcases Nat.lt_or_ge i l.length with x | x
  ·exact x
  ·rw [List.drop_eq_nil_of_le x] at h; cases h
 have h0 : Nat.beq l.length 0 = false := by
  cases hb : Nat.beq l.length 0 with
  | false => rfl
  | true =>
   have := Nat.eq_of_beq_eq_true hb
   omega
 have h1 : Nat.blt i l.length = true := Nat.blt_eq.mpr hi
 have h2 : Nat.ble (i * es) (l.flatMap f).length = true := Nat.ble_eq.mpr (by rw [flatC_len hf]; exact Nat.mul_le_mul_right _ (by omega))
 simp only [kidsA, h0, Bool.and_false, cond_false, idxAddrSV, h1, h2, Bool.and_self, cond_true, flatC_drop hf, h, List.flatMap_cons]
theorem kidsA_len {cs : List AV} {n : Nat} {nl : Option (Option Addr × Nat)} {cap : Option Nat} : lenV (kidsA cs n nl cap) = some (.val (.int .i64 (n : Nat))) := by
 simp only [kidsA]
 cases nl with
 | none => rfl
 | some x =>
  cases n with
  | zero => rfl
  | succ n => rfl
theorem kidsA_leaf (cs : List AV) (n : Nat) (nl : Option (Option Addr × Nat)) (cap : Option Nat) : Leaf (kidsA cs n nl cap) := by
 simp only [kidsA]
 cases (nl.isSome && Nat.beq n 0) with
 | true => exact Leaf.val _
 | false => exact Leaf.imm _ _ _
theorem kidsA_ids {cs : List AV} {n : Nat} {nl : Option (Option Addr × Nat)} {cap : Option Nat} : ids (kidsA cs n nl cap) = [] := by
 simp only [kidsA]
 cases (nl.isSome && Nat.beq n 0) <;> rfl
theorem takeN_row {n : Nat} {cs l : List AV} (h : cs.length = n) : takeN (some n) (cs ++ l) = some (.agg cs) := by
 have h1 : Nat.ble n (cs ++ l).length = true := Nat.ble_eq.mpr (by rw [List.length_append, h]; omega)
 simp only [takeN, h1, cond_true]
 rw [← h, List.take_left]
theorem takeN_full {n : Nat} {cs : List AV} (h : cs.length = n) : takeN (some n) cs = some (.agg cs) := by
 have := takeN_row (l := []) h
 rwa [List.append_nil] at this
theorem Pr.cellsL_eq : ∀ l : List Pr, Pr.cellsL l = l.flatMap Pr.cells
 | [] => rfl
 | k :: r => by rw [Pr.cellsL, Pr.cellsL_eq r, List.flatMap_cons]
def intsA (l : List Int) : List AV := l.flatMap fun n => [.val (.int .i64 n)]
inductive Bg where
 | mk (neg : Bool) (ds : List Int) (nl : Option (Option Addr × Nat)) (cap : Option Nat)
def Bg.neg : Bg → Bool | .mk b _ _ _ => b
def Bg.ds : Bg → List Int | .mk _ l _ _ => l
def Bg.dsA : Bg → AV | .mk _ l nl cap => kidsA (intsA l) l.length nl cap
def Bg.cells (b : Bg) : List AV := [.val (.bool b.neg), b.dsA]
theorem Bg.len (b : Bg) : b.cells.length = 2 := rfl
inductive Pf where
 | mk (kd fm : Int) (ms : List Bg) (mnl : Option (Option Addr × Nat)) (mcap : Option Nat) (ks : List Pf) (nl : Option (Option Addr × Nat)) (cap : Option Nat)
def Pf.kd : Pf → Int | .mk k _ _ _ _ _ _ _ => k
def Pf.fm : Pf → Int | .mk _ k _ _ _ _ _ _ => k
def Pf.ms : Pf → List Bg | .mk _ _ l _ _ _ _ _ => l
def Pf.ks : Pf → List Pf | .mk _ _ _ _ _ l _ _ => l
mutual
def Pf.cells : Pf → List AV
 | .mk k f ms mnl mcap ks nl cap => [.val (.int .i64 k), .val (.int .i64 f), kidsA (ms.flatMap Bg.cells) ms.length mnl mcap, kidsA (Pf.cellsL ks) ks.length nl cap]
def Pf.cellsL : List Pf → List AV
 | [] => []
 | k :: r => k.cells ++ Pf.cellsL r
end
def Pf.msA : Pf → AV | .mk _ _ ms mnl mcap _ _ _ => kidsA (ms.flatMap Bg.cells) ms.length mnl mcap
def Pf.ksA : Pf → AV | .mk _ _ _ _ _ ks nl cap => kidsA (Pf.cellsL ks) ks.length nl cap
theorem Pf.cells_eq (p : Pf) : p.cells = [.val (.int .i64 p.kd), .val (.int .i64 p.fm), p.msA, p.ksA] := by
 cases p
 simp only [Pf.cells, Pf.kd, Pf.fm, Pf.msA, Pf.ksA]
theorem Pf.len (p : Pf) : p.cells.length = 4 := by rw [p.cells_eq]; rfl
theorem Pf.cellsL_eq : ∀ l : List Pf, Pf.cellsL l = l.flatMap Pf.cells
 | [] => rfl
 | k :: r => by rw [Pf.cellsL, Pf.cellsL_eq r, List.flatMap_cons]
structure So where
 nm : ByteArray
 p : Pr
def So.cells (s : So) : List AV := .val (.string s.nm) :: s.p.cells
theorem So.len (s : So) : s.cells.length = 5 := by rw [So.cells, List.length_cons, s.p.len]
structure Ce where
 nm : ByteArray
 dg : Int
 ss : List So
 snl : Option (Option Addr × Nat)
 scap : Option Nat
 ps : List Pf
 pnl : Option (Option Addr × Nat)
 pcap : Option Nat
def Ce.ssA (c : Ce) : AV := kidsA (c.ss.flatMap So.cells) c.ss.length c.snl c.scap
def Ce.psA (c : Ce) : AV := kidsA (c.ps.flatMap Pf.cells) c.ps.length c.pnl c.pcap
def Ce.cells (c : Ce) : List AV := [.val (.string c.nm), .val (.int .i64 c.dg), c.ssA, c.psA]
theorem Bg.at {b : Bg} {i : Nat} {k : Int} {r : List Int} (h : b.ds.drop i = k :: r) : idxAddrSV 1 b.dsA i = some (.iptr (.val (.int .i64 k) :: intsA r)) := by
 obtain ⟨neg, ds, nl, cap⟩ := b
 exact row_kid (es := 1) (f := fun n => [AV.val (.int .i64 n)]) (fun _ => rfl) h
theorem Bg.lenA (b : Bg) : lenV b.dsA = some (.val (.int .i64 (b.ds.length : Nat))) := by
 obtain ⟨neg, ds, nl, cap⟩ := b
 exact kidsA_len
theorem Pf.msAt {p : Pf} {i : Nat} {k : Bg} {r : List Bg} (h : p.ms.drop i = k :: r) : idxAddrSV 2 p.msA i = some (.iptr (k.cells ++ r.flatMap Bg.cells)) := by
 obtain ⟨kd, fm, ms, mnl, mcap, ks, nl, cap⟩ := p
 exact row_kid (es := 2) (f := Bg.cells) (fun _ => rfl) h
theorem Pf.msLen (p : Pf) : lenV p.msA = some (.val (.int .i64 (p.ms.length : Nat))) := by
 obtain ⟨kd, fm, ms, mnl, mcap, ks, nl, cap⟩ := p
 exact kidsA_len
theorem Pf.ksAt {p : Pf} {i : Nat} {k : Pf} {r : List Pf} (h : p.ks.drop i = k :: r) : idxAddrSV 4 p.ksA i = some (.iptr (k.cells ++ r.flatMap Pf.cells)) := by
 obtain ⟨kd, fm, ms, mnl, mcap, ks, nl, cap⟩ := p
 simp only [Pf.ksA, Pf.cellsL_eq]
 exact row_kid (es := 4) (f := Pf.cells) Pf.len h
theorem Pf.ksLen (p : Pf) : lenV p.ksA = some (.val (.int .i64 (p.ks.length : Nat))) := by
 obtain ⟨kd, fm, ms, mnl, mcap, ks, nl, cap⟩ := p
 exact kidsA_len
theorem Ce.ssAt {c : Ce} {i : Nat} {k : So} {r : List So} (h : c.ss.drop i = k :: r) : idxAddrSV 5 c.ssA i = some (.iptr (k.cells ++ r.flatMap So.cells)) :=
 row_kid (es := 5) (f := So.cells) So.len h
theorem Ce.ssLen (c : Ce) : lenV c.ssA = some (.val (.int .i64 (c.ss.length : Nat))) := kidsA_len
theorem Ce.psAt {c : Ce} {i : Nat} {k : Pf} {r : List Pf} (h : c.ps.drop i = k :: r) : idxAddrSV 4 c.psA i = some (.iptr (k.cells ++ r.flatMap Pf.cells)) :=
 row_kid (es := 4) (f := Pf.cells) Pf.len h
theorem Ce.psLen (c : Ce) : lenV c.psA = some (.val (.int .i64 (c.ps.length : Nat))) := kidsA_len
theorem Pr.kids_ids (p : Pr) : ids p.kids = [] := by
 cases p
 exact kidsA_ids
theorem Bg.ids (b : Bg) : AM.ids b.dsA = [] := by
 cases b
 exact kidsA_ids
theorem Pf.ms_ids (p : Pf) : ids p.msA = [] := by
 cases p
 exact kidsA_ids
theorem Pf.ks_ids (p : Pf) : ids p.ksA = [] := by
 cases p
 exact kidsA_ids
theorem Ce.ss_ids (c : Ce) : ids c.ssA = [] := kidsA_ids
theorem Ce.ps_ids (c : Ce) : ids c.psA = [] := kidsA_ids
theorem Pr.ids0 (p : Pr) : idsL p.cells = [] := by
 rw [p.cells_eq]
 simp only [idsL, ids, p.kids_ids, List.append_nil]
theorem Bg.ids0 (b : Bg) : idsL b.cells = [] := by
 simp only [Bg.cells, idsL, AM.ids, b.ids, List.append_nil]
theorem Pf.ids0 (p : Pf) : idsL p.cells = [] := by
 rw [p.cells_eq]
 simp only [idsL, ids, p.ms_ids, p.ks_ids, List.append_nil]
theorem So.ids0 (s : So) : idsL s.cells = [] := by
 simp only [So.cells, idsL, ids, s.p.ids0, List.append_nil]
theorem Ce.ids0 (c : Ce) : idsL c.cells = [] := by
 simp only [Ce.cells, idsL, ids, c.ss_ids, c.ps_ids, List.append_nil]
theorem Bg.leaf (b : Bg) : Leaf b.dsA := by
 cases b
 exact kidsA_leaf _ _ _ _
theorem Pf.msLeaf (p : Pf) : Leaf p.msA := by
 cases p
 exact kidsA_leaf _ _ _ _
theorem Pf.ksLeaf (p : Pf) : Leaf p.ksA := by
 cases p
 exact kidsA_leaf _ _ _ _
theorem Tree.bg (b : Bg) : Tree (.agg b.cells) := Tree.agg fun v hv => by
 simp only [Bg.cells, List.mem_cons, List.mem_nil_iff, or_false] at hv
 rcases hv with rfl | rfl
 ·exact Leaf.val _
 ·exact b.leaf
theorem Tree.pf (p : Pf) : Tree (.agg p.cells) := by
 rw [p.cells_eq]
 refine Tree.agg fun v hv => ?_
 simp only [List.mem_cons, List.mem_nil_iff, or_false] at hv
 rcases hv with rfl | rfl | rfl | rfl
 ·exact Leaf.val _
 ·exact Leaf.val _
 ·exact p.msLeaf
 ·exact p.ksLeaf
theorem Tree.ce (c : Ce) : Tree (.agg c.cells) := Tree.agg fun v hv => by
 simp only [Ce.cells, List.mem_cons, List.mem_nil_iff, or_false] at hv
 rcases hv with rfl | rfl | rfl | rfl
 ·exact Leaf.val _
 ·exact Leaf.val _
 ·exact kidsA_leaf _ _ _ _
 ·exact kidsA_leaf _ _ _ _
end Go.Proofs.YtijpnlmmaoecgaaGreatDoor

namespace Go.Proofs.YtijpnlmmaoecgaaGreatDoor
open Go Go.AM
theorem av_agg {cs : List AV} : (AV.agg cs).cells = some cs := rfl
theorem av_val {v : Value} : (AV.val v).cells = some [.val v] := rfl
theorem av_own {b o n e : Nat} {c : Option Nat} : (AV.own b o n e c).cells = some [.own b o n e c] := rfl
theorem av_imm {l : List AV} {n : Nat} {c : Option Nat} : (AV.imm l n c).cells = some [.imm l n c] := rfl
theorem av_kids {l : List AV} {n : Nat} {x : Option (Option Addr × Nat)} {c : Option Nat} : (kidsA l n x c).cells = some [kidsA l n x c] := by
 simp only [kidsA]
 cases (x.isSome && Nat.beq n 0) <;> rfl
theorem cfB_0 {cs : List AV} {rw : Bool} : cfB (some (.cells cs rw)) 0 = some cs := rfl
theorem Pr.f1 {p : Pr} {rw : Bool} : cfB (some (.cells p.cells rw)) 1 = some [.val (.string p.nm), .val (.int .i64 p.n), p.kids] := by rw [p.cells_eq]; rfl
theorem Pr.f2 {p : Pr} {rw : Bool} : cfB (some (.cells p.cells rw)) 2 = some [.val (.int .i64 p.n), p.kids] := by rw [p.cells_eq]; rfl
theorem Pr.f3 {p : Pr} {rw : Bool} : cfB (some (.cells p.cells rw)) 3 = some [p.kids] := by rw [p.cells_eq]; rfl
theorem Pr.hd {p : Pr} : takeN none p.cells = some (.val (.int .i64 p.op)) := by rw [p.cells_eq]; rfl
theorem Pr.all {p : Pr} : takeN (some 4) p.cells = some (.agg p.cells) := takeN_full p.len
theorem Pf.f1 {p : Pf} {rw : Bool} : cfB (some (.cells p.cells rw)) 1 = some [.val (.int .i64 p.fm), p.msA, p.ksA] := by rw [p.cells_eq]; rfl
theorem Pf.f2 {p : Pf} {rw : Bool} : cfB (some (.cells p.cells rw)) 2 = some [p.msA, p.ksA] := by rw [p.cells_eq]; rfl
theorem Pf.f3 {p : Pf} {rw : Bool} : cfB (some (.cells p.cells rw)) 3 = some [p.ksA] := by rw [p.cells_eq]; rfl
theorem Pf.hd {p : Pf} : takeN none p.cells = some (.val (.int .i64 p.kd)) := by rw [p.cells_eq]; rfl
theorem Pf.all {p : Pf} : takeN (some 4) p.cells = some (.agg p.cells) := takeN_full p.len
theorem Bg.f1 {p : Bg} {rw : Bool} : cfB (some (.cells p.cells rw)) 1 = some [p.dsA] := rfl
theorem Bg.hd {p : Bg} : takeN none p.cells = some (.val (.bool p.neg)) := rfl
theorem Bg.all {p : Bg} : takeN (some 2) p.cells = some (.agg p.cells) := takeN_full p.len
theorem So.f1 {p : So} {rw : Bool} : cfB (some (.cells p.cells rw)) 1 = some p.p.cells := by rw [So.cells]; rfl
theorem So.hd {p : So} : takeN none p.cells = some (.val (.string p.nm)) := rfl
theorem Ce.f1 {p : Ce} {rw : Bool} : cfB (some (.cells p.cells rw)) 1 = some [.val (.int .i64 p.dg), p.ssA, p.psA] := rfl
theorem Ce.f2 {p : Ce} {rw : Bool} : cfB (some (.cells p.cells rw)) 2 = some [p.ssA, p.psA] := rfl
theorem Ce.f3 {p : Ce} {rw : Bool} : cfB (some (.cells p.cells rw)) 3 = some [p.psA] := rfl
theorem Ce.hd {p : Ce} : takeN none p.cells = some (.val (.string p.nm)) := rfl
theorem Ce.all {p : Ce} : takeN (some 4) p.cells = some (.agg p.cells) := rfl
theorem takeN_pf {p : Pf} {l : List AV} : takeN (some 4) (p.cells ++ l) = some (.agg p.cells) := takeN_row p.len
theorem takeN_bg {p : Bg} {l : List AV} : takeN (some 2) (p.cells ++ l) = some (.agg p.cells) := takeN_row p.len
theorem takeN_so {p : So} {l : List AV} : takeN (some 5) (p.cells ++ l) = some (.agg p.cells) := takeN_row p.len
theorem n_2 {k : IntKind} : asN (.val (.int k 2)) = some 2 := rfl
theorem fa_0 {cs : List AV} : fieldAddrV 0 (.iptr cs) = some (.iptr cs) := rfl
theorem fa_1 {p : So} {l : List AV} : fieldAddrV 1 (.iptr (p.cells ++ l)) = some (.iptr (p.p.cells ++ l)) := rfl
def W0 := And.intro @c_skip (And.intro @c_ret (And.intro @c_exit (And.intro @c_region (And.intro @c_seq (And.intro @c_block (And.intro @k_normal (And.intro @k_ret (And.intro @k_exit (And.intro @b_normal (And.intro @b_ret (And.intro @b_exit (And.intro @l_normal (And.intro @l_ret (And.intro @l_exit (@wpOps_nil)))))))))))))))
def W1 := And.intro @s_g (And.intro @guardK_t (And.intro @guardK_f (And.intro @wantedV_t (And.intro @wantedV_f (And.intro @wantedV_u (And.intro @s_cond (And.intro @condK_t (And.intro @condK_f (And.intro @stepV_some (And.intro @stepH_some (And.intro @stepS_some (And.intro @s_mv (And.intro @s_pick (And.intro @w_alloc (@s_box)))))))))))))))
def W2 := And.intro @boxO_some (And.intro @s_build (And.intro @aggO_some (And.intro @s_buildSlice (And.intro @ownO_some (And.intro @s_load (And.intro @s_store (And.intro @storeO_some (And.intro @s_bin (And.intro @binO_some (And.intro @s_un (And.intro @s_fieldAddr (And.intro @s_idxAddrS (And.intro @idxO_some (And.intro @s_idxStr (@idxSO_some)))))))))))))))
def W3 := And.intro @s_extract (And.intro @s_lenS (And.intro @s_lenStr (And.intro @s_mkFunc (And.intro @fnO_some (And.intro @s_call (And.intro @consO_some (And.intro @all_c (And.intro @St.eval_set (And.intro @St.eval_toH (And.intro @St.eval_c (And.intro @St.h_set (And.intro @St.h_toH (And.intro @s_conv (And.intro @s_nilck (And.intro @s_strB (@s_callv))))))))))))))))
def W4 := And.intro @St.df_set (And.intro @St.df_toH (And.intro @St.get_set (And.intro @St.tm_toH (And.intro @av_agg (And.intro @av_val (And.intro @av_own (And.intro @av_imm (And.intro @av_kids (And.intro @fa_ptr (And.intro @cf_ptr (And.intro @cf_iptr (And.intro @AH.get_alloc (And.intro @AH.get_put (And.intro @e_next (And.intro @a_next (And.intro @p_next (And.intro @s_sliceS (@sliceSO_some))))))))))))))))))
def W5 := And.intro @cfB_0 (And.intro @Pr.f1 (And.intro @Pr.f2 (And.intro @Pr.f3 (And.intro @Pr.hd (And.intro @Pr.all (And.intro @Pf.f1 (And.intro @Pf.f2 (And.intro @Pf.f3 (And.intro @Pf.hd (And.intro @Pf.all (And.intro @Bg.f1 (And.intro @Bg.hd (And.intro @Bg.all (And.intro @So.f1 (@So.hd)))))))))))))))
def W6 := And.intro @Ce.f1 (And.intro @Ce.f2 (And.intro @Ce.f3 (And.intro @Ce.hd (And.intro @Ce.all (And.intro @take_hd (And.intro @kids_len (And.intro @Pf.msLen (And.intro @Pf.ksLen (And.intro @Bg.lenA (And.intro @Ce.ssLen (And.intro @Ce.psLen (And.intro @takeN_kid (And.intro @takeN_pf (And.intro @takeN_bg (@takeN_so)))))))))))))))
def W7 := And.intro @v_lss (And.intro @v_leq (And.intro @v_gtr (And.intro @v_geq (And.intro @v_eql (And.intro @v_neq (And.intro @v_add (And.intro @v_sub (And.intro @v_mul (And.intro @v_seql (And.intro @v_sneq (And.intro @v_not (And.intro @v_pick (And.intro @v_conv (And.intro @v_nilck (@callvK_f)))))))))))))))
def W8 := And.intro @n_cast (And.intro @n_0 (And.intro @n_1 (And.intro @n_2 (And.intro @x_0 (And.intro @x_1 (And.intro @x_2 (And.intro @evalAll_nil (And.intro @r_nil (And.intro @res_tmp (And.intro @res_cell (And.intro @optN_n (And.intro @optN_t (And.intro @optM_some (And.intro @fa_0 (@fa_1)))))))))))))))
def W9 := And.intro @Nat.zero_add (And.intro @Nat.add_zero (And.intro @Nat.zero_mul (And.intro @true_and (And.intro @and_true (And.intro @true_or (And.intro @or_true (And.intro @Bool.not_true (And.intro @Bool.not_false (And.intro @decide_true (And.intro @decide_false (And.intro @Bool.and_true (And.intro @Bool.true_and (And.intro @Bool.and_false (And.intro @Bool.false_and (And.intro @Bool.or_true (And.intro @Bool.true_or (And.intro @Bool.or_false (@Bool.false_or))))))))))))))))))
theorem put_n (s : St) (v : AV) : s.put none v = s := rfl
theorem put_s (s : St) (d : Nat) (v : AV) : s.put (some d) v = s.set d v := rfl
def V0 := And.intro @Option.bind_some.{0,0} (And.intro @Option.map_some.{0,0} (And.intro @cond_true.{1} (And.intro @cond_false.{1} (And.intro @if_true.{1} (And.intro @if_false.{1} (And.intro @cond_true.{0} (And.intro @cond_false.{0} (And.intro @if_true.{0} @if_false.{0}))))))))
def V := And.intro W0 (And.intro W1 (And.intro W2 (And.intro W3 (And.intro W4 (And.intro W5 (And.intro W6 (And.intro W7 (And.intro W8 (And.intro W9 (And.intro put_n (And.intro put_s V0)))))))))))
end Go.Proofs.YtijpnlmmaoecgaaGreatDoor

namespace Go.Proofs.YtijpnlmmaoecgaaGreatDoor
open Go Go.AM
def in64 (n : Int) : Prop := -9223372036854775808 ≤ n ∧ n < 9223372036854775808
def zz (n : Int) : Nat := if 0 ≤ n then 2 * n.toNat else 2 * (-n - 1).toNat + 1
theorem zz_lt {n : Int} (h : in64 n) : zz n < 2 ^ 64 := by
 unfold in64 at h
 unfold zz
 split <;> omega
def numP : Nat → Nat → List UInt8
 | 0, _ => []
 | f + 1, u => if u < 128 then [] else UInt8.ofNat (u % 128 + 128) :: numP f (u / 128)
def numL : Nat → Nat → Nat
 | 0, u => u
 | f + 1, u => if u < 128 then u else numL f (u / 128)
def encU (u : Nat) : List UInt8 := numP 9 u ++ [UInt8.ofNat (numL 9 u)]
def encNum (n : Int) : List UInt8 := encU (zz n)
def encText (s : ByteArray) : List UInt8 := encNum (s.size : Nat) ++ s.data.toList
mutual
def encPr : Pr → List UInt8
 | .mk o s n ks _ _ => encNum o ++ (encText s ++ (encNum n ++ (encNum (ks.length : Nat) ++ encPrL ks)))
def encPrL : List Pr → List UInt8
 | [] => []
 | k :: r => encPr k ++ encPrL r
end
def encInts (l : List Int) : List UInt8 := l.flatMap encNum
def encBg (b : Bg) : List UInt8 := encNum (if b.neg then 1 else 0) ++ (encNum (b.ds.length : Nat) ++ encInts b.ds)
def encBgs (l : List Bg) : List UInt8 := l.flatMap encBg
mutual
def encPf : Pf → List UInt8
 | .mk k f ms _ _ ks _ _ => encNum k ++ (encNum f ++ (encNum (ms.length : Nat) ++ (encBgs ms ++ (encNum (ks.length : Nat) ++ encPfL ks))))
def encPfL : List Pf → List UInt8
 | [] => []
 | k :: r => encPf k ++ encPfL r
end
def encSo (s : So) : List UInt8 := encText s.nm ++ encPr s.p
def encSos (l : List So) : List UInt8 := l.flatMap encSo
def encBody (c : Ce) : List UInt8 := [69, 67, 1] ++ (encText c.nm ++ (encNum c.dg ++ (encNum (c.ss.length : Nat) ++ (encSos c.ss ++ (encNum (c.ps.length : Nat) ++ encPfL c.ps)))))
def fnv1 (h : Nat) (b : UInt8) : Nat := ((h ^^^ b.toNat) * 16777619) % 4294967296
def fnv (l : List UInt8) : Nat := l.foldl fnv1 2166136261
def tail4 (n : Nat) : List UInt8 := [UInt8.ofNat (n / 2 ^ 24), UInt8.ofNat (n / 2 ^ 16), UInt8.ofNat (n / 2 ^ 8), UInt8.ofNat n]
def encCe (c : Ce) : List UInt8 := encBody c ++ tail4 (fnv (encBody c))
mutual
def fitPr : Pr → Prop
 | .mk o s n ks _ _ => in64 o ∧ in64 n ∧ s.size < 2 ^ 60 ∧ ks.length < 2 ^ 60 ∧ fitPrL ks
def fitPrL : List Pr → Prop
 | [] => True
 | k :: r => fitPr k ∧ fitPrL r
end
def fitBg (b : Bg) : Prop := b.ds.length < 2 ^ 60 ∧ ∀ n ∈ b.ds, in64 n
mutual
def fitPf : Pf → Prop
 | .mk k f ms _ _ ks _ _ => in64 k ∧ in64 f ∧ ms.length < 2 ^ 60 ∧ (∀ b ∈ ms, fitBg b) ∧ ks.length < 2 ^ 60 ∧ fitPfL ks
def fitPfL : List Pf → Prop
 | [] => True
 | k :: r => fitPf k ∧ fitPfL r
end
def fitSo (s : So) : Prop := s.nm.size < 2 ^ 60 ∧ fitPr s.p
structure fitCe (c : Ce) : Prop where
 nm : c.nm.size < 2 ^ 60
 dg : in64 c.dg
 sl : c.ss.length < 2 ^ 60
 ss : ∀ s ∈ c.ss, fitSo s
 pl : c.ps.length < 2 ^ 60
 ps : fitPfL c.ps
theorem fitPfL_mem : ∀ {l : List Pf}, fitPfL l → ∀ p ∈ l, fitPf p
 | k :: r, h, p, hp => by
  simp only [fitPfL] at h
  rcases List.mem_cons.1 hp with rfl | hp
  ·exact h.1
  ·exact fitPfL_mem h.2 p hp
theorem in64_nat {n : Nat} (h : n < 2 ^ 60) : in64 (n : Int) := by
 unfold in64
 omega
theorem and_127 {P : Program} {t : TypeId} {g : Bool} {u : Nat} (h : u < 2 ^ 64) : binA P .and t g (.val (.int .u64 (u : Int))) (.val (.int .u64 127)) = some (.val (.int .u64 ((u % 128 : Nat) : Int))) := by
 have e : ((127 : Int)) = ((127 : Nat) : Int) := rfl
 rw [v_and, e, and_u64 h (by decide)]
 have : u &&& 127 = u % 128 := Nat.and_two_pow_sub_one_eq_mod u 7
 rw [this]
theorem or_128 {P : Program} {t : TypeId} {g : Bool} {u : Nat} (h : u < 128) : binA P .or t g (.val (.int .u8 (u : Int))) (.val (.int .u8 128)) = some (.val (.int .u8 ((u + 128 : Nat) : Int))) := by
 have e : ((128 : Int)) = ((128 : Nat) : Int) := rfl
 rw [v_or, e, or_u8 (by omega) (by decide)]
 have : u ||| 128 = u + 128 := by
  have := Nat.two_pow_add_eq_or_of_lt (i := 7) (b := u) (by omega) 1
  rw [Nat.or_comm, Nat.add_comm]
  simpa using this.symm
 rw [this]
theorem shr_7 {P : Program} {t : TypeId} {g : Bool} {u : Nat} {k' : IntKind} : binA P .shr t g (.val (.int .u64 (u : Int))) (.val (.int k' 7)) = some (.val (.int .u64 ((u / 128 : Nat) : Int))) := by
 have e : ((7 : Int)) = ((7 : Nat) : Int) := rfl
 rw [e, v_shr (by decide)]
 have : ((u : Int)).fdiv (2 ^ 7) = ((u / 128 : Nat) : Int) := by
  rw [Int.fdiv_eq_ediv_of_nonneg _ (by decide)]
  norm_cast
 rw [this]
theorem zz_code {n : Int} (h : in64 n) : IntKind.u64.wrap ((BitVec.ofInt IntKind.u64.bits (IntKind.u64.wrap (IntKind.u64.wrap n * 2 ^ 1)) ^^^ BitVec.ofInt IntKind.u64.bits (IntKind.u64.wrap (n.fdiv (2 ^ 63)))).toNat : Nat) = ((zz n : Nat) : Int) := by
 unfold in64 at h
 rcases Int.lt_or_le n 0 with hn | hn
 ·obtain ⟨m, rfl⟩ : ∃ m : Nat, n = -((m : Int) + 1) := ⟨(-n - 1).toNat, by omega⟩
  have hm : m < 2 ^ 63 := by omega
  have w1 : IntKind.u64.wrap (IntKind.u64.wrap (-((m : Int) + 1)) * 2 ^ 1) = ((18446744073709551614 - 2 * m : Nat) : Int) := by
   simp [IntKind.wrap, IntKind.bits, IntKind.signed]
   omega
  have w2 : IntKind.u64.wrap ((-((m : Int) + 1)).fdiv (2 ^ 63)) = ((18446744073709551615 : Nat) : Int) := by
   have : (-((m : Int) + 1)).fdiv (2 ^ 63) = -1 := by
    rw [Int.fdiv_eq_ediv_of_nonneg _ (by decide)]
    omega
   rw [this]
   rfl
  have z : zz (-((m : Int) + 1)) = 2 * m + 1 := by
   unfold zz
   rw [if_neg (by omega)]
   omega
  rw [w1, w2, z, xor_u64 (by omega) (by decide)]
  have key : ∀ a : BitVec 64, (a ^^^ BitVec.allOnes 64).toNat = 2 ^ 64 - 1 - a.toNat := fun a => by
   rw [BitVec.xor_allOnes, BitVec.toNat_not]
  have k2 := key (BitVec.ofNat 64 (18446744073709551614 - 2 * m))
  rw [BitVec.toNat_xor, BitVec.toNat_ofNat, BitVec.toNat_allOnes, Nat.mod_eq_of_lt (by omega)] at k2
  have e : (2 ^ 64 - 1 : Nat) = 18446744073709551615 := by decide
  rw [e] at k2
  have k3 : 18446744073709551615 - (18446744073709551614 - 2 * m) = 2 * m + 1 := by omega
  rw [k2, k3]
 ·obtain ⟨m, rfl⟩ : ∃ m : Nat, n = (m : Int) := ⟨n.toNat, by omega⟩
  have hm : m < 2 ^ 63 := by omega
  have w1 : IntKind.u64.wrap (IntKind.u64.wrap (m : Int) * 2 ^ 1) = ((2 * m : Nat) : Int) := by
   rw [wrap_u64 (by omega)]
   have : (m : Int) * 2 ^ 1 = ((2 * m : Nat) : Int) := by omega
   rw [this, wrap_u64 (by omega)]
  have w2 : IntKind.u64.wrap ((m : Int).fdiv (2 ^ 63)) = ((0 : Nat) : Int) := by
   have : (m : Int).fdiv (2 ^ 63) = 0 := by
    rw [Int.fdiv_eq_ediv_of_nonneg _ (by decide)]
    omega
   rw [this]
   rfl
  have z : zz (m : Int) = 2 * m := by
   unfold zz
   rw [if_pos (by omega)]
   omega
  rw [w1, w2, z, xor_u64 (by omega) (by decide), Nat.xor_zero]
end Go.Proofs.YtijpnlmmaoecgaaGreatDoor

namespace Go.Proofs.YtijpnlmmaoecgaaGreatDoor
open Go Go.AM
structure RS where
 rest : List UInt8
 bad : Bool
def nilRow : Option (Option Addr × Nat) := some (none, 0)
theorem tail4_len (n : Nat) : (tail4 n).length = 4 := rfl
theorem fnv1_lt (h : Nat) (b : UInt8) : fnv1 h b < 4294967296 := Nat.mod_lt _ (by decide)
theorem fold_lt : ∀ (l : List UInt8) (h : Nat), h < 4294967296 → l.foldl fnv1 h < 4294967296
 | [], h, a => a
 | b :: r, h, a => fold_lt r _ (fnv1_lt h b)
theorem fnv_lt (l : List UInt8) : fnv l < 4294967296 := fold_lt l _ (by decide)
end Go.Proofs.YtijpnlmmaoecgaaGreatDoor
