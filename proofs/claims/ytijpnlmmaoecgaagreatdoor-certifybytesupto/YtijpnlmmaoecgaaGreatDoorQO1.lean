/- A part of the proofs about certificates: YOpen YLawb YCalls. -/
import Derived.Test.YtijpnlmmaoecgaaGreatDoorQM3
import Derived.Test.YtijpnlmmaoecgaaGreatDoorQP1
import Derived.Test.YtijpnlmmaoecgaaGreatDoorQA1
import Derived.Test.YtijpnlmmaoecgaaGreatDoorQL1
import Derived.Test.YtijpnlmmaoecgaaGreatDoorProg
import Derived.KernelRfl
import Derived.ProofKit
import Derived.ChangeArms
import Derived.ReadAgain

set_option linter.all false

namespace Go.Proofs.YtijpnlmmaoecgaaGreatDoor
open Go Go.AM Go.WideShapes
set_option maxRecDepth 10000
mutual
def bulkD {H : Type} : DataW H → Nat
 | .lit (.string bytes) => bytes.length + 1
 | .lit _ => 1
 | .nil => 1
 | .ptr d => bulkD d + 1
 | .slice elems spare => bulkL elems + bulkL spare + 1
 | .agg parts => bulkL parts + 1
 | .iface _ d => bulkD d + 1
 | .map _ => 1
 | .held _ => 1
def bulkL {H : Type} : List (DataW H) → Nat
 | [] => 0
 | d :: r => bulkD d + bulkL r
end
def snapW (W : World) : Snap := fun b o => W.cell? ⟨b, o, none⟩
theorem relC_append {S : Snap} : ∀ {xs ys : List AV} {b off : Nat}, RelC S xs b off → RelC S ys b (off + xs.length) → RelC S (xs ++ ys) b off
 | [], ys, b, off, _, k => by simpa only [List.nil_append, List.length_nil, Nat.add_zero] using k
 | x :: xs, ys, b, off, h, k => by
  simp only [RelC] at h
  simp only [List.cons_append, RelC]
  exact ⟨h.1, relC_append h.2 (by rw [List.length_cons] at k; rw [show off + 1 + xs.length = off + (xs.length + 1) by omega]; exact k)⟩
theorem relC_of {S : Snap} {b : Nat} : ∀ {cs : List AV} {vs : List Value} {off : Nat}, RelL S nof cs vs → vs.all (·.oneCell') = true → (∀ i v, vs[i]? = some v → S b (off + i) = some v) → RelC S cs b off
 | [], _, _, _, _, _ => by simp only [RelC]
 | c :: cs, vs, off, h, ho, k => by
  simp only [RelL] at h
  obtain ⟨y, ys, rfl, h1, h2⟩ := h
  simp only [List.all_cons, Bool.and_eq_true] at ho
  simp only [RelC]
  refine ⟨⟨y, k 0 y rfl, ho.1, h1⟩, relC_of h2 ho.2 fun i v hv => ?_⟩
  have := k (i + 1) v hv
  rw [show off + 1 + i = off + (i + 1) by omega]
  exact this
theorem rel_val {S : Snap} {f : Emb} {v : Value} (ho : v.oneCell' = true) : Rel S f (.val v) v := by
 rw [Rel]
 exact ⟨rfl, ho⟩
theorem relL_len {S : Snap} {f : Emb} : ∀ {cs : List AV} {vs : List Value}, RelL S f cs vs → vs.length = cs.length
 | [], vs, h => by
  simp only [RelL] at h
  rw [h]
  rfl
 | c :: cs, vs, h => by
  simp only [RelL] at h
  obtain ⟨y, ys, rfl, _, h2⟩ := h
  simp only [List.length_cons, relL_len h2]
theorem bulkD_pos {H : Type} : ∀ d : DataW H, 1 ≤ bulkD d
 | .lit l => by cases l <;> simp only [bulkD] <;> omega
 | .nil => by simp only [bulkD]; omega
 | .ptr d => by simp only [bulkD]; omega
 | .slice _ _ => by simp only [bulkD]; omega
 | .agg _ => by simp only [bulkD]; omega
 | .iface _ _ => by simp only [bulkD]; omega
 | .map _ => by simp only [bulkD]; omega
 | .held _ => by simp only [bulkD]; omega
theorem bulkL_len {H : Type} : ∀ l : List (DataW H), l.length ≤ bulkL l
 | [] => Nat.le_refl _
 | d :: r => by
  have := bulkL_len r
  have := bulkD_pos d
  simp only [List.length_cons, bulkL]
  omega
theorem bulkL_mem {H : Type} : ∀ {l : List (DataW H)} {d : DataW H}, d ∈ l → bulkD d ≤ bulkL l
 | a :: r, d, h => by
  simp only [bulkL]
  rcases List.mem_cons.1 h with rfl | h
  ·omega
  ·have := bulkL_mem h
   omega
section
variable {H : Type} {enc : TypeId × Value → H} {W : World}
def Holds {α : Type} (W : World) (f : α → List AV) (fit : α → Prop) (cs : List Value) : Prop := ∃ a : α, RelL (snapW W) nof (f a) cs ∧ cs.all (·.oneCell') = true ∧ fit a
theorem row_cells {α : Type} {f : α → List AV} {fit : α → Prop} {es b off : Nat} (hf : ∀ a, (f a).length = es) : ∀ (n j : Nat), (∀ i, i < n → ∃ cs, W.cells? 0 ((⟨b, off, none⟩ : Addr).add ((j + i) * es)) es = some cs ∧ Holds W f fit cs) →
  ∃ l : List α, l.length = n ∧ RelC (snapW W) (l.flatMap f) b (off + j * es) ∧ ∀ a ∈ l, fit a
 | 0, j, _ => ⟨[], rfl, by simp only [List.flatMap_nil, RelC], fun a ha => by cases ha⟩
 | n + 1, j, h => by
  obtain ⟨cs, hc, a, hp, ho, hn⟩ := h 0 (by omega)
  obtain ⟨l, h1, h2, h3⟩ := row_cells hf n (j + 1) fun i hi => by
   have := h (i + 1) (by omega)
   rw [show j + 1 + i = j + (i + 1) by omega]
   exact this
  obtain ⟨_, hl, hcell⟩ := World.cells?_some hc
  have hl' : cs.length = es := by rw [relL_len hp, hf]
  refine ⟨a :: l, by simp only [List.length_cons, h1], ?_, ?_⟩
  ·simp only [List.flatMap_cons]
   refine relC_append (relC_of hp ho fun i v hv => ?_) ?_
   ·have hi : i < es := by
     rcases Nat.lt_or_ge i cs.length with x | x
     ·omega
     ·rw [List.getElem?_eq_none x] at hv; cases hv
    have := hcell i hi
    rw [hv, add_plain, add_plain] at this
    simpa only [snapW, Nat.add_zero] using this
   ·rw [hf, show off + j * es + es = off + (j + 1) * es by rw [Nat.add_mul]; omega]
    exact h2
  ·intro x hx
   rcases List.mem_cons.1 hx with rfl | hx
   ·exact hn
   ·exact h3 x hx
theorem row_open {α : Type} {f : α → List AV} {fit : α → Prop} {es n : Nat} {t e : TypeId} {v : Value} {x : DataW H × List MemPlace} (hf : ∀ a, (f a).length = es) (hes : 0 < es) (hu : Tryz.prog.underlying t = some (.slice e)) (hc : Tryz.prog.cellsOf e = es)
  (h : DataW.trod enc Tryz.prog W 0 (fun _ => true) true n t [v] = some x) (ih : ∀ m, m < n → ∀ cs y, DataW.trod enc Tryz.prog W 0 (fun _ => true) true m e cs = some y → bulkD y.1 ≤ bulkD x.1 → Holds W f fit cs) :
  ∃ (l : List α) (nl : Option (Option Addr × Nat)) (cap : Option Nat), Rel (snapW W) nof (kidsA (l.flatMap f) l.length nl cap) v ∧ v.oneCell' = true ∧ l.length ≤ bulkD x.1 ∧ ∀ a ∈ l, fit a := by
 rcases DataW.trod_slice hu h with ⟨e3, rfl⟩ | ⟨a, len, cap, elems, rest, m, rfl, e3, rfl, _, hlc, _, hel, hget, _⟩
 ·cases e3
  exact ⟨[], some (none, 0), none, rel_val rfl, rfl, Nat.zero_le _, fun a ha => by cases ha⟩
 ·cases e3
  cases len with
  | zero => exact ⟨[], some (some a, cap), none, rel_val rfl, rfl, Nat.zero_le _, fun a ha => by cases ha⟩
  | succ len =>
   have hall : ∀ i, i < len + 1 → ∃ cs y, W.cells? 0 (a.add (i * es)) es = some cs ∧ DataW.trod enc Tryz.prog W 0 (fun _ => true) true m e cs = some y ∧ y ∈ elems := fun i hi => by
    have hg := hget i hi
    rw [hc] at hg
    have hi' : i < elems.length := by omega
    rw [List.getElem?_eq_getElem hi'] at hg
    obtain ⟨cs, q1, q2⟩ := Option.bind_eq_some_iff.1 hg
    exact ⟨cs, _, q1, q2, List.getElem_mem hi'⟩
   obtain ⟨b, off, spot⟩ := a
   have hspot : spot = none := by
    obtain ⟨cs, y, q1, _⟩ := hall 0 (by omega)
    obtain ⟨_, hl, hcell⟩ := World.cells?_some q1
    have := hcell 0 hes
    match cs, hl with
    | [], hl => simp only [List.length_nil] at hl; omega
    | c0 :: _, _ =>
     have hs := World.cell?_spot this
     simpa [Addr.add] using hs
   subst hspot
   have hbx : ∀ y ∈ elems, bulkD y.1 ≤ bulkD (DataW.slice (elems.map (·.1)) (rest.map (·.1))) := fun y hy => by
    have := bulkL_mem (List.mem_map_of_mem (f := (·.1)) hy)
    simp only [bulkD]
    omega
   obtain ⟨l, g1, g2, g3⟩ := row_cells (W := W) (b := b) (off := off) hf (len + 1) 0 fun i hi => by
    obtain ⟨cs, y, q1, q2, q3⟩ := hall i hi
    rw [Nat.zero_add]
    exact ⟨cs, q1, ih m (by omega) cs y q2 (hbx y q3)⟩
   refine ⟨l, none, none, ?_, rfl, ?_, g3⟩
   ·simp only [kidsA, Option.isSome_none, Bool.false_and, cond_false, Rel]
    refine ⟨b, off, cap, ?_, by omega, fun k hk => (by cases hk), ?_⟩
    ·rw [g1]
    ·simpa only [Nat.zero_mul, Nat.add_zero] using g2
   ·have := bulkL_len (elems.map (·.1))
    rw [List.length_map] at this
    simp only [bulkD]
    omega
theorem cel3 : Tryz.prog.cellsOf 3 = 1 := by kernel_rfl
theorem cel4 : Tryz.prog.cellsOf 4 = 1 := by kernel_rfl
theorem cel9 : Tryz.prog.cellsOf 9 = 1 := by kernel_rfl
theorem cel24 : Tryz.prog.cellsOf 24 = 1 := by kernel_rfl
theorem cel25 : Tryz.prog.cellsOf 25 = 1 := by kernel_rfl
theorem cel27 : Tryz.prog.cellsOf 27 = 4 := by kernel_rfl
theorem cel39 : Tryz.prog.cellsOf 39 = 1 := by kernel_rfl
theorem cel40 : Tryz.prog.cellsOf 40 = 1 := by kernel_rfl
theorem cel42 : Tryz.prog.cellsOf 42 = 4 := by kernel_rfl
theorem cel82 : Tryz.prog.cellsOf 82 = 5 := by kernel_rfl
theorem cel85 : Tryz.prog.cellsOf 85 = 1 := by kernel_rfl
theorem cel87 : Tryz.prog.cellsOf 87 = 4 := by kernel_rfl
theorem cel143 : Tryz.prog.cellsOf 143 = 1 := by kernel_rfl
theorem cel145 : Tryz.prog.cellsOf 145 = 2 := by kernel_rfl
theorem und24 : Tryz.prog.underlying 24 = some (.slice 82) := by kernel_rfl
theorem und25 : Tryz.prog.underlying 25 = some (.slice 87) := by kernel_rfl
theorem und40 : Tryz.prog.underlying 40 = some (.slice 42) := by kernel_rfl
theorem und85 : Tryz.prog.underlying 85 = some (.slice 145) := by kernel_rfl
theorem und143 : Tryz.prog.underlying 143 = some (.slice 3) := by kernel_rfl
theorem und3 : Tryz.prog.underlying 3 = some (.int .i64) := by kernel_rfl
theorem und4 : Tryz.prog.underlying 4 = some .bool := by kernel_rfl
theorem und9 : Tryz.prog.underlying 9 = some .string := by kernel_rfl
theorem und39 : Tryz.prog.underlying 39 = some (.int .i64) := by kernel_rfl
theorem wf64 {n : Int} (h : (Lit.int .i64 n).wf = true) : in64 n := by
 simp only [Lit.wf, Bool.and_eq_true, decide_eq_true_eq] at h
 have h1 : IntKind.i64.min = -9223372036854775808 := by rfl
 have h2 : IntKind.i64.max = 9223372036854775807 := by rfl
 rw [h1, h2] at h
 unfold in64
 omega
theorem bulk_part {d : DataW H} {l : List (DataW H)} (h : d ∈ l) : bulkD d ≤ bulkD (.agg l) := by
 have := bulkL_mem h
 simp only [bulkD]
 omega
theorem pr_open : ∀ (fuel : Nat) (cs : List Value) (x : DataW H × List MemPlace), DataW.trod enc Tryz.prog W 0 (fun _ => true) true fuel 42 cs = some x → bulkD x.1 ≤ 1048576 → Holds W Pr.cells fitPr cs := by
 intro fuel
 induction fuel using Nat.strongRecOn with
 | _ fuel ih =>
 intro cs x h hb
 obtain ⟨xs, n, rfl, rfl, hl, hlen, hf⟩ := DataW.trod_struct Tryz.underlying42 h
 rw [cel42] at hl
 match cs, hl with
 | [a, b, c, e], _ =>
 match xs, hlen with
 | [x0, x1, x2, x3], _ =>
 have h0 := hf 0 _ rfl
 have h1 := hf 1 _ rfl
 have h2 := hf 2 _ rfl
 have h3 := hf 3 _ rfl
 change DataW.trod enc Tryz.prog W 0 (fun _ => true) true n 39 (([a, b, c, e].drop 0).take (Tryz.prog.cellsOf 39)) = some x0 at h0
 rw [cel39] at h0
 change DataW.trod enc Tryz.prog W 0 (fun _ => true) true n 39 [a] = some x0 at h0
 change DataW.trod enc Tryz.prog W 0 (fun _ => true) true n 9 (([a, b, c, e].drop 1).take (Tryz.prog.cellsOf 9)) = some x1 at h1
 rw [cel9] at h1
 change DataW.trod enc Tryz.prog W 0 (fun _ => true) true n 9 [b] = some x1 at h1
 change DataW.trod enc Tryz.prog W 0 (fun _ => true) true n 3 (([a, b, c, e].drop 2).take (Tryz.prog.cellsOf 3)) = some x2 at h2
 rw [cel3] at h2
 change DataW.trod enc Tryz.prog W 0 (fun _ => true) true n 3 [c] = some x2 at h2
 change DataW.trod enc Tryz.prog W 0 (fun _ => true) true n 40 (([a, b, c, e].drop 3).take (Tryz.prog.cellsOf 40)) = some x3 at h3
 rw [cel40] at h3
 change DataW.trod enc Tryz.prog W 0 (fun _ => true) true n 40 [e] = some x3 at h3
 obtain ⟨k0, e0, rfl, w0⟩ := DataW.trod_int und39 h0
 obtain ⟨s1, e1, rfl, _⟩ := DataW.trod_string und9 h1
 obtain ⟨k2, e2, rfl, w2⟩ := DataW.trod_int und3 h2
 cases e0; cases e1; cases e2
 simp only [List.map_cons, List.map_nil] at hb
 have b1 : bulkD (.lit (.string s1.data.toList) : DataW H) ≤ _ := bulk_part (l := [(.lit (.int .i64 k0)), (.lit (.string s1.data.toList)), (.lit (.int .i64 k2)), x3.1]) (by simp)
 have b3 : bulkD x3.1 ≤ _ := bulk_part (l := [(.lit (.int .i64 k0)), (.lit (.string s1.data.toList)), (.lit (.int .i64 k2)), x3.1]) (by simp)
 obtain ⟨ks, nl, cap, hr, ho, hkl, hks⟩ := row_open (f := Pr.cells) (fit := fitPr) Pr.len (by decide) und40 cel42 h3 fun m hm cs y hy hby => ih m (by omega) cs y hy (by omega)
 have hks' : fitPrL ks := by
  clear hr hkl
  induction ks with
  | nil => trivial
  | cons k r ihr => exact ⟨hks k List.mem_cons_self, ihr fun a ha => hks a (List.mem_cons_of_mem _ ha)⟩
 have es : s1.data.toList.length = s1.size := rfl
 refine ⟨.mk k0 s1 k2 ks nl cap, ?_, ?_, ?_⟩
 ·simp only [Pr.cells, RelL, Pr.cellsL_eq]
  exact ⟨_, _, rfl, rel_val rfl, _, _, rfl, rel_val rfl, _, _, rfl, rel_val rfl, _, _, rfl, hr, rfl⟩
 ·show (true && (true && (true && (e.oneCell' && true)))) = true
  rw [ho]
  rfl
 ·simp only [fitPr]
  simp only [bulkD] at b1 hb
  exact ⟨wf64 w0, wf64 w2, by omega, by simp only [bulkD] at b3; omega, hks'⟩
theorem fitPfL_all : ∀ {l : List Pf}, (∀ a ∈ l, fitPf a) → fitPfL l
 | [], _ => trivial
 | k :: r, h => ⟨h k List.mem_cons_self, fitPfL_all fun a ha => h a (List.mem_cons_of_mem _ ha)⟩
theorem so_open (fuel : Nat) (cs : List Value) (x : DataW H × List MemPlace) (h : DataW.trod enc Tryz.prog W 0 (fun _ => true) true fuel 82 cs = some x) (hb : bulkD x.1 ≤ 1048576) : Holds W So.cells fitSo cs := by
 obtain ⟨xs, n, rfl, rfl, hl, hlen, hf⟩ := DataW.trod_struct Tryz.underlying82 h
 rw [cel82] at hl
 match cs, hl with
 | [a, b, c, d, e], _ =>
 match xs, hlen with
 | [x0, x1], _ =>
 have h0 := hf 0 _ rfl
 have h1 := hf 1 _ rfl
 change DataW.trod enc Tryz.prog W 0 (fun _ => true) true n 9 (([a, b, c, d, e].drop 0).take (Tryz.prog.cellsOf 9)) = some x0 at h0
 rw [cel9] at h0
 change DataW.trod enc Tryz.prog W 0 (fun _ => true) true n 9 [a] = some x0 at h0
 change DataW.trod enc Tryz.prog W 0 (fun _ => true) true n 42 (([a, b, c, d, e].drop 1).take (Tryz.prog.cellsOf 42)) = some x1 at h1
 rw [cel42] at h1
 change DataW.trod enc Tryz.prog W 0 (fun _ => true) true n 42 [b, c, d, e] = some x1 at h1
 obtain ⟨s0, e0, rfl, _⟩ := DataW.trod_string und9 h0
 cases e0
 simp only [List.map_cons, List.map_nil] at hb
 have b0 : bulkD (.lit (.string s0.data.toList) : DataW H) ≤ _ := bulk_part (l := [(.lit (.string s0.data.toList)), x1.1]) (by simp)
 have b1 : bulkD x1.1 ≤ _ := bulk_part (l := [(.lit (.string s0.data.toList)), x1.1]) (by simp)
 obtain ⟨p, hp, ho, hft⟩ := pr_open n _ _ h1 (by omega)
 have es : s0.data.toList.length = s0.size := rfl
 refine ⟨⟨s0, p⟩, ?_, ?_, ?_, hft⟩
 ·simp only [So.cells, RelL]
  exact ⟨_, _, rfl, rel_val rfl, hp⟩
 ·rw [List.all_cons, ho]
  rfl
 ·simp only [bulkD] at b0 hb
  show s0.size < _
  omega
theorem ints_open (fuel : Nat) (cs : List Value) (x : DataW H × List MemPlace) (h : DataW.trod enc Tryz.prog W 0 (fun _ => true) true fuel 3 cs = some x) : Holds W (fun n : Int => [AV.val (.int .i64 n)]) in64 cs := by
 obtain ⟨k, rfl, rfl, w⟩ := DataW.trod_int und3 h
 refine ⟨k, ?_, rfl, wf64 w⟩
 simp only [RelL]
 exact ⟨_, _, rfl, rel_val rfl, rfl⟩
theorem bg_open (fuel : Nat) (cs : List Value) (x : DataW H × List MemPlace) (h : DataW.trod enc Tryz.prog W 0 (fun _ => true) true fuel 145 cs = some x) (hb : bulkD x.1 ≤ 1048576) : Holds W Bg.cells fitBg cs := by
 obtain ⟨xs, n, rfl, rfl, hl, hlen, hf⟩ := DataW.trod_struct Tryz.underlying145 h
 rw [cel145] at hl
 match cs, hl with
 | [a, b], _ =>
 match xs, hlen with
 | [x0, x1], _ =>
 have h0 := hf 0 _ rfl
 have h1 := hf 1 _ rfl
 change DataW.trod enc Tryz.prog W 0 (fun _ => true) true n 4 (([a, b].drop 0).take (Tryz.prog.cellsOf 4)) = some x0 at h0
 rw [cel4] at h0
 change DataW.trod enc Tryz.prog W 0 (fun _ => true) true n 4 [a] = some x0 at h0
 change DataW.trod enc Tryz.prog W 0 (fun _ => true) true n 143 (([a, b].drop 1).take (Tryz.prog.cellsOf 143)) = some x1 at h1
 rw [cel143] at h1
 change DataW.trod enc Tryz.prog W 0 (fun _ => true) true n 143 [b] = some x1 at h1
 obtain ⟨g0, e0, rfl⟩ := DataW.trod_bool und4 h0
 cases e0
 simp only [List.map_cons, List.map_nil] at hb
 have b1 : bulkD x1.1 ≤ _ := bulk_part (l := [(.lit (.bool g0)), x1.1]) (by simp)
 obtain ⟨ds, nl, cap, hr, ho, hdl, hds⟩ := row_open (f := fun n : Int => [AV.val (.int .i64 n)]) (fit := in64) (fun _ => rfl) (by decide) und143 cel3 h1 fun m hm cs y hy hby => ints_open m cs y hy
 refine ⟨.mk g0 ds nl cap, ?_, ?_, ?_, hds⟩
 ·simp only [Bg.cells, RelL]
  exact ⟨_, _, rfl, rel_val rfl, _, _, rfl, hr, rfl⟩
 ·show (true && (b.oneCell' && true)) = true
  rw [ho]
  rfl
 ·show ds.length < _
  omega
theorem pf_open : ∀ (fuel : Nat) (cs : List Value) (x : DataW H × List MemPlace), DataW.trod enc Tryz.prog W 0 (fun _ => true) true fuel 87 cs = some x → bulkD x.1 ≤ 1048576 → Holds W Pf.cells fitPf cs := by
 intro fuel
 induction fuel using Nat.strongRecOn with
 | _ fuel ih =>
 intro cs x h hb
 obtain ⟨xs, n, rfl, rfl, hl, hlen, hf⟩ := DataW.trod_struct Tryz.underlying87 h
 rw [cel87] at hl
 match cs, hl with
 | [a, b, c, e], _ =>
 match xs, hlen with
 | [x0, x1, x2, x3], _ =>
 have h0 := hf 0 _ rfl
 have h1 := hf 1 _ rfl
 have h2 := hf 2 _ rfl
 have h3 := hf 3 _ rfl
 change DataW.trod enc Tryz.prog W 0 (fun _ => true) true n 3 (([a, b, c, e].drop 0).take (Tryz.prog.cellsOf 3)) = some x0 at h0
 rw [cel3] at h0
 change DataW.trod enc Tryz.prog W 0 (fun _ => true) true n 3 [a] = some x0 at h0
 change DataW.trod enc Tryz.prog W 0 (fun _ => true) true n 3 (([a, b, c, e].drop 1).take (Tryz.prog.cellsOf 3)) = some x1 at h1
 rw [cel3] at h1
 change DataW.trod enc Tryz.prog W 0 (fun _ => true) true n 3 [b] = some x1 at h1
 change DataW.trod enc Tryz.prog W 0 (fun _ => true) true n 85 (([a, b, c, e].drop 2).take (Tryz.prog.cellsOf 85)) = some x2 at h2
 rw [cel85] at h2
 change DataW.trod enc Tryz.prog W 0 (fun _ => true) true n 85 [c] = some x2 at h2
 change DataW.trod enc Tryz.prog W 0 (fun _ => true) true n 25 (([a, b, c, e].drop 3).take (Tryz.prog.cellsOf 25)) = some x3 at h3
 rw [cel25] at h3
 change DataW.trod enc Tryz.prog W 0 (fun _ => true) true n 25 [e] = some x3 at h3
 obtain ⟨k0, e0, rfl, w0⟩ := DataW.trod_int und3 h0
 obtain ⟨k1, e1, rfl, w1⟩ := DataW.trod_int und3 h1
 cases e0; cases e1
 simp only [List.map_cons, List.map_nil] at hb
 have b2 : bulkD x2.1 ≤ _ := bulk_part (l := [(.lit (.int .i64 k0)), (.lit (.int .i64 k1)), x2.1, x3.1]) (by simp)
 have b3 : bulkD x3.1 ≤ _ := bulk_part (l := [(.lit (.int .i64 k0)), (.lit (.int .i64 k1)), x2.1, x3.1]) (by simp)
 obtain ⟨ms, mnl, mcap, hmr, hmo, hml, hms⟩ := row_open (f := Bg.cells) (fit := fitBg) (es := 2) (fun _ => rfl) (by decide) und85 cel145 h2 fun m hm cs y hy hby => bg_open m cs y hy (by omega)
 obtain ⟨ks, nl, cap, hr, ho, hkl, hks⟩ := row_open (f := Pf.cells) (fit := fitPf) Pf.len (by decide) und25 cel87 h3 fun m hm cs y hy hby => ih m (by omega) cs y hy (by omega)
 refine ⟨.mk k0 k1 ms mnl mcap ks nl cap, ?_, ?_, ?_⟩
 ·simp only [Pf.cells, RelL, Pf.cellsL_eq]
  exact ⟨_, _, rfl, rel_val rfl, _, _, rfl, rel_val rfl, _, _, rfl, hmr, _, _, rfl, hr, rfl⟩
 ·show (true && (true && (c.oneCell' && (e.oneCell' && true)))) = true
  rw [hmo, ho]
  rfl
 ·simp only [fitPf]
  exact ⟨wf64 w0, wf64 w1, by omega, hms, by omega, fitPfL_all hks⟩
theorem ce_open (fuel : Nat) (cs : List Value) (x : DataW H × List MemPlace) (h : DataW.trod enc Tryz.prog W 0 (fun _ => true) true fuel 27 cs = some x) (hb : bulkD x.1 ≤ 1048576) : Holds W Ce.cells fitCe cs := by
 obtain ⟨xs, n, rfl, rfl, hl, hlen, hf⟩ := DataW.trod_struct Tryz.underlying27 h
 rw [cel27] at hl
 match cs, hl with
 | [a, b, c, e], _ =>
 match xs, hlen with
 | [x0, x1, x2, x3], _ =>
 have h0 := hf 0 _ rfl
 have h1 := hf 1 _ rfl
 have h2 := hf 2 _ rfl
 have h3 := hf 3 _ rfl
 change DataW.trod enc Tryz.prog W 0 (fun _ => true) true n 9 (([a, b, c, e].drop 0).take (Tryz.prog.cellsOf 9)) = some x0 at h0
 rw [cel9] at h0
 change DataW.trod enc Tryz.prog W 0 (fun _ => true) true n 9 [a] = some x0 at h0
 change DataW.trod enc Tryz.prog W 0 (fun _ => true) true n 3 (([a, b, c, e].drop 1).take (Tryz.prog.cellsOf 3)) = some x1 at h1
 rw [cel3] at h1
 change DataW.trod enc Tryz.prog W 0 (fun _ => true) true n 3 [b] = some x1 at h1
 change DataW.trod enc Tryz.prog W 0 (fun _ => true) true n 24 (([a, b, c, e].drop 2).take (Tryz.prog.cellsOf 24)) = some x2 at h2
 rw [cel24] at h2
 change DataW.trod enc Tryz.prog W 0 (fun _ => true) true n 24 [c] = some x2 at h2
 change DataW.trod enc Tryz.prog W 0 (fun _ => true) true n 25 (([a, b, c, e].drop 3).take (Tryz.prog.cellsOf 25)) = some x3 at h3
 rw [cel25] at h3
 change DataW.trod enc Tryz.prog W 0 (fun _ => true) true n 25 [e] = some x3 at h3
 obtain ⟨s0, e0, rfl, _⟩ := DataW.trod_string und9 h0
 obtain ⟨k1, e1, rfl, w1⟩ := DataW.trod_int und3 h1
 cases e0; cases e1
 simp only [List.map_cons, List.map_nil] at hb
 have b0 : bulkD (.lit (.string s0.data.toList) : DataW H) ≤ _ := bulk_part (l := [(.lit (.string s0.data.toList)), (.lit (.int .i64 k1)), x2.1, x3.1]) (by simp)
 have b2 : bulkD x2.1 ≤ _ := bulk_part (l := [(.lit (.string s0.data.toList)), (.lit (.int .i64 k1)), x2.1, x3.1]) (by simp)
 have b3 : bulkD x3.1 ≤ _ := bulk_part (l := [(.lit (.string s0.data.toList)), (.lit (.int .i64 k1)), x2.1, x3.1]) (by simp)
 obtain ⟨ss, snl, scap, hsr, hso, hsl, hss⟩ := row_open (f := So.cells) (fit := fitSo) So.len (by decide) und24 cel82 h2 fun m hm cs y hy hby => so_open m cs y hy (by omega)
 obtain ⟨ps, pnl, pcap, hr, ho, hkl, hks⟩ := row_open (f := Pf.cells) (fit := fitPf) Pf.len (by decide) und25 cel87 h3 fun m hm cs y hy hby => pf_open m cs y hy (by omega)
 have es : s0.data.toList.length = s0.size := rfl
 refine ⟨⟨s0, k1, ss, snl, scap, ps, pnl, pcap⟩, ?_, ?_, ⟨?_, wf64 w1, ?_, hss, ?_, fitPfL_all hks⟩⟩
 ·simp only [Ce.cells, RelL]
  exact ⟨_, _, rfl, rel_val rfl, _, _, rfl, rel_val rfl, _, _, rfl, hsr, _, _, rfl, hr, rfl⟩
 ·show (true && (true && (c.oneCell' && (e.oneCell' && true)))) = true
  rw [hso, ho]
  rfl
 ·simp only [bulkD] at b0 hb
  show s0.size < _
  omega
 ·show ss.length < _
  omega
 ·show ps.length < _
  omega
end
end Go.Proofs.YtijpnlmmaoecgaaGreatDoor

namespace Go.Proofs.YtijpnlmmaoecgaaGreatDoor
open Go Go.AM
theorem calls_of {W : World} {f : Nat} {l : List AV} {h' : AH} (ev : Ev fun n => enterA E1 (exec E1 n) f l .empty = some (.val (.bool true), h')) (vals : List Value) (hl : RelL (snapW W) nof l vals) (hg : ∀ q cs, globCells q = some cs → RelC (snapW W) cs q 0) :
  CallsIn Fence.wide 0 Tryz.prog f vals.toArray W fun e w' => e = .returned (.bool true) ∧ Go.RowKit.Below W.heap.size W w' := by
 obtain ⟨n, hn⟩ := ev.one
 refine CallsIn.mono (pure_sound (enter_all e1_ok n) hn (t := .val (.bool true)) rfl (S2 := snapW W) (fun _ _ _ h => h) hg hl) fun e w' he => ?_
 obtain ⟨x, rfl, S3, hr, hbl, _⟩ := he
 rw [Rel] at hr
 rw [hr.1]
 exact ⟨rfl, hbl⟩
end Go.Proofs.YtijpnlmmaoecgaaGreatDoor
