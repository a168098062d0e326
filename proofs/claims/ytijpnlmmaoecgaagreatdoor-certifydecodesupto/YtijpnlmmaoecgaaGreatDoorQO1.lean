/- A part of the proofs about certificates: YOpen YCalls. -/
import Derived.Test.YtijpnlmmaoecgaaGreatDoorQM3
import Derived.Test.YtijpnlmmaoecgaaGreatDoorQP1
import Derived.Test.YtijpnlmmaoecgaaGreatDoorQA1
import Derived.Test.YtijpnlmmaoecgaaGreatDoorQL1
import Derived.Test.YtijpnlmmaoecgaaGreatDoorProg
import Derived.KernelRfl
import Derived.ProofKit
import Derived.ChangeArms
import Derived.ReadAgain

set_option linter.all false

namespace Go.Proofs.YtijpnlmmaoecgaaGreatDoor
open Go Go.AM Go.WideShapes
set_option maxRecDepth 10000
mutual
def bulkD {H : Type} : DataW H → Nat
 | .lit (.string bytes) => bytes.length + 1
 | .lit _ => 1
 | .nil => 1
 | .ptr d => bulkD d + 1
 | .slice elems spare => bulkL elems + bulkL spare + 1
 | .agg parts => bulkL parts + 1
 | .iface _ d => bulkD d + 1
 | .map _ => 1
 | .held _ => 1
def bulkL {H : Type} : List (DataW H) → Nat
 | [] => 0
 | d :: r => bulkD d + bulkL r
end
def snapW (W : World) : Snap := fun b o => W.cell? ⟨b, o, none⟩
theorem relC_append {S : Snap} : ∀ {xs ys : List AV} {b off : Nat}, RelC S xs b off → RelC S ys b (off + xs.length) → RelC S (xs ++ ys) b off
 | [], ys, b, off, _, k => by simpa only [List.nil_append, List.length_nil, Nat.add_zero] using k
 | x :: xs, ys, b, off, h, k => by
  simp only [RelC] at h
  simp only [List.cons_append, RelC]
  exact ⟨h.1, relC_append h.2 (by rw [List.length_cons] at k; rw [show off + 1 + xs.length = off + (xs.length + 1) by omega]; exact k)⟩
theorem relC_of {S : Snap} {b : Nat} : ∀ {cs : List AV} {vs : List Value} {off : Nat}, RelL S nof cs vs → vs.all (·.oneCell') = true → (∀ i v, vs[i]? = some v → S b (off + i) = some v) → RelC S cs b off
 | [], _, _, _, _, _ => by simp only [RelC]
 | c :: cs, vs, off, h, ho, k => by
  simp only [RelL] at h
  obtain ⟨y, ys, rfl, h1, h2⟩ := h
  simp only [List.all_cons, Bool.and_eq_true] at ho
  simp only [RelC]
  refine ⟨⟨y, k 0 y rfl, ho.1, h1⟩, relC_of h2 ho.2 fun i v hv => ?_⟩
  have := k (i + 1) v hv
  rw [show off + 1 + i = off + (i + 1) by omega]
  exact this
theorem rel_val {S : Snap} {f : Emb} {v : Value} (ho : v.oneCell' = true) : Rel S f (.val v) v := by
 rw [Rel]
 exact ⟨rfl, ho⟩
theorem relL_len {S : Snap} {f : Emb} : ∀ {cs : List AV} {vs : List Value}, RelL S f cs vs → vs.length = cs.length
 | [], vs, h => by
  simp only [RelL] at h
  rw [h]
  rfl
 | c :: cs, vs, h => by
  simp only [RelL] at h
  obtain ⟨y, ys, rfl, _, h2⟩ := h
  simp only [List.length_cons, relL_len h2]
theorem bulkD_pos {H : Type} : ∀ d : DataW H, 1 ≤ bulkD d
 | .lit l => by cases l <;> simp only [bulkD] <;> omega
 | .nil => by simp only [bulkD]; omega
 | .ptr d => by simp only [bulkD]; omega
 | .slice _ _ => by simp only [bulkD]; omega
 | .agg _ => by simp only [bulkD]; omega
 | .iface _ _ => by simp only [bulkD]; omega
 | .map _ => by simp only [bulkD]; omega
 | .held _ => by simp only [bulkD]; omega
theorem bulkL_len {H : Type} : ∀ l : List (DataW H), l.length ≤ bulkL l
 | [] => Nat.le_refl _
 | d :: r => by
  have := bulkL_len r
  have := bulkD_pos d
  simp only [List.length_cons, bulkL]
  omega
theorem bulkL_mem {H : Type} : ∀ {l : List (DataW H)} {d : DataW H}, d ∈ l → bulkD d ≤ bulkL l
 | a :: r, d, h => by
  simp only [bulkL]
  rcases List.mem_cons.1 h with rfl | h
  ·omega
  ·have := bulkL_mem h
   omega
section
variable {H : Type} {enc : TypeId × Value → H} {W : World}
def Holds {α : Type} (W : World) (f : α → List AV) (fit : α → Prop) (cs : List Value) : Prop := ∃ a : α, RelL (snapW W) nof (f a) cs ∧ cs.all (·.oneCell') = true ∧ fit a
theorem row_cells {α : Type} {f : α → List AV} {fit : α → Prop} {es b off : Nat} (hf : ∀ a, (f a).length = es) : ∀ (n j : Nat), (∀ i, i < n → ∃ cs, W.cells? 0 ((⟨b, off, none⟩ : Addr).add ((j + i) * es)) es = some cs ∧ Holds W f fit cs) →
  ∃ l : List α, l.length = n ∧ RelC (snapW W) (l.flatMap f) b (off + j * es) ∧ ∀ a ∈ l, fit a
 | 0, j, _ => ⟨[], rfl, by simp only [List.flatMap_nil, RelC], fun a ha => by cases ha⟩
 | n + 1, j, h => by
  obtain ⟨cs, hc, a, hp, ho, hn⟩ := h 0 (by omega)
  obtain ⟨l, h1, h2, h3⟩ := row_cells hf n (j + 1) fun i hi => by
   have := h (i + 1) (by omega)
   rw [show j + 1 + i = j + (i + 1) by omega]
   exact this
  obtain ⟨_, hl, hcell⟩ := World.cells?_some hc
  have hl' : cs.length = es := by rw [relL_len hp, hf]
  refine ⟨a :: l, by simp only [List.length_cons, h1], ?_, ?_⟩
  ·simp only [List.flatMap_cons]
   refine relC_append (relC_of hp ho fun i v hv => ?_) ?_
   ·have hi : i < es := by
     rcases Nat.lt_or_ge i cs.length with x | x
     ·omega
     ·rw [List.getElem?_eq_none x] at hv; cases hv
    have := hcell i hi
    rw [hv, add_plain, add_plain] at this
    simpa only [snapW, Nat.add_zero] using this
   ·rw [hf, show off + j * es + es = off + (j + 1) * es by rw [Nat.add_mul]; omega]
    exact h2
  ·intro x hx
   rcases List.mem_cons.1 hx with rfl | hx
   ·exact hn
   ·exact h3 x hx
theorem row_open {α : Type} {f : α → List AV} {fit : α → Prop} {es n : Nat} {t e : TypeId} {v : Value} {x : DataW H × List MemPlace} (hf : ∀ a, (f a).length = es) (hes : 0 < es) (hu : Tryz.prog.underlying t = some (.slice e)) (hc : Tryz.prog.cellsOf e = es)
  (h : DataW.trod enc Tryz.prog W 0 (fun _ => true) true n t [v] = some x) (ih : ∀ m, m < n → ∀ cs y, DataW.trod enc Tryz.prog W 0 (fun _ => true) true m e cs = some y → bulkD y.1 ≤ bulkD x.1 → Holds W f fit cs) :
  ∃ (l : List α) (nl : Option (Option Addr × Nat)) (cap : Option Nat), Rel (snapW W) nof (kidsA (l.flatMap f) l.length nl cap) v ∧ v.oneCell' = true ∧ l.length ≤ bulkD x.1 ∧ ∀ a ∈ l, fit a := by
 rcases DataW.trod_slice hu h with ⟨e3, rfl⟩ | ⟨a, len, cap, elems, rest, m, rfl, e3, rfl, _, hlc, _, hel, hget, _⟩
 ·cases e3
  exact ⟨[], some (none, 0), none, rel_val rfl, rfl, Nat.zero_le _, fun a ha => by cases ha⟩
 ·cases e3
  cases len with
  | zero => exact ⟨[], some (some a, cap), none, rel_val rfl, rfl, Nat.zero_le _, fun a ha => by cases ha⟩
  | succ len =>
   have hall : ∀ i, i < len + 1 → ∃ cs y, W.cells? 0 (a.add (i * es)) es = some cs ∧ DataW.trod enc Tryz.prog W 0 (fun _ => true) true m e cs = some y ∧ y ∈ elems := fun i hi => by
    have hg := hget i hi
    rw [hc] at hg
    have hi' : i < elems.length := by omega
    rw [List.getElem?_eq_getElem hi'] at hg
    obtain ⟨cs, q1, q2⟩ := Option.bind_eq_some_iff.1 hg
    exact ⟨cs, _, q1, q2, List.getElem_mem hi'⟩
   obtain ⟨b, off, spot⟩ := a
   have hspot : spot = none := by
    obtain ⟨cs, y, q1, _⟩ := hall 0 (by omega)
    obtain ⟨_, hl, hcell⟩ := World.cells?_some q1
    have := hcell 0 hes
    match cs, hl with
    | [], hl => simp only [List.length_nil] at hl; omega
    | c0 :: _, _ =>
     have hs := World.cell?_spot this
     simpa [Addr.add] using hs
   subst hspot
   have hbx : ∀ y ∈ elems, bulkD y.1 ≤ bulkD (DataW.slice (elems.map (·.1)) (rest.map (·.1))) := fun y hy => by
    have := bulkL_mem (List.mem_map_of_mem (f := (·.1)) hy)
    simp only [bulkD]
    omega
   obtain ⟨l, g1, g2, g3⟩ := row_cells (W := W) (b := b) (off := off) hf (len + 1) 0 fun i hi => by
    obtain ⟨cs, y, q1, q2, q3⟩ := hall i hi
    rw [Nat.zero_add]
    exact ⟨cs, q1, ih m (by omega) cs y q2 (hbx y q3)⟩
   refine ⟨l, none, none, ?_, rfl, ?_, g3⟩
   ·simp only [kidsA, Option.isSome_none, Bool.false_and, cond_false, Rel]
    refine ⟨b, off, cap, ?_, by omega, fun k hk => (by cases hk), ?_⟩
    ·rw [g1]
    ·simpa only [Nat.zero_mul, Nat.add_zero] using g2
   ·have := bulkL_len (elems.map (·.1))
    rw [List.length_map] at this
    simp only [bulkD]
    omega
theorem cel5 : Tryz.prog.cellsOf 5 = 1 := by kernel_rfl
theorem und22 : Tryz.prog.underlying 22 = some (.slice 5) := by kernel_rfl
theorem und5 : Tryz.prog.underlying 5 = some (.int .u8) := by kernel_rfl
theorem byteD_of {n : Int} (h : (Lit.int .u8 n).wf = true) : ∃ b : UInt8, n = (b.toNat : Nat) := by
 simp only [Lit.wf, Bool.and_eq_true, decide_eq_true_eq] at h
 have h1 : IntKind.u8.min = 0 := by rfl
 have h2 : IntKind.u8.max = 255 := by rfl
 rw [h1, h2] at h
 refine ⟨UInt8.ofNat n.toNat, ?_⟩
 have : (UInt8.ofNat n.toNat).toNat = n.toNat := by
  rw [UInt8.toNat_ofNat']
  omega
 rw [this]
 omega
theorem byte_open (fuel : Nat) (cs : List Value) (x : DataW H × List MemPlace) (h : DataW.trod enc Tryz.prog W 0 (fun _ => true) true fuel 5 cs = some x) : Holds W (fun b : UInt8 => [AV.val (.int .u8 (b.toNat : Nat))]) (fun _ => True) cs := by
 obtain ⟨k, rfl, rfl, w⟩ := DataW.trod_int und5 h
 obtain ⟨b, rfl⟩ := byteD_of w
 refine ⟨b, ?_, rfl, trivial⟩
 simp only [RelL]
 exact ⟨_, _, rfl, rel_val rfl, rfl⟩
theorem bytes_open (fuel : Nat) (v : Value) (x : DataW H × List MemPlace) (h : DataW.trod enc Tryz.prog W 0 (fun _ => true) true fuel 22 [v] = some x) : ∃ (l : List UInt8) (nl : Option (Option Addr × Nat)) (cap : Option Nat), Rel (snapW W) nof (kidsA (bytesA l) l.length nl cap) v ∧ v.oneCell' = true := by
 obtain ⟨l, nl, cap, hr, ho, _, _⟩ := row_open (f := fun b : UInt8 => [AV.val (.int .u8 (b.toNat : Nat))]) (fit := fun _ => True) (es := 1) (fun _ => rfl) (by decide) und22 cel5 h fun m hm cs y hy hby => byte_open m cs y hy
 exact ⟨l, nl, cap, hr, ho⟩
end
end Go.Proofs.YtijpnlmmaoecgaaGreatDoor

namespace Go.Proofs.YtijpnlmmaoecgaaGreatDoor
open Go Go.AM
theorem calls_of {W : World} {f : Nat} {l : List AV} {h' : AH} (ev : Ev fun n => enterA E1 (exec E1 n) f l .empty = some (.val (.bool true), h')) (vals : List Value) (hl : RelL (snapW W) nof l vals) (hg : ∀ q cs, globCells q = some cs → RelC (snapW W) cs q 0) :
  CallsIn Fence.wide 0 Tryz.prog f vals.toArray W fun e w' => e = .returned (.bool true) ∧ Go.RowKit.Below W.heap.size W w' := by
 obtain ⟨n, hn⟩ := ev.one
 refine CallsIn.mono (pure_sound (enter_all e1_ok n) hn (t := .val (.bool true)) rfl (S2 := snapW W) (fun _ _ _ h => h) hg hl) fun e w' he => ?_
 obtain ⟨x, rfl, S3, hr, hbl, _⟩ := he
 rw [Rel] at hr
 rw [hr.1]
 exact ⟨rfl, hbl⟩
end Go.Proofs.YtijpnlmmaoecgaaGreatDoor
