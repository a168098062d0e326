/- TDocG TDocH -/
import Derived.Test.YtkmoeaplhnabcaaGreatDoorN4
import Derived.Test.YtkmoeaplhnabcaaGreatDoorH2

set_option linter.all false
open List renaming mem_cons → i8, mem_cons_of_mem → j0
namespace Go.Proofs.YtkmoeaplhnabcaaGreatDoor
open Go Go.AM
set_option maxHeartbeats 4000000
variable [KR]
theorem ReachC.len'{m:Md}{x:ByteArray}{L:List ByteArray}(r:ReachC m x L):L.length≤m.ds.l.length:=by
 have h:=bD r.srt.nodup fun z hz=>by
  have h:=(r.mem z).1 hz;have:kn m z=true:=by
   rw[←show Rch (calB m) x z↔Rch (sucC m) x z from Ed] at h;cases h with
   |one h=>exact wQ h
   |step _ h=>exact wQ h
  exact fX this
 rwa [nmM,List.length_map] at h
noncomputable def blk (m:Md) (g P:List ByteArray) (d:Df):Bool:=(!memS d.nm P&& !memS d.nm g)&&rchB m g (grp m d.nm)&& !rchB m (grp m d.nm) g
structure TwoG (h:AH) (m:Md) (v u:AV) (out:List (List ByteArray)) (P:List ByteArray):Prop where
 g0:h.get 0=some (.cells m.cells true)
 l1:1≤h.next
 rv:RowC h 1 out.length 1 v (out.flatMap gA)
 ru:RowC h 1 P.length 1 u (P.flatMap strA)
 dj:∀y∈ids v,y∉ids u
theorem y8{m:Md}{d:Df}:inG m d.nm d=true:=by rw[inG,bA,Bool.true_or]
theorem gO{m:Md}{x z:ByteArray}:∀{l:List Df},z∈grpD m x l↔∃d∈l,d.nm=z∧inG m x d=true
 | []=>by simp[grpD]
 |d::r=>by
  rw[grpD];cases q:inG m x d with
  |true=>
   rw[cond_true,i8,gO];constructor
   ·rintro(rfl|⟨e,h1,h2,h3⟩)
    ·exact⟨d,List.mem_cons_self,rfl,q⟩
    ·exact⟨e,j0 _ h1,h2,h3⟩
   ·rintro⟨e,h1,h2,h3⟩;rcases i8.1 h1 with rfl|h1
    ·exact .inl h2.symm
    ·exact .inr ⟨e,h1,h2,h3⟩
  |false=>
   rw[cond_false,gO];constructor
   ·rintro⟨e,h1,h2,h3⟩;exact⟨e,j0 _ h1,h2,h3⟩
   ·rintro⟨e,h1,h2,h3⟩;rcases i8.1 h1 with rfl|h1
    ·rw[q] at h3;cases h3
    ·exact⟨e,h1,h2,h3⟩
end Go.Proofs.YtkmoeaplhnabcaaGreatDoor
