/- A part of the machine on which the law's proof rests. -/
import Derived.Test.YteabadoaeadcgaaDoorXpA7
namespace Go.Proofs.YteabadoaeadcgaaDoor.AM
open Go Go.RowKit
set_option linter.unusedVariables false
set_option linter.unusedSimpArgs false
section
variable {P : Program}
structure PermG (π : List Nat) (ops : Array Oper) : Prop where
 len : π.length = ops.size
 nd : π.Nodup
 lt : ∀ k ∈ π,k < ops.size
 all : ∀ k,k < ops.size → k ∈ π
 on : ∀ o ∈ ops,∀ e ∈ o.after,e.on < ops.size
 gd : ∀ o ∈ ops,∀ g,o.guard = some g → g.1 < ops.size
 dep : Region.departs (permOps π ops) = Region.departs ops
theorem permOk_get {π : List Nat} {ops : Array Oper} (h : permOk π ops = true) : PermG π ops := by
 simp only [permOk,Bool.and_eq_true,decide_eq_true_eq,List.all_eq_true,beq_iff_eq] at h
 obtain ⟨⟨⟨⟨⟨h1,h2⟩,h3⟩,h4⟩,h5⟩,h6⟩ := h
 refine ⟨h1,h2,fun k hk => h3 k hk,fun k hk => by simpa using h4 k (List.mem_range.2 hk),fun o ho e he => (h5 o (Array.mem_toList_iff.2 ho)).1 e (Array.mem_toList_iff.2 he),fun o ho g hg => ?_,h6⟩
 have := (h5 o (Array.mem_toList_iff.2 ho)).2
 rw [hg] at this
 simpa using this
theorem perm_size {π : List Nat} {ops : Array Oper} : (permOps π ops).size = π.length := by simp [permOps]
theorem perm_get {π : List Nat} {ops : Array Oper} (hg : PermG π ops) {k : Nat} (hk : k < π.length) : ∃ o,ops[π[k]]? = some o ∧ (permOps π ops)[k]? = some (renOp π o) := by
 have hlt := hg.lt π[k] (List.getElem_mem hk)
 refine ⟨ops[π[k]],Array.getElem?_eq_getElem hlt,?_⟩
 simp [permOps,hk,Array.getD_eq_getD_getElem?,hlt]
theorem perm_at {π : List Nat} {ops : Array Oper} (hg : PermG π ops) {x : Nat} (hx : x < ops.size) : π.idxOf x < π.length ∧ π[π.idxOf x]? = some x := by
 have hm := hg.all x hx
 have hlt : π.idxOf x < π.length := List.idxOf_lt_length_of_mem hm
 exact ⟨hlt,by rw [List.getElem?_eq_getElem hlt]; simp⟩
theorem perm_yielded {π : List Nat} {ops : Array Oper} (hg : PermG π ops) {x : Nat} (hx : x < ops.size) (tm : Array Value) : yielded (permOps π ops) tm (π.idxOf x) = yielded ops tm x := by
 obtain ⟨h1,h2⟩ := perm_at hg hx
 obtain ⟨o,h3,h4⟩ := perm_get hg h1
 have h5 : π[π.idxOf x] = x := by rw [List.getElem?_eq_getElem h1] at h2; injection h2
 rw [h5] at h3
 unfold yielded
 rw [h4,h3]
 rfl
theorem perm_wanted {π : List Nat} {ops : Array Oper} (hg : PermG π ops) {o : Oper} (ho : o ∈ ops) (tm : Array Value) : Region.wanted (renOp π o) (yielded (permOps π ops) tm) = Region.wanted o (yielded ops tm) := by
 unfold Region.wanted renOp
 cases hgd : o.guard with
 | none => rfl
 | some g =>
  obtain ⟨j,b⟩ := g
  have := perm_yielded hg (hg.gd o ho _ hgd) tm
  simp only [Option.map_some] at this ⊢
  rw [this]
theorem wpOp_perm {π : List Nat} {ops : Array Oper} (hg : PermG π ops) {Q : Exit → Act → World → Prop} {k : Nat} (hk : k < π.length) {K : Act → World → Prop} {a : Act} {w : World} (h : wpOp P (permOps π ops) Q k K a w) : wpOp P ops Q π[k] K a w := by
 obtain ⟨o,h1,h2⟩ := perm_get hg hk
 unfold wpOp at h ⊢
 rw [h2] at h
 rw [h1]
 simp only at h ⊢
 rw [perm_wanted hg (Array.mem_of_getElem? h1)] at h
 exact h
def LSame (π : List Nat) (l' l : Array Bool) : Prop := l'.size = π.length ∧ l.size = π.length ∧ ∀ k (hk : k < π.length),l'.getD k true = l.getD π[k] true
theorem ready_perm {md : Region.Mode} {π : List Nat} {ops : Array Oper} (hg : PermG π ops) {l' l : Array Bool} (hl : LSame π l' l) {k : Nat} (hk : k < π.length) : k ∈ Region.ready md (permOps π ops) l' ↔ π[k] ∈ Region.ready md ops l := by
 obtain ⟨o,h1,h2⟩ := perm_get hg hk
 have hget : ∀ x,x < ops.size → l'.getD (π.idxOf x) false = l.getD x false := fun x hx => by
  obtain ⟨h3,h4⟩ := perm_at hg hx
  have h5 : π[π.idxOf x] = x := by rw [List.getElem?_eq_getElem h3] at h4; injection h4
  have := hl.2.2 _ h3
  rw [h5] at this
  have hx2 : x < l.size := by rw [hl.2.1,hg.len]; exact hx
  have hx3 : π.idxOf x < l'.size := by rw [hl.1]; exact h3
  simpa [Array.getD_eq_getD_getElem?,hx2,hx3] using this
 rw [mem_ready,mem_ready,hl.2.2 k hk,h1,h2]
 refine and_congr Iff.rfl ⟨?_,?_⟩
 ·rintro ⟨u,hu,h⟩
  injection hu with hu
  subst hu
  refine ⟨o,rfl,fun e he hb => ?_⟩
  have := h { e with on := π.idxOf e.on } (by simp only [renOp,Array.mem_map]; exact ⟨e,he,rfl⟩) hb
  rw [← hget e.on (hg.on o (Array.mem_of_getElem? h1) e he)]
  exact this
 ·rintro ⟨u,hu,h⟩
  injection hu with hu
  subst hu
  refine ⟨_,rfl,fun e he hb => ?_⟩
  simp only [renOp,Array.mem_map] at he
  obtain ⟨e0,he0,rfl⟩ := he
  simp only
  rw [hget e0.on (hg.on o (Array.mem_of_getElem? h1) e0 he0)]
  exact h e0 he0 hb
theorem LSame.set {π : List Nat} {l' l : Array Bool} (h : LSame π l' l) (hnd : π.Nodup) {k : Nat} (hk : k < π.length) (hlt : π[k] < l.size) : LSame π (l'.setIfInBounds k true) (l.setIfInBounds π[k] true) := by
 refine ⟨by simpa using h.1,by simpa using h.2.1,fun j hj => ?_⟩
 by_cases hjk : j = k
 ·subst hjk
  have h1 : j < l'.size := by rw [h.1]; exact hj
  simp [Array.getD_eq_getD_getElem?,h1,hlt]
 ·have hne : π[k] ≠ π[j] := fun he => hjk ((List.getElem_inj hnd).1 he.symm)
  rw [getD_set_ne true (Ne.symm hjk),getD_set_ne true hne]
  exact h.2.2 j hj
theorem ready_lt {md : Region.Mode} {ops : Array Oper} {l : Array Bool} {k : Nat} (h : k ∈ Region.ready md ops l) : k < ops.size := by
 obtain ⟨_,o,ho,_⟩ := mem_ready.1 h
 exact (Array.getElem?_eq_some_iff.1 ho).1
theorem ready_nil {md : Region.Mode} {π : List Nat} {ops : Array Oper} (hg : PermG π ops) {l' l : Array Bool} (hl : LSame π l' l) (h : Region.ready md ops l = []) : Region.ready md (permOps π ops) l' = [] := by
 refine List.eq_nil_iff_forall_not_mem.2 fun k hk => ?_
 have hlt := ready_lt hk
 rw [perm_size] at hlt
 have := (ready_perm hg hl hlt).1 hk
 rw [h] at this
 cases this
theorem ready_nil' {md : Region.Mode} {π : List Nat} {ops : Array Oper} (hg : PermG π ops) {l' l : Array Bool} (hl : LSame π l' l) (h : Region.ready md (permOps π ops) l' = []) : Region.ready md ops l = [] := by
 refine List.eq_nil_iff_forall_not_mem.2 fun x hx => ?_
 have hlt := ready_lt hx
 obtain ⟨h1,h2⟩ := perm_at hg hlt
 have h5 : π[π.idxOf x] = x := by rw [List.getElem?_eq_getElem h1] at h2; injection h2
 have := (ready_perm (md := md) hg hl h1).2 (by rw [h5]; exact hx)
 rw [h] at this
 cases this
theorem wpAny_perm {md : Region.Mode} {π : List Nat} {ops : Array Oper} (hg : PermG π ops) {Q : Exit → Act → World → Prop} : ∀ (fuel : Nat) (l' l : Array Bool) (a : Act) (w : World),LSame π l' l → wpAny P md (permOps π ops) Q fuel l' a w → wpAny P md ops Q fuel l a w := by
 intro fuel
 induction fuel with
 | zero => intro l' l a w hl h; exact ⟨ready_nil' hg hl h.1,h.2⟩
 | succ fuel ih =>
  intro l' l a w hl h
  refine ⟨fun hn => h.1 (ready_nil hg hl hn),fun x hx => ?_⟩
  have hlt := ready_lt hx
  obtain ⟨h1,h2⟩ := perm_at hg hlt
  have h5 : π[π.idxOf x] = x := by rw [List.getElem?_eq_getElem h1] at h2; injection h2
  have hr := (ready_perm (md := md) hg hl h1).2 (by rw [h5]; exact hx)
  have hk := wpOp_perm hg h1 (h.2 _ hr)
  rw [h5] at hk
  refine wpOp_mono (fun a w hh => ih _ _ a w ?_ hh) hk
  have := hl.set hg.nd h1 (by rw [hl.2.1,hg.len]; exact hg.lt _ (List.getElem_mem h1))
  rw [h5] at this
  exact this
theorem LSame.start {π : List Nat} {n : Nat} (h : π.length = n) (hl : ∀ k ∈ π,k < n) : LSame π (Array.replicate n false) (Array.replicate n false) := by
 refine ⟨by simp [h],by simp [h],fun k hk => ?_⟩
 have h2 := hl _ (List.getElem_mem hk)
 have h1 : k < n := by omega
 simp [Array.getD_eq_getD_getElem?,h1,h2]
end
end Go.Proofs.YteabadoaeadcgaaDoor.AM
