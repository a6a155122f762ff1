/- A part of the machine on which the law's proof rests. -/
import Derived.Test.YteabadoaeadcgaaDoorXpA4
import Derived.Laws.IdiomStrings
namespace Go.Proofs.YteabadoaeadcgaaDoor.AM
open Go Go.RowKit
set_option linter.unusedVariables false
set_option linter.unusedSimpArgs false
section
variable {P : Program} {w : World}
theorem VR0_one {κ : Inj} {x y : Value} (h : VR0 κ x y) : y.oneCell' = true := by
 unfold VR0 at h
 split at h
 ·subst h; rfl
 ·subst h; rfl
 ·subst h; rfl
 ·subst h; rfl
 ·obtain ⟨_,rfl⟩ := h; rfl
 ·obtain ⟨q,c,rfl,_⟩ := h; rfl
 ·subst h; rfl
 ·obtain ⟨_,_,rfl⟩ := h; rfl
 ·exact h.elim
def spA (c : Array Value) (off : Nat) : List Value → Array Value
 | [] => c
 | v :: vs => spA (c.setIfInBounds off v) (off + 1) vs
theorem spA_size : ∀ (vs : List Value) (c : Array Value) (off : Nat),(spA c off vs).size = c.size
 | [],_,_ => rfl
 | v :: vs,c,off => by rw [spA,spA_size vs]; simp
theorem setCell_at {g j : Nat} {c : Array Value} {e : TypeId} {fr : Nat × Nat} (h : w.heap[g]? = some (.cells c e fr)) (v : Value) : (w.setCell ⟨g,j,none⟩ v).heap[g]? = some (.cells (c.setIfInBounds j v) e fr) := by
 simp only [World.setCell,Array.getElem?_modify,if_true,h]
 rfl
theorem setCells_at (g : Nat) {e : TypeId} {fr : Nat × Nat} : ∀ (vs : List Value) (o : Nat) (c : Array Value) (w : World),w.heap[g]? = some (.cells c e fr) →
  (w.setCells g o vs).heap[g]? = some (.cells (spA c o vs) e fr) ∧ (∀ k,k ≠ g → (w.setCells g o vs).heap[k]? = w.heap[k]?) ∧ (w.setCells g o vs).os = w.os ∧ (w.setCells g o vs).tape = w.tape ∧ (w.setCells g o vs).output = w.output ∧ (w.setCells g o vs).heap.size = w.heap.size
 | [],_,_,_,h => ⟨h,fun _ _ => rfl,rfl,rfl,rfl,rfl⟩
 | v :: vs,o,c,w,h => by
  obtain ⟨h1,h2,h3,h4,h5,h6⟩ := setCells_at g vs (o + 1) _ (w.setCell ⟨g,o,none⟩ v) (setCell_at h v)
  refine ⟨h1,fun k hk => (h2 k hk).trans (Below.heap_setCell w _ _ _ hk),h3,h4,h5,h6.trans ?_⟩
  simp [World.setCell]
def PreL (κ : Inj) (xs : List Value) (c : Array Value) : Prop := xs.length ≤ c.size ∧ ∀ (i : Nat) (x : Value),xs[i]? = some x → ∃ y : Value,c[i]? = some y ∧ VR0 κ x y
theorem PreL.set {κ : Inj} {xs : List Value} {ys : Array Value} (h : PreL κ xs ys) (i : Nat) {x y : Value} (hv : VR0 κ x y) : PreL κ (xs.set i x) (ys.setIfInBounds i y) := by
 refine ⟨by simpa using h.1,fun j u hu => ?_⟩
 by_cases hj : i = j
 ·subst hj
  have hlt : i < xs.length := by
   have := (List.getElem?_eq_some_iff.1 hu).1
   simpa using this
  rw [List.getElem?_set_self hlt] at hu
  injection hu with hu
  subst hu
  exact ⟨y,by rw [Array.getElem?_setIfInBounds_self_of_lt (by have := h.1; omega)],hv⟩
 ·rw [List.getElem?_set_ne hj] at hu
  obtain ⟨v,hv1,hv2⟩ := h.2 j u hu
  exact ⟨v,by rw [Array.getElem?_setIfInBounds_ne hj]; exact hv1,hv2⟩
theorem PreL.splice {κ : Inj} : ∀ (vs ws : List Value) (off : Nat) (xs : List Value) (ys : Array Value),PreL κ xs ys → ws.length = vs.length → (∀ (i : Nat) (x : Value),vs[i]? = some x → ∃ y : Value,ws[i]? = some y ∧ VR0 κ x y) →
  PreL κ (splice xs off vs) (spA ys off ws) := by
 intro vs
 induction vs with
 | nil =>
  intro ws off xs ys h hl _
  obtain rfl := List.eq_nil_of_length_eq_zero (by simpa using hl)
  exact h
 | cons v vs ih =>
  intro ws off xs ys h hl hr
  match ws,hl with
  | y :: ws,hl =>
   obtain ⟨y',hy,hv⟩ := hr 0 _ rfl
   simp only [List.getElem?_cons_zero,Option.some.injEq] at hy
   subst hy
   exact ih ws (off + 1) _ _ (h.set off hv) (by simpa using hl) (fun i x hx => by simpa using hr (i + 1) x (by simpa using hx))
theorem splice_length : ∀ (vs xs : List Value) (off : Nat),(splice xs off vs).length = xs.length
 | [],_,_ => rfl
 | v :: vs,xs,off => by rw [splice,splice_length vs]; simp
theorem PreL.append {κ : Inj} : ∀ (vs ws : List Value) (xs : List Value) (ys : Array Value),PreL κ xs ys → xs.length + vs.length ≤ ys.size → ws.length = vs.length → (∀ (i : Nat) (x : Value),vs[i]? = some x → ∃ y : Value,ws[i]? = some y ∧ VR0 κ x y) →
  PreL κ (xs ++ vs) (spA ys xs.length ws) := by
 intro vs
 induction vs with
 | nil =>
  intro ws xs ys h _ hl _
  obtain rfl := List.eq_nil_of_length_eq_zero (by simpa using hl)
  simpa [spA] using h
 | cons v vs ih =>
  intro ws xs ys h hs hl hr
  match ws,hl with
  | y :: ws,hl =>
   obtain ⟨y',hy,hv⟩ := hr 0 _ rfl
   simp only [List.getElem?_cons_zero,Option.some.injEq] at hy
   subst hy
   simp only [List.length_cons] at hs
   have h1 : PreL κ (xs ++ [v]) (ys.setIfInBounds xs.length y) := by
    refine ⟨by simp; omega,fun j u hu => ?_⟩
    rcases Nat.lt_or_ge j xs.length with hj | hj
    ·rw [List.getElem?_append_left hj] at hu
     obtain ⟨q,hq1,hq2⟩ := h.2 j u hu
     exact ⟨q,by rw [Array.getElem?_setIfInBounds_ne (by omega)]; exact hq1,hq2⟩
    ·rw [List.getElem?_append_right hj] at hu
     have : j - xs.length = 0 := by
      rcases Nat.eq_zero_or_pos (j - xs.length) with h0 | h0
      ·exact h0
      ·rw [List.getElem?_eq_none (by simp; omega)] at hu; cases hu
     rw [this] at hu
     simp only [List.getElem?_cons_zero,Option.some.injEq] at hu
     subst hu
     have hj' : j = xs.length := by omega
     subst hj'
     exact ⟨y,by rw [Array.getElem?_setIfInBounds_self_of_lt (by omega)],hv⟩
   have := ih ws (xs ++ [v]) (ys.setIfInBounds xs.length y) h1 (by simp; omega) (by simpa using hl) (fun i x hx => by simpa using hr (i + 1) x (by simpa using hx))
   simpa [spA] using this
theorem PreL.of {ι : Inj} {a : Nat} {b : Blk} {c : Array Value} {e : TypeId} {fr : Nat × Nat} (h : HK ι w a b) (hz : (ι.h a).2 = 0) (hc : w.heap[(ι.h a).1]? = some (.cells c e fr)) (hl : b.cells.length ≤ c.size) : PreL ι.base b.cells c := by
 refine ⟨hl,fun i x hx => ?_⟩
 obtain ⟨y,hy,hv⟩ := h.1 i x hx
 rw [hz,Nat.zero_add,cell_of hc] at hy
 exact ⟨y,hy,hv⟩
theorem run_storeRow {g o : Nat} {c : Array Value} {e : TypeId} {fr : Nat × Nat} (h : w.heap[g]? = some (.cells c e fr)) (hf : ∀ j,j < c.size → ¬ (fr.1 ≤ j ∧ j < fr.2)) {vs : List Value} (hl : o + vs.length ≤ c.size) (h1 : ∀ v ∈ vs,v.oneCell' = true) :
  (storeCells ⟨g,o,none⟩ vs).run P w = .ok () (w.setCells g o vs) := by
 have := run_storeCells_cells (P := P) g o vs 0 w (fun j hj => ?_) (fun j hj => ?_) h1
 ·simpa using this
 ·rw [cell_of h]
  simp only [Nat.add_zero]
  rw [Array.getElem?_eq_getElem (by omega)]
  rfl
 ·simp only [World.frozen?,h,Nat.add_zero]
  have := hf (o + j) (by omega)
  simp only [Bool.and_eq_false_iff,decide_eq_false_iff_not]
  omega
theorem astore_sound {ι : Inj} {lo lo' : Lo} {st st' : St} (h : Rel ι lo st w) {t : TypeId} {x v u cx cv : Value} (hs : astore P t x v lo st = some (u,lo',st')) (hx : VR ι x cx) (hv : VR ι.base v cv) :
  ∃ w',(Instr.storeAt t cx cv).run P w = .ok () w' ∧ Goes ι lo st w ι lo' st' w' ∧ u = undef := by
 unfold astore at hs
 split at hs
 ·rename_i p
  obtain ⟨hok,rfl⟩ := VR_pointer.1 hx
  split at hs
  ·rename_i hc
   have hcr := cells_rel hv hc.2
   have hone : ∀ y ∈ cv.cells.toList,y.oneCell' = true := by
    intro y hy
    obtain ⟨i,hi,rfl⟩ := List.getElem_of_mem hy
    have hi' : i < v.cells.toList.length := by rw [← hcr.1]; simpa using hi
    obtain ⟨z,hz,hz2⟩ := hcr.2 i _ (List.getElem?_eq_getElem hi')
    have : z = cv.cells.toList[i] := by
     rw [Array.getElem?_eq_getElem (by simpa using hi)] at hz
     injection hz with hz
     rw [← hz]
     simp
    rw [← this]
    exact VR0_one hz2
   have hsz : cv.cells.toList.length = v.cells.toList.length := by rw [Array.length_toList,hcr.1]
   have hrel : ∀ (i : Nat) (x : Value),v.cells.toList[i]? = some x → ∃ y : Value,cv.cells.toList[i]? = some y ∧ VR0 ι.base x y := by
    intro i x hx
    obtain ⟨y,hy,hv⟩ := hcr.2 i x hx
    exact ⟨y,by simpa using hy,hv⟩
   split at hs
   ·rename_i hsp
    split at hs
    ·rename_i b hb
     split at hs
     ·rename_i hw
      simp only [Option.some.injEq,Prod.mk.injEq] at hs
      obtain ⟨rfl,rfl,rfl⟩ := hs
      obtain ⟨hz,c,e,fr,hg,hf,hl,hcap⟩ := (h.hk _ b hb).2.1 hw.1
      have htr : tr ι p = ⟨(ι.h p.block).1,p.off,none⟩ := by unfold tr; rw [hsp]; simp only [hz,Nat.zero_add]
      obtain ⟨s1,s2,s3,s4,s5,s6⟩ := setCells_at (ι.h p.block).1 cv.cells.toList p.off c w hg
      have hrun : (Instr.storeAt t (.pointer (some (tr ι p))) cv).run P w = .ok () (w.setCells (ι.h p.block).1 p.off cv.cells.toList) := by
       have hst := run_storeRow (P := P) hg hf.free (o := p.off) (vs := cv.cells.toList) (by omega) hone
       have hne : ¬ (cv.cells.size ≠ v.cells.toList.length) := by simp [hcr.1]
       simp only [Instr.storeAt,Instr.sureAddr,storeVar,Sem.run_bind,Sem.run_pure,Result.andThen_ok,run_sizeOf hc.1,htr]
       rw [if_neg hne]
       exact hst
      refine ⟨_,hrun,goes_upd h hb hw.1 _ ⟨s3,s4,s5,s6⟩ s2 ?_ rfl,rfl⟩
      have hp := PreL.splice v.cells.toList cv.cells.toList p.off b.cells c (PreL.of (h.hk _ b hb) hz hg hl) hsz hrel
      refine ⟨fun i x hx => ?_,fun _ => ⟨hz,_,e,fr,s1,by rw [spA_size]; exact hf,hp.1,by rw [spA_size]; exact hcap⟩,fun h0 => by cases h0⟩
      obtain ⟨y,hy,hv⟩ := hp.2 i x hx
      exact ⟨y,by rw [hz,Nat.zero_add,cell_of s1]; exact hy,hv⟩
     ·cases hs
    ·cases hs
   ·rename_i g hsp
    split at hs
    ·rename_i g' cs hlc
     split at hs
     ·rename_i hw
      simp only [Option.some.injEq,Prod.mk.injEq] at hs
      obtain ⟨rfl,rfl,rfl⟩ := hs
      obtain ⟨rfl,hw2⟩ := hw
      obtain ⟨c,e,hg,hl,hcell⟩ := h.lk _ _ _ hlc
      have htr : tr ι p = ⟨ι.l p.block g',p.off,none⟩ := by unfold tr; rw [hsp]
      obtain ⟨s1,s2,s3,s4,s5,s6⟩ := setCells_at (ι.l p.block g') cv.cells.toList p.off c w hg
      have hrun : (Instr.storeAt t (.pointer (some (tr ι p))) cv).run P w = .ok () (w.setCells (ι.l p.block g') p.off cv.cells.toList) := by
       have hst := run_storeRow (P := P) hg (fun j _ => by omega) (o := p.off) (vs := cv.cells.toList) (by omega) hone
       have hne : ¬ (cv.cells.size ≠ v.cells.toList.length) := by simp [hcr.1]
       simp only [Instr.storeAt,Instr.sureAddr,storeVar,Sem.run_bind,Sem.run_pure,Result.andThen_ok,run_sizeOf hc.1,htr]
       rw [if_neg hne]
       exact hst
      have hp := PreL.splice v.cells.toList cv.cells.toList p.off cs c ⟨hl,hcell⟩ hsz hrel
      exact ⟨_,hrun,goes_updL h hlc _ ⟨s3,s4,s5,s6⟩ s2 ⟨_,e,s1,hp.1,hp.2⟩,rfl⟩
     ·cases hs
    ·cases hs
  ·cases hs
 ·cases hs
theorem anew_sound {ι : Inj} {lo lo' : Lo} {st st' : St} (h : Rel ι lo st w) {ls : List Tmp} {dst : Option Tmp} {cs : List Value} {v : Value} (hs : anew ls dst cs lo st = some (v,lo',st')) {c : Array Value} {e : TypeId} (hc : RelL ι.base cs c) :
  ∃ ι',Goes ι lo st w ι' lo' st' (w.alloc (.cells c e)) ∧ VR ι' v (.pointer (some ⟨w.heap.size,0,none⟩)) ∧ ((∃ d,dst = some d ∧ ls.contains d = true) ∨ VR ι'.base v (.pointer (some ⟨w.heap.size,0,none⟩))) := by
 unfold anew at hs
 split at hs
 ·cases hs
 ·rename_i d
  split at hs
  ·rename_i hcell
   split at hs
   ·rename_i hd
    simp only [Option.some.injEq,Prod.mk.injEq] at hs
    obtain ⟨rfl,rfl,rfl⟩ := hs
    have hg := goes_box h d (c := c) (e := e) hc.2 (by rw [hc.1]; exact Nat.le_refl _)
    refine ⟨_,hg,VR_pointer.2 ⟨?_,?_⟩,.inl ⟨d,rfl,hd⟩⟩
    ·show lo.gen < ι.g + 1
     have := h.g
     omega
    ·simp only [tr]
     rw [← h.g,pushL_at]
   ·simp only [Option.some.injEq,Prod.mk.injEq] at hs
    obtain ⟨rfl,rfl,rfl⟩ := hs
    have hg := goes_push h (Same.refl w) (c := c) (e := e) (fr := (0,0)) (z := 0) (cap := 0) hc.2 (by rw [hc.1]; exact Nat.le_refl _) (by omega) (.inl rfl)
    have hv : ∀ κ : Inj,κ = ι.push w.heap.size 0 ∨ κ = (ι.push w.heap.size 0).base → VR κ (.pointer (some ⟨st.next,0,none⟩)) (.pointer (some ⟨w.heap.size,0,none⟩)) := by
     intro κ hκ
     have h1 : κ.n = ι.n + 1 := by rcases hκ with rfl | rfl <;> rfl
     have h2 : κ.h st.next = (w.heap.size,0) := by
      rcases hκ with rfl | rfl
      ·rw [← h.n]; exact push_at _ _ _
      ·show (ι.push w.heap.size 0).h st.next = _
       rw [← h.n]; exact push_at _ _ _
     refine VR_pointer.2 ⟨?_,?_⟩
     ·show st.next < κ.n
      rw [h1,h.n]; omega
     ·simp only [tr,h2]
    exact ⟨_,hg,hv _ (.inl rfl),.inr (hv _ (.inr rfl))⟩
  ·cases hs
theorem zrow_get {z : List Value} : ∀ (n i : Nat),(zrow n z)[i]? = if i < n * z.length then z[i % z.length]? else none := by
 intro n
 induction n with
 | zero => intro i; simp [zrow]
 | succ n ih =>
  intro i
  have e : zrow (n + 1) z = z ++ zrow n z := by simp [zrow,List.replicate_succ]
  rw [e]
  rcases Nat.lt_or_ge i z.length with h | h
  ·rw [List.getElem?_append_left h,if_pos (by rw [Nat.succ_mul]; omega),Nat.mod_eq_of_lt h]
  ·rw [List.getElem?_append_right h,ih]
   have h1 : (i - z.length) % z.length = i % z.length := by
    conv => rhs; rw [show i = (i - z.length) + z.length by omega,Nat.add_mod_right]
   rw [h1]
   by_cases hi : i < (n + 1) * z.length
   ·rw [if_pos hi,if_pos (by rw [Nat.succ_mul] at hi; omega)]
   ·rw [if_neg hi,if_neg (by rw [Nat.succ_mul] at hi; omega)]
theorem zrow_length (n : Nat) (z : List Value) : (zrow n z).length = n * z.length := by
 induction n with
 | zero => simp [zrow]
 | succ n ih =>
  have e : zrow (n + 1) z = z ++ zrow n z := by simp [zrow,List.replicate_succ]
  rw [e,List.length_append,ih,Nat.succ_mul]; omega
theorem zrow_rel {κ : Inj} {z : List Value} (hz : ∀ x ∈ z,plain0 x = true) (n : Nat) {c : Array Value} (hc : ∀ i,i < n * z.length → c[i]? = z[i % z.length]?) (hs : c.size = n * z.length) : RelL κ (zrow n z) c := by
 refine ⟨by rw [zrow_length,hs],fun i x hx => ?_⟩
 rw [zrow_get] at hx
 split at hx
 ·rename_i hi
  refine ⟨x,by rw [hc i hi]; exact hx,plain0_VR (hz x (List.mem_of_getElem? hx))⟩
 ·cases hx
theorem made_get {z : Array Value} {m i : Nat} (hz : 0 < z.size) (hi : i < m) : ((Array.range m).map (z[· % z.size]!))[i]? = z.toList[i % z.toList.length]? := by
 have hm : i % z.size < z.size := Nat.mod_lt _ hz
 rw [Array.getElem?_map,Array.getElem?_range,if_pos hi]
 simp only [Option.map_some,Array.length_toList]
 rw [getElem!_pos z (i % z.size) hm]
 rw [List.getElem?_eq_getElem (by simpa using hm)]
 simp
theorem new_sliceB {ι : Inj} {st : St} (hn : ι.n = st.next) (B cap n : Nat) (hcap : n ≤ cap) (hm : cap ≤ maxLen) : VR (ι.push B cap).base (.slice (some ⟨st.next,0,none⟩) n n) (.slice (some ⟨B,0,none⟩) n cap) := by
 refine VR_slice.2 ⟨_,_,rfl,hcap,hm,.inr ⟨_,rfl,?_,rfl,?_,fun _ => ?_⟩⟩
 ·show st.next < ι.n + 1
  omega
 ·simp only [tr]
  show _ = some (⟨((ι.push B cap).h st.next).1,((ι.push B cap).h st.next).2 + 0,none⟩ : Addr)
  rw [← hn,push_at]
 ·show cap ≤ (ι.push B cap).cap st.next
  rw [← hn,push_cap]
  exact Nat.le_refl _
theorem new_slice {ι : Inj} {w : World} {st : St} (hn : ι.n = st.next) (cap n : Nat) (hcap : n ≤ cap) (hm : cap ≤ maxLen) : VR (ι.push w.heap.size cap).base (.slice (some ⟨st.next,0,none⟩) n n) (.slice (some ⟨w.heap.size,0,none⟩) n cap) := new_sliceB hn _ _ _ hcap hm
def MkAs (κ : Inj) (w : World) (lo : Lo) (st : St) (v : Value) (lo' : Lo) (st' : St) (r : Result Value) : Prop := ∃ (n cap z : Nat) (cells : List Value) (c : Array Value) (e : TypeId) (fr : Nat × Nat),v = .slice (some ⟨st.next,0,none⟩) n n ∧ lo' = lo ∧ st' = st.push z cells ∧
 r = .ok (.slice (some ⟨w.heap.size,0,none⟩) n cap) (w.alloc (.cells c e fr)) ∧ (∀ (i : Nat) (x : Value),cells[i]? = some x → ∃ y : Value,c[i]? = some y ∧ VR0 κ x y) ∧ cells.length ≤ c.size ∧ cap * z ≤ c.size ∧ frOk fr c.size ∧ n ≤ cap ∧ cap ≤ maxLen
theorem MkAs.goes {ι : Inj} {lo lo' : Lo} {st st' : St} {v : Value} {r : Result Value} (h : Rel ι lo st w) (k : MkAs ι.base w lo st v lo' st' r) : ∃ ι' w' cv,r = .ok cv w' ∧ Goes ι lo st w ι' lo' st' w' ∧ VR ι'.base v cv := by
 obtain ⟨n,cap,z,cells,c,e,fr,rfl,rfl,rfl,h1,h2,h3,h4,h5,h6,h7⟩ := k
 exact ⟨_,_,_,h1,goes_push h (Same.refl w) (z := z) (cap := cap) h2 h3 h4 h5,new_slice h.n _ _ h6 h7⟩
theorem amake_as {κ : Inj} {lo lo' : Lo} {st st' : St} {t : TypeId} {l c v cl cc : Value} (hs : amake P t l c lo st = some (v,lo',st')) (hl : VR κ l cl) (hc : VR κ c cc) :
  MkAs κ w lo st v lo' st' ((Instr.makeSlice t cl cc).run P w) := by
 unfold amake at hs
 split at hs
 ·rename_i k n k' m
  obtain rfl := VR_int.1 hl
  obtain rfl := VR_int.1 hc
  obtain ⟨e,he,hs1⟩ := Option.bind_eq_some_iff.1 hs
  obtain ⟨z,hz,hs2⟩ := Option.bind_eq_some_iff.1 hs1
  obtain ⟨b,hb,hs3⟩ := Option.bind_eq_some_iff.1 hs2
  obtain ⟨z0,hz0,hs4⟩ := Option.bind_eq_some_iff.1 hs3
  clear hs hs1 hs2 hs3
  split at hs4
  ·rename_i hcond
   obtain ⟨hnm,h0,hby,h63,hzp,hzl⟩ := hcond
   subst hnm
   simp only [Option.some.injEq,Prod.mk.injEq] at hs4
   obtain ⟨h1,h2,h3⟩ := hs4
   subst h1 h2 h3
   obtain ⟨i,zv,hi,hzv,hzc,hzpl⟩ := tzero_info hz0
   have hsz : i.size = z := by unfold tsize at hz; rw [hi] at hz; simpa using hz
   have hbz : i.bytes = b := by unfold tbytes at hb; rw [hi] at hb; simpa using hb
   have hbytes : (i.bytes : Int) * n ≤ 281474976710656 := by
    rw [hbz]
    have e1 : n = (n.toNat : Int) := by omega
    rw [e1]
    have : (b : Int) * (n.toNat : Int) = ((n.toNat * b : Nat) : Int) := by rw [Int.natCast_mul,Int.mul_comm]
    rw [this]
    omega
   have hr := run_make (P := P) w t e i zv (telem_under he) hi hzv k k' n n h0 (Int.le_refl _) hbytes h63
   have hzs : zv.cells.size = z := by rw [← Array.length_toList,hzc,hzl]
   have hrel : RelL κ (zrow n.toNat z0) (madeCells zv.cells (n.toNat * i.size)) := by
    refine zrow_rel hzpl n.toNat (fun j hj => ?_) (by rw [size_madeCells,hsz,hzl])
    rw [← hzc]
    refine made_get (by omega) ?_
    rw [hsz]
    rw [hzl] at hj
    exact hj
   refine ⟨n.toNat,n.toNat,z,_,_,_,_,rfl,rfl,rfl,hr,hrel.2,by rw [hrel.1]; exact Nat.le_refl _,?_,.inl rfl,Nat.le_refl _,?_⟩
   ·rw [size_madeCells,hsz]; exact Nat.le_refl _
   ·simp only [maxLen]; omega
  ·simp at hs4
 ·simp at hs
theorem amake_sound {ι : Inj} {lo lo' : Lo} {st st' : St} (h : Rel ι lo st w) {t : TypeId} {l c v cl cc : Value} (hs : amake P t l c lo st = some (v,lo',st')) (hl : VR ι.base l cl) (hc : VR ι.base c cc) :
  ∃ ι' w' cv,(Instr.makeSlice t cl cc).run P w = .ok cv w' ∧ Goes ι lo st w ι' lo' st' w' ∧ VR ι'.base v cv := (amake_as hs hl hc).goes h
theorem alit_as {κ : Inj} {lo lo' : Lo} {st st' : St} {t : TypeId} {n : Nat} {ps : List (Nat × Value)} {qs : Array (Nat × Value)} {v : Value} (hs : alit P t n ps lo st = some (v,lo',st')) (hl : qs.size = ps.length)
  (hq : ∀ (i : Nat) (p : Nat × Value),ps[i]? = some p → ∃ q : Nat × Value,qs[i]? = some q ∧ q.1 = p.1 ∧ VR κ p.2 q.2) :
  MkAs κ w lo st v lo' st' ((Instr.buildSlice t n qs).run P w) := by
 unfold alit at hs
 obtain ⟨e,he,hs⟩ := Option.bind_eq_some_iff.1 hs
 obtain ⟨z,hz,hs⟩ := Option.bind_eq_some_iff.1 hs
 obtain ⟨z0,hz0,hs⟩ := Option.bind_eq_some_iff.1 hs
 split at hs
 ·rename_i hcond
  obtain ⟨hn,hzp,hzl⟩ := hcond
  obtain ⟨c,hc,hs⟩ := Option.map_eq_some_iff.1 hs
  simp only [Prod.mk.injEq] at hs
  obtain ⟨rfl,rfl,rfl⟩ := hs
  obtain ⟨zv,hz1,hz2,hz3⟩ := run_zero (P := P) (w := w) hz0
  have hzs : zv.cells.size = z := by rw [← Array.length_toList,hz2,hzl]
  have hzr : (do if n * z = 0 then pure #[] else do pure (← zeroValue e).cells : Sem (Array Value)).run P w = .ok (if n * z = 0 then #[] else zv.cells) w := by
   by_cases h0 : n * z = 0
   ·simp [h0]
   ·simp [h0,hz1]
  have hrel : RelL κ (zrow n z0) ((Array.range (n * z)).map ((if n * z = 0 then #[] else zv.cells : Array Value)[· % (if n * z = 0 then #[] else zv.cells : Array Value).size]!)) := by
   refine zrow_rel hz3 n (fun j hj => ?_) (by simp [hzl])
   rw [hzl] at hj
   rw [if_neg (by omega),← hz2]
   exact made_get (by omega) hj
  obtain ⟨zs,h1,h2⟩ := afill_sound (κ := κ) ps qs.toList (zrow n z0) c _ hc hrel (by simpa using hl) (fun i p hp => by simpa using hq i p hp)
  have hcl : c.length = n * z := by
   have : ∀ (place : Nat → Option (Nat × Nat)) (ps : List (Nat × Value)) (xs r : List Value),afill place xs ps = some r → r.length = xs.length := by
    intro place ps
    induction ps with
    | nil => intro xs r h; simp only [afill,Option.some.injEq] at h; rw [h]
    | cons p ps ih =>
     intro xs r h
     obtain ⟨i,v⟩ := p
     unfold afill at h
     obtain ⟨q,_,h⟩ := Option.bind_eq_some_iff.1 h
     split at h
     ·rw [ih _ _ h,splice_length]
     ·cases h
   rw [this _ _ _ _ hc,zrow_length,hzl]
  refine ⟨n,n,z,c,zs,e,_,rfl,rfl,rfl,?_,h2.2,by rw [h2.1]; exact Nat.le_refl _,by rw [h2.1,hcl]; exact Nat.le_refl _,.inl rfl,Nat.le_refl _,?_⟩
  ·have hn' : ¬ (16777216 < n * z) := by omega
   by_cases h0 : n * z = 0
   ·simp only [h0,if_true] at h1
    simp [Instr.buildSlice,run_underlying (telem_under he),run_sizeOf hz,h0,newRow]
    simp at h1
    simp [h1]
   ·simp only [h0,if_false] at h1
    simp [Instr.buildSlice,run_underlying (telem_under he),run_sizeOf hz,h0,newRow,hn',hz1,h1]
  ·simp only [maxLen]
   have : n ≤ n * z := Nat.le_mul_of_pos_right n hzp
   omega
 ·cases hs
theorem alit_sound {ι : Inj} {lo lo' : Lo} {st st' : St} (h : Rel ι lo st w) {t : TypeId} {n : Nat} {ps : List (Nat × Value)} {qs : Array (Nat × Value)} {v : Value} (hs : alit P t n ps lo st = some (v,lo',st')) (hl : qs.size = ps.length)
  (hq : ∀ (i : Nat) (p : Nat × Value),ps[i]? = some p → ∃ q : Nat × Value,qs[i]? = some q ∧ q.1 = p.1 ∧ VR ι.base p.2 q.2) :
  ∃ ι' w' cv,(Instr.buildSlice t n qs).run P w = .ok cv w' ∧ Goes ι lo st w ι' lo' st' w' ∧ VR ι'.base v cv := (alit_as hs hl hq).goes h
theorem St.set_self {st : St} {a : Nat} {b : Blk} (h : st.mem a = some b) : st.set a (some b) = st := by
 obtain ⟨m,n⟩ := st
 simp only [St.set,St.mk.injEq,and_true]
 funext x
 by_cases hx : x = a
 ·rw [if_pos hx,hx]; exact h.symm
 ·rw [if_neg hx]
theorem freeze_at {g : Nat} {c : Array Value} {e : TypeId} {fr : Nat × Nat} (h : w.heap[g]? = some (.cells c e fr)) (n : Nat) :
  (w.freeze ⟨g,n,none⟩ 1).heap[g]? = some (.cells c e (if fr.1 == fr.2 then (n,n + 1) else (min fr.1 n,max fr.2 (n + 1)))) ∧ (∀ k,k ≠ g → (w.freeze ⟨g,n,none⟩ 1).heap[k]? = w.heap[k]?) ∧
  (w.freeze ⟨g,n,none⟩ 1).os = w.os ∧ (w.freeze ⟨g,n,none⟩ 1).tape = w.tape ∧ (w.freeze ⟨g,n,none⟩ 1).output = w.output ∧ (w.freeze ⟨g,n,none⟩ 1).heap.size = w.heap.size := by
 unfold World.freeze
 rw [if_neg (by decide)]
 refine ⟨?_,fun k hk => ?_,rfl,rfl,rfl,by simp⟩
 ·simp only [Array.getElem?_modify,if_true,h]
  rfl
 ·simp only [Array.getElem?_modify]
  rw [if_neg (fun e => hk e.symm)]
theorem abytesOf_sound {ι : Inj} {lo lo' : Lo} {st st' : St} (h : Rel ι lo st w) {src dst : TypeId} {x v cx : Value} (hs : abytesOf P src dst x lo st = some (v,lo',st')) (hx : VR ι.base x cx) :
  ∃ ι' w' cv,(convert src dst cx).run P w = .ok cv w' ∧ Goes ι lo st w ι' lo' st' w' ∧ VR ι'.base v cv := by
 unfold abytesOf at hs
 split at hs
 ·rename_i s
  obtain rfl := VR_string.1 hx
  split at hs
  ·rename_i e he
   split at hs
   ·rename_i hc
    simp only [Option.some.injEq,Prod.mk.injEq] at hs
    obtain ⟨h1,h2,h3⟩ := hs
    subst h1 h2 h3
    have hr := run_bytes_of_string (P := P) w src dst e s (tstr_under hc.2.1) (telem_under he) (tint_under hc.1)
    have hge := grownCap_ge w s.size 0 e
    have hle := grownCap_le_maxLen w s.size 0 e hc.2.2
    have hsz : (bytesRow s (grownCap w s.size 0 e)).size = grownCap w s.size 0 e := by
     simp only [bytesRow,Array.size_append,Array.size_map,Array.size_replicate]
     have : s.data.size = s.size := rfl
     omega
    refine ⟨_,_,_,hr,goes_push h (Same.drew w) (z := 1) (cap := grownCap w s.size 0 e) (fun i x hx => ?_) ?_ ?_ (.inr (Nat.le_refl _)),new_slice h.n _ _ hge hle⟩
    ·refine ⟨x,?_,?_⟩
     ·rw [List.getElem?_map,Option.map_eq_some_iff] at hx
      obtain ⟨b,hb,rfl⟩ := hx
      have hlt : i < s.data.size := by
       have := (List.getElem?_eq_some_iff.1 hb).1
       simpa using this
      unfold bytesRow
      rw [Array.getElem?_append_left (by simpa using hlt),Array.getElem?_map]
      rw [Array.getElem?_toList] at hb
      rw [hb]
      rfl
     ·rw [List.getElem?_map,Option.map_eq_some_iff] at hx
      obtain ⟨b,hb,rfl⟩ := hx
      rfl
    ·rw [hsz]
     simp only [List.length_map,Array.length_toList]
     exact hge
    ·rw [hsz]; omega
   ·simp at hs
  ·simp at hs
 ·rename_i p n c
  split at hs
  ·rename_i e b he hb
   split at hs
   ·rename_i hc
    obtain ⟨hu,hsd,hrw,hsp,hn⟩ := hc
    simp only [Option.some.injEq,Prod.mk.injEq] at hs
    obtain ⟨h1,h2,h3⟩ := hs
    subst h1 h2 h3 hsd
    obtain ⟨q,c',hq,k1,k2,k3⟩ := VR_slice.1 hx
    rcases k3 with k3 | ⟨a,ha,hok,hs2,hqa,hcap⟩
    ·omega
    ·injection ha with ha
     subst ha
     subst hqa hq
     obtain ⟨hz,cc,e',fr,hg,hf,hl,hcp⟩ := (h.hk _ b hb).2.1 hrw
     have htr : tr ι.base p = ⟨(ι.h p.block).1,p.off,none⟩ := by
      unfold tr; rw [hsp]
      show (⟨(ι.h p.block).1,(ι.h p.block).2 + p.off,none⟩ : Addr) = _
      rw [hz,Nat.zero_add]
     have hsh : w.shape? (ι.h p.block).1 = some (e',cc.size) := by simp [World.shape?,hg]
     have hrun : (convert src src (.slice (some (tr ι.base p)) n c')).run P w = .ok (.slice (some (tr ι.base p)) n c') (w.freeze ⟨(ι.h p.block).1,cc.size,none⟩ 1) := by
      rw [htr]
      simp [convert,run_underlying (telem_under he),run_underlying (tint_under hu),markStringish,hsh]
     have hset := St.set_self hb
     obtain ⟨hnew,s2,s3,s4,s5,s6⟩ := freeze_at hg cc.size
     refine ⟨ι,_,_,hrun,?_,hx⟩
     have hgo := goes_upd h hb hrw b (w' := w.freeze ⟨(ι.h p.block).1,cc.size,none⟩ 1) ⟨s3,s4,s5,s6⟩ s2 (by
      have hp := PreL.of (h.hk _ b hb) hz hg hl
      refine ⟨fun i x hx => ?_,fun _ => ⟨hz,_,_,_,hnew,?_,hl,hcp⟩,fun h0 => by rw [hrw] at h0; cases h0⟩
      ·obtain ⟨y,hy,hv⟩ := hp.2 i x hx
       exact ⟨y,by rw [hz,Nat.zero_add,cell_of hnew]; exact hy,hv⟩
      ·refine .inr ?_
       split
       ·exact Nat.le_refl _
       ·rename_i hne
        rcases hf with rfl | hf
        ·exact absurd rfl hne
        ·simp only; omega) hrw
     rw [hset] at hgo
     exact hgo
   ·simp at hs
  ·simp at hs
 ·simp at hs
theorem run_append_zero {t ty e : TypeId} {z : Nat} (ht : P.underlying t = some (.slice e)) (hz : tsize P e = some z) {base q : Option Addr} {n c c' : Nat} (hn : n ≤ c) :
  (Builtin.append_ #[t,t] ty #[.slice base n c,.slice q 0 c']).run P w = .ok (.slice base n c) w := by
 have hf : (Builtin.firstCells z 0 (.slice q 0 c')).run P w = .ok #[] w := by
  cases q with
  | none => simp [Builtin.firstCells]
  | some q => simp [Builtin.firstCells,loadCells,loadCellsFrom]
 cases base with
 | none => simp [Builtin.append_,run_underlying ht,run_sizeOf hz,Builtin.lenOf,hn,hf]
 | some b => simp [Builtin.append_,run_underlying ht,run_sizeOf hz,Builtin.lenOf,hn,hf,storeCells]
theorem run_append_fits {t ty e : TypeId} {z : Nat} (ht : P.underlying t = some (.slice e)) (hz : tsize P e = some z) {g n c : Nat} {cur : Array Value} {te : TypeId} {fr : Nat × Nat} (hg : w.heap[g]? = some (.cells cur te fr)) (hfr : frOk fr cur.size)
  {a : Addr} {m c' : Nat} {news : List Value} (hl : news.length = m * z) (hnews : ∀ j v,news[j]? = some v → w.cell? (a.add j) = some v) (h1 : ∀ u ∈ news,u.oneCell' = true) (hroom : n + m ≤ c) (hfit : n * z + news.length ≤ cur.size) :
  (Builtin.append_ #[t,t] ty #[.slice (some ⟨g,0,none⟩) n c,.slice (some a) m c']).run P w = .ok (.slice (some ⟨g,0,none⟩) (n + m) c) (w.setCells g (n * z) news) := by
 have hf := run_firstCells_some (P := P) w z m a m c' news hl hnews
 have hst := run_storeRow (P := P) hg hfr.free (o := n * z) (vs := news) hfit h1
 simp [Builtin.append_,run_underlying ht,run_sizeOf hz,Builtin.lenOf,hroom,hf,add_plain,hst]
theorem asrc_sound {ι κ : Inj} {lo : Lo} {st : St} (h : Rel ι lo st w) (hκ : κ = ι ∨ κ = ι.base) {z m : Nat} {x cx : Value} {news : List Value} (hs : asrc z (rdB lo st) x = some (m,news)) (hx : VR κ x cx) :
  (m = 0 ∧ news = [] ∧ ∃ q c,cx = .slice q 0 c) ∨ (0 < m ∧ ∃ (a : Addr) (c : Nat) (ys : List Value),cx = .slice (some a) m c ∧ ys.length = m * z ∧ news.length = m * z ∧ (∀ j v,ys[j]? = some v → w.cell? (a.add j) = some v) ∧ ∀ (i : Nat) (x : Value),news[i]? = some x → ∃ y : Value,ys[i]? = some y ∧ VR0 ι.base x y) := by
 unfold asrc at hs
 split at hs
 ·split at hs
  ·rename_i hn
   simp only [Option.some.injEq,Prod.mk.injEq] at hs
   obtain ⟨h1,h2⟩ := hs
   subst h1 h2 hn
   obtain ⟨q,c,rfl,_⟩ := VR_slice.1 hx
   exact .inl ⟨rfl,rfl,q,c,rfl⟩
  ·simp at hs
 ·rename_i p n c0
  split at hs
  ·rename_i hn
   simp only [Option.some.injEq,Prod.mk.injEq] at hs
   obtain ⟨h1,h2⟩ := hs
   subst h1 h2 hn
   obtain ⟨q,c,rfl,_⟩ := VR_slice.1 hx
   exact .inl ⟨rfl,rfl,q,c,rfl⟩
  ·rename_i hn
   obtain ⟨cs,hcs,hs⟩ := Option.bind_eq_some_iff.1 hs
   split at hs
   ·rename_i hl
    simp only [Option.some.injEq,Prod.mk.injEq] at hs
    obtain ⟨h1,h2⟩ := hs
    subst h1 h2
    obtain ⟨q,c,rfl,k1,k2,k3⟩ := VR_slice.1 hx
    rcases k3 with k3 | ⟨a,ha,hok,hsp,rfl,_⟩
    ·omega
    ·injection ha with ha
     subst ha
     obtain ⟨ys,y1,y2,y3⟩ := h.readN hκ hok hcs (n * z) hl
     exact .inr ⟨by omega,_,_,ys,rfl,y1,hl,y2,y3⟩
   ·simp at hs
 ·simp at hs
theorem aappend_sound {ι : Inj} {lo lo' : Lo} {st st' : St} (h : Rel ι lo st w) {c : Call} {ty : TypeId} {e : Operand → Value} {a : Act} {v : Value} (hs : aappend P c e lo st = some (v,lo',st')) (hop : ∀ x ∈ c.args,VR ι.base (e x) (a.eval x)) :
  ∃ ι' w' cv,(Builtin.append_ c.argTypes ty (c.args.map a.eval)).run P w = .ok cv w' ∧ Goes ι lo st w ι' lo' st' w' ∧ VR ι'.base v cv := by
 obtain ⟨cal,args,argTypes⟩ := c
 simp only at hop ⊢
 unfold aappend at hs
 simp only at hs
 split at hs
 ·rename_i t u ov ox hts hargs
  obtain rfl : argTypes = #[t,u] := by cases argTypes; simp at hts; simp [hts]
  obtain rfl : args = #[ov,ox] := by cases args; simp at hargs; simp [hargs]
  split at hs
  ·rename_i htu
   subst htu
   obtain ⟨el,he,hs1⟩ := Option.bind_eq_some_iff.1 hs
   obtain ⟨z,hz,hs2⟩ := Option.bind_eq_some_iff.1 hs1
   obtain ⟨by_,hby,hs3⟩ := Option.bind_eq_some_iff.1 hs2
   obtain ⟨z0,hz0,hs4⟩ := Option.bind_eq_some_iff.1 hs3
   clear hs hs1 hs2 hs3
   split at hs4
   ·rename_i hzl
    obtain ⟨⟨m,news⟩,hsrc,hs5⟩ := Option.bind_eq_some_iff.1 hs4
    obtain ⟨⟨v1,st1⟩,happ,hs6⟩ := Option.map_eq_some_iff.1 hs5
    simp only [Prod.mk.injEq] at hs6 happ
    obtain ⟨h1,h2,h3⟩ := hs6
    subst h1 h2 h3
    clear hs4 hs5
    obtain ⟨i,zv,hi,hzv,hzc,hzpl⟩ := tzero_info hz0
    have hsz : i.size = z := by unfold tsize at hz; rw [hi] at hz; simpa using hz
    have hbz : i.bytes = by_ := by unfold tbytes at hby; rw [hi] at hby; simpa using hby
    have hzs : zv.cells.size = z := by rw [← Array.length_toList,hzc,hzl]
    have hv := hop ov (by simp)
    have hx := hop ox (by simp)
    have hmap : (#[ov,ox].map a.eval) = #[a.eval ov,a.eval ox] := by simp
    rw [hmap]
    generalize a.eval ov = cv0 at hv ⊢
    generalize a.eval ox = cx0 at hx ⊢
    generalize e ov = v0 at hv happ
    unfold aapp at happ
    split at happ
    ·rename_i p n c0
     split at happ
     ·rename_i hcond
      obtain ⟨hb1,hb2,hzp,hnl⟩ := hcond
      obtain ⟨q,c,rfl,k1,k2,k3⟩ := VR_slice.1 hv
      have hsrc' := asrc_sound h (.inr rfl) hsrc hx
      split at happ
      ·rename_i hm
       simp only [Option.some.injEq,Prod.mk.injEq] at happ
       obtain ⟨h1,h2⟩ := happ
       subst h1 h2 hm
       rcases hsrc' with ⟨_,_,qx,cx,rfl⟩ | ⟨hpos,_⟩
       ·exact ⟨ι,w,_,run_append_zero (telem_under he) hz k1,Goes.refl h,hv⟩
       ·omega
      ·rename_i hm
       rcases hsrc' with ⟨h0,_⟩ | ⟨hpos,ax,cx,ys,rfl,y1,y2,y3,y4⟩
       ·omega
       ·have hone : ∀ u ∈ ys,u.oneCell' = true := by
         intro u hu
         obtain ⟨j,hj,rfl⟩ := List.getElem_of_mem hu
         obtain ⟨y,hy1,hy2⟩ := y4 j _ (List.getElem?_eq_getElem (by omega))
         rw [List.getElem?_eq_getElem hj] at hy1
         injection hy1 with hy1
         rw [hy1]
         exact VR0_one hy2
        have ysz : ys.length = m * i.size := by rw [hsz]; exact y1
        have hmx : n + m ≤ 9223372036854775807 := by simp only [maxLen] at hb2; omega
        have hgrow : ∀ (olds oldsC : List Value) (k : Nat) (stx : St) (_ : Rel ι lo stx w),oldsC.length = n * z → olds.length = n * z → (∀ (j : Nat) (x : Value),olds[j]? = some x → ∃ y : Value,oldsC[j]? = some y ∧ VR0 ι.base x y) →
          Goes ι lo stx w (ι.push w.heap.size (grownCap w (n + m) k el)) lo (stx.push z (olds ++ news)) (w.drew.alloc (.cells (oldsC.toArray ++ ys.toArray ++ Builtin.zeroCells zv.cells (grownCap w (n + m) k el - (n + m))) el)) := by
         intro olds oldsC k stx hrx ho1 ho2 ho3
         have hge := grownCap_ge w (n + m) k el
         have hsize : (oldsC.toArray ++ ys.toArray ++ Builtin.zeroCells zv.cells (grownCap w (n + m) k el - (n + m))).size = grownCap w (n + m) k el * z := by
          simp only [Array.size_append,List.size_toArray,size_zeroCells,hzs,ho1,y1]
          rw [← Nat.add_mul,← Nat.add_mul]
          congr 1
          omega
         refine goes_push hrx (Same.drew w) (z := z) (cap := grownCap w (n + m) k el) (fun j x hx => ?_) ?_ (by rw [hsize]; exact Nat.le_refl _) (.inl rfl)
         ·rcases Nat.lt_or_ge j olds.length with hj | hj
          ·rw [List.getElem?_append_left hj] at hx
           obtain ⟨y,hy,hyv⟩ := ho3 j x hx
           refine ⟨y,?_,hyv⟩
           rw [Array.append_assoc,Array.getElem?_append_left (by simp; omega)]
           simpa using hy
          ·rw [List.getElem?_append_right hj] at hx
           obtain ⟨y,hy,hyv⟩ := y4 _ x hx
           refine ⟨y,?_,hyv⟩
           have hlt := (List.getElem?_eq_some_iff.1 hy).1
           rw [Array.getElem?_append_left (by simp; omega),Array.getElem?_append_right (by simp; omega)]
           simp only [List.size_toArray,List.getElem?_toArray]
           rw [ho1,← ho2]
           exact hy
         ·rw [hsize,List.length_append,ho2,y2,← Nat.add_mul]
          exact Nat.mul_le_mul_right _ hge
        have hcapm : ∀ k,grownCap w (n + m) k el ≤ maxLen := fun k => grownCap_le_maxLen w (n + m) k el hb2
        split at happ
        ·rename_i hp
         split at happ
         ·rename_i hn
          simp only [Option.some.injEq,Prod.mk.injEq] at happ
          obtain ⟨h1,h2⟩ := happ
          subst h1 h2 hn
          have hc : c = 0 := by
           rcases k3 with k3 | ⟨a,ha,_⟩
           ·exact k3
           ·cases ha
          subst hc
          have hg := hgrow [] [] 0 st h (by simp) (by simp) (fun j x hx => by simp at hx)
          simp only [Nat.zero_add,List.nil_append,Array.empty_append] at hg
          have hcm := hcapm 0
          simp only [Nat.zero_add] at hcm
          cases q with
          | none =>
           have hr := run_append_nil (P := P) w t ty el i zv (telem_under he) hi hzv ax m cx ys ysz y3 hpos (by omega) (by rw [hbz]; simp only [Nat.zero_add] at hb1; omega)
           refine ⟨_,_,_,hr,hg,new_slice h.n _ _ ?_ hcm⟩
           exact grownCap_ge w m 0 el
          | some q =>
           have hr := run_append_grow (P := P) w t ty el i zv (telem_under he) hi hzv q 0 0 [] (by simp) (fun j v hv => by simp at hv) ax m cx ys ysz y3 (by omega) (by omega) (growslice_fits (by omega) (by rw [hbz]; exact hb1))
           simp only [Nat.zero_add,Array.empty_append] at hr
           refine ⟨_,_,_,hr,hg,new_slice h.n _ _ ?_ hcm⟩
           exact grownCap_ge w m 0 el
         ·simp at happ
        ·rename_i p
         split at happ
         ·rename_i b hb
          split at happ
          ·rename_i hcnd
           obtain ⟨hrw,hoff,hsp,hez,hbl⟩ := hcnd
           simp only [Option.some.injEq,Prod.mk.injEq] at happ
           obtain ⟨h1,h2⟩ := happ
           subst h1 h2
           obtain ⟨hz2,cc,te,fr,hg,hf,hl,hcp⟩ := (h.hk _ b hb).2.1 hrw
           have hpre := PreL.of (h.hk _ b hb) hz2 hg hl
           have hkill := goes_kill h p.block
           have holds : ∃ oldsC : List Value,oldsC.length = n * z ∧ (∀ j v,oldsC[j]? = some v → w.cell? ⟨(ι.h p.block).1,j,none⟩ = some v) ∧ ∀ (j : Nat) (x : Value),b.cells[j]? = some x → ∃ y : Value,oldsC[j]? = some y ∧ VR0 ι.base x y := by
            refine ⟨cc.toList.take (n * z),?_,fun j v hv => ?_,fun j x hx => ?_⟩
            ·rw [List.length_take,Array.length_toList]; omega
            ·rw [List.getElem?_take] at hv
             split at hv
             ·rw [cell_of hg]; simpa using hv
             ·cases hv
            ·obtain ⟨y,hy,hyv⟩ := hpre.2 j x hx
             have hjl := (List.getElem?_eq_some_iff.1 hx).1
             exact ⟨y,by rw [List.getElem?_take,if_pos (by omega)]; simpa using hy,hyv⟩
           obtain ⟨oldsC,o1,o2,o3⟩ := holds
           rcases k3 with k3 | ⟨a',ha,hok,hs2,hqa,hcap⟩
           ·
            subst k3
            have hn : n = 0 := by omega
            subst hn
            have hg2 := hkill.trans (hgrow b.cells [] 0 _ hkill.rel (by simp) hbl (fun j x hx => by rw [List.getElem?_eq_none (by omega)] at hx; cases hx))
            have hcm := hcapm 0
            simp only [Nat.zero_add,Array.empty_append] at hg2 hcm
            have hns := new_slice (w := w) h.n (grownCap w m 0 el) m (grownCap_ge w m 0 el) hcm
            cases q with
            | none =>
             have hr := run_append_nil (P := P) w t ty el i zv (telem_under he) hi hzv ax m cx ys ysz y3 hpos (by omega) (by rw [hbz]; simp only [Nat.zero_add] at hb1; omega)
             refine ⟨_,_,_,hr,hg2,?_⟩
             simpa using hns
            | some q =>
             have hr := run_append_grow (P := P) w t ty el i zv (telem_under he) hi hzv q 0 0 [] (by simp) (fun j v hv => by simp at hv) ax m cx ys ysz y3 (by omega) (by omega) (growslice_fits (by omega) (by rw [hbz]; exact hb1))
             simp only [Nat.zero_add,Array.empty_append] at hr
             refine ⟨_,_,_,hr,hg2,?_⟩
             simpa using hns
           ·injection ha with ha
            subst ha
            subst hqa
            have htr : tr ι.base p = ⟨(ι.h p.block).1,0,none⟩ := by
             unfold tr; rw [hsp]
             show (⟨(ι.h p.block).1,(ι.h p.block).2 + p.off,none⟩ : Addr) = _
             rw [hz2,hoff]
            rw [htr]
            by_cases hroom : n + m ≤ c
            ·
             have hcc : c ≤ ι.cap p.block := hcap hoff
             have hfit : n * z + ys.length ≤ cc.size := by
              rw [y1,← Nat.add_mul]
              refine Nat.le_trans (Nat.mul_le_mul_right z (Nat.le_trans hroom hcc)) ?_
              rw [← hez]; exact hcp
             have hr := run_append_fits (P := P) (ty := ty) (telem_under he) hz hg hf y1 y3 hone hroom hfit (c' := cx)
             obtain ⟨s1,s2,s3,s4,s5,s6⟩ := setCells_at (ι.h p.block).1 ys (n * z) cc w hg
             have hp2 : PreL ι.base (b.cells ++ news) (spA cc (n * z) ys) := by
              rw [← hbl]
              exact PreL.append news ys b.cells cc hpre (by rw [hbl,y2]; rw [y1] at hfit; exact hfit) (by omega) y4
             have hat : (ι.push (ι.h p.block).1 (ι.cap p.block)).h st.next = ((ι.h p.block).1,0) := by rw [← h.n]; exact push_at _ _ _
             have hca : (ι.push (ι.h p.block).1 (ι.cap p.block)).cap st.next = ι.cap p.block := by rw [← h.n]; exact push_cap _ _ _
             refine ⟨_,_,_,hr,goes_adopt h hb hrw z (b.cells ++ news) ⟨s3,s4,s5,s6⟩ s2 ⟨fun j x hx => ?_,fun _ => ?_,fun h0 => by cases h0⟩,?_⟩
             ·obtain ⟨y,hy,hyv⟩ := hp2.2 j x hx
              refine ⟨y,?_,VR0_mono (Ext.push _ _ _).base hyv⟩
              rw [hat]
              simp only [Nat.zero_add]
              rw [cell_of s1]
              exact hy
             ·rw [hat,hca]
              refine ⟨rfl,_,_,_,s1,by rw [spA_size]; exact hf,hp2.1,?_⟩
              rw [spA_size]
              simp only
              rw [← hez]
              exact hcp
             ·refine VR_slice.2 ⟨_,_,rfl,hroom,k2,.inr ⟨_,rfl,?_,rfl,?_,fun _ => ?_⟩⟩
              ·show st.next < ι.n + 1
               rw [h.n]; omega
              ·simp only [tr]
               show _ = some (⟨((ι.push (ι.h p.block).1 (ι.cap p.block)).h st.next).1,((ι.push (ι.h p.block).1 (ι.cap p.block)).h st.next).2 + 0,none⟩ : Addr)
               rw [hat]
              ·show c ≤ (ι.push (ι.h p.block).1 (ι.cap p.block)).cap st.next
               rw [hca]
               exact hcc
            ·have hr := run_append_grow (P := P) w t ty el i zv (telem_under he) hi hzv ⟨(ι.h p.block).1,0,none⟩ n c oldsC (by rw [hsz]; exact o1) (fun j v hv => by rw [add_plain,Nat.zero_add]; exact o2 j v hv) ax m cx ys ysz y3 (by omega) (by omega) (growslice_fits (by omega) (by rw [hbz]; exact hb1))
             have hg2 := hkill.trans (hgrow b.cells oldsC c _ hkill.rel o1 hbl o3)
             have hns := new_slice (w := w) h.n (grownCap w (n + m) c el) (n + m) (grownCap_ge w (n + m) c el) (hcapm c)
             exact ⟨_,_,_,hr,hg2,hns⟩
          ·simp at happ
         ·simp at happ
     ·simp at happ
    ·simp at happ
   ·simp at hs4
  ·simp at hs
 ·simp at hs
end
end Go.Proofs.YteabadoaeadcgaaDoor.AM
