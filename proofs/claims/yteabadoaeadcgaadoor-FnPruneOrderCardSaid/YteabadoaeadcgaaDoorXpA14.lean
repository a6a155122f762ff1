/- A part of the machine on which the law's proof rests. -/
import Derived.Test.YteabadoaeadcgaaDoorXpA13
import Derived.ChangeArms
import Derived.ChangeShapes
import Derived.WideShapes
import Derived.ChangeSlices
import Derived.DataElems
namespace Go.Proofs.YteabadoaeadcgaaDoor.AM
open Go Go.RowKit
set_option linter.unusedVariables false
set_option linter.unusedSimpArgs false
abbrev LL := List (Nat × Nat × List Value)
def WT (P : Program) (G : Nat) : Nat → TypeId → LL → List Value → Prop
 | 0,_,_,_ => False
 | k + 1,t,L,us => match P.underlying t with
  | some .bool => ∃ b,us = [.bool b]
  | some (.int i) => ∃ n,us = [.int i n] ∧ (Lit.int i n).wf = true
  | some .string => ∃ s : ByteArray,us = [.string s] ∧ s.size ≤ maxLen
  | some (.slice e) => us = [.slice none 0 0] ∨ ∃ i n b o cells,us = [.slice (some ⟨G + i,0,none⟩) n n] ∧ L[i]? = some (b,o,cells) ∧ n ≤ maxLen ∧ cells.length = n * P.cellsOf e ∧ ∀ j < n,WT P G k e L ((cells.drop (j * P.cellsOf e)).take (P.cellsOf e))
  | some (.struct fs) => us.length = P.cellsOf t ∧ ∀ (i : Nat) (f : Field),fs[i]? = some f → WT P G k f.type L ((us.drop f.offset).take (P.cellsOf f.type))
  | _ => False
def contig (P : Program) : Nat → List Field → Nat → Bool
 | a,[],n => a == n
 | a,f :: fs,n => f.offset == a && contig P (a + P.cellsOf f.type) fs n
def simpleT (P : Program) : Nat → TypeId → Bool
 | 0,_ => false
 | k + 1,t => match P.underlying t with
  | some .bool | some (.int _) | some .string => true
  | some (.slice e) => decide (0 < P.cellsOf e) && simpleT P k e
  | some (.struct fs) => contig P 0 fs.toList (P.cellsOf t) && fs.toList.all fun f => simpleT P k f.type
  | _ => false
theorem get_app {α : Type} {L M : List α} {i : Nat} {x : α} (h : L[i]? = some x) : (L ++ M)[i]? = some x := by
 rw [List.getElem?_append_left (List.getElem?_eq_some_iff.1 h).1]; exact h
theorem WT.mono {P : Program} {G : Nat} {L M : LL} : ∀ {k : Nat} {t : TypeId} {us : List Value},WT P G k t L us → WT P G k t (L ++ M) us := by
 intro k
 induction k with
 | zero => intro t us h; exact h
 | succ k ih =>
  intro t us h
  unfold WT at h ⊢
  split at h
  ·exact h
  ·exact h
  ·exact h
  ·rcases h with h | ⟨i,n,b,o,cells,h1,h2,h3,h4,h5⟩
   ·exact .inl h
   ·exact .inr ⟨i,n,b,o,cells,h1,get_app h2,h3,h4,fun j hj => ih (h5 j hj)⟩
  ·exact ⟨h.1,fun i f hf => ih (h.2 i f hf)⟩
  ·exact h
theorem extL {G : Nat} {L M : LL} : Ext (ιL G L) (ιL G (L ++ M)) := by
 refine ⟨?_,Nat.le_refl _,fun a ha => ?_,fun _ _ => rfl,fun _ _ _ => rfl⟩
 ·show G + L.length ≤ G + (L ++ M).length
  rw [List.length_append]; omega
 ·have ha : a < G + L.length := ha
  simp only [ιL]
  by_cases hG : a < G
  ·rw [if_pos hG,if_pos hG]
  ·rw [if_neg hG,if_neg hG,List.getElem?_append_left (by omega)]
def Good (G : Nat) (w : World) (L : LL) : Prop := ∀ x ∈ L,x.1 < w.heap.size ∧ ∀ (j : Nat) (u : Value),x.2.2[j]? = some u → ∃ y : Value,w.cell? ⟨x.1,x.2.1 + j,none⟩ = some y ∧ VR0 (ιL G L) u y
def Sim (G : Nat) (L : LL) (us cs : List Value) : Prop := us.length = cs.length ∧ ∀ (i : Nat) (u : Value),us[i]? = some u → ∃ y : Value,cs[i]? = some y ∧ VR0 (ιL G L) u y
theorem Sim.mono {G : Nat} {L M : LL} {us cs : List Value} (h : Sim G L us cs) : Sim G (L ++ M) us cs := ⟨h.1,fun i u hu => by obtain ⟨y,h1,h2⟩ := h.2 i u hu; exact ⟨y,h1,VR0_mono extL h2⟩⟩
theorem Good.nil {G : Nat} {w : World} : Good G w [] := fun x hx => by cases hx
theorem flatten_at {z : Nat} : ∀ {l : List (List Value)} {j : Nat} {x : List Value},(∀ u ∈ l,u.length = z) → l[j]? = some x → (l.flatten.drop (j * z)).take z = x
 | [],j,x,_,h => by simp at h
 | a :: l,0,x,hz,h => by
  simp only [List.getElem?_cons_zero,Option.some.injEq] at h
  subst h
  have := hz a (List.mem_cons_self ..)
  simp [List.take_append,this]
 | a :: l,j + 1,x,hz,h => by
  have ha := hz a (List.mem_cons_self ..)
  have h1 : (a ++ l.flatten).drop ((j + 1) * z) = l.flatten.drop (j * z) := by
   rw [Nat.succ_mul,Nat.add_comm,← List.drop_drop]
   congr 1
   rw [← ha]; simp
  rw [List.flatten_cons,h1]
  exact flatten_at (fun u hu => hz u (List.mem_cons_of_mem _ hu)) (by simpa using h)
theorem flatten_len {z : Nat} : ∀ {l : List (List Value)},(∀ u ∈ l,u.length = z) → l.flatten.length = l.length * z
 | [],_ => by simp
 | a :: l,h => by rw [List.flatten_cons,List.length_append,h a (List.mem_cons_self ..),flatten_len (fun u hu => h u (List.mem_cons_of_mem _ hu)),List.length_cons,Nat.succ_mul,Nat.add_comm]
theorem contig_at {P : Program} : ∀ {fs : List Field} {uss : List (List Value)} {a n : Nat},contig P a fs n = true → uss.length = fs.length → (∀ (i : Nat) (f : Field) (us : List Value),fs[i]? = some f → uss[i]? = some us → us.length = P.cellsOf f.type) →
  a + uss.flatten.length = n ∧ ∀ (i : Nat) (f : Field) (us : List Value),fs[i]? = some f → uss[i]? = some us → ∃ pre suf,uss.flatten = pre ++ (us ++ suf) ∧ f.offset = a + pre.length
 | [],[],a,n,h,_,_ => ⟨by simpa [contig] using h,fun i f us hf _ => by simp at hf⟩
 | [],b :: l,a,n,h,hl,_ => by simp at hl
 | f :: fs,[],a,n,h,hl,_ => by simp at hl
 | f :: fs,u :: uss,a,n,h,hl,hz => by
  simp only [contig,Bool.and_eq_true,beq_iff_eq] at h
  have hu := hz 0 f u rfl rfl
  obtain ⟨h1,h2⟩ := contig_at h.2 (by simpa using hl) (fun i f' us' hf hus => hz (i + 1) f' us' (by simpa using hf) (by simpa using hus))
  refine ⟨by rw [List.flatten_cons,List.length_append,hu,← h1]; omega,fun i f' us' hf hus => ?_⟩
  cases i with
  | zero =>
   simp only [List.getElem?_cons_zero,Option.some.injEq] at hf hus
   subst hf hus
   exact ⟨[],uss.flatten,by simp,by simpa using h.1⟩
  | succ i =>
   obtain ⟨pre,suf,h3,h4⟩ := h2 i f' us' (by simpa using hf) (by simpa using hus)
   exact ⟨u ++ pre,suf,by simp [h3],by rw [h4,List.length_append,hu]; omega⟩
theorem take_mid {α : Type} (pre us suf : List α) : ((pre ++ (us ++ suf)).drop pre.length).take us.length = us := by simp
section
variable {H : Type} {enc : TypeId × Value → H} {P : Program} {w : World} {G : Nat}
def Opens (enc : TypeId × Value → H) (P : Program) (w : World) (G k : Nat) : Prop := ∀ (t : TypeId) (fuel : Nat) (cs : List Value) (x : DataW H × List MemPlace),simpleT P k t = true → DataW.trod enc P w 0 (fun _ => true) true fuel t cs = some x → ∀ L0,Good G w L0 →
  ∃ L1 us,Good G w (L0 ++ L1) ∧ Sim G (L0 ++ L1) us cs ∧ WT P G k t (L0 ++ L1) us
theorem open_parts {k : Nat} (ih : Opens enc P w G k) : ∀ (ps : List (TypeId × List Value)),(∀ p ∈ ps,simpleT P k p.1 = true ∧ ∃ fuel x,DataW.trod enc P w 0 (fun _ => true) true fuel p.1 p.2 = some x) → ∀ L0,Good G w L0 →
  ∃ (L1 : LL) (uss : List (List Value)),Good G w (L0 ++ L1) ∧ uss.length = ps.length ∧ ∀ (i : Nat) p us,ps[i]? = some p → uss[i]? = some us → Sim G (L0 ++ L1) us p.2 ∧ WT P G k p.1 (L0 ++ L1) us
 | [],_,L0,hG => ⟨[],[],by simpa using hG,rfl,fun i p us h => by simp at h⟩
 | p :: ps,hp,L0,hG => by
  obtain ⟨h1,fuel,x,h2⟩ := hp p (List.mem_cons_self ..)
  obtain ⟨L1,us,hG1,hS,hW⟩ := ih p.1 fuel p.2 x h1 h2 L0 hG
  obtain ⟨L2,uss,hG2,hl,hA⟩ := open_parts ih ps (fun q hq => hp q (List.mem_cons_of_mem _ hq)) (L0 ++ L1) hG1
  rw [List.append_assoc] at hG2 hA
  refine ⟨L1 ++ L2,us :: uss,hG2,by simp [hl],fun i q vs hq hv => ?_⟩
  cases i with
  | zero =>
   simp only [List.getElem?_cons_zero,Option.some.injEq] at hq hv
   subst hq hv
   rw [← List.append_assoc]
   exact ⟨hS.mono,hW.mono⟩
  | succ i => exact hA i q vs (by simpa using hq) (by simpa using hv)
theorem sim_flatten {L : LL} : ∀ {uss css : List (List Value)},uss.length = css.length → (∀ (i : Nat) us cs,uss[i]? = some us → css[i]? = some cs → Sim G L us cs) → Sim G L uss.flatten css.flatten
 | [],[],_,_ => ⟨rfl,fun i u h => by simp at h⟩
 | [],c :: css,h,_ => by simp at h
 | u :: uss,[],h,_ => by simp at h
 | u :: uss,c :: css,hl,h => by
  have h0 := h 0 u c rfl rfl
  have h1 := sim_flatten (uss := uss) (css := css) (by simpa using hl) fun i us cs h1 h2 => h (i + 1) us cs (by simpa using h1) (by simpa using h2)
  refine ⟨by simp [h0.1,h1.1],fun i v hv => ?_⟩
  rw [List.flatten_cons] at hv ⊢
  by_cases hi : i < u.length
  ·rw [List.getElem?_append_left hi] at hv
   obtain ⟨y,hy,hr⟩ := h0.2 i v hv
   exact ⟨y,get_app hy,hr⟩
  ·rw [List.getElem?_append_right (by omega)] at hv
   obtain ⟨y,hy,hr⟩ := h1.2 _ v hv
   exact ⟨y,by rw [List.getElem?_append_right (by have := h0.1; omega),← h0.1]; exact hy,hr⟩
theorem cells_at {base : Nat} {a : Addr} {n : Nat} {cs : List Value} (h : w.cells? base a n = some cs) : cs.length = n ∧ ∀ i,i < n → w.cell? (a.add i) = cs[i]? := by
 unfold World.cells? at h
 split at h
 ·exact ⟨by simpa using mapM_some_length h,fun i hi => mapM_some_get h i i (by simp [hi])⟩
 ·cases h
theorem cell_lt {a : Addr} {y : Value} (h : w.cell? a = some y) : a.spot = none ∧ a.block < w.heap.size := by
 unfold World.cell? at h
 split at h
 ·rename_i c e fr hb
  split at h
  ·cases h
  ·rename_i hs
   exact ⟨by simpa using hs,(Array.getElem?_eq_some_iff.1 hb).1⟩
 ·cases h
theorem flat_cell {f : Nat → Option Value} {z : Nat} : ∀ {css : List (List Value)} {b : Nat},(∀ (i : Nat) cs,css[i]? = some cs → cs.length = z ∧ ∀ q,q < z → f (b + i * z + q) = cs[q]?) → ∀ {j : Nat} {y : Value},css.flatten[j]? = some y → f (b + j) = some y
 | [],b,_,j,y,h => by simp at h
 | c :: css,b,hc,j,y,h => by
  obtain ⟨h1,h2⟩ := hc 0 c rfl
  rw [List.flatten_cons] at h
  by_cases hj : j < c.length
  ·rw [List.getElem?_append_left hj] at h
   have := h2 j (by omega)
   rw [Nat.zero_mul,Nat.add_zero] at this
   rw [this,h]
  ·rw [List.getElem?_append_right (by omega)] at h
   have := flat_cell (css := css) (b := b + z) (fun i cs hi => by
    obtain ⟨h3,h4⟩ := hc (i + 1) cs (by simpa using hi)
    refine ⟨h3,fun q hq => ?_⟩
    rw [← h4 q hq,Nat.succ_mul]
    congr 1
    omega) h
   rw [← this]
   congr 1
   omega
theorem contig_flat {P : Program} {cs : List Value} : ∀ {fs : List Field} {a n : Nat},contig P a fs n = true → cs.length = n → a ≤ n ∧ (fs.map fun f => (cs.drop f.offset).take (P.cellsOf f.type)).flatten = cs.drop a ∧ ∀ f ∈ fs,((cs.drop f.offset).take (P.cellsOf f.type)).length = P.cellsOf f.type
 | [],a,n,h,hn => by
  simp only [contig,beq_iff_eq] at h
  subst h hn
  simp
 | f :: fs,a,n,h,hn => by
  simp only [contig,Bool.and_eq_true,beq_iff_eq] at h
  obtain ⟨h1,h2,h3⟩ := contig_flat (cs := cs) h.2 hn
  refine ⟨by omega,?_,fun g hg => ?_⟩
  ·rw [List.map_cons,List.flatten_cons,h2,h.1,← List.drop_drop,List.take_append_drop]
  ·rcases List.mem_cons.1 hg with rfl | hg
   ·rw [List.length_take,List.length_drop,h.1]; omega
   ·exact h3 g hg
theorem leaf {k : Nat} {t : TypeId} {u : Value} {L0 : LL} (hG : Good G w L0) (hu : VR0 (ιL G L0) u u) (hW : WT P G k t L0 [u]) : ∃ L1 us,Good G w (L0 ++ L1) ∧ Sim G (L0 ++ L1) us [u] ∧ WT P G k t (L0 ++ L1) us := by
 refine ⟨[],[u],by rw [List.append_nil]; exact hG,⟨rfl,fun i v hv => ⟨v,hv,?_⟩⟩,by rw [List.append_nil]; exact hW⟩
 rw [List.append_nil]
 cases i with
 | zero => simp at hv; subst hv; exact hu
 | succ i => simp at hv
theorem opens (k : Nat) : Opens enc P w G k := by
 induction k with
 | zero => intro t fuel cs x h; simp [simpleT] at h
 | succ k ih =>
  intro t fuel cs x hs hd L0 hG
  unfold simpleT at hs
  split at hs
  ·rename_i ht
   obtain ⟨b,rfl,_⟩ := DataW.trod_bool ht hd
   exact leaf hG rfl (by unfold WT; rw [ht]; exact ⟨b,rfl⟩)
  ·rename_i ik ht
   obtain ⟨n,rfl,_,hw⟩ := DataW.trod_int ht hd
   exact leaf hG rfl (by unfold WT; rw [ht]; exact ⟨n,rfl,hw⟩)
  ·rename_i ht
   obtain ⟨s,rfl,_,hw⟩ := DataW.trod_string ht hd
   exact leaf hG rfl (by unfold WT; rw [ht]; exact ⟨s,rfl,hw⟩)
  ·rename_i e ht
   rcases DataW.trod_slice ht hd with ⟨rfl,_⟩ | ⟨a,len,cap,elems,rest,n,_,rfl,rfl,_,hl,hm,hlen,hel,hsp,_⟩
   ·refine ⟨[],[.slice none 0 0],by simpa using hG,⟨rfl,fun i u hu => ⟨u,hu,?_⟩⟩,?_⟩
    ·cases i with
     | zero => simp at hu; subst hu; exact ⟨none,0,rfl,Nat.le_refl _,Nat.zero_le _,.inl rfl⟩
     | succ i => simp at hu
    ·simp [WT,ht]
   ·by_cases hc0 : cap = 0
    ·subst hc0
     obtain rfl : len = 0 := by omega
     refine ⟨[],[.slice none 0 0],by simpa using hG,⟨rfl,fun i u hu => ?_⟩,?_⟩
     ·cases i with
      | zero => simp at hu; subst hu; exact ⟨_,rfl,some a,0,rfl,Nat.le_refl _,Nat.zero_le _,.inl rfl⟩
      | succ i => simp at hu
     ·simp [WT,ht]
    ·
     have hel' : ∀ i,i < len → ∃ cs,w.cells? 0 (a.add (i * P.cellsOf e)) (P.cellsOf e) = some cs ∧ ∃ x,DataW.trod enc P w 0 (fun _ => true) true n e cs = some x := by
      intro i hi
      have h1 := hel i hi
      rw [List.getElem?_eq_getElem (by omega)] at h1
      obtain ⟨cs,h2,h3⟩ := Option.bind_eq_some_iff.1 h1
      exact ⟨cs,h2,_,h3⟩
     let css : List (List Value) := (List.range len).map fun i => (w.cells? 0 (a.add (i * P.cellsOf e)) (P.cellsOf e)).getD []
     have hcss : ∀ i cs,css[i]? = some cs → i < len ∧ w.cells? 0 (a.add (i * P.cellsOf e)) (P.cellsOf e) = some cs := by
      intro i cs hi
      have hi2 := (List.getElem?_eq_some_iff.1 hi).1
      simp only [css,List.length_map,List.length_range] at hi2
      obtain ⟨cs',h1,_⟩ := hel' i hi2
      simp only [css,List.getElem?_map,List.getElem?_range hi2,Option.map_some,h1,Option.getD_some,Option.some.injEq] at hi
      rw [← hi]
      exact ⟨hi2,h1⟩
     obtain ⟨L1,uss,hG1,hul,hA⟩ := open_parts ih (css.map fun cs => (e,cs)) (by
      intro p hp
      obtain ⟨cs,hcs,rfl⟩ := List.mem_map.1 hp
      obtain ⟨i,hi⟩ := List.getElem?_of_mem hcs
      obtain ⟨h1,h2⟩ := hcss i cs hi
      obtain ⟨cs',h3,x,h4⟩ := hel' i h1
      rw [h2] at h3
      injection h3 with h3
      subst h3
      exact ⟨(Bool.and_eq_true_iff.1 hs).2,n,x,h4⟩) L0 hG
     have hul : uss.length = css.length := by simpa using hul
     have hlen2 : css.length = len := by simp [css]
     have hA' : ∀ (i : Nat) us cs,uss[i]? = some us → css[i]? = some cs → Sim G (L0 ++ L1) us cs ∧ WT P G k e (L0 ++ L1) us := fun i us cs h1 h2 => hA i (e,cs) us (by rw [List.getElem?_map,h2]; rfl) h1
     have hz : ∀ u ∈ uss,u.length = P.cellsOf e := by
      intro u hu
      obtain ⟨i,hi⟩ := List.getElem?_of_mem hu
      have hi2 := (List.getElem?_eq_some_iff.1 hi).1
      have hi3 : css[i]? = some css[i] := List.getElem?_eq_getElem (by omega)
      rw [(hA' i u _ hi hi3).1.1]
      exact (cells_at (hcss i _ hi3).2).1
     have hz0 : 0 < P.cellsOf e := of_decide_eq_true (Bool.and_eq_true_iff.1 hs).1
     have hblk : a.spot = none ∧ a.block < w.heap.size := by
      have key : ∀ cs,w.cells? 0 (a.add (0 * P.cellsOf e)) (P.cellsOf e) = some cs → a.spot = none ∧ a.block < w.heap.size := by
       intro cs h2
       obtain ⟨h3,h4⟩ := cells_at h2
       have h5 := h4 0 hz0
       rw [List.getElem?_eq_getElem (by omega),Addr.add_add,Nat.zero_mul] at h5
       exact cell_lt (a := a) h5
      by_cases h0 : len = 0
      ·obtain ⟨h1,h2⟩ := hsp rfl
       have h3 := h2 0 (by omega)
       rw [List.getElem?_eq_getElem (by omega)] at h3
       obtain ⟨cs,h4,_⟩ := Option.bind_eq_some_iff.1 h3
       subst h0
       exact key cs h4
      ·obtain ⟨cs,h2,_⟩ := hel' 0 (by omega)
       exact key cs h2
     have hlu : uss.length = len := by omega
     have hfl : uss.flatten.length = len * P.cellsOf e := by rw [flatten_len hz,hlu]
     have hsf := sim_flatten (G := G) (L := L0 ++ L1) (uss := uss) (css := css) hul fun i us cs h1 h2 => (hA' i us cs h1 h2).1
     have hidx : ((L0 ++ L1) ++ [(a.block,a.off,uss.flatten)])[(L0 ++ L1).length]? = some (a.block,a.off,uss.flatten) := by simp
     refine ⟨L1 ++ [(a.block,a.off,uss.flatten)],[.slice (some ⟨G + (L0 ++ L1).length,0,none⟩) len len],?_,⟨rfl,fun i u hu => ?_⟩,?_⟩
     ·rw [← List.append_assoc]
      intro y hy
      rcases List.mem_append.1 hy with hy | hy
      ·obtain ⟨h1,h2⟩ := hG1 y hy
       exact ⟨h1,fun j u hu => by obtain ⟨v,h3,h4⟩ := h2 j u hu; exact ⟨v,h3,VR0_mono extL h4⟩⟩
      ·rw [List.mem_singleton.1 hy]
       refine ⟨hblk.2,fun j u hu => ?_⟩
       obtain ⟨v,h3,h4⟩ := hsf.2 j u hu
       refine ⟨v,?_,VR0_mono extL h4⟩
       have := flat_cell (f := fun q => w.cell? (a.add q)) (z := P.cellsOf e) (css := css) (b := 0) (fun i cs hi => by
        obtain ⟨h5,h6⟩ := cells_at (hcss i cs hi).2
        refine ⟨h5,fun q hq => ?_⟩
        rw [← h6 q hq,Addr.add_add,Nat.zero_add]) h3
       rw [← this]
       obtain ⟨ab,ao,as⟩ := a
       obtain rfl : as = none := hblk.1
       rw [add_plain,Nat.zero_add]
     ·cases i with
      | zero =>
       simp only [List.getElem?_cons_zero,Option.some.injEq] at hu
       subst hu
       refine ⟨_,rfl,some a,cap,rfl,hl,hm,.inr ⟨_,rfl,?_,rfl,?_,fun _ => hm⟩⟩
       ·show G + (L0 ++ L1).length < G + (L0 ++ (L1 ++ [(a.block,a.off,uss.flatten)])).length
        simp only [List.length_append,List.length_singleton]; omega
       ·rw [← List.append_assoc]
        simp only [tr,ιL]
        rw [if_neg (by omega),show G + (L0 ++ L1).length - G = (L0 ++ L1).length by omega,hidx]
        obtain ⟨ab,ao,as⟩ := a
        simp only at hblk
        rw [hblk.1]
        rfl
      | succ i => simp at hu
     ·unfold WT
      rw [ht]
      refine .inr ⟨(L0 ++ L1).length,len,a.block,a.off,uss.flatten,rfl,by rw [← List.append_assoc]; exact hidx,Nat.le_trans hl hm,hfl,fun j hj => ?_⟩
      have hj2 : uss[j]? = some uss[j] := List.getElem?_eq_getElem (by omega)
      have hj3 : css[j]? = some css[j] := List.getElem?_eq_getElem (by omega)
      rw [flatten_at hz hj2,← List.append_assoc]
      exact (hA' j _ _ hj2 hj3).2.mono
  ·rename_i fs ht
   obtain ⟨xs,n,_,_,hcl,hxl,hf⟩ := DataW.trod_struct ht hd
   rw [Bool.and_eq_true_iff] at hs
   obtain ⟨_,hfl,hpl⟩ := contig_flat (cs := cs) hs.1 hcl
   have hsf := List.all_eq_true.1 hs.2
   obtain ⟨L1,uss,hG1,hul,hA⟩ := open_parts ih (fs.toList.map fun f => (f.type,(cs.drop f.offset).take (P.cellsOf f.type))) (by
    intro p hp
    obtain ⟨f,hfm,rfl⟩ := List.mem_map.1 hp
    obtain ⟨i,hi⟩ := List.getElem?_of_mem hfm
    have h1 := hf i f (by simpa using hi)
    rw [List.getElem?_eq_getElem (by have := (List.getElem?_eq_some_iff.1 hi).1; rw [hxl]; simpa using this)] at h1
    exact ⟨hsf f hfm,n,_,h1⟩) L0 hG
   have hul : uss.length = fs.toList.length := by simpa using hul
   have hA' : ∀ (i : Nat) f us,fs.toList[i]? = some f → uss[i]? = some us → Sim G (L0 ++ L1) us ((cs.drop f.offset).take (P.cellsOf f.type)) ∧ WT P G k f.type (L0 ++ L1) us := fun i f us h1 h2 => hA i _ us (by rw [List.getElem?_map,h1]; rfl) h2
   have hlens : ∀ (i : Nat) (f : Field) (us : List Value),fs.toList[i]? = some f → uss[i]? = some us → us.length = P.cellsOf f.type := fun i f us h1 h2 => by
    rw [(hA' i f us h1 h2).1.1]; exact hpl f (List.mem_of_getElem? h1)
   obtain ⟨hc1,hc2⟩ := contig_at hs.1 hul hlens
   have hsim := sim_flatten (G := G) (L := L0 ++ L1) (uss := uss) (css := fs.toList.map fun f => (cs.drop f.offset).take (P.cellsOf f.type)) (by simpa using hul) (fun i us cs' h1 h2 => by
    rw [List.getElem?_map] at h2
    obtain ⟨f,h3,rfl⟩ := Option.map_eq_some_iff.1 h2
    exact (hA' i f us h3 h1).1)
   rw [hfl,List.drop_zero] at hsim
   refine ⟨L1,uss.flatten,hG1,hsim,?_⟩
   unfold WT
   rw [ht]
   refine ⟨by omega,fun i f hif => ?_⟩
   have h1 : fs.toList[i]? = some f := by simpa using hif
   have hiu : i < uss.length := by have := (List.getElem?_eq_some_iff.1 h1).1; omega
   have h2 : uss[i]? = some uss[i] := List.getElem?_eq_getElem hiu
   obtain ⟨pre,suf,h3,h4⟩ := hc2 i f _ h1 h2
   have h5 := hlens i f _ h1 h2
   rw [h3,h4,Nat.zero_add,← h5,take_mid]
   exact (hA' i f _ h1 h2).2
  ·cases hs
end
theorem sim_one {G : Nat} {L : LL} {us : List Value} {y : Value} (h : Sim G L us [y]) : ∃ u,us = [u] ∧ VR0 (ιL G L) u y := by
 obtain ⟨h1,h2⟩ := h
 match us,h1,h2 with
 | [u],_,h2 =>
  obtain ⟨v,h3,h4⟩ := h2 0 u rfl
  simp at h3
  exact ⟨u,rfl,h3 ▸ h4⟩
theorem pick_list {α : Type} {Q : Nat → α → Prop} : ∀ (n : Nat),(∀ j < n,∃ x,Q j x) → ∃ l : List α,l.length = n ∧ ∀ (j : Nat) x,l[j]? = some x → Q j x
 | 0,_ => ⟨[],rfl,fun j x h => by simp at h⟩
 | n + 1,h => by
  obtain ⟨l,h1,h2⟩ := pick_list n fun j hj => h j (by omega)
  obtain ⟨x,hx⟩ := h n (by omega)
  refine ⟨l ++ [x],by simp [h1],fun j y hy => ?_⟩
  by_cases hj : j < l.length
  ·rw [List.getElem?_append_left hj] at hy; exact h2 j y hy
  ·rw [List.getElem?_append_right (by omega)] at hy
   have : j = n := by have := (List.getElem?_eq_some_iff.1 hy).1; simp at this; omega
   subst this
   simp [h1] at hy
   rw [← hy]; exact hx
theorem WT.rows {P : Program} {G k : Nat} {t e : TypeId} {L : LL} {us : List Value} {α : Type} {f : α → List Value} {Q : α → Prop} {z : Nat} (ht : P.underlying t = some (.slice e)) (hz : P.cellsOf e = z) (hf : ∀ us,WT P G k e L us → ∃ x,us = f x ∧ Q x) (h : WT P G (k + 1) t L us) :
  ∃ p l,us = [vS p l.length] ∧ Rows (stL G L) z f p l ∧ l.length ≤ maxLen ∧ ∀ x ∈ l,Q x := by
 unfold WT at h
 rw [ht] at h
 rcases h with rfl | ⟨i,n,b,o,cells,rfl,h2,h3,h4,h5⟩
 ·exact ⟨none,[],rfl,.inl rfl,Nat.zero_le _,fun x hx => by cases hx⟩
 ·obtain ⟨l,hl,hq⟩ := pick_list (Q := fun j x => (cells.drop (j * P.cellsOf e)).take (P.cellsOf e) = f x ∧ Q x) n fun j hj => hf _ (h5 j hj)
  refine ⟨_,l,by rw [hl],.inr ⟨G + i,0,⟨false,0,cells⟩,rfl,?_,?_,fun j x hx => ?_⟩,by omega,fun x hx => ?_⟩
  ·simp only [stL]
   rw [if_neg (by omega),show G + i - G = i by omega,h2]
   rfl
  ·show G + i < G + L.length
   have := (List.getElem?_eq_some_iff.1 h2).1
   omega
  ·rw [Nat.zero_add,← hz]; exact (hq j x hx).1
  ·obtain ⟨j,hj⟩ := List.getElem?_of_mem hx
   exact (hq j x hj).2
theorem WT.int {P : Program} {G k : Nat} {t : TypeId} {i : IntKind} {L : LL} {us : List Value} (ht : P.underlying t = some (.int i)) (h : WT P G (k + 1) t L us) : ∃ n,us = [.int i n] ∧ (Lit.int i n).wf = true := by
 unfold WT at h
 rw [ht] at h
 exact h
def AR (ι : Inj) : List Value → List Value → Prop
 | [],[] => True
 | a :: as,c :: cs => VR ι a c ∧ AR ι as cs
 | _,_ => False
theorem AR.get {ι : Inj} : ∀ {as cs : List Value},AR ι as cs → as.length = cs.length ∧ ∀ (i : Nat) (x : Value),as[i]? = some x → ∃ y : Value,cs[i]? = some y ∧ VR ι x y
 | [],[],_ => ⟨rfl,fun i x h => by simp at h⟩
 | [],c :: cs,h => h.elim
 | a :: as,[],h => h.elim
 | a :: as,c :: cs,h => by
  obtain ⟨h1,h2⟩ := AR.get h.2
  refine ⟨by simp [h1],fun i x hx => ?_⟩
  cases i with
  | zero => simp at hx; exact ⟨c,rfl,hx ▸ h.1⟩
  | succ i => obtain ⟨y,h3,h4⟩ := h2 i x (by simpa using hx); exact ⟨y,by simpa using h3,h4⟩
theorem AC.ext {P : Program} {LT : FuncId → FInfo} {ext : String → List Value → St → Option (Value × St)} {f : FuncId} {args : List Value} {st st' : St} {R : Value → St → Prop} {fn : Func} {v : Value} (hf : P.funcs[f]? = some fn) (hb : fn.body = none) (he : ext fn.name args st = some (v,st')) (hR : R v st') : AC P LT ext f args st R :=
 ⟨1,v,st',by simp [acall,hf,hb,he],hR⟩
theorem AC.extB {P : Program} {LT : FuncId → FInfo} {ext : String → List Value → St → Option (Value × St)} {f : FuncId} {args : List Value} {st st' : St} {R : Value → St → Prop} {fn : Func} {c : Code} {v : Value} (hf : P.funcs[f]? = some fn) (hb : fn.body = some c) (hno : fnOk P (LT f) fn c = false) (hname : ¬ fn.name = "runtime.NumGoroutine") (he : ext fn.name args st = some (v, st')) (hR : R v st') : AC P LT ext f args st R :=
 ⟨1,v,st',by
  simp only [acall,hf,hb]
  rw [if_neg (fun h => by rw [hno] at h; cases h.1),if_neg hname]
  exact he,hR⟩
/-! Short words -/
section
variable {P : Program} {LT : FuncId → FInfo} {ext : String → List Value → St → Option (Value × St)} {i : FInfo} {D : DD} {ρ : Tm} {lo : Lo} {K : Exit → Tm → Lo → St → Prop}
abbrev Sn : Value := .slice none 0 0
abbrev Zn : List Value := [vI 0,vI 0,.slice none 0 0,.slice none 0 0,.slice none 0 0,vI 0,vI 0,vI 0,.slice none 0 0,.slice none 0 0,.slice none 0 0,.slice none 0 0,vI 0,vI 0,.slice none 0 0,vI 0,vI 0,vI 0,.slice none 0 0]
abbrev Ml (t g : Nat) : Nat × Value := (t,vL t 0 g)
def hasT (ρ : Tm) : List (Nat × Value) → List Value
 | [] => []
 | (t,_) :: l => ρ t :: hasT ρ l
def hasV : List (Nat × Value) → List Value
 | [] => []
 | (_,v) :: l => v :: hasV l
theorem Hz {ρ : Tm} : ∀ {l : List (Nat × Value)},hasT ρ l = hasV l → Has ρ l
 | [],_ => trivial
 | (_,_) :: _,h => ⟨(List.cons.inj h).1,Hz (List.cons.inj h).2⟩
def lhT (lo : Lo) : List (Nat × Nat × List Value) → List (Option (Nat × List Value))
 | [] => []
 | (t,_) :: l => lo.loc t :: lhT lo l
def lhV : List (Nat × Nat × List Value) → List (Option (Nat × List Value))
 | [] => []
 | (_,v) :: l => some v :: lhV l
theorem Lz {lo : Lo} : ∀ {l : List (Nat × Nat × List Value)},lhT lo l = lhV l → LHas lo l
 | [],_ => trivial
 | (_,_) :: _,h => ⟨(List.cons.inj h).1,Lz (List.cons.inj h).2⟩
theorem Cm {c : Code} (g : Nat) (st : St) (L : List (Nat × Value)) (M : List (Nat × Nat × List Value)) (hK : ∀ ρ0 f,cx P LT ext i D c (ov L ρ0) ⟨lfind M f,g⟩ st K) (h : hasT ρ L = hasV L := by exact rfl) (hM : lhT lo M = lhV M := by exact rfl) (hg : lo.gen = g := by exact rfl) : AX P LT ext i D c ρ lo st K := AW.cutM g st L M (Hz h) (Lz hM) hg hK
theorem Cu {c : Code} (lo : Lo) (st : St) (L : List (Nat × Value)) (hK : ∀ ρ0,cx P LT ext i D c (ov L ρ0) lo st K) (h : hasT ρ L = hasV L := by exact rfl) : AX P LT ext i D c ρ lo st K := AW.cut lo st L (Hz h) hK
theorem Nx {α : Sort _} {a : α} {P : α → Prop} (h : P a) : ∃ v,some a = some v ∧ P v := ⟨a,rfl,h⟩
theorem Rt {a : List Value} {A : Prop} {P : List Value → Prop} (h : P a) : (Exit.ret = Exit.ret ∨ A) ∧ ∃ vs,some a = some vs ∧ P vs := ⟨.inl rfl,a,rfl,h⟩
theorem Od {ls : List Tmp} {call : ACallT} {o : Oper} {e : Operand → Value} {lo : Lo} {st : St} {t : TypeId} {x : Operand} {b off g : Nat} {cs : List Value} {v : Value} (h : (o.op,e x,lo.loc b,aload P t cs off) = (.load t x,.pointer (Option.some ⟨b,off,Option.some g⟩),Option.some (g,cs),Option.some v)) : aoper P ls call o e lo st = Option.some (v,lo,st) :=
 op_ldo (congrArg (·.1) h) (congrArg (·.2.1) h) (congrArg (·.2.2.1) h) (congrArg (·.2.2.2) h)
theorem Os {ls : List Tmp} {call : ACallT} {o : Oper} {e : Operand → Value} {lo : Lo} {st : St} {t : TypeId} {x u : Operand} {b off g : Nat} {cs : List Value} {v : Value} (h : (o.op,e x,e u,lo.loc b,tsize P t,v.cells.toList.all isCell,Nat.ble (off + v.cells.toList.length) cs.length) = (.store t x u,.pointer (Option.some ⟨b,off,Option.some g⟩),v,Option.some (g,cs),Option.some v.cells.toList.length,true,true)) : aoper P ls call o e lo st = Option.some (undef,lo.set b g (splice cs off v.cells.toList),st) :=
 op_sto (congrArg (·.1) h) (congrArg (·.2.1) h) (congrArg (·.2.2.1) h) (congrArg (·.2.2.2.1) h) (congrArg (·.2.2.2.2.1) h) (congrArg (·.2.2.2.2.2.1) h) (congrArg (·.2.2.2.2.2.2) h)
theorem Lb {a b : Nat} (h : Nat.ble a b = true) : a ≤ b := Nat.le_of_ble_eq_true h
theorem Ci {a b : Int} (h : a = b) : Value.int .i64 a = Value.int .i64 b := congrArg _ h
end
end Go.Proofs.YteabadoaeadcgaaDoor.AM
