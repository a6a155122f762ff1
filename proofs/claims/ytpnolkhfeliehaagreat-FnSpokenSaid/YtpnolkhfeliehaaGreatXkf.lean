/- Part 6 of the texts on which the law's proof rests. -/
import Derived.Test.YtpnolkhfeliehaaGreatXke
namespace Go.Proofs.YtpnolkhfeliehaaGreat.AM
open Go Go.Proofs
set_option linter.unusedVariables false
set_option linter.unusedSimpArgs false
theorem cb_eq : ∀ {a b : List UInt8},Lib.compareBytes a b = 0 → a = b
 | [],[],_ => rfl
 | [],b :: bs,h => by simp [Lib.compareBytes] at h
 | a :: l,[],h => by simp [Lib.compareBytes] at h
 | a :: l,b :: bs,h => by
  unfold Lib.compareBytes at h
  by_cases h1 : a < b
  ·simp [h1] at h
  ·by_cases h2 : b < a
   ·simp [h1,h2] at h
   ·simp [h1,h2] at h
    rw [UInt8.le_antisymm (UInt8.not_lt.1 h2) (UInt8.not_lt.1 h1),cb_eq h]
theorem cb_trans : ∀ {a b c : List UInt8},Lib.compareBytes a b ≤ 0 → Lib.compareBytes b c ≤ 0 → Lib.compareBytes a c ≤ 0
 | [],b,[],_,_ => by simp [Lib.compareBytes]
 | [],b,c :: cs,_,_ => by simp [Lib.compareBytes]
 | a :: l,[],c,h,_ => by simp [Lib.compareBytes] at h
 | a :: l,b :: bs,[],_,h => by simp [Lib.compareBytes] at h
 | a :: l,b :: bs,c :: cs,h,k => by
  have ih := @cb_trans l bs cs
  unfold Lib.compareBytes at h k ⊢
  by_cases h1 : a < b
  ·by_cases k1 : b < c
   ·simp [UInt8.lt_trans h1 k1]
   ·by_cases k2 : c < b
    ·simp [k1,k2] at k
    ·have he : b = c := UInt8.le_antisymm (UInt8.not_lt.1 k2) (UInt8.not_lt.1 k1)
     subst he
     simp [h1]
  ·by_cases h2 : b < a
   ·simp [h1,h2] at h
   ·have he : a = b := UInt8.le_antisymm (UInt8.not_lt.1 h2) (UInt8.not_lt.1 h1)
    subst he
    by_cases k1 : a < c
    ·simp [k1]
    ·by_cases k2 : c < a
     ·simp [k1,k2] at k
     ·simp [h1] at h
      simp [k1,k2] at k ⊢
      exact ih h k
theorem entCmp_le (a b : Ent) : entCmp a b ≤ 0 ↔ (a.inc < b.inc ∨ (a.inc = b.inc ∧ (a.rank < b.rank ∨ (a.rank = b.rank ∧ (a.beat < b.beat ∨ (a.beat = b.beat ∧ (a.ver < b.ver ∨ (a.ver = b.ver ∧ cmpB a.data b.data ≤ 0)))))))) := by
 unfold entCmp firstNZ firstNZ firstNZ firstNZ firstNZ firstNZ cmpI
 repeat' split
 all_goals omega
theorem entCmp_eq {a b : Ent} (h : entCmp a b = 0) : a = b := by
 have h1 := (entCmp_le a b).1 (by omega)
 have h2 := (entCmp_le b a).1 (by rw [entCmp_neg]; omega)
 have hn : cmpB b.data a.data = - cmpB a.data b.data := compareBytes_neg _ _
 have hd : a.data = b.data := by
  have : cmpB a.data b.data = 0 := by omega
  have := cb_eq this
  obtain ⟨_,_,_,_,⟨⟨x⟩⟩⟩ := a
  obtain ⟨_,_,_,_,⟨⟨y⟩⟩⟩ := b
  simp only at this
  rw [this]
 obtain ⟨i,r,be,v,d⟩ := a
 obtain ⟨i2,r2,be2,v2,d2⟩ := b
 simp only at h1 h2 hn hd
 subst hd
 obtain ⟨rfl,rfl,rfl,rfl⟩ : i = i2 ∧ r = r2 ∧ be = be2 ∧ v = v2 := by omega
 rfl
theorem entLe_trans {a b c : Ent} (h : entCmp a b ≤ 0) (k : entCmp b c ≤ 0) : entCmp a c ≤ 0 := by
 rw [entCmp_le] at h k ⊢
 have ht : cmpB a.data b.data ≤ 0 → cmpB b.data c.data ≤ 0 → cmpB a.data c.data ≤ 0 := cb_trans
 omega
theorem entMax_le {a b : Ent} (h : entCmp a b ≤ 0) : entMax a b = b := by
 unfold entMax
 split
 ·rfl
 ·exact entCmp_eq (by omega)
theorem entMax_ge {a b : Ent} (h : 0 ≤ entCmp a b) : entMax a b = a := by
 unfold entMax
 rw [if_neg (by omega)]
theorem entMax_comm (a b : Ent) : entMax a b = entMax b a := by
 rcases Int.le_total (entCmp a b) 0 with h | h
 ·rw [entMax_le h,entMax_ge (by rw [entCmp_neg]; omega)]
 ·rw [entMax_ge h,entMax_le (by rw [entCmp_neg]; omega)]
theorem entMax_self (a : Ent) : entMax a a = a := by unfold entMax; split <;> rfl
theorem entLe_max (a b : Ent) : entCmp a (entMax a b) ≤ 0 ∧ entCmp b (entMax a b) ≤ 0 := by
 have hs : ∀ x : Ent,entCmp x x ≤ 0 := fun x => by have := entCmp_neg x x; omega
 rcases Int.le_total (entCmp a b) 0 with h | h
 ·rw [entMax_le h]; exact ⟨h,hs b⟩
 ·rw [entMax_ge h]; exact ⟨hs a,by rw [entCmp_neg]; omega⟩
theorem entMax_lub {a b c : Ent} (h : entCmp a c ≤ 0) (k : entCmp b c ≤ 0) : entCmp (entMax a b) c ≤ 0 := by
 rcases Int.le_total (entCmp a b) 0 with h1 | h1
 ·rw [entMax_le h1]; exact k
 ·rw [entMax_ge h1]; exact h
theorem ent_antisymm {a b : Ent} (h : entCmp a b ≤ 0) (k : entCmp b a ≤ 0) : a = b := entCmp_eq (by have := entCmp_neg a b; omega)
theorem entMax_assoc (a b c : Ent) : entMax (entMax a b) c = entMax a (entMax b c) :=
 ent_antisymm (entMax_lub (entMax_lub (entLe_max _ _).1 (entLe_trans (entLe_max b c).1 (entLe_max _ _).2)) (entLe_trans (entLe_max b c).2 (entLe_max _ _).2))
  (entMax_lub (entLe_trans (entLe_max a b).1 (entLe_max _ _).1) (entMax_lub (entLe_trans (entLe_max a b).2 (entLe_max _ _).1) (entLe_max _ _).2))
theorem entMax_or (a b : Ent) : entMax a b = a ∨ entMax a b = b := by unfold entMax; split; exact .inr rfl; exact .inl rfl
theorem entMax_inc (a b : Ent) : (entMax a b).inc = max a.inc b.inc := by
 rcases Int.le_total (entCmp a b) 0 with h | h
 ·have := (entCmp_le a b).1 h
  rw [entMax_le h]; omega
 ·have := (entCmp_le b a).1 (by rw [entCmp_neg]; omega)
  rw [entMax_ge h]; omega
def vE (e : Ent) : Prop := e = zEnt ∨ entOk e
theorem vE.max {a b : Ent} (h : vE a) (k : vE b) : vE (entMax a b) := by
 rcases entMax_or a b with e | e <;> rw [e] <;> assumption
theorem vE.inc {a : Ent} (h : vE a) : 0 ≤ a.inc := by
 rcases h with rfl | h
 ·exact Int.le_refl _
 ·have := h.1.1; omega
theorem vE.zero {a : Ent} (h : vE a) (h0 : a.inc ≤ 0) : a = zEnt := by
 rcases h with h | h
 ·exact h
 ·have := h.1.1; omega
theorem entMax_zl {a : Ent} (h : vE a) : entMax zEnt a = a := by
 rcases h with rfl | h
 ·exact entMax_zz
 ·exact (entMax_zero h.1.1).2
def cut (f : Int) (e : Ent) : Ent := if e.inc > f then e else zEnt
theorem cut_z {f : Int} : cut f zEnt = zEnt := by unfold cut; split <;> rfl
theorem cut_max {f g : Int} {m e : Ent} (hm : vE m) (he : vE e) (hf : f ≤ g) : cut g (entMax (cut f m) e) = cut g (entMax m e) := by
 by_cases h : m.inc > f
 ·rw [show cut f m = m by unfold cut; rw [if_pos h]]
 ·rw [show cut f m = zEnt by unfold cut; rw [if_neg h],entMax_zl he]
  have hi := entMax_inc m e
  unfold cut
  rcases entMax_or m e with k | k
  ·rw [k] at hi ⊢
   rw [if_neg (by omega),if_neg (by omega)]
  ·rw [k]
theorem fmap_congr {α β : Type} {f g : α → Option β} {l : List α} (h : ∀ x ∈ l,f x = g x) : l.filterMap f = l.filterMap g := by
 induction l with
 | nil => rfl
 | cons a l ih => rw [List.filterMap_cons,List.filterMap_cons,h a (List.mem_cons_self ..),ih fun x hx => h x (List.mem_cons_of_mem _ hx)]
theorem sorted_of {α : Type} {id : α → Int} {l : List α} (h : ∀ (j : Nat) x,l[j]? = some x → ∀ y,0 < j → l[j - 1]? = some y → id y < id x) : l.Pairwise fun a b => id a < id b := by
 rw [List.pairwise_iff_getElem]
 intro i j hi hj hij
 induction j with
 | zero => omega
 | succ j ih =>
  have h1 := h (j + 1) l[j + 1] (List.getElem?_eq_getElem hj) l[j] (Nat.succ_pos j) (List.getElem?_eq_getElem (by omega))
  rcases Nat.lt_or_ge i j with h2 | h2
  ·have := ih (by omega) h2; omega
  ·have : i = j := by omega
   subst this; exact h1
theorem canon {α : Type} (id : α → Int) : ∀ (m k : Nat) (l : List α),(l.Pairwise fun a b => id a < id b) → (∀ x ∈ l,(k : Int) ≤ id x ∧ id x < ((k + m : Nat) : Int)) → l = (List.range' k m).filterMap fun (j : Nat) => l.find? fun x => decide (id x = (j : Int))
 | 0,k,l,_,h => by
  cases l with
  | nil => rfl
  | cons x l => have := h x (List.mem_cons_self ..); omega
 | m + 1,k,[],_,_ => by simp
 | m + 1,k,x :: l,hp,h => by
  have hx := h x (List.mem_cons_self ..)
  obtain ⟨h1,h2⟩ := List.pairwise_cons.1 hp
  rw [List.range'_succ,List.filterMap_cons]
  by_cases hk : id x = (k : Int)
  ·have hf : (x :: l).find? (fun x => decide (id x = (k : Int))) = some x := by rw [List.find?_cons,decide_eq_true hk]
   rw [hf]
   simp only
   have ih := canon id m (k + 1) l h2 fun y hy => by have := h1 y hy; have := h y (List.mem_cons_of_mem _ hy); omega
   congr 1
   rw [ih]
   refine fmap_congr fun j hj => ?_
   have hj := List.mem_range'_1.1 hj
   rw [← ih,List.find?_cons,decide_eq_false (by omega)]
  ·have ih := canon id m (k + 1) (x :: l) hp fun y hy => by
    have h3 := h y hy
    rcases List.mem_cons.1 hy with rfl | hy
    ·omega
    ·have := h1 y hy; omega
   have hf : (x :: l).find? (fun x => decide (id x = (k : Int))) = none := by
    rw [List.find?_eq_none]
    intro y hy
    simp only [decide_eq_true_eq]
    rcases List.mem_cons.1 hy with rfl | hy
    ·exact hk
    ·have := h1 y hy; omega
   rw [hf]
   exact ih
theorem find_item (l : List Itm) (j : Int) : (l.find? fun x => decide (x.id = j)) = if (entP l j).2 = true then some ⟨j,(entP l j).1⟩ else none := by
 induction l with
 | nil => rfl
 | cons x l ih =>
  rw [List.find?_cons,entP]
  by_cases h : x.id = j
  ·rw [decide_eq_true h,if_pos h]
   obtain ⟨i,e⟩ := x
   simp only at h
   subst h; rfl
  ·rw [decide_eq_false h,if_neg h]; exact ih
theorem find_floor (l : List Flr) (j : Int) (hl : ∀ x ∈ l,1 ≤ x.inc) : (l.find? fun x => decide (x.id = j)) = if floorOf l j > 0 then some ⟨j,floorOf l j⟩ else none := by
 induction l with
 | nil => rfl
 | cons x l ih =>
  rw [List.find?_cons,floorOf]
  by_cases h : x.id = j
  ·rw [decide_eq_true h,if_pos h]
   have := hl x (List.mem_cons_self ..)
   rw [if_pos (by omega)]
   obtain ⟨i,e⟩ := x
   simp only at h
   subst h; rfl
  ·rw [decide_eq_false h,if_neg h]; exact ih fun y hy => hl y (List.mem_cons_of_mem _ hy)
theorem items_canon {s : Sta} (h : stateOk s) : s.items = (List.range 5).filterMap fun (j : Nat) => if (entP s.items (j : Int)).2 = true then some (⟨(j : Int),(entP s.items (j : Int)).1⟩ : Itm) else none := by
 have := canon (fun x : Itm => x.id) 5 0 s.items (sorted_of fun j x hx => (h.1 j x hx).2.2.2) fun x hx => by
  obtain ⟨j,hj⟩ := List.getElem?_of_mem hx
  have := (h.1 j x hj).1
  omega
 rw [List.range_eq_range',this]
 refine fmap_congr fun j _ => ?_
 rw [← this]
 exact find_item _ _
theorem floors_canon {l : List Flr} (h : marksOk l) : l = (List.range 5).filterMap fun (j : Nat) => if floorOf l (j : Int) > 0 then some (⟨(j : Int),floorOf l (j : Int)⟩ : Flr) else none := by
 have := canon (fun x : Flr => x.id) 5 0 l (sorted_of fun j x hx => (h j x hx).2.2) fun x hx => by
  obtain ⟨j,hj⟩ := List.getElem?_of_mem hx
  have := (h j x hj).1
  omega
 rw [List.range_eq_range']
 conv => lhs; rw [this]
 refine fmap_congr fun j _ => ?_
 exact find_floor _ _ fun x hx => by
  obtain ⟨j,hj⟩ := List.getElem?_of_mem hx
  exact (h j x hj).2.1.1
def gE (s : Sta) (i : Int) : Ent := (entP s.items i).1
def gF (s : Sta) (i : Int) : Int := floorOf s.floors i
theorem gE_v {s : Sta} (h : stateOk s) (i : Int) : vE (gE s i) := entP_cases h.1 i
theorem gF_pos {s : Sta} (h : stateOk s) (i : Int) : 0 ≤ gF s i ∧ gF s i ≤ 1000 := floorOf_pos h.2 i
theorem gE_in {s : Sta} (h : stateOk s) (i : Int) : (entP s.items i).2 = true ↔ 1 ≤ (gE s i).inc := by
 unfold gE
 rcases hb : entP s.items i with ⟨e,b⟩
 cases b with
 | false => rw [entP_none (e := e) (id := i) hb.symm]; simp [zEnt]
 | true =>
  have := (ent_ok h (e := e) (id := i) hb.symm).1.1
  simp only [true_iff]; exact this
theorem gE_cut {s : Sta} (h : stateOk s) (i : Int) : cut (gF s i) (gE s i) = gE s i := by
 unfold gE gF
 rcases hb : entP s.items i with ⟨e,b⟩
 cases b with
 | false => rw [entP_none (e := e) (id := i) hb.symm]; exact cut_z
 | true =>
  obtain ⟨j,x,h1,h2,h3⟩ := entP_mem (e := e) (id := i) hb.symm
  have := (h.1 j x h1).2.2.1
  rw [h3,h2] at this
  unfold cut
  rw [if_pos this]
theorem sta_eq {a b : Sta} (ha : stateOk a) (hb : stateOk b) (h : ∀ j : Nat,j < 5 → gE a (j : Int) = gE b (j : Int) ∧ gF a (j : Int) = gF b (j : Int)) : a = b := by
 have h1 : a.items = b.items := by
  rw [items_canon ha,items_canon hb]
  refine fmap_congr fun j hj => ?_
  have hj := (h j (List.mem_range.1 hj)).1
  have e1 : (entP a.items (j : Int)).2 = (entP b.items (j : Int)).2 := by
   rw [Bool.eq_iff_iff,gE_in ha,gE_in hb,hj]
  rw [e1]
  unfold gE at hj
  rw [hj]
 have h2 : a.floors = b.floors := by
  rw [floors_canon ha.2,floors_canon hb.2]
  refine fmap_congr fun j hj => ?_
  have hj := (h j (List.mem_range.1 hj)).2
  unfold gF at hj
  rw [hj]
 obtain ⟨ai,af⟩ := a
 obtain ⟨bi,bf⟩ := b
 simp only at h1 h2
 rw [h1,h2]
theorem entP_app (l m : List Itm) (i : Int) : entP (l ++ m) i = if (entP l i).2 = true then entP l i else entP m i := by
 induction l with
 | nil => rfl
 | cons x l ih =>
  rw [List.cons_append,entP,entP]
  by_cases h : x.id = i
  ·rw [if_pos h,if_pos h]; rfl
  ·rw [if_neg h,if_neg h]; exact ih
theorem entP_pick (c : Int → Prop) [DecidablePred c] (g : Int → Ent) (id : Nat) : ∀ n,entP ((List.range n).filterMap fun (j : Nat) => if c (j : Int) then some (⟨(j : Int),g (j : Int)⟩ : Itm) else none) (id : Int) = if id < n ∧ c (id : Int) then (g (id : Int),true) else (zEnt,false)
 | 0 => by simp [entP]
 | n + 1 => by
  rw [List.range_succ,List.filterMap_append,entP_app,entP_pick c g id n]
  by_cases h1 : id < n ∧ c (id : Int)
  ·rw [if_pos h1,if_pos rfl,if_pos ⟨by omega,h1.2⟩]
  ·rw [if_neg h1,if_neg (by simp)]
   by_cases hn : c (n : Int)
   ·simp only [List.filterMap_cons,List.filterMap_nil,hn,if_true,entP]
    by_cases h2 : n = id
    ·subst h2; rw [if_pos rfl,if_pos ⟨Nat.lt_succ_self _,hn⟩]
    ·rw [if_neg (by omega),if_neg (fun h => h1 ⟨by omega,h.2⟩)]
   ·simp only [List.filterMap_cons,List.filterMap_nil,hn,if_false,entP]
    rw [if_neg]
    rintro ⟨h3,h4⟩
    rcases Nat.lt_or_ge id n with h5 | h5
    ·exact h1 ⟨h5,h4⟩
    ·have : id = n := by omega
     subst this; exact hn h4
theorem gF_join {a b : Sta} (ha : stateOk a) (hb : stateOk b) {j : Nat} (h : j < 5) : gF (joinF a b 5) (j : Int) = max (gF a (j : Int)) (gF b (j : Int)) := floorOf_join ha.2 hb.2 h
theorem gE_join (a b : Sta) {j : Nat} (h : j < 5) : gE (joinF a b 5) (j : Int) = cut (max (gF a (j : Int)) (gF b (j : Int))) (entMax (gE a (j : Int)) (gE b (j : Int))) := by
 show (entP ((List.range 5).filterMap fun (j : Nat) => if (topE a b (j : Int)).inc > topF a b (j : Int) then some (⟨(j : Int),topE a b (j : Int)⟩ : Itm) else none) (j : Int)).1 = _
 rw [entP_pick (fun i => (topE a b i).inc > topF a b i) (fun i => topE a b i) j 5]
 unfold cut
 by_cases h1 : (topE a b (j : Int)).inc > topF a b (j : Int)
 ·rw [if_pos ⟨h,h1⟩]; exact (if_pos h1).symm
 ·rw [if_neg (fun k => h1 k.2)]; exact (if_neg h1).symm
theorem join_comm {a b : Sta} (ha : stateOk a) (hb : stateOk b) : joinF a b 5 = joinF b a 5 :=
 sta_eq (stateOk_join ha hb) (stateOk_join hb ha) fun j hj => by
  rw [gE_join a b hj,gE_join b a hj,gF_join ha hb hj,gF_join hb ha hj,entMax_comm,Int.max_comm]
  exact ⟨rfl,rfl⟩
theorem join_assoc {a b c : Sta} (ha : stateOk a) (hb : stateOk b) (hc : stateOk c) : joinF (joinF a b 5) c 5 = joinF a (joinF b c 5) 5 :=
 sta_eq (stateOk_join (stateOk_join ha hb) hc) (stateOk_join ha (stateOk_join hb hc)) fun j hj => by
  have va := gE_v ha (j : Int)
  have vb := gE_v hb (j : Int)
  have vc := gE_v hc (j : Int)
  rw [gE_join _ _ hj,gE_join _ _ hj,gE_join _ _ hj,gE_join _ _ hj,gF_join (stateOk_join ha hb) hc hj,gF_join ha (stateOk_join hb hc) hj,gF_join ha hb hj,gF_join hb hc hj]
  refine ⟨?_,Int.max_assoc ..⟩
  rw [cut_max (va.max vb) vc (Int.le_max_left ..),entMax_comm (gE a (j : Int)) (cut _ _),cut_max (vb.max vc) va (Int.le_max_right ..),entMax_comm (entMax (gE b (j : Int)) (gE c (j : Int))) (gE a (j : Int)),entMax_assoc,Int.max_assoc]
theorem join_self {a : Sta} (ha : stateOk a) : joinF a a 5 = a :=
 sta_eq (stateOk_join ha ha) ha fun j hj => by
  rw [gE_join _ _ hj,gF_join ha ha hj,entMax_self,Int.max_self,gE_cut ha]
  exact ⟨rfl,rfl⟩
theorem gE_nil (j : Int) : gE ⟨[],[]⟩ j = zEnt := rfl
theorem gF_nil (j : Int) : gF ⟨[],[]⟩ j = 0 := rfl
theorem join_nil {a : Sta} (ha : stateOk a) : joinF a ⟨[],[]⟩ 5 = a :=
 sta_eq (stateOk_join ha stateOk_nil) ha fun j hj => by
  have h0 := gF_pos ha (j : Int)
  rw [gE_join _ _ hj,gF_join ha stateOk_nil hj,gE_nil,gF_nil,entMax_comm,entMax_zl (gE_v ha _),Int.max_eq_left h0.1,gE_cut ha]
  exact ⟨rfl,rfl⟩
theorem nil_join {a : Sta} (ha : stateOk a) : joinF ⟨[],[]⟩ a 5 = a := by rw [join_comm stateOk_nil ha,join_nil ha]
end Go.Proofs.YtpnolkhfeliehaaGreat.AM
namespace Go.Proofs.YtpnolkhfeliehaaGreat.AM
open Go Go.Proofs
set_option linter.unusedVariables false
set_option linter.unusedSimpArgs false
set_option maxRecDepth 100000
set_option maxHeartbeats 4000000
theorem mem_ps {q : Option Addr} {t : List RV} {p : Option Addr} (h : p ∈ t.map (·.p)) : ∃ c ∈ pcT q t,c.p = p := by
 obtain ⟨r,hr,rfl⟩ := List.mem_map.1 h
 exact ⟨pcRV r,List.mem_cons_of_mem _ (List.mem_map_of_mem hr),rfl⟩
theorem OwnP.after {st0 s s' : St} {l : List Pc} {q : Option Addr} {t : List RV} {n : Nat} (h : OwnP s l) (h0 : OwnP st0 l) (hn : st0.next ≤ n) (hN : NewP n (pcT q t)) (hL : PrL (t.map (·.p)) s s') : OwnP s' l :=
 h.prl hL fun c hc p hp => by
  obtain ⟨d,hd,rfl⟩ := mem_ps (q := q) hp
  exact (Dis.of (((h0.1 c hc).old).le hn) (hN d hd)).symm
theorem OwnP.before {st0 s s' : St} {l : List Pc} {q : Option Addr} {t : List RV} {n : Nat} (h : OwnP s l) (hN : NewP n l) (h0 : OwnP st0 (pcT q t)) (hn : st0.next ≤ n) (hL : PrL (t.map (·.p)) s s') : OwnP s' l :=
 h.prl hL fun c hc p hp => by
  obtain ⟨d,hd,rfl⟩ := mem_ps (q := q) hp
  exact Dis.of (((h0.1 d hd).old).le hn) (hN c hc)
theorem tableAdd_lens (T : List (List Int)) (k : Int) (ms : List Flr) : (tableAdd T k ms).map List.length = T.map List.length := by
 unfold tableAdd
 split
 ·rename_i h
  have hK : k.toNat < T.length := by omega
  have hg : T.getD k.toNat [] = T[k.toNat] := by rw [List.getD_eq_getElem?_getD,List.getElem?_eq_getElem hK]; rfl
  conv => rhs; rw [(split_at (List.getElem?_eq_getElem hK)).1]
  rw [putT,hg,List.map_append,List.map_append,List.map_cons,List.map_cons,addMarks_len]
 ·rfl
end Go.Proofs.YtpnolkhfeliehaaGreat.AM
namespace Go.Proofs.YtpnolkhfeliehaaGreat.AM
open Go Go.Proofs
set_option linter.unusedVariables false
set_option linter.unusedSimpArgs false
theorem tnew_tableOk {n : Int} : tableOk (tnew n) n ↔ 1 ≤ n ∧ n ≤ 5 := by
 unfold tnew
 constructor
 ·intro h; exact h.1
 ·intro h
  rw [if_pos h]
  refine ⟨h,by rw [List.length_replicate]; omega,fun l hl => ?_⟩
  rw [(List.mem_replicate.1 hl).2]
  refine ⟨rfl,fun j x hx => ?_⟩
  have := List.mem_of_getElem? hx
  simp only [List.mem_cons,List.not_mem_nil,or_false] at this
  omega
theorem vE.rank {e : Ent} (h : vE e) (h1 : 1 ≤ e.inc) : 0 ≤ e.rank ∧ e.rank ≤ 1 := by
 rcases h with rfl | h
 ·simp [zEnt] at h1
 ·exact h.2.1
end Go.Proofs.YtpnolkhfeliehaaGreat.AM
namespace Go.Proofs.YtpnolkhfeliehaaGreat.AM
open Go Go.Proofs
set_option linter.unusedVariables false
set_option linter.unusedSimpArgs false
set_option maxRecDepth 100000
set_option maxHeartbeats 4000000
theorem and255 (x : Int) : 0 ≤ bits .and .i64 x 255 ∧ bits .and .i64 x 255 < 256 := by
 simp only [bits,BitVec.toNat_and]
 have h : (BitVec.ofInt IntKind.i64.bits 255).toNat = 255 := by decide
 rw [h]
 have h2 : (BitVec.ofInt IntKind.i64.bits x).toNat &&& 255 ≤ 255 := Nat.and_le_right
 rw [wrap_i64 (by omega) (by omega)]
 omega
theorem op_and255 {P : Program} {ls : List Tmp} {call : ACallT} {o : Oper} {e : Operand → Value} {lo : Lo} {st : St} {K : Value × Lo × St → Prop} {t ty : TypeId} {x y : Operand} {a : Int} (ho : o.op = .binOp .and t x y ty) (hx : e x = .int .i64 a) (hy : e y = .int .i64 255)
  (hK : ∀ r,0 ≤ r → r < 256 → K (.int .i64 r,lo,st)) : ∃ r,aoper P ls call o e lo st = some r ∧ K r := by
 refine ⟨_,?_,hK (bits .and .i64 a 255) (and255 a).1 (and255 a).2⟩
 obtain ⟨d,op,ty,pos,after,gd⟩ := o
 simp only at ho
 subst ho
 simp [aoper,rop,hx,hy,abin,aint]
def Cur (st : St) (c : Nat) (p : Option Addr) (bs : List Int) : Prop := c < st.next ∧ ∃ (z : Nat) (i : Nat) (h : Int),st.mem c = some ⟨true,z,[.slice p bs.length bs.length,.int .i64 i,.int .i64 h]⟩ ∧ Ints st .u8 p bs ∧ (bs.length = 0 ∨ ∀ q,p = some q → q.block ≠ c) ∧ i ≤ bs.length
def PresC (c : Nat) (st st' : St) : Prop := st.next ≤ st'.next ∧ ∀ a,a < st.next → a ≠ c → st'.mem a = st.mem a
theorem PresC.refl (c : Nat) (st : St) : PresC c st st := ⟨Nat.le_refl _,fun _ _ _ => rfl⟩
theorem PresC.trans {c : Nat} {x y z : St} (h : PresC c x y) (k : PresC c y z) : PresC c x z := ⟨Nat.le_trans h.1 k.1,fun a ha hc => (k.2 a (Nat.lt_of_lt_of_le ha h.1) hc).trans (h.2 a ha hc)⟩
theorem PresC.ints {c : Nat} {st st' : St} {k : IntKind} {p : Option Addr} {l : List Int} (h : PresC c st st') (hi : Ints st k p l) (hp : l.length = 0 ∨ ∀ q,p = some q → q.block ≠ c) : Ints st' k p l := by
 rcases hi with hi | ⟨b,off,blk,rfl,hm,hb,hc⟩
 ·exact .inl hi
 rcases hp with h0 | hp
 ·exact .inl h0
 ·exact .inr ⟨b,off,blk,rfl,(h.2 b hb (hp _ rfl)).trans hm,Nat.lt_of_lt_of_le hb h.1,hc⟩
theorem PresC.own {c : Nat} {st st' : St} {k : IntKind} {p : Option Addr} {l : List Int} (h : PresC c st st') (hi : Own st k p l) (hp : ∀ q,p = some q → q.block ≠ c) : Own st' k p l := by
 rcases hi with ⟨rfl,rfl⟩ | ⟨a,rfl,ha,hm⟩
 ·exact .inl ⟨rfl,rfl⟩
 ·exact .inr ⟨a,rfl,Nat.lt_of_lt_of_le ha h.1,(h.2 a ha (hp _ rfl)).trans hm⟩
theorem Pres.c {c : Nat} {st st' : St} (h : Pres st st') : PresC c st st' := ⟨h.1,fun a ha _ => h.2 a ha⟩
theorem Cur.pres {c : Nat} {st st' : St} {bs : List Int} {p : Option Addr} (h : Pres st st') (hc : Cur st c p bs) : Cur st' c p bs := by
 obtain ⟨h1,z,i,x,hm,hI,hp,hi⟩ := hc
 exact ⟨Nat.lt_of_lt_of_le h1 h.1,z,i,x,(h.2 c h1).trans hm,h.ints hI,hp,hi⟩
theorem Cur.grow {c : Nat} {p q : Option Addr} {st0 st1 st2 : St} {bs : List Int} (h0 : Cur st0 c p bs) (h1 : PresC c st0 st1) (hc : Cur st1 c p bs) (h2 : ∀ a,a < st1.next → (∀ r,q = some r → a ≠ r.block) → st2.mem a = st1.mem a) (hn : st1.next ≤ st2.next) (hq : ∀ r,q = some r → st0.next ≤ r.block) : Cur st2 c p bs := by
 obtain ⟨hlt,_,_,_,_,hI,hp,_⟩ := h0
 obtain ⟨hl,z,i,h,hm,_,_,hi⟩ := hc
 have hP : PresC c st0 st2 := ⟨Nat.le_trans h1.1 hn,fun a ha hne => (h2 a (Nat.lt_of_lt_of_le ha h1.1) fun r hr he => by have := hq r hr; omega).trans (h1.2 a ha hne)⟩
 exact ⟨Nat.lt_of_lt_of_le hl hn,z,i,h,(h2 c hl fun r hr he => by have := hq r hr; omega).trans hm,hP.ints hI hp,hp,hi⟩
theorem ac_l1Byte (c : Nat) (p : Option Addr) (bs : List Int) (st : St) (hc : Cur st c p bs) (hs : bs.length < 1099511627776) : C 165 [.pointer (some ⟨c,0,none⟩)] st (fun v s => ∃ r,v = .int .i64 r ∧ 0 ≤ r ∧ r < 256 ∧ Cur s c p bs ∧ PresC c st s) := by
 obtain ⟨hlt,z,i,h,hm,hI,hp,hi⟩ := hc
 refine AC.enterX (i := ⟨[],[],[0,2,3,34],[]⟩) [(2,[],[]),(3,[],[]),(4,[],[])] Tryz.func165 rfl rfl (by kernel_rfl) (by kernel_rfl) Tryz.ntmps165 (Lb rfl) rfl ?_
 refine Cu lo0 st [(0,vP c 0)] fun _ => ?_
 refine ⟨_,rfl,?_⟩
 refine ⟨_,rfl,?_⟩
 refine ⟨_,op_ld rfl rfl rfl rfl hm rfl,?_⟩
 refine ⟨_,rfl,?_⟩
 refine ⟨_,rfl,?_⟩
 refine ⟨_,rfl,?_⟩
 refine ⟨_,rfl,?_⟩
 refine op_stc rfl rfl rfl rfl rfl rfl rfl hm rfl (Lb rfl) ?_
 intro st1 hm1 hn1 hk1
 obtain ⟨h1,hm1⟩ : ∃ h1,st1.mem c = some ⟨true,z,[.slice p bs.length bs.length,.int .i64 i,.int .i64 h1]⟩ := ⟨_,hm1⟩
 have hP1 : PresC c st st1 := ⟨Nat.le_of_eq hn1.symm,fun a _ hne => hk1 a hne⟩
 have hI1 := hP1.ints hI hp
 have hlt1 : c < st1.next := by rw [hn1]; exact hlt
 have hC1 : Cur st1 c p bs := ⟨hlt1,z,i,h1,hm1,hI1,hp,hi⟩
 refine Cu lo0 st1 [(0,vP c 0)] fun _ => ?_
 refine ⟨_,rfl,?_⟩
 refine ⟨_,rfl,?_⟩
 refine ⟨_,op_ld rfl rfl rfl rfl hm1 rfl,?_⟩
 refine ⟨_,rfl,?_⟩
 refine ⟨_,rfl,?_⟩
 refine ⟨_,rfl,?_⟩
 refine ⟨_,op_ld rfl rfl rfl rfl hm1 rfl,?_⟩
 refine ⟨_,rfl,?_⟩
 refine ⟨_,rfl,?_⟩
 refine op_and255 rfl rfl rfl ?_
 intro r1 hr1 hr1'
 refine Cu lo0 st1 [(0,vP c 0),(3,vI r1)] fun _ => ?_
 refine ⟨_,rfl,?_⟩
 refine ⟨_,rfl,?_⟩
 refine ⟨_,op_ld rfl rfl rfl rfl hm1 rfl,?_⟩
 refine ⟨_,rfl,?_⟩
 refine ⟨_,rfl,?_⟩
 refine ⟨_,op_ld rfl rfl rfl rfl hm1 rfl,?_⟩
 refine ⟨_,rfl,?_⟩
 refine ⟨_,rfl,?_⟩
 rintro (_|_) hd
 ·refine Cu lo0 st1 [(0,vP c 0),(3,vI r1),(34,vB false)] fun _ => ?_
  refine Cu lo0 st1 [(0,vP c 0),(3,vI r1)] fun _ => ?_
  repeat refine cxs ?_
  exact Rt ⟨r1,rfl,hr1,hr1',hC1,hP1⟩
 ·refine Cu lo0 st1 [(0,vP c 0),(3,vI r1),(34,vB true)] fun _ => ?_
  have hd : i < bs.length := Int.ofNat_lt.1 (of_decide_eq_true (show decide ((i : Int) < (bs.length : Int)) = true from hd))
  obtain ⟨b1,o1,k1,hpe,hb1,hc1⟩ := hI1.at hd
  refine ⟨_,rfl,?_⟩
  refine ⟨_,rfl,?_⟩
  refine ⟨_,op_ld rfl rfl rfl rfl hm1 rfl,?_⟩
  refine ⟨_,rfl,?_⟩
  refine ⟨_,rfl,?_⟩
  refine ⟨_,op_ld rfl rfl rfl rfl hm1 rfl,?_⟩
  refine ⟨_,op_idx (j := (i : Int)) (n := bs.length) (q := ⟨b1,o1,none⟩) rfl (congrArg (fun u => Value.slice u bs.length bs.length) hpe) rfl rfl rfl (Int.natCast_nonneg i) (Int.ofNat_lt.2 hd),?_⟩
  refine ⟨_,op_ld rfl rfl rfl rfl hb1 hc1,?_⟩
  refine ⟨_,rfl,?_⟩
  refine ⟨_,rfl,?_⟩
  refine op_and255 rfl rfl rfl ?_
  intro r2 hr2 hr2'
  refine Cu lo0 st1 [(0,vP c 0),(3,vI r2)] fun _ => ?_
  refine ⟨_,rfl,?_⟩
  refine ⟨_,rfl,?_⟩
  refine ⟨_,op_ld rfl rfl rfl rfl hm1 rfl,?_⟩
  refine ⟨_,rfl,?_⟩
  refine ⟨_,rfl,?_⟩
  refine ⟨_,rfl,?_⟩
  refine op_stc rfl rfl rfl rfl rfl rfl rfl hm1 rfl (Lb rfl) ?_
  intro st2 hm2 hn2 hk2
  have hm2 : st2.mem c = some ⟨true,z,[.slice p bs.length bs.length,.int .i64 (IntKind.wrap .i64 ((i : Int) + 1)),.int .i64 h1]⟩ := hm2
  rw [wrap_i64 (by omega) (by omega)] at hm2
  have hP2 : PresC c st1 st2 := ⟨Nat.le_of_eq hn2.symm,fun a _ hne => hk2 a hne⟩
  have hlt2 : c < st2.next := by rw [hn2]; exact hlt1
  have hC : Cur st2 c p bs := ⟨hlt2,z,i + 1,h1,hm2,hP2.ints hI1 hp,hp,hd⟩
  refine Cu lo0 st2 [(0,vP c 0),(3,vI r2)] fun _ => ?_
  repeat refine cxs ?_
  exact Rt ⟨r2,rfl,hr2,hr2',hC,hP1.trans hP2⟩
theorem tmod_lt {x n : Int} (hx : 0 ≤ x) (hn : 0 < n) : 0 ≤ x.tmod n ∧ x.tmod n < n := ⟨Int.tmod_nonneg _ hx,Int.tmod_lt_of_pos _ hn⟩
theorem ac_l1Below (c : Nat) (p : Option Addr) (bs : List Int) (n : Int) (st : St) (hc : Cur st c p bs) (hs : bs.length < 1099511627776) : C 70 [.pointer (some ⟨c,0,none⟩),.int .i64 n] st (fun v s => ∃ r,v = .int .i64 r ∧ 0 ≤ r ∧ (0 < n → r < n) ∧ (n ≤ 0 → r = 0) ∧ Cur s c p bs ∧ PresC c st s) := by
 refine AC.enter' (i := ⟨[],[],[0,1,4,5,6,7,8,10,12],[]⟩) Tryz.func70 rfl rfl (by kernel_rfl) Tryz.ntmps70 (Lb rfl) rfl (cw_sound _ _ _ _ _ ?_)
 refine ⟨_,rfl,?_⟩
 rintro (_|_) h0
 ·have h0 : 0 < n := by simpa using h0
  refine ⟨_,rfl,?_⟩
  rintro (_|_) h1
  ·refine ⟨_,rfl,(ac_l1Byte c p bs st hc hs).mono ?_⟩
   rintro _ s1 ⟨r1,rfl,hr1,hr1',hc1,hp1⟩
   refine ⟨_,rfl,(ac_l1Byte c p bs s1 hc1 hs).mono ?_⟩
   rintro _ s2 ⟨r2,rfl,hr2,hr2',hc2,hp2⟩
   refine ⟨_,rfl,(ac_l1Byte c p bs s2 hc2 hs).mono ?_⟩
   rintro _ s3 ⟨r3,rfl,hr3,hr3',hc3,hp3⟩
   refine ⟨_,rfl,(ac_l1Byte c p bs s3 hc3 hs).mono ?_⟩
   rintro _ s4 ⟨r4,rfl,hr4,hr4',hc4,hp4⟩
   refine ⟨_,rfl,?_⟩
   refine ⟨_,rfl,?_⟩
   refine ⟨_,rfl,?_⟩
   refine ⟨_,rfl,?_⟩
   refine ⟨_,rfl,?_⟩
   refine ⟨_,rfl,?_⟩
   refine ⟨_,op_rem rfl rfl rfl (by omega),?_⟩
   have e1 : IntKind.wrap .i64 (r1 * 16777216) = r1 * 16777216 := wrap_i64 (by omega) (by omega)
   have e2 : IntKind.wrap .i64 (r2 * 65536) = r2 * 65536 := wrap_i64 (by omega) (by omega)
   have e3 : IntKind.wrap .i64 (r3 * 256) = r3 * 256 := wrap_i64 (by omega) (by omega)
   have e4 : IntKind.wrap .i64 (r1 * 16777216 + r2 * 65536) = r1 * 16777216 + r2 * 65536 := wrap_i64 (by omega) (by omega)
   have e5 : IntKind.wrap .i64 (r1 * 16777216 + r2 * 65536 + r3 * 256) = r1 * 16777216 + r2 * 65536 + r3 * 256 := wrap_i64 (by omega) (by omega)
   have e6 : IntKind.wrap .i64 (r1 * 16777216 + r2 * 65536 + r3 * 256 + r4) = r1 * 16777216 + r2 * 65536 + r3 * 256 + r4 := wrap_i64 (by omega) (by omega)
   have hX : 0 ≤ IntKind.wrap .i64 (IntKind.wrap .i64 (IntKind.wrap .i64 (IntKind.wrap .i64 (r1 * 16777216) + IntKind.wrap .i64 (r2 * 65536)) + IntKind.wrap .i64 (r3 * 256)) + r4) := by
    rw [e1,e2,e4,e3,e5,e6]; omega
   refine ⟨.inl rfl,_,rfl,_,rfl,(tmod_lt hX h0).1,fun _ => (tmod_lt hX h0).2,fun h => by omega,hc4,((hp1.trans hp2).trans hp3).trans hp4⟩
  ·refine ⟨_,rfl,(ac_l1Byte c p bs st hc hs).mono ?_⟩
   rintro _ s1 ⟨r1,rfl,hr1,hr1',hc1,hp1⟩
   refine ⟨_,op_rem rfl rfl rfl (by omega),?_⟩
   refine ⟨.inl rfl,_,rfl,_,rfl,(tmod_lt hr1 h0).1,fun _ => (tmod_lt hr1 h0).2,fun h => by omega,hc1,hp1⟩
 ·have h0 : n ≤ 0 := by simpa using h0
  exact Rt ⟨0,rfl,Int.le_refl _,fun h => by omega,fun _ => rfl,hc,PresC.refl _ _⟩
theorem ac_l1Once (c : Nat) (p : Option Addr) (bs : List Int) (n : Int) (st : St) (hc : Cur st c p bs) (hs : bs.length < 1099511627776) : C 98 [.pointer (some ⟨c,0,none⟩),.int .i64 n] st (fun v s => ∃ b,v = .bool b ∧ Cur s c p bs ∧ PresC c st s) := by
 refine AC.enter' (i := ⟨[],[],[0,1,4],[]⟩) Tryz.func98 rfl rfl (by kernel_rfl) Tryz.ntmps98 (Lb rfl) rfl (cw_sound _ _ _ _ _ ?_)
 refine ⟨_,rfl,(ac_l1Below c p bs n st hc hs).mono ?_⟩
 rintro _ s1 ⟨r1,rfl,_,_,_,hc1,hp1⟩
 refine ⟨_,rfl,?_⟩
 intro b hb
 exact Rt ⟨b,rfl,hc1,hp1⟩
theorem Ints.ap {st : St} {k : IntKind} {p : Option Addr} {l : List Int} (h : Ints st k p l) : l.length = 0 ∨ ∀ q,p = some q → q.block ≠ st.next := by
 rcases h with h | ⟨b,off,blk,rfl,_,hb,_⟩
 ·exact .inl h
 ·exact .inr fun q hq => by injection hq with hq; subst hq; exact Nat.ne_of_lt hb
theorem PresC.of {c : Nat} {st st' : St} : PresC c st st' ↔ Pr (some ⟨c,0,none⟩) st st' :=
 ⟨fun h => ⟨h.1,fun a ha hn => h.2 a ha (hn _ rfl)⟩,fun h => ⟨h.1,fun a ha hn => h.2 a ha fun q hq => by injection hq with hq; subst hq; exact hn⟩⟩
theorem ac_spec_l1New (p : Option Addr) (l : List Int) (st : St) (hI : Ints st .u8 p l) (hs : l.length < 1099511627776) : C 46 [vS p l.length] st (fun v s => v = vP st.next 0 ∧ Cur s st.next p l ∧ Pres st s ∧ s.next = st.next + 1) := by
 refine AC.enterX (i := ⟨[],[],[0,2,3,4,15],[]⟩) [] Tryz.func46 rfl rfl (by kernel_rfl) (by kernel_rfl) Tryz.ntmps46 (Lb rfl) rfl ?_
 refine Cu lo0 st [(0,vS p l.length),(2,_)] fun _ => ?_
 iterate 2 refine ⟨_,rfl,?_⟩
 refine cxs ?_
 refine Cu lo0 st [(0,vS p l.length),(2,_),(3,_),(4,vI 0)] fun _ => ?_
 refine AW.loop0 (fun x : Int × Nat => [(0,vS p l.length),(2,.pointer none),(3,vI x.1),(4,vI x.2)]) (fun m (x : Int × Nat) st' => m = l.length - x.2 ∧ x.2 ≤ l.length ∧ st' = st) (_,0) _ ⟨rfl,rfl,rfl,rfl,trivial⟩ rfl ⟨rfl,Nat.zero_le _,rfl⟩ ?_
 rintro m x ρ0 st' ⟨rfl,hi,rfl⟩
 iterate 2 refine ⟨_,rfl,?_⟩
 rintro (_|_) h1
 ·replace h1 : ¬ ((x.2 : Int) < (l.length : Int)) := of_decide_eq_false h1
  refine ⟨_,rfl,?_⟩
  refine Cu lo0 st' [(0,vS p l.length),(2,.pointer none),(3,vI x.1),(4,vI x.2),(15,vB false)] fun _ => ?_
  refine cxs ?_
  iterate 2 refine ⟨_,rfl,?_⟩
  refine cxs ?_
  refine ⟨.inl rfl,_,rfl,rfl,⟨Nat.lt_succ_self _,0,0,_,if_pos rfl,Pres.push.ints hI,hI.ap,Nat.zero_le _⟩,Pres.push,rfl⟩
 ·replace h1 : (x.2 : Int) < (l.length : Int) := of_decide_eq_true h1
  refine ⟨_,rfl,?_⟩
  rintro (_|_) h2
  ·refine ⟨_,rfl,?_⟩
   refine Cu lo0 st' [(0,vS p l.length),(2,.pointer none),(3,vI x.1),(4,vI x.2),(15,vB false)] fun _ => ?_
   refine cxs ?_
   iterate 2 refine ⟨_,rfl,?_⟩
   refine cxs ?_
   refine ⟨.inl rfl,_,rfl,rfl,⟨Nat.lt_succ_self _,0,0,_,if_pos rfl,Pres.push.ints hI,hI.ap,Nat.zero_le _⟩,Pres.push,rfl⟩
  ·refine ⟨_,rfl,?_⟩
   refine Cu lo0 st' [(0,vS p l.length),(2,.pointer none),(3,vI x.1),(4,vI x.2),(15,vB true)] fun _ => ?_
   obtain ⟨b1,o1,k1,hpe,hb1,hc1⟩ := hI.at (Int.ofNat_lt.1 h1)
   refine cxs ?_
   refine ⟨_,rfl,?_⟩
   refine ⟨_,op_idx (j := (x.2 : Int)) (n := l.length) rfl (congrArg (fun u => vS u l.length) hpe) rfl rfl rfl (Int.natCast_nonneg _) h1,?_⟩
   refine ⟨_,op_ld rfl rfl rfl rfl hb1 hc1,?_⟩
   iterate 4 refine ⟨_,rfl,?_⟩
   refine Cu lo0 st' [(0,vS p l.length),(2,.pointer none),(3,_),(4,vI x.2),(15,vB true)] fun _ => ?_
   have e1 : IntKind.wrap .i64 ((x.2 : Int) + 1) = ((x.2 + 1 : Nat) : Int) := wrap_i64 (by omega) (by omega)
   refine ⟨_,rfl,?_⟩
   refine ⟨(_,x.2 + 1),l.length - (x.2 + 1),?_,⟨rfl,rfl,rfl,congrArg (Value.int .i64) e1,trivial⟩,rfl,rfl,?_,rfl⟩
   ·omega
   ·omega
theorem PresC.pres {c : Nat} {st st1 st2 : St} (h : Pres st st1) (k : PresC c st1 st2) (hc : st.next ≤ c) : Pres st st2 := ⟨Nat.le_trans h.1 k.1,fun a ha => (k.2 a (Nat.lt_of_lt_of_le ha h.1) (by omega)).trans (h.2 a ha)⟩
def NC (c : Nat) (q : Option Addr) : Prop := ∀ a,q = some a → a.block ≠ c
theorem NC.new {c n : Nat} {q : Option Addr} (hN : New n q) (h : c < n) : NC c q := fun a ha => Nat.ne_of_gt (Nat.lt_of_lt_of_le h (hN a ha))
theorem Cur.lt {st : St} {c : Nat} {p : Option Addr} {bs : List Int} (h : Cur st c p bs) : c < st.next := h.1
def FrC (c : Nat) (a b : St) (l : List Pc) : Prop := OwnP b l ∧ NewP a.next l ∧ PresC c a b ∧ c < a.next
theorem FrC.nil {c : Nat} {a : St} (h : c < a.next) : FrC c a a [] := ⟨OwnP.nil,NewP.nil,PresC.refl _ _,h⟩
theorem Frs.toC {c : Nat} {a b : St} {l : List Pc} (h : Frs a b l) (hc : c < a.next) : FrC c a b l := ⟨h.1,h.2.1,h.2.2.c,hc⟩
theorem OwnP.presC {c n : Nat} {st st' : St} {l : List Pc} (h : OwnP st l) (hP : PresC c st st') (hN : NewP n l) (hn : c < n) : OwnP st' l :=
 h.keep hP.1 fun x hx q hq => hP.2 _ ((h.1 x hx).old q hq) (Nat.ne_of_gt (Nat.lt_of_lt_of_le hn (hN x hx q hq)))
theorem FrC.later {c : Nat} {a b d : St} {l : List Pc} (h : FrC c a b l) (k : PresC c b d) : FrC c a d l := ⟨h.1.presC k h.2.1 h.2.2.2,h.2.1,h.2.2.1.trans k,h.2.2.2⟩
theorem FrC.step {c : Nat} {a b d : St} {l : List Pc} (h : FrC c a b l) (k : Pres b d) : FrC c a d l := h.later k.c
theorem FrC.sooner {c : Nat} {a b d : St} {l : List Pc} (h : FrC c b d l) (k : PresC c a b) (hc : c < a.next) : FrC c a d l := ⟨h.1,h.2.1.le k.1,k.trans h.2.2.1,hc⟩
theorem FrC.join {c : Nat} {a b d : St} {l m : List Pc} (h : FrC c a b l) (k : FrC c b d m) : FrC c a d (l ++ m) :=
 ⟨(h.later k.2.2.1).1.app k.1 fun x hx y hy => Dis.of (h.1.1 x hx).old (k.2.1 y hy),h.2.1.app (k.2.1.le h.2.2.1.1),h.2.2.1.trans k.2.2.1,h.2.2.2⟩
theorem FrC.lt {c : Nat} {a b : St} {l : List Pc} (h : FrC c a b l) : c < b.next := Nat.lt_of_lt_of_le h.2.2.2 h.2.2.1.1
theorem FrC.add {c : Nat} {a b d : St} {l m : List Pc} (h : FrC c a b l) (k : Frs b d m) : FrC c a d (l ++ m) := h.join (k.toC h.lt)
theorem FrC.left {c : Nat} {a b : St} {l m : List Pc} (h : FrC c a b (l ++ m)) : FrC c a b l := ⟨h.1.left,fun x hx => h.2.1 x (List.mem_append_left _ hx),h.2.2⟩
theorem FrC.right {c : Nat} {a b : St} {l m : List Pc} (h : FrC c a b (l ++ m)) : FrC c a b m := ⟨h.1.right,fun x hx => h.2.1 x (List.mem_append_right _ hx),h.2.2⟩
theorem FrC.out {st s1 s2 : St} {l : List Pc} (hF : FrC st.next s1 s2 l) (hP : Pres st s1) : Frs st s2 l := ⟨hF.1,hF.2.1.le hP.1,PresC.pres hP hF.2.2.1 (Nat.le_refl _)⟩
theorem PresC.thenNew {c : Nat} {q : Option Addr} {a b d : St} (h : PresC c a b) (k : Pr q b d) (hn : New a.next q) : PresC c a d :=
 ⟨Nat.le_trans h.1 k.1,fun x hx hc => (k.2 x (Nat.lt_of_lt_of_le hx h.1) fun r hr he => by have := hn r hr; omega).trans (h.2 x hx hc)⟩
theorem Cur.thenNew {c : Nat} {p q : Option Addr} {bs : List Int} {s0 s1 s2 : St} (h1 : Cur s1 c p bs) (h0 : Cur s0 c p bs) (h : PresC c s0 s1) (k : Pr q s1 s2) (hn : New s0.next q) : Cur s2 c p bs := Cur.grow h0 h h1 k.2 k.1 hn
theorem FrC.items {c : Nat} {a b d : St} {u : SV} {q : Option Addr} {l : List Itm} (h : FrC c a b (pcS u)) (hp : Pr u.p b d) (ho : OwnR d 6 cItm q l) (hn : New b.next q) : FrC c a d (pcS ⟨q,u.q,⟨l,u.x.floors⟩⟩) ∧ PresC c a d :=
 have hP := PresC.thenNew h.2.2.1 hp (h.2.1 _ (List.mem_cons_self ..))
 ⟨⟨pcS_items h.1 hp ho hn,NewP.cons (hn.le h.2.2.1.1) (NewP.cons (h.2.1 _ (List.mem_cons_of_mem _ (List.mem_cons_self ..))) NewP.nil),hP,h.2.2.2⟩,hP⟩
theorem FrC.floors {c : Nat} {a b d : St} {u : SV} {q : Option Addr} {l : List Flr} (h : FrC c a b (pcS u)) (hp : Pr u.q b d) (ho : OwnR d 2 cFlr q l) (hn : New b.next q) : FrC c a d (pcS ⟨u.p,q,⟨u.x.items,l⟩⟩) ∧ PresC c a d :=
 have hP := PresC.thenNew h.2.2.1 hp (h.2.1 _ (List.mem_cons_of_mem _ (List.mem_cons_self ..)))
 ⟨⟨pcS_floors h.1 hp ho hn,NewP.cons (h.2.1 _ (List.mem_cons_self ..)) (NewP.cons (hn.le h.2.2.1.1) NewP.nil),hP,h.2.2.2⟩,hP⟩
theorem FrC.setItems {c : Nat} {a b d : St} {u : SV} {l : List Itm} (h : FrC c a b (pcS u)) (hp : Pr u.p b d) (ho : OwnR d 6 cItm u.p l) : FrC c a d (pcS ⟨u.p,u.q,⟨l,u.x.floors⟩⟩) ∧ PresC c a d :=
 have hP := PresC.thenNew h.2.2.1 hp (h.2.1 _ (List.mem_cons_self ..))
 ⟨⟨OwnP.update (l := []) (m := [pcR 2 cFlr u.q u.x.floors]) (d := pcR 6 cItm u.p l) h.1 hp (own_pc ho) rfl,NewP.cons (h.2.1 (pcR 6 cItm u.p u.x.items) (List.mem_cons_self ..)) (NewP.cons (h.2.1 _ (List.mem_cons_of_mem _ (List.mem_cons_self ..))) NewP.nil),hP,h.2.2.2⟩,hP⟩
theorem Frs.nlS {a : St} : Frs a a (pcS ⟨none,none,nilS⟩) := ⟨pcS_nil,newS_nil,Pres.refl _⟩
structure smS (n : Nat) (x : Sta) : Prop where
 i : x.items.length ≤ n
 f : x.floors.length ≤ n
 d : ∀ y ∈ x.items,y.e.data.size ≤ 9
theorem smS.big {n : Nat} {x : Sta} (h : smS n x) (hn : n ≤ 1048576) : bigS x := ⟨Nat.le_trans h.i hn,Nat.le_trans h.f hn,fun y hy => Nat.le_trans (h.d y hy) (by decide)⟩
theorem smS.le {n m : Nat} {x : Sta} (h : smS n x) (k : n ≤ m) : smS m x := ⟨Nat.le_trans h.i k,Nat.le_trans h.f k,h.d⟩
theorem ids_len {α : Type} {id : α → Int} {l : List α} (h : ∀ (j : Nat) x,l[j]? = some x → (0 ≤ id x ∧ id x ≤ 4) ∧ ∀ y,0 < j → l[j - 1]? = some y → id y < id x) : l.length ≤ 5 := by
 have key : ∀ (j : Nat) x,l[j]? = some x → (j : Int) ≤ id x := by
  intro j
  induction j with
  | zero => intro x hx; exact (h 0 x hx).1.1
  | succ j ih =>
   intro x hx
   obtain ⟨hj,_⟩ := List.getElem?_eq_some_iff.1 hx
   have hy : l[j]? = some l[j] := List.getElem?_eq_getElem (by omega)
   have := ih _ hy
   have := (h _ _ hx).2 l[j] (Nat.succ_pos j) hy
   omega
 rcases Nat.lt_or_ge 5 l.length with h5 | h5
 ·have hx : l[5]? = some l[5] := List.getElem?_eq_getElem h5
  have := key 5 _ hx
  have := (h 5 _ hx).1.2
  omega
 ·exact h5
theorem marks_len {l : List Flr} (h : marksOk l) : l.length ≤ 5 := ids_len (id := fun x => x.id) fun j x hx => ⟨(h j x hx).1,(h j x hx).2.2⟩
theorem items_len {s : Sta} (h : stateOk s) : s.items.length ≤ 5 := ids_len (id := fun x => x.id) fun j x hx => ⟨(h.1 j x hx).1,(h.1 j x hx).2.2.2⟩
theorem sm_ok {s : Sta} (h : stateOk s) : smS 5 s := ⟨items_len h,marks_len h.2,fun y hy => by
 obtain ⟨j,hj⟩ := List.getElem?_of_mem hy
 have := (h.1 j y hj).2.1.2.2.2.2
 omega⟩
theorem big_ok {s : Sta} (h : stateOk s) : bigS s := (sm_ok h).big (by decide)
theorem szm (g : Int → Int) : szOk (marksF g 5).length := Nat.le_trans (marksF_len g 5) (by decide)
abbrev cStr : ByteArray → List Value := fun s => [.string s]
theorem cStr_len (x : ByteArray) : (cStr x).length = 1 := rfl
theorem ent_mk {i r b v : Int} {d : ByteArray} (h1 : 1 ≤ i ∧ i ≤ 1000) (h2 : 0 ≤ r ∧ r ≤ 1) (h3 : 0 ≤ b ∧ b ≤ 100000) (h4 : 0 ≤ v ∧ v ≤ 1000) (h5 : d.size ≤ 8) : entOk ⟨i,r,b,v,d⟩ := ⟨h1,h2,h3,h4,h5⟩
section
variable {P : Program} {ls : List Tmp} {call : ACallT} {o : Oper} {e : Operand → Value} {lo : Lo} {st : St} {K : Value × Lo × St → Prop}
theorem op_litS {t el : TypeId} {n : Nat} {ps : Array (Nat × Operand)} {u : Value} {l : List ByteArray} (ho : o.op = .buildSlice t n ps) (hp : parts e ps = mkp 0 (l.map Value.string)) (hn : n = l.length) (h0 : 0 < n) (he : telem P t = some el) (hz : tsize P el = some 1) (hz0 : tzero P el = some [u]) (hsz : n ≤ 16777216)
  (hK : ∀ q st',OwnR st' 1 cStr q l → Pres st st' → New st.next q → K (.slice q n n,lo,st')) : ∃ r,aoper P ls call o e lo st = some r ∧ K r := by
 refine op_lit ho hp (by rw [hn,List.length_map]) h0 he hz hz0 Nat.one_pos rfl (by omega) (fun v hv => ?_) ?_
 ·obtain ⟨r,_,rfl⟩ := List.mem_map.1 hv
  exact ⟨rfl,rfl⟩
 ·rw [show (l.map Value.string).flatMap (fun v => v.cells.toList) = l.flatMap cStr by rw [List.flatMap_map]; rfl]
  exact hK _ _ OwnR.push Pres.push New.self
theorem op_putw {α : Type} {f : α → List Value} {z : Nat} {t : TypeId} {x u : Operand} {p : Option Addr} {a d i : Nat} {l : List α} {j : Nat} {w y : α} {ws : List Value} {v : Value} (ho : o.op = .store t x u) (hx : e x = .pointer (some ⟨a,d,none⟩)) (hd : d = j * z + i) (hu : e u = v) (ht : tsize P t = some ws.length) (hz : ∀ x,(f x).length = z) (hv : v.cells.toList = ws) (hi : ws.all isCell = true) (hw : l[j]? = some w) (hf : ∃ A M B,f w = A ++ (M ++ B) ∧ f y = A ++ (ws ++ B) ∧ A.length = i ∧ M.length = ws.length)
  (hown : OwnR st z f p l) (hp : p = some ⟨a,0,none⟩)
  (hK : ∀ st',OwnR st' z f p (l.set j y) → Pr p st st' → st'.next = st.next → K (undef,lo,st')) : ∃ r,aoper P ls call o e lo st = some r ∧ K r := by
 subst hp hd
 rcases hown with ⟨h,_⟩ | ⟨a',h,ha,hm⟩
 ·cases h
 injection h with h
 injection h with h _ _
 subst h
 obtain ⟨hj,_⟩ := List.getElem?_eq_some_iff.1 hw
 obtain ⟨pre,cs,suf,h1,h2,h3,h4⟩ := flat_set hz (l := l) (j := j) (x := y) hj
 rw [hw] at h3
 injection h3 with h3
 obtain ⟨A,M,B,e1,e2,e3,e4⟩ := hf
 have hlen : j * z + i + ws.length ≤ (l.flatMap f).length := by
  rw [h1,← h3,e1]
  simp only [List.length_append]
  omega
 refine op_sta (z := ws.length) ho hx hu rfl ht (by rw [hv]) (by rw [hv]; exact hi) hm rfl hlen fun st' k1 k2 k3 => hK st' (.inr ⟨a,rfl,by omega,?_⟩) ⟨Nat.le_of_eq k2.symm,fun b _ hne => k3 b (fun hb => hne _ rfl hb)⟩ k2
 rw [k1]
 show some (Blk.mk true z (splice (l.flatMap f) (j * z + i) v.cells.toList)) = _
 rw [hv,h4,h1,← h3,e1,e2,← h2,← e3]
 have := splice_mid ws (pre ++ A) M (B ++ suf) e4
 simp only [List.append_assoc,List.length_append] at this ⊢
 rw [this]
end
theorem ac_d_l1Below {p : Option Addr} {bs : List Int} (c : Nat) (n : Int) (st : St) (hc : Cur st c p bs) (hs : bs.length < 1099511627776) : C 70 [vP c 0,vI n] st (fun v s => ∃ r,v = vI r ∧ 0 ≤ r ∧ (0 < n → r < n) ∧ (n ≤ 0 → r = 0) ∧ Cur s c p bs ∧ PresC c st s) := ac_l1Below c p bs n st hc hs
theorem ac_d_l1Once {p : Option Addr} {bs : List Int} (c : Nat) (n : Int) (st : St) (hc : Cur st c p bs) (hs : bs.length < 1099511627776) : C 98 [vP c 0,vI n] st (fun v s => ∃ b,v = .bool b ∧ Cur s c p bs ∧ PresC c st s) := ac_l1Once c p bs n st hc hs
theorem ac_d_l1PickInt {p : Option Addr} {bs : List Int} (c : Nat) (q : Option Addr) (l : List Int) (st : St) (hc : Cur st c p bs) (hs : bs.length < 1099511627776) (hl : 0 < l.length) (hO : OwnR st 1 fI q l) (hp : NC c q) : C 143 [vP c 0,vS q l.length] st (fun v s => ∃ r,v = vI r ∧ r ∈ l ∧ Cur s c p bs ∧ PresC c st s) := by
 refine AC.enter' (i := ⟨[],[],[0,1,4],[]⟩) Tryz.func143 rfl rfl (by kernel_rfl) Tryz.ntmps143 (Lb rfl) rfl (cw_sound _ _ _ _ _ ?_)
 refine ⟨_,rfl,?_⟩
 refine ⟨_,rfl,(ac_l1Below c p bs l.length st hc hs).mono ?_⟩
 rintro _ s1 ⟨r1,rfl,h0,h1,_,hc1,hp1⟩
 have h1 := h1 (by omega)
 obtain ⟨j,rfl⟩ : ∃ j : Nat,r1 = j := ⟨r1.toNat,by omega⟩
 have hO1 : OwnR s1 1 fI q l := by
  rcases hO with h | ⟨a,rfl,ha,hm⟩
  ·exact .inl h
  ·exact .inr ⟨a,rfl,Nat.lt_of_lt_of_le ha hp1.1,(hp1.2 a ha (hp _ rfl)).trans hm⟩
 obtain ⟨b1,o1,k1,x,rfl,hx,hb1,hcc,_⟩ := (hO1.rows fI_len).atB (j := j) (by omega)
 refine ⟨_,op_idx rfl rfl rfl rfl rfl (by omega) (by omega),?_⟩
 refine ⟨_,op_ldc (i := 0) rfl rfl rfl rfl hb1 hcc rfl rfl,?_⟩
 exact Rt ⟨x,rfl,List.mem_of_getElem? hx,hc1,hp1⟩
theorem ac_d_l1Pick {p : Option Addr} {bs : List Int} (c : Nat) (q : Option Addr) (l : List ByteArray) (st : St) (hc : Cur st c p bs) (hs : bs.length < 1099511627776) (hl : 0 < l.length) (hO : OwnR st 1 cStr q l) (hp : NC c q) : C 99 [vP c 0,vS q l.length] st (fun v s => ∃ r : ByteArray,v = .string r ∧ r ∈ l ∧ Cur s c p bs ∧ PresC c st s) := by
 refine AC.enter' (i := ⟨[],[],[0,1,4],[]⟩) Tryz.func99 rfl rfl (by kernel_rfl) Tryz.ntmps99 (Lb rfl) rfl (cw_sound _ _ _ _ _ ?_)
 refine ⟨_,rfl,?_⟩
 refine ⟨_,rfl,(ac_l1Below c p bs l.length st hc hs).mono ?_⟩
 rintro _ s1 ⟨r1,rfl,h0,h1,_,hc1,hp1⟩
 have h1 := h1 (by omega)
 obtain ⟨j,rfl⟩ : ∃ j : Nat,r1 = j := ⟨r1.toNat,by omega⟩
 have hO1 : OwnR s1 1 cStr q l := by
  rcases hO with h | ⟨a,rfl,ha,hm⟩
  ·exact .inl h
  ·exact .inr ⟨a,rfl,Nat.lt_of_lt_of_le ha hp1.1,(hp1.2 a ha (hp _ rfl)).trans hm⟩
 obtain ⟨b1,o1,k1,x,rfl,hx,hb1,hcc,_⟩ := (hO1.rows cStr_len).atB (j := j) (by omega)
 refine ⟨_,op_idx rfl rfl rfl rfl rfl (by omega) (by omega),?_⟩
 refine ⟨_,op_ldc (i := 0) rfl rfl rfl rfl hb1 hcc rfl rfl,?_⟩
 exact Rt ⟨x,rfl,List.mem_of_getElem? hx,hc1,hp1⟩
theorem texts_8 {x : ByteArray} (h : x ∈ [⟨#[]⟩,⟨#[97]⟩,⟨#[98]⟩,⟨#[97,98]⟩,⟨#[49,50,51,52,53,54,55,56]⟩]) : x.size ≤ 8 := by
 simp only [List.mem_cons,List.not_mem_nil,or_false] at h
 rcases h with rfl | rfl | rfl | rfl | rfl <;> decide
theorem ac_d_l2Right {p : Option Addr} {bs : List Int} (c : Nat) (st : St) (hc : Cur st c p bs) (hs : bs.length < 1099511627776) : C 198 [vP c 0] st (fun v s => ∃ e : Ent,v = .agg #[vI e.inc,vI e.rank,vI e.beat,vI e.ver,.string e.data] ∧ entOk e ∧ Cur s c p bs ∧ PresC c st s) := by
 refine AC.enterX (i := ⟨[2],[2],[0,2],[]⟩) [] Tryz.func198 rfl rfl (by kernel_rfl) (by kernel_rfl) Tryz.ntmps198 (Lb rfl) rfl ?_
 refine ⟨_,rfl,?_⟩
 refine Cm 1 st [(0,vP c 0),Ml 2 0] [(2,0,[vI 0,vI 0,vI 0,vI 0,.string ⟨#[]⟩])] fun _ _ => ?_
 refine ⟨_,rfl,(ac_d_l1Below c 3 st hc (by first | assumption | omega)).mono ?_⟩
 rintro _ s4 ⟨r4,rfl,h4,h4',h4'',hC4,hL4⟩
 have ew5 : IntKind.wrap .i64 ((1) + r4) = (1) + r4 := wrap_i64 (by omega) (by omega)
 refine ⟨_,rfl,?_⟩
 refine ⟨_,rfl,(ac_d_l1Below c 2 s4 hC4 (by first | assumption | omega)).mono ?_⟩
 rintro _ s7 ⟨r7,rfl,h7,h7',h7'',hC7,hL7⟩
 refine ⟨_,rfl,(ac_d_l1Below c 3 s7 hC7 (by first | assumption | omega)).mono ?_⟩
 rintro _ s9 ⟨r9,rfl,h9,h9',h9'',hC9,hL9⟩
 refine ⟨_,rfl,(ac_d_l1Below c 3 s9 hC9 (by first | assumption | omega)).mono ?_⟩
 rintro _ s11 ⟨r11,rfl,h11,h11',h11'',hC11,hL11⟩
 refine op_litS (l := [⟨#[]⟩,⟨#[97]⟩,⟨#[98]⟩,⟨#[97,98]⟩,⟨#[49,50,51,52,53,54,55,56]⟩]) rfl rfl rfl (Lb rfl) rfl rfl rfl (Lb rfl) ?_
 intro q13 s13 hO13 hP13 hN13
 refine ⟨_,rfl,(ac_d_l1Pick c q13 ([⟨#[]⟩,⟨#[97]⟩,⟨#[98]⟩,⟨#[97,98]⟩,⟨#[49,50,51,52,53,54,55,56]⟩]) s13 (hC11.pres hP13) (by first | assumption | omega) (by first | assumption | omega | decide) (by first | assumption | omega) (by first | assumption | exact NC.new (by assumption) (Cur.lt (by assumption)))).mono ?_⟩
 rintro _ s14 ⟨r14,rfl,h14,hC14,hL14⟩
 refine ⟨_,rfl,?_⟩
 refine ⟨_,Os rfl,?_⟩
 exact cxs (Rt ⟨⟨IntKind.wrap .i64 (1 + r4),r7,r9,r11,r14⟩,rfl,ent_mk (by omega) (by omega) (by omega) (by omega) (texts_8 h14),hC14,((((hL4.trans hL7).trans hL9).trans hL11).trans hP13.c).trans hL14⟩)
end Go.Proofs.YtpnolkhfeliehaaGreat.AM
namespace Go.Proofs.YtpnolkhfeliehaaGreat.AM
open Go Go.Proofs
set_option linter.unusedVariables false
set_option linter.unusedSimpArgs false
abbrev FS (g : Int → Int) : Sta := ⟨[],marksF g 5⟩
theorem FS_ok {g : Int → Int} (h : ∀ i,g i ≤ 1000) : stateOk (FS g) := stateOk_floors (marksOk_F h)
theorem pruneG_le {s : Sta} (h : stateOk s) (t : List (List Int)) : ∀ i,pruneG s t i ≤ 1000 := fun i => Int.le_trans (Int.min_le_right _ _) (goneAt_le h i).2
theorem prune_eq {s : Sta} (h : stateOk s) (t : List (List Int)) : pruneF s t = joinF s (FS (pruneG s t)) 5 := if_pos h
theorem prune_ok {s : Sta} (h : stateOk s) (t : List (List Int)) : stateOk (pruneF s t) := ok_prune rfl h
def leS (a b : Sta) : Prop := joinF a b 5 = b
theorem leS_trans {a b c : Sta} (ha : stateOk a) (hb : stateOk b) (hc : stateOk c) (h : leS a b) (k : leS b c) : leS a c := by
 show joinF a c 5 = c
 rw [← k,← join_assoc ha hb hc,h]
theorem leS_left {a b : Sta} (ha : stateOk a) (hb : stateOk b) : leS a (joinF a b 5) := by
 show joinF a (joinF a b 5) 5 = joinF a b 5
 rw [← join_assoc ha ha hb,join_self ha]
theorem leS_right {a b : Sta} (ha : stateOk a) (hb : stateOk b) : leS b (joinF a b 5) := by rw [join_comm ha hb]; exact leS_left hb ha
theorem leS_prune {s : Sta} (h : stateOk s) (t : List (List Int)) : leS s (pruneF s t) := by rw [prune_eq h]; exact leS_left h (FS_ok (pruneG_le h t))
theorem row_set {l : List Int} {i : Nat} {v : Int} (h : rowOk l) (hv : 0 ≤ v ∧ v ≤ 1000) : rowOk (l.set i v) := ⟨by rw [List.length_set]; exact h.1,fun j x hx => by
 rw [List.getElem?_set] at hx
 split at hx
 ·split at hx
  ·injection hx with hx; rw [← hx]; exact hv
  ·cases hx
 ·exact h.2 j x hx⟩
theorem row_get {l : List Int} (h : rowOk l) (i : Nat) : 0 ≤ l.getD i 0 ∧ l.getD i 0 ≤ 1000 := by
 rw [List.getD_eq_getElem?_getD]
 cases hx : l[i]? with
 | none => exact ⟨Int.le_refl _,by decide⟩
 | some x => exact h.2 i x hx
theorem addMarks_row : ∀ (ms : List Flr) (l : List Int),rowOk l → (∀ m ∈ ms,m.inc ≤ 1000) → rowOk (addMarks l ms)
 | [],l,h,_ => h
 | m :: ms,l,h,hm => addMarks_row ms _ (row_set h (by have := row_get h m.id.toNat; have := hm m (List.mem_cons_self ..); omega)) fun x hx => hm x (List.mem_cons_of_mem _ hx)
theorem marks_inc {ms : List Flr} (h : marksOk ms) : ∀ m ∈ ms,m.inc ≤ 1000 := fun m hm => by
 obtain ⟨j,hj⟩ := List.getElem?_of_mem hm
 exact (h j m hj).2.1.2
theorem table_add {t : List (List Int)} {n k : Int} {ms : List Flr} (h : tableOk t n) : tableOk (tableAdd t k ms) n := by
 unfold tableAdd
 split
 ·rename_i hc
  have hK : k.toNat < t.length := by omega
  have hrow : rowOk (t.getD k.toNat []) := by
   rw [List.getD_eq_getElem?_getD,List.getElem?_eq_getElem hK]
   exact h.2.2 _ (List.getElem_mem ..)
  refine ⟨h.1,by rw [putT_len hK]; exact h.2.1,fun l hl => ?_⟩
  rcases List.mem_append.1 hl with hl | hl
  ·exact h.2.2 l (List.mem_of_mem_take hl)
  ·rcases List.mem_cons.1 hl with rfl | hl
   ·exact addMarks_row _ _ hrow (marks_inc hc.2.1)
   ·exact h.2.2 l (List.mem_of_mem_drop hl)
 ·exact h
def RO (c : Int) (r : Ris) : Prop := (0 ≤ r.inc ∧ r.inc ≤ 1000) ∧ (0 ≤ r.beat ∧ r.beat ≤ 100000) ∧ (0 ≤ r.tick ∧ r.tick ≤ c)
theorem riseF_RO {c : Int} {l : List Ris} {y : Itm} (hc : 0 ≤ c) (hy : entOk y.e) (h : ∀ (j : Nat) r,l[j]? = some r → RO c r) : ∀ (j : Nat) r,(riseF c l y)[j]? = some r → RO c r := by
 intro j r hr
 unfold riseF at hr
 split at hr
 ·split at hr
  ·rw [List.getElem?_set] at hr
   split at hr
   ·split at hr
    ·injection hr with hr
     rw [← hr]
     obtain ⟨h1,_,h3,_⟩ := hy
     exact ⟨⟨by simp only; omega,h1.2⟩,h3,hc,Int.le_refl _⟩
    ·cases hr
   ·exact h j r hr
  ·exact h j r hr
 ·exact h j r hr
theorem risesF_RO {c : Int} (hc : 0 ≤ c) : ∀ (its : List Itm) (l : List Ris),(∀ y ∈ its,entOk y.e) → (∀ (j : Nat) r,l[j]? = some r → RO c r) → ∀ (j : Nat) r,(risesF c l its)[j]? = some r → RO c r
 | [],l,_,h => h
 | y :: its,l,hy,h => risesF_RO hc its _ (fun z hz => hy z (List.mem_cons_of_mem _ hz)) (riseF_RO hc (hy y (List.mem_cons_self ..)) h)
theorem items_ent {s : Sta} (h : stateOk s) : ∀ y ∈ s.items,entOk y.e := fun y hy => by
 obtain ⟨j,hj⟩ := List.getElem?_of_mem hy
 exact (h.1 j y hj).2.1
theorem take_ok {x : Nd} {p : Sta} (h : nodeOk x) (hp : stateOk p) : nodeOk (takeF x p) := by
 have hs := prune_ok (stateOk_join h.s hp) (tableAdd x.seen x.id (marksF (goneAt (joinF x.s p 5)) 5))
 exact ⟨h.n,h.id,hs,rfl,h.g,h.got,h.acked,h.seq,h.ack,table_add h.seen,h.num,h.clock,h.wait,h.limit,h.slots,h.sess,by show (risesF x.clock x.rises _).length = 5; rw [risesF_len]; exact h.rises.1,risesF_RO h.clock.1 _ _ (items_ent hs) h.rises.2⟩
theorem take_s {x : Nd} {p : Sta} : (takeF x p).s = pruneF (joinF x.s p 5) (takeF x p).seen := rfl
theorem take_le {x : Nd} {p : Sta} (h : nodeOk x) (hp : stateOk p) : leS x.s (takeF x p).s ∧ leS p (takeF x p).s := by
 have hj := stateOk_join h.s hp
 rw [take_s]
 exact ⟨leS_trans h.s hj (prune_ok hj _) (leS_left h.s hp) (leS_prune hj _),leS_trans hp hj (prune_ok hj _) (leS_right h.s hp) (leS_prune hj _)⟩
end Go.Proofs.YtpnolkhfeliehaaGreat.AM
namespace Go.Proofs.YtpnolkhfeliehaaGreat.AM
open Go Go.Proofs
set_option linter.unusedVariables false
set_option linter.unusedSimpArgs false
set_option maxRecDepth 100000
set_option maxHeartbeats 4000000
def zI (n : Int) : List Int := List.replicate n.toNat 0
theorem zI_len (n : Int) : (zI n).length = n.toNat := List.length_replicate
theorem zI_int {n : Int} (h : 1 ≤ n ∧ n ≤ 5) : n = ((zI n).length : Int) := by rw [zI_len]; omega
theorem zI_mk (n : Int) : List.replicate (zI n).length (0 : Int) = zI n := by rw [zI_len]; rfl
abbrev zLW (cap : Int) : LW := ⟨cap,0,none,[],pcR 2 cSV none [],.inl rfl⟩
theorem Frs.lg0 {a : St} {cap : Int} : Frs a a (pcLog (zLW cap)) := ⟨OwnP.one (.inl ⟨rfl,rfl⟩),NewP.cons New.none NewP.nil,Pres.refl _⟩
theorem Frs.i0 {a : St} : Frs a a (pcIs ⟨none,[]⟩) := ⟨OwnP.one (.inl ⟨rfl,rfl⟩),NewP.cons New.none NewP.nil,Pres.refl _⟩
theorem Frs.t0 {a : St} : Frs a a (pcTT ⟨none,[]⟩) := ⟨OwnP.one (.inl ⟨rfl,rfl⟩),NewP.cons New.none NewP.nil,Pres.refl _⟩
theorem Frs.r0 {a : St} : Frs a a (pcRis ⟨none,[]⟩) := ⟨OwnP.one (.inl ⟨rfl,rfl⟩),NewP.cons New.none NewP.nil,Pres.refl _⟩
theorem Frs.s0 {a : St} : Frs a a (pcS ⟨none,none,nilS⟩) := ⟨pcS_nil,newS_nil,Pres.refl _⟩
theorem Frs.got {s0 st st' : St} {v : NW} {q : RV} (h : Frs s0 st (pcNW v)) (hF : Frs st st' (pcIs q)) : Frs s0 st' (pcNW { v with got := q }) := by
 have e : ∀ x : RV,pcNW { v with got := x } = (pcS v.s ++ (pcIs v.t.toRV ++ pcLog v.g)) ++ (pcIs x ++ (pcIs v.acked ++ (pcTT v.seen ++ (pcSes v.sess ++ pcRis v.rises)))) := fun x => by simp only [List.append_assoc]
 rw [e]
 exact Frs.swap (c := pcIs v.got) (by rw [← e]; exact h) hF
theorem Frs.acked {s0 st st' : St} {v : NW} {q : RV} (h : Frs s0 st (pcNW v)) (hF : Frs st st' (pcIs q)) : Frs s0 st' (pcNW { v with acked := q }) := by
 have e : ∀ x : RV,pcNW { v with acked := x } = (pcS v.s ++ (pcIs v.t.toRV ++ (pcLog v.g ++ pcIs v.got))) ++ (pcIs x ++ (pcTT v.seen ++ (pcSes v.sess ++ pcRis v.rises))) := fun x => by simp only [List.append_assoc]
 rw [e]
 exact Frs.swap (c := pcIs v.acked) (by rw [← e]; exact h) hF
theorem Frs.rise {s0 st st' : St} {v : NW} {q : RisV} (h : Frs s0 st (pcNW v)) (hF : Frs st st' (pcRis q)) : Frs s0 st' (pcNW { v with rises := q }) := by
 have e : ∀ x : RisV,pcNW { v with rises := x } = (pcS v.s ++ (pcIs v.t.toRV ++ (pcLog v.g ++ (pcIs v.got ++ (pcIs v.acked ++ (pcTT v.seen ++ pcSes v.sess)))))) ++ (pcRis x ++ []) := fun x => by simp only [List.append_assoc,List.append_nil]
 rw [e]
 exact Frs.swap (c := pcRis v.rises) (by rw [← e]; exact h) hF
def zNd : Nd := ⟨0,0,nilS,⟨[],0⟩,⟨0,0,[]⟩,[],[],[],0,0,[],0,0,0,[]⟩
abbrev zNW : NW := ⟨0,0,⟨none,none,nilS⟩,⟨⟨none,[]⟩,0⟩,zLW 0,⟨none,[]⟩,⟨none,[]⟩,⟨none,[]⟩,0,0,⟨none,[]⟩,0,0,0,⟨none,[]⟩⟩
theorem Frs.nd0 {a : St} : Frs a a (pcNW zNW) := Frs.s0.join (Frs.i0.join (Frs.lg0.join (Frs.i0.join (Frs.i0.join (Frs.t0.join (Frs.ses0.join Frs.r0))))))
noncomputable def newN (id n cap slots wait limit : Int) : Nd := ⟨id,n,nilS,treeF nilS,⟨cap,0,[]⟩,zI n,zI n,tnew n,0,slots,[],wait,limit,0,List.replicate 5 zRis⟩
abbrev newW (id n cap slots wait limit : Int) (t : TV) (q1 q2 : Option Addr) (tt : TT) (q3 : Option Addr) : NW := ⟨id,n,⟨none,none,nilS⟩,t,zLW cap,⟨q1,zI n⟩,⟨q2,zI n⟩,tt,0,slots,⟨none,[]⟩,wait,limit,0,⟨q3,List.replicate 5 zRis⟩⟩
open Classical in
noncomputable def newF (id n cap slots wait limit : Int) : Nd × Bool := if (1 ≤ n ∧ n ≤ 5) ∧ nodeOk (newN id n cap slots wait limit) then (newN id n cap slots wait limit,true) else (zNd,false)
theorem newF_no {id n cap slots wait limit : Int} (h : ¬ ((1 ≤ n ∧ n ≤ 5) ∧ nodeOk (newN id n cap slots wait limit))) : (zNd,false) = newF id n cap slots wait limit := (if_neg h).symm
theorem newF_yes {id n cap slots wait limit : Int} {x : Nd} (h : (1 ≤ n ∧ n ≤ 5) ∧ nodeOk (newN id n cap slots wait limit)) (hx : x = newN id n cap slots wait limit) : (x,true) = newF id n cap slots wait limit := by rw [hx]; exact (if_pos h).symm
theorem tree_len (s : Sta) : (treeF s).leaves.length ≤ 4 := by
 unfold treeF
 split
 ·exact Nat.le_of_eq (sums_len s 4)
 ·exact Nat.zero_le _
theorem newN_big {id n cap slots wait limit : Int} (h : 1 ≤ n ∧ n ≤ 5) : bigN (newN id n cap slots wait limit) := by
 have h1 := zI_len n
 have h2 := tnew_len n
 have h3 := tree_len nilS
 exact ⟨bigS_nil,by show (treeF nilS).leaves.length ≤ 1048576; omega,⟨Nat.zero_le _,fun s hs => by cases hs⟩,by show (zI n).length ≤ 1048576; omega,by show (zI n).length ≤ 1048576; omega,⟨by show (tnew n).length ≤ 1048576; omega,fun l hl => by have := h2.2 l hl; show l.length ≤ 1048576; omega⟩,Nat.zero_le _,by show (List.replicate 5 zRis).length ≤ 1048576; decide⟩
theorem ac_spec_NodeNew (id n cap slots wait limit : Int) (st : St) : C 193 [vI id,vI n,vI cap,vI slots,vI wait,vI limit] st (fun v s => ∃ (u : NW) (b : Bool),v = .tuple #[(vNV u),vB b] ∧ (u.x,b) = newF id n cap slots wait limit ∧ OwnP s (pcNW u) ∧ NewP st.next (pcNW u) ∧ Pres st s) := by
 refine AC.enterX (i := ⟨[12,14],[12,14],[0,1,2,3,4,5,12,13,14,17,38],[(3,[0,1,2,3,4,5,6,8,10,11,12,13,14,7,9,15,16,17,18])]⟩) [(3,[],[])] Tryz.func193 rfl rfl (by kernel_rfl) (by kernel_rfl) Tryz.ntmps193 (Lb rfl) rfl ?_
 refine ⟨_,rfl,?_⟩
 refine Cm 1 st [(0,vI id),(1,vI n),(2,vI cap),(3,vI slots),(4,vI wait),(5,vI limit),Ml 12 0,(13,vB false)] [(12,0,Zn)] fun _ _ => ?_
 refine ⟨_,rfl,(ac_spec_l1In n 1 5 st).mono ?_⟩
 rintro _ st ⟨x16,rfl,h16,rfl⟩
 rcases x16 with _|_
 ·replace h16 := of_decide_eq_false h16.symm
  refine ⟨_,rfl,?_⟩
  refine Cm 1 st [(0,vI id),(1,vI n),(2,vI cap),(3,vI slots),(4,vI wait),(5,vI limit),Ml 12 0,(13,vB false),(17,vB true)] [(12,0,Zn)] fun _ _ => ?_
  refine ⟨_,rfl,?_⟩
  refine ⟨_,op_stw (vs := [vI 0,vI 0,.slice none 0 0,.slice none 0 0,.slice none 0 0,vI 0,vI 0,vI 0,.slice none 0 0,.slice none 0 0,.slice none 0 0,.slice none 0 0,vI 0,vI 0,.slice none 0 0,vI 0,vI 0,vI 0,.slice none 0 0]) rfl rfl rfl rfl rfl rfl rfl rfl,?_⟩
  exact cxs (Rt ⟨zNW,false,rfl,newF_no (fun k => h16 k.1),Frs.nd0.1,Frs.nd0.2.1,Pres.refl _⟩)
 ·replace h16 := of_decide_eq_true h16.symm
  refine ⟨_,rfl,?_⟩
  refine Cm 1 st [(0,vI id),(1,vI n),(2,vI cap),(3,vI slots),(4,vI wait),(5,vI limit),Ml 12 0,(13,vB false),(17,vB false)] [(12,0,Zn)] fun _ _ => ?_
  refine cxs ?_
  refine ⟨_,rfl,?_⟩
  refine ⟨_,rfl,(ac_spec_TreeOf ⟨none,none,nilS⟩ st ⟨Rows.nil,Rows.nil⟩ bigS_nil).mono ?_⟩
  rintro _ s22 ⟨u22,rfl,h22,hO22,hN22,hP22⟩
  refine ⟨_,rfl,?_⟩
  refine ⟨_,rfl,(ac_spec_TableNew n s22).mono ?_⟩
  rintro _ s30 ⟨p30,t30,rfl,hO30,hN30,hP30,h30⟩
  refine op_mkK (z := 1) (f := fI) (a := (0 : Int)) (b := 8) (i := (zI n).length) rfl rfl rfl (zI_int h16) (zI_int h16) rfl rfl rfl rfl Nat.one_pos rfl rfl (by have := zI_len n; omega) (by have := zI_len n; omega) ?_
  intro q26 s26 hO26 hP26 hN26
  rw [zI_mk] at hO26
  refine op_mkK (z := 1) (f := fI) (a := (0 : Int)) (b := 8) (i := (zI n).length) rfl rfl rfl (zI_int h16) (zI_int h16) rfl rfl rfl rfl Nat.one_pos rfl rfl (by have := zI_len n; omega) (by have := zI_len n; omega) ?_
  intro q28 s28 hO28 hP28 hN28
  rw [zI_mk] at hO28
  refine op_mkK (z := 3) (f := cRise) (a := zRis) (b := 24) (i := 5) rfl rfl rfl rfl rfl rfl rfl rfl rfl (by decide) rfl rfl (by decide) (by decide) ?_
  intro q34 s34 hO34 hP34 hN34
  iterate 2 refine ⟨_,rfl,?_⟩
  refine ⟨_,op_stw (vs := [vI id,vI n,.slice none 0 0,.slice none 0 0,vS u22.p u22.l.length,vI u22.root,vI cap,vI 0,.slice none 0 0,vS q26 (zI n).length,vS q28 (zI n).length,vS p30 t30.length,vI 0,vI slots,.slice none 0 0,vI wait,vI limit,vI 0,vS q34 5]) rfl rfl rfl rfl rfl rfl rfl rfl,?_⟩
  refine Cm 2 s34 [Ml 12 0,(13,vB false),Ml 14 1] [(12,0,Zn),(14,1,[vI id,vI n,Sn,Sn,vS u22.p u22.l.length,vI u22.root,vI cap,vI 0,Sn,vS q26 (zI n).length,vS q28 (zI n).length,vS p30 t30.length,vI 0,vI slots,Sn,vI wait,vI limit,vI 0,vS q34 5])] fun _ _ => ?_
  have hF0 : Frs st s30 (pcNW ⟨id,n,⟨none,none,nilS⟩,u22,zLW cap,⟨none,[]⟩,⟨none,[]⟩,⟨p30,t30⟩,0,slots,⟨none,[]⟩,wait,limit,0,⟨none,[]⟩⟩) := Frs.s0.join ((Frs.one hO22 hN22 hP22).join (Frs.lg0.join (Frs.i0.join (Frs.i0.join (Frs.join ⟨hO30,hN30,hP30⟩ (Frs.ses0.join Frs.r0))))))
  have hF1 := ((hF0.got (q := ⟨q26,zI n⟩) (Frs.one hO26 hN26 hP26)).acked (q := ⟨q28,zI n⟩) (Frs.one hO28 hN28 hP28))
  have hF : Frs st s34 (pcNW (newW id n cap slots wait limit u22 q26 q28 ⟨p30,t30⟩ q34)) := hF1.rise (q := ⟨q34,List.replicate 5 zRis⟩) (Frs.one hO34 hN34 hP34)
  have hx : (newW id n cap slots wait limit u22 q26 q28 ⟨p30,t30⟩ q34).x = newN id n cap slots wait limit := nd_mk rfl h22 rfl h30
  refine ⟨_,op_ldo (v := .agg #[vI id,vI n,.slice none 0 0,.slice none 0 0,vS u22.p u22.l.length,vI u22.root,vI cap,vI 0,.slice none 0 0,vS q26 (zI n).length,vS q28 (zI n).length,vS p30 t30.length,vI 0,vI slots,.slice none 0 0,vI wait,vI limit,vI 0,vS q34 5]) rfl rfl rfl rfl,?_⟩
  refine ⟨_,rfl,(ac_spec_NodeOk (newW id n cap slots wait limit u22 q26 q28 ⟨p30,t30⟩ q34).v s34 hF.1.rdN (show bigN (newW id n cap slots wait limit u22 q26 q28 ⟨p30,t30⟩ q34).x from hx.symm ▸ newN_big h16)).mono ?_⟩
  rintro _ s37 ⟨x37,rfl,h37,hP37⟩
  rcases x37 with _|_
  ·replace h37 := fun k => Bool.false_ne_true (h37.2 k)
   refine ⟨_,rfl,?_⟩
   refine Cm 2 s37 [Ml 12 0,(13,vB false),Ml 14 1,(38,vB true)] [(12,0,Zn),(14,1,[vI id,vI n,Sn,Sn,vS u22.p u22.l.length,vI u22.root,vI cap,vI 0,Sn,vS q26 (zI n).length,vS q28 (zI n).length,vS p30 t30.length,vI 0,vI slots,Sn,vI wait,vI limit,vI 0,vS q34 5])] fun _ _ => ?_
   refine ⟨_,rfl,?_⟩
   refine ⟨_,op_stw (vs := [vI 0,vI 0,.slice none 0 0,.slice none 0 0,.slice none 0 0,vI 0,vI 0,vI 0,.slice none 0 0,.slice none 0 0,.slice none 0 0,.slice none 0 0,vI 0,vI 0,.slice none 0 0,vI 0,vI 0,vI 0,.slice none 0 0]) rfl rfl rfl rfl rfl rfl rfl rfl,?_⟩
   exact cxs (Rt ⟨zNW,false,rfl,newF_no (fun k => h37 (show nodeOk (newW id n cap slots wait limit u22 q26 q28 ⟨p30,t30⟩ q34).x from hx.symm ▸ k.2)),Frs.nd0.1,Frs.nd0.2.1,hF.2.2.trans hP37⟩)
  ·replace h37 := h37.1 rfl
   refine ⟨_,rfl,?_⟩
   refine Cm 2 s37 [Ml 12 0,(13,vB false),Ml 14 1,(38,vB false)] [(12,0,Zn),(14,1,[vI id,vI n,Sn,Sn,vS u22.p u22.l.length,vI u22.root,vI cap,vI 0,Sn,vS q26 (zI n).length,vS q28 (zI n).length,vS p30 t30.length,vI 0,vI slots,Sn,vI wait,vI limit,vI 0,vS q34 5])] fun _ _ => ?_
   refine cxs ?_
   refine ⟨_,op_ldo (v := .agg #[vI id,vI n,.slice none 0 0,.slice none 0 0,vS u22.p u22.l.length,vI u22.root,vI cap,vI 0,.slice none 0 0,vS q26 (zI n).length,vS q28 (zI n).length,vS p30 t30.length,vI 0,vI slots,.slice none 0 0,vI wait,vI limit,vI 0,vS q34 5]) rfl rfl rfl rfl,?_⟩
   refine ⟨_,op_stw (vs := [vI id,vI n,.slice none 0 0,.slice none 0 0,vS u22.p u22.l.length,vI u22.root,vI cap,vI 0,.slice none 0 0,vS q26 (zI n).length,vS q28 (zI n).length,vS p30 t30.length,vI 0,vI slots,.slice none 0 0,vI wait,vI limit,vI 0,vS q34 5]) rfl rfl rfl rfl rfl rfl rfl rfl,?_⟩
   exact cxs (Rt ⟨newW id n cap slots wait limit u22 q26 q28 ⟨p30,t30⟩ q34,true,rfl,newF_yes ⟨h16,hx ▸ (show nodeOk (newW id n cap slots wait limit u22 q26 q28 ⟨p30,t30⟩ q34).x from h37)⟩ hx,hF.1.pres hP37,hF.2.1,hF.2.2.trans hP37⟩)
theorem ac_d_l2Draw {p : Option Addr} {bs : List Int} (c : Nat) (st : St) (hc : Cur st c p bs) (hs : bs.length < 1099511627776) : C 147 [vP c 0] st (fun v s => ∃ e : Ent,v = .agg #[vI e.inc,vI e.rank,vI e.beat,vI e.ver,.string e.data] ∧ e.data.size ≤ 9 ∧ Cur s c p bs ∧ PresC c st s) := by
 refine AC.enterX (i := ⟨[2,3],[2,3,13,19,25,31,34],[0,2,3,7,8,14,20,26,32],[]⟩) [] Tryz.func147 rfl rfl (by kernel_rfl) (by kernel_rfl) Tryz.ntmps147 (Lb rfl) rfl ?_
 refine ⟨_,rfl,?_⟩
 refine Cm 1 st [(0,vP c 0),Ml 2 0] [(2,0,[vI 0,vI 0,vI 0,vI 0,.string ⟨#[]⟩])] fun _ _ => ?_
 refine ⟨_,rfl,(ac_d_l2Right c st hc (by first | assumption | omega)).mono ?_⟩
 rintro _ s5 ⟨e5,rfl,h5,hC5,hL5⟩
 refine ⟨_,rfl,?_⟩
 refine ⟨_,Os rfl,?_⟩
 refine Cm 2 s5 [(0,vP c 0),Ml 2 0,Ml 3 1] [(2,0,[vI 0,vI 0,vI 0,vI 0,.string ⟨#[]⟩]),(3,1,[vI e5.inc,vI e5.rank,vI e5.beat,vI e5.ver,.string e5.data])] fun _ _ => ?_
 have hd : e5.data.size ≤ 9 := Nat.le_trans h5.2.2.2.2 (by decide)
 refine ⟨_,rfl,(ac_d_l1Below c 14 s5 hC5 (by first | assumption | omega)).mono ?_⟩
 rintro _ s7 ⟨r7,rfl,h7,h7',h7'',hC7,hL7⟩
 refine Cm 2 s7 [(0,vP c 0),Ml 2 0,Ml 3 1,(7,vI r7)] [(2,0,[vI 0,vI 0,vI 0,vI 0,.string ⟨#[]⟩]),(3,1,[vI e5.inc,vI e5.rank,vI e5.beat,vI e5.ver,.string e5.data])] fun _ _ => ?_
 refine ⟨_,rfl,?_⟩
 rintro (_|_) h9
 ·replace h9 : ¬ (r7 = (0)) := beq_eq_false_iff_ne.1 h9
  refine Cm 2 s7 [(0,vP c 0),Ml 2 0,Ml 3 1,(7,vI r7),(8,vB false)] [(2,0,[vI 0,vI 0,vI 0,vI 0,.string ⟨#[]⟩]),(3,1,[vI e5.inc,vI e5.rank,vI e5.beat,vI e5.ver,.string e5.data])] fun _ _ => ?_
  refine ⟨_,rfl,?_⟩
  rintro (_|_) h15
  ·replace h15 : ¬ (r7 = (1)) := beq_eq_false_iff_ne.1 h15
   refine Cm 2 s7 [(0,vP c 0),Ml 2 0,Ml 3 1,(7,vI r7),(14,vB false)] [(2,0,[vI 0,vI 0,vI 0,vI 0,.string ⟨#[]⟩]),(3,1,[vI e5.inc,vI e5.rank,vI e5.beat,vI e5.ver,.string e5.data])] fun _ _ => ?_
   refine ⟨_,rfl,?_⟩
   rintro (_|_) h21
   ·replace h21 : ¬ (r7 = (2)) := beq_eq_false_iff_ne.1 h21
    refine Cm 2 s7 [(0,vP c 0),Ml 2 0,Ml 3 1,(7,vI r7),(20,vB false)] [(2,0,[vI 0,vI 0,vI 0,vI 0,.string ⟨#[]⟩]),(3,1,[vI e5.inc,vI e5.rank,vI e5.beat,vI e5.ver,.string e5.data])] fun _ _ => ?_
    refine ⟨_,rfl,?_⟩
    rintro (_|_) h27
    ·replace h27 : ¬ (r7 = (3)) := beq_eq_false_iff_ne.1 h27
     refine Cm 2 s7 [(0,vP c 0),Ml 2 0,Ml 3 1,(7,vI r7),(26,vB false)] [(2,0,[vI 0,vI 0,vI 0,vI 0,.string ⟨#[]⟩]),(3,1,[vI e5.inc,vI e5.rank,vI e5.beat,vI e5.ver,.string e5.data])] fun _ _ => ?_
     refine ⟨_,rfl,?_⟩
     rintro (_|_) h33
     ·replace h33 : ¬ (r7 = (4)) := beq_eq_false_iff_ne.1 h33
      refine Cm 2 s7 [Ml 2 0,Ml 3 1,(32,vB false)] [(2,0,[vI 0,vI 0,vI 0,vI 0,.string ⟨#[]⟩]),(3,1,[vI e5.inc,vI e5.rank,vI e5.beat,vI e5.ver,.string e5.data])] fun _ _ => ?_
      refine cxs ?_
      refine ⟨_,Od rfl,?_⟩
      refine ⟨_,Os rfl,?_⟩
      exact cxs (Rt ⟨e5,rfl,hd,hC7,hL5.trans hL7⟩)
     ·replace h33 : r7 = (4) := beq_iff_eq.1 h33
      refine Cm 2 s7 [Ml 2 0,Ml 3 1,(32,vB true)] [(2,0,[vI 0,vI 0,vI 0,vI 0,.string ⟨#[]⟩]),(3,1,[vI e5.inc,vI e5.rank,vI e5.beat,vI e5.ver,.string e5.data])] fun _ _ => ?_
      refine ⟨_,rfl,?_⟩
      refine ⟨_,Os rfl,?_⟩
      refine Cm 2 s7 [Ml 2 0,Ml 3 1] [(2,0,[vI 0,vI 0,vI 0,vI 0,.string ⟨#[]⟩]),(3,1,[vI e5.inc,vI e5.rank,vI e5.beat,vI e5.ver,.string ⟨#[49,50,51,52,53,54,55,56,57]⟩])] fun _ _ => ?_
      refine ⟨_,Od rfl,?_⟩
      refine ⟨_,Os rfl,?_⟩
      exact cxs (Rt ⟨⟨e5.inc,e5.rank,e5.beat,e5.ver,⟨#[49,50,51,52,53,54,55,56,57]⟩⟩,rfl,by show 9 ≤ 9; exact Nat.le_refl 9,hC7,hL5.trans hL7⟩)
    ·replace h27 : r7 = (3) := beq_iff_eq.1 h27
     refine Cm 2 s7 [(0,vP c 0),Ml 2 0,Ml 3 1,(7,vI r7),(26,vB true)] [(2,0,[vI 0,vI 0,vI 0,vI 0,.string ⟨#[]⟩]),(3,1,[vI e5.inc,vI e5.rank,vI e5.beat,vI e5.ver,.string e5.data])] fun _ _ => ?_
     refine op_litI (k := .i64) (l := [-1,1000,1001]) rfl rfl rfl rfl rfl rfl (Lb rfl) ?_
     intro q29 s29 hO29 hP29 hN29
     refine ⟨_,rfl,(ac_d_l1PickInt c q29 ([-1,1000,1001]) s29 (hC7.pres hP29) (by first | assumption | omega) (by first | assumption | omega | decide) (by first | assumption | omega) (by first | assumption | exact NC.new (by assumption) (Cur.lt (by assumption)))).mono ?_⟩
     rintro _ s30 ⟨r30,rfl,h30,hC30,hL30⟩
     refine ⟨_,rfl,?_⟩
     refine ⟨_,Os rfl,?_⟩
     refine Cm 2 s30 [Ml 2 0,Ml 3 1] [(2,0,[vI 0,vI 0,vI 0,vI 0,.string ⟨#[]⟩]),(3,1,[vI e5.inc,vI e5.rank,vI e5.beat,vI r30,.string e5.data])] fun _ _ => ?_
     refine ⟨_,Od rfl,?_⟩
     refine ⟨_,Os rfl,?_⟩
     exact cxs (Rt ⟨⟨e5.inc,e5.rank,e5.beat,r30,e5.data⟩,rfl,hd,hC30,((hL5.trans hL7).trans hP29.c).trans hL30⟩)
   ·replace h21 : r7 = (2) := beq_iff_eq.1 h21
    refine Cm 2 s7 [(0,vP c 0),Ml 2 0,Ml 3 1,(7,vI r7),(20,vB true)] [(2,0,[vI 0,vI 0,vI 0,vI 0,.string ⟨#[]⟩]),(3,1,[vI e5.inc,vI e5.rank,vI e5.beat,vI e5.ver,.string e5.data])] fun _ _ => ?_
    refine op_litI (k := .i64) (l := [-1,100000,100001]) rfl rfl rfl rfl rfl rfl (Lb rfl) ?_
    intro q23 s23 hO23 hP23 hN23
    refine ⟨_,rfl,(ac_d_l1PickInt c q23 ([-1,100000,100001]) s23 (hC7.pres hP23) (by first | assumption | omega) (by first | assumption | omega | decide) (by first | assumption | omega) (by first | assumption | exact NC.new (by assumption) (Cur.lt (by assumption)))).mono ?_⟩
    rintro _ s24 ⟨r24,rfl,h24,hC24,hL24⟩
    refine ⟨_,rfl,?_⟩
    refine ⟨_,Os rfl,?_⟩
    refine Cm 2 s24 [Ml 2 0,Ml 3 1] [(2,0,[vI 0,vI 0,vI 0,vI 0,.string ⟨#[]⟩]),(3,1,[vI e5.inc,vI e5.rank,vI r24,vI e5.ver,.string e5.data])] fun _ _ => ?_
    refine ⟨_,Od rfl,?_⟩
    refine ⟨_,Os rfl,?_⟩
    exact cxs (Rt ⟨⟨e5.inc,e5.rank,r24,e5.ver,e5.data⟩,rfl,hd,hC24,((hL5.trans hL7).trans hP23.c).trans hL24⟩)
  ·replace h15 : r7 = (1) := beq_iff_eq.1 h15
   refine Cm 2 s7 [(0,vP c 0),Ml 2 0,Ml 3 1,(7,vI r7),(14,vB true)] [(2,0,[vI 0,vI 0,vI 0,vI 0,.string ⟨#[]⟩]),(3,1,[vI e5.inc,vI e5.rank,vI e5.beat,vI e5.ver,.string e5.data])] fun _ _ => ?_
   refine op_litI (k := .i64) (l := [-1,2]) rfl rfl rfl rfl rfl rfl (Lb rfl) ?_
   intro q17 s17 hO17 hP17 hN17
   refine ⟨_,rfl,(ac_d_l1PickInt c q17 ([-1,2]) s17 (hC7.pres hP17) (by first | assumption | omega) (by first | assumption | omega | decide) (by first | assumption | omega) (by first | assumption | exact NC.new (by assumption) (Cur.lt (by assumption)))).mono ?_⟩
   rintro _ s18 ⟨r18,rfl,h18,hC18,hL18⟩
   refine ⟨_,rfl,?_⟩
   refine ⟨_,Os rfl,?_⟩
   refine Cm 2 s18 [Ml 2 0,Ml 3 1] [(2,0,[vI 0,vI 0,vI 0,vI 0,.string ⟨#[]⟩]),(3,1,[vI e5.inc,vI r18,vI e5.beat,vI e5.ver,.string e5.data])] fun _ _ => ?_
   refine ⟨_,Od rfl,?_⟩
   refine ⟨_,Os rfl,?_⟩
   exact cxs (Rt ⟨⟨e5.inc,r18,e5.beat,e5.ver,e5.data⟩,rfl,hd,hC18,((hL5.trans hL7).trans hP17.c).trans hL18⟩)
 ·replace h9 : r7 = (0) := beq_iff_eq.1 h9
  refine Cm 2 s7 [(0,vP c 0),Ml 2 0,Ml 3 1,(7,vI r7),(8,vB true)] [(2,0,[vI 0,vI 0,vI 0,vI 0,.string ⟨#[]⟩]),(3,1,[vI e5.inc,vI e5.rank,vI e5.beat,vI e5.ver,.string e5.data])] fun _ _ => ?_
  refine op_litI (k := .i64) (l := [0,1000,1001,-1]) rfl rfl rfl rfl rfl rfl (Lb rfl) ?_
  intro q11 s11 hO11 hP11 hN11
  refine ⟨_,rfl,(ac_d_l1PickInt c q11 ([0,1000,1001,-1]) s11 (hC7.pres hP11) (by first | assumption | omega) (by first | assumption | omega | decide) (by first | assumption | omega) (by first | assumption | exact NC.new (by assumption) (Cur.lt (by assumption)))).mono ?_⟩
  rintro _ s12 ⟨r12,rfl,h12,hC12,hL12⟩
  refine ⟨_,rfl,?_⟩
  refine ⟨_,Os rfl,?_⟩
  refine Cm 2 s12 [Ml 2 0,Ml 3 1] [(2,0,[vI 0,vI 0,vI 0,vI 0,.string ⟨#[]⟩]),(3,1,[vI r12,vI e5.rank,vI e5.beat,vI e5.ver,.string e5.data])] fun _ _ => ?_
  refine ⟨_,Od rfl,?_⟩
  refine ⟨_,Os rfl,?_⟩
  exact cxs (Rt ⟨⟨r12,e5.rank,e5.beat,e5.ver,e5.data⟩,rfl,hd,hC12,((hL5.trans hL7).trans hP11.c).trans hL12⟩)
open Classical in
noncomputable def singF (id : Int) (e : Ent) : Sta × Bool := if stateOk ⟨[⟨id,e⟩],[]⟩ then (⟨[⟨id,e⟩],[]⟩,true) else (nilS,false)
theorem sing_ok {id : Int} {e : Ent} {x : Sta} {b : Bool} (h : (x,b) = singF id e) : stateOk x := by
 unfold singF at h
 split at h
 ·injection h with h _; rw [h]; assumption
 ·injection h with h _; rw [h]; exact stateOk_nil
theorem ac_spec_Single (id : Int) (e : Ent) (st : St) (hz : e.data.size ≤ 1048576) : C 197 [vI id,.agg #[vI e.inc,vI e.rank,vI e.beat,vI e.ver,.string e.data]] st (fun v s => ∃ (u : SV) (b : Bool),v = .tuple #[.agg #[vS u.p u.x.items.length,vS u.q u.x.floors.length],vB b] ∧ (u.x,b) = singF id e ∧ OwnP s (pcS u) ∧ NewP st.next (pcS u) ∧ Pres st s) := by
 refine AC.enterX (i := ⟨[3,4,6],[3,4,6],[0,1,3,4,5,6,14],[]⟩) [] Tryz.func197 rfl rfl (by kernel_rfl) (by kernel_rfl) Tryz.ntmps197 (Lb rfl) rfl ?_
 iterate 2 refine ⟨_,rfl,?_⟩
 refine Cm 2 st [(0,vI id),Ml 3 0,Ml 4 1,(5,vB false)] [(3,0,[vI e.inc,vI e.rank,vI e.beat,vI e.ver,.string e.data]),(4,1,[Sn,Sn])] fun _ _ => ?_
 refine ⟨_,Od rfl,?_⟩
 refine ⟨_,rfl,?_⟩
 refine op_one (z := 6) (a := (⟨id,e⟩ : Itm)) (f := cItm) rfl rfl rfl rfl rfl (by decide) rfl (Lb rfl) rfl rfl rfl ?_
 iterate 2 refine ⟨_,rfl,?_⟩
 refine ⟨_,Os rfl,?_⟩
 refine Cm 3 (st.push 6 ([(⟨id,e⟩ : Itm)].flatMap cItm)) [Ml 4 1,(5,vB false),Ml 6 2] [(4,1,[Sn,Sn]),(6,2,[vS (some ⟨st.next,0,none⟩) 1,Sn])] fun _ _ => ?_
 have hO : OwnR (st.push 6 ([(⟨id,e⟩ : Itm)].flatMap cItm)) 6 cItm (some ⟨st.next,0,none⟩) [(⟨id,e⟩ : Itm)] := OwnR.push
 obtain ⟨s1,hs1⟩ : ∃ s,s = st.push 6 ([(⟨id,e⟩ : Itm)].flatMap cItm) := ⟨_,rfl⟩
 have hP1 : Pres st (st.push 6 ([(⟨id,e⟩ : Itm)].flatMap cItm)) := Pres.push
 rw [← hs1] at hO hP1 ⊢
 have hF : Frs st s1 (pcS ⟨some ⟨st.next,0,none⟩,none,⟨[⟨id,e⟩],[]⟩⟩) := ⟨⟨fun d hd => by
  rcases List.mem_cons.1 hd with rfl | hd
  ·exact own_pc hO
  ·rw [List.mem_singleton.1 hd]; exact .inl ⟨rfl,rfl⟩,List.pairwise_pair.2 (Dis.symm Dis.none)⟩,NewP.cons (by intro r hr; injection hr with hr; rw [← hr]; exact Nat.le_refl _) (NewP.cons New.none NewP.nil),hP1⟩
 have hb : bigS ⟨[⟨id,e⟩],[]⟩ := ⟨show 1 ≤ 1048576 by decide,Nat.zero_le _,fun y hy => by rw [List.mem_singleton.1 hy]; exact hz⟩
 refine ⟨_,Od rfl,?_⟩
 refine ⟨_,rfl,(ac_spec_StateOk ⟨some ⟨st.next,0,none⟩,none,⟨[⟨id,e⟩],[]⟩⟩ s1 hF.1.rdS hb).mono ?_⟩
 rintro _ s1 ⟨x13,rfl,h13,rfl⟩
 rcases x13 with _|_
 ·replace h13 := fun k => Bool.false_ne_true (h13.2 k)
  refine ⟨_,rfl,?_⟩
  refine Cm 3 s1 [Ml 4 1,(5,vB false),Ml 6 2,(14,vB true)] [(4,1,[Sn,Sn]),(6,2,[vS (some ⟨st.next,0,none⟩) 1,Sn])] fun _ _ => ?_
  refine ⟨_,rfl,?_⟩
  refine ⟨_,Os rfl,?_⟩
  exact cxs (Rt ⟨⟨none,none,nilS⟩,false,rfl,(if_neg h13).symm,pcS_nil,newS_nil,hP1⟩)
 ·replace h13 := h13.1 rfl
  refine ⟨_,rfl,?_⟩
  refine Cm 3 s1 [Ml 4 1,(5,vB false),Ml 6 2,(14,vB false)] [(4,1,[Sn,Sn]),(6,2,[vS (some ⟨st.next,0,none⟩) 1,Sn])] fun _ _ => ?_
  refine cxs ?_
  refine ⟨_,Od rfl,?_⟩
  refine ⟨_,Os rfl,?_⟩
  exact cxs (Rt ⟨⟨some ⟨st.next,0,none⟩,none,⟨[⟨id,e⟩],[]⟩⟩,true,rfl,(if_pos h13).symm,hF.1,hF.2.1,hP1⟩)
theorem frs_floor1 {a : St} {x : Flr} : Frs a (a.push 2 ([x].flatMap cFlr)) (pcS ⟨none,some ⟨a.next,0,none⟩,⟨[],[x]⟩⟩) := ⟨⟨fun d hd => by
  rcases List.mem_cons.1 hd with rfl | hd
  ·exact .inl ⟨rfl,rfl⟩
  ·rw [List.mem_singleton.1 hd]; exact own_pc OwnR.push,List.pairwise_pair.2 Dis.none⟩,NewP.cons New.none (NewP.cons (by intro r hr; injection hr with hr; rw [← hr]; exact Nat.le_refl _) NewP.nil),Pres.push⟩
theorem ok_floor1 {id inc : Int} (h : 0 ≤ id ∧ id ≤ 4) (k : 1 ≤ inc ∧ inc ≤ 1000) : stateOk ⟨[],[⟨id,inc⟩]⟩ := stateOk_floors fun j x hx => by
 cases j with
 | zero => injection hx with hx; rw [← hx]; exact ⟨h,k,fun y hy => by omega⟩
 | succ j => simp at hx
theorem ac_d_l3Right {p : Option Addr} {bs : List Int} (c : Nat) (st : St) (hc : Cur st c p bs) (hs : bs.length < 1099511627776) : C 146 [vP c 0] st (fun v s => ∃ u : SV,v = .agg #[vS u.p u.x.items.length,vS u.q u.x.floors.length] ∧ stateOk u.x ∧ FrC c st s (pcS u) ∧ Cur s c p bs) := by
 refine AC.enterX (i := ⟨[2,3,6],[2,3,6],[0,2,3,4,5,6,8,9,15,33],[]⟩) [(2012,[],[1]),(12,[2,4,7],[0])] Tryz.func146 rfl rfl (by kernel_rfl) (by kernel_rfl) Tryz.ntmps146 (Lb rfl) rfl ?_
 refine ⟨_,rfl,?_⟩
 refine Cm 1 st [(0,vP c 0),Ml 2 0] [(2,0,[Sn,Sn])] fun _ _ => ?_
 iterate 2 refine ⟨_,rfl,?_⟩
 refine ⟨_,Os rfl,?_⟩
 refine Cm 2 st [(0,vP c 0),Ml 2 0,Ml 3 1] [(2,0,[Sn,Sn]),(3,1,[Sn,Sn])] fun _ _ => ?_
 refine ⟨_,rfl,(ac_d_l1Below c 7 st hc (by first | assumption | omega)).mono ?_⟩
 rintro _ s12 ⟨r12,rfl,h12,h12',h12'',hC12,hL12⟩
 refine cxs ?_
 refine Cm 2 s12 [(0,vP c 0),Ml 2 0,Ml 3 1,(4,vI r12),(5,vI 0)] [(2,0,[Sn,Sn]),(3,1,[Sn,Sn])] fun _ _ => ?_
 refine AW.loopM (fun x : Nat × SV => [(0,vP c 0),(2,vL 2 0 (0)),(3,vL 3 0 (1)),(4,vI r12),(5,vI (x.1 : Int))]) (fun x : Nat × SV => [(2,0,[.slice none 0 0,.slice none 0 0]),(3,1,[vS x.2.p x.2.x.items.length,vS x.2.q x.2.x.floors.length])]) (fun m (x : Nat × SV) st' => m = r12.toNat - x.1 ∧ (x.1 : Int) ≤ r12 ∧ stateOk x.2.x ∧ FrC c st st' (pcS x.2) ∧ Cur st' c p bs) (0,⟨none,none,nilS⟩) _ ⟨rfl,rfl,rfl,rfl,rfl,trivial⟩ ⟨rfl,rfl,trivial⟩ ⟨rfl,h12,stateOk_nil,(Frs.nlS.toC hC12.lt).sooner hL12 hc.lt,hC12⟩ ?_
 rintro m ⟨i,u⟩ ρ0 ff gg st' ⟨rfl,hi,hk,hF,hC⟩
 simp only at hi hk hF
 refine ⟨_,rfl,?_⟩
 rintro (_|_) h15
 ·replace h15 : ¬ ((i : Int) < r12) := of_decide_eq_false h15
  refine Cm gg st' [(0,vP c 0),Ml 2 0,Ml 3 1,(4,vI r12),(5,vI (i : Int)),(15,vB false)] [(2,0,[Sn,Sn]),(3,1,cSV u)] fun _ _ => ?_
  refine cxs ?_
  refine ⟨_,rfl,(ac_d_l1Below c 3 st' hC (by first | assumption | omega)).mono ?_⟩
  rintro _ s30 ⟨r30,rfl,h30,h30',h30'',hC30,hL30⟩
  refine cxs ?_
  have hF30 := hF.later hL30
  refine Cm gg s30 [(0,vP c 0),Ml 2 0,Ml 3 1,(8,vI r30),(9,vI 0)] [(2,0,[Sn,Sn]),(3,1,cSV u)] fun _ _ => ?_
  refine AW.loopM (fun x : Nat × SV => [(0,vP c 0),(2,vL 2 0 (0)),(3,vL 3 0 (1)),(8,vI r30),(9,vI (x.1 : Int))]) (fun x : Nat × SV => [(2,0,[.slice none 0 0,.slice none 0 0]),(3,1,[vS x.2.p x.2.x.items.length,vS x.2.q x.2.x.floors.length])]) (fun m (x : Nat × SV) st' => m = r30.toNat - x.1 ∧ (x.1 : Int) ≤ r30 ∧ stateOk x.2.x ∧ FrC c st st' (pcS x.2) ∧ Cur st' c p bs) (0,u) _ ⟨rfl,rfl,rfl,rfl,rfl,trivial⟩ ⟨rfl,rfl,trivial⟩ ⟨rfl,h30,hk,hF30,hC30⟩ ?_
  rintro m ⟨i,u⟩ ρ0 ff gg st' ⟨rfl,hi,hk,hF,hC⟩
  simp only at hi hk hF
  refine ⟨_,rfl,?_⟩
  rintro (_|_) h33
  ·replace h33 : ¬ ((i : Int) < r30) := of_decide_eq_false h33
   refine Cm gg st' [(0,vP c 0),Ml 2 0,Ml 3 1,(8,vI r30),(9,vI (i : Int)),(33,vB false)] [(2,0,[Sn,Sn]),(3,1,cSV u)] fun _ _ => ?_
   refine cxs ?_
   refine ⟨_,Od rfl,?_⟩
   refine ⟨_,Os rfl,?_⟩
   exact cxs (Rt ⟨u,rfl,hk,hF,hC⟩)
  ·replace h33 : (i : Int) < r30 := of_decide_eq_true h33
   refine Cm gg st' [(0,vP c 0),Ml 2 0,Ml 3 1,(8,vI r30),(9,vI (i : Int)),(33,vB true)] [(2,0,[Sn,Sn]),(3,1,cSV u)] fun _ _ => ?_
   refine cxs ?_
   refine ⟨fun _ => False,?_⟩
   refine ⟨_,Od rfl,?_⟩
   refine ⟨ld_own rfl rfl rfl,?_⟩
   refine ⟨_,rfl,(ac_d_l1Below c 5 st' hC (by first | assumption | omega)).mono ?_⟩
   rintro _ s38 ⟨r38,rfl,h38,h38',h38'',hC38,hL38⟩
   refine ⟨fun _ h => h.elim,?_⟩
   refine ⟨_,rfl,(ac_d_l1Below c 2 s38 hC38 (by first | assumption | omega)).mono ?_⟩
   rintro _ s40 ⟨r40,rfl,h40,h40',h40'',hC40,hL40⟩
   refine ⟨fun _ h => h.elim,?_⟩
   have ew41 : IntKind.wrap .i64 ((1) + r40) = (1) + r40 := wrap_i64 (by omega) (by omega)
   iterate 2 refine ⟨_,rfl,?_⟩
   refine op_one (z := 2) (a := ((⟨r38,IntKind.wrap .i64 (1 + r40)⟩ : Flr) : Flr)) (f := cFlr) rfl rfl rfl rfl rfl (by decide) rfl (Lb rfl) rfl rfl rfl ?_
   refine ⟨fun _ h => h.elim,?_⟩
   refine ⟨_,rfl,?_⟩
   have hF40 := (hF.later hL38).later hL40
   have hP43 : Pres s40 (s40.push 2 ([(⟨r38,IntKind.wrap .i64 (1 + r40)⟩ : Flr)].flatMap cFlr)) := Pres.push
   have hF43 : Frs s40 (s40.push 2 ([(⟨r38,IntKind.wrap .i64 (1 + r40)⟩ : Flr)].flatMap cFlr)) (pcS ⟨none,some ⟨s40.next,0,none⟩,⟨[],[⟨r38,IntKind.wrap .i64 (1 + r40)⟩]⟩⟩) := frs_floor1
   have hR43 := (hF40.step hP43).1.rdS
   have hC43 := hC40.pres hP43
   have hk43 : stateOk ⟨[],[⟨r38,IntKind.wrap .i64 (1 + r40)⟩]⟩ := ok_floor1 (by omega) (by omega)
   refine ⟨_,rfl,(ac_spec_l3Join u ⟨none,some ⟨s40.next,0,none⟩,⟨[],[⟨r38,IntKind.wrap .i64 (1 + r40)⟩]⟩⟩ (s40.push 2 ([(⟨r38,IntKind.wrap .i64 (1 + r40)⟩ : Flr)].flatMap cFlr)) hR43 hF43.1.rdS (big_ok hk) (big_ok hk43) hk hk43).mono ?_⟩
   rintro _ s45 ⟨u45,rfl,h45,hO45,hN45,hP45⟩
   refine ⟨_,Os rfl,?_⟩
   refine Cm gg s45 [(0,vP c 0),Ml 2 0,Ml 3 1,(8,vI r30),(9,vI (i : Int)),(33,vB true)] [(2,0,[Sn,Sn]),(3,1,cSV u45)] fun _ _ => ?_
   have hF45 : FrC c st s45 (pcS u45) := (Frs.toC ⟨hO45,hN45,hP45⟩ (hF40.step hP43).lt).sooner (hF40.step hP43).2.2.1 hc.lt
   have ew35 : IntKind.wrap .i64 ((i : Int) + (1)) = ((i + 1 : Nat) : Int) := (wrap_i64 (by omega) (by omega)).trans (by omega)
   refine ⟨_,rfl,?_⟩
   exact ⟨(i + 1,u45),r30.toNat - (i + 1),by omega,⟨rfl,rfl,rfl,rfl,congrArg (Value.int .i64) ew35,trivial⟩,⟨rfl,rfl,trivial⟩,rfl,by simp only; omega,by rw [h45]; exact stateOk_join hk hk43,hF45,hC43.pres hP45⟩
 ·replace h15 : (i : Int) < r12 := of_decide_eq_true h15
  refine Cm gg st' [(0,vP c 0),Ml 2 0,Ml 3 1,(4,vI r12),(5,vI (i : Int)),(15,vB true)] [(2,0,[Sn,Sn]),(3,1,cSV u)] fun _ _ => ?_
  refine cxs ?_
  refine ⟨_,rfl,(ac_d_l1Below c 5 st' hC (by first | assumption | omega)).mono ?_⟩
  rintro _ s20 ⟨r20,rfl,h20,h20',h20'',hC20,hL20⟩
  refine ⟨_,rfl,(ac_d_l2Right c s20 hC20 (by first | assumption | omega)).mono ?_⟩
  rintro _ s22 ⟨e22,rfl,h22,hC22,hL22⟩
  refine ⟨_,rfl,(ac_spec_Single r20 e22 s22 (Nat.le_trans h22.2.2.2.2 (by decide))).mono ?_⟩
  rintro _ s23 ⟨u23,b23,rfl,h23,hO23,hN23,hP23⟩
  iterate 3 refine ⟨_,rfl,?_⟩
  refine ⟨_,Os rfl,?_⟩
  refine Cm (gg + 1) s23 [(0,vP c 0),Ml 2 0,Ml 3 1,(4,vI r12),(5,vI (i : Int)),Ml 6 gg,(15,vB true)] [(2,0,[Sn,Sn]),(3,1,cSV u),(6,gg,cSV u23)] fun _ _ => ?_
  have hF22 := (hF.later hL20).later hL22
  have hF23 : FrC c st s23 (pcS u23) := (Frs.toC ⟨hO23,hN23,hP23⟩ hF22.lt).sooner hF22.2.2.1 hc.lt
  have hR23 : RdS s23 u := (hF22.step hP23).1.rdS
  have hC23 := hC22.pres hP23
  have hk23 := sing_ok h23
  have hbu := big_ok hk
  have hbv := big_ok hk23
  refine ⟨_,Od rfl,?_⟩
  refine ⟨_,Od rfl,?_⟩
  refine ⟨_,rfl,(ac_spec_l3Join u u23 s23 hR23 hF23.1.rdS (by first | assumption | omega) (by first | assumption | omega) (by first | assumption | omega) (by first | assumption | omega)).mono ?_⟩
  rintro _ s28 ⟨u28,rfl,h28,hO28,hN28,hP28⟩
  refine ⟨_,Os rfl,?_⟩
  refine Cm (gg + 1) s28 [(0,vP c 0),Ml 2 0,Ml 3 1,(4,vI r12),(5,vI (i : Int)),Ml 6 gg,(15,vB true)] [(2,0,[Sn,Sn]),(3,1,cSV u28),(6,gg,cSV u23)] fun _ _ => ?_
  have ew17 : IntKind.wrap .i64 ((i : Int) + (1)) = ((i + 1 : Nat) : Int) := (wrap_i64 (by omega) (by omega)).trans (by omega)
  refine ⟨_,rfl,?_⟩
  exact ⟨(i + 1,u28),r12.toNat - (i + 1),by omega,⟨rfl,rfl,rfl,rfl,congrArg (Value.int .i64) ew17,trivial⟩,⟨rfl,rfl,trivial⟩,rfl,by simp only; omega,by rw [h28]; exact stateOk_join hk hk23,(Frs.toC ⟨hO28,hN28,hP28⟩ hF23.lt).sooner hF23.2.2.1 hc.lt,hC23.pres hP28⟩
theorem smS.snocI {n : Nat} {x : Sta} {y : Itm} (h : smS n x) (hy : y.e.data.size ≤ 9) : smS (n + 1) ⟨x.items ++ [y],x.floors⟩ := ⟨by rw [List.length_append]; exact Nat.succ_le_succ h.i,Nat.le_succ_of_le h.f,fun z hz => by
 rcases List.mem_append.1 hz with hz | hz
 ·exact h.d z hz
 ·rw [List.mem_singleton.1 hz]; exact hy⟩
theorem smS.snocF {n : Nat} {x : Sta} {y : Flr} (h : smS n x) : smS (n + 1) ⟨x.items,x.floors ++ [y]⟩ := ⟨Nat.le_succ_of_le h.i,by rw [List.length_append]; exact Nat.succ_le_succ h.f,h.d⟩
theorem smS.setI {n i : Nat} {x : Sta} {y : Itm} (h : smS n x) (hy : y.e.data.size ≤ 9) : smS (n + 1) ⟨x.items.set i y,x.floors⟩ := ⟨by rw [List.length_set]; exact Nat.le_succ_of_le h.i,Nat.le_succ_of_le h.f,fun z hz => by
 rcases List.mem_or_eq_of_mem_set hz with hz | rfl
 ·exact h.d z hz
 ·exact hy⟩
theorem ac_d_l3Draw {p : Option Addr} {bs : List Int} (c : Nat) (st : St) (hc : Cur st c p bs) (hs : bs.length < 1099511627776) : C 48 [vP c 0] st (fun v s => ∃ u : SV,v = .agg #[vS u.p u.x.items.length,vS u.q u.x.floors.length] ∧ smS 6 u.x ∧ FrC c st s (pcS u) ∧ Cur s c p bs) := by
 refine AC.enterX (i := ⟨[2,3],[2,3,10,20,23,34,37,41,44,54,58,60],[0,2,3,7,8,21,35,40,52,57],[]⟩) [(2004,[],[1]),(2006,[],[1]),(2009,[],[1]),(4,[3,6,8],[1]),(6,[3,6,7,9],[1]),(9,[6,8],[1]),(12,[],[])] Tryz.func48 rfl rfl (by kernel_rfl) (by kernel_rfl) Tryz.ntmps48 (Lb rfl) rfl ?_
 refine ⟨_,rfl,?_⟩
 refine Cm 1 st [(0,vP c 0),Ml 2 0] [(2,0,[Sn,Sn])] fun _ _ => ?_
 refine ⟨_,rfl,(ac_d_l3Right c st hc (by first | assumption | omega)).mono ?_⟩
 rintro _ s5 ⟨u5,rfl,h5,hF5,hC5⟩
 refine ⟨_,rfl,?_⟩
 refine ⟨_,Os rfl,?_⟩
 refine Cm 2 s5 [(0,vP c 0),Ml 2 0,Ml 3 1] [(2,0,[Sn,Sn]),(3,1,cSV u5)] fun _ _ => ?_
 have hsm := sm_ok h5
 have hNi : New st.next u5.p := hF5.2.1 _ (List.mem_cons_self ..)
 have hNf : New st.next u5.q := hF5.2.1 _ (List.mem_cons_of_mem _ (List.mem_cons_self ..))
 refine ⟨_,rfl,(ac_d_l1Below c 14 s5 hC5 (by first | assumption | omega)).mono ?_⟩
 rintro _ s7 ⟨r7,rfl,h7,h7',h7'',hC7,hL7⟩
 refine Cm 2 s7 [(0,vP c 0),Ml 2 0,Ml 3 1,(7,vI r7)] [(2,0,[Sn,Sn]),(3,1,cSV u5)] fun _ _ => ?_
 have hF7 := hF5.later hL7
 have hR7 := hF7.1.rdS
 refine ⟨_,rfl,?_⟩
 rintro (_|_) h9
 ·replace h9 : ¬ (r7 = (0)) := beq_eq_false_iff_ne.1 h9
  refine Cm 2 s7 [(0,vP c 0),Ml 2 0,Ml 3 1,(7,vI r7),(8,vB false)] [(2,0,[Sn,Sn]),(3,1,cSV u5)] fun _ _ => ?_
  refine ⟨_,rfl,?_⟩
  rintro (_|_) h22
  ·replace h22 : ¬ (r7 = (1)) := beq_eq_false_iff_ne.1 h22
   refine Cm 2 s7 [(0,vP c 0),Ml 2 0,Ml 3 1,(7,vI r7),(21,vB false)] [(2,0,[Sn,Sn]),(3,1,cSV u5)] fun _ _ => ?_
   refine ⟨_,rfl,?_⟩
   rintro (_|_) h36
   ·replace h36 : ¬ (r7 = (2)) := beq_eq_false_iff_ne.1 h36
    refine Cm 2 s7 [(0,vP c 0),Ml 2 0,Ml 3 1,(7,vI r7),(35,vB false)] [(2,0,[Sn,Sn]),(3,1,cSV u5)] fun _ _ => ?_
    refine ⟨_,rfl,?_⟩
    rintro (_|_) h53
    ·replace h53 : ¬ (r7 = (3)) := beq_eq_false_iff_ne.1 h53
     refine Cm 2 s7 [Ml 2 0,Ml 3 1,(52,vB false)] [(2,0,[Sn,Sn]),(3,1,cSV u5)] fun _ _ => ?_
     refine cxs ?_
     refine ⟨_,Od rfl,?_⟩
     refine ⟨_,Os rfl,?_⟩
     exact cxs (Rt ⟨u5,rfl,hsm.le (by decide),hF7,hC7⟩)
    ·replace h53 : r7 = (3) := beq_iff_eq.1 h53
     refine Cm 2 s7 [Ml 2 0,Ml 3 1,(52,vB true)] [(2,0,[Sn,Sn]),(3,1,cSV u5)] fun _ _ => ?_
     refine ⟨_,rfl,?_⟩
     refine ⟨_,Od rfl,?_⟩
     iterate 2 refine ⟨_,rfl,?_⟩
     rintro (_|_) h57
     ·replace h57 : ¬ ((u5.x.items.length : Int) > (1)) := of_decide_eq_false h57
      refine Cm 2 s7 [Ml 2 0,Ml 3 1,(57,vB false)] [(2,0,[Sn,Sn]),(3,1,cSV u5)] fun _ _ => ?_
      refine cxs ?_
      refine ⟨_,Od rfl,?_⟩
      refine ⟨_,Os rfl,?_⟩
      exact cxs (Rt ⟨u5,rfl,hsm.le (by decide),hF7,hC7⟩)
     ·replace h57 : (u5.x.items.length : Int) > (1) := of_decide_eq_true h57
      refine Cm 2 s7 [Ml 2 0,Ml 3 1,(57,vB true)] [(2,0,[Sn,Sn]),(3,1,cSV u5)] fun _ _ => ?_
      refine ⟨_,rfl,?_⟩
      refine ⟨_,Od rfl,?_⟩
      refine ⟨_,rfl,?_⟩
      refine ⟨_,Od rfl,?_⟩
      refine op_at 1 hR7.1 (by omega) rfl rfl rfl rfl rfl rfl rfl ?_
      intro x62 b62 d62 k62 hy62 hb62 hm62 hc62 ho62
      refine ⟨_,op_lda rfl rfl rfl rfl rfl hm62 hc62 rfl,?_⟩
      have hO7 : OwnR s7 6 cItm u5.p u5.x.items := hF7.1.items
      obtain ⟨a,ha⟩ := hO7.some (by omega)
      have hd62 : x62.e.data.size ≤ 9 := hsm.d _ (List.mem_of_getElem? hy62)
      refine ⟨_,op_idx (j := 0) (n := u5.x.items.length) (q := ⟨a,0,none⟩) rfl (congrArg (fun v => vS v u5.x.items.length) ha) rfl rfl rfl (Int.le_refl 0) (by omega),?_⟩
      refine op_put (st := s7) (f := cItm) (j := 0) (l := u5.x.items) (y := x62) (p := u5.p) (d := 0 + (0 : Int).toNat * 6) rfl rfl rfl rfl rfl len_cItm rfl rfl (by omega) hO7 ha ?_
      intro s64 hO64 hP64 hn64
      refine Cm 2 s64 [Ml 2 0,Ml 3 1] [(2,0,[Sn,Sn]),(3,1,cSV u5)] fun _ _ => ?_
      refine ⟨_,Od rfl,?_⟩
      refine ⟨_,Os rfl,?_⟩
      refine cxs ?_
      have hF64 := hF7.setItems hP64 hO64
      exact Rt ⟨⟨u5.p,u5.q,⟨u5.x.items.set 0 x62,u5.x.floors⟩⟩,congrArg (fun n => Value.agg #[vS u5.p n,vS u5.q u5.x.floors.length]) List.length_set.symm,hsm.setI hd62,hF64.1,hC7.thenNew hc hF7.2.2.1 hP64 hNi⟩
   ·replace h36 : r7 = (2) := beq_iff_eq.1 h36
    refine Cm 2 s7 [(0,vP c 0),Ml 2 0,Ml 3 1,(7,vI r7),(35,vB true)] [(2,0,[Sn,Sn]),(3,1,cSV u5)] fun _ _ => ?_
    refine ⟨_,rfl,?_⟩
    refine ⟨_,Od rfl,?_⟩
    iterate 2 refine ⟨_,rfl,?_⟩
    rintro (_|_) h40
    ·replace h40 : ¬ ((u5.x.items.length : Int) > (0)) := of_decide_eq_false h40
     refine Cm 2 s7 [(0,vP c 0),Ml 2 0,Ml 3 1,(40,vB false)] [(2,0,[Sn,Sn]),(3,1,cSV u5)] fun _ _ => ?_
     refine cxs ?_
     refine ⟨_,Od rfl,?_⟩
     refine ⟨_,Os rfl,?_⟩
     exact cxs (Rt ⟨u5,rfl,hsm.le (by decide),hF7,hC7⟩)
    ·replace h40 : (u5.x.items.length : Int) > (0) := of_decide_eq_true h40
     refine Cm 2 s7 [(0,vP c 0),Ml 2 0,Ml 3 1,(40,vB true)] [(2,0,[Sn,Sn]),(3,1,cSV u5)] fun _ _ => ?_
     refine ⟨fun _ => False,?_⟩
     refine ⟨_,rfl,?_⟩
     refine ⟨_,Od rfl,?_⟩
     refine ⟨ld_own rfl rfl rfl,?_⟩
     refine ⟨_,rfl,?_⟩
     refine ⟨_,Od rfl,?_⟩
     refine ⟨_,rfl,?_⟩
     refine ⟨_,rfl,(ac_d_l1Below c (u5.x.items.length : Int) s7 hC7 (by first | assumption | omega)).mono ?_⟩
     rintro _ s47 ⟨r47,rfl,h47,h47',h47'',hC47,hL47⟩
     refine ⟨fun _ h => h.elim,?_⟩
     refine ⟨_,rfl,(ac_d_l2Draw c s47 hC47 (by first | assumption | omega)).mono ?_⟩
     rintro _ s49 ⟨e49,rfl,h49,hC49,hL49⟩
     refine ⟨fun _ h => h.elim,?_⟩
     have hF49 := (hF7.later hL47).later hL49
     have hO49 : OwnR s49 6 cItm u5.p u5.x.items := hF49.1.items
     have h47l := h47' (by omega)
     obtain ⟨a,ha⟩ := hO49.some (by omega)
     obtain ⟨w,hw⟩ : ∃ w,u5.x.items[r47.toNat]? = some w := ⟨_,List.getElem?_eq_getElem (by omega)⟩
     refine ⟨_,op_idx (j := r47) (n := u5.x.items.length) (q := ⟨a,0,none⟩) rfl (congrArg (fun v => vS v u5.x.items.length) ha) rfl rfl rfl h47 (by omega),?_⟩
     refine ⟨_,rfl,?_⟩
     refine op_putw (st := s49) (f := cItm) (z := 6) (i := 1) (j := r47.toNat) (l := u5.x.items) (w := w) (y := (⟨w.id,e49⟩ : Itm)) (ws := cEnt e49) (p := u5.p) (d := 0 + r47.toNat * 6 + 1) rfl rfl (congrArg (· + 1) (Nat.zero_add _)) rfl rfl len_cItm rfl rfl hw ⟨[vI w.id],cEnt w.e,[],rfl,rfl,rfl,rfl⟩ hO49 ha ?_
     intro s51 hO51 hP51 hn51
     refine Cm 2 s51 [Ml 2 0,Ml 3 1] [(2,0,[Sn,Sn]),(3,1,cSV u5)] fun _ _ => ?_
     refine ⟨_,Od rfl,?_⟩
     refine ⟨_,Os rfl,?_⟩
     refine cxs ?_
     have hF51 := hF49.setItems hP51 hO51
     exact Rt ⟨⟨u5.p,u5.q,⟨u5.x.items.set r47.toNat ⟨w.id,e49⟩,u5.x.floors⟩⟩,congrArg (fun n => Value.agg #[vS u5.p n,vS u5.q u5.x.floors.length]) List.length_set.symm,hsm.setI h49,hF51.1,hC49.thenNew hc hF49.2.2.1 hP51 hNi⟩
  ·replace h22 : r7 = (1) := beq_iff_eq.1 h22
   refine Cm 2 s7 [(0,vP c 0),Ml 2 0,Ml 3 1,(7,vI r7),(21,vB true)] [(2,0,[Sn,Sn]),(3,1,cSV u5)] fun _ _ => ?_
   refine ⟨fun _ => False,?_⟩
   refine ⟨_,rfl,?_⟩
   refine ⟨_,Od rfl,?_⟩
   refine ⟨ld_own rfl rfl rfl,?_⟩
   refine ⟨_,rfl,(ac_d_l1Below c 7 s7 hC7 (by first | assumption | omega)).mono ?_⟩
   rintro _ s26 ⟨r26,rfl,h26,h26',h26'',hC26,hL26⟩
   refine ⟨fun _ h => h.elim,?_⟩
   have ew27 : IntKind.wrap .i64 (r26 - (1)) = r26 - (1) := wrap_i64 (by omega) (by omega)
   refine ⟨_,rfl,?_⟩
   refine op_litI (k := .i64) (l := [0,1,5,1001]) rfl rfl rfl rfl rfl rfl (Lb rfl) ?_
   intro q29 s29 hO29 hP29 hN29
   refine ⟨fun _ h => h.elim,?_⟩
   refine ⟨_,rfl,(ac_d_l1PickInt c q29 ([0,1,5,1001]) s29 (hC26.pres hP29) (by first | assumption | omega) (by first | assumption | omega | decide) (by first | assumption | omega) (by first | assumption | exact NC.new (by assumption) (Cur.lt (by assumption)))).mono ?_⟩
   rintro _ s30 ⟨r30,rfl,h30,hC30,hL30⟩
   refine ⟨fun _ h => h.elim,?_⟩
   refine ⟨_,rfl,?_⟩
   refine op_one (z := 2) (a := ((⟨IntKind.wrap .i64 (r26 - 1),r30⟩ : Flr) : Flr)) (f := cFlr) rfl rfl rfl rfl rfl (by decide) rfl (Lb rfl) rfl rfl rfl ?_
   refine ⟨fun _ h => h.elim,?_⟩
   have hF30 := ((hF7.later hL26).step hP29).later hL30
   have hO30 : OwnR s30 2 cFlr u5.q u5.x.floors := hF30.1.floors
   have hfl : u5.x.floors.length ≤ 5 := hsm.f
   refine op_snoc (z := 2) (st := s30) (f := cFlr) (b := 16) (l := u5.x.floors) (x := (⟨IntKind.wrap .i64 (r26 - 1),r30⟩ : Flr)) rfl rfl rfl rfl rfl rfl rfl (by decide) len_cFlr rfl rfl rfl (by omega) (by unfold maxLen; omega) hO30 ?_
   intro q33 s33 hO33 hP33 hN33
   refine ⟨_,rfl,?_⟩
   refine ⟨_,Os rfl,?_⟩
   refine Cm 2 s33 [Ml 2 0,Ml 3 1] [(2,0,[Sn,Sn]),(3,1,[vS u5.p u5.x.items.length,vS q33 (u5.x.floors ++ [(⟨IntKind.wrap .i64 (r26 - 1),r30⟩ : Flr)]).length])] fun _ _ => ?_
   refine ⟨_,Od rfl,?_⟩
   refine ⟨_,Os rfl,?_⟩
   refine cxs ?_
   have hF33 := hF30.floors hP33 hO33 hN33
   exact Rt ⟨_,rfl,hsm.snocF,hF33.1,hC30.thenNew hc hF30.2.2.1 hP33 hNf⟩
 ·replace h9 : r7 = (0) := beq_iff_eq.1 h9
  refine Cm 2 s7 [(0,vP c 0),Ml 2 0,Ml 3 1,(7,vI r7),(8,vB true)] [(2,0,[Sn,Sn]),(3,1,cSV u5)] fun _ _ => ?_
  refine ⟨fun _ => False,?_⟩
  refine ⟨_,rfl,?_⟩
  refine ⟨_,Od rfl,?_⟩
  refine ⟨ld_own rfl rfl rfl,?_⟩
  refine ⟨_,rfl,(ac_d_l1Below c 7 s7 hC7 (by first | assumption | omega)).mono ?_⟩
  rintro _ s13 ⟨r13,rfl,h13,h13',h13'',hC13,hL13⟩
  refine ⟨fun _ h => h.elim,?_⟩
  have ew14 : IntKind.wrap .i64 (r13 - (1)) = r13 - (1) := wrap_i64 (by omega) (by omega)
  refine ⟨_,rfl,?_⟩
  refine ⟨_,rfl,(ac_d_l2Draw c s13 hC13 (by first | assumption | omega)).mono ?_⟩
  rintro _ s16 ⟨e16,rfl,h16,hC16,hL16⟩
  refine ⟨fun _ h => h.elim,?_⟩
  refine ⟨_,rfl,?_⟩
  refine op_one (z := 6) (a := ((⟨IntKind.wrap .i64 (r13 - 1),e16⟩ : Itm) : Itm)) (f := cItm) rfl rfl rfl rfl rfl (by decide) rfl (Lb rfl) rfl rfl rfl ?_
  refine ⟨fun _ h => h.elim,?_⟩
  have hF16 := (hF7.later hL13).later hL16
  have hO16 : OwnR s16 6 cItm u5.p u5.x.items := hF16.1.items
  have hil : u5.x.items.length ≤ 5 := hsm.i
  refine op_snoc (z := 6) (st := s16) (f := cItm) (b := 56) (l := u5.x.items) (x := (⟨IntKind.wrap .i64 (r13 - 1),e16⟩ : Itm)) rfl rfl rfl rfl rfl rfl rfl (by decide) len_cItm rfl rfl rfl (by omega) (by unfold maxLen; omega) hO16 ?_
  intro q19 s19 hO19 hP19 hN19
  refine ⟨_,rfl,?_⟩
  refine ⟨_,Os rfl,?_⟩
  refine Cm 2 s19 [Ml 2 0,Ml 3 1] [(2,0,[Sn,Sn]),(3,1,[vS q19 (u5.x.items ++ [(⟨IntKind.wrap .i64 (r13 - 1),e16⟩ : Itm)]).length,vS u5.q u5.x.floors.length])] fun _ _ => ?_
  refine ⟨_,Od rfl,?_⟩
  refine ⟨_,Os rfl,?_⟩
  refine cxs ?_
  have hF19 := hF16.items hP19 hO19 hN19
  exact Rt ⟨_,rfl,hsm.snocI h16,hF19.1,hC16.thenNew hc hF16.2.2.1 hP19 hNi⟩
open Classical in
noncomputable def joinP (a b : Sta) : Sta × Bool := if stateOk a ∧ stateOk b then (joinF a b 5,true) else (nilS,false)
theorem ac_impl_StateJoin (A B : SV) (st : St) (hA : RdS st A) (hB : RdS st B) (ha : bigS A.x) (hb : bigS B.x) : C 82 [.agg #[vS A.p A.x.items.length,vS A.q A.x.floors.length],.agg #[vS B.p B.x.items.length,vS B.q B.x.floors.length]] st (fun v s => ∃ (u : SV) (b : Bool),v = .tuple #[.agg #[vS u.p u.x.items.length,vS u.q u.x.floors.length],vB b] ∧ (u.x,b) = joinP A.x B.x ∧ OwnP s (pcS u) ∧ NewP st.next (pcS u) ∧ Pres st s) := by
 refine AC.enterX (i := ⟨[2,3,4],[2,3,4],[0,1,2,3,4,5,13],[]⟩) [] Tryz.func82 rfl rfl (by kernel_rfl) (by kernel_rfl) Tryz.ntmps82 (Lb rfl) rfl ?_
 iterate 3 refine ⟨_,rfl,?_⟩
 refine Cm 3 st [Ml 2 0,Ml 3 1,Ml 4 2,(5,vB false)] [(2,0,cSV A),(3,1,cSV B),(4,2,[Sn,Sn])] fun _ _ => ?_
 refine ⟨_,Od rfl,?_⟩
 refine ⟨_,rfl,(ac_impl_StateOk A st hA (by first | assumption | omega)).mono ?_⟩
 rintro _ st ⟨x7,rfl,h7,rfl⟩
 rcases x7 with _|_
 ·replace h7 := fun k => Bool.false_ne_true (h7.2 k)
  iterate 2 refine ⟨_,rfl,?_⟩
  refine Cm 3 st [Ml 2 0,Ml 3 1,Ml 4 2,(5,vB false),(13,vB true)] [(2,0,cSV A),(3,1,cSV B),(4,2,[Sn,Sn])] fun _ _ => ?_
  refine ⟨_,rfl,?_⟩
  refine ⟨_,Os rfl,?_⟩
  exact cxs (Rt ⟨⟨none,none,nilS⟩,false,rfl,(if_neg (fun k => h7 k.1)).symm,pcS_nil,newS_nil,Pres.refl _⟩)
 ·replace h7 := h7.1 rfl
  refine ⟨_,rfl,?_⟩
  refine ⟨_,Od rfl,?_⟩
  refine ⟨_,rfl,(ac_impl_StateOk B st hB (by first | assumption | omega)).mono ?_⟩
  rintro _ st ⟨x11,rfl,h11,rfl⟩
  rcases x11 with _|_
  ·replace h11 := fun k => Bool.false_ne_true (h11.2 k)
   iterate 2 refine ⟨_,rfl,?_⟩
   refine Cm 3 st [Ml 2 0,Ml 3 1,Ml 4 2,(5,vB false),(13,vB true)] [(2,0,cSV A),(3,1,cSV B),(4,2,[Sn,Sn])] fun _ _ => ?_
   refine ⟨_,rfl,?_⟩
   refine ⟨_,Os rfl,?_⟩
   exact cxs (Rt ⟨⟨none,none,nilS⟩,false,rfl,(if_neg (fun k => h11 k.2)).symm,pcS_nil,newS_nil,Pres.refl _⟩)
  ·replace h11 := h11.1 rfl
   iterate 2 refine ⟨_,rfl,?_⟩
   refine Cm 3 st [Ml 2 0,Ml 3 1,Ml 4 2,(5,vB false),(13,vB false)] [(2,0,cSV A),(3,1,cSV B),(4,2,[Sn,Sn])] fun _ _ => ?_
   refine cxs ?_
   refine ⟨_,Od rfl,?_⟩
   refine ⟨_,Od rfl,?_⟩
   refine ⟨_,rfl,(ac_impl_stateJoin A B st hA hB (by first | assumption | omega) (by first | assumption | omega)).mono ?_⟩
   rintro _ s17 ⟨u17,rfl,h17,hO17,hN17,hP17⟩
   refine ⟨_,Os rfl,?_⟩
   exact cxs (Rt ⟨u17,true,rfl,(by rw [h17]; exact (if_pos ⟨h7,h11⟩).symm),hO17,hN17,hP17⟩)
theorem ad_spec_LogAdd (g : LV) (d : SV) (st : St) (hR : RdL st g.p g.l) (hD : RdS st d) (hb : bigL g.l) (hbd : bigS d.x) : C 103 [.agg #[vI g.cap,vI g.frm,vS g.p g.l.length],.agg #[vS d.p d.x.items.length,vS d.q d.x.floors.length]] st (fun v s => ∃ (u : LV) (b : Bool),v = .tuple #[.agg #[vI u.cap,vI u.frm,vS u.p u.l.length],vB b] ∧ (u.x,b) = addL g.x d.x ∧ Frs st s (pcL u.p u.l)) := by
 have hs : g.l.length ≤ 1048576 := hb.1
 have hgl : g.x.list.length = g.l.length := List.length_map _
 refine AC.enterX (i := ⟨[2,3,4,6],[2,3,4,6,18,20,27,33,34,37,41,45,46,49],[0,1,2,3,4,5,6,25,39],[]⟩) [(4,[3,4],[1])] Tryz.func103 rfl rfl (by kernel_rfl) (by kernel_rfl) Tryz.ntmps103 (Lb rfl) rfl ?_
 iterate 3 refine ⟨_,rfl,?_⟩
 refine Cm 3 st [Ml 2 0,Ml 3 1,Ml 4 2,(5,vB false)] [(2,0,[vI g.cap,vI g.frm,vS g.p g.l.length]),(3,1,cSV d),(4,2,[vI 0,vI 0,Sn])] fun _ _ => ?_
 refine ⟨_,Od rfl,?_⟩
 refine ⟨_,rfl,(ac_spec_l7Copy g st hR (by first | assumption | omega)).mono ?_⟩
 rintro _ s8 ⟨u8,rfl,h8,hO8,hN8,hP8⟩
 refine ⟨_,rfl,?_⟩
 refine ⟨_,Os rfl,?_⟩
 refine Cm 4 s8 [Ml 2 0,Ml 3 1,Ml 4 2,(5,vB false),Ml 6 3] [(2,0,[vI g.cap,vI g.frm,vS g.p g.l.length]),(3,1,cSV d),(4,2,[vI 0,vI 0,Sn]),(6,3,[vI u8.cap,vI u8.frm,vS u8.p u8.l.length])] fun _ _ => ?_
 have hx8 : u8.cap = g.cap ∧ u8.frm = g.frm ∧ u8.l.map (·.x) = g.l.map (·.x) := ⟨congrArg Lg.cap h8,congrArg Lg.frm h8,congrArg Lg.list h8⟩
 have hl8 : u8.l.length = g.l.length := by have := congrArg List.length hx8.2.2; simpa using this
 refine ⟨_,Od rfl,?_⟩
 refine ⟨_,rfl,(ac_spec_LogOk g s8 (hR.pres hP8) (by first | assumption | omega)).mono ?_⟩
 rintro _ s8 ⟨x10,rfl,h10,rfl⟩
 rcases x10 with _|_
 ·replace h10 := fun k => Bool.false_ne_true (h10.2 k)
  iterate 3 refine ⟨_,rfl,?_⟩
  refine Cm 4 s8 [Ml 3 1,Ml 4 2,(5,vB false),Ml 6 3,(25,vB true)] [(3,1,cSV d),(4,2,[vI 0,vI 0,Sn]),(6,3,[vI u8.cap,vI u8.frm,vS u8.p u8.l.length])] fun _ _ => ?_
  refine ⟨_,Od rfl,?_⟩
  refine ⟨_,Os rfl,?_⟩
  exact cxs (Rt ⟨u8,false,rfl,by rw [addL,if_neg (fun h => h10 h.1)]; exact congrArg (·,false) h8,hO8,hN8,hP8⟩)
 ·replace h10 := h10.1 rfl
  refine ⟨_,rfl,?_⟩
  refine ⟨_,Od rfl,?_⟩
  refine ⟨_,rfl,(ac_spec_StateOk d s8 (hD.pres hP8) (by first | assumption | omega)).mono ?_⟩
  rintro _ s8 ⟨x14,rfl,h14,rfl⟩
  rcases x14 with _|_
  ·replace h14 := fun k => Bool.false_ne_true (h14.2 k)
   iterate 3 refine ⟨_,rfl,?_⟩
   refine Cm 4 s8 [Ml 3 1,Ml 4 2,(5,vB false),Ml 6 3,(25,vB true)] [(3,1,cSV d),(4,2,[vI 0,vI 0,Sn]),(6,3,[vI u8.cap,vI u8.frm,vS u8.p u8.l.length])] fun _ _ => ?_
   refine ⟨_,Od rfl,?_⟩
   refine ⟨_,Os rfl,?_⟩
   exact cxs (Rt ⟨u8,false,rfl,by rw [addL,if_neg (fun h => h14 h.2.1)]; exact congrArg (·,false) h8,hO8,hN8,hP8⟩)
  ·replace h14 := h14.1 rfl
   iterate 2 refine ⟨_,rfl,?_⟩
   have hk3 : 0 ≤ g.frm ∧ g.frm ≤ 100000 := h10.2.2.1
   have hk4 : g.frm + (g.l.length : Int) ≤ 100000 := by have := h10.2.2.2.1; rw [hgl] at this; exact this
   have hk5 : (g.l.length : Int) ≤ g.cap ∧ g.cap ≤ 8 := ⟨by have := h10.2.1; rw [hgl] at this; exact this,h10.1.2⟩
   refine ⟨_,rfl,?_⟩
   refine ⟨_,Od rfl,?_⟩
   refine ⟨_,rfl,?_⟩
   refine ⟨_,Od rfl,?_⟩
   refine ⟨_,rfl,?_⟩
   have ew23 : IntKind.wrap .i64 (g.frm + (g.l.length : Int)) = g.frm + (g.l.length : Int) := wrap_i64 (by omega) (by omega)
   iterate 2 refine ⟨_,rfl,?_⟩
   rintro (_|_) h24
   ·replace h24 : ¬ ((IntKind.wrap .i64 (g.frm + (g.l.length : Int))) = (100000)) := beq_eq_false_iff_ne.1 h24
    rw [ew23] at h24
    refine ⟨_,rfl,?_⟩
    refine Cm 4 s8 [Ml 3 1,Ml 4 2,(5,vB false),Ml 6 3,(25,vB false)] [(3,1,cSV d),(4,2,[vI 0,vI 0,Sn]),(6,3,[vI u8.cap,vI u8.frm,vS u8.p u8.l.length])] fun _ _ => ?_
    refine cxs ?_
    refine ⟨_,rfl,?_⟩
    refine ⟨_,Od rfl,?_⟩
    refine ⟨ld_own rfl rfl rfl,?_⟩
    refine ⟨_,Od rfl,?_⟩
    refine ⟨_,rfl,(ac_spec_l3Copy d s8 (hD.pres hP8) (by first | assumption | omega)).mono ?_⟩
    rintro _ s30 ⟨u30,rfl,h30,hO30,hN30,hP30⟩
    refine ⟨hP30.2,?_⟩
    refine op_one (z := 2) (a := (u30 : SV)) (f := cSV) rfl rfl rfl rfl rfl (by decide) rfl (Lb rfl) rfl rfl rfl ?_
    refine ⟨Pres.push.low hP30,?_⟩
    refine op_snoc (z := 2) (st := s30) (f := cSV) (b := 48) (l := u8.l) (x := u30) rfl rfl rfl rfl rfl rfl rfl (by decide) len_cSV rfl rfl rfl (by omega) (by unfold maxLen; omega) ((hO8.pres hP30).louter) ?_
    intro q32 s32 hO32 hP32 hN32
    refine ⟨_,rfl,?_⟩
    refine ⟨_,Os rfl,?_⟩
    refine Cm 4 s32 [Ml 4 2,(5,vB false),Ml 6 3] [(4,2,[vI 0,vI 0,Sn]),(6,3,[vI u8.cap,vI u8.frm,vS q32 (u8.l ++ [u30]).length])] fun _ _ => ?_
    have hO4 := pcL_snoc hO8 hP30 hO30 hN30 hP32 hO32 hN32
    have hN4 := newL_snoc hN8 (hN30.le hP8.1) (hN32.le (hP8.trans hP30).1)
    have hP4 := hP32.pres (hP8.trans hP30) (newL_p hN8)
    have hln : ((u8.l ++ [u30]).length : Int) = (g.l.length : Int) + 1 := by rw [List.length_append,List.length_singleton,hl8]; omega
    have hmx : (u8.l ++ [u30]).map (·.x) = g.l.map (·.x) ++ [d.x] := by rw [List.map_append,hx8.2.2,List.map_singleton,h30]
    have hdl : (List.drop 1 (u8.l ++ [u30])).length ≤ (u8.l ++ [u30]).length := by rw [List.length_drop]; omega
    have hlt : g.x.frm + (g.x.list.length : Int) < 100000 := by rw [hgl]; show g.frm + (g.l.length : Int) < 100000; omega
    refine ⟨_,rfl,?_⟩
    refine ⟨_,Od rfl,?_⟩
    iterate 2 refine ⟨_,rfl,?_⟩
    refine ⟨_,Od rfl,?_⟩
    refine ⟨_,rfl,?_⟩
    rintro (_|_) h39
    ·replace h39 : ¬ (((u8.l ++ [u30]).length : Int) > u8.cap) := of_decide_eq_false h39
     refine Cm 4 s32 [Ml 4 2,(5,vB false),Ml 6 3,(39,vB false)] [(4,2,[vI 0,vI 0,Sn]),(6,3,[vI u8.cap,vI u8.frm,vS q32 (u8.l ++ [u30]).length])] fun _ _ => ?_
     have hwx : (LV.mk u8.cap u8.frm q32 (u8.l ++ [u30])).x = ⟨g.x.cap,g.x.frm,g.x.list ++ [d.x]⟩ := by simp only [LV.x,hmx,hx8.1,hx8.2.1]
     refine cxs ?_
     refine ⟨_,Od rfl,?_⟩
     refine ⟨_,Os rfl,?_⟩
     refine cxs ?_
     have hc : ¬ (g.x.list.length : Int) + 1 > g.x.cap := by rw [hgl]; show ¬ (g.l.length : Int) + 1 > g.cap; omega
     exact Rt ⟨⟨u8.cap,u8.frm,q32,u8.l ++ [u30]⟩,true,rfl,by rw [hwx,addL,if_pos ⟨h10,h14,hlt⟩,if_neg hc],hO4,hN4,hP4⟩
    ·replace h39 : ((u8.l ++ [u30]).length : Int) > u8.cap := of_decide_eq_true h39
     refine Cm 4 s32 [Ml 4 2,(5,vB false),Ml 6 3,(39,vB true)] [(4,2,[vI 0,vI 0,Sn]),(6,3,[vI u8.cap,vI u8.frm,vS q32 (u8.l ++ [u30]).length])] fun _ _ => ?_
     refine op_nilK (z := 2) (f := cSV) rfl rfl rfl rfl (by decide) rfl ?_
     intro q40 s40 hO40 hP40 hN40
     refine ⟨_,rfl,?_⟩
     refine ⟨_,Od rfl,?_⟩
     refine ⟨_,op_drop (u8.l ++ [u30]) 1 rfl rfl rfl rfl rfl rfl (by omega) (by omega),?_⟩
     refine op_cat' (z := 2) (st := s40) (f := cSV) (b := 48) (l := []) (l2 := List.drop 1 (u8.l ++ [u30])) rfl rfl rfl rfl rfl rfl rfl (by decide) len_cSV rfl rfl rfl rfl (by first | omega | (simp only [List.length_nil]; omega)) (by unfold maxLen; first | omega | (simp only [List.length_nil]; omega)) hO40 ((hP40.rows (hO4.rdL.1)).sh _) ?_
     intro q44 s44 hO44 hPr44 hN44
     refine ⟨_,rfl,?_⟩
     refine ⟨_,Os rfl,?_⟩
     refine Cm 4 s44 [Ml 4 2,(5,vB false),Ml 6 3] [(4,2,[vI 0,vI 0,Sn]),(6,3,[vI u8.cap,vI u8.frm,vS q44 (List.drop 1 (u8.l ++ [u30])).length])] fun _ _ => ?_
     have ⟨hP9,hN9⟩ := copy_facts hP40 hN40 hPr44 hN44
     have hO9 := pcL_move hO4 (List.drop_sublist _ _) hP9 hO44 hN9
     have hN8 := newL_move hN4 (List.drop_sublist 1 _) (hN9.le hP4.1)
     have hP5 := hP4.trans hP9
     have hwx : (LV.mk u8.cap (u8.frm + 1) q44 (List.drop 1 (u8.l ++ [u30]))).x = ⟨g.x.cap,g.x.frm + 1,(g.x.list ++ [d.x]).drop 1⟩ := by simp only [LV.x,List.map_drop,hmx,hx8.1,hx8.2.1]
     refine ⟨_,rfl,?_⟩
     refine ⟨_,Od rfl,?_⟩
     have ew48 : IntKind.wrap .i64 (u8.frm + (1)) = u8.frm + (1) := wrap_i64 (by omega) (by omega)
     iterate 2 refine ⟨_,rfl,?_⟩
     refine ⟨_,Os rfl,?_⟩
     refine AW.cutM (4) s44 [Ml 4 2,(5,vB false),Ml 6 3] [(4,2,[vI 0,vI 0,Sn]),(6,3,[vI u8.cap,vI (u8.frm + (1)),vS q44 (List.drop 1 (u8.l ++ [u30])).length])] ⟨rfl,rfl,rfl,trivial⟩ ⟨rfl,(show some (3,[vI u8.cap,vI (IntKind.wrap .i64 (u8.frm + (1))),vS q44 (List.drop 1 (u8.l ++ [u30])).length]) = some (3,[vI u8.cap,vI (u8.frm + (1)),vS q44 (List.drop 1 (u8.l ++ [u30])).length]) by rw [ew48]),trivial⟩ rfl fun _ _ => ?_
     refine ⟨_,Od rfl,?_⟩
     refine ⟨_,Os rfl,?_⟩
     refine cxs ?_
     have hc : (g.x.list.length : Int) + 1 > g.x.cap := by rw [hgl]; show (g.l.length : Int) + 1 > g.cap; omega
     exact Rt ⟨⟨u8.cap,u8.frm + 1,q44,List.drop 1 (u8.l ++ [u30])⟩,true,rfl,by rw [hwx,addL,if_pos ⟨h10,h14,hlt⟩,if_pos hc],hO9,hN8,hP5⟩
   ·replace h24 : (IntKind.wrap .i64 (g.frm + (g.l.length : Int))) = (100000) := beq_iff_eq.1 h24
    rw [ew23] at h24
    refine ⟨_,rfl,?_⟩
    refine Cm 4 s8 [Ml 3 1,Ml 4 2,(5,vB false),Ml 6 3,(25,vB true)] [(3,1,cSV d),(4,2,[vI 0,vI 0,Sn]),(6,3,[vI u8.cap,vI u8.frm,vS u8.p u8.l.length])] fun _ _ => ?_
    refine ⟨_,Od rfl,?_⟩
    refine ⟨_,Os rfl,?_⟩
    exact cxs (Rt ⟨u8,false,rfl,by rw [addL,if_neg (fun h => by have h2 := h.2.2; rw [hgl] at h2; have h3 : g.frm + (g.l.length : Int) < 100000 := h2; omega)]; exact congrArg (·,false) h8,hO8,hN8,hP8⟩)
structure smL (n : Nat) (g : Lg) : Prop where
 l : g.list.length ≤ n
 s : ∀ x ∈ g.list,smS 6 x
 f : -1 ≤ g.frm ∧ g.frm ≤ 9223372036854775807
theorem smL.big {n : Nat} {g : LV} (h : smL n g.x) (hn : n ≤ 1000) : bigL g.l := ⟨by have := h.l; simp only [List.length_map] at this; unfold szOk; omega,fun s hs => (h.s _ (List.mem_map_of_mem hs)).big (by decide)⟩
theorem smL.add {n : Nat} {g : Lg} {d : Sta} (h : smL n g) (hd : smS 6 d) : smL (n + 1) (addL g d).1 := by
 unfold addL
 split
 ·rename_i hk
  have h3 : 0 ≤ g.frm ∧ g.frm ≤ 100000 := hk.1.2.2.1
  have hs : ∀ x ∈ g.list ++ [d],smS 6 x := fun x hx => by
   rcases List.mem_append.1 hx with hx | hx
   ·exact h.s x hx
   ·rw [List.mem_singleton.1 hx]; exact hd
  have hl : (g.list ++ [d]).length ≤ n + 1 := by rw [List.length_append]; exact Nat.succ_le_succ h.l
  split
  ·exact ⟨by show ((g.list ++ [d]).drop 1).length ≤ n + 1; rw [List.length_drop]; omega,fun x hx => hs x (List.mem_of_mem_drop hx),by show -1 ≤ g.frm + 1 ∧ _; simp only; omega⟩
  ·exact ⟨hl,hs,h.f⟩
 ·exact ⟨Nat.le_succ_of_le h.l,h.s,h.f⟩
theorem smL.of {n : Nat} {g x : Lg} {d : Sta} {b : Bool} (he : (x,b) = addL g d) (h : smL n g) (hd : smS 6 d) : smL (n + 1) x := by
 have := h.add hd
 rw [← he] at this
 exact this
theorem Frs.nlL {a : St} : Frs a a (pcL none []) := ⟨pcL_nil,newL_nil,Pres.refl _⟩
theorem ac_d_l7Right {p : Option Addr} {bs : List Int} (c : Nat) (st : St) (hc : Cur st c p bs) (hs : bs.length < 1099511627776) : C 196 [vP c 0] st (fun v s => ∃ u : LV,v = .agg #[vI u.cap,vI u.frm,vS u.p u.l.length] ∧ smL 5 u.x ∧ FrC c st s (pcL u.p u.l) ∧ Cur s c p bs) := by
 refine AC.enterX (i := ⟨[2,3,6],[2,3,6],[0,2,3,4,5,6,19],[]⟩) [] Tryz.func196 rfl rfl (by kernel_rfl) (by kernel_rfl) Tryz.ntmps196 (Lb rfl) rfl ?_
 refine ⟨_,rfl,?_⟩
 refine Cm 1 st [(0,vP c 0),Ml 2 0] [(2,0,[vI 0,vI 0,Sn])] fun _ _ => ?_
 refine op_litI (k := .i64) (l := [1,2,4,8]) rfl rfl rfl rfl rfl rfl (Lb rfl) ?_
 intro q9 s9 hO9 hP9 hN9
 refine ⟨_,rfl,(ac_d_l1PickInt c q9 ([1,2,4,8]) s9 (hc.pres hP9) (by first | assumption | omega) (by first | assumption | omega | decide) (by first | assumption | omega) (by first | assumption | exact NC.new (by assumption) (Cur.lt (by assumption)))).mono ?_⟩
 rintro _ s10 ⟨r10,rfl,h10,hC10,hL10⟩
 refine op_litI (k := .i64) (l := [0,0,5,99990]) rfl rfl rfl rfl rfl rfl (Lb rfl) ?_
 intro q12 s12 hO12 hP12 hN12
 refine ⟨_,rfl,(ac_d_l1PickInt c q12 ([0,0,5,99990]) s12 (hC10.pres hP12) (by first | assumption | omega) (by first | assumption | omega | decide) (by first | assumption | omega) (by first | assumption | exact NC.new (by assumption) (Cur.lt (by assumption)))).mono ?_⟩
 rintro _ s13 ⟨r13,rfl,h13,hC13,hL13⟩
 iterate 2 refine ⟨_,rfl,?_⟩
 refine ⟨_,Os rfl,?_⟩
 refine Cm 2 s13 [(0,vP c 0),Ml 2 0,Ml 3 1] [(2,0,[vI 0,vI 0,Sn]),(3,1,[vI r10,vI r13,Sn])] fun _ _ => ?_
 have hf13 : -1 ≤ r13 ∧ r13 ≤ 9223372036854775807 := by simp only [List.mem_cons,List.not_mem_nil,or_false] at h13; omega
 have hP13 : PresC c st s13 := ((hP9.c.trans hL10).trans hP12.c).trans hL13
 refine ⟨_,rfl,(ac_d_l1Below c 6 s13 hC13 (by first | assumption | omega)).mono ?_⟩
 rintro _ s16 ⟨r16,rfl,h16,h16',h16'',hC16,hL16⟩
 refine cxs ?_
 have hP16 : PresC c st s16 := hP13.trans hL16
 refine Cm 2 s16 [(0,vP c 0),Ml 2 0,Ml 3 1,(4,vI r16),(5,vI 0)] [(2,0,[vI 0,vI 0,Sn]),(3,1,[vI r10,vI r13,Sn])] fun _ _ => ?_
 refine AW.loopM (fun x : Nat × LV => [(0,vP c 0),(2,vL 2 0 (0)),(3,vL 3 0 (1)),(4,vI r16),(5,vI (x.1 : Int))]) (fun x : Nat × LV => [(2,0,[vI 0,vI 0,.slice none 0 0]),(3,1,[vI x.2.cap,vI x.2.frm,vS x.2.p x.2.l.length])]) (fun m (x : Nat × LV) st' => m = r16.toNat - x.1 ∧ (x.1 : Int) ≤ r16 ∧ smL x.1 x.2.x ∧ FrC c st st' (pcL x.2.p x.2.l) ∧ Cur st' c p bs) (0,⟨r10,r13,none,[]⟩) _ ⟨rfl,rfl,rfl,rfl,rfl,trivial⟩ ⟨rfl,rfl,trivial⟩ ⟨rfl,h16,⟨Nat.le_refl _,fun x hx => (nomatch hx),hf13⟩,(Frs.nlL.toC hC16.lt).sooner hP16 hc.lt,hC16⟩ ?_
 rintro m ⟨i,u⟩ ρ0 ff gg st' ⟨rfl,hi,hk,hF,hC⟩
 simp only at hi hk hF
 refine ⟨_,rfl,?_⟩
 rintro (_|_) h19
 ·replace h19 : ¬ ((i : Int) < r16) := of_decide_eq_false h19
  refine Cm gg st' [(0,vP c 0),Ml 2 0,Ml 3 1,(4,vI r16),(5,vI (i : Int)),(19,vB false)] [(2,0,[vI 0,vI 0,Sn]),(3,1,[vI u.cap,vI u.frm,vS u.p u.l.length])] fun _ _ => ?_
  refine cxs ?_
  refine ⟨_,Od rfl,?_⟩
  refine ⟨_,Os rfl,?_⟩
  exact cxs (Rt ⟨u,rfl,⟨by have := hk.l; omega,hk.s,hk.f⟩,hF,hC⟩)
 ·replace h19 : (i : Int) < r16 := of_decide_eq_true h19
  refine Cm gg st' [(0,vP c 0),Ml 2 0,Ml 3 1,(4,vI r16),(5,vI (i : Int)),(19,vB true)] [(2,0,[vI 0,vI 0,Sn]),(3,1,[vI u.cap,vI u.frm,vS u.p u.l.length])] fun _ _ => ?_
  refine cxs ?_
  refine ⟨_,rfl,(ac_d_l1Below c 5 st' hC (by first | assumption | omega)).mono ?_⟩
  rintro _ s24 ⟨r24,rfl,h24,h24',h24'',hC24,hL24⟩
  refine ⟨_,rfl,(ac_d_l2Right c s24 hC24 (by first | assumption | omega)).mono ?_⟩
  rintro _ s26 ⟨e26,rfl,h26,hC26,hL26⟩
  refine ⟨_,rfl,(ac_spec_Single r24 e26 s26 (Nat.le_trans h26.2.2.2.2 (by decide))).mono ?_⟩
  rintro _ s27 ⟨u27,b27,rfl,h27,hO27,hN27,hP27⟩
  iterate 3 refine ⟨_,rfl,?_⟩
  refine ⟨_,Os rfl,?_⟩
  refine Cm (gg + 1) s27 [(0,vP c 0),Ml 2 0,Ml 3 1,(4,vI r16),(5,vI (i : Int)),Ml 6 gg,(19,vB true)] [(2,0,[vI 0,vI 0,Sn]),(3,1,[vI u.cap,vI u.frm,vS u.p u.l.length]),(6,gg,cSV u27)] fun _ _ => ?_
  have hF26 := (hF.later hL24).later hL26
  have hF27 : FrC c st s27 (pcS u27) := (Frs.toC ⟨hO27,hN27,hP27⟩ hF26.lt).sooner hF26.2.2.1 hc.lt
  have hR27 : RdL s27 u.p u.l := (hF26.step hP27).1.rdL
  have hC27 := hC26.pres hP27
  have hsm27 : smS 6 u27.x := (sm_ok (sing_ok h27)).le (by decide)
  have hbg : bigL u.l := hk.big (by omega)
  refine ⟨_,Od rfl,?_⟩
  refine ⟨_,Od rfl,?_⟩
  refine ⟨_,rfl,(ad_spec_LogAdd u u27 s27 hR27 hF27.1.rdS hbg (hsm27.big (by decide))).mono ?_⟩
  rintro _ s33 ⟨u33,b33,rfl,h33,hF33⟩
  iterate 2 refine ⟨_,rfl,?_⟩
  refine ⟨_,Os rfl,?_⟩
  refine Cm (gg + 1) s33 [(0,vP c 0),Ml 2 0,Ml 3 1,(4,vI r16),(5,vI (i : Int)),Ml 6 gg,(19,vB true)] [(2,0,[vI 0,vI 0,Sn]),(3,1,[vI u33.cap,vI u33.frm,vS u33.p u33.l.length]),(6,gg,cSV u27)] fun _ _ => ?_
  have ew21 : IntKind.wrap .i64 ((i : Int) + (1)) = ((i + 1 : Nat) : Int) := (wrap_i64 (by omega) (by omega)).trans (by omega)
  refine ⟨_,rfl,?_⟩
  exact ⟨(i + 1,u33),r16.toNat - (i + 1),by omega,⟨rfl,rfl,rfl,rfl,congrArg (Value.int .i64) ew21,trivial⟩,⟨rfl,rfl,trivial⟩,rfl,by simp only; omega,hk.of h33 hsm27,(hF33.toC hF27.lt).sooner hF27.2.2.1 hc.lt,hC27.pres hF33.2.2⟩
theorem FrC.snocL {c : Nat} {a b s1 s2 : St} {u : LV} {w : SV} {q : Option Addr} (h : FrC c a b (pcL u.p u.l)) (hw : FrC c b s1 (pcS w)) (hP : Pr u.p s1 s2) (ho : OwnR s2 2 cSV q (u.l ++ [w])) (hn : New s1.next q) : FrC c a s2 (pcL q (u.l ++ [w])) ∧ PresC c a s2 :=
 have h1 := h.join hw
 have hP2 := PresC.thenNew h1.2.2.1 hP (newL_p h.2.1)
 ⟨⟨by
  have h2 : OwnP s2 (pcR 2 cSV q (u.l ++ [w]) :: (u.l.flatMap pcS ++ pcS w)) := OwnP.renew (l := []) h1.1 hP (own_pc ho) hn
  show OwnP s2 (pcR 2 cSV q (u.l ++ [w]) :: (u.l ++ [w]).flatMap pcS)
  rw [List.flatMap_append,List.flatMap_singleton]
  exact h2,newL_snoc h.2.1 (hw.2.1.le h.2.2.1.1) (hn.le h1.2.2.1.1),hP2,h.2.2.2⟩,hP2⟩
theorem ac_d_l7Draw {p : Option Addr} {bs : List Int} (c : Nat) (st : St) (hc : Cur st c p bs) (hs : bs.length < 1099511627776) : C 145 [vP c 0] st (fun v s => ∃ u : LV,v = .agg #[vI u.cap,vI u.frm,vS u.p u.l.length] ∧ smL 6 u.x ∧ FrC c st s (pcL u.p u.l) ∧ Cur s c p bs) := by
 refine AC.enterX (i := ⟨[2,3],[2,3,13,19,22,28],[0,2,3,7,8,14,20],[]⟩) [(2008,[],[1]),(8,[3,4],[1])] Tryz.func145 rfl rfl (by kernel_rfl) (by kernel_rfl) Tryz.ntmps145 (Lb rfl) rfl ?_
 refine ⟨_,rfl,?_⟩
 refine Cm 1 st [(0,vP c 0),Ml 2 0] [(2,0,[vI 0,vI 0,Sn])] fun _ _ => ?_
 refine ⟨_,rfl,(ac_d_l7Right c st hc (by first | assumption | omega)).mono ?_⟩
 rintro _ s5 ⟨u5,rfl,h5,hF5,hC5⟩
 refine ⟨_,rfl,?_⟩
 refine ⟨_,Os rfl,?_⟩
 refine Cm 2 s5 [(0,vP c 0),Ml 2 0,Ml 3 1] [(2,0,[vI 0,vI 0,Sn]),(3,1,[vI u5.cap,vI u5.frm,vS u5.p u5.l.length])] fun _ _ => ?_
 refine ⟨_,rfl,(ac_d_l1Below c 12 s5 hC5 (by first | assumption | omega)).mono ?_⟩
 rintro _ s7 ⟨r7,rfl,h7,h7',h7'',hC7,hL7⟩
 refine Cm 2 s7 [(0,vP c 0),Ml 2 0,Ml 3 1,(7,vI r7)] [(2,0,[vI 0,vI 0,Sn]),(3,1,[vI u5.cap,vI u5.frm,vS u5.p u5.l.length])] fun _ _ => ?_
 have hF7 := hF5.later hL7
 have hll : u5.l.length ≤ 5 := by have := h5.l; simp only [List.length_map] at this; exact this
 refine ⟨_,rfl,?_⟩
 rintro (_|_) h9
 ·replace h9 : ¬ (r7 = (0)) := beq_eq_false_iff_ne.1 h9
  refine Cm 2 s7 [(0,vP c 0),Ml 2 0,Ml 3 1,(7,vI r7),(8,vB false)] [(2,0,[vI 0,vI 0,Sn]),(3,1,[vI u5.cap,vI u5.frm,vS u5.p u5.l.length])] fun _ _ => ?_
  refine ⟨_,rfl,?_⟩
  rintro (_|_) h15
  ·replace h15 : ¬ (r7 = (1)) := beq_eq_false_iff_ne.1 h15
   refine Cm 2 s7 [(0,vP c 0),Ml 2 0,Ml 3 1,(7,vI r7),(14,vB false)] [(2,0,[vI 0,vI 0,Sn]),(3,1,[vI u5.cap,vI u5.frm,vS u5.p u5.l.length])] fun _ _ => ?_
   refine ⟨_,rfl,?_⟩
   rintro (_|_) h21
   ·replace h21 : ¬ (r7 = (2)) := beq_eq_false_iff_ne.1 h21
    refine Cm 2 s7 [(0,vP c 0),Ml 2 0,Ml 3 1,(20,vB false)] [(2,0,[vI 0,vI 0,Sn]),(3,1,[vI u5.cap,vI u5.frm,vS u5.p u5.l.length])] fun _ _ => ?_
    refine cxs ?_
    refine ⟨_,Od rfl,?_⟩
    refine ⟨_,Os rfl,?_⟩
    exact cxs (Rt ⟨u5,rfl,⟨Nat.le_succ_of_le h5.l,h5.s,h5.f⟩,hF7,hC7⟩)
   ·replace h21 : r7 = (2) := beq_iff_eq.1 h21
    refine Cm 2 s7 [(0,vP c 0),Ml 2 0,Ml 3 1,(20,vB true)] [(2,0,[vI 0,vI 0,Sn]),(3,1,[vI u5.cap,vI u5.frm,vS u5.p u5.l.length])] fun _ _ => ?_
    refine ⟨fun _ => False,?_⟩
    refine ⟨_,rfl,?_⟩
    refine ⟨_,Od rfl,?_⟩
    refine ⟨ld_own rfl rfl rfl,?_⟩
    refine ⟨_,rfl,(ac_d_l3Draw c s7 hC7 (by first | assumption | omega)).mono ?_⟩
    rintro _ s25 ⟨u25,rfl,h25,hF25,hC25⟩
    refine ⟨fun _ h => h.elim,?_⟩
    refine op_one (z := 2) (a := (u25 : SV)) (f := cSV) rfl rfl rfl rfl rfl (by decide) rfl (Lb rfl) rfl rfl rfl ?_
    refine ⟨fun _ h => h.elim,?_⟩
    have hO25 : OwnR s25 2 cSV u5.p u5.l := (hF7.join hF25).left.1.louter
    refine op_snoc (z := 2) (st := s25) (f := cSV) (b := 48) (l := u5.l) (x := u25) rfl rfl rfl rfl rfl rfl rfl (by decide) len_cSV rfl rfl rfl (by omega) (by unfold maxLen; omega) hO25 ?_
    intro q27 s27 hO27 hP27 hN27
    refine ⟨_,rfl,?_⟩
    refine ⟨_,Os rfl,?_⟩
    refine Cm 2 s27 [Ml 2 0,Ml 3 1] [(2,0,[vI 0,vI 0,Sn]),(3,1,[vI u5.cap,vI u5.frm,vS q27 (u5.l ++ [u25]).length])] fun _ _ => ?_
    refine ⟨_,Od rfl,?_⟩
    refine ⟨_,Os rfl,?_⟩
    refine cxs ?_
    have hF27 := hF7.snocL hF25 hP27 hO27 hN27
    exact ⟨.inl rfl,_,rfl,⟨u5.cap,u5.frm,q27,u5.l ++ [u25]⟩,rfl,⟨by simp only [List.length_map,List.length_append,List.length_singleton]; omega,fun x hx => by
     simp only [List.map_append,List.mem_append,List.map_cons,List.map_nil,List.mem_singleton] at hx
     rcases hx with hx | rfl
     ·exact h5.s x hx
     ·exact h25,h5.f⟩,hF27.1,hC25.thenNew hc (hF7.2.2.1.trans hF25.2.2.1) hP27 (newL_p hF7.2.1)⟩
  ·replace h15 : r7 = (1) := beq_iff_eq.1 h15
   refine Cm 2 s7 [(0,vP c 0),Ml 2 0,Ml 3 1,(7,vI r7),(14,vB true)] [(2,0,[vI 0,vI 0,Sn]),(3,1,[vI u5.cap,vI u5.frm,vS u5.p u5.l.length])] fun _ _ => ?_
   refine op_litI (k := .i64) (l := [-1,100000,9223372036854775807]) rfl rfl rfl rfl rfl rfl (Lb rfl) ?_
   intro q17 s17 hO17 hP17 hN17
   refine ⟨_,rfl,(ac_d_l1PickInt c q17 ([-1,100000,9223372036854775807]) s17 (hC7.pres hP17) (by first | assumption | omega) (by first | assumption | omega | decide) (by first | assumption | omega) (by first | assumption | exact NC.new (by assumption) (Cur.lt (by assumption)))).mono ?_⟩
   rintro _ s18 ⟨r18,rfl,h18,hC18,hL18⟩
   refine ⟨_,rfl,?_⟩
   refine ⟨_,Os rfl,?_⟩
   refine Cm 2 s18 [Ml 2 0,Ml 3 1] [(2,0,[vI 0,vI 0,Sn]),(3,1,[vI u5.cap,vI r18,vS u5.p u5.l.length])] fun _ _ => ?_
   refine ⟨_,Od rfl,?_⟩
   refine ⟨_,Os rfl,?_⟩
   exact cxs (Rt ⟨⟨u5.cap,r18,u5.p,u5.l⟩,rfl,⟨Nat.le_succ_of_le h5.l,h5.s,by show -1 ≤ r18 ∧ r18 ≤ 9223372036854775807; simp only [List.mem_cons,List.not_mem_nil,or_false] at h18; omega⟩,(hF7.step hP17).later hL18,hC18⟩)
 ·replace h9 : r7 = (0) := beq_iff_eq.1 h9
  refine Cm 2 s7 [(0,vP c 0),Ml 2 0,Ml 3 1,(7,vI r7),(8,vB true)] [(2,0,[vI 0,vI 0,Sn]),(3,1,[vI u5.cap,vI u5.frm,vS u5.p u5.l.length])] fun _ _ => ?_
  refine op_litI (k := .i64) (l := [0,9,1]) rfl rfl rfl rfl rfl rfl (Lb rfl) ?_
  intro q11 s11 hO11 hP11 hN11
  refine ⟨_,rfl,(ac_d_l1PickInt c q11 ([0,9,1]) s11 (hC7.pres hP11) (by first | assumption | omega) (by first | assumption | omega | decide) (by first | assumption | omega) (by first | assumption | exact NC.new (by assumption) (Cur.lt (by assumption)))).mono ?_⟩
  rintro _ s12 ⟨r12,rfl,h12,hC12,hL12⟩
  refine ⟨_,rfl,?_⟩
  refine ⟨_,Os rfl,?_⟩
  refine Cm 2 s12 [Ml 2 0,Ml 3 1] [(2,0,[vI 0,vI 0,Sn]),(3,1,[vI r12,vI u5.frm,vS u5.p u5.l.length])] fun _ _ => ?_
  refine ⟨_,Od rfl,?_⟩
  refine ⟨_,Os rfl,?_⟩
  exact cxs (Rt ⟨⟨r12,u5.frm,u5.p,u5.l⟩,rfl,⟨Nat.le_succ_of_le h5.l,h5.s,h5.f⟩,(hF7.step hP11).later hL12,hC12⟩)
structure Added (g x : Lg) (d : Sta) : Prop where
 og : logOk g
 od : stateOk d
 ox : logOk x
 seq : x.frm + (x.list.length : Int) = g.frm + (g.list.length : Int) + 1
 frm : g.frm ≤ x.frm
 last : x.list.drop (x.list.length - 1) = [d]
 pos : 1 ≤ x.list.length
theorem addL_yes {g x : Lg} {d : Sta} (h : (x,true) = addL g d) : Added g x d := by
 unfold addL at h
 split at h
 ·rename_i hk
  obtain ⟨h1,h2,h3⟩ := hk
  have h4 := logOk_add h1 h2
  have hcap := h1.1
  split at h
  ·rename_i hc
   injection h with h _
   subst h
   have hl : ((g.list ++ [d]).drop 1).length = g.list.length := by rw [List.length_drop,List.length_append,List.length_singleton]; omega
   refine ⟨h1,h2,h4.1.2 h3,?_,by show g.frm ≤ g.frm + 1; omega,?_,by show 1 ≤ ((g.list ++ [d]).drop 1).length; omega⟩
   ·show g.frm + 1 + (((g.list ++ [d]).drop 1).length : Int) = _; rw [hl]; omega
   ·show ((g.list ++ [d]).drop 1).drop (((g.list ++ [d]).drop 1).length - 1) = [d]
    rw [hl,List.drop_drop,show 1 + (g.list.length - 1) = g.list.length by omega,List.drop_left]
  ·rename_i hc
   injection h with h _
   subst h
   have hl : (g.list ++ [d]).length = g.list.length + 1 := by rw [List.length_append,List.length_singleton]
   refine ⟨h1,h2,(h4.2 hc).2 h3,?_,Int.le_refl _,?_,by show 1 ≤ (g.list ++ [d]).length; omega⟩
   ·show g.frm + ((g.list ++ [d]).length : Int) = _; rw [hl]; omega
   ·show (g.list ++ [d]).drop ((g.list ++ [d]).length - 1) = [d]
    rw [hl,show g.list.length + 1 - 1 = g.list.length by omega,List.drop_left]
 ·injection h with _ h; cases h
theorem logSeq_ok {g : Lg} (h : logOk g) : logSeq g = g.frm + (g.list.length : Int) := if_pos h
theorem Added.since {g x : Lg} {d : Sta} (h : Added g x d) : sinceF x (logSeq x - 1) = (d,true) := by
 rw [logSeq_ok h.ox]
 have hp := h.pos
 have h3 := h.ox.2.2.1
 unfold sinceF
 rw [if_pos ⟨h.ox,by omega,by omega⟩,show (x.frm + (x.list.length : Int) - 1 - x.frm).toNat = x.list.length - 1 by omega,h.last]
 show (joinF nilS d 5,true) = _
 rw [show nilS = ⟨[],[]⟩ from rfl,nil_join h.od]
theorem logSeq_rng (g : Lg) : 0 ≤ logSeq g ∧ logSeq g ≤ 100000 := by
 unfold logSeq
 split
 ·rename_i h; have := h.2.2.1; have := h.2.2.2.1; omega
 ·omega
end Go.Proofs.YtpnolkhfeliehaaGreat.AM
namespace Go.Proofs.YtpnolkhfeliehaaGreat.AM
open Go Go.Proofs
set_option linter.unusedVariables false
set_option linter.unusedSimpArgs false
def sesIn (x : Nd) (y : Ses) : Prop := ((0 ≤ y.peer ∧ y.peer ≤ x.n - 1) ∧ ¬ y.peer = x.id) ∧ (0 ≤ y.num ∧ y.num ≤ 100000) ∧ (0 ≤ y.age ∧ y.age ≤ x.wait)
def unlike (z y : Ses) : Prop := ¬ (z.peer = y.peer ∧ z.inn = y.inn)
theorem sess_iff {x : Nd} : sessOk x ↔ (x.sess.length : Int) ≤ x.slots ∧ (∀ y ∈ x.sess,sesIn x y) ∧ List.Pairwise unlike x.sess := by
 refine ⟨fun h => ⟨h.1,fun y hy => ?_,?_⟩,fun h => ⟨h.1,fun j y hy => ?_⟩⟩
 ·obtain ⟨j,hj⟩ := List.getElem?_of_mem hy
  have := h.2 j y hj
  exact ⟨this.1,this.2.1,this.2.2.1⟩
 ·rw [List.pairwise_iff_getElem]
  intro i j hi hj hij
  exact (h.2 j _ (List.getElem?_eq_getElem hj)).2.2.2 i _ hij (List.getElem?_eq_getElem hi)
 ·have h1 := h.2.1 y (List.mem_of_getElem? hy)
  refine ⟨h1.1,h1.2.1,h1.2.2,fun k z hk hz => ?_⟩
  obtain ⟨hj,e1⟩ := List.getElem?_eq_some_iff.1 hy
  obtain ⟨hk',e2⟩ := List.getElem?_eq_some_iff.1 hz
  have := (List.pairwise_iff_getElem.1 h.2.2) k j hk' hj hk
  rw [e1,e2] at this
  exact this
theorem aged_ok {x y : Nd} (h : sessOk x) (hn : y.n = x.n) (hi : y.id = x.id) (hw : y.wait = x.wait) (hs : y.slots = x.slots) (he : y.sess = agedL x.wait x.sess) : sessOk y := by
 have h := sess_iff.1 h
 refine sess_iff.2 ⟨?_,fun z hz => ?_,?_⟩
 ·have := aged_len x.wait x.sess
  rw [he,hs]
  have := h.1
  omega
 ·rw [he] at hz
  obtain ⟨hz,hw'⟩ := List.mem_filter.1 hz
  obtain ⟨q,hq,rfl⟩ := List.mem_map.1 hz
  have h1 := h.2.1 q hq
  have h2 : q.age + 1 ≤ x.wait := of_decide_eq_true hw'
  refine ⟨by rw [hn,hi]; exact h1.1,h1.2.1,?_⟩
  have := h1.2.2
  show 0 ≤ q.age + 1 ∧ q.age + 1 ≤ y.wait
  rw [hw]
  omega
 ·rw [he]
  exact List.Pairwise.filter _ (List.Pairwise.map older (fun a b hab => hab) h.2.2)
theorem tick_ok {x : Nd} (h : nodeOk x) : nodeOk (tickF x) := by
 unfold tickF
 split
 ·rename_i hc
  have h0 := h.clock
  exact ⟨h.n,h.id,h.s,h.t,h.g,h.got,h.acked,h.seq,h.ack,h.seen,h.num,by show 0 ≤ x.clock + 1 ∧ x.clock + 1 ≤ 100000; omega,h.wait,h.limit,h.slots,aged_ok h.sess rfl rfl rfl rfl rfl,h.rises.1,fun j r hr => by
   obtain ⟨h1,h2,h3⟩ := h.rises.2 j r hr
   exact ⟨h1,h2,by show 0 ≤ r.tick ∧ r.tick ≤ x.clock + 1; omega⟩⟩
 ·exact h
theorem slot_none : ∀ (l : List Ses) (p : Int) (b : Bool) (k : Nat),¬ slotF l p b k ≥ 0 → ∀ z ∈ l,¬ (z.peer = p ∧ z.inn = b)
 | [],_,_,_,_,z,hz => by cases hz
 | x :: l,p,b,k,h,z,hz => by
  unfold slotF at h
  by_cases hc : x.peer = p ∧ x.inn = b
  ·rw [if_pos hc] at h; omega
  ·rw [if_neg hc] at h
   rcases List.mem_cons.1 hz with rfl | hz
   ·exact hc
   ·exact slot_none l p b (k + 1) h z hz
theorem begun_ok {x : Nd} {to : Int} (h : synOk x to) : nodeOk (begun x to) := by
 have k := h.ok
 have h0 := k.num
 have h1 := h.num
 have hs := sess_iff.1 k.sess
 have hw := k.wait
 refine ⟨k.n,k.id,k.s,k.t,k.g,k.got,k.acked,k.seq,k.ack,k.seen,by show 0 ≤ x.num + 1 ∧ x.num + 1 ≤ 100000; omega,k.clock,k.wait,k.limit,k.slots,sess_iff.2 ⟨?_,fun y hy => ?_,?_⟩,k.rises⟩
 ·show ((x.sess ++ [_]).length : Int) ≤ x.slots
  rw [List.length_append,List.length_singleton]
  have := h.room
  omega
 ·rcases List.mem_append.1 (show y ∈ x.sess ++ [_] from hy) with hy | hy
  ·exact hs.2.1 y hy
  ·rw [List.mem_singleton.1 hy]
   exact ⟨h.peer,by show 0 ≤ x.num + 1 ∧ x.num + 1 ≤ 100000; omega,by show (0 : Int) ≤ 0 ∧ 0 ≤ x.wait; omega⟩
 ·refine List.pairwise_append.2 ⟨hs.2.2,List.pairwise_singleton _ _,fun a ha b hb => ?_⟩
  rw [List.mem_singleton.1 hb]
  exact slot_none _ _ _ _ h.slot a ha
theorem syn_ok {x : Nd} {to : Int} (h : nodeOk x) : nodeOk (synF x to).1 := by
 unfold synF
 split
 ·rename_i k; exact begun_ok k
 ·exact h
theorem seen_ok {x : Nd} {k : Int} {ms : List Flr} (h : nodeOk x) : nodeOk { x with seen := tableAdd x.seen k ms } :=
 ⟨h.n,h.id,h.s,h.t,h.g,h.got,h.acked,h.seq,h.ack,table_add h.seen,h.num,h.clock,h.wait,h.limit,h.slots,h.sess,h.rises⟩
theorem vec_set {l : List Int} {n v : Int} {i : Nat} (h : vecOk l n) (hv : 0 ≤ v ∧ v ≤ 100000) : vecOk (l.set i v) n := ⟨h.1,by rw [List.length_set]; exact h.2.1,fun j x hx => by
 rw [List.getElem?_set] at hx
 split at hx
 ·split at hx
  ·injection hx with hx; rw [← hx]; exact hv
  ·cases hx
 ·exact h.2.2 j x hx⟩
theorem set_all {P : Int → Prop} {l : List Int} {v : Int} {i : Nat} (h : ∀ (j : Nat) y,l[j]? = some y → P y) (hv : P v) : ∀ (j : Nat) y,(l.set i v)[j]? = some y → P y := fun j x hx => by
 rw [List.getElem?_set] at hx
 split at hx
 ·split at hx
  ·injection hx with hx; rw [← hx]; exact hv
  ·cases hx
 ·exact h j x hx
theorem got_ok {x : Nd} {i : Nat} {v : Int} (h : nodeOk x) (hi : ¬ (i : Int) = x.id) (hv : 0 ≤ v ∧ v ≤ 100000) : nodeOk { x with got := x.got.set i v } :=
 ⟨h.n,h.id,h.s,h.t,h.g,vec_set h.got hv,h.acked,by
  have := h.id
  show (x.got.set i v)[x.id.toNat]? = _
  rw [List.getElem?_set_ne (by omega)]
  exact h.seq,h.ack,h.seen,h.num,h.clock,h.wait,h.limit,h.slots,h.sess,h.rises⟩
theorem acked_ok {x : Nd} {i : Nat} {v : Int} (h : nodeOk x) (hv : 0 ≤ v ∧ v ≤ logSeq x.g) : nodeOk { x with acked := x.acked.set i v } :=
 ⟨h.n,h.id,h.s,h.t,h.g,h.got,vec_set h.acked (by have := (logSeq_rng x.g).2; omega),h.seq,set_all h.ack hv.2,h.seen,h.num,h.clock,h.wait,h.limit,h.slots,h.sess,h.rises⟩
theorem said_ok {x : Nd} {g : Lg} {d : Sta} (h : nodeOk x) (hA : Added x.g g d) : logSeq g = logSeq x.g + 1 ∧ nodeOk { x with g := g,got := x.got.set x.id.toNat (logSeq g) } := by
 have e : logSeq g = logSeq x.g + 1 := by rw [logSeq_ok hA.ox,logSeq_ok hA.og]; exact hA.seq
 have hl : x.id.toNat < x.got.length := by have := h.id; have := h.got.2.1; omega
 refine ⟨e,h.n,h.id,h.s,h.t,hA.ox,vec_set h.got (logSeq_rng g),h.acked,List.getElem?_set_self hl,fun j y hy => ?_,h.seen,h.num,h.clock,h.wait,h.limit,h.slots,h.sess,h.rises⟩
 have := h.ack j y hy
 show y ≤ logSeq g
 omega
theorem zI_vec {n : Int} (h : 1 ≤ n ∧ n ≤ 5) : vecOk (zI n) n := ⟨h,by rw [zI_len]; omega,fun j x hx => by
 have := List.eq_of_mem_replicate (List.mem_of_getElem? hx)
 omega⟩
theorem newN_ok {id n cap slots wait limit : Int} (hn : 1 ≤ n ∧ n ≤ 5) (hid : 0 ≤ id ∧ id ≤ n - 1) (hc : 1 ≤ cap ∧ cap ≤ 8) (hs : 1 ≤ slots ∧ slots ≤ 4) (hw : 1 ≤ wait ∧ wait ≤ 20) (hl : 1 ≤ limit ∧ limit ≤ 50) : nodeOk (newN id n cap slots wait limit) := by
 have hg : logOk ⟨cap,0,[]⟩ := ⟨hc,by show (0 : Int) ≤ cap; omega,⟨Int.le_refl _,show (0 : Int) ≤ 100000 by decide⟩,show (0 : Int) + ((0 : Nat) : Int) ≤ 100000 by decide,fun s hs => by cases hs⟩
 have hq : logSeq ⟨cap,0,[]⟩ = 0 := by rw [logSeq_ok hg]; rfl
 refine ⟨hn,hid,stateOk_nil,rfl,hg,zI_vec hn,zI_vec hn,?_,fun j y hy => ?_,tnew_tableOk.2 hn,show (0 : Int) ≤ 0 ∧ (0 : Int) ≤ 100000 by decide,show (0 : Int) ≤ 0 ∧ (0 : Int) ≤ 100000 by decide,hw,hl,hs,sess_iff.2 ⟨by show (0 : Int) ≤ slots; omega,fun y (hy : y ∈ ([] : List Ses)) => (nomatch hy),List.Pairwise.nil⟩,List.length_replicate,fun j r hr => ?_⟩
 ·show (zI n)[id.toNat]? = some (logSeq ⟨cap,0,[]⟩)
  rw [hq]
  unfold zI
  rw [List.getElem?_replicate,if_pos (by omega)]
 ·have := List.eq_of_mem_replicate (List.mem_of_getElem? hy)
  show y ≤ logSeq ⟨cap,0,[]⟩
  omega
 ·rw [List.eq_of_mem_replicate (List.mem_of_getElem? hr)]
  exact ⟨by decide,by decide,show (0 : Int) ≤ 0 ∧ (0 : Int) ≤ 0 by decide⟩
theorem newF_ok {id n cap slots wait limit : Int} {x : Nd} {b : Bool} (he : (x,b) = newF id n cap slots wait limit) (hn : 1 ≤ n ∧ n ≤ 5) (hid : 0 ≤ id ∧ id ≤ n - 1) (hc : 1 ≤ cap ∧ cap ≤ 8) (hs : 1 ≤ slots ∧ slots ≤ 4) (hw : 1 ≤ wait ∧ wait ≤ 20) (hl : 1 ≤ limit ∧ limit ≤ 50) : nodeOk x ∧ x = newN id n cap slots wait limit := by
 have h := newN_ok hn hid hc hs hw hl
 unfold newF at he
 rw [if_pos ⟨hn,h⟩] at he
 injection he with he _
 exact ⟨he ▸ h,he⟩
end Go.Proofs.YtpnolkhfeliehaaGreat.AM
namespace Go.Proofs.YtpnolkhfeliehaaGreat.AM
open Go Go.Proofs
set_option linter.unusedVariables false
set_option linter.unusedSimpArgs false
set_option maxRecDepth 100000
set_option maxHeartbeats 4000000
abbrev upI (l : List Itm) : List Itm := l.filter fun x => decide (x.e.rank = 0)
open Classical in
noncomputable def viewF (s : Sta) : List Itm := if stateOk s then upI s.items else []
theorem view_big {s : Sta} (h : bigS s) : bigS ⟨viewF s,[]⟩ := by
 unfold viewF
 split
 ·exact ⟨Nat.le_trans (List.length_filter_le _ _) h.1,Nat.zero_le _,fun x hx => h.2.2 x ((List.mem_filter.1 hx).1)⟩
 ·exact ⟨Nat.zero_le _,Nat.zero_le _,fun x hx => by cases hx⟩
noncomputable def lookF (s : Sta) (id : Int) : Ent × Bool := entP (viewF s) id
theorem ac_impl_View (s : SV) (st : St) (hR : RdS st s) (hb : bigS s.x) : C 244 [.agg #[vS s.p s.x.items.length,vS s.q s.x.floors.length]] st (fun v s' => ∃ q,v = vS q (viewF s.x).length ∧ OwnR s' 6 cItm q (viewF s.x) ∧ New st.next q ∧ Pres st s') := by
 have hs1 : s.x.items.length ≤ 1048576 := hb.1
 refine AC.enterX (i := ⟨[1,5],[1,5,11,18,19],[0,1,2,3,5,9,12,13,14,15,21],[]⟩) [] Tryz.func244 rfl rfl (by kernel_rfl) (by kernel_rfl) Tryz.ntmps244 (Lb rfl) rfl ?_
 refine ⟨_,rfl,?_⟩
 refine Cm 1 st [Ml 1 0,(2,Sn)] [(1,0,cSV s)] fun _ _ => ?_
 refine op_nilK (z := 6) (f := cItm) rfl rfl rfl rfl (by decide) rfl ?_
 intro q6 s6 hO6 hP6 hN6
 refine Cm 1 s6 [Ml 1 0,(2,Sn),(3,vS q6 0)] [(1,0,cSV s)] fun _ _ => ?_
 refine ⟨_,Od rfl,?_⟩
 refine ⟨_,rfl,(ac_impl_StateOk s s6 (hR.pres hP6) (by first | assumption | omega)).mono ?_⟩
 rintro _ s6 ⟨x8,rfl,h8,rfl⟩
 rcases x8 with _|_
 ·replace h8 := fun k => Bool.false_ne_true (h8.2 k)
  refine ⟨_,rfl,?_⟩
  refine Cm 1 s6 [Ml 1 0,(2,Sn),(3,vS q6 0),(9,vB true)] [(1,0,cSV s)] fun _ _ => ?_
  exact cxs (Rt ⟨q6,by rw [viewF,if_neg h8]; rfl,by rw [viewF,if_neg h8]; exact hO6,hN6,hP6⟩)
 ·replace h8 := h8.1 rfl
  refine ⟨_,rfl,?_⟩
  refine Cm 1 s6 [Ml 1 0,(2,Sn),(3,vS q6 0),(9,vB false)] [(1,0,cSV s)] fun _ _ => ?_
  refine cxs ?_
  refine ⟨_,rfl,?_⟩
  refine ⟨_,Od rfl,?_⟩
  refine ⟨_,rfl,?_⟩
  refine Cm 1 s6 [(2,Sn),(3,vS q6 0),(12,vS s.p s.x.items.length),(13,vI (s.x.items.length : Int)),(14,vI 0)] [] fun _ _ => ?_
  refine AW.loopM (fun x : Nat × Option Addr × List Itm => [(2,.slice none 0 0),(3,vS x.2.1 x.2.2.length),(12,vS s.p s.x.items.length),(13,vI (s.x.items.length : Int)),(14,vI (x.1 : Int))]) (fun x : Nat × Option Addr × List Itm => []) (fun m (x : Nat × Option Addr × List Itm) st' => m = s.x.items.length - x.1 ∧ x.1 ≤ s.x.items.length ∧ x.2.2 = upI (s.x.items.take x.1) ∧ OwnR st' 6 cItm x.2.1 x.2.2 ∧ New st.next x.2.1 ∧ Pres st st') (0,q6,[]) _ ⟨rfl,rfl,rfl,rfl,rfl,trivial⟩ trivial ⟨rfl,Nat.zero_le _,rfl,hO6,hN6,hP6⟩ ?_
  rintro m ⟨i,q,l⟩ ρ0 ff gg st' ⟨rfl,hi,hv,hO,hN,hP⟩
  simp only at hi hv hO hN
  have hll : l.length ≤ i := by rw [hv]; exact Nat.le_trans (List.length_filter_le _ _) (by rw [List.length_take]; omega)
  refine ⟨_,rfl,?_⟩
  rintro (_|_) h15
  ·replace h15 : ¬ ((i : Int) < (s.x.items.length : Int)) := of_decide_eq_false h15
   refine Cm gg st' [(2,Sn),(3,vS q l.length),(12,vS s.p s.x.items.length),(13,vI (s.x.items.length : Int)),(14,vI (i : Int)),(15,vB false)] [] fun _ _ => ?_
   refine cxs ?_
   refine cxs ?_
   have hle : l = viewF s.x := by rw [hv,viewF,if_pos h8,List.take_of_length_le (by omega)]
   exact Rt ⟨q,by rw [← hle]; rfl,by rw [← hle]; exact hO,hN,hP⟩
  ·replace h15 : (i : Int) < (s.x.items.length : Int) := of_decide_eq_true h15
   refine Cm gg st' [(2,Sn),(3,vS q l.length),(12,vS s.p s.x.items.length),(13,vI (s.x.items.length : Int)),(14,vI (i : Int)),(15,vB true)] [] fun _ _ => ?_
   refine cxs ?_
   refine op_at i (hP.rows hR.1) (by omega) rfl rfl rfl rfl rfl rfl rfl ?_
   intro x16 b16 d16 k16 hy16 hb16 hm16 hc16 ho16
   refine ⟨_,op_lda rfl rfl rfl rfl rfl hm16 hc16 rfl,?_⟩
   refine ⟨_,rfl,?_⟩
   refine ⟨_,Os rfl,?_⟩
   refine Cm (gg + 1) st' [(2,Sn),(3,vS q l.length),Ml 5 gg,(12,vS s.p s.x.items.length),(13,vI (s.x.items.length : Int)),(14,vI (i : Int)),(15,vB true)] [(5,gg,[vI x16.id,vI x16.e.inc,vI x16.e.rank,vI x16.e.beat,vI x16.e.ver,.string x16.e.data])] fun _ _ => ?_
   iterate 2 refine ⟨_,rfl,?_⟩
   refine ⟨_,Od rfl,?_⟩
   refine ⟨_,rfl,?_⟩
   rintro (_|_) h21
   ·replace h21 : ¬ (x16.e.rank = (0)) := beq_eq_false_iff_ne.1 h21
    refine Cm (gg + 1) st' [(2,Sn),(3,vS q l.length),Ml 5 gg,(12,vS s.p s.x.items.length),(13,vI (s.x.items.length : Int)),(14,vI (i : Int)),(15,vB true),(21,vB false)] [(5,gg,[vI x16.id,vI x16.e.inc,vI x16.e.rank,vI x16.e.beat,vI x16.e.ver,.string x16.e.data])] fun _ _ => ?_
    refine cxs ?_
    have ew26 : IntKind.wrap .i64 ((i : Int) + (1)) = ((i + 1 : Nat) : Int) := (wrap_i64 (by omega) (by omega)).trans (by omega)
    refine ⟨_,rfl,?_⟩
    exact ⟨(i + 1,q,l),s.x.items.length - (i + 1),by omega,⟨rfl,rfl,rfl,rfl,congrArg (Value.int .i64) ew26,trivial⟩,trivial,rfl,by simp only; omega,by rw [show upI (s.x.items.take (i + 1)) = upI (s.x.items.take i) from filt_out hy16 (decide_eq_false h21)]; exact hv,hO,hN,hP⟩
   ·replace h21 : x16.e.rank = (0) := beq_iff_eq.1 h21
    refine Cm (gg + 1) st' [(2,Sn),(3,vS q l.length),Ml 5 gg,(12,vS s.p s.x.items.length),(13,vI (s.x.items.length : Int)),(14,vI (i : Int)),(15,vB true),(21,vB true)] [(5,gg,[vI x16.id,vI x16.e.inc,vI x16.e.rank,vI x16.e.beat,vI x16.e.ver,.string x16.e.data])] fun _ _ => ?_
    refine ⟨_,Od rfl,?_⟩
    refine op_one (z := 6) (a := (x16 : Itm)) (f := cItm) rfl rfl rfl rfl rfl (by decide) rfl (Lb rfl) rfl rfl rfl ?_
    refine op_snoc (z := 6) (st := st') (f := cItm) (b := 56) (l := l) (x := x16) rfl rfl rfl rfl rfl rfl rfl (by decide) len_cItm rfl rfl rfl (by omega) (by unfold maxLen; omega) hO ?_
    intro q25 s25 hO25 hP25 hN25
    refine Cm (gg + 1) s25 [(2,Sn),(3,vS q25 (l ++ [x16]).length),Ml 5 gg,(12,vS s.p s.x.items.length),(13,vI (s.x.items.length : Int)),(14,vI (i : Int)),(15,vB true),(21,vB true)] [(5,gg,[vI x16.id,vI x16.e.inc,vI x16.e.rank,vI x16.e.beat,vI x16.e.ver,.string x16.e.data])] fun _ _ => ?_
    have ew26 : IntKind.wrap .i64 ((i : Int) + (1)) = ((i + 1 : Nat) : Int) := (wrap_i64 (by omega) (by omega)).trans (by omega)
    refine ⟨_,rfl,?_⟩
    exact ⟨(i + 1,q25,l ++ [x16]),s.x.items.length - (i + 1),by omega,⟨rfl,rfl,rfl,rfl,congrArg (Value.int .i64) ew26,trivial⟩,trivial,rfl,by simp only; omega,by rw [show upI (s.x.items.take (i + 1)) = upI (s.x.items.take i) ++ [x16] from filt_in hy16 (decide_eq_true h21),← hv],hO25,hN25.le hP.1,hP25.pres hP hN⟩
theorem ac_spec_View (s : SV) (st : St) (hR : RdS st s) (hb : bigS s.x) : C 238 [.agg #[vS s.p s.x.items.length,vS s.q s.x.floors.length]] st (fun v s' => ∃ q,v = vS q (viewF s.x).length ∧ OwnR s' 6 cItm q (viewF s.x) ∧ New st.next q ∧ Pres st s') := by
 have hs1 : s.x.items.length ≤ 1048576 := hb.1
 refine AC.enterX (i := ⟨[1],[1,11,17,26],[0,1,2,3,4,8,14,24],[]⟩) [] Tryz.func238 rfl rfl (by kernel_rfl) (by kernel_rfl) Tryz.ntmps238 (Lb rfl) rfl ?_
 refine ⟨_,rfl,?_⟩
 refine Cm 1 st [Ml 1 0,(2,Sn)] [(1,0,cSV s)] fun _ _ => ?_
 refine op_nilK (z := 6) (f := cItm) rfl rfl rfl rfl (by decide) rfl ?_
 intro q5 s5 hO5 hP5 hN5
 refine Cm 1 s5 [Ml 1 0,(2,Sn),(3,vS q5 0)] [(1,0,cSV s)] fun _ _ => ?_
 refine ⟨_,Od rfl,?_⟩
 refine ⟨_,rfl,(ac_spec_StateOk s s5 (hR.pres hP5) (by first | assumption | omega)).mono ?_⟩
 rintro _ s5 ⟨x7,rfl,h7,rfl⟩
 rcases x7 with _|_
 ·replace h7 := fun k => Bool.false_ne_true (h7.2 k)
  refine ⟨_,rfl,?_⟩
  refine Cm 1 s5 [Ml 1 0,(2,Sn),(3,vS q5 0),(8,vB true)] [(1,0,cSV s)] fun _ _ => ?_
  exact cxs (Rt ⟨q5,by rw [viewF,if_neg h7]; rfl,by rw [viewF,if_neg h7]; exact hO5,hN5,hP5⟩)
 ·replace h7 := h7.1 rfl
  refine ⟨_,rfl,?_⟩
  refine Cm 1 s5 [Ml 1 0,(2,Sn),(3,vS q5 0),(8,vB false)] [(1,0,cSV s)] fun _ _ => ?_
  refine cxs ?_
  refine Cm 1 s5 [Ml 1 0,(2,Sn),(3,vS q5 0),(4,vI 0)] [(1,0,cSV s)] fun _ _ => ?_
  refine AW.loopM (fun x : Nat × Option Addr × List Itm => [(1,vL 1 0 (0)),(2,.slice none 0 0),(3,vS x.2.1 x.2.2.length),(4,vI (x.1 : Int))]) (fun x : Nat × Option Addr × List Itm => [(1,0,[vS s.p s.x.items.length,vS s.q s.x.floors.length])]) (fun m (x : Nat × Option Addr × List Itm) st' => m = s.x.items.length - x.1 ∧ x.1 ≤ s.x.items.length ∧ x.2.2 = upI (s.x.items.take x.1) ∧ OwnR st' 6 cItm x.2.1 x.2.2 ∧ New st.next x.2.1 ∧ Pres st st') (0,q5,[]) _ ⟨rfl,rfl,rfl,rfl,trivial⟩ ⟨rfl,trivial⟩ ⟨rfl,Nat.zero_le _,rfl,hO5,hN5,hP5⟩ ?_
  rintro m ⟨i,q,l⟩ ρ0 ff gg st' ⟨rfl,hi,hv,hO,hN,hP⟩
  simp only at hi hv hO hN
  have hll : l.length ≤ i := by rw [hv]; exact Nat.le_trans (List.length_filter_le _ _) (by rw [List.length_take]; omega)
  refine ⟨_,rfl,?_⟩
  refine ⟨_,Od rfl,?_⟩
  iterate 2 refine ⟨_,rfl,?_⟩
  rintro (_|_) h14
  ·replace h14 : ¬ ((i : Int) < (s.x.items.length : Int)) := of_decide_eq_false h14
   refine Cm gg st' [Ml 1 0,(2,Sn),(3,vS q l.length),(4,vI (i : Int)),(14,vB false)] [(1,0,cSV s)] fun _ _ => ?_
   refine cxs ?_
   refine cxs ?_
   have hle : l = viewF s.x := by rw [hv,viewF,if_pos h7,List.take_of_length_le (by omega)]
   exact Rt ⟨q,by rw [← hle]; rfl,by rw [← hle]; exact hO,hN,hP⟩
  ·replace h14 : (i : Int) < (s.x.items.length : Int) := of_decide_eq_true h14
   refine Cm gg st' [Ml 1 0,(2,Sn),(3,vS q l.length),(4,vI (i : Int)),(14,vB true)] [(1,0,cSV s)] fun _ _ => ?_
   refine cxs ?_
   refine ⟨_,rfl,?_⟩
   refine ⟨_,Od rfl,?_⟩
   refine op_at i (hP.rows hR.1) (by omega) rfl rfl rfl rfl rfl rfl rfl ?_
   intro x20 b20 d20 k20 hy20 hb20 hm20 hc20 ho20
   iterate 2 refine ⟨_,rfl,?_⟩
   refine ⟨_,op_ldc (i := 2) rfl rfl rfl rfl hm20 hc20 rfl rfl,?_⟩
   refine ⟨_,rfl,?_⟩
   rintro (_|_) h24
   ·replace h24 : ¬ (x20.e.rank = (0)) := beq_eq_false_iff_ne.1 h24
    refine Cm gg st' [Ml 1 0,(2,Sn),(3,vS q l.length),(4,vI (i : Int)),(14,vB true),(24,vB false)] [(1,0,cSV s)] fun _ _ => ?_
    refine cxs ?_
    have ew16 : IntKind.wrap .i64 ((i : Int) + (1)) = ((i + 1 : Nat) : Int) := (wrap_i64 (by omega) (by omega)).trans (by omega)
    refine ⟨_,rfl,?_⟩
    exact ⟨(i + 1,q,l),s.x.items.length - (i + 1),by omega,⟨rfl,rfl,rfl,congrArg (Value.int .i64) ew16,trivial⟩,⟨rfl,trivial⟩,rfl,by simp only; omega,by rw [show upI (s.x.items.take (i + 1)) = upI (s.x.items.take i) from filt_out hy20 (decide_eq_false h24)]; exact hv,hO,hN,hP⟩
   ·replace h24 : x20.e.rank = (0) := beq_iff_eq.1 h24
    refine Cm gg st' [Ml 1 0,(2,Sn),(3,vS q l.length),(4,vI (i : Int)),(14,vB true),(24,vB true)] [(1,0,cSV s)] fun _ _ => ?_
    refine ⟨_,rfl,?_⟩
    refine ⟨_,Od rfl,?_⟩
    refine op_el i (hP.rows hR.1) hy20 rfl rfl rfl rfl rfl rfl rfl ?_
    intro b29 d29 k29 hb29 hm29 hc29 ho29
    refine ⟨_,op_lda rfl rfl rfl rfl rfl hm29 hc29 rfl,?_⟩
    refine op_one (z := 6) (a := (x20 : Itm)) (f := cItm) rfl rfl rfl rfl rfl (by decide) rfl (Lb rfl) rfl rfl rfl ?_
    refine op_snoc (z := 6) (st := st') (f := cItm) (b := 56) (l := l) (x := x20) rfl rfl rfl rfl rfl rfl rfl (by decide) len_cItm rfl rfl rfl (by omega) (by unfold maxLen; omega) hO ?_
    intro q32 s32 hO32 hP32 hN32
    refine Cm gg s32 [Ml 1 0,(2,Sn),(3,vS q32 (l ++ [x20]).length),(4,vI (i : Int)),(14,vB true),(24,vB true)] [(1,0,cSV s)] fun _ _ => ?_
    have ew16 : IntKind.wrap .i64 ((i : Int) + (1)) = ((i + 1 : Nat) : Int) := (wrap_i64 (by omega) (by omega)).trans (by omega)
    refine ⟨_,rfl,?_⟩
    exact ⟨(i + 1,q32,l ++ [x20]),s.x.items.length - (i + 1),by omega,⟨rfl,rfl,rfl,congrArg (Value.int .i64) ew16,trivial⟩,⟨rfl,trivial⟩,rfl,by simp only; omega,by rw [show upI (s.x.items.take (i + 1)) = upI (s.x.items.take i) ++ [x20] from filt_in hy20 (decide_eq_true h24),← hv],hO32,hN32.le hP.1,hP32.pres hP hN⟩
theorem ac_impl_Lookup (s : SV) (id : Int) (st : St) (hR : RdS st s) (hb : bigS s.x) : C 237 [.agg #[vS s.p s.x.items.length,vS s.q s.x.floors.length],vI id] st (fun v s' => ∃ e b,v = .tuple #[.agg #[vI e.inc,vI e.rank,vI e.beat,vI e.ver,.string e.data],vB b] ∧ (e,b) = lookF s.x id ∧ Pres st s') := by
 refine AC.enterX (i := ⟨[2,4],[2,4],[0,1,2,4,5],[]⟩) [] Tryz.func237 rfl rfl (by kernel_rfl) (by kernel_rfl) Tryz.ntmps237 (Lb rfl) rfl ?_
 iterate 2 refine ⟨_,rfl,?_⟩
 refine Cm 2 st [(1,vI id),Ml 2 0,Ml 4 1,(5,vB false)] [(2,0,cSV s),(4,1,[vI 0,vI 0,vI 0,vI 0,.string ⟨#[]⟩])] fun _ _ => ?_
 refine ⟨_,Od rfl,?_⟩
 refine ⟨_,rfl,(ac_impl_View s st hR (by first | assumption | omega)).mono ?_⟩
 rintro _ s7 ⟨q7,rfl,hO7,hN7,hP7⟩
 refine ⟨_,rfl,?_⟩
 refine ⟨_,rfl,(ac_impl_EntryOf ⟨q7,none,⟨viewF s.x,[]⟩⟩ id s7 ⟨hO7.rows len_cItm,Rows.nil⟩ (view_big hb)).mono ?_⟩
 rintro _ s7 ⟨e10,b10,rfl,h10,rfl⟩
 iterate 2 refine ⟨_,rfl,?_⟩
 refine ⟨_,Os rfl,?_⟩
 exact cxs (Rt ⟨e10,b10,rfl,h10,hP7⟩)
theorem ac_spec_Lookup (s : SV) (id : Int) (st : St) (hR : RdS st s) (hb : bigS s.x) : C 218 [.agg #[vS s.p s.x.items.length,vS s.q s.x.floors.length],vI id] st (fun v s' => ∃ e b,v = .tuple #[.agg #[vI e.inc,vI e.rank,vI e.beat,vI e.ver,.string e.data],vB b] ∧ (e,b) = lookF s.x id ∧ Pres st s') := by
 refine AC.enterX (i := ⟨[2,4],[2,4],[0,1,2,4,5],[]⟩) [] Tryz.func218 rfl rfl (by kernel_rfl) (by kernel_rfl) Tryz.ntmps218 (Lb rfl) rfl ?_
 iterate 2 refine ⟨_,rfl,?_⟩
 refine Cm 2 st [(1,vI id),Ml 2 0,Ml 4 1,(5,vB false)] [(2,0,cSV s),(4,1,[vI 0,vI 0,vI 0,vI 0,.string ⟨#[]⟩])] fun _ _ => ?_
 refine ⟨_,Od rfl,?_⟩
 refine ⟨_,rfl,(ac_spec_View s st hR (by first | assumption | omega)).mono ?_⟩
 rintro _ s7 ⟨q7,rfl,hO7,hN7,hP7⟩
 refine ⟨_,rfl,?_⟩
 refine ⟨_,rfl,(ac_spec_EntryOf ⟨q7,none,⟨viewF s.x,[]⟩⟩ id s7 ⟨hO7.rows len_cItm,Rows.nil⟩ (view_big hb)).mono ?_⟩
 rintro _ s7 ⟨e10,b10,rfl,h10,rfl⟩
 iterate 2 refine ⟨_,rfl,?_⟩
 refine ⟨_,Os rfl,?_⟩
 exact cxs (Rt ⟨e10,b10,rfl,h10,hP7⟩)
end Go.Proofs.YtpnolkhfeliehaaGreat.AM
