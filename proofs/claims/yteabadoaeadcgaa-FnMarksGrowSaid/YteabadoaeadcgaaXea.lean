/- Part 1 of the texts on which the law's proof rests. -/
import Derived.Test.YteabadoaeadcgaaXad
namespace Go.Proofs.Yteabadoaeadcgaa.AM
open Go Go.Proofs
set_option linter.unusedVariables false
set_option linter.unusedSimpArgs false
theorem cb_eq : ∀ {a b : List UInt8},Lib.compareBytes a b = 0 → a = b
 | [],[],_ => rfl
 | [],b :: bs,h => by simp [Lib.compareBytes] at h
 | a :: l,[],h => by simp [Lib.compareBytes] at h
 | a :: l,b :: bs,h => by
  unfold Lib.compareBytes at h
  by_cases h1 : a < b
  ·simp [h1] at h
  ·by_cases h2 : b < a
   ·simp [h1,h2] at h
   ·simp [h1,h2] at h
    rw [UInt8.le_antisymm (UInt8.not_lt.1 h2) (UInt8.not_lt.1 h1),cb_eq h]
theorem entCmp_le (a b : Ent) : entCmp a b ≤ 0 ↔ (a.inc < b.inc ∨ (a.inc = b.inc ∧ (a.rank < b.rank ∨ (a.rank = b.rank ∧ (a.beat < b.beat ∨ (a.beat = b.beat ∧ (a.ver < b.ver ∨ (a.ver = b.ver ∧ cmpB a.data b.data ≤ 0)))))))) := by
 unfold entCmp firstNZ firstNZ firstNZ firstNZ firstNZ firstNZ cmpI
 repeat' split
 all_goals omega
theorem entCmp_eq {a b : Ent} (h : entCmp a b = 0) : a = b := by
 have h1 := (entCmp_le a b).1 (by omega)
 have h2 := (entCmp_le b a).1 (by rw [entCmp_neg]; omega)
 have hn : cmpB b.data a.data = - cmpB a.data b.data := compareBytes_neg _ _
 have hd : a.data = b.data := by
  have : cmpB a.data b.data = 0 := by omega
  have := cb_eq this
  obtain ⟨_,_,_,_,⟨⟨x⟩⟩⟩ := a
  obtain ⟨_,_,_,_,⟨⟨y⟩⟩⟩ := b
  simp only at this
  rw [this]
 obtain ⟨i,r,be,v,d⟩ := a
 obtain ⟨i2,r2,be2,v2,d2⟩ := b
 simp only at h1 h2 hn hd
 subst hd
 obtain ⟨rfl,rfl,rfl,rfl⟩ : i = i2 ∧ r = r2 ∧ be = be2 ∧ v = v2 := by omega
 rfl
theorem entMax_le {a b : Ent} (h : entCmp a b ≤ 0) : entMax a b = b := by
 unfold entMax
 split
 ·rfl
 ·exact entCmp_eq (by omega)
theorem entMax_ge {a b : Ent} (h : 0 ≤ entCmp a b) : entMax a b = a := by
 unfold entMax
 rw [if_neg (by omega)]
theorem entMax_or (a b : Ent) : entMax a b = a ∨ entMax a b = b := by unfold entMax; split; exact .inr rfl; exact .inl rfl
theorem entMax_inc (a b : Ent) : (entMax a b).inc = max a.inc b.inc := by
 rcases Int.le_total (entCmp a b) 0 with h | h
 ·have := (entCmp_le a b).1 h
  rw [entMax_le h]; omega
 ·have := (entCmp_le b a).1 (by rw [entCmp_neg]; omega)
  rw [entMax_ge h]; omega
def vE (e : Ent) : Prop := e = zEnt ∨ entOk e
theorem vE.max {a b : Ent} (h : vE a) (k : vE b) : vE (entMax a b) := by
 rcases entMax_or a b with e | e <;> rw [e] <;> assumption
theorem vE.inc {a : Ent} (h : vE a) : 0 ≤ a.inc := by
 rcases h with rfl | h
 ·exact Int.le_refl _
 ·have := h.1.1; omega
theorem vE.zero {a : Ent} (h : vE a) (h0 : a.inc ≤ 0) : a = zEnt := by
 rcases h with h | h
 ·exact h
 ·have := h.1.1; omega
def cut (f : Int) (e : Ent) : Ent := if e.inc > f then e else zEnt
theorem cut_z {f : Int} : cut f zEnt = zEnt := by unfold cut; split <;> rfl
theorem cut_inc {f : Int} {e : Ent} (h : cut f e ≠ zEnt) : cut f e = e ∧ e.inc > f := by
 unfold cut at h ⊢
 split
 ·rename_i h1; exact ⟨rfl,h1⟩
 ·rename_i h1; rw [if_neg h1] at h; exact absurd rfl h
def gE (s : Sta) (i : Int) : Ent := (entP s.items i).1
def gF (s : Sta) (i : Int) : Int := floorOf s.floors i
theorem gE_v {s : Sta} (h : stateOk s) (i : Int) : vE (gE s i) := entP_cases h.1 i
theorem gF_pos {s : Sta} (h : stateOk s) (i : Int) : 0 ≤ gF s i ∧ gF s i ≤ 1000 := floorOf_pos h.2 i
theorem gE_in {s : Sta} (h : stateOk s) (i : Int) : (entP s.items i).2 = true ↔ 1 ≤ (gE s i).inc := by
 unfold gE
 rcases hb : entP s.items i with ⟨e,b⟩
 cases b with
 | false => rw [entP_none (e := e) (id := i) hb.symm]; simp [zEnt]
 | true =>
  have := (ent_ok h (e := e) (id := i) hb.symm).1.1
  simp only [true_iff]; exact this
theorem gE_cut {s : Sta} (h : stateOk s) (i : Int) : cut (gF s i) (gE s i) = gE s i := by
 unfold gE gF
 rcases hb : entP s.items i with ⟨e,b⟩
 cases b with
 | false => rw [entP_none (e := e) (id := i) hb.symm]; exact cut_z
 | true =>
  obtain ⟨j,x,h1,h2,h3⟩ := entP_mem (e := e) (id := i) hb.symm
  have := (h.1 j x h1).2.2.1
  rw [h3,h2] at this
  unfold cut
  rw [if_pos this]
theorem entP_app (l m : List Itm) (i : Int) : entP (l ++ m) i = if (entP l i).2 = true then entP l i else entP m i := by
 induction l with
 | nil => rfl
 | cons x l ih =>
  rw [List.cons_append,entP,entP]
  by_cases h : x.id = i
  ·rw [if_pos h,if_pos h]; rfl
  ·rw [if_neg h,if_neg h]; exact ih
theorem entP_pick (c : Int → Prop) [DecidablePred c] (g : Int → Ent) (id : Nat) : ∀ n,entP ((List.range n).filterMap fun (j : Nat) => if c (j : Int) then some (⟨(j : Int),g (j : Int)⟩ : Itm) else none) (id : Int) = if id < n ∧ c (id : Int) then (g (id : Int),true) else (zEnt,false)
 | 0 => by simp [entP]
 | n + 1 => by
  rw [List.range_succ,List.filterMap_append,entP_app,entP_pick c g id n]
  by_cases h1 : id < n ∧ c (id : Int)
  ·rw [if_pos h1,if_pos rfl,if_pos ⟨by omega,h1.2⟩]
  ·rw [if_neg h1,if_neg (by simp)]
   by_cases hn : c (n : Int)
   ·simp only [List.filterMap_cons,List.filterMap_nil,hn,if_true,entP]
    by_cases h2 : n = id
    ·subst h2; rw [if_pos rfl,if_pos ⟨Nat.lt_succ_self _,hn⟩]
    ·rw [if_neg (by omega),if_neg (fun h => h1 ⟨by omega,h.2⟩)]
   ·simp only [List.filterMap_cons,List.filterMap_nil,hn,if_false,entP]
    rw [if_neg]
    rintro ⟨h3,h4⟩
    rcases Nat.lt_or_ge id n with h5 | h5
    ·exact h1 ⟨h5,h4⟩
    ·have : id = n := by omega
     subst this; exact hn h4
theorem gF_join {a b : Sta} (ha : stateOk a) (hb : stateOk b) {j : Nat} (h : j < 5) : gF (joinF a b 5) (j : Int) = max (gF a (j : Int)) (gF b (j : Int)) := floorOf_join ha.2 hb.2 h
theorem gE_join (a b : Sta) {j : Nat} (h : j < 5) : gE (joinF a b 5) (j : Int) = cut (max (gF a (j : Int)) (gF b (j : Int))) (entMax (gE a (j : Int)) (gE b (j : Int))) := by
 show (entP ((List.range 5).filterMap fun (j : Nat) => if (topE a b (j : Int)).inc > topF a b (j : Int) then some (⟨(j : Int),topE a b (j : Int)⟩ : Itm) else none) (j : Int)).1 = _
 rw [entP_pick (fun i => (topE a b i).inc > topF a b i) (fun i => topE a b i) j 5]
 unfold cut
 by_cases h1 : (topE a b (j : Int)).inc > topF a b (j : Int)
 ·rw [if_pos ⟨h,h1⟩]; exact (if_pos h1).symm
 ·rw [if_neg (fun k => h1 k.2)]; exact (if_neg h1).symm
theorem goneAt_eq {s : Sta} (h : stateOk s) (i : Int) : goneAt s i = if 1 ≤ (gE s i).inc then (if (gE s i).rank = 1 then (gE s i).inc else (gE s i).inc - 1) else gF s i := by
 unfold goneAt
 rw [if_pos h]
 by_cases h1 : (entP s.items i).2 = true
 ·rw [if_pos h1,if_pos ((gE_in h i).1 h1)]; rfl
 ·rw [if_neg h1,if_neg (fun k => h1 ((gE_in h i).2 k))]; rfl
end Go.Proofs.Yteabadoaeadcgaa.AM
namespace Go.Proofs.Yteabadoaeadcgaa.AM
open Go Go.Proofs
set_option linter.unusedVariables false
set_option linter.unusedSimpArgs false
set_option maxRecDepth 100000
set_option maxHeartbeats 4000000
theorem map_len {t u : List RV} (h : u.map (·.l) = t.map (·.l)) (hr : ∀ r ∈ t,szOk r.l.length) : u.length = t.length ∧ ∀ r ∈ u,szOk r.l.length := by
 have hl := congrArg List.length h
 simp only [List.length_map] at hl
 refine ⟨hl,fun r hm => ?_⟩
 have h2 : r.l ∈ t.map (·.l) := by rw [← h]; exact List.mem_map_of_mem hm
 obtain ⟨x,hx,he⟩ := List.mem_map.1 h2
 rw [← he]; exact hr x hx
theorem ac_impl_copyTable (p : Option Addr) (t : List RV) (st : St) (hR : RdT st p t) (hs : szOk t.length) (hr : ∀ r ∈ t,szOk r.l.length) : C 72 [vS p t.length] st (fun v s => ∃ q u,v = vS q t.length ∧ u.map (·.l) = t.map (·.l) ∧ OwnP s (pcT q u) ∧ NewP st.next (pcT q u) ∧ Pres st s) := by
 have hs : t.length ≤ 1048576 := hs
 refine AC.enterX (i := ⟨[],[],[0,2,3,5,7,8,9,10],[]⟩) [] Try.func72 rfl rfl (by kernel_rfl) (by kernel_rfl) Try.ntmps72 (Nat.le_of_ble_eq_true rfl) rfl ?_
 refine AW.cut lo0 st [(0,vS p t.length),(2,.slice none 0 0)] ⟨rfl,rfl,trivial⟩ fun ρ0 => ?_
 refine op_nilK (z := 1) (f := cRV) rfl rfl rfl rfl Nat.one_pos rfl ?_
 intro q0 s0 hO0 hP0 hN0
 refine AW.cut lo0 s0 [(0,vS p t.length),(2,.slice none 0 0),(3,vS q0 0)] ⟨rfl,rfl,rfl,trivial⟩ fun ρ0 => ?_
 refine ⟨_,rfl,?_⟩
 refine AW.cut lo0 s0 [(0,vS p t.length),(2,.slice none 0 0),(3,vS q0 0),(7,vS p t.length),(8,vI (t.length)),(9,vI (0))] ⟨rfl,rfl,rfl,rfl,rfl,rfl,trivial⟩ fun ρ0 => ?_
 refine AW.loop0 (fun x : List RV × Option Addr => [(0,vS p t.length),(3,vS x.2 x.1.length),(7,vS p t.length),(8,vI (t.length : Int)),(9,vI (x.1.length : Int))]) (fun m (x : List RV × Option Addr) st' => m = t.length - x.1.length ∧ x.1.length ≤ t.length ∧ x.1.map (·.l) = (t.take x.1.length).map (·.l) ∧ OwnP st' (pcT x.2 x.1) ∧ NewP st.next (pcT x.2 x.1) ∧ Pres st st') ([],q0) _ ⟨rfl,rfl,rfl,rfl,rfl,trivial⟩ rfl ⟨rfl,Nat.zero_le _,rfl,OwnP.one (own_pc hO0),NewP.cons hN0 NewP.nil,hP0⟩ ?_
 rintro m x ρ0 st' ⟨rfl,hi,hl,hO,hN,hP⟩
 refine ⟨_,rfl,?_⟩
 rintro (_|_) h1
 ·replace h1 : ¬ ((x.1.length : Int) < (t.length : Int)) := of_decide_eq_false h1
  refine AW.cut lo0 st' [(0,vS p t.length),(3,vS x.2 x.1.length),(7,vS p t.length),(8,vI (t.length : Int)),(9,vI (x.1.length : Int)),(10,vB false)] ⟨rfl,rfl,rfl,rfl,rfl,rfl,trivial⟩ fun ρ0 => ?_
  refine cxs ?_
  refine cxs ?_
  have hil : x.1.length = t.length := by omega
  exact ⟨.inl rfl,_,rfl,x.2,x.1,congrArg (vS x.2) hil,by rw [hl,hil,List.take_length],hO,hN,hP⟩
 ·replace h1 : (x.1.length : Int) < (t.length : Int) := of_decide_eq_true h1
  refine AW.cut lo0 st' [(0,vS p t.length),(3,vS x.2 x.1.length),(7,vS p t.length),(8,vI (t.length : Int)),(9,vI (x.1.length : Int)),(10,vB true)] ⟨rfl,rfl,rfl,rfl,rfl,rfl,trivial⟩ fun ρ0 => ?_
  have h1' := Int.ofNat_lt.1 h1
  have hRd := hR.pres hP
  have ⟨b1,o1,k1,r,hpe,hr1,hm1,hc1,hb1⟩ := hRd.1.atB h1'
  have hmem := List.mem_of_getElem? hr1
  have hrs : r.l.length ≤ 1048576 := hr r hmem
  obtain ⟨d1,d2,d3⟩ := split_at hr1
  refine cxs ?_
  refine ⟨_,op_idx (j := (x.1.length : Int)) (n := t.length) (q := ⟨b1,o1,none⟩) rfl (congrArg (fun u => vS u t.length) hpe) rfl rfl rfl (Int.natCast_nonneg _) h1,?_⟩
  refine ⟨_,op_ldc (i := 0) (v := vS r.p r.l.length) rfl rfl rfl rfl hm1 hc1 rfl rfl,?_⟩
  refine AW.cut lo0 st' [(0,vS p t.length),(3,vS x.2 x.1.length),(5,vS r.p r.l.length),(7,vS p t.length),(8,vI (t.length : Int)),(9,vI (x.1.length : Int)),(10,vB true)] ⟨rfl,rfl,rfl,rfl,rfl,rfl,rfl,trivial⟩ fun ρ0 => ?_
  refine ⟨_,rfl,(ac_impl_copyInts r.p r.l st' (hRd.2 r hmem).ints (by omega)).mono ?_⟩
  rintro _ s2 ⟨q2,rfl,hO2,hP2,hN2⟩
  have hO2 : OwnR s2 1 fI q2 r.l := Own.r.1 hO2
  refine op_one (z := 1) (a := (⟨q2,r.l⟩ : RV)) (f := cRV) rfl rfl rfl rfl rfl Nat.one_pos rfl (Nat.le_of_ble_eq_true rfl) rfl rfl rfl ?_
  refine op_add (z := 1) (st := s2) (f := cRV) (b := 24) (l := x.1) rfl rfl rfl rfl rfl rfl rfl Nat.one_pos cRV_len rfl rfl rfl (by omega) (by unfold maxLen; omega) (hP2.ownR hO.outer) ?_
  intro q4 s4 hO4 hP4 hN4
  refine AW.cut lo0 s4 [(0,vS p t.length),(3,vS q4 (x.1.length + 1)),(5,vS r.p r.l.length),(7,vS p t.length),(8,vI (t.length : Int)),(9,vI (x.1.length : Int)),(10,vB true)] ⟨rfl,rfl,rfl,rfl,rfl,rfl,rfl,trivial⟩ fun ρ0 => ?_
  have hA := OwnP.renew (l := []) (m := x.1.map pcRV ++ [pcRV ⟨q2,r.l⟩]) (c := pcR 1 cRV x.2 x.1) (OwnP.join (l := pcT x.2 x.1) (m := [pcRV ⟨q2,r.l⟩]) hO hP2 (OwnP.one (own_pc hO2)) (NewP.cons hN2 NewP.nil)) hP4 (own_pc hO4) hN4
  have hA : OwnP s4 (pcT q4 (x.1 ++ [⟨q2,r.l⟩])) := by simpa [pcT] using hA
  have e18 : IntKind.wrap .i64 ((x.1.length : Int) + 1) = ((x.1.length + 1 : Nat) : Int) := (wrap_i64 (by omega) (by omega)).trans (by omega)
  refine ⟨_,rfl,?_⟩
  refine ⟨(x.1 ++ [⟨q2,r.l⟩],q4),t.length - (x.1.length + 1),by omega,⟨rfl,?_,rfl,rfl,?_,trivial⟩,rfl,?_,?_,?_,hA,?_,?_⟩
  ·rw [List.length_append]; rfl
  ·rw [List.length_append]; exact congrArg (Value.int .i64) e18
  ·rw [List.length_append]; rfl
  ·rw [List.length_append]; exact h1'
  ·rw [List.map_append,hl,List.length_append,List.length_singleton,d2,List.map_append]; rfl
  ·refine NewP.cons (hN4.le (Nat.le_trans hP.1 hP2.1)) ?_
   rw [List.map_append]
   exact NewP.app (fun c hc => hN c (List.mem_cons_of_mem _ hc)) (NewP.cons (hN2.le hP.1) NewP.nil)
  ·exact hP4.pres (hP.trans hP2) (hN _ (List.mem_cons_self ..))
def addMarks (l : List Int) (ms : List Flr) : List Int := ms.foldl (fun r m => r.set m.id.toNat (max (r.getD m.id.toNat 0) m.inc)) l
theorem addMarks_len : ∀ (ms : List Flr) (l : List Int),(addMarks l ms).length = l.length
 | [],l => rfl
 | m :: ms,l => by
  have := addMarks_len ms (l.set m.id.toNat (max (l.getD m.id.toNat 0) m.inc))
  rw [List.length_set] at this
  exact this
theorem addMarks_snoc (l : List Int) (ms : List Flr) (m : Flr) : addMarks l (ms ++ [m]) = (addMarks l ms).set m.id.toNat (max ((addMarks l ms).getD m.id.toNat 0) m.inc) := by simp [addMarks]
def putT {α : Type} (t : List α) (K : Nat) (x : α) : List α := t.take K ++ x :: t.drop (K + 1)
open Classical in
noncomputable def tableAdd (t : List (List Int)) (k : Int) (ms : List Flr) : List (List Int) :=
 if (0 ≤ k ∧ k ≤ (t.length : Int) - 1) ∧ marksOk ms ∧ 5 ≤ (t.getD k.toNat []).length then putT t k.toNat (addMarks (t.getD k.toNat []) ms) else t
theorem putT_map {u : List RV} {K : Nat} {x : RV} : (putT u K x).map (·.l) = putT (u.map (·.l)) K x.l := by simp [putT,List.map_take,List.map_drop]
theorem putT_self {α : Type} {u : List α} {K : Nat} {x : α} (h : u[K]? = some x) : putT u K x = u := (split_at h).1.symm
theorem putT_get {α : Type} {u : List α} {K : Nat} {x : α} (h : K < u.length) : (putT u K x)[K]? = some x := by
 unfold putT
 rw [List.getElem?_append_right (by rw [List.length_take]; omega),List.length_take,show K - min K u.length = 0 by omega]
 rfl
theorem putT_len {α : Type} {u : List α} {K : Nat} {x : α} (h : K < u.length) : (putT u K x).length = u.length := by
 unfold putT
 rw [List.length_append,List.length_take,List.length_cons,List.length_drop]; omega
theorem OwnP.put {st st' : St} {q : Option Addr} {u : List RV} {K : Nat} {a : Option Addr} {l l' : List Int} (h : OwnP st (pcT q (putT u K ⟨a,l⟩))) (hp : Pr a st st') (ho : OwnR st' 1 fI a l') (hl : l'.length = l.length) : OwnP st' (pcT q (putT u K ⟨a,l'⟩)) := by
 have h1 : pcT q (putT u K ⟨a,l⟩) = (pcR 1 cRV q (putT u K ⟨a,l⟩) :: (u.take K).map pcRV) ++ pcRV ⟨a,l⟩ :: (u.drop (K + 1)).map pcRV := by simp [pcT,putT]
 have h2 : pcT q (putT u K ⟨a,l'⟩) = (pcR 1 cRV q (putT u K ⟨a,l⟩) :: (u.take K).map pcRV) ++ pcRV ⟨a,l'⟩ :: (u.drop (K + 1)).map pcRV := by simp [pcT,putT,pcR,hl]
 rw [h1] at h
 rw [h2]
 exact OwnP.update h hp (own_pc ho) rfl
theorem tableAdd_pos {t : List RV} {k : Int} {ms : List Flr} {r : RV} (h : t[k.toNat]? = some r) (hk : 0 ≤ k ∧ k ≤ (t.length : Int) - 1) (hm : marksOk ms) (h5 : 5 ≤ r.l.length) : tableAdd (t.map (·.l)) k ms = putT (t.map (·.l)) k.toNat (addMarks r.l ms) := by
 have hg : (t.map (·.l)).getD k.toNat [] = r.l := by rw [List.getD_eq_getElem?_getD,List.getElem?_map,h]; rfl
 rw [tableAdd,hg,if_pos ⟨by rw [List.length_map]; exact hk,hm,h5⟩]
theorem tableAdd_neg {t : List RV} {k : Int} {ms : List Flr} (h : ¬ (0 ≤ k ∧ k ≤ (t.length : Int) - 1) ∨ ¬ marksOk ms ∨ ∃ r,t[k.toNat]? = some r ∧ r.l.length < 5) : tableAdd (t.map (·.l)) k ms = t.map (·.l) := by
 rw [tableAdd,if_neg]
 rintro ⟨h1,h2,h3⟩
 rw [List.length_map] at h1
 rcases h with h | h | ⟨r,hr,h⟩
 ·exact h h1
 ·exact h h2
 ·rw [List.getD_eq_getElem?_getD,List.getElem?_map,hr] at h3
  exact absurd h3 (Nat.not_le.2 h)
theorem row_l {t u : List RV} {i : Nat} {r : RV} (h : u.map (·.l) = t.map (·.l)) (hr : t[i]? = some r) : ∃ a,u[i]? = some ⟨a,r.l⟩ := by
 have h1 : (u.map (·.l))[i]? = some r.l := by rw [h,List.getElem?_map,hr]; rfl
 rw [List.getElem?_map] at h1
 obtain ⟨y,hy,he⟩ := Option.map_eq_some_iff.1 h1
 exact ⟨y.p,by rw [hy,← he]⟩
theorem ac_impl_TableAdd (p pm : Option Addr) (t : List RV) (k : Int) (ms : List Flr) (st : St) (hR : RdT st p t) (hM : Rows st 2 cFlr pm ms) (hs : szOk t.length) (hr : ∀ r ∈ t,szOk r.l.length) (hms : szOk ms.length) : C 15 [vS p t.length,vI k,vS pm ms.length] st (fun v s => ∃ q u,v = vS q t.length ∧ u.length = t.length ∧ u.map (·.l) = tableAdd (t.map (·.l)) k ms ∧ OwnP s (pcT q u) ∧ NewP st.next (pcT q u) ∧ Pres st s) := by
 have hs : t.length ≤ 1048576 := hs
 have hms' : ms.length ≤ 1048576 := hms
 refine AC.enterX (i := ⟨[9],[9,42,48,52],[0,1,2,6,7,9,30,32,33,34,35],[]⟩) [(7,[],[])] Try.func15 rfl rfl (by kernel_rfl) (by kernel_rfl) Try.ntmps15 (Nat.le_of_ble_eq_true rfl) rfl ?_
 refine AW.cutM (0) st [(0,vS p t.length),(1,vI k),(2,vS pm ms.length),(6,.slice none 0 0)] [] ⟨rfl,rfl,rfl,rfl,trivial⟩ trivial rfl fun ρ0 ff => ?_
 refine ⟨_,rfl,(ac_impl_copyTable p t st hR hs hr).mono ?_⟩
 rintro _ s1 ⟨q,u0,rfl,hu,hO,hN,hP⟩
 refine AW.cutM (0) s1 [(0,vS p t.length),(1,vI k),(2,vS pm ms.length),(6,.slice none 0 0),(7,vS q t.length)] [] ⟨rfl,rfl,rfl,rfl,rfl,trivial⟩ trivial rfl fun ρ0 ff => ?_
 have e15 : IntKind.wrap .i64 ((t.length : Int) - 1) = (t.length : Int) - 1 := wrap_i64 (by omega) (by omega)
 have hul : u0.length = t.length := (map_len hu hr).1
 iterate 2 refine ⟨_,rfl,?_⟩
 refine ⟨_,rfl,(ac_impl_within k 0 _ s1).mono ?_⟩
 rintro _ s1 ⟨y,rfl,hk,rfl⟩
 rcases y with _|_
 ·replace hk := of_decide_eq_false hk.symm
  iterate 3 refine ⟨_,rfl,?_⟩
  refine AW.cutM (0) s1 [(1,vI k),(2,vS pm ms.length),(6,.slice none 0 0),(7,vS q t.length),(30,vB true)] [] ⟨rfl,rfl,rfl,rfl,rfl,trivial⟩ trivial rfl fun ρ0 ff => ?_
  refine cxs ?_
  exact ⟨.inl rfl,_,rfl,q,u0,rfl,hul,by rw [tableAdd_neg (.inl fun h => hk (by rw [e15]; exact h))]; exact hu,hO,hN,hP⟩
 ·replace hk := of_decide_eq_true hk.symm
  refine ⟨_,rfl,?_⟩
  replace hk : 0 ≤ k ∧ k ≤ IntKind.wrap .i64 ((t.length : Int) - 1) := hk
  rw [e15] at hk
  refine ⟨_,rfl,(ac_impl_MarksOk pm ms s1 (hP.rows hM) hms).mono ?_⟩
  rintro _ s1 ⟨y2,rfl,hmk,rfl⟩
  rcases y2 with _|_
  ·replace hmk := fun k => Bool.false_ne_true (hmk.2 k)
   iterate 3 refine ⟨_,rfl,?_⟩
   refine AW.cutM (0) s1 [(1,vI k),(2,vS pm ms.length),(6,.slice none 0 0),(7,vS q t.length),(30,vB true)] [] ⟨rfl,rfl,rfl,rfl,rfl,trivial⟩ trivial rfl fun ρ0 ff => ?_
   refine cxs ?_
   exact ⟨.inl rfl,_,rfl,q,u0,rfl,hul,by rw [tableAdd_neg (.inr (.inl hmk))]; exact hu,hO,hN,hP⟩
  ·replace hmk := hmk.1 rfl
   iterate 2 refine ⟨_,rfl,?_⟩
   have ⟨b1,o1,k1,r,hpe,hr1,hm1,hc1,hb1⟩ := (hR.pres hP).1.atB (j := k.toNat) (by omega)
   refine ⟨_,op_idx (j := k) (n := t.length) (q := ⟨b1,o1,none⟩) rfl (congrArg (fun u => vS u t.length) hpe) rfl rfl rfl hk.1 (by omega),?_⟩
   refine ⟨_,op_ldc (i := 0) (v := vS r.p r.l.length) rfl rfl rfl rfl hm1 hc1 rfl rfl,?_⟩
   iterate 2 refine ⟨_,rfl,?_⟩
   rintro (_|_) h5
   ·replace h5 : ¬ ((r.l.length : Int) < 5) := of_decide_eq_false h5
    refine ⟨_,rfl,?_⟩
    refine AW.cutM (0) s1 [(1,vI k),(2,vS pm ms.length),(6,.slice none 0 0),(7,vS q t.length),(30,vB false)] [] ⟨rfl,rfl,rfl,rfl,rfl,trivial⟩ trivial rfl fun ρ0 ff => ?_
    have ⟨qK,hqK⟩ := row_l hu hr1
    have hKu : k.toNat < u0.length := (List.getElem?_eq_some_iff.1 hqK).1
    have hself := putT_self hqK
    have hrs : r.l.length ≤ 1048576 := hr r (List.mem_of_getElem? hr1)
    refine cxs ?_
    refine ⟨_,rfl,?_⟩
    refine AW.cutM (0) s1 [(1,vI k),(6,.slice none 0 0),(7,vS q t.length),(32,vS pm ms.length),(33,vI (ms.length)),(34,vI (0))] [] ⟨rfl,rfl,rfl,rfl,rfl,rfl,trivial⟩ trivial rfl fun ρ0 ff => ?_
    refine AW.loopM (fun i : Nat => [(1,vI k),(7,vS q t.length),(32,vS pm ms.length),(33,vI (ms.length : Int)),(34,vI (i : Int))]) (fun i : Nat => []) (fun m (i : Nat) st' => m = ms.length - i ∧ i ≤ ms.length ∧ OwnP st' (pcT q (putT u0 k.toNat ⟨qK,addMarks r.l (ms.take i)⟩)) ∧ NewP st.next (pcT q (putT u0 k.toNat ⟨qK,addMarks r.l (ms.take i)⟩)) ∧ Pres st st') 0 _ ⟨rfl,rfl,rfl,rfl,rfl,trivial⟩ trivial ⟨rfl,Nat.zero_le _,(show OwnP s1 (pcT q (putT u0 k.toNat ⟨qK,r.l⟩)) by rw [hself]; exact hO),(show NewP st.next (pcT q (putT u0 k.toNat ⟨qK,r.l⟩)) by rw [hself]; exact hN),hP⟩ ?_
    rintro m i ρ0 ff gg st' ⟨rfl,hi,hO',hN',hP'⟩
    refine ⟨_,rfl,?_⟩
    rintro (_|_) h6
    ·replace h6 : ¬ ((i : Int) < (ms.length : Int)) := of_decide_eq_false h6
     refine AW.cutM (gg) st' [(1,vI k),(7,vS q t.length),(32,vS pm ms.length),(33,vI (ms.length : Int)),(34,vI (i : Int)),(35,vB false)] [] ⟨rfl,rfl,rfl,rfl,rfl,rfl,trivial⟩ trivial rfl fun ρ0 ff => ?_
     refine cxs ?_
     refine cxs ?_
     have hil : i = ms.length := by omega
     rw [hil,List.take_length] at hO' hN'
     exact ⟨.inl rfl,_,rfl,q,_,rfl,by rw [putT_len hKu]; exact hul,by rw [putT_map,hu,tableAdd_pos hr1 hk hmk (by omega)],hO',hN',hP'⟩
    ·replace h6 : (i : Int) < (ms.length : Int) := of_decide_eq_true h6
     refine AW.cutM (gg) st' [(1,vI k),(7,vS q t.length),(32,vS pm ms.length),(33,vI (ms.length : Int)),(34,vI (i : Int)),(35,vB true)] [] ⟨rfl,rfl,rfl,rfl,rfl,rfl,trivial⟩ trivial rfl fun ρ0 ff => ?_
     have h6' := Int.ofNat_lt.1 h6
     have hcl := addMarks_len (ms.take i) r.l
     have hKt : k.toNat < (putT u0 k.toNat (⟨qK,addMarks r.l (ms.take i)⟩ : RV)).length := by rw [putT_len hKu]; exact hKu
     have hgt := putT_get (x := (⟨qK,addMarks r.l (ms.take i)⟩ : RV)) hKu
     have ⟨b2,o2,k2,x,hpe2,hx,hm2,hc2,hb2⟩ := (hO'.outer.rows cRV_len).atB hKt
     have hxe : x = ⟨qK,addMarks r.l (ms.take i)⟩ := by rw [hgt] at hx; injection hx with hx; exact hx.symm
     have hc2 : (k2.cells.drop (o2 + k.toNat * 1)).take 1 = cRV ⟨qK,addMarks r.l (ms.take i)⟩ := by rw [hc2,hxe]
     have hrow := hO'.row (List.mem_of_getElem? hgt)
     have ⟨b3,o3,k3,mk,hpe3,hmk3,hm3,hc3,hb3⟩ := (hP'.rows hM).atB h6'
     have hid := (hmk i mk hmk3).1
     have ⟨b4,o4,k4,z,hpe4,hz,hm4,hc4,hb4⟩ := (hrow.rows fI_len).atB (j := mk.id.toNat) (by simp only; omega)
     have ⟨a,ha⟩ := hrow.some (by simp only; omega)
     simp only at hpe4 ha
     refine cxs ?_
     refine ⟨_,op_idx (j := (i : Int)) (n := ms.length) (q := ⟨b3,o3,none⟩) rfl (congrArg (fun u => vS u ms.length) hpe3) rfl rfl rfl (Int.natCast_nonneg _) h6,?_⟩
     refine ⟨_,op_lda rfl rfl rfl rfl rfl hm3 hc3 rfl,?_⟩
     refine ⟨_,rfl,?_⟩
     refine ⟨_,op_sto rfl rfl rfl rfl rfl rfl rfl,?_⟩
     refine AW.cutM (gg + 1) st' [(1,vI k),(7,vS q t.length),(9,vL 9 0 (gg)),(32,vS pm ms.length),(33,vI (ms.length : Int)),(34,vI (i : Int)),(35,vB true)] [(9,gg,[vI mk.id,vI mk.inc])] ⟨rfl,rfl,rfl,rfl,rfl,rfl,rfl,trivial⟩ ⟨rfl,trivial⟩ rfl fun ρ0 ff => ?_
     refine ⟨_,op_idx (j := k) (n := t.length) (q := ⟨b2,o2,none⟩) rfl (congrArg (fun u => vS u t.length) hpe2) rfl rfl rfl hk.1 (by omega),?_⟩
     refine ⟨_,op_ldc (i := 0) rfl rfl rfl rfl hm2 hc2 rfl rfl,?_⟩
     refine ⟨_,rfl,?_⟩
     refine ⟨_,op_ldo rfl rfl rfl rfl,?_⟩
     refine ⟨_,op_idx (j := k) (n := t.length) (q := ⟨b2,o2,none⟩) rfl (congrArg (fun u => vS u t.length) hpe2) rfl rfl rfl hk.1 (by omega),?_⟩
     refine ⟨_,op_ldc (i := 0) rfl rfl rfl rfl hm2 hc2 rfl rfl,?_⟩
     refine ⟨_,rfl,?_⟩
     refine ⟨_,op_ldo rfl rfl rfl rfl,?_⟩
     refine ⟨_,op_idx (j := mk.id) (n := (addMarks r.l (ms.take i)).length) (q := ⟨b4,o4,none⟩) rfl (congrArg (fun u => vS u (addMarks r.l (ms.take i)).length) hpe4) rfl rfl rfl hid.1 (by omega),?_⟩
     refine ⟨_,op_ldc (i := 0) rfl rfl rfl rfl hm4 hc4 rfl rfl,?_⟩
     refine ⟨_,rfl,?_⟩
     refine ⟨_,op_ldo rfl rfl rfl rfl,?_⟩
     refine ⟨.int .i64 (max z mk.inc),ammL_max _ _,?_⟩
     refine ⟨_,op_idx (j := mk.id) (n := (addMarks r.l (ms.take i)).length) (q := ⟨a,0,none⟩) rfl (congrArg (fun u => vS u (addMarks r.l (ms.take i)).length) ha) rfl rfl rfl hid.1 (by omega),?_⟩
     refine op_put (z := 1) (st := st') (f := fI) (j := mk.id.toNat) (l := addMarks r.l (ms.take i)) (y := max z mk.inc) (p := qK) (d := 0 + mk.id.toNat * 1) rfl rfl (Nat.zero_add _) rfl rfl fI_len rfl rfl (by omega) hrow ha ?_
     intro s5 hO5 hP5 hn5
     refine AW.cutM (gg + 1) s5 [(1,vI k),(7,vS q t.length),(9,vL 9 0 (gg)),(32,vS pm ms.length),(33,vI (ms.length : Int)),(34,vI (i : Int)),(35,vB true)] [(9,gg,[vI mk.id,vI mk.inc])] ⟨rfl,rfl,rfl,rfl,rfl,rfl,rfl,trivial⟩ ⟨rfl,trivial⟩ rfl fun ρ0 ff => ?_
     have hstep : (addMarks r.l (ms.take i)).set mk.id.toNat (max z mk.inc) = addMarks r.l (ms.take (i + 1)) := by rw [(split_at hmk3).2.1,addMarks_snoc,getD_of hz]
     rw [hstep] at hO5
     have hN5 : New st.next qK := hN' (pcRV ⟨qK,addMarks r.l (ms.take i)⟩) (List.mem_cons_of_mem _ (List.mem_map_of_mem (List.mem_of_getElem? hgt)))
     have hOP := hO'.put hP5 hO5 (by rw [addMarks_len,addMarks_len])
     have e56 : IntKind.wrap .i64 ((i : Int) + 1) = ((i + 1 : Nat) : Int) := (wrap_i64 (by omega) (by omega)).trans (by omega)
     refine ⟨_,rfl,?_⟩
     refine ⟨i + 1,ms.length - (i + 1),by omega,⟨rfl,rfl,rfl,rfl,congrArg (Value.int .i64) e56,trivial⟩,trivial,rfl,h6',hOP,fun c hc => ?_,hP5.pres hP' hN5⟩
     rcases List.mem_cons.1 hc with rfl | hc
     ·exact (hN' (pcR 1 cRV q (putT u0 k.toNat ⟨qK,addMarks r.l (ms.take i)⟩)) (List.mem_cons_self ..) : New st.next q)
     ·obtain ⟨y,hy,rfl⟩ := List.mem_map.1 hc
      rcases List.mem_append.1 hy with hy | hy
      ·exact hN' (pcRV y) (List.mem_cons_of_mem _ (List.mem_map_of_mem (List.mem_append_left _ hy)))
      ·rcases List.mem_cons.1 hy with rfl | hy
       ·exact hN5
       ·exact hN' (pcRV y) (List.mem_cons_of_mem _ (List.mem_map_of_mem (List.mem_append_right _ (List.mem_cons_of_mem _ hy))))
   ·replace h5 : (r.l.length : Int) < 5 := of_decide_eq_true h5
    refine ⟨_,rfl,?_⟩
    refine AW.cutM (0) s1 [(1,vI k),(2,vS pm ms.length),(6,.slice none 0 0),(7,vS q t.length),(30,vB true)] [] ⟨rfl,rfl,rfl,rfl,rfl,trivial⟩ trivial rfl fun ρ0 ff => ?_
    refine cxs ?_
    exact ⟨.inl rfl,_,rfl,q,u0,rfl,hul,by rw [tableAdd_neg (.inr (.inr ⟨r,hr1,by omega⟩))]; exact hu,hO,hN,hP⟩
theorem mem_ps {q : Option Addr} {t : List RV} {p : Option Addr} (h : p ∈ t.map (·.p)) : ∃ c ∈ pcT q t,c.p = p := by
 obtain ⟨r,hr,rfl⟩ := List.mem_map.1 h
 exact ⟨pcRV r,List.mem_cons_of_mem _ (List.mem_map_of_mem hr),rfl⟩
theorem OwnP.after {st0 s s' : St} {l : List Pc} {q : Option Addr} {t : List RV} {n : Nat} (h : OwnP s l) (h0 : OwnP st0 l) (hn : st0.next ≤ n) (hN : NewP n (pcT q t)) (hL : PrL (t.map (·.p)) s s') : OwnP s' l :=
 h.prl hL fun c hc p hp => by
  obtain ⟨d,hd,rfl⟩ := mem_ps (q := q) hp
  exact (Dis.of (((h0.1 c hc).old).le hn) (hN d hd)).symm
theorem OwnP.before {st0 s s' : St} {l : List Pc} {q : Option Addr} {t : List RV} {n : Nat} (h : OwnP s l) (hN : NewP n l) (h0 : OwnP st0 (pcT q t)) (hn : st0.next ≤ n) (hL : PrL (t.map (·.p)) s s') : OwnP s' l :=
 h.prl hL fun c hc p hp => by
  obtain ⟨d,hd,rfl⟩ := mem_ps (q := q) hp
  exact Dis.of (((h0.1 d hd).old).le hn) (hN c hc)
theorem tableAdd_lens (T : List (List Int)) (k : Int) (ms : List Flr) : (tableAdd T k ms).map List.length = T.map List.length := by
 unfold tableAdd
 split
 ·rename_i h
  have hK : k.toNat < T.length := by omega
  have hg : T.getD k.toNat [] = T[k.toNat] := by rw [List.getD_eq_getElem?_getD,List.getElem?_eq_getElem hK]; rfl
  conv => rhs; rw [(split_at (List.getElem?_eq_getElem hK)).1]
  rw [putT,hg,List.map_append,List.map_append,List.map_cons,List.map_cons,addMarks_len]
 ·rfl
theorem rows_lens {t u : List RV} (h : (u.map (·.l)).map List.length = (t.map (·.l)).map List.length) (hr : ∀ r ∈ t,szOk r.l.length) : ∀ r ∈ u,szOk r.l.length := fun r hm => by
 have h2 : r.l.length ∈ (u.map (·.l)).map List.length := List.mem_map_of_mem (List.mem_map_of_mem hm)
 rw [h] at h2
 obtain ⟨l,hl,he⟩ := List.mem_map.1 h2
 obtain ⟨x,hx,rfl⟩ := List.mem_map.1 hl
 rw [← he]; exact hr x hx
end Go.Proofs.Yteabadoaeadcgaa.AM
namespace Go.Proofs.Yteabadoaeadcgaa.AM
open Go Go.Proofs
set_option linter.unusedVariables false
set_option linter.unusedSimpArgs false
theorem rls_get {t : List RV} {i : Nat} {r : RV} (h : t[i]? = some r) : (t.map (·.l))[i]? = some r.l := by rw [List.getElem?_map,h]; rfl
def gon (f : Int) (e : Ent) : Int := if 1 ≤ e.inc then (if e.rank = 1 then e.inc else e.inc - 1) else f
theorem goneAt_gon {s : Sta} (h : stateOk s) (i : Int) : goneAt s i = gon (gF s i) (gE s i) := goneAt_eq h i
theorem vE.rank {e : Ent} (h : vE e) (h1 : 1 ≤ e.inc) : 0 ≤ e.rank ∧ e.rank ≤ 1 := by
 rcases h with rfl | h
 ·simp [zEnt] at h1
 ·exact h.2.1
theorem gon_rng {f : Int} {e : Ent} (hf : 0 ≤ f) (he : vE e) (hc : cut f e = e) : f ≤ gon f e ∧ gon f e ≤ max f e.inc ∧ (1 ≤ e.inc → e.inc - 1 ≤ gon f e ∧ f < e.inc) := by
 have h0 := he.inc
 by_cases h1 : 1 ≤ e.inc
 ·have hi : e.inc > f := (cut_inc (f := f) (e := e) (by rw [hc]; rintro rfl; simp [zEnt] at h1)).2
  unfold gon
  rw [if_pos h1]
  split <;> omega
 ·unfold gon
  rw [if_neg h1]
  omega
theorem gon_join {f g : Int} {a b : Ent} (hf : 0 ≤ f) (hg : 0 ≤ g) (va : vE a) (vb : vE b) (ca : cut f a = a) (cb : cut g b = b) : gon (max f g) (cut (max f g) (entMax a b)) = max (gon f a) (gon g b) := by
 obtain ⟨a1,a2,a3⟩ := gon_rng hf va ca
 obtain ⟨b1,b2,b3⟩ := gon_rng hg vb cb
 have hm := entMax_inc a b
 have ha0 := va.inc
 have hb0 := vb.inc
 by_cases h : (entMax a b).inc > max f g
 ·have hcut : cut (max f g) (entMax a b) = entMax a b := if_pos h
  rw [hcut]
  have key : ∀ (f g : Int) (a b : Ent),vE a → vE b → entCmp b a ≤ 0 → f < a.inc → g < a.inc → 0 ≤ f → 0 ≤ g → cut g b = b → gon g b ≤ gon f a := by
   intro f g a b va vb hle h1 h2 h3 h4 cb
   have hk := (entCmp_le b a).1 hle
   obtain ⟨b1,b2,b3⟩ := gon_rng h4 vb cb
   have ra := va.rank (by omega)
   unfold gon
   rw [if_pos (show 1 ≤ a.inc by omega)]
   by_cases hb : 1 ≤ b.inc
   ·have rb := vb.rank hb
    rw [if_pos hb]
    split <;> split <;> omega
   ·rw [if_neg hb]
    split <;> omega
  have e1 : ∀ (f' : Int) (e : Ent),1 ≤ e.inc → gon f' e = gon (max f g) e := fun f' e he => by unfold gon; rw [if_pos he,if_pos he]
  rcases Int.le_total (entCmp a b) 0 with hle | hle
  ·rw [entMax_le hle] at h ⊢
   have := key g f b a vb va hle (by omega) (by omega) hg hf ca
   rw [← e1 g b (by omega)]
   omega
  ·rw [entMax_ge hle] at h ⊢
   have := key f g a b va vb (by rw [entCmp_neg]; omega) (by omega) (by omega) hf hg cb
   rw [← e1 f a (by omega)]
   omega
 ·have hcut : cut (max f g) (entMax a b) = zEnt := if_neg h
  rw [hcut]
  have e0 : gon (max f g) zEnt = max f g := by unfold gon; rw [if_neg (by simp [zEnt])]
  rw [e0]
  omega
theorem gone_join {a b : Sta} (ha : stateOk a) (hb : stateOk b) {j : Nat} (h : j < 5) : goneAt (joinF a b 5) (j : Int) = max (goneAt a (j : Int)) (goneAt b (j : Int)) := by
 rw [goneAt_gon (stateOk_join ha hb),goneAt_gon ha,goneAt_gon hb,gE_join a b h,gF_join ha hb h]
 exact gon_join (gF_pos ha _).1 (gF_pos hb _).1 (gE_v ha _) (gE_v hb _) (gE_cut ha _) (gE_cut hb _)
theorem addMarks_F (g : Int → Int) (l : List Int) (hl : l.length = 5) (j : Nat) : ∀ n,n ≤ 5 → (addMarks l (marksF g n)).getD j 0 = if j < n ∧ g (j : Int) > 0 then max (l.getD j 0) (g (j : Int)) else l.getD j 0
 | 0,_ => by simp [marksF,addMarks]
 | n + 1,hn => by
  have ih := addMarks_F g l hl j n (by omega)
  have hlen : (addMarks l (marksF g n)).length = 5 := by rw [addMarks_len]; exact hl
  rw [marksF_succ]
  by_cases hg : g (n : Int) > 0
  ·rw [if_pos hg,addMarks_snoc]
   simp only [Int.toNat_natCast]
   by_cases hj : n = j
   ·subst hj
    rw [List.getD_eq_getElem?_getD,List.getElem?_set_self (by omega)]
    simp only [Option.getD_some]
    rw [ih,if_neg (by omega),if_pos ⟨Nat.lt_succ_self _,hg⟩]
   ·rw [List.getD_eq_getElem?_getD,List.getElem?_set_ne hj,← List.getD_eq_getElem?_getD,ih]
    by_cases h1 : j < n ∧ g (j : Int) > 0
    ·rw [if_pos h1,if_pos ⟨by omega,h1.2⟩]
    ·rw [if_neg h1,if_neg (fun h => h1 ⟨by omega,h.2⟩)]
  ·rw [if_neg hg,ih]
   by_cases h1 : j < n ∧ g (j : Int) > 0
   ·rw [if_pos h1,if_pos ⟨by omega,h1.2⟩]
   ·rw [if_neg h1,if_neg]
    rintro ⟨h2,h3⟩
    rcases Nat.lt_or_ge j n with h4 | h4
    ·exact h1 ⟨h4,h3⟩
    ·have : j = n := by omega
     subst this; exact hg h3
theorem addMarks_max {g : Int → Int} {l : List Int} (hl : l.length = 5) {j : Nat} (hj : j < 5) (h0 : 0 ≤ l.getD j 0) : (addMarks l (marksF g 5)).getD j 0 = max (l.getD j 0) (g (j : Int)) := by
 rw [addMarks_F g l hl j 5 (Nat.le_refl _)]
 split
 ·rfl
 ·rename_i h
  have : ¬ g (j : Int) > 0 := fun k => h ⟨hj,k⟩
  omega
theorem tableAdd_single {l : List Int} {ms : List Flr} (hl : l.length = 5) (hm : marksOk ms) : tableAdd [l] 0 ms = [addMarks l ms] := by
 unfold tableAdd
 rw [if_pos ⟨by simp,hm,by simp [hl]⟩]
 rfl
theorem common_single {l : List Int} {j : Nat} (hj : j < l.length) : common [l] (j : Int) = l.getD j 0 := by
 unfold common commonGo commonGo
 rw [if_pos (by omega),if_pos (.inl rfl),Int.toNat_natCast]
theorem marks_ok {s : Sta} (h : stateOk s) : marksOk (marksF (goneAt s) 5) := marksOk_F fun i => (goneAt_le h i).2
end Go.Proofs.Yteabadoaeadcgaa.AM
namespace Go.Proofs.Yteabadoaeadcgaa.AM
open Go Go.Proofs
set_option linter.unusedVariables false
set_option linter.unusedSimpArgs false
set_option maxRecDepth 100000
set_option maxHeartbeats 4000000
theorem zRow_get {j : Nat} (h : j < 5) : zRow.getD j 0 = 0 := by
 rw [List.getD_eq_getElem?_getD,List.getElem?_replicate]
 split <;> rfl
theorem joinP_ok {a b x : Sta} (h : (x,true) = joinP a b) : stateOk a ∧ stateOk b ∧ x = joinF a b 5 := by
 unfold joinP at h
 split at h
 ·rename_i hk; injection h with h _; exact ⟨hk.1,hk.2,h⟩
 ·injection h with _ h; cases h
theorem row_single {t : List RV} {r : RV} {l : List Int} (h : t.map (·.l) = [l]) (hr : t[0]? = some r) : r.l = l := by
 have := rls_get hr
 rw [h] at this
 injection this with this
 exact this.symm
theorem len_single {t : List RV} {l : List Int} (h : t.map (·.l) = [l]) : t.length = 1 := by
 have := congrArg List.length h
 rwa [List.length_map] at this
theorem ac_laws_FnMarksGrow (p : Option Addr) (bs : List Int) (st : St) (hI : Ints st .u8 p bs) : C 4 [vS p bs.length] st (fun v s => v = vB true) := by
 refine AC.enterX (i := ⟨[3,4,5,7],[3,4,5,7],[0,2,3,4,5,6,8,9,10,11,13,33,35,69,71,110],[]⟩) [(10,[0],[1]),(12,[0],[1]),(18,[22,28],[16,19,31,34])] Try.func4 rfl rfl (by kernel_rfl) (by kernel_rfl) Try.ntmps4 (Nat.le_of_ble_eq_true rfl) rfl ?_
 refine AW.cutM (0) st [(0,vS p bs.length),(2,vB false)] [] ⟨rfl,rfl,trivial⟩ trivial rfl fun ρ0 ff => ?_
 refine ⟨_,rfl,(ac_laws_big p bs.length st).mono ?_⟩
 rintro _ st ⟨x13,rfl,h13,rfl⟩
 rcases x13 with _|_
 ·replace h13 := of_decide_eq_false h13.symm
  refine AW.cutM (0) st [(0,vS p bs.length),(2,vB false),(13,vB false)] [] ⟨rfl,rfl,rfl,trivial⟩ trivial rfl fun ρ0 ff => ?_
  refine cxs ?_
  refine ⟨_,rfl,(ac_spec_DrawStateJoin p bs st hI (by first | assumption | omega)).mono ?_⟩
  rintro _ s16 ⟨u16,w16,rfl,h16,h16',hF16⟩
  iterate 4 refine ⟨_,rfl,?_⟩
  refine ⟨_,op_sto rfl rfl rfl rfl rfl rfl rfl,?_⟩
  refine ⟨_,op_sto rfl rfl rfl rfl rfl rfl rfl,?_⟩
  refine AW.cutM (2) s16 [(2,vB false),(3,vL 3 0 (0)),(4,vL 4 0 (1))] [(3,0,[vS u16.p u16.x.items.length,vS u16.q u16.x.floors.length]),(4,1,[vS w16.p w16.x.items.length,vS w16.q w16.x.floors.length])] ⟨rfl,rfl,rfl,trivial⟩ ⟨rfl,rfl,trivial⟩ rfl fun ρ0 ff => ?_
  have hb16 := h16.big (by decide)
  have hbw16 := h16'.big (by decide)
  refine ⟨_,op_ldo rfl rfl rfl rfl,?_⟩
  refine ⟨_,op_ldo rfl rfl rfl rfl,?_⟩
  refine ⟨_,rfl,(ac_impl_StateJoin u16 w16 s16 (hF16.1.left.rdS) (hF16.1.right.rdS) (by first | assumption | omega) (by first | assumption | omega)).mono ?_⟩
  rintro _ s22 ⟨u22,b22,rfl,h22,hO22,hN22,hP22⟩
  rcases b22 with _|_
  ·iterate 3 refine ⟨_,rfl,?_⟩
   refine ⟨_,op_sto rfl rfl rfl rfl rfl rfl rfl,?_⟩
   refine AW.cutM (3) s22 [(2,vB false),(3,vL 3 0 (0)),(4,vL 4 0 (1)),(5,vL 5 0 (2)),(6,vB false)] [(3,0,[vS u16.p u16.x.items.length,vS u16.q u16.x.floors.length]),(4,1,[vS w16.p w16.x.items.length,vS w16.q w16.x.floors.length]),(5,2,[vS u22.p u22.x.items.length,vS u22.q u22.x.floors.length])] ⟨rfl,rfl,rfl,rfl,rfl,trivial⟩ ⟨rfl,rfl,rfl,trivial⟩ rfl fun ρ0 ff => ?_
   refine ⟨_,op_ldo rfl rfl rfl rfl,?_⟩
   refine ⟨_,op_ldo rfl rfl rfl rfl,?_⟩
   refine ⟨_,rfl,(ac_spec_StateJoin u16 w16 s22 (hF16.1.left.rdS.pres hP22) (hF16.1.right.rdS.pres hP22) hb16 hbw16).mono ?_⟩
   rintro _ s28 ⟨u28,b28,rfl,h28,hO28,hN28,hP28⟩
   iterate 3 refine ⟨_,rfl,?_⟩
   refine ⟨_,op_sto rfl rfl rfl rfl rfl rfl rfl,?_⟩
   refine AW.cutM (4) s28 [(2,vB false),(3,vL 3 0 (0)),(4,vL 4 0 (1)),(5,vL 5 0 (2)),(6,vB false),(8,vB b28)] [(3,0,[vS u16.p u16.x.items.length,vS u16.q u16.x.floors.length]),(4,1,[vS w16.p w16.x.items.length,vS w16.q w16.x.floors.length]),(5,2,[vS u22.p u22.x.items.length,vS u22.q u22.x.floors.length])] ⟨rfl,rfl,rfl,rfl,rfl,rfl,trivial⟩ ⟨rfl,rfl,rfl,trivial⟩ rfl fun ρ0 ff => ?_
   refine ⟨_,rfl,?_⟩
   rintro (_|_) h33
   rotate_left
   ·exact absurd ((congrArg Prod.snd (h22.trans h28.symm))) (b_ne h33)
   refine AW.cutM (4) s28 [(2,vB false),(3,vL 3 0 (0)),(4,vL 4 0 (1)),(5,vL 5 0 (2)),(6,vB false),(33,vB false)] [(3,0,[vS u16.p u16.x.items.length,vS u16.q u16.x.floors.length]),(4,1,[vS w16.p w16.x.items.length,vS w16.q w16.x.floors.length]),(5,2,[vS u22.p u22.x.items.length,vS u22.q u22.x.floors.length])] ⟨rfl,rfl,rfl,rfl,rfl,rfl,trivial⟩ ⟨rfl,rfl,rfl,trivial⟩ rfl fun ρ0 ff => ?_
   refine cxs ?_
   refine ⟨_,rfl,?_⟩
   refine AW.cutM (4) s28 [(2,vB false),(3,vL 3 0 (0)),(4,vL 4 0 (1)),(5,vL 5 0 (2)),(35,vB true)] [(3,0,[vS u16.p u16.x.items.length,vS u16.q u16.x.floors.length]),(4,1,[vS w16.p w16.x.items.length,vS w16.q w16.x.floors.length]),(5,2,[vS u22.p u22.x.items.length,vS u22.q u22.x.floors.length])] ⟨rfl,rfl,rfl,rfl,rfl,trivial⟩ ⟨rfl,rfl,rfl,trivial⟩ rfl fun ρ0 ff => ?_
   refine cxs ?_
   exact ⟨.inl rfl,_,rfl,rfl⟩
  ·iterate 3 refine ⟨_,rfl,?_⟩
   refine ⟨_,op_sto rfl rfl rfl rfl rfl rfl rfl,?_⟩
   refine AW.cutM (3) s22 [(2,vB false),(3,vL 3 0 (0)),(4,vL 4 0 (1)),(5,vL 5 0 (2)),(6,vB true)] [(3,0,[vS u16.p u16.x.items.length,vS u16.q u16.x.floors.length]),(4,1,[vS w16.p w16.x.items.length,vS w16.q w16.x.floors.length]),(5,2,[vS u22.p u22.x.items.length,vS u22.q u22.x.floors.length])] ⟨rfl,rfl,rfl,rfl,rfl,trivial⟩ ⟨rfl,rfl,rfl,trivial⟩ rfl fun ρ0 ff => ?_
   refine ⟨_,op_ldo rfl rfl rfl rfl,?_⟩
   refine ⟨_,op_ldo rfl rfl rfl rfl,?_⟩
   refine ⟨_,rfl,(ac_spec_StateJoin u16 w16 s22 (hF16.1.left.rdS.pres hP22) (hF16.1.right.rdS.pres hP22) hb16 hbw16).mono ?_⟩
   rintro _ s28 ⟨u28,b28,rfl,h28,hO28,hN28,hP28⟩
   iterate 3 refine ⟨_,rfl,?_⟩
   refine ⟨_,op_sto rfl rfl rfl rfl rfl rfl rfl,?_⟩
   refine AW.cutM (4) s28 [(2,vB false),(3,vL 3 0 (0)),(4,vL 4 0 (1)),(5,vL 5 0 (2)),(6,vB true),(8,vB b28)] [(3,0,[vS u16.p u16.x.items.length,vS u16.q u16.x.floors.length]),(4,1,[vS w16.p w16.x.items.length,vS w16.q w16.x.floors.length]),(5,2,[vS u22.p u22.x.items.length,vS u22.q u22.x.floors.length])] ⟨rfl,rfl,rfl,rfl,rfl,rfl,trivial⟩ ⟨rfl,rfl,rfl,trivial⟩ rfl fun ρ0 ff => ?_
   refine ⟨_,rfl,?_⟩
   rintro (_|_) h33
   rotate_left
   ·exact absurd ((congrArg Prod.snd (h22.trans h28.symm))) (b_ne h33)
   refine AW.cutM (4) s28 [(2,vB false),(3,vL 3 0 (0)),(4,vL 4 0 (1)),(5,vL 5 0 (2)),(6,vB true),(33,vB false)] [(3,0,[vS u16.p u16.x.items.length,vS u16.q u16.x.floors.length]),(4,1,[vS w16.p w16.x.items.length,vS w16.q w16.x.floors.length]),(5,2,[vS u22.p u22.x.items.length,vS u22.q u22.x.floors.length])] ⟨rfl,rfl,rfl,rfl,rfl,rfl,trivial⟩ ⟨rfl,rfl,rfl,trivial⟩ rfl fun ρ0 ff => ?_
   refine cxs ?_
   refine ⟨_,rfl,?_⟩
   refine AW.cutM (4) s28 [(2,vB false),(3,vL 3 0 (0)),(4,vL 4 0 (1)),(5,vL 5 0 (2)),(35,vB false)] [(3,0,[vS u16.p u16.x.items.length,vS u16.q u16.x.floors.length]),(4,1,[vS w16.p w16.x.items.length,vS w16.q w16.x.floors.length]),(5,2,[vS u22.p u22.x.items.length,vS u22.q u22.x.floors.length])] ⟨rfl,rfl,rfl,rfl,rfl,trivial⟩ ⟨rfl,rfl,rfl,trivial⟩ rfl fun ρ0 ff => ?_
   have ⟨hka,hkb,hxj⟩ := joinP_ok h22
   have hkj : stateOk u22.x := by rw [hxj]; exact stateOk_join hka hkb
   have hbj := big_ok hkj
   refine cxs ?_
   refine ⟨_,rfl,(ac_impl_TableNew 1 s28).mono ?_⟩
   rintro _ s36 ⟨p36,t36,rfl,hO36,hN36,hP36,h36⟩
   refine ⟨hP36.2,?_⟩
   refine ⟨_,op_ldo rfl rfl rfl rfl,?_⟩
   refine ⟨ld_own rfl rfl rfl,?_⟩
   refine ⟨_,rfl,(ac_impl_MarksOf u16 s36 ((hF16.1.left.rdS).pres ((hP22.trans hP28).trans hP36)) (by first | assumption | omega)).mono ?_⟩
   rintro _ s38 ⟨q38,rfl,hO38,hP38,hN38⟩
   have hs36 : szOk t36.length := Nat.le_trans (tnew_rows h36).1 (by decide)
   have hr36 : ∀ r ∈ t36,szOk r.l.length := fun r hr => by rw [(tnew_rows h36).2.1 r hr]; unfold szOk; omega
   have hm38 := szm (goneAt u16.x)
   refine ⟨_,rfl,(ac_impl_TableAdd p36 q38 t36 0 (marksF (goneAt u16.x) 5) s38 (hO36.rdT.pres hP38) (hO38.rows len_cFlr) hs36 hr36 hm38).mono ?_⟩
   rintro _ s39 ⟨q39,u39,rfl,h39,h39',hO39,hN39,hP39⟩
   refine AW.cutM (4) s39 [(2,vB false),(4,vL 4 0 (1)),(5,vL 5 0 (2)),(9,vS q39 u39.length)] [(4,1,[vS w16.p w16.x.items.length,vS w16.q w16.x.floors.length]),(5,2,[vS u22.p u22.x.items.length,vS u22.q u22.x.floors.length])] ⟨rfl,rfl,rfl,congrArg (vS q39) h39.symm,trivial⟩ ⟨rfl,rfl,trivial⟩ rfl fun ρ0 ff => ?_
   have hl39 : u39.map (·.l) = [addMarks zRow (marksF (goneAt u16.x) 5)] := by rw [h39',h36]; exact tableAdd_single rfl (marks_ok hka)
   have hs39 : szOk u39.length := by rw [len_single hl39]; unfold szOk; omega
   have hr39 : ∀ r ∈ u39,szOk r.l.length := rows_lens (by rw [h39']; exact tableAdd_lens _ _ _) hr36
   have hR39 := hO39.rdT
   have hm42 := szm (goneAt w16.x)
   refine ⟨_,op_ldo rfl rfl rfl rfl,?_⟩
   refine ⟨_,rfl,(ac_impl_MarksOf w16 s39 ((hF16.1.right.rdS).pres ((((hP22.trans hP28).trans hP36).trans hP38).trans hP39)) (by first | assumption | omega)).mono ?_⟩
   rintro _ s42 ⟨q42,rfl,hO42,hP42,hN42⟩
   refine ⟨_,rfl,(ac_impl_TableAdd q39 q42 u39 0 (marksF (goneAt w16.x) 5) s42 (hR39.pres hP42) (hO42.rows len_cFlr) hs39 hr39 hm42).mono ?_⟩
   rintro _ s43 ⟨q43,u43,rfl,h43,h43',hO43,hN43,hP43⟩
   refine AW.cutM (4) s43 [(2,vB false),(5,vL 5 0 (2)),(9,vS q43 u43.length)] [(5,2,[vS u22.p u22.x.items.length,vS u22.q u22.x.floors.length])] ⟨rfl,rfl,congrArg (vS q43) h43.symm,trivial⟩ ⟨rfl,trivial⟩ rfl fun ρ0 ff => ?_
   have hl43 : u43.map (·.l) = [addMarks (addMarks zRow (marksF (goneAt u16.x) 5)) (marksF (goneAt w16.x) 5)] := by rw [h43',hl39]; exact tableAdd_single (by rw [addMarks_len]; rfl) (marks_ok hkb)
   have hR43 := hO43.rdT
   refine ⟨_,rfl,(ac_impl_TableNew 1 s43).mono ?_⟩
   rintro _ s44 ⟨p44,t44,rfl,hO44,hN44,hP44,h44⟩
   refine ⟨hP44.2,?_⟩
   refine ⟨_,op_ldo rfl rfl rfl rfl,?_⟩
   refine ⟨ld_own rfl rfl rfl,?_⟩
   refine ⟨_,rfl,(ac_impl_MarksOf u22 s44 ((hO22.rdS.pres hP28).pres (((((hP36.trans hP38).trans hP39).trans hP42).trans hP43).trans hP44)) (by first | assumption | omega)).mono ?_⟩
   rintro _ s46 ⟨q46,rfl,hO46,hP46,hN46⟩
   have hs44 : szOk t44.length := Nat.le_trans (tnew_rows h44).1 (by decide)
   have hr44 : ∀ r ∈ t44,szOk r.l.length := fun r hr => by rw [(tnew_rows h44).2.1 r hr]; unfold szOk; omega
   have hm46 := szm (goneAt u22.x)
   refine ⟨_,rfl,(ac_impl_TableAdd p44 q46 t44 0 (marksF (goneAt u22.x) 5) s46 (hO44.rdT.pres hP46) (hO46.rows len_cFlr) hs44 hr44 hm46).mono ?_⟩
   rintro _ s47 ⟨q47,u47,rfl,h47,h47',hO47,hN47,hP47⟩
   refine AW.cutM (4) s47 [(2,vB false),(5,vL 5 0 (2)),(9,vS q43 u43.length),(10,vS q47 u47.length)] [(5,2,[vS u22.p u22.x.items.length,vS u22.q u22.x.floors.length])] ⟨rfl,rfl,rfl,congrArg (vS q47) h47.symm,trivial⟩ ⟨rfl,trivial⟩ rfl fun ρ0 ff => ?_
   have hl47 : u47.map (·.l) = [addMarks zRow (marksF (goneAt u22.x) 5)] := by rw [h47',h44]; exact tableAdd_single rfl (marks_ok hkj)
   have hR47 := hO47.rdT
   have hs47 : szOk u47.length := by rw [len_single hl47]; unfold szOk; omega
   have hr47 : ∀ r ∈ u47,szOk r.l.length := rows_lens (by rw [h47']; exact tableAdd_lens _ _ _) hr44
   have l43 := len_single hl43
   have l47 := len_single hl47
   have hR43' := ((hR43.pres hP44).pres hP46).pres hP47
   iterate 2 refine ⟨_,rfl,?_⟩
   rintro (_|_) h50
   rotate_left
   ·exact absurd ((by omega)) (bne_iff_ne.1 h50)
   iterate 2 refine ⟨_,rfl,?_⟩
   rintro (_|_) h54
   rotate_left
   ·exact absurd ((by omega)) (bne_iff_ne.1 h54)
   refine ⟨_,rfl,?_⟩
   refine op_at 0 hR43'.1 (by omega) rfl rfl rfl rfl rfl rfl rfl ?_
   intro x58 b58 d58 k58 hy58 hb58 hm58 hc58 ho58
   refine ⟨_,op_ldc (i := 0) rfl rfl rfl rfl hm58 hc58 rfl rfl,?_⟩
   iterate 2 refine ⟨_,rfl,?_⟩
   rintro (_|_) h61
   rotate_left
   ·exact absurd ((by rw [row_single hl43 hy58,addMarks_len,addMarks_len]; rfl)) (bne_iff_ne.1 h61)
   refine ⟨_,rfl,?_⟩
   refine op_at 0 hR47.1 (by omega) rfl rfl rfl rfl rfl rfl rfl ?_
   intro x65 b65 d65 k65 hy65 hb65 hm65 hc65 ho65
   refine ⟨_,op_ldc (i := 0) rfl rfl rfl rfl hm65 hc65 rfl rfl,?_⟩
   iterate 2 refine ⟨_,rfl,?_⟩
   rintro (_|_) h68
   rotate_left
   ·exact absurd ((by rw [row_single hl47 hy65,addMarks_len]; rfl)) (bne_iff_ne.1 h68)
   refine ⟨_,rfl,?_⟩
   refine AW.cutM (4) s47 [(2,vB false),(5,vL 5 0 (2)),(9,vS q43 u43.length),(10,vS q47 u47.length),(69,vB false)] [(5,2,[vS u22.p u22.x.items.length,vS u22.q u22.x.floors.length])] ⟨rfl,rfl,rfl,rfl,rfl,trivial⟩ ⟨rfl,trivial⟩ rfl fun ρ0 ff => ?_
   refine cxs ?_
   refine AW.cutM (4) s47 [(2,vB false),(5,vL 5 0 (2)),(9,vS q43 u43.length),(10,vS q47 u47.length),(11,vI (0))] [(5,2,[vS u22.p u22.x.items.length,vS u22.q u22.x.floors.length])] ⟨rfl,rfl,rfl,rfl,rfl,trivial⟩ ⟨rfl,trivial⟩ rfl fun ρ0 ff => ?_
   refine AW.loopM (fun i : Nat => [(5,vL 5 0 (2)),(9,vS q43 u43.length),(10,vS q47 u47.length),(11,vI (i : Int))]) (fun i : Nat => [(5,2,[vS u22.p u22.x.items.length,vS u22.q u22.x.floors.length])]) (fun m (i : Nat) st' => m = 5 - i ∧ i ≤ 5 ∧ s47 = st') 0 _ ⟨rfl,rfl,rfl,rfl,trivial⟩ ⟨rfl,trivial⟩ ⟨rfl,Nat.zero_le _,rfl⟩ ?_
   rintro m i ρ0 ff gg st' ⟨rfl,hi,rfl⟩
   refine ⟨_,rfl,?_⟩
   rintro (_|_) h71
   ·replace h71 : ¬ ((i : Int) < (5)) := of_decide_eq_false h71
    refine AW.cutM (gg) s47 [(5,vL 5 0 (2)),(9,vS q43 u43.length),(10,vS q47 u47.length),(11,vI (i : Int)),(71,vB false)] [(5,2,[vS u22.p u22.x.items.length,vS u22.q u22.x.floors.length])] ⟨rfl,rfl,rfl,rfl,rfl,trivial⟩ ⟨rfl,trivial⟩ rfl fun ρ0 ff => ?_
    refine cxs ?_
    refine cxs ?_
    exact ⟨.inl rfl,_,rfl,rfl⟩
   ·replace h71 : (i : Int) < (5) := of_decide_eq_true h71
    refine AW.cutM (gg) s47 [(5,vL 5 0 (2)),(9,vS q43 u43.length),(10,vS q47 u47.length),(11,vI (i : Int)),(71,vB true)] [(5,2,[vS u22.p u22.x.items.length,vS u22.q u22.x.floors.length])] ⟨rfl,rfl,rfl,rfl,rfl,trivial⟩ ⟨rfl,trivial⟩ rfl fun ρ0 ff => ?_
    refine cxs ?_
    refine op_at 0 hR47.1 (by omega) rfl rfl rfl rfl rfl rfl rfl ?_
    intro x75 b75 d75 k75 hy75 hb75 hm75 hc75 ho75
    refine ⟨_,op_ldc (i := 0) rfl rfl rfl rfl hm75 hc75 rfl rfl,?_⟩
    have hi5 : i < 5 := by omega
    have e75 := row_single hl47 hy75
    have l75 : x75.l.length = 5 := by rw [e75,addMarks_len]; rfl
    have v75 : x75.l.getD i 0 = goneAt u22.x (i : Int) := by
     rw [e75,addMarks_max rfl hi5 (by rw [zRow_get hi5]; exact Int.le_refl _),zRow_get hi5]
     have := (goneAt_le hkj (i : Int)).1; omega
    refine op_at i (hR47.2 x75 (List.mem_of_getElem? hy75)) (by omega) rfl rfl rfl rfl rfl rfl rfl ?_
    intro x78 b78 d78 k78 hy78 hb78 hm78 hc78 ho78
    refine ⟨_,op_ldc (i := 0) rfl rfl rfl rfl hm78 hc78 rfl rfl,?_⟩
    refine op_at 0 hR43'.1 (by omega) rfl rfl rfl rfl rfl rfl rfl ?_
    intro x81 b81 d81 k81 hy81 hb81 hm81 hc81 ho81
    refine ⟨_,op_ldc (i := 0) rfl rfl rfl rfl hm81 hc81 rfl rfl,?_⟩
    have e81 := row_single hl43 hy81
    have l81 : x81.l.length = 5 := by rw [e81,addMarks_len,addMarks_len]; rfl
    refine op_at i (hR43'.2 x81 (List.mem_of_getElem? hy81)) (by omega) rfl rfl rfl rfl rfl rfl rfl ?_
    intro x84 b84 d84 k84 hy84 hb84 hm84 hc84 ho84
    refine ⟨_,op_ldc (i := 0) rfl rfl rfl rfl hm84 hc84 rfl rfl,?_⟩
    have ga := (goneAt_le hka (i : Int)).1
    have v81 : x81.l.getD i 0 = max (goneAt u16.x (i : Int)) (goneAt w16.x (i : Int)) := by
     have hz : zRow.getD i 0 = 0 := zRow_get hi5
     have h1 : (addMarks zRow (marksF (goneAt u16.x) 5)).getD i 0 = goneAt u16.x (i : Int) := by rw [addMarks_max rfl hi5 (by rw [hz]; exact Int.le_refl _),hz]; omega
     rw [e81,addMarks_max (by rw [addMarks_len]; rfl) hi5 (by rw [h1]; exact ga),h1]
    have hge : x84 ≤ x78 := by
     rw [getD_of hy84] at v81
     rw [getD_of hy78] at v75
     rw [v81,v75,hxj,gone_join hka hkb hi5]; exact Int.le_refl _
    refine ⟨_,rfl,?_⟩
    rintro (_|_) h86
    rotate_left
    ·exact absurd (of_decide_eq_true h86) ((Int.not_lt.2 hge))
    refine op_el 0 hR47.1 hy75 rfl rfl rfl rfl rfl rfl rfl ?_
    intro b89 d89 k89 hb89 hm89 hc89 ho89
    refine ⟨_,op_ldc (i := 0) rfl rfl rfl rfl hm89 hc89 rfl rfl,?_⟩
    refine ⟨ld_lt rfl rfl hb89,?_⟩
    refine op_el i (hR47.2 x75 (List.mem_of_getElem? hy75)) hy78 rfl rfl rfl rfl rfl rfl rfl ?_
    intro b92 d92 k92 hb92 hm92 hc92 ho92
    refine owE_cut [(5,vL 5 0 (2)),(9,vS q43 u43.length),(10,vS q47 u47.length),(11,vI (i : Int)),(71,vB true),(87,vB false),(92,vP b92 (d92))] ⟨rfl,rfl,rfl,rfl,rfl,rfl,rfl,trivial⟩ fun ρ0 => ?_
    refine ⟨_,op_ldc (i := 0) rfl rfl rfl rfl hm92 hc92 rfl rfl,?_⟩
    refine ⟨ld_lt rfl rfl hb92,?_⟩
    refine ⟨_,op_ldo rfl rfl rfl rfl,?_⟩
    refine ⟨_,rfl,(ac_impl_GoneAt u22 (i : Int) s47 ((hO22.rdS.pres hP28).pres (((((((hP36.trans hP38).trans hP39).trans hP42).trans hP43).trans hP44).trans hP46).trans hP47)) (by first | assumption | omega)).mono ?_⟩
    rintro _ s47 ⟨rfl,rfl⟩
    refine ⟨fun _ _ => rfl,?_⟩
    refine ⟨_,rfl,?_⟩
    rintro (_|_) h97
    rotate_left
    ·exact absurd ((by rw [getD_of hy78] at v75; exact v75)) (bne_iff_ne.1 h97)
    refine ⟨_,rfl,?_⟩
    refine ⟨_,rfl,(ac_impl_Common q47 u47 (i : Int) s47 hR47 (by first | assumption | omega) (by first | assumption | omega)).mono ?_⟩
    rintro _ s47 ⟨rfl,rfl⟩
    refine ⟨fun _ _ => rfl,?_⟩
    refine op_el 0 hR47.1 hy75 rfl rfl rfl rfl rfl rfl rfl ?_
    intro b104 d104 k104 hb104 hm104 hc104 ho104
    refine ⟨_,op_ldc (i := 0) rfl rfl rfl rfl hm104 hc104 rfl rfl,?_⟩
    refine ⟨ld_lt rfl rfl hb104,?_⟩
    refine op_el i (hR47.2 x75 (List.mem_of_getElem? hy75)) hy78 rfl rfl rfl rfl rfl rfl rfl ?_
    intro b107 d107 k107 hb107 hm107 hc107 ho107
    refine ⟨_,op_ldc (i := 0) rfl rfl rfl rfl hm107 hc107 rfl rfl,?_⟩
    refine ⟨ld_lt rfl rfl hb107,?_⟩
    refine ⟨_,rfl,?_⟩
    rintro (_|_) h109
    rotate_left
    ·exact absurd ((by show common (u47.map (·.l)) (i : Int) = x78; rw [hl47,← e75,common_single (by omega),getD_of hy78])) (bne_iff_ne.1 h109)
    refine ⟨_,rfl,?_⟩
    refine AW.cutM (gg) s47 [(5,vL 5 0 (2)),(9,vS q43 u43.length),(10,vS q47 u47.length),(11,vI (i : Int)),(71,vB true),(110,vB false)] [(5,2,[vS u22.p u22.x.items.length,vS u22.q u22.x.floors.length])] ⟨rfl,rfl,rfl,rfl,rfl,rfl,trivial⟩ ⟨rfl,trivial⟩ rfl fun ρ0 ff => ?_
    refine cxs ?_
    have ew73 : IntKind.wrap .i64 ((i : Int) + (1)) = ((i + 1 : Nat) : Int) := (wrap_i64 (by omega) (by omega)).trans (by omega)
    refine ⟨_,rfl,?_⟩
    exact ⟨i + 1,5 - (i + 1),by omega,⟨rfl,rfl,rfl,congrArg (Value.int .i64) ew73,trivial⟩,⟨rfl,trivial⟩,rfl,by omega,rfl⟩
 ·replace h13 := of_decide_eq_true h13.symm
  refine AW.cutM (0) st [(0,vS p bs.length),(2,vB false),(13,vB true)] [] ⟨rfl,rfl,rfl,trivial⟩ trivial rfl fun ρ0 ff => ?_
  refine cxs ?_
  exact ⟨.inl rfl,_,rfl,rfl⟩
end Go.Proofs.Yteabadoaeadcgaa.AM
