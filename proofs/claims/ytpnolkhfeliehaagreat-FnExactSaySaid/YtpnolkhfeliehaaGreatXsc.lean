/- Part 3 of the texts on which the law's proof rests. -/
import Derived.Test.YtpnolkhfeliehaaGreatXsb
namespace Go.Proofs.YtpnolkhfeliehaaGreat.AM
open Go Go.Proofs
set_option linter.unusedVariables false
set_option linter.unusedSimpArgs false
set_option maxRecDepth 100000
set_option maxHeartbeats 4000000
def shO (p : Option Addr) (z i : Nat) : Option Addr := p.map fun q => ⟨q.block,q.off + i * z,q.spot⟩
theorem Rows.sh {α : Type} {st : St} {z : Nat} {f : α → List Value} {p : Option Addr} {l : List α} (h : Rows st z f p l) (i : Nat) : Rows st z f (shO p z i) (l.drop i) := by
 rcases h with rfl | ⟨b,off,blk,rfl,hm,hb,hc⟩
 ·exact .inl List.drop_nil
 ·exact Rows.drop (.inr ⟨b,off,blk,rfl,hm,hb,hc⟩) i
theorem Dis.sh {p q : Option Addr} {z i : Nat} (h : Dis p q) : Dis (shO p z i) q := fun a b ha hb => by
 cases p with
 | none => cases ha
 | some c => injection ha with ha; rw [← ha]; exact h c b rfl hb
theorem New.sh {n : Nat} {p : Option Addr} {z i : Nat} (h : New n p) : New n (shO p z i) := fun a ha => by
 cases p with
 | none => cases ha
 | some c => injection ha with ha; rw [← ha]; exact h c rfl
section
variable {P : Program} {ls : List Tmp} {call : ACallT} {o : Oper} {e : Operand → Value} {lo : Lo} {st : St}
theorem op_slc {t el : TypeId} {x y : Operand} {p : Option Addr} {n j z : Nat} {k : IntKind} {i : Int} (ho : o.op = .slice t x (some y) none none) (hx : e x = .slice p n n) (hy : e y = .int k i) (he : telem P t = some el) (hz : tsize P el = some z) (hi : i = (j : Int)) (hj : j ≤ n) : aoper P ls call o e lo st = some (.slice (shO p z j) (n - j) (n - j),lo,st) := by
 obtain ⟨d,op,tt,pos,after,gd⟩ := o
 simp only at ho
 subst ho hi
 simp [aoper,rop,aslice,abound,hx,hy,he,hz,hj,shO]
end
theorem op_drop {α : Type} {P : Program} {ls : List Tmp} {call : ACallT} {o : Oper} {e : Operand → Value} {lo : Lo} {st : St} {t el : TypeId} {x y : Operand} {p : Option Addr} {n z : Nat} {k : IntKind} {i : Int} (l : List α) (j : Nat) (ho : o.op = .slice t x (some y) none none) (hx : e x = .slice p n n) (hn : n = l.length) (hy : e y = .int k i) (he : telem P t = some el) (hz : tsize P el = some z) (hi : i = (j : Int)) (hj : j ≤ l.length) : aoper P ls call o e lo st = some (.slice (shO p z j) (l.drop j).length (l.drop j).length,lo,st) := by
 subst hn
 rw [List.length_drop]
 exact op_slc ho hx hy he hz hi hj
theorem PrL.rows {α : Type} {st st' : St} {ps : List (Option Addr)} {z : Nat} {f : α → List Value} {p : Option Addr} {l : List α} (h : PrL ps st st') (hR : Rows st z f p l) (hd : ∀ q ∈ ps,Dis p q) : Rows st' z f p l := by
 rcases hR with rfl | ⟨b,off,blk,rfl,hm,hb,hc⟩
 ·exact .inl rfl
 ·refine .inr ⟨b,off,blk,rfl,?_,Nat.lt_of_lt_of_le hb h.1,hc⟩
  rw [h.2 b hb fun q hq r hr => hd q hq _ r rfl hr]
  exact hm
theorem ac_laws_heldState (s : SV) (k : Int) (st : St) (hR : RdS st ⟨s.p,s.q,mkS s.x k⟩) (hb : bigS s.x) (h0 : 0 ≤ k) (hk : k ≤ 274877906944) : C 45 [.agg #[vS s.p s.x.items.length,vS s.q s.x.floors.length],vI k] st (fun v s' => v = vI (k + 6 * (s.x.items.length : Int) + 2 * (s.x.floors.length : Int)) ∧ Pres st s') := by
 have hs1 : s.x.items.length ≤ 1048576 := hb.1
 have hs2 : s.x.floors.length ≤ 1048576 := hb.2.1
 refine AC.enterX (i := ⟨[2],[2,5,11],[0,1,2,4,10,16],[]⟩) [] Tryz.func45 rfl rfl (by kernel_rfl) (by kernel_rfl) Tryz.ntmps45 (Lb rfl) rfl ?_
 refine ⟨_,rfl,?_⟩
 refine Cm 1 st [(1,vI k),Ml 2 0,(4,vI 0)] [(2,0,cSV s)] fun _ _ => ?_
 iterate 2 refine ⟨_,rfl,?_⟩
 refine ⟨_,rfl,(ac_laws_heldItemS s.p s.x.items.length k st hR.1 hb.1 h0 (by omega)).mono ?_⟩
 rintro _ s1 ⟨rfl,hP1⟩
 refine Cm 1 s1 [(1,vI (k + 6 * (s.x.items.length : Int))),Ml 2 0,(4,vI 0)] [(2,0,cSV s)] fun _ _ => ?_
 refine ⟨_,rfl,?_⟩
 rintro (_|_) h1
 rotate_left
 ·exact absurd (of_decide_eq_true h1) ((by omega))
 refine Cm 1 s1 [(1,vI (k + 6 * (s.x.items.length : Int))),Ml 2 0,(4,vI 0),(10,vB false)] [(2,0,cSV s)] fun _ _ => ?_
 refine cxs ?_
 iterate 2 refine ⟨_,rfl,?_⟩
 refine ⟨_,rfl,(ac_laws_heldFloorS s.q s.x.floors.length (k + 6 * (s.x.items.length : Int)) s1 (hP1.rows hR.2) hb.2.1 (by omega) (by omega)).mono ?_⟩
 rintro _ s2 ⟨rfl,hP2⟩
 refine Cm 1 s2 [(1,vI (k + 6 * (s.x.items.length : Int) + 2 * (s.x.floors.length : Int))),(4,vI 0)] [] fun _ _ => ?_
 refine ⟨_,rfl,?_⟩
 rintro (_|_) h2
 rotate_left
 ·exact absurd (of_decide_eq_true h2) ((by omega))
 refine Cm 1 s2 [(1,vI (k + 6 * (s.x.items.length : Int) + 2 * (s.x.floors.length : Int))),(4,vI 0),(16,vB false)] [] fun _ _ => ?_
 refine cxs ?_
 exact cxs (Rt ⟨rfl,hP1.trans hP2⟩)
abbrev cntS (s : Sta) : Nat := 6 * s.items.length + 2 * s.floors.length
abbrev cntL (l : List SV) : Nat := sumOf (fun s => cntS s.x) l
def mkL : List SV → Int → List SV
 | [],_ => []
 | s :: l,k => ⟨s.p,s.q,mkS s.x k⟩ :: mkL l (k + (cntS s.x : Int))
theorem mkL_app : ∀ (a b : List SV) (k : Int),mkL (a ++ b) k = mkL a k ++ mkL b (k + (cntL a : Int))
 | [],b,k => by simp [mkL,sumOf]
 | s :: a,b,k => by
  rw [List.cons_append,mkL,mkL_app a b,mkL,List.cons_append]
  have : k + (cntS s.x : Int) + (cntL a : Int) = k + (cntL (s :: a) : Int) := by simp [cntL,sumOf]; omega
  rw [this]
theorem mkL_get {l : List SV} {k : Int} {i : Nat} {s : SV} (h : l[i]? = some s) : (⟨s.p,s.q,mkS s.x (k + (cntL (l.take i) : Int))⟩ : SV) ∈ mkL l k := by
 rw [(split_at' h).1,mkL_app,mkL]
 rw [← (split_at' h).1]
 exact List.mem_append_right _ (List.mem_cons_self ..)
theorem cntL_le (l : List SV) : cntL l ≤ 6 * szL l := by
 have h : ∀ l : List SV,sumOf (fun s => cntS s.x) l ≤ 6 * sumOf (fun s => szSta s.x) l := by
  intro l
  induction l with
  | nil => simp [sumOf]
  | cons s l ih =>
   simp only [sumOf,List.map_cons,List.sum_cons] at ih ⊢
   have : cntS s.x ≤ 6 * szSta s.x := by unfold cntS szSta szI; omega
   omega
 have := h l
 unfold cntL szL
 omega
theorem ac_laws_markStateS (p : Option Addr) (l : List SV) (k : Int) (st : St) (hR : Rows st 2 cSV p l) (hO : OwnP st (l.flatMap pcS)) (hd : ∀ q ∈ (l.flatMap pcS).map (·.p),Dis p q) (hb : bigL l) (h0 : 0 ≤ k) (hk : k + (cntL l : Int) ≤ 274877906944) : C 190 [vS p l.length,vI k] st (fun v s => v = vI (k + (cntL l : Int)) ∧ OwnP s ((mkL l k).flatMap pcS) ∧ PrL ((l.flatMap pcS).map (·.p)) st s) := by
 have hs : l.length ≤ 1048576 := hb.1
 refine AC.enterX (i := ⟨[],[],[0,1,4,5,9],[]⟩) [] Tryz.func190 rfl rfl (by kernel_rfl) (by kernel_rfl) Tryz.ntmps190 (Lb rfl) rfl ?_
 refine cxs ?_
 refine Cu lo0 st [(0,vS p l.length),(1,vI k),(4,vI 0),(5,vI 0)] fun _ => ?_
 refine AW.loop0 (fun i : Nat => [(0,vS p l.length),(1,vI (k + (cntL (l.take i) : Int))),(5,vI (i : Int))]) (fun m (i : Nat) st' => m = l.length - i ∧ i ≤ l.length ∧ OwnP st' ((mkL (l.take i) k).flatMap pcS ++ (l.drop i).flatMap pcS) ∧ PrL ((l.flatMap pcS).map (·.p)) st st') 0 _ ⟨rfl,congrArg (Value.int .i64) (show k = k + ((cntL (l.take 0) : Nat) : Int) by simp [cntL,sumOf]),rfl,trivial⟩ rfl ⟨rfl,Nat.zero_le _,by simpa [mkL] using hO,PrL.refl _ _⟩ ?_
 rintro m i ρ0 st' ⟨rfl,hi,hO',hP'⟩
 iterate 2 refine ⟨_,rfl,?_⟩
 rintro (_|_) h1
 ·replace h1 : ¬ ((i : Int) < (l.length : Int)) := of_decide_eq_false h1
  refine Cu lo0 st' [(0,vS p l.length),(1,vI (k + (cntL (l.take i) : Int))),(5,vI (i : Int)),(9,vB false)] fun _ => ?_
  refine cxs ?_
  refine cxs ?_
  have hil : i = l.length := by omega
  subst hil
  rw [List.take_length,List.drop_length,List.flatMap_nil,List.append_nil] at hO'
  exact Rt ⟨congrArg (Value.int .i64) (by rw [List.take_length]),hO',hP'⟩
 ·replace h1 : (i : Int) < (l.length : Int) := of_decide_eq_true h1
  refine Cu lo0 st' [(0,vS p l.length),(1,vI (k + (cntL (l.take i) : Int))),(5,vI (i : Int)),(9,vB true)] fun _ => ?_
  have h1' := Int.ofNat_lt.1 h1
  have ⟨b1,o1,k1,x,hpe,hx,hm1,hc1,hb1⟩ := (hP'.rows hR hd).atB h1'
  have hmem := List.mem_of_getElem? hx
  have hct : cntL (l.take (i + 1)) = cntL (l.take i) + cntS x.x ∧ cntL (l.take (i + 1)) ≤ cntL l := sumOf_take (f := fun s : SV => cntS s.x) hx
  have hcs : cntS x.x = 6 * x.x.items.length + 2 * x.x.floors.length := rfl
  have hbx := hb.2 x hmem
  have hm2 := hbx.1
  have hm3 := hbx.2.1
  obtain ⟨d1,d2,d3⟩ := split_at' hx
  rw [d3,List.flatMap_cons] at hO'
  have hO'' : OwnP st' ((mkL (l.take i) k).flatMap pcS ++ pcR 6 cItm x.p x.x.items :: (pcR 2 cFlr x.q x.x.floors :: (l.drop (i + 1)).flatMap pcS)) := hO'
  have hp1 : x.p ∈ (l.flatMap pcS).map (·.p) := List.mem_map.2 ⟨pcR 6 cItm x.p x.x.items,List.mem_flatMap.2 ⟨x,hmem,List.mem_cons_self ..⟩,rfl⟩
  have hp2 : x.q ∈ (l.flatMap pcS).map (·.p) := List.mem_map.2 ⟨pcR 2 cFlr x.q x.x.floors,List.mem_flatMap.2 ⟨x,hmem,List.mem_cons_of_mem _ (List.mem_cons_self ..)⟩,rfl⟩
  refine cxs ?_
  refine ⟨_,op_idx (j := (i : Int)) (n := l.length) (q := ⟨b1,o1,none⟩) rfl (congrArg (fun u => vS u l.length) hpe) rfl rfl rfl (Int.natCast_nonneg _) h1,?_⟩
  refine ⟨_,rfl,?_⟩
  refine ⟨_,op_ldc (i := 0) rfl rfl rfl rfl hm1 hc1 rfl rfl,?_⟩
  refine ⟨_,rfl,(ac_laws_markItemS x.p x.x.items _ st' (pc_own (by decide) len_cItm (hO''.1 _ (List.mem_append_right _ (List.mem_cons_self ..)))) hbx.1 (by omega) (by omega)).mono ?_⟩
  rintro _ s2 ⟨rfl,hO2,hP2⟩
  refine Cu lo0 s2 [(0,vS p l.length),(1,vI (k + (cntL (l.take i) : Int) + 6 * (x.x.items.length : Int))),(5,vI (i : Int)),(9,vB true)] fun _ => ?_
  have hA := OwnP.update hO'' hP2 (own_pc hO2) rfl
  have hA : OwnP s2 (((mkL (l.take i) k).flatMap pcS ++ [pcR 6 cItm x.p (mkRow mkItm 6 x.x.items.length (k + (cntL (l.take i) : Int)))]) ++ pcR 2 cFlr x.q x.x.floors :: (l.drop (i + 1)).flatMap pcS) := by rw [List.append_assoc]; exact hA
  have hP3 := hP'.trans (hP2.l hp1)
  have ⟨b2,o2,k2,x2,hpe2,hx2,hm4,hc4,hb4⟩ := (hP3.rows hR hd).atB h1'
  have hxx : x2 = x := by rw [hx] at hx2; injection hx2 with hx2; exact hx2.symm
  rw [hxx] at hc4
  refine ⟨_,op_idx (j := (i : Int)) (n := l.length) (q := ⟨b2,o2,none⟩) rfl (congrArg (fun u => vS u l.length) hpe2) rfl rfl rfl (Int.natCast_nonneg _) h1,?_⟩
  refine ⟨_,rfl,?_⟩
  refine ⟨_,op_ldc (i := 1) rfl rfl rfl rfl hm4 hc4 rfl rfl,?_⟩
  refine ⟨_,rfl,(ac_laws_markFloorS x.q x.x.floors _ s2 (pc_own (by decide) len_cFlr (hA.1 _ (List.mem_append_right _ (List.mem_cons_self ..)))) hbx.2.1 (by omega) (by omega)).mono ?_⟩
  rintro _ s3 ⟨rfl,hO3,hP4⟩
  refine Cu lo0 s3 [(0,vS p l.length),(1,vI (k + (cntL (l.take i) : Int) + 6 * (x.x.items.length : Int) + 2 * (x.x.floors.length : Int))),(5,vI (i : Int)),(9,vB true)] fun _ => ?_
  have hB := OwnP.update hA hP4 (own_pc hO3) rfl
  have hB : OwnP s3 ((mkL (l.take (i + 1)) k).flatMap pcS ++ (l.drop (i + 1)).flatMap pcS) := by
   rw [d2,mkL_app,List.flatMap_append]
   rw [List.append_assoc] at hB
   rw [List.append_assoc]
   exact hB
  have e1 : k + (cntL (l.take i) : Int) + 6 * (x.x.items.length : Int) + 2 * (x.x.floors.length : Int) = k + (cntL (l.take (i + 1)) : Int) := by omega
  have e11 : IntKind.wrap .i64 ((i : Int) + 1) = ((i + 1 : Nat) : Int) := (wrap_i64 (by omega) (by omega)).trans (by omega)
  refine ⟨_,rfl,?_⟩
  exact ⟨i + 1,l.length - (i + 1),by omega,⟨rfl,congrArg (Value.int .i64) e1,congrArg (Value.int .i64) e11,trivial⟩,rfl,rfl,h1',hB,hP3.trans (hP4.l hp2)⟩
theorem ac_laws_heldStateS (p : Option Addr) (l : List SV) (k : Int) (st : St) (hR : Rows st 2 cSV p l) (hM : ∀ s ∈ mkL l k,RdS st s) (hb : bigL l) (h0 : 0 ≤ k) (hk : k + (cntL l : Int) ≤ 274877906944) : C 192 [vS p l.length,vI k] st (fun v s => v = vI (k + (cntL l : Int)) ∧ Pres st s) := by
 have hs : l.length ≤ 1048576 := hb.1
 refine AC.enterX (i := ⟨[],[],[0,1,4,5,9,20,29],[]⟩) [] Tryz.func192 rfl rfl (by kernel_rfl) (by kernel_rfl) Tryz.ntmps192 (Lb rfl) rfl ?_
 refine cxs ?_
 refine Cu lo0 st [(0,vS p l.length),(1,vI k),(4,vI 0),(5,vI 0)] fun _ => ?_
 refine AW.loop0 (fun i : Nat => [(0,vS p l.length),(1,vI (k + (cntL (l.take i) : Int))),(5,vI (i : Int))]) (fun m (i : Nat) st' => m = l.length - i ∧ i ≤ l.length ∧ Pres st st') 0 _ ⟨rfl,congrArg (Value.int .i64) (show k = k + ((cntL (l.take 0) : Nat) : Int) by simp [cntL,sumOf]),rfl,trivial⟩ rfl ⟨rfl,Nat.zero_le _,Pres.refl _⟩ ?_
 rintro m i ρ0 st' ⟨rfl,hi,hP'⟩
 iterate 2 refine ⟨_,rfl,?_⟩
 rintro (_|_) h1
 ·replace h1 : ¬ ((i : Int) < (l.length : Int)) := of_decide_eq_false h1
  refine Cu lo0 st' [(0,vS p l.length),(1,vI (k + (cntL (l.take i) : Int))),(5,vI (i : Int)),(9,vB false)] fun _ => ?_
  refine cxs ?_
  refine cxs ?_
  have hil : i = l.length := by omega
  subst hil
  exact Rt ⟨congrArg (Value.int .i64) (by rw [List.take_length]),hP'⟩
 ·replace h1 : (i : Int) < (l.length : Int) := of_decide_eq_true h1
  refine Cu lo0 st' [(0,vS p l.length),(1,vI (k + (cntL (l.take i) : Int))),(5,vI (i : Int)),(9,vB true)] fun _ => ?_
  have h1' := Int.ofNat_lt.1 h1
  have ⟨b1,o1,k1,x,hpe,hx,hm1,hc1,hb1⟩ := (hP'.rows hR).atB h1'
  have hmem := List.mem_of_getElem? hx
  have hct : cntL (l.take (i + 1)) = cntL (l.take i) + cntS x.x ∧ cntL (l.take (i + 1)) ≤ cntL l := sumOf_take (f := fun s : SV => cntS s.x) hx
  have hcs : cntS x.x = 6 * x.x.items.length + 2 * x.x.floors.length := rfl
  have hbx := hb.2 x hmem
  have hm2 := hbx.1
  have hm3 := hbx.2.1
  have hMx := hM _ (mkL_get (k := k) hx)
  refine cxs ?_
  refine ⟨_,op_idx (j := (i : Int)) (n := l.length) (q := ⟨b1,o1,none⟩) rfl (congrArg (fun u => vS u l.length) hpe) rfl rfl rfl (Int.natCast_nonneg _) h1,?_⟩
  refine ⟨_,rfl,?_⟩
  refine ⟨_,op_ldc (i := 0) rfl rfl rfl rfl hm1 hc1 rfl rfl,?_⟩
  refine ⟨_,rfl,(ac_laws_heldItemS x.p x.x.items.length _ st' (hP'.rows hMx.1) hbx.1 (by omega) (by omega)).mono ?_⟩
  rintro _ s2 ⟨rfl,hP2⟩
  refine Cu lo0 s2 [(0,vS p l.length),(1,vI (k + (cntL (l.take i) : Int) + 6 * (x.x.items.length : Int))),(5,vI (i : Int)),(9,vB true)] fun _ => ?_
  refine ⟨_,rfl,?_⟩
  rintro (_|_) h2
  rotate_left
  ·exact absurd (of_decide_eq_true h2) ((by omega))
  refine Cu lo0 s2 [(0,vS p l.length),(1,vI (k + (cntL (l.take i) : Int) + 6 * (x.x.items.length : Int))),(5,vI (i : Int)),(9,vB true),(20,vB false)] fun _ => ?_
  have hP3 := hP'.trans hP2
  have ⟨b2,o2,k2,x2,hpe2,hx2,hm4,hc4,hb4⟩ := (hP3.rows hR).atB h1'
  have hxx : x2 = x := by rw [hx] at hx2; injection hx2 with hx2; exact hx2.symm
  rw [hxx] at hc4
  refine cxs ?_
  refine ⟨_,op_idx (j := (i : Int)) (n := l.length) (q := ⟨b2,o2,none⟩) rfl (congrArg (fun u => vS u l.length) hpe2) rfl rfl rfl (Int.natCast_nonneg _) h1,?_⟩
  refine ⟨_,rfl,?_⟩
  refine ⟨_,op_ldc (i := 1) rfl rfl rfl rfl hm4 hc4 rfl rfl,?_⟩
  refine ⟨_,rfl,(ac_laws_heldFloorS x.q x.x.floors.length _ s2 (hP3.rows hMx.2) hbx.2.1 (by omega) (by omega)).mono ?_⟩
  rintro _ s3 ⟨rfl,hP4⟩
  refine Cu lo0 s3 [(0,vS p l.length),(1,vI (k + (cntL (l.take i) : Int) + 6 * (x.x.items.length : Int) + 2 * (x.x.floors.length : Int))),(5,vI (i : Int)),(9,vB true),(20,vB false)] fun _ => ?_
  refine ⟨_,rfl,?_⟩
  rintro (_|_) h3
  rotate_left
  ·exact absurd (of_decide_eq_true h3) ((by omega))
  refine Cu lo0 s3 [(0,vS p l.length),(1,vI (k + (cntL (l.take i) : Int) + 6 * (x.x.items.length : Int) + 2 * (x.x.floors.length : Int))),(5,vI (i : Int)),(9,vB true),(20,vB false),(29,vB false)] fun _ => ?_
  refine cxs ?_
  have e11 : IntKind.wrap .i64 ((i : Int) + 1) = ((i + 1 : Nat) : Int) := (wrap_i64 (by omega) (by omega)).trans (by omega)
  refine ⟨_,rfl,?_⟩
  have e1 : k + (cntL (l.take i) : Int) + 6 * (x.x.items.length : Int) + 2 * (x.x.floors.length : Int) = k + (cntL (l.take (i + 1)) : Int) := by omega
  exact ⟨i + 1,l.length - (i + 1),by omega,⟨rfl,congrArg (Value.int .i64) e1,congrArg (Value.int .i64) e11,trivial⟩,rfl,rfl,h1',hP3.trans hP4⟩
theorem ac_laws_markLog (g : LV) (k : Int) (st : St) (hR : Rows st 2 cSV g.p g.l) (hO : OwnP st (g.l.flatMap pcS)) (hd : ∀ q ∈ (g.l.flatMap pcS).map (·.p),Dis g.p q) (hb : bigL g.l) (h0 : 0 ≤ k) (hk : k + (cntL g.l : Int) ≤ 274877906944) : C 127 [.agg #[vI g.cap,vI g.frm,vS g.p g.l.length],vI k] st (fun v s => v = vI (k + (cntL g.l : Int)) ∧ OwnP s ((mkL g.l k).flatMap pcS) ∧ PrL ((g.l.flatMap pcS).map (·.p)) st s) := by
 refine AC.enterX (i := ⟨[2],[2,5],[0,1,2,4],[]⟩) [] Tryz.func127 rfl rfl (by kernel_rfl) (by kernel_rfl) Tryz.ntmps127 (Lb rfl) rfl ?_
 refine ⟨_,rfl,?_⟩
 refine Cm 1 st [(1,vI k),Ml 2 0,(4,vI 0)] [(2,0,[vI g.cap,vI g.frm,vS g.p g.l.length])] fun _ _ => ?_
 iterate 2 refine ⟨_,rfl,?_⟩
 refine ⟨_,rfl,(ac_laws_markStateS g.p g.l k st hR hO hd hb h0 hk).mono ?_⟩
 rintro _ s1 ⟨rfl,hO1,hP1⟩
 refine cxs ?_
 exact cxs (Rt ⟨rfl,hO1,hP1⟩)
theorem ac_laws_heldLog (g : LV) (k : Int) (st : St) (hR : Rows st 2 cSV g.p g.l) (hM : ∀ s ∈ mkL g.l k,RdS st s) (hb : bigL g.l) (h0 : 0 ≤ k) (hk : k + (cntL g.l : Int) ≤ 274877906944) : C 135 [.agg #[vI g.cap,vI g.frm,vS g.p g.l.length],vI k] st (fun v s => v = vI (k + (cntL g.l : Int)) ∧ Pres st s) := by
 refine AC.enterX (i := ⟨[2],[2,5],[0,1,2,4,10],[]⟩) [] Tryz.func135 rfl rfl (by kernel_rfl) (by kernel_rfl) Tryz.ntmps135 (Lb rfl) rfl ?_
 refine ⟨_,rfl,?_⟩
 refine Cm 1 st [(1,vI k),Ml 2 0,(4,vI 0)] [(2,0,[vI g.cap,vI g.frm,vS g.p g.l.length])] fun _ _ => ?_
 iterate 2 refine ⟨_,rfl,?_⟩
 refine ⟨_,rfl,(ac_laws_heldStateS g.p g.l k st hR hM hb h0 hk).mono ?_⟩
 rintro _ s1 ⟨rfl,hP1⟩
 refine Cm 1 s1 [(1,vI (k + (cntL g.l : Int))),(4,vI 0)] [] fun _ _ => ?_
 refine ⟨_,rfl,?_⟩
 rintro (_|_) h1
 rotate_left
 ·exact absurd (of_decide_eq_true h1) ((by omega))
 refine Cm 1 s1 [(1,vI (k + (cntL g.l : Int))),(4,vI 0),(10,vB false)] [] fun _ _ => ?_
 refine cxs ?_
 exact cxs (Rt ⟨rfl,hP1⟩)
def xr (a b : Int) : Int := bits .xor .i64 a b
theorem wrap_nat (n : Nat) (h : n < 9223372036854775808) : IntKind.wrap .i64 (n : Int) = (n : Int) := wrap_i64 (by omega) (by omega)
theorem xr_nat {a b : Nat} (ha : a < 4294967296) (hb : b < 4294967296) : xr a b = ((a ^^^ b : Nat) : Int) ∧ a ^^^ b < 4294967296 := by
 have h : a ^^^ b < 4294967296 := Nat.xor_lt_two_pow (n := 32) ha hb
 refine ⟨?_,h⟩
 have h1 : (BitVec.ofInt 64 (a : Int) ^^^ BitVec.ofInt 64 (b : Int)).toNat = a ^^^ b := by
  rw [BitVec.toNat_xor,BitVec.ofInt_natCast,BitVec.ofInt_natCast,BitVec.toNat_ofNat,BitVec.toNat_ofNat,Nat.mod_eq_of_lt (by omega),Nat.mod_eq_of_lt (by omega)]
 show IntKind.wrap .i64 (((BitVec.ofInt 64 (a : Int) ^^^ BitVec.ofInt 64 (b : Int)).toNat : Nat) : Int) = _
 rw [h1]
 exact wrap_nat _ (by omega)
def rng32 (x : Int) : Prop := 0 ≤ x ∧ x < 4294967296
theorem xr_rng {a b : Int} (ha : rng32 a) (hb : rng32 b) : rng32 (xr a b) := by
 obtain ⟨m,rfl⟩ := Int.eq_ofNat_of_zero_le ha.1
 obtain ⟨n,rfl⟩ := Int.eq_ofNat_of_zero_le hb.1
 have h := xr_nat (a := m) (b := n) (by have := ha.2; omega) (by have := hb.2; omega)
 rw [h.1]
 exact ⟨by omega,by omega⟩
def crc1 (x : Int) : Int := if x % 2 = 1 then xr (x / 2) 3988292384 else x / 2
def crcN : Nat → Int → Int
 | 0,x => x
 | n + 1,x => crc1 (crcN n x)
def crcS (x u : Int) : Int := crcN 8 (xr x u)
def crcP (l : List Int) (i : Nat) : Int := (l.take i).foldl crcS 4294967295
def crc (l : List Int) : Int := xr (crcP l l.length) 4294967295
def bytesOk (l : List Int) : Prop := ∀ x ∈ l,0 ≤ x ∧ x < 256
theorem crc1_rng {x : Int} (h : rng32 x) : rng32 (crc1 x) := by
 have hd : rng32 (x / 2) := ⟨by have := h.1; omega,by have := h.1; have := h.2; omega⟩
 unfold crc1
 split
 ·exact xr_rng hd ⟨by decide,by decide⟩
 ·exact hd
theorem crcN_rng {x : Int} (h : rng32 x) : ∀ n,rng32 (crcN n x)
 | 0 => h
 | n + 1 => crc1_rng (crcN_rng h n)
theorem crcP_succ {l : List Int} {i : Nat} {u : Int} (h : l[i]? = some u) : crcP l (i + 1) = crcS (crcP l i) u := by
 unfold crcP
 rw [List.take_add_one,h,List.foldl_append]
 rfl
theorem bytesOk.at {l : List Int} (hl : bytesOk l) {i : Nat} {u : Int} (h : l[i]? = some u) : rng32 u := by
 have := hl u (List.mem_of_getElem? h)
 exact ⟨this.1,by omega⟩
theorem crcP_rng {l : List Int} (hl : bytesOk l) : ∀ i,rng32 (crcP l i)
 | 0 => ⟨by show (0 : Int) ≤ 4294967295; decide,by show (4294967295 : Int) < 4294967296; decide⟩
 | i + 1 => by
  cases h : l[i]? with
  | none =>
   have : crcP l (i + 1) = crcP l i := by
    unfold crcP
    rw [List.take_add_one,h]
    simp
   rw [this]; exact crcP_rng hl i
  | some u =>
   rw [crcP_succ h]
   exact crcN_rng (xr_rng (crcP_rng hl i) (hl.at h)) 8
theorem crc_rng {l : List Int} (hl : bytesOk l) : rng32 (crc l) := xr_rng (crcP_rng hl _) ⟨by decide,by decide⟩
section
variable {P : Program} {ls : List Tmp} {call : ACallT} {o : Oper} {e : Operand → Value} {lo : Lo} {st : St}
theorem op_xr {t ty : TypeId} {x y : Operand} {a b : Int} (ho : o.op = .binOp .xor t x y ty) (hx : e x = vI a) (hy : e y = vI b) : aoper P ls call o e lo st = some (vI (xr a b),lo,st) := by
 obtain ⟨d,op,tt,pos,after,gd⟩ := o
 simp only at ho
 subst ho
 simp [aoper,rop,hx,hy,abin,aint,xr]
theorem op_rm {t ty : TypeId} {x y : Operand} {a b r : Int} (ho : o.op = .binOp .rem t x y ty) (hx : e x = vI a) (hy : e y = vI b) (hb : b ≠ 0) (hr : a.tmod b = r) : aoper P ls call o e lo st = some (vI r,lo,st) := by
 subst hr
 exact op_rem ho hx hy hb
theorem op_qo {t ty : TypeId} {x y : Operand} {a b r : Int} (ho : o.op = .binOp .quo t x y ty) (hx : e x = vI a) (hy : e y = vI b) (hb : b ≠ 0) (hr : a.tdiv b = r) (h1 : -9223372036854775808 ≤ r) (h2 : r < 9223372036854775808) : aoper P ls call o e lo st = some (vI r,lo,st) := by
 subst hr
 rw [op_quo ho hx hy hb,wrap_i64 h1 h2]
theorem op_ofB {src dst : TypeId} {x : Operand} {b : Int} (ho : o.op = .convert src dst x) (hx : e x = .int .u8 b) (hd : telem P dst = none) (h1 : tint P src = some .u8) (h2 : tint P dst = some .i64) (hb : rng32 b) : aoper P ls call o e lo st = some (vI b,lo,st) := by
 obtain ⟨d,op,tt,pos,after,gd⟩ := o
 simp only at ho
 subst ho
 simp only [aoper,hd,rop,hx,aconv,h1,h2,Option.bind_some,Option.map_some]
 rw [wrap_i64 (by have := hb.1; omega) (by have := hb.2; omega)]
theorem op_toB {src dst : TypeId} {x : Operand} {b r : Int} (ho : o.op = .convert src dst x) (hx : e x = vI b) (hd : telem P dst = none) (h1 : tint P src = some .i64) (h2 : tint P dst = some .u8) (hb : b = r) (h3 : 0 ≤ r) (h4 : r < 256) : aoper P ls call o e lo st = some (.int .u8 r,lo,st) := by
 obtain ⟨d,op,tt,pos,after,gd⟩ := o
 simp only at ho
 subst ho hb
 simp only [aoper,hd,rop,hx,aconv,h1,h2,Option.bind_some,Option.map_some]
 rw [wrap_u8 h3 h4]
end
theorem tm_emod {a : Int} (b : Int) (h : 0 ≤ a) : a.tmod b = a % b := Int.tmod_eq_emod_of_nonneg h
theorem td_ediv {a : Int} (b : Int) (h : 0 ≤ a) : a.tdiv b = a / b := Int.tdiv_eq_ediv_of_nonneg h
theorem ac_spec_Crc (p : Option Addr) (l : List Int) (st : St) (hR : Rows st 1 fB p l) (hl : bytesOk l) (hs : l.length ≤ 1099511627776) : C 212 [vS p l.length] st (fun v s => v = vI (crc l) ∧ s = st) := by
 refine AC.enterX (i := ⟨[],[],[0,2,3,4,5,6,10,21,29],[]⟩) [] Tryz.func212 rfl rfl (by kernel_rfl) (by kernel_rfl) Tryz.ntmps212 (Lb rfl) rfl ?_
 refine cxs ?_
 refine cxs ?_
 refine Cu lo0 st [(0,vS p l.length),(2,vI 0),(3,vI 4294967295),(4,vI 0)] fun _ => ?_
 refine AW.loop0 (fun x : Nat × Int => [(0,vS p l.length),(2,vI (0)),(3,vI x.2),(4,vI (x.1 : Int))]) (fun m (x : Nat × Int) st' => m = l.length - x.1 ∧ x.1 ≤ l.length ∧ x.2 = crcP l x.1 ∧ st = st') (0,4294967295) _ ⟨rfl,rfl,rfl,rfl,trivial⟩ rfl ⟨rfl,Nat.zero_le _,rfl,rfl⟩ ?_
 rintro m ⟨i,c⟩ ρ0 st' ⟨rfl,hi,hc,rfl⟩
 simp only at hi hc
 have hP : rng32 c := hc ▸ crcP_rng hl i
 iterate 2 refine ⟨_,rfl,?_⟩
 rintro (_|_) h10
 ·replace h10 : ¬ ((i : Int) < (l.length : Int)) := of_decide_eq_false h10
  refine Cu lo0 st [(0,vS p l.length),(2,vI 0),(3,vI c),(4,vI (i : Int)),(10,vB false)] fun _ => ?_
  refine cxs ?_
  refine ⟨_,op_xr rfl rfl rfl,?_⟩
  exact cxs (Rt ⟨congrArg vI (by rw [hc,crc,show l.length = i by omega]),rfl⟩)
 ·replace h10 : (i : Int) < (l.length : Int) := of_decide_eq_true h10
  refine Cu lo0 st [(0,vS p l.length),(2,vI 0),(3,vI c),(4,vI (i : Int)),(10,vB true)] fun _ => ?_
  refine cxs ?_
  refine op_at i hR (by omega) rfl rfl rfl rfl rfl rfl rfl ?_
  intro x16 b16 d16 k16 hy16 hb16 hm16 hc16 ho16
  refine ⟨_,op_ldc (i := 0) rfl rfl rfl rfl hm16 hc16 rfl rfl,?_⟩
  refine ⟨_,op_ofB rfl rfl rfl rfl rfl (hl.at hy16),?_⟩
  refine ⟨_,op_xr rfl rfl rfl,?_⟩
  refine cxs ?_
  refine Cu lo0 st [(0,vS p l.length),(2,vI 0),(3,vI (xr c x16)),(4,vI (i : Int)),(5,vI 0),(10,vB true)] fun _ => ?_
  refine AW.loop0 (fun y : Nat × Int => [(0,vS p l.length),(2,vI (0)),(3,vI y.2),(4,vI (i : Int)),(5,vI (y.1 : Int)),(10,vB true)]) (fun m (y : Nat × Int) st' => m = 8 - y.1 ∧ y.1 ≤ 8 ∧ y.2 = crcN y.1 (xr c x16) ∧ st = st') (0,xr c x16) _ ⟨rfl,rfl,rfl,rfl,rfl,rfl,trivial⟩ rfl ⟨rfl,Nat.zero_le _,rfl,rfl⟩ ?_
  rintro m ⟨k,d⟩ ρ0 st' ⟨rfl,hk,hd,rfl⟩
  simp only at hk hd
  have hX : rng32 d := hd ▸ crcN_rng (xr_rng hP (hl.at hy16)) k
  have hX0 := hX.1
  have hX1 := hX.2
  refine ⟨_,rfl,?_⟩
  rintro (_|_) h21
  ·replace h21 : ¬ ((k : Int) < (8)) := of_decide_eq_false h21
   refine Cu lo0 st [(0,vS p l.length),(2,vI 0),(3,vI d),(4,vI (i : Int)),(5,vI (k : Int)),(10,vB true),(21,vB false)] fun _ => ?_
   refine cxs ?_
   have ew12 : IntKind.wrap .i64 ((i : Int) + (1)) = ((i + 1 : Nat) : Int) := (wrap_i64 (by omega) (by omega)).trans (by omega)
   refine ⟨_,rfl,?_⟩
   refine ⟨(i + 1,d),l.length - (i + 1),by omega,⟨rfl,rfl,rfl,congrArg (Value.int .i64) ew12,trivial⟩,rfl,rfl,by omega,?_,rfl⟩
   rw [crcP_succ hy16,← hc,hd,show k = 8 by omega]
   rfl
  ·replace h21 : (k : Int) < (8) := of_decide_eq_true h21
   refine Cu lo0 st [(0,vS p l.length),(2,vI 0),(3,vI d),(4,vI (i : Int)),(5,vI (k : Int)),(10,vB true),(21,vB true)] fun _ => ?_
   refine cxs ?_
   refine ⟨_,op_rm (r := d % 2) rfl rfl rfl (by decide) (tm_emod 2 hX0),?_⟩
   refine ⟨_,rfl,?_⟩
   rintro (_|_) h26
   ·replace h26 : ¬ ((d % 2) = (1)) := beq_eq_false_iff_ne.1 h26
    refine Cu lo0 st [(0,vS p l.length),(2,vI 0),(3,vI d),(4,vI (i : Int)),(5,vI (k : Int)),(6,vB false),(10,vB true),(21,vB true)] fun _ => ?_
    refine ⟨_,op_qo (r := d / 2) rfl rfl rfl (by decide) (td_ediv 2 hX0) (by omega) (by omega),?_⟩
    refine cxs ?_
    refine Cu lo0 st [(0,vS p l.length),(2,vI 0),(3,vI (d / 2)),(4,vI (i : Int)),(5,vI (k : Int)),(6,vB false),(10,vB true),(21,vB true),(29,vB false)] fun _ => ?_
    refine cxs ?_
    have ew23 : IntKind.wrap .i64 ((k : Int) + (1)) = ((k + 1 : Nat) : Int) := (wrap_i64 (by omega) (by omega)).trans (by omega)
    refine ⟨_,rfl,?_⟩
    refine ⟨(k + 1,d / 2),8 - (k + 1),by omega,⟨rfl,rfl,rfl,rfl,congrArg (Value.int .i64) ew23,rfl,trivial⟩,rfl,rfl,by omega,?_,rfl⟩
    show d / 2 = crc1 _
    rw [← hd,crc1,if_neg h26]
   ·replace h26 : (d % 2) = (1) := beq_iff_eq.1 h26
    refine Cu lo0 st [(0,vS p l.length),(2,vI 0),(3,vI d),(4,vI (i : Int)),(5,vI (k : Int)),(6,vB true),(10,vB true),(21,vB true)] fun _ => ?_
    refine ⟨_,op_qo (r := d / 2) rfl rfl rfl (by decide) (td_ediv 2 hX0) (by omega) (by omega),?_⟩
    refine cxs ?_
    refine Cu lo0 st [(0,vS p l.length),(2,vI 0),(3,vI (d / 2)),(4,vI (i : Int)),(5,vI (k : Int)),(6,vB true),(10,vB true),(21,vB true),(29,vB true)] fun _ => ?_
    refine ⟨_,op_xr rfl rfl rfl,?_⟩
    refine Cu lo0 st [(0,vS p l.length),(2,vI 0),(3,vI (xr (d / 2) 3988292384)),(4,vI (i : Int)),(5,vI (k : Int)),(6,vB true),(10,vB true),(21,vB true),(29,vB true)] fun _ => ?_
    have ew23 : IntKind.wrap .i64 ((k : Int) + (1)) = ((k + 1 : Nat) : Int) := (wrap_i64 (by omega) (by omega)).trans (by omega)
    refine ⟨_,rfl,?_⟩
    refine ⟨(k + 1,xr (d / 2) 3988292384),8 - (k + 1),by omega,⟨rfl,rfl,rfl,rfl,congrArg (Value.int .i64) ew23,rfl,trivial⟩,rfl,rfl,by omega,?_,rfl⟩
    show xr (d / 2) 3988292384 = crc1 _
    rw [← hd,crc1,if_pos h26]
theorem ac_impl_Crc (p : Option Addr) (l : List Int) (st : St) (hR : Rows st 1 fB p l) (hl : bytesOk l) (hs : l.length ≤ 1099511627776) : C 200 [vS p l.length] st (fun v s => v = vI (crc l) ∧ s = st) := by
 refine AC.enterX (i := ⟨[],[],[0,2,3,5,6,7,8,9,10,17,18,24],[]⟩) [] Tryz.func200 rfl rfl (by kernel_rfl) (by kernel_rfl) Tryz.ntmps200 (Lb rfl) rfl ?_
 refine cxs ?_
 refine Cu lo0 st [(0,vS p l.length),(2,vI 0),(3,vI 4294967295)] fun _ => ?_
 refine ⟨_,rfl,?_⟩
 refine Cu lo0 st [(2,vI 0),(3,vI 4294967295),(7,vS p l.length),(8,vI (l.length : Int)),(9,vI 0)] fun _ => ?_
 refine AW.loop0 (fun x : Nat × Int => [(2,vI (0)),(3,vI x.2),(7,vS p l.length),(8,vI (l.length : Int)),(9,vI (x.1 : Int))]) (fun m (x : Nat × Int) st' => m = l.length - x.1 ∧ x.1 ≤ l.length ∧ x.2 = crcP l x.1 ∧ st = st') (0,4294967295) _ ⟨rfl,rfl,rfl,rfl,rfl,trivial⟩ rfl ⟨rfl,Nat.zero_le _,rfl,rfl⟩ ?_
 rintro m ⟨i,c⟩ ρ0 st' ⟨rfl,hi,hc,rfl⟩
 simp only at hi hc
 have hP : rng32 c := hc ▸ crcP_rng hl i
 refine ⟨_,rfl,?_⟩
 rintro (_|_) h10
 ·replace h10 : ¬ ((i : Int) < (l.length : Int)) := of_decide_eq_false h10
  refine Cu lo0 st [(2,vI 0),(3,vI c),(7,vS p l.length),(8,vI (l.length : Int)),(9,vI (i : Int)),(10,vB false)] fun _ => ?_
  refine cxs ?_
  refine ⟨_,op_xr rfl rfl rfl,?_⟩
  exact cxs (Rt ⟨congrArg vI (by rw [hc,crc,show l.length = i by omega]),rfl⟩)
 ·replace h10 : (i : Int) < (l.length : Int) := of_decide_eq_true h10
  refine Cu lo0 st [(2,vI 0),(3,vI c),(7,vS p l.length),(8,vI (l.length : Int)),(9,vI (i : Int)),(10,vB true)] fun _ => ?_
  refine cxs ?_
  refine op_at i hR (by omega) rfl rfl rfl rfl rfl rfl rfl ?_
  intro x11 b11 d11 k11 hy11 hb11 hm11 hc11 ho11
  refine ⟨_,op_ldc (i := 0) rfl rfl rfl rfl hm11 hc11 rfl rfl,?_⟩
  refine Cu lo0 st [(2,vI 0),(3,vI c),(5,.int .u8 x11),(7,vS p l.length),(8,vI (l.length : Int)),(9,vI (i : Int)),(10,vB true)] fun _ => ?_
  refine ⟨_,op_ofB rfl rfl rfl rfl rfl (hl.at hy11),?_⟩
  refine ⟨_,op_xr rfl rfl rfl,?_⟩
  refine cxs ?_
  refine Cu lo0 st [(2,vI 0),(3,vI (xr c x11)),(5,.int .u8 x11),(7,vS p l.length),(8,vI (l.length : Int)),(9,vI (i : Int)),(10,vB true),(17,vI 0)] fun _ => ?_
  refine AW.loop0 (fun y : Nat × Int => [(2,vI (0)),(3,vI y.2),(5,.int .u8 x11),(7,vS p l.length),(8,vI (l.length : Int)),(9,vI (i : Int)),(10,vB true),(17,vI (y.1 : Int))]) (fun m (y : Nat × Int) st' => m = 8 - y.1 ∧ y.1 ≤ 8 ∧ y.2 = crcN y.1 (xr c x11) ∧ st = st') (0,xr c x11) _ ⟨rfl,rfl,rfl,rfl,rfl,rfl,rfl,rfl,trivial⟩ rfl ⟨rfl,Nat.zero_le _,rfl,rfl⟩ ?_
  rintro m ⟨k,d⟩ ρ0 st' ⟨rfl,hk,hd,rfl⟩
  simp only at hk hd
  have hX : rng32 d := hd ▸ crcN_rng (xr_rng hP (hl.at hy11)) k
  have hX0 := hX.1
  have hX1 := hX.2
  refine ⟨_,rfl,?_⟩
  rintro (_|_) h18
  ·replace h18 : ¬ ((k : Int) < (8)) := of_decide_eq_false h18
   refine Cu lo0 st [(2,vI 0),(3,vI d),(5,.int .u8 x11),(7,vS p l.length),(8,vI (l.length : Int)),(9,vI (i : Int)),(10,vB true),(17,vI (k : Int)),(18,vB false)] fun _ => ?_
   refine cxs ?_
   have ew28 : IntKind.wrap .i64 ((i : Int) + (1)) = ((i + 1 : Nat) : Int) := (wrap_i64 (by omega) (by omega)).trans (by omega)
   refine ⟨_,rfl,?_⟩
   refine ⟨(i + 1,d),l.length - (i + 1),by omega,⟨rfl,rfl,rfl,rfl,congrArg (Value.int .i64) ew28,trivial⟩,rfl,rfl,by omega,?_,rfl⟩
   rw [crcP_succ hy11,← hc,hd,show k = 8 by omega]
   rfl
  ·replace h18 : (k : Int) < (8) := of_decide_eq_true h18
   refine Cu lo0 st [(2,vI 0),(3,vI d),(5,.int .u8 x11),(7,vS p l.length),(8,vI (l.length : Int)),(9,vI (i : Int)),(10,vB true),(17,vI (k : Int)),(18,vB true)] fun _ => ?_
   refine cxs ?_
   refine ⟨_,op_rm (r := d % 2) rfl rfl rfl (by decide) (tm_emod 2 hX0),?_⟩
   refine ⟨_,rfl,?_⟩
   rintro (_|_) h21
   ·replace h21 : ¬ ((d % 2) = (1)) := beq_eq_false_iff_ne.1 h21
    refine Cu lo0 st [(2,vI 0),(3,vI d),(5,.int .u8 x11),(6,vB false),(7,vS p l.length),(8,vI (l.length : Int)),(9,vI (i : Int)),(10,vB true),(17,vI (k : Int)),(18,vB true)] fun _ => ?_
    refine ⟨_,op_qo (r := d / 2) rfl rfl rfl (by decide) (td_ediv 2 hX0) (by omega) (by omega),?_⟩
    refine cxs ?_
    refine Cu lo0 st [(2,vI 0),(3,vI (d / 2)),(5,.int .u8 x11),(6,vB false),(7,vS p l.length),(8,vI (l.length : Int)),(9,vI (i : Int)),(10,vB true),(17,vI (k : Int)),(18,vB true),(24,vB false)] fun _ => ?_
    refine cxs ?_
    have ew27 : IntKind.wrap .i64 ((k : Int) + (1)) = ((k + 1 : Nat) : Int) := (wrap_i64 (by omega) (by omega)).trans (by omega)
    refine ⟨_,rfl,?_⟩
    refine ⟨(k + 1,d / 2),8 - (k + 1),by omega,⟨rfl,rfl,rfl,rfl,rfl,rfl,rfl,congrArg (Value.int .i64) ew27,trivial⟩,rfl,rfl,by omega,?_,rfl⟩
    show d / 2 = crc1 _
    rw [← hd,crc1,if_neg h21]
   ·replace h21 : (d % 2) = (1) := beq_iff_eq.1 h21
    refine Cu lo0 st [(2,vI 0),(3,vI d),(5,.int .u8 x11),(6,vB true),(7,vS p l.length),(8,vI (l.length : Int)),(9,vI (i : Int)),(10,vB true),(17,vI (k : Int)),(18,vB true)] fun _ => ?_
    refine ⟨_,op_qo (r := d / 2) rfl rfl rfl (by decide) (td_ediv 2 hX0) (by omega) (by omega),?_⟩
    refine cxs ?_
    refine Cu lo0 st [(2,vI 0),(3,vI (d / 2)),(5,.int .u8 x11),(6,vB true),(7,vS p l.length),(8,vI (l.length : Int)),(9,vI (i : Int)),(10,vB true),(17,vI (k : Int)),(18,vB true),(24,vB true)] fun _ => ?_
    refine ⟨_,op_xr rfl rfl rfl,?_⟩
    refine Cu lo0 st [(2,vI 0),(3,vI (xr (d / 2) 3988292384)),(5,.int .u8 x11),(6,vB true),(7,vS p l.length),(8,vI (l.length : Int)),(9,vI (i : Int)),(10,vB true),(17,vI (k : Int)),(18,vB true),(24,vB true)] fun _ => ?_
    have ew27 : IntKind.wrap .i64 ((k : Int) + (1)) = ((k + 1 : Nat) : Int) := (wrap_i64 (by omega) (by omega)).trans (by omega)
    refine ⟨_,rfl,?_⟩
    refine ⟨(k + 1,xr (d / 2) 3988292384),8 - (k + 1),by omega,⟨rfl,rfl,rfl,rfl,rfl,rfl,rfl,congrArg (Value.int .i64) ew27,trivial⟩,rfl,rfl,by omega,?_,rfl⟩
    show xr (d / 2) 3988292384 = crc1 _
    rw [← hd,crc1,if_pos h21]
def vlq (n : Nat) : List Int := if h : n < 128 then [(n : Int)] else ((n % 128 + 128 : Nat) : Int) :: vlq (n / 128)
termination_by n
decreasing_by omega
def putN (n : Int) : List Int := if 0 ≤ n ∧ n ≤ 2147483647 then vlq n.toNat else []
theorem vlq_lt {n : Nat} (h : n < 128) : vlq n = [(n : Int)] := by rw [vlq,dif_pos h]
theorem vlq_ge {n : Nat} (h : ¬ n < 128) : vlq n = ((n % 128 + 128 : Nat) : Int) :: vlq (n / 128) := by rw [vlq,dif_neg h]
theorem vlq_len : ∀ (f n : Nat),n < 128 ^ (f + 1) → (vlq n).length ≤ f + 1
 | 0,n,h => by rw [vlq_lt (by omega)]; exact Nat.le_refl _
 | f + 1,n,h => by
  by_cases h1 : n < 128
  ·rw [vlq_lt h1]; simp
  ·rw [vlq_ge h1,List.length_cons]
   have := vlq_len f (n / 128) (by rw [Nat.pow_succ] at h; omega)
   omega
theorem vlq_pos (n : Nat) : 0 < (vlq n).length := by
 by_cases h1 : n < 128
 ·rw [vlq_lt h1]; exact Nat.one_pos
 ·rw [vlq_ge h1,List.length_cons]; omega
theorem vlq_ok : ∀ (f n : Nat),n < 128 ^ (f + 1) → bytesOk (vlq n)
 | 0,n,h => by
  rw [vlq_lt (by omega)]
  intro x hx
  rw [List.mem_singleton.1 hx]
  omega
 | f + 1,n,h => by
  by_cases h1 : n < 128
  ·rw [vlq_lt h1]
   intro x hx
   rw [List.mem_singleton.1 hx]
   omega
  ·rw [vlq_ge h1]
   intro x hx
   rcases List.mem_cons.1 hx with rfl | hx
   ·omega
   ·exact vlq_ok f (n / 128) (by rw [Nat.pow_succ] at h; omega) x hx
theorem putN_len (n : Int) : (putN n).length ≤ 5 := by
 unfold putN
 split
 ·exact vlq_len 4 _ (by omega)
 ·exact Nat.zero_le _
theorem putN_ok (n : Int) : bytesOk (putN n) := by
 unfold putN
 split
 ·exact vlq_ok 4 _ (by omega)
 ·intro x hx; cases hx
theorem bytesOk.app {a b : List Int} (ha : bytesOk a) (hb : bytesOk b) : bytesOk (a ++ b) := fun x hx => by
 rcases List.mem_append.1 hx with h | h
 ·exact ha x h
 ·exact hb x h
theorem ac_spec_PutNum (n : Int) (st : St) : C 215 [vI n] st (fun v s => ∃ q,v = vS q (putN n).length ∧ OwnR s 1 fB q (putN n) ∧ New st.next q ∧ Pres st s) := by
 refine AC.enterX (i := ⟨[],[],[0,2,3,7,10],[]⟩) [] Tryz.func215 rfl rfl (by kernel_rfl) (by kernel_rfl) Tryz.ntmps215 (Lb rfl) rfl ?_
 refine Cu lo0 st [(0,vI n),(2,Sn)] fun _ => ?_
 refine op_nilK (z := 1) (f := fB) rfl rfl rfl rfl (by decide) rfl ?_
 intro q4 s4 hO4 hP4 hN4
 refine Cu lo0 s4 [(0,vI n),(2,Sn),(3,vS q4 0)] fun _ => ?_
 refine ⟨_,rfl,(ac_spec_l1In n 0 2147483647 s4).mono ?_⟩
 rintro _ s4 ⟨x6,rfl,h6,rfl⟩
 rcases x6 with _|_
 ·replace h6 := of_decide_eq_false h6.symm
  refine ⟨_,rfl,?_⟩
  refine Cu lo0 s4 [(0,vI n),(2,Sn),(3,vS q4 0),(7,vB true)] fun _ => ?_
  refine cxs ?_
  refine ⟨.inl rfl,_,rfl,?_⟩
  rw [show putN n = [] from if_neg h6]
  exact ⟨q4,rfl,hO4,hN4,hP4⟩
 ·replace h6 := of_decide_eq_true h6.symm
  refine ⟨_,rfl,?_⟩
  refine Cu lo0 s4 [(0,vI n),(2,Sn),(3,vS q4 0),(7,vB false)] fun _ => ?_
  obtain ⟨n,rfl⟩ := Int.eq_ofNat_of_zero_le h6.1
  have hpn : vlq n = putN n := (if_pos h6).symm
  have hpl := putN_len n
  refine cxs ?_
  refine AW.loop0 (fun x : Nat × Option Addr × List Int => [(0,vI (x.1 : Int)),(2,.slice none 0 0),(3,vS x.2.1 x.2.2.length)]) (fun m (x : Nat × Option Addr × List Int) st' => m = x.1 ∧ x.1 ≤ n ∧ x.2.2 ++ vlq x.1 = putN n ∧ OwnR st' 1 fB x.2.1 x.2.2 ∧ New st.next x.2.1 ∧ Pres st st') (n,q4,[]) _ ⟨rfl,rfl,rfl,trivial⟩ rfl ⟨rfl,Nat.le_refl _,hpn,hO4,hN4,hP4⟩ ?_
  rintro m ⟨k,q,l⟩ ρ0 st' ⟨hm,hk,hv,hO,hN,hP⟩
  simp only at hm hk hv hO hN
  have hvl := congrArg List.length hv
  rw [List.length_append] at hvl
  have hv1 := vlq_pos k
  refine ⟨_,rfl,?_⟩
  rintro (_|_) h10
  ·replace h10 : ¬ ((k : Int) > (127)) := of_decide_eq_false h10
   refine Cu lo0 st' [(0,vI (k : Int)),(2,Sn),(3,vS q l.length),(10,vB false)] fun _ => ?_
   refine cxs ?_
   refine ⟨_,op_toB (r := (k : Int)) rfl rfl rfl rfl rfl rfl (by omega) (by omega),?_⟩
   refine op_one (z := 1) (a := ((k : Int) : Int)) (f := fB) rfl rfl rfl rfl rfl (by decide) rfl (Lb rfl) rfl rfl rfl ?_
   refine op_snoc (z := 1) (st := st') (f := fB) (b := 1) (l := l) (x := (k : Int)) rfl rfl rfl rfl rfl rfl rfl (by decide) fB_len rfl rfl rfl (by omega) (by unfold maxLen; omega) hO ?_
   intro q24 s24 hO24 hP24 hN24
   refine cxs ?_
   refine ⟨.inl rfl,_,rfl,q24,?_⟩
   rw [← hv,vlq_lt (n := k) (by omega)]
   exact ⟨rfl,hO24,hN24.le hP.1,hP24.pres hP hN⟩
  ·replace h10 : (k : Int) > (127) := of_decide_eq_true h10
   refine Cu lo0 st' [(0,vI (k : Int)),(2,Sn),(3,vS q l.length),(10,vB true)] fun _ => ?_
   refine cxs ?_
   refine ⟨_,op_rm (r := ((k % 128 : Nat) : Int)) rfl rfl rfl (by decide) ((tm_emod 128 (by omega)).trans (by omega)),?_⟩
   have ew14 : IntKind.wrap .i64 (((k % 128 : Nat) : Int) + (128)) = ((k % 128 + 128 : Nat) : Int) := (wrap_i64 (by omega) (by omega)).trans (by omega)
   refine ⟨_,rfl,?_⟩
   refine ⟨_,op_toB (r := ((k % 128 + 128 : Nat) : Int)) rfl rfl rfl rfl rfl (ew14.trans (by omega)) (by omega) (by omega),?_⟩
   refine op_one (z := 1) (a := (((k % 128 + 128 : Nat) : Int) : Int)) (f := fB) rfl rfl rfl rfl rfl (by decide) rfl (Lb rfl) rfl rfl rfl ?_
   refine op_snoc (z := 1) (st := st') (f := fB) (b := 1) (l := l) (x := ((k % 128 + 128 : Nat) : Int)) rfl rfl rfl rfl rfl rfl rfl (by decide) fB_len rfl rfl rfl (by omega) (by unfold maxLen; omega) hO ?_
   intro q17 s17 hO17 hP17 hN17
   refine Cu lo0 s17 [(0,vI (k : Int)),(2,Sn),(3,vS q17 (l ++ [((k % 128 + 128 : Nat) : Int)]).length),(10,vB true)] fun _ => ?_
   refine ⟨_,op_qo (r := ((k / 128 : Nat) : Int)) rfl rfl rfl (by decide) ((td_ediv 128 (by omega)).trans (by omega)) (by omega) (by omega),?_⟩
   exact ⟨(k / 128,q17,l ++ [((k % 128 + 128 : Nat) : Int)]),k / 128,by omega,⟨rfl,rfl,rfl,trivial⟩,rfl,rfl,by simp only; omega,by rw [← hv,vlq_ge (n := k) (by omega),List.append_assoc]; rfl,hO17,hN17.le hP.1,hP17.pres hP hN⟩
theorem ac_impl_PutNum (n : Int) (st : St) : C 204 [vI n] st (fun v s => ∃ q,v = vS q (putN n).length ∧ OwnR s 1 fB q (putN n) ∧ New st.next q ∧ Pres st s) := by
 refine AC.enterX (i := ⟨[],[],[0,2,3,6,9],[]⟩) [] Tryz.func204 rfl rfl (by kernel_rfl) (by kernel_rfl) Tryz.ntmps204 (Lb rfl) rfl ?_
 refine Cu lo0 st [(0,vI n),(2,Sn)] fun _ => ?_
 refine ⟨_,rfl,(ac_impl_within n 0 2147483647 st).mono ?_⟩
 rintro _ st ⟨x5,rfl,h5,rfl⟩
 rcases x5 with _|_
 ·replace h5 := of_decide_eq_false h5.symm
  refine ⟨_,rfl,?_⟩
  refine Cu lo0 st [(0,vI n),(2,Sn),(6,vB true)] fun _ => ?_
  refine cxs ?_
  refine ⟨.inl rfl,_,rfl,?_⟩
  rw [show putN n = [] from if_neg h5]
  exact ⟨none,rfl,OwnR.nil,New.none,Pres.refl _⟩
 ·replace h5 := of_decide_eq_true h5.symm
  refine ⟨_,rfl,?_⟩
  refine Cu lo0 st [(0,vI n),(2,Sn),(6,vB false)] fun _ => ?_
  obtain ⟨n,rfl⟩ := Int.eq_ofNat_of_zero_le h5.1
  have hpn : vlq n = putN n := (if_pos h5).symm
  have hpl := putN_len n
  refine cxs ?_
  refine op_nilK (z := 1) (f := fB) rfl rfl rfl rfl (by decide) rfl ?_
  intro q7 s7 hO7 hP7 hN7
  refine Cu lo0 s7 [(0,vI n),(2,Sn),(3,vS q7 0)] fun _ => ?_
  refine AW.loop0 (fun x : Nat × Option Addr × List Int => [(0,vI (x.1 : Int)),(2,.slice none 0 0),(3,vS x.2.1 x.2.2.length)]) (fun m (x : Nat × Option Addr × List Int) st' => m = x.1 ∧ x.1 ≤ n ∧ x.2.2 ++ vlq x.1 = putN n ∧ OwnR st' 1 fB x.2.1 x.2.2 ∧ New st.next x.2.1 ∧ Pres st st') (n,q7,[]) _ ⟨rfl,rfl,rfl,trivial⟩ rfl ⟨rfl,Nat.le_refl _,hpn,hO7,hN7,hP7⟩ ?_
  rintro m ⟨k,q,l⟩ ρ0 st' ⟨hm,hk,hv,hO,hN,hP⟩
  simp only at hm hk hv hO hN
  have hvl := congrArg List.length hv
  rw [List.length_append] at hvl
  have hv1 := vlq_pos k
  refine ⟨_,rfl,?_⟩
  rintro (_|_) h9
  ·replace h9 : ¬ ((k : Int) ≥ (128)) := of_decide_eq_false h9
   refine Cu lo0 st' [(0,vI (k : Int)),(2,Sn),(3,vS q l.length),(9,vB false)] fun _ => ?_
   refine cxs ?_
   refine ⟨_,op_toB (r := (k : Int)) rfl rfl rfl rfl rfl rfl (by omega) (by omega),?_⟩
   refine op_one (z := 1) (a := ((k : Int) : Int)) (f := fB) rfl rfl rfl rfl rfl (by decide) rfl (Lb rfl) rfl rfl rfl ?_
   refine op_snoc (z := 1) (st := st') (f := fB) (b := 1) (l := l) (x := (k : Int)) rfl rfl rfl rfl rfl rfl rfl (by decide) fB_len rfl rfl rfl (by omega) (by unfold maxLen; omega) hO ?_
   intro q23 s23 hO23 hP23 hN23
   refine cxs ?_
   refine ⟨.inl rfl,_,rfl,q23,?_⟩
   rw [← hv,vlq_lt (n := k) (by omega)]
   exact ⟨rfl,hO23,hN23.le hP.1,hP23.pres hP hN⟩
  ·replace h9 : (k : Int) ≥ (128) := of_decide_eq_true h9
   refine Cu lo0 st' [(0,vI (k : Int)),(2,Sn),(3,vS q l.length),(9,vB true)] fun _ => ?_
   refine cxs ?_
   refine ⟨_,op_rm (r := ((k % 128 : Nat) : Int)) rfl rfl rfl (by decide) ((tm_emod 128 (by omega)).trans (by omega)),?_⟩
   have ew13 : IntKind.wrap .i64 (((k % 128 : Nat) : Int) + (128)) = ((k % 128 + 128 : Nat) : Int) := (wrap_i64 (by omega) (by omega)).trans (by omega)
   refine ⟨_,rfl,?_⟩
   refine ⟨_,op_toB (r := ((k % 128 + 128 : Nat) : Int)) rfl rfl rfl rfl rfl (ew13.trans (by omega)) (by omega) (by omega),?_⟩
   refine op_one (z := 1) (a := (((k % 128 + 128 : Nat) : Int) : Int)) (f := fB) rfl rfl rfl rfl rfl (by decide) rfl (Lb rfl) rfl rfl rfl ?_
   refine op_snoc (z := 1) (st := st') (f := fB) (b := 1) (l := l) (x := ((k % 128 + 128 : Nat) : Int)) rfl rfl rfl rfl rfl rfl rfl (by decide) fB_len rfl rfl rfl (by omega) (by unfold maxLen; omega) hO ?_
   intro q16 s16 hO16 hP16 hN16
   refine Cu lo0 s16 [(0,vI (k : Int)),(2,Sn),(3,vS q16 (l ++ [((k % 128 + 128 : Nat) : Int)]).length),(9,vB true)] fun _ => ?_
   refine ⟨_,op_qo (r := ((k / 128 : Nat) : Int)) rfl rfl rfl (by decide) ((td_ediv 128 (by omega)).trans (by omega)) (by omega) (by omega),?_⟩
   exact ⟨(k / 128,q16,l ++ [((k % 128 + 128 : Nat) : Int)]),k / 128,by omega,⟨rfl,rfl,rfl,trivial⟩,rfl,rfl,by simp only; omega,by rw [← hv,vlq_ge (n := k) (by omega),List.append_assoc]; rfl,hO16,hN16.le hP.1,hP16.pres hP hN⟩
def fl (t : List RV) : List Int := t.flatMap fun r => r.l
theorem fl_succ {t : List RV} {i : Nat} {r : RV} (h : t[i]? = some r) : fl (t.take (i + 1)) = fl (t.take i) ++ r.l := by
 unfold fl
 rw [List.take_add_one,h,List.flatMap_append]
 simp
theorem fl_le (t : List RV) (i : Nat) : (fl (t.take i)).length ≤ (fl t).length := by
 unfold fl
 conv => rhs; rw [← List.take_append_drop i t]
 rw [List.flatMap_append,List.length_append]
 omega
theorem ac_impl_joined (p : Option Addr) (t : List RV) (st : St) (hR : Rows st 1 cRV p t) (hB : ∀ r ∈ t,Rows st 1 fB r.p r.l) (hs : szOk t.length) (hl : (fl t).length ≤ 1073741824) : C 203 [vS p t.length] st (fun v s => ∃ q,v = vS q (fl t).length ∧ OwnR s 1 fB q (fl t) ∧ New st.next q ∧ Pres st s) := by
 have hs : t.length ≤ 1048576 := hs
 refine AC.enterX (i := ⟨[],[],[0,2,3,5,7,8,9,10],[]⟩) [] Tryz.func203 rfl rfl (by kernel_rfl) (by kernel_rfl) Tryz.ntmps203 (Lb rfl) rfl ?_
 refine Cu lo0 st [(0,vS p t.length),(2,Sn)] fun _ => ?_
 refine op_nilK (z := 1) (f := fB) rfl rfl rfl rfl (by decide) rfl ?_
 intro q6 s6 hO6 hP6 hN6
 refine Cu lo0 s6 [(0,vS p t.length),(2,Sn),(3,vS q6 0)] fun _ => ?_
 refine ⟨_,rfl,?_⟩
 refine Cu lo0 s6 [(2,Sn),(3,vS q6 0),(7,vS p t.length),(8,vI (t.length : Int)),(9,vI 0)] fun _ => ?_
 refine AW.loop0 (fun x : Nat × Option Addr × List Int => [(2,.slice none 0 0),(3,vS x.2.1 x.2.2.length),(7,vS p t.length),(8,vI (t.length : Int)),(9,vI (x.1 : Int))]) (fun m (x : Nat × Option Addr × List Int) st' => m = t.length - x.1 ∧ x.1 ≤ t.length ∧ x.2.2 = fl (t.take x.1) ∧ OwnR st' 1 fB x.2.1 x.2.2 ∧ New st.next x.2.1 ∧ Pres st st') (0,q6,[]) _ ⟨rfl,rfl,rfl,rfl,rfl,trivial⟩ rfl ⟨rfl,Nat.zero_le _,rfl,hO6,hN6,hP6⟩ ?_
 rintro m ⟨i,q,l⟩ ρ0 st' ⟨rfl,hi,hv,hO,hN,hP⟩
 simp only at hi hv hO hN
 refine ⟨_,rfl,?_⟩
 rintro (_|_) h10
 ·replace h10 : ¬ ((i : Int) < (t.length : Int)) := of_decide_eq_false h10
  refine Cu lo0 st' [(2,Sn),(3,vS q l.length),(7,vS p t.length),(8,vI (t.length : Int)),(9,vI (i : Int)),(10,vB false)] fun _ => ?_
  refine cxs ?_
  refine cxs ?_
  refine ⟨.inl rfl,_,rfl,q,?_⟩
  rw [show fl t = l by rw [hv,show i = t.length by omega,List.take_length]]
  exact ⟨rfl,hO,hN,hP⟩
 ·replace h10 : (i : Int) < (t.length : Int) := of_decide_eq_true h10
  refine Cu lo0 st' [(2,Sn),(3,vS q l.length),(7,vS p t.length),(8,vI (t.length : Int)),(9,vI (i : Int)),(10,vB true)] fun _ => ?_
  refine cxs ?_
  refine op_at i (hP.rows hR) (by omega) rfl rfl rfl rfl rfl rfl rfl ?_
  intro x11 b11 d11 k11 hy11 hb11 hm11 hc11 ho11
  refine ⟨_,op_ldc (i := 0) rfl rfl rfl rfl hm11 hc11 rfl rfl,?_⟩
  refine Cu lo0 st' [(2,Sn),(3,vS q l.length),(5,vS x11.p x11.l.length),(7,vS p t.length),(8,vI (t.length : Int)),(9,vI (i : Int)),(10,vB true)] fun _ => ?_
  have hsc := fl_succ hy11
  have hle := fl_le t (i + 1)
  have hll := congrArg List.length hsc
  rw [List.length_append,← hv] at hll
  have hrb := hB _ (List.mem_of_getElem? hy11)
  refine op_cat' (z := 1) (st := st') (f := fB) (b := 1) (l := l) (l2 := x11.l) rfl rfl rfl rfl rfl rfl rfl (by decide) fB_len rfl rfl rfl rfl (by first | omega | (simp only [List.length_nil]; omega)) (by unfold maxLen; first | omega | (simp only [List.length_nil]; omega)) hO (hP.rows hrb) ?_
  intro q15 s15 hO15 hPr15 hN15
  refine Cu lo0 s15 [(2,Sn),(3,vS q15 (l ++ x11.l).length),(5,vS x11.p x11.l.length),(7,vS p t.length),(8,vI (t.length : Int)),(9,vI (i : Int)),(10,vB true)] fun _ => ?_
  have ew16 : IntKind.wrap .i64 ((i : Int) + (1)) = ((i + 1 : Nat) : Int) := (wrap_i64 (by omega) (by omega)).trans (by omega)
  refine ⟨_,rfl,?_⟩
  refine ⟨(i + 1,q15,l ++ x11.l),t.length - (i + 1),by omega,⟨rfl,rfl,rfl,rfl,congrArg (Value.int .i64) ew16,trivial⟩,rfl,rfl,by omega,by rw [hsc,← hv],hO15,?_,hPr15.pres hP hN⟩
  rcases hN15 with ⟨h,_⟩ | ⟨_,h⟩
  ·rw [h]; exact hN
  ·exact h.le hP.1
theorem OwnP.perm {st : St} {l m : List Pc} (h : OwnP st l) (hp : l.Perm m) : OwnP st m := ⟨fun c hc => h.1 c (hp.mem_iff.2 hc),(hp.pairwise_iff fun hd => hd.symm).1 h.2⟩
theorem OwnP.front1 {st : St} {a b y : List Pc} (h : OwnP st (a ++ (b ++ y))) : OwnP st (b ++ (a ++ y)) := h.perm (by
 rw [← List.append_assoc,← List.append_assoc]
 exact List.perm_append_comm.append_right y)
theorem OwnP.front2 {st : St} {a b c y : List Pc} (h : OwnP st (a ++ (b ++ (c ++ y)))) : OwnP st (c ++ (a ++ (b ++ y))) := by
 have h1 : OwnP st ((a ++ b) ++ (c ++ y)) := by rw [List.append_assoc]; exact h
 have h2 := h1.front1
 rw [List.append_assoc] at h2
 exact h2
theorem OwnP.front3 {st : St} {a b c d y : List Pc} (h : OwnP st (a ++ (b ++ (c ++ (d ++ y))))) : OwnP st (d ++ (a ++ (b ++ (c ++ y)))) := by
 have h1 : OwnP st ((a ++ b) ++ (c ++ (d ++ y))) := by rw [List.append_assoc]; exact h
 have h2 := h1.front2
 rw [List.append_assoc] at h2
 exact h2
theorem OwnP.joinF {st st' : St} {l m : List Pc} (h : OwnP st l) (hp : Pres st st') (k : OwnP st' m) (hn : NewP st.next m) : OwnP st' (m ++ l) :=
 OwnP.app k (h.pres hp) fun a ha b hb => (Dis.of (h.1 b hb).old (hn a ha)).symm
theorem OwnP.markG {st st' : St} {m m' y : List Pc} (h : OwnP st (m ++ y)) (hM : OwnP st' m') (hp : m'.map (·.p) = m.map (·.p)) (hL : PrL (m.map (·.p)) st st') : OwnP st' (m' ++ y) := by
 have hd := (List.pairwise_append.1 h.2).2.2
 refine hM.app (h.right.prl hL fun c hc p hp' => ?_) fun a ha b hb => ?_
 ·obtain ⟨d,hd1,rfl⟩ := List.mem_map.1 hp'
  exact hd d hd1 c hc
 ·have : a.p ∈ m.map (·.p) := by rw [← hp]; exact List.mem_map_of_mem ha
  obtain ⟨d,hd1,he⟩ := List.mem_map.1 this
  rw [← he]; exact hd d hd1 b hb
theorem newPs {n : Nat} {l : List Pc} (h : NewP n l) : ∀ p ∈ l.map (·.p),New n p := fun p hp => by
 obtain ⟨c,hc,rfl⟩ := List.mem_map.1 hp
 exact h c hc
abbrev cntState (x : Sta) : Nat := cntS x
def mkState (u : SV) (k : Int) : SV := ⟨u.p,u.q,mkS u.x k⟩
theorem cnt_State {x : Sta} (h : bigS x) : cntState x ≤ 8388608 := by
 have h1 : x.items.length ≤ 1048576 := h.1
 have h2 : x.floors.length ≤ 1048576 := h.2.1
 unfold cntState cntS
 omega
theorem mkp_State (u : SV) (k : Int) : (pcS (mkState u k)).map (·.p) = (pcS u).map (·.p) := rfl
theorem uc_markState (u : SV) (k : Int) (st : St) (hO : OwnP st (pcS u)) (hb : bigS u.x) (h0 : 0 ≤ k) (hk : k ≤ 137438953472) : C 43 [.agg #[vS u.p u.x.items.length,vS u.q u.x.floors.length],vI k] st (fun v s => v = vI (k + (cntState u.x : Int)) ∧ OwnP s (pcS (mkState u k)) ∧ PrL ((pcS u).map (·.p)) st s) :=
 (ac_laws_markState u k st hO hb h0 (by omega)).mono fun v s ⟨h1,h2,h3⟩ => ⟨h1.trans (congrArg (Value.int .i64) (by unfold cntState cntS; omega)),h2,h3⟩
theorem uc_heldState (u : SV) (k : Int) (st : St) (hR : RdS st (mkState u k)) (hb : bigS u.x) (h0 : 0 ≤ k) (hk : k ≤ 137438953472) : C 45 [.agg #[vS u.p u.x.items.length,vS u.q u.x.floors.length],vI k] st (fun v s => v = vI (k + (cntState u.x : Int)) ∧ Pres st s) :=
 (ac_laws_heldState u k st hR hb h0 (by omega)).mono fun v s ⟨h1,h2⟩ => ⟨h1.trans (congrArg (Value.int .i64) (by unfold cntState cntS; omega)),h2⟩
structure LW where
 cap : Int
 frm : Int
 p : Option Addr
 l : List SV
 C : Pc
 ok : l = [] ∨ ∃ a o,C.p = some ⟨a,0,none⟩ ∧ p = some ⟨a,o,none⟩ ∧ ∀ (j : Nat) x,l[j]? = some x → (C.cs.drop (o + j * 2)).take 2 = cSV x
abbrev LW.v (g : LW) : LV := ⟨g.cap,g.frm,g.p,g.l⟩
abbrev LW.x (g : LW) : Lg := g.v.x
abbrev pcLog (g : LW) : List Pc := g.C :: g.l.flatMap pcS
theorem LW.rows {st : St} {g : LW} (h : g.C.own st) : Rows st 2 cSV g.p g.l := by
 rcases g.ok with h0 | ⟨a,o,h1,h2,h3⟩
 ·exact .inl h0
 ·rcases h with ⟨h4,_⟩ | ⟨b,h4,hb,hm⟩
  ·rw [h1] at h4; cases h4
  ·rw [h1] at h4
   injection h4 with h4
   injection h4 with h4
   subst h4
   exact .inr ⟨a,o,_,h2,hm,hb,h3⟩
theorem OwnP.rdLog {st : St} {g : LW} (h : OwnP st (pcLog g)) : RdL st g.p g.l := ⟨LW.rows (h.1 _ (List.mem_cons_self ..)),fun s hs => (h.tail.state hs).rdS⟩
theorem OwnP.lw {st : St} {u : LV} (h : OwnP st (pcL u.p u.l)) : ∃ g : LW,g.v = u ∧ OwnP st (pcLog g) ∧ g.C = pcR 2 cSV u.p u.l := by
 refine ⟨⟨u.cap,u.frm,u.p,u.l,pcR 2 cSV u.p u.l,?_⟩,rfl,h,rfl⟩
 rcases h.louter with ⟨_,h2⟩ | ⟨a,h1,_⟩
 ·exact .inl h2
 ·exact .inr ⟨a,0,h1,h1,fun j x hx => by rw [Nat.zero_add]; exact flat_at (l := u.l) len_cSV hx⟩
def bigLog (g : Lg) : Prop := szOk g.list.length ∧ ∀ s ∈ g.list,bigS s
theorem bigLog_iff {g : LV} : bigLog g.x ↔ bigL g.l := by
 refine ⟨fun h => ⟨by have := h.1; simpa [LV.x] using this,fun s hs => h.2 s.x (List.mem_map_of_mem hs)⟩,fun h => ⟨by have := h.1; simpa [LV.x] using this,fun s hs => ?_⟩⟩
 obtain ⟨r,hr,rfl⟩ := List.mem_map.1 hs
 exact h.2 r hr
def cntLog (g : Lg) : Nat := sumOf cntS g.list
theorem cntLog_l (g : LV) : cntLog g.x = cntL g.l := by simp [cntLog,cntL,sumOf,LV.x,Function.comp_def]
theorem mkL_getX : ∀ {l : List SV} {k : Int} {j : Nat} {x : SV},(mkL l k)[j]? = some x → ∃ y,l[j]? = some y ∧ cSV x = cSV y
 | [],_,_,_,h => by cases h
 | s :: l,k,0,x,h => by
  rw [mkL,List.getElem?_cons_zero] at h
  injection h with h
  exact ⟨s,rfl,by rw [← h]; simp [cSV,mkS,mkRow_len]⟩
 | s :: l,k,j + 1,x,h => by
  rw [mkL,List.getElem?_cons_succ] at h
  obtain ⟨y,h1,h2⟩ := mkL_getX h
  exact ⟨y,h1,h2⟩
def mkLog (g : LW) (k : Int) : LW := ⟨g.cap,g.frm,g.p,mkL g.l k,g.C,by
 rcases g.ok with h | ⟨a,o,h1,h2,h3⟩
 ·exact .inl (by rw [h]; rfl)
 ·refine .inr ⟨a,o,h1,h2,fun j x hx => ?_⟩
  obtain ⟨y,hy,he⟩ := mkL_getX hx
  rw [he]; exact h3 j y hy⟩
theorem mkL_p : ∀ (l : List SV) (k : Int),((mkL l k).flatMap pcS).map (·.p) = (l.flatMap pcS).map (·.p)
 | [],_ => rfl
 | s :: l,k => by
  rw [mkL,List.flatMap_cons,List.flatMap_cons,List.map_append,List.map_append,mkL_p l]
  rfl
theorem mkp_Log (u : LW) (k : Int) : (pcLog (mkLog u k)).map (·.p) = (pcLog u).map (·.p) := by
 show u.C.p :: ((mkL u.l k).flatMap pcS).map (·.p) = u.C.p :: (u.l.flatMap pcS).map (·.p)
 rw [mkL_p]
theorem uc_toLog (g : LV) (st : St) (hR : RdL st g.p g.l) (hb : bigLog g.x) : C 113 [.agg #[vI g.cap,vI g.frm,vS g.p g.l.length]] st (fun v s => ∃ u : LW,v = .agg #[vI u.cap,vI u.frm,vS u.p u.l.length] ∧ u.v.x = g.x ∧ OwnP s (pcLog u) ∧ NewP st.next (pcLog u) ∧ Pres st s) :=
 (ac_laws_toLog g st hR (bigLog_iff.1 hb)).mono fun v s ⟨u,h1,h2,h3,h4,h5⟩ => by
  obtain ⟨w,hw,hO,hC⟩ := h3.lw
  subst hw
  refine ⟨w,h1,h2,hO,?_,h5⟩
  show NewP st.next (w.C :: w.l.flatMap pcS)
  rw [hC]; exact h4
theorem uc_markLog (u : LW) (k : Int) (st : St) (hO : OwnP st (pcLog u)) (hb : bigLog u.v.x) (h0 : 0 ≤ k) (hk : k + (cntLog u.v.x : Int) ≤ 137438953472) : C 127 [.agg #[vI u.cap,vI u.frm,vS u.p u.l.length],vI k] st (fun v s => v = vI (k + (cntLog u.v.x : Int)) ∧ OwnP s (pcLog (mkLog u k)) ∧ PrL ((pcLog u).map (·.p)) st s) := by
 have hb' := bigLog_iff.1 hb
 have hc : cntLog u.v.x = cntL u.l := cntLog_l u.v
 have hdis := List.pairwise_cons.1 hO.2
 have hd : ∀ q ∈ (u.l.flatMap pcS).map (·.p),Dis u.p q := fun q hq => by
  obtain ⟨c,hc,rfl⟩ := List.mem_map.1 hq
  have h1 := hdis.1 c hc
  rcases u.ok with h0 | ⟨a,o,h2,h3,_⟩
  ·rw [h0] at hc; cases hc
  ·intro x y hx hy
   rw [h3] at hx
   injection hx with hx
   rw [← hx]
   exact h1 ⟨a,0,none⟩ y h2 hy
 refine (ac_laws_markLog u.v k st (LW.rows (hO.1 _ (List.mem_cons_self ..))) hO.tail hd hb' h0 (by simp only; omega)).mono fun v s ⟨h1,h2,h3⟩ => ?_
 have h4 : PrL ((pcLog u).map (·.p)) st s := h3.mono fun p hp => List.mem_cons_of_mem _ hp
 refine ⟨h1.trans (by rw [hc]),?_,h4⟩
 have hO' : OwnP st (u.l.flatMap pcS ++ [u.C]) := hO.perm (List.perm_append_comm (l₁ := [u.C]))
 exact (OwnP.markG hO' h2 (mkL_p _ _) h3).perm (List.perm_append_comm (l₂ := [u.C]))
theorem uc_heldLog (u : LW) (k : Int) (st : St) (hR : RdL st (mkLog u k).p (mkLog u k).l) (hC : Rows st 2 cSV u.p u.l) (hb : bigLog u.v.x) (h0 : 0 ≤ k) (hk : k + (cntLog u.v.x : Int) ≤ 137438953472) : C 135 [.agg #[vI u.cap,vI u.frm,vS u.p u.l.length],vI k] st (fun v s => v = vI (k + (cntLog u.v.x : Int)) ∧ Pres st s) := by
 have hc : cntLog u.v.x = cntL u.l := cntLog_l u.v
 refine (ac_laws_heldLog u.v k st hC hR.2 (bigLog_iff.1 hb) h0 (by simp only; omega)).mono fun v s ⟨h1,h2⟩ => ⟨h1.trans (by rw [hc]),h2⟩
def mkInts (n : Nat) (k : Int) : List Int := (List.range n).map fun (j : Nat) => k + (j : Int)
theorem mkInts_len (n : Nat) (k : Int) : (mkInts n k).length = n := by simp [mkInts]
theorem mkInts_get {n : Nat} {k : Int} {j : Nat} {x : Int} (h : (mkInts n k)[j]? = some x) : x = k + (j : Int) := by
 have hj := (List.getElem?_eq_some_iff.1 h).1
 rw [mkInts_len] at hj
 simp [mkInts,List.getElem?_range hj] at h
 exact h.symm
theorem mark_set {l : List Int} {k : Int} {i : Nat} (hi : i < l.length) : (mkInts i k ++ l.drop i).set i (k + (i : Int)) = mkInts (i + 1) k ++ l.drop (i + 1) := by
 have h1 : mkInts (i + 1) k = mkInts i k ++ [k + (i : Int)] := by simp [mkInts,List.range_succ]
 rw [List.set_append_right _ _ (by rw [mkInts_len]; exact Nat.le_refl _),mkInts_len,Nat.sub_self,List.drop_eq_getElem_cons hi,List.set_cons_zero,h1]
 simp
theorem ac_laws_markIntS (p : Option Addr) (l : List Int) (k : Int) (st : St) (hO : OwnR st 1 fI p l) (hs : szOk l.length) (h0 : 0 ≤ k) (hk : k ≤ 1125899906842624) : C 128 [vS p l.length,vI k] st (fun v s => v = vI (k + (l.length : Int)) ∧ OwnR s 1 fI p (mkInts l.length k) ∧ Pr p st s) := by
 have hs : l.length ≤ 1048576 := hs
 refine AC.enterX (i := ⟨[],[],[0,1,4,5,9],[]⟩) [] Tryz.func128 rfl rfl (by kernel_rfl) (by kernel_rfl) Tryz.ntmps128 (Lb rfl) rfl ?_
 refine cxs ?_
 refine Cu lo0 st [(0,vS p l.length),(1,vI k),(4,vI 0),(5,vI 0)] fun _ => ?_
 refine AW.loop0 (fun i : Nat => [(0,vS p l.length),(1,vI (k + (i : Int))),(5,vI (i : Int))]) (fun m (i : Nat) st' => m = l.length - i ∧ i ≤ l.length ∧ OwnR st' 1 fI p (mkInts i k ++ l.drop i) ∧ Pr p st st') 0 _ ⟨rfl,congrArg (Value.int .i64) (Int.add_zero k).symm,rfl,trivial⟩ rfl ⟨rfl,Nat.zero_le _,by simpa [mkInts] using hO,Pr.refl _ _⟩ ?_
 rintro m i ρ0 st' ⟨rfl,hi,hO',hP'⟩
 iterate 2 refine ⟨_,rfl,?_⟩
 rintro (_|_) h1
 ·replace h1 : ¬ ((i : Int) < (l.length : Int)) := of_decide_eq_false h1
  refine Cu lo0 st' [(0,vS p l.length),(1,vI (k + (i : Int))),(5,vI (i : Int)),(9,vB false)] fun _ => ?_
  refine cxs ?_
  refine cxs ?_
  have hil : i = l.length := by omega
  subst hil
  rw [List.drop_length,List.append_nil] at hO'
  exact Rt ⟨rfl,hO',hP'⟩
 ·replace h1 : (i : Int) < (l.length : Int) := of_decide_eq_true h1
  refine Cu lo0 st' [(0,vS p l.length),(1,vI (k + (i : Int))),(5,vI (i : Int)),(9,vB true)] fun _ => ?_
  have h1' := Int.ofNat_lt.1 h1
  have hlen : i < (mkInts i k ++ l.drop i).length := by rw [List.length_append,mkInts_len,List.length_drop]; omega
  have ⟨a,ha⟩ := hO'.some (by omega)
  refine cxs ?_
  refine ⟨_,op_idx (j := (i : Int)) (n := l.length) (q := ⟨a,0,none⟩) rfl (congrArg (fun u => vS u l.length) ha) rfl rfl rfl (Int.natCast_nonneg _) h1,?_⟩
  refine op_put (st := st') (f := fI) (j := i) (l := mkInts i k ++ l.drop i) (y := k + (i : Int)) (p := p) (d := 0 + i * 1) rfl rfl ((Nat.zero_add _)) rfl rfl fI_len rfl rfl hlen hO' ha ?_
  intro s5 hO5 hP5 hn5
  rw [mark_set h1'] at hO5
  refine Cu lo0 s5 [(0,vS p l.length),(1,vI (k + (i : Int))),(5,vI (i : Int)),(9,vB true)] fun _ => ?_
  have e17 : IntKind.wrap .i64 (k + (i : Int) + 1) = k + ((i + 1 : Nat) : Int) := (wrap_i64 (by omega) (by omega)).trans (by omega)
  refine ⟨_,rfl,?_⟩
  refine AW.cut lo0 s5 [(0,vS p l.length),(1,vI (k + ((i + 1 : Nat) : Int))),(5,vI (i : Int)),(9,vB true)] ⟨rfl,congrArg (Value.int .i64) e17,rfl,rfl,trivial⟩ fun _ => ?_
  have e11 : IntKind.wrap .i64 ((i : Int) + 1) = ((i + 1 : Nat) : Int) := (wrap_i64 (by omega) (by omega)).trans (by omega)
  refine ⟨_,rfl,?_⟩
  exact ⟨i + 1,l.length - (i + 1),by omega,⟨rfl,rfl,congrArg (Value.int .i64) e11,trivial⟩,rfl,rfl,h1',hO5,hP'.trans hP5⟩
theorem ac_laws_heldIntS (p : Option Addr) (n : Nat) (k : Int) (st : St) (hR : Rows st 1 fI p (mkInts n k)) (hs : szOk n) (h0 : 0 ≤ k) (hk : k ≤ 1125899906842624) : C 136 [vS p n,vI k] st (fun v s => v = vI (k + (n : Int)) ∧ s = st) := by
 have hs : n ≤ 1048576 := hs
 refine AC.enterX (i := ⟨[],[],[0,1,4,5,9,17],[]⟩) [] Tryz.func136 rfl rfl (by kernel_rfl) (by kernel_rfl) Tryz.ntmps136 (Lb rfl) rfl ?_
 refine cxs ?_
 refine Cu lo0 st [(0,vS p n),(1,vI k),(4,vI 0),(5,vI 0)] fun _ => ?_
 refine AW.loop0 (fun i : Nat => [(0,vS p n),(1,vI (k + (i : Int))),(5,vI (i : Int))]) (fun m (i : Nat) st' => m = n - i ∧ i ≤ n ∧ st = st') 0 _ ⟨rfl,congrArg (Value.int .i64) (Int.add_zero k).symm,rfl,trivial⟩ rfl ⟨rfl,Nat.zero_le _,rfl⟩ ?_
 rintro m i ρ0 st' ⟨rfl,hi,rfl⟩
 iterate 2 refine ⟨_,rfl,?_⟩
 rintro (_|_) h1
 ·replace h1 : ¬ ((i : Int) < (n : Int)) := of_decide_eq_false h1
  refine Cu lo0 st [(0,vS p n),(1,vI (k + (i : Int))),(5,vI (i : Int)),(9,vB false)] fun _ => ?_
  refine cxs ?_
  refine cxs ?_
  have hil : i = n := by omega
  subst hil
  exact Rt ⟨rfl,rfl⟩
 ·replace h1 : (i : Int) < (n : Int) := of_decide_eq_true h1
  refine Cu lo0 st [(0,vS p n),(1,vI (k + (i : Int))),(5,vI (i : Int)),(9,vB true)] fun _ => ?_
  have h1' := Int.ofNat_lt.1 h1
  have ⟨b1,o1,k1,x,hpe,hx,hm1,hc1⟩ := hR.at (j := i) (by rw [mkInts_len]; exact h1')
  have hx := mkInts_get hx
  have hc1 : (k1.cells.drop (o1 + i * 1)).take 1 = fI (k + (i : Int)) := by rw [hc1,hx]
  refine cxs ?_
  refine ⟨_,op_idx (j := (i : Int)) (n := n) (q := ⟨b1,o1,none⟩) rfl (congrArg (fun u => vS u n) hpe) rfl rfl rfl (Int.natCast_nonneg _) h1,?_⟩
  refine ⟨_,op_ldc (i := 0) rfl rfl rfl rfl hm1 hc1 rfl rfl,?_⟩
  refine ⟨_,rfl,?_⟩
  rintro (_|_) h2
  rotate_left
  ·exact absurd (rfl) (bne_iff_ne.1 h2)
  refine Cu lo0 st [(0,vS p n),(1,vI (k + (i : Int))),(5,vI (i : Int)),(9,vB true),(17,vB false)] fun _ => ?_
  refine cxs ?_
  have e19 : IntKind.wrap .i64 (k + (i : Int) + 1) = k + ((i + 1 : Nat) : Int) := (wrap_i64 (by omega) (by omega)).trans (by omega)
  refine ⟨_,rfl,?_⟩
  refine AW.cut lo0 st [(0,vS p n),(1,vI (k + ((i + 1 : Nat) : Int))),(5,vI (i : Int)),(9,vB true),(17,vB false)] ⟨rfl,congrArg (Value.int .i64) e19,rfl,rfl,rfl,trivial⟩ fun _ => ?_
  have e11 : IntKind.wrap .i64 ((i : Int) + 1) = ((i + 1 : Nat) : Int) := (wrap_i64 (by omega) (by omega)).trans (by omega)
  refine ⟨_,rfl,?_⟩
  exact ⟨i + 1,n - (i + 1),by omega,⟨rfl,rfl,congrArg (Value.int .i64) e11,trivial⟩,rfl,rfl,h1',rfl⟩
def cntT (t : List RV) : Nat := (t.map fun r => r.l.length).sum
def mkT : List RV → Int → List RV
 | [],_ => []
 | r :: t,k => ⟨r.p,mkInts r.l.length k⟩ :: mkT t (k + (r.l.length : Int))
theorem cntT_app (a b : List RV) : cntT (a ++ b) = cntT a + cntT b := by simp [cntT]
theorem cntT_one (r : RV) : cntT [r] = r.l.length := by simp [cntT]
theorem mkT_len : ∀ (t : List RV) (k : Int),(mkT t k).length = t.length
 | [],k => rfl
 | r :: t,k => by simp [mkT,mkT_len t]
theorem mkT_app : ∀ (a b : List RV) (k : Int),mkT (a ++ b) k = mkT a k ++ mkT b (k + (cntT a : Int))
 | [],b,k => by simp [mkT,cntT]
 | r :: a,b,k => by
  have h : (cntT (r :: a) : Int) = (r.l.length : Int) + (cntT a : Int) := by simp [cntT]
  rw [List.cons_append,mkT,mkT,mkT_app a b,h,← Int.add_assoc]
  rfl
theorem mkT_ps : ∀ (t : List RV) (k : Int),(mkT t k).map (·.p) = t.map (·.p)
 | [],k => rfl
 | r :: t,k => by simp [mkT,mkT_ps t]
theorem split_at {α : Type} {l : List α} {i : Nat} {x : α} (h : l[i]? = some x) : l = l.take i ++ x :: l.drop (i + 1) ∧ l.take (i + 1) = l.take i ++ [x] ∧ l.drop i = x :: l.drop (i + 1) := by
 obtain ⟨hi,hx⟩ := List.getElem?_eq_some_iff.1 h
 have h3 : l.drop i = x :: l.drop (i + 1) := by rw [List.drop_eq_getElem_cons hi,hx]
 refine ⟨?_,?_,h3⟩
 ·rw [← h3,List.take_append_drop]
 ·rw [List.take_add_one,h]; rfl
theorem mkT_get {t : List RV} {k : Int} {i : Nat} {r : RV} (h : t[i]? = some r) : (mkT t k)[i]? = some ⟨r.p,mkInts r.l.length (k + (cntT (t.take i) : Int))⟩ := by
 have hi := (List.getElem?_eq_some_iff.1 h).1
 conv => lhs; rw [(split_at h).1]
 rw [mkT_app,List.getElem?_append_right (by rw [mkT_len,List.length_take]; omega),mkT_len,List.length_take,show i - min i t.length = 0 by omega]
 rfl
theorem cntT_take {t : List RV} {i : Nat} {r : RV} (h : t[i]? = some r) : cntT (t.take (i + 1)) = cntT (t.take i) + r.l.length ∧ cntT (t.take (i + 1)) ≤ cntT t := by
 obtain ⟨h1,h2,_⟩ := split_at h
 refine ⟨by rw [h2,cntT_app,cntT_one],?_⟩
 conv => rhs; rw [h1]
 rw [h2,cntT_app,cntT_one,cntT_app,show r :: t.drop (i + 1) = [r] ++ t.drop (i + 1) from rfl,cntT_app,cntT_one]
 omega
theorem ac_laws_eqIntSS (p q : Option Addr) (a b : List RV) (st : St) (hA : RdT st p a) (hB : RdT st q b) (hs : szOk a.length) (hr : ∀ r ∈ a,szOk r.l.length) : C 121 [vS p a.length,vS q b.length] st (fun v s => ∃ x,v = .bool x ∧ (x = true ↔ a.map (·.l) = b.map (·.l)) ∧ s = st) := by
 have hs : a.length ≤ 1048576 := hs
 refine AC.enterX (i := ⟨[],[],[0,1,4,5,10,14,26],[]⟩) [(6,[],[])] Tryz.func121 rfl rfl (by kernel_rfl) (by kernel_rfl) Tryz.ntmps121 (Lb rfl) rfl ?_
 refine Cu lo0 st [(0,vS p a.length),(1,vS q b.length),(4,vB false)] fun _ => ?_
 iterate 3 refine ⟨_,rfl,?_⟩
 rintro (_|_) h1
 ·replace h1 : (a.length : Int) = (b.length : Int) := bne_eq_false_iff_eq.1 h1
  refine Cu lo0 st [(0,vS p a.length),(1,vS q b.length),(4,vB false),(10,vB false)] fun _ => ?_
  refine cxs ?_
  refine Cu lo0 st [(0,vS p a.length),(1,vS q b.length),(4,vB false),(5,vI 0)] fun _ => ?_
  refine AW.loop0 (fun i : Nat => [(0,vS p a.length),(1,vS q b.length),(4,vB false),(5,vI (i : Int))]) (fun m (i : Nat) st' => m = a.length - i ∧ i ≤ a.length ∧ (∀ (j : Nat) x y,j < i → a[j]? = some x → b[j]? = some y → x.l = y.l) ∧ st = st') 0 _ ⟨rfl,rfl,rfl,rfl,trivial⟩ rfl ⟨rfl,Nat.zero_le _,fun j x y h => absurd h (Nat.not_lt_zero _),rfl⟩ ?_
  rintro m i ρ0 st' ⟨rfl,hi,heq,rfl⟩
  iterate 2 refine ⟨_,rfl,?_⟩
  rintro (_|_) h2
  ·replace h2 : ¬ ((i : Int) < (a.length : Int)) := of_decide_eq_false h2
   refine Cu lo0 st [(0,vS p a.length),(1,vS q b.length),(4,vB false),(5,vI (i : Int)),(14,vB false)] fun _ => ?_
   refine cxs ?_
   refine cxs ?_
   refine ⟨.inl rfl,_,rfl,true,rfl,⟨fun _ => ?_,fun _ => rfl⟩,rfl⟩
   refine iff_lists (by simp; omega) fun j x y hj hx hy => ?_
   rw [List.getElem?_map] at hx hy
   obtain ⟨u,hu,rfl⟩ := Option.map_eq_some_iff.1 hx
   obtain ⟨v,hv,rfl⟩ := Option.map_eq_some_iff.1 hy
   exact heq j u v (by simp at hj; omega) hu hv
  ·replace h2 : (i : Int) < (a.length : Int) := of_decide_eq_true h2
   refine Cu lo0 st [(0,vS p a.length),(1,vS q b.length),(4,vB false),(5,vI (i : Int)),(14,vB true)] fun _ => ?_
   have h2' := Int.ofNat_lt.1 h2
   have ⟨b1,o1,k1,x,hpe,hx,hm1,hc1,hb1⟩ := hA.1.atB h2'
   have ⟨b2,o2,k2,y,hqe,hy,hm2,hc2,hb2⟩ := hB.1.atB (j := i) (by omega)
   have hxm := List.mem_of_getElem? hx
   have hym := List.mem_of_getElem? hy
   have hxs : x.l.length ≤ 1048576 := hr x hxm
   refine cxs ?_
   refine ⟨_,op_idx (j := (i : Int)) (n := a.length) (q := ⟨b1,o1,none⟩) rfl (congrArg (fun u => vS u a.length) hpe) rfl rfl rfl (Int.natCast_nonneg _) h2,?_⟩
   refine ⟨_,op_ldc (i := 0) rfl rfl rfl rfl hm1 hc1 rfl rfl,?_⟩
   refine ⟨_,op_idx (j := (i : Int)) (n := b.length) (q := ⟨b2,o2,none⟩) rfl (congrArg (fun u => vS u b.length) hqe) rfl rfl rfl (Int.natCast_nonneg _) (h1 ▸ h2),?_⟩
   refine ⟨_,op_ldc (i := 0) rfl rfl rfl rfl hm2 hc2 rfl rfl,?_⟩
   refine ⟨_,rfl,(ac_laws_eqIntS x.p y.p x.l y.l st (hA.2 x hxm).ints (hB.2 y hym).ints (by omega)).mono ?_⟩
   rintro _ st ⟨c,rfl,h3,rfl⟩
   rcases c with _|_
   ·replace h3 := of_decide_eq_false h3.symm
    refine ⟨_,rfl,?_⟩
    refine Cu lo0 st [(0,vS p a.length),(1,vS q b.length),(4,vB false),(5,vI (i : Int)),(14,vB true),(26,vB true)] fun _ => ?_
    refine cxs ?_
    refine ⟨.inl rfl,_,rfl,false,rfl,⟨fun h => absurd h Bool.false_ne_true,fun h => absurd ?_ h3⟩,rfl⟩
    have h4 : (a.map (·.l))[i]? = some x.l := by rw [List.getElem?_map,hx]; rfl
    rw [h,List.getElem?_map,hy] at h4
    injection h4 with h4
    exact h4.symm
   ·replace h3 := of_decide_eq_true h3.symm
    refine ⟨_,rfl,?_⟩
    refine Cu lo0 st [(0,vS p a.length),(1,vS q b.length),(4,vB false),(5,vI (i : Int)),(14,vB true),(26,vB false)] fun _ => ?_
    refine cxs ?_
    have e16 : IntKind.wrap .i64 ((i : Int) + 1) = ((i + 1 : Nat) : Int) := (wrap_i64 (by omega) (by omega)).trans (by omega)
    refine ⟨_,rfl,?_⟩
    refine ⟨i + 1,a.length - (i + 1),by omega,⟨rfl,rfl,rfl,congrArg (Value.int .i64) e16,trivial⟩,rfl,rfl,h2',fun j u v hj hu hv => ?_,rfl⟩
    rcases Nat.lt_or_ge j i with h | h
    ·exact heq j u v h hu hv
    ·obtain rfl : j = i := by omega
     rw [hx] at hu; rw [hy] at hv
     injection hu with hu; injection hv with hv
     rw [← hu,← hv]; exact h3
 ·replace h1 : ¬ ((a.length : Int) = (b.length : Int)) := bne_iff_ne.1 h1
  refine Cu lo0 st [(0,vS p a.length),(1,vS q b.length),(4,vB false),(10,vB true)] fun _ => ?_
  exact cxs (Rt ⟨false,rfl,⟨fun h => absurd h Bool.false_ne_true,fun h => absurd (by have := congrArg List.length h; simp at this; exact congrArg Nat.cast this) h1⟩,rfl⟩)
theorem ac_laws_markIntSS (p : Option Addr) (t : List RV) (k : Int) (st : St) (hO : OwnP st (pcT p t)) (hs : szOk t.length) (hr : ∀ r ∈ t,szOk r.l.length) (h0 : 0 ≤ k) (hk : k + (cntT t : Int) ≤ 1125899906842624) : C 129 [vS p t.length,vI k] st (fun v s => v = vI (k + (cntT t : Int)) ∧ OwnP s (pcT p (mkT t k)) ∧ PrL (t.map (·.p)) st s) := by
 have hs : t.length ≤ 1048576 := hs
 refine AC.enterX (i := ⟨[],[],[0,1,4,5,9],[]⟩) [] Tryz.func129 rfl rfl (by kernel_rfl) (by kernel_rfl) Tryz.ntmps129 (Lb rfl) rfl ?_
 refine cxs ?_
 refine Cu lo0 st [(0,vS p t.length),(1,vI k),(4,vI 0),(5,vI 0)] fun _ => ?_
 refine AW.loop0 (fun i : Nat => [(0,vS p t.length),(1,vI (k + (cntT (t.take i) : Int))),(5,vI (i : Int))]) (fun m (i : Nat) st' => m = t.length - i ∧ i ≤ t.length ∧ OwnP st' (pcT p (mkT (t.take i) k ++ t.drop i)) ∧ PrL (t.map (·.p)) st st') 0 _ ⟨rfl,congrArg (Value.int .i64) (Int.add_zero k).symm,rfl,trivial⟩ rfl ⟨rfl,Nat.zero_le _,hO,PrL.refl _ _⟩ ?_
 rintro m i ρ0 st' ⟨rfl,hi,hO',hP'⟩
 iterate 2 refine ⟨_,rfl,?_⟩
 rintro (_|_) h1
 ·replace h1 : ¬ ((i : Int) < (t.length : Int)) := of_decide_eq_false h1
  refine Cu lo0 st' [(0,vS p t.length),(1,vI (k + (cntT (t.take i) : Int))),(5,vI (i : Int)),(9,vB false)] fun _ => ?_
  refine cxs ?_
  refine cxs ?_
  have hil : i = t.length := by omega
  subst hil
  rw [List.take_length,List.drop_length,List.append_nil] at hO'
  exact Rt ⟨congrArg (Value.int .i64) (by rw [List.take_length]),hO',hP'⟩
 ·replace h1 : (i : Int) < (t.length : Int) := of_decide_eq_true h1
  refine Cu lo0 st' [(0,vS p t.length),(1,vI (k + (cntT (t.take i) : Int))),(5,vI (i : Int)),(9,vB true)] fun _ => ?_
  have h1' := Int.ofNat_lt.1 h1
  obtain ⟨r,hr1⟩ : ∃ r,t[i]? = some r := ⟨t[i],List.getElem?_eq_getElem h1'⟩
  obtain ⟨d1,d2,d3⟩ := split_at hr1
  have hmem := List.mem_of_getElem? hr1
  have hrs : r.l.length ≤ 1048576 := hr r hmem
  have hl2 : (mkT (t.take i) k).length = i := by rw [mkT_len,List.length_take]; omega
  have hget : (mkT (t.take i) k ++ t.drop i)[i]? = some r := by rw [List.getElem?_append_right (by omega),hl2,Nat.sub_self,d3]; rfl
  have hlt : i < (mkT (t.take i) k ++ t.drop i).length := (List.getElem?_eq_some_iff.1 hget).1
  have ⟨b1,o1,k1,x,hpe,hx,hm1,hc1⟩ := (hO'.outer.rows cRV_len).at hlt
  have hxr : x = r := by rw [hget] at hx; injection hx with hx; exact hx.symm
  have hrow := hO'.row (List.mem_of_getElem? hget)
  have hct := cntT_take hr1
  have hP2 := hO'
  rw [d3,show pcT p (mkT (t.take i) k ++ r :: t.drop (i + 1)) = (pcR 1 cRV p (mkT (t.take i) k ++ r :: t.drop (i + 1)) :: (mkT (t.take i) k).map pcRV) ++ pcRV r :: (t.drop (i + 1)).map pcRV from by simp [pcT]] at hP2
  refine cxs ?_
  refine ⟨_,op_idx (j := (i : Int)) (n := t.length) (q := ⟨b1,o1,none⟩) rfl (congrArg (fun u => vS u t.length) hpe) rfl rfl rfl (Int.natCast_nonneg _) h1,?_⟩
  refine ⟨_,op_ldc (i := 0) (v := vS r.p r.l.length) rfl rfl rfl rfl hm1 (hxr ▸ hc1) rfl rfl,?_⟩
  refine ⟨_,rfl,(ac_laws_markIntS r.p r.l _ st' hrow hrs (by omega) (by omega)).mono ?_⟩
  rintro _ s2 ⟨rfl,hO2,hPr⟩
  refine Cu lo0 s2 [(0,vS p t.length),(1,vI (k + (cntT (t.take i) : Int) + (r.l.length : Int))),(5,vI (i : Int)),(9,vB true)] fun _ => ?_
  have hN := OwnP.update hP2 hPr (own_pc hO2) rfl
  have e1 : k + (cntT (t.take i) : Int) + (r.l.length : Int) = k + (cntT (t.take (i + 1)) : Int) := by rw [hct.1]; omega
  have hN2 : OwnP s2 (pcT p (mkT (t.take (i + 1)) k ++ t.drop (i + 1))) := by
   have h2 : mkT (t.take (i + 1)) k = mkT (t.take i) k ++ [⟨r.p,mkInts r.l.length (k + (cntT (t.take i) : Int))⟩] := by rw [d2,mkT_app]; rfl
   have h3 : (mkT (t.take i) k ++ r :: t.drop (i + 1)).flatMap cRV = (mkT (t.take (i + 1)) k ++ t.drop (i + 1)).flatMap cRV := by rw [h2]; simp [mkInts_len]
   have h4 : pcT p (mkT (t.take (i + 1)) k ++ t.drop (i + 1)) = (pcR 1 cRV p (mkT (t.take i) k ++ r :: t.drop (i + 1)) :: (mkT (t.take i) k).map pcRV) ++ pcR 1 fI r.p (mkInts r.l.length (k + (cntT (t.take i) : Int))) :: (t.drop (i + 1)).map pcRV := by
    simp only [pcT,pcR,h3]
    rw [h2]
    simp [pcRV]
   rw [h4]
   exact hN
  have e11 : IntKind.wrap .i64 ((i : Int) + 1) = ((i + 1 : Nat) : Int) := (wrap_i64 (by omega) (by omega)).trans (by omega)
  refine ⟨_,rfl,?_⟩
  exact ⟨i + 1,t.length - (i + 1),by omega,⟨rfl,congrArg (Value.int .i64) e1,congrArg (Value.int .i64) e11,trivial⟩,rfl,rfl,h1',hN2,hP'.trans (hPr.l (List.mem_map_of_mem hmem))⟩
theorem ac_laws_heldIntSS (p : Option Addr) (t : List RV) (k : Int) (st : St) (hR : RdT st p (mkT t k)) (hs : szOk t.length) (hr : ∀ r ∈ t,szOk r.l.length) (h0 : 0 ≤ k) (hk : k + (cntT t : Int) ≤ 1125899906842624) : C 137 [vS p t.length,vI k] st (fun v s => v = vI (k + (cntT t : Int)) ∧ s = st) := by
 have hs : t.length ≤ 1048576 := hs
 refine AC.enterX (i := ⟨[],[],[0,1,4,5,9,19],[]⟩) [] Tryz.func137 rfl rfl (by kernel_rfl) (by kernel_rfl) Tryz.ntmps137 (Lb rfl) rfl ?_
 refine cxs ?_
 refine Cu lo0 st [(0,vS p t.length),(1,vI k),(4,vI 0),(5,vI 0)] fun _ => ?_
 refine AW.loop0 (fun i : Nat => [(0,vS p t.length),(1,vI (k + (cntT (t.take i) : Int))),(5,vI (i : Int))]) (fun m (i : Nat) st' => m = t.length - i ∧ i ≤ t.length ∧ st = st') 0 _ ⟨rfl,congrArg (Value.int .i64) (Int.add_zero k).symm,rfl,trivial⟩ rfl ⟨rfl,Nat.zero_le _,rfl⟩ ?_
 rintro m i ρ0 st' ⟨rfl,hi,rfl⟩
 iterate 2 refine ⟨_,rfl,?_⟩
 rintro (_|_) h1
 ·replace h1 : ¬ ((i : Int) < (t.length : Int)) := of_decide_eq_false h1
  refine Cu lo0 st [(0,vS p t.length),(1,vI (k + (cntT (t.take i) : Int))),(5,vI (i : Int)),(9,vB false)] fun _ => ?_
  refine cxs ?_
  refine cxs ?_
  have hil : i = t.length := by omega
  subst hil
  exact Rt ⟨congrArg (Value.int .i64) (by rw [List.take_length]),rfl⟩
 ·replace h1 : (i : Int) < (t.length : Int) := of_decide_eq_true h1
  refine Cu lo0 st [(0,vS p t.length),(1,vI (k + (cntT (t.take i) : Int))),(5,vI (i : Int)),(9,vB true)] fun _ => ?_
  have h1' := Int.ofNat_lt.1 h1
  obtain ⟨r,hr1⟩ : ∃ r,t[i]? = some r := ⟨t[i],List.getElem?_eq_getElem h1'⟩
  have hmem := List.mem_of_getElem? hr1
  have hrs : r.l.length ≤ 1048576 := hr r hmem
  have hget := mkT_get (k := k) hr1
  have ⟨b1,o1,k1,x,hpe,hx,hm1,hc1⟩ := hR.1.at (j := i) (by rw [mkT_len]; exact h1')
  have hxr : x = ⟨r.p,mkInts r.l.length (k + (cntT (t.take i) : Int))⟩ := by rw [hget] at hx; injection hx with hx; exact hx.symm
  have hrow := hR.2 _ (List.mem_of_getElem? hget)
  have hc2 : (k1.cells.drop (o1 + i * 1)).take 1 = [vS r.p r.l.length] := by rw [hc1,hxr]; simp [mkInts_len]
  have hct := cntT_take hr1
  refine cxs ?_
  refine ⟨_,op_idx (j := (i : Int)) (n := t.length) (q := ⟨b1,o1,none⟩) rfl (congrArg (fun u => vS u t.length) hpe) rfl rfl rfl (Int.natCast_nonneg _) h1,?_⟩
  refine ⟨_,op_ldc (i := 0) (v := vS r.p r.l.length) rfl rfl rfl rfl hm1 hc2 rfl rfl,?_⟩
  refine ⟨_,rfl,(ac_laws_heldIntS r.p r.l.length _ st hrow hrs (by omega) (by omega)).mono ?_⟩
  rintro _ st ⟨rfl,rfl⟩
  refine Cu lo0 st [(0,vS p t.length),(1,vI (k + (cntT (t.take i) : Int) + (r.l.length : Int))),(5,vI (i : Int)),(9,vB true)] fun _ => ?_
  refine ⟨_,rfl,?_⟩
  rintro (_|_) h2
  rotate_left
  ·exact absurd (of_decide_eq_true h2) ((by omega))
  refine Cu lo0 st [(0,vS p t.length),(1,vI (k + (cntT (t.take i) : Int) + (r.l.length : Int))),(5,vI (i : Int)),(9,vB true),(19,vB false)] fun _ => ?_
  refine cxs ?_
  have e11 : IntKind.wrap .i64 ((i : Int) + 1) = ((i + 1 : Nat) : Int) := (wrap_i64 (by omega) (by omega)).trans (by omega)
  refine ⟨_,rfl,?_⟩
  exact ⟨i + 1,t.length - (i + 1),by omega,⟨rfl,congrArg (Value.int .i64) (show k + (cntT (t.take i) : Int) + (r.l.length : Int) = k + (cntT (t.take (i + 1)) : Int) by rw [hct.1]; omega),congrArg (Value.int .i64) e11,trivial⟩,rfl,rfl,h1',rfl⟩
theorem ac_laws_szIntSS (p : Option Addr) (t : List RV) (n : Int) (st : St) (hR : RdT st p t) (h0 : 0 ≤ n) (hn : n ≤ 1048576) (hm : t.length ≤ maxLen) (hr : ∀ r ∈ t,r.l.length ≤ maxLen) : C 108 [vS p t.length,vI n] st (fun v s => ∃ r,v = vI r ∧ r ≤ n ∧ (0 ≤ r → r + (t.length : Int) + (cntT t : Int) = n) ∧ s = st) := by
 have hm : t.length ≤ 9223372036854775807 := hm
 refine AC.enterX (i := ⟨[],[],[0,1,4,5,11,15,25],[]⟩) [] Tryz.func108 rfl rfl (by kernel_rfl) (by kernel_rfl) Tryz.ntmps108 (Lb rfl) rfl ?_
 refine Cu lo0 st [(0,vS p t.length),(1,vI n),(4,vI 0)] fun _ => ?_
 refine ⟨_,rfl,?_⟩
 have e9 : IntKind.wrap .i64 (n - (t.length : Int)) = n - (t.length : Int) := wrap_i64 (by omega) (by omega)
 refine ⟨_,rfl,?_⟩
 refine AW.cut lo0 st [(0,vS p t.length),(1,vI (n - (t.length : Int))),(4,vI 0)] ⟨rfl,congrArg (Value.int .i64) e9,rfl,trivial⟩ fun _ => ?_
 refine ⟨_,rfl,?_⟩
 rintro (_|_) h1
 ·replace h1 : ¬ (n - (t.length : Int) < 0) := of_decide_eq_false h1
  refine Cu lo0 st [(0,vS p t.length),(1,vI (n - (t.length : Int))),(4,vI 0),(11,vB false)] fun _ => ?_
  refine cxs ?_
  refine Cu lo0 st [(0,vS p t.length),(1,vI (n - (t.length : Int))),(4,vI 0),(5,vI 0)] fun _ => ?_
  refine AW.loop0 (fun x : Nat × Int => [(0,vS p t.length),(1,vI x.2),(5,vI (x.1 : Int))]) (fun m (x : Nat × Int) st' => m = t.length - x.1 ∧ x.1 ≤ t.length ∧ 0 ≤ x.2 ∧ x.2 + (t.length : Int) + (cntT (t.take x.1) : Int) = n ∧ st = st') (0,n - (t.length : Int)) _ ⟨rfl,rfl,rfl,trivial⟩ rfl ⟨rfl,Nat.zero_le _,by omega,by simp [cntT],rfl⟩ ?_
  rintro m x ρ0 st' ⟨rfl,hi,hx0,hx1,rfl⟩
  iterate 2 refine ⟨_,rfl,?_⟩
  rintro (_|_) h2
  ·replace h2 : ¬ ((x.1 : Int) < (t.length : Int)) := of_decide_eq_false h2
   refine Cu lo0 st [(0,vS p t.length),(1,vI x.2),(5,vI (x.1 : Int)),(15,vB false)] fun _ => ?_
   refine cxs ?_
   refine cxs ?_
   have hil : x.1 = t.length := by omega
   exact Rt ⟨x.2,rfl,by omega,fun _ => by rw [hil,List.take_length] at hx1; exact hx1,rfl⟩
  ·replace h2 : (x.1 : Int) < (t.length : Int) := of_decide_eq_true h2
   refine Cu lo0 st [(0,vS p t.length),(1,vI x.2),(5,vI (x.1 : Int)),(15,vB true)] fun _ => ?_
   have h2' := Int.ofNat_lt.1 h2
   have ⟨b1,o1,k1,r,hpe,hr1,hm1,hc1⟩ := hR.1.at h2'
   have hmem := List.mem_of_getElem? hr1
   have hct := cntT_take hr1
   refine cxs ?_
   refine ⟨_,op_idx (j := (x.1 : Int)) (n := t.length) (q := ⟨b1,o1,none⟩) rfl (congrArg (fun u => vS u t.length) hpe) rfl rfl rfl (Int.natCast_nonneg _) h2,?_⟩
   refine ⟨_,op_ldc (i := 0) (v := vS r.p r.l.length) rfl rfl rfl rfl hm1 hc1 rfl rfl,?_⟩
   refine ⟨_,rfl,(ac_laws_szIntS r.p r.l x.2 st hx0 (by omega) (hr r hmem)).mono ?_⟩
   rintro _ st ⟨y,rfl,hy,hz,rfl⟩
   refine Cu lo0 st [(0,vS p t.length),(1,vI y),(5,vI (x.1 : Int)),(15,vB true)] fun _ => ?_
   refine ⟨_,rfl,?_⟩
   rintro (_|_) h3
   ·replace h3 : ¬ (y < 0) := of_decide_eq_false h3
    refine Cu lo0 st [(0,vS p t.length),(1,vI y),(5,vI (x.1 : Int)),(15,vB true),(25,vB false)] fun _ => ?_
    refine cxs ?_
    have e17 : IntKind.wrap .i64 ((x.1 : Int) + 1) = ((x.1 + 1 : Nat) : Int) := (wrap_i64 (by omega) (by omega)).trans (by omega)
    refine ⟨_,rfl,?_⟩
    exact ⟨(x.1 + 1,y),t.length - (x.1 + 1),by omega,⟨rfl,rfl,congrArg (Value.int .i64) e17,trivial⟩,rfl,rfl,h2',by omega,by have := hz (by omega); simp only; omega,rfl⟩
   ·replace h3 : y < 0 := of_decide_eq_true h3
    refine Cu lo0 st [(0,vS p t.length),(1,vI y),(5,vI (x.1 : Int)),(15,vB true),(25,vB true)] fun _ => ?_
    exact cxs (Rt ⟨-1,rfl,by omega,fun h => absurd h (by omega),rfl⟩)
 ·replace h1 : n - (t.length : Int) < 0 := of_decide_eq_true h1
  refine Cu lo0 st [(0,vS p t.length),(1,vI (n - (t.length : Int))),(4,vI 0),(11,vB true)] fun _ => ?_
  exact cxs (Rt ⟨-1,rfl,by omega,fun h => absurd h (by omega),rfl⟩)
abbrev zRV : RV := ⟨none,[]⟩
theorem ac_laws_toIntSS (p : Option Addr) (t : List RV) (st : St) (hR : RdT st p t) (hs : szOk t.length) (hr : ∀ r ∈ t,szOk r.l.length) : C 115 [vS p t.length] st (fun v s => ∃ q u,v = vS q t.length ∧ u.map (·.l) = t.map (·.l) ∧ OwnP s (pcT q u) ∧ NewP st.next (pcT q u) ∧ Pres st s) := by
 have hs : t.length ≤ 1048576 := hs
 refine AC.enterX (i := ⟨[],[],[0,2,3,4,11],[]⟩) [] Tryz.func115 rfl rfl (by kernel_rfl) (by kernel_rfl) Tryz.ntmps115 (Lb rfl) rfl ?_
 refine Cu lo0 st [(0,vS p t.length),(2,Sn)] fun _ => ?_
 refine ⟨_,rfl,?_⟩
 refine op_mkK (z := 1) (f := cRV) (a := zRV) (b := 24) (i := t.length) rfl rfl rfl rfl rfl rfl rfl rfl rfl Nat.one_pos rfl rfl (by omega) (by omega) ?_
 intro q s1 hO hP hN
 have hO : OwnP s1 [pcR 1 cRV q (List.replicate t.length zRV)] := OwnP.one (own_pc hO)
 refine cxs ?_
 refine Cu lo0 s1 [(0,vS p t.length),(2,Sn),(3,vS q t.length),(4,vI 0)] fun _ => ?_
 refine AW.loop0 (fun x : Nat × List RV => [(0,vS p t.length),(3,vS q t.length),(4,vI (x.1 : Int))]) (fun m (x : Nat × List RV) st' => m = t.length - x.1 ∧ x.1 ≤ t.length ∧ x.2.map (·.l) = (t.take x.1).map (·.l) ∧ OwnP st' (pcR 1 cRV q (x.2 ++ List.replicate (t.length - x.1) zRV) :: x.2.map pcRV) ∧ NewP st.next (pcT q x.2) ∧ Pres st st') (0,[]) _ ⟨rfl,rfl,rfl,trivial⟩ rfl ⟨rfl,Nat.zero_le _,rfl,hO,NewP.cons hN NewP.nil,hP⟩ ?_
 rintro m x ρ0 st' ⟨rfl,hi,hl,hO',hN',hP'⟩
 iterate 2 refine ⟨_,rfl,?_⟩
 rintro (_|_) h1
 ·replace h1 : ¬ ((x.1 : Int) < (t.length : Int)) := of_decide_eq_false h1
  refine Cu lo0 st' [(0,vS p t.length),(3,vS q t.length),(4,vI (x.1 : Int)),(11,vB false)] fun _ => ?_
  refine cxs ?_
  refine cxs ?_
  have hil : x.1 = t.length := by omega
  rw [hil,Nat.sub_self,List.replicate_zero,List.append_nil] at hO'
  exact Rt ⟨q,x.2,rfl,by rw [hl,hil,List.take_length],hO',hN',hP'⟩
 ·replace h1 : (x.1 : Int) < (t.length : Int) := of_decide_eq_true h1
  refine Cu lo0 st' [(0,vS p t.length),(3,vS q t.length),(4,vI (x.1 : Int)),(11,vB true)] fun _ => ?_
  have h1' := Int.ofNat_lt.1 h1
  have ⟨b1,o1,k1,r,hpe,hr1,hm1,hc1⟩ := (hR.pres hP').1.at h1'
  have hmem := List.mem_of_getElem? hr1
  obtain ⟨d1,d2,d3⟩ := split_at hr1
  have hxl : x.2.length = x.1 := by have := congrArg List.length hl; simp at this; omega
  obtain ⟨n1,hn1⟩ : ∃ n1,t.length - x.1 = n1 + 1 := ⟨t.length - x.1 - 1,by omega⟩
  refine cxs ?_
  refine ⟨_,op_idx (j := (x.1 : Int)) (n := t.length) (q := ⟨b1,o1,none⟩) rfl (congrArg (fun u => vS u t.length) hpe) rfl rfl rfl (Int.natCast_nonneg _) h1,?_⟩
  refine ⟨_,op_ldc (i := 0) (v := vS r.p r.l.length) rfl rfl rfl rfl hm1 hc1 rfl rfl,?_⟩
  refine ⟨_,rfl,(ac_laws_toIntS r.p r.l st' ((hR.pres hP').2 r hmem) (hr r hmem)).mono ?_⟩
  rintro _ s2 ⟨q2,rfl,hO2,hP2,hN2⟩
  have hA := OwnP.join hO' hP2 (OwnP.one (own_pc hO2)) (NewP.cons hN2 NewP.nil)
  have hlen : x.1 < (x.2 ++ List.replicate (t.length - x.1) zRV).length := by rw [List.length_append,List.length_replicate]; omega
  have hout : OwnR s2 1 cRV q (x.2 ++ List.replicate (t.length - x.1) zRV) := pc_own Nat.one_pos cRV_len ((hO'.pres hP2).1 _ (List.mem_cons_self ..))
  have ⟨a,ha⟩ := hout.some (by omega)
  refine ⟨_,op_idx (j := (x.1 : Int)) (n := t.length) (q := ⟨a,0,none⟩) rfl (congrArg (fun u => vS u t.length) ha) rfl rfl rfl (Int.natCast_nonneg _) h1,?_⟩
  refine op_put (z := 1) (st := s2) (f := cRV) (j := x.1) (l := x.2 ++ List.replicate (t.length - x.1) zRV) (y := (⟨q2,r.l⟩ : RV)) (p := q) (d := 0 + x.1 * 1) rfl rfl (Nat.zero_add _) rfl rfl cRV_len rfl rfl hlen hout ha ?_
  intro s5 hO5 hP5 hn5
  refine Cu lo0 s5 [(0,vS p t.length),(3,vS q t.length),(4,vI (x.1 : Int)),(11,vB true)] fun _ => ?_
  have hset : (x.2 ++ List.replicate (t.length - x.1) zRV).set x.1 ⟨q2,r.l⟩ = (x.2 ++ [⟨q2,r.l⟩]) ++ List.replicate (t.length - (x.1 + 1)) zRV := by
   rw [hn1,show t.length - (x.1 + 1) = n1 by omega,List.replicate_succ,List.set_append_right _ _ (by omega),show x.1 - x.2.length = 0 by omega,List.set_cons_zero]
   simp
  rw [hset] at hO5
  have hB : OwnP s5 (pcR 1 cRV q ((x.2 ++ [⟨q2,r.l⟩]) ++ List.replicate (t.length - (x.1 + 1)) zRV) :: (x.2.map pcRV ++ [pcRV ⟨q2,r.l⟩])) :=
   OwnP.update (l := []) (m := x.2.map pcRV ++ [pcRV ⟨q2,r.l⟩]) (c := pcR 1 cRV q (x.2 ++ List.replicate (t.length - x.1) zRV)) (d := pcR 1 cRV q ((x.2 ++ [(⟨q2,r.l⟩ : RV)]) ++ List.replicate (t.length - (x.1 + 1)) zRV)) hA hP5 (own_pc hO5) rfl
  have hB : OwnP s5 (pcR 1 cRV q ((x.2 ++ [⟨q2,r.l⟩]) ++ List.replicate (t.length - (x.1 + 1)) zRV) :: (x.2 ++ [(⟨q2,r.l⟩ : RV)]).map pcRV) := by rw [List.map_append]; exact hB
  have e13 : IntKind.wrap .i64 ((x.1 : Int) + 1) = ((x.1 + 1 : Nat) : Int) := (wrap_i64 (by omega) (by omega)).trans (by omega)
  refine ⟨_,rfl,?_⟩
  refine ⟨(x.1 + 1,x.2 ++ [⟨q2,r.l⟩]),t.length - (x.1 + 1),by omega,⟨rfl,rfl,congrArg (Value.int .i64) e13,trivial⟩,rfl,rfl,h1',?_,hB,?_,?_⟩
  ·rw [List.map_append,hl,d2,List.map_append]; rfl
  ·refine NewP.cons hN ?_
   rw [List.map_append]
   exact NewP.app (fun c hc => hN' c (List.mem_cons_of_mem _ hc)) (NewP.cons (hN2.le hP'.1) NewP.nil)
  ·exact hP5.pres (hP'.trans hP2) hN
def commonGo (id : Int) : List (List Int) → Bool → Int → Int
 | [],_,v => v
 | r :: t,b,v => if 0 ≤ id ∧ id ≤ (r.length : Int) - 1 then (if b = true ∨ r.getD id.toNat 0 < v then commonGo id t false (r.getD id.toNat 0) else commonGo id t false v) else 0
def common (t : List (List Int)) (id : Int) : Int := commonGo id t true 0
theorem getD_of {l : List Int} {i : Nat} {x : Int} (h : l[i]? = some x) : l.getD i 0 = x := by rw [List.getD_eq_getElem?_getD,h]; rfl
theorem ac_spec_Common (p : Option Addr) (t : List RV) (id : Int) (st : St) (hR : RdT st p t) (hs : szOk t.length) (hr : ∀ r ∈ t,szOk r.l.length) : C 211 [vS p t.length,vI id] st (fun v s => v = vI (common (t.map (·.l)) id) ∧ s = st) := by
 have hs : t.length ≤ 1048576 := hs
 refine AC.enterX (i := ⟨[],[],[0,1,4,5,6,9,13,24,37],[]⟩) [] Tryz.func211 rfl rfl (by kernel_rfl) (by kernel_rfl) Tryz.ntmps211 (Lb rfl) rfl ?_
 refine Cu lo0 st [(0,vS p t.length),(1,vI id),(4,vI 0)] fun _ => ?_
 iterate 2 refine ⟨_,rfl,?_⟩
 rintro (_|_) h0
 ·replace h0 : ¬ ((t.length : Int) = 0) := beq_eq_false_iff_ne.1 h0
  refine Cu lo0 st [(0,vS p t.length),(1,vI id),(4,vI 0),(9,vB false)] fun _ => ?_
  refine cxs ?_
  refine cxs ?_
  refine Cu lo0 st [(0,vS p t.length),(1,vI id),(4,vI 0),(5,vI 0),(6,vI 0)] fun _ => ?_
  refine AW.loop0 (fun x : Nat × Int => [(0,vS p t.length),(1,vI id),(5,vI x.2),(6,vI (x.1 : Int))]) (fun m (x : Nat × Int) st' => m = t.length - x.1 ∧ x.1 ≤ t.length ∧ common (t.map (·.l)) id = commonGo id ((t.drop x.1).map (·.l)) (decide (x.1 = 0)) x.2 ∧ st = st') (0,0) _ ⟨rfl,rfl,rfl,rfl,trivial⟩ rfl ⟨rfl,Nat.zero_le _,rfl,rfl⟩ ?_
  rintro m x ρ0 st' ⟨rfl,hi,hc,rfl⟩
  iterate 2 refine ⟨_,rfl,?_⟩
  rintro (_|_) h1
  ·replace h1 : ¬ ((x.1 : Int) < (t.length : Int)) := of_decide_eq_false h1
   refine Cu lo0 st [(0,vS p t.length),(1,vI id),(5,vI x.2),(6,vI (x.1 : Int)),(13,vB false)] fun _ => ?_
   refine cxs ?_
   refine cxs ?_
   have hil : x.1 = t.length := by omega
   rw [hil,List.drop_length] at hc
   exact Rt ⟨congrArg vI hc.symm,rfl⟩
  ·replace h1 : (x.1 : Int) < (t.length : Int) := of_decide_eq_true h1
   refine Cu lo0 st [(0,vS p t.length),(1,vI id),(5,vI x.2),(6,vI (x.1 : Int)),(13,vB true)] fun _ => ?_
   have h1' := Int.ofNat_lt.1 h1
   have ⟨b1,o1,k1,r,hpe,hr1,hm1,hc1,hb1⟩ := hR.1.atB h1'
   have hmem := List.mem_of_getElem? hr1
   have hrs : r.l.length ≤ 1048576 := hr r hmem
   obtain ⟨d1,d2,d3⟩ := split_at hr1
   rw [d3,List.map_cons,commonGo] at hc
   have e22 : IntKind.wrap .i64 ((r.l.length : Int) - 1) = (r.l.length : Int) - 1 := wrap_i64 (by omega) (by omega)
   refine cxs ?_
   refine ⟨_,op_idx (j := (x.1 : Int)) (n := t.length) (q := ⟨b1,o1,none⟩) rfl (congrArg (fun u => vS u t.length) hpe) rfl rfl rfl (Int.natCast_nonneg _) h1,?_⟩
   refine ⟨_,op_ldc (i := 0) (v := vS r.p r.l.length) rfl rfl rfl rfl hm1 hc1 rfl rfl,?_⟩
   iterate 2 refine ⟨_,rfl,?_⟩
   refine ⟨_,rfl,(ac_spec_l1In id 0 _ st).mono ?_⟩
   rintro _ st ⟨y,rfl,hy,rfl⟩
   rcases y with _|_
   ·replace hy := of_decide_eq_false hy.symm
    refine ⟨_,rfl,?_⟩
    refine Cu lo0 st [(0,vS p t.length),(1,vI id),(5,vI x.2),(6,vI (x.1 : Int)),(13,vB true),(24,vB true)] fun _ => ?_
    replace hy : ¬ (0 ≤ id ∧ id ≤ (r.l.length : Int) - 1) := fun h => hy (by rw [e22]; exact h)
    rw [if_neg hy] at hc
    exact cxs (Rt ⟨congrArg vI hc.symm,rfl⟩)
   ·replace hy := of_decide_eq_true hy.symm
    refine ⟨_,rfl,?_⟩
    refine Cu lo0 st [(0,vS p t.length),(1,vI id),(5,vI x.2),(6,vI (x.1 : Int)),(13,vB true),(24,vB false)] fun _ => ?_
    replace hy : 0 ≤ id ∧ id ≤ IntKind.wrap .i64 ((r.l.length : Int) - 1) := hy
    rw [e22] at hy
    rw [if_pos hy] at hc
    have ⟨b2,o2,k2,z,hqe,hz,hm2,hc2,hb2⟩ := (hR.2 r hmem).atB (j := id.toNat) (by omega)
    rw [getD_of hz] at hc
    refine cxs ?_
    refine ⟨_,rfl,?_⟩
    rintro (_|_) h2
    ·replace h2 : ¬ ((x.1 : Int) = 0) := beq_eq_false_iff_ne.1 h2
     refine ⟨_,op_idx (j := (x.1 : Int)) (n := t.length) (q := ⟨b1,o1,none⟩) rfl (congrArg (fun u => vS u t.length) hpe) rfl rfl rfl (Int.natCast_nonneg _) h1,?_⟩
     refine ⟨_,op_ldc (i := 0) (v := vS r.p r.l.length) rfl rfl rfl rfl hm1 hc1 rfl rfl,?_⟩
     refine ⟨_,op_idx (j := id) (n := r.l.length) (q := ⟨b2,o2,none⟩) rfl (congrArg (fun u => vS u r.l.length) hqe) rfl rfl rfl hy.1 (by omega),?_⟩
     refine ⟨_,op_ldc (i := 0) (v := vI z) rfl rfl rfl rfl hm2 hc2 rfl rfl,?_⟩
     refine ⟨_,rfl,?_⟩
     rintro (_|_) h3
     ·replace h3 : ¬ (z < x.2) := of_decide_eq_false h3
      refine ⟨_,rfl,?_⟩
      refine Cu lo0 st [(0,vS p t.length),(1,vI id),(5,vI x.2),(6,vI (x.1 : Int)),(13,vB true),(24,vB false),(37,vB false)] fun _ => ?_
      refine cxs ?_
      have e15 : IntKind.wrap .i64 ((x.1 : Int) + 1) = ((x.1 + 1 : Nat) : Int) := (wrap_i64 (by omega) (by omega)).trans (by omega)
      refine ⟨_,rfl,?_⟩
      exact ⟨(x.1 + 1,x.2),t.length - (x.1 + 1),by omega,⟨rfl,rfl,rfl,congrArg (Value.int .i64) e15,trivial⟩,rfl,rfl,h1',by rw [if_neg (fun h => by rcases h with h | h; exact absurd (of_decide_eq_true h) (by omega); exact h3 h)] at hc; exact hc,rfl⟩
     ·replace h3 : z < x.2 := of_decide_eq_true h3
      refine ⟨_,rfl,?_⟩
      refine Cu lo0 st [(0,vS p t.length),(1,vI id),(5,vI x.2),(6,vI (x.1 : Int)),(13,vB true),(24,vB false),(37,vB true)] fun _ => ?_
      refine ⟨_,op_idx (j := (x.1 : Int)) (n := t.length) (q := ⟨b1,o1,none⟩) rfl (congrArg (fun u => vS u t.length) hpe) rfl rfl rfl (Int.natCast_nonneg _) h1,?_⟩
      refine ⟨_,op_ldc (i := 0) (v := vS r.p r.l.length) rfl rfl rfl rfl hm1 hc1 rfl rfl,?_⟩
      refine ⟨_,op_idx (j := id) (n := r.l.length) (q := ⟨b2,o2,none⟩) rfl (congrArg (fun u => vS u r.l.length) hqe) rfl rfl rfl hy.1 (by omega),?_⟩
      refine ⟨_,op_ldc (i := 0) (v := vI z) rfl rfl rfl rfl hm2 hc2 rfl rfl,?_⟩
      refine Cu lo0 st [(0,vS p t.length),(1,vI id),(5,vI z),(6,vI (x.1 : Int)),(13,vB true),(24,vB false),(37,vB true)] fun _ => ?_
      have e15 : IntKind.wrap .i64 ((x.1 : Int) + 1) = ((x.1 + 1 : Nat) : Int) := (wrap_i64 (by omega) (by omega)).trans (by omega)
      refine ⟨_,rfl,?_⟩
      exact ⟨(x.1 + 1,z),t.length - (x.1 + 1),by omega,⟨rfl,rfl,rfl,congrArg (Value.int .i64) e15,trivial⟩,rfl,rfl,h1',by rw [if_pos (.inr h3)] at hc; exact hc,rfl⟩
    ·replace h2 : (x.1 : Int) = 0 := beq_iff_eq.1 h2
     refine ⟨_,rfl,?_⟩
     refine Cu lo0 st [(0,vS p t.length),(1,vI id),(5,vI x.2),(6,vI (x.1 : Int)),(13,vB true),(24,vB false),(37,vB true)] fun _ => ?_
     refine ⟨_,op_idx (j := (x.1 : Int)) (n := t.length) (q := ⟨b1,o1,none⟩) rfl (congrArg (fun u => vS u t.length) hpe) rfl rfl rfl (Int.natCast_nonneg _) h1,?_⟩
     refine ⟨_,op_ldc (i := 0) (v := vS r.p r.l.length) rfl rfl rfl rfl hm1 hc1 rfl rfl,?_⟩
     refine ⟨_,op_idx (j := id) (n := r.l.length) (q := ⟨b2,o2,none⟩) rfl (congrArg (fun u => vS u r.l.length) hqe) rfl rfl rfl hy.1 (by omega),?_⟩
     refine ⟨_,op_ldc (i := 0) (v := vI z) rfl rfl rfl rfl hm2 hc2 rfl rfl,?_⟩
     refine Cu lo0 st [(0,vS p t.length),(1,vI id),(5,vI z),(6,vI (x.1 : Int)),(13,vB true),(24,vB false),(37,vB true)] fun _ => ?_
     have e15 : IntKind.wrap .i64 ((x.1 : Int) + 1) = ((x.1 + 1 : Nat) : Int) := (wrap_i64 (by omega) (by omega)).trans (by omega)
     refine ⟨_,rfl,?_⟩
     exact ⟨(x.1 + 1,z),t.length - (x.1 + 1),by omega,⟨rfl,rfl,rfl,congrArg (Value.int .i64) e15,trivial⟩,rfl,rfl,h1',by rw [if_pos (.inl (decide_eq_true (by omega)))] at hc; exact hc,rfl⟩
 ·replace h0 : (t.length : Int) = 0 := beq_iff_eq.1 h0
  refine Cu lo0 st [(0,vS p t.length),(1,vI id),(4,vI 0),(9,vB true)] fun _ => ?_
  refine cxs ?_
  have : t = [] := List.length_eq_zero_iff.1 (by omega)
  exact Rt ⟨by rw [this]; rfl,rfl⟩
theorem ac_impl_Common (p : Option Addr) (t : List RV) (id : Int) (st : St) (hR : RdT st p t) (hs : szOk t.length) (hr : ∀ r ∈ t,szOk r.l.length) : C 154 [vS p t.length,vI id] st (fun v s => v = vI (common (t.map (·.l)) id) ∧ s = st) := by
 have hs : t.length ≤ 1048576 := hs
 refine AC.enterX (i := ⟨[],[],[0,1,4,5,6,7,8,9,10,11,20,30],[]⟩) [] Tryz.func154 rfl rfl (by kernel_rfl) (by kernel_rfl) Tryz.ntmps154 (Lb rfl) rfl ?_
 refine cxs ?_
 refine Cu lo0 st [(0,vS p t.length),(1,vI id),(4,vI 0),(5,vI 0)] fun _ => ?_
 refine ⟨_,rfl,?_⟩
 refine Cu lo0 st [(0,vS p t.length),(1,vI id),(4,vI 0),(5,vI 0),(8,vS p t.length),(9,vI (t.length)),(10,vI 0)] fun _ => ?_
 refine AW.loop0 (fun x : Nat × Int => [(0,vS p t.length),(1,vI id),(5,vI x.2),(8,vS p t.length),(9,vI (t.length : Int)),(10,vI (x.1 : Int))]) (fun m (x : Nat × Int) st' => m = t.length - x.1 ∧ x.1 ≤ t.length ∧ common (t.map (·.l)) id = commonGo id ((t.drop x.1).map (·.l)) (decide (x.1 = 0)) x.2 ∧ st = st') (0,0) _ ⟨rfl,rfl,rfl,rfl,rfl,rfl,trivial⟩ rfl ⟨rfl,Nat.zero_le _,rfl,rfl⟩ ?_
 rintro m x ρ0 st' ⟨rfl,hi,hc,rfl⟩
 refine ⟨_,rfl,?_⟩
 rintro (_|_) h1
 ·replace h1 : ¬ ((x.1 : Int) < (t.length : Int)) := of_decide_eq_false h1
  refine Cu lo0 st [(0,vS p t.length),(1,vI id),(5,vI x.2),(8,vS p t.length),(9,vI (t.length : Int)),(10,vI (x.1 : Int)),(11,vB false)] fun _ => ?_
  refine cxs ?_
  refine cxs ?_
  have hil : x.1 = t.length := by omega
  rw [hil,List.drop_length] at hc
  exact Rt ⟨congrArg vI hc.symm,rfl⟩
 ·replace h1 : (x.1 : Int) < (t.length : Int) := of_decide_eq_true h1
  refine Cu lo0 st [(0,vS p t.length),(1,vI id),(5,vI x.2),(8,vS p t.length),(9,vI (t.length : Int)),(10,vI (x.1 : Int)),(11,vB true)] fun _ => ?_
  have h1' := Int.ofNat_lt.1 h1
  have ⟨b1,o1,k1,r,hpe,hr1,hm1,hc1,hb1⟩ := hR.1.atB h1'
  have hmem := List.mem_of_getElem? hr1
  have hrs : r.l.length ≤ 1048576 := hr r hmem
  obtain ⟨d1,d2,d3⟩ := split_at hr1
  rw [d3,List.map_cons,commonGo] at hc
  have e18 : IntKind.wrap .i64 ((r.l.length : Int) - 1) = (r.l.length : Int) - 1 := wrap_i64 (by omega) (by omega)
  refine cxs ?_
  refine ⟨_,op_idx (j := (x.1 : Int)) (n := t.length) (q := ⟨b1,o1,none⟩) rfl (congrArg (fun u => vS u t.length) hpe) rfl rfl rfl (Int.natCast_nonneg _) h1,?_⟩
  refine ⟨_,op_ldc (i := 0) (v := vS r.p r.l.length) rfl rfl rfl rfl hm1 hc1 rfl rfl,?_⟩
  refine Cu lo0 st [(0,vS p t.length),(1,vI id),(5,vI x.2),(6,vI (x.1 : Int)),(7,vS r.p r.l.length),(8,vS p t.length),(9,vI (t.length : Int)),(10,vI (x.1 : Int)),(11,vB true)] fun _ => ?_
  iterate 2 refine ⟨_,rfl,?_⟩
  refine ⟨_,rfl,(ac_impl_within id 0 _ st).mono ?_⟩
  rintro _ st ⟨y,rfl,hy,rfl⟩
  rcases y with _|_
  ·replace hy := of_decide_eq_false hy.symm
   refine ⟨_,rfl,?_⟩
   refine Cu lo0 st [(0,vS p t.length),(1,vI id),(5,vI x.2),(6,vI (x.1 : Int)),(7,vS r.p r.l.length),(8,vS p t.length),(9,vI (t.length : Int)),(10,vI (x.1 : Int)),(11,vB true),(20,vB true)] fun _ => ?_
   replace hy : ¬ (0 ≤ id ∧ id ≤ (r.l.length : Int) - 1) := fun h => hy (by rw [e18]; exact h)
   rw [if_neg hy] at hc
   exact cxs (Rt ⟨congrArg vI hc.symm,rfl⟩)
  ·replace hy := of_decide_eq_true hy.symm
   refine ⟨_,rfl,?_⟩
   refine Cu lo0 st [(0,vS p t.length),(1,vI id),(5,vI x.2),(6,vI (x.1 : Int)),(7,vS r.p r.l.length),(8,vS p t.length),(9,vI (t.length : Int)),(10,vI (x.1 : Int)),(11,vB true),(20,vB false)] fun _ => ?_
   replace hy : 0 ≤ id ∧ id ≤ IntKind.wrap .i64 ((r.l.length : Int) - 1) := hy
   rw [e18] at hy
   rw [if_pos hy] at hc
   have ⟨b2,o2,k2,z,hqe,hz,hm2,hc2,hb2⟩ := (hR.2 r hmem).atB (j := id.toNat) (by omega)
   rw [getD_of hz] at hc
   refine cxs ?_
   refine ⟨_,rfl,?_⟩
   rintro (_|_) h2
   ·replace h2 : ¬ ((x.1 : Int) = 0) := beq_eq_false_iff_ne.1 h2
    refine ⟨_,op_idx (j := id) (n := r.l.length) (q := ⟨b2,o2,none⟩) rfl (congrArg (fun u => vS u r.l.length) hqe) rfl rfl rfl hy.1 (by omega),?_⟩
    refine ⟨_,op_ldc (i := 0) (v := vI z) rfl rfl rfl rfl hm2 hc2 rfl rfl,?_⟩
    refine ⟨_,rfl,?_⟩
    rintro (_|_) h3
    ·replace h3 : ¬ (z < x.2) := of_decide_eq_false h3
     refine ⟨_,rfl,?_⟩
     refine Cu lo0 st [(0,vS p t.length),(1,vI id),(5,vI x.2),(6,vI (x.1 : Int)),(7,vS r.p r.l.length),(8,vS p t.length),(9,vI (t.length : Int)),(10,vI (x.1 : Int)),(11,vB true),(20,vB false),(30,vB false)] fun _ => ?_
     refine cxs ?_
     have e35 : IntKind.wrap .i64 ((x.1 : Int) + 1) = ((x.1 + 1 : Nat) : Int) := (wrap_i64 (by omega) (by omega)).trans (by omega)
     refine ⟨_,rfl,?_⟩
     exact ⟨(x.1 + 1,x.2),t.length - (x.1 + 1),by omega,⟨rfl,rfl,rfl,rfl,rfl,congrArg (Value.int .i64) e35,trivial⟩,rfl,rfl,h1',by rw [if_neg (fun h => by rcases h with h | h; exact absurd (of_decide_eq_true h) (by omega); exact h3 h)] at hc; exact hc,rfl⟩
    ·replace h3 : z < x.2 := of_decide_eq_true h3
     refine ⟨_,rfl,?_⟩
     refine Cu lo0 st [(0,vS p t.length),(1,vI id),(5,vI x.2),(6,vI (x.1 : Int)),(7,vS r.p r.l.length),(8,vS p t.length),(9,vI (t.length : Int)),(10,vI (x.1 : Int)),(11,vB true),(20,vB false),(30,vB true)] fun _ => ?_
     refine ⟨_,op_idx (j := id) (n := r.l.length) (q := ⟨b2,o2,none⟩) rfl (congrArg (fun u => vS u r.l.length) hqe) rfl rfl rfl hy.1 (by omega),?_⟩
     refine ⟨_,op_ldc (i := 0) (v := vI z) rfl rfl rfl rfl hm2 hc2 rfl rfl,?_⟩
     refine Cu lo0 st [(0,vS p t.length),(1,vI id),(5,vI z),(6,vI (x.1 : Int)),(7,vS r.p r.l.length),(8,vS p t.length),(9,vI (t.length : Int)),(10,vI (x.1 : Int)),(11,vB true),(20,vB false),(30,vB true)] fun _ => ?_
     have e35 : IntKind.wrap .i64 ((x.1 : Int) + 1) = ((x.1 + 1 : Nat) : Int) := (wrap_i64 (by omega) (by omega)).trans (by omega)
     refine ⟨_,rfl,?_⟩
     exact ⟨(x.1 + 1,z),t.length - (x.1 + 1),by omega,⟨rfl,rfl,rfl,rfl,rfl,congrArg (Value.int .i64) e35,trivial⟩,rfl,rfl,h1',by rw [if_pos (.inr h3)] at hc; exact hc,rfl⟩
   ·replace h2 : (x.1 : Int) = 0 := beq_iff_eq.1 h2
    refine ⟨_,rfl,?_⟩
    refine Cu lo0 st [(0,vS p t.length),(1,vI id),(5,vI x.2),(6,vI (x.1 : Int)),(7,vS r.p r.l.length),(8,vS p t.length),(9,vI (t.length : Int)),(10,vI (x.1 : Int)),(11,vB true),(20,vB false),(30,vB true)] fun _ => ?_
    refine ⟨_,op_idx (j := id) (n := r.l.length) (q := ⟨b2,o2,none⟩) rfl (congrArg (fun u => vS u r.l.length) hqe) rfl rfl rfl hy.1 (by omega),?_⟩
    refine ⟨_,op_ldc (i := 0) (v := vI z) rfl rfl rfl rfl hm2 hc2 rfl rfl,?_⟩
    refine Cu lo0 st [(0,vS p t.length),(1,vI id),(5,vI z),(6,vI (x.1 : Int)),(7,vS r.p r.l.length),(8,vS p t.length),(9,vI (t.length : Int)),(10,vI (x.1 : Int)),(11,vB true),(20,vB false),(30,vB true)] fun _ => ?_
    have e35 : IntKind.wrap .i64 ((x.1 : Int) + 1) = ((x.1 + 1 : Nat) : Int) := (wrap_i64 (by omega) (by omega)).trans (by omega)
    refine ⟨_,rfl,?_⟩
    exact ⟨(x.1 + 1,z),t.length - (x.1 + 1),by omega,⟨rfl,rfl,rfl,rfl,rfl,congrArg (Value.int .i64) e35,trivial⟩,rfl,rfl,h1',by rw [if_pos (.inl (decide_eq_true (by omega)))] at hc; exact hc,rfl⟩
theorem own_one {α : Type} {st : St} {z : Nat} {f : α → List Value} {p : Option Addr} {l : List α} (h0 : 0 < z) (hz : ∀ x,(f x).length = z) (h : OwnP st [pcR z f p l]) : OwnR st z f p l := pc_own h0 hz (h.1 _ (List.mem_singleton_self _))
abbrev pcIs (g : RV) : List Pc := [pcRV g]
theorem OwnP.rdIs {st : St} {g : RV} (h : OwnP st (pcIs g)) : Rows st 1 fI g.p g.l := (own_one Nat.one_pos fI_len h).rows fI_len
def mkIs (g : RV) (k : Int) : RV := ⟨g.p,mkInts g.l.length k⟩
theorem mkp_Is (g : RV) (k : Int) : (pcIs (mkIs g k)).map (·.p) = (pcIs g).map (·.p) := rfl
abbrev cntIs (l : List Int) : Nat := l.length
theorem uc_toIntS (g : RV) (st : St) (hR : Rows st 1 fI g.p g.l) (hb : szOk g.l.length) : C 114 [vS g.p g.l.length] st (fun v s => ∃ u : RV,v = vS u.p u.l.length ∧ u.l = g.l ∧ OwnP s (pcIs u) ∧ NewP st.next (pcIs u) ∧ Pres st s) :=
 (ac_laws_toIntS g.p g.l st hR hb).mono fun v s ⟨q,h1,h2,h3,h4⟩ => ⟨⟨q,g.l⟩,h1,rfl,OwnP.one (own_pc h2),NewP.cons h4 NewP.nil,h3⟩
theorem uc_markIntS (u : RV) (k : Int) (st : St) (hO : OwnP st (pcIs u)) (hb : szOk u.l.length) (h0 : 0 ≤ k) (hk : k ≤ 137438953472) : C 128 [vS u.p u.l.length,vI k] st (fun v s => v = vI (k + (cntIs u.l : Int)) ∧ OwnP s (pcIs (mkIs u k)) ∧ PrL ((pcIs u).map (·.p)) st s) :=
 (ac_laws_markIntS u.p u.l k st (own_one Nat.one_pos fI_len hO) hb h0 (by omega)).mono fun v s ⟨h1,h2,h3⟩ => ⟨h1,OwnP.one (own_pc h2),h3.l (List.mem_singleton_self _)⟩
theorem uc_heldIntS (u : RV) (k : Int) (st : St) (hR : Rows st 1 fI (mkIs u k).p (mkIs u k).l) (hb : szOk u.l.length) (h0 : 0 ≤ k) (hk : k ≤ 137438953472) : C 136 [vS u.p u.l.length,vI k] st (fun v s => v = vI (k + (cntIs u.l : Int)) ∧ Pres st s) :=
 (ac_laws_heldIntS u.p u.l.length k st hR hb h0 (by omega)).mono fun v s ⟨h1,h2⟩ => ⟨h1,h2 ▸ Pres.refl _⟩
structure FV where
 p : Option Addr
 l : List Flr
abbrev pcFV (g : FV) : List Pc := [pcR 2 cFlr g.p g.l]
structure TT where
 p : Option Addr
 t : List RV
abbrev TT.x (g : TT) : List (List Int) := rls g.t
abbrev pcTT (g : TT) : List Pc := pcT g.p g.t
def bigT (x : List (List Int)) : Prop := szOk x.length ∧ ∀ l ∈ x,szOk l.length
theorem bigT_iff {t : List RV} : bigT (rls t) ↔ szOk t.length ∧ ∀ r ∈ t,szOk r.l.length := by
 refine ⟨fun h => ⟨by have := h.1; rwa [List.length_map] at this,fun r hr => h.2 r.l (List.mem_map_of_mem hr)⟩,fun h => ⟨by rw [List.length_map]; exact h.1,fun l hl => ?_⟩⟩
 obtain ⟨r,hr,rfl⟩ := List.mem_map.1 hl
 exact h.2 r hr
def cntTab (x : List (List Int)) : Nat := (x.map List.length).sum
theorem cntTab_t (t : List RV) : cntTab (rls t) = cntT t := by simp [cntTab,cntT,rls,Function.comp_def]
theorem cntT_mem {t : List RV} {r : RV} (h : r ∈ t) : r.l.length ≤ cntT t := by
 obtain ⟨i,hi⟩ := List.getElem?_of_mem h
 have := cntT_take hi
 omega
theorem sz_bigT {g : TT} (h : g.t.length + cntT g.t ≤ 1048576) : bigT g.x := bigT_iff.2 ⟨by unfold szOk; omega,fun r hr => by have := cntT_mem hr; unfold szOk; omega⟩
def mkTT (g : TT) (k : Int) : TT := ⟨g.p,mkT g.t k⟩
theorem mkp_TT (g : TT) (k : Int) : (pcTT (mkTT g k)).map (·.p) = (pcTT g).map (·.p) := by
 show g.p :: ((mkT g.t k).map pcRV).map (·.p) = g.p :: (g.t.map pcRV).map (·.p)
 rw [List.map_map,List.map_map]
 exact congrArg (g.p :: ·) (mkT_ps g.t k)
def maxT (t : List RV) : Prop := t.length ≤ maxLen ∧ ∀ r ∈ t,r.l.length ≤ maxLen
theorem uc_toIntSS (g : TT) (st : St) (hR : RdT st g.p g.t) (hb : bigT g.x) : C 115 [vS g.p g.t.length] st (fun v s => ∃ u : TT,v = vS u.p u.t.length ∧ u.x = g.x ∧ OwnP s (pcTT u) ∧ NewP st.next (pcTT u) ∧ Pres st s) :=
 (ac_laws_toIntSS g.p g.t st hR (bigT_iff.1 hb).1 (bigT_iff.1 hb).2).mono fun v s ⟨q,u,h1,h2,h3,h4,h5⟩ => ⟨⟨q,u⟩,h1.trans (congrArg (vS q) (by have := congrArg List.length h2; simpa using this.symm)),h2,h3,h4,h5⟩
theorem uc_eqIntSS (a b : TT) (st : St) (hA : RdT st a.p a.t) (hB : RdT st b.p b.t) (hb : bigT a.x) : C 121 [vS a.p a.t.length,vS b.p b.t.length] st (fun v s => ∃ x,v = .bool x ∧ (x = true ↔ a.x = b.x) ∧ s = st) :=
 ac_laws_eqIntSS a.p b.p a.t b.t st hA hB (bigT_iff.1 hb).1 (bigT_iff.1 hb).2
theorem uc_markIntSS (u : TT) (k : Int) (st : St) (hO : OwnP st (pcTT u)) (hb : bigT u.x) (h0 : 0 ≤ k) (hk : k + (cntTab u.x : Int) ≤ 137438953472) : C 129 [vS u.p u.t.length,vI k] st (fun v s => v = vI (k + (cntTab u.x : Int)) ∧ OwnP s (pcTT (mkTT u k)) ∧ PrL ((pcTT u).map (·.p)) st s) := by
 have hc := cntTab_t u.t
 have hk : k + (cntTab (rls u.t) : Int) ≤ 137438953472 := hk
 refine (ac_laws_markIntSS u.p u.t k st hO (bigT_iff.1 hb).1 (bigT_iff.1 hb).2 h0 (by omega)).mono fun v s ⟨h1,h2,h3⟩ => ⟨h1.trans (by show vI (k + (cntT u.t : Int)) = vI (k + (cntTab (rls u.t) : Int)); rw [hc]),h2,h3.mono fun p hp => ?_⟩
 show p ∈ u.p :: (u.t.map pcRV).map (·.p)
 rw [List.map_map]
 exact List.mem_cons_of_mem _ hp
theorem uc_heldIntSS (u : TT) (k : Int) (st : St) (hR : RdT st (mkTT u k).p (mkTT u k).t) (hb : bigT u.x) (h0 : 0 ≤ k) (hk : k + (cntTab u.x : Int) ≤ 137438953472) : C 137 [vS u.p u.t.length,vI k] st (fun v s => v = vI (k + (cntTab u.x : Int)) ∧ Pres st s) := by
 have hc := cntTab_t u.t
 have hk : k + (cntTab (rls u.t) : Int) ≤ 137438953472 := hk
 exact (ac_laws_heldIntSS u.p u.t k st hR (bigT_iff.1 hb).1 (bigT_iff.1 hb).2 h0 (by omega)).mono fun v s ⟨h1,h2⟩ => ⟨h1.trans (by show vI (k + (cntT u.t : Int)) = vI (k + (cntTab (rls u.t) : Int)); rw [hc]),h2 ▸ Pres.refl _⟩
end Go.Proofs.YtpnolkhfeliehaaGreat.AM
namespace Go.Proofs.YtpnolkhfeliehaaGreat.AM
open Go Go.Proofs
set_option linter.unusedVariables false
set_option linter.unusedSimpArgs false
def Frs (a b : St) (l : List Pc) : Prop := OwnP b l ∧ NewP a.next l ∧ Pres a b
theorem Frs.join {a b c : St} {l m : List Pc} (h : Frs a b l) (k : Frs b c m) : Frs a c (l ++ m) :=
 ⟨h.1.join k.2.2 k.1 k.2.1,h.2.1.app (k.2.1.le h.2.2.1),h.2.2.trans k.2.2⟩
theorem map_app2 {a a' b b' : List Pc} (h : a'.map (·.p) = a.map (·.p)) (k : b'.map (·.p) = b.map (·.p)) : (a' ++ b').map (·.p) = (a ++ b).map (·.p) := by rw [List.map_append,List.map_append,h,k]
theorem PrL.inl {a b : List Pc} {st st' : St} (h : PrL (a.map (·.p)) st st') : PrL ((a ++ b).map (·.p)) st st' := h.mono fun p hp => by rw [List.map_append]; exact List.mem_append_left _ hp
theorem PrL.inr {a b : List Pc} {st st' : St} (h : PrL (b.map (·.p)) st st') : PrL ((a ++ b).map (·.p)) st st' := h.mono fun p hp => by rw [List.map_append]; exact List.mem_append_right _ hp
structure Tr where
 leaves : List Int
 root : Int
structure TV extends RV where
 root : Int
abbrev TV.x (t : TV) : Tr := ⟨t.l,t.root⟩
abbrev cTV (t : TV) : List Value := [vS t.p t.l.length,vI t.root]
structure Ses where
 peer : Int
 num : Int
 inn : Bool
 age : Int
structure Ris where
 inc : Int
 beat : Int
 tick : Int
abbrev cSess (x : Ses) : List Value := [vI x.peer,vI x.num,vB x.inn,vI x.age]
abbrev cRise (x : Ris) : List Value := [vI x.inc,vI x.beat,vI x.tick]
theorem len_cSess (x : Ses) : (cSess x).length = 4 := rfl
theorem len_cRise (x : Ris) : (cRise x).length = 3 := rfl
def zSes : Ses := ⟨0,0,false,0⟩
def zRis : Ris := ⟨0,0,0⟩
structure SesV where
 p : Option Addr
 l : List Ses
structure RisV where
 p : Option Addr
 l : List Ris
abbrev pcSes (g : SesV) : List Pc := [pcR 4 cSess g.p g.l]
abbrev pcRis (g : RisV) : List Pc := [pcR 3 cRise g.p g.l]
theorem OwnP.rdSes {st : St} {g : SesV} (h : OwnP st (pcSes g)) : Rows st 4 cSess g.p g.l := (own_one (by decide) len_cSess h).rows len_cSess
theorem OwnP.rdRis {st : St} {g : RisV} (h : OwnP st (pcRis g)) : Rows st 3 cRise g.p g.l := (own_one (by decide) len_cRise h).rows len_cRise
structure Mg where
 kind : Int
 frm : Int
 to : Int
 num : Int
 hi : Int
 tree : Tr
 vec : List Int
 leaves : List Int
 part : Sta
 marks : List Flr
structure MV where
 kind : Int
 frm : Int
 to : Int
 num : Int
 hi : Int
 tree : TV
 vec : RV
 leaves : RV
 part : SV
 marks : FV
abbrev MV.x (m : MV) : Mg := ⟨m.kind,m.frm,m.to,m.num,m.hi,m.tree.x,m.vec.l,m.leaves.l,m.part.x,m.marks.l⟩
structure RdM (st : St) (m : MV) : Prop where
 tree : Rows st 1 fI m.tree.p m.tree.l
 vec : Rows st 1 fI m.vec.p m.vec.l
 leaves : Rows st 1 fI m.leaves.p m.leaves.l
 part : RdS st m.part
 marks : Rows st 2 cFlr m.marks.p m.marks.l
theorem RdM.pres {st st' : St} {m : MV} (h : RdM st m) (k : Pres st st') : RdM st' m := ⟨k.rows h.tree,k.rows h.vec,k.rows h.leaves,h.part.pres k,k.rows h.marks⟩
abbrev pcMV (m : MV) : List Pc := pcIs m.tree.toRV ++ (pcIs m.vec ++ (pcIs m.leaves ++ (pcS m.part ++ pcFV m.marks)))
structure Nd where
 id : Int
 n : Int
 s : Sta
 t : Tr
 g : Lg
 got : List Int
 acked : List Int
 seen : List (List Int)
 num : Int
 slots : Int
 sess : List Ses
 wait : Int
 limit : Int
 clock : Int
 rises : List Ris
structure NV where
 id : Int
 n : Int
 s : SV
 t : TV
 g : LV
 got : RV
 acked : RV
 seen : TT
 num : Int
 slots : Int
 sess : SesV
 wait : Int
 limit : Int
 clock : Int
 rises : RisV
abbrev NV.x (v : NV) : Nd := ⟨v.id,v.n,v.s.x,v.t.x,v.g.x,v.got.l,v.acked.l,v.seen.x,v.num,v.slots,v.sess.l,v.wait,v.limit,v.clock,v.rises.l⟩
abbrev cNV (v : NV) : List Value := [vI v.id,vI v.n,vS v.s.p v.s.x.items.length,vS v.s.q v.s.x.floors.length,vS v.t.p v.t.l.length,vI v.t.root,vI v.g.cap,vI v.g.frm,vS v.g.p v.g.l.length,vS v.got.p v.got.l.length,vS v.acked.p v.acked.l.length,vS v.seen.p v.seen.t.length,vI v.num,vI v.slots,vS v.sess.p v.sess.l.length,vI v.wait,vI v.limit,vI v.clock,vS v.rises.p v.rises.l.length]
abbrev vNV (v : NV) : Value := .agg #[vI v.id,vI v.n,vS v.s.p v.s.x.items.length,vS v.s.q v.s.x.floors.length,vS v.t.p v.t.l.length,vI v.t.root,vI v.g.cap,vI v.g.frm,vS v.g.p v.g.l.length,vS v.got.p v.got.l.length,vS v.acked.p v.acked.l.length,vS v.seen.p v.seen.t.length,vI v.num,vI v.slots,vS v.sess.p v.sess.l.length,vI v.wait,vI v.limit,vI v.clock,vS v.rises.p v.rises.l.length]
structure NW where
 id : Int
 n : Int
 s : SV
 t : TV
 g : LW
 got : RV
 acked : RV
 seen : TT
 num : Int
 slots : Int
 sess : SesV
 wait : Int
 limit : Int
 clock : Int
 rises : RisV
abbrev NW.v (v : NW) : NV := ⟨v.id,v.n,v.s,v.t,v.g.v,v.got,v.acked,v.seen,v.num,v.slots,v.sess,v.wait,v.limit,v.clock,v.rises⟩
abbrev NW.x (v : NW) : Nd := v.v.x
structure RdN (st : St) (v : NV) : Prop where
 s : RdS st v.s
 t : Rows st 1 fI v.t.p v.t.l
 g : RdL st v.g.p v.g.l
 got : Rows st 1 fI v.got.p v.got.l
 acked : Rows st 1 fI v.acked.p v.acked.l
 seen : RdT st v.seen.p v.seen.t
 sess : Rows st 4 cSess v.sess.p v.sess.l
 rises : Rows st 3 cRise v.rises.p v.rises.l
theorem RdN.pres {st st' : St} {v : NV} (h : RdN st v) (k : Pres st st') : RdN st' v := ⟨h.s.pres k,k.rows h.t,h.g.pres k,k.rows h.got,k.rows h.acked,h.seen.pres k,k.rows h.sess,k.rows h.rises⟩
structure bigN (x : Nd) : Prop where
 s : bigS x.s
 t : szOk x.t.leaves.length
 g : bigLog x.g
 got : szOk x.got.length
 acked : szOk x.acked.length
 seen : bigT x.seen
 sess : szOk x.sess.length
 rises : szOk x.rises.length
structure maxN (v : NV) : Prop where
 s : maxS v.s.x
 t : v.t.l.length ≤ maxLen
 g : maxL v.g.l
 got : v.got.l.length ≤ maxLen
 acked : v.acked.l.length ≤ maxLen
 seen : maxT v.seen.t
 sess : v.sess.l.length ≤ maxLen
 rises : v.rises.l.length ≤ maxLen
abbrev pcNW (v : NW) : List Pc := pcS v.s ++ (pcIs v.t.toRV ++ (pcLog v.g ++ (pcIs v.got ++ (pcIs v.acked ++ (pcTT v.seen ++ (pcSes v.sess ++ pcRis v.rises))))))
theorem OwnP.rdN {st : St} {v : NW} (h : OwnP st (pcNW v)) : RdN st v.v :=
 ⟨h.left.rdS,h.right.left.rdIs,h.right.right.left.rdLog,h.right.right.right.left.rdIs,h.right.right.right.right.left.rdIs,h.right.right.right.right.right.left.rdT,h.right.right.right.right.right.right.left.rdSes,h.right.right.right.right.right.right.right.rdRis⟩
def szNd (v : NV) : Nat := szSta v.s.x + v.t.l.length + szL v.g.l + v.got.l.length + v.acked.l.length + (v.seen.t.length + cntT v.seen.t) + v.sess.l.length + v.rises.l.length
theorem sz_bigN {v : NV} (h : szNd v ≤ 1048576) : bigN v.x := by
 unfold szNd at h
 have k : ∀ n : Nat,n ≤ 1048576 → szOk n := fun n h => h
 exact ⟨sz_bigS (s := v.s.x) (by omega),k v.t.l.length (by omega),bigLog_iff.2 (sz_bigL (by omega)),k v.got.l.length (by omega),k v.acked.l.length (by omega),sz_bigT (g := v.seen) (by omega),k v.sess.l.length (by omega),k v.rises.l.length (by omega)⟩
def cntNode (x : Nd) : Nat := cntS x.s + x.t.leaves.length + cntLog x.g + x.got.length + x.acked.length + cntTab x.seen + 4 * x.sess.length + 3 * x.rises.length
theorem cntS_le (s : Sta) : cntS s ≤ 6 * szSta s := by unfold cntS szSta szI; omega
theorem cnt_Node {v : NV} (h : szNd v ≤ 1048576) : cntNode v.x ≤ 8388608 := by
 have h1 := cntS_le v.s.x
 have h2 := cntLog_l v.g
 have h3 := cntL_le v.g.l
 have h4 := cntTab_t v.seen.t
 unfold szNd at h
 show cntS v.s.x + v.t.l.length + cntLog v.g.x + v.got.l.length + v.acked.l.length + cntTab (rls v.seen.t) + 4 * v.sess.l.length + 3 * v.rises.l.length ≤ 8388608
 omega
instance : Coe NW NV := ⟨NW.v⟩
abbrev Nv (v : NV) (l : List (Nat × Value)) : List Value := l.foldl (fun a p => a.set p.1 p.2) (cNV v)
end Go.Proofs.YtpnolkhfeliehaaGreat.AM
namespace Go.Proofs.YtpnolkhfeliehaaGreat.AM
open Go Go.Proofs
set_option linter.unusedVariables false
set_option linter.unusedSimpArgs false
set_option maxRecDepth 100000
set_option maxHeartbeats 4000000
def bsl (s : ByteArray) : List Int := s.data.toList.map fun b => (b.toNat : Int)
theorem bsl_len (s : ByteArray) : (bsl s).length = s.size := by rw [bsl,List.length_map,Array.length_toList]; rfl
theorem bsl_ok (s : ByteArray) : bytesOk (bsl s) := fun x hx => by
 obtain ⟨b,_,rfl⟩ := List.mem_map.1 hx
 have := b.toNat_lt
 omega
theorem fb_map : ∀ l : List UInt8,(l.map fun b => (b.toNat : Int)).flatMap fB = l.map fun b => Value.int .u8 b.toNat
 | [] => rfl
 | b :: l => by rw [List.map_cons,List.flatMap_cons,fb_map l]; rfl
section
variable {P : Program} {ls : List Tmp} {call : ACallT} {o : Oper} {e : Operand → Value} {lo : Lo} {st : St} {K : Value × Lo × St → Prop}
theorem op_bytes {src dst el : TypeId} {x : Operand} {s : ByteArray} (ho : o.op = .convert src dst x) (hx : e x = .string s) (hd : telem P dst = some el) (h1 : tint P el = some .u8) (h2 : tstr P src = true) (hs : s.size ≤ maxLen)
  (hK : ∀ q st',OwnR st' 1 fB q (bsl s) → Pres st st' → New st.next q → K (.slice q (bsl s).length (bsl s).length,lo,st')) : ∃ r,aoper P ls call o e lo st = some r ∧ K r := by
 obtain ⟨d,op,ty,pos,after,gd⟩ := o
 simp only at ho
 subst ho
 refine ⟨_,?_,hK (some ⟨st.next,0,none⟩) (st.push 1 ((bsl s).flatMap fB)) OwnR.push Pres.push New.self⟩
 simp only [aoper,hd,abytesOf,hx]
 rw [if_pos ⟨h1,h2,hs⟩,bsl_len,show (bsl s).flatMap fB = s.data.toList.map (fun b => Value.int .u8 b.toNat) from fb_map _]
theorem op_litR {t el : TypeId} {n : Nat} {ps : Array (Nat × Operand)} {u : Value} (l : List RV) (ho : o.op = .buildSlice t n ps) (hp : parts e ps = mkp 0 (l.map fun r => vS r.p r.l.length)) (hn : n = l.length) (h0 : 0 < n) (he : telem P t = some el) (hz : tsize P el = some 1) (hz0 : tzero P el = some [u]) (hsz : n ≤ 16777216)
  (hK : ∀ q st',OwnR st' 1 cRV q l → Pres st st' → New st.next q → K (.slice q n n,lo,st')) : ∃ r,aoper P ls call o e lo st = some r ∧ K r := by
 refine op_lit ho hp (by rw [hn,List.length_map]) h0 he hz hz0 Nat.one_pos rfl (by omega) (fun v hv => ?_) ?_
 ·obtain ⟨r,_,rfl⟩ := List.mem_map.1 hv
  exact ⟨rfl,rfl⟩
 ·rw [show (l.map fun r => vS r.p r.l.length).flatMap (fun v => v.cells.toList) = l.flatMap cRV by rw [List.flatMap_map]; rfl]
  exact hK _ _ OwnR.push Pres.push New.self
end
def putS (s : ByteArray) : List Int := putN s.size ++ bsl s
theorem putS_len (s : ByteArray) : (putS s).length ≤ 5 + s.size := by
 have := putN_len s.size
 rw [putS,List.length_append,bsl_len]
 omega
theorem putS_ok (s : ByteArray) : bytesOk (putS s) := (putN_ok _).app (bsl_ok s)
theorem cat_new {st0 st : St} {p q : Option Addr} {A B : Prop} {m : Nat} (hP : Pres st0 st) (hN : New st0.next p) (h : (q = p ∧ A ∧ B) ∨ (0 < m ∧ New st.next q)) : New st0.next q := by
 rcases h with ⟨h,_⟩ | ⟨_,h⟩
 ·rw [h]; exact hN
 ·exact h.le hP.1
theorem ac_spec_PutText (s : ByteArray) (st : St) (hs : s.size ≤ 1048576) : C 234 [.string s] st (fun v s' => ∃ q,v = vS q (putS s).length ∧ OwnR s' 1 fB q (putS s) ∧ New st.next q ∧ Pres st s') := by
 have hsl := bsl_len s
 have hpl := putN_len s.size
 refine AC.enterX (i := ⟨[],[],[0,2],[]⟩) [] Tryz.func234 rfl rfl (by kernel_rfl) (by kernel_rfl) Tryz.ntmps234 (Lb rfl) rfl ?_
 refine Cu lo0 st [(0,.string s),(2,Sn)] fun _ => ?_
 refine ⟨_,rfl,?_⟩
 refine ⟨_,rfl,(ac_spec_PutNum (s.size : Int) st).mono ?_⟩
 rintro _ s5 ⟨q5,rfl,hO5,hN5,hP5⟩
 refine op_bytes (s := s) rfl rfl rfl rfl rfl (by unfold maxLen; omega) ?_
 intro q7 s7 hO7 hP7 hN7
 refine op_cat' (z := 1) (st := s7) (f := fB) (b := 1) (l := putN (s.size : Int)) (l2 := bsl s) rfl rfl rfl rfl rfl rfl rfl (by decide) fB_len rfl rfl rfl rfl (by first | omega | (simp only [List.length_nil]; omega)) (by unfold maxLen; first | omega | (simp only [List.length_nil]; omega)) (hP7.ownR hO5) (hO7.rows fB_len) ?_
 intro q8 s8 hO8 hPr8 hN8
 exact cxs (Rt ⟨q8,rfl,hO8,cat_new (hP5.trans hP7) hN5 hN8,hPr8.pres (hP5.trans hP7) hN5⟩)
theorem ac_impl_PutText (s : ByteArray) (st : St) (hs : s.size ≤ 1048576) : C 229 [.string s] st (fun v s' => ∃ q,v = vS q (putS s).length ∧ OwnR s' 1 fB q (putS s) ∧ New st.next q ∧ Pres st s') := by
 have hsl := bsl_len s
 have hpl := putN_len s.size
 have hf : fl [⟨none,putN s.size⟩,⟨none,bsl s⟩] = putS s := by simp [fl,putS]
 refine AC.enterX (i := ⟨[],[],[0,2],[]⟩) [] Tryz.func229 rfl rfl (by kernel_rfl) (by kernel_rfl) Tryz.ntmps229 (Lb rfl) rfl ?_
 refine Cu lo0 st [(0,.string s),(2,Sn)] fun _ => ?_
 refine ⟨_,rfl,?_⟩
 refine ⟨_,rfl,(ac_impl_PutNum (s.size : Int) st).mono ?_⟩
 rintro _ s5 ⟨q5,rfl,hO5,hN5,hP5⟩
 refine op_bytes (s := s) rfl rfl rfl rfl rfl (by unfold maxLen; omega) ?_
 intro q7 s7 hO7 hP7 hN7
 refine op_litR [⟨q5,putN s.size⟩,⟨q7,bsl s⟩] rfl rfl rfl (by decide) rfl rfl rfl (by decide) ?_
 intro q8 s8 hO8 hP8 hN8
 refine ⟨_,rfl,(ac_impl_joined q8 [⟨q5,putN s.size⟩,⟨q7,bsl s⟩] s8 (hO8.rows cRV_len) (fun r hr => by
  rcases List.mem_cons.1 hr with rfl | hr
  ·exact (hP7.trans hP8).rows (hO5.rows fB_len)
  ·rw [List.mem_singleton.1 hr]; exact hP8.rows (hO7.rows fB_len)) (by show (2 : Nat) ≤ 1048576; omega) (by show (fl [⟨none,putN s.size⟩,⟨none,bsl s⟩]).length ≤ _; rw [hf]; have := putS_len s; omega)).mono ?_⟩
 rintro _ s9 ⟨q9,rfl,hO9,hN9,hP9⟩
 exact cxs (Rt ⟨q9,by first | rfl | exact congrArg (fun n => vS q9 n) (congrArg List.length hf),hf ▸ hO9,hN9.le ((hP5.trans hP7).trans hP8).1,((hP5.trans hP7).trans hP8).trans hP9⟩)
def leafOf (id : Int) : Int := if 0 ≤ id ∧ id ≤ 4 then crc (putN id) % 4 else -1
theorem ac_spec_LeafOf (id : Int) (st : St) : C 236 [vI id] st (fun v s => v = vI (leafOf id) ∧ Pres st s) := by
 refine AC.enterX (i := ⟨[],[],[0,2,5],[]⟩) [] Tryz.func236 rfl rfl (by kernel_rfl) (by kernel_rfl) Tryz.ntmps236 (Lb rfl) rfl ?_
 refine Cu lo0 st [(0,vI id),(2,vI 0)] fun _ => ?_
 refine ⟨_,rfl,(ac_spec_l3Node id st).mono ?_⟩
 rintro _ st ⟨x4,rfl,h4,rfl⟩
 rcases x4 with _|_
 ·replace h4 := of_decide_eq_false h4.symm
  refine ⟨_,rfl,?_⟩
  refine Cu lo0 st [(0,vI id),(2,vI 0),(5,vB true)] fun _ => ?_
  exact cxs (Rt ⟨congrArg vI (by rw [leafOf,if_neg h4]),Pres.refl _⟩)
 ·replace h4 := of_decide_eq_true h4.symm
  refine ⟨_,rfl,?_⟩
  refine Cu lo0 st [(0,vI id),(2,vI 0),(5,vB false)] fun _ => ?_
  refine cxs ?_
  refine ⟨_,rfl,(ac_spec_PutNum id st).mono ?_⟩
  rintro _ s7 ⟨q7,rfl,hO7,hN7,hP7⟩
  have hpl := putN_len id
  have hc0 := (crc_rng (putN_ok id)).1
  refine ⟨_,rfl,(ac_spec_Crc q7 (putN id) s7 (hO7.rows fB_len) (putN_ok id) (by omega)).mono ?_⟩
  rintro _ s7 ⟨rfl,rfl⟩
  refine ⟨_,op_rm (r := crc (putN id) % 4) rfl rfl rfl (by decide) (tm_emod 4 hc0),?_⟩
  exact cxs (Rt ⟨congrArg vI (by rw [leafOf,if_pos h4]),hP7⟩)
theorem ac_impl_LeafOf (id : Int) (st : St) : C 231 [vI id] st (fun v s => v = vI (leafOf id) ∧ Pres st s) := by
 refine AC.enterX (i := ⟨[],[],[0,2,5],[]⟩) [] Tryz.func231 rfl rfl (by kernel_rfl) (by kernel_rfl) Tryz.ntmps231 (Lb rfl) rfl ?_
 refine Cu lo0 st [(0,vI id),(2,vI 0)] fun _ => ?_
 refine ⟨_,rfl,(ac_impl_isNode id st).mono ?_⟩
 rintro _ st ⟨x4,rfl,h4,rfl⟩
 rcases x4 with _|_
 ·replace h4 := of_decide_eq_false h4.symm
  refine ⟨_,rfl,?_⟩
  refine Cu lo0 st [(0,vI id),(2,vI 0),(5,vB true)] fun _ => ?_
  exact cxs (Rt ⟨congrArg vI (by rw [leafOf,if_neg h4]),Pres.refl _⟩)
 ·replace h4 := of_decide_eq_true h4.symm
  refine ⟨_,rfl,?_⟩
  refine Cu lo0 st [(0,vI id),(2,vI 0),(5,vB false)] fun _ => ?_
  refine cxs ?_
  refine ⟨_,rfl,(ac_impl_PutNum id st).mono ?_⟩
  rintro _ s7 ⟨q7,rfl,hO7,hN7,hP7⟩
  have hpl := putN_len id
  have hc0 := (crc_rng (putN_ok id)).1
  refine ⟨_,rfl,(ac_impl_Crc q7 (putN id) s7 (hO7.rows fB_len) (putN_ok id) (by omega)).mono ?_⟩
  rintro _ s7 ⟨rfl,rfl⟩
  refine ⟨_,op_rm (r := crc (putN id) % 4) rfl rfl rfl (by decide) (tm_emod 4 hc0),?_⟩
  exact cxs (Rt ⟨congrArg vI (by rw [leafOf,if_pos h4]),hP7⟩)
theorem ac_spec_l1Has (p : Option Addr) (l : List Int) (y : Int) (st : St) (hR : Rows st 1 fI p l) (hs : szOk l.length) : C 235 [vS p l.length,vI y] st (fun v s => ∃ x,v = .bool x ∧ (x = true ↔ y ∈ l) ∧ s = st) := by
 have hs : l.length ≤ 1048576 := hs
 refine AC.enterX (i := ⟨[],[],[0,1,4,5,9,17],[]⟩) [] Tryz.func235 rfl rfl (by kernel_rfl) (by kernel_rfl) Tryz.ntmps235 (Lb rfl) rfl ?_
 refine cxs ?_
 refine Cu lo0 st [(0,vS p l.length),(1,vI y),(4,vB false),(5,vI 0)] fun _ => ?_
 refine AW.loop0 (fun i : Nat => [(0,vS p l.length),(1,vI y),(5,vI (i : Int))]) (fun m (i : Nat) st' => m = l.length - i ∧ i ≤ l.length ∧ (∀ (j : Nat) x,j < i → l[j]? = some x → ¬ x = y) ∧ st = st') 0 _ ⟨rfl,rfl,rfl,trivial⟩ rfl ⟨rfl,Nat.zero_le _,fun j x h => absurd h (Nat.not_lt_zero _),rfl⟩ ?_
 rintro m i ρ0 st' ⟨rfl,hi,hok,rfl⟩
 iterate 2 refine ⟨_,rfl,?_⟩
 rintro (_|_) h9
 ·replace h9 : ¬ ((i : Int) < (l.length : Int)) := of_decide_eq_false h9
  refine Cu lo0 st [(0,vS p l.length),(1,vI y),(5,vI (i : Int)),(9,vB false)] fun _ => ?_
  refine cxs ?_
  exact cxs (Rt ⟨false,rfl,⟨fun h => absurd h Bool.false_ne_true,fun h => (show False from (by obtain ⟨j,hj⟩ := List.getElem?_of_mem h; exact hok j y (by have := (List.getElem?_eq_some_iff.1 hj).1; omega) hj rfl)).elim⟩,rfl⟩)
 ·replace h9 : (i : Int) < (l.length : Int) := of_decide_eq_true h9
  refine Cu lo0 st [(0,vS p l.length),(1,vI y),(5,vI (i : Int)),(9,vB true)] fun _ => ?_
  refine cxs ?_
  refine op_at i hR (by omega) rfl rfl rfl rfl rfl rfl rfl ?_
  intro x14 b14 d14 k14 hy14 hb14 hm14 hc14 ho14
  refine ⟨_,op_ldc (i := 0) rfl rfl rfl rfl hm14 hc14 rfl rfl,?_⟩
  refine ⟨_,rfl,?_⟩
  rintro (_|_) h17
  ·replace h17 : ¬ (x14 = y) := beq_eq_false_iff_ne.1 h17
   refine Cu lo0 st [(0,vS p l.length),(1,vI y),(5,vI (i : Int)),(9,vB true),(17,vB false)] fun _ => ?_
   refine cxs ?_
   have ew11 : IntKind.wrap .i64 ((i : Int) + (1)) = ((i + 1 : Nat) : Int) := (wrap_i64 (by omega) (by omega)).trans (by omega)
   refine ⟨_,rfl,?_⟩
   refine ⟨i + 1,l.length - (i + 1),by omega,⟨rfl,rfl,congrArg (Value.int .i64) ew11,trivial⟩,rfl,rfl,by omega,fun j x hj hx => ?_,rfl⟩
   rcases Nat.lt_or_ge j i with h | h
   ·exact hok j x h hx
   ·obtain rfl : j = i := by omega
    rw [hy14] at hx; injection hx with hx; rw [← hx]; exact h17
  ·replace h17 : x14 = y := beq_iff_eq.1 h17
   refine Cu lo0 st [(0,vS p l.length),(1,vI y),(5,vI (i : Int)),(9,vB true),(17,vB true)] fun _ => ?_
   exact cxs (Rt ⟨true,rfl,⟨fun _ => h17 ▸ List.mem_of_getElem? hy14,fun _ => rfl⟩,rfl⟩)
theorem ac_slices_Index_Int (p : Option Addr) (l : List Int) (y : Int) (st : St) (hR : Rows st 1 fI p l) (hs : szOk l.length) : C 243 [vS p l.length,vI y] st (fun v s => ∃ i,v = vI i ∧ (0 ≤ i ↔ y ∈ l) ∧ s = st) := by
 have hs : l.length ≤ 1048576 := hs
 refine AC.enterX (i := ⟨[],[],[0,1,4,5,7,8,9,16],[]⟩) [] Tryz.func243 rfl rfl (by kernel_rfl) (by kernel_rfl) Tryz.ntmps243 (Lb rfl) rfl ?_
 refine Cu lo0 st [(0,vS p l.length),(1,vI y),(4,vI 0)] fun _ => ?_
 refine ⟨_,rfl,?_⟩
 refine Cu lo0 st [(0,vS p l.length),(1,vI y),(4,vI 0),(7,vI (l.length : Int)),(8,vI 0)] fun _ => ?_
 refine AW.loop0 (fun i : Nat => [(0,vS p l.length),(1,vI y),(7,vI (l.length : Int)),(8,vI (i : Int))]) (fun m (i : Nat) st' => m = l.length - i ∧ i ≤ l.length ∧ (∀ (j : Nat) x,j < i → l[j]? = some x → ¬ y = x) ∧ st = st') 0 _ ⟨rfl,rfl,rfl,rfl,trivial⟩ rfl ⟨rfl,Nat.zero_le _,fun j x h => absurd h (Nat.not_lt_zero _),rfl⟩ ?_
 rintro m i ρ0 st' ⟨rfl,hi,hok,rfl⟩
 refine ⟨_,rfl,?_⟩
 rintro (_|_) h9
 ·replace h9 : ¬ ((i : Int) < (l.length : Int)) := of_decide_eq_false h9
  refine Cu lo0 st [(0,vS p l.length),(1,vI y),(7,vI (l.length : Int)),(8,vI (i : Int)),(9,vB false)] fun _ => ?_
  refine cxs ?_
  exact cxs (Rt ⟨-1,rfl,⟨fun h => absurd h (by decide),fun h => by obtain ⟨j,hj⟩ := List.getElem?_of_mem h; exact absurd rfl (hok j y (by have := (List.getElem?_eq_some_iff.1 hj).1; omega) hj)⟩,rfl⟩)
 ·replace h9 : (i : Int) < (l.length : Int) := of_decide_eq_true h9
  refine Cu lo0 st [(0,vS p l.length),(1,vI y),(7,vI (l.length : Int)),(8,vI (i : Int)),(9,vB true)] fun _ => ?_
  refine cxs ?_
  refine Cu lo0 st [(0,vS p l.length),(1,vI y),(5,vI (i : Int)),(7,vI (l.length : Int)),(8,vI (i : Int)),(9,vB true)] fun _ => ?_
  refine op_at i hR (by omega) rfl rfl rfl rfl rfl rfl rfl ?_
  intro x14 b14 d14 k14 hy14 hb14 hm14 hc14 ho14
  refine ⟨_,op_ldc (i := 0) rfl rfl rfl rfl hm14 hc14 rfl rfl,?_⟩
  refine ⟨_,rfl,?_⟩
  rintro (_|_) h16
  ·replace h16 : ¬ (y = x14) := beq_eq_false_iff_ne.1 h16
   refine Cu lo0 st [(0,vS p l.length),(1,vI y),(5,vI (i : Int)),(7,vI (l.length : Int)),(8,vI (i : Int)),(9,vB true),(16,vB false)] fun _ => ?_
   refine cxs ?_
   have ew18 : IntKind.wrap .i64 ((i : Int) + (1)) = ((i + 1 : Nat) : Int) := (wrap_i64 (by omega) (by omega)).trans (by omega)
   refine ⟨_,rfl,?_⟩
   refine ⟨i + 1,l.length - (i + 1),by omega,⟨rfl,rfl,rfl,congrArg (Value.int .i64) ew18,trivial⟩,rfl,rfl,by omega,fun j x hj hx => ?_,rfl⟩
   rcases Nat.lt_or_ge j i with h | h
   ·exact hok j x h hx
   ·obtain rfl : j = i := by omega
    rw [hy14] at hx; injection hx with hx; rw [← hx]; exact h16
  ·replace h16 : y = x14 := beq_iff_eq.1 h16
   refine Cu lo0 st [(0,vS p l.length),(1,vI y),(5,vI (i : Int)),(7,vI (l.length : Int)),(8,vI (i : Int)),(9,vB true),(16,vB true)] fun _ => ?_
   exact cxs (Rt ⟨(i : Int),rfl,⟨fun _ => h16 ▸ List.mem_of_getElem? hy14,fun _ => by omega⟩,rfl⟩)
theorem ac_slices_Contains_Int (p : Option Addr) (l : List Int) (y : Int) (st : St) (hR : Rows st 1 fI p l) (hs : szOk l.length) : C 230 [vS p l.length,vI y] st (fun v s => ∃ x,v = .bool x ∧ (x = true ↔ y ∈ l) ∧ s = st) := by
 refine AC.enterX (i := ⟨[],[],[0,1,4],[]⟩) [] Tryz.func230 rfl rfl (by kernel_rfl) (by kernel_rfl) Tryz.ntmps230 (Lb rfl) rfl ?_
 refine Cu lo0 st [(0,vS p l.length),(1,vI y),(4,vB false)] fun _ => ?_
 refine ⟨_,rfl,(ac_slices_Index_Int p l y st hR hs).mono ?_⟩
 rintro _ st ⟨i,rfl,hi,rfl⟩
 refine ⟨_,rfl,?_⟩
 rintro (_|_) h8
 ·replace h8 : ¬ (i ≥ (0)) := of_decide_eq_false h8
  exact cxs (Rt ⟨false,rfl,⟨fun h => absurd h Bool.false_ne_true,fun h => (show False from (h8 (hi.2 h))).elim⟩,rfl⟩)
 ·replace h8 : i ≥ (0) := of_decide_eq_true h8
  exact cxs (Rt ⟨true,rfl,⟨fun _ => hi.1 h8,fun _ => rfl⟩,rfl⟩)
def numsB (l : List Int) : List Int := l.flatMap putN
theorem numsB_succ {l : List Int} {i : Nat} {x : Int} (h : l[i]? = some x) : numsB (l.take (i + 1)) = numsB (l.take i) ++ putN x := by
 unfold numsB
 rw [List.take_add_one,h,List.flatMap_append]
 simp
theorem numsB_len : ∀ l : List Int,(numsB l).length ≤ 5 * l.length
 | [] => Nat.le_refl _
 | x :: l => by
  have h1 := numsB_len l
  have h2 := putN_len x
  rw [show numsB (x :: l) = putN x ++ numsB l from List.flatMap_cons,List.length_append,List.length_cons]
  omega
theorem numsB_ok (l : List Int) : bytesOk (numsB l) := fun x hx => by
 obtain ⟨y,_,hy⟩ := List.mem_flatMap.1 hx
 exact putN_ok y x hy
def rootF (l : List Int) : Int := crc (numsB l) % 1024
theorem ac_spec_l6Root (p : Option Addr) (l : List Int) (st : St) (hR : Rows st 1 fI p l) (hs : szOk l.length) : C 168 [vS p l.length] st (fun v s => v = vI (rootF l) ∧ Pres st s) := by
 have hs : l.length ≤ 1048576 := hs
 refine AC.enterX (i := ⟨[],[],[0,2,3,4,9],[]⟩) [] Tryz.func168 rfl rfl (by kernel_rfl) (by kernel_rfl) Tryz.ntmps168 (Lb rfl) rfl ?_
 refine Cu lo0 st [(0,vS p l.length),(2,vI 0)] fun _ => ?_
 refine op_nilK (z := 1) (f := fB) rfl rfl rfl rfl (by decide) rfl ?_
 intro q5 s5 hO5 hP5 hN5
 refine cxs ?_
 refine Cu lo0 s5 [(0,vS p l.length),(2,vI 0),(3,vS q5 0),(4,vI 0)] fun _ => ?_
 refine AW.loop0 (fun x : Nat × Option Addr × List Int => [(0,vS p l.length),(2,vI (0)),(3,vS x.2.1 x.2.2.length),(4,vI (x.1 : Int))]) (fun m (x : Nat × Option Addr × List Int) st' => m = l.length - x.1 ∧ x.1 ≤ l.length ∧ x.2.2 = numsB (l.take x.1) ∧ OwnR st' 1 fB x.2.1 x.2.2 ∧ New st.next x.2.1 ∧ Pres st st') (0,q5,[]) _ ⟨rfl,rfl,rfl,rfl,trivial⟩ rfl ⟨rfl,Nat.zero_le _,rfl,hO5,hN5,hP5⟩ ?_
 rintro m ⟨i,q,b⟩ ρ0 st' ⟨rfl,hi,hv,hO,hN,hP⟩
 simp only at hi hv hO hN
 have hbl : b.length ≤ 5 * l.length := by rw [hv]; have := numsB_len (l.take i); rw [List.length_take] at this; omega
 iterate 2 refine ⟨_,rfl,?_⟩
 rintro (_|_) h9
 ·replace h9 : ¬ ((i : Int) < (l.length : Int)) := of_decide_eq_false h9
  refine Cu lo0 st' [(0,vS p l.length),(2,vI 0),(3,vS q b.length),(4,vI (i : Int)),(9,vB false)] fun _ => ?_
  have hbe : b = numsB l := by rw [hv,show i = l.length by omega,List.take_length]
  refine cxs ?_
  refine ⟨_,rfl,(ac_spec_Crc q b st' (hO.rows fB_len) (hbe ▸ numsB_ok l) (by omega)).mono ?_⟩
  rintro _ st' ⟨rfl,rfl⟩
  have hc0 : 0 ≤ crc b := (crc_rng (hbe ▸ numsB_ok l)).1
  refine ⟨_,op_rm (r := crc b % 1024) rfl rfl rfl (by decide) (tm_emod 1024 hc0),?_⟩
  exact cxs (Rt ⟨congrArg vI (by rw [rootF,hbe]),hP⟩)
 ·replace h9 : (i : Int) < (l.length : Int) := of_decide_eq_true h9
  refine Cu lo0 st' [(0,vS p l.length),(2,vI 0),(3,vS q b.length),(4,vI (i : Int)),(9,vB true)] fun _ => ?_
  refine cxs ?_
  refine op_at i (hP.rows hR) (by omega) rfl rfl rfl rfl rfl rfl rfl ?_
  intro x15 b15 d15 k15 hy15 hb15 hm15 hc15 ho15
  have hRs := hP.rows hR
  refine ⟨_,op_ldc (i := 0) rfl rfl rfl rfl hm15 hc15 rfl rfl,?_⟩
  have hpl := putN_len x15
  refine ⟨_,rfl,(ac_spec_PutNum x15 st').mono ?_⟩
  rintro _ s17 ⟨q17,rfl,hO17,hN17,hP17⟩
  refine op_cat' (z := 1) (st := s17) (f := fB) (b := 1) (l := b) (l2 := putN x15) rfl rfl rfl rfl rfl rfl rfl (by decide) fB_len rfl rfl rfl rfl (by first | omega | (simp only [List.length_nil]; omega)) (by unfold maxLen; first | omega | (simp only [List.length_nil]; omega)) (hP17.ownR hO) (hO17.rows fB_len) ?_
  intro q18 s18 hO18 hPr18 hN18
  refine Cu lo0 s18 [(0,vS p l.length),(2,vI 0),(3,vS q18 (b ++ (putN x15)).length),(4,vI (i : Int)),(9,vB true)] fun _ => ?_
  have ew11 : IntKind.wrap .i64 ((i : Int) + (1)) = ((i + 1 : Nat) : Int) := (wrap_i64 (by omega) (by omega)).trans (by omega)
  refine ⟨_,rfl,?_⟩
  exact ⟨(i + 1,q18,b ++ putN x15),l.length - (i + 1),by omega,⟨rfl,rfl,rfl,congrArg (Value.int .i64) ew11,trivial⟩,rfl,rfl,by simp only; omega,by rw [numsB_succ hy15,← hv],hO18,cat_new (hP.trans hP17) hN hN18,hPr18.pres (hP.trans hP17) hN⟩
theorem ac_impl_rootOf (p : Option Addr) (l : List Int) (st : St) (hR : Rows st 1 fI p l) (hs : szOk l.length) : C 156 [vS p l.length] st (fun v s => v = vI (rootF l) ∧ Pres st s) := by
 have hs : l.length ≤ 1048576 := hs
 refine AC.enterX (i := ⟨[],[],[0,2,3,5,7,8,9,10],[]⟩) [] Tryz.func156 rfl rfl (by kernel_rfl) (by kernel_rfl) Tryz.ntmps156 (Lb rfl) rfl ?_
 refine Cu lo0 st [(0,vS p l.length),(2,vI 0)] fun _ => ?_
 refine op_nilK (z := 1) (f := fB) rfl rfl rfl rfl (by decide) rfl ?_
 intro q6 s6 hO6 hP6 hN6
 refine Cu lo0 s6 [(0,vS p l.length),(2,vI 0),(3,vS q6 0)] fun _ => ?_
 refine ⟨_,rfl,?_⟩
 refine Cu lo0 s6 [(2,vI 0),(3,vS q6 0),(7,vS p l.length),(8,vI (l.length : Int)),(9,vI 0)] fun _ => ?_
 refine AW.loop0 (fun x : Nat × Option Addr × List Int => [(2,vI (0)),(3,vS x.2.1 x.2.2.length),(7,vS p l.length),(8,vI (l.length : Int)),(9,vI (x.1 : Int))]) (fun m (x : Nat × Option Addr × List Int) st' => m = l.length - x.1 ∧ x.1 ≤ l.length ∧ x.2.2 = numsB (l.take x.1) ∧ OwnR st' 1 fB x.2.1 x.2.2 ∧ New st.next x.2.1 ∧ Pres st st') (0,q6,[]) _ ⟨rfl,rfl,rfl,rfl,rfl,trivial⟩ rfl ⟨rfl,Nat.zero_le _,rfl,hO6,hN6,hP6⟩ ?_
 rintro m ⟨i,q,b⟩ ρ0 st' ⟨rfl,hi,hv,hO,hN,hP⟩
 simp only at hi hv hO hN
 have hbl : b.length ≤ 5 * l.length := by rw [hv]; have := numsB_len (l.take i); rw [List.length_take] at this; omega
 refine ⟨_,rfl,?_⟩
 rintro (_|_) h10
 ·replace h10 : ¬ ((i : Int) < (l.length : Int)) := of_decide_eq_false h10
  refine Cu lo0 st' [(2,vI 0),(3,vS q b.length),(7,vS p l.length),(8,vI (l.length : Int)),(9,vI (i : Int)),(10,vB false)] fun _ => ?_
  have hbe : b = numsB l := by rw [hv,show i = l.length by omega,List.take_length]
  refine cxs ?_
  refine ⟨_,rfl,(ac_impl_Crc q b st' (hO.rows fB_len) (hbe ▸ numsB_ok l) (by omega)).mono ?_⟩
  rintro _ st' ⟨rfl,rfl⟩
  have hc0 : 0 ≤ crc b := (crc_rng (hbe ▸ numsB_ok l)).1
  refine ⟨_,op_rm (r := crc b % 1024) rfl rfl rfl (by decide) (tm_emod 1024 hc0),?_⟩
  exact cxs (Rt ⟨congrArg vI (by rw [rootF,hbe]),hP⟩)
 ·replace h10 : (i : Int) < (l.length : Int) := of_decide_eq_true h10
  refine Cu lo0 st' [(2,vI 0),(3,vS q b.length),(7,vS p l.length),(8,vI (l.length : Int)),(9,vI (i : Int)),(10,vB true)] fun _ => ?_
  refine cxs ?_
  have hRs := hP.rows hR
  refine op_at i hRs (by omega) rfl rfl rfl rfl rfl rfl rfl ?_
  intro x11 b11 d11 k11 hy11 hb11 hm11 hc11 ho11
  refine ⟨_,op_ldc (i := 0) rfl rfl rfl rfl hm11 hc11 rfl rfl,?_⟩
  refine Cu lo0 st' [(2,vI 0),(3,vS q b.length),(5,vI x11),(7,vS p l.length),(8,vI (l.length : Int)),(9,vI (i : Int)),(10,vB true)] fun _ => ?_
  have hpl := putN_len x11
  have hfl : fl [⟨q,b⟩,⟨none,putN x11⟩] = b ++ putN x11 := by simp [fl]
  refine ⟨_,rfl,(ac_impl_PutNum x11 st').mono ?_⟩
  rintro _ s15 ⟨q15,rfl,hO15,hN15,hP15⟩
  refine op_litR [⟨q,b⟩,⟨q15,putN x11⟩] rfl rfl rfl (by decide) rfl rfl rfl (by decide) ?_
  intro q16 s16 hO16 hP16 hN16
  refine ⟨_,rfl,(ac_impl_joined q16 [⟨q,b⟩,⟨q15,putN x11⟩] s16 (hO16.rows cRV_len) (fun r hr => by
  rcases List.mem_cons.1 hr with rfl | hr
  ·exact (hP15.trans hP16).rows (hO.rows fB_len)
  ·rw [List.mem_singleton.1 hr]; exact hP16.rows (hO15.rows fB_len)) (by show (2 : Nat) ≤ 1048576; omega) (by show (fl [⟨q,b⟩,⟨none,putN x11⟩]).length ≤ _; rw [hfl,List.length_append]; omega)).mono ?_⟩
  rintro _ s17 ⟨q17,rfl,hO17,hN17,hP17⟩
  refine Cu lo0 s17 [(2,vI 0),(3,vS q17 (fl [⟨q,b⟩,⟨q15,putN x11⟩]).length),(5,vI x11),(7,vS p l.length),(8,vI (l.length : Int)),(9,vI (i : Int)),(10,vB true)] fun _ => ?_
  have ew18 : IntKind.wrap .i64 ((i : Int) + (1)) = ((i + 1 : Nat) : Int) := (wrap_i64 (by omega) (by omega)).trans (by omega)
  refine ⟨_,rfl,?_⟩
  exact ⟨(i + 1,q17,fl [⟨q,b⟩,⟨q15,putN x11⟩]),l.length - (i + 1),by omega,⟨rfl,rfl,rfl,rfl,congrArg (Value.int .i64) ew18,trivial⟩,rfl,rfl,by simp only; omega,by rw [numsB_succ hy11,← hv]; exact hfl,hO17,hN17.le (((hP.trans hP15).trans hP16)).1,((hP.trans hP15).trans hP16).trans hP17⟩
theorem ac_copyInts (p : Option Addr) (l : List Int) (st : St) (hR : Rows st 1 fI p l) (hs : szOk l.length) : C 149 [vS p l.length] st (fun v s => ∃ q,v = vS q l.length ∧ OwnR s 1 fI q l ∧ New st.next q ∧ Pres st s) := by
 refine (ac_impl_copyInts p l st hR.ints (Nat.lt_of_le_of_lt hs (by decide))).mono ?_
 rintro _ s ⟨q,rfl,hO,hP,hN⟩
 exact ⟨q,rfl,Own.r.1 hO,hN,hP⟩
theorem ac_impl_copyTree (t : TV) (st : St) (hR : Rows st 1 fI t.p t.l) (hs : szOk t.l.length) : C 91 [.agg #[vS t.p t.l.length,vI t.root]] st (fun v s' => ∃ u : TV,v = .agg #[vS u.p u.l.length,vI u.root] ∧ u.l = t.l ∧ u.root = t.root ∧ OwnR s' 1 fI u.p u.l ∧ New st.next u.p ∧ Pres st s') := by
 refine AC.enterX (i := ⟨[1,2],[1,2,3,6],[0,1,2],[]⟩) [(1,[2],[4])] Tryz.func91 rfl rfl (by kernel_rfl) (by kernel_rfl) Tryz.ntmps91 (Lb rfl) rfl ?_
 iterate 2 refine ⟨_,rfl,?_⟩
 refine Cm 2 st [Ml 1 0,Ml 2 1] [(1,0,[vS t.p t.l.length,vI t.root]),(2,1,[Sn,vI 0])] fun _ _ => ?_
 refine ⟨_,rfl,?_⟩
 refine ⟨_,Od rfl,?_⟩
 refine ⟨_,rfl,(ac_copyInts t.p t.l st hR hs).mono ?_⟩
 rintro _ s5 ⟨q5,rfl,hO5,hN5,hP5⟩
 refine ⟨hP5.2,?_⟩
 refine ⟨_,rfl,?_⟩
 refine ⟨_,Od rfl,?_⟩
 refine ⟨ld_own rfl rfl rfl,?_⟩
 refine ⟨_,rfl,?_⟩
 refine ⟨_,Os rfl,?_⟩
 exact cxs (Rt ⟨⟨⟨q5,t.l⟩,t.root⟩,rfl,rfl,rfl,hO5,hN5,hP5⟩)
theorem ac_spec_l6Copy (t : TV) (st : St) (hR : Rows st 1 fI t.p t.l) (hs : szOk t.l.length) : C 95 [.agg #[vS t.p t.l.length,vI t.root]] st (fun v s' => ∃ u : TV,v = .agg #[vS u.p u.l.length,vI u.root] ∧ u.l = t.l ∧ u.root = t.root ∧ OwnR s' 1 fI u.p u.l ∧ New st.next u.p ∧ Pres st s') := by
 have hs : t.l.length ≤ 1048576 := hs
 refine AC.enterX (i := ⟨[1,2],[1,2,4,7],[0,1,2],[]⟩) [(1,[3],[5])] Tryz.func95 rfl rfl (by kernel_rfl) (by kernel_rfl) Tryz.ntmps95 (Lb rfl) rfl ?_
 iterate 2 refine ⟨_,rfl,?_⟩
 refine Cm 2 st [Ml 1 0,Ml 2 1] [(1,0,[vS t.p t.l.length,vI t.root]),(2,1,[Sn,vI 0])] fun _ _ => ?_
 refine op_nilK (z := 1) (f := fI) rfl rfl rfl rfl (by decide) rfl ?_
 intro q3 s3 hO3 hP3 hN3
 refine ⟨_,rfl,?_⟩
 refine ⟨_,Od rfl,?_⟩
 refine op_cat' (z := 1) (st := s3) (f := fI) (b := 8) (l := []) (l2 := t.l) rfl rfl rfl rfl rfl rfl rfl (by decide) fI_len rfl rfl rfl rfl (by first | omega | (simp only [List.length_nil]; omega)) (by unfold maxLen; first | omega | (simp only [List.length_nil]; omega)) hO3 (hP3.rows hR) ?_
 intro q6 s6 hO6 hPr6 hN6
 refine ⟨hPr6.low hP3 hN3,?_⟩
 refine ⟨_,rfl,?_⟩
 refine ⟨_,Od rfl,?_⟩
 refine ⟨ld_own rfl rfl rfl,?_⟩
 refine ⟨_,rfl,?_⟩
 refine ⟨_,Os rfl,?_⟩
 exact cxs (Rt ⟨⟨⟨q6,t.l⟩,t.root⟩,rfl,rfl,rfl,hO6,cat_new hP3 hN3 hN6,hPr6.pres hP3 hN3⟩)
end Go.Proofs.YtpnolkhfeliehaaGreat.AM
