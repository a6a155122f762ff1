/- Contracts of states and lists of states that are marked and held; slices of slices. -/
import Derived.Test.YtopcpcoklgepnaaE1
import Derived.Test.YtopcpcoklgepnaaM2
namespace Go.Proofs.Ytopcpcoklgepnaa.AM
open Go Go.Proofs
set_option linter.unusedVariables false
set_option linter.unusedSimpArgs false
set_option maxRecDepth 100000
set_option maxHeartbeats 4000000
/-! Slices of slices -/
def shO (p : Option Addr) (z i : Nat) : Option Addr := p.map fun q => ⟨q.block, q.off + i * z, q.spot⟩
theorem Rows.sh {α : Type} {st : St} {z : Nat} {f : α → List Value} {p : Option Addr} {l : List α} (h : Rows st z f p l) (i : Nat) : Rows st z f (shO p z i) (l.drop i) := by
  rcases h with rfl | ⟨b, off, blk, rfl, hm, hb, hc⟩
  · exact .inl List.drop_nil
  · exact Rows.drop (.inr ⟨b, off, blk, rfl, hm, hb, hc⟩) i
theorem Dis.sh {p q : Option Addr} {z i : Nat} (h : Dis p q) : Dis (shO p z i) q := fun a b ha hb => by
  cases p with
  | none => cases ha
  | some c => injection ha with ha; rw [← ha]; exact h c b rfl hb
theorem New.sh {n : Nat} {p : Option Addr} {z i : Nat} (h : New n p) : New n (shO p z i) := fun a ha => by
  cases p with
  | none => cases ha
  | some c => injection ha with ha; rw [← ha]; exact h c rfl
section
variable {P : Program} {ls : List Tmp} {call : ACallT} {o : Oper} {e : Operand → Value} {lo : Lo} {st : St}
theorem op_slc {t el : TypeId} {x y : Operand} {p : Option Addr} {n j z : Nat} {k : IntKind} {i : Int} (ho : o.op = .slice t x (some y) none none) (hx : e x = .slice p n n) (hy : e y = .int k i) (he : telem P t = some el) (hz : tsize P el = some z) (hi : i = (j : Int)) (hj : j ≤ n) : aoper P ls call o e lo st = some (.slice (shO p z j) (n - j) (n - j), lo, st) := by
  obtain ⟨d, op, tt, pos, after, gd⟩ := o
  simp only at ho
  subst ho hi
  simp [aoper, rop, aslice, abound, hx, hy, he, hz, hj, shO]
end
theorem op_drop {α : Type} {P : Program} {ls : List Tmp} {call : ACallT} {o : Oper} {e : Operand → Value} {lo : Lo} {st : St} {t el : TypeId} {x y : Operand} {p : Option Addr} {n z : Nat} {k : IntKind} {i : Int} (l : List α) (j : Nat) (ho : o.op = .slice t x (some y) none none) (hx : e x = .slice p n n) (hn : n = l.length) (hy : e y = .int k i) (he : telem P t = some el) (hz : tsize P el = some z) (hi : i = (j : Int)) (hj : j ≤ l.length) : aoper P ls call o e lo st = some (.slice (shO p z j) (l.drop j).length (l.drop j).length, lo, st) := by
  subst hn
  rw [List.length_drop]
  exact op_slc ho hx hy he hz hi hj
theorem PrL.rows {α : Type} {st st' : St} {ps : List (Option Addr)} {z : Nat} {f : α → List Value} {p : Option Addr} {l : List α} (h : PrL ps st st') (hR : Rows st z f p l) (hd : ∀ q ∈ ps, Dis p q) : Rows st' z f p l := by
  rcases hR with rfl | ⟨b, off, blk, rfl, hm, hb, hc⟩
  · exact .inl rfl
  · refine .inr ⟨b, off, blk, rfl, ?_, Nat.lt_of_lt_of_le hb h.1, hc⟩
    rw [h.2 b hb fun q hq r hr => hd q hq _ r rfl hr]
    exact hm
theorem ac_laws_heldState (s : SV) (k : Int) (st : St) (hR : RdS st ⟨s.p, s.q, mkS s.x k⟩) (hb : bigS s.x) (h0 : 0 ≤ k) (hk : k ≤ 274877906944) : C 54 [.agg #[vS s.p s.x.items.length, vS s.q s.x.floors.length], vI k] st (fun v s' => v = vI (k + 6 * (s.x.items.length : Int) + 2 * (s.x.floors.length : Int)) ∧ Pres st s') := by
  have hs1 : s.x.items.length ≤ 1048576 := hb.1
  have hs2 : s.x.floors.length ≤ 1048576 := hb.2.1
  refine AC.enterX (i := ⟨[2], [2, 5, 11], [0, 1, 2, 4, 10, 16]⟩) [] Try.func54 rfl rfl (by kernel_rfl) (by kernel_rfl) Try.ntmps54 (Nat.le_of_ble_eq_true rfl) rfl ?_
  refine ⟨_, rfl, ?_⟩
  refine AW.cutM (1) st [(1, vI k), (2, vL 2 0 (0)), (4, vI (0))] [(2, 0, [vS s.p s.x.items.length, vS s.q s.x.floors.length])] ⟨rfl, rfl, rfl, trivial⟩ ⟨rfl, trivial⟩ rfl fun ρ0 ff => ?_
  iterate 2 refine ⟨_, rfl, ?_⟩
  refine ⟨_, rfl, (ac_laws_heldItemS s.p s.x.items.length k st hR.1 hb.1 h0 (by omega)).mono ?_⟩
  rintro _ s1 ⟨rfl, hP1⟩
  refine AW.cutM (1) s1 [(1, vI (k + 6 * (s.x.items.length : Int))), (2, vL 2 0 (0)), (4, vI (0))] [(2, 0, [vS s.p s.x.items.length, vS s.q s.x.floors.length])] ⟨rfl, rfl, rfl, trivial⟩ ⟨rfl, trivial⟩ rfl fun ρ0 ff => ?_
  refine ⟨_, rfl, ?_⟩
  rintro (_|_) h1
  rotate_left
  · exact absurd (of_decide_eq_true h1) ((by omega))
  refine AW.cutM (1) s1 [(1, vI (k + 6 * (s.x.items.length : Int))), (2, vL 2 0 (0)), (4, vI (0)), (10, vB false)] [(2, 0, [vS s.p s.x.items.length, vS s.q s.x.floors.length])] ⟨rfl, rfl, rfl, rfl, trivial⟩ ⟨rfl, trivial⟩ rfl fun ρ0 ff => ?_
  refine cx_sound _ _ _ _ _ ?_
  iterate 2 refine ⟨_, rfl, ?_⟩
  refine ⟨_, rfl, (ac_laws_heldFloorS s.q s.x.floors.length (k + 6 * (s.x.items.length : Int)) s1 (hP1.rows hR.2) hb.2.1 (by omega) (by omega)).mono ?_⟩
  rintro _ s2 ⟨rfl, hP2⟩
  refine AW.cutM (1) s2 [(1, vI (k + 6 * (s.x.items.length : Int) + 2 * (s.x.floors.length : Int))), (4, vI (0))] [] ⟨rfl, rfl, trivial⟩ trivial rfl fun ρ0 ff => ?_
  refine ⟨_, rfl, ?_⟩
  rintro (_|_) h2
  rotate_left
  · exact absurd (of_decide_eq_true h2) ((by omega))
  refine AW.cutM (1) s2 [(1, vI (k + 6 * (s.x.items.length : Int) + 2 * (s.x.floors.length : Int))), (4, vI (0)), (16, vB false)] [] ⟨rfl, rfl, rfl, trivial⟩ trivial rfl fun ρ0 ff => ?_
  refine cx_sound _ _ _ _ _ ?_
  refine cx_sound _ _ _ _ _ ?_
  exact ⟨.inl rfl, _, rfl, rfl, hP1.trans hP2⟩
/-! Lists of states -/
abbrev cntS (s : Sta) : Nat := 6 * s.items.length + 2 * s.floors.length
abbrev cntL (l : List SV) : Nat := sumOf (fun s => cntS s.x) l
def mkL : List SV → Int → List SV
  | [], _ => []
  | s :: l, k => ⟨s.p, s.q, mkS s.x k⟩ :: mkL l (k + (cntS s.x : Int))
theorem mkL_app : ∀ (a b : List SV) (k : Int), mkL (a ++ b) k = mkL a k ++ mkL b (k + (cntL a : Int))
  | [], b, k => by simp [mkL, sumOf]
  | s :: a, b, k => by
    rw [List.cons_append, mkL, mkL_app a b, mkL, List.cons_append]
    have : k + (cntS s.x : Int) + (cntL a : Int) = k + (cntL (s :: a) : Int) := by simp [cntL, sumOf]; omega
    rw [this]
theorem mkL_len : ∀ (l : List SV) (k : Int), (mkL l k).length = l.length
  | [], _ => rfl
  | s :: l, k => by rw [mkL, List.length_cons, mkL_len l, List.length_cons]
theorem mkL_get {l : List SV} {k : Int} {i : Nat} {s : SV} (h : l[i]? = some s) : (⟨s.p, s.q, mkS s.x (k + (cntL (l.take i) : Int))⟩ : SV) ∈ mkL l k := by
  rw [(split_at' h).1, mkL_app, mkL]
  rw [← (split_at' h).1]
  exact List.mem_append_right _ (List.mem_cons_self ..)
theorem cntL_le (l : List SV) : cntL l ≤ 6 * szL l := by
  have h : ∀ l : List SV, sumOf (fun s => cntS s.x) l ≤ 6 * sumOf (fun s => szSta s.x) l := by
    intro l
    induction l with
    | nil => simp [sumOf]
    | cons s l ih =>
      simp only [sumOf, List.map_cons, List.sum_cons] at ih ⊢
      have : cntS s.x ≤ 6 * szSta s.x := by unfold cntS szSta szI; omega
      omega
  have := h l
  unfold cntL szL
  omega
theorem ac_laws_markStateS (p : Option Addr) (l : List SV) (k : Int) (st : St) (hR : Rows st 2 cSV p l) (hO : OwnP st (l.flatMap pcS)) (hd : ∀ q ∈ (l.flatMap pcS).map (·.p), Dis p q) (hb : bigL l) (h0 : 0 ≤ k) (hk : k + (cntL l : Int) ≤ 274877906944) : C 96 [vS p l.length, vI k] st (fun v s => v = vI (k + (cntL l : Int)) ∧ OwnP s ((mkL l k).flatMap pcS) ∧ PrL ((l.flatMap pcS).map (·.p)) st s) := by
  have hs : l.length ≤ 1048576 := hb.1
  refine AC.enterX (i := ⟨[], [], [0, 1, 4, 5, 9]⟩) [] Try.func96 rfl rfl (by kernel_rfl) (by kernel_rfl) Try.ntmps96 (Nat.le_of_ble_eq_true rfl) rfl ?_
  refine cx_sound _ _ _ _ _ ?_
  refine AW.cut lo0 st [(0, vS p l.length), (1, vI k), (4, vI (0)), (5, vI (0))] ⟨rfl, rfl, rfl, rfl, trivial⟩ fun ρ0 => ?_
  refine AW.loop0 (fun i : Nat => [(0, vS p l.length), (1, vI (k + (cntL (l.take i) : Int))), (5, vI (i : Int))]) (fun m (i : Nat) st' => m = l.length - i ∧ i ≤ l.length ∧ OwnP st' ((mkL (l.take i) k).flatMap pcS ++ (l.drop i).flatMap pcS) ∧ PrL ((l.flatMap pcS).map (·.p)) st st') 0 _ ⟨rfl, congrArg (Value.int .i64) (show k = k + ((cntL (l.take 0) : Nat) : Int) by simp [cntL, sumOf]), rfl, trivial⟩ rfl ⟨rfl, Nat.zero_le _, by simpa [mkL] using hO, PrL.refl _ _⟩ ?_
  rintro m i ρ0 st' ⟨rfl, hi, hO', hP'⟩
  iterate 2 refine ⟨_, rfl, ?_⟩
  rintro (_|_) h1
  · replace h1 : ¬ ((i : Int) < (l.length : Int)) := of_decide_eq_false h1
    refine AW.cut lo0 st' [(0, vS p l.length), (1, vI (k + (cntL (l.take i) : Int))), (5, vI (i : Int)), (9, vB false)] ⟨rfl, rfl, rfl, rfl, trivial⟩ fun ρ0 => ?_
    refine cx_sound _ _ _ _ _ ?_
    refine cx_sound _ _ _ _ _ ?_
    have hil : i = l.length := by omega
    subst hil
    rw [List.take_length, List.drop_length, List.flatMap_nil, List.append_nil] at hO'
    exact ⟨.inl rfl, _, rfl, congrArg (Value.int .i64) (by rw [List.take_length]), hO', hP'⟩
  · replace h1 : (i : Int) < (l.length : Int) := of_decide_eq_true h1
    refine AW.cut lo0 st' [(0, vS p l.length), (1, vI (k + (cntL (l.take i) : Int))), (5, vI (i : Int)), (9, vB true)] ⟨rfl, rfl, rfl, rfl, trivial⟩ fun ρ0 => ?_
    have h1' := Int.ofNat_lt.1 h1
    have ⟨b1, o1, k1, x, hpe, hx, hm1, hc1, hb1⟩ := (hP'.rows hR hd).atB h1'
    have hmem := List.mem_of_getElem? hx
    have hct : cntL (l.take (i + 1)) = cntL (l.take i) + cntS x.x ∧ cntL (l.take (i + 1)) ≤ cntL l := sumOf_take (f := fun s : SV => cntS s.x) hx
    have hcs : cntS x.x = 6 * x.x.items.length + 2 * x.x.floors.length := rfl
    have hbx := hb.2 x hmem
    have hm2 := hbx.1
    have hm3 := hbx.2.1
    obtain ⟨d1, d2, d3⟩ := split_at' hx
    rw [d3, List.flatMap_cons] at hO'
    have hO'' : OwnP st' ((mkL (l.take i) k).flatMap pcS ++ pcR 6 cItm x.p x.x.items :: (pcR 2 cFlr x.q x.x.floors :: (l.drop (i + 1)).flatMap pcS)) := hO'
    have hp1 : x.p ∈ (l.flatMap pcS).map (·.p) := List.mem_map.2 ⟨pcR 6 cItm x.p x.x.items, List.mem_flatMap.2 ⟨x, hmem, List.mem_cons_self ..⟩, rfl⟩
    have hp2 : x.q ∈ (l.flatMap pcS).map (·.p) := List.mem_map.2 ⟨pcR 2 cFlr x.q x.x.floors, List.mem_flatMap.2 ⟨x, hmem, List.mem_cons_of_mem _ (List.mem_cons_self ..)⟩, rfl⟩
    refine cx_sound _ _ _ _ _ ?_
    refine ⟨_, op_idx (j := (i : Int)) (n := l.length) (q := ⟨b1, o1, none⟩) rfl (congrArg (fun u => vS u l.length) hpe) rfl rfl rfl (Int.natCast_nonneg _) h1, ?_⟩
    refine ⟨_, rfl, ?_⟩
    refine ⟨_, op_ldc (i := 0) rfl rfl rfl rfl hm1 hc1 rfl rfl, ?_⟩
    refine ⟨_, rfl, (ac_laws_markItemS x.p x.x.items _ st' (pc_own (by decide) len_cItm (hO''.1 _ (List.mem_append_right _ (List.mem_cons_self ..)))) hbx.1 (by omega) (by omega)).mono ?_⟩
    rintro _ s2 ⟨rfl, hO2, hP2⟩
    refine AW.cut lo0 s2 [(0, vS p l.length), (1, vI (k + (cntL (l.take i) : Int) + 6 * (x.x.items.length : Int))), (5, vI (i : Int)), (9, vB true)] ⟨rfl, rfl, rfl, rfl, trivial⟩ fun ρ0 => ?_
    have hA := OwnP.update hO'' hP2 (own_pc hO2) rfl
    have hA : OwnP s2 (((mkL (l.take i) k).flatMap pcS ++ [pcR 6 cItm x.p (mkRow mkItm 6 x.x.items.length (k + (cntL (l.take i) : Int)))]) ++ pcR 2 cFlr x.q x.x.floors :: (l.drop (i + 1)).flatMap pcS) := by rw [List.append_assoc]; exact hA
    have hP3 := hP'.trans (hP2.l hp1)
    have ⟨b2, o2, k2, x2, hpe2, hx2, hm4, hc4, hb4⟩ := (hP3.rows hR hd).atB h1'
    have hxx : x2 = x := by rw [hx] at hx2; injection hx2 with hx2; exact hx2.symm
    rw [hxx] at hc4
    refine ⟨_, op_idx (j := (i : Int)) (n := l.length) (q := ⟨b2, o2, none⟩) rfl (congrArg (fun u => vS u l.length) hpe2) rfl rfl rfl (Int.natCast_nonneg _) h1, ?_⟩
    refine ⟨_, rfl, ?_⟩
    refine ⟨_, op_ldc (i := 1) rfl rfl rfl rfl hm4 hc4 rfl rfl, ?_⟩
    refine ⟨_, rfl, (ac_laws_markFloorS x.q x.x.floors _ s2 (pc_own (by decide) len_cFlr (hA.1 _ (List.mem_append_right _ (List.mem_cons_self ..)))) hbx.2.1 (by omega) (by omega)).mono ?_⟩
    rintro _ s3 ⟨rfl, hO3, hP4⟩
    refine AW.cut lo0 s3 [(0, vS p l.length), (1, vI (k + (cntL (l.take i) : Int) + 6 * (x.x.items.length : Int) + 2 * (x.x.floors.length : Int))), (5, vI (i : Int)), (9, vB true)] ⟨rfl, rfl, rfl, rfl, trivial⟩ fun ρ0 => ?_
    have hB := OwnP.update hA hP4 (own_pc hO3) rfl
    have hB : OwnP s3 ((mkL (l.take (i + 1)) k).flatMap pcS ++ (l.drop (i + 1)).flatMap pcS) := by
      rw [d2, mkL_app, List.flatMap_append]
      rw [List.append_assoc] at hB
      rw [List.append_assoc]
      exact hB
    have e1 : k + (cntL (l.take i) : Int) + 6 * (x.x.items.length : Int) + 2 * (x.x.floors.length : Int) = k + (cntL (l.take (i + 1)) : Int) := by omega
    have e11 : IntKind.wrap .i64 ((i : Int) + 1) = ((i + 1 : Nat) : Int) := (wrap_i64 (by omega) (by omega)).trans (by omega)
    refine ⟨_, rfl, ?_⟩
    exact ⟨i + 1, l.length - (i + 1), by omega, ⟨rfl, congrArg (Value.int .i64) e1, congrArg (Value.int .i64) e11, trivial⟩, rfl, rfl, h1', hB, hP3.trans (hP4.l hp2)⟩
theorem ac_laws_heldStateS (p : Option Addr) (l : List SV) (k : Int) (st : St) (hR : Rows st 2 cSV p l) (hM : ∀ s ∈ mkL l k, RdS st s) (hb : bigL l) (h0 : 0 ≤ k) (hk : k + (cntL l : Int) ≤ 274877906944) : C 97 [vS p l.length, vI k] st (fun v s => v = vI (k + (cntL l : Int)) ∧ Pres st s) := by
  have hs : l.length ≤ 1048576 := hb.1
  refine AC.enterX (i := ⟨[], [], [0, 1, 4, 5, 9, 20, 29]⟩) [] Try.func97 rfl rfl (by kernel_rfl) (by kernel_rfl) Try.ntmps97 (Nat.le_of_ble_eq_true rfl) rfl ?_
  refine cx_sound _ _ _ _ _ ?_
  refine AW.cut lo0 st [(0, vS p l.length), (1, vI k), (4, vI (0)), (5, vI (0))] ⟨rfl, rfl, rfl, rfl, trivial⟩ fun ρ0 => ?_
  refine AW.loop0 (fun i : Nat => [(0, vS p l.length), (1, vI (k + (cntL (l.take i) : Int))), (5, vI (i : Int))]) (fun m (i : Nat) st' => m = l.length - i ∧ i ≤ l.length ∧ Pres st st') 0 _ ⟨rfl, congrArg (Value.int .i64) (show k = k + ((cntL (l.take 0) : Nat) : Int) by simp [cntL, sumOf]), rfl, trivial⟩ rfl ⟨rfl, Nat.zero_le _, Pres.refl _⟩ ?_
  rintro m i ρ0 st' ⟨rfl, hi, hP'⟩
  iterate 2 refine ⟨_, rfl, ?_⟩
  rintro (_|_) h1
  · replace h1 : ¬ ((i : Int) < (l.length : Int)) := of_decide_eq_false h1
    refine AW.cut lo0 st' [(0, vS p l.length), (1, vI (k + (cntL (l.take i) : Int))), (5, vI (i : Int)), (9, vB false)] ⟨rfl, rfl, rfl, rfl, trivial⟩ fun ρ0 => ?_
    refine cx_sound _ _ _ _ _ ?_
    refine cx_sound _ _ _ _ _ ?_
    have hil : i = l.length := by omega
    subst hil
    exact ⟨.inl rfl, _, rfl, congrArg (Value.int .i64) (by rw [List.take_length]), hP'⟩
  · replace h1 : (i : Int) < (l.length : Int) := of_decide_eq_true h1
    refine AW.cut lo0 st' [(0, vS p l.length), (1, vI (k + (cntL (l.take i) : Int))), (5, vI (i : Int)), (9, vB true)] ⟨rfl, rfl, rfl, rfl, trivial⟩ fun ρ0 => ?_
    have h1' := Int.ofNat_lt.1 h1
    have ⟨b1, o1, k1, x, hpe, hx, hm1, hc1, hb1⟩ := (hP'.rows hR).atB h1'
    have hmem := List.mem_of_getElem? hx
    have hct : cntL (l.take (i + 1)) = cntL (l.take i) + cntS x.x ∧ cntL (l.take (i + 1)) ≤ cntL l := sumOf_take (f := fun s : SV => cntS s.x) hx
    have hcs : cntS x.x = 6 * x.x.items.length + 2 * x.x.floors.length := rfl
    have hbx := hb.2 x hmem
    have hm2 := hbx.1
    have hm3 := hbx.2.1
    have hMx := hM _ (mkL_get (k := k) hx)
    refine cx_sound _ _ _ _ _ ?_
    refine ⟨_, op_idx (j := (i : Int)) (n := l.length) (q := ⟨b1, o1, none⟩) rfl (congrArg (fun u => vS u l.length) hpe) rfl rfl rfl (Int.natCast_nonneg _) h1, ?_⟩
    refine ⟨_, rfl, ?_⟩
    refine ⟨_, op_ldc (i := 0) rfl rfl rfl rfl hm1 hc1 rfl rfl, ?_⟩
    refine ⟨_, rfl, (ac_laws_heldItemS x.p x.x.items.length _ st' (hP'.rows hMx.1) hbx.1 (by omega) (by omega)).mono ?_⟩
    rintro _ s2 ⟨rfl, hP2⟩
    refine AW.cut lo0 s2 [(0, vS p l.length), (1, vI (k + (cntL (l.take i) : Int) + 6 * (x.x.items.length : Int))), (5, vI (i : Int)), (9, vB true)] ⟨rfl, rfl, rfl, rfl, trivial⟩ fun ρ0 => ?_
    refine ⟨_, rfl, ?_⟩
    rintro (_|_) h2
    rotate_left
    · exact absurd (of_decide_eq_true h2) ((by omega))
    refine AW.cut lo0 s2 [(0, vS p l.length), (1, vI (k + (cntL (l.take i) : Int) + 6 * (x.x.items.length : Int))), (5, vI (i : Int)), (9, vB true), (20, vB false)] ⟨rfl, rfl, rfl, rfl, rfl, trivial⟩ fun ρ0 => ?_
    have hP3 := hP'.trans hP2
    have ⟨b2, o2, k2, x2, hpe2, hx2, hm4, hc4, hb4⟩ := (hP3.rows hR).atB h1'
    have hxx : x2 = x := by rw [hx] at hx2; injection hx2 with hx2; exact hx2.symm
    rw [hxx] at hc4
    refine cx_sound _ _ _ _ _ ?_
    refine ⟨_, op_idx (j := (i : Int)) (n := l.length) (q := ⟨b2, o2, none⟩) rfl (congrArg (fun u => vS u l.length) hpe2) rfl rfl rfl (Int.natCast_nonneg _) h1, ?_⟩
    refine ⟨_, rfl, ?_⟩
    refine ⟨_, op_ldc (i := 1) rfl rfl rfl rfl hm4 hc4 rfl rfl, ?_⟩
    refine ⟨_, rfl, (ac_laws_heldFloorS x.q x.x.floors.length _ s2 (hP3.rows hMx.2) hbx.2.1 (by omega) (by omega)).mono ?_⟩
    rintro _ s3 ⟨rfl, hP4⟩
    refine AW.cut lo0 s3 [(0, vS p l.length), (1, vI (k + (cntL (l.take i) : Int) + 6 * (x.x.items.length : Int) + 2 * (x.x.floors.length : Int))), (5, vI (i : Int)), (9, vB true), (20, vB false)] ⟨rfl, rfl, rfl, rfl, rfl, trivial⟩ fun ρ0 => ?_
    refine ⟨_, rfl, ?_⟩
    rintro (_|_) h3
    rotate_left
    · exact absurd (of_decide_eq_true h3) ((by omega))
    refine AW.cut lo0 s3 [(0, vS p l.length), (1, vI (k + (cntL (l.take i) : Int) + 6 * (x.x.items.length : Int) + 2 * (x.x.floors.length : Int))), (5, vI (i : Int)), (9, vB true), (20, vB false), (29, vB false)] ⟨rfl, rfl, rfl, rfl, rfl, rfl, trivial⟩ fun ρ0 => ?_
    refine cx_sound _ _ _ _ _ ?_
    have e11 : IntKind.wrap .i64 ((i : Int) + 1) = ((i + 1 : Nat) : Int) := (wrap_i64 (by omega) (by omega)).trans (by omega)
    refine ⟨_, rfl, ?_⟩
    have e1 : k + (cntL (l.take i) : Int) + 6 * (x.x.items.length : Int) + 2 * (x.x.floors.length : Int) = k + (cntL (l.take (i + 1)) : Int) := by omega
    exact ⟨i + 1, l.length - (i + 1), by omega, ⟨rfl, congrArg (Value.int .i64) e1, congrArg (Value.int .i64) e11, trivial⟩, rfl, rfl, h1', hP3.trans hP4⟩
/-! Logs -/
theorem ac_laws_markLog (g : LV) (k : Int) (st : St) (hR : Rows st 2 cSV g.p g.l) (hO : OwnP st (g.l.flatMap pcS)) (hd : ∀ q ∈ (g.l.flatMap pcS).map (·.p), Dis g.p q) (hb : bigL g.l) (h0 : 0 ≤ k) (hk : k + (cntL g.l : Int) ≤ 274877906944) : C 35 [.agg #[vI g.cap, vI g.frm, vS g.p g.l.length], vI k] st (fun v s => v = vI (k + (cntL g.l : Int)) ∧ OwnP s ((mkL g.l k).flatMap pcS) ∧ PrL ((g.l.flatMap pcS).map (·.p)) st s) := by
  refine AC.enterX (i := ⟨[2], [2, 5], [0, 1, 2, 4]⟩) [] Try.func35 rfl rfl (by kernel_rfl) (by kernel_rfl) Try.ntmps35 (Nat.le_of_ble_eq_true rfl) rfl ?_
  refine ⟨_, rfl, ?_⟩
  refine AW.cutM (1) st [(1, vI k), (2, vL 2 0 (0)), (4, vI (0))] [(2, 0, [vI g.cap, vI g.frm, vS g.p g.l.length])] ⟨rfl, rfl, rfl, trivial⟩ ⟨rfl, trivial⟩ rfl fun ρ0 ff => ?_
  iterate 2 refine ⟨_, rfl, ?_⟩
  refine ⟨_, rfl, (ac_laws_markStateS g.p g.l k st hR hO hd hb h0 hk).mono ?_⟩
  rintro _ s1 ⟨rfl, hO1, hP1⟩
  refine cx_sound _ _ _ _ _ ?_
  refine cx_sound _ _ _ _ _ ?_
  exact ⟨.inl rfl, _, rfl, rfl, hO1, hP1⟩
theorem ac_laws_heldLog (g : LV) (k : Int) (st : St) (hR : Rows st 2 cSV g.p g.l) (hM : ∀ s ∈ mkL g.l k, RdS st s) (hb : bigL g.l) (h0 : 0 ≤ k) (hk : k + (cntL g.l : Int) ≤ 274877906944) : C 36 [.agg #[vI g.cap, vI g.frm, vS g.p g.l.length], vI k] st (fun v s => v = vI (k + (cntL g.l : Int)) ∧ Pres st s) := by
  refine AC.enterX (i := ⟨[2], [2, 5], [0, 1, 2, 4, 10]⟩) [] Try.func36 rfl rfl (by kernel_rfl) (by kernel_rfl) Try.ntmps36 (Nat.le_of_ble_eq_true rfl) rfl ?_
  refine ⟨_, rfl, ?_⟩
  refine AW.cutM (1) st [(1, vI k), (2, vL 2 0 (0)), (4, vI (0))] [(2, 0, [vI g.cap, vI g.frm, vS g.p g.l.length])] ⟨rfl, rfl, rfl, trivial⟩ ⟨rfl, trivial⟩ rfl fun ρ0 ff => ?_
  iterate 2 refine ⟨_, rfl, ?_⟩
  refine ⟨_, rfl, (ac_laws_heldStateS g.p g.l k st hR hM hb h0 hk).mono ?_⟩
  rintro _ s1 ⟨rfl, hP1⟩
  refine AW.cutM (1) s1 [(1, vI (k + (cntL g.l : Int))), (4, vI (0))] [] ⟨rfl, rfl, trivial⟩ trivial rfl fun ρ0 ff => ?_
  refine ⟨_, rfl, ?_⟩
  rintro (_|_) h1
  rotate_left
  · exact absurd (of_decide_eq_true h1) ((by omega))
  refine AW.cutM (1) s1 [(1, vI (k + (cntL g.l : Int))), (4, vI (0)), (10, vB false)] [] ⟨rfl, rfl, rfl, trivial⟩ trivial rfl fun ρ0 ff => ?_
  refine cx_sound _ _ _ _ _ ?_
  refine cx_sound _ _ _ _ _ ?_
  exact ⟨.inl rfl, _, rfl, rfl, hP1⟩
end Go.Proofs.Ytopcpcoklgepnaa.AM
