/- Contracts of logs' copies, of logs that are cut and added to. -/
import Derived.Test.YtopcpcoklgepnaaU1
import Derived.Test.YtopcpcoklgepnaaL1
namespace Go.Proofs.Ytopcpcoklgepnaa.AM
open Go Go.Proofs
set_option linter.unusedVariables false
set_option linter.unusedSimpArgs false
set_option maxRecDepth 100000
set_option maxHeartbeats 4000000
theorem pcL_nil {st : St} : OwnP st (pcL none []) := OwnP.one (.inl ⟨rfl, rfl⟩)
theorem newL_nil {n : Nat} : NewP n (pcL none []) := NewP.cons New.none NewP.nil
theorem pcL_snoc {st s1 s2 : St} {q q2 : Option Addr} {l : List SV} {u : SV} (h : OwnP st (pcL q l)) (hp : Pres st s1) (hu : OwnP s1 (pcS u)) (hn : NewP st.next (pcS u)) (hP : Pr q s1 s2) (ho : OwnR s2 2 cSV q2 (l ++ [u])) (hn2 : New s1.next q2) : OwnP s2 (pcL q2 (l ++ [u])) := by
  have h1 : OwnP s1 (pcR 2 cSV q l :: (l.flatMap pcS ++ pcS u)) := h.join hp hu hn
  have h2 : OwnP s2 (pcR 2 cSV q2 (l ++ [u]) :: (l.flatMap pcS ++ pcS u)) := OwnP.renew (l := []) h1 hP (own_pc ho) hn2
  show OwnP s2 (pcR 2 cSV q2 (l ++ [u]) :: (l ++ [u]).flatMap pcS)
  rw [List.flatMap_append, List.flatMap_singleton]
  exact h2
theorem newL_snoc {n : Nat} {q q2 : Option Addr} {l : List SV} {u : SV} (h : NewP n (pcL q l)) (hn : NewP n (pcS u)) (hn2 : New n q2) : NewP n (pcL q2 (l ++ [u])) := by
  show NewP n (pcR 2 cSV q2 (l ++ [u]) :: (l ++ [u]).flatMap pcS)
  rw [List.flatMap_append, List.flatMap_singleton]
  exact NewP.cons hn2 (NewP.app (fun c hc => h c (List.mem_cons_of_mem _ hc)) hn)
theorem newL_p {n : Nat} {q : Option Addr} {l : List SV} (h : NewP n (pcL q l)) : New n q := h _ (List.mem_cons_self ..)
theorem ac_impl_copyLog (g : LV) (st : St) (hR : RdL st g.p g.l) (hb : bigL g.l) : C 94 [.agg #[vI g.cap, vI g.frm, vS g.p g.l.length]] st (fun v s => ∃ u : LV, v = .agg #[vI u.cap, vI u.frm, vS u.p u.l.length] ∧ u.x = g.x ∧ OwnP s (pcL u.p u.l) ∧ NewP st.next (pcL u.p u.l) ∧ Pres st s) := by
  have hs : g.l.length ≤ 1048576 := hb.1
  refine AC.enterX (i := ⟨[1, 2, 3, 5], [1, 2, 3, 5, 6, 8, 11, 18, 24], [0, 1, 2, 3, 5, 12, 13, 14, 15]⟩) [(5, [3, 4], [1])] Try.func94 rfl rfl (by kernel_rfl) (by kernel_rfl) Try.ntmps94 (Nat.le_of_ble_eq_true rfl) rfl ?_
  iterate 2 refine ⟨_, rfl, ?_⟩
  refine AW.cutM (2) st [(1, vL 1 0 (0)), (2, vL 2 0 (1))] [(1, 0, [vI g.cap, vI g.frm, vS g.p g.l.length]), (2, 1, [vI 0, vI 0, .slice none 0 0])] ⟨rfl, rfl, trivial⟩ ⟨rfl, rfl, trivial⟩ rfl fun ρ0 ff => ?_
  refine ⟨_, rfl, ?_⟩
  refine ⟨_, op_ldo rfl rfl rfl rfl, ?_⟩
  refine ⟨_, rfl, ?_⟩
  refine ⟨_, op_ldo rfl rfl rfl rfl, ?_⟩
  iterate 2 refine ⟨_, rfl, ?_⟩
  refine ⟨_, op_sto rfl rfl rfl rfl rfl rfl rfl, ?_⟩
  refine AW.cutM (3) st [(1, vL 1 0 (0)), (2, vL 2 0 (1)), (3, vL 3 0 (2))] [(1, 0, [vI g.cap, vI g.frm, vS g.p g.l.length]), (2, 1, [vI 0, vI 0, .slice none 0 0]), (3, 2, [vI g.cap, vI g.frm, .slice none 0 0])] ⟨rfl, rfl, rfl, trivial⟩ ⟨rfl, rfl, rfl, trivial⟩ rfl fun ρ0 ff => ?_
  refine ⟨_, rfl, ?_⟩
  refine ⟨_, op_ldo rfl rfl rfl rfl, ?_⟩
  refine ⟨_, rfl, ?_⟩
  refine AW.cutM (3) st [(2, vL 2 0 (1)), (3, vL 3 0 (2)), (12, vS g.p g.l.length), (13, vI (g.l.length : Int)), (14, vI (0))] [(2, 1, [vI 0, vI 0, .slice none 0 0]), (3, 2, [vI g.cap, vI g.frm, .slice none 0 0])] ⟨rfl, rfl, rfl, rfl, rfl, trivial⟩ ⟨rfl, rfl, trivial⟩ rfl fun ρ0 ff => ?_
  refine AW.loopM (fun x : Nat × Option Addr × List SV => [(2, vL 2 0 (1)), (3, vL 3 0 (2)), (12, vS g.p g.l.length), (13, vI (g.l.length : Int)), (14, vI (x.1 : Int))]) (fun x : Nat × Option Addr × List SV => [(2, 1, [vI 0, vI 0, .slice none 0 0]), (3, 2, [vI g.cap, vI g.frm, vS x.2.1 x.2.2.length])]) (fun m (x : Nat × Option Addr × List SV) st' => m = g.l.length - x.1 ∧ x.1 ≤ g.l.length ∧ x.2.2.map (·.x) = (g.l.take x.1).map (·.x) ∧ OwnP st' (pcL x.2.1 x.2.2) ∧ NewP st.next (pcL x.2.1 x.2.2) ∧ Pres st st') (0, none, []) _ ⟨rfl, rfl, rfl, rfl, rfl, trivial⟩ ⟨rfl, rfl, trivial⟩ ⟨rfl, Nat.zero_le _, rfl, pcL_nil, newL_nil, Pres.refl _⟩ ?_
  rintro m ⟨i, q, l⟩ ρ0 ff gg st' ⟨rfl, hi, hl, hO, hN, hP⟩
  simp only at hi hl hO hN
  have hll : l.length = i := by have := congrArg List.length hl; simp at this; omega
  refine ⟨_, rfl, ?_⟩
  rintro (_|_) h15
  · replace h15 : ¬ ((i : Int) < (g.l.length : Int)) := of_decide_eq_false h15
    refine AW.cutM (gg) st' [(2, vL 2 0 (1)), (3, vL 3 0 (2)), (12, vS g.p g.l.length), (13, vI (g.l.length : Int)), (14, vI (i : Int)), (15, vB false)] [(2, 1, [vI 0, vI 0, .slice none 0 0]), (3, 2, [vI g.cap, vI g.frm, vS q l.length])] ⟨rfl, rfl, rfl, rfl, rfl, rfl, trivial⟩ ⟨rfl, rfl, trivial⟩ rfl fun ρ0 ff => ?_
    refine cx_sound _ _ _ _ _ ?_
    refine ⟨_, op_ldo rfl rfl rfl rfl, ?_⟩
    refine ⟨_, op_sto rfl rfl rfl rfl rfl rfl rfl, ?_⟩
    refine cx_sound _ _ _ _ _ ?_
    have hil : i = g.l.length := by omega
    exact ⟨.inl rfl, _, rfl, ⟨g.cap, g.frm, q, l⟩, rfl, by simp only [LV.x, hl, hil, List.take_length], hO, hN, hP⟩
  · replace h15 : (i : Int) < (g.l.length : Int) := of_decide_eq_true h15
    refine AW.cutM (gg) st' [(2, vL 2 0 (1)), (3, vL 3 0 (2)), (12, vS g.p g.l.length), (13, vI (g.l.length : Int)), (14, vI (i : Int)), (15, vB true)] [(2, 1, [vI 0, vI 0, .slice none 0 0]), (3, 2, [vI g.cap, vI g.frm, vS q l.length])] ⟨rfl, rfl, rfl, rfl, rfl, rfl, trivial⟩ ⟨rfl, rfl, trivial⟩ rfl fun ρ0 ff => ?_
    refine cx_sound _ _ _ _ _ ?_
    refine op_at i (hP.rows hR.1) (by omega) rfl rfl rfl rfl rfl rfl rfl ?_
    intro x16 b16 d16 k16 hy16 hb16 hm16 hc16 ho16
    refine ⟨_, op_lda rfl rfl rfl rfl rfl hm16 hc16 rfl, ?_⟩
    refine ⟨_, rfl, ?_⟩
    refine ⟨_, op_sto rfl rfl rfl rfl rfl rfl rfl, ?_⟩
    refine AW.cutM (gg + 1) st' [(2, vL 2 0 (1)), (3, vL 3 0 (2)), (5, vL 5 0 (gg)), (12, vS g.p g.l.length), (13, vI (g.l.length : Int)), (14, vI (i : Int)), (15, vB true)] [(2, 1, [vI 0, vI 0, .slice none 0 0]), (3, 2, [vI g.cap, vI g.frm, vS q l.length]), (5, gg, [vS x16.p x16.x.items.length, vS x16.q x16.x.floors.length])] ⟨rfl, rfl, rfl, rfl, rfl, rfl, rfl, trivial⟩ ⟨rfl, rfl, rfl, trivial⟩ rfl fun ρ0 ff => ?_
    refine ⟨_, rfl, ?_⟩
    refine ⟨_, op_ldo rfl rfl rfl rfl, ?_⟩
    refine ⟨ld_own rfl rfl rfl, ?_⟩
    refine ⟨_, op_ldo rfl rfl rfl rfl, ?_⟩
    refine ⟨_, rfl, (ac_impl_copyState x16 st' ((hR.2 x16 (List.mem_of_getElem? hy16)).pres hP) (hb.2 x16 (List.mem_of_getElem? hy16))).mono ?_⟩
    rintro _ s21 ⟨u21, rfl, h21, hO21, hN21, hP21⟩
    refine ⟨hP21.2, ?_⟩
    refine op_one (z := 2) (a := (u21 : SV)) (f := cSV) rfl rfl rfl rfl rfl (by decide) rfl (Nat.le_of_ble_eq_true rfl) rfl rfl rfl ?_
    refine ⟨Pres.push.low hP21, ?_⟩
    refine op_add (z := 2) (st := s21) (f := cSV) (b := 48) (l := l) rfl rfl rfl rfl rfl rfl rfl (by decide) len_cSV rfl rfl rfl (by omega) (by unfold maxLen; omega) ((hO.pres hP21).louter) ?_
    intro q23 s23 hO23 hP23 hN23
    refine ⟨_, rfl, ?_⟩
    refine ⟨_, op_sto rfl rfl rfl rfl rfl rfl rfl, ?_⟩
    refine AW.cutM (gg + 1) s23 [(2, vL 2 0 (1)), (3, vL 3 0 (2)), (5, vL 5 0 (gg)), (12, vS g.p g.l.length), (13, vI (g.l.length : Int)), (14, vI (i : Int)), (15, vB true)] [(2, 1, [vI 0, vI 0, .slice none 0 0]), (3, 2, [vI g.cap, vI g.frm, vS q23 (l.length + 1)]), (5, gg, [vS x16.p x16.x.items.length, vS x16.q x16.x.floors.length])] ⟨rfl, rfl, rfl, rfl, rfl, rfl, rfl, trivial⟩ ⟨rfl, rfl, rfl, trivial⟩ rfl fun ρ0 ff => ?_
    have hO5 := pcL_snoc hO hP21 hO21 hN21 hP23 hO23 hN23
    have hN5 := newL_snoc hN (hN21.le hP.1) (hN23.le (hP.trans hP21).1)
    have hP5 := hP23.pres (hP.trans hP21) (newL_p hN)
    have hl5 : (l ++ [u21]).map (·.x) = (g.l.take (i + 1)).map (·.x) := by rw [(split_at' hy16).2.1, List.map_append, List.map_append, hl]; simp [h21]
    have ew25 : IntKind.wrap .i64 ((i : Int) + (1)) = ((i + 1 : Nat) : Int) := (wrap_i64 (by omega) (by omega)).trans (by omega)
    refine ⟨_, rfl, ?_⟩
    exact ⟨(i + 1, q23, l ++ [u21]), g.l.length - (i + 1), by omega, ⟨rfl, rfl, rfl, rfl, congrArg (Value.int .i64) ew25, trivial⟩, ⟨rfl, (show some (2, [vI g.cap, vI g.frm, vS q23 (l.length + 1)]) = _ by rw [List.length_append]; rfl), trivial⟩, rfl, by omega, hl5, hO5, hN5, hP5⟩
theorem ac_spec_l7Copy (g : LV) (st : St) (hR : RdL st g.p g.l) (hb : bigL g.l) : C 92 [.agg #[vI g.cap, vI g.frm, vS g.p g.l.length]] st (fun v s => ∃ u : LV, v = .agg #[vI u.cap, vI u.frm, vS u.p u.l.length] ∧ u.x = g.x ∧ OwnP s (pcL u.p u.l) ∧ NewP st.next (pcL u.p u.l) ∧ Pres st s) := by
  have hs : g.l.length ≤ 1048576 := hb.1
  refine AC.enterX (i := ⟨[1, 2, 3], [1, 2, 3, 5, 7, 11, 17, 19, 27], [0, 1, 2, 3, 4, 14]⟩) [(5, [7, 8], [1])] Try.func92 rfl rfl (by kernel_rfl) (by kernel_rfl) Try.ntmps92 (Nat.le_of_ble_eq_true rfl) rfl ?_
  iterate 2 refine ⟨_, rfl, ?_⟩
  refine AW.cutM (2) st [(1, vL 1 0 (0)), (2, vL 2 0 (1))] [(1, 0, [vI g.cap, vI g.frm, vS g.p g.l.length]), (2, 1, [vI 0, vI 0, .slice none 0 0])] ⟨rfl, rfl, trivial⟩ ⟨rfl, rfl, trivial⟩ rfl fun ρ0 ff => ?_
  refine ⟨_, rfl, ?_⟩
  refine ⟨_, op_ldo rfl rfl rfl rfl, ?_⟩
  refine ⟨_, rfl, ?_⟩
  refine ⟨_, op_ldo rfl rfl rfl rfl, ?_⟩
  iterate 2 refine ⟨_, rfl, ?_⟩
  refine ⟨_, op_sto rfl rfl rfl rfl rfl rfl rfl, ?_⟩
  refine cx_sound _ _ _ _ _ ?_
  refine AW.cutM (3) st [(1, vL 1 0 (0)), (2, vL 2 0 (1)), (3, vL 3 0 (2)), (4, vI (0))] [(1, 0, [vI g.cap, vI g.frm, vS g.p g.l.length]), (2, 1, [vI 0, vI 0, .slice none 0 0]), (3, 2, [vI g.cap, vI g.frm, .slice none 0 0])] ⟨rfl, rfl, rfl, rfl, trivial⟩ ⟨rfl, rfl, rfl, trivial⟩ rfl fun ρ0 ff => ?_
  refine AW.loopM (fun x : Nat × Option Addr × List SV => [(1, vL 1 0 (0)), (2, vL 2 0 (1)), (3, vL 3 0 (2)), (4, vI (x.1 : Int))]) (fun x : Nat × Option Addr × List SV => [(1, 0, [vI g.cap, vI g.frm, vS g.p g.l.length]), (2, 1, [vI 0, vI 0, .slice none 0 0]), (3, 2, [vI g.cap, vI g.frm, vS x.2.1 x.2.2.length])]) (fun m (x : Nat × Option Addr × List SV) st' => m = g.l.length - x.1 ∧ x.1 ≤ g.l.length ∧ x.2.2.map (·.x) = (g.l.take x.1).map (·.x) ∧ OwnP st' (pcL x.2.1 x.2.2) ∧ NewP st.next (pcL x.2.1 x.2.2) ∧ Pres st st') (0, none, []) _ ⟨rfl, rfl, rfl, rfl, trivial⟩ ⟨rfl, rfl, rfl, trivial⟩ ⟨rfl, Nat.zero_le _, rfl, pcL_nil, newL_nil, Pres.refl _⟩ ?_
  rintro m ⟨i, q, l⟩ ρ0 ff gg st' ⟨rfl, hi, hl, hO, hN, hP⟩
  simp only at hi hl hO hN
  have hll : l.length = i := by have := congrArg List.length hl; simp at this; omega
  refine ⟨_, rfl, ?_⟩
  refine ⟨_, op_ldo rfl rfl rfl rfl, ?_⟩
  iterate 2 refine ⟨_, rfl, ?_⟩
  rintro (_|_) h14
  · replace h14 : ¬ ((i : Int) < (g.l.length : Int)) := of_decide_eq_false h14
    refine AW.cutM (gg) st' [(1, vL 1 0 (0)), (2, vL 2 0 (1)), (3, vL 3 0 (2)), (4, vI (i : Int)), (14, vB false)] [(1, 0, [vI g.cap, vI g.frm, vS g.p g.l.length]), (2, 1, [vI 0, vI 0, .slice none 0 0]), (3, 2, [vI g.cap, vI g.frm, vS q l.length])] ⟨rfl, rfl, rfl, rfl, rfl, trivial⟩ ⟨rfl, rfl, rfl, trivial⟩ rfl fun ρ0 ff => ?_
    refine cx_sound _ _ _ _ _ ?_
    refine ⟨_, op_ldo rfl rfl rfl rfl, ?_⟩
    refine ⟨_, op_sto rfl rfl rfl rfl rfl rfl rfl, ?_⟩
    refine cx_sound _ _ _ _ _ ?_
    have hil : i = g.l.length := by omega
    exact ⟨.inl rfl, _, rfl, ⟨g.cap, g.frm, q, l⟩, rfl, by simp only [LV.x, hl, hil, List.take_length], hO, hN, hP⟩
  · replace h14 : (i : Int) < (g.l.length : Int) := of_decide_eq_true h14
    refine AW.cutM (gg) st' [(1, vL 1 0 (0)), (2, vL 2 0 (1)), (3, vL 3 0 (2)), (4, vI (i : Int)), (14, vB true)] [(1, 0, [vI g.cap, vI g.frm, vS g.p g.l.length]), (2, 1, [vI 0, vI 0, .slice none 0 0]), (3, 2, [vI g.cap, vI g.frm, vS q l.length])] ⟨rfl, rfl, rfl, rfl, rfl, trivial⟩ ⟨rfl, rfl, rfl, trivial⟩ rfl fun ρ0 ff => ?_
    refine cx_sound _ _ _ _ _ ?_
    refine ⟨_, rfl, ?_⟩
    refine ⟨_, op_ldo rfl rfl rfl rfl, ?_⟩
    refine ⟨ld_own rfl rfl rfl, ?_⟩
    refine ⟨_, rfl, ?_⟩
    refine ⟨_, op_ldo rfl rfl rfl rfl, ?_⟩
    refine op_at i (hP.rows hR.1) (by omega) rfl rfl rfl rfl rfl rfl rfl ?_
    intro x22 b22 d22 k22 hy22 hb22 hm22 hc22 ho22
    refine ⟨_, op_lda rfl rfl rfl rfl rfl hm22 hc22 rfl, ?_⟩
    refine ⟨_, rfl, (ac_spec_l3Copy x22 st' ((hR.2 x22 (List.mem_of_getElem? hy22)).pres hP) (hb.2 x22 (List.mem_of_getElem? hy22))).mono ?_⟩
    rintro _ s24 ⟨u24, rfl, h24, hO24, hN24, hP24⟩
    refine ⟨hP24.2, ?_⟩
    refine op_one (z := 2) (a := (u24 : SV)) (f := cSV) rfl rfl rfl rfl rfl (by decide) rfl (Nat.le_of_ble_eq_true rfl) rfl rfl rfl ?_
    refine ⟨Pres.push.low hP24, ?_⟩
    refine op_add (z := 2) (st := s24) (f := cSV) (b := 48) (l := l) rfl rfl rfl rfl rfl rfl rfl (by decide) len_cSV rfl rfl rfl (by omega) (by unfold maxLen; omega) ((hO.pres hP24).louter) ?_
    intro q26 s26 hO26 hP26 hN26
    refine ⟨_, rfl, ?_⟩
    refine ⟨_, op_sto rfl rfl rfl rfl rfl rfl rfl, ?_⟩
    refine AW.cutM (gg) s26 [(1, vL 1 0 (0)), (2, vL 2 0 (1)), (3, vL 3 0 (2)), (4, vI (i : Int)), (14, vB true)] [(1, 0, [vI g.cap, vI g.frm, vS g.p g.l.length]), (2, 1, [vI 0, vI 0, .slice none 0 0]), (3, 2, [vI g.cap, vI g.frm, vS q26 (l.length + 1)])] ⟨rfl, rfl, rfl, rfl, rfl, trivial⟩ ⟨rfl, rfl, rfl, trivial⟩ rfl fun ρ0 ff => ?_
    have hO5 := pcL_snoc hO hP24 hO24 hN24 hP26 hO26 hN26
    have hN5 := newL_snoc hN (hN24.le hP.1) (hN26.le (hP.trans hP24).1)
    have hP5 := hP26.pres (hP.trans hP24) (newL_p hN)
    have hl5 : (l ++ [u24]).map (·.x) = (g.l.take (i + 1)).map (·.x) := by rw [(split_at' hy22).2.1, List.map_append, List.map_append, hl]; simp [h24]
    have ew16 : IntKind.wrap .i64 ((i : Int) + (1)) = ((i + 1 : Nat) : Int) := (wrap_i64 (by omega) (by omega)).trans (by omega)
    refine ⟨_, rfl, ?_⟩
    exact ⟨(i + 1, q26, l ++ [u24]), g.l.length - (i + 1), by omega, ⟨rfl, rfl, rfl, congrArg (Value.int .i64) ew16, trivial⟩, ⟨rfl, rfl, (show some (2, [vI g.cap, vI g.frm, vS q26 (l.length + 1)]) = _ by rw [List.length_append]; rfl), trivial⟩, rfl, by omega, hl5, hO5, hN5, hP5⟩
/-- A later part of a log of one's own. -/
theorem lw_drop {st : St} {q : Option Addr} {l : List SV} (h : OwnP st (pcL q l)) (cap frm : Int) (j : Nat) : ∃ w : LW, w.v = ⟨cap, frm, shO q 2 j, l.drop j⟩ ∧ OwnP st (pcLog w) ∧ ∀ n, NewP n (pcL q l) → NewP n (pcLog w) := by
  have hsub : ((pcR 2 cSV q l) :: (l.drop j).flatMap pcS).Sublist (pcL q l) := by
    refine List.Sublist.cons_cons _ ?_
    have : l.flatMap pcS = (l.take j).flatMap pcS ++ (l.drop j).flatMap pcS := by rw [← List.flatMap_append, List.take_append_drop]
    rw [this]; exact List.sublist_append_right _ _
  refine ⟨⟨cap, frm, shO q 2 j, l.drop j, pcR 2 cSV q l, ?_⟩, rfl, h.sub hsub, fun n hn c hc => hn c (hsub.subset hc)⟩
  rcases h.louter with ⟨_, h2⟩ | ⟨a, h1, _⟩
  · exact .inl (by rw [h2]; exact List.drop_nil)
  · refine .inr ⟨a, 0 + j * 2, h1, by rw [h1]; rfl, fun i x hx => ?_⟩
    rw [List.getElem?_drop] at hx
    have := flat_at (l := l) len_cSV hx
    rw [Nat.zero_add, ← Nat.add_mul]
    exact this
theorem lw_all {st : St} {q : Option Addr} {l : List SV} (h : OwnP st (pcL q l)) (cap frm : Int) : ∃ w : LW, w.v = ⟨cap, frm, q, l⟩ ∧ OwnP st (pcLog w) ∧ ∀ n, NewP n (pcL q l) → NewP n (pcLog w) := by
  obtain ⟨w, h1, h2, h3⟩ := OwnP.lw (u := ⟨cap, frm, q, l⟩) h
  refine ⟨w, h1, h2, fun n hn => ?_⟩
  have hw : w.l = l := congrArg LV.l h1
  show NewP n (w.C :: w.l.flatMap pcS)
  rw [h3, hw]; exact hn
open Classical in
noncomputable def dropL (g : Lg) (n : Int) : Lg := if logOk g ∧ g.frm ≤ n ∧ n ≤ g.frm + (g.list.length : Int) then ⟨g.cap, n, g.list.drop (n - g.frm).toNat⟩ else g
theorem lw_val {w : LW} {u : LV} (h : w.v = u) : (.agg #[vI u.cap, vI u.frm, vS u.p u.l.length] : Value) = .agg #[vI w.cap, vI w.frm, vS w.p w.l.length] := by subst h; rfl
theorem sub_flat {m l : List SV} (h : m.Sublist l) : (m.flatMap pcS).Sublist (l.flatMap pcS) := by
  induction h with
  | slnil => exact List.Sublist.refl _
  | cons a _ ih => rw [List.flatMap_cons]; exact ih.trans (List.sublist_append_right _ _)
  | cons_cons a _ ih => rw [List.flatMap_cons, List.flatMap_cons]; exact (List.Sublist.refl _).append ih
theorem pcL_move {s s' : St} {q q' : Option Addr} {l m : List SV} (h : OwnP s (pcL q l)) (hm : m.Sublist l) (hp : Pres s s') (ho : OwnR s' 2 cSV q' m) (hn : New s.next q') : OwnP s' (pcL q' m) :=
  OwnP.joinF (l := m.flatMap pcS) (m := [pcR 2 cSV q' m]) (h.tail.sub (sub_flat hm)) hp (OwnP.one (own_pc ho)) (NewP.cons hn NewP.nil)
theorem newL_move {n : Nat} {q q' : Option Addr} {l m : List SV} (h : NewP n (pcL q l)) (hm : m.Sublist l) (hn : New n q') : NewP n (pcL q' m) :=
  NewP.cons hn fun c hc => h c (List.mem_cons_of_mem _ ((sub_flat hm).subset hc))
theorem ac_impl_LogDrop (g : LV) (n : Int) (st : St) (hR : RdL st g.p g.l) (hb : bigL g.l) : C 34 [.agg #[vI g.cap, vI g.frm, vS g.p g.l.length], vI n] st (fun v s => ∃ u : LW, v = .agg #[vI u.cap, vI u.frm, vS u.p u.l.length] ∧ u.v.x = dropL g.x n ∧ OwnP s (pcLog u) ∧ NewP st.next (pcLog u) ∧ Pres st s) := by
  have hs : g.l.length ≤ 1048576 := hb.1
  have hgl : g.x.list.length = g.l.length := List.length_map _
  refine AC.enterX (i := ⟨[2, 4, 5], [2, 4, 5, 13, 21, 24, 28, 30], [0, 1, 2, 4, 5, 19]⟩) [(2, [8], [6])] Try.func34 rfl rfl (by kernel_rfl) (by kernel_rfl) Try.ntmps34 (Nat.le_of_ble_eq_true rfl) rfl ?_
  iterate 2 refine ⟨_, rfl, ?_⟩
  refine AW.cutM (2) st [(1, vI n), (2, vL 2 0 (0)), (4, vL 4 0 (1))] [(2, 0, [vI g.cap, vI g.frm, vS g.p g.l.length]), (4, 1, [vI 0, vI 0, .slice none 0 0])] ⟨rfl, rfl, rfl, trivial⟩ ⟨rfl, rfl, trivial⟩ rfl fun ρ0 ff => ?_
  refine ⟨_, op_ldo rfl rfl rfl rfl, ?_⟩
  refine ⟨_, rfl, (ac_impl_copyLog g st hR (by first | assumption | omega)).mono ?_⟩
  rintro _ s7 ⟨u7, rfl, h7, hO7, hN7, hP7⟩
  refine ⟨_, rfl, ?_⟩
  refine ⟨_, op_sto rfl rfl rfl rfl rfl rfl rfl, ?_⟩
  refine AW.cutM (3) s7 [(1, vI n), (2, vL 2 0 (0)), (4, vL 4 0 (1)), (5, vL 5 0 (2))] [(2, 0, [vI g.cap, vI g.frm, vS g.p g.l.length]), (4, 1, [vI 0, vI 0, .slice none 0 0]), (5, 2, [vI u7.cap, vI u7.frm, vS u7.p u7.l.length])] ⟨rfl, rfl, rfl, rfl, trivial⟩ ⟨rfl, rfl, rfl, trivial⟩ rfl fun ρ0 ff => ?_
  have ⟨w0, hw0, hO0, hN0⟩ := lw_all hO7 u7.cap u7.frm
  have hx7 : u7.cap = g.cap ∧ u7.frm = g.frm ∧ u7.l.map (·.x) = g.l.map (·.x) := ⟨congrArg Lg.cap h7, congrArg Lg.frm h7, congrArg Lg.list h7⟩
  have hl7 : u7.l.length = g.l.length := by have := congrArg List.length hx7.2.2; simpa using this
  refine ⟨_, op_ldo rfl rfl rfl rfl, ?_⟩
  refine ⟨_, rfl, (ac_impl_LogOk g s7 (hR.pres hP7) (by first | assumption | omega)).mono ?_⟩
  rintro _ s7 ⟨x9, rfl, h9, rfl⟩
  rcases x9 with _|_
  · replace h9 := fun k => Bool.false_ne_true (h9.2 k)
    iterate 2 refine ⟨_, rfl, ?_⟩
    refine AW.cutM (3) s7 [(1, vI n), (2, vL 2 0 (0)), (4, vL 4 0 (1)), (5, vL 5 0 (2)), (19, vB true)] [(2, 0, [vI g.cap, vI g.frm, vS g.p g.l.length]), (4, 1, [vI 0, vI 0, .slice none 0 0]), (5, 2, [vI u7.cap, vI u7.frm, vS u7.p u7.l.length])] ⟨rfl, rfl, rfl, rfl, rfl, trivial⟩ ⟨rfl, rfl, rfl, trivial⟩ rfl fun ρ0 ff => ?_
    refine ⟨_, op_ldo rfl rfl rfl rfl, ?_⟩
    refine ⟨_, op_sto rfl rfl rfl rfl rfl rfl rfl, ?_⟩
    refine cx_sound _ _ _ _ _ ?_
    exact ⟨.inl rfl, _, rfl, w0, lw_val hw0, by rw [hw0, dropL, if_neg (fun h => h9 h.1)]; exact h7, hO0, hN0 _ hN7, hP7⟩
  · replace h9 := h9.1 rfl
    iterate 2 refine ⟨_, rfl, ?_⟩
    refine ⟨_, op_ldo rfl rfl rfl rfl, ?_⟩
    refine ⟨ld_own rfl rfl rfl, ?_⟩
    refine ⟨_, op_ldo rfl rfl rfl rfl, ?_⟩
    refine ⟨_, rfl, (ac_impl_LogSeq g s7 (hR.pres hP7) (by first | assumption | omega)).mono ?_⟩
    rintro _ s7 ⟨rfl, rfl⟩
    refine ⟨fun _ _ => rfl, ?_⟩
    refine ⟨_, rfl, (ac_impl_within n g.frm (logSeq g.x) s7).mono ?_⟩
    rintro _ s7 ⟨x17, rfl, h17, rfl⟩
    rcases x17 with _|_
    · replace h17 := of_decide_eq_false h17.symm
      iterate 2 refine ⟨_, rfl, ?_⟩
      refine AW.cutM (3) s7 [(1, vI n), (2, vL 2 0 (0)), (4, vL 4 0 (1)), (5, vL 5 0 (2)), (19, vB true)] [(2, 0, [vI g.cap, vI g.frm, vS g.p g.l.length]), (4, 1, [vI 0, vI 0, .slice none 0 0]), (5, 2, [vI u7.cap, vI u7.frm, vS u7.p u7.l.length])] ⟨rfl, rfl, rfl, rfl, rfl, trivial⟩ ⟨rfl, rfl, rfl, trivial⟩ rfl fun ρ0 ff => ?_
      refine ⟨_, op_ldo rfl rfl rfl rfl, ?_⟩
      refine ⟨_, op_sto rfl rfl rfl rfl rfl rfl rfl, ?_⟩
      refine cx_sound _ _ _ _ _ ?_
      rw [logSeq, if_pos h9] at h17
      exact ⟨.inl rfl, _, rfl, w0, lw_val hw0, by rw [hw0, dropL, if_neg (fun h => h17 h.2)]; exact h7, hO0, hN0 _ hN7, hP7⟩
    · replace h17 := of_decide_eq_true h17.symm
      iterate 2 refine ⟨_, rfl, ?_⟩
      refine AW.cutM (3) s7 [(1, vI n), (2, vL 2 0 (0)), (4, vL 4 0 (1)), (5, vL 5 0 (2)), (19, vB false)] [(2, 0, [vI g.cap, vI g.frm, vS g.p g.l.length]), (4, 1, [vI 0, vI 0, .slice none 0 0]), (5, 2, [vI u7.cap, vI u7.frm, vS u7.p u7.l.length])] ⟨rfl, rfl, rfl, rfl, rfl, trivial⟩ ⟨rfl, rfl, rfl, trivial⟩ rfl fun ρ0 ff => ?_
      rw [logSeq, if_pos h9] at h17
      have hw1 : g.frm ≤ n := h17.1
      have hw2 : n ≤ g.frm + (g.l.length : Int) := by have h := h17.2; rw [hgl] at h; exact h
      have hk3 : 0 ≤ g.frm ∧ g.frm ≤ 100000 := h9.2.2.1
      have ⟨w, hw, hO, hN⟩ := lw_drop hO7 u7.cap n (n - g.frm).toNat
      refine cx_sound _ _ _ _ _ ?_
      refine ⟨_, rfl, ?_⟩
      refine ⟨_, op_ldo rfl rfl rfl rfl, ?_⟩
      refine ⟨_, rfl, ?_⟩
      refine ⟨_, op_ldo rfl rfl rfl rfl, ?_⟩
      have ew26 : IntKind.wrap .i64 (n - g.frm) = n - g.frm := wrap_i64 (by omega) (by omega)
      refine ⟨_, rfl, ?_⟩
      refine ⟨_, op_drop u7.l ((n - g.frm).toNat) rfl rfl rfl (congrArg (Value.int .i64) ew26) rfl rfl (by omega) (by omega), ?_⟩
      refine ⟨_, rfl, ?_⟩
      refine ⟨_, op_sto rfl rfl rfl rfl rfl rfl rfl, ?_⟩
      refine AW.cutM (3) s7 [(1, vI n), (4, vL 4 0 (1)), (5, vL 5 0 (2))] [(4, 1, [vI 0, vI 0, .slice none 0 0]), (5, 2, [vI u7.cap, vI u7.frm, vS (shO u7.p 2 ((n - g.frm).toNat)) (u7.l.drop ((n - g.frm).toNat)).length])] ⟨rfl, rfl, rfl, trivial⟩ ⟨rfl, rfl, trivial⟩ rfl fun ρ0 ff => ?_
      refine ⟨_, rfl, ?_⟩
      refine ⟨_, op_sto rfl rfl rfl rfl rfl rfl rfl, ?_⟩
      refine AW.cutM (3) s7 [(4, vL 4 0 (1)), (5, vL 5 0 (2))] [(4, 1, [vI 0, vI 0, .slice none 0 0]), (5, 2, [vI u7.cap, vI n, vS (shO u7.p 2 ((n - g.frm).toNat)) (u7.l.drop ((n - g.frm).toNat)).length])] ⟨rfl, rfl, trivial⟩ ⟨rfl, rfl, trivial⟩ rfl fun ρ0 ff => ?_
      refine ⟨_, op_ldo rfl rfl rfl rfl, ?_⟩
      refine ⟨_, op_sto rfl rfl rfl rfl rfl rfl rfl, ?_⟩
      refine cx_sound _ _ _ _ _ ?_
      exact ⟨.inl rfl, _, rfl, w, lw_val hw, by rw [hw, dropL, if_pos ⟨h9, h17.1, h17.2⟩]; simp only [LV.x, List.map_drop, hx7.1, hx7.2.2], hO, hN _ hN7, hP7⟩
theorem ac_spec_LogDrop (g : LV) (n : Int) (st : St) (hR : RdL st g.p g.l) (hb : bigL g.l) : C 33 [.agg #[vI g.cap, vI g.frm, vS g.p g.l.length], vI n] st (fun v s => ∃ u : LW, v = .agg #[vI u.cap, vI u.frm, vS u.p u.l.length] ∧ u.v.x = dropL g.x n ∧ OwnP s (pcLog u) ∧ NewP st.next (pcLog u) ∧ Pres st s) := by
  have hs : g.l.length ≤ 1048576 := hb.1
  have hgl : g.x.list.length = g.l.length := List.length_map _
  refine AC.enterX (i := ⟨[2, 4, 5], [2, 4, 5, 13, 15, 17, 26, 29, 34, 36], [0, 1, 2, 4, 5, 23]⟩) [] Try.func33 rfl rfl (by kernel_rfl) (by kernel_rfl) Try.ntmps33 (Nat.le_of_ble_eq_true rfl) rfl ?_
  iterate 2 refine ⟨_, rfl, ?_⟩
  refine AW.cutM (2) st [(1, vI n), (2, vL 2 0 (0)), (4, vL 4 0 (1))] [(2, 0, [vI g.cap, vI g.frm, vS g.p g.l.length]), (4, 1, [vI 0, vI 0, .slice none 0 0])] ⟨rfl, rfl, rfl, trivial⟩ ⟨rfl, rfl, trivial⟩ rfl fun ρ0 ff => ?_
  refine ⟨_, op_ldo rfl rfl rfl rfl, ?_⟩
  refine ⟨_, rfl, (ac_spec_l7Copy g st hR (by first | assumption | omega)).mono ?_⟩
  rintro _ s7 ⟨u7, rfl, h7, hO7, hN7, hP7⟩
  refine ⟨_, rfl, ?_⟩
  refine ⟨_, op_sto rfl rfl rfl rfl rfl rfl rfl, ?_⟩
  refine AW.cutM (3) s7 [(1, vI n), (2, vL 2 0 (0)), (4, vL 4 0 (1)), (5, vL 5 0 (2))] [(2, 0, [vI g.cap, vI g.frm, vS g.p g.l.length]), (4, 1, [vI 0, vI 0, .slice none 0 0]), (5, 2, [vI u7.cap, vI u7.frm, vS u7.p u7.l.length])] ⟨rfl, rfl, rfl, rfl, trivial⟩ ⟨rfl, rfl, rfl, trivial⟩ rfl fun ρ0 ff => ?_
  have ⟨w0, hw0, hO0, hN0⟩ := lw_all hO7 u7.cap u7.frm
  have hx7 : u7.cap = g.cap ∧ u7.frm = g.frm ∧ u7.l.map (·.x) = g.l.map (·.x) := ⟨congrArg Lg.cap h7, congrArg Lg.frm h7, congrArg Lg.list h7⟩
  have hl7 : u7.l.length = g.l.length := by have := congrArg List.length hx7.2.2; simpa using this
  refine ⟨_, op_ldo rfl rfl rfl rfl, ?_⟩
  refine ⟨_, rfl, (ac_spec_LogOk g s7 (hR.pres hP7) (by first | assumption | omega)).mono ?_⟩
  rintro _ s7 ⟨x9, rfl, h9, rfl⟩
  rcases x9 with _|_
  · replace h9 := fun k => Bool.false_ne_true (h9.2 k)
    iterate 2 refine ⟨_, rfl, ?_⟩
    refine AW.cutM (3) s7 [(1, vI n), (2, vL 2 0 (0)), (4, vL 4 0 (1)), (5, vL 5 0 (2)), (23, vB true)] [(2, 0, [vI g.cap, vI g.frm, vS g.p g.l.length]), (4, 1, [vI 0, vI 0, .slice none 0 0]), (5, 2, [vI u7.cap, vI u7.frm, vS u7.p u7.l.length])] ⟨rfl, rfl, rfl, rfl, rfl, trivial⟩ ⟨rfl, rfl, rfl, trivial⟩ rfl fun ρ0 ff => ?_
    refine ⟨_, op_ldo rfl rfl rfl rfl, ?_⟩
    refine ⟨_, op_sto rfl rfl rfl rfl rfl rfl rfl, ?_⟩
    refine cx_sound _ _ _ _ _ ?_
    exact ⟨.inl rfl, _, rfl, w0, lw_val hw0, by rw [hw0, dropL, if_neg (fun h => h9 h.1)]; exact h7, hO0, hN0 _ hN7, hP7⟩
  · replace h9 := h9.1 rfl
    iterate 2 refine ⟨_, rfl, ?_⟩
    refine ⟨_, op_ldo rfl rfl rfl rfl, ?_⟩
    refine ⟨_, rfl, ?_⟩
    refine ⟨_, op_ldo rfl rfl rfl rfl, ?_⟩
    refine ⟨_, rfl, ?_⟩
    refine ⟨_, op_ldo rfl rfl rfl rfl, ?_⟩
    refine ⟨_, rfl, ?_⟩
    have hk0 : 0 ≤ g.frm ∧ g.frm ≤ 100000 := h9.2.2.1
    have ew20 : IntKind.wrap .i64 (g.frm + (g.l.length : Int)) = g.frm + (g.l.length : Int) := wrap_i64 (by omega) (by omega)
    refine ⟨_, rfl, ?_⟩
    refine ⟨_, rfl, (ac_spec_l1In n g.frm (IntKind.wrap .i64 (g.frm + (g.l.length : Int))) s7).mono ?_⟩
    rintro _ s7 ⟨x21, rfl, h21, rfl⟩
    rcases x21 with _|_
    · replace h21 := of_decide_eq_false h21.symm
      rw [ew20] at h21
      iterate 2 refine ⟨_, rfl, ?_⟩
      refine AW.cutM (3) s7 [(1, vI n), (2, vL 2 0 (0)), (4, vL 4 0 (1)), (5, vL 5 0 (2)), (23, vB true)] [(2, 0, [vI g.cap, vI g.frm, vS g.p g.l.length]), (4, 1, [vI 0, vI 0, .slice none 0 0]), (5, 2, [vI u7.cap, vI u7.frm, vS u7.p u7.l.length])] ⟨rfl, rfl, rfl, rfl, rfl, trivial⟩ ⟨rfl, rfl, rfl, trivial⟩ rfl fun ρ0 ff => ?_
      refine ⟨_, op_ldo rfl rfl rfl rfl, ?_⟩
      refine ⟨_, op_sto rfl rfl rfl rfl rfl rfl rfl, ?_⟩
      refine cx_sound _ _ _ _ _ ?_
      exact ⟨.inl rfl, _, rfl, w0, lw_val hw0, by rw [hw0, dropL, if_neg (fun h => h21 (by have h' := h.2; rw [hgl] at h'; exact h'))]; exact h7, hO0, hN0 _ hN7, hP7⟩
    · replace h21 := of_decide_eq_true h21.symm
      rw [ew20] at h21
      iterate 2 refine ⟨_, rfl, ?_⟩
      refine AW.cutM (3) s7 [(1, vI n), (2, vL 2 0 (0)), (4, vL 4 0 (1)), (5, vL 5 0 (2)), (23, vB false)] [(2, 0, [vI g.cap, vI g.frm, vS g.p g.l.length]), (4, 1, [vI 0, vI 0, .slice none 0 0]), (5, 2, [vI u7.cap, vI u7.frm, vS u7.p u7.l.length])] ⟨rfl, rfl, rfl, rfl, rfl, trivial⟩ ⟨rfl, rfl, rfl, trivial⟩ rfl fun ρ0 ff => ?_
      have hw1 : g.frm ≤ n := h21.1
      have hw2 : n ≤ g.frm + (g.l.length : Int) := h21.2
      have hk3 : 0 ≤ g.frm ∧ g.frm ≤ 100000 := h9.2.2.1
      have hdl : (u7.l.drop (n - g.frm).toNat).length ≤ u7.l.length := by rw [List.length_drop]; omega
      refine cx_sound _ _ _ _ _ ?_
      refine op_nilK (z := 2) (f := cSV) rfl rfl rfl rfl (by decide) rfl ?_
      intro q25 s25 hO25 hP25 hN25
      refine ⟨_, rfl, ?_⟩
      refine ⟨_, op_ldo rfl rfl rfl rfl, ?_⟩
      refine ⟨_, rfl, ?_⟩
      refine ⟨_, op_ldo rfl rfl rfl rfl, ?_⟩
      have ew31 : IntKind.wrap .i64 (n - g.frm) = n - g.frm := wrap_i64 (by omega) (by omega)
      refine ⟨_, rfl, ?_⟩
      refine ⟨_, op_drop u7.l ((n - g.frm).toNat) rfl rfl rfl (congrArg (Value.int .i64) ew31) rfl rfl (by omega) (by omega), ?_⟩
      refine op_cat' (z := 2) (st := s25) (f := cSV) (b := 48) (l := []) (l2 := u7.l.drop (n - g.frm).toNat) rfl rfl rfl rfl rfl rfl rfl (by decide) len_cSV rfl rfl rfl rfl (by first | omega | (simp only [List.length_nil]; omega)) (by unfold maxLen; first | omega | (simp only [List.length_nil]; omega)) hO25 ((hP25.rows (hO7.rdL.1)).sh _) ?_
      intro q33 s33 hO33 hPr33 hN33
      refine ⟨_, rfl, ?_⟩
      refine ⟨_, op_sto rfl rfl rfl rfl rfl rfl rfl, ?_⟩
      refine AW.cutM (3) s33 [(1, vI n), (4, vL 4 0 (1)), (5, vL 5 0 (2))] [(4, 1, [vI 0, vI 0, .slice none 0 0]), (5, 2, [vI u7.cap, vI u7.frm, vS q33 (u7.l.drop (n - g.frm).toNat).length])] ⟨rfl, rfl, rfl, trivial⟩ ⟨rfl, rfl, trivial⟩ rfl fun ρ0 ff => ?_
      have ⟨hP9, hN9⟩ := copy_facts hP25 hN25 hPr33 hN33
      have hO9 := pcL_move hO7 (List.drop_sublist _ _) hP9 hO33 hN9
      have hN8 := newL_move hN7 (List.drop_sublist (n - g.frm).toNat _) (hN9.le hP7.1)
      have ⟨w, hw, hO, hN⟩ := lw_all hO9 u7.cap n
      refine ⟨_, rfl, ?_⟩
      refine ⟨_, op_sto rfl rfl rfl rfl rfl rfl rfl, ?_⟩
      refine AW.cutM (3) s33 [(4, vL 4 0 (1)), (5, vL 5 0 (2))] [(4, 1, [vI 0, vI 0, .slice none 0 0]), (5, 2, [vI u7.cap, vI n, vS q33 (u7.l.drop (n - g.frm).toNat).length])] ⟨rfl, rfl, trivial⟩ ⟨rfl, rfl, trivial⟩ rfl fun ρ0 ff => ?_
      refine ⟨_, op_ldo rfl rfl rfl rfl, ?_⟩
      refine ⟨_, op_sto rfl rfl rfl rfl rfl rfl rfl, ?_⟩
      refine cx_sound _ _ _ _ _ ?_
      exact ⟨.inl rfl, _, rfl, w, lw_val hw, by rw [hw, dropL, if_pos ⟨h9, hw1, by rw [hgl]; exact hw2⟩]; simp only [LV.x, List.map_drop, hx7.1, hx7.2.2], hO, hN _ hN8, hP7.trans hP9⟩
open Classical in
noncomputable def addL (g : Lg) (d : Sta) : Lg × Bool := if logOk g ∧ stateOk d ∧ g.frm + (g.list.length : Int) < 100000 then (if (g.list.length : Int) + 1 > g.cap then (⟨g.cap, g.frm + 1, (g.list ++ [d]).drop 1⟩, true) else (⟨g.cap, g.frm, g.list ++ [d]⟩, true)) else (g, false)
theorem logOk_add {g : Lg} {d : Sta} (hg : logOk g) (hd : stateOk d) : (logOk ⟨g.cap, g.frm + 1, (g.list ++ [d]).drop 1⟩ ↔ g.frm + (g.list.length : Int) < 100000) ∧ (¬ (g.list.length : Int) + 1 > g.cap → (logOk ⟨g.cap, g.frm, g.list ++ [d]⟩ ↔ g.frm + (g.list.length : Int) < 100000)) := by
  obtain ⟨h1, h2, h3, h4, h5⟩ := hg
  have hall : ∀ s ∈ g.list ++ [d], stateOk s := fun s hs => by
    rcases List.mem_append.1 hs with h | h
    · exact h5 s h
    · rw [List.mem_singleton.1 h]; exact hd
  have hl1 : (((g.list ++ [d]).drop 1).length : Int) = (g.list.length : Int) := by rw [List.length_drop, List.length_append, List.length_singleton]; omega
  have hl2 : ((g.list ++ [d]).length : Int) = (g.list.length : Int) + 1 := by rw [List.length_append, List.length_singleton]; omega
  refine ⟨⟨fun h => ?_, fun h => ⟨h1, ?_, ?_, ?_, fun s hs => hall s (List.mem_of_mem_drop hs)⟩⟩, fun hc => ⟨fun h => ?_, fun h => ⟨h1, ?_, h3, ?_, hall⟩⟩⟩
  · have := h.2.2.2.1; simp only at this; rw [hl1] at this; omega
  · simp only; rw [hl1]; exact h2
  · simp only; omega
  · simp only; rw [hl1]; omega
  · have := h.2.2.2.1; simp only at this; rw [hl2] at this; omega
  · simp only; rw [hl2]; omega
  · simp only; rw [hl2]; omega
theorem bigL_few {l : List SV} (h : l.length ≤ 1000) (hs : ∀ s ∈ l, bigS s.x) : bigL l := ⟨by unfold szOk; omega, hs⟩
theorem ac_impl_LogAdd (g : LV) (d : SV) (st : St) (hR : RdL st g.p g.l) (hD : RdS st d) (hb : bigL g.l) (hbd : bigS d.x) : C 40 [.agg #[vI g.cap, vI g.frm, vS g.p g.l.length], .agg #[vS d.p d.x.items.length, vS d.q d.x.floors.length]] st (fun v s => ∃ (u : LW) (b : Bool), v = .tuple #[.agg #[vI u.cap, vI u.frm, vS u.p u.l.length], vB b] ∧ (u.v.x, b) = addL g.x d.x ∧ OwnP s (pcLog u) ∧ NewP st.next (pcLog u) ∧ Pres st s) := by
  have hs : g.l.length ≤ 1048576 := hb.1
  have hgl : g.x.list.length = g.l.length := List.length_map _
  refine AC.enterX (i := ⟨[2, 3, 4, 6], [2, 3, 4, 6, 18, 24, 25, 28, 31, 34, 35, 38], [0, 1, 2, 3, 4, 5, 6, 16, 30, 41]⟩) [(4, [3, 4], [1])] Try.func40 rfl rfl (by kernel_rfl) (by kernel_rfl) Try.ntmps40 (Nat.le_of_ble_eq_true rfl) rfl ?_
  iterate 3 refine ⟨_, rfl, ?_⟩
  refine AW.cutM (3) st [(2, vL 2 0 (0)), (3, vL 3 0 (1)), (4, vL 4 0 (2)), (5, vB false)] [(2, 0, [vI g.cap, vI g.frm, vS g.p g.l.length]), (3, 1, [vS d.p d.x.items.length, vS d.q d.x.floors.length]), (4, 2, [vI 0, vI 0, .slice none 0 0])] ⟨rfl, rfl, rfl, rfl, trivial⟩ ⟨rfl, rfl, rfl, trivial⟩ rfl fun ρ0 ff => ?_
  refine ⟨_, op_ldo rfl rfl rfl rfl, ?_⟩
  refine ⟨_, rfl, (ac_impl_copyLog g st hR (by first | assumption | omega)).mono ?_⟩
  rintro _ s8 ⟨u8, rfl, h8, hO8, hN8, hP8⟩
  refine ⟨_, rfl, ?_⟩
  refine ⟨_, op_sto rfl rfl rfl rfl rfl rfl rfl, ?_⟩
  refine AW.cutM (4) s8 [(2, vL 2 0 (0)), (3, vL 3 0 (1)), (4, vL 4 0 (2)), (5, vB false), (6, vL 6 0 (3))] [(2, 0, [vI g.cap, vI g.frm, vS g.p g.l.length]), (3, 1, [vS d.p d.x.items.length, vS d.q d.x.floors.length]), (4, 2, [vI 0, vI 0, .slice none 0 0]), (6, 3, [vI u8.cap, vI u8.frm, vS u8.p u8.l.length])] ⟨rfl, rfl, rfl, rfl, rfl, trivial⟩ ⟨rfl, rfl, rfl, rfl, trivial⟩ rfl fun ρ0 ff => ?_
  have ⟨w0, hw0, hO0, hN0⟩ := lw_all hO8 u8.cap u8.frm
  have hx8 : u8.cap = g.cap ∧ u8.frm = g.frm ∧ u8.l.map (·.x) = g.l.map (·.x) := ⟨congrArg Lg.cap h8, congrArg Lg.frm h8, congrArg Lg.list h8⟩
  have hl8 : u8.l.length = g.l.length := by have := congrArg List.length hx8.2.2; simpa using this
  refine ⟨_, op_ldo rfl rfl rfl rfl, ?_⟩
  refine ⟨_, rfl, (ac_impl_LogOk g s8 (hR.pres hP8) (by first | assumption | omega)).mono ?_⟩
  rintro _ s8 ⟨x10, rfl, h10, rfl⟩
  rcases x10 with _|_
  · replace h10 := fun k => Bool.false_ne_true (h10.2 k)
    iterate 2 refine ⟨_, rfl, ?_⟩
    refine AW.cutM (4) s8 [(2, vL 2 0 (0)), (3, vL 3 0 (1)), (4, vL 4 0 (2)), (5, vB false), (6, vL 6 0 (3)), (16, vB true)] [(2, 0, [vI g.cap, vI g.frm, vS g.p g.l.length]), (3, 1, [vS d.p d.x.items.length, vS d.q d.x.floors.length]), (4, 2, [vI 0, vI 0, .slice none 0 0]), (6, 3, [vI u8.cap, vI u8.frm, vS u8.p u8.l.length])] ⟨rfl, rfl, rfl, rfl, rfl, rfl, trivial⟩ ⟨rfl, rfl, rfl, rfl, trivial⟩ rfl fun ρ0 ff => ?_
    refine ⟨_, op_ldo rfl rfl rfl rfl, ?_⟩
    refine ⟨_, op_sto rfl rfl rfl rfl rfl rfl rfl, ?_⟩
    refine cx_sound _ _ _ _ _ ?_
    exact ⟨.inl rfl, _, rfl, w0, false, congrArg (fun u => Value.tuple #[u, vB false]) (lw_val hw0), by rw [hw0, addL, if_neg (fun h => h10 h.1)]; exact congrArg (·, false) h8, hO0, hN0 _ hN8, hP8⟩
  · replace h10 := h10.1 rfl
    refine ⟨_, rfl, ?_⟩
    refine ⟨_, op_ldo rfl rfl rfl rfl, ?_⟩
    refine ⟨_, rfl, (ac_impl_StateOk d s8 (hD.pres hP8) (by first | assumption | omega)).mono ?_⟩
    rintro _ s8 ⟨x14, rfl, h14, rfl⟩
    rcases x14 with _|_
    · replace h14 := fun k => Bool.false_ne_true (h14.2 k)
      iterate 2 refine ⟨_, rfl, ?_⟩
      refine AW.cutM (4) s8 [(2, vL 2 0 (0)), (3, vL 3 0 (1)), (4, vL 4 0 (2)), (5, vB false), (6, vL 6 0 (3)), (16, vB true)] [(2, 0, [vI g.cap, vI g.frm, vS g.p g.l.length]), (3, 1, [vS d.p d.x.items.length, vS d.q d.x.floors.length]), (4, 2, [vI 0, vI 0, .slice none 0 0]), (6, 3, [vI u8.cap, vI u8.frm, vS u8.p u8.l.length])] ⟨rfl, rfl, rfl, rfl, rfl, rfl, trivial⟩ ⟨rfl, rfl, rfl, rfl, trivial⟩ rfl fun ρ0 ff => ?_
      refine ⟨_, op_ldo rfl rfl rfl rfl, ?_⟩
      refine ⟨_, op_sto rfl rfl rfl rfl rfl rfl rfl, ?_⟩
      refine cx_sound _ _ _ _ _ ?_
      exact ⟨.inl rfl, _, rfl, w0, false, congrArg (fun u => Value.tuple #[u, vB false]) (lw_val hw0), by rw [hw0, addL, if_neg (fun h => h14 h.2.1)]; exact congrArg (·, false) h8, hO0, hN0 _ hN8, hP8⟩
    · replace h14 := h14.1 rfl
      iterate 2 refine ⟨_, rfl, ?_⟩
      refine AW.cutM (4) s8 [(2, vL 2 0 (0)), (3, vL 3 0 (1)), (4, vL 4 0 (2)), (5, vB false), (6, vL 6 0 (3)), (16, vB false)] [(2, 0, [vI g.cap, vI g.frm, vS g.p g.l.length]), (3, 1, [vS d.p d.x.items.length, vS d.q d.x.floors.length]), (4, 2, [vI 0, vI 0, .slice none 0 0]), (6, 3, [vI u8.cap, vI u8.frm, vS u8.p u8.l.length])] ⟨rfl, rfl, rfl, rfl, rfl, rfl, trivial⟩ ⟨rfl, rfl, rfl, rfl, trivial⟩ rfl fun ρ0 ff => ?_
      have hk3 : 0 ≤ g.frm ∧ g.frm ≤ 100000 := h10.2.2.1
      have hk4 : g.frm + (g.l.length : Int) ≤ 100000 := by have := h10.2.2.2.1; rw [hgl] at this; exact this
      have hk5 : (g.l.length : Int) ≤ g.cap ∧ g.cap ≤ 8 := ⟨by have := h10.2.1; rw [hgl] at this; exact this, h10.1.2⟩
      refine cx_sound _ _ _ _ _ ?_
      refine ⟨_, rfl, ?_⟩
      refine ⟨_, op_ldo rfl rfl rfl rfl, ?_⟩
      refine ⟨ld_own rfl rfl rfl, ?_⟩
      refine ⟨_, op_ldo rfl rfl rfl rfl, ?_⟩
      refine ⟨_, rfl, (ac_impl_copyState d s8 (hD.pres hP8) (by first | assumption | omega)).mono ?_⟩
      rintro _ s21 ⟨u21, rfl, h21, hO21, hN21, hP21⟩
      refine ⟨hP21.2, ?_⟩
      refine op_one (z := 2) (a := (u21 : SV)) (f := cSV) rfl rfl rfl rfl rfl (by decide) rfl (Nat.le_of_ble_eq_true rfl) rfl rfl rfl ?_
      refine ⟨Pres.push.low hP21, ?_⟩
      refine op_snoc (z := 2) (st := s21) (f := cSV) (b := 48) (l := u8.l) (x := u21) rfl rfl rfl rfl rfl rfl rfl (by decide) len_cSV rfl rfl rfl (by omega) (by unfold maxLen; omega) ((hO8.pres hP21).louter) ?_
      intro q23 s23 hO23 hP23 hN23
      refine ⟨_, rfl, ?_⟩
      refine ⟨_, op_sto rfl rfl rfl rfl rfl rfl rfl, ?_⟩
      refine AW.cutM (4) s23 [(2, vL 2 0 (0)), (4, vL 4 0 (2)), (5, vB false), (6, vL 6 0 (3))] [(2, 0, [vI g.cap, vI g.frm, vS g.p g.l.length]), (4, 2, [vI 0, vI 0, .slice none 0 0]), (6, 3, [vI u8.cap, vI u8.frm, vS q23 (u8.l ++ [u21]).length])] ⟨rfl, rfl, rfl, rfl, trivial⟩ ⟨rfl, rfl, rfl, trivial⟩ rfl fun ρ0 ff => ?_
      have hO4 := pcL_snoc hO8 hP21 hO21 hN21 hP23 hO23 hN23
      have hN4 := newL_snoc hN8 (hN21.le hP8.1) (hN23.le (hP8.trans hP21).1)
      have hP4 := hP23.pres (hP8.trans hP21) (newL_p hN8)
      have hln : ((u8.l ++ [u21]).length : Int) = (g.l.length : Int) + 1 := by rw [List.length_append, List.length_singleton, hl8]; omega
      have hmx : (u8.l ++ [u21]).map (·.x) = g.l.map (·.x) ++ [d.x] := by rw [List.map_append, hx8.2.2, List.map_singleton, h21]
      have hb4 : bigL (u8.l ++ [u21]) := bigL_few (by omega) fun s hs => by
        rcases List.mem_append.1 hs with h | h
        · exact (bigL_of hx8.2.2 hb).2 s h
        · rw [List.mem_singleton.1 h, h21]; exact hbd
      have hbd4 : bigL (List.drop 1 (u8.l ++ [u21])) := bigL_few (by rw [List.length_drop]; omega) fun s hs => hb4.2 s (List.mem_of_mem_drop hs)
      have hadd := logOk_add h10 h14
      refine ⟨_, rfl, ?_⟩
      refine ⟨_, op_ldo rfl rfl rfl rfl, ?_⟩
      iterate 2 refine ⟨_, rfl, ?_⟩
      refine ⟨_, op_ldo rfl rfl rfl rfl, ?_⟩
      refine ⟨_, rfl, ?_⟩
      rintro (_|_) h30
      · replace h30 : ¬ (((u8.l ++ [u21]).length : Int) > g.cap) := of_decide_eq_false h30
        refine AW.cutM (4) s23 [(2, vL 2 0 (0)), (4, vL 4 0 (2)), (5, vB false), (6, vL 6 0 (3)), (30, vB false)] [(2, 0, [vI g.cap, vI g.frm, vS g.p g.l.length]), (4, 2, [vI 0, vI 0, .slice none 0 0]), (6, 3, [vI u8.cap, vI u8.frm, vS q23 (u8.l ++ [u21]).length])] ⟨rfl, rfl, rfl, rfl, rfl, trivial⟩ ⟨rfl, rfl, rfl, trivial⟩ rfl fun ρ0 ff => ?_
        have ⟨w, hw, hO, hN⟩ := lw_all hO4 u8.cap u8.frm
        have hwx : w.v.x = ⟨g.x.cap, g.x.frm, g.x.list ++ [d.x]⟩ := by rw [hw]; simp only [LV.x, hmx, hx8.1, hx8.2.1]
        refine cx_sound _ _ _ _ _ ?_
        refine ⟨_, op_ldo rfl rfl rfl rfl, ?_⟩
        refine ⟨_, rfl, (ac_impl_LogOk (⟨u8.cap, u8.frm, q23, u8.l ++ [u21]⟩ : LV) s23 (hO4.rdL) (by first | assumption | omega)).mono ?_⟩
        rintro _ s23 ⟨x40, rfl, h40, rfl⟩
        rcases x40 with _|_
        · replace h40 := fun k => Bool.false_ne_true (h40.2 k)
          refine ⟨_, rfl, ?_⟩
          refine AW.cutM (4) s23 [(2, vL 2 0 (0)), (4, vL 4 0 (2)), (5, vB false), (6, vL 6 0 (3)), (41, vB true)] [(2, 0, [vI g.cap, vI g.frm, vS g.p g.l.length]), (4, 2, [vI 0, vI 0, .slice none 0 0]), (6, 3, [vI u8.cap, vI u8.frm, vS q23 (u8.l ++ [u21]).length])] ⟨rfl, rfl, rfl, rfl, rfl, trivial⟩ ⟨rfl, rfl, rfl, trivial⟩ rfl fun ρ0 ff => ?_
          refine ⟨_, op_ldo rfl rfl rfl rfl, ?_⟩
          refine ⟨_, rfl, (ac_impl_copyLog g s23 (hR.pres hP4) (by first | assumption | omega)).mono ?_⟩
          rintro _ s43 ⟨u43, rfl, h43, hO43, hN43, hP43⟩
          refine ⟨_, op_sto rfl rfl rfl rfl rfl rfl rfl, ?_⟩
          refine cx_sound _ _ _ _ _ ?_
          have ⟨w9, hw9, hO9, hN9⟩ := lw_all hO43 u43.cap u43.frm
          have hP9 := hP4.trans hP43
          have hc : ¬ (g.x.list.length : Int) + 1 > g.x.cap := by rw [hgl]; clear hadd; show ¬ (g.l.length : Int) + 1 > g.cap; omega
          exact ⟨.inl rfl, _, rfl, w9, false, congrArg (fun u => Value.tuple #[u, vB false]) (lw_val hw9), by rw [hw9, addL, if_neg (fun h => h40 (by have h2 := (hadd.2 hc).2 h.2.2; rw [← hwx, hw] at h2; exact h2))]; exact congrArg (·, false) h43, hO9, hN9 _ (hN43.le hP4.1), hP9⟩
        · replace h40 := h40.1 rfl
          refine ⟨_, rfl, ?_⟩
          refine AW.cutM (4) s23 [(2, vL 2 0 (0)), (4, vL 4 0 (2)), (5, vB false), (6, vL 6 0 (3)), (41, vB false)] [(2, 0, [vI g.cap, vI g.frm, vS g.p g.l.length]), (4, 2, [vI 0, vI 0, .slice none 0 0]), (6, 3, [vI u8.cap, vI u8.frm, vS q23 (u8.l ++ [u21]).length])] ⟨rfl, rfl, rfl, rfl, rfl, trivial⟩ ⟨rfl, rfl, rfl, trivial⟩ rfl fun ρ0 ff => ?_
          refine cx_sound _ _ _ _ _ ?_
          refine ⟨_, op_ldo rfl rfl rfl rfl, ?_⟩
          refine ⟨_, op_sto rfl rfl rfl rfl rfl rfl rfl, ?_⟩
          refine cx_sound _ _ _ _ _ ?_
          have hc : ¬ (g.x.list.length : Int) + 1 > g.x.cap := by rw [hgl]; clear hadd; show ¬ (g.l.length : Int) + 1 > g.cap; omega
          exact ⟨.inl rfl, _, rfl, w, true, congrArg (fun u => Value.tuple #[u, vB true]) (lw_val hw), by rw [hwx, addL, if_pos ⟨h10, h14, (hadd.2 hc).1 (hwx ▸ (show logOk w.v.x by rw [hw]; exact h40))⟩, if_neg hc], hO, hN _ hN4, hP4⟩
      · replace h30 : ((u8.l ++ [u21]).length : Int) > g.cap := of_decide_eq_true h30
        refine AW.cutM (4) s23 [(2, vL 2 0 (0)), (4, vL 4 0 (2)), (5, vB false), (6, vL 6 0 (3)), (30, vB true)] [(2, 0, [vI g.cap, vI g.frm, vS g.p g.l.length]), (4, 2, [vI 0, vI 0, .slice none 0 0]), (6, 3, [vI u8.cap, vI u8.frm, vS q23 (u8.l ++ [u21]).length])] ⟨rfl, rfl, rfl, rfl, rfl, trivial⟩ ⟨rfl, rfl, rfl, trivial⟩ rfl fun ρ0 ff => ?_
        refine ⟨_, rfl, ?_⟩
        refine ⟨_, op_ldo rfl rfl rfl rfl, ?_⟩
        refine ⟨_, op_drop (u8.l ++ [u21]) 1 rfl rfl rfl rfl rfl rfl (by omega) (by omega), ?_⟩
        refine ⟨_, rfl, ?_⟩
        refine ⟨_, op_sto rfl rfl rfl rfl rfl rfl rfl, ?_⟩
        refine AW.cutM (4) s23 [(2, vL 2 0 (0)), (4, vL 4 0 (2)), (5, vB false), (6, vL 6 0 (3))] [(2, 0, [vI g.cap, vI g.frm, vS g.p g.l.length]), (4, 2, [vI 0, vI 0, .slice none 0 0]), (6, 3, [vI u8.cap, vI u8.frm, vS (shO q23 2 1) ((u8.l ++ [u21]).drop 1).length])] ⟨rfl, rfl, rfl, rfl, trivial⟩ ⟨rfl, rfl, rfl, trivial⟩ rfl fun ρ0 ff => ?_
        have ⟨w, hw, hO, hN⟩ := lw_drop hO4 u8.cap (u8.frm + 1) 1
        have hwx : w.v.x = ⟨g.x.cap, g.x.frm + 1, (g.x.list ++ [d.x]).drop 1⟩ := by rw [hw]; simp only [LV.x, List.map_drop, hmx, hx8.1, hx8.2.1]
        have hwr : RdL s23 (shO q23 2 1) (List.drop 1 (u8.l ++ [u21])) := ⟨(hO4.rdL.1).sh 1, fun s hs => hO4.rdL.2 s (List.mem_of_mem_drop hs)⟩
        refine ⟨_, rfl, ?_⟩
        refine ⟨_, op_ldo rfl rfl rfl rfl, ?_⟩
        have ew37 : IntKind.wrap .i64 (u8.frm + (1)) = u8.frm + (1) := wrap_i64 (by omega) (by omega)
        iterate 2 refine ⟨_, rfl, ?_⟩
        refine ⟨_, op_sto rfl rfl rfl rfl rfl rfl rfl, ?_⟩
        refine AW.cutM (4) s23 [(2, vL 2 0 (0)), (4, vL 4 0 (2)), (5, vB false), (6, vL 6 0 (3))] [(2, 0, [vI g.cap, vI g.frm, vS g.p g.l.length]), (4, 2, [vI 0, vI 0, .slice none 0 0]), (6, 3, [vI u8.cap, vI (u8.frm + (1)), vS (shO q23 2 1) ((u8.l ++ [u21]).drop 1).length])] ⟨rfl, rfl, rfl, rfl, trivial⟩ ⟨rfl, rfl, (show some (3, [vI u8.cap, vI (IntKind.wrap .i64 (u8.frm + (1))), vS (shO q23 2 1) ((u8.l ++ [u21]).drop 1).length]) = some (3, [vI u8.cap, vI (u8.frm + (1)), vS (shO q23 2 1) ((u8.l ++ [u21]).drop 1).length]) by rw [ew37]), trivial⟩ rfl fun ρ0 ff => ?_
        refine ⟨_, op_ldo rfl rfl rfl rfl, ?_⟩
        refine ⟨_, rfl, (ac_impl_LogOk (⟨u8.cap, u8.frm + (1), shO q23 2 1, (u8.l ++ [u21]).drop 1⟩ : LV) s23 (by first | assumption | omega) (by first | assumption | omega)).mono ?_⟩
        rintro _ s23 ⟨x40, rfl, h40, rfl⟩
        rcases x40 with _|_
        · replace h40 := fun k => Bool.false_ne_true (h40.2 k)
          refine ⟨_, rfl, ?_⟩
          refine AW.cutM (4) s23 [(2, vL 2 0 (0)), (4, vL 4 0 (2)), (5, vB false), (6, vL 6 0 (3)), (41, vB true)] [(2, 0, [vI g.cap, vI g.frm, vS g.p g.l.length]), (4, 2, [vI 0, vI 0, .slice none 0 0]), (6, 3, [vI u8.cap, vI (u8.frm + (1)), vS (shO q23 2 1) ((u8.l ++ [u21]).drop 1).length])] ⟨rfl, rfl, rfl, rfl, rfl, trivial⟩ ⟨rfl, rfl, rfl, trivial⟩ rfl fun ρ0 ff => ?_
          refine ⟨_, op_ldo rfl rfl rfl rfl, ?_⟩
          refine ⟨_, rfl, (ac_impl_copyLog g s23 (hR.pres hP4) (by first | assumption | omega)).mono ?_⟩
          rintro _ s43 ⟨u43, rfl, h43, hO43, hN43, hP43⟩
          refine ⟨_, op_sto rfl rfl rfl rfl rfl rfl rfl, ?_⟩
          refine cx_sound _ _ _ _ _ ?_
          have ⟨w9, hw9, hO9, hN9⟩ := lw_all hO43 u43.cap u43.frm
          have hP9 := hP4.trans hP43
          exact ⟨.inl rfl, _, rfl, w9, false, congrArg (fun u => Value.tuple #[u, vB false]) (lw_val hw9), by rw [hw9, addL, if_neg (fun h => h40 (by have h2 := hadd.1.2 h.2.2; rw [← hwx, hw] at h2; exact h2))]; exact congrArg (·, false) h43, hO9, hN9 _ (hN43.le hP4.1), hP9⟩
        · replace h40 := h40.1 rfl
          refine ⟨_, rfl, ?_⟩
          refine AW.cutM (4) s23 [(2, vL 2 0 (0)), (4, vL 4 0 (2)), (5, vB false), (6, vL 6 0 (3)), (41, vB false)] [(2, 0, [vI g.cap, vI g.frm, vS g.p g.l.length]), (4, 2, [vI 0, vI 0, .slice none 0 0]), (6, 3, [vI u8.cap, vI (u8.frm + (1)), vS (shO q23 2 1) ((u8.l ++ [u21]).drop 1).length])] ⟨rfl, rfl, rfl, rfl, rfl, trivial⟩ ⟨rfl, rfl, rfl, trivial⟩ rfl fun ρ0 ff => ?_
          refine cx_sound _ _ _ _ _ ?_
          refine ⟨_, op_ldo rfl rfl rfl rfl, ?_⟩
          refine ⟨_, op_sto rfl rfl rfl rfl rfl rfl rfl, ?_⟩
          refine cx_sound _ _ _ _ _ ?_
          have hc : (g.x.list.length : Int) + 1 > g.x.cap := by rw [hgl]; clear hadd; show (g.l.length : Int) + 1 > g.cap; omega
          exact ⟨.inl rfl, _, rfl, w, true, congrArg (fun u => Value.tuple #[u, vB true]) (lw_val hw), by rw [hwx, addL, if_pos ⟨h10, h14, hadd.1.1 (hwx ▸ (show logOk w.v.x by rw [hw]; exact h40))⟩, if_pos hc], hO, hN _ hN4, hP4⟩
theorem ac_spec_LogAdd (g : LV) (d : SV) (st : St) (hR : RdL st g.p g.l) (hD : RdS st d) (hb : bigL g.l) (hbd : bigS d.x) : C 39 [.agg #[vI g.cap, vI g.frm, vS g.p g.l.length], .agg #[vS d.p d.x.items.length, vS d.q d.x.floors.length]] st (fun v s => ∃ (u : LW) (b : Bool), v = .tuple #[.agg #[vI u.cap, vI u.frm, vS u.p u.l.length], vB b] ∧ (u.v.x, b) = addL g.x d.x ∧ OwnP s (pcLog u) ∧ NewP st.next (pcLog u) ∧ Pres st s) := by
  have hs : g.l.length ≤ 1048576 := hb.1
  have hgl : g.x.list.length = g.l.length := List.length_map _
  refine AC.enterX (i := ⟨[2, 3, 4, 6], [2, 3, 4, 6, 18, 20, 27, 33, 34, 37, 41, 45, 46, 49], [0, 1, 2, 3, 4, 5, 6, 25, 39]⟩) [(4, [3, 4], [1])] Try.func39 rfl rfl (by kernel_rfl) (by kernel_rfl) Try.ntmps39 (Nat.le_of_ble_eq_true rfl) rfl ?_
  iterate 3 refine ⟨_, rfl, ?_⟩
  refine AW.cutM (3) st [(2, vL 2 0 (0)), (3, vL 3 0 (1)), (4, vL 4 0 (2)), (5, vB false)] [(2, 0, [vI g.cap, vI g.frm, vS g.p g.l.length]), (3, 1, [vS d.p d.x.items.length, vS d.q d.x.floors.length]), (4, 2, [vI 0, vI 0, .slice none 0 0])] ⟨rfl, rfl, rfl, rfl, trivial⟩ ⟨rfl, rfl, rfl, trivial⟩ rfl fun ρ0 ff => ?_
  refine ⟨_, op_ldo rfl rfl rfl rfl, ?_⟩
  refine ⟨_, rfl, (ac_spec_l7Copy g st hR (by first | assumption | omega)).mono ?_⟩
  rintro _ s8 ⟨u8, rfl, h8, hO8, hN8, hP8⟩
  refine ⟨_, rfl, ?_⟩
  refine ⟨_, op_sto rfl rfl rfl rfl rfl rfl rfl, ?_⟩
  refine AW.cutM (4) s8 [(2, vL 2 0 (0)), (3, vL 3 0 (1)), (4, vL 4 0 (2)), (5, vB false), (6, vL 6 0 (3))] [(2, 0, [vI g.cap, vI g.frm, vS g.p g.l.length]), (3, 1, [vS d.p d.x.items.length, vS d.q d.x.floors.length]), (4, 2, [vI 0, vI 0, .slice none 0 0]), (6, 3, [vI u8.cap, vI u8.frm, vS u8.p u8.l.length])] ⟨rfl, rfl, rfl, rfl, rfl, trivial⟩ ⟨rfl, rfl, rfl, rfl, trivial⟩ rfl fun ρ0 ff => ?_
  have ⟨w0, hw0, hO0, hN0⟩ := lw_all hO8 u8.cap u8.frm
  have hx8 : u8.cap = g.cap ∧ u8.frm = g.frm ∧ u8.l.map (·.x) = g.l.map (·.x) := ⟨congrArg Lg.cap h8, congrArg Lg.frm h8, congrArg Lg.list h8⟩
  have hl8 : u8.l.length = g.l.length := by have := congrArg List.length hx8.2.2; simpa using this
  refine ⟨_, op_ldo rfl rfl rfl rfl, ?_⟩
  refine ⟨_, rfl, (ac_spec_LogOk g s8 (hR.pres hP8) (by first | assumption | omega)).mono ?_⟩
  rintro _ s8 ⟨x10, rfl, h10, rfl⟩
  rcases x10 with _|_
  · replace h10 := fun k => Bool.false_ne_true (h10.2 k)
    iterate 3 refine ⟨_, rfl, ?_⟩
    refine AW.cutM (4) s8 [(3, vL 3 0 (1)), (4, vL 4 0 (2)), (5, vB false), (6, vL 6 0 (3)), (25, vB true)] [(3, 1, [vS d.p d.x.items.length, vS d.q d.x.floors.length]), (4, 2, [vI 0, vI 0, .slice none 0 0]), (6, 3, [vI u8.cap, vI u8.frm, vS u8.p u8.l.length])] ⟨rfl, rfl, rfl, rfl, rfl, trivial⟩ ⟨rfl, rfl, rfl, trivial⟩ rfl fun ρ0 ff => ?_
    refine ⟨_, op_ldo rfl rfl rfl rfl, ?_⟩
    refine ⟨_, op_sto rfl rfl rfl rfl rfl rfl rfl, ?_⟩
    refine cx_sound _ _ _ _ _ ?_
    exact ⟨.inl rfl, _, rfl, w0, false, congrArg (fun u => Value.tuple #[u, vB false]) (lw_val hw0), by rw [hw0, addL, if_neg (fun h => h10 h.1)]; exact congrArg (·, false) h8, hO0, hN0 _ hN8, hP8⟩
  · replace h10 := h10.1 rfl
    refine ⟨_, rfl, ?_⟩
    refine ⟨_, op_ldo rfl rfl rfl rfl, ?_⟩
    refine ⟨_, rfl, (ac_spec_StateOk d s8 (hD.pres hP8) (by first | assumption | omega)).mono ?_⟩
    rintro _ s8 ⟨x14, rfl, h14, rfl⟩
    rcases x14 with _|_
    · replace h14 := fun k => Bool.false_ne_true (h14.2 k)
      iterate 3 refine ⟨_, rfl, ?_⟩
      refine AW.cutM (4) s8 [(3, vL 3 0 (1)), (4, vL 4 0 (2)), (5, vB false), (6, vL 6 0 (3)), (25, vB true)] [(3, 1, [vS d.p d.x.items.length, vS d.q d.x.floors.length]), (4, 2, [vI 0, vI 0, .slice none 0 0]), (6, 3, [vI u8.cap, vI u8.frm, vS u8.p u8.l.length])] ⟨rfl, rfl, rfl, rfl, rfl, trivial⟩ ⟨rfl, rfl, rfl, trivial⟩ rfl fun ρ0 ff => ?_
      refine ⟨_, op_ldo rfl rfl rfl rfl, ?_⟩
      refine ⟨_, op_sto rfl rfl rfl rfl rfl rfl rfl, ?_⟩
      refine cx_sound _ _ _ _ _ ?_
      exact ⟨.inl rfl, _, rfl, w0, false, congrArg (fun u => Value.tuple #[u, vB false]) (lw_val hw0), by rw [hw0, addL, if_neg (fun h => h14 h.2.1)]; exact congrArg (·, false) h8, hO0, hN0 _ hN8, hP8⟩
    · replace h14 := h14.1 rfl
      iterate 2 refine ⟨_, rfl, ?_⟩
      have hk3 : 0 ≤ g.frm ∧ g.frm ≤ 100000 := h10.2.2.1
      have hk4 : g.frm + (g.l.length : Int) ≤ 100000 := by have := h10.2.2.2.1; rw [hgl] at this; exact this
      have hk5 : (g.l.length : Int) ≤ g.cap ∧ g.cap ≤ 8 := ⟨by have := h10.2.1; rw [hgl] at this; exact this, h10.1.2⟩
      refine ⟨_, rfl, ?_⟩
      refine ⟨_, op_ldo rfl rfl rfl rfl, ?_⟩
      refine ⟨_, rfl, ?_⟩
      refine ⟨_, op_ldo rfl rfl rfl rfl, ?_⟩
      refine ⟨_, rfl, ?_⟩
      have ew23 : IntKind.wrap .i64 (g.frm + (g.l.length : Int)) = g.frm + (g.l.length : Int) := wrap_i64 (by omega) (by omega)
      iterate 2 refine ⟨_, rfl, ?_⟩
      rintro (_|_) h24
      · replace h24 : ¬ ((IntKind.wrap .i64 (g.frm + (g.l.length : Int))) = (100000)) := beq_eq_false_iff_ne.1 h24
        rw [ew23] at h24
        refine ⟨_, rfl, ?_⟩
        refine AW.cutM (4) s8 [(3, vL 3 0 (1)), (4, vL 4 0 (2)), (5, vB false), (6, vL 6 0 (3)), (25, vB false)] [(3, 1, [vS d.p d.x.items.length, vS d.q d.x.floors.length]), (4, 2, [vI 0, vI 0, .slice none 0 0]), (6, 3, [vI u8.cap, vI u8.frm, vS u8.p u8.l.length])] ⟨rfl, rfl, rfl, rfl, rfl, trivial⟩ ⟨rfl, rfl, rfl, trivial⟩ rfl fun ρ0 ff => ?_
        refine cx_sound _ _ _ _ _ ?_
        refine ⟨_, rfl, ?_⟩
        refine ⟨_, op_ldo rfl rfl rfl rfl, ?_⟩
        refine ⟨ld_own rfl rfl rfl, ?_⟩
        refine ⟨_, op_ldo rfl rfl rfl rfl, ?_⟩
        refine ⟨_, rfl, (ac_spec_l3Copy d s8 (hD.pres hP8) (by first | assumption | omega)).mono ?_⟩
        rintro _ s30 ⟨u30, rfl, h30, hO30, hN30, hP30⟩
        refine ⟨hP30.2, ?_⟩
        refine op_one (z := 2) (a := (u30 : SV)) (f := cSV) rfl rfl rfl rfl rfl (by decide) rfl (Nat.le_of_ble_eq_true rfl) rfl rfl rfl ?_
        refine ⟨Pres.push.low hP30, ?_⟩
        refine op_snoc (z := 2) (st := s30) (f := cSV) (b := 48) (l := u8.l) (x := u30) rfl rfl rfl rfl rfl rfl rfl (by decide) len_cSV rfl rfl rfl (by omega) (by unfold maxLen; omega) ((hO8.pres hP30).louter) ?_
        intro q32 s32 hO32 hP32 hN32
        refine ⟨_, rfl, ?_⟩
        refine ⟨_, op_sto rfl rfl rfl rfl rfl rfl rfl, ?_⟩
        refine AW.cutM (4) s32 [(4, vL 4 0 (2)), (5, vB false), (6, vL 6 0 (3))] [(4, 2, [vI 0, vI 0, .slice none 0 0]), (6, 3, [vI u8.cap, vI u8.frm, vS q32 (u8.l ++ [u30]).length])] ⟨rfl, rfl, rfl, trivial⟩ ⟨rfl, rfl, trivial⟩ rfl fun ρ0 ff => ?_
        have hO4 := pcL_snoc hO8 hP30 hO30 hN30 hP32 hO32 hN32
        have hN4 := newL_snoc hN8 (hN30.le hP8.1) (hN32.le (hP8.trans hP30).1)
        have hP4 := hP32.pres (hP8.trans hP30) (newL_p hN8)
        have hln : ((u8.l ++ [u30]).length : Int) = (g.l.length : Int) + 1 := by rw [List.length_append, List.length_singleton, hl8]; omega
        have hmx : (u8.l ++ [u30]).map (·.x) = g.l.map (·.x) ++ [d.x] := by rw [List.map_append, hx8.2.2, List.map_singleton, h30]
        have hdl : (List.drop 1 (u8.l ++ [u30])).length ≤ (u8.l ++ [u30]).length := by rw [List.length_drop]; omega
        have hlt : g.x.frm + (g.x.list.length : Int) < 100000 := by rw [hgl]; show g.frm + (g.l.length : Int) < 100000; omega
        refine ⟨_, rfl, ?_⟩
        refine ⟨_, op_ldo rfl rfl rfl rfl, ?_⟩
        iterate 2 refine ⟨_, rfl, ?_⟩
        refine ⟨_, op_ldo rfl rfl rfl rfl, ?_⟩
        refine ⟨_, rfl, ?_⟩
        rintro (_|_) h39
        · replace h39 : ¬ (((u8.l ++ [u30]).length : Int) > u8.cap) := of_decide_eq_false h39
          refine AW.cutM (4) s32 [(4, vL 4 0 (2)), (5, vB false), (6, vL 6 0 (3)), (39, vB false)] [(4, 2, [vI 0, vI 0, .slice none 0 0]), (6, 3, [vI u8.cap, vI u8.frm, vS q32 (u8.l ++ [u30]).length])] ⟨rfl, rfl, rfl, rfl, trivial⟩ ⟨rfl, rfl, trivial⟩ rfl fun ρ0 ff => ?_
          have ⟨w, hw, hO, hN⟩ := lw_all hO4 u8.cap u8.frm
          have hwx : w.v.x = ⟨g.x.cap, g.x.frm, g.x.list ++ [d.x]⟩ := by rw [hw]; simp only [LV.x, hmx, hx8.1, hx8.2.1]
          refine cx_sound _ _ _ _ _ ?_
          refine ⟨_, op_ldo rfl rfl rfl rfl, ?_⟩
          refine ⟨_, op_sto rfl rfl rfl rfl rfl rfl rfl, ?_⟩
          refine cx_sound _ _ _ _ _ ?_
          have hc : ¬ (g.x.list.length : Int) + 1 > g.x.cap := by rw [hgl]; show ¬ (g.l.length : Int) + 1 > g.cap; omega
          exact ⟨.inl rfl, _, rfl, w, true, congrArg (fun u => Value.tuple #[u, vB true]) (lw_val hw), by rw [hwx, addL, if_pos ⟨h10, h14, hlt⟩, if_neg hc], hO, hN _ hN4, hP4⟩
        · replace h39 : ((u8.l ++ [u30]).length : Int) > u8.cap := of_decide_eq_true h39
          refine AW.cutM (4) s32 [(4, vL 4 0 (2)), (5, vB false), (6, vL 6 0 (3)), (39, vB true)] [(4, 2, [vI 0, vI 0, .slice none 0 0]), (6, 3, [vI u8.cap, vI u8.frm, vS q32 (u8.l ++ [u30]).length])] ⟨rfl, rfl, rfl, rfl, trivial⟩ ⟨rfl, rfl, trivial⟩ rfl fun ρ0 ff => ?_
          refine op_nilK (z := 2) (f := cSV) rfl rfl rfl rfl (by decide) rfl ?_
          intro q40 s40 hO40 hP40 hN40
          refine ⟨_, rfl, ?_⟩
          refine ⟨_, op_ldo rfl rfl rfl rfl, ?_⟩
          refine ⟨_, op_drop (u8.l ++ [u30]) 1 rfl rfl rfl rfl rfl rfl (by omega) (by omega), ?_⟩
          refine op_cat' (z := 2) (st := s40) (f := cSV) (b := 48) (l := []) (l2 := List.drop 1 (u8.l ++ [u30])) rfl rfl rfl rfl rfl rfl rfl (by decide) len_cSV rfl rfl rfl rfl (by first | omega | (simp only [List.length_nil]; omega)) (by unfold maxLen; first | omega | (simp only [List.length_nil]; omega)) hO40 ((hP40.rows (hO4.rdL.1)).sh _) ?_
          intro q44 s44 hO44 hPr44 hN44
          refine ⟨_, rfl, ?_⟩
          refine ⟨_, op_sto rfl rfl rfl rfl rfl rfl rfl, ?_⟩
          refine AW.cutM (4) s44 [(4, vL 4 0 (2)), (5, vB false), (6, vL 6 0 (3))] [(4, 2, [vI 0, vI 0, .slice none 0 0]), (6, 3, [vI u8.cap, vI u8.frm, vS q44 (List.drop 1 (u8.l ++ [u30])).length])] ⟨rfl, rfl, rfl, trivial⟩ ⟨rfl, rfl, trivial⟩ rfl fun ρ0 ff => ?_
          have ⟨hP9, hN9⟩ := copy_facts hP40 hN40 hPr44 hN44
          have hO9 := pcL_move hO4 (List.drop_sublist _ _) hP9 hO44 hN9
          have hN8 := newL_move hN4 (List.drop_sublist 1 _) (hN9.le hP4.1)
          have hP5 := hP4.trans hP9
          have ⟨w, hw, hO, hN⟩ := lw_all hO9 u8.cap (u8.frm + 1)
          have hwx : w.v.x = ⟨g.x.cap, g.x.frm + 1, (g.x.list ++ [d.x]).drop 1⟩ := by rw [hw]; simp only [LV.x, List.map_drop, hmx, hx8.1, hx8.2.1]
          refine ⟨_, rfl, ?_⟩
          refine ⟨_, op_ldo rfl rfl rfl rfl, ?_⟩
          have ew48 : IntKind.wrap .i64 (u8.frm + (1)) = u8.frm + (1) := wrap_i64 (by omega) (by omega)
          iterate 2 refine ⟨_, rfl, ?_⟩
          refine ⟨_, op_sto rfl rfl rfl rfl rfl rfl rfl, ?_⟩
          refine AW.cutM (4) s44 [(4, vL 4 0 (2)), (5, vB false), (6, vL 6 0 (3))] [(4, 2, [vI 0, vI 0, .slice none 0 0]), (6, 3, [vI u8.cap, vI (u8.frm + (1)), vS q44 (List.drop 1 (u8.l ++ [u30])).length])] ⟨rfl, rfl, rfl, trivial⟩ ⟨rfl, (show some (3, [vI u8.cap, vI (IntKind.wrap .i64 (u8.frm + (1))), vS q44 (List.drop 1 (u8.l ++ [u30])).length]) = some (3, [vI u8.cap, vI (u8.frm + (1)), vS q44 (List.drop 1 (u8.l ++ [u30])).length]) by rw [ew48]), trivial⟩ rfl fun ρ0 ff => ?_
          refine ⟨_, op_ldo rfl rfl rfl rfl, ?_⟩
          refine ⟨_, op_sto rfl rfl rfl rfl rfl rfl rfl, ?_⟩
          refine cx_sound _ _ _ _ _ ?_
          have hc : (g.x.list.length : Int) + 1 > g.x.cap := by rw [hgl]; show (g.l.length : Int) + 1 > g.cap; omega
          exact ⟨.inl rfl, _, rfl, w, true, congrArg (fun u => Value.tuple #[u, vB true]) (lw_val hw), by rw [hwx, addL, if_pos ⟨h10, h14, hlt⟩, if_pos hc], hO, hN _ hN8, hP5⟩
      · replace h24 : (IntKind.wrap .i64 (g.frm + (g.l.length : Int))) = (100000) := beq_iff_eq.1 h24
        rw [ew23] at h24
        refine ⟨_, rfl, ?_⟩
        refine AW.cutM (4) s8 [(3, vL 3 0 (1)), (4, vL 4 0 (2)), (5, vB false), (6, vL 6 0 (3)), (25, vB true)] [(3, 1, [vS d.p d.x.items.length, vS d.q d.x.floors.length]), (4, 2, [vI 0, vI 0, .slice none 0 0]), (6, 3, [vI u8.cap, vI u8.frm, vS u8.p u8.l.length])] ⟨rfl, rfl, rfl, rfl, rfl, trivial⟩ ⟨rfl, rfl, rfl, trivial⟩ rfl fun ρ0 ff => ?_
        refine ⟨_, op_ldo rfl rfl rfl rfl, ?_⟩
        refine ⟨_, op_sto rfl rfl rfl rfl rfl rfl rfl, ?_⟩
        refine cx_sound _ _ _ _ _ ?_
        exact ⟨.inl rfl, _, rfl, w0, false, congrArg (fun u => Value.tuple #[u, vB false]) (lw_val hw0), by rw [hw0, addL, if_neg (fun h => by have h2 := h.2.2; rw [hgl] at h2; have h3 : g.frm + (g.l.length : Int) < 100000 := h2; omega)]; exact congrArg (·, false) h8, hO0, hN0 _ hN8, hP8⟩
end Go.Proofs.Ytopcpcoklgepnaa.AM
