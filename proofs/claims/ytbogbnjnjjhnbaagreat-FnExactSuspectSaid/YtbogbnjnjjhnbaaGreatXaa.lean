/- Part 1 of the texts on which the law's proof rests. -/
import Derived.Test.YtbogbnjnjjhnbaaGreatXcf
namespace Go.Proofs.YtbogbnjnjjhnbaaGreat.AM
open Go Go.Proofs
set_option linter.unusedVariables false
set_option linter.unusedSimpArgs false
set_option maxRecDepth 100000
set_option maxHeartbeats 4000000
abbrev upI (l : List Itm) : List Itm := l.filter fun x => decide (x.e.rank = 0)
open Classical in
noncomputable def viewF (s : Sta) : List Itm := if stateOk s then upI s.items else []
theorem view_big {s : Sta} (h : bigS s) : bigS ⟨viewF s, []⟩ := by
 unfold viewF
 split
 ·exact ⟨Nat.le_trans (List.length_filter_le _ _) h.1, Nat.zero_le _, fun x hx => h.2.2 x ((List.mem_filter.1 hx).1)⟩
 ·exact ⟨Nat.zero_le _, Nat.zero_le _, fun x hx => by cases hx⟩
noncomputable def lookF (s : Sta) (id : Int) : Ent × Bool := entP (viewF s) id
theorem ac_impl_View (s : SV) (st : St) (hR : RdS st s) (hb : bigS s.x) : C 131 [.agg #[vS s.p s.x.items.length, vS s.q s.x.floors.length]] st (fun v s' => ∃ q, v = vS q (viewF s.x).length ∧ OwnR s' 6 cItm q (viewF s.x) ∧ New st.next q ∧ Pres st s') := by
 have hs1 : s.x.items.length ≤ 1048576 := hb.1
 refine AC.enterX (i := ⟨[1, 5], [1, 5, 11, 18, 19], [0, 1, 2, 3, 5, 9, 12, 13, 14, 15, 21]⟩) [] Tryz.func131 rfl rfl (by kernel_rfl) (by kernel_rfl) Tryz.ntmps131 (Nat.le_of_ble_eq_true rfl) rfl ?_
 refine ⟨_, rfl, ?_⟩
 refine AW.cutM (1) st [(1, vL 1 0 (0)), (2, .slice none 0 0)] [(1, 0, [vS s.p s.x.items.length, vS s.q s.x.floors.length])] ⟨rfl, rfl, trivial⟩ ⟨rfl, trivial⟩ rfl fun ρ0 ff => ?_
 refine op_nilK (z := 6) (f := cItm) rfl rfl rfl rfl (by decide) rfl ?_
 intro q6 s6 hO6 hP6 hN6
 refine AW.cutM (1) s6 [(1, vL 1 0 (0)), (2, .slice none 0 0), (3, vS q6 0)] [(1, 0, [vS s.p s.x.items.length, vS s.q s.x.floors.length])] ⟨rfl, rfl, rfl, trivial⟩ ⟨rfl, trivial⟩ rfl fun ρ0 ff => ?_
 refine ⟨_, op_ldo rfl rfl rfl rfl, ?_⟩
 refine ⟨_, rfl, (ac_impl_StateOk s s6 (hR.pres hP6) (by first | assumption | omega)).mono ?_⟩
 rintro _ s6 ⟨x8, rfl, h8, rfl⟩
 rcases x8 with _|_
 ·replace h8 := fun k => Bool.false_ne_true (h8.2 k)
  refine ⟨_, rfl, ?_⟩
  refine AW.cutM (1) s6 [(1, vL 1 0 (0)), (2, .slice none 0 0), (3, vS q6 0), (9, vB true)] [(1, 0, [vS s.p s.x.items.length, vS s.q s.x.floors.length])] ⟨rfl, rfl, rfl, rfl, trivial⟩ ⟨rfl, trivial⟩ rfl fun ρ0 ff => ?_
  refine cxs ?_
  exact ⟨.inl rfl, _, rfl, q6, by rw [viewF, if_neg h8]; rfl, by rw [viewF, if_neg h8]; exact hO6, hN6, hP6⟩
 ·replace h8 := h8.1 rfl
  refine ⟨_, rfl, ?_⟩
  refine AW.cutM (1) s6 [(1, vL 1 0 (0)), (2, .slice none 0 0), (3, vS q6 0), (9, vB false)] [(1, 0, [vS s.p s.x.items.length, vS s.q s.x.floors.length])] ⟨rfl, rfl, rfl, rfl, trivial⟩ ⟨rfl, trivial⟩ rfl fun ρ0 ff => ?_
  refine cxs ?_
  refine ⟨_, rfl, ?_⟩
  refine ⟨_, op_ldo rfl rfl rfl rfl, ?_⟩
  refine ⟨_, rfl, ?_⟩
  refine AW.cutM (1) s6 [(2, .slice none 0 0), (3, vS q6 0), (12, vS s.p s.x.items.length), (13, vI (s.x.items.length : Int)), (14, vI (0))] [] ⟨rfl, rfl, rfl, rfl, rfl, trivial⟩ trivial rfl fun ρ0 ff => ?_
  refine AW.loopM (fun x : Nat × Option Addr × List Itm => [(2, .slice none 0 0), (3, vS x.2.1 x.2.2.length), (12, vS s.p s.x.items.length), (13, vI (s.x.items.length : Int)), (14, vI (x.1 : Int))]) (fun x : Nat × Option Addr × List Itm => []) (fun m (x : Nat × Option Addr × List Itm) st' => m = s.x.items.length - x.1 ∧ x.1 ≤ s.x.items.length ∧ x.2.2 = upI (s.x.items.take x.1) ∧ OwnR st' 6 cItm x.2.1 x.2.2 ∧ New st.next x.2.1 ∧ Pres st st') (0, q6, []) _ ⟨rfl, rfl, rfl, rfl, rfl, trivial⟩ trivial ⟨rfl, Nat.zero_le _, rfl, hO6, hN6, hP6⟩ ?_
  rintro m ⟨i, q, l⟩ ρ0 ff gg st' ⟨rfl, hi, hv, hO, hN, hP⟩
  simp only at hi hv hO hN
  have hll : l.length ≤ i := by rw [hv]; exact Nat.le_trans (List.length_filter_le _ _) (by rw [List.length_take]; omega)
  refine ⟨_, rfl, ?_⟩
  rintro (_|_) h15
  ·replace h15 : ¬ ((i : Int) < (s.x.items.length : Int)) := of_decide_eq_false h15
   refine AW.cutM (gg) st' [(2, .slice none 0 0), (3, vS q l.length), (12, vS s.p s.x.items.length), (13, vI (s.x.items.length : Int)), (14, vI (i : Int)), (15, vB false)] [] ⟨rfl, rfl, rfl, rfl, rfl, rfl, trivial⟩ trivial rfl fun ρ0 ff => ?_
   refine cxs ?_
   refine cxs ?_
   have hle : l = viewF s.x := by rw [hv, viewF, if_pos h8, List.take_of_length_le (by omega)]
   exact ⟨.inl rfl, _, rfl, q, by rw [← hle]; rfl, by rw [← hle]; exact hO, hN, hP⟩
  ·replace h15 : (i : Int) < (s.x.items.length : Int) := of_decide_eq_true h15
   refine AW.cutM (gg) st' [(2, .slice none 0 0), (3, vS q l.length), (12, vS s.p s.x.items.length), (13, vI (s.x.items.length : Int)), (14, vI (i : Int)), (15, vB true)] [] ⟨rfl, rfl, rfl, rfl, rfl, rfl, trivial⟩ trivial rfl fun ρ0 ff => ?_
   refine cxs ?_
   refine op_at i (hP.rows hR.1) (by omega) rfl rfl rfl rfl rfl rfl rfl ?_
   intro x16 b16 d16 k16 hy16 hb16 hm16 hc16 ho16
   refine ⟨_, op_lda rfl rfl rfl rfl rfl hm16 hc16 rfl, ?_⟩
   refine ⟨_, rfl, ?_⟩
   refine ⟨_, op_sto rfl rfl rfl rfl rfl rfl rfl, ?_⟩
   refine AW.cutM (gg + 1) st' [(2, .slice none 0 0), (3, vS q l.length), (5, vL 5 0 (gg)), (12, vS s.p s.x.items.length), (13, vI (s.x.items.length : Int)), (14, vI (i : Int)), (15, vB true)] [(5, gg, [vI x16.id, vI x16.e.inc, vI x16.e.rank, vI x16.e.beat, vI x16.e.ver, .string x16.e.data])] ⟨rfl, rfl, rfl, rfl, rfl, rfl, rfl, trivial⟩ ⟨rfl, trivial⟩ rfl fun ρ0 ff => ?_
   iterate 2 refine ⟨_, rfl, ?_⟩
   refine ⟨_, op_ldo rfl rfl rfl rfl, ?_⟩
   refine ⟨_, rfl, ?_⟩
   rintro (_|_) h21
   ·replace h21 : ¬ (x16.e.rank = (0)) := beq_eq_false_iff_ne.1 h21
    refine AW.cutM (gg + 1) st' [(2, .slice none 0 0), (3, vS q l.length), (5, vL 5 0 (gg)), (12, vS s.p s.x.items.length), (13, vI (s.x.items.length : Int)), (14, vI (i : Int)), (15, vB true), (21, vB false)] [(5, gg, [vI x16.id, vI x16.e.inc, vI x16.e.rank, vI x16.e.beat, vI x16.e.ver, .string x16.e.data])] ⟨rfl, rfl, rfl, rfl, rfl, rfl, rfl, rfl, trivial⟩ ⟨rfl, trivial⟩ rfl fun ρ0 ff => ?_
    refine cxs ?_
    have ew26 : IntKind.wrap .i64 ((i : Int) + (1)) = ((i + 1 : Nat) : Int) := (wrap_i64 (by omega) (by omega)).trans (by omega)
    refine ⟨_, rfl, ?_⟩
    exact ⟨(i + 1, q, l), s.x.items.length - (i + 1), by omega, ⟨rfl, rfl, rfl, rfl, congrArg (Value.int .i64) ew26, trivial⟩, trivial, rfl, by simp only; omega, by rw [show upI (s.x.items.take (i + 1)) = upI (s.x.items.take i) from filt_out hy16 (decide_eq_false h21)]; exact hv, hO, hN, hP⟩
   ·replace h21 : x16.e.rank = (0) := beq_iff_eq.1 h21
    refine AW.cutM (gg + 1) st' [(2, .slice none 0 0), (3, vS q l.length), (5, vL 5 0 (gg)), (12, vS s.p s.x.items.length), (13, vI (s.x.items.length : Int)), (14, vI (i : Int)), (15, vB true), (21, vB true)] [(5, gg, [vI x16.id, vI x16.e.inc, vI x16.e.rank, vI x16.e.beat, vI x16.e.ver, .string x16.e.data])] ⟨rfl, rfl, rfl, rfl, rfl, rfl, rfl, rfl, trivial⟩ ⟨rfl, trivial⟩ rfl fun ρ0 ff => ?_
    refine ⟨_, op_ldo rfl rfl rfl rfl, ?_⟩
    refine op_one (z := 6) (a := (x16 : Itm)) (f := cItm) rfl rfl rfl rfl rfl (by decide) rfl (Nat.le_of_ble_eq_true rfl) rfl rfl rfl ?_
    refine op_snoc (z := 6) (st := st') (f := cItm) (b := 56) (l := l) (x := x16) rfl rfl rfl rfl rfl rfl rfl (by decide) len_cItm rfl rfl rfl (by omega) (by unfold maxLen; omega) hO ?_
    intro q25 s25 hO25 hP25 hN25
    refine AW.cutM (gg + 1) s25 [(2, .slice none 0 0), (3, vS q25 (l ++ [x16]).length), (5, vL 5 0 (gg)), (12, vS s.p s.x.items.length), (13, vI (s.x.items.length : Int)), (14, vI (i : Int)), (15, vB true), (21, vB true)] [(5, gg, [vI x16.id, vI x16.e.inc, vI x16.e.rank, vI x16.e.beat, vI x16.e.ver, .string x16.e.data])] ⟨rfl, rfl, rfl, rfl, rfl, rfl, rfl, rfl, trivial⟩ ⟨rfl, trivial⟩ rfl fun ρ0 ff => ?_
    have ew26 : IntKind.wrap .i64 ((i : Int) + (1)) = ((i + 1 : Nat) : Int) := (wrap_i64 (by omega) (by omega)).trans (by omega)
    refine ⟨_, rfl, ?_⟩
    exact ⟨(i + 1, q25, l ++ [x16]), s.x.items.length - (i + 1), by omega, ⟨rfl, rfl, rfl, rfl, congrArg (Value.int .i64) ew26, trivial⟩, trivial, rfl, by simp only; omega, by rw [show upI (s.x.items.take (i + 1)) = upI (s.x.items.take i) ++ [x16] from filt_in hy16 (decide_eq_true h21), ← hv], hO25, hN25.le hP.1, hP25.pres hP hN⟩
theorem ac_spec_View (s : SV) (st : St) (hR : RdS st s) (hb : bigS s.x) : C 117 [.agg #[vS s.p s.x.items.length, vS s.q s.x.floors.length]] st (fun v s' => ∃ q, v = vS q (viewF s.x).length ∧ OwnR s' 6 cItm q (viewF s.x) ∧ New st.next q ∧ Pres st s') := by
 have hs1 : s.x.items.length ≤ 1048576 := hb.1
 refine AC.enterX (i := ⟨[1], [1, 11, 17, 26], [0, 1, 2, 3, 4, 8, 14, 24]⟩) [] Tryz.func117 rfl rfl (by kernel_rfl) (by kernel_rfl) Tryz.ntmps117 (Nat.le_of_ble_eq_true rfl) rfl ?_
 refine ⟨_, rfl, ?_⟩
 refine AW.cutM (1) st [(1, vL 1 0 (0)), (2, .slice none 0 0)] [(1, 0, [vS s.p s.x.items.length, vS s.q s.x.floors.length])] ⟨rfl, rfl, trivial⟩ ⟨rfl, trivial⟩ rfl fun ρ0 ff => ?_
 refine op_nilK (z := 6) (f := cItm) rfl rfl rfl rfl (by decide) rfl ?_
 intro q5 s5 hO5 hP5 hN5
 refine AW.cutM (1) s5 [(1, vL 1 0 (0)), (2, .slice none 0 0), (3, vS q5 0)] [(1, 0, [vS s.p s.x.items.length, vS s.q s.x.floors.length])] ⟨rfl, rfl, rfl, trivial⟩ ⟨rfl, trivial⟩ rfl fun ρ0 ff => ?_
 refine ⟨_, op_ldo rfl rfl rfl rfl, ?_⟩
 refine ⟨_, rfl, (ac_spec_StateOk s s5 (hR.pres hP5) (by first | assumption | omega)).mono ?_⟩
 rintro _ s5 ⟨x7, rfl, h7, rfl⟩
 rcases x7 with _|_
 ·replace h7 := fun k => Bool.false_ne_true (h7.2 k)
  refine ⟨_, rfl, ?_⟩
  refine AW.cutM (1) s5 [(1, vL 1 0 (0)), (2, .slice none 0 0), (3, vS q5 0), (8, vB true)] [(1, 0, [vS s.p s.x.items.length, vS s.q s.x.floors.length])] ⟨rfl, rfl, rfl, rfl, trivial⟩ ⟨rfl, trivial⟩ rfl fun ρ0 ff => ?_
  refine cxs ?_
  exact ⟨.inl rfl, _, rfl, q5, by rw [viewF, if_neg h7]; rfl, by rw [viewF, if_neg h7]; exact hO5, hN5, hP5⟩
 ·replace h7 := h7.1 rfl
  refine ⟨_, rfl, ?_⟩
  refine AW.cutM (1) s5 [(1, vL 1 0 (0)), (2, .slice none 0 0), (3, vS q5 0), (8, vB false)] [(1, 0, [vS s.p s.x.items.length, vS s.q s.x.floors.length])] ⟨rfl, rfl, rfl, rfl, trivial⟩ ⟨rfl, trivial⟩ rfl fun ρ0 ff => ?_
  refine cxs ?_
  refine AW.cutM (1) s5 [(1, vL 1 0 (0)), (2, .slice none 0 0), (3, vS q5 0), (4, vI (0))] [(1, 0, [vS s.p s.x.items.length, vS s.q s.x.floors.length])] ⟨rfl, rfl, rfl, rfl, trivial⟩ ⟨rfl, trivial⟩ rfl fun ρ0 ff => ?_
  refine AW.loopM (fun x : Nat × Option Addr × List Itm => [(1, vL 1 0 (0)), (2, .slice none 0 0), (3, vS x.2.1 x.2.2.length), (4, vI (x.1 : Int))]) (fun x : Nat × Option Addr × List Itm => [(1, 0, [vS s.p s.x.items.length, vS s.q s.x.floors.length])]) (fun m (x : Nat × Option Addr × List Itm) st' => m = s.x.items.length - x.1 ∧ x.1 ≤ s.x.items.length ∧ x.2.2 = upI (s.x.items.take x.1) ∧ OwnR st' 6 cItm x.2.1 x.2.2 ∧ New st.next x.2.1 ∧ Pres st st') (0, q5, []) _ ⟨rfl, rfl, rfl, rfl, trivial⟩ ⟨rfl, trivial⟩ ⟨rfl, Nat.zero_le _, rfl, hO5, hN5, hP5⟩ ?_
  rintro m ⟨i, q, l⟩ ρ0 ff gg st' ⟨rfl, hi, hv, hO, hN, hP⟩
  simp only at hi hv hO hN
  have hll : l.length ≤ i := by rw [hv]; exact Nat.le_trans (List.length_filter_le _ _) (by rw [List.length_take]; omega)
  refine ⟨_, rfl, ?_⟩
  refine ⟨_, op_ldo rfl rfl rfl rfl, ?_⟩
  iterate 2 refine ⟨_, rfl, ?_⟩
  rintro (_|_) h14
  ·replace h14 : ¬ ((i : Int) < (s.x.items.length : Int)) := of_decide_eq_false h14
   refine AW.cutM (gg) st' [(1, vL 1 0 (0)), (2, .slice none 0 0), (3, vS q l.length), (4, vI (i : Int)), (14, vB false)] [(1, 0, [vS s.p s.x.items.length, vS s.q s.x.floors.length])] ⟨rfl, rfl, rfl, rfl, rfl, trivial⟩ ⟨rfl, trivial⟩ rfl fun ρ0 ff => ?_
   refine cxs ?_
   refine cxs ?_
   have hle : l = viewF s.x := by rw [hv, viewF, if_pos h7, List.take_of_length_le (by omega)]
   exact ⟨.inl rfl, _, rfl, q, by rw [← hle]; rfl, by rw [← hle]; exact hO, hN, hP⟩
  ·replace h14 : (i : Int) < (s.x.items.length : Int) := of_decide_eq_true h14
   refine AW.cutM (gg) st' [(1, vL 1 0 (0)), (2, .slice none 0 0), (3, vS q l.length), (4, vI (i : Int)), (14, vB true)] [(1, 0, [vS s.p s.x.items.length, vS s.q s.x.floors.length])] ⟨rfl, rfl, rfl, rfl, rfl, trivial⟩ ⟨rfl, trivial⟩ rfl fun ρ0 ff => ?_
   refine cxs ?_
   refine ⟨_, rfl, ?_⟩
   refine ⟨_, op_ldo rfl rfl rfl rfl, ?_⟩
   refine op_at i (hP.rows hR.1) (by omega) rfl rfl rfl rfl rfl rfl rfl ?_
   intro x20 b20 d20 k20 hy20 hb20 hm20 hc20 ho20
   iterate 2 refine ⟨_, rfl, ?_⟩
   refine ⟨_, op_ldc (i := 2) rfl rfl rfl rfl hm20 hc20 rfl rfl, ?_⟩
   refine ⟨_, rfl, ?_⟩
   rintro (_|_) h24
   ·replace h24 : ¬ (x20.e.rank = (0)) := beq_eq_false_iff_ne.1 h24
    refine AW.cutM (gg) st' [(1, vL 1 0 (0)), (2, .slice none 0 0), (3, vS q l.length), (4, vI (i : Int)), (14, vB true), (24, vB false)] [(1, 0, [vS s.p s.x.items.length, vS s.q s.x.floors.length])] ⟨rfl, rfl, rfl, rfl, rfl, rfl, trivial⟩ ⟨rfl, trivial⟩ rfl fun ρ0 ff => ?_
    refine cxs ?_
    have ew16 : IntKind.wrap .i64 ((i : Int) + (1)) = ((i + 1 : Nat) : Int) := (wrap_i64 (by omega) (by omega)).trans (by omega)
    refine ⟨_, rfl, ?_⟩
    exact ⟨(i + 1, q, l), s.x.items.length - (i + 1), by omega, ⟨rfl, rfl, rfl, congrArg (Value.int .i64) ew16, trivial⟩, ⟨rfl, trivial⟩, rfl, by simp only; omega, by rw [show upI (s.x.items.take (i + 1)) = upI (s.x.items.take i) from filt_out hy20 (decide_eq_false h24)]; exact hv, hO, hN, hP⟩
   ·replace h24 : x20.e.rank = (0) := beq_iff_eq.1 h24
    refine AW.cutM (gg) st' [(1, vL 1 0 (0)), (2, .slice none 0 0), (3, vS q l.length), (4, vI (i : Int)), (14, vB true), (24, vB true)] [(1, 0, [vS s.p s.x.items.length, vS s.q s.x.floors.length])] ⟨rfl, rfl, rfl, rfl, rfl, rfl, trivial⟩ ⟨rfl, trivial⟩ rfl fun ρ0 ff => ?_
    refine ⟨_, rfl, ?_⟩
    refine ⟨_, op_ldo rfl rfl rfl rfl, ?_⟩
    refine op_el i (hP.rows hR.1) hy20 rfl rfl rfl rfl rfl rfl rfl ?_
    intro b29 d29 k29 hb29 hm29 hc29 ho29
    refine ⟨_, op_lda rfl rfl rfl rfl rfl hm29 hc29 rfl, ?_⟩
    refine op_one (z := 6) (a := (x20 : Itm)) (f := cItm) rfl rfl rfl rfl rfl (by decide) rfl (Nat.le_of_ble_eq_true rfl) rfl rfl rfl ?_
    refine op_snoc (z := 6) (st := st') (f := cItm) (b := 56) (l := l) (x := x20) rfl rfl rfl rfl rfl rfl rfl (by decide) len_cItm rfl rfl rfl (by omega) (by unfold maxLen; omega) hO ?_
    intro q32 s32 hO32 hP32 hN32
    refine AW.cutM (gg) s32 [(1, vL 1 0 (0)), (2, .slice none 0 0), (3, vS q32 (l ++ [x20]).length), (4, vI (i : Int)), (14, vB true), (24, vB true)] [(1, 0, [vS s.p s.x.items.length, vS s.q s.x.floors.length])] ⟨rfl, rfl, rfl, rfl, rfl, rfl, trivial⟩ ⟨rfl, trivial⟩ rfl fun ρ0 ff => ?_
    have ew16 : IntKind.wrap .i64 ((i : Int) + (1)) = ((i + 1 : Nat) : Int) := (wrap_i64 (by omega) (by omega)).trans (by omega)
    refine ⟨_, rfl, ?_⟩
    exact ⟨(i + 1, q32, l ++ [x20]), s.x.items.length - (i + 1), by omega, ⟨rfl, rfl, rfl, congrArg (Value.int .i64) ew16, trivial⟩, ⟨rfl, trivial⟩, rfl, by simp only; omega, by rw [show upI (s.x.items.take (i + 1)) = upI (s.x.items.take i) ++ [x20] from filt_in hy20 (decide_eq_true h24), ← hv], hO32, hN32.le hP.1, hP32.pres hP hN⟩
theorem ac_impl_Lookup (s : SV) (id : Int) (st : St) (hR : RdS st s) (hb : bigS s.x) : C 57 [.agg #[vS s.p s.x.items.length, vS s.q s.x.floors.length], vI id] st (fun v s' => ∃ e b, v = .tuple #[.agg #[vI e.inc, vI e.rank, vI e.beat, vI e.ver, .string e.data], vB b] ∧ (e, b) = lookF s.x id ∧ Pres st s') := by
 refine AC.enterX (i := ⟨[2, 4], [2, 4], [0, 1, 2, 4, 5]⟩) [] Tryz.func57 rfl rfl (by kernel_rfl) (by kernel_rfl) Tryz.ntmps57 (Nat.le_of_ble_eq_true rfl) rfl ?_
 iterate 2 refine ⟨_, rfl, ?_⟩
 refine AW.cutM (2) st [(1, vI id), (2, vL 2 0 (0)), (4, vL 4 0 (1)), (5, vB false)] [(2, 0, [vS s.p s.x.items.length, vS s.q s.x.floors.length]), (4, 1, [vI 0, vI 0, vI 0, vI 0, .string ⟨#[]⟩])] ⟨rfl, rfl, rfl, rfl, trivial⟩ ⟨rfl, rfl, trivial⟩ rfl fun ρ0 ff => ?_
 refine ⟨_, op_ldo rfl rfl rfl rfl, ?_⟩
 refine ⟨_, rfl, (ac_impl_View s st hR (by first | assumption | omega)).mono ?_⟩
 rintro _ s7 ⟨q7, rfl, hO7, hN7, hP7⟩
 refine ⟨_, rfl, ?_⟩
 refine ⟨_, rfl, (ac_impl_EntryOf ⟨q7, none, ⟨viewF s.x, []⟩⟩ id s7 ⟨hO7.rows len_cItm, Rows.nil⟩ (view_big hb)).mono ?_⟩
 rintro _ s7 ⟨e10, b10, rfl, h10, rfl⟩
 iterate 2 refine ⟨_, rfl, ?_⟩
 refine ⟨_, op_sto rfl rfl rfl rfl rfl rfl rfl, ?_⟩
 refine cxs ?_
 exact ⟨.inl rfl, _, rfl, e10, b10, rfl, h10, hP7⟩
theorem ac_spec_Lookup (s : SV) (id : Int) (st : St) (hR : RdS st s) (hb : bigS s.x) : C 48 [.agg #[vS s.p s.x.items.length, vS s.q s.x.floors.length], vI id] st (fun v s' => ∃ e b, v = .tuple #[.agg #[vI e.inc, vI e.rank, vI e.beat, vI e.ver, .string e.data], vB b] ∧ (e, b) = lookF s.x id ∧ Pres st s') := by
 refine AC.enterX (i := ⟨[2, 4], [2, 4], [0, 1, 2, 4, 5]⟩) [] Tryz.func48 rfl rfl (by kernel_rfl) (by kernel_rfl) Tryz.ntmps48 (Nat.le_of_ble_eq_true rfl) rfl ?_
 iterate 2 refine ⟨_, rfl, ?_⟩
 refine AW.cutM (2) st [(1, vI id), (2, vL 2 0 (0)), (4, vL 4 0 (1)), (5, vB false)] [(2, 0, [vS s.p s.x.items.length, vS s.q s.x.floors.length]), (4, 1, [vI 0, vI 0, vI 0, vI 0, .string ⟨#[]⟩])] ⟨rfl, rfl, rfl, rfl, trivial⟩ ⟨rfl, rfl, trivial⟩ rfl fun ρ0 ff => ?_
 refine ⟨_, op_ldo rfl rfl rfl rfl, ?_⟩
 refine ⟨_, rfl, (ac_spec_View s st hR (by first | assumption | omega)).mono ?_⟩
 rintro _ s7 ⟨q7, rfl, hO7, hN7, hP7⟩
 refine ⟨_, rfl, ?_⟩
 refine ⟨_, rfl, (ac_spec_EntryOf ⟨q7, none, ⟨viewF s.x, []⟩⟩ id s7 ⟨hO7.rows len_cItm, Rows.nil⟩ (view_big hb)).mono ?_⟩
 rintro _ s7 ⟨e10, b10, rfl, h10, rfl⟩
 iterate 2 refine ⟨_, rfl, ?_⟩
 refine ⟨_, op_sto rfl rfl rfl rfl rfl rfl rfl, ?_⟩
 refine cxs ?_
 exact ⟨.inl rfl, _, rfl, e10, b10, rfl, h10, hP7⟩
structure suspF (x : Nd) (id : Int) : Prop where
 ok : nodeOk x
 rng : 0 ≤ id ∧ id ≤ 4
 ne : ¬ id = x.id
 up : (lookF x.s id).2 = true
 late : ∃ r, x.rises[id.toNat]? = some r ∧ x.clock - r.tick > x.limit
theorem ac_impl_Suspect (g : NV) (id : Int) (st : St) (hR : RdN st g) (hb : bigN g.x) : C 13 [.agg #[vI g.id, vI g.n, vS g.s.p g.s.x.items.length, vS g.s.q g.s.x.floors.length, vS g.t.p g.t.l.length, vI g.t.root, vI g.g.cap, vI g.g.frm, vS g.g.p g.g.l.length, vS g.got.p g.got.l.length, vS g.acked.p g.acked.l.length, vS g.seen.p g.seen.t.length, vI g.num, vI g.slots, vS g.sess.p g.sess.l.length, vI g.wait, vI g.limit, vI g.clock, vS g.rises.p g.rises.l.length], vI id] st (fun v s => ∃ x, v = .bool x ∧ (x = true ↔ suspF g.x id) ∧ Pres st s) := by
 refine AC.enterX (i := ⟨[2, 5], [2, 5, 17, 22, 30, 32, 39], [0, 1, 2, 4, 6, 20]⟩) [(4, [], [])] Tryz.func13 rfl rfl (by kernel_rfl) (by kernel_rfl) Tryz.ntmps13 (Nat.le_of_ble_eq_true rfl) rfl ?_
 refine ⟨_, rfl, ?_⟩
 refine AW.cutM (1) st [(1, vI id), (2, vL 2 0 (0)), (4, vB false)] [(2, 0, cNV g)] ⟨rfl, rfl, rfl, trivial⟩ ⟨rfl, trivial⟩ rfl fun ρ0 ff => ?_
 refine ⟨_, op_ldo (v := (vNV g)) rfl rfl rfl rfl, ?_⟩
 refine ⟨_, rfl, (ac_impl_NodeOk g st hR (by first | assumption | omega)).mono ?_⟩
 rintro _ s8 ⟨x8, rfl, h8, hP8⟩
 rcases x8 with _|_
 ·replace h8 := fun k => Bool.false_ne_true (h8.2 k)
  iterate 3 refine ⟨_, rfl, ?_⟩
  refine AW.cutM (1) s8 [(1, vI id), (2, vL 2 0 (0)), (4, vB false), (20, vB true)] [(2, 0, cNV g)] ⟨rfl, rfl, rfl, rfl, trivial⟩ ⟨rfl, trivial⟩ rfl fun ρ0 ff => ?_
  refine cxs ?_
  exact ⟨.inl rfl, _, rfl, false, rfl, ⟨fun h => absurd h Bool.false_ne_true, fun h => (show False from (h8 h.ok)).elim⟩, hP8⟩
 ·replace h8 := h8.1 rfl
  refine ⟨_, rfl, ?_⟩
  refine ⟨_, rfl, (ac_impl_isNode id s8).mono ?_⟩
  rintro _ s8 ⟨x12, rfl, h12, rfl⟩
  rcases x12 with _|_
  ·replace h12 := of_decide_eq_false h12.symm
   iterate 3 refine ⟨_, rfl, ?_⟩
   refine AW.cutM (1) s8 [(1, vI id), (2, vL 2 0 (0)), (4, vB false), (20, vB true)] [(2, 0, cNV g)] ⟨rfl, rfl, rfl, rfl, trivial⟩ ⟨rfl, trivial⟩ rfl fun ρ0 ff => ?_
   refine cxs ?_
   exact ⟨.inl rfl, _, rfl, false, rfl, ⟨fun h => absurd h Bool.false_ne_true, fun h => (show False from (h12 h.rng)).elim⟩, hP8⟩
  ·replace h12 := of_decide_eq_true h12.symm
   iterate 3 refine ⟨_, rfl, ?_⟩
   refine ⟨_, op_ldo rfl rfl rfl rfl, ?_⟩
   refine ⟨_, rfl, ?_⟩
   rintro (_|_) h19
   ·replace h19 : ¬ (id = g.id) := beq_eq_false_iff_ne.1 h19
    refine ⟨_, rfl, ?_⟩
    refine AW.cutM (1) s8 [(1, vI id), (2, vL 2 0 (0)), (4, vB false), (20, vB false)] [(2, 0, cNV g)] ⟨rfl, rfl, rfl, rfl, trivial⟩ ⟨rfl, trivial⟩ rfl fun ρ0 ff => ?_
    refine cxs ?_
    refine ⟨_, rfl, ?_⟩
    refine ⟨_, op_ldo rfl rfl rfl rfl, ?_⟩
    refine ⟨_, rfl, (ac_impl_Lookup g.s id s8 (hR.s.pres hP8) (hb.s)).mono ?_⟩
    rintro _ s25 ⟨e25, b25, rfl, h25, hP25⟩
    rcases b25 with _|_
    ·iterate 3 refine ⟨_, rfl, ?_⟩
     refine ⟨_, op_sto rfl rfl rfl rfl rfl rfl rfl, ?_⟩
     refine AW.cutM (2) s25 [(1, vI id), (2, vL 2 0 (0)), (4, vB false), (6, vB false)] [(2, 0, cNV g)] ⟨rfl, rfl, rfl, rfl, trivial⟩ ⟨rfl, trivial⟩ rfl fun ρ0 ff => ?_
     refine ⟨_, rfl, ?_⟩
     refine cxs ?_
     exact ⟨.inl rfl, _, rfl, false, rfl, ⟨fun h => absurd h Bool.false_ne_true, fun h => (show False from (absurd h.up (by show ¬ (lookF g.s.x id).2 = true; rw [← h25]; exact Bool.false_ne_true))).elim⟩, hP8.trans hP25⟩
    ·iterate 3 refine ⟨_, rfl, ?_⟩
     refine ⟨_, op_sto rfl rfl rfl rfl rfl rfl rfl, ?_⟩
     refine AW.cutM (2) s25 [(1, vI id), (2, vL 2 0 (0)), (4, vB false), (6, vB true)] [(2, 0, cNV g)] ⟨rfl, rfl, rfl, rfl, trivial⟩ ⟨rfl, trivial⟩ rfl fun ρ0 ff => ?_
     refine ⟨_, rfl, ?_⟩
     refine ⟨_, op_ldo rfl rfl rfl rfl, ?_⟩
     refine ⟨_, rfl, ?_⟩
     refine ⟨_, op_ldo rfl rfl rfl rfl, ?_⟩
     have hrl : g.rises.l.length = 5 := h8.rises.1
     refine op_at ((id).toNat) ((hP8.trans hP25).rows hR.rises) (by omega) rfl rfl rfl rfl (by omega) rfl rfl ?_
     intro x35 b35 d35 k35 hy35 hb35 hm35 hc35 ho35
     refine ⟨_, rfl, ?_⟩
     refine ⟨_, op_ldc (i := 2) rfl rfl rfl rfl hm35 hc35 rfl rfl, ?_⟩
     have hc1 : 0 ≤ g.clock ∧ g.clock ≤ 100000 := h8.clock
     have hc2 : 0 ≤ x35.tick ∧ x35.tick ≤ g.clock := (h8.rises.2 _ _ hy35).2.2
     have ew38 : IntKind.wrap .i64 (g.clock - x35.tick) = g.clock - x35.tick := wrap_i64 (by omega) (by omega)
     iterate 2 refine ⟨_, rfl, ?_⟩
     refine ⟨_, op_ldo rfl rfl rfl rfl, ?_⟩
     refine ⟨_, rfl, ?_⟩
     rintro (_|_) h41
     ·replace h41 : ¬ ((IntKind.wrap .i64 (g.clock - x35.tick)) > g.limit) := of_decide_eq_false h41
      rw [ew38] at h41
      refine ⟨_, rfl, ?_⟩
      refine cxs ?_
      exact ⟨.inl rfl, _, rfl, false, rfl, ⟨fun h => absurd h Bool.false_ne_true, fun h => (show False from ((by obtain ⟨r, hr, hl⟩ := h.late; obtain rfl : x35 = r := Option.some.inj (hy35.symm.trans hr); exact h41 hl))).elim⟩, hP8.trans hP25⟩
     ·replace h41 : (IntKind.wrap .i64 (g.clock - x35.tick)) > g.limit := of_decide_eq_true h41
      rw [ew38] at h41
      refine ⟨_, rfl, ?_⟩
      refine cxs ?_
      exact ⟨.inl rfl, _, rfl, true, rfl, ⟨fun _ => ⟨h8, h12, h19, by show (lookF g.s.x id).2 = true; rw [← h25], x35, hy35, h41⟩, fun _ => rfl⟩, hP8.trans hP25⟩
   ·replace h19 : id = g.id := beq_iff_eq.1 h19
    refine ⟨_, rfl, ?_⟩
    refine AW.cutM (1) s8 [(1, vI id), (2, vL 2 0 (0)), (4, vB false), (20, vB true)] [(2, 0, cNV g)] ⟨rfl, rfl, rfl, rfl, trivial⟩ ⟨rfl, trivial⟩ rfl fun ρ0 ff => ?_
    refine cxs ?_
    exact ⟨.inl rfl, _, rfl, false, rfl, ⟨fun h => absurd h Bool.false_ne_true, fun h => (show False from (h.ne h19)).elim⟩, hP8⟩
theorem ac_spec_Suspect (g : NV) (id : Int) (st : St) (hR : RdN st g) (hb : bigN g.x) : C 11 [.agg #[vI g.id, vI g.n, vS g.s.p g.s.x.items.length, vS g.s.q g.s.x.floors.length, vS g.t.p g.t.l.length, vI g.t.root, vI g.g.cap, vI g.g.frm, vS g.g.p g.g.l.length, vS g.got.p g.got.l.length, vS g.acked.p g.acked.l.length, vS g.seen.p g.seen.t.length, vI g.num, vI g.slots, vS g.sess.p g.sess.l.length, vI g.wait, vI g.limit, vI g.clock, vS g.rises.p g.rises.l.length], vI id] st (fun v s => ∃ x, v = .bool x ∧ (x = true ↔ suspF g.x id) ∧ Pres st s) := by
 refine AC.enterX (i := ⟨[2, 5], [2, 5, 17, 22, 30, 32, 39], [0, 1, 2, 4, 6, 20]⟩) [(4, [], [])] Tryz.func11 rfl rfl (by kernel_rfl) (by kernel_rfl) Tryz.ntmps11 (Nat.le_of_ble_eq_true rfl) rfl ?_
 refine ⟨_, rfl, ?_⟩
 refine AW.cutM (1) st [(1, vI id), (2, vL 2 0 (0)), (4, vB false)] [(2, 0, cNV g)] ⟨rfl, rfl, rfl, trivial⟩ ⟨rfl, trivial⟩ rfl fun ρ0 ff => ?_
 refine ⟨_, op_ldo (v := (vNV g)) rfl rfl rfl rfl, ?_⟩
 refine ⟨_, rfl, (ac_spec_NodeOk g st hR (by first | assumption | omega)).mono ?_⟩
 rintro _ s8 ⟨x8, rfl, h8, hP8⟩
 rcases x8 with _|_
 ·replace h8 := fun k => Bool.false_ne_true (h8.2 k)
  iterate 3 refine ⟨_, rfl, ?_⟩
  refine AW.cutM (1) s8 [(1, vI id), (2, vL 2 0 (0)), (4, vB false), (20, vB true)] [(2, 0, cNV g)] ⟨rfl, rfl, rfl, rfl, trivial⟩ ⟨rfl, trivial⟩ rfl fun ρ0 ff => ?_
  refine cxs ?_
  exact ⟨.inl rfl, _, rfl, false, rfl, ⟨fun h => absurd h Bool.false_ne_true, fun h => (show False from (h8 h.ok)).elim⟩, hP8⟩
 ·replace h8 := h8.1 rfl
  refine ⟨_, rfl, ?_⟩
  refine ⟨_, rfl, (ac_spec_l3Node id s8).mono ?_⟩
  rintro _ s8 ⟨x12, rfl, h12, rfl⟩
  rcases x12 with _|_
  ·replace h12 := of_decide_eq_false h12.symm
   iterate 3 refine ⟨_, rfl, ?_⟩
   refine AW.cutM (1) s8 [(1, vI id), (2, vL 2 0 (0)), (4, vB false), (20, vB true)] [(2, 0, cNV g)] ⟨rfl, rfl, rfl, rfl, trivial⟩ ⟨rfl, trivial⟩ rfl fun ρ0 ff => ?_
   refine cxs ?_
   exact ⟨.inl rfl, _, rfl, false, rfl, ⟨fun h => absurd h Bool.false_ne_true, fun h => (show False from (h12 h.rng)).elim⟩, hP8⟩
  ·replace h12 := of_decide_eq_true h12.symm
   iterate 3 refine ⟨_, rfl, ?_⟩
   refine ⟨_, op_ldo rfl rfl rfl rfl, ?_⟩
   refine ⟨_, rfl, ?_⟩
   rintro (_|_) h19
   ·replace h19 : ¬ (id = g.id) := beq_eq_false_iff_ne.1 h19
    refine ⟨_, rfl, ?_⟩
    refine AW.cutM (1) s8 [(1, vI id), (2, vL 2 0 (0)), (4, vB false), (20, vB false)] [(2, 0, cNV g)] ⟨rfl, rfl, rfl, rfl, trivial⟩ ⟨rfl, trivial⟩ rfl fun ρ0 ff => ?_
    refine cxs ?_
    refine ⟨_, rfl, ?_⟩
    refine ⟨_, op_ldo rfl rfl rfl rfl, ?_⟩
    refine ⟨_, rfl, (ac_spec_Lookup g.s id s8 (hR.s.pres hP8) (hb.s)).mono ?_⟩
    rintro _ s25 ⟨e25, b25, rfl, h25, hP25⟩
    rcases b25 with _|_
    ·iterate 3 refine ⟨_, rfl, ?_⟩
     refine ⟨_, op_sto rfl rfl rfl rfl rfl rfl rfl, ?_⟩
     refine AW.cutM (2) s25 [(1, vI id), (2, vL 2 0 (0)), (4, vB false), (6, vB false)] [(2, 0, cNV g)] ⟨rfl, rfl, rfl, rfl, trivial⟩ ⟨rfl, trivial⟩ rfl fun ρ0 ff => ?_
     refine ⟨_, rfl, ?_⟩
     refine cxs ?_
     exact ⟨.inl rfl, _, rfl, false, rfl, ⟨fun h => absurd h Bool.false_ne_true, fun h => (show False from (absurd h.up (by show ¬ (lookF g.s.x id).2 = true; rw [← h25]; exact Bool.false_ne_true))).elim⟩, hP8.trans hP25⟩
    ·iterate 3 refine ⟨_, rfl, ?_⟩
     refine ⟨_, op_sto rfl rfl rfl rfl rfl rfl rfl, ?_⟩
     refine AW.cutM (2) s25 [(1, vI id), (2, vL 2 0 (0)), (4, vB false), (6, vB true)] [(2, 0, cNV g)] ⟨rfl, rfl, rfl, rfl, trivial⟩ ⟨rfl, trivial⟩ rfl fun ρ0 ff => ?_
     refine ⟨_, rfl, ?_⟩
     refine ⟨_, op_ldo rfl rfl rfl rfl, ?_⟩
     refine ⟨_, rfl, ?_⟩
     refine ⟨_, op_ldo rfl rfl rfl rfl, ?_⟩
     have hrl : g.rises.l.length = 5 := h8.rises.1
     refine op_at ((id).toNat) ((hP8.trans hP25).rows hR.rises) (by omega) rfl rfl rfl rfl (by omega) rfl rfl ?_
     intro x35 b35 d35 k35 hy35 hb35 hm35 hc35 ho35
     refine ⟨_, rfl, ?_⟩
     refine ⟨_, op_ldc (i := 2) rfl rfl rfl rfl hm35 hc35 rfl rfl, ?_⟩
     have hc1 : 0 ≤ g.clock ∧ g.clock ≤ 100000 := h8.clock
     have hc2 : 0 ≤ x35.tick ∧ x35.tick ≤ g.clock := (h8.rises.2 _ _ hy35).2.2
     have ew38 : IntKind.wrap .i64 (g.clock - x35.tick) = g.clock - x35.tick := wrap_i64 (by omega) (by omega)
     iterate 2 refine ⟨_, rfl, ?_⟩
     refine ⟨_, op_ldo rfl rfl rfl rfl, ?_⟩
     refine ⟨_, rfl, ?_⟩
     rintro (_|_) h41
     ·replace h41 : ¬ ((IntKind.wrap .i64 (g.clock - x35.tick)) > g.limit) := of_decide_eq_false h41
      rw [ew38] at h41
      refine ⟨_, rfl, ?_⟩
      refine cxs ?_
      exact ⟨.inl rfl, _, rfl, false, rfl, ⟨fun h => absurd h Bool.false_ne_true, fun h => (show False from ((by obtain ⟨r, hr, hl⟩ := h.late; obtain rfl : x35 = r := Option.some.inj (hy35.symm.trans hr); exact h41 hl))).elim⟩, hP8.trans hP25⟩
     ·replace h41 : (IntKind.wrap .i64 (g.clock - x35.tick)) > g.limit := of_decide_eq_true h41
      rw [ew38] at h41
      refine ⟨_, rfl, ?_⟩
      refine cxs ?_
      exact ⟨.inl rfl, _, rfl, true, rfl, ⟨fun _ => ⟨h8, h12, h19, by show (lookF g.s.x id).2 = true; rw [← h25], x35, hy35, h41⟩, fun _ => rfl⟩, hP8.trans hP25⟩
   ·replace h19 : id = g.id := beq_iff_eq.1 h19
    refine ⟨_, rfl, ?_⟩
    refine AW.cutM (1) s8 [(1, vI id), (2, vL 2 0 (0)), (4, vB false), (20, vB true)] [(2, 0, cNV g)] ⟨rfl, rfl, rfl, rfl, trivial⟩ ⟨rfl, trivial⟩ rfl fun ρ0 ff => ?_
    refine cxs ?_
    exact ⟨.inl rfl, _, rfl, false, rfl, ⟨fun h => absurd h Bool.false_ne_true, fun h => (show False from (h.ne h19)).elim⟩, hP8⟩
theorem bigNW {u : NW} (h : bigN u.x) : bigN u.v.x := h
theorem ac_laws_FnExactSuspect (g : NV) (i : Int) (st : St) (hR_g : RdN st g ∧ maxN g) (hw_i : (Lit.int .i64 i).wf = true) : C 3 [.agg #[vI g.id, vI g.n, vS g.s.p g.s.x.items.length, vS g.s.q g.s.x.floors.length, vS g.t.p g.t.l.length, vI g.t.root, vI g.g.cap, vI g.g.frm, vS g.g.p g.g.l.length, vS g.got.p g.got.l.length, vS g.acked.p g.acked.l.length, vS g.seen.p g.seen.t.length, vI g.num, vI g.slots, vS g.sess.p g.sess.l.length, vI g.wait, vI g.limit, vI g.clock, vS g.rises.p g.rises.l.length], vI i] st (fun v s => v = vB true) := by
 refine AC.enterX (i := ⟨[2, 7], [2, 7], [0, 1, 2, 4, 5, 6, 7, 8, 13, 25, 30]⟩) [(10, [2], [0])] Tryz.func3 rfl rfl (by kernel_rfl) (by kernel_rfl) Tryz.ntmps3 (Nat.le_of_ble_eq_true rfl) rfl ?_
 refine ⟨_, rfl, ?_⟩
 refine cxs ?_
 refine AW.cutM (1) st [(1, vI i), (2, vL 2 0 (0)), (4, vB false), (5, vI (1048576))] [(2, 0, cNV g)] ⟨rfl, rfl, rfl, rfl, trivial⟩ ⟨rfl, trivial⟩ rfl fun ρ0 ff => ?_
 refine ⟨_, op_ldo (v := (vNV g)) rfl rfl rfl rfl, ?_⟩
 refine ⟨_, rfl, (ac_laws_szNode g 1048576 st hR_g.1 (by decide) (by decide) hR_g.2).mono ?_⟩
 rintro _ st ⟨z_g, rfl, hr_g, hz_g, rfl⟩
 refine AW.cutM (1) st [(1, vI i), (2, vL 2 0 (0)), (4, vB false), (5, vI z_g)] [(2, 0, cNV g)] ⟨rfl, rfl, rfl, rfl, trivial⟩ ⟨rfl, trivial⟩ rfl fun ρ0 ff => ?_
 refine ⟨_, rfl, ?_⟩
 rintro (_|_) hn_g
 ·replace hn_g : ¬ (z_g < 0) := of_decide_eq_false hn_g
  refine AW.cutM (1) st [(1, vI i), (2, vL 2 0 (0)), (4, vB false), (13, vB false)] [(2, 0, cNV g)] ⟨rfl, rfl, rfl, rfl, trivial⟩ ⟨rfl, trivial⟩ rfl fun ρ0 ff => ?_
  have hz_g' := hz_g (by omega)
  have hb_g := sz_bigN (v := g) (by omega)
  have hc_g : cntNode g.x ≤ 8388608 := (cnt_Node (v := g) (by omega))
  refine cxs ?_
  refine ⟨_, op_ldo (v := (vNV g)) rfl rfl rfl rfl, ?_⟩
  refine ⟨_, rfl, (ac_laws_toNode g st hR_g.1 hb_g).mono ?_⟩
  rintro _ s1 ⟨u1, rfl, hu1, hO1, hN1, hP1⟩
  refine ⟨_, rfl, (ac_spec_Suspect u1.v i s1 (OwnP.rdN (OwnP.left (OwnP.joinF OwnP.nil hP1 hO1 hN1))) (bigNW (hu1 ▸ hb_g))).mono ?_⟩
  rintro _ s2 ⟨b2, rfl, hr2, hP2⟩
  refine AW.cutM (1) s2 [(1, vI i), (2, vL 2 0 (0)), (4, vB false), (6, vB b2)] [(2, 0, cNV g)] ⟨rfl, rfl, rfl, rfl, trivial⟩ ⟨rfl, trivial⟩ rfl fun ρ0 ff => ?_
  have hA5 : OwnP s2 (pcNW u1 ++ []) := (OwnP.pres (OwnP.joinF OwnP.nil hP1 hO1 hN1) hP2)
  have hQ5 : Pres st s2 := (hP1.trans hP2)
  refine ⟨_, op_ldo (v := (vNV g)) rfl rfl rfl rfl, ?_⟩
  refine ⟨_, rfl, (ac_laws_toNode g s2 (hR_g.1.pres hQ5) hb_g).mono ?_⟩
  rintro _ s3 ⟨u3, rfl, hu3, hO3, hN3, hP3⟩
  refine ⟨_, rfl, ?_⟩
  refine ⟨_, op_stw (vs := cNV u3.v) rfl rfl rfl rfl rfl rfl rfl rfl, ?_⟩
  refine AW.cutM (2) s3 [(1, vI i), (2, vL 2 0 (0)), (4, vB false), (6, vB b2), (7, vL 7 0 (1))] [(2, 0, cNV g), (7, 1, cNV u3.v)] ⟨rfl, rfl, rfl, rfl, rfl, trivial⟩ ⟨rfl, rfl, trivial⟩ rfl fun ρ0 ff => ?_
  have hA6 : OwnP s3 (pcNW u3 ++ (pcNW u1 ++ [])) := (OwnP.joinF hA5 hP3 hO3 hN3)
  have hQ6 : Pres st s3 := (hQ5.trans hP3)
  refine ⟨_, op_ldo (v := (vNV u3.v)) rfl rfl rfl rfl, ?_⟩
  refine ⟨_, rfl, (ac_impl_Suspect u3.v i s3 (OwnP.rdN (OwnP.left hA6)) (bigNW (hu3 ▸ hb_g))).mono ?_⟩
  rintro _ s4 ⟨b4, rfl, hr4, hP4⟩
  refine AW.cutM (2) s4 [(2, vL 2 0 (0)), (4, vB false), (6, vB b2), (7, vL 7 0 (1)), (8, vB b4)] [(2, 0, cNV g), (7, 1, cNV u3.v)] ⟨rfl, rfl, rfl, rfl, rfl, trivial⟩ ⟨rfl, rfl, trivial⟩ rfl fun ρ0 ff => ?_
  have hA7 : OwnP s4 (pcNW u3 ++ (pcNW u1 ++ [])) := (OwnP.pres hA6 hP4)
  have hQ7 : Pres st s4 := (hQ6.trans hP4)
  have hE1 : b4 = b2 := by exact bool_iff hr4 (by rw [show u3.v.x = _ from hu3, ← hu1]; exact hr2)
  refine ⟨_, rfl, ?_⟩
  rintro (_|_) he5
  rotate_left
  ·exact absurd (hE1) (b_ne he5)
  refine AW.cutM (2) s4 [(2, vL 2 0 (0)), (4, vB false), (7, vL 7 0 (1)), (25, vB false)] [(2, 0, cNV g), (7, 1, cNV u3.v)] ⟨rfl, rfl, rfl, rfl, trivial⟩ ⟨rfl, rfl, trivial⟩ rfl fun ρ0 ff => ?_
  refine cxs ?_
  refine ⟨_, op_ldo (v := (vNV u3.v)) rfl rfl rfl rfl, ?_⟩
  refine ⟨ld_own rfl rfl rfl, ?_⟩
  refine ⟨_, op_ldo (v := (vNV g)) rfl rfl rfl rfl, ?_⟩
  refine ⟨_, rfl, (ac_laws_toNode g s4 (hR_g.1.pres hQ7) hb_g).mono ?_⟩
  rintro _ s6 ⟨u6, rfl, hu6, hO6, hN6, hP6⟩
  refine ⟨hP6.2, ?_⟩
  refine ⟨_, rfl, (AC.tru (uc_eqNode u3 u6 s6 (OwnP.rdN (OwnP.left (OwnP.right (OwnP.joinF hA7 hP6 hO6 hN6)))) (OwnP.rdN (OwnP.left (OwnP.joinF hA7 hP6 hO6 hN6))) (hu3 ▸ hb_g)) (hu3.trans hu6.symm)).mono ?_⟩
  rintro _ s6 ⟨rfl, rfl⟩
  refine ⟨_, rfl, ?_⟩
  refine AW.cutM (2) s6 [(4, vB false), (30, vB false)] [] ⟨rfl, rfl, trivial⟩ trivial rfl fun ρ0 ff => ?_
  have hA10 : OwnP s6 (pcNW u6 ++ (pcNW u3 ++ (pcNW u1 ++ []))) := (OwnP.joinF hA7 hP6 hO6 hN6)
  have hQ10 : Pres st s6 := (hQ7.trans hP6)
  refine cxs ?_
  refine cxs ?_
  exact ⟨.inl rfl, _, rfl, rfl⟩
 ·replace hn_g : z_g < 0 := of_decide_eq_true hn_g
  refine AW.cutM (1) st [(1, vI i), (2, vL 2 0 (0)), (4, vB false), (13, vB true)] [(2, 0, cNV g)] ⟨rfl, rfl, rfl, rfl, trivial⟩ ⟨rfl, trivial⟩ rfl fun ρ0 ff => ?_
  refine cxs ?_
  exact ⟨.inl rfl, _, rfl, rfl⟩
end Go.Proofs.YtbogbnjnjjhnbaaGreat.AM
