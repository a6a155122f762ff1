/- Part 1 of the texts on which the law's proof rests. -/
import Derived.Test.YtbogbnjnjjhnbaaGreatXcf
namespace Go.Proofs.YtbogbnjnjjhnbaaGreat.AM
open Go Go.Proofs
set_option linter.unusedVariables false
set_option linter.unusedSimpArgs false
set_option maxRecDepth 100000
set_option maxHeartbeats 4000000
abbrev upI (l : List Itm) : List Itm := l.filter fun x => decide (x.e.rank = 0)
open Classical in
noncomputable def viewF (s : Sta) : List Itm := if stateOk s then upI s.items else []
theorem view_big {s : Sta} (h : bigS s) : bigS ⟨viewF s, []⟩ := by
 unfold viewF
 split
 ·exact ⟨Nat.le_trans (List.length_filter_le _ _) h.1, Nat.zero_le _, fun x hx => h.2.2 x ((List.mem_filter.1 hx).1)⟩
 ·exact ⟨Nat.zero_le _, Nat.zero_le _, fun x hx => by cases hx⟩
noncomputable def lookF (s : Sta) (id : Int) : Ent × Bool := entP (viewF s) id
theorem ac_impl_View (s : SV) (st : St) (hR : RdS st s) (hb : bigS s.x) : C 131 [.agg #[vS s.p s.x.items.length, vS s.q s.x.floors.length]] st (fun v s' => ∃ q, v = vS q (viewF s.x).length ∧ OwnR s' 6 cItm q (viewF s.x) ∧ New st.next q ∧ Pres st s') := by
 have hs1 : s.x.items.length ≤ 1048576 := hb.1
 refine AC.enterX (i := ⟨[1, 5], [1, 5, 11, 18, 19], [0, 1, 2, 3, 5, 9, 12, 13, 14, 15, 21]⟩) [] Tryz.func131 rfl rfl (by kernel_rfl) (by kernel_rfl) Tryz.ntmps131 (Nat.le_of_ble_eq_true rfl) rfl ?_
 refine ⟨_, rfl, ?_⟩
 refine AW.cutM (1) st [(1, vL 1 0 (0)), (2, .slice none 0 0)] [(1, 0, [vS s.p s.x.items.length, vS s.q s.x.floors.length])] ⟨rfl, rfl, trivial⟩ ⟨rfl, trivial⟩ rfl fun ρ0 ff => ?_
 refine op_nilK (z := 6) (f := cItm) rfl rfl rfl rfl (by decide) rfl ?_
 intro q6 s6 hO6 hP6 hN6
 refine AW.cutM (1) s6 [(1, vL 1 0 (0)), (2, .slice none 0 0), (3, vS q6 0)] [(1, 0, [vS s.p s.x.items.length, vS s.q s.x.floors.length])] ⟨rfl, rfl, rfl, trivial⟩ ⟨rfl, trivial⟩ rfl fun ρ0 ff => ?_
 refine ⟨_, op_ldo rfl rfl rfl rfl, ?_⟩
 refine ⟨_, rfl, (ac_impl_StateOk s s6 (hR.pres hP6) (by first | assumption | omega)).mono ?_⟩
 rintro _ s6 ⟨x8, rfl, h8, rfl⟩
 rcases x8 with _|_
 ·replace h8 := fun k => Bool.false_ne_true (h8.2 k)
  refine ⟨_, rfl, ?_⟩
  refine AW.cutM (1) s6 [(1, vL 1 0 (0)), (2, .slice none 0 0), (3, vS q6 0), (9, vB true)] [(1, 0, [vS s.p s.x.items.length, vS s.q s.x.floors.length])] ⟨rfl, rfl, rfl, rfl, trivial⟩ ⟨rfl, trivial⟩ rfl fun ρ0 ff => ?_
  refine cxs ?_
  exact ⟨.inl rfl, _, rfl, q6, by rw [viewF, if_neg h8]; rfl, by rw [viewF, if_neg h8]; exact hO6, hN6, hP6⟩
 ·replace h8 := h8.1 rfl
  refine ⟨_, rfl, ?_⟩
  refine AW.cutM (1) s6 [(1, vL 1 0 (0)), (2, .slice none 0 0), (3, vS q6 0), (9, vB false)] [(1, 0, [vS s.p s.x.items.length, vS s.q s.x.floors.length])] ⟨rfl, rfl, rfl, rfl, trivial⟩ ⟨rfl, trivial⟩ rfl fun ρ0 ff => ?_
  refine cxs ?_
  refine ⟨_, rfl, ?_⟩
  refine ⟨_, op_ldo rfl rfl rfl rfl, ?_⟩
  refine ⟨_, rfl, ?_⟩
  refine AW.cutM (1) s6 [(2, .slice none 0 0), (3, vS q6 0), (12, vS s.p s.x.items.length), (13, vI (s.x.items.length : Int)), (14, vI (0))] [] ⟨rfl, rfl, rfl, rfl, rfl, trivial⟩ trivial rfl fun ρ0 ff => ?_
  refine AW.loopM (fun x : Nat × Option Addr × List Itm => [(2, .slice none 0 0), (3, vS x.2.1 x.2.2.length), (12, vS s.p s.x.items.length), (13, vI (s.x.items.length : Int)), (14, vI (x.1 : Int))]) (fun x : Nat × Option Addr × List Itm => []) (fun m (x : Nat × Option Addr × List Itm) st' => m = s.x.items.length - x.1 ∧ x.1 ≤ s.x.items.length ∧ x.2.2 = upI (s.x.items.take x.1) ∧ OwnR st' 6 cItm x.2.1 x.2.2 ∧ New st.next x.2.1 ∧ Pres st st') (0, q6, []) _ ⟨rfl, rfl, rfl, rfl, rfl, trivial⟩ trivial ⟨rfl, Nat.zero_le _, rfl, hO6, hN6, hP6⟩ ?_
  rintro m ⟨i, q, l⟩ ρ0 ff gg st' ⟨rfl, hi, hv, hO, hN, hP⟩
  simp only at hi hv hO hN
  have hll : l.length ≤ i := by rw [hv]; exact Nat.le_trans (List.length_filter_le _ _) (by rw [List.length_take]; omega)
  refine ⟨_, rfl, ?_⟩
  rintro (_|_) h15
  ·replace h15 : ¬ ((i : Int) < (s.x.items.length : Int)) := of_decide_eq_false h15
   refine AW.cutM (gg) st' [(2, .slice none 0 0), (3, vS q l.length), (12, vS s.p s.x.items.length), (13, vI (s.x.items.length : Int)), (14, vI (i : Int)), (15, vB false)] [] ⟨rfl, rfl, rfl, rfl, rfl, rfl, trivial⟩ trivial rfl fun ρ0 ff => ?_
   refine cxs ?_
   refine cxs ?_
   have hle : l = viewF s.x := by rw [hv, viewF, if_pos h8, List.take_of_length_le (by omega)]
   exact ⟨.inl rfl, _, rfl, q, by rw [← hle]; rfl, by rw [← hle]; exact hO, hN, hP⟩
  ·replace h15 : (i : Int) < (s.x.items.length : Int) := of_decide_eq_true h15
   refine AW.cutM (gg) st' [(2, .slice none 0 0), (3, vS q l.length), (12, vS s.p s.x.items.length), (13, vI (s.x.items.length : Int)), (14, vI (i : Int)), (15, vB true)] [] ⟨rfl, rfl, rfl, rfl, rfl, rfl, trivial⟩ trivial rfl fun ρ0 ff => ?_
   refine cxs ?_
   refine op_at i (hP.rows hR.1) (by omega) rfl rfl rfl rfl rfl rfl rfl ?_
   intro x16 b16 d16 k16 hy16 hb16 hm16 hc16 ho16
   refine ⟨_, op_lda rfl rfl rfl rfl rfl hm16 hc16 rfl, ?_⟩
   refine ⟨_, rfl, ?_⟩
   refine ⟨_, op_sto rfl rfl rfl rfl rfl rfl rfl, ?_⟩
   refine AW.cutM (gg + 1) st' [(2, .slice none 0 0), (3, vS q l.length), (5, vL 5 0 (gg)), (12, vS s.p s.x.items.length), (13, vI (s.x.items.length : Int)), (14, vI (i : Int)), (15, vB true)] [(5, gg, [vI x16.id, vI x16.e.inc, vI x16.e.rank, vI x16.e.beat, vI x16.e.ver, .string x16.e.data])] ⟨rfl, rfl, rfl, rfl, rfl, rfl, rfl, trivial⟩ ⟨rfl, trivial⟩ rfl fun ρ0 ff => ?_
   iterate 2 refine ⟨_, rfl, ?_⟩
   refine ⟨_, op_ldo rfl rfl rfl rfl, ?_⟩
   refine ⟨_, rfl, ?_⟩
   rintro (_|_) h21
   ·replace h21 : ¬ (x16.e.rank = (0)) := beq_eq_false_iff_ne.1 h21
    refine AW.cutM (gg + 1) st' [(2, .slice none 0 0), (3, vS q l.length), (5, vL 5 0 (gg)), (12, vS s.p s.x.items.length), (13, vI (s.x.items.length : Int)), (14, vI (i : Int)), (15, vB true), (21, vB false)] [(5, gg, [vI x16.id, vI x16.e.inc, vI x16.e.rank, vI x16.e.beat, vI x16.e.ver, .string x16.e.data])] ⟨rfl, rfl, rfl, rfl, rfl, rfl, rfl, rfl, trivial⟩ ⟨rfl, trivial⟩ rfl fun ρ0 ff => ?_
    refine cxs ?_
    have ew26 : IntKind.wrap .i64 ((i : Int) + (1)) = ((i + 1 : Nat) : Int) := (wrap_i64 (by omega) (by omega)).trans (by omega)
    refine ⟨_, rfl, ?_⟩
    exact ⟨(i + 1, q, l), s.x.items.length - (i + 1), by omega, ⟨rfl, rfl, rfl, rfl, congrArg (Value.int .i64) ew26, trivial⟩, trivial, rfl, by simp only; omega, by rw [show upI (s.x.items.take (i + 1)) = upI (s.x.items.take i) from filt_out hy16 (decide_eq_false h21)]; exact hv, hO, hN, hP⟩
   ·replace h21 : x16.e.rank = (0) := beq_iff_eq.1 h21
    refine AW.cutM (gg + 1) st' [(2, .slice none 0 0), (3, vS q l.length), (5, vL 5 0 (gg)), (12, vS s.p s.x.items.length), (13, vI (s.x.items.length : Int)), (14, vI (i : Int)), (15, vB true), (21, vB true)] [(5, gg, [vI x16.id, vI x16.e.inc, vI x16.e.rank, vI x16.e.beat, vI x16.e.ver, .string x16.e.data])] ⟨rfl, rfl, rfl, rfl, rfl, rfl, rfl, rfl, trivial⟩ ⟨rfl, trivial⟩ rfl fun ρ0 ff => ?_
    refine ⟨_, op_ldo rfl rfl rfl rfl, ?_⟩
    refine op_one (z := 6) (a := (x16 : Itm)) (f := cItm) rfl rfl rfl rfl rfl (by decide) rfl (Nat.le_of_ble_eq_true rfl) rfl rfl rfl ?_
    refine op_snoc (z := 6) (st := st') (f := cItm) (b := 56) (l := l) (x := x16) rfl rfl rfl rfl rfl rfl rfl (by decide) len_cItm rfl rfl rfl (by omega) (by unfold maxLen; omega) hO ?_
    intro q25 s25 hO25 hP25 hN25
    refine AW.cutM (gg + 1) s25 [(2, .slice none 0 0), (3, vS q25 (l ++ [x16]).length), (5, vL 5 0 (gg)), (12, vS s.p s.x.items.length), (13, vI (s.x.items.length : Int)), (14, vI (i : Int)), (15, vB true), (21, vB true)] [(5, gg, [vI x16.id, vI x16.e.inc, vI x16.e.rank, vI x16.e.beat, vI x16.e.ver, .string x16.e.data])] ⟨rfl, rfl, rfl, rfl, rfl, rfl, rfl, rfl, trivial⟩ ⟨rfl, trivial⟩ rfl fun ρ0 ff => ?_
    have ew26 : IntKind.wrap .i64 ((i : Int) + (1)) = ((i + 1 : Nat) : Int) := (wrap_i64 (by omega) (by omega)).trans (by omega)
    refine ⟨_, rfl, ?_⟩
    exact ⟨(i + 1, q25, l ++ [x16]), s.x.items.length - (i + 1), by omega, ⟨rfl, rfl, rfl, rfl, congrArg (Value.int .i64) ew26, trivial⟩, trivial, rfl, by simp only; omega, by rw [show upI (s.x.items.take (i + 1)) = upI (s.x.items.take i) ++ [x16] from filt_in hy16 (decide_eq_true h21), ← hv], hO25, hN25.le hP.1, hP25.pres hP hN⟩
theorem ac_spec_View (s : SV) (st : St) (hR : RdS st s) (hb : bigS s.x) : C 117 [.agg #[vS s.p s.x.items.length, vS s.q s.x.floors.length]] st (fun v s' => ∃ q, v = vS q (viewF s.x).length ∧ OwnR s' 6 cItm q (viewF s.x) ∧ New st.next q ∧ Pres st s') := by
 have hs1 : s.x.items.length ≤ 1048576 := hb.1
 refine AC.enterX (i := ⟨[1], [1, 11, 17, 26], [0, 1, 2, 3, 4, 8, 14, 24]⟩) [] Tryz.func117 rfl rfl (by kernel_rfl) (by kernel_rfl) Tryz.ntmps117 (Nat.le_of_ble_eq_true rfl) rfl ?_
 refine ⟨_, rfl, ?_⟩
 refine AW.cutM (1) st [(1, vL 1 0 (0)), (2, .slice none 0 0)] [(1, 0, [vS s.p s.x.items.length, vS s.q s.x.floors.length])] ⟨rfl, rfl, trivial⟩ ⟨rfl, trivial⟩ rfl fun ρ0 ff => ?_
 refine op_nilK (z := 6) (f := cItm) rfl rfl rfl rfl (by decide) rfl ?_
 intro q5 s5 hO5 hP5 hN5
 refine AW.cutM (1) s5 [(1, vL 1 0 (0)), (2, .slice none 0 0), (3, vS q5 0)] [(1, 0, [vS s.p s.x.items.length, vS s.q s.x.floors.length])] ⟨rfl, rfl, rfl, trivial⟩ ⟨rfl, trivial⟩ rfl fun ρ0 ff => ?_
 refine ⟨_, op_ldo rfl rfl rfl rfl, ?_⟩
 refine ⟨_, rfl, (ac_spec_StateOk s s5 (hR.pres hP5) (by first | assumption | omega)).mono ?_⟩
 rintro _ s5 ⟨x7, rfl, h7, rfl⟩
 rcases x7 with _|_
 ·replace h7 := fun k => Bool.false_ne_true (h7.2 k)
  refine ⟨_, rfl, ?_⟩
  refine AW.cutM (1) s5 [(1, vL 1 0 (0)), (2, .slice none 0 0), (3, vS q5 0), (8, vB true)] [(1, 0, [vS s.p s.x.items.length, vS s.q s.x.floors.length])] ⟨rfl, rfl, rfl, rfl, trivial⟩ ⟨rfl, trivial⟩ rfl fun ρ0 ff => ?_
  refine cxs ?_
  exact ⟨.inl rfl, _, rfl, q5, by rw [viewF, if_neg h7]; rfl, by rw [viewF, if_neg h7]; exact hO5, hN5, hP5⟩
 ·replace h7 := h7.1 rfl
  refine ⟨_, rfl, ?_⟩
  refine AW.cutM (1) s5 [(1, vL 1 0 (0)), (2, .slice none 0 0), (3, vS q5 0), (8, vB false)] [(1, 0, [vS s.p s.x.items.length, vS s.q s.x.floors.length])] ⟨rfl, rfl, rfl, rfl, trivial⟩ ⟨rfl, trivial⟩ rfl fun ρ0 ff => ?_
  refine cxs ?_
  refine AW.cutM (1) s5 [(1, vL 1 0 (0)), (2, .slice none 0 0), (3, vS q5 0), (4, vI (0))] [(1, 0, [vS s.p s.x.items.length, vS s.q s.x.floors.length])] ⟨rfl, rfl, rfl, rfl, trivial⟩ ⟨rfl, trivial⟩ rfl fun ρ0 ff => ?_
  refine AW.loopM (fun x : Nat × Option Addr × List Itm => [(1, vL 1 0 (0)), (2, .slice none 0 0), (3, vS x.2.1 x.2.2.length), (4, vI (x.1 : Int))]) (fun x : Nat × Option Addr × List Itm => [(1, 0, [vS s.p s.x.items.length, vS s.q s.x.floors.length])]) (fun m (x : Nat × Option Addr × List Itm) st' => m = s.x.items.length - x.1 ∧ x.1 ≤ s.x.items.length ∧ x.2.2 = upI (s.x.items.take x.1) ∧ OwnR st' 6 cItm x.2.1 x.2.2 ∧ New st.next x.2.1 ∧ Pres st st') (0, q5, []) _ ⟨rfl, rfl, rfl, rfl, trivial⟩ ⟨rfl, trivial⟩ ⟨rfl, Nat.zero_le _, rfl, hO5, hN5, hP5⟩ ?_
  rintro m ⟨i, q, l⟩ ρ0 ff gg st' ⟨rfl, hi, hv, hO, hN, hP⟩
  simp only at hi hv hO hN
  have hll : l.length ≤ i := by rw [hv]; exact Nat.le_trans (List.length_filter_le _ _) (by rw [List.length_take]; omega)
  refine ⟨_, rfl, ?_⟩
  refine ⟨_, op_ldo rfl rfl rfl rfl, ?_⟩
  iterate 2 refine ⟨_, rfl, ?_⟩
  rintro (_|_) h14
  ·replace h14 : ¬ ((i : Int) < (s.x.items.length : Int)) := of_decide_eq_false h14
   refine AW.cutM (gg) st' [(1, vL 1 0 (0)), (2, .slice none 0 0), (3, vS q l.length), (4, vI (i : Int)), (14, vB false)] [(1, 0, [vS s.p s.x.items.length, vS s.q s.x.floors.length])] ⟨rfl, rfl, rfl, rfl, rfl, trivial⟩ ⟨rfl, trivial⟩ rfl fun ρ0 ff => ?_
   refine cxs ?_
   refine cxs ?_
   have hle : l = viewF s.x := by rw [hv, viewF, if_pos h7, List.take_of_length_le (by omega)]
   exact ⟨.inl rfl, _, rfl, q, by rw [← hle]; rfl, by rw [← hle]; exact hO, hN, hP⟩
  ·replace h14 : (i : Int) < (s.x.items.length : Int) := of_decide_eq_true h14
   refine AW.cutM (gg) st' [(1, vL 1 0 (0)), (2, .slice none 0 0), (3, vS q l.length), (4, vI (i : Int)), (14, vB true)] [(1, 0, [vS s.p s.x.items.length, vS s.q s.x.floors.length])] ⟨rfl, rfl, rfl, rfl, rfl, trivial⟩ ⟨rfl, trivial⟩ rfl fun ρ0 ff => ?_
   refine cxs ?_
   refine ⟨_, rfl, ?_⟩
   refine ⟨_, op_ldo rfl rfl rfl rfl, ?_⟩
   refine op_at i (hP.rows hR.1) (by omega) rfl rfl rfl rfl rfl rfl rfl ?_
   intro x20 b20 d20 k20 hy20 hb20 hm20 hc20 ho20
   iterate 2 refine ⟨_, rfl, ?_⟩
   refine ⟨_, op_ldc (i := 2) rfl rfl rfl rfl hm20 hc20 rfl rfl, ?_⟩
   refine ⟨_, rfl, ?_⟩
   rintro (_|_) h24
   ·replace h24 : ¬ (x20.e.rank = (0)) := beq_eq_false_iff_ne.1 h24
    refine AW.cutM (gg) st' [(1, vL 1 0 (0)), (2, .slice none 0 0), (3, vS q l.length), (4, vI (i : Int)), (14, vB true), (24, vB false)] [(1, 0, [vS s.p s.x.items.length, vS s.q s.x.floors.length])] ⟨rfl, rfl, rfl, rfl, rfl, rfl, trivial⟩ ⟨rfl, trivial⟩ rfl fun ρ0 ff => ?_
    refine cxs ?_
    have ew16 : IntKind.wrap .i64 ((i : Int) + (1)) = ((i + 1 : Nat) : Int) := (wrap_i64 (by omega) (by omega)).trans (by omega)
    refine ⟨_, rfl, ?_⟩
    exact ⟨(i + 1, q, l), s.x.items.length - (i + 1), by omega, ⟨rfl, rfl, rfl, congrArg (Value.int .i64) ew16, trivial⟩, ⟨rfl, trivial⟩, rfl, by simp only; omega, by rw [show upI (s.x.items.take (i + 1)) = upI (s.x.items.take i) from filt_out hy20 (decide_eq_false h24)]; exact hv, hO, hN, hP⟩
   ·replace h24 : x20.e.rank = (0) := beq_iff_eq.1 h24
    refine AW.cutM (gg) st' [(1, vL 1 0 (0)), (2, .slice none 0 0), (3, vS q l.length), (4, vI (i : Int)), (14, vB true), (24, vB true)] [(1, 0, [vS s.p s.x.items.length, vS s.q s.x.floors.length])] ⟨rfl, rfl, rfl, rfl, rfl, rfl, trivial⟩ ⟨rfl, trivial⟩ rfl fun ρ0 ff => ?_
    refine ⟨_, rfl, ?_⟩
    refine ⟨_, op_ldo rfl rfl rfl rfl, ?_⟩
    refine op_el i (hP.rows hR.1) hy20 rfl rfl rfl rfl rfl rfl rfl ?_
    intro b29 d29 k29 hb29 hm29 hc29 ho29
    refine ⟨_, op_lda rfl rfl rfl rfl rfl hm29 hc29 rfl, ?_⟩
    refine op_one (z := 6) (a := (x20 : Itm)) (f := cItm) rfl rfl rfl rfl rfl (by decide) rfl (Nat.le_of_ble_eq_true rfl) rfl rfl rfl ?_
    refine op_snoc (z := 6) (st := st') (f := cItm) (b := 56) (l := l) (x := x20) rfl rfl rfl rfl rfl rfl rfl (by decide) len_cItm rfl rfl rfl (by omega) (by unfold maxLen; omega) hO ?_
    intro q32 s32 hO32 hP32 hN32
    refine AW.cutM (gg) s32 [(1, vL 1 0 (0)), (2, .slice none 0 0), (3, vS q32 (l ++ [x20]).length), (4, vI (i : Int)), (14, vB true), (24, vB true)] [(1, 0, [vS s.p s.x.items.length, vS s.q s.x.floors.length])] ⟨rfl, rfl, rfl, rfl, rfl, rfl, trivial⟩ ⟨rfl, trivial⟩ rfl fun ρ0 ff => ?_
    have ew16 : IntKind.wrap .i64 ((i : Int) + (1)) = ((i + 1 : Nat) : Int) := (wrap_i64 (by omega) (by omega)).trans (by omega)
    refine ⟨_, rfl, ?_⟩
    exact ⟨(i + 1, q32, l ++ [x20]), s.x.items.length - (i + 1), by omega, ⟨rfl, rfl, rfl, congrArg (Value.int .i64) ew16, trivial⟩, ⟨rfl, trivial⟩, rfl, by simp only; omega, by rw [show upI (s.x.items.take (i + 1)) = upI (s.x.items.take i) ++ [x20] from filt_in hy20 (decide_eq_true h24), ← hv], hO32, hN32.le hP.1, hP32.pres hP hN⟩
theorem ac_impl_Lookup (s : SV) (id : Int) (st : St) (hR : RdS st s) (hb : bigS s.x) : C 57 [.agg #[vS s.p s.x.items.length, vS s.q s.x.floors.length], vI id] st (fun v s' => ∃ e b, v = .tuple #[.agg #[vI e.inc, vI e.rank, vI e.beat, vI e.ver, .string e.data], vB b] ∧ (e, b) = lookF s.x id ∧ Pres st s') := by
 refine AC.enterX (i := ⟨[2, 4], [2, 4], [0, 1, 2, 4, 5]⟩) [] Tryz.func57 rfl rfl (by kernel_rfl) (by kernel_rfl) Tryz.ntmps57 (Nat.le_of_ble_eq_true rfl) rfl ?_
 iterate 2 refine ⟨_, rfl, ?_⟩
 refine AW.cutM (2) st [(1, vI id), (2, vL 2 0 (0)), (4, vL 4 0 (1)), (5, vB false)] [(2, 0, [vS s.p s.x.items.length, vS s.q s.x.floors.length]), (4, 1, [vI 0, vI 0, vI 0, vI 0, .string ⟨#[]⟩])] ⟨rfl, rfl, rfl, rfl, trivial⟩ ⟨rfl, rfl, trivial⟩ rfl fun ρ0 ff => ?_
 refine ⟨_, op_ldo rfl rfl rfl rfl, ?_⟩
 refine ⟨_, rfl, (ac_impl_View s st hR (by first | assumption | omega)).mono ?_⟩
 rintro _ s7 ⟨q7, rfl, hO7, hN7, hP7⟩
 refine ⟨_, rfl, ?_⟩
 refine ⟨_, rfl, (ac_impl_EntryOf ⟨q7, none, ⟨viewF s.x, []⟩⟩ id s7 ⟨hO7.rows len_cItm, Rows.nil⟩ (view_big hb)).mono ?_⟩
 rintro _ s7 ⟨e10, b10, rfl, h10, rfl⟩
 iterate 2 refine ⟨_, rfl, ?_⟩
 refine ⟨_, op_sto rfl rfl rfl rfl rfl rfl rfl, ?_⟩
 refine cxs ?_
 exact ⟨.inl rfl, _, rfl, e10, b10, rfl, h10, hP7⟩
theorem ac_spec_Lookup (s : SV) (id : Int) (st : St) (hR : RdS st s) (hb : bigS s.x) : C 48 [.agg #[vS s.p s.x.items.length, vS s.q s.x.floors.length], vI id] st (fun v s' => ∃ e b, v = .tuple #[.agg #[vI e.inc, vI e.rank, vI e.beat, vI e.ver, .string e.data], vB b] ∧ (e, b) = lookF s.x id ∧ Pres st s') := by
 refine AC.enterX (i := ⟨[2, 4], [2, 4], [0, 1, 2, 4, 5]⟩) [] Tryz.func48 rfl rfl (by kernel_rfl) (by kernel_rfl) Tryz.ntmps48 (Nat.le_of_ble_eq_true rfl) rfl ?_
 iterate 2 refine ⟨_, rfl, ?_⟩
 refine AW.cutM (2) st [(1, vI id), (2, vL 2 0 (0)), (4, vL 4 0 (1)), (5, vB false)] [(2, 0, [vS s.p s.x.items.length, vS s.q s.x.floors.length]), (4, 1, [vI 0, vI 0, vI 0, vI 0, .string ⟨#[]⟩])] ⟨rfl, rfl, rfl, rfl, trivial⟩ ⟨rfl, rfl, trivial⟩ rfl fun ρ0 ff => ?_
 refine ⟨_, op_ldo rfl rfl rfl rfl, ?_⟩
 refine ⟨_, rfl, (ac_spec_View s st hR (by first | assumption | omega)).mono ?_⟩
 rintro _ s7 ⟨q7, rfl, hO7, hN7, hP7⟩
 refine ⟨_, rfl, ?_⟩
 refine ⟨_, rfl, (ac_spec_EntryOf ⟨q7, none, ⟨viewF s.x, []⟩⟩ id s7 ⟨hO7.rows len_cItm, Rows.nil⟩ (view_big hb)).mono ?_⟩
 rintro _ s7 ⟨e10, b10, rfl, h10, rfl⟩
 iterate 2 refine ⟨_, rfl, ?_⟩
 refine ⟨_, op_sto rfl rfl rfl rfl rfl rfl rfl, ?_⟩
 refine cxs ?_
 exact ⟨.inl rfl, _, rfl, e10, b10, rfl, h10, hP7⟩
structure suspF (x : Nd) (id : Int) : Prop where
 ok : nodeOk x
 rng : 0 ≤ id ∧ id ≤ 4
 ne : ¬ id = x.id
 up : (lookF x.s id).2 = true
 late : ∃ r, x.rises[id.toNat]? = some r ∧ x.clock - r.tick > x.limit
theorem ac_impl_Suspect (g : NV) (id : Int) (st : St) (hR : RdN st g) (hb : bigN g.x) : C 13 [.agg #[vI g.id, vI g.n, vS g.s.p g.s.x.items.length, vS g.s.q g.s.x.floors.length, vS g.t.p g.t.l.length, vI g.t.root, vI g.g.cap, vI g.g.frm, vS g.g.p g.g.l.length, vS g.got.p g.got.l.length, vS g.acked.p g.acked.l.length, vS g.seen.p g.seen.t.length, vI g.num, vI g.slots, vS g.sess.p g.sess.l.length, vI g.wait, vI g.limit, vI g.clock, vS g.rises.p g.rises.l.length], vI id] st (fun v s => ∃ x, v = .bool x ∧ (x = true ↔ suspF g.x id) ∧ Pres st s) := by
 refine AC.enterX (i := ⟨[2, 5], [2, 5, 17, 22, 30, 32, 39], [0, 1, 2, 4, 6, 20]⟩) [(4, [], [])] Tryz.func13 rfl rfl (by kernel_rfl) (by kernel_rfl) Tryz.ntmps13 (Nat.le_of_ble_eq_true rfl) rfl ?_
 refine ⟨_, rfl, ?_⟩
 refine AW.cutM (1) st [(1, vI id), (2, vL 2 0 (0)), (4, vB false)] [(2, 0, cNV g)] ⟨rfl, rfl, rfl, trivial⟩ ⟨rfl, trivial⟩ rfl fun ρ0 ff => ?_
 refine ⟨_, op_ldo (v := (vNV g)) rfl rfl rfl rfl, ?_⟩
 refine ⟨_, rfl, (ac_impl_NodeOk g st hR (by first | assumption | omega)).mono ?_⟩
 rintro _ s8 ⟨x8, rfl, h8, hP8⟩
 rcases x8 with _|_
 ·replace h8 := fun k => Bool.false_ne_true (h8.2 k)
  iterate 3 refine ⟨_, rfl, ?_⟩
  refine AW.cutM (1) s8 [(1, vI id), (2, vL 2 0 (0)), (4, vB false), (20, vB true)] [(2, 0, cNV g)] ⟨rfl, rfl, rfl, rfl, trivial⟩ ⟨rfl, trivial⟩ rfl fun ρ0 ff => ?_
  refine cxs ?_
  exact ⟨.inl rfl, _, rfl, false, rfl, ⟨fun h => absurd h Bool.false_ne_true, fun h => (show False from (h8 h.ok)).elim⟩, hP8⟩
 ·replace h8 := h8.1 rfl
  refine ⟨_, rfl, ?_⟩
  refine ⟨_, rfl, (ac_impl_isNode id s8).mono ?_⟩
  rintro _ s8 ⟨x12, rfl, h12, rfl⟩
  rcases x12 with _|_
  ·replace h12 := of_decide_eq_false h12.symm
   iterate 3 refine ⟨_, rfl, ?_⟩
   refine AW.cutM (1) s8 [(1, vI id), (2, vL 2 0 (0)), (4, vB false), (20, vB true)] [(2, 0, cNV g)] ⟨rfl, rfl, rfl, rfl, trivial⟩ ⟨rfl, trivial⟩ rfl fun ρ0 ff => ?_
   refine cxs ?_
   exact ⟨.inl rfl, _, rfl, false, rfl, ⟨fun h => absurd h Bool.false_ne_true, fun h => (show False from (h12 h.rng)).elim⟩, hP8⟩
  ·replace h12 := of_decide_eq_true h12.symm
   iterate 3 refine ⟨_, rfl, ?_⟩
   refine ⟨_, op_ldo rfl rfl rfl rfl, ?_⟩
   refine ⟨_, rfl, ?_⟩
   rintro (_|_) h19
   ·replace h19 : ¬ (id = g.id) := beq_eq_false_iff_ne.1 h19
    refine ⟨_, rfl, ?_⟩
    refine AW.cutM (1) s8 [(1, vI id), (2, vL 2 0 (0)), (4, vB false), (20, vB false)] [(2, 0, cNV g)] ⟨rfl, rfl, rfl, rfl, trivial⟩ ⟨rfl, trivial⟩ rfl fun ρ0 ff => ?_
    refine cxs ?_
    refine ⟨_, rfl, ?_⟩
    refine ⟨_, op_ldo rfl rfl rfl rfl, ?_⟩
    refine ⟨_, rfl, (ac_impl_Lookup g.s id s8 (hR.s.pres hP8) (hb.s)).mono ?_⟩
    rintro _ s25 ⟨e25, b25, rfl, h25, hP25⟩
    rcases b25 with _|_
    ·iterate 3 refine ⟨_, rfl, ?_⟩
     refine ⟨_, op_sto rfl rfl rfl rfl rfl rfl rfl, ?_⟩
     refine AW.cutM (2) s25 [(1, vI id), (2, vL 2 0 (0)), (4, vB false), (6, vB false)] [(2, 0, cNV g)] ⟨rfl, rfl, rfl, rfl, trivial⟩ ⟨rfl, trivial⟩ rfl fun ρ0 ff => ?_
     refine ⟨_, rfl, ?_⟩
     refine cxs ?_
     exact ⟨.inl rfl, _, rfl, false, rfl, ⟨fun h => absurd h Bool.false_ne_true, fun h => (show False from (absurd h.up (by show ¬ (lookF g.s.x id).2 = true; rw [← h25]; exact Bool.false_ne_true))).elim⟩, hP8.trans hP25⟩
    ·iterate 3 refine ⟨_, rfl, ?_⟩
     refine ⟨_, op_sto rfl rfl rfl rfl rfl rfl rfl, ?_⟩
     refine AW.cutM (2) s25 [(1, vI id), (2, vL 2 0 (0)), (4, vB false), (6, vB true)] [(2, 0, cNV g)] ⟨rfl, rfl, rfl, rfl, trivial⟩ ⟨rfl, trivial⟩ rfl fun ρ0 ff => ?_
     refine ⟨_, rfl, ?_⟩
     refine ⟨_, op_ldo rfl rfl rfl rfl, ?_⟩
     refine ⟨_, rfl, ?_⟩
     refine ⟨_, op_ldo rfl rfl rfl rfl, ?_⟩
     have hrl : g.rises.l.length = 5 := h8.rises.1
     refine op_at ((id).toNat) ((hP8.trans hP25).rows hR.rises) (by omega) rfl rfl rfl rfl (by omega) rfl rfl ?_
     intro x35 b35 d35 k35 hy35 hb35 hm35 hc35 ho35
     refine ⟨_, rfl, ?_⟩
     refine ⟨_, op_ldc (i := 2) rfl rfl rfl rfl hm35 hc35 rfl rfl, ?_⟩
     have hc1 : 0 ≤ g.clock ∧ g.clock ≤ 100000 := h8.clock
     have hc2 : 0 ≤ x35.tick ∧ x35.tick ≤ g.clock := (h8.rises.2 _ _ hy35).2.2
     have ew38 : IntKind.wrap .i64 (g.clock - x35.tick) = g.clock - x35.tick := wrap_i64 (by omega) (by omega)
     iterate 2 refine ⟨_, rfl, ?_⟩
     refine ⟨_, op_ldo rfl rfl rfl rfl, ?_⟩
     refine ⟨_, rfl, ?_⟩
     rintro (_|_) h41
     ·replace h41 : ¬ ((IntKind.wrap .i64 (g.clock - x35.tick)) > g.limit) := of_decide_eq_false h41
      rw [ew38] at h41
      refine ⟨_, rfl, ?_⟩
      refine cxs ?_
      exact ⟨.inl rfl, _, rfl, false, rfl, ⟨fun h => absurd h Bool.false_ne_true, fun h => (show False from ((by obtain ⟨r, hr, hl⟩ := h.late; obtain rfl : x35 = r := Option.some.inj (hy35.symm.trans hr); exact h41 hl))).elim⟩, hP8.trans hP25⟩
     ·replace h41 : (IntKind.wrap .i64 (g.clock - x35.tick)) > g.limit := of_decide_eq_true h41
      rw [ew38] at h41
      refine ⟨_, rfl, ?_⟩
      refine cxs ?_
      exact ⟨.inl rfl, _, rfl, true, rfl, ⟨fun _ => ⟨h8, h12, h19, by show (lookF g.s.x id).2 = true; rw [← h25], x35, hy35, h41⟩, fun _ => rfl⟩, hP8.trans hP25⟩
   ·replace h19 : id = g.id := beq_iff_eq.1 h19
    refine ⟨_, rfl, ?_⟩
    refine AW.cutM (1) s8 [(1, vI id), (2, vL 2 0 (0)), (4, vB false), (20, vB true)] [(2, 0, cNV g)] ⟨rfl, rfl, rfl, rfl, trivial⟩ ⟨rfl, trivial⟩ rfl fun ρ0 ff => ?_
    refine cxs ?_
    exact ⟨.inl rfl, _, rfl, false, rfl, ⟨fun h => absurd h Bool.false_ne_true, fun h => (show False from (h.ne h19)).elim⟩, hP8⟩
theorem ac_spec_Suspect (g : NV) (id : Int) (st : St) (hR : RdN st g) (hb : bigN g.x) : C 11 [.agg #[vI g.id, vI g.n, vS g.s.p g.s.x.items.length, vS g.s.q g.s.x.floors.length, vS g.t.p g.t.l.length, vI g.t.root, vI g.g.cap, vI g.g.frm, vS g.g.p g.g.l.length, vS g.got.p g.got.l.length, vS g.acked.p g.acked.l.length, vS g.seen.p g.seen.t.length, vI g.num, vI g.slots, vS g.sess.p g.sess.l.length, vI g.wait, vI g.limit, vI g.clock, vS g.rises.p g.rises.l.length], vI id] st (fun v s => ∃ x, v = .bool x ∧ (x = true ↔ suspF g.x id) ∧ Pres st s) := by
 refine AC.enterX (i := ⟨[2, 5], [2, 5, 17, 22, 30, 32, 39], [0, 1, 2, 4, 6, 20]⟩) [(4, [], [])] Tryz.func11 rfl rfl (by kernel_rfl) (by kernel_rfl) Tryz.ntmps11 (Nat.le_of_ble_eq_true rfl) rfl ?_
 refine ⟨_, rfl, ?_⟩
 refine AW.cutM (1) st [(1, vI id), (2, vL 2 0 (0)), (4, vB false)] [(2, 0, cNV g)] ⟨rfl, rfl, rfl, trivial⟩ ⟨rfl, trivial⟩ rfl fun ρ0 ff => ?_
 refine ⟨_, op_ldo (v := (vNV g)) rfl rfl rfl rfl, ?_⟩
 refine ⟨_, rfl, (ac_spec_NodeOk g st hR (by first | assumption | omega)).mono ?_⟩
 rintro _ s8 ⟨x8, rfl, h8, hP8⟩
 rcases x8 with _|_
 ·replace h8 := fun k => Bool.false_ne_true (h8.2 k)
  iterate 3 refine ⟨_, rfl, ?_⟩
  refine AW.cutM (1) s8 [(1, vI id), (2, vL 2 0 (0)), (4, vB false), (20, vB true)] [(2, 0, cNV g)] ⟨rfl, rfl, rfl, rfl, trivial⟩ ⟨rfl, trivial⟩ rfl fun ρ0 ff => ?_
  refine cxs ?_
  exact ⟨.inl rfl, _, rfl, false, rfl, ⟨fun h => absurd h Bool.false_ne_true, fun h => (show False from (h8 h.ok)).elim⟩, hP8⟩
 ·replace h8 := h8.1 rfl
  refine ⟨_, rfl, ?_⟩
  refine ⟨_, rfl, (ac_spec_l3Node id s8).mono ?_⟩
  rintro _ s8 ⟨x12, rfl, h12, rfl⟩
  rcases x12 with _|_
  ·replace h12 := of_decide_eq_false h12.symm
   iterate 3 refine ⟨_, rfl, ?_⟩
   refine AW.cutM (1) s8 [(1, vI id), (2, vL 2 0 (0)), (4, vB false), (20, vB true)] [(2, 0, cNV g)] ⟨rfl, rfl, rfl, rfl, trivial⟩ ⟨rfl, trivial⟩ rfl fun ρ0 ff => ?_
   refine cxs ?_
   exact ⟨.inl rfl, _, rfl, false, rfl, ⟨fun h => absurd h Bool.false_ne_true, fun h => (show False from (h12 h.rng)).elim⟩, hP8⟩
  ·replace h12 := of_decide_eq_true h12.symm
   iterate 3 refine ⟨_, rfl, ?_⟩
   refine ⟨_, op_ldo rfl rfl rfl rfl, ?_⟩
   refine ⟨_, rfl, ?_⟩
   rintro (_|_) h19
   ·replace h19 : ¬ (id = g.id) := beq_eq_false_iff_ne.1 h19
    refine ⟨_, rfl, ?_⟩
    refine AW.cutM (1) s8 [(1, vI id), (2, vL 2 0 (0)), (4, vB false), (20, vB false)] [(2, 0, cNV g)] ⟨rfl, rfl, rfl, rfl, trivial⟩ ⟨rfl, trivial⟩ rfl fun ρ0 ff => ?_
    refine cxs ?_
    refine ⟨_, rfl, ?_⟩
    refine ⟨_, op_ldo rfl rfl rfl rfl, ?_⟩
    refine ⟨_, rfl, (ac_spec_Lookup g.s id s8 (hR.s.pres hP8) (hb.s)).mono ?_⟩
    rintro _ s25 ⟨e25, b25, rfl, h25, hP25⟩
    rcases b25 with _|_
    ·iterate 3 refine ⟨_, rfl, ?_⟩
     refine ⟨_, op_sto rfl rfl rfl rfl rfl rfl rfl, ?_⟩
     refine AW.cutM (2) s25 [(1, vI id), (2, vL 2 0 (0)), (4, vB false), (6, vB false)] [(2, 0, cNV g)] ⟨rfl, rfl, rfl, rfl, trivial⟩ ⟨rfl, trivial⟩ rfl fun ρ0 ff => ?_
     refine ⟨_, rfl, ?_⟩
     refine cxs ?_
     exact ⟨.inl rfl, _, rfl, false, rfl, ⟨fun h => absurd h Bool.false_ne_true, fun h => (show False from (absurd h.up (by show ¬ (lookF g.s.x id).2 = true; rw [← h25]; exact Bool.false_ne_true))).elim⟩, hP8.trans hP25⟩
    ·iterate 3 refine ⟨_, rfl, ?_⟩
     refine ⟨_, op_sto rfl rfl rfl rfl rfl rfl rfl, ?_⟩
     refine AW.cutM (2) s25 [(1, vI id), (2, vL 2 0 (0)), (4, vB false), (6, vB true)] [(2, 0, cNV g)] ⟨rfl, rfl, rfl, rfl, trivial⟩ ⟨rfl, trivial⟩ rfl fun ρ0 ff => ?_
     refine ⟨_, rfl, ?_⟩
     refine ⟨_, op_ldo rfl rfl rfl rfl, ?_⟩
     refine ⟨_, rfl, ?_⟩
     refine ⟨_, op_ldo rfl rfl rfl rfl, ?_⟩
     have hrl : g.rises.l.length = 5 := h8.rises.1
     refine op_at ((id).toNat) ((hP8.trans hP25).rows hR.rises) (by omega) rfl rfl rfl rfl (by omega) rfl rfl ?_
     intro x35 b35 d35 k35 hy35 hb35 hm35 hc35 ho35
     refine ⟨_, rfl, ?_⟩
     refine ⟨_, op_ldc (i := 2) rfl rfl rfl rfl hm35 hc35 rfl rfl, ?_⟩
     have hc1 : 0 ≤ g.clock ∧ g.clock ≤ 100000 := h8.clock
     have hc2 : 0 ≤ x35.tick ∧ x35.tick ≤ g.clock := (h8.rises.2 _ _ hy35).2.2
     have ew38 : IntKind.wrap .i64 (g.clock - x35.tick) = g.clock - x35.tick := wrap_i64 (by omega) (by omega)
     iterate 2 refine ⟨_, rfl, ?_⟩
     refine ⟨_, op_ldo rfl rfl rfl rfl, ?_⟩
     refine ⟨_, rfl, ?_⟩
     rintro (_|_) h41
     ·replace h41 : ¬ ((IntKind.wrap .i64 (g.clock - x35.tick)) > g.limit) := of_decide_eq_false h41
      rw [ew38] at h41
      refine ⟨_, rfl, ?_⟩
      refine cxs ?_
      exact ⟨.inl rfl, _, rfl, false, rfl, ⟨fun h => absurd h Bool.false_ne_true, fun h => (show False from ((by obtain ⟨r, hr, hl⟩ := h.late; obtain rfl : x35 = r := Option.some.inj (hy35.symm.trans hr); exact h41 hl))).elim⟩, hP8.trans hP25⟩
     ·replace h41 : (IntKind.wrap .i64 (g.clock - x35.tick)) > g.limit := of_decide_eq_true h41
      rw [ew38] at h41
      refine ⟨_, rfl, ?_⟩
      refine cxs ?_
      exact ⟨.inl rfl, _, rfl, true, rfl, ⟨fun _ => ⟨h8, h12, h19, by show (lookF g.s.x id).2 = true; rw [← h25], x35, hy35, h41⟩, fun _ => rfl⟩, hP8.trans hP25⟩
   ·replace h19 : id = g.id := beq_iff_eq.1 h19
    refine ⟨_, rfl, ?_⟩
    refine AW.cutM (1) s8 [(1, vI id), (2, vL 2 0 (0)), (4, vB false), (20, vB true)] [(2, 0, cNV g)] ⟨rfl, rfl, rfl, rfl, trivial⟩ ⟨rfl, trivial⟩ rfl fun ρ0 ff => ?_
    refine cxs ?_
    exact ⟨.inl rfl, _, rfl, false, rfl, ⟨fun h => absurd h Bool.false_ne_true, fun h => (show False from (h.ne h19)).elim⟩, hP8⟩
open Classical in
noncomputable def suspsF (x : Nd) (i : Nat) : List Int := (List.range i).filterMap fun (j : Nat) => if suspF x (j : Int) then some (j : Int) else none
theorem susps_in {x : Nd} {i : Nat} (h : suspF x (i : Int)) : suspsF x (i + 1) = suspsF x i ++ [(i : Int)] := by simp [suspsF, List.range_succ, h]
theorem susps_out {x : Nd} {i : Nat} (h : ¬ suspF x (i : Int)) : suspsF x (i + 1) = suspsF x i := by simp [suspsF, List.range_succ, h]
theorem susps_len (x : Nd) (i : Nat) : (suspsF x i).length ≤ i := by
 unfold suspsF
 exact Nat.le_trans (List.length_filterMap_le _ _) (by rw [List.length_range]; exact Nat.le_refl _)
theorem ac_impl_Suspects (g : NV) (st : St) (hR : RdN st g) (hb : bigN g.x) : C 16 [.agg #[vI g.id, vI g.n, vS g.s.p g.s.x.items.length, vS g.s.q g.s.x.floors.length, vS g.t.p g.t.l.length, vI g.t.root, vI g.g.cap, vI g.g.frm, vS g.g.p g.g.l.length, vS g.got.p g.got.l.length, vS g.acked.p g.acked.l.length, vS g.seen.p g.seen.t.length, vI g.num, vI g.slots, vS g.sess.p g.sess.l.length, vI g.wait, vI g.limit, vI g.clock, vS g.rises.p g.rises.l.length]] st (fun v s => ∃ u : RV, v = vS u.p u.l.length ∧ u.l = suspsF g.x 5 ∧ OwnP s (pcIs u) ∧ NewP st.next (pcIs u) ∧ Pres st s) := by
 refine AC.enterX (i := ⟨[1], [1], [0, 1, 2, 3, 4, 7, 12]⟩) [] Tryz.func16 rfl rfl (by kernel_rfl) (by kernel_rfl) Tryz.ntmps16 (Nat.le_of_ble_eq_true rfl) rfl ?_
 refine ⟨_, rfl, ?_⟩
 refine AW.cutM (1) st [(1, vL 1 0 (0)), (2, .slice none 0 0)] [(1, 0, cNV g)] ⟨rfl, rfl, trivial⟩ ⟨rfl, trivial⟩ rfl fun ρ0 ff => ?_
 refine op_nilK (z := 1) (f := fI) rfl rfl rfl rfl (by decide) rfl ?_
 intro q5 s5 hO5 hP5 hN5
 refine cxs ?_
 refine AW.cutM (1) s5 [(1, vL 1 0 (0)), (2, .slice none 0 0), (3, vS q5 0), (4, vI (0))] [(1, 0, cNV g)] ⟨rfl, rfl, rfl, rfl, trivial⟩ ⟨rfl, trivial⟩ rfl fun ρ0 ff => ?_
 refine AW.loopM (fun x : Nat × Option Addr × List Int => [(1, vL 1 0 (0)), (2, .slice none 0 0), (3, vS x.2.1 x.2.2.length), (4, vI (x.1 : Int))]) (fun x : Nat × Option Addr × List Int => [(1, 0, cNV g)]) (fun m (x : Nat × Option Addr × List Int) st' => m = 5 - x.1 ∧ x.1 ≤ 5 ∧ x.2.2 = suspsF g.x x.1 ∧ OwnR st' 1 fI x.2.1 x.2.2 ∧ New st.next x.2.1 ∧ Pres st st') (0, q5, []) _ ⟨rfl, rfl, rfl, rfl, trivial⟩ ⟨rfl, trivial⟩ ⟨rfl, Nat.zero_le _, rfl, hO5, hN5, hP5⟩ ?_
 rintro m ⟨i, q, l⟩ ρ0 ff gg st' ⟨rfl, hi, hv, hO, hN, hP⟩
 simp only at hi hv hO hN
 have hll : l.length ≤ i := by rw [hv]; exact susps_len _ _
 refine ⟨_, rfl, ?_⟩
 rintro (_|_) h7
 ·replace h7 : ¬ ((i : Int) < (5)) := of_decide_eq_false h7
  refine AW.cutM (gg) st' [(1, vL 1 0 (0)), (2, .slice none 0 0), (3, vS q l.length), (4, vI (i : Int)), (7, vB false)] [(1, 0, cNV g)] ⟨rfl, rfl, rfl, rfl, rfl, trivial⟩ ⟨rfl, trivial⟩ rfl fun ρ0 ff => ?_
  refine cxs ?_
  refine cxs ?_
  have hle : l = suspsF g.x 5 := by rw [hv, show i = 5 by omega]
  exact ⟨.inl rfl, _, rfl, ⟨q, l⟩, rfl, hle, OwnP.one (own_pc hO), NewP.cons hN NewP.nil, hP⟩
 ·replace h7 : (i : Int) < (5) := of_decide_eq_true h7
  refine AW.cutM (gg) st' [(1, vL 1 0 (0)), (2, .slice none 0 0), (3, vS q l.length), (4, vI (i : Int)), (7, vB true)] [(1, 0, cNV g)] ⟨rfl, rfl, rfl, rfl, rfl, trivial⟩ ⟨rfl, trivial⟩ rfl fun ρ0 ff => ?_
  refine cxs ?_
  refine ⟨_, op_ldo (v := (vNV g)) rfl rfl rfl rfl, ?_⟩
  refine ⟨_, rfl, (ac_impl_Suspect g (i : Int) st' (hR.pres hP) (by first | assumption | omega)).mono ?_⟩
  rintro _ s12 ⟨x12, rfl, h12, hP12⟩
  rcases x12 with _|_
  ·replace h12 := fun k => Bool.false_ne_true (h12.2 k)
   refine AW.cutM (gg) s12 [(1, vL 1 0 (0)), (2, .slice none 0 0), (3, vS q l.length), (4, vI (i : Int)), (7, vB true), (12, vB false)] [(1, 0, cNV g)] ⟨rfl, rfl, rfl, rfl, rfl, rfl, trivial⟩ ⟨rfl, trivial⟩ rfl fun ρ0 ff => ?_
   refine cxs ?_
   have ew9 : IntKind.wrap .i64 ((i : Int) + (1)) = ((i + 1 : Nat) : Int) := (wrap_i64 (by omega) (by omega)).trans (by omega)
   refine ⟨_, rfl, ?_⟩
   exact ⟨(i + 1, q, l), 5 - (i + 1), by omega, ⟨rfl, rfl, rfl, congrArg (Value.int .i64) ew9, trivial⟩, ⟨rfl, trivial⟩, rfl, by simp only; omega, by rw [susps_out h12]; exact hv, hP12.ownR hO, hN, hP.trans hP12⟩
  ·replace h12 := h12.1 rfl
   refine AW.cutM (gg) s12 [(1, vL 1 0 (0)), (2, .slice none 0 0), (3, vS q l.length), (4, vI (i : Int)), (7, vB true), (12, vB true)] [(1, 0, cNV g)] ⟨rfl, rfl, rfl, rfl, rfl, rfl, trivial⟩ ⟨rfl, trivial⟩ rfl fun ρ0 ff => ?_
   refine op_one (z := 1) (a := ((i : Int) : Int)) (f := fI) rfl rfl rfl rfl rfl (by decide) rfl (Nat.le_of_ble_eq_true rfl) rfl rfl rfl ?_
   refine op_snoc (z := 1) (st := s12) (f := fI) (b := 8) (l := l) (x := (i : Int)) rfl rfl rfl rfl rfl rfl rfl (by decide) fI_len rfl rfl rfl (by omega) (by unfold maxLen; omega) (hP12.ownR hO) ?_
   intro q16 s16 hO16 hP16 hN16
   refine AW.cutM (gg) s16 [(1, vL 1 0 (0)), (2, .slice none 0 0), (3, vS q16 (l ++ [(i : Int)]).length), (4, vI (i : Int)), (7, vB true), (12, vB true)] [(1, 0, cNV g)] ⟨rfl, rfl, rfl, rfl, rfl, rfl, trivial⟩ ⟨rfl, trivial⟩ rfl fun ρ0 ff => ?_
   have ew9 : IntKind.wrap .i64 ((i : Int) + (1)) = ((i + 1 : Nat) : Int) := (wrap_i64 (by omega) (by omega)).trans (by omega)
   refine ⟨_, rfl, ?_⟩
   exact ⟨(i + 1, q16, l ++ [(i : Int)]), 5 - (i + 1), by omega, ⟨rfl, rfl, rfl, congrArg (Value.int .i64) ew9, trivial⟩, ⟨rfl, trivial⟩, rfl, by simp only; omega, by rw [susps_in h12, ← hv], hO16, hN16.le (hP.trans hP12).1, hP16.pres (hP.trans hP12) hN⟩
theorem ac_spec_Suspects (g : NV) (st : St) (hR : RdN st g) (hb : bigN g.x) : C 15 [.agg #[vI g.id, vI g.n, vS g.s.p g.s.x.items.length, vS g.s.q g.s.x.floors.length, vS g.t.p g.t.l.length, vI g.t.root, vI g.g.cap, vI g.g.frm, vS g.g.p g.g.l.length, vS g.got.p g.got.l.length, vS g.acked.p g.acked.l.length, vS g.seen.p g.seen.t.length, vI g.num, vI g.slots, vS g.sess.p g.sess.l.length, vI g.wait, vI g.limit, vI g.clock, vS g.rises.p g.rises.l.length]] st (fun v s => ∃ u : RV, v = vS u.p u.l.length ∧ u.l = suspsF g.x 5 ∧ OwnP s (pcIs u) ∧ NewP st.next (pcIs u) ∧ Pres st s) := by
 refine AC.enterX (i := ⟨[1], [1], [0, 1, 2, 3, 4, 7, 12]⟩) [] Tryz.func15 rfl rfl (by kernel_rfl) (by kernel_rfl) Tryz.ntmps15 (Nat.le_of_ble_eq_true rfl) rfl ?_
 refine ⟨_, rfl, ?_⟩
 refine AW.cutM (1) st [(1, vL 1 0 (0)), (2, .slice none 0 0)] [(1, 0, cNV g)] ⟨rfl, rfl, trivial⟩ ⟨rfl, trivial⟩ rfl fun ρ0 ff => ?_
 refine op_nilK (z := 1) (f := fI) rfl rfl rfl rfl (by decide) rfl ?_
 intro q5 s5 hO5 hP5 hN5
 refine cxs ?_
 refine AW.cutM (1) s5 [(1, vL 1 0 (0)), (2, .slice none 0 0), (3, vS q5 0), (4, vI (0))] [(1, 0, cNV g)] ⟨rfl, rfl, rfl, rfl, trivial⟩ ⟨rfl, trivial⟩ rfl fun ρ0 ff => ?_
 refine AW.loopM (fun x : Nat × Option Addr × List Int => [(1, vL 1 0 (0)), (2, .slice none 0 0), (3, vS x.2.1 x.2.2.length), (4, vI (x.1 : Int))]) (fun x : Nat × Option Addr × List Int => [(1, 0, cNV g)]) (fun m (x : Nat × Option Addr × List Int) st' => m = 5 - x.1 ∧ x.1 ≤ 5 ∧ x.2.2 = suspsF g.x x.1 ∧ OwnR st' 1 fI x.2.1 x.2.2 ∧ New st.next x.2.1 ∧ Pres st st') (0, q5, []) _ ⟨rfl, rfl, rfl, rfl, trivial⟩ ⟨rfl, trivial⟩ ⟨rfl, Nat.zero_le _, rfl, hO5, hN5, hP5⟩ ?_
 rintro m ⟨i, q, l⟩ ρ0 ff gg st' ⟨rfl, hi, hv, hO, hN, hP⟩
 simp only at hi hv hO hN
 have hll : l.length ≤ i := by rw [hv]; exact susps_len _ _
 refine ⟨_, rfl, ?_⟩
 rintro (_|_) h7
 ·replace h7 : ¬ ((i : Int) < (5)) := of_decide_eq_false h7
  refine AW.cutM (gg) st' [(1, vL 1 0 (0)), (2, .slice none 0 0), (3, vS q l.length), (4, vI (i : Int)), (7, vB false)] [(1, 0, cNV g)] ⟨rfl, rfl, rfl, rfl, rfl, trivial⟩ ⟨rfl, trivial⟩ rfl fun ρ0 ff => ?_
  refine cxs ?_
  refine cxs ?_
  have hle : l = suspsF g.x 5 := by rw [hv, show i = 5 by omega]
  exact ⟨.inl rfl, _, rfl, ⟨q, l⟩, rfl, hle, OwnP.one (own_pc hO), NewP.cons hN NewP.nil, hP⟩
 ·replace h7 : (i : Int) < (5) := of_decide_eq_true h7
  refine AW.cutM (gg) st' [(1, vL 1 0 (0)), (2, .slice none 0 0), (3, vS q l.length), (4, vI (i : Int)), (7, vB true)] [(1, 0, cNV g)] ⟨rfl, rfl, rfl, rfl, rfl, trivial⟩ ⟨rfl, trivial⟩ rfl fun ρ0 ff => ?_
  refine cxs ?_
  refine ⟨_, op_ldo (v := (vNV g)) rfl rfl rfl rfl, ?_⟩
  refine ⟨_, rfl, (ac_spec_Suspect g (i : Int) st' (hR.pres hP) (by first | assumption | omega)).mono ?_⟩
  rintro _ s12 ⟨x12, rfl, h12, hP12⟩
  rcases x12 with _|_
  ·replace h12 := fun k => Bool.false_ne_true (h12.2 k)
   refine AW.cutM (gg) s12 [(1, vL 1 0 (0)), (2, .slice none 0 0), (3, vS q l.length), (4, vI (i : Int)), (7, vB true), (12, vB false)] [(1, 0, cNV g)] ⟨rfl, rfl, rfl, rfl, rfl, rfl, trivial⟩ ⟨rfl, trivial⟩ rfl fun ρ0 ff => ?_
   refine cxs ?_
   have ew9 : IntKind.wrap .i64 ((i : Int) + (1)) = ((i + 1 : Nat) : Int) := (wrap_i64 (by omega) (by omega)).trans (by omega)
   refine ⟨_, rfl, ?_⟩
   exact ⟨(i + 1, q, l), 5 - (i + 1), by omega, ⟨rfl, rfl, rfl, congrArg (Value.int .i64) ew9, trivial⟩, ⟨rfl, trivial⟩, rfl, by simp only; omega, by rw [susps_out h12]; exact hv, hP12.ownR hO, hN, hP.trans hP12⟩
  ·replace h12 := h12.1 rfl
   refine AW.cutM (gg) s12 [(1, vL 1 0 (0)), (2, .slice none 0 0), (3, vS q l.length), (4, vI (i : Int)), (7, vB true), (12, vB true)] [(1, 0, cNV g)] ⟨rfl, rfl, rfl, rfl, rfl, rfl, trivial⟩ ⟨rfl, trivial⟩ rfl fun ρ0 ff => ?_
   refine op_one (z := 1) (a := ((i : Int) : Int)) (f := fI) rfl rfl rfl rfl rfl (by decide) rfl (Nat.le_of_ble_eq_true rfl) rfl rfl rfl ?_
   refine op_snoc (z := 1) (st := s12) (f := fI) (b := 8) (l := l) (x := (i : Int)) rfl rfl rfl rfl rfl rfl rfl (by decide) fI_len rfl rfl rfl (by omega) (by unfold maxLen; omega) (hP12.ownR hO) ?_
   intro q16 s16 hO16 hP16 hN16
   refine AW.cutM (gg) s16 [(1, vL 1 0 (0)), (2, .slice none 0 0), (3, vS q16 (l ++ [(i : Int)]).length), (4, vI (i : Int)), (7, vB true), (12, vB true)] [(1, 0, cNV g)] ⟨rfl, rfl, rfl, rfl, rfl, rfl, trivial⟩ ⟨rfl, trivial⟩ rfl fun ρ0 ff => ?_
   have ew9 : IntKind.wrap .i64 ((i : Int) + (1)) = ((i + 1 : Nat) : Int) := (wrap_i64 (by omega) (by omega)).trans (by omega)
   refine ⟨_, rfl, ?_⟩
   exact ⟨(i + 1, q16, l ++ [(i : Int)]), 5 - (i + 1), by omega, ⟨rfl, rfl, rfl, congrArg (Value.int .i64) ew9, trivial⟩, ⟨rfl, trivial⟩, rfl, by simp only; omega, by rw [susps_in h12, ← hv], hO16, hN16.le (hP.trans hP12).1, hP16.pres (hP.trans hP12) hN⟩
abbrev pcTV (u : TV) : List Pc := pcIs u.toRV
def mkTV (u : TV) (k : Int) : TV := ⟨mkIs u.toRV k, u.root⟩
theorem mkp_TV (u : TV) (k : Int) : (pcTV (mkTV u k)).map (·.p) = (pcTV u).map (·.p) := rfl
def RdTr (st : St) (t : TV) : Prop := Rows st 1 fI t.p t.l
theorem RdTr.pres {st st' : St} {t : TV} (h : RdTr st t) (k : Pres st st') : RdTr st' t := k.rows h
abbrev cntTV (t : Tr) : Nat := t.leaves.length
def bigTr (t : Tr) : Prop := t.leaves.length ≤ 1048576
theorem uc_markTree (u : TV) (k : Int) (st : St) (hO : OwnP st (pcTV u)) (hb : bigTr u.x) (h0 : 0 ≤ k) (hk : k ≤ 137438953472) : C 63 [.agg #[vS u.p u.l.length, vI u.root], vI k] st (fun v s => v = vI (k + (cntTV u.x : Int)) ∧ OwnP s (pcTV (mkTV u k)) ∧ PrL ((pcTV u).map (·.p)) st s) := by
 refine AC.enterX (i := ⟨[2], [2, 5], [0, 1, 2, 4]⟩) [] Tryz.func63 rfl rfl (by kernel_rfl) (by kernel_rfl) Tryz.ntmps63 (Nat.le_of_ble_eq_true rfl) rfl ?_
 refine ⟨_, rfl, ?_⟩
 refine AW.cutM (1) st [(1, vI k), (2, vL 2 0 (0)), (4, vI (0))] [(2, 0, [vS u.p u.l.length, vI u.root])] ⟨rfl, rfl, rfl, trivial⟩ ⟨rfl, trivial⟩ rfl fun ρ0 ff => ?_
 refine ⟨_, rfl, ?_⟩
 refine ⟨_, op_ldo rfl rfl rfl rfl, ?_⟩
 refine ⟨_, rfl, (uc_markIntS u.toRV k st hO hb h0 hk).mono ?_⟩
 rintro _ s8 ⟨rfl, hO8, hP8⟩
 refine cxs ?_
 refine cxs ?_
 exact ⟨.inl rfl, _, rfl, rfl, hO8, hP8⟩
def putT {α : Type} (t : List α) (K : Nat) (x : α) : List α := t.take K ++ x :: t.drop (K + 1)
theorem OwnP.put {st st' : St} {q : Option Addr} {u : List RV} {K : Nat} {a : Option Addr} {l l' : List Int} (h : OwnP st (pcT q (putT u K ⟨a, l⟩))) (hp : Pr a st st') (ho : OwnR st' 1 fI a l') (hl : l'.length = l.length) : OwnP st' (pcT q (putT u K ⟨a, l'⟩)) := by
 have h1 : pcT q (putT u K ⟨a, l⟩) = (pcR 1 cRV q (putT u K ⟨a, l⟩) :: (u.take K).map pcRV) ++ pcRV ⟨a, l⟩ :: (u.drop (K + 1)).map pcRV := by simp [pcT, putT]
 have h2 : pcT q (putT u K ⟨a, l'⟩) = (pcR 1 cRV q (putT u K ⟨a, l⟩) :: (u.take K).map pcRV) ++ pcRV ⟨a, l'⟩ :: (u.drop (K + 1)).map pcRV := by simp [pcT, putT, pcR, hl]
 rw [h1] at h
 rw [h2]
 exact OwnP.update h hp (own_pc ho) rfl
theorem Frs.lw {a b : St} {u : LV} (h : Frs a b (pcL u.p u.l)) : ∃ w : LW, w.v = u ∧ Frs a b (pcLog w) := by
 obtain ⟨w, hw, hO, hC⟩ := h.1.lw
 refine ⟨w, hw, hO, ?_, h.2.2⟩
 subst hw
 show NewP a.next (w.C :: w.l.flatMap pcS)
 rw [hC]; exact h.2.1
theorem Frs.one {α : Type} {a b : St} {z : Nat} {f : α → List Value} {p : Option Addr} {l : List α} (hO : OwnR b z f p l) (hN : New a.next p) (hP : Pres a b) : Frs a b [pcR z f p l] := ⟨OwnP.one (own_pc hO), NewP.cons hN NewP.nil, hP⟩
theorem Frs.nil (a : St) : Frs a a [] := ⟨OwnP.nil, NewP.nil, Pres.refl _⟩
def mkSes (k : Int) : Ses := ⟨k, k + 1, (k + 2).tmod 3 == 0, k + 3⟩
def mkRis (k : Int) : Ris := ⟨k, k + 1, k + 2⟩
theorem ac_laws_markSessS (p : Option Addr) (l : List Ses) (k : Int) (st : St) (hO : OwnR st 4 cSess p l) (hs : szOk l.length) (h0 : 0 ≤ k) (hk : k ≤ 549755813888) : C 66 [vS p l.length, vI k] st (fun v s => v = vI (k + 4 * (l.length : Int)) ∧ OwnR s 4 cSess p (mkRow mkSes 4 l.length k) ∧ Pr p st s) := by
 have hs : l.length ≤ 1048576 := hs
 refine AC.enterX (i := ⟨[], [], [0, 1, 4, 5, 9]⟩) [] Tryz.func66 rfl rfl (by kernel_rfl) (by kernel_rfl) Tryz.ntmps66 (Nat.le_of_ble_eq_true rfl) rfl ?_
 refine cxs ?_
 refine AW.cut lo0 st [(0, vS p l.length), (1, vI k), (4, vI (0)), (5, vI (0))] ⟨rfl, rfl, rfl, rfl, trivial⟩ fun ρ0 => ?_
 refine AW.loop0 (fun i : Nat => [(0, vS p l.length), (1, vI (k + 4 * (i : Int))), (5, vI (i : Int))]) (fun m (i : Nat) st' => m = l.length - i ∧ i ≤ l.length ∧ OwnR st' 4 cSess p (mkRow mkSes 4 i k ++ l.drop i) ∧ Pr p st st') 0 _ ⟨rfl, congrArg (Value.int .i64) (show k = k + 4 * ((0 : Nat) : Int) by omega), rfl, trivial⟩ rfl ⟨rfl, Nat.zero_le _, by simpa [mkRow] using hO, Pr.refl _ _⟩ ?_
 rintro m i ρ0 st' ⟨rfl, hi, hO0, hP0⟩
 iterate 2 refine ⟨_, rfl, ?_⟩
 rintro (_|_) h1
 ·replace h1 : ¬ ((i : Int) < (l.length : Int)) := of_decide_eq_false h1
  refine AW.cut lo0 st' [(0, vS p l.length), (1, vI (k + 4 * (i : Int))), (5, vI (i : Int)), (9, vB false)] ⟨rfl, rfl, rfl, rfl, trivial⟩ fun ρ0 => ?_
  refine cxs ?_
  refine cxs ?_
  have hil : i = l.length := by omega
  subst hil
  rw [List.drop_length, List.append_nil] at hO0
  exact ⟨.inl rfl, _, rfl, rfl, hO0, hP0⟩
 ·replace h1 : (i : Int) < (l.length : Int) := of_decide_eq_true h1
  refine AW.cut lo0 st' [(0, vS p l.length), (1, vI (k + 4 * (i : Int))), (5, vI (i : Int)), (9, vB true)] ⟨rfl, rfl, rfl, rfl, trivial⟩ fun ρ0 => ?_
  have h1' := Int.ofNat_lt.1 h1
  have hlen : i < (mkRow mkSes 4 i k ++ l.drop i).length := by rw [List.length_append, mkRow_len, List.length_drop]; omega
  have ⟨a, ha⟩ := hO0.some (by omega)
  obtain ⟨w, hw⟩ : ∃ w, (mkRow mkSes 4 i k ++ l.drop i)[i]? = some w := ⟨_, List.getElem?_eq_getElem hlen⟩
  have hset := mkRow_set (mk := mkSes) (z := 4) (k := k) h1'
  refine cxs ?_
  refine ⟨_, op_idx (j := (i : Int)) (n := l.length) (q := ⟨a, 0, none⟩) rfl (congrArg (fun u => vS u l.length) ha) rfl rfl rfl (Int.natCast_nonneg _) h1, ?_⟩
  refine ⟨_, rfl, ?_⟩
  refine op_putc (z := 4) (i := 0) (st := st') (f := cSess) (j := i) (l := (mkRow mkSes 4 i k ++ l.drop i)) (w := w) (y := ((⟨(k + 4 * (i : Int)), w.num, w.inn, w.age⟩ : Ses) : Ses)) (p := p) (d := 0 + i * 4 + 0) rfl rfl (by omega) rfl rfl len_cSess rfl rfl hw (by decide) rfl hO0 ha ?_
  intro s1 hO1 hP1 hn1
  have hQ1 : Pr p st s1 := hP0.trans hP1
  refine AW.cut lo0 s1 [(0, vS p l.length), (1, vI (k + 4 * (i : Int))), (5, vI (i : Int)), (9, vB true)] ⟨rfl, rfl, rfl, rfl, trivial⟩ fun ρ0 => ?_
  have e18 : IntKind.wrap .i64 (k + 4 * (i : Int) + 1) = k + 4 * (i : Int) + 1 := (wrap_i64 (by omega) (by omega)).trans (by omega)
  refine ⟨_, rfl, ?_⟩
  refine AW.cut lo0 s1 [(0, vS p l.length), (1, vI (k + 4 * (i : Int) + 1)), (5, vI (i : Int)), (9, vB true)] ⟨rfl, congrArg (Value.int .i64) e18, rfl, rfl, trivial⟩ fun ρ0 => ?_
  refine ⟨_, op_idx (j := (i : Int)) (n := l.length) (q := ⟨a, 0, none⟩) rfl (congrArg (fun u => vS u l.length) ha) rfl rfl rfl (Int.natCast_nonneg _) h1, ?_⟩
  refine ⟨_, rfl, ?_⟩
  refine op_putc (z := 4) (i := 1) (st := s1) (f := cSess) (j := i) (l := ((mkRow mkSes 4 i k ++ l.drop i).set i (⟨(k + 4 * (i : Int)), w.num, w.inn, w.age⟩ : Ses))) (w := (⟨(k + 4 * (i : Int)), w.num, w.inn, w.age⟩ : Ses)) (y := ((⟨(k + 4 * (i : Int)), (k + 4 * (i : Int)) + 1, w.inn, w.age⟩ : Ses) : Ses)) (p := p) (d := 0 + i * 4 + 1) rfl rfl (by omega) rfl rfl len_cSess rfl rfl (getElem?_set_same hlen) (by decide) rfl hO1 ha ?_
  intro s2 hO2 hP2 hn2
  rw [set_set] at hO2
  have hQ2 : Pr p st s2 := hQ1.trans hP2
  refine AW.cut lo0 s2 [(0, vS p l.length), (1, vI (k + 4 * (i : Int) + 1)), (5, vI (i : Int)), (9, vB true)] ⟨rfl, rfl, rfl, rfl, trivial⟩ fun ρ0 => ?_
  have e25 : IntKind.wrap .i64 (k + 4 * (i : Int) + 1 + 1) = k + 4 * (i : Int) + 2 := (wrap_i64 (by omega) (by omega)).trans (by omega)
  refine ⟨_, rfl, ?_⟩
  refine AW.cut lo0 s2 [(0, vS p l.length), (1, vI (k + 4 * (i : Int) + 2)), (5, vI (i : Int)), (9, vB true)] ⟨rfl, congrArg (Value.int .i64) e25, rfl, rfl, trivial⟩ fun ρ0 => ?_
  refine ⟨_, op_rem rfl rfl rfl (by decide), ?_⟩
  refine ⟨_, rfl, ?_⟩
  rintro _ rfl
  refine ⟨_, op_idx (j := (i : Int)) (n := l.length) (q := ⟨a, 0, none⟩) rfl (congrArg (fun u => vS u l.length) ha) rfl rfl rfl (Int.natCast_nonneg _) h1, ?_⟩
  refine ⟨_, rfl, ?_⟩
  refine op_putc (z := 4) (i := 2) (st := s2) (f := cSess) (j := i) (l := ((mkRow mkSes 4 i k ++ l.drop i).set i (⟨(k + 4 * (i : Int)), (k + 4 * (i : Int)) + 1, w.inn, w.age⟩ : Ses))) (w := (⟨(k + 4 * (i : Int)), (k + 4 * (i : Int)) + 1, w.inn, w.age⟩ : Ses)) (y := ((⟨(k + 4 * (i : Int)), (k + 4 * (i : Int)) + 1, ((k + 4 * (i : Int)) + 2).tmod 3 == 0, w.age⟩ : Ses) : Ses)) (p := p) (d := 0 + i * 4 + 2) rfl rfl (by omega) rfl rfl len_cSess rfl rfl (getElem?_set_same hlen) (by decide) rfl hO2 ha ?_
  intro s3 hO3 hP3 hn3
  rw [set_set] at hO3
  have hQ3 : Pr p st s3 := hQ2.trans hP3
  refine AW.cut lo0 s3 [(0, vS p l.length), (1, vI (k + 4 * (i : Int) + 2)), (5, vI (i : Int)), (9, vB true)] ⟨rfl, rfl, rfl, rfl, trivial⟩ fun ρ0 => ?_
  have e34 : IntKind.wrap .i64 (k + 4 * (i : Int) + 2 + 1) = k + 4 * (i : Int) + 3 := (wrap_i64 (by omega) (by omega)).trans (by omega)
  refine ⟨_, rfl, ?_⟩
  refine AW.cut lo0 s3 [(0, vS p l.length), (1, vI (k + 4 * (i : Int) + 3)), (5, vI (i : Int)), (9, vB true)] ⟨rfl, congrArg (Value.int .i64) e34, rfl, rfl, trivial⟩ fun ρ0 => ?_
  refine ⟨_, op_idx (j := (i : Int)) (n := l.length) (q := ⟨a, 0, none⟩) rfl (congrArg (fun u => vS u l.length) ha) rfl rfl rfl (Int.natCast_nonneg _) h1, ?_⟩
  refine ⟨_, rfl, ?_⟩
  refine op_putc (z := 4) (i := 3) (st := s3) (f := cSess) (j := i) (l := ((mkRow mkSes 4 i k ++ l.drop i).set i (⟨(k + 4 * (i : Int)), (k + 4 * (i : Int)) + 1, ((k + 4 * (i : Int)) + 2).tmod 3 == 0, w.age⟩ : Ses))) (w := (⟨(k + 4 * (i : Int)), (k + 4 * (i : Int)) + 1, ((k + 4 * (i : Int)) + 2).tmod 3 == 0, w.age⟩ : Ses)) (y := ((⟨(k + 4 * (i : Int)), (k + 4 * (i : Int)) + 1, ((k + 4 * (i : Int)) + 2).tmod 3 == 0, (k + 4 * (i : Int)) + 3⟩ : Ses) : Ses)) (p := p) (d := 0 + i * 4 + 3) rfl rfl (by omega) rfl rfl len_cSess rfl rfl (getElem?_set_same hlen) (by decide) rfl hO3 ha ?_
  intro s4 hO4 hP4 hn4
  rw [set_set] at hO4
  have hQ4 : Pr p st s4 := hQ3.trans hP4
  refine AW.cut lo0 s4 [(0, vS p l.length), (1, vI (k + 4 * (i : Int) + 3)), (5, vI (i : Int)), (9, vB true)] ⟨rfl, rfl, rfl, rfl, trivial⟩ fun ρ0 => ?_
  have e41 : IntKind.wrap .i64 (k + 4 * (i : Int) + 3 + 1) = k + 4 * ((i + 1 : Nat) : Int) := (wrap_i64 (by omega) (by omega)).trans (by omega)
  refine ⟨_, rfl, ?_⟩
  refine AW.cut lo0 s4 [(0, vS p l.length), (1, vI (k + 4 * ((i + 1 : Nat) : Int))), (5, vI (i : Int)), (9, vB true)] ⟨rfl, congrArg (Value.int .i64) e41, rfl, rfl, trivial⟩ fun ρ0 => ?_
  have e11 : IntKind.wrap .i64 ((i : Int) + 1) = ((i + 1 : Nat) : Int) := (wrap_i64 (by omega) (by omega)).trans (by omega)
  refine ⟨_, rfl, ?_⟩
  exact ⟨i + 1, l.length - (i + 1), by omega, ⟨rfl, rfl, congrArg (Value.int .i64) e11, trivial⟩, rfl, rfl, h1', (show OwnR s4 4 cSess p (mkRow mkSes 4 (i + 1) k ++ l.drop (i + 1)) by rw [← hset]; exact hO4), hQ4⟩
theorem ac_laws_markRiseS (p : Option Addr) (l : List Ris) (k : Int) (st : St) (hO : OwnR st 3 cRise p l) (hs : szOk l.length) (h0 : 0 ≤ k) (hk : k ≤ 549755813888) : C 67 [vS p l.length, vI k] st (fun v s => v = vI (k + 3 * (l.length : Int)) ∧ OwnR s 3 cRise p (mkRow mkRis 3 l.length k) ∧ Pr p st s) := by
 have hs : l.length ≤ 1048576 := hs
 refine AC.enterX (i := ⟨[], [], [0, 1, 4, 5, 9]⟩) [] Tryz.func67 rfl rfl (by kernel_rfl) (by kernel_rfl) Tryz.ntmps67 (Nat.le_of_ble_eq_true rfl) rfl ?_
 refine cxs ?_
 refine AW.cut lo0 st [(0, vS p l.length), (1, vI k), (4, vI (0)), (5, vI (0))] ⟨rfl, rfl, rfl, rfl, trivial⟩ fun ρ0 => ?_
 refine AW.loop0 (fun i : Nat => [(0, vS p l.length), (1, vI (k + 3 * (i : Int))), (5, vI (i : Int))]) (fun m (i : Nat) st' => m = l.length - i ∧ i ≤ l.length ∧ OwnR st' 3 cRise p (mkRow mkRis 3 i k ++ l.drop i) ∧ Pr p st st') 0 _ ⟨rfl, congrArg (Value.int .i64) (show k = k + 3 * ((0 : Nat) : Int) by omega), rfl, trivial⟩ rfl ⟨rfl, Nat.zero_le _, by simpa [mkRow] using hO, Pr.refl _ _⟩ ?_
 rintro m i ρ0 st' ⟨rfl, hi, hO0, hP0⟩
 iterate 2 refine ⟨_, rfl, ?_⟩
 rintro (_|_) h1
 ·replace h1 : ¬ ((i : Int) < (l.length : Int)) := of_decide_eq_false h1
  refine AW.cut lo0 st' [(0, vS p l.length), (1, vI (k + 3 * (i : Int))), (5, vI (i : Int)), (9, vB false)] ⟨rfl, rfl, rfl, rfl, trivial⟩ fun ρ0 => ?_
  refine cxs ?_
  refine cxs ?_
  have hil : i = l.length := by omega
  subst hil
  rw [List.drop_length, List.append_nil] at hO0
  exact ⟨.inl rfl, _, rfl, rfl, hO0, hP0⟩
 ·replace h1 : (i : Int) < (l.length : Int) := of_decide_eq_true h1
  refine AW.cut lo0 st' [(0, vS p l.length), (1, vI (k + 3 * (i : Int))), (5, vI (i : Int)), (9, vB true)] ⟨rfl, rfl, rfl, rfl, trivial⟩ fun ρ0 => ?_
  have h1' := Int.ofNat_lt.1 h1
  have hlen : i < (mkRow mkRis 3 i k ++ l.drop i).length := by rw [List.length_append, mkRow_len, List.length_drop]; omega
  have ⟨a, ha⟩ := hO0.some (by omega)
  obtain ⟨w, hw⟩ : ∃ w, (mkRow mkRis 3 i k ++ l.drop i)[i]? = some w := ⟨_, List.getElem?_eq_getElem hlen⟩
  have hset := mkRow_set (mk := mkRis) (z := 3) (k := k) h1'
  refine cxs ?_
  refine ⟨_, op_idx (j := (i : Int)) (n := l.length) (q := ⟨a, 0, none⟩) rfl (congrArg (fun u => vS u l.length) ha) rfl rfl rfl (Int.natCast_nonneg _) h1, ?_⟩
  refine ⟨_, rfl, ?_⟩
  refine op_putc (z := 3) (i := 0) (st := st') (f := cRise) (j := i) (l := (mkRow mkRis 3 i k ++ l.drop i)) (w := w) (y := ((⟨(k + 3 * (i : Int)), w.beat, w.tick⟩ : Ris) : Ris)) (p := p) (d := 0 + i * 3 + 0) rfl rfl (by omega) rfl rfl len_cRise rfl rfl hw (by decide) rfl hO0 ha ?_
  intro s1 hO1 hP1 hn1
  have hQ1 : Pr p st s1 := hP0.trans hP1
  refine AW.cut lo0 s1 [(0, vS p l.length), (1, vI (k + 3 * (i : Int))), (5, vI (i : Int)), (9, vB true)] ⟨rfl, rfl, rfl, rfl, trivial⟩ fun ρ0 => ?_
  have e18 : IntKind.wrap .i64 (k + 3 * (i : Int) + 1) = k + 3 * (i : Int) + 1 := (wrap_i64 (by omega) (by omega)).trans (by omega)
  refine ⟨_, rfl, ?_⟩
  refine AW.cut lo0 s1 [(0, vS p l.length), (1, vI (k + 3 * (i : Int) + 1)), (5, vI (i : Int)), (9, vB true)] ⟨rfl, congrArg (Value.int .i64) e18, rfl, rfl, trivial⟩ fun ρ0 => ?_
  refine ⟨_, op_idx (j := (i : Int)) (n := l.length) (q := ⟨a, 0, none⟩) rfl (congrArg (fun u => vS u l.length) ha) rfl rfl rfl (Int.natCast_nonneg _) h1, ?_⟩
  refine ⟨_, rfl, ?_⟩
  refine op_putc (z := 3) (i := 1) (st := s1) (f := cRise) (j := i) (l := ((mkRow mkRis 3 i k ++ l.drop i).set i (⟨(k + 3 * (i : Int)), w.beat, w.tick⟩ : Ris))) (w := (⟨(k + 3 * (i : Int)), w.beat, w.tick⟩ : Ris)) (y := ((⟨(k + 3 * (i : Int)), (k + 3 * (i : Int)) + 1, w.tick⟩ : Ris) : Ris)) (p := p) (d := 0 + i * 3 + 1) rfl rfl (by omega) rfl rfl len_cRise rfl rfl (getElem?_set_same hlen) (by decide) rfl hO1 ha ?_
  intro s2 hO2 hP2 hn2
  rw [set_set] at hO2
  have hQ2 : Pr p st s2 := hQ1.trans hP2
  refine AW.cut lo0 s2 [(0, vS p l.length), (1, vI (k + 3 * (i : Int) + 1)), (5, vI (i : Int)), (9, vB true)] ⟨rfl, rfl, rfl, rfl, trivial⟩ fun ρ0 => ?_
  have e25 : IntKind.wrap .i64 (k + 3 * (i : Int) + 1 + 1) = k + 3 * (i : Int) + 2 := (wrap_i64 (by omega) (by omega)).trans (by omega)
  refine ⟨_, rfl, ?_⟩
  refine AW.cut lo0 s2 [(0, vS p l.length), (1, vI (k + 3 * (i : Int) + 2)), (5, vI (i : Int)), (9, vB true)] ⟨rfl, congrArg (Value.int .i64) e25, rfl, rfl, trivial⟩ fun ρ0 => ?_
  refine ⟨_, op_idx (j := (i : Int)) (n := l.length) (q := ⟨a, 0, none⟩) rfl (congrArg (fun u => vS u l.length) ha) rfl rfl rfl (Int.natCast_nonneg _) h1, ?_⟩
  refine ⟨_, rfl, ?_⟩
  refine op_putc (z := 3) (i := 2) (st := s2) (f := cRise) (j := i) (l := ((mkRow mkRis 3 i k ++ l.drop i).set i (⟨(k + 3 * (i : Int)), (k + 3 * (i : Int)) + 1, w.tick⟩ : Ris))) (w := (⟨(k + 3 * (i : Int)), (k + 3 * (i : Int)) + 1, w.tick⟩ : Ris)) (y := ((⟨(k + 3 * (i : Int)), (k + 3 * (i : Int)) + 1, (k + 3 * (i : Int)) + 2⟩ : Ris) : Ris)) (p := p) (d := 0 + i * 3 + 2) rfl rfl (by omega) rfl rfl len_cRise rfl rfl (getElem?_set_same hlen) (by decide) rfl hO2 ha ?_
  intro s3 hO3 hP3 hn3
  rw [set_set] at hO3
  have hQ3 : Pr p st s3 := hQ2.trans hP3
  refine AW.cut lo0 s3 [(0, vS p l.length), (1, vI (k + 3 * (i : Int) + 2)), (5, vI (i : Int)), (9, vB true)] ⟨rfl, rfl, rfl, rfl, trivial⟩ fun ρ0 => ?_
  have e32 : IntKind.wrap .i64 (k + 3 * (i : Int) + 2 + 1) = k + 3 * ((i + 1 : Nat) : Int) := (wrap_i64 (by omega) (by omega)).trans (by omega)
  refine ⟨_, rfl, ?_⟩
  refine AW.cut lo0 s3 [(0, vS p l.length), (1, vI (k + 3 * ((i + 1 : Nat) : Int))), (5, vI (i : Int)), (9, vB true)] ⟨rfl, congrArg (Value.int .i64) e32, rfl, rfl, trivial⟩ fun ρ0 => ?_
  have e11 : IntKind.wrap .i64 ((i : Int) + 1) = ((i + 1 : Nat) : Int) := (wrap_i64 (by omega) (by omega)).trans (by omega)
  refine ⟨_, rfl, ?_⟩
  exact ⟨i + 1, l.length - (i + 1), by omega, ⟨rfl, rfl, congrArg (Value.int .i64) e11, trivial⟩, rfl, rfl, h1', (show OwnR s3 3 cRise p (mkRow mkRis 3 (i + 1) k ++ l.drop (i + 1)) by rw [← hset]; exact hO3), hQ3⟩
def mkSesR (g : SesV) (k : Int) : SesV := ⟨g.p, mkRow mkSes 4 g.l.length k⟩
theorem mkp_SesR (g : SesV) (k : Int) : (pcSes (mkSesR g k)).map (·.p) = (pcSes g).map (·.p) := rfl
theorem uc_markSessS (u : SesV) (k : Int) (st : St) (hO : OwnP st (pcSes u)) (hb : szOk u.l.length) (h0 : 0 ≤ k) (hk : k ≤ 274877906944) : C 66 [vS u.p u.l.length, vI k] st (fun v s => v = vI (k + ((4 * u.l.length : Nat) : Int)) ∧ OwnP s (pcSes (mkSesR u k)) ∧ PrL ((pcSes u).map (·.p)) st s) :=
 (ac_laws_markSessS u.p u.l k st (own_one (by decide) len_cSess hO) hb h0 (by omega)).mono fun v s ⟨h1, h2, h3⟩ => ⟨h1.trans (congrArg (Value.int .i64) (by omega)), OwnP.one (own_pc h2), h3.l (List.mem_singleton_self _)⟩
def mkRisR (g : RisV) (k : Int) : RisV := ⟨g.p, mkRow mkRis 3 g.l.length k⟩
theorem mkp_RisR (g : RisV) (k : Int) : (pcRis (mkRisR g k)).map (·.p) = (pcRis g).map (·.p) := rfl
theorem uc_markRiseS (u : RisV) (k : Int) (st : St) (hO : OwnP st (pcRis u)) (hb : szOk u.l.length) (h0 : 0 ≤ k) (hk : k ≤ 274877906944) : C 67 [vS u.p u.l.length, vI k] st (fun v s => v = vI (k + ((3 * u.l.length : Nat) : Int)) ∧ OwnP s (pcRis (mkRisR u k)) ∧ PrL ((pcRis u).map (·.p)) st s) :=
 (ac_laws_markRiseS u.p u.l k st (own_one (by decide) len_cRise hO) hb h0 (by omega)).mono fun v s ⟨h1, h2, h3⟩ => ⟨h1.trans (congrArg (Value.int .i64) (by omega)), OwnP.one (own_pc h2), h3.l (List.mem_singleton_self _)⟩
theorem OwnP.rot {st : St} {a b : List Pc} (h : OwnP st (a ++ b)) : OwnP st (b ++ a) := h.perm List.perm_append_comm
def mkNode (u : NW) (k : Int) : NW := { u with s := mkState u.s k, t := mkTV u.t (k + (cntState u.s.x : Int)), g := mkLog u.g (k + (cntState u.s.x : Int) + (cntTV u.t.x : Int)), got := mkIs u.got (k + (cntState u.s.x : Int) + (cntTV u.t.x : Int) + (cntLog u.g.v.x : Int)), acked := mkIs u.acked (k + (cntState u.s.x : Int) + (cntTV u.t.x : Int) + (cntLog u.g.v.x : Int) + (cntIs u.got.l : Int)), seen := mkTT u.seen (k + (cntState u.s.x : Int) + (cntTV u.t.x : Int) + (cntLog u.g.v.x : Int) + (cntIs u.got.l : Int) + (cntIs u.acked.l : Int)), sess := mkSesR u.sess (k + (cntState u.s.x : Int) + (cntTV u.t.x : Int) + (cntLog u.g.v.x : Int) + (cntIs u.got.l : Int) + (cntIs u.acked.l : Int) + (cntTab u.seen.x : Int)), rises := mkRisR u.rises (k + (cntState u.s.x : Int) + (cntTV u.t.x : Int) + (cntLog u.g.v.x : Int) + (cntIs u.got.l : Int) + (cntIs u.acked.l : Int) + (cntTab u.seen.x : Int) + ((4 * u.sess.l.length : Nat) : Int)) }
theorem mkp_Node (u : NW) (k : Int) : (pcNW (mkNode u k)).map (·.p) = (pcNW u).map (·.p) :=
 map_app2 (mkp_State _ _) (map_app2 (mkp_TV _ _) (map_app2 (mkp_Log _ _) (map_app2 (mkp_Is _ _) (map_app2 (mkp_Is _ _) (map_app2 (mkp_TT _ _) (map_app2 (mkp_SesR _ _) (mkp_RisR _ _)))))))
theorem uc_markNode (u : NW) (k : Int) (st : St) (hO : OwnP st (pcNW u)) (hb : bigN u.x) (h0 : 0 ≤ k) (hk : k + (cntNode u.x : Int) ≤ 137438953472) : C 18 [.agg #[vI u.id, vI u.n, vS u.s.p u.s.x.items.length, vS u.s.q u.s.x.floors.length, vS u.t.p u.t.l.length, vI u.t.root, vI u.g.cap, vI u.g.frm, vS u.g.p u.g.l.length, vS u.got.p u.got.l.length, vS u.acked.p u.acked.l.length, vS u.seen.p u.seen.t.length, vI u.num, vI u.slots, vS u.sess.p u.sess.l.length, vI u.wait, vI u.limit, vI u.clock, vS u.rises.p u.rises.l.length], vI k] st (fun v s => v = vI (k + (cntNode u.x : Int)) ∧ OwnP s (pcNW (mkNode u k)) ∧ PrL ((pcNW u).map (·.p)) st s) := by
 have hc : cntNode u.x = cntState u.s.x + cntTV u.t.x + cntLog u.g.v.x + cntIs u.got.l + cntIs u.acked.l + cntTab u.seen.x + 4 * u.sess.l.length + 3 * u.rises.l.length := rfl
 refine AC.enterX (i := ⟨[2], [2, 5, 9, 13, 17, 21, 25, 29, 33], [0, 1, 2, 4]⟩) [] Tryz.func18 rfl rfl (by kernel_rfl) (by kernel_rfl) Tryz.ntmps18 (Nat.le_of_ble_eq_true rfl) rfl ?_
 refine ⟨_, rfl, ?_⟩
 refine AW.cutM (1) st [(1, vI k), (2, vL 2 0 (0)), (4, vI (0))] [(2, 0, cNV u.v)] ⟨rfl, rfl, rfl, trivial⟩ ⟨rfl, trivial⟩ rfl fun ρ0 ff => ?_
 refine ⟨_, rfl, ?_⟩
 refine ⟨_, op_ldo rfl rfl rfl rfl, ?_⟩
 refine ⟨_, rfl, (uc_markState u.s k st (OwnP.left hO) hb.s (by omega) (by omega)).mono ?_⟩
 rintro _ s8 ⟨rfl, hO8, hL8⟩
 refine AW.cutM (1) s8 [(1, vI (k + (cntState u.s.x : Int))), (2, vL 2 0 (0)), (4, vI (0))] [(2, 0, cNV u.v)] ⟨rfl, rfl, rfl, trivial⟩ ⟨rfl, trivial⟩ rfl fun ρ0 ff => ?_
 have hA8 : OwnP s8 (pcTV u.t ++ (pcLog u.g ++ (pcIs u.got ++ (pcIs u.acked ++ (pcTT u.seen ++ (pcSes u.sess ++ (pcRis u.rises ++ (pcS (mkState u.s k))))))))) := by
  have := (OwnP.markG hO hO8 (mkp_State _ _) hL8).rot
  simpa only [List.append_assoc] using this
 refine ⟨_, rfl, ?_⟩
 refine ⟨_, op_ldo rfl rfl rfl rfl, ?_⟩
 refine ⟨_, rfl, (uc_markTree u.t (k + (cntState u.s.x : Int)) s8 (OwnP.left hA8) hb.t (by omega) (by omega)).mono ?_⟩
 rintro _ s12 ⟨rfl, hO12, hL12⟩
 refine AW.cutM (1) s12 [(1, vI (k + (cntState u.s.x : Int) + (cntTV u.t.x : Int))), (2, vL 2 0 (0)), (4, vI (0))] [(2, 0, cNV u.v)] ⟨rfl, rfl, rfl, trivial⟩ ⟨rfl, trivial⟩ rfl fun ρ0 ff => ?_
 have hA12 : OwnP s12 (pcLog u.g ++ (pcIs u.got ++ (pcIs u.acked ++ (pcTT u.seen ++ (pcSes u.sess ++ (pcRis u.rises ++ (pcS (mkState u.s k) ++ (pcTV (mkTV u.t (k + (cntState u.s.x : Int))))))))))) := by
  have := (OwnP.markG hA8 hO12 (mkp_TV _ _) hL12).rot
  simpa only [List.append_assoc] using this
 refine ⟨_, rfl, ?_⟩
 refine ⟨_, op_ldo rfl rfl rfl rfl, ?_⟩
 refine ⟨_, rfl, (uc_markLog u.g (k + (cntState u.s.x : Int) + (cntTV u.t.x : Int)) s12 (OwnP.left hA12) hb.g (by omega) (by omega)).mono ?_⟩
 rintro _ s16 ⟨rfl, hO16, hL16⟩
 refine AW.cutM (1) s16 [(1, vI (k + (cntState u.s.x : Int) + (cntTV u.t.x : Int) + (cntLog u.g.v.x : Int))), (2, vL 2 0 (0)), (4, vI (0))] [(2, 0, cNV u.v)] ⟨rfl, rfl, rfl, trivial⟩ ⟨rfl, trivial⟩ rfl fun ρ0 ff => ?_
 have hA16 : OwnP s16 (pcIs u.got ++ (pcIs u.acked ++ (pcTT u.seen ++ (pcSes u.sess ++ (pcRis u.rises ++ (pcS (mkState u.s k) ++ (pcTV (mkTV u.t (k + (cntState u.s.x : Int))) ++ (pcLog (mkLog u.g (k + (cntState u.s.x : Int) + (cntTV u.t.x : Int))))))))))) := by
  have := (OwnP.markG hA12 hO16 (mkp_Log _ _) hL16).rot
  simpa only [List.append_assoc] using this
 refine ⟨_, rfl, ?_⟩
 refine ⟨_, op_ldo rfl rfl rfl rfl, ?_⟩
 refine ⟨_, rfl, (uc_markIntS u.got (k + (cntState u.s.x : Int) + (cntTV u.t.x : Int) + (cntLog u.g.v.x : Int)) s16 (OwnP.left hA16) hb.got (by omega) (by omega)).mono ?_⟩
 rintro _ s20 ⟨rfl, hO20, hL20⟩
 refine AW.cutM (1) s20 [(1, vI (k + (cntState u.s.x : Int) + (cntTV u.t.x : Int) + (cntLog u.g.v.x : Int) + (cntIs u.got.l : Int))), (2, vL 2 0 (0)), (4, vI (0))] [(2, 0, cNV u.v)] ⟨rfl, rfl, rfl, trivial⟩ ⟨rfl, trivial⟩ rfl fun ρ0 ff => ?_
 have hA20 : OwnP s20 (pcIs u.acked ++ (pcTT u.seen ++ (pcSes u.sess ++ (pcRis u.rises ++ (pcS (mkState u.s k) ++ (pcTV (mkTV u.t (k + (cntState u.s.x : Int))) ++ (pcLog (mkLog u.g (k + (cntState u.s.x : Int) + (cntTV u.t.x : Int))) ++ (pcIs (mkIs u.got (k + (cntState u.s.x : Int) + (cntTV u.t.x : Int) + (cntLog u.g.v.x : Int))))))))))) := by
  have := (OwnP.markG hA16 hO20 (mkp_Is _ _) hL20).rot
  simpa only [List.append_assoc] using this
 refine ⟨_, rfl, ?_⟩
 refine ⟨_, op_ldo rfl rfl rfl rfl, ?_⟩
 refine ⟨_, rfl, (uc_markIntS u.acked (k + (cntState u.s.x : Int) + (cntTV u.t.x : Int) + (cntLog u.g.v.x : Int) + (cntIs u.got.l : Int)) s20 (OwnP.left hA20) hb.acked (by omega) (by omega)).mono ?_⟩
 rintro _ s24 ⟨rfl, hO24, hL24⟩
 refine AW.cutM (1) s24 [(1, vI (k + (cntState u.s.x : Int) + (cntTV u.t.x : Int) + (cntLog u.g.v.x : Int) + (cntIs u.got.l : Int) + (cntIs u.acked.l : Int))), (2, vL 2 0 (0)), (4, vI (0))] [(2, 0, cNV u.v)] ⟨rfl, rfl, rfl, trivial⟩ ⟨rfl, trivial⟩ rfl fun ρ0 ff => ?_
 have hA24 : OwnP s24 (pcTT u.seen ++ (pcSes u.sess ++ (pcRis u.rises ++ (pcS (mkState u.s k) ++ (pcTV (mkTV u.t (k + (cntState u.s.x : Int))) ++ (pcLog (mkLog u.g (k + (cntState u.s.x : Int) + (cntTV u.t.x : Int))) ++ (pcIs (mkIs u.got (k + (cntState u.s.x : Int) + (cntTV u.t.x : Int) + (cntLog u.g.v.x : Int))) ++ (pcIs (mkIs u.acked (k + (cntState u.s.x : Int) + (cntTV u.t.x : Int) + (cntLog u.g.v.x : Int) + (cntIs u.got.l : Int))))))))))) := by
  have := (OwnP.markG hA20 hO24 (mkp_Is _ _) hL24).rot
  simpa only [List.append_assoc] using this
 refine ⟨_, rfl, ?_⟩
 refine ⟨_, op_ldo rfl rfl rfl rfl, ?_⟩
 refine ⟨_, rfl, (uc_markIntSS u.seen (k + (cntState u.s.x : Int) + (cntTV u.t.x : Int) + (cntLog u.g.v.x : Int) + (cntIs u.got.l : Int) + (cntIs u.acked.l : Int)) s24 (OwnP.left hA24) hb.seen (by omega) (by omega)).mono ?_⟩
 rintro _ s28 ⟨rfl, hO28, hL28⟩
 refine AW.cutM (1) s28 [(1, vI (k + (cntState u.s.x : Int) + (cntTV u.t.x : Int) + (cntLog u.g.v.x : Int) + (cntIs u.got.l : Int) + (cntIs u.acked.l : Int) + (cntTab u.seen.x : Int))), (2, vL 2 0 (0)), (4, vI (0))] [(2, 0, cNV u.v)] ⟨rfl, rfl, rfl, trivial⟩ ⟨rfl, trivial⟩ rfl fun ρ0 ff => ?_
 have hA28 : OwnP s28 (pcSes u.sess ++ (pcRis u.rises ++ (pcS (mkState u.s k) ++ (pcTV (mkTV u.t (k + (cntState u.s.x : Int))) ++ (pcLog (mkLog u.g (k + (cntState u.s.x : Int) + (cntTV u.t.x : Int))) ++ (pcIs (mkIs u.got (k + (cntState u.s.x : Int) + (cntTV u.t.x : Int) + (cntLog u.g.v.x : Int))) ++ (pcIs (mkIs u.acked (k + (cntState u.s.x : Int) + (cntTV u.t.x : Int) + (cntLog u.g.v.x : Int) + (cntIs u.got.l : Int))) ++ (pcTT (mkTT u.seen (k + (cntState u.s.x : Int) + (cntTV u.t.x : Int) + (cntLog u.g.v.x : Int) + (cntIs u.got.l : Int) + (cntIs u.acked.l : Int))))))))))) := by
  have := (OwnP.markG hA24 hO28 (mkp_TT _ _) hL28).rot
  simpa only [List.append_assoc] using this
 refine ⟨_, rfl, ?_⟩
 refine ⟨_, op_ldo rfl rfl rfl rfl, ?_⟩
 refine ⟨_, rfl, (uc_markSessS u.sess (k + (cntState u.s.x : Int) + (cntTV u.t.x : Int) + (cntLog u.g.v.x : Int) + (cntIs u.got.l : Int) + (cntIs u.acked.l : Int) + (cntTab u.seen.x : Int)) s28 (OwnP.left hA28) hb.sess (by omega) (by omega)).mono ?_⟩
 rintro _ s32 ⟨rfl, hO32, hL32⟩
 refine AW.cutM (1) s32 [(1, vI (k + (cntState u.s.x : Int) + (cntTV u.t.x : Int) + (cntLog u.g.v.x : Int) + (cntIs u.got.l : Int) + (cntIs u.acked.l : Int) + (cntTab u.seen.x : Int) + ((4 * u.sess.l.length : Nat) : Int))), (2, vL 2 0 (0)), (4, vI (0))] [(2, 0, cNV u.v)] ⟨rfl, rfl, rfl, trivial⟩ ⟨rfl, trivial⟩ rfl fun ρ0 ff => ?_
 have hA32 : OwnP s32 (pcRis u.rises ++ (pcS (mkState u.s k) ++ (pcTV (mkTV u.t (k + (cntState u.s.x : Int))) ++ (pcLog (mkLog u.g (k + (cntState u.s.x : Int) + (cntTV u.t.x : Int))) ++ (pcIs (mkIs u.got (k + (cntState u.s.x : Int) + (cntTV u.t.x : Int) + (cntLog u.g.v.x : Int))) ++ (pcIs (mkIs u.acked (k + (cntState u.s.x : Int) + (cntTV u.t.x : Int) + (cntLog u.g.v.x : Int) + (cntIs u.got.l : Int))) ++ (pcTT (mkTT u.seen (k + (cntState u.s.x : Int) + (cntTV u.t.x : Int) + (cntLog u.g.v.x : Int) + (cntIs u.got.l : Int) + (cntIs u.acked.l : Int))) ++ (pcSes (mkSesR u.sess (k + (cntState u.s.x : Int) + (cntTV u.t.x : Int) + (cntLog u.g.v.x : Int) + (cntIs u.got.l : Int) + (cntIs u.acked.l : Int) + (cntTab u.seen.x : Int))))))))))) := by
  have := (OwnP.markG hA28 hO32 (mkp_SesR _ _) hL32).rot
  simpa only [List.append_assoc] using this
 refine ⟨_, rfl, ?_⟩
 refine ⟨_, op_ldo rfl rfl rfl rfl, ?_⟩
 refine ⟨_, rfl, (uc_markRiseS u.rises (k + (cntState u.s.x : Int) + (cntTV u.t.x : Int) + (cntLog u.g.v.x : Int) + (cntIs u.got.l : Int) + (cntIs u.acked.l : Int) + (cntTab u.seen.x : Int) + ((4 * u.sess.l.length : Nat) : Int)) s32 (OwnP.left hA32) hb.rises (by omega) (by omega)).mono ?_⟩
 rintro _ s36 ⟨rfl, hO36, hL36⟩
 refine cxs ?_
 have hA36 : OwnP s36 (pcS (mkState u.s k) ++ (pcTV (mkTV u.t (k + (cntState u.s.x : Int))) ++ (pcLog (mkLog u.g (k + (cntState u.s.x : Int) + (cntTV u.t.x : Int))) ++ (pcIs (mkIs u.got (k + (cntState u.s.x : Int) + (cntTV u.t.x : Int) + (cntLog u.g.v.x : Int))) ++ (pcIs (mkIs u.acked (k + (cntState u.s.x : Int) + (cntTV u.t.x : Int) + (cntLog u.g.v.x : Int) + (cntIs u.got.l : Int))) ++ (pcTT (mkTT u.seen (k + (cntState u.s.x : Int) + (cntTV u.t.x : Int) + (cntLog u.g.v.x : Int) + (cntIs u.got.l : Int) + (cntIs u.acked.l : Int))) ++ (pcSes (mkSesR u.sess (k + (cntState u.s.x : Int) + (cntTV u.t.x : Int) + (cntLog u.g.v.x : Int) + (cntIs u.got.l : Int) + (cntIs u.acked.l : Int) + (cntTab u.seen.x : Int))) ++ (pcRis (mkRisR u.rises (k + (cntState u.s.x : Int) + (cntTV u.t.x : Int) + (cntLog u.g.v.x : Int) + (cntIs u.got.l : Int) + (cntIs u.acked.l : Int) + (cntTab u.seen.x : Int) + ((4 * u.sess.l.length : Nat) : Int))))))))))) := by
  have := (OwnP.markG hA32 hO36 (mkp_RisR _ _) hL36).rot
  simpa only [List.append_assoc] using this
 refine cxs ?_
 exact ⟨.inl rfl, _, rfl, congrArg vI (by rw [hc]; omega), hA36, ((((((((PrL.inl hL8).trans (PrL.inr (PrL.inl hL12))).trans (PrL.inr (PrL.inr (PrL.inl hL16)))).trans (PrL.inr (PrL.inr (PrL.inr (PrL.inl hL20))))).trans (PrL.inr (PrL.inr (PrL.inr (PrL.inr (PrL.inl hL24)))))).trans (PrL.inr (PrL.inr (PrL.inr (PrL.inr (PrL.inr (PrL.inl hL28))))))).trans (PrL.inr (PrL.inr (PrL.inr (PrL.inr (PrL.inr (PrL.inr (PrL.inl hL32)))))))).trans (PrL.inr (PrL.inr (PrL.inr (PrL.inr (PrL.inr (PrL.inr (PrL.inr (hL36)))))))))⟩
theorem bigNW {u : NW} (h : bigN u.x) : bigN u.v.x := h
theorem susps_big {l : List Int} {x : Nd} (h : l = suspsF x 5) : szOk l.length := by
 have := susps_len x 5
 rw [h]; unfold szOk; omega
theorem susps_cnt {l : List Int} {x : Nd} (h : l = suspsF x 5) : cntIs l ≤ 8388608 := by
 have := susps_len x 5
 rw [h]; unfold cntIs; omega
theorem uc_eqIntS (a b : RV) (st : St) (hA : Rows st 1 fI a.p a.l) (hB : Rows st 1 fI b.p b.l) (hb : szOk a.l.length) : C 17 [vS a.p a.l.length, vS b.p b.l.length] st (fun v s => ∃ x, v = .bool x ∧ (x = true ↔ a.l = b.l) ∧ s = st) :=
 (ac_laws_eqIntS a.p b.p a.l b.l st hA.ints hB.ints (Nat.lt_of_le_of_lt hb (by decide))).mono fun v s ⟨x, h1, h2, h3⟩ => ⟨x, h1, by rw [h2]; exact decide_eq_true_iff, h3⟩
theorem ac_laws_FnExactSuspects (g : NV) (st : St) (hR_g : RdN st g ∧ maxN g) : C 4 [.agg #[vI g.id, vI g.n, vS g.s.p g.s.x.items.length, vS g.s.q g.s.x.floors.length, vS g.t.p g.t.l.length, vI g.t.root, vI g.g.cap, vI g.g.frm, vS g.g.p g.g.l.length, vS g.got.p g.got.l.length, vS g.acked.p g.acked.l.length, vS g.seen.p g.seen.t.length, vI g.num, vI g.slots, vS g.sess.p g.sess.l.length, vI g.wait, vI g.limit, vI g.clock, vS g.rises.p g.rises.l.length]] st (fun v s => v = vB true) := by
 refine AC.enterX (i := ⟨[1, 5], [1, 5], [0, 1, 2, 3, 4, 5, 6, 7, 8, 9, 10, 15, 26, 31, 42, 50, 53, 60, 65, 68]⟩) [(10, [2], [0])] Tryz.func4 rfl rfl (by kernel_rfl) (by kernel_rfl) Tryz.ntmps4 (Nat.le_of_ble_eq_true rfl) rfl ?_
 refine ⟨_, rfl, ?_⟩
 refine cxs ?_
 refine AW.cutM (1) st [(1, vL 1 0 (0)), (2, vB false), (3, vI (1048576))] [(1, 0, cNV g)] ⟨rfl, rfl, rfl, trivial⟩ ⟨rfl, trivial⟩ rfl fun ρ0 ff => ?_
 refine ⟨_, op_ldo (v := (vNV g)) rfl rfl rfl rfl, ?_⟩
 refine ⟨_, rfl, (ac_laws_szNode g 1048576 st hR_g.1 (by decide) (by decide) hR_g.2).mono ?_⟩
 rintro _ st ⟨z_g, rfl, hr_g, hz_g, rfl⟩
 refine AW.cutM (1) st [(1, vL 1 0 (0)), (2, vB false), (3, vI z_g)] [(1, 0, cNV g)] ⟨rfl, rfl, rfl, trivial⟩ ⟨rfl, trivial⟩ rfl fun ρ0 ff => ?_
 refine ⟨_, rfl, ?_⟩
 rintro (_|_) hn_g
 ·replace hn_g : ¬ (z_g < 0) := of_decide_eq_false hn_g
  refine AW.cutM (1) st [(1, vL 1 0 (0)), (2, vB false), (15, vB false)] [(1, 0, cNV g)] ⟨rfl, rfl, rfl, trivial⟩ ⟨rfl, trivial⟩ rfl fun ρ0 ff => ?_
  have hz_g' := hz_g (by omega)
  have hb_g := sz_bigN (v := g) (by omega)
  have hc_g : cntNode g.x ≤ 8388608 := (cnt_Node (v := g) (by omega))
  refine cxs ?_
  refine ⟨_, op_ldo (v := (vNV g)) rfl rfl rfl rfl, ?_⟩
  refine ⟨_, rfl, (ac_laws_toNode g st hR_g.1 hb_g).mono ?_⟩
  rintro _ s1 ⟨u1, rfl, hu1, hO1, hN1, hP1⟩
  refine ⟨_, rfl, (ac_spec_Suspects u1.v s1 (OwnP.rdN (OwnP.left (OwnP.joinF OwnP.nil hP1 hO1 hN1))) (bigNW (hu1 ▸ hb_g))).mono ?_⟩
  rintro _ s2 ⟨r2, rfl, hr2, hO2, hN2, hP2⟩
  refine AW.cutM (1) s2 [(1, vL 1 0 (0)), (2, vB false), (4, vS r2.p r2.l.length)] [(1, 0, cNV g)] ⟨rfl, rfl, rfl, trivial⟩ ⟨rfl, trivial⟩ rfl fun ρ0 ff => ?_
  have hA5 : OwnP s2 (pcIs r2 ++ (pcNW u1 ++ [])) := (OwnP.joinF (OwnP.joinF OwnP.nil hP1 hO1 hN1) hP2 hO2 hN2)
  have hQ5 : Pres st s2 := (hP1.trans hP2)
  refine ⟨_, op_ldo (v := (vNV g)) rfl rfl rfl rfl, ?_⟩
  refine ⟨_, rfl, (ac_laws_toNode g s2 (hR_g.1.pres hQ5) hb_g).mono ?_⟩
  rintro _ s3 ⟨u3, rfl, hu3, hO3, hN3, hP3⟩
  refine ⟨_, rfl, ?_⟩
  refine ⟨_, op_stw (vs := cNV u3.v) rfl rfl rfl rfl rfl rfl rfl rfl, ?_⟩
  refine AW.cutM (2) s3 [(1, vL 1 0 (0)), (2, vB false), (4, vS r2.p r2.l.length), (5, vL 5 0 (1))] [(1, 0, cNV g), (5, 1, cNV u3.v)] ⟨rfl, rfl, rfl, rfl, trivial⟩ ⟨rfl, rfl, trivial⟩ rfl fun ρ0 ff => ?_
  have hA6 : OwnP s3 (pcNW u3 ++ (pcIs r2 ++ (pcNW u1 ++ []))) := (OwnP.joinF hA5 hP3 hO3 hN3)
  have hQ6 : Pres st s3 := (hQ5.trans hP3)
  refine ⟨_, op_ldo (v := (vNV u3.v)) rfl rfl rfl rfl, ?_⟩
  refine ⟨_, rfl, (ac_impl_Suspects u3.v s3 (OwnP.rdN (OwnP.left hA6)) (bigNW (hu3 ▸ hb_g))).mono ?_⟩
  rintro _ s4 ⟨r4, rfl, hr4, hO4, hN4, hP4⟩
  refine AW.cutM (2) s4 [(1, vL 1 0 (0)), (2, vB false), (4, vS r2.p r2.l.length), (5, vL 5 0 (1)), (6, vS r4.p r4.l.length)] [(1, 0, cNV g), (5, 1, cNV u3.v)] ⟨rfl, rfl, rfl, rfl, rfl, trivial⟩ ⟨rfl, rfl, trivial⟩ rfl fun ρ0 ff => ?_
  have hA7 : OwnP s4 (pcIs r4 ++ (pcNW u3 ++ (pcIs r2 ++ (pcNW u1 ++ [])))) := (OwnP.joinF hA6 hP4 hO4 hN4)
  have hQ7 : Pres st s4 := (hQ6.trans hP4)
  have hE1 : r4.l = r2.l := by rw [hr4, hr2, show u3.v.x = _ from hu3, show u1.v.x = _ from hu1]
  refine ⟨_, rfl, (AC.tru (uc_eqIntS r4 r2 s4 (OwnP.rdIs (OwnP.left hA7)) (OwnP.rdIs (OwnP.left (OwnP.right (OwnP.right hA7)))) (susps_big hr4)) hE1).mono ?_⟩
  rintro _ s4 ⟨rfl, rfl⟩
  refine ⟨_, rfl, ?_⟩
  refine AW.cutM (2) s4 [(1, vL 1 0 (0)), (2, vB false), (4, vS r2.p r2.l.length), (5, vL 5 0 (1)), (6, vS r4.p r4.l.length), (26, vB false)] [(1, 0, cNV g), (5, 1, cNV u3.v)] ⟨rfl, rfl, rfl, rfl, rfl, rfl, trivial⟩ ⟨rfl, rfl, trivial⟩ rfl fun ρ0 ff => ?_
  refine cxs ?_
  refine ⟨_, op_ldo (v := (vNV u3.v)) rfl rfl rfl rfl, ?_⟩
  refine ⟨ld_own rfl rfl rfl, ?_⟩
  refine ⟨_, op_ldo (v := (vNV g)) rfl rfl rfl rfl, ?_⟩
  refine ⟨_, rfl, (ac_laws_toNode g s4 (hR_g.1.pres hQ7) hb_g).mono ?_⟩
  rintro _ s5 ⟨u5, rfl, hu5, hO5, hN5, hP5⟩
  refine ⟨hP5.2, ?_⟩
  refine ⟨_, rfl, (AC.tru (uc_eqNode u3 u5 s5 (OwnP.rdN (OwnP.left (OwnP.right (OwnP.right (OwnP.joinF hA7 hP5 hO5 hN5))))) (OwnP.rdN (OwnP.left (OwnP.joinF hA7 hP5 hO5 hN5))) (hu3 ▸ hb_g)) (hu3.trans hu5.symm)).mono ?_⟩
  rintro _ s5 ⟨rfl, rfl⟩
  refine ⟨_, rfl, ?_⟩
  refine AW.cutM (2) s5 [(1, vL 1 0 (0)), (2, vB false), (4, vS r2.p r2.l.length), (5, vL 5 0 (1)), (6, vS r4.p r4.l.length), (31, vB false)] [(1, 0, cNV g), (5, 1, cNV u3.v)] ⟨rfl, rfl, rfl, rfl, rfl, rfl, trivial⟩ ⟨rfl, rfl, trivial⟩ rfl fun ρ0 ff => ?_
  have hA10 : OwnP s5 (pcNW u5 ++ (pcIs r4 ++ (pcNW u3 ++ (pcIs r2 ++ (pcNW u1 ++ []))))) := (OwnP.joinF hA7 hP5 hO5 hN5)
  have hQ10 : Pres st s5 := (hQ7.trans hP5)
  refine cxs ?_
  refine AW.cutM (2) s5 [(1, vL 1 0 (0)), (2, vB false), (4, vS r2.p r2.l.length), (5, vL 5 0 (1)), (6, vS r4.p r4.l.length), (7, vI (1))] [(1, 0, cNV g), (5, 1, cNV u3.v)] ⟨rfl, rfl, rfl, rfl, rfl, rfl, trivial⟩ ⟨rfl, rfl, trivial⟩ rfl fun ρ0 ff => ?_
  refine ⟨_, op_ldo (v := (vNV u3.v)) rfl rfl rfl rfl, ?_⟩
  have hM6 := (OwnP.front2 hA10)
  have hNw6 := newPs (hN3.le ((hP1.trans hP2)).1)
  have hcm6 : cntNode u3.x ≤ 8388608 := by rw [hu3]; exact hc_g
  refine ⟨_, rfl, (uc_markNode u3 1 s5 (OwnP.left hM6) (hu3 ▸ hb_g) (by omega) (by omega)).mono ?_⟩
  rintro _ s6 ⟨rfl, hO6, hL6⟩
  refine AW.cutM (2) s6 [(1, vL 1 0 (0)), (2, vB false), (4, vS r2.p r2.l.length), (6, vS r4.p r4.l.length), (7, vI (1 + (cntNode u3.x : Int)))] [(1, 0, cNV g)] ⟨rfl, rfl, rfl, rfl, rfl, trivial⟩ ⟨rfl, trivial⟩ rfl fun ρ0 ff => ?_
  have hA13 : OwnP s6 (pcNW (mkNode u3 1) ++ _) := OwnP.markG hM6 hO6 (mkp_Node _ _) hL6
  have hQ13 : Pres st s6 := hL6.pres hQ10 hNw6
  refine ⟨_, rfl, ?_⟩
  rintro (_|_) hg7
  rotate_left
  ·exact absurd (of_decide_eq_true hg7) ((by omega))
  refine ⟨_, rfl, (AC.tru (uc_eqIntS r4 r2 s6 (OwnP.rdIs (OwnP.left (OwnP.right (OwnP.right hA13)))) (OwnP.rdIs (OwnP.left (OwnP.right (OwnP.right (OwnP.right hA13))))) (susps_big hr4)) hE1).mono ?_⟩
  rintro _ s6 ⟨rfl, rfl⟩
  iterate 2 refine ⟨_, rfl, ?_⟩
  refine AW.cutM (2) s6 [(1, vL 1 0 (0)), (2, vB false), (4, vS r2.p r2.l.length), (6, vS r4.p r4.l.length), (42, vB false)] [(1, 0, cNV g)] ⟨rfl, rfl, rfl, rfl, rfl, trivial⟩ ⟨rfl, trivial⟩ rfl fun ρ0 ff => ?_
  refine cxs ?_
  refine AW.cutM (2) s6 [(1, vL 1 0 (0)), (2, vB false), (4, vS r2.p r2.l.length), (6, vS r4.p r4.l.length), (8, vI (1))] [(1, 0, cNV g)] ⟨rfl, rfl, rfl, rfl, rfl, trivial⟩ ⟨rfl, trivial⟩ rfl fun ρ0 ff => ?_
  have hM8 := (OwnP.front2 hA13)
  have hNw8 := newPs (hN4.le (((hP1.trans hP2).trans hP3)).1)
  have hcm8 : cntIs r4.l ≤ 8388608 := (susps_cnt hr4)
  refine ⟨_, rfl, (uc_markIntS r4 1 s6 (OwnP.left hM8) (susps_big hr4) (by omega) (by omega)).mono ?_⟩
  rintro _ s8 ⟨rfl, hO8, hL8⟩
  refine cxs ?_
  have hA17 : OwnP s8 (pcIs (mkIs r4 1) ++ _) := OwnP.markG hM8 hO8 (mkp_Is _ _) hL8
  have hQ17 : Pres st s8 := hL8.pres hQ13 hNw8
  refine AW.cutM (2) s8 [(1, vL 1 0 (0)), (2, vB false), (4, vS r2.p r2.l.length), (6, vS r4.p r4.l.length), (8, vI (1 + (cntIs r4.l : Int))), (9, vI (1))] [(1, 0, cNV g)] ⟨rfl, rfl, rfl, rfl, rfl, rfl, trivial⟩ ⟨rfl, trivial⟩ rfl fun ρ0 ff => ?_
  refine ⟨_, rfl, (uc_heldIntS r4 1 s8 (OwnP.rdIs (OwnP.left hA17)) (susps_big hr4) (by decide) (by omega)).mono ?_⟩
  rintro _ s9 ⟨rfl, hP9⟩
  refine AW.cutM (2) s9 [(1, vL 1 0 (0)), (2, vB false), (4, vS r2.p r2.l.length), (6, vS r4.p r4.l.length), (8, vI (1 + (cntIs r4.l : Int))), (9, vI (1 + (cntIs r4.l : Int)))] [(1, 0, cNV g)] ⟨rfl, rfl, rfl, rfl, rfl, rfl, trivial⟩ ⟨rfl, trivial⟩ rfl fun ρ0 ff => ?_
  have hA19 : OwnP s9 (pcIs (mkIs r4 1) ++ (pcNW (mkNode u3 1) ++ (pcNW u5 ++ (pcIs r2 ++ (pcNW u1 ++ []))))) := (OwnP.pres hA17 hP9)
  have hQ19 : Pres st s9 := (hQ17.trans hP9)
  refine ⟨_, rfl, ?_⟩
  rintro (_|_) hg10
  rotate_left
  ·exact absurd (of_decide_eq_true hg10) ((by omega))
  refine AW.cutM (2) s9 [(1, vL 1 0 (0)), (2, vB false), (4, vS r2.p r2.l.length), (6, vS r4.p r4.l.length), (8, vI (1 + (cntIs r4.l : Int))), (9, vI (1 + (cntIs r4.l : Int))), (50, vB false)] [(1, 0, cNV g)] ⟨rfl, rfl, rfl, rfl, rfl, rfl, rfl, trivial⟩ ⟨rfl, trivial⟩ rfl fun ρ0 ff => ?_
  refine cxs ?_
  refine ⟨_, rfl, ?_⟩
  rintro (_|_) hg11
  rotate_left
  ·exact absurd (rfl) (bne_iff_ne.1 hg11)
  refine AW.cutM (2) s9 [(1, vL 1 0 (0)), (2, vB false), (4, vS r2.p r2.l.length), (6, vS r4.p r4.l.length), (8, vI (1 + (cntIs r4.l : Int))), (9, vI (1 + (cntIs r4.l : Int))), (53, vB false)] [(1, 0, cNV g)] ⟨rfl, rfl, rfl, rfl, rfl, rfl, rfl, trivial⟩ ⟨rfl, trivial⟩ rfl fun ρ0 ff => ?_
  refine cxs ?_
  refine ⟨_, op_ldo (v := (vNV g)) rfl rfl rfl rfl, ?_⟩
  refine ⟨_, rfl, (ac_laws_toNode g s9 (hR_g.1.pres hQ19) hb_g).mono ?_⟩
  rintro _ s12 ⟨u12, rfl, hu12, hO12, hN12, hP12⟩
  refine ⟨_, rfl, (ac_impl_Suspects u12.v s12 (OwnP.rdN (OwnP.left (OwnP.joinF hA19 hP12 hO12 hN12))) (bigNW (hu12 ▸ hb_g))).mono ?_⟩
  rintro _ s13 ⟨r13, rfl, hr13, hO13, hN13, hP13⟩
  refine AW.cutM (2) s13 [(2, vB false), (4, vS r2.p r2.l.length), (6, vS r4.p r4.l.length), (8, vI (1 + (cntIs r4.l : Int))), (9, vI (1 + (cntIs r4.l : Int))), (10, vS r13.p r13.l.length)] [] ⟨rfl, rfl, rfl, rfl, rfl, rfl, trivial⟩ trivial rfl fun ρ0 ff => ?_
  have hA24 : OwnP s13 (pcIs r13 ++ (pcNW u12 ++ (pcIs (mkIs r4 1) ++ (pcNW (mkNode u3 1) ++ (pcNW u5 ++ (pcIs r2 ++ (pcNW u1 ++ []))))))) := (OwnP.joinF (OwnP.joinF hA19 hP12 hO12 hN12) hP13 hO13 hN13)
  have hQ24 : Pres st s13 := ((hQ19.trans hP12).trans hP13)
  have hE2 : r13.l = r2.l := by rw [hr13, hr2, show u12.v.x = _ from hu12, show u1.v.x = _ from hu1]
  refine ⟨_, rfl, (AC.tru (uc_eqIntS r13 r2 s13 (OwnP.rdIs (OwnP.left hA24)) (OwnP.rdIs (OwnP.left (OwnP.right (OwnP.right (OwnP.right (OwnP.right (OwnP.right hA24))))))) (susps_big hr13)) hE2).mono ?_⟩
  rintro _ s13 ⟨rfl, rfl⟩
  refine ⟨_, rfl, ?_⟩
  refine AW.cutM (2) s13 [(2, vB false), (6, vS r4.p r4.l.length), (8, vI (1 + (cntIs r4.l : Int))), (9, vI (1 + (cntIs r4.l : Int))), (60, vB false)] [] ⟨rfl, rfl, rfl, rfl, rfl, trivial⟩ trivial rfl fun ρ0 ff => ?_
  refine cxs ?_
  refine AW.cutM (2) s13 [(2, vB false), (6, vS r4.p r4.l.length), (8, vI (1 + (cntIs r4.l : Int))), (9, vI (1))] [] ⟨rfl, rfl, rfl, rfl, trivial⟩ trivial rfl fun ρ0 ff => ?_
  refine ⟨_, rfl, (uc_heldIntS r4 1 s13 (OwnP.rdIs (OwnP.left (OwnP.right (OwnP.right hA24)))) (susps_big hr4) (by decide) (by omega)).mono ?_⟩
  rintro _ s14 ⟨rfl, hP14⟩
  refine AW.cutM (2) s14 [(2, vB false), (8, vI (1 + (cntIs r4.l : Int))), (9, vI (1 + (cntIs r4.l : Int)))] [] ⟨rfl, rfl, rfl, trivial⟩ trivial rfl fun ρ0 ff => ?_
  have hA28 : OwnP s14 (pcIs r13 ++ (pcNW u12 ++ (pcIs (mkIs r4 1) ++ (pcNW (mkNode u3 1) ++ (pcNW u5 ++ (pcIs r2 ++ (pcNW u1 ++ []))))))) := (OwnP.pres hA24 hP14)
  have hQ28 : Pres st s14 := (hQ24.trans hP14)
  refine ⟨_, rfl, ?_⟩
  rintro (_|_) hg15
  rotate_left
  ·exact absurd (of_decide_eq_true hg15) ((by omega))
  refine AW.cutM (2) s14 [(2, vB false), (8, vI (1 + (cntIs r4.l : Int))), (9, vI (1 + (cntIs r4.l : Int))), (65, vB false)] [] ⟨rfl, rfl, rfl, rfl, trivial⟩ trivial rfl fun ρ0 ff => ?_
  refine cxs ?_
  refine ⟨_, rfl, ?_⟩
  rintro (_|_) hg16
  rotate_left
  ·exact absurd (rfl) (bne_iff_ne.1 hg16)
  refine AW.cutM (2) s14 [(2, vB false), (68, vB false)] [] ⟨rfl, rfl, trivial⟩ trivial rfl fun ρ0 ff => ?_
  refine cxs ?_
  refine cxs ?_
  exact ⟨.inl rfl, _, rfl, rfl⟩
 ·replace hn_g : z_g < 0 := of_decide_eq_true hn_g
  refine AW.cutM (1) st [(1, vL 1 0 (0)), (2, vB false), (15, vB true)] [(1, 0, cNV g)] ⟨rfl, rfl, rfl, trivial⟩ ⟨rfl, trivial⟩ rfl fun ρ0 ff => ?_
  refine cxs ?_
  exact ⟨.inl rfl, _, rfl, rfl⟩
end Go.Proofs.YtbogbnjnjjhnbaaGreat.AM
