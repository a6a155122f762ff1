/- Part 1 of the texts on which the law's proof rests. -/
import Derived.Test.YtbogbnjnjjhnbaaGreatXcf
namespace Go.Proofs.YtbogbnjnjjhnbaaGreat.AM
open Go Go.Proofs
set_option linter.unusedVariables false
set_option linter.unusedSimpArgs false
set_option maxRecDepth 100000
set_option maxHeartbeats 4000000
theorem ac_spec_l9Copy (p : Option Addr) (t : List RV) (st : St) (hR : RdT st p t) (hs : szOk t.length) (hr : ∀ r ∈ t, szOk r.l.length) : C 142 [vS p t.length] st (fun v s => ∃ q u, v = vS q t.length ∧ u.map (·.l) = t.map (·.l) ∧ OwnP s (pcT q u) ∧ NewP st.next (pcT q u) ∧ Pres st s) := by
 have hs : t.length ≤ 1048576 := hs
 refine AC.enterX (i := ⟨[], [], [0, 2, 3, 4, 9]⟩) [] Tryz.func142 rfl rfl (by kernel_rfl) (by kernel_rfl) Tryz.ntmps142 (Nat.le_of_ble_eq_true rfl) rfl ?_
 refine AW.cut lo0 st [(0, vS p t.length), (2, .slice none 0 0)] ⟨rfl, rfl, trivial⟩ fun ρ0 => ?_
 refine op_nilK (z := 1) (f := cRV) rfl rfl rfl rfl Nat.one_pos rfl ?_
 intro q0 s0 hO0 hP0 hN0
 refine cxs ?_
 refine AW.cut lo0 s0 [(0, vS p t.length), (2, .slice none 0 0), (3, vS q0 0), (4, vI (0))] ⟨rfl, rfl, rfl, rfl, trivial⟩ fun ρ0 => ?_
 refine AW.loop0 (fun x : List RV × Option Addr => [(0, vS p t.length), (3, vS x.2 x.1.length), (4, vI (x.1.length : Int))]) (fun m (x : List RV × Option Addr) st' => m = t.length - x.1.length ∧ x.1.length ≤ t.length ∧ x.1.map (·.l) = (t.take x.1.length).map (·.l) ∧ OwnP st' (pcT x.2 x.1) ∧ NewP st.next (pcT x.2 x.1) ∧ Pres st st') ([], q0) _ ⟨rfl, rfl, rfl, trivial⟩ rfl ⟨rfl, Nat.zero_le _, rfl, OwnP.one (own_pc hO0), NewP.cons hN0 NewP.nil, hP0⟩ ?_
 rintro m x ρ0 st' ⟨rfl, hi, hl, hO, hN, hP⟩
 iterate 2 refine ⟨_, rfl, ?_⟩
 rintro (_|_) h1
 ·replace h1 : ¬ ((x.1.length : Int) < (t.length : Int)) := of_decide_eq_false h1
  refine AW.cut lo0 st' [(0, vS p t.length), (3, vS x.2 x.1.length), (4, vI (x.1.length : Int)), (9, vB false)] ⟨rfl, rfl, rfl, rfl, trivial⟩ fun ρ0 => ?_
  refine cxs ?_
  refine cxs ?_
  have hil : x.1.length = t.length := by omega
  exact ⟨.inl rfl, _, rfl, x.2, x.1, congrArg (vS x.2) hil, by rw [hl, hil, List.take_length], hO, hN, hP⟩
 ·replace h1 : (x.1.length : Int) < (t.length : Int) := of_decide_eq_true h1
  refine AW.cut lo0 st' [(0, vS p t.length), (3, vS x.2 x.1.length), (4, vI (x.1.length : Int)), (9, vB true)] ⟨rfl, rfl, rfl, rfl, trivial⟩ fun ρ0 => ?_
  have h1' := Int.ofNat_lt.1 h1
  have hRd := hR.pres hP
  have ⟨b1, o1, k1, r, hpe, hr1, hm1, hc1, hb1⟩ := hRd.1.atB h1'
  have hmem := List.mem_of_getElem? hr1
  have hrs : r.l.length ≤ 1048576 := hr r hmem
  obtain ⟨d1, d2, d3⟩ := split_at hr1
  refine cxs ?_
  refine op_nilK (z := 1) (f := fI) rfl rfl rfl rfl Nat.one_pos rfl ?_
  intro q1 s1 hO1 hP1 hN1
  have hm1' := (hP1.2 b1 hb1).trans hm1
  refine ⟨_, op_idx (j := (x.1.length : Int)) (n := t.length) (q := ⟨b1, o1, none⟩) rfl (congrArg (fun u => vS u t.length) hpe) rfl rfl rfl (Int.natCast_nonneg _) h1, ?_⟩
  refine ⟨_, op_ldc (i := 0) (v := vS r.p r.l.length) rfl rfl rfl rfl hm1' hc1 rfl rfl, ?_⟩
  refine op_app (z := 1) (st := s1) (f := fI) (b := 8) (l := []) (l2 := r.l) rfl rfl rfl rfl rfl rfl rfl Nat.one_pos fI_len rfl rfl rfl rfl (by omega) (by unfold maxLen; omega) hO1 (hP1.rows (hRd.2 r hmem)) ?_
  intro q2 s2 hO2 hPr2 hN2
  refine op_one (z := 1) (a := (⟨q2, r.l⟩ : RV)) (f := cRV) rfl (congrArg (vS q2) (Nat.zero_add _)) rfl rfl rfl Nat.one_pos rfl (Nat.le_of_ble_eq_true rfl) rfl rfl rfl ?_
  have hP2 : Pres st' s2 := hPr2.pres hP1 hN1
  have hN2 : New st'.next q2 := by
   rcases hN2 with ⟨h, _, _⟩ | ⟨_, h⟩
   ·rw [h]; exact hN1
   ·exact h.le hP1.1
  refine op_add (z := 1) (st := s2) (f := cRV) (b := 24) (l := x.1) rfl rfl rfl rfl rfl rfl rfl Nat.one_pos cRV_len rfl rfl rfl (by omega) (by unfold maxLen; omega) (hP2.ownR hO.outer) ?_
  intro q4 s4 hO4 hP4 hN4
  refine AW.cut lo0 s4 [(0, vS p t.length), (3, vS q4 (x.1.length + 1)), (4, vI (x.1.length : Int)), (9, vB true)] ⟨rfl, rfl, rfl, rfl, trivial⟩ fun ρ0 => ?_
  have hA := OwnP.renew (l := []) (m := x.1.map pcRV ++ [pcRV ⟨q2, r.l⟩]) (c := pcR 1 cRV x.2 x.1) (OwnP.join (l := pcT x.2 x.1) (m := [pcRV ⟨q2, r.l⟩]) hO hP2 (OwnP.one (own_pc hO2)) (NewP.cons hN2 NewP.nil)) hP4 (own_pc hO4) hN4
  have hA : OwnP s4 (pcT q4 (x.1 ++ [⟨q2, r.l⟩])) := by simpa [pcT] using hA
  have e11 : IntKind.wrap .i64 ((x.1.length : Int) + 1) = ((x.1.length + 1 : Nat) : Int) := (wrap_i64 (by omega) (by omega)).trans (by omega)
  refine ⟨_, rfl, ?_⟩
  refine ⟨(x.1 ++ [⟨q2, r.l⟩], q4), t.length - (x.1.length + 1), by omega, ⟨rfl, ?_, ?_, trivial⟩, rfl, ?_, ?_, ?_, hA, ?_, ?_⟩
  ·rw [List.length_append]; rfl
  ·rw [List.length_append]; exact congrArg (Value.int .i64) e11
  ·rw [List.length_append]; rfl
  ·rw [List.length_append]; exact h1'
  ·rw [List.map_append, hl, List.length_append, List.length_singleton, d2, List.map_append]; rfl
  ·refine NewP.cons (hN4.le (Nat.le_trans hP.1 hP2.1)) ?_
   rw [List.map_append]
   exact NewP.app (fun c hc => hN c (List.mem_cons_of_mem _ hc)) (NewP.cons (hN2.le hP.1) NewP.nil)
  ·exact hP4.pres (hP.trans hP2) (hN _ (List.mem_cons_self ..))
theorem ac_impl_copyTable (p : Option Addr) (t : List RV) (st : St) (hR : RdT st p t) (hs : szOk t.length) (hr : ∀ r ∈ t, szOk r.l.length) : C 145 [vS p t.length] st (fun v s => ∃ q u, v = vS q t.length ∧ u.map (·.l) = t.map (·.l) ∧ OwnP s (pcT q u) ∧ NewP st.next (pcT q u) ∧ Pres st s) := by
 have hs : t.length ≤ 1048576 := hs
 refine AC.enterX (i := ⟨[], [], [0, 2, 3, 5, 7, 8, 9, 10]⟩) [] Tryz.func145 rfl rfl (by kernel_rfl) (by kernel_rfl) Tryz.ntmps145 (Nat.le_of_ble_eq_true rfl) rfl ?_
 refine AW.cut lo0 st [(0, vS p t.length), (2, .slice none 0 0)] ⟨rfl, rfl, trivial⟩ fun ρ0 => ?_
 refine op_nilK (z := 1) (f := cRV) rfl rfl rfl rfl Nat.one_pos rfl ?_
 intro q0 s0 hO0 hP0 hN0
 refine AW.cut lo0 s0 [(0, vS p t.length), (2, .slice none 0 0), (3, vS q0 0)] ⟨rfl, rfl, rfl, trivial⟩ fun ρ0 => ?_
 refine ⟨_, rfl, ?_⟩
 refine AW.cut lo0 s0 [(0, vS p t.length), (2, .slice none 0 0), (3, vS q0 0), (7, vS p t.length), (8, vI (t.length)), (9, vI (0))] ⟨rfl, rfl, rfl, rfl, rfl, rfl, trivial⟩ fun ρ0 => ?_
 refine AW.loop0 (fun x : List RV × Option Addr => [(0, vS p t.length), (3, vS x.2 x.1.length), (7, vS p t.length), (8, vI (t.length : Int)), (9, vI (x.1.length : Int))]) (fun m (x : List RV × Option Addr) st' => m = t.length - x.1.length ∧ x.1.length ≤ t.length ∧ x.1.map (·.l) = (t.take x.1.length).map (·.l) ∧ OwnP st' (pcT x.2 x.1) ∧ NewP st.next (pcT x.2 x.1) ∧ Pres st st') ([], q0) _ ⟨rfl, rfl, rfl, rfl, rfl, trivial⟩ rfl ⟨rfl, Nat.zero_le _, rfl, OwnP.one (own_pc hO0), NewP.cons hN0 NewP.nil, hP0⟩ ?_
 rintro m x ρ0 st' ⟨rfl, hi, hl, hO, hN, hP⟩
 refine ⟨_, rfl, ?_⟩
 rintro (_|_) h1
 ·replace h1 : ¬ ((x.1.length : Int) < (t.length : Int)) := of_decide_eq_false h1
  refine AW.cut lo0 st' [(0, vS p t.length), (3, vS x.2 x.1.length), (7, vS p t.length), (8, vI (t.length : Int)), (9, vI (x.1.length : Int)), (10, vB false)] ⟨rfl, rfl, rfl, rfl, rfl, rfl, trivial⟩ fun ρ0 => ?_
  refine cxs ?_
  refine cxs ?_
  have hil : x.1.length = t.length := by omega
  exact ⟨.inl rfl, _, rfl, x.2, x.1, congrArg (vS x.2) hil, by rw [hl, hil, List.take_length], hO, hN, hP⟩
 ·replace h1 : (x.1.length : Int) < (t.length : Int) := of_decide_eq_true h1
  refine AW.cut lo0 st' [(0, vS p t.length), (3, vS x.2 x.1.length), (7, vS p t.length), (8, vI (t.length : Int)), (9, vI (x.1.length : Int)), (10, vB true)] ⟨rfl, rfl, rfl, rfl, rfl, rfl, trivial⟩ fun ρ0 => ?_
  have h1' := Int.ofNat_lt.1 h1
  have hRd := hR.pres hP
  have ⟨b1, o1, k1, r, hpe, hr1, hm1, hc1, hb1⟩ := hRd.1.atB h1'
  have hmem := List.mem_of_getElem? hr1
  have hrs : r.l.length ≤ 1048576 := hr r hmem
  obtain ⟨d1, d2, d3⟩ := split_at hr1
  refine cxs ?_
  refine ⟨_, op_idx (j := (x.1.length : Int)) (n := t.length) (q := ⟨b1, o1, none⟩) rfl (congrArg (fun u => vS u t.length) hpe) rfl rfl rfl (Int.natCast_nonneg _) h1, ?_⟩
  refine ⟨_, op_ldc (i := 0) (v := vS r.p r.l.length) rfl rfl rfl rfl hm1 hc1 rfl rfl, ?_⟩
  refine AW.cut lo0 st' [(0, vS p t.length), (3, vS x.2 x.1.length), (5, vS r.p r.l.length), (7, vS p t.length), (8, vI (t.length : Int)), (9, vI (x.1.length : Int)), (10, vB true)] ⟨rfl, rfl, rfl, rfl, rfl, rfl, rfl, trivial⟩ fun ρ0 => ?_
  refine ⟨_, rfl, (ac_impl_copyInts r.p r.l st' (hRd.2 r hmem).ints (by omega)).mono ?_⟩
  rintro _ s2 ⟨q2, rfl, hO2, hP2, hN2⟩
  have hO2 : OwnR s2 1 fI q2 r.l := Own.r.1 hO2
  refine op_one (z := 1) (a := (⟨q2, r.l⟩ : RV)) (f := cRV) rfl rfl rfl rfl rfl Nat.one_pos rfl (Nat.le_of_ble_eq_true rfl) rfl rfl rfl ?_
  refine op_add (z := 1) (st := s2) (f := cRV) (b := 24) (l := x.1) rfl rfl rfl rfl rfl rfl rfl Nat.one_pos cRV_len rfl rfl rfl (by omega) (by unfold maxLen; omega) (hP2.ownR hO.outer) ?_
  intro q4 s4 hO4 hP4 hN4
  refine AW.cut lo0 s4 [(0, vS p t.length), (3, vS q4 (x.1.length + 1)), (5, vS r.p r.l.length), (7, vS p t.length), (8, vI (t.length : Int)), (9, vI (x.1.length : Int)), (10, vB true)] ⟨rfl, rfl, rfl, rfl, rfl, rfl, rfl, trivial⟩ fun ρ0 => ?_
  have hA := OwnP.renew (l := []) (m := x.1.map pcRV ++ [pcRV ⟨q2, r.l⟩]) (c := pcR 1 cRV x.2 x.1) (OwnP.join (l := pcT x.2 x.1) (m := [pcRV ⟨q2, r.l⟩]) hO hP2 (OwnP.one (own_pc hO2)) (NewP.cons hN2 NewP.nil)) hP4 (own_pc hO4) hN4
  have hA : OwnP s4 (pcT q4 (x.1 ++ [⟨q2, r.l⟩])) := by simpa [pcT] using hA
  have e18 : IntKind.wrap .i64 ((x.1.length : Int) + 1) = ((x.1.length + 1 : Nat) : Int) := (wrap_i64 (by omega) (by omega)).trans (by omega)
  refine ⟨_, rfl, ?_⟩
  refine ⟨(x.1 ++ [⟨q2, r.l⟩], q4), t.length - (x.1.length + 1), by omega, ⟨rfl, ?_, rfl, rfl, ?_, trivial⟩, rfl, ?_, ?_, ?_, hA, ?_, ?_⟩
  ·rw [List.length_append]; rfl
  ·rw [List.length_append]; exact congrArg (Value.int .i64) e18
  ·rw [List.length_append]; rfl
  ·rw [List.length_append]; exact h1'
  ·rw [List.map_append, hl, List.length_append, List.length_singleton, d2, List.map_append]; rfl
  ·refine NewP.cons (hN4.le (Nat.le_trans hP.1 hP2.1)) ?_
   rw [List.map_append]
   exact NewP.app (fun c hc => hN c (List.mem_cons_of_mem _ hc)) (NewP.cons (hN2.le hP.1) NewP.nil)
  ·exact hP4.pres (hP.trans hP2) (hN _ (List.mem_cons_self ..))
def putT {α : Type} (t : List α) (K : Nat) (x : α) : List α := t.take K ++ x :: t.drop (K + 1)
theorem OwnP.put {st st' : St} {q : Option Addr} {u : List RV} {K : Nat} {a : Option Addr} {l l' : List Int} (h : OwnP st (pcT q (putT u K ⟨a, l⟩))) (hp : Pr a st st') (ho : OwnR st' 1 fI a l') (hl : l'.length = l.length) : OwnP st' (pcT q (putT u K ⟨a, l'⟩)) := by
 have h1 : pcT q (putT u K ⟨a, l⟩) = (pcR 1 cRV q (putT u K ⟨a, l⟩) :: (u.take K).map pcRV) ++ pcRV ⟨a, l⟩ :: (u.drop (K + 1)).map pcRV := by simp [pcT, putT]
 have h2 : pcT q (putT u K ⟨a, l'⟩) = (pcR 1 cRV q (putT u K ⟨a, l⟩) :: (u.take K).map pcRV) ++ pcRV ⟨a, l'⟩ :: (u.drop (K + 1)).map pcRV := by simp [pcT, putT, pcR, hl]
 rw [h1] at h
 rw [h2]
 exact OwnP.update h hp (own_pc ho) rfl
theorem Frs.lw {a b : St} {u : LV} (h : Frs a b (pcL u.p u.l)) : ∃ w : LW, w.v = u ∧ Frs a b (pcLog w) := by
 obtain ⟨w, hw, hO, hC⟩ := h.1.lw
 refine ⟨w, hw, hO, ?_, h.2.2⟩
 subst hw
 show NewP a.next (w.C :: w.l.flatMap pcS)
 rw [hC]; exact h.2.1
theorem Frs.one {α : Type} {a b : St} {z : Nat} {f : α → List Value} {p : Option Addr} {l : List α} (hO : OwnR b z f p l) (hN : New a.next p) (hP : Pres a b) : Frs a b [pcR z f p l] := ⟨OwnP.one (own_pc hO), NewP.cons hN NewP.nil, hP⟩
theorem Frs.nil (a : St) : Frs a a [] := ⟨OwnP.nil, NewP.nil, Pres.refl _⟩
theorem nd_mk {id n num slots wait limit clock : Int} {s s' : Sta} {t t' : Tr} {g g' : Lg} {got acked : List Int} {seen seen' : List (List Int)} {sess : List Ses} {rises : List Ris} (h1 : s = s') (h2 : t = t') (h3 : g = g') (h4 : seen = seen') : (⟨id, n, s, t, g, got, acked, seen, num, slots, sess, wait, limit, clock, rises⟩ : Nd) = ⟨id, n, s', t', g', got, acked, seen', num, slots, sess, wait, limit, clock, rises⟩ := by rw [h1, h2, h3, h4]
theorem tv_xx {u t : TV} (h1 : u.l = t.l) (h2 : u.root = t.root) : u.x = t.x := by show (⟨u.l, u.root⟩ : Tr) = ⟨t.l, t.root⟩; rw [h1, h2]
theorem tc_impl_copyTable (g : TT) (st : St) (hR : RdT st g.p g.t) (hb : bigT g.x) : C 145 [vS g.p g.t.length] st (fun v s => ∃ u : TT, v = vS u.p u.t.length ∧ u.x = g.x ∧ OwnP s (pcTT u) ∧ NewP st.next (pcTT u) ∧ Pres st s) :=
 (ac_impl_copyTable g.p g.t st hR (bigT_iff.1 hb).1 (bigT_iff.1 hb).2).mono fun v s ⟨q, u, h1, h2, h3, h4, h5⟩ => ⟨⟨q, u⟩, h1.trans (congrArg (vS q) (by have := congrArg List.length h2; simpa using this.symm)), h2, h3, h4, h5⟩
theorem tc_spec_l9Copy (g : TT) (st : St) (hR : RdT st g.p g.t) (hb : bigT g.x) : C 142 [vS g.p g.t.length] st (fun v s => ∃ u : TT, v = vS u.p u.t.length ∧ u.x = g.x ∧ OwnP s (pcTT u) ∧ NewP st.next (pcTT u) ∧ Pres st s) :=
 (ac_spec_l9Copy g.p g.t st hR (bigT_iff.1 hb).1 (bigT_iff.1 hb).2).mono fun v s ⟨q, u, h1, h2, h3, h4, h5⟩ => ⟨⟨q, u⟩, h1.trans (congrArg (vS q) (by have := congrArg List.length h2; simpa using this.symm)), h2, h3, h4, h5⟩
theorem ac_impl_copyNode (g : NV) (st : St) (hR : RdN st g) (hb : bigN g.x) : C 78 [.agg #[vI g.id, vI g.n, vS g.s.p g.s.x.items.length, vS g.s.q g.s.x.floors.length, vS g.t.p g.t.l.length, vI g.t.root, vI g.g.cap, vI g.g.frm, vS g.g.p g.g.l.length, vS g.got.p g.got.l.length, vS g.acked.p g.acked.l.length, vS g.seen.p g.seen.t.length, vI g.num, vI g.slots, vS g.sess.p g.sess.l.length, vI g.wait, vI g.limit, vI g.clock, vS g.rises.p g.rises.l.length]] st (fun v s => ∃ u : NW, v = .agg #[vI u.id, vI u.n, vS u.s.p u.s.x.items.length, vS u.s.q u.s.x.floors.length, vS u.t.p u.t.l.length, vI u.t.root, vI u.g.cap, vI u.g.frm, vS u.g.p u.g.l.length, vS u.got.p u.got.l.length, vS u.acked.p u.acked.l.length, vS u.seen.p u.seen.t.length, vI u.num, vI u.slots, vS u.sess.p u.sess.l.length, vI u.wait, vI u.limit, vI u.clock, vS u.rises.p u.rises.l.length] ∧ u.x = g.x ∧ OwnP s (pcNW u) ∧ NewP st.next (pcNW u) ∧ Pres st s) := by
 have hs1 : g.sess.l.length ≤ 1048576 := hb.sess
 have hs2 : g.rises.l.length ≤ 1048576 := hb.rises
 refine AC.enterX (i := ⟨[1, 2], [1, 2, 3, 6, 9, 12, 13, 14, 15, 18, 21, 24, 25, 26, 28, 31, 33, 36], [0, 1, 2]⟩) [(1, [2, 5], [4, 7]), (2, [2, 5], [4, 7])] Tryz.func78 rfl rfl (by kernel_rfl) (by kernel_rfl) Tryz.ntmps78 (Nat.le_of_ble_eq_true rfl) rfl ?_
 iterate 2 refine ⟨_, rfl, ?_⟩
 refine AW.cutM (2) st [(1, vL 1 0 (0)), (2, vL 2 0 (1))] [(1, 0, cNV g), (2, 1, [vI 0, vI 0, .slice none 0 0, .slice none 0 0, .slice none 0 0, vI 0, vI 0, vI 0, .slice none 0 0, .slice none 0 0, .slice none 0 0, .slice none 0 0, vI 0, vI 0, .slice none 0 0, vI 0, vI 0, vI 0, .slice none 0 0])] ⟨rfl, rfl, trivial⟩ ⟨rfl, rfl, trivial⟩ rfl fun ρ0 ff => ?_
 refine ⟨_, rfl, ?_⟩
 refine ⟨_, op_ldo rfl rfl rfl rfl, ?_⟩
 refine ⟨_, rfl, (ac_impl_copyState g.s st hR.s (hb.s)).mono ?_⟩
 rintro _ s5 ⟨u5, rfl, h5, hO5, hN5, hP5⟩
 refine ⟨hP5.2, ?_⟩
 refine ⟨_, rfl, ?_⟩
 refine ⟨_, op_ldo rfl rfl rfl rfl, ?_⟩
 refine ⟨ld_own rfl rfl rfl, ?_⟩
 refine ⟨_, rfl, (ac_impl_copyTree g.t s5 (hP5.rows hR.t) (hb.t)).mono ?_⟩
 rintro _ s8 ⟨u8, rfl, h8, h8', hO8, hN8, hP8⟩
 refine ⟨hP8.low hP5, ?_⟩
 refine ⟨_, rfl, ?_⟩
 refine ⟨_, op_ldo rfl rfl rfl rfl, ?_⟩
 refine ⟨ld_own rfl rfl rfl, ?_⟩
 refine ⟨_, rfl, (ac_impl_copyLog g.g s8 (hR.g.pres (hP5.trans hP8)) (bigLog_iff.1 hb.g)).mono ?_⟩
 rintro _ s11 ⟨u11, rfl, h11, hO11, hN11, hP11⟩
 refine ⟨_, rfl, ?_⟩
 refine ⟨_, op_sto rfl rfl rfl rfl rfl rfl rfl, ?_⟩
 refine ⟨_, rfl, ?_⟩
 refine ⟨_, op_sto rfl rfl rfl rfl rfl rfl rfl, ?_⟩
 refine ⟨_, rfl, ?_⟩
 refine ⟨_, op_sto rfl rfl rfl rfl rfl rfl rfl, ?_⟩
 refine AW.cutM (2) s11 [(1, vL 1 0 (0)), (2, vL 2 0 (1))] [(1, 0, [vI g.id, vI g.n, vS u5.p u5.x.items.length, vS u5.q u5.x.floors.length, vS u8.p u8.l.length, vI u8.root, vI u11.cap, vI u11.frm, vS u11.p u11.l.length, vS g.got.p g.got.l.length, vS g.acked.p g.acked.l.length, vS g.seen.p g.seen.t.length, vI g.num, vI g.slots, vS g.sess.p g.sess.l.length, vI g.wait, vI g.limit, vI g.clock, vS g.rises.p g.rises.l.length]), (2, 1, [vI 0, vI 0, .slice none 0 0, .slice none 0 0, .slice none 0 0, vI 0, vI 0, vI 0, .slice none 0 0, .slice none 0 0, .slice none 0 0, .slice none 0 0, vI 0, vI 0, .slice none 0 0, vI 0, vI 0, vI 0, .slice none 0 0])] ⟨rfl, rfl, trivial⟩ ⟨rfl, rfl, trivial⟩ rfl fun ρ0 ff => ?_
 have hQ1 : Pres st s11 := (hP5.trans hP8).trans hP11
 refine ⟨_, rfl, ?_⟩
 refine ⟨_, op_ldo rfl rfl rfl rfl, ?_⟩
 refine ⟨_, rfl, (ac_copyInts g.got.p g.got.l s11 (hQ1.rows hR.got) hb.got).mono ?_⟩
 rintro _ s17 ⟨q17, rfl, hO17, hN17, hP17⟩
 refine ⟨hP17.2, ?_⟩
 refine ⟨_, rfl, ?_⟩
 refine ⟨_, op_ldo rfl rfl rfl rfl, ?_⟩
 refine ⟨ld_own rfl rfl rfl, ?_⟩
 refine ⟨_, rfl, (ac_copyInts g.acked.p g.acked.l s17 ((hQ1.trans hP17).rows hR.acked) hb.acked).mono ?_⟩
 rintro _ s20 ⟨q20, rfl, hO20, hN20, hP20⟩
 refine ⟨hP20.low hP17, ?_⟩
 refine ⟨_, rfl, ?_⟩
 refine ⟨_, op_ldo rfl rfl rfl rfl, ?_⟩
 refine ⟨ld_own rfl rfl rfl, ?_⟩
 refine ⟨_, rfl, (tc_impl_copyTable g.seen s20 (hR.seen.pres ((hQ1.trans hP17).trans hP20)) hb.seen).mono ?_⟩
 rintro _ s23 ⟨u23, rfl, h23, hO23, hN23, hP23⟩
 refine ⟨_, rfl, ?_⟩
 refine ⟨_, op_sto rfl rfl rfl rfl rfl rfl rfl, ?_⟩
 refine ⟨_, rfl, ?_⟩
 refine ⟨_, op_sto rfl rfl rfl rfl rfl rfl rfl, ?_⟩
 refine ⟨_, rfl, ?_⟩
 refine ⟨_, op_sto rfl rfl rfl rfl rfl rfl rfl, ?_⟩
 refine AW.cutM (2) s23 [(1, vL 1 0 (0)), (2, vL 2 0 (1))] [(1, 0, [vI g.id, vI g.n, vS u5.p u5.x.items.length, vS u5.q u5.x.floors.length, vS u8.p u8.l.length, vI u8.root, vI u11.cap, vI u11.frm, vS u11.p u11.l.length, vS q17 g.got.l.length, vS q20 g.acked.l.length, vS u23.p u23.t.length, vI g.num, vI g.slots, vS g.sess.p g.sess.l.length, vI g.wait, vI g.limit, vI g.clock, vS g.rises.p g.rises.l.length]), (2, 1, [vI 0, vI 0, .slice none 0 0, .slice none 0 0, .slice none 0 0, vI 0, vI 0, vI 0, .slice none 0 0, .slice none 0 0, .slice none 0 0, .slice none 0 0, vI 0, vI 0, .slice none 0 0, vI 0, vI 0, vI 0, .slice none 0 0])] ⟨rfl, rfl, trivial⟩ ⟨rfl, rfl, trivial⟩ rfl fun ρ0 ff => ?_
 have hQ2 : Pres st s23 := ((hQ1.trans hP17).trans hP20).trans hP23
 have hRs := hQ2.rows hR.sess
 have hRr := hQ2.rows hR.rises
 refine op_nilK (z := 4) (f := cSess) rfl rfl rfl rfl (by decide) rfl ?_
 intro q27 s27 hO27 hP27 hN27
 refine ⟨_, rfl, ?_⟩
 refine ⟨_, op_ldo rfl rfl rfl rfl, ?_⟩
 refine op_cat' (z := 4) (st := s27) (f := cSess) (b := 32) (l := []) (l2 := g.sess.l) rfl rfl rfl rfl rfl rfl rfl (by decide) len_cSess rfl rfl rfl rfl (by first | omega | (simp only [List.length_nil]; omega)) (by unfold maxLen; first | omega | (simp only [List.length_nil]; omega)) hO27 (hP27.rows hRs) ?_
 intro q30 s30 hO30 hPr30 hN30
 refine ⟨_, rfl, ?_⟩
 refine ⟨_, op_sto rfl rfl rfl rfl rfl rfl rfl, ?_⟩
 refine AW.cutM (2) s30 [(1, vL 1 0 (0)), (2, vL 2 0 (1))] [(1, 0, [vI g.id, vI g.n, vS u5.p u5.x.items.length, vS u5.q u5.x.floors.length, vS u8.p u8.l.length, vI u8.root, vI u11.cap, vI u11.frm, vS u11.p u11.l.length, vS q17 g.got.l.length, vS q20 g.acked.l.length, vS u23.p u23.t.length, vI g.num, vI g.slots, vS q30 g.sess.l.length, vI g.wait, vI g.limit, vI g.clock, vS g.rises.p g.rises.l.length]), (2, 1, [vI 0, vI 0, .slice none 0 0, .slice none 0 0, .slice none 0 0, vI 0, vI 0, vI 0, .slice none 0 0, .slice none 0 0, .slice none 0 0, .slice none 0 0, vI 0, vI 0, .slice none 0 0, vI 0, vI 0, vI 0, .slice none 0 0])] ⟨rfl, rfl, trivial⟩ ⟨rfl, rfl, trivial⟩ rfl fun ρ0 ff => ?_
 have hP30 : Pres s23 s30 := hPr30.pres hP27 hN27
 refine op_nilK (z := 3) (f := cRise) rfl rfl rfl rfl (by decide) rfl ?_
 intro q32 s32 hO32 hP32 hN32
 refine ⟨_, rfl, ?_⟩
 refine ⟨_, op_ldo rfl rfl rfl rfl, ?_⟩
 refine op_cat' (z := 3) (st := s32) (f := cRise) (b := 24) (l := []) (l2 := g.rises.l) rfl rfl rfl rfl rfl rfl rfl (by decide) len_cRise rfl rfl rfl rfl (by first | omega | (simp only [List.length_nil]; omega)) (by unfold maxLen; first | omega | (simp only [List.length_nil]; omega)) hO32 (hP32.rows (hP30.rows hRr)) ?_
 intro q35 s35 hO35 hPr35 hN35
 refine ⟨_, rfl, ?_⟩
 refine ⟨_, op_sto rfl rfl rfl rfl rfl rfl rfl, ?_⟩
 refine AW.cutM (2) s35 [(1, vL 1 0 (0)), (2, vL 2 0 (1))] [(1, 0, [vI g.id, vI g.n, vS u5.p u5.x.items.length, vS u5.q u5.x.floors.length, vS u8.p u8.l.length, vI u8.root, vI u11.cap, vI u11.frm, vS u11.p u11.l.length, vS q17 g.got.l.length, vS q20 g.acked.l.length, vS u23.p u23.t.length, vI g.num, vI g.slots, vS q30 g.sess.l.length, vI g.wait, vI g.limit, vI g.clock, vS q35 g.rises.l.length]), (2, 1, [vI 0, vI 0, .slice none 0 0, .slice none 0 0, .slice none 0 0, vI 0, vI 0, vI 0, .slice none 0 0, .slice none 0 0, .slice none 0 0, .slice none 0 0, vI 0, vI 0, .slice none 0 0, vI 0, vI 0, vI 0, .slice none 0 0])] ⟨rfl, rfl, trivial⟩ ⟨rfl, rfl, trivial⟩ rfl fun ρ0 ff => ?_
 refine ⟨_, op_ldo (v := .agg #[vI g.id, vI g.n, vS u5.p u5.x.items.length, vS u5.q u5.x.floors.length, vS u8.p u8.l.length, vI u8.root, vI u11.cap, vI u11.frm, vS u11.p u11.l.length, vS q17 g.got.l.length, vS q20 g.acked.l.length, vS u23.p u23.t.length, vI g.num, vI g.slots, vS q30 g.sess.l.length, vI g.wait, vI g.limit, vI g.clock, vS q35 g.rises.l.length]) rfl rfl rfl rfl, ?_⟩
 refine ⟨_, op_stw (vs := [vI g.id, vI g.n, vS u5.p u5.x.items.length, vS u5.q u5.x.floors.length, vS u8.p u8.l.length, vI u8.root, vI u11.cap, vI u11.frm, vS u11.p u11.l.length, vS q17 g.got.l.length, vS q20 g.acked.l.length, vS u23.p u23.t.length, vI g.num, vI g.slots, vS q30 g.sess.l.length, vI g.wait, vI g.limit, vI g.clock, vS q35 g.rises.l.length]) rfl rfl rfl rfl rfl rfl rfl rfl, ?_⟩
 refine cxs ?_
 obtain ⟨w, rfl, hF11⟩ := Frs.lw ⟨hO11, hN11, hP11⟩
 have hF30 : Frs s23 s30 (pcSes ⟨q30, g.sess.l⟩) := Frs.one hO30 (cat_new hP27 hN27 hN30) hP30
 have hF35 : Frs s30 s35 (pcRis ⟨q35, g.rises.l⟩) := Frs.one hO35 (cat_new hP32 hN32 hN35) (hPr35.pres hP32 hN32)
 have hF : Frs st s35 (pcNW ⟨g.id, g.n, u5, u8, w, ⟨q17, g.got.l⟩, ⟨q20, g.acked.l⟩, u23, g.num, g.slots, ⟨q30, g.sess.l⟩, g.wait, g.limit, g.clock, ⟨q35, g.rises.l⟩⟩) := Frs.join ⟨hO5, hN5, hP5⟩ ((Frs.one hO8 hN8 hP8).join (hF11.join ((Frs.one hO17 hN17 hP17).join ((Frs.one hO20 hN20 hP20).join (Frs.join ⟨hO23, hN23, hP23⟩ (hF30.join hF35))))))
 exact ⟨.inl rfl, _, rfl, _, rfl, nd_mk h5 (tv_xx h8 h8') h11 h23, hF.1, hF.2.1, hF.2.2⟩
theorem ac_spec_l11Copy (g : NV) (st : St) (hR : RdN st g) (hb : bigN g.x) : C 77 [.agg #[vI g.id, vI g.n, vS g.s.p g.s.x.items.length, vS g.s.q g.s.x.floors.length, vS g.t.p g.t.l.length, vI g.t.root, vI g.g.cap, vI g.g.frm, vS g.g.p g.g.l.length, vS g.got.p g.got.l.length, vS g.acked.p g.acked.l.length, vS g.seen.p g.seen.t.length, vI g.num, vI g.slots, vS g.sess.p g.sess.l.length, vI g.wait, vI g.limit, vI g.clock, vS g.rises.p g.rises.l.length]] st (fun v s => ∃ u : NW, v = .agg #[vI u.id, vI u.n, vS u.s.p u.s.x.items.length, vS u.s.q u.s.x.floors.length, vS u.t.p u.t.l.length, vI u.t.root, vI u.g.cap, vI u.g.frm, vS u.g.p u.g.l.length, vS u.got.p u.got.l.length, vS u.acked.p u.acked.l.length, vS u.seen.p u.seen.t.length, vI u.num, vI u.slots, vS u.sess.p u.sess.l.length, vI u.wait, vI u.limit, vI u.clock, vS u.rises.p u.rises.l.length] ∧ u.x = g.x ∧ OwnP s (pcNW u) ∧ NewP st.next (pcNW u) ∧ Pres st s) := by
 have hs1 : g.sess.l.length ≤ 1048576 := hb.sess
 have hs2 : g.rises.l.length ≤ 1048576 := hb.rises
 have hs3 : g.got.l.length ≤ 1048576 := hb.got
 have hs4 : g.acked.l.length ≤ 1048576 := hb.acked
 refine AC.enterX (i := ⟨[1, 2, 3], [1, 2, 3, 5, 8, 9, 12, 13, 16, 18, 21, 23, 26, 27, 30, 32, 35, 37, 40], [0, 1, 2, 3]⟩) [] Tryz.func77 rfl rfl (by kernel_rfl) (by kernel_rfl) Tryz.ntmps77 (Nat.le_of_ble_eq_true rfl) rfl ?_
 iterate 2 refine ⟨_, rfl, ?_⟩
 refine AW.cutM (2) st [(1, vL 1 0 (0)), (2, vL 2 0 (1))] [(1, 0, cNV g), (2, 1, [vI 0, vI 0, .slice none 0 0, .slice none 0 0, .slice none 0 0, vI 0, vI 0, vI 0, .slice none 0 0, .slice none 0 0, .slice none 0 0, .slice none 0 0, vI 0, vI 0, .slice none 0 0, vI 0, vI 0, vI 0, .slice none 0 0])] ⟨rfl, rfl, trivial⟩ ⟨rfl, rfl, trivial⟩ rfl fun ρ0 ff => ?_
 refine ⟨_, op_ldo (v := (vNV g)) rfl rfl rfl rfl, ?_⟩
 refine ⟨_, rfl, ?_⟩
 refine ⟨_, op_stw (vs := cNV g) rfl rfl rfl rfl rfl rfl rfl rfl, ?_⟩
 refine AW.cutM (3) st [(1, vL 1 0 (0)), (2, vL 2 0 (1)), (3, vL 3 0 (2))] [(1, 0, cNV g), (2, 1, [vI 0, vI 0, .slice none 0 0, .slice none 0 0, .slice none 0 0, vI 0, vI 0, vI 0, .slice none 0 0, .slice none 0 0, .slice none 0 0, .slice none 0 0, vI 0, vI 0, .slice none 0 0, vI 0, vI 0, vI 0, .slice none 0 0]), (3, 2, cNV g)] ⟨rfl, rfl, rfl, trivial⟩ ⟨rfl, rfl, rfl, trivial⟩ rfl fun ρ0 ff => ?_
 refine ⟨_, rfl, ?_⟩
 refine ⟨_, op_ldo rfl rfl rfl rfl, ?_⟩
 refine ⟨_, rfl, (ac_spec_l3Copy g.s st hR.s (hb.s)).mono ?_⟩
 rintro _ s7 ⟨u7, rfl, h7, hO7, hN7, hP7⟩
 refine ⟨_, rfl, ?_⟩
 refine ⟨_, op_sto rfl rfl rfl rfl rfl rfl rfl, ?_⟩
 refine AW.cutM (3) s7 [(1, vL 1 0 (0)), (2, vL 2 0 (1)), (3, vL 3 0 (2))] [(1, 0, cNV g), (2, 1, [vI 0, vI 0, .slice none 0 0, .slice none 0 0, .slice none 0 0, vI 0, vI 0, vI 0, .slice none 0 0, .slice none 0 0, .slice none 0 0, .slice none 0 0, vI 0, vI 0, .slice none 0 0, vI 0, vI 0, vI 0, .slice none 0 0]), (3, 2, [vI g.id, vI g.n, vS u7.p u7.x.items.length, vS u7.q u7.x.floors.length, vS g.t.p g.t.l.length, vI g.t.root, vI g.g.cap, vI g.g.frm, vS g.g.p g.g.l.length, vS g.got.p g.got.l.length, vS g.acked.p g.acked.l.length, vS g.seen.p g.seen.t.length, vI g.num, vI g.slots, vS g.sess.p g.sess.l.length, vI g.wait, vI g.limit, vI g.clock, vS g.rises.p g.rises.l.length])] ⟨rfl, rfl, rfl, trivial⟩ ⟨rfl, rfl, rfl, trivial⟩ rfl fun ρ0 ff => ?_
 refine ⟨_, rfl, ?_⟩
 refine ⟨_, op_ldo rfl rfl rfl rfl, ?_⟩
 refine ⟨_, rfl, (ac_spec_l6Copy g.t s7 (hP7.rows hR.t) (hb.t)).mono ?_⟩
 rintro _ s11 ⟨u11, rfl, h11, h11', hO11, hN11, hP11⟩
 refine ⟨_, rfl, ?_⟩
 refine ⟨_, op_sto rfl rfl rfl rfl rfl rfl rfl, ?_⟩
 refine AW.cutM (3) s11 [(1, vL 1 0 (0)), (2, vL 2 0 (1)), (3, vL 3 0 (2))] [(1, 0, cNV g), (2, 1, [vI 0, vI 0, .slice none 0 0, .slice none 0 0, .slice none 0 0, vI 0, vI 0, vI 0, .slice none 0 0, .slice none 0 0, .slice none 0 0, .slice none 0 0, vI 0, vI 0, .slice none 0 0, vI 0, vI 0, vI 0, .slice none 0 0]), (3, 2, [vI g.id, vI g.n, vS u7.p u7.x.items.length, vS u7.q u7.x.floors.length, vS u11.p u11.l.length, vI u11.root, vI g.g.cap, vI g.g.frm, vS g.g.p g.g.l.length, vS g.got.p g.got.l.length, vS g.acked.p g.acked.l.length, vS g.seen.p g.seen.t.length, vI g.num, vI g.slots, vS g.sess.p g.sess.l.length, vI g.wait, vI g.limit, vI g.clock, vS g.rises.p g.rises.l.length])] ⟨rfl, rfl, rfl, trivial⟩ ⟨rfl, rfl, rfl, trivial⟩ rfl fun ρ0 ff => ?_
 refine ⟨_, rfl, ?_⟩
 refine ⟨_, op_ldo rfl rfl rfl rfl, ?_⟩
 refine ⟨_, rfl, (ac_spec_l7Copy g.g s11 (hR.g.pres (hP7.trans hP11)) (bigLog_iff.1 hb.g)).mono ?_⟩
 rintro _ s15 ⟨u15, rfl, h15, hO15, hN15, hP15⟩
 refine ⟨_, rfl, ?_⟩
 refine ⟨_, op_sto rfl rfl rfl rfl rfl rfl rfl, ?_⟩
 refine AW.cutM (3) s15 [(1, vL 1 0 (0)), (2, vL 2 0 (1)), (3, vL 3 0 (2))] [(1, 0, cNV g), (2, 1, [vI 0, vI 0, .slice none 0 0, .slice none 0 0, .slice none 0 0, vI 0, vI 0, vI 0, .slice none 0 0, .slice none 0 0, .slice none 0 0, .slice none 0 0, vI 0, vI 0, .slice none 0 0, vI 0, vI 0, vI 0, .slice none 0 0]), (3, 2, [vI g.id, vI g.n, vS u7.p u7.x.items.length, vS u7.q u7.x.floors.length, vS u11.p u11.l.length, vI u11.root, vI u15.cap, vI u15.frm, vS u15.p u15.l.length, vS g.got.p g.got.l.length, vS g.acked.p g.acked.l.length, vS g.seen.p g.seen.t.length, vI g.num, vI g.slots, vS g.sess.p g.sess.l.length, vI g.wait, vI g.limit, vI g.clock, vS g.rises.p g.rises.l.length])] ⟨rfl, rfl, rfl, trivial⟩ ⟨rfl, rfl, rfl, trivial⟩ rfl fun ρ0 ff => ?_
 have hQ1 : Pres st s15 := (hP7.trans hP11).trans hP15
 have hRg := hQ1.rows hR.got
 refine op_nilK (z := 1) (f := fI) rfl rfl rfl rfl (by decide) rfl ?_
 intro q17 s17 hO17 hP17 hN17
 refine ⟨_, rfl, ?_⟩
 refine ⟨_, op_ldo rfl rfl rfl rfl, ?_⟩
 refine op_cat' (z := 1) (st := s17) (f := fI) (b := 8) (l := []) (l2 := g.got.l) rfl rfl rfl rfl rfl rfl rfl (by decide) fI_len rfl rfl rfl rfl (by first | omega | (simp only [List.length_nil]; omega)) (by unfold maxLen; first | omega | (simp only [List.length_nil]; omega)) hO17 (hP17.rows hRg) ?_
 intro q20 s20 hO20 hPr20 hN20
 refine ⟨_, rfl, ?_⟩
 refine ⟨_, op_sto rfl rfl rfl rfl rfl rfl rfl, ?_⟩
 refine AW.cutM (3) s20 [(1, vL 1 0 (0)), (2, vL 2 0 (1)), (3, vL 3 0 (2))] [(1, 0, cNV g), (2, 1, [vI 0, vI 0, .slice none 0 0, .slice none 0 0, .slice none 0 0, vI 0, vI 0, vI 0, .slice none 0 0, .slice none 0 0, .slice none 0 0, .slice none 0 0, vI 0, vI 0, .slice none 0 0, vI 0, vI 0, vI 0, .slice none 0 0]), (3, 2, [vI g.id, vI g.n, vS u7.p u7.x.items.length, vS u7.q u7.x.floors.length, vS u11.p u11.l.length, vI u11.root, vI u15.cap, vI u15.frm, vS u15.p u15.l.length, vS q20 g.got.l.length, vS g.acked.p g.acked.l.length, vS g.seen.p g.seen.t.length, vI g.num, vI g.slots, vS g.sess.p g.sess.l.length, vI g.wait, vI g.limit, vI g.clock, vS g.rises.p g.rises.l.length])] ⟨rfl, rfl, rfl, trivial⟩ ⟨rfl, rfl, rfl, trivial⟩ rfl fun ρ0 ff => ?_
 have hP20 : Pres s15 s20 := hPr20.pres hP17 hN17
 have hQ2 := hQ1.trans hP20
 have hRa := hQ2.rows hR.acked
 refine op_nilK (z := 1) (f := fI) rfl rfl rfl rfl (by decide) rfl ?_
 intro q22 s22 hO22 hP22 hN22
 refine ⟨_, rfl, ?_⟩
 refine ⟨_, op_ldo rfl rfl rfl rfl, ?_⟩
 refine op_cat' (z := 1) (st := s22) (f := fI) (b := 8) (l := []) (l2 := g.acked.l) rfl rfl rfl rfl rfl rfl rfl (by decide) fI_len rfl rfl rfl rfl (by first | omega | (simp only [List.length_nil]; omega)) (by unfold maxLen; first | omega | (simp only [List.length_nil]; omega)) hO22 (hP22.rows hRa) ?_
 intro q25 s25 hO25 hPr25 hN25
 refine ⟨_, rfl, ?_⟩
 refine ⟨_, op_sto rfl rfl rfl rfl rfl rfl rfl, ?_⟩
 refine AW.cutM (3) s25 [(1, vL 1 0 (0)), (2, vL 2 0 (1)), (3, vL 3 0 (2))] [(1, 0, cNV g), (2, 1, [vI 0, vI 0, .slice none 0 0, .slice none 0 0, .slice none 0 0, vI 0, vI 0, vI 0, .slice none 0 0, .slice none 0 0, .slice none 0 0, .slice none 0 0, vI 0, vI 0, .slice none 0 0, vI 0, vI 0, vI 0, .slice none 0 0]), (3, 2, [vI g.id, vI g.n, vS u7.p u7.x.items.length, vS u7.q u7.x.floors.length, vS u11.p u11.l.length, vI u11.root, vI u15.cap, vI u15.frm, vS u15.p u15.l.length, vS q20 g.got.l.length, vS q25 g.acked.l.length, vS g.seen.p g.seen.t.length, vI g.num, vI g.slots, vS g.sess.p g.sess.l.length, vI g.wait, vI g.limit, vI g.clock, vS g.rises.p g.rises.l.length])] ⟨rfl, rfl, rfl, trivial⟩ ⟨rfl, rfl, rfl, trivial⟩ rfl fun ρ0 ff => ?_
 have hP25 : Pres s20 s25 := hPr25.pres hP22 hN22
 have hQ3 := hQ2.trans hP25
 refine ⟨_, rfl, ?_⟩
 refine ⟨_, op_ldo rfl rfl rfl rfl, ?_⟩
 refine ⟨_, rfl, (tc_spec_l9Copy g.seen s25 (hR.seen.pres hQ3) hb.seen).mono ?_⟩
 rintro _ s29 ⟨u29, rfl, h29, hO29, hN29, hP29⟩
 refine ⟨_, rfl, ?_⟩
 refine ⟨_, op_sto rfl rfl rfl rfl rfl rfl rfl, ?_⟩
 refine AW.cutM (3) s29 [(1, vL 1 0 (0)), (2, vL 2 0 (1)), (3, vL 3 0 (2))] [(1, 0, cNV g), (2, 1, [vI 0, vI 0, .slice none 0 0, .slice none 0 0, .slice none 0 0, vI 0, vI 0, vI 0, .slice none 0 0, .slice none 0 0, .slice none 0 0, .slice none 0 0, vI 0, vI 0, .slice none 0 0, vI 0, vI 0, vI 0, .slice none 0 0]), (3, 2, [vI g.id, vI g.n, vS u7.p u7.x.items.length, vS u7.q u7.x.floors.length, vS u11.p u11.l.length, vI u11.root, vI u15.cap, vI u15.frm, vS u15.p u15.l.length, vS q20 g.got.l.length, vS q25 g.acked.l.length, vS u29.p u29.t.length, vI g.num, vI g.slots, vS g.sess.p g.sess.l.length, vI g.wait, vI g.limit, vI g.clock, vS g.rises.p g.rises.l.length])] ⟨rfl, rfl, rfl, trivial⟩ ⟨rfl, rfl, rfl, trivial⟩ rfl fun ρ0 ff => ?_
 have hQ4 : Pres st s29 := hQ3.trans hP29
 have hRs := hQ4.rows hR.sess
 have hRr := hQ4.rows hR.rises
 refine op_nilK (z := 4) (f := cSess) rfl rfl rfl rfl (by decide) rfl ?_
 intro q31 s31 hO31 hP31 hN31
 refine ⟨_, rfl, ?_⟩
 refine ⟨_, op_ldo rfl rfl rfl rfl, ?_⟩
 refine op_cat' (z := 4) (st := s31) (f := cSess) (b := 32) (l := []) (l2 := g.sess.l) rfl rfl rfl rfl rfl rfl rfl (by decide) len_cSess rfl rfl rfl rfl (by first | omega | (simp only [List.length_nil]; omega)) (by unfold maxLen; first | omega | (simp only [List.length_nil]; omega)) hO31 (hP31.rows hRs) ?_
 intro q34 s34 hO34 hPr34 hN34
 refine ⟨_, rfl, ?_⟩
 refine ⟨_, op_sto rfl rfl rfl rfl rfl rfl rfl, ?_⟩
 refine AW.cutM (3) s34 [(1, vL 1 0 (0)), (2, vL 2 0 (1)), (3, vL 3 0 (2))] [(1, 0, cNV g), (2, 1, [vI 0, vI 0, .slice none 0 0, .slice none 0 0, .slice none 0 0, vI 0, vI 0, vI 0, .slice none 0 0, .slice none 0 0, .slice none 0 0, .slice none 0 0, vI 0, vI 0, .slice none 0 0, vI 0, vI 0, vI 0, .slice none 0 0]), (3, 2, [vI g.id, vI g.n, vS u7.p u7.x.items.length, vS u7.q u7.x.floors.length, vS u11.p u11.l.length, vI u11.root, vI u15.cap, vI u15.frm, vS u15.p u15.l.length, vS q20 g.got.l.length, vS q25 g.acked.l.length, vS u29.p u29.t.length, vI g.num, vI g.slots, vS q34 g.sess.l.length, vI g.wait, vI g.limit, vI g.clock, vS g.rises.p g.rises.l.length])] ⟨rfl, rfl, rfl, trivial⟩ ⟨rfl, rfl, rfl, trivial⟩ rfl fun ρ0 ff => ?_
 have hP34 : Pres s29 s34 := hPr34.pres hP31 hN31
 refine op_nilK (z := 3) (f := cRise) rfl rfl rfl rfl (by decide) rfl ?_
 intro q36 s36 hO36 hP36 hN36
 refine ⟨_, rfl, ?_⟩
 refine ⟨_, op_ldo rfl rfl rfl rfl, ?_⟩
 refine op_cat' (z := 3) (st := s36) (f := cRise) (b := 24) (l := []) (l2 := g.rises.l) rfl rfl rfl rfl rfl rfl rfl (by decide) len_cRise rfl rfl rfl rfl (by first | omega | (simp only [List.length_nil]; omega)) (by unfold maxLen; first | omega | (simp only [List.length_nil]; omega)) hO36 (hP36.rows (hP34.rows hRr)) ?_
 intro q39 s39 hO39 hPr39 hN39
 refine ⟨_, rfl, ?_⟩
 refine ⟨_, op_sto rfl rfl rfl rfl rfl rfl rfl, ?_⟩
 refine AW.cutM (3) s39 [(2, vL 2 0 (1)), (3, vL 3 0 (2))] [(2, 1, [vI 0, vI 0, .slice none 0 0, .slice none 0 0, .slice none 0 0, vI 0, vI 0, vI 0, .slice none 0 0, .slice none 0 0, .slice none 0 0, .slice none 0 0, vI 0, vI 0, .slice none 0 0, vI 0, vI 0, vI 0, .slice none 0 0]), (3, 2, [vI g.id, vI g.n, vS u7.p u7.x.items.length, vS u7.q u7.x.floors.length, vS u11.p u11.l.length, vI u11.root, vI u15.cap, vI u15.frm, vS u15.p u15.l.length, vS q20 g.got.l.length, vS q25 g.acked.l.length, vS u29.p u29.t.length, vI g.num, vI g.slots, vS q34 g.sess.l.length, vI g.wait, vI g.limit, vI g.clock, vS q39 g.rises.l.length])] ⟨rfl, rfl, trivial⟩ ⟨rfl, rfl, trivial⟩ rfl fun ρ0 ff => ?_
 refine ⟨_, op_ldo (v := .agg #[vI g.id, vI g.n, vS u7.p u7.x.items.length, vS u7.q u7.x.floors.length, vS u11.p u11.l.length, vI u11.root, vI u15.cap, vI u15.frm, vS u15.p u15.l.length, vS q20 g.got.l.length, vS q25 g.acked.l.length, vS u29.p u29.t.length, vI g.num, vI g.slots, vS q34 g.sess.l.length, vI g.wait, vI g.limit, vI g.clock, vS q39 g.rises.l.length]) rfl rfl rfl rfl, ?_⟩
 refine ⟨_, op_stw (vs := [vI g.id, vI g.n, vS u7.p u7.x.items.length, vS u7.q u7.x.floors.length, vS u11.p u11.l.length, vI u11.root, vI u15.cap, vI u15.frm, vS u15.p u15.l.length, vS q20 g.got.l.length, vS q25 g.acked.l.length, vS u29.p u29.t.length, vI g.num, vI g.slots, vS q34 g.sess.l.length, vI g.wait, vI g.limit, vI g.clock, vS q39 g.rises.l.length]) rfl rfl rfl rfl rfl rfl rfl rfl, ?_⟩
 refine cxs ?_
 obtain ⟨w, rfl, hF15⟩ := Frs.lw ⟨hO15, hN15, hP15⟩
 have hF20 : Frs s15 s20 (pcIs ⟨q20, g.got.l⟩) := Frs.one hO20 (cat_new hP17 hN17 hN20) hP20
 have hF25 : Frs s20 s25 (pcIs ⟨q25, g.acked.l⟩) := Frs.one hO25 (cat_new hP22 hN22 hN25) hP25
 have hF34 : Frs s29 s34 (pcSes ⟨q34, g.sess.l⟩) := Frs.one hO34 (cat_new hP31 hN31 hN34) hP34
 have hF39 : Frs s34 s39 (pcRis ⟨q39, g.rises.l⟩) := Frs.one hO39 (cat_new hP36 hN36 hN39) (hPr39.pres hP36 hN36)
 have hF : Frs st s39 (pcNW ⟨g.id, g.n, u7, u11, w, ⟨q20, g.got.l⟩, ⟨q25, g.acked.l⟩, u29, g.num, g.slots, ⟨q34, g.sess.l⟩, g.wait, g.limit, g.clock, ⟨q39, g.rises.l⟩⟩) := Frs.join ⟨hO7, hN7, hP7⟩ ((Frs.one hO11 hN11 hP11).join (hF15.join (hF20.join (hF25.join (Frs.join ⟨hO29, hN29, hP29⟩ (hF34.join hF39))))))
 exact ⟨.inl rfl, _, rfl, _, rfl, nd_mk h7 (tv_xx h11 h11') h15 h29, hF.1, hF.2.1, hF.2.2⟩
theorem OwnP.swap {st st' : St} {a c d b : List Pc} (h : OwnP st (a ++ (c ++ b))) (hF : Frs st st' d) : OwnP st' (a ++ (d ++ b)) :=
 (OwnP.joinF (OwnP.right (OwnP.front1 h)) hF.2.2 hF.1 hF.2.1).front1
theorem NewP.left {n : Nat} {a b : List Pc} (h : NewP n (a ++ b)) : NewP n a := fun c hc => h c (List.mem_append_left _ hc)
theorem NewP.right {n : Nat} {a b : List Pc} (h : NewP n (a ++ b)) : NewP n b := fun c hc => h c (List.mem_append_right _ hc)
theorem Frs.swap {s0 st st' : St} {a c d b : List Pc} (h : Frs s0 st (a ++ (c ++ b))) (hF : Frs st st' d) : Frs s0 st' (a ++ (d ++ b)) :=
 ⟨h.1.swap hF, h.2.1.left.app ((hF.2.1.le h.2.2.1).app h.2.1.right.right), h.2.2.trans hF.2.2⟩
theorem Frs.sess {s0 st st' : St} {v : NW} {q : SesV} (h : Frs s0 st (pcNW v)) (hF : Frs st st' (pcSes q)) : Frs s0 st' (pcNW { v with sess := q }) := by
 have e : ∀ x : SesV, pcNW { v with sess := x } = (pcS v.s ++ (pcIs v.t.toRV ++ (pcLog v.g ++ (pcIs v.got ++ (pcIs v.acked ++ pcTT v.seen))))) ++ (pcSes x ++ pcRis v.rises) := fun x => by simp only [List.append_assoc]
 rw [e]
 exact Frs.swap (c := pcSes v.sess) (by rw [← e]; exact h) hF
theorem Frs.ses0 {a : St} : Frs a a (pcSes ⟨none, []⟩) := ⟨OwnP.one (.inl ⟨rfl, rfl⟩), NewP.cons New.none NewP.nil, Pres.refl _⟩
theorem Frs.ownS {a b : St} {q : Option Addr} {l : List Ses} (h : Frs a b (pcSes ⟨q, l⟩)) : OwnR b 4 cSess q l := own_one (by decide) len_cSess h.1
theorem Frs.newS {a b : St} {q : Option Addr} {l : List Ses} (h : Frs a b (pcSes ⟨q, l⟩)) : New a.next q := h.2.1 _ (List.mem_cons_self ..)
def older (x : Ses) : Ses := ⟨x.peer, x.num, x.inn, x.age + 1⟩
abbrev agedL (w : Int) (l : List Ses) : List Ses := (l.map older).filter fun x => decide (x.age ≤ w)
theorem aged_in {w : Int} {l : List Ses} {i : Nat} {x : Ses} (h : l[i]? = some x) (hx : x.age + 1 ≤ w) : agedL w (l.take (i + 1)) = agedL w (l.take i) ++ [older x] := by
 unfold agedL
 rw [List.take_add_one, h, List.map_append, List.filter_append]
 congr 1
 show List.filter _ [older x] = [older x]
 exact List.filter_cons_of_pos (decide_eq_true hx)
theorem aged_out {w : Int} {l : List Ses} {i : Nat} {x : Ses} (h : l[i]? = some x) (hx : ¬ x.age + 1 ≤ w) : agedL w (l.take (i + 1)) = agedL w (l.take i) := by
 unfold agedL
 rw [List.take_add_one, h, List.map_append, List.filter_append]
 have : List.filter (fun x : Ses => decide (x.age ≤ w)) [older x] = [] := List.filter_cons_of_neg (fun h => hx (of_decide_eq_true h))
 show _ ++ List.filter _ [older x] = _
 rw [this, List.append_nil]
theorem aged_len (w : Int) (l : List Ses) : (agedL w l).length ≤ l.length := Nat.le_trans (List.length_filter_le _ _) (by rw [List.length_map]; exact Nat.le_refl _)
open Classical in
noncomputable def tickF (x : Nd) : Nd := if nodeOk x ∧ ¬ x.clock = 100000 then { x with clock := x.clock + 1, sess := agedL x.wait x.sess } else x
theorem tick_no {x : Nd} (h : ¬ (nodeOk x ∧ ¬ x.clock = 100000)) : tickF x = x := if_neg h
theorem tick_yes {x : Nd} (h : nodeOk x ∧ ¬ x.clock = 100000) : tickF x = { x with clock := x.clock + 1, sess := agedL x.wait x.sess } := if_pos h
theorem tick_eq {g x : Nd} {l : List Ses} (h : x = g) (hk : nodeOk g ∧ ¬ g.clock = 100000) (hl : l = agedL g.wait g.sess) : ({ x with clock := x.clock + 1, sess := l } : Nd) = tickF g := by rw [tick_yes hk, h, hl]
theorem ac_impl_Tick (g : NV) (st : St) (hR : RdN st g) (hb : bigN g.x) : C 27 [.agg #[vI g.id, vI g.n, vS g.s.p g.s.x.items.length, vS g.s.q g.s.x.floors.length, vS g.t.p g.t.l.length, vI g.t.root, vI g.g.cap, vI g.g.frm, vS g.g.p g.g.l.length, vS g.got.p g.got.l.length, vS g.acked.p g.acked.l.length, vS g.seen.p g.seen.t.length, vI g.num, vI g.slots, vS g.sess.p g.sess.l.length, vI g.wait, vI g.limit, vI g.clock, vS g.rises.p g.rises.l.length]] st (fun v s => ∃ u : NW, v = .agg #[vI u.id, vI u.n, vS u.s.p u.s.x.items.length, vS u.s.q u.s.x.floors.length, vS u.t.p u.t.l.length, vI u.t.root, vI u.g.cap, vI u.g.frm, vS u.g.p u.g.l.length, vS u.got.p u.got.l.length, vS u.acked.p u.acked.l.length, vS u.seen.p u.seen.t.length, vI u.num, vI u.slots, vS u.sess.p u.sess.l.length, vI u.wait, vI u.limit, vI u.clock, vS u.rises.p u.rises.l.length] ∧ u.x = tickF g.x ∧ OwnP s (pcNW u) ∧ NewP st.next (pcNW u) ∧ Pres st s) := by
 have hs1 : g.sess.l.length ≤ 1048576 := hb.sess
 refine AC.enterX (i := ⟨[1, 2, 3, 5], [1, 2, 3, 5, 12, 17, 20, 21, 22, 29, 32, 33, 35, 38, 43], [0, 1, 2, 3, 5, 15, 23, 24, 25, 26, 37]⟩) [] Tryz.func27 rfl rfl (by kernel_rfl) (by kernel_rfl) Tryz.ntmps27 (Nat.le_of_ble_eq_true rfl) rfl ?_
 iterate 2 refine ⟨_, rfl, ?_⟩
 refine AW.cutM (2) st [(1, vL 1 0 (0)), (2, vL 2 0 (1))] [(1, 0, cNV g), (2, 1, [vI 0, vI 0, .slice none 0 0, .slice none 0 0, .slice none 0 0, vI 0, vI 0, vI 0, .slice none 0 0, .slice none 0 0, .slice none 0 0, .slice none 0 0, vI 0, vI 0, .slice none 0 0, vI 0, vI 0, vI 0, .slice none 0 0])] ⟨rfl, rfl, trivial⟩ ⟨rfl, rfl, trivial⟩ rfl fun ρ0 ff => ?_
 refine ⟨_, op_ldo (v := (vNV g)) rfl rfl rfl rfl, ?_⟩
 refine ⟨_, rfl, (ac_impl_copyNode g st hR (by first | assumption | omega)).mono ?_⟩
 rintro _ s7 ⟨u7, rfl, h7, hO7, hN7, hP7⟩
 refine ⟨_, rfl, ?_⟩
 refine ⟨_, op_stw (vs := cNV u7.v) rfl rfl rfl rfl rfl rfl rfl rfl, ?_⟩
 refine AW.cutM (3) s7 [(1, vL 1 0 (0)), (2, vL 2 0 (1)), (3, vL 3 0 (2))] [(1, 0, cNV g), (2, 1, [vI 0, vI 0, .slice none 0 0, .slice none 0 0, .slice none 0 0, vI 0, vI 0, vI 0, .slice none 0 0, .slice none 0 0, .slice none 0 0, .slice none 0 0, vI 0, vI 0, .slice none 0 0, vI 0, vI 0, vI 0, .slice none 0 0]), (3, 2, cNV u7.v)] ⟨rfl, rfl, rfl, trivial⟩ ⟨rfl, rfl, rfl, trivial⟩ rfl fun ρ0 ff => ?_
 refine ⟨_, op_ldo (v := (vNV g)) rfl rfl rfl rfl, ?_⟩
 refine ⟨_, rfl, (ac_impl_NodeOk g s7 (hR.pres hP7) (by first | assumption | omega)).mono ?_⟩
 rintro _ s9 ⟨x9, rfl, h9, hP9⟩
 rcases x9 with _|_
 ·replace h9 := fun k => Bool.false_ne_true (h9.2 k)
  iterate 2 refine ⟨_, rfl, ?_⟩
  refine AW.cutM (3) s9 [(1, vL 1 0 (0)), (2, vL 2 0 (1)), (3, vL 3 0 (2)), (15, vB true)] [(1, 0, cNV g), (2, 1, [vI 0, vI 0, .slice none 0 0, .slice none 0 0, .slice none 0 0, vI 0, vI 0, vI 0, .slice none 0 0, .slice none 0 0, .slice none 0 0, .slice none 0 0, vI 0, vI 0, .slice none 0 0, vI 0, vI 0, vI 0, .slice none 0 0]), (3, 2, cNV u7.v)] ⟨rfl, rfl, rfl, rfl, trivial⟩ ⟨rfl, rfl, rfl, trivial⟩ rfl fun ρ0 ff => ?_
  have hF9 : Frs st s9 (pcNW u7) := ⟨hO7.pres hP9, hN7, hP7.trans hP9⟩
  refine ⟨_, op_ldo (v := (vNV u7.v)) rfl rfl rfl rfl, ?_⟩
  refine ⟨_, op_stw (vs := cNV u7.v) rfl rfl rfl rfl rfl rfl rfl rfl, ?_⟩
  refine cxs ?_
  exact ⟨.inl rfl, _, rfl, u7, rfl, h7.trans (tick_no fun k => h9 k.1).symm, hF9.1, hF9.2.1, hF9.2.2⟩
 ·replace h9 := h9.1 rfl
  iterate 2 refine ⟨_, rfl, ?_⟩
  refine ⟨_, op_ldo rfl rfl rfl rfl, ?_⟩
  refine ⟨_, rfl, ?_⟩
  rintro (_|_) h14
  ·replace h14 : ¬ (g.clock = (100000)) := beq_eq_false_iff_ne.1 h14
   refine ⟨_, rfl, ?_⟩
   refine AW.cutM (3) s9 [(1, vL 1 0 (0)), (2, vL 2 0 (1)), (3, vL 3 0 (2)), (15, vB false)] [(1, 0, cNV g), (2, 1, [vI 0, vI 0, .slice none 0 0, .slice none 0 0, .slice none 0 0, vI 0, vI 0, vI 0, .slice none 0 0, .slice none 0 0, .slice none 0 0, .slice none 0 0, vI 0, vI 0, .slice none 0 0, vI 0, vI 0, vI 0, .slice none 0 0]), (3, 2, cNV u7.v)] ⟨rfl, rfl, rfl, rfl, trivial⟩ ⟨rfl, rfl, rfl, trivial⟩ rfl fun ρ0 ff => ?_
   have hF9 : Frs st s9 (pcNW u7) := ⟨hO7.pres hP9, hN7, hP7.trans hP9⟩
   refine cxs ?_
   refine ⟨_, rfl, ?_⟩
   refine ⟨_, op_ldo rfl rfl rfl rfl, ?_⟩
   have hc7 : u7.clock = g.clock := congrArg Nd.clock h7
   have hcl : 0 ≤ g.clock ∧ g.clock ≤ 100000 := h9.clock
   have hwt : 1 ≤ g.wait ∧ g.wait ≤ 20 := h9.wait
   have ew19 : IntKind.wrap .i64 (u7.clock + (1)) = u7.clock + (1) := wrap_i64 (by omega) (by omega)
   iterate 2 refine ⟨_, rfl, ?_⟩
   refine ⟨_, op_sto rfl rfl rfl rfl rfl rfl rfl, ?_⟩
   refine AW.cutM (3) s9 [(1, vL 1 0 (0)), (2, vL 2 0 (1)), (3, vL 3 0 (2))] [(1, 0, cNV g), (2, 1, [vI 0, vI 0, .slice none 0 0, .slice none 0 0, .slice none 0 0, vI 0, vI 0, vI 0, .slice none 0 0, .slice none 0 0, .slice none 0 0, .slice none 0 0, vI 0, vI 0, .slice none 0 0, vI 0, vI 0, vI 0, .slice none 0 0]), (3, 2, [vI u7.id, vI u7.n, vS u7.s.p u7.s.x.items.length, vS u7.s.q u7.s.x.floors.length, vS u7.t.p u7.t.l.length, vI u7.t.root, vI u7.g.cap, vI u7.g.frm, vS u7.g.p u7.g.l.length, vS u7.got.p u7.got.l.length, vS u7.acked.p u7.acked.l.length, vS u7.seen.p u7.seen.t.length, vI u7.num, vI u7.slots, vS u7.sess.p u7.sess.l.length, vI u7.wait, vI u7.limit, vI (u7.clock + (1)), vS u7.rises.p u7.rises.l.length])] ⟨rfl, rfl, rfl, trivial⟩ ⟨rfl, rfl, (show some (2, [vI u7.id, vI u7.n, vS u7.s.p u7.s.x.items.length, vS u7.s.q u7.s.x.floors.length, vS u7.t.p u7.t.l.length, vI u7.t.root, vI u7.g.cap, vI u7.g.frm, vS u7.g.p u7.g.l.length, vS u7.got.p u7.got.l.length, vS u7.acked.p u7.acked.l.length, vS u7.seen.p u7.seen.t.length, vI u7.num, vI u7.slots, vS u7.sess.p u7.sess.l.length, vI u7.wait, vI u7.limit, vI (IntKind.wrap .i64 (u7.clock + (1))), vS u7.rises.p u7.rises.l.length]) = some (2, [vI u7.id, vI u7.n, vS u7.s.p u7.s.x.items.length, vS u7.s.q u7.s.x.floors.length, vS u7.t.p u7.t.l.length, vI u7.t.root, vI u7.g.cap, vI u7.g.frm, vS u7.g.p u7.g.l.length, vS u7.got.p u7.got.l.length, vS u7.acked.p u7.acked.l.length, vS u7.seen.p u7.seen.t.length, vI u7.num, vI u7.slots, vS u7.sess.p u7.sess.l.length, vI u7.wait, vI u7.limit, vI (u7.clock + (1)), vS u7.rises.p u7.rises.l.length]) by rw [ew19]), trivial⟩ rfl fun ρ0 ff => ?_
   refine ⟨_, rfl, ?_⟩
   refine ⟨_, op_sto rfl rfl rfl rfl rfl rfl rfl, ?_⟩
   refine AW.cutM (3) s9 [(1, vL 1 0 (0)), (2, vL 2 0 (1)), (3, vL 3 0 (2))] [(1, 0, cNV g), (2, 1, [vI 0, vI 0, .slice none 0 0, .slice none 0 0, .slice none 0 0, vI 0, vI 0, vI 0, .slice none 0 0, .slice none 0 0, .slice none 0 0, .slice none 0 0, vI 0, vI 0, .slice none 0 0, vI 0, vI 0, vI 0, .slice none 0 0]), (3, 2, [vI u7.id, vI u7.n, vS u7.s.p u7.s.x.items.length, vS u7.s.q u7.s.x.floors.length, vS u7.t.p u7.t.l.length, vI u7.t.root, vI u7.g.cap, vI u7.g.frm, vS u7.g.p u7.g.l.length, vS u7.got.p u7.got.l.length, vS u7.acked.p u7.acked.l.length, vS u7.seen.p u7.seen.t.length, vI u7.num, vI u7.slots, .slice none 0 0, vI u7.wait, vI u7.limit, vI (u7.clock + (1)), vS u7.rises.p u7.rises.l.length])] ⟨rfl, rfl, rfl, trivial⟩ ⟨rfl, rfl, rfl, trivial⟩ rfl fun ρ0 ff => ?_
   refine ⟨_, rfl, ?_⟩
   refine ⟨_, op_ldo rfl rfl rfl rfl, ?_⟩
   refine ⟨_, rfl, ?_⟩
   refine AW.cutM (3) s9 [(1, vL 1 0 (0)), (2, vL 2 0 (1)), (3, vL 3 0 (2)), (23, vS g.sess.p g.sess.l.length), (24, vI (g.sess.l.length : Int)), (25, vI (0))] [(1, 0, cNV g), (2, 1, [vI 0, vI 0, .slice none 0 0, .slice none 0 0, .slice none 0 0, vI 0, vI 0, vI 0, .slice none 0 0, .slice none 0 0, .slice none 0 0, .slice none 0 0, vI 0, vI 0, .slice none 0 0, vI 0, vI 0, vI 0, .slice none 0 0]), (3, 2, [vI u7.id, vI u7.n, vS u7.s.p u7.s.x.items.length, vS u7.s.q u7.s.x.floors.length, vS u7.t.p u7.t.l.length, vI u7.t.root, vI u7.g.cap, vI u7.g.frm, vS u7.g.p u7.g.l.length, vS u7.got.p u7.got.l.length, vS u7.acked.p u7.acked.l.length, vS u7.seen.p u7.seen.t.length, vI u7.num, vI u7.slots, .slice none 0 0, vI u7.wait, vI u7.limit, vI (u7.clock + (1)), vS u7.rises.p u7.rises.l.length])] ⟨rfl, rfl, rfl, rfl, rfl, rfl, trivial⟩ ⟨rfl, rfl, rfl, trivial⟩ rfl fun ρ0 ff => ?_
   refine AW.loopM (fun x : Nat × Option Addr × List Ses => [(1, vL 1 0 (0)), (2, vL 2 0 (1)), (3, vL 3 0 (2)), (23, vS g.sess.p g.sess.l.length), (24, vI (g.sess.l.length : Int)), (25, vI (x.1 : Int))]) (fun x : Nat × Option Addr × List Ses => [(1, 0, cNV g), (2, 1, [vI 0, vI 0, .slice none 0 0, .slice none 0 0, .slice none 0 0, vI 0, vI 0, vI 0, .slice none 0 0, .slice none 0 0, .slice none 0 0, .slice none 0 0, vI 0, vI 0, .slice none 0 0, vI 0, vI 0, vI 0, .slice none 0 0]), (3, 2, [vI u7.id, vI u7.n, vS u7.s.p u7.s.x.items.length, vS u7.s.q u7.s.x.floors.length, vS u7.t.p u7.t.l.length, vI u7.t.root, vI u7.g.cap, vI u7.g.frm, vS u7.g.p u7.g.l.length, vS u7.got.p u7.got.l.length, vS u7.acked.p u7.acked.l.length, vS u7.seen.p u7.seen.t.length, vI u7.num, vI u7.slots, vS x.2.1 x.2.2.length, vI u7.wait, vI u7.limit, vI (u7.clock + 1), vS u7.rises.p u7.rises.l.length])]) (fun m (x : Nat × Option Addr × List Ses) st' => m = g.sess.l.length - x.1 ∧ x.1 ≤ g.sess.l.length ∧ x.2.2 = agedL g.wait (g.sess.l.take x.1) ∧ Frs s9 st' (pcSes ⟨x.2.1, x.2.2⟩)) (0, none, []) _ ⟨rfl, rfl, rfl, rfl, rfl, rfl, trivial⟩ ⟨rfl, rfl, rfl, trivial⟩ ⟨rfl, Nat.zero_le _, rfl, Frs.ses0⟩ ?_
   rintro m ⟨i, q, l⟩ ρ0 ff gg st' ⟨rfl, hi, hv, hF⟩
   simp only at hi hv hF
   have hll : l.length ≤ i := by rw [hv]; exact Nat.le_trans (aged_len _ _) (by rw [List.length_take]; omega)
   refine ⟨_, rfl, ?_⟩
   rintro (_|_) h26
   ·replace h26 : ¬ ((i : Int) < (g.sess.l.length : Int)) := of_decide_eq_false h26
    refine AW.cutM (gg) st' [(1, vL 1 0 (0)), (2, vL 2 0 (1)), (3, vL 3 0 (2)), (23, vS g.sess.p g.sess.l.length), (24, vI (g.sess.l.length : Int)), (25, vI (i : Int)), (26, vB false)] [(1, 0, cNV g), (2, 1, [vI 0, vI 0, .slice none 0 0, .slice none 0 0, .slice none 0 0, vI 0, vI 0, vI 0, .slice none 0 0, .slice none 0 0, .slice none 0 0, .slice none 0 0, vI 0, vI 0, .slice none 0 0, vI 0, vI 0, vI 0, .slice none 0 0]), (3, 2, [vI u7.id, vI u7.n, vS u7.s.p u7.s.x.items.length, vS u7.s.q u7.s.x.floors.length, vS u7.t.p u7.t.l.length, vI u7.t.root, vI u7.g.cap, vI u7.g.frm, vS u7.g.p u7.g.l.length, vS u7.got.p u7.got.l.length, vS u7.acked.p u7.acked.l.length, vS u7.seen.p u7.seen.t.length, vI u7.num, vI u7.slots, vS q l.length, vI u7.wait, vI u7.limit, vI (u7.clock + 1), vS u7.rises.p u7.rises.l.length])] ⟨rfl, rfl, rfl, rfl, rfl, rfl, rfl, trivial⟩ ⟨rfl, rfl, rfl, trivial⟩ rfl fun ρ0 ff => ?_
    refine cxs ?_
    refine ⟨_, op_ldo (v := .agg #[vI u7.id, vI u7.n, vS u7.s.p u7.s.x.items.length, vS u7.s.q u7.s.x.floors.length, vS u7.t.p u7.t.l.length, vI u7.t.root, vI u7.g.cap, vI u7.g.frm, vS u7.g.p u7.g.l.length, vS u7.got.p u7.got.l.length, vS u7.acked.p u7.acked.l.length, vS u7.seen.p u7.seen.t.length, vI u7.num, vI u7.slots, vS q l.length, vI u7.wait, vI u7.limit, vI (u7.clock + 1), vS u7.rises.p u7.rises.l.length]) rfl rfl rfl rfl, ?_⟩
    refine ⟨_, op_stw (vs := [vI u7.id, vI u7.n, vS u7.s.p u7.s.x.items.length, vS u7.s.q u7.s.x.floors.length, vS u7.t.p u7.t.l.length, vI u7.t.root, vI u7.g.cap, vI u7.g.frm, vS u7.g.p u7.g.l.length, vS u7.got.p u7.got.l.length, vS u7.acked.p u7.acked.l.length, vS u7.seen.p u7.seen.t.length, vI u7.num, vI u7.slots, vS q l.length, vI u7.wait, vI u7.limit, vI (u7.clock + 1), vS u7.rises.p u7.rises.l.length]) rfl rfl rfl rfl rfl rfl rfl rfl, ?_⟩
    refine cxs ?_
    have hF2 := hF9.sess hF
    exact ⟨.inl rfl, _, rfl, { u7 with sess := ⟨q, l⟩, clock := u7.clock + 1 }, rfl, tick_eq (x := u7.x) h7 ⟨h9, h14⟩ (by rw [hv, show i = g.sess.l.length by omega, List.take_length]), hF2.1, hF2.2.1, hF2.2.2⟩
   ·replace h26 : (i : Int) < (g.sess.l.length : Int) := of_decide_eq_true h26
    refine AW.cutM (gg) st' [(1, vL 1 0 (0)), (2, vL 2 0 (1)), (3, vL 3 0 (2)), (23, vS g.sess.p g.sess.l.length), (24, vI (g.sess.l.length : Int)), (25, vI (i : Int)), (26, vB true)] [(1, 0, cNV g), (2, 1, [vI 0, vI 0, .slice none 0 0, .slice none 0 0, .slice none 0 0, vI 0, vI 0, vI 0, .slice none 0 0, .slice none 0 0, .slice none 0 0, .slice none 0 0, vI 0, vI 0, .slice none 0 0, vI 0, vI 0, vI 0, .slice none 0 0]), (3, 2, [vI u7.id, vI u7.n, vS u7.s.p u7.s.x.items.length, vS u7.s.q u7.s.x.floors.length, vS u7.t.p u7.t.l.length, vI u7.t.root, vI u7.g.cap, vI u7.g.frm, vS u7.g.p u7.g.l.length, vS u7.got.p u7.got.l.length, vS u7.acked.p u7.acked.l.length, vS u7.seen.p u7.seen.t.length, vI u7.num, vI u7.slots, vS q l.length, vI u7.wait, vI u7.limit, vI (u7.clock + 1), vS u7.rises.p u7.rises.l.length])] ⟨rfl, rfl, rfl, rfl, rfl, rfl, rfl, trivial⟩ ⟨rfl, rfl, rfl, trivial⟩ rfl fun ρ0 ff => ?_
    refine cxs ?_
    refine op_at i ((hF9.2.2.trans hF.2.2).rows hR.sess) (by omega) rfl rfl rfl rfl rfl rfl rfl ?_
    intro x27 b27 d27 k27 hy27 hb27 hm27 hc27 ho27
    refine ⟨_, op_lda rfl rfl rfl rfl rfl hm27 hc27 rfl, ?_⟩
    refine ⟨_, rfl, ?_⟩
    refine ⟨_, op_sto rfl rfl rfl rfl rfl rfl rfl, ?_⟩
    refine AW.cutM (gg + 1) st' [(1, vL 1 0 (0)), (2, vL 2 0 (1)), (3, vL 3 0 (2)), (5, vL 5 0 (gg)), (23, vS g.sess.p g.sess.l.length), (24, vI (g.sess.l.length : Int)), (25, vI (i : Int)), (26, vB true)] [(1, 0, cNV g), (2, 1, [vI 0, vI 0, .slice none 0 0, .slice none 0 0, .slice none 0 0, vI 0, vI 0, vI 0, .slice none 0 0, .slice none 0 0, .slice none 0 0, .slice none 0 0, vI 0, vI 0, .slice none 0 0, vI 0, vI 0, vI 0, .slice none 0 0]), (3, 2, [vI u7.id, vI u7.n, vS u7.s.p u7.s.x.items.length, vS u7.s.q u7.s.x.floors.length, vS u7.t.p u7.t.l.length, vI u7.t.root, vI u7.g.cap, vI u7.g.frm, vS u7.g.p u7.g.l.length, vS u7.got.p u7.got.l.length, vS u7.acked.p u7.acked.l.length, vS u7.seen.p u7.seen.t.length, vI u7.num, vI u7.slots, vS q l.length, vI u7.wait, vI u7.limit, vI (u7.clock + 1), vS u7.rises.p u7.rises.l.length]), (5, gg, [vI x27.peer, vI x27.num, vB x27.inn, vI x27.age])] ⟨rfl, rfl, rfl, rfl, rfl, rfl, rfl, rfl, trivial⟩ ⟨rfl, rfl, rfl, rfl, trivial⟩ rfl fun ρ0 ff => ?_
    refine ⟨_, rfl, ?_⟩
    refine ⟨_, op_ldo rfl rfl rfl rfl, ?_⟩
    have hag : 0 ≤ x27.age ∧ x27.age ≤ g.wait := (h9.sess.2 i x27 hy27).2.2.1
    have ew31 : IntKind.wrap .i64 (x27.age + (1)) = x27.age + (1) := wrap_i64 (by omega) (by omega)
    iterate 2 refine ⟨_, rfl, ?_⟩
    refine ⟨_, op_sto rfl rfl rfl rfl rfl rfl rfl, ?_⟩
    refine AW.cutM (gg + 1) st' [(1, vL 1 0 (0)), (2, vL 2 0 (1)), (3, vL 3 0 (2)), (5, vL 5 0 (gg)), (23, vS g.sess.p g.sess.l.length), (24, vI (g.sess.l.length : Int)), (25, vI (i : Int)), (26, vB true)] [(1, 0, cNV g), (2, 1, [vI 0, vI 0, .slice none 0 0, .slice none 0 0, .slice none 0 0, vI 0, vI 0, vI 0, .slice none 0 0, .slice none 0 0, .slice none 0 0, .slice none 0 0, vI 0, vI 0, .slice none 0 0, vI 0, vI 0, vI 0, .slice none 0 0]), (3, 2, [vI u7.id, vI u7.n, vS u7.s.p u7.s.x.items.length, vS u7.s.q u7.s.x.floors.length, vS u7.t.p u7.t.l.length, vI u7.t.root, vI u7.g.cap, vI u7.g.frm, vS u7.g.p u7.g.l.length, vS u7.got.p u7.got.l.length, vS u7.acked.p u7.acked.l.length, vS u7.seen.p u7.seen.t.length, vI u7.num, vI u7.slots, vS q l.length, vI u7.wait, vI u7.limit, vI (u7.clock + 1), vS u7.rises.p u7.rises.l.length]), (5, gg, [vI x27.peer, vI x27.num, vB x27.inn, vI (x27.age + (1))])] ⟨rfl, rfl, rfl, rfl, rfl, rfl, rfl, rfl, trivial⟩ ⟨rfl, rfl, rfl, (show some (gg, [vI x27.peer, vI x27.num, vB x27.inn, vI (IntKind.wrap .i64 (x27.age + (1)))]) = some (gg, [vI x27.peer, vI x27.num, vB x27.inn, vI (x27.age + (1))]) by rw [ew31]), trivial⟩ rfl fun ρ0 ff => ?_
    refine ⟨_, rfl, ?_⟩
    refine ⟨_, op_ldo rfl rfl rfl rfl, ?_⟩
    refine ⟨_, rfl, ?_⟩
    refine ⟨_, op_ldo rfl rfl rfl rfl, ?_⟩
    refine ⟨_, rfl, ?_⟩
    rintro (_|_) h37
    ·replace h37 : ¬ ((x27.age + (1)) ≤ g.wait) := of_decide_eq_false h37
     refine AW.cutM (gg + 1) st' [(1, vL 1 0 (0)), (2, vL 2 0 (1)), (3, vL 3 0 (2)), (5, vL 5 0 (gg)), (23, vS g.sess.p g.sess.l.length), (24, vI (g.sess.l.length : Int)), (25, vI (i : Int)), (26, vB true), (37, vB false)] [(1, 0, cNV g), (2, 1, [vI 0, vI 0, .slice none 0 0, .slice none 0 0, .slice none 0 0, vI 0, vI 0, vI 0, .slice none 0 0, .slice none 0 0, .slice none 0 0, .slice none 0 0, vI 0, vI 0, .slice none 0 0, vI 0, vI 0, vI 0, .slice none 0 0]), (3, 2, [vI u7.id, vI u7.n, vS u7.s.p u7.s.x.items.length, vS u7.s.q u7.s.x.floors.length, vS u7.t.p u7.t.l.length, vI u7.t.root, vI u7.g.cap, vI u7.g.frm, vS u7.g.p u7.g.l.length, vS u7.got.p u7.got.l.length, vS u7.acked.p u7.acked.l.length, vS u7.seen.p u7.seen.t.length, vI u7.num, vI u7.slots, vS q l.length, vI u7.wait, vI u7.limit, vI (u7.clock + 1), vS u7.rises.p u7.rises.l.length]), (5, gg, [vI x27.peer, vI x27.num, vB x27.inn, vI (x27.age + (1))])] ⟨rfl, rfl, rfl, rfl, rfl, rfl, rfl, rfl, rfl, trivial⟩ ⟨rfl, rfl, rfl, rfl, trivial⟩ rfl fun ρ0 ff => ?_
     refine cxs ?_
     have ew44 : IntKind.wrap .i64 ((i : Int) + (1)) = ((i + 1 : Nat) : Int) := (wrap_i64 (by omega) (by omega)).trans (by omega)
     refine ⟨_, rfl, ?_⟩
     exact ⟨(i + 1, q, l), g.sess.l.length - (i + 1), by omega, ⟨rfl, rfl, rfl, rfl, rfl, congrArg (Value.int .i64) ew44, trivial⟩, ⟨rfl, rfl, rfl, trivial⟩, rfl, by simp only; omega, by rw [aged_out hy27 h37]; exact hv, hF⟩
    ·replace h37 : (x27.age + (1)) ≤ g.wait := of_decide_eq_true h37
     refine AW.cutM (gg + 1) st' [(1, vL 1 0 (0)), (2, vL 2 0 (1)), (3, vL 3 0 (2)), (5, vL 5 0 (gg)), (23, vS g.sess.p g.sess.l.length), (24, vI (g.sess.l.length : Int)), (25, vI (i : Int)), (26, vB true), (37, vB true)] [(1, 0, cNV g), (2, 1, [vI 0, vI 0, .slice none 0 0, .slice none 0 0, .slice none 0 0, vI 0, vI 0, vI 0, .slice none 0 0, .slice none 0 0, .slice none 0 0, .slice none 0 0, vI 0, vI 0, .slice none 0 0, vI 0, vI 0, vI 0, .slice none 0 0]), (3, 2, [vI u7.id, vI u7.n, vS u7.s.p u7.s.x.items.length, vS u7.s.q u7.s.x.floors.length, vS u7.t.p u7.t.l.length, vI u7.t.root, vI u7.g.cap, vI u7.g.frm, vS u7.g.p u7.g.l.length, vS u7.got.p u7.got.l.length, vS u7.acked.p u7.acked.l.length, vS u7.seen.p u7.seen.t.length, vI u7.num, vI u7.slots, vS q l.length, vI u7.wait, vI u7.limit, vI (u7.clock + 1), vS u7.rises.p u7.rises.l.length]), (5, gg, [vI x27.peer, vI x27.num, vB x27.inn, vI (x27.age + (1))])] ⟨rfl, rfl, rfl, rfl, rfl, rfl, rfl, rfl, rfl, trivial⟩ ⟨rfl, rfl, rfl, rfl, trivial⟩ rfl fun ρ0 ff => ?_
     refine ⟨_, rfl, ?_⟩
     refine ⟨_, op_ldo rfl rfl rfl rfl, ?_⟩
     refine ⟨_, op_ldo rfl rfl rfl rfl, ?_⟩
     refine op_one (z := 4) (a := ((older x27) : Ses)) (f := cSess) rfl rfl rfl rfl rfl (by decide) rfl (Nat.le_of_ble_eq_true rfl) rfl rfl rfl ?_
     refine op_snoc (z := 4) (st := st') (f := cSess) (b := 32) (l := l) (x := older x27) rfl rfl rfl rfl rfl rfl rfl (by decide) len_cSess rfl rfl rfl (by omega) (by unfold maxLen; omega) hF.ownS ?_
     intro q42 s42 hO42 hP42 hN42
     refine ⟨_, rfl, ?_⟩
     refine ⟨_, op_sto rfl rfl rfl rfl rfl rfl rfl, ?_⟩
     refine AW.cutM (gg + 1) s42 [(1, vL 1 0 (0)), (2, vL 2 0 (1)), (3, vL 3 0 (2)), (5, vL 5 0 (gg)), (23, vS g.sess.p g.sess.l.length), (24, vI (g.sess.l.length : Int)), (25, vI (i : Int)), (26, vB true), (37, vB true)] [(1, 0, cNV g), (2, 1, [vI 0, vI 0, .slice none 0 0, .slice none 0 0, .slice none 0 0, vI 0, vI 0, vI 0, .slice none 0 0, .slice none 0 0, .slice none 0 0, .slice none 0 0, vI 0, vI 0, .slice none 0 0, vI 0, vI 0, vI 0, .slice none 0 0]), (3, 2, [vI u7.id, vI u7.n, vS u7.s.p u7.s.x.items.length, vS u7.s.q u7.s.x.floors.length, vS u7.t.p u7.t.l.length, vI u7.t.root, vI u7.g.cap, vI u7.g.frm, vS u7.g.p u7.g.l.length, vS u7.got.p u7.got.l.length, vS u7.acked.p u7.acked.l.length, vS u7.seen.p u7.seen.t.length, vI u7.num, vI u7.slots, vS q42 (l ++ [older x27]).length, vI u7.wait, vI u7.limit, vI (u7.clock + 1), vS u7.rises.p u7.rises.l.length]), (5, gg, [vI x27.peer, vI x27.num, vB x27.inn, vI (x27.age + (1))])] ⟨rfl, rfl, rfl, rfl, rfl, rfl, rfl, rfl, rfl, trivial⟩ ⟨rfl, rfl, rfl, rfl, trivial⟩ rfl fun ρ0 ff => ?_
     have ew44 : IntKind.wrap .i64 ((i : Int) + (1)) = ((i + 1 : Nat) : Int) := (wrap_i64 (by omega) (by omega)).trans (by omega)
     refine ⟨_, rfl, ?_⟩
     exact ⟨(i + 1, q42, l ++ [older x27]), g.sess.l.length - (i + 1), by omega, ⟨rfl, rfl, rfl, rfl, rfl, congrArg (Value.int .i64) ew44, trivial⟩, ⟨rfl, rfl, rfl, trivial⟩, rfl, by simp only; omega, by rw [aged_in hy27 h37, ← hv], OwnP.one (own_pc hO42), NewP.cons (hN42.le hF.2.2.1) NewP.nil, hP42.pres hF.2.2 hF.newS⟩
  ·replace h14 : g.clock = (100000) := beq_iff_eq.1 h14
   refine ⟨_, rfl, ?_⟩
   refine AW.cutM (3) s9 [(1, vL 1 0 (0)), (2, vL 2 0 (1)), (3, vL 3 0 (2)), (15, vB true)] [(1, 0, cNV g), (2, 1, [vI 0, vI 0, .slice none 0 0, .slice none 0 0, .slice none 0 0, vI 0, vI 0, vI 0, .slice none 0 0, .slice none 0 0, .slice none 0 0, .slice none 0 0, vI 0, vI 0, .slice none 0 0, vI 0, vI 0, vI 0, .slice none 0 0]), (3, 2, cNV u7.v)] ⟨rfl, rfl, rfl, rfl, trivial⟩ ⟨rfl, rfl, rfl, trivial⟩ rfl fun ρ0 ff => ?_
   have hF9 : Frs st s9 (pcNW u7) := ⟨hO7.pres hP9, hN7, hP7.trans hP9⟩
   refine ⟨_, op_ldo (v := (vNV u7.v)) rfl rfl rfl rfl, ?_⟩
   refine ⟨_, op_stw (vs := cNV u7.v) rfl rfl rfl rfl rfl rfl rfl rfl, ?_⟩
   refine cxs ?_
   exact ⟨.inl rfl, _, rfl, u7, rfl, h7.trans (tick_no fun k => k.2 h14).symm, hF9.1, hF9.2.1, hF9.2.2⟩
theorem ac_spec_Tick (g : NV) (st : St) (hR : RdN st g) (hb : bigN g.x) : C 26 [.agg #[vI g.id, vI g.n, vS g.s.p g.s.x.items.length, vS g.s.q g.s.x.floors.length, vS g.t.p g.t.l.length, vI g.t.root, vI g.g.cap, vI g.g.frm, vS g.g.p g.g.l.length, vS g.got.p g.got.l.length, vS g.acked.p g.acked.l.length, vS g.seen.p g.seen.t.length, vI g.num, vI g.slots, vS g.sess.p g.sess.l.length, vI g.wait, vI g.limit, vI g.clock, vS g.rises.p g.rises.l.length]] st (fun v s => ∃ u : NW, v = .agg #[vI u.id, vI u.n, vS u.s.p u.s.x.items.length, vS u.s.q u.s.x.floors.length, vS u.t.p u.t.l.length, vI u.t.root, vI u.g.cap, vI u.g.frm, vS u.g.p u.g.l.length, vS u.got.p u.got.l.length, vS u.acked.p u.acked.l.length, vS u.seen.p u.seen.t.length, vI u.num, vI u.slots, vS u.sess.p u.sess.l.length, vI u.wait, vI u.limit, vI u.clock, vS u.rises.p u.rises.l.length] ∧ u.x = tickF g.x ∧ OwnP s (pcNW u) ∧ NewP st.next (pcNW u) ∧ Pres st s) := by
 have hs1 : g.sess.l.length ≤ 1048576 := hb.sess
 refine AC.enterX (i := ⟨[1, 2, 3, 5], [1, 2, 3, 5, 12, 17, 20, 21, 23, 29, 34, 37, 38, 40, 43, 48], [0, 1, 2, 3, 4, 5, 15, 26, 42]⟩) [] Tryz.func26 rfl rfl (by kernel_rfl) (by kernel_rfl) Tryz.ntmps26 (Nat.le_of_ble_eq_true rfl) rfl ?_
 iterate 2 refine ⟨_, rfl, ?_⟩
 refine AW.cutM (2) st [(1, vL 1 0 (0)), (2, vL 2 0 (1))] [(1, 0, cNV g), (2, 1, [vI 0, vI 0, .slice none 0 0, .slice none 0 0, .slice none 0 0, vI 0, vI 0, vI 0, .slice none 0 0, .slice none 0 0, .slice none 0 0, .slice none 0 0, vI 0, vI 0, .slice none 0 0, vI 0, vI 0, vI 0, .slice none 0 0])] ⟨rfl, rfl, trivial⟩ ⟨rfl, rfl, trivial⟩ rfl fun ρ0 ff => ?_
 refine ⟨_, op_ldo (v := (vNV g)) rfl rfl rfl rfl, ?_⟩
 refine ⟨_, rfl, (ac_spec_l11Copy g st hR (by first | assumption | omega)).mono ?_⟩
 rintro _ s7 ⟨u7, rfl, h7, hO7, hN7, hP7⟩
 refine ⟨_, rfl, ?_⟩
 refine ⟨_, op_stw (vs := cNV u7.v) rfl rfl rfl rfl rfl rfl rfl rfl, ?_⟩
 refine AW.cutM (3) s7 [(1, vL 1 0 (0)), (2, vL 2 0 (1)), (3, vL 3 0 (2))] [(1, 0, cNV g), (2, 1, [vI 0, vI 0, .slice none 0 0, .slice none 0 0, .slice none 0 0, vI 0, vI 0, vI 0, .slice none 0 0, .slice none 0 0, .slice none 0 0, .slice none 0 0, vI 0, vI 0, .slice none 0 0, vI 0, vI 0, vI 0, .slice none 0 0]), (3, 2, cNV u7.v)] ⟨rfl, rfl, rfl, trivial⟩ ⟨rfl, rfl, rfl, trivial⟩ rfl fun ρ0 ff => ?_
 refine ⟨_, op_ldo (v := (vNV g)) rfl rfl rfl rfl, ?_⟩
 refine ⟨_, rfl, (ac_spec_NodeOk g s7 (hR.pres hP7) (by first | assumption | omega)).mono ?_⟩
 rintro _ s9 ⟨x9, rfl, h9, hP9⟩
 rcases x9 with _|_
 ·replace h9 := fun k => Bool.false_ne_true (h9.2 k)
  iterate 2 refine ⟨_, rfl, ?_⟩
  refine AW.cutM (3) s9 [(1, vL 1 0 (0)), (2, vL 2 0 (1)), (3, vL 3 0 (2)), (15, vB true)] [(1, 0, cNV g), (2, 1, [vI 0, vI 0, .slice none 0 0, .slice none 0 0, .slice none 0 0, vI 0, vI 0, vI 0, .slice none 0 0, .slice none 0 0, .slice none 0 0, .slice none 0 0, vI 0, vI 0, .slice none 0 0, vI 0, vI 0, vI 0, .slice none 0 0]), (3, 2, cNV u7.v)] ⟨rfl, rfl, rfl, rfl, trivial⟩ ⟨rfl, rfl, rfl, trivial⟩ rfl fun ρ0 ff => ?_
  have hF9 : Frs st s9 (pcNW u7) := ⟨hO7.pres hP9, hN7, hP7.trans hP9⟩
  refine ⟨_, op_ldo (v := (vNV u7.v)) rfl rfl rfl rfl, ?_⟩
  refine ⟨_, op_stw (vs := cNV u7.v) rfl rfl rfl rfl rfl rfl rfl rfl, ?_⟩
  refine cxs ?_
  exact ⟨.inl rfl, _, rfl, u7, rfl, h7.trans (tick_no fun k => h9 k.1).symm, hF9.1, hF9.2.1, hF9.2.2⟩
 ·replace h9 := h9.1 rfl
  iterate 2 refine ⟨_, rfl, ?_⟩
  refine ⟨_, op_ldo rfl rfl rfl rfl, ?_⟩
  refine ⟨_, rfl, ?_⟩
  rintro (_|_) h14
  ·replace h14 : ¬ (g.clock = (100000)) := beq_eq_false_iff_ne.1 h14
   refine ⟨_, rfl, ?_⟩
   refine AW.cutM (3) s9 [(1, vL 1 0 (0)), (2, vL 2 0 (1)), (3, vL 3 0 (2)), (15, vB false)] [(1, 0, cNV g), (2, 1, [vI 0, vI 0, .slice none 0 0, .slice none 0 0, .slice none 0 0, vI 0, vI 0, vI 0, .slice none 0 0, .slice none 0 0, .slice none 0 0, .slice none 0 0, vI 0, vI 0, .slice none 0 0, vI 0, vI 0, vI 0, .slice none 0 0]), (3, 2, cNV u7.v)] ⟨rfl, rfl, rfl, rfl, trivial⟩ ⟨rfl, rfl, rfl, trivial⟩ rfl fun ρ0 ff => ?_
   have hF9 : Frs st s9 (pcNW u7) := ⟨hO7.pres hP9, hN7, hP7.trans hP9⟩
   refine cxs ?_
   refine ⟨_, rfl, ?_⟩
   refine ⟨_, op_ldo rfl rfl rfl rfl, ?_⟩
   have hc7 : u7.clock = g.clock := congrArg Nd.clock h7
   have hcl : 0 ≤ g.clock ∧ g.clock ≤ 100000 := h9.clock
   have hwt : 1 ≤ g.wait ∧ g.wait ≤ 20 := h9.wait
   have ew19 : IntKind.wrap .i64 (u7.clock + (1)) = u7.clock + (1) := wrap_i64 (by omega) (by omega)
   iterate 2 refine ⟨_, rfl, ?_⟩
   refine ⟨_, op_sto rfl rfl rfl rfl rfl rfl rfl, ?_⟩
   refine AW.cutM (3) s9 [(1, vL 1 0 (0)), (2, vL 2 0 (1)), (3, vL 3 0 (2))] [(1, 0, cNV g), (2, 1, [vI 0, vI 0, .slice none 0 0, .slice none 0 0, .slice none 0 0, vI 0, vI 0, vI 0, .slice none 0 0, .slice none 0 0, .slice none 0 0, .slice none 0 0, vI 0, vI 0, .slice none 0 0, vI 0, vI 0, vI 0, .slice none 0 0]), (3, 2, [vI u7.id, vI u7.n, vS u7.s.p u7.s.x.items.length, vS u7.s.q u7.s.x.floors.length, vS u7.t.p u7.t.l.length, vI u7.t.root, vI u7.g.cap, vI u7.g.frm, vS u7.g.p u7.g.l.length, vS u7.got.p u7.got.l.length, vS u7.acked.p u7.acked.l.length, vS u7.seen.p u7.seen.t.length, vI u7.num, vI u7.slots, vS u7.sess.p u7.sess.l.length, vI u7.wait, vI u7.limit, vI (u7.clock + (1)), vS u7.rises.p u7.rises.l.length])] ⟨rfl, rfl, rfl, trivial⟩ ⟨rfl, rfl, (show some (2, [vI u7.id, vI u7.n, vS u7.s.p u7.s.x.items.length, vS u7.s.q u7.s.x.floors.length, vS u7.t.p u7.t.l.length, vI u7.t.root, vI u7.g.cap, vI u7.g.frm, vS u7.g.p u7.g.l.length, vS u7.got.p u7.got.l.length, vS u7.acked.p u7.acked.l.length, vS u7.seen.p u7.seen.t.length, vI u7.num, vI u7.slots, vS u7.sess.p u7.sess.l.length, vI u7.wait, vI u7.limit, vI (IntKind.wrap .i64 (u7.clock + (1))), vS u7.rises.p u7.rises.l.length]) = some (2, [vI u7.id, vI u7.n, vS u7.s.p u7.s.x.items.length, vS u7.s.q u7.s.x.floors.length, vS u7.t.p u7.t.l.length, vI u7.t.root, vI u7.g.cap, vI u7.g.frm, vS u7.g.p u7.g.l.length, vS u7.got.p u7.got.l.length, vS u7.acked.p u7.acked.l.length, vS u7.seen.p u7.seen.t.length, vI u7.num, vI u7.slots, vS u7.sess.p u7.sess.l.length, vI u7.wait, vI u7.limit, vI (u7.clock + (1)), vS u7.rises.p u7.rises.l.length]) by rw [ew19]), trivial⟩ rfl fun ρ0 ff => ?_
   refine ⟨_, rfl, ?_⟩
   refine ⟨_, op_sto rfl rfl rfl rfl rfl rfl rfl, ?_⟩
   refine cxs ?_
   refine AW.cutM (3) s9 [(1, vL 1 0 (0)), (2, vL 2 0 (1)), (3, vL 3 0 (2)), (4, vI (0))] [(1, 0, cNV g), (2, 1, [vI 0, vI 0, .slice none 0 0, .slice none 0 0, .slice none 0 0, vI 0, vI 0, vI 0, .slice none 0 0, .slice none 0 0, .slice none 0 0, .slice none 0 0, vI 0, vI 0, .slice none 0 0, vI 0, vI 0, vI 0, .slice none 0 0]), (3, 2, [vI u7.id, vI u7.n, vS u7.s.p u7.s.x.items.length, vS u7.s.q u7.s.x.floors.length, vS u7.t.p u7.t.l.length, vI u7.t.root, vI u7.g.cap, vI u7.g.frm, vS u7.g.p u7.g.l.length, vS u7.got.p u7.got.l.length, vS u7.acked.p u7.acked.l.length, vS u7.seen.p u7.seen.t.length, vI u7.num, vI u7.slots, .slice none 0 0, vI u7.wait, vI u7.limit, vI (u7.clock + (1)), vS u7.rises.p u7.rises.l.length])] ⟨rfl, rfl, rfl, rfl, trivial⟩ ⟨rfl, rfl, rfl, trivial⟩ rfl fun ρ0 ff => ?_
   refine AW.loopM (fun x : Nat × Option Addr × List Ses => [(1, vL 1 0 (0)), (2, vL 2 0 (1)), (3, vL 3 0 (2)), (4, vI (x.1 : Int))]) (fun x : Nat × Option Addr × List Ses => [(1, 0, cNV g), (2, 1, [vI 0, vI 0, .slice none 0 0, .slice none 0 0, .slice none 0 0, vI 0, vI 0, vI 0, .slice none 0 0, .slice none 0 0, .slice none 0 0, .slice none 0 0, vI 0, vI 0, .slice none 0 0, vI 0, vI 0, vI 0, .slice none 0 0]), (3, 2, [vI u7.id, vI u7.n, vS u7.s.p u7.s.x.items.length, vS u7.s.q u7.s.x.floors.length, vS u7.t.p u7.t.l.length, vI u7.t.root, vI u7.g.cap, vI u7.g.frm, vS u7.g.p u7.g.l.length, vS u7.got.p u7.got.l.length, vS u7.acked.p u7.acked.l.length, vS u7.seen.p u7.seen.t.length, vI u7.num, vI u7.slots, vS x.2.1 x.2.2.length, vI u7.wait, vI u7.limit, vI (u7.clock + 1), vS u7.rises.p u7.rises.l.length])]) (fun m (x : Nat × Option Addr × List Ses) st' => m = g.sess.l.length - x.1 ∧ x.1 ≤ g.sess.l.length ∧ x.2.2 = agedL g.wait (g.sess.l.take x.1) ∧ Frs s9 st' (pcSes ⟨x.2.1, x.2.2⟩)) (0, none, []) _ ⟨rfl, rfl, rfl, rfl, trivial⟩ ⟨rfl, rfl, rfl, trivial⟩ ⟨rfl, Nat.zero_le _, rfl, Frs.ses0⟩ ?_
   rintro m ⟨i, q, l⟩ ρ0 ff gg st' ⟨rfl, hi, hv, hF⟩
   simp only at hi hv hF
   have hll : l.length ≤ i := by rw [hv]; exact Nat.le_trans (aged_len _ _) (by rw [List.length_take]; omega)
   refine ⟨_, rfl, ?_⟩
   refine ⟨_, op_ldo rfl rfl rfl rfl, ?_⟩
   iterate 2 refine ⟨_, rfl, ?_⟩
   rintro (_|_) h26
   ·replace h26 : ¬ ((i : Int) < (g.sess.l.length : Int)) := of_decide_eq_false h26
    refine AW.cutM (gg) st' [(1, vL 1 0 (0)), (2, vL 2 0 (1)), (3, vL 3 0 (2)), (4, vI (i : Int)), (26, vB false)] [(1, 0, cNV g), (2, 1, [vI 0, vI 0, .slice none 0 0, .slice none 0 0, .slice none 0 0, vI 0, vI 0, vI 0, .slice none 0 0, .slice none 0 0, .slice none 0 0, .slice none 0 0, vI 0, vI 0, .slice none 0 0, vI 0, vI 0, vI 0, .slice none 0 0]), (3, 2, [vI u7.id, vI u7.n, vS u7.s.p u7.s.x.items.length, vS u7.s.q u7.s.x.floors.length, vS u7.t.p u7.t.l.length, vI u7.t.root, vI u7.g.cap, vI u7.g.frm, vS u7.g.p u7.g.l.length, vS u7.got.p u7.got.l.length, vS u7.acked.p u7.acked.l.length, vS u7.seen.p u7.seen.t.length, vI u7.num, vI u7.slots, vS q l.length, vI u7.wait, vI u7.limit, vI (u7.clock + 1), vS u7.rises.p u7.rises.l.length])] ⟨rfl, rfl, rfl, rfl, rfl, trivial⟩ ⟨rfl, rfl, rfl, trivial⟩ rfl fun ρ0 ff => ?_
    refine cxs ?_
    refine ⟨_, op_ldo (v := .agg #[vI u7.id, vI u7.n, vS u7.s.p u7.s.x.items.length, vS u7.s.q u7.s.x.floors.length, vS u7.t.p u7.t.l.length, vI u7.t.root, vI u7.g.cap, vI u7.g.frm, vS u7.g.p u7.g.l.length, vS u7.got.p u7.got.l.length, vS u7.acked.p u7.acked.l.length, vS u7.seen.p u7.seen.t.length, vI u7.num, vI u7.slots, vS q l.length, vI u7.wait, vI u7.limit, vI (u7.clock + 1), vS u7.rises.p u7.rises.l.length]) rfl rfl rfl rfl, ?_⟩
    refine ⟨_, op_stw (vs := [vI u7.id, vI u7.n, vS u7.s.p u7.s.x.items.length, vS u7.s.q u7.s.x.floors.length, vS u7.t.p u7.t.l.length, vI u7.t.root, vI u7.g.cap, vI u7.g.frm, vS u7.g.p u7.g.l.length, vS u7.got.p u7.got.l.length, vS u7.acked.p u7.acked.l.length, vS u7.seen.p u7.seen.t.length, vI u7.num, vI u7.slots, vS q l.length, vI u7.wait, vI u7.limit, vI (u7.clock + 1), vS u7.rises.p u7.rises.l.length]) rfl rfl rfl rfl rfl rfl rfl rfl, ?_⟩
    refine cxs ?_
    have hF2 := hF9.sess hF
    exact ⟨.inl rfl, _, rfl, { u7 with sess := ⟨q, l⟩, clock := u7.clock + 1 }, rfl, tick_eq (x := u7.x) h7 ⟨h9, h14⟩ (by rw [hv, show i = g.sess.l.length by omega, List.take_length]), hF2.1, hF2.2.1, hF2.2.2⟩
   ·replace h26 : (i : Int) < (g.sess.l.length : Int) := of_decide_eq_true h26
    refine AW.cutM (gg) st' [(1, vL 1 0 (0)), (2, vL 2 0 (1)), (3, vL 3 0 (2)), (4, vI (i : Int)), (26, vB true)] [(1, 0, cNV g), (2, 1, [vI 0, vI 0, .slice none 0 0, .slice none 0 0, .slice none 0 0, vI 0, vI 0, vI 0, .slice none 0 0, .slice none 0 0, .slice none 0 0, .slice none 0 0, vI 0, vI 0, .slice none 0 0, vI 0, vI 0, vI 0, .slice none 0 0]), (3, 2, [vI u7.id, vI u7.n, vS u7.s.p u7.s.x.items.length, vS u7.s.q u7.s.x.floors.length, vS u7.t.p u7.t.l.length, vI u7.t.root, vI u7.g.cap, vI u7.g.frm, vS u7.g.p u7.g.l.length, vS u7.got.p u7.got.l.length, vS u7.acked.p u7.acked.l.length, vS u7.seen.p u7.seen.t.length, vI u7.num, vI u7.slots, vS q l.length, vI u7.wait, vI u7.limit, vI (u7.clock + 1), vS u7.rises.p u7.rises.l.length])] ⟨rfl, rfl, rfl, rfl, rfl, trivial⟩ ⟨rfl, rfl, rfl, trivial⟩ rfl fun ρ0 ff => ?_
    refine cxs ?_
    refine ⟨_, rfl, ?_⟩
    refine ⟨_, op_ldo rfl rfl rfl rfl, ?_⟩
    refine op_at i ((hF9.2.2.trans hF.2.2).rows hR.sess) (by omega) rfl rfl rfl rfl rfl rfl rfl ?_
    intro x32 b32 d32 k32 hy32 hb32 hm32 hc32 ho32
    refine ⟨_, op_lda rfl rfl rfl rfl rfl hm32 hc32 rfl, ?_⟩
    refine ⟨_, rfl, ?_⟩
    refine ⟨_, op_sto rfl rfl rfl rfl rfl rfl rfl, ?_⟩
    refine AW.cutM (gg + 1) st' [(1, vL 1 0 (0)), (2, vL 2 0 (1)), (3, vL 3 0 (2)), (4, vI (i : Int)), (5, vL 5 0 (gg)), (26, vB true)] [(1, 0, cNV g), (2, 1, [vI 0, vI 0, .slice none 0 0, .slice none 0 0, .slice none 0 0, vI 0, vI 0, vI 0, .slice none 0 0, .slice none 0 0, .slice none 0 0, .slice none 0 0, vI 0, vI 0, .slice none 0 0, vI 0, vI 0, vI 0, .slice none 0 0]), (3, 2, [vI u7.id, vI u7.n, vS u7.s.p u7.s.x.items.length, vS u7.s.q u7.s.x.floors.length, vS u7.t.p u7.t.l.length, vI u7.t.root, vI u7.g.cap, vI u7.g.frm, vS u7.g.p u7.g.l.length, vS u7.got.p u7.got.l.length, vS u7.acked.p u7.acked.l.length, vS u7.seen.p u7.seen.t.length, vI u7.num, vI u7.slots, vS q l.length, vI u7.wait, vI u7.limit, vI (u7.clock + 1), vS u7.rises.p u7.rises.l.length]), (5, gg, [vI x32.peer, vI x32.num, vB x32.inn, vI x32.age])] ⟨rfl, rfl, rfl, rfl, rfl, rfl, trivial⟩ ⟨rfl, rfl, rfl, rfl, trivial⟩ rfl fun ρ0 ff => ?_
    refine ⟨_, rfl, ?_⟩
    refine ⟨_, op_ldo rfl rfl rfl rfl, ?_⟩
    have hag : 0 ≤ x32.age ∧ x32.age ≤ g.wait := (h9.sess.2 i x32 hy32).2.2.1
    have ew36 : IntKind.wrap .i64 (x32.age + (1)) = x32.age + (1) := wrap_i64 (by omega) (by omega)
    iterate 2 refine ⟨_, rfl, ?_⟩
    refine ⟨_, op_sto rfl rfl rfl rfl rfl rfl rfl, ?_⟩
    refine AW.cutM (gg + 1) st' [(1, vL 1 0 (0)), (2, vL 2 0 (1)), (3, vL 3 0 (2)), (4, vI (i : Int)), (5, vL 5 0 (gg)), (26, vB true)] [(1, 0, cNV g), (2, 1, [vI 0, vI 0, .slice none 0 0, .slice none 0 0, .slice none 0 0, vI 0, vI 0, vI 0, .slice none 0 0, .slice none 0 0, .slice none 0 0, .slice none 0 0, vI 0, vI 0, .slice none 0 0, vI 0, vI 0, vI 0, .slice none 0 0]), (3, 2, [vI u7.id, vI u7.n, vS u7.s.p u7.s.x.items.length, vS u7.s.q u7.s.x.floors.length, vS u7.t.p u7.t.l.length, vI u7.t.root, vI u7.g.cap, vI u7.g.frm, vS u7.g.p u7.g.l.length, vS u7.got.p u7.got.l.length, vS u7.acked.p u7.acked.l.length, vS u7.seen.p u7.seen.t.length, vI u7.num, vI u7.slots, vS q l.length, vI u7.wait, vI u7.limit, vI (u7.clock + 1), vS u7.rises.p u7.rises.l.length]), (5, gg, [vI x32.peer, vI x32.num, vB x32.inn, vI (x32.age + (1))])] ⟨rfl, rfl, rfl, rfl, rfl, rfl, trivial⟩ ⟨rfl, rfl, rfl, (show some (gg, [vI x32.peer, vI x32.num, vB x32.inn, vI (IntKind.wrap .i64 (x32.age + (1)))]) = some (gg, [vI x32.peer, vI x32.num, vB x32.inn, vI (x32.age + (1))]) by rw [ew36]), trivial⟩ rfl fun ρ0 ff => ?_
    refine ⟨_, rfl, ?_⟩
    refine ⟨_, op_ldo rfl rfl rfl rfl, ?_⟩
    refine ⟨_, rfl, ?_⟩
    refine ⟨_, op_ldo rfl rfl rfl rfl, ?_⟩
    refine ⟨_, rfl, ?_⟩
    rintro (_|_) h42
    ·replace h42 : ¬ ((x32.age + (1)) ≤ g.wait) := of_decide_eq_false h42
     refine AW.cutM (gg + 1) st' [(1, vL 1 0 (0)), (2, vL 2 0 (1)), (3, vL 3 0 (2)), (4, vI (i : Int)), (5, vL 5 0 (gg)), (26, vB true), (42, vB false)] [(1, 0, cNV g), (2, 1, [vI 0, vI 0, .slice none 0 0, .slice none 0 0, .slice none 0 0, vI 0, vI 0, vI 0, .slice none 0 0, .slice none 0 0, .slice none 0 0, .slice none 0 0, vI 0, vI 0, .slice none 0 0, vI 0, vI 0, vI 0, .slice none 0 0]), (3, 2, [vI u7.id, vI u7.n, vS u7.s.p u7.s.x.items.length, vS u7.s.q u7.s.x.floors.length, vS u7.t.p u7.t.l.length, vI u7.t.root, vI u7.g.cap, vI u7.g.frm, vS u7.g.p u7.g.l.length, vS u7.got.p u7.got.l.length, vS u7.acked.p u7.acked.l.length, vS u7.seen.p u7.seen.t.length, vI u7.num, vI u7.slots, vS q l.length, vI u7.wait, vI u7.limit, vI (u7.clock + 1), vS u7.rises.p u7.rises.l.length]), (5, gg, [vI x32.peer, vI x32.num, vB x32.inn, vI (x32.age + (1))])] ⟨rfl, rfl, rfl, rfl, rfl, rfl, rfl, trivial⟩ ⟨rfl, rfl, rfl, rfl, trivial⟩ rfl fun ρ0 ff => ?_
     refine cxs ?_
     have ew28 : IntKind.wrap .i64 ((i : Int) + (1)) = ((i + 1 : Nat) : Int) := (wrap_i64 (by omega) (by omega)).trans (by omega)
     refine ⟨_, rfl, ?_⟩
     exact ⟨(i + 1, q, l), g.sess.l.length - (i + 1), by omega, ⟨rfl, rfl, rfl, congrArg (Value.int .i64) ew28, trivial⟩, ⟨rfl, rfl, rfl, trivial⟩, rfl, by simp only; omega, by rw [aged_out hy32 h42]; exact hv, hF⟩
    ·replace h42 : (x32.age + (1)) ≤ g.wait := of_decide_eq_true h42
     refine AW.cutM (gg + 1) st' [(1, vL 1 0 (0)), (2, vL 2 0 (1)), (3, vL 3 0 (2)), (4, vI (i : Int)), (5, vL 5 0 (gg)), (26, vB true), (42, vB true)] [(1, 0, cNV g), (2, 1, [vI 0, vI 0, .slice none 0 0, .slice none 0 0, .slice none 0 0, vI 0, vI 0, vI 0, .slice none 0 0, .slice none 0 0, .slice none 0 0, .slice none 0 0, vI 0, vI 0, .slice none 0 0, vI 0, vI 0, vI 0, .slice none 0 0]), (3, 2, [vI u7.id, vI u7.n, vS u7.s.p u7.s.x.items.length, vS u7.s.q u7.s.x.floors.length, vS u7.t.p u7.t.l.length, vI u7.t.root, vI u7.g.cap, vI u7.g.frm, vS u7.g.p u7.g.l.length, vS u7.got.p u7.got.l.length, vS u7.acked.p u7.acked.l.length, vS u7.seen.p u7.seen.t.length, vI u7.num, vI u7.slots, vS q l.length, vI u7.wait, vI u7.limit, vI (u7.clock + 1), vS u7.rises.p u7.rises.l.length]), (5, gg, [vI x32.peer, vI x32.num, vB x32.inn, vI (x32.age + (1))])] ⟨rfl, rfl, rfl, rfl, rfl, rfl, rfl, trivial⟩ ⟨rfl, rfl, rfl, rfl, trivial⟩ rfl fun ρ0 ff => ?_
     refine ⟨_, rfl, ?_⟩
     refine ⟨_, op_ldo rfl rfl rfl rfl, ?_⟩
     refine ⟨_, op_ldo rfl rfl rfl rfl, ?_⟩
     refine op_one (z := 4) (a := ((older x32) : Ses)) (f := cSess) rfl rfl rfl rfl rfl (by decide) rfl (Nat.le_of_ble_eq_true rfl) rfl rfl rfl ?_
     refine op_snoc (z := 4) (st := st') (f := cSess) (b := 32) (l := l) (x := older x32) rfl rfl rfl rfl rfl rfl rfl (by decide) len_cSess rfl rfl rfl (by omega) (by unfold maxLen; omega) hF.ownS ?_
     intro q47 s47 hO47 hP47 hN47
     refine ⟨_, rfl, ?_⟩
     refine ⟨_, op_sto rfl rfl rfl rfl rfl rfl rfl, ?_⟩
     refine AW.cutM (gg + 1) s47 [(1, vL 1 0 (0)), (2, vL 2 0 (1)), (3, vL 3 0 (2)), (4, vI (i : Int)), (5, vL 5 0 (gg)), (26, vB true), (42, vB true)] [(1, 0, cNV g), (2, 1, [vI 0, vI 0, .slice none 0 0, .slice none 0 0, .slice none 0 0, vI 0, vI 0, vI 0, .slice none 0 0, .slice none 0 0, .slice none 0 0, .slice none 0 0, vI 0, vI 0, .slice none 0 0, vI 0, vI 0, vI 0, .slice none 0 0]), (3, 2, [vI u7.id, vI u7.n, vS u7.s.p u7.s.x.items.length, vS u7.s.q u7.s.x.floors.length, vS u7.t.p u7.t.l.length, vI u7.t.root, vI u7.g.cap, vI u7.g.frm, vS u7.g.p u7.g.l.length, vS u7.got.p u7.got.l.length, vS u7.acked.p u7.acked.l.length, vS u7.seen.p u7.seen.t.length, vI u7.num, vI u7.slots, vS q47 (l ++ [older x32]).length, vI u7.wait, vI u7.limit, vI (u7.clock + 1), vS u7.rises.p u7.rises.l.length]), (5, gg, [vI x32.peer, vI x32.num, vB x32.inn, vI (x32.age + (1))])] ⟨rfl, rfl, rfl, rfl, rfl, rfl, rfl, trivial⟩ ⟨rfl, rfl, rfl, rfl, trivial⟩ rfl fun ρ0 ff => ?_
     have ew28 : IntKind.wrap .i64 ((i : Int) + (1)) = ((i + 1 : Nat) : Int) := (wrap_i64 (by omega) (by omega)).trans (by omega)
     refine ⟨_, rfl, ?_⟩
     exact ⟨(i + 1, q47, l ++ [older x32]), g.sess.l.length - (i + 1), by omega, ⟨rfl, rfl, rfl, congrArg (Value.int .i64) ew28, trivial⟩, ⟨rfl, rfl, rfl, trivial⟩, rfl, by simp only; omega, by rw [aged_in hy32 h42, ← hv], OwnP.one (own_pc hO47), NewP.cons (hN47.le hF.2.2.1) NewP.nil, hP47.pres hF.2.2 hF.newS⟩
  ·replace h14 : g.clock = (100000) := beq_iff_eq.1 h14
   refine ⟨_, rfl, ?_⟩
   refine AW.cutM (3) s9 [(1, vL 1 0 (0)), (2, vL 2 0 (1)), (3, vL 3 0 (2)), (15, vB true)] [(1, 0, cNV g), (2, 1, [vI 0, vI 0, .slice none 0 0, .slice none 0 0, .slice none 0 0, vI 0, vI 0, vI 0, .slice none 0 0, .slice none 0 0, .slice none 0 0, .slice none 0 0, vI 0, vI 0, .slice none 0 0, vI 0, vI 0, vI 0, .slice none 0 0]), (3, 2, cNV u7.v)] ⟨rfl, rfl, rfl, rfl, trivial⟩ ⟨rfl, rfl, rfl, trivial⟩ rfl fun ρ0 ff => ?_
   have hF9 : Frs st s9 (pcNW u7) := ⟨hO7.pres hP9, hN7, hP7.trans hP9⟩
   refine ⟨_, op_ldo (v := (vNV u7.v)) rfl rfl rfl rfl, ?_⟩
   refine ⟨_, op_stw (vs := cNV u7.v) rfl rfl rfl rfl rfl rfl rfl rfl, ?_⟩
   refine cxs ?_
   exact ⟨.inl rfl, _, rfl, u7, rfl, h7.trans (tick_no fun k => k.2 h14).symm, hF9.1, hF9.2.1, hF9.2.2⟩
abbrev pcTV (u : TV) : List Pc := pcIs u.toRV
theorem OwnP.rdTV {st : St} {u : TV} (h : OwnP st (pcTV u)) : Rows st 1 fI u.p u.l := OwnP.rdIs h
def mkTV (u : TV) (k : Int) : TV := ⟨mkIs u.toRV k, u.root⟩
theorem mkp_TV (u : TV) (k : Int) : (pcTV (mkTV u k)).map (·.p) = (pcTV u).map (·.p) := rfl
def RdTr (st : St) (t : TV) : Prop := Rows st 1 fI t.p t.l
theorem RdTr.pres {st st' : St} {t : TV} (h : RdTr st t) (k : Pres st st') : RdTr st' t := k.rows h
abbrev cntTV (t : Tr) : Nat := t.leaves.length
def bigTr (t : Tr) : Prop := t.leaves.length ≤ 1048576
theorem uc_markTree (u : TV) (k : Int) (st : St) (hO : OwnP st (pcTV u)) (hb : bigTr u.x) (h0 : 0 ≤ k) (hk : k ≤ 137438953472) : C 63 [.agg #[vS u.p u.l.length, vI u.root], vI k] st (fun v s => v = vI (k + (cntTV u.x : Int)) ∧ OwnP s (pcTV (mkTV u k)) ∧ PrL ((pcTV u).map (·.p)) st s) := by
 refine AC.enterX (i := ⟨[2], [2, 5], [0, 1, 2, 4]⟩) [] Tryz.func63 rfl rfl (by kernel_rfl) (by kernel_rfl) Tryz.ntmps63 (Nat.le_of_ble_eq_true rfl) rfl ?_
 refine ⟨_, rfl, ?_⟩
 refine AW.cutM (1) st [(1, vI k), (2, vL 2 0 (0)), (4, vI (0))] [(2, 0, [vS u.p u.l.length, vI u.root])] ⟨rfl, rfl, rfl, trivial⟩ ⟨rfl, trivial⟩ rfl fun ρ0 ff => ?_
 refine ⟨_, rfl, ?_⟩
 refine ⟨_, op_ldo rfl rfl rfl rfl, ?_⟩
 refine ⟨_, rfl, (uc_markIntS u.toRV k st hO hb h0 hk).mono ?_⟩
 rintro _ s8 ⟨rfl, hO8, hP8⟩
 refine cxs ?_
 refine cxs ?_
 exact ⟨.inl rfl, _, rfl, rfl, hO8, hP8⟩
theorem uc_heldTree (u : TV) (k : Int) (st : St) (hR : Rows st 1 fI (mkTV u k).p (mkTV u k).l) (hb : bigTr u.x) (h0 : 0 ≤ k) (hk : k ≤ 137438953472) : C 79 [.agg #[vS u.p u.l.length, vI u.root], vI k] st (fun v s => v = vI (k + (cntTV u.x : Int)) ∧ Pres st s) := by
 refine AC.enterX (i := ⟨[2], [2, 5], [0, 1, 2, 4, 10]⟩) [] Tryz.func79 rfl rfl (by kernel_rfl) (by kernel_rfl) Tryz.ntmps79 (Nat.le_of_ble_eq_true rfl) rfl ?_
 refine ⟨_, rfl, ?_⟩
 refine AW.cutM (1) st [(1, vI k), (2, vL 2 0 (0)), (4, vI (0))] [(2, 0, [vS u.p u.l.length, vI u.root])] ⟨rfl, rfl, rfl, trivial⟩ ⟨rfl, trivial⟩ rfl fun ρ0 ff => ?_
 refine ⟨_, rfl, ?_⟩
 refine ⟨_, op_ldo rfl rfl rfl rfl, ?_⟩
 refine ⟨_, rfl, (uc_heldIntS u.toRV k st hR hb h0 hk).mono ?_⟩
 rintro _ s8 ⟨rfl, hP8⟩
 refine AW.cutM (1) s8 [(1, vI (k + (cntIs u.l : Int))), (4, vI (0))] [] ⟨rfl, rfl, trivial⟩ trivial rfl fun ρ0 ff => ?_
 refine ⟨_, rfl, ?_⟩
 rintro (_|_) h10
 rotate_left
 ·exact absurd (of_decide_eq_true h10) ((by unfold cntIs; omega))
 refine AW.cutM (1) s8 [(1, vI (k + (cntIs u.l : Int))), (4, vI (0)), (10, vB false)] [] ⟨rfl, rfl, rfl, trivial⟩ trivial rfl fun ρ0 ff => ?_
 refine cxs ?_
 refine cxs ?_
 exact ⟨.inl rfl, _, rfl, rfl, hP8⟩
def mkSes (k : Int) : Ses := ⟨k, k + 1, (k + 2).tmod 3 == 0, k + 3⟩
def mkRis (k : Int) : Ris := ⟨k, k + 1, k + 2⟩
theorem ac_laws_markSessS (p : Option Addr) (l : List Ses) (k : Int) (st : St) (hO : OwnR st 4 cSess p l) (hs : szOk l.length) (h0 : 0 ≤ k) (hk : k ≤ 549755813888) : C 66 [vS p l.length, vI k] st (fun v s => v = vI (k + 4 * (l.length : Int)) ∧ OwnR s 4 cSess p (mkRow mkSes 4 l.length k) ∧ Pr p st s) := by
 have hs : l.length ≤ 1048576 := hs
 refine AC.enterX (i := ⟨[], [], [0, 1, 4, 5, 9]⟩) [] Tryz.func66 rfl rfl (by kernel_rfl) (by kernel_rfl) Tryz.ntmps66 (Nat.le_of_ble_eq_true rfl) rfl ?_
 refine cxs ?_
 refine AW.cut lo0 st [(0, vS p l.length), (1, vI k), (4, vI (0)), (5, vI (0))] ⟨rfl, rfl, rfl, rfl, trivial⟩ fun ρ0 => ?_
 refine AW.loop0 (fun i : Nat => [(0, vS p l.length), (1, vI (k + 4 * (i : Int))), (5, vI (i : Int))]) (fun m (i : Nat) st' => m = l.length - i ∧ i ≤ l.length ∧ OwnR st' 4 cSess p (mkRow mkSes 4 i k ++ l.drop i) ∧ Pr p st st') 0 _ ⟨rfl, congrArg (Value.int .i64) (show k = k + 4 * ((0 : Nat) : Int) by omega), rfl, trivial⟩ rfl ⟨rfl, Nat.zero_le _, by simpa [mkRow] using hO, Pr.refl _ _⟩ ?_
 rintro m i ρ0 st' ⟨rfl, hi, hO0, hP0⟩
 iterate 2 refine ⟨_, rfl, ?_⟩
 rintro (_|_) h1
 ·replace h1 : ¬ ((i : Int) < (l.length : Int)) := of_decide_eq_false h1
  refine AW.cut lo0 st' [(0, vS p l.length), (1, vI (k + 4 * (i : Int))), (5, vI (i : Int)), (9, vB false)] ⟨rfl, rfl, rfl, rfl, trivial⟩ fun ρ0 => ?_
  refine cxs ?_
  refine cxs ?_
  have hil : i = l.length := by omega
  subst hil
  rw [List.drop_length, List.append_nil] at hO0
  exact ⟨.inl rfl, _, rfl, rfl, hO0, hP0⟩
 ·replace h1 : (i : Int) < (l.length : Int) := of_decide_eq_true h1
  refine AW.cut lo0 st' [(0, vS p l.length), (1, vI (k + 4 * (i : Int))), (5, vI (i : Int)), (9, vB true)] ⟨rfl, rfl, rfl, rfl, trivial⟩ fun ρ0 => ?_
  have h1' := Int.ofNat_lt.1 h1
  have hlen : i < (mkRow mkSes 4 i k ++ l.drop i).length := by rw [List.length_append, mkRow_len, List.length_drop]; omega
  have ⟨a, ha⟩ := hO0.some (by omega)
  obtain ⟨w, hw⟩ : ∃ w, (mkRow mkSes 4 i k ++ l.drop i)[i]? = some w := ⟨_, List.getElem?_eq_getElem hlen⟩
  have hset := mkRow_set (mk := mkSes) (z := 4) (k := k) h1'
  refine cxs ?_
  refine ⟨_, op_idx (j := (i : Int)) (n := l.length) (q := ⟨a, 0, none⟩) rfl (congrArg (fun u => vS u l.length) ha) rfl rfl rfl (Int.natCast_nonneg _) h1, ?_⟩
  refine ⟨_, rfl, ?_⟩
  refine op_putc (z := 4) (i := 0) (st := st') (f := cSess) (j := i) (l := (mkRow mkSes 4 i k ++ l.drop i)) (w := w) (y := ((⟨(k + 4 * (i : Int)), w.num, w.inn, w.age⟩ : Ses) : Ses)) (p := p) (d := 0 + i * 4 + 0) rfl rfl (by omega) rfl rfl len_cSess rfl rfl hw (by decide) rfl hO0 ha ?_
  intro s1 hO1 hP1 hn1
  have hQ1 : Pr p st s1 := hP0.trans hP1
  refine AW.cut lo0 s1 [(0, vS p l.length), (1, vI (k + 4 * (i : Int))), (5, vI (i : Int)), (9, vB true)] ⟨rfl, rfl, rfl, rfl, trivial⟩ fun ρ0 => ?_
  have e18 : IntKind.wrap .i64 (k + 4 * (i : Int) + 1) = k + 4 * (i : Int) + 1 := (wrap_i64 (by omega) (by omega)).trans (by omega)
  refine ⟨_, rfl, ?_⟩
  refine AW.cut lo0 s1 [(0, vS p l.length), (1, vI (k + 4 * (i : Int) + 1)), (5, vI (i : Int)), (9, vB true)] ⟨rfl, congrArg (Value.int .i64) e18, rfl, rfl, trivial⟩ fun ρ0 => ?_
  refine ⟨_, op_idx (j := (i : Int)) (n := l.length) (q := ⟨a, 0, none⟩) rfl (congrArg (fun u => vS u l.length) ha) rfl rfl rfl (Int.natCast_nonneg _) h1, ?_⟩
  refine ⟨_, rfl, ?_⟩
  refine op_putc (z := 4) (i := 1) (st := s1) (f := cSess) (j := i) (l := ((mkRow mkSes 4 i k ++ l.drop i).set i (⟨(k + 4 * (i : Int)), w.num, w.inn, w.age⟩ : Ses))) (w := (⟨(k + 4 * (i : Int)), w.num, w.inn, w.age⟩ : Ses)) (y := ((⟨(k + 4 * (i : Int)), (k + 4 * (i : Int)) + 1, w.inn, w.age⟩ : Ses) : Ses)) (p := p) (d := 0 + i * 4 + 1) rfl rfl (by omega) rfl rfl len_cSess rfl rfl (getElem?_set_same hlen) (by decide) rfl hO1 ha ?_
  intro s2 hO2 hP2 hn2
  rw [set_set] at hO2
  have hQ2 : Pr p st s2 := hQ1.trans hP2
  refine AW.cut lo0 s2 [(0, vS p l.length), (1, vI (k + 4 * (i : Int) + 1)), (5, vI (i : Int)), (9, vB true)] ⟨rfl, rfl, rfl, rfl, trivial⟩ fun ρ0 => ?_
  have e25 : IntKind.wrap .i64 (k + 4 * (i : Int) + 1 + 1) = k + 4 * (i : Int) + 2 := (wrap_i64 (by omega) (by omega)).trans (by omega)
  refine ⟨_, rfl, ?_⟩
  refine AW.cut lo0 s2 [(0, vS p l.length), (1, vI (k + 4 * (i : Int) + 2)), (5, vI (i : Int)), (9, vB true)] ⟨rfl, congrArg (Value.int .i64) e25, rfl, rfl, trivial⟩ fun ρ0 => ?_
  refine ⟨_, op_rem rfl rfl rfl (by decide), ?_⟩
  refine ⟨_, rfl, ?_⟩
  rintro _ rfl
  refine ⟨_, op_idx (j := (i : Int)) (n := l.length) (q := ⟨a, 0, none⟩) rfl (congrArg (fun u => vS u l.length) ha) rfl rfl rfl (Int.natCast_nonneg _) h1, ?_⟩
  refine ⟨_, rfl, ?_⟩
  refine op_putc (z := 4) (i := 2) (st := s2) (f := cSess) (j := i) (l := ((mkRow mkSes 4 i k ++ l.drop i).set i (⟨(k + 4 * (i : Int)), (k + 4 * (i : Int)) + 1, w.inn, w.age⟩ : Ses))) (w := (⟨(k + 4 * (i : Int)), (k + 4 * (i : Int)) + 1, w.inn, w.age⟩ : Ses)) (y := ((⟨(k + 4 * (i : Int)), (k + 4 * (i : Int)) + 1, ((k + 4 * (i : Int)) + 2).tmod 3 == 0, w.age⟩ : Ses) : Ses)) (p := p) (d := 0 + i * 4 + 2) rfl rfl (by omega) rfl rfl len_cSess rfl rfl (getElem?_set_same hlen) (by decide) rfl hO2 ha ?_
  intro s3 hO3 hP3 hn3
  rw [set_set] at hO3
  have hQ3 : Pr p st s3 := hQ2.trans hP3
  refine AW.cut lo0 s3 [(0, vS p l.length), (1, vI (k + 4 * (i : Int) + 2)), (5, vI (i : Int)), (9, vB true)] ⟨rfl, rfl, rfl, rfl, trivial⟩ fun ρ0 => ?_
  have e34 : IntKind.wrap .i64 (k + 4 * (i : Int) + 2 + 1) = k + 4 * (i : Int) + 3 := (wrap_i64 (by omega) (by omega)).trans (by omega)
  refine ⟨_, rfl, ?_⟩
  refine AW.cut lo0 s3 [(0, vS p l.length), (1, vI (k + 4 * (i : Int) + 3)), (5, vI (i : Int)), (9, vB true)] ⟨rfl, congrArg (Value.int .i64) e34, rfl, rfl, trivial⟩ fun ρ0 => ?_
  refine ⟨_, op_idx (j := (i : Int)) (n := l.length) (q := ⟨a, 0, none⟩) rfl (congrArg (fun u => vS u l.length) ha) rfl rfl rfl (Int.natCast_nonneg _) h1, ?_⟩
  refine ⟨_, rfl, ?_⟩
  refine op_putc (z := 4) (i := 3) (st := s3) (f := cSess) (j := i) (l := ((mkRow mkSes 4 i k ++ l.drop i).set i (⟨(k + 4 * (i : Int)), (k + 4 * (i : Int)) + 1, ((k + 4 * (i : Int)) + 2).tmod 3 == 0, w.age⟩ : Ses))) (w := (⟨(k + 4 * (i : Int)), (k + 4 * (i : Int)) + 1, ((k + 4 * (i : Int)) + 2).tmod 3 == 0, w.age⟩ : Ses)) (y := ((⟨(k + 4 * (i : Int)), (k + 4 * (i : Int)) + 1, ((k + 4 * (i : Int)) + 2).tmod 3 == 0, (k + 4 * (i : Int)) + 3⟩ : Ses) : Ses)) (p := p) (d := 0 + i * 4 + 3) rfl rfl (by omega) rfl rfl len_cSess rfl rfl (getElem?_set_same hlen) (by decide) rfl hO3 ha ?_
  intro s4 hO4 hP4 hn4
  rw [set_set] at hO4
  have hQ4 : Pr p st s4 := hQ3.trans hP4
  refine AW.cut lo0 s4 [(0, vS p l.length), (1, vI (k + 4 * (i : Int) + 3)), (5, vI (i : Int)), (9, vB true)] ⟨rfl, rfl, rfl, rfl, trivial⟩ fun ρ0 => ?_
  have e41 : IntKind.wrap .i64 (k + 4 * (i : Int) + 3 + 1) = k + 4 * ((i + 1 : Nat) : Int) := (wrap_i64 (by omega) (by omega)).trans (by omega)
  refine ⟨_, rfl, ?_⟩
  refine AW.cut lo0 s4 [(0, vS p l.length), (1, vI (k + 4 * ((i + 1 : Nat) : Int))), (5, vI (i : Int)), (9, vB true)] ⟨rfl, congrArg (Value.int .i64) e41, rfl, rfl, trivial⟩ fun ρ0 => ?_
  have e11 : IntKind.wrap .i64 ((i : Int) + 1) = ((i + 1 : Nat) : Int) := (wrap_i64 (by omega) (by omega)).trans (by omega)
  refine ⟨_, rfl, ?_⟩
  exact ⟨i + 1, l.length - (i + 1), by omega, ⟨rfl, rfl, congrArg (Value.int .i64) e11, trivial⟩, rfl, rfl, h1', (show OwnR s4 4 cSess p (mkRow mkSes 4 (i + 1) k ++ l.drop (i + 1)) by rw [← hset]; exact hO4), hQ4⟩
theorem ac_laws_heldSessS (p : Option Addr) (n : Nat) (k : Int) (st : St) (hR : Rows st 4 cSess p (mkRow mkSes 4 n k)) (hs : szOk n) (h0 : 0 ≤ k) (hk : k ≤ 549755813888) : C 82 [vS p n, vI k] st (fun v s => v = vI (k + 4 * (n : Int)) ∧ Pres st s) := by
 have hs : n ≤ 1048576 := hs
 refine AC.enterX (i := ⟨[], [], [0, 1, 4, 5, 9, 18, 27, 38, 47]⟩) [] Tryz.func82 rfl rfl (by kernel_rfl) (by kernel_rfl) Tryz.ntmps82 (Nat.le_of_ble_eq_true rfl) rfl ?_
 refine cxs ?_
 refine AW.cut lo0 st [(0, vS p n), (1, vI k), (4, vI (0)), (5, vI (0))] ⟨rfl, rfl, rfl, rfl, trivial⟩ fun ρ0 => ?_
 refine AW.loop0 (fun i : Nat => [(0, vS p n), (1, vI (k + 4 * (i : Int))), (5, vI (i : Int))]) (fun m (i : Nat) st' => m = n - i ∧ i ≤ n ∧ Pres st st') 0 _ ⟨rfl, congrArg (Value.int .i64) (show k = k + 4 * ((0 : Nat) : Int) by omega), rfl, trivial⟩ rfl ⟨rfl, Nat.zero_le _, Pres.refl _⟩ ?_
 rintro m i ρ0 st' ⟨rfl, hi, hP⟩
 iterate 2 refine ⟨_, rfl, ?_⟩
 rintro (_|_) h1
 ·replace h1 : ¬ ((i : Int) < (n : Int)) := of_decide_eq_false h1
  refine AW.cut lo0 st' [(0, vS p n), (1, vI (k + 4 * (i : Int))), (5, vI (i : Int)), (9, vB false)] ⟨rfl, rfl, rfl, rfl, trivial⟩ fun ρ0 => ?_
  refine cxs ?_
  refine cxs ?_
  have hil : i = n := by omega
  subst hil
  exact ⟨.inl rfl, _, rfl, rfl, hP⟩
 ·replace h1 : (i : Int) < (n : Int) := of_decide_eq_true h1
  refine AW.cut lo0 st' [(0, vS p n), (1, vI (k + 4 * (i : Int))), (5, vI (i : Int)), (9, vB true)] ⟨rfl, rfl, rfl, rfl, trivial⟩ fun ρ0 => ?_
  have h1' := Int.ofNat_lt.1 h1
  have ⟨b1, o1, k1, x, hpe, hx, hm1, hc1, hb1⟩ := (hP.rows hR).atB (j := i) (by rw [mkRow_len]; exact h1')
  have hx := mkRow_get hx
  have hc1 : (k1.cells.drop (o1 + i * 4)).take 4 = cSess (mkSes (k + 4 * (i : Int))) := by rw [hc1, hx]; rfl
  refine cxs ?_
  refine ⟨_, op_idx (j := (i : Int)) (n := n) (q := ⟨b1, o1, none⟩) rfl (congrArg (fun u => vS u n) hpe) rfl rfl rfl (Int.natCast_nonneg _) h1, ?_⟩
  refine ⟨_, rfl, ?_⟩
  refine ⟨_, op_ldc (i := 0) rfl rfl rfl rfl hm1 hc1 rfl rfl, ?_⟩
  refine ⟨_, rfl, ?_⟩
  rintro (_|_) h18
  rotate_left
  ·exact absurd (rfl) (bne_iff_ne.1 h18)
  refine AW.cut lo0 st' [(0, vS p n), (1, vI (k + 4 * (i : Int))), (5, vI (i : Int)), (9, vB true), (18, vB false)] ⟨rfl, rfl, rfl, rfl, rfl, trivial⟩ fun ρ0 => ?_
  refine cxs ?_
  have e20 : IntKind.wrap .i64 (k + 4 * (i : Int) + 1) = k + 4 * (i : Int) + 1 := (wrap_i64 (by omega) (by omega)).trans (by omega)
  refine ⟨_, rfl, ?_⟩
  refine AW.cut lo0 st' [(0, vS p n), (1, vI (k + 4 * (i : Int) + 1)), (5, vI (i : Int)), (9, vB true), (18, vB false)] ⟨rfl, congrArg (Value.int .i64) e20, rfl, rfl, rfl, trivial⟩ fun ρ0 => ?_
  refine ⟨_, op_idx (j := (i : Int)) (n := n) (q := ⟨b1, o1, none⟩) rfl (congrArg (fun u => vS u n) hpe) rfl rfl rfl (Int.natCast_nonneg _) h1, ?_⟩
  refine ⟨_, rfl, ?_⟩
  refine ⟨_, op_ldc (i := 1) rfl rfl rfl rfl hm1 hc1 rfl rfl, ?_⟩
  refine ⟨_, rfl, ?_⟩
  rintro (_|_) h27
  rotate_left
  ·exact absurd (rfl) (bne_iff_ne.1 h27)
  refine AW.cut lo0 st' [(0, vS p n), (1, vI (k + 4 * (i : Int) + 1)), (5, vI (i : Int)), (9, vB true), (18, vB false), (27, vB false)] ⟨rfl, rfl, rfl, rfl, rfl, rfl, trivial⟩ fun ρ0 => ?_
  refine cxs ?_
  have e29 : IntKind.wrap .i64 (k + 4 * (i : Int) + 1 + 1) = k + 4 * (i : Int) + 2 := (wrap_i64 (by omega) (by omega)).trans (by omega)
  refine ⟨_, rfl, ?_⟩
  refine AW.cut lo0 st' [(0, vS p n), (1, vI (k + 4 * (i : Int) + 2)), (5, vI (i : Int)), (9, vB true), (18, vB false), (27, vB false)] ⟨rfl, congrArg (Value.int .i64) e29, rfl, rfl, rfl, rfl, trivial⟩ fun ρ0 => ?_
  refine ⟨_, op_idx (j := (i : Int)) (n := n) (q := ⟨b1, o1, none⟩) rfl (congrArg (fun u => vS u n) hpe) rfl rfl rfl (Int.natCast_nonneg _) h1, ?_⟩
  refine ⟨_, rfl, ?_⟩
  refine ⟨_, op_ldc (i := 2) rfl rfl rfl rfl hm1 hc1 rfl rfl, ?_⟩
  refine ⟨_, op_rem rfl rfl rfl (by decide), ?_⟩
  refine ⟨_, rfl, ?_⟩
  rintro _ rfl
  refine ⟨_, rfl, ?_⟩
  rintro (_|_) h38
  rotate_left
  ·exact absurd (rfl) (b_ne h38)
  refine AW.cut lo0 st' [(0, vS p n), (1, vI (k + 4 * (i : Int) + 2)), (5, vI (i : Int)), (9, vB true), (18, vB false), (27, vB false), (38, vB false)] ⟨rfl, rfl, rfl, rfl, rfl, rfl, rfl, trivial⟩ fun ρ0 => ?_
  refine cxs ?_
  have e40 : IntKind.wrap .i64 (k + 4 * (i : Int) + 2 + 1) = k + 4 * (i : Int) + 3 := (wrap_i64 (by omega) (by omega)).trans (by omega)
  refine ⟨_, rfl, ?_⟩
  refine AW.cut lo0 st' [(0, vS p n), (1, vI (k + 4 * (i : Int) + 3)), (5, vI (i : Int)), (9, vB true), (18, vB false), (27, vB false), (38, vB false)] ⟨rfl, congrArg (Value.int .i64) e40, rfl, rfl, rfl, rfl, rfl, trivial⟩ fun ρ0 => ?_
  refine ⟨_, op_idx (j := (i : Int)) (n := n) (q := ⟨b1, o1, none⟩) rfl (congrArg (fun u => vS u n) hpe) rfl rfl rfl (Int.natCast_nonneg _) h1, ?_⟩
  refine ⟨_, rfl, ?_⟩
  refine ⟨_, op_ldc (i := 3) rfl rfl rfl rfl hm1 hc1 rfl rfl, ?_⟩
  refine ⟨_, rfl, ?_⟩
  rintro (_|_) h47
  rotate_left
  ·exact absurd (rfl) (bne_iff_ne.1 h47)
  refine AW.cut lo0 st' [(0, vS p n), (1, vI (k + 4 * (i : Int) + 3)), (5, vI (i : Int)), (9, vB true), (18, vB false), (27, vB false), (38, vB false), (47, vB false)] ⟨rfl, rfl, rfl, rfl, rfl, rfl, rfl, rfl, trivial⟩ fun ρ0 => ?_
  refine cxs ?_
  have e49 : IntKind.wrap .i64 (k + 4 * (i : Int) + 3 + 1) = k + 4 * ((i + 1 : Nat) : Int) := (wrap_i64 (by omega) (by omega)).trans (by omega)
  refine ⟨_, rfl, ?_⟩
  refine AW.cut lo0 st' [(0, vS p n), (1, vI (k + 4 * ((i + 1 : Nat) : Int))), (5, vI (i : Int)), (9, vB true), (18, vB false), (27, vB false), (38, vB false), (47, vB false)] ⟨rfl, congrArg (Value.int .i64) e49, rfl, rfl, rfl, rfl, rfl, rfl, trivial⟩ fun ρ0 => ?_
  have e11 : IntKind.wrap .i64 ((i : Int) + 1) = ((i + 1 : Nat) : Int) := (wrap_i64 (by omega) (by omega)).trans (by omega)
  refine ⟨_, rfl, ?_⟩
  exact ⟨i + 1, n - (i + 1), by omega, ⟨rfl, rfl, congrArg (Value.int .i64) e11, trivial⟩, rfl, rfl, h1', hP⟩
theorem ac_laws_markRiseS (p : Option Addr) (l : List Ris) (k : Int) (st : St) (hO : OwnR st 3 cRise p l) (hs : szOk l.length) (h0 : 0 ≤ k) (hk : k ≤ 549755813888) : C 67 [vS p l.length, vI k] st (fun v s => v = vI (k + 3 * (l.length : Int)) ∧ OwnR s 3 cRise p (mkRow mkRis 3 l.length k) ∧ Pr p st s) := by
 have hs : l.length ≤ 1048576 := hs
 refine AC.enterX (i := ⟨[], [], [0, 1, 4, 5, 9]⟩) [] Tryz.func67 rfl rfl (by kernel_rfl) (by kernel_rfl) Tryz.ntmps67 (Nat.le_of_ble_eq_true rfl) rfl ?_
 refine cxs ?_
 refine AW.cut lo0 st [(0, vS p l.length), (1, vI k), (4, vI (0)), (5, vI (0))] ⟨rfl, rfl, rfl, rfl, trivial⟩ fun ρ0 => ?_
 refine AW.loop0 (fun i : Nat => [(0, vS p l.length), (1, vI (k + 3 * (i : Int))), (5, vI (i : Int))]) (fun m (i : Nat) st' => m = l.length - i ∧ i ≤ l.length ∧ OwnR st' 3 cRise p (mkRow mkRis 3 i k ++ l.drop i) ∧ Pr p st st') 0 _ ⟨rfl, congrArg (Value.int .i64) (show k = k + 3 * ((0 : Nat) : Int) by omega), rfl, trivial⟩ rfl ⟨rfl, Nat.zero_le _, by simpa [mkRow] using hO, Pr.refl _ _⟩ ?_
 rintro m i ρ0 st' ⟨rfl, hi, hO0, hP0⟩
 iterate 2 refine ⟨_, rfl, ?_⟩
 rintro (_|_) h1
 ·replace h1 : ¬ ((i : Int) < (l.length : Int)) := of_decide_eq_false h1
  refine AW.cut lo0 st' [(0, vS p l.length), (1, vI (k + 3 * (i : Int))), (5, vI (i : Int)), (9, vB false)] ⟨rfl, rfl, rfl, rfl, trivial⟩ fun ρ0 => ?_
  refine cxs ?_
  refine cxs ?_
  have hil : i = l.length := by omega
  subst hil
  rw [List.drop_length, List.append_nil] at hO0
  exact ⟨.inl rfl, _, rfl, rfl, hO0, hP0⟩
 ·replace h1 : (i : Int) < (l.length : Int) := of_decide_eq_true h1
  refine AW.cut lo0 st' [(0, vS p l.length), (1, vI (k + 3 * (i : Int))), (5, vI (i : Int)), (9, vB true)] ⟨rfl, rfl, rfl, rfl, trivial⟩ fun ρ0 => ?_
  have h1' := Int.ofNat_lt.1 h1
  have hlen : i < (mkRow mkRis 3 i k ++ l.drop i).length := by rw [List.length_append, mkRow_len, List.length_drop]; omega
  have ⟨a, ha⟩ := hO0.some (by omega)
  obtain ⟨w, hw⟩ : ∃ w, (mkRow mkRis 3 i k ++ l.drop i)[i]? = some w := ⟨_, List.getElem?_eq_getElem hlen⟩
  have hset := mkRow_set (mk := mkRis) (z := 3) (k := k) h1'
  refine cxs ?_
  refine ⟨_, op_idx (j := (i : Int)) (n := l.length) (q := ⟨a, 0, none⟩) rfl (congrArg (fun u => vS u l.length) ha) rfl rfl rfl (Int.natCast_nonneg _) h1, ?_⟩
  refine ⟨_, rfl, ?_⟩
  refine op_putc (z := 3) (i := 0) (st := st') (f := cRise) (j := i) (l := (mkRow mkRis 3 i k ++ l.drop i)) (w := w) (y := ((⟨(k + 3 * (i : Int)), w.beat, w.tick⟩ : Ris) : Ris)) (p := p) (d := 0 + i * 3 + 0) rfl rfl (by omega) rfl rfl len_cRise rfl rfl hw (by decide) rfl hO0 ha ?_
  intro s1 hO1 hP1 hn1
  have hQ1 : Pr p st s1 := hP0.trans hP1
  refine AW.cut lo0 s1 [(0, vS p l.length), (1, vI (k + 3 * (i : Int))), (5, vI (i : Int)), (9, vB true)] ⟨rfl, rfl, rfl, rfl, trivial⟩ fun ρ0 => ?_
  have e18 : IntKind.wrap .i64 (k + 3 * (i : Int) + 1) = k + 3 * (i : Int) + 1 := (wrap_i64 (by omega) (by omega)).trans (by omega)
  refine ⟨_, rfl, ?_⟩
  refine AW.cut lo0 s1 [(0, vS p l.length), (1, vI (k + 3 * (i : Int) + 1)), (5, vI (i : Int)), (9, vB true)] ⟨rfl, congrArg (Value.int .i64) e18, rfl, rfl, trivial⟩ fun ρ0 => ?_
  refine ⟨_, op_idx (j := (i : Int)) (n := l.length) (q := ⟨a, 0, none⟩) rfl (congrArg (fun u => vS u l.length) ha) rfl rfl rfl (Int.natCast_nonneg _) h1, ?_⟩
  refine ⟨_, rfl, ?_⟩
  refine op_putc (z := 3) (i := 1) (st := s1) (f := cRise) (j := i) (l := ((mkRow mkRis 3 i k ++ l.drop i).set i (⟨(k + 3 * (i : Int)), w.beat, w.tick⟩ : Ris))) (w := (⟨(k + 3 * (i : Int)), w.beat, w.tick⟩ : Ris)) (y := ((⟨(k + 3 * (i : Int)), (k + 3 * (i : Int)) + 1, w.tick⟩ : Ris) : Ris)) (p := p) (d := 0 + i * 3 + 1) rfl rfl (by omega) rfl rfl len_cRise rfl rfl (getElem?_set_same hlen) (by decide) rfl hO1 ha ?_
  intro s2 hO2 hP2 hn2
  rw [set_set] at hO2
  have hQ2 : Pr p st s2 := hQ1.trans hP2
  refine AW.cut lo0 s2 [(0, vS p l.length), (1, vI (k + 3 * (i : Int) + 1)), (5, vI (i : Int)), (9, vB true)] ⟨rfl, rfl, rfl, rfl, trivial⟩ fun ρ0 => ?_
  have e25 : IntKind.wrap .i64 (k + 3 * (i : Int) + 1 + 1) = k + 3 * (i : Int) + 2 := (wrap_i64 (by omega) (by omega)).trans (by omega)
  refine ⟨_, rfl, ?_⟩
  refine AW.cut lo0 s2 [(0, vS p l.length), (1, vI (k + 3 * (i : Int) + 2)), (5, vI (i : Int)), (9, vB true)] ⟨rfl, congrArg (Value.int .i64) e25, rfl, rfl, trivial⟩ fun ρ0 => ?_
  refine ⟨_, op_idx (j := (i : Int)) (n := l.length) (q := ⟨a, 0, none⟩) rfl (congrArg (fun u => vS u l.length) ha) rfl rfl rfl (Int.natCast_nonneg _) h1, ?_⟩
  refine ⟨_, rfl, ?_⟩
  refine op_putc (z := 3) (i := 2) (st := s2) (f := cRise) (j := i) (l := ((mkRow mkRis 3 i k ++ l.drop i).set i (⟨(k + 3 * (i : Int)), (k + 3 * (i : Int)) + 1, w.tick⟩ : Ris))) (w := (⟨(k + 3 * (i : Int)), (k + 3 * (i : Int)) + 1, w.tick⟩ : Ris)) (y := ((⟨(k + 3 * (i : Int)), (k + 3 * (i : Int)) + 1, (k + 3 * (i : Int)) + 2⟩ : Ris) : Ris)) (p := p) (d := 0 + i * 3 + 2) rfl rfl (by omega) rfl rfl len_cRise rfl rfl (getElem?_set_same hlen) (by decide) rfl hO2 ha ?_
  intro s3 hO3 hP3 hn3
  rw [set_set] at hO3
  have hQ3 : Pr p st s3 := hQ2.trans hP3
  refine AW.cut lo0 s3 [(0, vS p l.length), (1, vI (k + 3 * (i : Int) + 2)), (5, vI (i : Int)), (9, vB true)] ⟨rfl, rfl, rfl, rfl, trivial⟩ fun ρ0 => ?_
  have e32 : IntKind.wrap .i64 (k + 3 * (i : Int) + 2 + 1) = k + 3 * ((i + 1 : Nat) : Int) := (wrap_i64 (by omega) (by omega)).trans (by omega)
  refine ⟨_, rfl, ?_⟩
  refine AW.cut lo0 s3 [(0, vS p l.length), (1, vI (k + 3 * ((i + 1 : Nat) : Int))), (5, vI (i : Int)), (9, vB true)] ⟨rfl, congrArg (Value.int .i64) e32, rfl, rfl, trivial⟩ fun ρ0 => ?_
  have e11 : IntKind.wrap .i64 ((i : Int) + 1) = ((i + 1 : Nat) : Int) := (wrap_i64 (by omega) (by omega)).trans (by omega)
  refine ⟨_, rfl, ?_⟩
  exact ⟨i + 1, l.length - (i + 1), by omega, ⟨rfl, rfl, congrArg (Value.int .i64) e11, trivial⟩, rfl, rfl, h1', (show OwnR s3 3 cRise p (mkRow mkRis 3 (i + 1) k ++ l.drop (i + 1)) by rw [← hset]; exact hO3), hQ3⟩
theorem ac_laws_heldRiseS (p : Option Addr) (n : Nat) (k : Int) (st : St) (hR : Rows st 3 cRise p (mkRow mkRis 3 n k)) (hs : szOk n) (h0 : 0 ≤ k) (hk : k ≤ 549755813888) : C 83 [vS p n, vI k] st (fun v s => v = vI (k + 3 * (n : Int)) ∧ Pres st s) := by
 have hs : n ≤ 1048576 := hs
 refine AC.enterX (i := ⟨[], [], [0, 1, 4, 5, 9, 18, 27, 36]⟩) [] Tryz.func83 rfl rfl (by kernel_rfl) (by kernel_rfl) Tryz.ntmps83 (Nat.le_of_ble_eq_true rfl) rfl ?_
 refine cxs ?_
 refine AW.cut lo0 st [(0, vS p n), (1, vI k), (4, vI (0)), (5, vI (0))] ⟨rfl, rfl, rfl, rfl, trivial⟩ fun ρ0 => ?_
 refine AW.loop0 (fun i : Nat => [(0, vS p n), (1, vI (k + 3 * (i : Int))), (5, vI (i : Int))]) (fun m (i : Nat) st' => m = n - i ∧ i ≤ n ∧ Pres st st') 0 _ ⟨rfl, congrArg (Value.int .i64) (show k = k + 3 * ((0 : Nat) : Int) by omega), rfl, trivial⟩ rfl ⟨rfl, Nat.zero_le _, Pres.refl _⟩ ?_
 rintro m i ρ0 st' ⟨rfl, hi, hP⟩
 iterate 2 refine ⟨_, rfl, ?_⟩
 rintro (_|_) h1
 ·replace h1 : ¬ ((i : Int) < (n : Int)) := of_decide_eq_false h1
  refine AW.cut lo0 st' [(0, vS p n), (1, vI (k + 3 * (i : Int))), (5, vI (i : Int)), (9, vB false)] ⟨rfl, rfl, rfl, rfl, trivial⟩ fun ρ0 => ?_
  refine cxs ?_
  refine cxs ?_
  have hil : i = n := by omega
  subst hil
  exact ⟨.inl rfl, _, rfl, rfl, hP⟩
 ·replace h1 : (i : Int) < (n : Int) := of_decide_eq_true h1
  refine AW.cut lo0 st' [(0, vS p n), (1, vI (k + 3 * (i : Int))), (5, vI (i : Int)), (9, vB true)] ⟨rfl, rfl, rfl, rfl, trivial⟩ fun ρ0 => ?_
  have h1' := Int.ofNat_lt.1 h1
  have ⟨b1, o1, k1, x, hpe, hx, hm1, hc1, hb1⟩ := (hP.rows hR).atB (j := i) (by rw [mkRow_len]; exact h1')
  have hx := mkRow_get hx
  have hc1 : (k1.cells.drop (o1 + i * 3)).take 3 = cRise (mkRis (k + 3 * (i : Int))) := by rw [hc1, hx]; rfl
  refine cxs ?_
  refine ⟨_, op_idx (j := (i : Int)) (n := n) (q := ⟨b1, o1, none⟩) rfl (congrArg (fun u => vS u n) hpe) rfl rfl rfl (Int.natCast_nonneg _) h1, ?_⟩
  refine ⟨_, rfl, ?_⟩
  refine ⟨_, op_ldc (i := 0) rfl rfl rfl rfl hm1 hc1 rfl rfl, ?_⟩
  refine ⟨_, rfl, ?_⟩
  rintro (_|_) h18
  rotate_left
  ·exact absurd (rfl) (bne_iff_ne.1 h18)
  refine AW.cut lo0 st' [(0, vS p n), (1, vI (k + 3 * (i : Int))), (5, vI (i : Int)), (9, vB true), (18, vB false)] ⟨rfl, rfl, rfl, rfl, rfl, trivial⟩ fun ρ0 => ?_
  refine cxs ?_
  have e20 : IntKind.wrap .i64 (k + 3 * (i : Int) + 1) = k + 3 * (i : Int) + 1 := (wrap_i64 (by omega) (by omega)).trans (by omega)
  refine ⟨_, rfl, ?_⟩
  refine AW.cut lo0 st' [(0, vS p n), (1, vI (k + 3 * (i : Int) + 1)), (5, vI (i : Int)), (9, vB true), (18, vB false)] ⟨rfl, congrArg (Value.int .i64) e20, rfl, rfl, rfl, trivial⟩ fun ρ0 => ?_
  refine ⟨_, op_idx (j := (i : Int)) (n := n) (q := ⟨b1, o1, none⟩) rfl (congrArg (fun u => vS u n) hpe) rfl rfl rfl (Int.natCast_nonneg _) h1, ?_⟩
  refine ⟨_, rfl, ?_⟩
  refine ⟨_, op_ldc (i := 1) rfl rfl rfl rfl hm1 hc1 rfl rfl, ?_⟩
  refine ⟨_, rfl, ?_⟩
  rintro (_|_) h27
  rotate_left
  ·exact absurd (rfl) (bne_iff_ne.1 h27)
  refine AW.cut lo0 st' [(0, vS p n), (1, vI (k + 3 * (i : Int) + 1)), (5, vI (i : Int)), (9, vB true), (18, vB false), (27, vB false)] ⟨rfl, rfl, rfl, rfl, rfl, rfl, trivial⟩ fun ρ0 => ?_
  refine cxs ?_
  have e29 : IntKind.wrap .i64 (k + 3 * (i : Int) + 1 + 1) = k + 3 * (i : Int) + 2 := (wrap_i64 (by omega) (by omega)).trans (by omega)
  refine ⟨_, rfl, ?_⟩
  refine AW.cut lo0 st' [(0, vS p n), (1, vI (k + 3 * (i : Int) + 2)), (5, vI (i : Int)), (9, vB true), (18, vB false), (27, vB false)] ⟨rfl, congrArg (Value.int .i64) e29, rfl, rfl, rfl, rfl, trivial⟩ fun ρ0 => ?_
  refine ⟨_, op_idx (j := (i : Int)) (n := n) (q := ⟨b1, o1, none⟩) rfl (congrArg (fun u => vS u n) hpe) rfl rfl rfl (Int.natCast_nonneg _) h1, ?_⟩
  refine ⟨_, rfl, ?_⟩
  refine ⟨_, op_ldc (i := 2) rfl rfl rfl rfl hm1 hc1 rfl rfl, ?_⟩
  refine ⟨_, rfl, ?_⟩
  rintro (_|_) h36
  rotate_left
  ·exact absurd (rfl) (bne_iff_ne.1 h36)
  refine AW.cut lo0 st' [(0, vS p n), (1, vI (k + 3 * (i : Int) + 2)), (5, vI (i : Int)), (9, vB true), (18, vB false), (27, vB false), (36, vB false)] ⟨rfl, rfl, rfl, rfl, rfl, rfl, rfl, trivial⟩ fun ρ0 => ?_
  refine cxs ?_
  have e38 : IntKind.wrap .i64 (k + 3 * (i : Int) + 2 + 1) = k + 3 * ((i + 1 : Nat) : Int) := (wrap_i64 (by omega) (by omega)).trans (by omega)
  refine ⟨_, rfl, ?_⟩
  refine AW.cut lo0 st' [(0, vS p n), (1, vI (k + 3 * ((i + 1 : Nat) : Int))), (5, vI (i : Int)), (9, vB true), (18, vB false), (27, vB false), (36, vB false)] ⟨rfl, congrArg (Value.int .i64) e38, rfl, rfl, rfl, rfl, rfl, trivial⟩ fun ρ0 => ?_
  have e11 : IntKind.wrap .i64 ((i : Int) + 1) = ((i + 1 : Nat) : Int) := (wrap_i64 (by omega) (by omega)).trans (by omega)
  refine ⟨_, rfl, ?_⟩
  exact ⟨i + 1, n - (i + 1), by omega, ⟨rfl, rfl, congrArg (Value.int .i64) e11, trivial⟩, rfl, rfl, h1', hP⟩
def mkSesR (g : SesV) (k : Int) : SesV := ⟨g.p, mkRow mkSes 4 g.l.length k⟩
theorem mkp_SesR (g : SesV) (k : Int) : (pcSes (mkSesR g k)).map (·.p) = (pcSes g).map (·.p) := rfl
theorem uc_markSessS (u : SesV) (k : Int) (st : St) (hO : OwnP st (pcSes u)) (hb : szOk u.l.length) (h0 : 0 ≤ k) (hk : k ≤ 274877906944) : C 66 [vS u.p u.l.length, vI k] st (fun v s => v = vI (k + ((4 * u.l.length : Nat) : Int)) ∧ OwnP s (pcSes (mkSesR u k)) ∧ PrL ((pcSes u).map (·.p)) st s) :=
 (ac_laws_markSessS u.p u.l k st (own_one (by decide) len_cSess hO) hb h0 (by omega)).mono fun v s ⟨h1, h2, h3⟩ => ⟨h1.trans (congrArg (Value.int .i64) (by omega)), OwnP.one (own_pc h2), h3.l (List.mem_singleton_self _)⟩
theorem uc_heldSessS (u : SesV) (k : Int) (st : St) (hR : Rows st 4 cSess (mkSesR u k).p (mkSesR u k).l) (hb : szOk u.l.length) (h0 : 0 ≤ k) (hk : k ≤ 274877906944) : C 82 [vS u.p u.l.length, vI k] st (fun v s => v = vI (k + ((4 * u.l.length : Nat) : Int)) ∧ Pres st s) :=
 (ac_laws_heldSessS u.p u.l.length k st hR hb h0 (by omega)).mono fun v s ⟨h1, h2⟩ => ⟨h1.trans (congrArg (Value.int .i64) (by omega)), h2⟩
def mkRisR (g : RisV) (k : Int) : RisV := ⟨g.p, mkRow mkRis 3 g.l.length k⟩
theorem mkp_RisR (g : RisV) (k : Int) : (pcRis (mkRisR g k)).map (·.p) = (pcRis g).map (·.p) := rfl
theorem uc_markRiseS (u : RisV) (k : Int) (st : St) (hO : OwnP st (pcRis u)) (hb : szOk u.l.length) (h0 : 0 ≤ k) (hk : k ≤ 274877906944) : C 67 [vS u.p u.l.length, vI k] st (fun v s => v = vI (k + ((3 * u.l.length : Nat) : Int)) ∧ OwnP s (pcRis (mkRisR u k)) ∧ PrL ((pcRis u).map (·.p)) st s) :=
 (ac_laws_markRiseS u.p u.l k st (own_one (by decide) len_cRise hO) hb h0 (by omega)).mono fun v s ⟨h1, h2, h3⟩ => ⟨h1.trans (congrArg (Value.int .i64) (by omega)), OwnP.one (own_pc h2), h3.l (List.mem_singleton_self _)⟩
theorem uc_heldRiseS (u : RisV) (k : Int) (st : St) (hR : Rows st 3 cRise (mkRisR u k).p (mkRisR u k).l) (hb : szOk u.l.length) (h0 : 0 ≤ k) (hk : k ≤ 274877906944) : C 83 [vS u.p u.l.length, vI k] st (fun v s => v = vI (k + ((3 * u.l.length : Nat) : Int)) ∧ Pres st s) :=
 (ac_laws_heldRiseS u.p u.l.length k st hR hb h0 (by omega)).mono fun v s ⟨h1, h2⟩ => ⟨h1.trans (congrArg (Value.int .i64) (by omega)), h2⟩
theorem OwnP.rot {st : St} {a b : List Pc} (h : OwnP st (a ++ b)) : OwnP st (b ++ a) := h.perm List.perm_append_comm
def mkNode (u : NW) (k : Int) : NW := { u with s := mkState u.s k, t := mkTV u.t (k + (cntState u.s.x : Int)), g := mkLog u.g (k + (cntState u.s.x : Int) + (cntTV u.t.x : Int)), got := mkIs u.got (k + (cntState u.s.x : Int) + (cntTV u.t.x : Int) + (cntLog u.g.v.x : Int)), acked := mkIs u.acked (k + (cntState u.s.x : Int) + (cntTV u.t.x : Int) + (cntLog u.g.v.x : Int) + (cntIs u.got.l : Int)), seen := mkTT u.seen (k + (cntState u.s.x : Int) + (cntTV u.t.x : Int) + (cntLog u.g.v.x : Int) + (cntIs u.got.l : Int) + (cntIs u.acked.l : Int)), sess := mkSesR u.sess (k + (cntState u.s.x : Int) + (cntTV u.t.x : Int) + (cntLog u.g.v.x : Int) + (cntIs u.got.l : Int) + (cntIs u.acked.l : Int) + (cntTab u.seen.x : Int)), rises := mkRisR u.rises (k + (cntState u.s.x : Int) + (cntTV u.t.x : Int) + (cntLog u.g.v.x : Int) + (cntIs u.got.l : Int) + (cntIs u.acked.l : Int) + (cntTab u.seen.x : Int) + ((4 * u.sess.l.length : Nat) : Int)) }
theorem mkp_Node (u : NW) (k : Int) : (pcNW (mkNode u k)).map (·.p) = (pcNW u).map (·.p) :=
 map_app2 (mkp_State _ _) (map_app2 (mkp_TV _ _) (map_app2 (mkp_Log _ _) (map_app2 (mkp_Is _ _) (map_app2 (mkp_Is _ _) (map_app2 (mkp_TT _ _) (map_app2 (mkp_SesR _ _) (mkp_RisR _ _)))))))
theorem uc_markNode (u : NW) (k : Int) (st : St) (hO : OwnP st (pcNW u)) (hb : bigN u.x) (h0 : 0 ≤ k) (hk : k + (cntNode u.x : Int) ≤ 137438953472) : C 18 [.agg #[vI u.id, vI u.n, vS u.s.p u.s.x.items.length, vS u.s.q u.s.x.floors.length, vS u.t.p u.t.l.length, vI u.t.root, vI u.g.cap, vI u.g.frm, vS u.g.p u.g.l.length, vS u.got.p u.got.l.length, vS u.acked.p u.acked.l.length, vS u.seen.p u.seen.t.length, vI u.num, vI u.slots, vS u.sess.p u.sess.l.length, vI u.wait, vI u.limit, vI u.clock, vS u.rises.p u.rises.l.length], vI k] st (fun v s => v = vI (k + (cntNode u.x : Int)) ∧ OwnP s (pcNW (mkNode u k)) ∧ PrL ((pcNW u).map (·.p)) st s) := by
 have hc : cntNode u.x = cntState u.s.x + cntTV u.t.x + cntLog u.g.v.x + cntIs u.got.l + cntIs u.acked.l + cntTab u.seen.x + 4 * u.sess.l.length + 3 * u.rises.l.length := rfl
 refine AC.enterX (i := ⟨[2], [2, 5, 9, 13, 17, 21, 25, 29, 33], [0, 1, 2, 4]⟩) [] Tryz.func18 rfl rfl (by kernel_rfl) (by kernel_rfl) Tryz.ntmps18 (Nat.le_of_ble_eq_true rfl) rfl ?_
 refine ⟨_, rfl, ?_⟩
 refine AW.cutM (1) st [(1, vI k), (2, vL 2 0 (0)), (4, vI (0))] [(2, 0, cNV u.v)] ⟨rfl, rfl, rfl, trivial⟩ ⟨rfl, trivial⟩ rfl fun ρ0 ff => ?_
 refine ⟨_, rfl, ?_⟩
 refine ⟨_, op_ldo rfl rfl rfl rfl, ?_⟩
 refine ⟨_, rfl, (uc_markState u.s k st (OwnP.left hO) hb.s (by omega) (by omega)).mono ?_⟩
 rintro _ s8 ⟨rfl, hO8, hL8⟩
 refine AW.cutM (1) s8 [(1, vI (k + (cntState u.s.x : Int))), (2, vL 2 0 (0)), (4, vI (0))] [(2, 0, cNV u.v)] ⟨rfl, rfl, rfl, trivial⟩ ⟨rfl, trivial⟩ rfl fun ρ0 ff => ?_
 have hA8 : OwnP s8 (pcTV u.t ++ (pcLog u.g ++ (pcIs u.got ++ (pcIs u.acked ++ (pcTT u.seen ++ (pcSes u.sess ++ (pcRis u.rises ++ (pcS (mkState u.s k))))))))) := by
  have := (OwnP.markG hO hO8 (mkp_State _ _) hL8).rot
  simpa only [List.append_assoc] using this
 refine ⟨_, rfl, ?_⟩
 refine ⟨_, op_ldo rfl rfl rfl rfl, ?_⟩
 refine ⟨_, rfl, (uc_markTree u.t (k + (cntState u.s.x : Int)) s8 (OwnP.left hA8) hb.t (by omega) (by omega)).mono ?_⟩
 rintro _ s12 ⟨rfl, hO12, hL12⟩
 refine AW.cutM (1) s12 [(1, vI (k + (cntState u.s.x : Int) + (cntTV u.t.x : Int))), (2, vL 2 0 (0)), (4, vI (0))] [(2, 0, cNV u.v)] ⟨rfl, rfl, rfl, trivial⟩ ⟨rfl, trivial⟩ rfl fun ρ0 ff => ?_
 have hA12 : OwnP s12 (pcLog u.g ++ (pcIs u.got ++ (pcIs u.acked ++ (pcTT u.seen ++ (pcSes u.sess ++ (pcRis u.rises ++ (pcS (mkState u.s k) ++ (pcTV (mkTV u.t (k + (cntState u.s.x : Int))))))))))) := by
  have := (OwnP.markG hA8 hO12 (mkp_TV _ _) hL12).rot
  simpa only [List.append_assoc] using this
 refine ⟨_, rfl, ?_⟩
 refine ⟨_, op_ldo rfl rfl rfl rfl, ?_⟩
 refine ⟨_, rfl, (uc_markLog u.g (k + (cntState u.s.x : Int) + (cntTV u.t.x : Int)) s12 (OwnP.left hA12) hb.g (by omega) (by omega)).mono ?_⟩
 rintro _ s16 ⟨rfl, hO16, hL16⟩
 refine AW.cutM (1) s16 [(1, vI (k + (cntState u.s.x : Int) + (cntTV u.t.x : Int) + (cntLog u.g.v.x : Int))), (2, vL 2 0 (0)), (4, vI (0))] [(2, 0, cNV u.v)] ⟨rfl, rfl, rfl, trivial⟩ ⟨rfl, trivial⟩ rfl fun ρ0 ff => ?_
 have hA16 : OwnP s16 (pcIs u.got ++ (pcIs u.acked ++ (pcTT u.seen ++ (pcSes u.sess ++ (pcRis u.rises ++ (pcS (mkState u.s k) ++ (pcTV (mkTV u.t (k + (cntState u.s.x : Int))) ++ (pcLog (mkLog u.g (k + (cntState u.s.x : Int) + (cntTV u.t.x : Int))))))))))) := by
  have := (OwnP.markG hA12 hO16 (mkp_Log _ _) hL16).rot
  simpa only [List.append_assoc] using this
 refine ⟨_, rfl, ?_⟩
 refine ⟨_, op_ldo rfl rfl rfl rfl, ?_⟩
 refine ⟨_, rfl, (uc_markIntS u.got (k + (cntState u.s.x : Int) + (cntTV u.t.x : Int) + (cntLog u.g.v.x : Int)) s16 (OwnP.left hA16) hb.got (by omega) (by omega)).mono ?_⟩
 rintro _ s20 ⟨rfl, hO20, hL20⟩
 refine AW.cutM (1) s20 [(1, vI (k + (cntState u.s.x : Int) + (cntTV u.t.x : Int) + (cntLog u.g.v.x : Int) + (cntIs u.got.l : Int))), (2, vL 2 0 (0)), (4, vI (0))] [(2, 0, cNV u.v)] ⟨rfl, rfl, rfl, trivial⟩ ⟨rfl, trivial⟩ rfl fun ρ0 ff => ?_
 have hA20 : OwnP s20 (pcIs u.acked ++ (pcTT u.seen ++ (pcSes u.sess ++ (pcRis u.rises ++ (pcS (mkState u.s k) ++ (pcTV (mkTV u.t (k + (cntState u.s.x : Int))) ++ (pcLog (mkLog u.g (k + (cntState u.s.x : Int) + (cntTV u.t.x : Int))) ++ (pcIs (mkIs u.got (k + (cntState u.s.x : Int) + (cntTV u.t.x : Int) + (cntLog u.g.v.x : Int))))))))))) := by
  have := (OwnP.markG hA16 hO20 (mkp_Is _ _) hL20).rot
  simpa only [List.append_assoc] using this
 refine ⟨_, rfl, ?_⟩
 refine ⟨_, op_ldo rfl rfl rfl rfl, ?_⟩
 refine ⟨_, rfl, (uc_markIntS u.acked (k + (cntState u.s.x : Int) + (cntTV u.t.x : Int) + (cntLog u.g.v.x : Int) + (cntIs u.got.l : Int)) s20 (OwnP.left hA20) hb.acked (by omega) (by omega)).mono ?_⟩
 rintro _ s24 ⟨rfl, hO24, hL24⟩
 refine AW.cutM (1) s24 [(1, vI (k + (cntState u.s.x : Int) + (cntTV u.t.x : Int) + (cntLog u.g.v.x : Int) + (cntIs u.got.l : Int) + (cntIs u.acked.l : Int))), (2, vL 2 0 (0)), (4, vI (0))] [(2, 0, cNV u.v)] ⟨rfl, rfl, rfl, trivial⟩ ⟨rfl, trivial⟩ rfl fun ρ0 ff => ?_
 have hA24 : OwnP s24 (pcTT u.seen ++ (pcSes u.sess ++ (pcRis u.rises ++ (pcS (mkState u.s k) ++ (pcTV (mkTV u.t (k + (cntState u.s.x : Int))) ++ (pcLog (mkLog u.g (k + (cntState u.s.x : Int) + (cntTV u.t.x : Int))) ++ (pcIs (mkIs u.got (k + (cntState u.s.x : Int) + (cntTV u.t.x : Int) + (cntLog u.g.v.x : Int))) ++ (pcIs (mkIs u.acked (k + (cntState u.s.x : Int) + (cntTV u.t.x : Int) + (cntLog u.g.v.x : Int) + (cntIs u.got.l : Int))))))))))) := by
  have := (OwnP.markG hA20 hO24 (mkp_Is _ _) hL24).rot
  simpa only [List.append_assoc] using this
 refine ⟨_, rfl, ?_⟩
 refine ⟨_, op_ldo rfl rfl rfl rfl, ?_⟩
 refine ⟨_, rfl, (uc_markIntSS u.seen (k + (cntState u.s.x : Int) + (cntTV u.t.x : Int) + (cntLog u.g.v.x : Int) + (cntIs u.got.l : Int) + (cntIs u.acked.l : Int)) s24 (OwnP.left hA24) hb.seen (by omega) (by omega)).mono ?_⟩
 rintro _ s28 ⟨rfl, hO28, hL28⟩
 refine AW.cutM (1) s28 [(1, vI (k + (cntState u.s.x : Int) + (cntTV u.t.x : Int) + (cntLog u.g.v.x : Int) + (cntIs u.got.l : Int) + (cntIs u.acked.l : Int) + (cntTab u.seen.x : Int))), (2, vL 2 0 (0)), (4, vI (0))] [(2, 0, cNV u.v)] ⟨rfl, rfl, rfl, trivial⟩ ⟨rfl, trivial⟩ rfl fun ρ0 ff => ?_
 have hA28 : OwnP s28 (pcSes u.sess ++ (pcRis u.rises ++ (pcS (mkState u.s k) ++ (pcTV (mkTV u.t (k + (cntState u.s.x : Int))) ++ (pcLog (mkLog u.g (k + (cntState u.s.x : Int) + (cntTV u.t.x : Int))) ++ (pcIs (mkIs u.got (k + (cntState u.s.x : Int) + (cntTV u.t.x : Int) + (cntLog u.g.v.x : Int))) ++ (pcIs (mkIs u.acked (k + (cntState u.s.x : Int) + (cntTV u.t.x : Int) + (cntLog u.g.v.x : Int) + (cntIs u.got.l : Int))) ++ (pcTT (mkTT u.seen (k + (cntState u.s.x : Int) + (cntTV u.t.x : Int) + (cntLog u.g.v.x : Int) + (cntIs u.got.l : Int) + (cntIs u.acked.l : Int))))))))))) := by
  have := (OwnP.markG hA24 hO28 (mkp_TT _ _) hL28).rot
  simpa only [List.append_assoc] using this
 refine ⟨_, rfl, ?_⟩
 refine ⟨_, op_ldo rfl rfl rfl rfl, ?_⟩
 refine ⟨_, rfl, (uc_markSessS u.sess (k + (cntState u.s.x : Int) + (cntTV u.t.x : Int) + (cntLog u.g.v.x : Int) + (cntIs u.got.l : Int) + (cntIs u.acked.l : Int) + (cntTab u.seen.x : Int)) s28 (OwnP.left hA28) hb.sess (by omega) (by omega)).mono ?_⟩
 rintro _ s32 ⟨rfl, hO32, hL32⟩
 refine AW.cutM (1) s32 [(1, vI (k + (cntState u.s.x : Int) + (cntTV u.t.x : Int) + (cntLog u.g.v.x : Int) + (cntIs u.got.l : Int) + (cntIs u.acked.l : Int) + (cntTab u.seen.x : Int) + ((4 * u.sess.l.length : Nat) : Int))), (2, vL 2 0 (0)), (4, vI (0))] [(2, 0, cNV u.v)] ⟨rfl, rfl, rfl, trivial⟩ ⟨rfl, trivial⟩ rfl fun ρ0 ff => ?_
 have hA32 : OwnP s32 (pcRis u.rises ++ (pcS (mkState u.s k) ++ (pcTV (mkTV u.t (k + (cntState u.s.x : Int))) ++ (pcLog (mkLog u.g (k + (cntState u.s.x : Int) + (cntTV u.t.x : Int))) ++ (pcIs (mkIs u.got (k + (cntState u.s.x : Int) + (cntTV u.t.x : Int) + (cntLog u.g.v.x : Int))) ++ (pcIs (mkIs u.acked (k + (cntState u.s.x : Int) + (cntTV u.t.x : Int) + (cntLog u.g.v.x : Int) + (cntIs u.got.l : Int))) ++ (pcTT (mkTT u.seen (k + (cntState u.s.x : Int) + (cntTV u.t.x : Int) + (cntLog u.g.v.x : Int) + (cntIs u.got.l : Int) + (cntIs u.acked.l : Int))) ++ (pcSes (mkSesR u.sess (k + (cntState u.s.x : Int) + (cntTV u.t.x : Int) + (cntLog u.g.v.x : Int) + (cntIs u.got.l : Int) + (cntIs u.acked.l : Int) + (cntTab u.seen.x : Int))))))))))) := by
  have := (OwnP.markG hA28 hO32 (mkp_SesR _ _) hL32).rot
  simpa only [List.append_assoc] using this
 refine ⟨_, rfl, ?_⟩
 refine ⟨_, op_ldo rfl rfl rfl rfl, ?_⟩
 refine ⟨_, rfl, (uc_markRiseS u.rises (k + (cntState u.s.x : Int) + (cntTV u.t.x : Int) + (cntLog u.g.v.x : Int) + (cntIs u.got.l : Int) + (cntIs u.acked.l : Int) + (cntTab u.seen.x : Int) + ((4 * u.sess.l.length : Nat) : Int)) s32 (OwnP.left hA32) hb.rises (by omega) (by omega)).mono ?_⟩
 rintro _ s36 ⟨rfl, hO36, hL36⟩
 refine cxs ?_
 have hA36 : OwnP s36 (pcS (mkState u.s k) ++ (pcTV (mkTV u.t (k + (cntState u.s.x : Int))) ++ (pcLog (mkLog u.g (k + (cntState u.s.x : Int) + (cntTV u.t.x : Int))) ++ (pcIs (mkIs u.got (k + (cntState u.s.x : Int) + (cntTV u.t.x : Int) + (cntLog u.g.v.x : Int))) ++ (pcIs (mkIs u.acked (k + (cntState u.s.x : Int) + (cntTV u.t.x : Int) + (cntLog u.g.v.x : Int) + (cntIs u.got.l : Int))) ++ (pcTT (mkTT u.seen (k + (cntState u.s.x : Int) + (cntTV u.t.x : Int) + (cntLog u.g.v.x : Int) + (cntIs u.got.l : Int) + (cntIs u.acked.l : Int))) ++ (pcSes (mkSesR u.sess (k + (cntState u.s.x : Int) + (cntTV u.t.x : Int) + (cntLog u.g.v.x : Int) + (cntIs u.got.l : Int) + (cntIs u.acked.l : Int) + (cntTab u.seen.x : Int))) ++ (pcRis (mkRisR u.rises (k + (cntState u.s.x : Int) + (cntTV u.t.x : Int) + (cntLog u.g.v.x : Int) + (cntIs u.got.l : Int) + (cntIs u.acked.l : Int) + (cntTab u.seen.x : Int) + ((4 * u.sess.l.length : Nat) : Int))))))))))) := by
  have := (OwnP.markG hA32 hO36 (mkp_RisR _ _) hL36).rot
  simpa only [List.append_assoc] using this
 refine cxs ?_
 exact ⟨.inl rfl, _, rfl, congrArg vI (by rw [hc]; omega), hA36, ((((((((PrL.inl hL8).trans (PrL.inr (PrL.inl hL12))).trans (PrL.inr (PrL.inr (PrL.inl hL16)))).trans (PrL.inr (PrL.inr (PrL.inr (PrL.inl hL20))))).trans (PrL.inr (PrL.inr (PrL.inr (PrL.inr (PrL.inl hL24)))))).trans (PrL.inr (PrL.inr (PrL.inr (PrL.inr (PrL.inr (PrL.inl hL28))))))).trans (PrL.inr (PrL.inr (PrL.inr (PrL.inr (PrL.inr (PrL.inr (PrL.inl hL32)))))))).trans (PrL.inr (PrL.inr (PrL.inr (PrL.inr (PrL.inr (PrL.inr (PrL.inr (hL36)))))))))⟩
theorem uc_heldNode (u : NW) (k : Int) (st : St) (hO : OwnP st (pcNW (mkNode u k))) (hb : bigN u.x) (h0 : 0 ≤ k) (hk : k + (cntNode u.x : Int) ≤ 137438953472) : C 28 [.agg #[vI u.id, vI u.n, vS u.s.p u.s.x.items.length, vS u.s.q u.s.x.floors.length, vS u.t.p u.t.l.length, vI u.t.root, vI u.g.cap, vI u.g.frm, vS u.g.p u.g.l.length, vS u.got.p u.got.l.length, vS u.acked.p u.acked.l.length, vS u.seen.p u.seen.t.length, vI u.num, vI u.slots, vS u.sess.p u.sess.l.length, vI u.wait, vI u.limit, vI u.clock, vS u.rises.p u.rises.l.length], vI k] st (fun v s => v = vI (k + (cntNode u.x : Int)) ∧ Pres st s) := by
 have hc : cntNode u.x = cntState u.s.x + cntTV u.t.x + cntLog u.g.v.x + cntIs u.got.l + cntIs u.acked.l + cntTab u.seen.x + 4 * u.sess.l.length + 3 * u.rises.l.length := rfl
 refine AC.enterX (i := ⟨[2], [2, 5, 11, 17, 23, 29, 35, 41, 47], [0, 1, 2, 4, 10, 16, 22, 28, 34, 40, 46, 52]⟩) [] Tryz.func28 rfl rfl (by kernel_rfl) (by kernel_rfl) Tryz.ntmps28 (Nat.le_of_ble_eq_true rfl) rfl ?_
 refine ⟨_, rfl, ?_⟩
 refine AW.cutM (1) st [(1, vI k), (2, vL 2 0 (0)), (4, vI (0))] [(2, 0, cNV u.v)] ⟨rfl, rfl, rfl, trivial⟩ ⟨rfl, trivial⟩ rfl fun ρ0 ff => ?_
 refine ⟨_, rfl, ?_⟩
 refine ⟨_, op_ldo rfl rfl rfl rfl, ?_⟩
 refine ⟨_, rfl, (uc_heldState u.s k st (OwnP.rdS (OwnP.left hO)) hb.s (by omega) (by omega)).mono ?_⟩
 rintro _ s8 ⟨rfl, hP8⟩
 refine AW.cutM (1) s8 [(1, vI (k + (cntState u.s.x : Int))), (2, vL 2 0 (0)), (4, vI (0))] [(2, 0, cNV u.v)] ⟨rfl, rfl, rfl, trivial⟩ ⟨rfl, trivial⟩ rfl fun ρ0 ff => ?_
 refine ⟨_, rfl, ?_⟩
 rintro (_|_) h10
 rotate_left
 ·exact absurd (of_decide_eq_true h10) ((by omega))
 refine AW.cutM (1) s8 [(1, vI (k + (cntState u.s.x : Int))), (2, vL 2 0 (0)), (4, vI (0)), (10, vB false)] [(2, 0, cNV u.v)] ⟨rfl, rfl, rfl, rfl, trivial⟩ ⟨rfl, trivial⟩ rfl fun ρ0 ff => ?_
 refine cxs ?_
 refine ⟨_, rfl, ?_⟩
 refine ⟨_, op_ldo rfl rfl rfl rfl, ?_⟩
 refine ⟨_, rfl, (uc_heldTree u.t (k + (cntState u.s.x : Int)) s8 (OwnP.rdTV (OwnP.left (OwnP.right (hO.pres hP8)))) hb.t (by omega) (by omega)).mono ?_⟩
 rintro _ s14 ⟨rfl, hP14⟩
 refine AW.cutM (1) s14 [(1, vI (k + (cntState u.s.x : Int) + (cntTV u.t.x : Int))), (2, vL 2 0 (0)), (4, vI (0))] [(2, 0, cNV u.v)] ⟨rfl, rfl, rfl, trivial⟩ ⟨rfl, trivial⟩ rfl fun ρ0 ff => ?_
 have hQ14 : Pres st s14 := hP8.trans hP14
 refine ⟨_, rfl, ?_⟩
 rintro (_|_) h16
 rotate_left
 ·exact absurd (of_decide_eq_true h16) ((by omega))
 refine AW.cutM (1) s14 [(1, vI (k + (cntState u.s.x : Int) + (cntTV u.t.x : Int))), (2, vL 2 0 (0)), (4, vI (0)), (16, vB false)] [(2, 0, cNV u.v)] ⟨rfl, rfl, rfl, rfl, trivial⟩ ⟨rfl, trivial⟩ rfl fun ρ0 ff => ?_
 refine cxs ?_
 refine ⟨_, rfl, ?_⟩
 refine ⟨_, op_ldo rfl rfl rfl rfl, ?_⟩
 refine ⟨_, rfl, (uc_heldLog u.g (k + (cntState u.s.x : Int) + (cntTV u.t.x : Int)) s14 (OwnP.rdLog (OwnP.left (OwnP.right (OwnP.right (hO.pres hQ14))))) (LW.rows ((OwnP.left (OwnP.right (OwnP.right (hO.pres hQ14)))).1 _ (List.mem_cons_self ..))) hb.g (by omega) (by omega)).mono ?_⟩
 rintro _ s20 ⟨rfl, hP20⟩
 refine AW.cutM (1) s20 [(1, vI (k + (cntState u.s.x : Int) + (cntTV u.t.x : Int) + (cntLog u.g.v.x : Int))), (2, vL 2 0 (0)), (4, vI (0))] [(2, 0, cNV u.v)] ⟨rfl, rfl, rfl, trivial⟩ ⟨rfl, trivial⟩ rfl fun ρ0 ff => ?_
 have hQ20 : Pres st s20 := hQ14.trans hP20
 refine ⟨_, rfl, ?_⟩
 rintro (_|_) h22
 rotate_left
 ·exact absurd (of_decide_eq_true h22) ((by omega))
 refine AW.cutM (1) s20 [(1, vI (k + (cntState u.s.x : Int) + (cntTV u.t.x : Int) + (cntLog u.g.v.x : Int))), (2, vL 2 0 (0)), (4, vI (0)), (22, vB false)] [(2, 0, cNV u.v)] ⟨rfl, rfl, rfl, rfl, trivial⟩ ⟨rfl, trivial⟩ rfl fun ρ0 ff => ?_
 refine cxs ?_
 refine ⟨_, rfl, ?_⟩
 refine ⟨_, op_ldo rfl rfl rfl rfl, ?_⟩
 refine ⟨_, rfl, (uc_heldIntS u.got (k + (cntState u.s.x : Int) + (cntTV u.t.x : Int) + (cntLog u.g.v.x : Int)) s20 (OwnP.rdIs (OwnP.left (OwnP.right (OwnP.right (OwnP.right (hO.pres hQ20)))))) hb.got (by omega) (by omega)).mono ?_⟩
 rintro _ s26 ⟨rfl, hP26⟩
 refine AW.cutM (1) s26 [(1, vI (k + (cntState u.s.x : Int) + (cntTV u.t.x : Int) + (cntLog u.g.v.x : Int) + (cntIs u.got.l : Int))), (2, vL 2 0 (0)), (4, vI (0))] [(2, 0, cNV u.v)] ⟨rfl, rfl, rfl, trivial⟩ ⟨rfl, trivial⟩ rfl fun ρ0 ff => ?_
 have hQ26 : Pres st s26 := hQ20.trans hP26
 refine ⟨_, rfl, ?_⟩
 rintro (_|_) h28
 rotate_left
 ·exact absurd (of_decide_eq_true h28) ((by omega))
 refine AW.cutM (1) s26 [(1, vI (k + (cntState u.s.x : Int) + (cntTV u.t.x : Int) + (cntLog u.g.v.x : Int) + (cntIs u.got.l : Int))), (2, vL 2 0 (0)), (4, vI (0)), (28, vB false)] [(2, 0, cNV u.v)] ⟨rfl, rfl, rfl, rfl, trivial⟩ ⟨rfl, trivial⟩ rfl fun ρ0 ff => ?_
 refine cxs ?_
 refine ⟨_, rfl, ?_⟩
 refine ⟨_, op_ldo rfl rfl rfl rfl, ?_⟩
 refine ⟨_, rfl, (uc_heldIntS u.acked (k + (cntState u.s.x : Int) + (cntTV u.t.x : Int) + (cntLog u.g.v.x : Int) + (cntIs u.got.l : Int)) s26 (OwnP.rdIs (OwnP.left (OwnP.right (OwnP.right (OwnP.right (OwnP.right (hO.pres hQ26))))))) hb.acked (by omega) (by omega)).mono ?_⟩
 rintro _ s32 ⟨rfl, hP32⟩
 refine AW.cutM (1) s32 [(1, vI (k + (cntState u.s.x : Int) + (cntTV u.t.x : Int) + (cntLog u.g.v.x : Int) + (cntIs u.got.l : Int) + (cntIs u.acked.l : Int))), (2, vL 2 0 (0)), (4, vI (0))] [(2, 0, cNV u.v)] ⟨rfl, rfl, rfl, trivial⟩ ⟨rfl, trivial⟩ rfl fun ρ0 ff => ?_
 have hQ32 : Pres st s32 := hQ26.trans hP32
 refine ⟨_, rfl, ?_⟩
 rintro (_|_) h34
 rotate_left
 ·exact absurd (of_decide_eq_true h34) ((by omega))
 refine AW.cutM (1) s32 [(1, vI (k + (cntState u.s.x : Int) + (cntTV u.t.x : Int) + (cntLog u.g.v.x : Int) + (cntIs u.got.l : Int) + (cntIs u.acked.l : Int))), (2, vL 2 0 (0)), (4, vI (0)), (34, vB false)] [(2, 0, cNV u.v)] ⟨rfl, rfl, rfl, rfl, trivial⟩ ⟨rfl, trivial⟩ rfl fun ρ0 ff => ?_
 refine cxs ?_
 refine ⟨_, rfl, ?_⟩
 refine ⟨_, op_ldo rfl rfl rfl rfl, ?_⟩
 refine ⟨_, rfl, (uc_heldIntSS u.seen (k + (cntState u.s.x : Int) + (cntTV u.t.x : Int) + (cntLog u.g.v.x : Int) + (cntIs u.got.l : Int) + (cntIs u.acked.l : Int)) s32 (OwnP.rdT (OwnP.left (OwnP.right (OwnP.right (OwnP.right (OwnP.right (OwnP.right (hO.pres hQ32)))))))) hb.seen (by omega) (by omega)).mono ?_⟩
 rintro _ s38 ⟨rfl, hP38⟩
 refine AW.cutM (1) s38 [(1, vI (k + (cntState u.s.x : Int) + (cntTV u.t.x : Int) + (cntLog u.g.v.x : Int) + (cntIs u.got.l : Int) + (cntIs u.acked.l : Int) + (cntTab u.seen.x : Int))), (2, vL 2 0 (0)), (4, vI (0))] [(2, 0, cNV u.v)] ⟨rfl, rfl, rfl, trivial⟩ ⟨rfl, trivial⟩ rfl fun ρ0 ff => ?_
 have hQ38 : Pres st s38 := hQ32.trans hP38
 refine ⟨_, rfl, ?_⟩
 rintro (_|_) h40
 rotate_left
 ·exact absurd (of_decide_eq_true h40) ((by omega))
 refine AW.cutM (1) s38 [(1, vI (k + (cntState u.s.x : Int) + (cntTV u.t.x : Int) + (cntLog u.g.v.x : Int) + (cntIs u.got.l : Int) + (cntIs u.acked.l : Int) + (cntTab u.seen.x : Int))), (2, vL 2 0 (0)), (4, vI (0)), (40, vB false)] [(2, 0, cNV u.v)] ⟨rfl, rfl, rfl, rfl, trivial⟩ ⟨rfl, trivial⟩ rfl fun ρ0 ff => ?_
 refine cxs ?_
 refine ⟨_, rfl, ?_⟩
 refine ⟨_, op_ldo rfl rfl rfl rfl, ?_⟩
 refine ⟨_, rfl, (uc_heldSessS u.sess (k + (cntState u.s.x : Int) + (cntTV u.t.x : Int) + (cntLog u.g.v.x : Int) + (cntIs u.got.l : Int) + (cntIs u.acked.l : Int) + (cntTab u.seen.x : Int)) s38 (OwnP.rdSes (OwnP.left (OwnP.right (OwnP.right (OwnP.right (OwnP.right (OwnP.right (OwnP.right (hO.pres hQ38))))))))) hb.sess (by omega) (by omega)).mono ?_⟩
 rintro _ s44 ⟨rfl, hP44⟩
 refine AW.cutM (1) s44 [(1, vI (k + (cntState u.s.x : Int) + (cntTV u.t.x : Int) + (cntLog u.g.v.x : Int) + (cntIs u.got.l : Int) + (cntIs u.acked.l : Int) + (cntTab u.seen.x : Int) + ((4 * u.sess.l.length : Nat) : Int))), (2, vL 2 0 (0)), (4, vI (0))] [(2, 0, cNV u.v)] ⟨rfl, rfl, rfl, trivial⟩ ⟨rfl, trivial⟩ rfl fun ρ0 ff => ?_
 have hQ44 : Pres st s44 := hQ38.trans hP44
 refine ⟨_, rfl, ?_⟩
 rintro (_|_) h46
 rotate_left
 ·exact absurd (of_decide_eq_true h46) ((by omega))
 refine AW.cutM (1) s44 [(1, vI (k + (cntState u.s.x : Int) + (cntTV u.t.x : Int) + (cntLog u.g.v.x : Int) + (cntIs u.got.l : Int) + (cntIs u.acked.l : Int) + (cntTab u.seen.x : Int) + ((4 * u.sess.l.length : Nat) : Int))), (2, vL 2 0 (0)), (4, vI (0)), (46, vB false)] [(2, 0, cNV u.v)] ⟨rfl, rfl, rfl, rfl, trivial⟩ ⟨rfl, trivial⟩ rfl fun ρ0 ff => ?_
 refine cxs ?_
 refine ⟨_, rfl, ?_⟩
 refine ⟨_, op_ldo rfl rfl rfl rfl, ?_⟩
 refine ⟨_, rfl, (uc_heldRiseS u.rises (k + (cntState u.s.x : Int) + (cntTV u.t.x : Int) + (cntLog u.g.v.x : Int) + (cntIs u.got.l : Int) + (cntIs u.acked.l : Int) + (cntTab u.seen.x : Int) + ((4 * u.sess.l.length : Nat) : Int)) s44 (OwnP.rdRis (OwnP.right (OwnP.right (OwnP.right (OwnP.right (OwnP.right (OwnP.right (OwnP.right (hO.pres hQ44))))))))) hb.rises (by omega) (by omega)).mono ?_⟩
 rintro _ s50 ⟨rfl, hP50⟩
 refine AW.cutM (1) s50 [(1, vI (k + (cntState u.s.x : Int) + (cntTV u.t.x : Int) + (cntLog u.g.v.x : Int) + (cntIs u.got.l : Int) + (cntIs u.acked.l : Int) + (cntTab u.seen.x : Int) + ((4 * u.sess.l.length : Nat) : Int) + ((3 * u.rises.l.length : Nat) : Int))), (4, vI (0))] [] ⟨rfl, rfl, trivial⟩ trivial rfl fun ρ0 ff => ?_
 have hQ50 : Pres st s50 := hQ44.trans hP50
 refine ⟨_, rfl, ?_⟩
 rintro (_|_) h52
 rotate_left
 ·exact absurd (of_decide_eq_true h52) ((by omega))
 refine AW.cutM (1) s50 [(1, vI (k + (cntState u.s.x : Int) + (cntTV u.t.x : Int) + (cntLog u.g.v.x : Int) + (cntIs u.got.l : Int) + (cntIs u.acked.l : Int) + (cntTab u.seen.x : Int) + ((4 * u.sess.l.length : Nat) : Int) + ((3 * u.rises.l.length : Nat) : Int))), (4, vI (0)), (52, vB false)] [] ⟨rfl, rfl, rfl, trivial⟩ trivial rfl fun ρ0 ff => ?_
 refine cxs ?_
 refine cxs ?_
 exact ⟨.inl rfl, _, rfl, congrArg vI (by rw [hc]; omega), hQ50⟩
theorem bigNW {u : NW} (h : bigN u.x) : bigN u.v.x := h
theorem cntNW {u : NW} {n : Nat} (h : cntNode u.x ≤ n) : cntNode u.v.x ≤ n := h
theorem tick_big {x r : Nd} (h : r = tickF x) (hb : bigN x) : bigN r := by
 rw [h]
 unfold tickF
 split
 ·exact ⟨hb.s, hb.t, hb.g, hb.got, hb.acked, hb.seen, Nat.le_trans (aged_len _ _) hb.sess, hb.rises⟩
 ·exact hb
theorem tick_cnt {x r : Nd} {n : Nat} (h : r = tickF x) (hb : cntNode x ≤ n) : cntNode r ≤ n := by
 rw [h]
 unfold tickF
 split
 ·have h1 := aged_len x.wait x.sess
  unfold cntNode at hb ⊢
  show cntS x.s + x.t.leaves.length + cntLog x.g + x.got.length + x.acked.length + cntTab x.seen + 4 * (agedL x.wait x.sess).length + 3 * x.rises.length ≤ n
  omega
 ·exact hb
theorem ac_laws_FnExactTick (g : NV) (st : St) (hR_g : RdN st g ∧ maxN g) : C 6 [.agg #[vI g.id, vI g.n, vS g.s.p g.s.x.items.length, vS g.s.q g.s.x.floors.length, vS g.t.p g.t.l.length, vI g.t.root, vI g.g.cap, vI g.g.frm, vS g.g.p g.g.l.length, vS g.got.p g.got.l.length, vS g.acked.p g.acked.l.length, vS g.seen.p g.seen.t.length, vI g.num, vI g.slots, vS g.sess.p g.sess.l.length, vI g.wait, vI g.limit, vI g.clock, vS g.rises.p g.rises.l.length]] st (fun v s => v = vB true) := by
 refine AC.enterX (i := ⟨[1, 4, 5, 6, 10], [1, 4, 5, 6, 10], [0, 1, 2, 3, 4, 5, 6, 7, 8, 9, 10, 15, 26, 31, 42, 50, 53, 60, 65, 68]⟩) [(10, [2], [0])] Tryz.func6 rfl rfl (by kernel_rfl) (by kernel_rfl) Tryz.ntmps6 (Nat.le_of_ble_eq_true rfl) rfl ?_
 refine ⟨_, rfl, ?_⟩
 refine cxs ?_
 refine AW.cutM (1) st [(1, vL 1 0 (0)), (2, vB false), (3, vI (1048576))] [(1, 0, cNV g)] ⟨rfl, rfl, rfl, trivial⟩ ⟨rfl, trivial⟩ rfl fun ρ0 ff => ?_
 refine ⟨_, op_ldo (v := (vNV g)) rfl rfl rfl rfl, ?_⟩
 refine ⟨_, rfl, (ac_laws_szNode g 1048576 st hR_g.1 (by decide) (by decide) hR_g.2).mono ?_⟩
 rintro _ st ⟨z_g, rfl, hr_g, hz_g, rfl⟩
 refine AW.cutM (1) st [(1, vL 1 0 (0)), (2, vB false), (3, vI z_g)] [(1, 0, cNV g)] ⟨rfl, rfl, rfl, trivial⟩ ⟨rfl, trivial⟩ rfl fun ρ0 ff => ?_
 refine ⟨_, rfl, ?_⟩
 rintro (_|_) hn_g
 ·replace hn_g : ¬ (z_g < 0) := of_decide_eq_false hn_g
  refine AW.cutM (1) st [(1, vL 1 0 (0)), (2, vB false), (15, vB false)] [(1, 0, cNV g)] ⟨rfl, rfl, rfl, trivial⟩ ⟨rfl, trivial⟩ rfl fun ρ0 ff => ?_
  have hz_g' := hz_g (by omega)
  have hb_g := sz_bigN (v := g) (by omega)
  have hc_g : cntNode g.x ≤ 8388608 := (cnt_Node (v := g) (by omega))
  refine cxs ?_
  refine ⟨_, op_ldo (v := (vNV g)) rfl rfl rfl rfl, ?_⟩
  refine ⟨_, rfl, (ac_laws_toNode g st hR_g.1 hb_g).mono ?_⟩
  rintro _ s1 ⟨u1, rfl, hu1, hO1, hN1, hP1⟩
  refine ⟨_, rfl, (ac_spec_Tick u1.v s1 (OwnP.rdN (OwnP.left (OwnP.joinF OwnP.nil hP1 hO1 hN1))) (bigNW (hu1 ▸ hb_g))).mono ?_⟩
  rintro _ s2 ⟨r2, rfl, hr2, hO2, hN2, hP2⟩
  refine ⟨_, rfl, ?_⟩
  refine ⟨_, op_stw (vs := cNV r2.v) rfl rfl rfl rfl rfl rfl rfl rfl, ?_⟩
  refine AW.cutM (2) s2 [(1, vL 1 0 (0)), (2, vB false), (4, vL 4 0 (1))] [(1, 0, cNV g), (4, 1, cNV r2.v)] ⟨rfl, rfl, rfl, trivial⟩ ⟨rfl, rfl, trivial⟩ rfl fun ρ0 ff => ?_
  have hA5 : OwnP s2 (pcNW r2 ++ (pcNW u1 ++ [])) := (OwnP.joinF (OwnP.joinF OwnP.nil hP1 hO1 hN1) hP2 hO2 hN2)
  have hQ5 : Pres st s2 := (hP1.trans hP2)
  refine ⟨_, op_ldo (v := (vNV g)) rfl rfl rfl rfl, ?_⟩
  refine ⟨_, rfl, (ac_laws_toNode g s2 (hR_g.1.pres hQ5) hb_g).mono ?_⟩
  rintro _ s3 ⟨u3, rfl, hu3, hO3, hN3, hP3⟩
  refine ⟨_, rfl, ?_⟩
  refine ⟨_, op_stw (vs := cNV u3.v) rfl rfl rfl rfl rfl rfl rfl rfl, ?_⟩
  refine AW.cutM (3) s3 [(1, vL 1 0 (0)), (2, vB false), (4, vL 4 0 (1)), (5, vL 5 0 (2))] [(1, 0, cNV g), (4, 1, cNV r2.v), (5, 2, cNV u3.v)] ⟨rfl, rfl, rfl, rfl, trivial⟩ ⟨rfl, rfl, rfl, trivial⟩ rfl fun ρ0 ff => ?_
  have hA6 : OwnP s3 (pcNW u3 ++ (pcNW r2 ++ (pcNW u1 ++ []))) := (OwnP.joinF hA5 hP3 hO3 hN3)
  have hQ6 : Pres st s3 := (hQ5.trans hP3)
  refine ⟨_, op_ldo (v := (vNV u3.v)) rfl rfl rfl rfl, ?_⟩
  refine ⟨_, rfl, (ac_impl_Tick u3.v s3 (OwnP.rdN (OwnP.left hA6)) (bigNW (hu3 ▸ hb_g))).mono ?_⟩
  rintro _ s4 ⟨r4, rfl, hr4, hO4, hN4, hP4⟩
  refine ⟨_, rfl, ?_⟩
  refine ⟨_, op_stw (vs := cNV r4.v) rfl rfl rfl rfl rfl rfl rfl rfl, ?_⟩
  refine AW.cutM (4) s4 [(1, vL 1 0 (0)), (2, vB false), (4, vL 4 0 (1)), (5, vL 5 0 (2)), (6, vL 6 0 (3))] [(1, 0, cNV g), (4, 1, cNV r2.v), (5, 2, cNV u3.v), (6, 3, cNV r4.v)] ⟨rfl, rfl, rfl, rfl, rfl, trivial⟩ ⟨rfl, rfl, rfl, rfl, trivial⟩ rfl fun ρ0 ff => ?_
  have hA7 : OwnP s4 (pcNW r4 ++ (pcNW u3 ++ (pcNW r2 ++ (pcNW u1 ++ [])))) := (OwnP.joinF hA6 hP4 hO4 hN4)
  have hQ7 : Pres st s4 := (hQ6.trans hP4)
  have hE1 : r4.x = r2.x := by rw [hr4, hr2, show u3.v.x = _ from hu3, show u1.v.x = _ from hu1]
  refine ⟨_, op_ldo (v := (vNV r4.v)) rfl rfl rfl rfl, ?_⟩
  refine ⟨_, op_ldo (v := (vNV r2.v)) rfl rfl rfl rfl, ?_⟩
  refine ⟨_, rfl, (AC.tru (uc_eqNode r4 r2 s4 (OwnP.rdN (OwnP.left hA7)) (OwnP.rdN (OwnP.left (OwnP.right (OwnP.right hA7)))) (tick_big hr4 (bigNW (hu3 ▸ hb_g)))) hE1).mono ?_⟩
  rintro _ s4 ⟨rfl, rfl⟩
  refine ⟨_, rfl, ?_⟩
  refine AW.cutM (4) s4 [(1, vL 1 0 (0)), (2, vB false), (4, vL 4 0 (1)), (5, vL 5 0 (2)), (6, vL 6 0 (3)), (26, vB false)] [(1, 0, cNV g), (4, 1, cNV r2.v), (5, 2, cNV u3.v), (6, 3, cNV r4.v)] ⟨rfl, rfl, rfl, rfl, rfl, rfl, trivial⟩ ⟨rfl, rfl, rfl, rfl, trivial⟩ rfl fun ρ0 ff => ?_
  refine cxs ?_
  refine ⟨_, op_ldo (v := (vNV u3.v)) rfl rfl rfl rfl, ?_⟩
  refine ⟨ld_own rfl rfl rfl, ?_⟩
  refine ⟨_, op_ldo (v := (vNV g)) rfl rfl rfl rfl, ?_⟩
  refine ⟨_, rfl, (ac_laws_toNode g s4 (hR_g.1.pres hQ7) hb_g).mono ?_⟩
  rintro _ s5 ⟨u5, rfl, hu5, hO5, hN5, hP5⟩
  refine ⟨hP5.2, ?_⟩
  refine ⟨_, rfl, (AC.tru (uc_eqNode u3 u5 s5 (OwnP.rdN (OwnP.left (OwnP.right (OwnP.right (OwnP.joinF hA7 hP5 hO5 hN5))))) (OwnP.rdN (OwnP.left (OwnP.joinF hA7 hP5 hO5 hN5))) (hu3 ▸ hb_g)) (hu3.trans hu5.symm)).mono ?_⟩
  rintro _ s5 ⟨rfl, rfl⟩
  refine ⟨_, rfl, ?_⟩
  refine AW.cutM (4) s5 [(1, vL 1 0 (0)), (2, vB false), (4, vL 4 0 (1)), (5, vL 5 0 (2)), (6, vL 6 0 (3)), (31, vB false)] [(1, 0, cNV g), (4, 1, cNV r2.v), (5, 2, cNV u3.v), (6, 3, cNV r4.v)] ⟨rfl, rfl, rfl, rfl, rfl, rfl, trivial⟩ ⟨rfl, rfl, rfl, rfl, trivial⟩ rfl fun ρ0 ff => ?_
  have hA10 : OwnP s5 (pcNW u5 ++ (pcNW r4 ++ (pcNW u3 ++ (pcNW r2 ++ (pcNW u1 ++ []))))) := (OwnP.joinF hA7 hP5 hO5 hN5)
  have hQ10 : Pres st s5 := (hQ7.trans hP5)
  refine cxs ?_
  refine AW.cutM (4) s5 [(1, vL 1 0 (0)), (2, vB false), (4, vL 4 0 (1)), (5, vL 5 0 (2)), (6, vL 6 0 (3)), (7, vI (1))] [(1, 0, cNV g), (4, 1, cNV r2.v), (5, 2, cNV u3.v), (6, 3, cNV r4.v)] ⟨rfl, rfl, rfl, rfl, rfl, rfl, trivial⟩ ⟨rfl, rfl, rfl, rfl, trivial⟩ rfl fun ρ0 ff => ?_
  refine ⟨_, op_ldo (v := (vNV u3.v)) rfl rfl rfl rfl, ?_⟩
  have hM6 := (OwnP.front2 hA10)
  have hNw6 := newPs (hN3.le ((hP1.trans hP2)).1)
  have hcm6 : cntNode u3.x ≤ 8388608 := by rw [hu3]; exact hc_g
  refine ⟨_, rfl, (uc_markNode u3 1 s5 (OwnP.left hM6) (hu3 ▸ hb_g) (by omega) (by omega)).mono ?_⟩
  rintro _ s6 ⟨rfl, hO6, hL6⟩
  refine AW.cutM (4) s6 [(1, vL 1 0 (0)), (2, vB false), (4, vL 4 0 (1)), (6, vL 6 0 (3)), (7, vI (1 + (cntNode u3.x : Int)))] [(1, 0, cNV g), (4, 1, cNV r2.v), (6, 3, cNV r4.v)] ⟨rfl, rfl, rfl, rfl, rfl, trivial⟩ ⟨rfl, rfl, rfl, trivial⟩ rfl fun ρ0 ff => ?_
  have hA13 : OwnP s6 (pcNW (mkNode u3 1) ++ _) := OwnP.markG hM6 hO6 (mkp_Node _ _) hL6
  have hQ13 : Pres st s6 := hL6.pres hQ10 hNw6
  refine ⟨_, rfl, ?_⟩
  rintro (_|_) hg7
  rotate_left
  ·exact absurd (of_decide_eq_true hg7) ((by omega))
  refine ⟨_, op_ldo (v := (vNV r4.v)) rfl rfl rfl rfl, ?_⟩
  refine ⟨_, op_ldo (v := (vNV r2.v)) rfl rfl rfl rfl, ?_⟩
  refine ⟨_, rfl, (AC.tru (uc_eqNode r4 r2 s6 (OwnP.rdN (OwnP.left (OwnP.right (OwnP.right hA13)))) (OwnP.rdN (OwnP.left (OwnP.right (OwnP.right (OwnP.right hA13))))) (tick_big hr4 (bigNW (hu3 ▸ hb_g)))) hE1).mono ?_⟩
  rintro _ s6 ⟨rfl, rfl⟩
  iterate 2 refine ⟨_, rfl, ?_⟩
  refine AW.cutM (4) s6 [(1, vL 1 0 (0)), (2, vB false), (4, vL 4 0 (1)), (6, vL 6 0 (3)), (42, vB false)] [(1, 0, cNV g), (4, 1, cNV r2.v), (6, 3, cNV r4.v)] ⟨rfl, rfl, rfl, rfl, rfl, trivial⟩ ⟨rfl, rfl, rfl, trivial⟩ rfl fun ρ0 ff => ?_
  refine cxs ?_
  refine AW.cutM (4) s6 [(1, vL 1 0 (0)), (2, vB false), (4, vL 4 0 (1)), (6, vL 6 0 (3)), (8, vI (1))] [(1, 0, cNV g), (4, 1, cNV r2.v), (6, 3, cNV r4.v)] ⟨rfl, rfl, rfl, rfl, rfl, trivial⟩ ⟨rfl, rfl, rfl, trivial⟩ rfl fun ρ0 ff => ?_
  refine ⟨_, op_ldo (v := (vNV r4.v)) rfl rfl rfl rfl, ?_⟩
  have hM8 := (OwnP.front2 hA13)
  have hNw8 := newPs (hN4.le (((hP1.trans hP2).trans hP3)).1)
  have hcm8 : cntNode r4.x ≤ 8388608 := tick_cnt hr4 (cntNW (hu3 ▸ hc_g))
  refine ⟨_, rfl, (uc_markNode r4 1 s6 (OwnP.left hM8) (tick_big hr4 (bigNW (hu3 ▸ hb_g))) (by omega) (by omega)).mono ?_⟩
  rintro _ s8 ⟨rfl, hO8, hL8⟩
  refine cxs ?_
  have hA17 : OwnP s8 (pcNW (mkNode r4 1) ++ _) := OwnP.markG hM8 hO8 (mkp_Node _ _) hL8
  have hQ17 : Pres st s8 := hL8.pres hQ13 hNw8
  refine AW.cutM (4) s8 [(1, vL 1 0 (0)), (2, vB false), (4, vL 4 0 (1)), (6, vL 6 0 (3)), (8, vI (1 + (cntNode r4.x : Int))), (9, vI (1))] [(1, 0, cNV g), (4, 1, cNV r2.v), (6, 3, cNV r4.v)] ⟨rfl, rfl, rfl, rfl, rfl, rfl, trivial⟩ ⟨rfl, rfl, rfl, trivial⟩ rfl fun ρ0 ff => ?_
  refine ⟨_, op_ldo (v := (vNV r4.v)) rfl rfl rfl rfl, ?_⟩
  refine ⟨_, rfl, (uc_heldNode r4 1 s8 (OwnP.left hA17) (tick_big hr4 (bigNW (hu3 ▸ hb_g))) (by decide) (by omega)).mono ?_⟩
  rintro _ s9 ⟨rfl, hP9⟩
  refine AW.cutM (4) s9 [(1, vL 1 0 (0)), (2, vB false), (4, vL 4 0 (1)), (6, vL 6 0 (3)), (8, vI (1 + (cntNode r4.x : Int))), (9, vI (1 + (cntNode r4.x : Int)))] [(1, 0, cNV g), (4, 1, cNV r2.v), (6, 3, cNV r4.v)] ⟨rfl, rfl, rfl, rfl, rfl, rfl, trivial⟩ ⟨rfl, rfl, rfl, trivial⟩ rfl fun ρ0 ff => ?_
  have hA19 : OwnP s9 (pcNW (mkNode r4 1) ++ (pcNW (mkNode u3 1) ++ (pcNW u5 ++ (pcNW r2 ++ (pcNW u1 ++ []))))) := (OwnP.pres hA17 hP9)
  have hQ19 : Pres st s9 := (hQ17.trans hP9)
  refine ⟨_, rfl, ?_⟩
  rintro (_|_) hg10
  rotate_left
  ·exact absurd (of_decide_eq_true hg10) ((by omega))
  refine AW.cutM (4) s9 [(1, vL 1 0 (0)), (2, vB false), (4, vL 4 0 (1)), (6, vL 6 0 (3)), (8, vI (1 + (cntNode r4.x : Int))), (9, vI (1 + (cntNode r4.x : Int))), (50, vB false)] [(1, 0, cNV g), (4, 1, cNV r2.v), (6, 3, cNV r4.v)] ⟨rfl, rfl, rfl, rfl, rfl, rfl, rfl, trivial⟩ ⟨rfl, rfl, rfl, trivial⟩ rfl fun ρ0 ff => ?_
  refine cxs ?_
  refine ⟨_, rfl, ?_⟩
  rintro (_|_) hg11
  rotate_left
  ·exact absurd (rfl) (bne_iff_ne.1 hg11)
  refine AW.cutM (4) s9 [(1, vL 1 0 (0)), (2, vB false), (4, vL 4 0 (1)), (6, vL 6 0 (3)), (8, vI (1 + (cntNode r4.x : Int))), (9, vI (1 + (cntNode r4.x : Int))), (53, vB false)] [(1, 0, cNV g), (4, 1, cNV r2.v), (6, 3, cNV r4.v)] ⟨rfl, rfl, rfl, rfl, rfl, rfl, rfl, trivial⟩ ⟨rfl, rfl, rfl, trivial⟩ rfl fun ρ0 ff => ?_
  refine cxs ?_
  refine ⟨_, op_ldo (v := (vNV g)) rfl rfl rfl rfl, ?_⟩
  refine ⟨_, rfl, (ac_laws_toNode g s9 (hR_g.1.pres hQ19) hb_g).mono ?_⟩
  rintro _ s12 ⟨u12, rfl, hu12, hO12, hN12, hP12⟩
  refine ⟨_, rfl, (ac_impl_Tick u12.v s12 (OwnP.rdN (OwnP.left (OwnP.joinF hA19 hP12 hO12 hN12))) (bigNW (hu12 ▸ hb_g))).mono ?_⟩
  rintro _ s13 ⟨r13, rfl, hr13, hO13, hN13, hP13⟩
  refine ⟨_, rfl, ?_⟩
  refine ⟨_, op_stw (vs := cNV r13.v) rfl rfl rfl rfl rfl rfl rfl rfl, ?_⟩
  refine AW.cutM (5) s13 [(2, vB false), (4, vL 4 0 (1)), (6, vL 6 0 (3)), (8, vI (1 + (cntNode r4.x : Int))), (9, vI (1 + (cntNode r4.x : Int))), (10, vL 10 0 (4))] [(4, 1, cNV r2.v), (6, 3, cNV r4.v), (10, 4, cNV r13.v)] ⟨rfl, rfl, rfl, rfl, rfl, rfl, trivial⟩ ⟨rfl, rfl, rfl, trivial⟩ rfl fun ρ0 ff => ?_
  have hA24 : OwnP s13 (pcNW r13 ++ (pcNW u12 ++ (pcNW (mkNode r4 1) ++ (pcNW (mkNode u3 1) ++ (pcNW u5 ++ (pcNW r2 ++ (pcNW u1 ++ []))))))) := (OwnP.joinF (OwnP.joinF hA19 hP12 hO12 hN12) hP13 hO13 hN13)
  have hQ24 : Pres st s13 := ((hQ19.trans hP12).trans hP13)
  have hE2 : r13.x = r2.x := by rw [hr13, hr2, show u12.v.x = _ from hu12, show u1.v.x = _ from hu1]
  refine ⟨_, op_ldo (v := (vNV r13.v)) rfl rfl rfl rfl, ?_⟩
  refine ⟨_, op_ldo (v := (vNV r2.v)) rfl rfl rfl rfl, ?_⟩
  refine ⟨_, rfl, (AC.tru (uc_eqNode r13 r2 s13 (OwnP.rdN (OwnP.left hA24)) (OwnP.rdN (OwnP.left (OwnP.right (OwnP.right (OwnP.right (OwnP.right (OwnP.right hA24))))))) (tick_big hr13 (bigNW (hu12 ▸ hb_g)))) hE2).mono ?_⟩
  rintro _ s13 ⟨rfl, rfl⟩
  refine ⟨_, rfl, ?_⟩
  refine AW.cutM (5) s13 [(2, vB false), (6, vL 6 0 (3)), (8, vI (1 + (cntNode r4.x : Int))), (9, vI (1 + (cntNode r4.x : Int))), (60, vB false)] [(6, 3, cNV r4.v)] ⟨rfl, rfl, rfl, rfl, rfl, trivial⟩ ⟨rfl, trivial⟩ rfl fun ρ0 ff => ?_
  refine cxs ?_
  refine AW.cutM (5) s13 [(2, vB false), (6, vL 6 0 (3)), (8, vI (1 + (cntNode r4.x : Int))), (9, vI (1))] [(6, 3, cNV r4.v)] ⟨rfl, rfl, rfl, rfl, trivial⟩ ⟨rfl, trivial⟩ rfl fun ρ0 ff => ?_
  refine ⟨_, op_ldo (v := (vNV r4.v)) rfl rfl rfl rfl, ?_⟩
  refine ⟨_, rfl, (uc_heldNode r4 1 s13 (OwnP.left (OwnP.right (OwnP.right hA24))) (tick_big hr4 (bigNW (hu3 ▸ hb_g))) (by decide) (by omega)).mono ?_⟩
  rintro _ s14 ⟨rfl, hP14⟩
  refine AW.cutM (5) s14 [(2, vB false), (8, vI (1 + (cntNode r4.x : Int))), (9, vI (1 + (cntNode r4.x : Int)))] [] ⟨rfl, rfl, rfl, trivial⟩ trivial rfl fun ρ0 ff => ?_
  have hA28 : OwnP s14 (pcNW r13 ++ (pcNW u12 ++ (pcNW (mkNode r4 1) ++ (pcNW (mkNode u3 1) ++ (pcNW u5 ++ (pcNW r2 ++ (pcNW u1 ++ []))))))) := (OwnP.pres hA24 hP14)
  have hQ28 : Pres st s14 := (hQ24.trans hP14)
  refine ⟨_, rfl, ?_⟩
  rintro (_|_) hg15
  rotate_left
  ·exact absurd (of_decide_eq_true hg15) ((by omega))
  refine AW.cutM (5) s14 [(2, vB false), (8, vI (1 + (cntNode r4.x : Int))), (9, vI (1 + (cntNode r4.x : Int))), (65, vB false)] [] ⟨rfl, rfl, rfl, rfl, trivial⟩ trivial rfl fun ρ0 ff => ?_
  refine cxs ?_
  refine ⟨_, rfl, ?_⟩
  rintro (_|_) hg16
  rotate_left
  ·exact absurd (rfl) (bne_iff_ne.1 hg16)
  refine AW.cutM (5) s14 [(2, vB false), (68, vB false)] [] ⟨rfl, rfl, trivial⟩ trivial rfl fun ρ0 ff => ?_
  refine cxs ?_
  refine cxs ?_
  exact ⟨.inl rfl, _, rfl, rfl⟩
 ·replace hn_g : z_g < 0 := of_decide_eq_true hn_g
  refine AW.cutM (1) st [(1, vL 1 0 (0)), (2, vB false), (15, vB true)] [(1, 0, cNV g)] ⟨rfl, rfl, rfl, trivial⟩ ⟨rfl, trivial⟩ rfl fun ρ0 ff => ?_
  refine cxs ?_
  exact ⟨.inl rfl, _, rfl, rfl⟩
end Go.Proofs.YtbogbnjnjjhnbaaGreat.AM
