/- Part 1 of the texts on which the law's proof rests. -/
import Derived.Test.YtbogbnjnjjhnbaaGreatXcf
import Derived.Lib.Bytealg
namespace Go.Proofs.YtbogbnjnjjhnbaaGreat.AM
open Go Go.Proofs
set_option linter.unusedVariables false
set_option linter.unusedSimpArgs false
set_option maxRecDepth 100000
set_option maxHeartbeats 4000000
theorem ac_spec_l9Copy (p : Option Addr) (t : List RV) (st : St) (hR : RdT st p t) (hs : szOk t.length) (hr : ∀ r ∈ t, szOk r.l.length) : C 142 [vS p t.length] st (fun v s => ∃ q u, v = vS q t.length ∧ u.map (·.l) = t.map (·.l) ∧ OwnP s (pcT q u) ∧ NewP st.next (pcT q u) ∧ Pres st s) := by
 have hs : t.length ≤ 1048576 := hs
 refine AC.enterX (i := ⟨[], [], [0, 2, 3, 4, 9]⟩) [] Tryz.func142 rfl rfl (by kernel_rfl) (by kernel_rfl) Tryz.ntmps142 (Nat.le_of_ble_eq_true rfl) rfl ?_
 refine AW.cut lo0 st [(0, vS p t.length), (2, .slice none 0 0)] ⟨rfl, rfl, trivial⟩ fun ρ0 => ?_
 refine op_nilK (z := 1) (f := cRV) rfl rfl rfl rfl Nat.one_pos rfl ?_
 intro q0 s0 hO0 hP0 hN0
 refine cxs ?_
 refine AW.cut lo0 s0 [(0, vS p t.length), (2, .slice none 0 0), (3, vS q0 0), (4, vI (0))] ⟨rfl, rfl, rfl, rfl, trivial⟩ fun ρ0 => ?_
 refine AW.loop0 (fun x : List RV × Option Addr => [(0, vS p t.length), (3, vS x.2 x.1.length), (4, vI (x.1.length : Int))]) (fun m (x : List RV × Option Addr) st' => m = t.length - x.1.length ∧ x.1.length ≤ t.length ∧ x.1.map (·.l) = (t.take x.1.length).map (·.l) ∧ OwnP st' (pcT x.2 x.1) ∧ NewP st.next (pcT x.2 x.1) ∧ Pres st st') ([], q0) _ ⟨rfl, rfl, rfl, trivial⟩ rfl ⟨rfl, Nat.zero_le _, rfl, OwnP.one (own_pc hO0), NewP.cons hN0 NewP.nil, hP0⟩ ?_
 rintro m x ρ0 st' ⟨rfl, hi, hl, hO, hN, hP⟩
 iterate 2 refine ⟨_, rfl, ?_⟩
 rintro (_|_) h1
 ·replace h1 : ¬ ((x.1.length : Int) < (t.length : Int)) := of_decide_eq_false h1
  refine AW.cut lo0 st' [(0, vS p t.length), (3, vS x.2 x.1.length), (4, vI (x.1.length : Int)), (9, vB false)] ⟨rfl, rfl, rfl, rfl, trivial⟩ fun ρ0 => ?_
  refine cxs ?_
  refine cxs ?_
  have hil : x.1.length = t.length := by omega
  exact ⟨.inl rfl, _, rfl, x.2, x.1, congrArg (vS x.2) hil, by rw [hl, hil, List.take_length], hO, hN, hP⟩
 ·replace h1 : (x.1.length : Int) < (t.length : Int) := of_decide_eq_true h1
  refine AW.cut lo0 st' [(0, vS p t.length), (3, vS x.2 x.1.length), (4, vI (x.1.length : Int)), (9, vB true)] ⟨rfl, rfl, rfl, rfl, trivial⟩ fun ρ0 => ?_
  have h1' := Int.ofNat_lt.1 h1
  have hRd := hR.pres hP
  have ⟨b1, o1, k1, r, hpe, hr1, hm1, hc1, hb1⟩ := hRd.1.atB h1'
  have hmem := List.mem_of_getElem? hr1
  have hrs : r.l.length ≤ 1048576 := hr r hmem
  obtain ⟨d1, d2, d3⟩ := split_at hr1
  refine cxs ?_
  refine op_nilK (z := 1) (f := fI) rfl rfl rfl rfl Nat.one_pos rfl ?_
  intro q1 s1 hO1 hP1 hN1
  have hm1' := (hP1.2 b1 hb1).trans hm1
  refine ⟨_, op_idx (j := (x.1.length : Int)) (n := t.length) (q := ⟨b1, o1, none⟩) rfl (congrArg (fun u => vS u t.length) hpe) rfl rfl rfl (Int.natCast_nonneg _) h1, ?_⟩
  refine ⟨_, op_ldc (i := 0) (v := vS r.p r.l.length) rfl rfl rfl rfl hm1' hc1 rfl rfl, ?_⟩
  refine op_app (z := 1) (st := s1) (f := fI) (b := 8) (l := []) (l2 := r.l) rfl rfl rfl rfl rfl rfl rfl Nat.one_pos fI_len rfl rfl rfl rfl (by omega) (by unfold maxLen; omega) hO1 (hP1.rows (hRd.2 r hmem)) ?_
  intro q2 s2 hO2 hPr2 hN2
  refine op_one (z := 1) (a := (⟨q2, r.l⟩ : RV)) (f := cRV) rfl (congrArg (vS q2) (Nat.zero_add _)) rfl rfl rfl Nat.one_pos rfl (Nat.le_of_ble_eq_true rfl) rfl rfl rfl ?_
  have hP2 : Pres st' s2 := hPr2.pres hP1 hN1
  have hN2 : New st'.next q2 := by
   rcases hN2 with ⟨h, _, _⟩ | ⟨_, h⟩
   ·rw [h]; exact hN1
   ·exact h.le hP1.1
  refine op_add (z := 1) (st := s2) (f := cRV) (b := 24) (l := x.1) rfl rfl rfl rfl rfl rfl rfl Nat.one_pos cRV_len rfl rfl rfl (by omega) (by unfold maxLen; omega) (hP2.ownR hO.outer) ?_
  intro q4 s4 hO4 hP4 hN4
  refine AW.cut lo0 s4 [(0, vS p t.length), (3, vS q4 (x.1.length + 1)), (4, vI (x.1.length : Int)), (9, vB true)] ⟨rfl, rfl, rfl, rfl, trivial⟩ fun ρ0 => ?_
  have hA := OwnP.renew (l := []) (m := x.1.map pcRV ++ [pcRV ⟨q2, r.l⟩]) (c := pcR 1 cRV x.2 x.1) (OwnP.join (l := pcT x.2 x.1) (m := [pcRV ⟨q2, r.l⟩]) hO hP2 (OwnP.one (own_pc hO2)) (NewP.cons hN2 NewP.nil)) hP4 (own_pc hO4) hN4
  have hA : OwnP s4 (pcT q4 (x.1 ++ [⟨q2, r.l⟩])) := by simpa [pcT] using hA
  have e11 : IntKind.wrap .i64 ((x.1.length : Int) + 1) = ((x.1.length + 1 : Nat) : Int) := (wrap_i64 (by omega) (by omega)).trans (by omega)
  refine ⟨_, rfl, ?_⟩
  refine ⟨(x.1 ++ [⟨q2, r.l⟩], q4), t.length - (x.1.length + 1), by omega, ⟨rfl, ?_, ?_, trivial⟩, rfl, ?_, ?_, ?_, hA, ?_, ?_⟩
  ·rw [List.length_append]; rfl
  ·rw [List.length_append]; exact congrArg (Value.int .i64) e11
  ·rw [List.length_append]; rfl
  ·rw [List.length_append]; exact h1'
  ·rw [List.map_append, hl, List.length_append, List.length_singleton, d2, List.map_append]; rfl
  ·refine NewP.cons (hN4.le (Nat.le_trans hP.1 hP2.1)) ?_
   rw [List.map_append]
   exact NewP.app (fun c hc => hN c (List.mem_cons_of_mem _ hc)) (NewP.cons (hN2.le hP.1) NewP.nil)
  ·exact hP4.pres (hP.trans hP2) (hN _ (List.mem_cons_self ..))
theorem ac_impl_copyTable (p : Option Addr) (t : List RV) (st : St) (hR : RdT st p t) (hs : szOk t.length) (hr : ∀ r ∈ t, szOk r.l.length) : C 145 [vS p t.length] st (fun v s => ∃ q u, v = vS q t.length ∧ u.map (·.l) = t.map (·.l) ∧ OwnP s (pcT q u) ∧ NewP st.next (pcT q u) ∧ Pres st s) := by
 have hs : t.length ≤ 1048576 := hs
 refine AC.enterX (i := ⟨[], [], [0, 2, 3, 5, 7, 8, 9, 10]⟩) [] Tryz.func145 rfl rfl (by kernel_rfl) (by kernel_rfl) Tryz.ntmps145 (Nat.le_of_ble_eq_true rfl) rfl ?_
 refine AW.cut lo0 st [(0, vS p t.length), (2, .slice none 0 0)] ⟨rfl, rfl, trivial⟩ fun ρ0 => ?_
 refine op_nilK (z := 1) (f := cRV) rfl rfl rfl rfl Nat.one_pos rfl ?_
 intro q0 s0 hO0 hP0 hN0
 refine AW.cut lo0 s0 [(0, vS p t.length), (2, .slice none 0 0), (3, vS q0 0)] ⟨rfl, rfl, rfl, trivial⟩ fun ρ0 => ?_
 refine ⟨_, rfl, ?_⟩
 refine AW.cut lo0 s0 [(0, vS p t.length), (2, .slice none 0 0), (3, vS q0 0), (7, vS p t.length), (8, vI (t.length)), (9, vI (0))] ⟨rfl, rfl, rfl, rfl, rfl, rfl, trivial⟩ fun ρ0 => ?_
 refine AW.loop0 (fun x : List RV × Option Addr => [(0, vS p t.length), (3, vS x.2 x.1.length), (7, vS p t.length), (8, vI (t.length : Int)), (9, vI (x.1.length : Int))]) (fun m (x : List RV × Option Addr) st' => m = t.length - x.1.length ∧ x.1.length ≤ t.length ∧ x.1.map (·.l) = (t.take x.1.length).map (·.l) ∧ OwnP st' (pcT x.2 x.1) ∧ NewP st.next (pcT x.2 x.1) ∧ Pres st st') ([], q0) _ ⟨rfl, rfl, rfl, rfl, rfl, trivial⟩ rfl ⟨rfl, Nat.zero_le _, rfl, OwnP.one (own_pc hO0), NewP.cons hN0 NewP.nil, hP0⟩ ?_
 rintro m x ρ0 st' ⟨rfl, hi, hl, hO, hN, hP⟩
 refine ⟨_, rfl, ?_⟩
 rintro (_|_) h1
 ·replace h1 : ¬ ((x.1.length : Int) < (t.length : Int)) := of_decide_eq_false h1
  refine AW.cut lo0 st' [(0, vS p t.length), (3, vS x.2 x.1.length), (7, vS p t.length), (8, vI (t.length : Int)), (9, vI (x.1.length : Int)), (10, vB false)] ⟨rfl, rfl, rfl, rfl, rfl, rfl, trivial⟩ fun ρ0 => ?_
  refine cxs ?_
  refine cxs ?_
  have hil : x.1.length = t.length := by omega
  exact ⟨.inl rfl, _, rfl, x.2, x.1, congrArg (vS x.2) hil, by rw [hl, hil, List.take_length], hO, hN, hP⟩
 ·replace h1 : (x.1.length : Int) < (t.length : Int) := of_decide_eq_true h1
  refine AW.cut lo0 st' [(0, vS p t.length), (3, vS x.2 x.1.length), (7, vS p t.length), (8, vI (t.length : Int)), (9, vI (x.1.length : Int)), (10, vB true)] ⟨rfl, rfl, rfl, rfl, rfl, rfl, trivial⟩ fun ρ0 => ?_
  have h1' := Int.ofNat_lt.1 h1
  have hRd := hR.pres hP
  have ⟨b1, o1, k1, r, hpe, hr1, hm1, hc1, hb1⟩ := hRd.1.atB h1'
  have hmem := List.mem_of_getElem? hr1
  have hrs : r.l.length ≤ 1048576 := hr r hmem
  obtain ⟨d1, d2, d3⟩ := split_at hr1
  refine cxs ?_
  refine ⟨_, op_idx (j := (x.1.length : Int)) (n := t.length) (q := ⟨b1, o1, none⟩) rfl (congrArg (fun u => vS u t.length) hpe) rfl rfl rfl (Int.natCast_nonneg _) h1, ?_⟩
  refine ⟨_, op_ldc (i := 0) (v := vS r.p r.l.length) rfl rfl rfl rfl hm1 hc1 rfl rfl, ?_⟩
  refine AW.cut lo0 st' [(0, vS p t.length), (3, vS x.2 x.1.length), (5, vS r.p r.l.length), (7, vS p t.length), (8, vI (t.length : Int)), (9, vI (x.1.length : Int)), (10, vB true)] ⟨rfl, rfl, rfl, rfl, rfl, rfl, rfl, trivial⟩ fun ρ0 => ?_
  refine ⟨_, rfl, (ac_impl_copyInts r.p r.l st' (hRd.2 r hmem).ints (by omega)).mono ?_⟩
  rintro _ s2 ⟨q2, rfl, hO2, hP2, hN2⟩
  have hO2 : OwnR s2 1 fI q2 r.l := Own.r.1 hO2
  refine op_one (z := 1) (a := (⟨q2, r.l⟩ : RV)) (f := cRV) rfl rfl rfl rfl rfl Nat.one_pos rfl (Nat.le_of_ble_eq_true rfl) rfl rfl rfl ?_
  refine op_add (z := 1) (st := s2) (f := cRV) (b := 24) (l := x.1) rfl rfl rfl rfl rfl rfl rfl Nat.one_pos cRV_len rfl rfl rfl (by omega) (by unfold maxLen; omega) (hP2.ownR hO.outer) ?_
  intro q4 s4 hO4 hP4 hN4
  refine AW.cut lo0 s4 [(0, vS p t.length), (3, vS q4 (x.1.length + 1)), (5, vS r.p r.l.length), (7, vS p t.length), (8, vI (t.length : Int)), (9, vI (x.1.length : Int)), (10, vB true)] ⟨rfl, rfl, rfl, rfl, rfl, rfl, rfl, trivial⟩ fun ρ0 => ?_
  have hA := OwnP.renew (l := []) (m := x.1.map pcRV ++ [pcRV ⟨q2, r.l⟩]) (c := pcR 1 cRV x.2 x.1) (OwnP.join (l := pcT x.2 x.1) (m := [pcRV ⟨q2, r.l⟩]) hO hP2 (OwnP.one (own_pc hO2)) (NewP.cons hN2 NewP.nil)) hP4 (own_pc hO4) hN4
  have hA : OwnP s4 (pcT q4 (x.1 ++ [⟨q2, r.l⟩])) := by simpa [pcT] using hA
  have e18 : IntKind.wrap .i64 ((x.1.length : Int) + 1) = ((x.1.length + 1 : Nat) : Int) := (wrap_i64 (by omega) (by omega)).trans (by omega)
  refine ⟨_, rfl, ?_⟩
  refine ⟨(x.1 ++ [⟨q2, r.l⟩], q4), t.length - (x.1.length + 1), by omega, ⟨rfl, ?_, rfl, rfl, ?_, trivial⟩, rfl, ?_, ?_, ?_, hA, ?_, ?_⟩
  ·rw [List.length_append]; rfl
  ·rw [List.length_append]; exact congrArg (Value.int .i64) e18
  ·rw [List.length_append]; rfl
  ·rw [List.length_append]; exact h1'
  ·rw [List.map_append, hl, List.length_append, List.length_singleton, d2, List.map_append]; rfl
  ·refine NewP.cons (hN4.le (Nat.le_trans hP.1 hP2.1)) ?_
   rw [List.map_append]
   exact NewP.app (fun c hc => hN c (List.mem_cons_of_mem _ hc)) (NewP.cons (hN2.le hP.1) NewP.nil)
  ·exact hP4.pres (hP.trans hP2) (hN _ (List.mem_cons_self ..))
def putT {α : Type} (t : List α) (K : Nat) (x : α) : List α := t.take K ++ x :: t.drop (K + 1)
theorem OwnP.put {st st' : St} {q : Option Addr} {u : List RV} {K : Nat} {a : Option Addr} {l l' : List Int} (h : OwnP st (pcT q (putT u K ⟨a, l⟩))) (hp : Pr a st st') (ho : OwnR st' 1 fI a l') (hl : l'.length = l.length) : OwnP st' (pcT q (putT u K ⟨a, l'⟩)) := by
 have h1 : pcT q (putT u K ⟨a, l⟩) = (pcR 1 cRV q (putT u K ⟨a, l⟩) :: (u.take K).map pcRV) ++ pcRV ⟨a, l⟩ :: (u.drop (K + 1)).map pcRV := by simp [pcT, putT]
 have h2 : pcT q (putT u K ⟨a, l'⟩) = (pcR 1 cRV q (putT u K ⟨a, l⟩) :: (u.take K).map pcRV) ++ pcRV ⟨a, l'⟩ :: (u.drop (K + 1)).map pcRV := by simp [pcT, putT, pcR, hl]
 rw [h1] at h
 rw [h2]
 exact OwnP.update h hp (own_pc ho) rfl
theorem Frs.lw {a b : St} {u : LV} (h : Frs a b (pcL u.p u.l)) : ∃ w : LW, w.v = u ∧ Frs a b (pcLog w) := by
 obtain ⟨w, hw, hO, hC⟩ := h.1.lw
 refine ⟨w, hw, hO, ?_, h.2.2⟩
 subst hw
 show NewP a.next (w.C :: w.l.flatMap pcS)
 rw [hC]; exact h.2.1
theorem Frs.one {α : Type} {a b : St} {z : Nat} {f : α → List Value} {p : Option Addr} {l : List α} (hO : OwnR b z f p l) (hN : New a.next p) (hP : Pres a b) : Frs a b [pcR z f p l] := ⟨OwnP.one (own_pc hO), NewP.cons hN NewP.nil, hP⟩
theorem Frs.nil (a : St) : Frs a a [] := ⟨OwnP.nil, NewP.nil, Pres.refl _⟩
theorem nd_mk {id n num slots wait limit clock : Int} {s s' : Sta} {t t' : Tr} {g g' : Lg} {got acked : List Int} {seen seen' : List (List Int)} {sess : List Ses} {rises : List Ris} (h1 : s = s') (h2 : t = t') (h3 : g = g') (h4 : seen = seen') : (⟨id, n, s, t, g, got, acked, seen, num, slots, sess, wait, limit, clock, rises⟩ : Nd) = ⟨id, n, s', t', g', got, acked, seen', num, slots, sess, wait, limit, clock, rises⟩ := by rw [h1, h2, h3, h4]
theorem tv_xx {u t : TV} (h1 : u.l = t.l) (h2 : u.root = t.root) : u.x = t.x := by show (⟨u.l, u.root⟩ : Tr) = ⟨t.l, t.root⟩; rw [h1, h2]
theorem tc_impl_copyTable (g : TT) (st : St) (hR : RdT st g.p g.t) (hb : bigT g.x) : C 145 [vS g.p g.t.length] st (fun v s => ∃ u : TT, v = vS u.p u.t.length ∧ u.x = g.x ∧ OwnP s (pcTT u) ∧ NewP st.next (pcTT u) ∧ Pres st s) :=
 (ac_impl_copyTable g.p g.t st hR (bigT_iff.1 hb).1 (bigT_iff.1 hb).2).mono fun v s ⟨q, u, h1, h2, h3, h4, h5⟩ => ⟨⟨q, u⟩, h1.trans (congrArg (vS q) (by have := congrArg List.length h2; simpa using this.symm)), h2, h3, h4, h5⟩
theorem tc_spec_l9Copy (g : TT) (st : St) (hR : RdT st g.p g.t) (hb : bigT g.x) : C 142 [vS g.p g.t.length] st (fun v s => ∃ u : TT, v = vS u.p u.t.length ∧ u.x = g.x ∧ OwnP s (pcTT u) ∧ NewP st.next (pcTT u) ∧ Pres st s) :=
 (ac_spec_l9Copy g.p g.t st hR (bigT_iff.1 hb).1 (bigT_iff.1 hb).2).mono fun v s ⟨q, u, h1, h2, h3, h4, h5⟩ => ⟨⟨q, u⟩, h1.trans (congrArg (vS q) (by have := congrArg List.length h2; simpa using this.symm)), h2, h3, h4, h5⟩
theorem ac_impl_copyNode (g : NV) (st : St) (hR : RdN st g) (hb : bigN g.x) : C 78 [.agg #[vI g.id, vI g.n, vS g.s.p g.s.x.items.length, vS g.s.q g.s.x.floors.length, vS g.t.p g.t.l.length, vI g.t.root, vI g.g.cap, vI g.g.frm, vS g.g.p g.g.l.length, vS g.got.p g.got.l.length, vS g.acked.p g.acked.l.length, vS g.seen.p g.seen.t.length, vI g.num, vI g.slots, vS g.sess.p g.sess.l.length, vI g.wait, vI g.limit, vI g.clock, vS g.rises.p g.rises.l.length]] st (fun v s => ∃ u : NW, v = .agg #[vI u.id, vI u.n, vS u.s.p u.s.x.items.length, vS u.s.q u.s.x.floors.length, vS u.t.p u.t.l.length, vI u.t.root, vI u.g.cap, vI u.g.frm, vS u.g.p u.g.l.length, vS u.got.p u.got.l.length, vS u.acked.p u.acked.l.length, vS u.seen.p u.seen.t.length, vI u.num, vI u.slots, vS u.sess.p u.sess.l.length, vI u.wait, vI u.limit, vI u.clock, vS u.rises.p u.rises.l.length] ∧ u.x = g.x ∧ OwnP s (pcNW u) ∧ NewP st.next (pcNW u) ∧ Pres st s) := by
 have hs1 : g.sess.l.length ≤ 1048576 := hb.sess
 have hs2 : g.rises.l.length ≤ 1048576 := hb.rises
 refine AC.enterX (i := ⟨[1, 2], [1, 2, 3, 6, 9, 12, 13, 14, 15, 18, 21, 24, 25, 26, 28, 31, 33, 36], [0, 1, 2]⟩) [(1, [2, 5], [4, 7]), (2, [2, 5], [4, 7])] Tryz.func78 rfl rfl (by kernel_rfl) (by kernel_rfl) Tryz.ntmps78 (Nat.le_of_ble_eq_true rfl) rfl ?_
 iterate 2 refine ⟨_, rfl, ?_⟩
 refine AW.cutM (2) st [(1, vL 1 0 (0)), (2, vL 2 0 (1))] [(1, 0, cNV g), (2, 1, [vI 0, vI 0, .slice none 0 0, .slice none 0 0, .slice none 0 0, vI 0, vI 0, vI 0, .slice none 0 0, .slice none 0 0, .slice none 0 0, .slice none 0 0, vI 0, vI 0, .slice none 0 0, vI 0, vI 0, vI 0, .slice none 0 0])] ⟨rfl, rfl, trivial⟩ ⟨rfl, rfl, trivial⟩ rfl fun ρ0 ff => ?_
 refine ⟨_, rfl, ?_⟩
 refine ⟨_, op_ldo rfl rfl rfl rfl, ?_⟩
 refine ⟨_, rfl, (ac_impl_copyState g.s st hR.s (hb.s)).mono ?_⟩
 rintro _ s5 ⟨u5, rfl, h5, hO5, hN5, hP5⟩
 refine ⟨hP5.2, ?_⟩
 refine ⟨_, rfl, ?_⟩
 refine ⟨_, op_ldo rfl rfl rfl rfl, ?_⟩
 refine ⟨ld_own rfl rfl rfl, ?_⟩
 refine ⟨_, rfl, (ac_impl_copyTree g.t s5 (hP5.rows hR.t) (hb.t)).mono ?_⟩
 rintro _ s8 ⟨u8, rfl, h8, h8', hO8, hN8, hP8⟩
 refine ⟨hP8.low hP5, ?_⟩
 refine ⟨_, rfl, ?_⟩
 refine ⟨_, op_ldo rfl rfl rfl rfl, ?_⟩
 refine ⟨ld_own rfl rfl rfl, ?_⟩
 refine ⟨_, rfl, (ac_impl_copyLog g.g s8 (hR.g.pres (hP5.trans hP8)) (bigLog_iff.1 hb.g)).mono ?_⟩
 rintro _ s11 ⟨u11, rfl, h11, hO11, hN11, hP11⟩
 refine ⟨_, rfl, ?_⟩
 refine ⟨_, op_sto rfl rfl rfl rfl rfl rfl rfl, ?_⟩
 refine ⟨_, rfl, ?_⟩
 refine ⟨_, op_sto rfl rfl rfl rfl rfl rfl rfl, ?_⟩
 refine ⟨_, rfl, ?_⟩
 refine ⟨_, op_sto rfl rfl rfl rfl rfl rfl rfl, ?_⟩
 refine AW.cutM (2) s11 [(1, vL 1 0 (0)), (2, vL 2 0 (1))] [(1, 0, [vI g.id, vI g.n, vS u5.p u5.x.items.length, vS u5.q u5.x.floors.length, vS u8.p u8.l.length, vI u8.root, vI u11.cap, vI u11.frm, vS u11.p u11.l.length, vS g.got.p g.got.l.length, vS g.acked.p g.acked.l.length, vS g.seen.p g.seen.t.length, vI g.num, vI g.slots, vS g.sess.p g.sess.l.length, vI g.wait, vI g.limit, vI g.clock, vS g.rises.p g.rises.l.length]), (2, 1, [vI 0, vI 0, .slice none 0 0, .slice none 0 0, .slice none 0 0, vI 0, vI 0, vI 0, .slice none 0 0, .slice none 0 0, .slice none 0 0, .slice none 0 0, vI 0, vI 0, .slice none 0 0, vI 0, vI 0, vI 0, .slice none 0 0])] ⟨rfl, rfl, trivial⟩ ⟨rfl, rfl, trivial⟩ rfl fun ρ0 ff => ?_
 have hQ1 : Pres st s11 := (hP5.trans hP8).trans hP11
 refine ⟨_, rfl, ?_⟩
 refine ⟨_, op_ldo rfl rfl rfl rfl, ?_⟩
 refine ⟨_, rfl, (ac_copyInts g.got.p g.got.l s11 (hQ1.rows hR.got) hb.got).mono ?_⟩
 rintro _ s17 ⟨q17, rfl, hO17, hN17, hP17⟩
 refine ⟨hP17.2, ?_⟩
 refine ⟨_, rfl, ?_⟩
 refine ⟨_, op_ldo rfl rfl rfl rfl, ?_⟩
 refine ⟨ld_own rfl rfl rfl, ?_⟩
 refine ⟨_, rfl, (ac_copyInts g.acked.p g.acked.l s17 ((hQ1.trans hP17).rows hR.acked) hb.acked).mono ?_⟩
 rintro _ s20 ⟨q20, rfl, hO20, hN20, hP20⟩
 refine ⟨hP20.low hP17, ?_⟩
 refine ⟨_, rfl, ?_⟩
 refine ⟨_, op_ldo rfl rfl rfl rfl, ?_⟩
 refine ⟨ld_own rfl rfl rfl, ?_⟩
 refine ⟨_, rfl, (tc_impl_copyTable g.seen s20 (hR.seen.pres ((hQ1.trans hP17).trans hP20)) hb.seen).mono ?_⟩
 rintro _ s23 ⟨u23, rfl, h23, hO23, hN23, hP23⟩
 refine ⟨_, rfl, ?_⟩
 refine ⟨_, op_sto rfl rfl rfl rfl rfl rfl rfl, ?_⟩
 refine ⟨_, rfl, ?_⟩
 refine ⟨_, op_sto rfl rfl rfl rfl rfl rfl rfl, ?_⟩
 refine ⟨_, rfl, ?_⟩
 refine ⟨_, op_sto rfl rfl rfl rfl rfl rfl rfl, ?_⟩
 refine AW.cutM (2) s23 [(1, vL 1 0 (0)), (2, vL 2 0 (1))] [(1, 0, [vI g.id, vI g.n, vS u5.p u5.x.items.length, vS u5.q u5.x.floors.length, vS u8.p u8.l.length, vI u8.root, vI u11.cap, vI u11.frm, vS u11.p u11.l.length, vS q17 g.got.l.length, vS q20 g.acked.l.length, vS u23.p u23.t.length, vI g.num, vI g.slots, vS g.sess.p g.sess.l.length, vI g.wait, vI g.limit, vI g.clock, vS g.rises.p g.rises.l.length]), (2, 1, [vI 0, vI 0, .slice none 0 0, .slice none 0 0, .slice none 0 0, vI 0, vI 0, vI 0, .slice none 0 0, .slice none 0 0, .slice none 0 0, .slice none 0 0, vI 0, vI 0, .slice none 0 0, vI 0, vI 0, vI 0, .slice none 0 0])] ⟨rfl, rfl, trivial⟩ ⟨rfl, rfl, trivial⟩ rfl fun ρ0 ff => ?_
 have hQ2 : Pres st s23 := ((hQ1.trans hP17).trans hP20).trans hP23
 have hRs := hQ2.rows hR.sess
 have hRr := hQ2.rows hR.rises
 refine op_nilK (z := 4) (f := cSess) rfl rfl rfl rfl (by decide) rfl ?_
 intro q27 s27 hO27 hP27 hN27
 refine ⟨_, rfl, ?_⟩
 refine ⟨_, op_ldo rfl rfl rfl rfl, ?_⟩
 refine op_cat' (z := 4) (st := s27) (f := cSess) (b := 32) (l := []) (l2 := g.sess.l) rfl rfl rfl rfl rfl rfl rfl (by decide) len_cSess rfl rfl rfl rfl (by first | omega | (simp only [List.length_nil]; omega)) (by unfold maxLen; first | omega | (simp only [List.length_nil]; omega)) hO27 (hP27.rows hRs) ?_
 intro q30 s30 hO30 hPr30 hN30
 refine ⟨_, rfl, ?_⟩
 refine ⟨_, op_sto rfl rfl rfl rfl rfl rfl rfl, ?_⟩
 refine AW.cutM (2) s30 [(1, vL 1 0 (0)), (2, vL 2 0 (1))] [(1, 0, [vI g.id, vI g.n, vS u5.p u5.x.items.length, vS u5.q u5.x.floors.length, vS u8.p u8.l.length, vI u8.root, vI u11.cap, vI u11.frm, vS u11.p u11.l.length, vS q17 g.got.l.length, vS q20 g.acked.l.length, vS u23.p u23.t.length, vI g.num, vI g.slots, vS q30 g.sess.l.length, vI g.wait, vI g.limit, vI g.clock, vS g.rises.p g.rises.l.length]), (2, 1, [vI 0, vI 0, .slice none 0 0, .slice none 0 0, .slice none 0 0, vI 0, vI 0, vI 0, .slice none 0 0, .slice none 0 0, .slice none 0 0, .slice none 0 0, vI 0, vI 0, .slice none 0 0, vI 0, vI 0, vI 0, .slice none 0 0])] ⟨rfl, rfl, trivial⟩ ⟨rfl, rfl, trivial⟩ rfl fun ρ0 ff => ?_
 have hP30 : Pres s23 s30 := hPr30.pres hP27 hN27
 refine op_nilK (z := 3) (f := cRise) rfl rfl rfl rfl (by decide) rfl ?_
 intro q32 s32 hO32 hP32 hN32
 refine ⟨_, rfl, ?_⟩
 refine ⟨_, op_ldo rfl rfl rfl rfl, ?_⟩
 refine op_cat' (z := 3) (st := s32) (f := cRise) (b := 24) (l := []) (l2 := g.rises.l) rfl rfl rfl rfl rfl rfl rfl (by decide) len_cRise rfl rfl rfl rfl (by first | omega | (simp only [List.length_nil]; omega)) (by unfold maxLen; first | omega | (simp only [List.length_nil]; omega)) hO32 (hP32.rows (hP30.rows hRr)) ?_
 intro q35 s35 hO35 hPr35 hN35
 refine ⟨_, rfl, ?_⟩
 refine ⟨_, op_sto rfl rfl rfl rfl rfl rfl rfl, ?_⟩
 refine AW.cutM (2) s35 [(1, vL 1 0 (0)), (2, vL 2 0 (1))] [(1, 0, [vI g.id, vI g.n, vS u5.p u5.x.items.length, vS u5.q u5.x.floors.length, vS u8.p u8.l.length, vI u8.root, vI u11.cap, vI u11.frm, vS u11.p u11.l.length, vS q17 g.got.l.length, vS q20 g.acked.l.length, vS u23.p u23.t.length, vI g.num, vI g.slots, vS q30 g.sess.l.length, vI g.wait, vI g.limit, vI g.clock, vS q35 g.rises.l.length]), (2, 1, [vI 0, vI 0, .slice none 0 0, .slice none 0 0, .slice none 0 0, vI 0, vI 0, vI 0, .slice none 0 0, .slice none 0 0, .slice none 0 0, .slice none 0 0, vI 0, vI 0, .slice none 0 0, vI 0, vI 0, vI 0, .slice none 0 0])] ⟨rfl, rfl, trivial⟩ ⟨rfl, rfl, trivial⟩ rfl fun ρ0 ff => ?_
 refine ⟨_, op_ldo (v := .agg #[vI g.id, vI g.n, vS u5.p u5.x.items.length, vS u5.q u5.x.floors.length, vS u8.p u8.l.length, vI u8.root, vI u11.cap, vI u11.frm, vS u11.p u11.l.length, vS q17 g.got.l.length, vS q20 g.acked.l.length, vS u23.p u23.t.length, vI g.num, vI g.slots, vS q30 g.sess.l.length, vI g.wait, vI g.limit, vI g.clock, vS q35 g.rises.l.length]) rfl rfl rfl rfl, ?_⟩
 refine ⟨_, op_stw (vs := [vI g.id, vI g.n, vS u5.p u5.x.items.length, vS u5.q u5.x.floors.length, vS u8.p u8.l.length, vI u8.root, vI u11.cap, vI u11.frm, vS u11.p u11.l.length, vS q17 g.got.l.length, vS q20 g.acked.l.length, vS u23.p u23.t.length, vI g.num, vI g.slots, vS q30 g.sess.l.length, vI g.wait, vI g.limit, vI g.clock, vS q35 g.rises.l.length]) rfl rfl rfl rfl rfl rfl rfl rfl, ?_⟩
 refine cxs ?_
 obtain ⟨w, rfl, hF11⟩ := Frs.lw ⟨hO11, hN11, hP11⟩
 have hF30 : Frs s23 s30 (pcSes ⟨q30, g.sess.l⟩) := Frs.one hO30 (cat_new hP27 hN27 hN30) hP30
 have hF35 : Frs s30 s35 (pcRis ⟨q35, g.rises.l⟩) := Frs.one hO35 (cat_new hP32 hN32 hN35) (hPr35.pres hP32 hN32)
 have hF : Frs st s35 (pcNW ⟨g.id, g.n, u5, u8, w, ⟨q17, g.got.l⟩, ⟨q20, g.acked.l⟩, u23, g.num, g.slots, ⟨q30, g.sess.l⟩, g.wait, g.limit, g.clock, ⟨q35, g.rises.l⟩⟩) := Frs.join ⟨hO5, hN5, hP5⟩ ((Frs.one hO8 hN8 hP8).join (hF11.join ((Frs.one hO17 hN17 hP17).join ((Frs.one hO20 hN20 hP20).join (Frs.join ⟨hO23, hN23, hP23⟩ (hF30.join hF35))))))
 exact ⟨.inl rfl, _, rfl, _, rfl, nd_mk h5 (tv_xx h8 h8') h11 h23, hF.1, hF.2.1, hF.2.2⟩
theorem ac_spec_l11Copy (g : NV) (st : St) (hR : RdN st g) (hb : bigN g.x) : C 77 [.agg #[vI g.id, vI g.n, vS g.s.p g.s.x.items.length, vS g.s.q g.s.x.floors.length, vS g.t.p g.t.l.length, vI g.t.root, vI g.g.cap, vI g.g.frm, vS g.g.p g.g.l.length, vS g.got.p g.got.l.length, vS g.acked.p g.acked.l.length, vS g.seen.p g.seen.t.length, vI g.num, vI g.slots, vS g.sess.p g.sess.l.length, vI g.wait, vI g.limit, vI g.clock, vS g.rises.p g.rises.l.length]] st (fun v s => ∃ u : NW, v = .agg #[vI u.id, vI u.n, vS u.s.p u.s.x.items.length, vS u.s.q u.s.x.floors.length, vS u.t.p u.t.l.length, vI u.t.root, vI u.g.cap, vI u.g.frm, vS u.g.p u.g.l.length, vS u.got.p u.got.l.length, vS u.acked.p u.acked.l.length, vS u.seen.p u.seen.t.length, vI u.num, vI u.slots, vS u.sess.p u.sess.l.length, vI u.wait, vI u.limit, vI u.clock, vS u.rises.p u.rises.l.length] ∧ u.x = g.x ∧ OwnP s (pcNW u) ∧ NewP st.next (pcNW u) ∧ Pres st s) := by
 have hs1 : g.sess.l.length ≤ 1048576 := hb.sess
 have hs2 : g.rises.l.length ≤ 1048576 := hb.rises
 have hs3 : g.got.l.length ≤ 1048576 := hb.got
 have hs4 : g.acked.l.length ≤ 1048576 := hb.acked
 refine AC.enterX (i := ⟨[1, 2, 3], [1, 2, 3, 5, 8, 9, 12, 13, 16, 18, 21, 23, 26, 27, 30, 32, 35, 37, 40], [0, 1, 2, 3]⟩) [] Tryz.func77 rfl rfl (by kernel_rfl) (by kernel_rfl) Tryz.ntmps77 (Nat.le_of_ble_eq_true rfl) rfl ?_
 iterate 2 refine ⟨_, rfl, ?_⟩
 refine AW.cutM (2) st [(1, vL 1 0 (0)), (2, vL 2 0 (1))] [(1, 0, cNV g), (2, 1, [vI 0, vI 0, .slice none 0 0, .slice none 0 0, .slice none 0 0, vI 0, vI 0, vI 0, .slice none 0 0, .slice none 0 0, .slice none 0 0, .slice none 0 0, vI 0, vI 0, .slice none 0 0, vI 0, vI 0, vI 0, .slice none 0 0])] ⟨rfl, rfl, trivial⟩ ⟨rfl, rfl, trivial⟩ rfl fun ρ0 ff => ?_
 refine ⟨_, op_ldo (v := (vNV g)) rfl rfl rfl rfl, ?_⟩
 refine ⟨_, rfl, ?_⟩
 refine ⟨_, op_stw (vs := cNV g) rfl rfl rfl rfl rfl rfl rfl rfl, ?_⟩
 refine AW.cutM (3) st [(1, vL 1 0 (0)), (2, vL 2 0 (1)), (3, vL 3 0 (2))] [(1, 0, cNV g), (2, 1, [vI 0, vI 0, .slice none 0 0, .slice none 0 0, .slice none 0 0, vI 0, vI 0, vI 0, .slice none 0 0, .slice none 0 0, .slice none 0 0, .slice none 0 0, vI 0, vI 0, .slice none 0 0, vI 0, vI 0, vI 0, .slice none 0 0]), (3, 2, cNV g)] ⟨rfl, rfl, rfl, trivial⟩ ⟨rfl, rfl, rfl, trivial⟩ rfl fun ρ0 ff => ?_
 refine ⟨_, rfl, ?_⟩
 refine ⟨_, op_ldo rfl rfl rfl rfl, ?_⟩
 refine ⟨_, rfl, (ac_spec_l3Copy g.s st hR.s (hb.s)).mono ?_⟩
 rintro _ s7 ⟨u7, rfl, h7, hO7, hN7, hP7⟩
 refine ⟨_, rfl, ?_⟩
 refine ⟨_, op_sto rfl rfl rfl rfl rfl rfl rfl, ?_⟩
 refine AW.cutM (3) s7 [(1, vL 1 0 (0)), (2, vL 2 0 (1)), (3, vL 3 0 (2))] [(1, 0, cNV g), (2, 1, [vI 0, vI 0, .slice none 0 0, .slice none 0 0, .slice none 0 0, vI 0, vI 0, vI 0, .slice none 0 0, .slice none 0 0, .slice none 0 0, .slice none 0 0, vI 0, vI 0, .slice none 0 0, vI 0, vI 0, vI 0, .slice none 0 0]), (3, 2, [vI g.id, vI g.n, vS u7.p u7.x.items.length, vS u7.q u7.x.floors.length, vS g.t.p g.t.l.length, vI g.t.root, vI g.g.cap, vI g.g.frm, vS g.g.p g.g.l.length, vS g.got.p g.got.l.length, vS g.acked.p g.acked.l.length, vS g.seen.p g.seen.t.length, vI g.num, vI g.slots, vS g.sess.p g.sess.l.length, vI g.wait, vI g.limit, vI g.clock, vS g.rises.p g.rises.l.length])] ⟨rfl, rfl, rfl, trivial⟩ ⟨rfl, rfl, rfl, trivial⟩ rfl fun ρ0 ff => ?_
 refine ⟨_, rfl, ?_⟩
 refine ⟨_, op_ldo rfl rfl rfl rfl, ?_⟩
 refine ⟨_, rfl, (ac_spec_l6Copy g.t s7 (hP7.rows hR.t) (hb.t)).mono ?_⟩
 rintro _ s11 ⟨u11, rfl, h11, h11', hO11, hN11, hP11⟩
 refine ⟨_, rfl, ?_⟩
 refine ⟨_, op_sto rfl rfl rfl rfl rfl rfl rfl, ?_⟩
 refine AW.cutM (3) s11 [(1, vL 1 0 (0)), (2, vL 2 0 (1)), (3, vL 3 0 (2))] [(1, 0, cNV g), (2, 1, [vI 0, vI 0, .slice none 0 0, .slice none 0 0, .slice none 0 0, vI 0, vI 0, vI 0, .slice none 0 0, .slice none 0 0, .slice none 0 0, .slice none 0 0, vI 0, vI 0, .slice none 0 0, vI 0, vI 0, vI 0, .slice none 0 0]), (3, 2, [vI g.id, vI g.n, vS u7.p u7.x.items.length, vS u7.q u7.x.floors.length, vS u11.p u11.l.length, vI u11.root, vI g.g.cap, vI g.g.frm, vS g.g.p g.g.l.length, vS g.got.p g.got.l.length, vS g.acked.p g.acked.l.length, vS g.seen.p g.seen.t.length, vI g.num, vI g.slots, vS g.sess.p g.sess.l.length, vI g.wait, vI g.limit, vI g.clock, vS g.rises.p g.rises.l.length])] ⟨rfl, rfl, rfl, trivial⟩ ⟨rfl, rfl, rfl, trivial⟩ rfl fun ρ0 ff => ?_
 refine ⟨_, rfl, ?_⟩
 refine ⟨_, op_ldo rfl rfl rfl rfl, ?_⟩
 refine ⟨_, rfl, (ac_spec_l7Copy g.g s11 (hR.g.pres (hP7.trans hP11)) (bigLog_iff.1 hb.g)).mono ?_⟩
 rintro _ s15 ⟨u15, rfl, h15, hO15, hN15, hP15⟩
 refine ⟨_, rfl, ?_⟩
 refine ⟨_, op_sto rfl rfl rfl rfl rfl rfl rfl, ?_⟩
 refine AW.cutM (3) s15 [(1, vL 1 0 (0)), (2, vL 2 0 (1)), (3, vL 3 0 (2))] [(1, 0, cNV g), (2, 1, [vI 0, vI 0, .slice none 0 0, .slice none 0 0, .slice none 0 0, vI 0, vI 0, vI 0, .slice none 0 0, .slice none 0 0, .slice none 0 0, .slice none 0 0, vI 0, vI 0, .slice none 0 0, vI 0, vI 0, vI 0, .slice none 0 0]), (3, 2, [vI g.id, vI g.n, vS u7.p u7.x.items.length, vS u7.q u7.x.floors.length, vS u11.p u11.l.length, vI u11.root, vI u15.cap, vI u15.frm, vS u15.p u15.l.length, vS g.got.p g.got.l.length, vS g.acked.p g.acked.l.length, vS g.seen.p g.seen.t.length, vI g.num, vI g.slots, vS g.sess.p g.sess.l.length, vI g.wait, vI g.limit, vI g.clock, vS g.rises.p g.rises.l.length])] ⟨rfl, rfl, rfl, trivial⟩ ⟨rfl, rfl, rfl, trivial⟩ rfl fun ρ0 ff => ?_
 have hQ1 : Pres st s15 := (hP7.trans hP11).trans hP15
 have hRg := hQ1.rows hR.got
 refine op_nilK (z := 1) (f := fI) rfl rfl rfl rfl (by decide) rfl ?_
 intro q17 s17 hO17 hP17 hN17
 refine ⟨_, rfl, ?_⟩
 refine ⟨_, op_ldo rfl rfl rfl rfl, ?_⟩
 refine op_cat' (z := 1) (st := s17) (f := fI) (b := 8) (l := []) (l2 := g.got.l) rfl rfl rfl rfl rfl rfl rfl (by decide) fI_len rfl rfl rfl rfl (by first | omega | (simp only [List.length_nil]; omega)) (by unfold maxLen; first | omega | (simp only [List.length_nil]; omega)) hO17 (hP17.rows hRg) ?_
 intro q20 s20 hO20 hPr20 hN20
 refine ⟨_, rfl, ?_⟩
 refine ⟨_, op_sto rfl rfl rfl rfl rfl rfl rfl, ?_⟩
 refine AW.cutM (3) s20 [(1, vL 1 0 (0)), (2, vL 2 0 (1)), (3, vL 3 0 (2))] [(1, 0, cNV g), (2, 1, [vI 0, vI 0, .slice none 0 0, .slice none 0 0, .slice none 0 0, vI 0, vI 0, vI 0, .slice none 0 0, .slice none 0 0, .slice none 0 0, .slice none 0 0, vI 0, vI 0, .slice none 0 0, vI 0, vI 0, vI 0, .slice none 0 0]), (3, 2, [vI g.id, vI g.n, vS u7.p u7.x.items.length, vS u7.q u7.x.floors.length, vS u11.p u11.l.length, vI u11.root, vI u15.cap, vI u15.frm, vS u15.p u15.l.length, vS q20 g.got.l.length, vS g.acked.p g.acked.l.length, vS g.seen.p g.seen.t.length, vI g.num, vI g.slots, vS g.sess.p g.sess.l.length, vI g.wait, vI g.limit, vI g.clock, vS g.rises.p g.rises.l.length])] ⟨rfl, rfl, rfl, trivial⟩ ⟨rfl, rfl, rfl, trivial⟩ rfl fun ρ0 ff => ?_
 have hP20 : Pres s15 s20 := hPr20.pres hP17 hN17
 have hQ2 := hQ1.trans hP20
 have hRa := hQ2.rows hR.acked
 refine op_nilK (z := 1) (f := fI) rfl rfl rfl rfl (by decide) rfl ?_
 intro q22 s22 hO22 hP22 hN22
 refine ⟨_, rfl, ?_⟩
 refine ⟨_, op_ldo rfl rfl rfl rfl, ?_⟩
 refine op_cat' (z := 1) (st := s22) (f := fI) (b := 8) (l := []) (l2 := g.acked.l) rfl rfl rfl rfl rfl rfl rfl (by decide) fI_len rfl rfl rfl rfl (by first | omega | (simp only [List.length_nil]; omega)) (by unfold maxLen; first | omega | (simp only [List.length_nil]; omega)) hO22 (hP22.rows hRa) ?_
 intro q25 s25 hO25 hPr25 hN25
 refine ⟨_, rfl, ?_⟩
 refine ⟨_, op_sto rfl rfl rfl rfl rfl rfl rfl, ?_⟩
 refine AW.cutM (3) s25 [(1, vL 1 0 (0)), (2, vL 2 0 (1)), (3, vL 3 0 (2))] [(1, 0, cNV g), (2, 1, [vI 0, vI 0, .slice none 0 0, .slice none 0 0, .slice none 0 0, vI 0, vI 0, vI 0, .slice none 0 0, .slice none 0 0, .slice none 0 0, .slice none 0 0, vI 0, vI 0, .slice none 0 0, vI 0, vI 0, vI 0, .slice none 0 0]), (3, 2, [vI g.id, vI g.n, vS u7.p u7.x.items.length, vS u7.q u7.x.floors.length, vS u11.p u11.l.length, vI u11.root, vI u15.cap, vI u15.frm, vS u15.p u15.l.length, vS q20 g.got.l.length, vS q25 g.acked.l.length, vS g.seen.p g.seen.t.length, vI g.num, vI g.slots, vS g.sess.p g.sess.l.length, vI g.wait, vI g.limit, vI g.clock, vS g.rises.p g.rises.l.length])] ⟨rfl, rfl, rfl, trivial⟩ ⟨rfl, rfl, rfl, trivial⟩ rfl fun ρ0 ff => ?_
 have hP25 : Pres s20 s25 := hPr25.pres hP22 hN22
 have hQ3 := hQ2.trans hP25
 refine ⟨_, rfl, ?_⟩
 refine ⟨_, op_ldo rfl rfl rfl rfl, ?_⟩
 refine ⟨_, rfl, (tc_spec_l9Copy g.seen s25 (hR.seen.pres hQ3) hb.seen).mono ?_⟩
 rintro _ s29 ⟨u29, rfl, h29, hO29, hN29, hP29⟩
 refine ⟨_, rfl, ?_⟩
 refine ⟨_, op_sto rfl rfl rfl rfl rfl rfl rfl, ?_⟩
 refine AW.cutM (3) s29 [(1, vL 1 0 (0)), (2, vL 2 0 (1)), (3, vL 3 0 (2))] [(1, 0, cNV g), (2, 1, [vI 0, vI 0, .slice none 0 0, .slice none 0 0, .slice none 0 0, vI 0, vI 0, vI 0, .slice none 0 0, .slice none 0 0, .slice none 0 0, .slice none 0 0, vI 0, vI 0, .slice none 0 0, vI 0, vI 0, vI 0, .slice none 0 0]), (3, 2, [vI g.id, vI g.n, vS u7.p u7.x.items.length, vS u7.q u7.x.floors.length, vS u11.p u11.l.length, vI u11.root, vI u15.cap, vI u15.frm, vS u15.p u15.l.length, vS q20 g.got.l.length, vS q25 g.acked.l.length, vS u29.p u29.t.length, vI g.num, vI g.slots, vS g.sess.p g.sess.l.length, vI g.wait, vI g.limit, vI g.clock, vS g.rises.p g.rises.l.length])] ⟨rfl, rfl, rfl, trivial⟩ ⟨rfl, rfl, rfl, trivial⟩ rfl fun ρ0 ff => ?_
 have hQ4 : Pres st s29 := hQ3.trans hP29
 have hRs := hQ4.rows hR.sess
 have hRr := hQ4.rows hR.rises
 refine op_nilK (z := 4) (f := cSess) rfl rfl rfl rfl (by decide) rfl ?_
 intro q31 s31 hO31 hP31 hN31
 refine ⟨_, rfl, ?_⟩
 refine ⟨_, op_ldo rfl rfl rfl rfl, ?_⟩
 refine op_cat' (z := 4) (st := s31) (f := cSess) (b := 32) (l := []) (l2 := g.sess.l) rfl rfl rfl rfl rfl rfl rfl (by decide) len_cSess rfl rfl rfl rfl (by first | omega | (simp only [List.length_nil]; omega)) (by unfold maxLen; first | omega | (simp only [List.length_nil]; omega)) hO31 (hP31.rows hRs) ?_
 intro q34 s34 hO34 hPr34 hN34
 refine ⟨_, rfl, ?_⟩
 refine ⟨_, op_sto rfl rfl rfl rfl rfl rfl rfl, ?_⟩
 refine AW.cutM (3) s34 [(1, vL 1 0 (0)), (2, vL 2 0 (1)), (3, vL 3 0 (2))] [(1, 0, cNV g), (2, 1, [vI 0, vI 0, .slice none 0 0, .slice none 0 0, .slice none 0 0, vI 0, vI 0, vI 0, .slice none 0 0, .slice none 0 0, .slice none 0 0, .slice none 0 0, vI 0, vI 0, .slice none 0 0, vI 0, vI 0, vI 0, .slice none 0 0]), (3, 2, [vI g.id, vI g.n, vS u7.p u7.x.items.length, vS u7.q u7.x.floors.length, vS u11.p u11.l.length, vI u11.root, vI u15.cap, vI u15.frm, vS u15.p u15.l.length, vS q20 g.got.l.length, vS q25 g.acked.l.length, vS u29.p u29.t.length, vI g.num, vI g.slots, vS q34 g.sess.l.length, vI g.wait, vI g.limit, vI g.clock, vS g.rises.p g.rises.l.length])] ⟨rfl, rfl, rfl, trivial⟩ ⟨rfl, rfl, rfl, trivial⟩ rfl fun ρ0 ff => ?_
 have hP34 : Pres s29 s34 := hPr34.pres hP31 hN31
 refine op_nilK (z := 3) (f := cRise) rfl rfl rfl rfl (by decide) rfl ?_
 intro q36 s36 hO36 hP36 hN36
 refine ⟨_, rfl, ?_⟩
 refine ⟨_, op_ldo rfl rfl rfl rfl, ?_⟩
 refine op_cat' (z := 3) (st := s36) (f := cRise) (b := 24) (l := []) (l2 := g.rises.l) rfl rfl rfl rfl rfl rfl rfl (by decide) len_cRise rfl rfl rfl rfl (by first | omega | (simp only [List.length_nil]; omega)) (by unfold maxLen; first | omega | (simp only [List.length_nil]; omega)) hO36 (hP36.rows (hP34.rows hRr)) ?_
 intro q39 s39 hO39 hPr39 hN39
 refine ⟨_, rfl, ?_⟩
 refine ⟨_, op_sto rfl rfl rfl rfl rfl rfl rfl, ?_⟩
 refine AW.cutM (3) s39 [(2, vL 2 0 (1)), (3, vL 3 0 (2))] [(2, 1, [vI 0, vI 0, .slice none 0 0, .slice none 0 0, .slice none 0 0, vI 0, vI 0, vI 0, .slice none 0 0, .slice none 0 0, .slice none 0 0, .slice none 0 0, vI 0, vI 0, .slice none 0 0, vI 0, vI 0, vI 0, .slice none 0 0]), (3, 2, [vI g.id, vI g.n, vS u7.p u7.x.items.length, vS u7.q u7.x.floors.length, vS u11.p u11.l.length, vI u11.root, vI u15.cap, vI u15.frm, vS u15.p u15.l.length, vS q20 g.got.l.length, vS q25 g.acked.l.length, vS u29.p u29.t.length, vI g.num, vI g.slots, vS q34 g.sess.l.length, vI g.wait, vI g.limit, vI g.clock, vS q39 g.rises.l.length])] ⟨rfl, rfl, trivial⟩ ⟨rfl, rfl, trivial⟩ rfl fun ρ0 ff => ?_
 refine ⟨_, op_ldo (v := .agg #[vI g.id, vI g.n, vS u7.p u7.x.items.length, vS u7.q u7.x.floors.length, vS u11.p u11.l.length, vI u11.root, vI u15.cap, vI u15.frm, vS u15.p u15.l.length, vS q20 g.got.l.length, vS q25 g.acked.l.length, vS u29.p u29.t.length, vI g.num, vI g.slots, vS q34 g.sess.l.length, vI g.wait, vI g.limit, vI g.clock, vS q39 g.rises.l.length]) rfl rfl rfl rfl, ?_⟩
 refine ⟨_, op_stw (vs := [vI g.id, vI g.n, vS u7.p u7.x.items.length, vS u7.q u7.x.floors.length, vS u11.p u11.l.length, vI u11.root, vI u15.cap, vI u15.frm, vS u15.p u15.l.length, vS q20 g.got.l.length, vS q25 g.acked.l.length, vS u29.p u29.t.length, vI g.num, vI g.slots, vS q34 g.sess.l.length, vI g.wait, vI g.limit, vI g.clock, vS q39 g.rises.l.length]) rfl rfl rfl rfl rfl rfl rfl rfl, ?_⟩
 refine cxs ?_
 obtain ⟨w, rfl, hF15⟩ := Frs.lw ⟨hO15, hN15, hP15⟩
 have hF20 : Frs s15 s20 (pcIs ⟨q20, g.got.l⟩) := Frs.one hO20 (cat_new hP17 hN17 hN20) hP20
 have hF25 : Frs s20 s25 (pcIs ⟨q25, g.acked.l⟩) := Frs.one hO25 (cat_new hP22 hN22 hN25) hP25
 have hF34 : Frs s29 s34 (pcSes ⟨q34, g.sess.l⟩) := Frs.one hO34 (cat_new hP31 hN31 hN34) hP34
 have hF39 : Frs s34 s39 (pcRis ⟨q39, g.rises.l⟩) := Frs.one hO39 (cat_new hP36 hN36 hN39) (hPr39.pres hP36 hN36)
 have hF : Frs st s39 (pcNW ⟨g.id, g.n, u7, u11, w, ⟨q20, g.got.l⟩, ⟨q25, g.acked.l⟩, u29, g.num, g.slots, ⟨q34, g.sess.l⟩, g.wait, g.limit, g.clock, ⟨q39, g.rises.l⟩⟩) := Frs.join ⟨hO7, hN7, hP7⟩ ((Frs.one hO11 hN11 hP11).join (hF15.join (hF20.join (hF25.join (Frs.join ⟨hO29, hN29, hP29⟩ (hF34.join hF39))))))
 exact ⟨.inl rfl, _, rfl, _, rfl, nd_mk h7 (tv_xx h11 h11') h15 h29, hF.1, hF.2.1, hF.2.2⟩
theorem OwnP.swap {st st' : St} {a c d b : List Pc} (h : OwnP st (a ++ (c ++ b))) (hF : Frs st st' d) : OwnP st' (a ++ (d ++ b)) :=
 (OwnP.joinF (OwnP.right (OwnP.front1 h)) hF.2.2 hF.1 hF.2.1).front1
theorem NewP.left {n : Nat} {a b : List Pc} (h : NewP n (a ++ b)) : NewP n a := fun c hc => h c (List.mem_append_left _ hc)
theorem NewP.right {n : Nat} {a b : List Pc} (h : NewP n (a ++ b)) : NewP n b := fun c hc => h c (List.mem_append_right _ hc)
theorem Frs.swap {s0 st st' : St} {a c d b : List Pc} (h : Frs s0 st (a ++ (c ++ b))) (hF : Frs st st' d) : Frs s0 st' (a ++ (d ++ b)) :=
 ⟨h.1.swap hF, h.2.1.left.app ((hF.2.1.le h.2.2.1).app h.2.1.right.right), h.2.2.trans hF.2.2⟩
theorem Frs.sess {s0 st st' : St} {v : NW} {q : SesV} (h : Frs s0 st (pcNW v)) (hF : Frs st st' (pcSes q)) : Frs s0 st' (pcNW { v with sess := q }) := by
 have e : ∀ x : SesV, pcNW { v with sess := x } = (pcS v.s ++ (pcIs v.t.toRV ++ (pcLog v.g ++ (pcIs v.got ++ (pcIs v.acked ++ pcTT v.seen))))) ++ (pcSes x ++ pcRis v.rises) := fun x => by simp only [List.append_assoc]
 rw [e]
 exact Frs.swap (c := pcSes v.sess) (by rw [← e]; exact h) hF
def cmpI (a b : Int) : Int := if a < b then -1 else if a > b then 1 else 0
def firstNZ : List Int → Int
 | [] => 0
 | x :: l => if x = 0 then firstNZ l else x
def cmpB (a b : ByteArray) : Int := Lib.compareBytes a.data.toList b.data.toList
def entCmp (a b : Ent) : Int := firstNZ [cmpI a.inc b.inc, cmpI a.rank b.rank, cmpI a.beat b.beat, cmpI a.ver b.ver, cmpB a.data b.data]
def entMax (a b : Ent) : Ent := if entCmp a b < 0 then b else a
abbrev topF (a b : Sta) (id : Int) : Int := max (floorOf a.floors id) (floorOf b.floors id)
abbrev topE (a b : Sta) (id : Int) : Ent := entMax (entP a.items id).1 (entP b.items id).1
def joinF (a b : Sta) (n : Nat) : Sta := ⟨(List.range n).filterMap fun (j : Nat) => if (topE a b (j : Int)).inc > topF a b (j : Int) then some ⟨(j : Int), topE a b (j : Int)⟩ else none,
 (List.range n).filterMap fun (j : Nat) => if topF a b (j : Int) > 0 then some ⟨(j : Int), topF a b (j : Int)⟩ else none⟩
theorem Frs.is0 {a : St} : Frs a a (pcIs ⟨none, []⟩) := ⟨OwnP.one (.inl ⟨rfl, rfl⟩), NewP.cons New.none NewP.nil, Pres.refl _⟩
theorem Frs.st0 {a : St} : Frs a a (pcS ⟨none, none, nilS⟩) := ⟨pcS_nil, newS_nil, Pres.refl _⟩
theorem Frs.fv0 {a : St} : Frs a a (pcFV ⟨none, []⟩) := ⟨OwnP.one (.inl ⟨rfl, rfl⟩), NewP.cons New.none NewP.nil, Pres.refl _⟩
theorem Frs.renew {s0 st st' : St} {a b : List Pc} {c d : Pc} (h : Frs s0 st (a ++ c :: b)) (hp : Pr c.p st st') (hd : d.own st') (hn : New st.next d.p) : Frs s0 st' (a ++ d :: b) :=
 ⟨h.1.renew hp hd hn, h.2.1.left.app (NewP.cons (hn.le h.2.2.1) (NewP.right (a := [c]) h.2.1.right)), hp.pres h.2.2 (h.2.1.right c (List.mem_cons_self ..))⟩
theorem Frs.update {s0 st st' : St} {a b : List Pc} {c d : Pc} (h : Frs s0 st (a ++ c :: b)) (hp : Pr c.p st st') (hd : d.own st') (he : d.p = c.p) : Frs s0 st' (a ++ d :: b) :=
 ⟨h.1.update hp hd he, h.2.1.left.app (NewP.cons (he ▸ h.2.1.right c (List.mem_cons_self ..)) (NewP.right (a := [c]) h.2.1.right)), hp.pres h.2.2 (h.2.1.right c (List.mem_cons_self ..))⟩
theorem NW.sessAt (v : NW) (x : SesV) : pcNW { v with sess := x } = (pcS v.s ++ (pcIs v.t.toRV ++ (pcLog v.g ++ (pcIs v.got ++ (pcIs v.acked ++ pcTT v.seen))))) ++ pcR 4 cSess x.p x.l :: pcRis v.rises := by simp [List.append_assoc]
theorem Frs.sessPush {s0 st st' : St} {v : NW} {q : Option Addr} {l : List Ses} (h : Frs s0 st (pcNW v)) (hp : Pr v.sess.p st st') (hO : OwnR st' 4 cSess q l) (hn : New st.next q) : Frs s0 st' (pcNW { v with sess := ⟨q, l⟩ }) := by
 rw [NW.sessAt v ⟨q, l⟩]
 exact Frs.renew (c := pcR 4 cSess v.sess.p v.sess.l) (by rw [← NW.sessAt v v.sess]; exact h) hp (own_pc hO) hn
theorem OwnP.ses {st : St} {v : NW} (h : OwnP st (pcNW v)) : OwnR st 4 cSess v.sess.p v.sess.l := own_one (by decide) len_cSess h.right.right.right.right.right.right.left
theorem Frs.part {s0 st st' : St} {v : MV} {u : SV} (h : Frs s0 st (pcMV v)) (hF : Frs st st' (pcS u)) : Frs s0 st' (pcMV { v with part := u }) := by
 have e : ∀ x : SV, pcMV { v with part := x } = (pcIs v.tree.toRV ++ (pcIs v.vec ++ pcIs v.leaves)) ++ (pcS x ++ pcFV v.marks) := fun x => by simp only [List.append_assoc]
 rw [e]
 exact Frs.swap (c := pcS v.part) (by rw [← e]; exact h) hF
theorem Frs.tree {s0 st st' : St} {v : MV} {u : TV} (h : Frs s0 st (pcMV v)) (hF : Frs st st' (pcIs u.toRV)) : Frs s0 st' (pcMV { v with tree := u }) :=
 Frs.swap (a := []) (c := pcIs v.tree.toRV) h hF
noncomputable def msgF (x : Nd) (k to n : Int) : Mg := ⟨k, x.id, to, n, logSeq x.g, ⟨[], 0⟩, x.got, [], nilS, marksF (goneAt x.s) 5⟩
theorem ac_impl_message (g : NV) (k to n : Int) (st : St) (hR : RdN st g) (hb : bigN g.x) : C 87 [.agg #[vI g.id, vI g.n, vS g.s.p g.s.x.items.length, vS g.s.q g.s.x.floors.length, vS g.t.p g.t.l.length, vI g.t.root, vI g.g.cap, vI g.g.frm, vS g.g.p g.g.l.length, vS g.got.p g.got.l.length, vS g.acked.p g.acked.l.length, vS g.seen.p g.seen.t.length, vI g.num, vI g.slots, vS g.sess.p g.sess.l.length, vI g.wait, vI g.limit, vI g.clock, vS g.rises.p g.rises.l.length], vI k, vI to, vI n] st (fun v s => ∃ u : MV, v = .agg #[vI u.kind, vI u.frm, vI u.to, vI u.num, vI u.hi, vS u.tree.p u.tree.l.length, vI u.tree.root, vS u.vec.p u.vec.l.length, vS u.leaves.p u.leaves.l.length, vS u.part.p u.part.x.items.length, vS u.part.q u.part.x.floors.length, vS u.marks.p u.marks.l.length] ∧ u.x = msgF g.x k to n ∧ OwnP s (pcMV u) ∧ NewP st.next (pcMV u) ∧ Pres st s) := by
 refine AC.enterX (i := ⟨[4, 8], [4, 8, 10, 14, 17, 20], [0, 1, 2, 3, 4, 8]⟩) [(1, [7, 10, 13], [2, 9, 12])] Tryz.func87 rfl rfl (by kernel_rfl) (by kernel_rfl) Tryz.ntmps87 (Nat.le_of_ble_eq_true rfl) rfl ?_
 iterate 2 refine ⟨_, rfl, ?_⟩
 refine AW.cutM (2) st [(1, vI k), (2, vI to), (3, vI n), (4, vL 4 0 (0)), (8, vL 8 0 (1))] [(4, 0, cNV g), (8, 1, [vI 0, vI 0, vI 0, vI 0, vI 0, .slice none 0 0, vI 0, .slice none 0 0, .slice none 0 0, .slice none 0 0, .slice none 0 0, .slice none 0 0])] ⟨rfl, rfl, rfl, rfl, rfl, trivial⟩ ⟨rfl, rfl, trivial⟩ rfl fun ρ0 ff => ?_
 refine ⟨_, rfl, ?_⟩
 refine ⟨_, op_ldo rfl rfl rfl rfl, ?_⟩
 refine ⟨ld_own rfl rfl rfl, ?_⟩
 refine ⟨_, rfl, ?_⟩
 refine ⟨_, op_ldo rfl rfl rfl rfl, ?_⟩
 refine ⟨_, rfl, (ac_impl_LogSeq g.g st hR.g (bigLog_iff.1 hb.g)).mono ?_⟩
 rintro _ st ⟨rfl, rfl⟩
 refine ⟨fun _ _ => rfl, ?_⟩
 refine ⟨_, rfl, ?_⟩
 refine ⟨_, op_ldo rfl rfl rfl rfl, ?_⟩
 refine ⟨ld_own rfl rfl rfl, ?_⟩
 refine ⟨_, rfl, (ac_copyInts g.got.p g.got.l st hR.got hb.got).mono ?_⟩
 rintro _ s19 ⟨q19, rfl, hO19, hN19, hP19⟩
 refine ⟨hP19.2, ?_⟩
 refine ⟨_, rfl, ?_⟩
 refine ⟨_, op_ldo rfl rfl rfl rfl, ?_⟩
 refine ⟨ld_own rfl rfl rfl, ?_⟩
 refine ⟨_, rfl, (ac_impl_MarksOf g.s s19 (hR.s.pres hP19) (hb.s)).mono ?_⟩
 rintro _ s22 ⟨q22, rfl, hO22, hP22, hN22⟩
 refine ⟨hP22.low hP19, ?_⟩
 refine ⟨_, rfl, ?_⟩
 refine ⟨_, op_stw (vs := [vI k, vI g.id, vI to, vI n, vI (logSeq g.g.x), .slice none 0 0, vI 0, vS q19 g.got.l.length, .slice none 0 0, .slice none 0 0, .slice none 0 0, vS q22 (marksF (goneAt g.s.x) 5).length]) rfl rfl rfl rfl rfl rfl rfl rfl, ?_⟩
 refine cxs ?_
 have hF : Frs st s22 (pcMV ⟨k, g.id, to, n, logSeq g.g.x, ⟨⟨none, []⟩, 0⟩, ⟨q19, g.got.l⟩, ⟨none, []⟩, ⟨none, none, nilS⟩, ⟨q22, marksF (goneAt g.s.x) 5⟩⟩) := Frs.is0.join ((Frs.one hO19 hN19 hP19).join (Frs.is0.join (Frs.st0.join (Frs.one hO22 hN22 hP22))))
 exact ⟨.inl rfl, _, rfl, _, rfl, rfl, hF.1, hF.2.1, hF.2.2⟩
theorem ac_spec_l13Msg (g : NV) (k to n : Int) (st : St) (hR : RdN st g) (hb : bigN g.x) : C 85 [.agg #[vI g.id, vI g.n, vS g.s.p g.s.x.items.length, vS g.s.q g.s.x.floors.length, vS g.t.p g.t.l.length, vI g.t.root, vI g.g.cap, vI g.g.frm, vS g.g.p g.g.l.length, vS g.got.p g.got.l.length, vS g.acked.p g.acked.l.length, vS g.seen.p g.seen.t.length, vI g.num, vI g.slots, vS g.sess.p g.sess.l.length, vI g.wait, vI g.limit, vI g.clock, vS g.rises.p g.rises.l.length], vI k, vI to, vI n] st (fun v s => ∃ u : MV, v = .agg #[vI u.kind, vI u.frm, vI u.to, vI u.num, vI u.hi, vS u.tree.p u.tree.l.length, vI u.tree.root, vS u.vec.p u.vec.l.length, vS u.leaves.p u.leaves.l.length, vS u.part.p u.part.x.items.length, vS u.part.q u.part.x.floors.length, vS u.marks.p u.marks.l.length] ∧ u.x = msgF g.x k to n ∧ OwnP s (pcMV u) ∧ NewP st.next (pcMV u) ∧ Pres st s) := by
 have hs1 : g.got.l.length ≤ 1048576 := hb.got
 refine AC.enterX (i := ⟨[4, 8], [4, 8, 10, 14, 18, 21], [0, 1, 2, 3, 4, 8]⟩) [(1, [7, 11, 14], [2, 10, 13])] Tryz.func85 rfl rfl (by kernel_rfl) (by kernel_rfl) Tryz.ntmps85 (Nat.le_of_ble_eq_true rfl) rfl ?_
 iterate 2 refine ⟨_, rfl, ?_⟩
 refine AW.cutM (2) st [(1, vI k), (2, vI to), (3, vI n), (4, vL 4 0 (0)), (8, vL 8 0 (1))] [(4, 0, cNV g), (8, 1, [vI 0, vI 0, vI 0, vI 0, vI 0, .slice none 0 0, vI 0, .slice none 0 0, .slice none 0 0, .slice none 0 0, .slice none 0 0, .slice none 0 0])] ⟨rfl, rfl, rfl, rfl, rfl, trivial⟩ ⟨rfl, rfl, trivial⟩ rfl fun ρ0 ff => ?_
 refine ⟨_, rfl, ?_⟩
 refine ⟨_, op_ldo rfl rfl rfl rfl, ?_⟩
 refine ⟨ld_own rfl rfl rfl, ?_⟩
 refine ⟨_, rfl, ?_⟩
 refine ⟨_, op_ldo rfl rfl rfl rfl, ?_⟩
 refine ⟨_, rfl, (ac_spec_LogSeq g.g st hR.g (bigLog_iff.1 hb.g)).mono ?_⟩
 rintro _ st ⟨rfl, rfl⟩
 refine ⟨fun _ _ => rfl, ?_⟩
 refine op_nilK (z := 1) (f := fI) rfl rfl rfl rfl (by decide) rfl ?_
 intro q17 s17 hO17 hP17 hN17
 refine ⟨_, rfl, ?_⟩
 refine ⟨_, op_ldo rfl rfl rfl rfl, ?_⟩
 refine ⟨ld_own rfl rfl rfl, ?_⟩
 refine op_cat' (z := 1) (st := s17) (f := fI) (b := 8) (l := []) (l2 := g.got.l) rfl rfl rfl rfl rfl rfl rfl (by decide) fI_len rfl rfl rfl rfl (by first | omega | (simp only [List.length_nil]; omega)) (by unfold maxLen; first | omega | (simp only [List.length_nil]; omega)) hO17 (hP17.rows hR.got) ?_
 intro q20 s20 hO20 hPr20 hN20
 refine ⟨hPr20.low hP17 hN17, ?_⟩
 refine ⟨_, rfl, ?_⟩
 refine ⟨_, op_ldo rfl rfl rfl rfl, ?_⟩
 refine ⟨ld_own rfl rfl rfl, ?_⟩
 have hP20 : Pres st s20 := hPr20.pres hP17 hN17
 refine ⟨_, rfl, (ac_spec_MarksOf g.s s20 (hR.s.pres hP20) hb.s).mono ?_⟩
 rintro _ s23 ⟨q23, rfl, hO23, hP23, hN23⟩
 refine ⟨hP23.low hP20, ?_⟩
 refine ⟨_, rfl, ?_⟩
 refine ⟨_, op_stw (vs := [vI k, vI g.id, vI to, vI n, vI (logSeq g.g.x), .slice none 0 0, vI 0, vS q20 g.got.l.length, .slice none 0 0, .slice none 0 0, .slice none 0 0, vS q23 (marksF (goneAt g.s.x) 5).length]) rfl rfl rfl rfl rfl rfl rfl rfl, ?_⟩
 refine cxs ?_
 have hF : Frs st s23 (pcMV ⟨k, g.id, to, n, logSeq g.g.x, ⟨⟨none, []⟩, 0⟩, ⟨q20, g.got.l⟩, ⟨none, []⟩, ⟨none, none, nilS⟩, ⟨q23, marksF (goneAt g.s.x) 5⟩⟩) := Frs.is0.join ((Frs.one hO20 (cat_new hP17 hN17 hN20) hP20).join (Frs.is0.join (Frs.st0.join (Frs.one hO23 hN23 hP23))))
 exact ⟨.inl rfl, _, rfl, _, rfl, rfl, hF.1, hF.2.1, hF.2.2⟩
def zMg : Mg := ⟨0, 0, 0, 0, 0, ⟨[], 0⟩, [], [], nilS, []⟩
def zMV : MV := ⟨0, 0, 0, 0, 0, ⟨⟨none, []⟩, 0⟩, ⟨none, []⟩, ⟨none, []⟩, ⟨none, none, nilS⟩, ⟨none, []⟩⟩
theorem Frs.mg0 {a : St} : Frs a a (pcMV zMV) := Frs.is0.join (Frs.is0.join (Frs.is0.join (Frs.st0.join Frs.fv0)))
def peerOf (x : Nd) (to : Int) : Prop := (0 ≤ to ∧ to ≤ x.n - 1) ∧ ¬ to = x.id
structure synOk (x : Nd) (to : Int) : Prop where
 ok : nodeOk x
 peer : peerOf x to
 slot : ¬ slotF x.sess to false 0 ≥ 0
 room : (x.sess.length : Int) < x.slots
 num : ¬ x.num = 100000
def begun (x : Nd) (to : Int) : Nd := { x with num := x.num + 1, sess := x.sess ++ [⟨to, x.num + 1, false, 0⟩] }
open Classical in
noncomputable def synF (x : Nd) (to : Int) : Nd × Mg × Bool := if synOk x to then (begun x to, { msgF (begun x to) 2 to (x.num + 1) with tree := x.t }, true) else (x, zMg, false)
theorem syn_no {g x : Nd} {to : Int} (h : ¬ synOk g to) (hx : x = g) : (x, zMg, false) = synF g to := by rw [hx]; exact (if_neg h).symm
theorem syn_yes {g x : Nd} {to : Int} {m : Mg} {t : Tr} (h : synOk g to) (hx : x = g) (hm : m = msgF (begun x to) 2 to (x.num + 1)) (ht : t = g.t) : (begun x to, ({ m with tree := t } : Mg), true) = synF g to := by
 unfold synF
 rw [if_pos h, hm, ht, hx]
theorem ac_impl_Syn (g : NV) (to : Int) (st : St) (hR : RdN st g) (hb : bigN g.x) : C 35 [.agg #[vI g.id, vI g.n, vS g.s.p g.s.x.items.length, vS g.s.q g.s.x.floors.length, vS g.t.p g.t.l.length, vI g.t.root, vI g.g.cap, vI g.g.frm, vS g.g.p g.g.l.length, vS g.got.p g.got.l.length, vS g.acked.p g.acked.l.length, vS g.seen.p g.seen.t.length, vI g.num, vI g.slots, vS g.sess.p g.sess.l.length, vI g.wait, vI g.limit, vI g.clock, vS g.rises.p g.rises.l.length], vI to] st (fun v s => ∃ (u : NW) (m : MV) (b : Bool), v = .tuple #[.agg #[vI u.id, vI u.n, vS u.s.p u.s.x.items.length, vS u.s.q u.s.x.floors.length, vS u.t.p u.t.l.length, vI u.t.root, vI u.g.cap, vI u.g.frm, vS u.g.p u.g.l.length, vS u.got.p u.got.l.length, vS u.acked.p u.acked.l.length, vS u.seen.p u.seen.t.length, vI u.num, vI u.slots, vS u.sess.p u.sess.l.length, vI u.wait, vI u.limit, vI u.clock, vS u.rises.p u.rises.l.length], .agg #[vI m.kind, vI m.frm, vI m.to, vI m.num, vI m.hi, vS m.tree.p m.tree.l.length, vI m.tree.root, vS m.vec.p m.vec.l.length, vS m.leaves.p m.leaves.l.length, vS m.part.p m.part.x.items.length, vS m.part.q m.part.x.floors.length, vS m.marks.p m.marks.l.length], vB b] ∧ (u.x, m.x, b) = synF g.x to ∧ OwnP s (pcNW u ++ pcMV m) ∧ NewP st.next (pcNW u ++ pcMV m) ∧ Pres st s) := by
 refine AC.enterX (i := ⟨[2, 4, 5, 7, 8], [2, 4, 5, 7, 8, 27, 30, 35, 41, 44, 45, 48, 53, 56, 59, 62], [0, 1, 2, 4, 5, 6, 7, 8, 38]⟩) [(8, [2], [1]), (1008, [], [8])] Tryz.func35 rfl rfl (by kernel_rfl) (by kernel_rfl) Tryz.ntmps35 (Nat.le_of_ble_eq_true rfl) rfl ?_
 iterate 3 refine ⟨_, rfl, ?_⟩
 refine AW.cutM (3) st [(1, vI to), (2, vL 2 0 (0)), (4, vL 4 0 (1)), (5, vL 5 0 (2)), (6, vB false)] [(2, 0, cNV g), (4, 1, [vI 0, vI 0, .slice none 0 0, .slice none 0 0, .slice none 0 0, vI 0, vI 0, vI 0, .slice none 0 0, .slice none 0 0, .slice none 0 0, .slice none 0 0, vI 0, vI 0, .slice none 0 0, vI 0, vI 0, vI 0, .slice none 0 0]), (5, 2, [vI 0, vI 0, vI 0, vI 0, vI 0, .slice none 0 0, vI 0, .slice none 0 0, .slice none 0 0, .slice none 0 0, .slice none 0 0, .slice none 0 0])] ⟨rfl, rfl, rfl, rfl, rfl, trivial⟩ ⟨rfl, rfl, rfl, trivial⟩ rfl fun ρ0 ff => ?_
 refine ⟨_, op_ldo (v := (vNV g)) rfl rfl rfl rfl, ?_⟩
 refine ⟨_, rfl, (ac_impl_copyNode g st hR (by first | assumption | omega)).mono ?_⟩
 rintro _ s10 ⟨u10, rfl, h10, hO10, hN10, hP10⟩
 refine ⟨_, rfl, ?_⟩
 refine ⟨_, op_stw (vs := cNV u10.v) rfl rfl rfl rfl rfl rfl rfl rfl, ?_⟩
 refine AW.cutM (4) s10 [(1, vI to), (2, vL 2 0 (0)), (4, vL 4 0 (1)), (5, vL 5 0 (2)), (6, vB false), (7, vL 7 0 (3))] [(2, 0, cNV g), (4, 1, [vI 0, vI 0, .slice none 0 0, .slice none 0 0, .slice none 0 0, vI 0, vI 0, vI 0, .slice none 0 0, .slice none 0 0, .slice none 0 0, .slice none 0 0, vI 0, vI 0, .slice none 0 0, vI 0, vI 0, vI 0, .slice none 0 0]), (5, 2, [vI 0, vI 0, vI 0, vI 0, vI 0, .slice none 0 0, vI 0, .slice none 0 0, .slice none 0 0, .slice none 0 0, .slice none 0 0, .slice none 0 0]), (7, 3, cNV u10.v)] ⟨rfl, rfl, rfl, rfl, rfl, rfl, trivial⟩ ⟨rfl, rfl, rfl, rfl, trivial⟩ rfl fun ρ0 ff => ?_
 refine ⟨_, op_ldo (v := (vNV g)) rfl rfl rfl rfl, ?_⟩
 refine ⟨_, rfl, (ac_impl_NodeOk g s10 (hR.pres hP10) (by first | assumption | omega)).mono ?_⟩
 rintro _ s12 ⟨x12, rfl, h12, hP12⟩
 rcases x12 with _|_
 ·replace h12 := fun k => Bool.false_ne_true (h12.2 k)
  iterate 5 refine ⟨_, rfl, ?_⟩
  refine AW.cutM (4) s12 [(1, vI to), (2, vL 2 0 (0)), (4, vL 4 0 (1)), (5, vL 5 0 (2)), (6, vB false), (7, vL 7 0 (3)), (38, vB true)] [(2, 0, cNV g), (4, 1, [vI 0, vI 0, .slice none 0 0, .slice none 0 0, .slice none 0 0, vI 0, vI 0, vI 0, .slice none 0 0, .slice none 0 0, .slice none 0 0, .slice none 0 0, vI 0, vI 0, .slice none 0 0, vI 0, vI 0, vI 0, .slice none 0 0]), (5, 2, [vI 0, vI 0, vI 0, vI 0, vI 0, .slice none 0 0, vI 0, .slice none 0 0, .slice none 0 0, .slice none 0 0, .slice none 0 0, .slice none 0 0]), (7, 3, cNV u10.v)] ⟨rfl, rfl, rfl, rfl, rfl, rfl, rfl, trivial⟩ ⟨rfl, rfl, rfl, rfl, trivial⟩ rfl fun ρ0 ff => ?_
  have hF12 : Frs st s12 (pcNW u10) := ⟨hO10.pres hP12, hN10, hP10.trans hP12⟩
  refine ⟨_, op_ldo (v := (vNV u10.v)) rfl rfl rfl rfl, ?_⟩
  refine ⟨_, rfl, ?_⟩
  refine ⟨_, op_stw (vs := cNV u10.v) rfl rfl rfl rfl rfl rfl rfl rfl, ?_⟩
  refine ⟨_, op_stw (vs := [vI 0, vI 0, vI 0, vI 0, vI 0, .slice none 0 0, vI 0, .slice none 0 0, .slice none 0 0, .slice none 0 0, .slice none 0 0, .slice none 0 0]) rfl rfl rfl rfl rfl rfl rfl rfl, ?_⟩
  refine cxs ?_
  have hF := hF12.join Frs.mg0
  exact ⟨.inl rfl, _, rfl, u10, zMV, false, rfl, syn_no (fun k => h12 k.ok) h10, hF.1, hF.2.1, hF.2.2⟩
 ·replace h12 := h12.1 rfl
  refine ⟨_, rfl, ?_⟩
  refine ⟨_, op_ldo (v := (vNV g)) rfl rfl rfl rfl, ?_⟩
  have hn : 1 ≤ g.n ∧ g.n ≤ 5 := h12.n
  refine ⟨_, rfl, (ac_impl_isPeer g to s12 (by first | assumption | omega)).mono ?_⟩
  rintro _ s12 ⟨x17, rfl, h17, rfl⟩
  rcases x17 with _|_
  ·replace h17 := fun k => Bool.false_ne_true (h17.2 k)
   iterate 5 refine ⟨_, rfl, ?_⟩
   refine AW.cutM (4) s12 [(1, vI to), (2, vL 2 0 (0)), (4, vL 4 0 (1)), (5, vL 5 0 (2)), (6, vB false), (7, vL 7 0 (3)), (38, vB true)] [(2, 0, cNV g), (4, 1, [vI 0, vI 0, .slice none 0 0, .slice none 0 0, .slice none 0 0, vI 0, vI 0, vI 0, .slice none 0 0, .slice none 0 0, .slice none 0 0, .slice none 0 0, vI 0, vI 0, .slice none 0 0, vI 0, vI 0, vI 0, .slice none 0 0]), (5, 2, [vI 0, vI 0, vI 0, vI 0, vI 0, .slice none 0 0, vI 0, .slice none 0 0, .slice none 0 0, .slice none 0 0, .slice none 0 0, .slice none 0 0]), (7, 3, cNV u10.v)] ⟨rfl, rfl, rfl, rfl, rfl, rfl, rfl, trivial⟩ ⟨rfl, rfl, rfl, rfl, trivial⟩ rfl fun ρ0 ff => ?_
   have hF12 : Frs st s12 (pcNW u10) := ⟨hO10.pres hP12, hN10, hP10.trans hP12⟩
   refine ⟨_, op_ldo (v := (vNV u10.v)) rfl rfl rfl rfl, ?_⟩
   refine ⟨_, rfl, ?_⟩
   refine ⟨_, op_stw (vs := cNV u10.v) rfl rfl rfl rfl rfl rfl rfl rfl, ?_⟩
   refine ⟨_, op_stw (vs := [vI 0, vI 0, vI 0, vI 0, vI 0, .slice none 0 0, vI 0, .slice none 0 0, .slice none 0 0, .slice none 0 0, .slice none 0 0, .slice none 0 0]) rfl rfl rfl rfl rfl rfl rfl rfl, ?_⟩
   refine cxs ?_
   have hF := hF12.join Frs.mg0
   exact ⟨.inl rfl, _, rfl, u10, zMV, false, rfl, syn_no (fun k => h17 k.peer) h10, hF.1, hF.2.1, hF.2.2⟩
  ·replace h17 := h17.1 rfl
   iterate 2 refine ⟨_, rfl, ?_⟩
   refine ⟨_, op_ldo (v := (vNV g)) rfl rfl rfl rfl, ?_⟩
   refine ⟨_, rfl, (ac_impl_Slot g to false s12 (hR.pres (hP10.trans hP12)) (by first | assumption | omega)).mono ?_⟩
   rintro _ s12 ⟨rfl, rfl⟩
   refine ⟨_, rfl, ?_⟩
   rintro (_|_) h24
   ·replace h24 : ¬ ((slotF g.sess.l to false 0) ≥ (0)) := of_decide_eq_false h24
    iterate 2 refine ⟨_, rfl, ?_⟩
    refine ⟨_, op_ldo rfl rfl rfl rfl, ?_⟩
    refine ow_cut [(1, vI to), (2, vL 2 0 (0)), (4, vL 4 0 (1)), (5, vL 5 0 (2)), (6, vB false), (7, vL 7 0 (3)), (26, vB false), (28, vS g.sess.p g.sess.l.length)] ⟨rfl, rfl, rfl, rfl, rfl, rfl, rfl, rfl, trivial⟩ fun ρ0 => ?_
    iterate 2 refine ⟨_, rfl, ?_⟩
    refine ⟨_, op_ldo rfl rfl rfl rfl, ?_⟩
    refine ⟨_, rfl, ?_⟩
    rintro (_|_) h32
    ·replace h32 : ¬ ((g.sess.l.length : Int) ≥ g.slots) := of_decide_eq_false h32
     iterate 2 refine ⟨_, rfl, ?_⟩
     refine ⟨_, op_ldo rfl rfl rfl rfl, ?_⟩
     refine ⟨_, rfl, ?_⟩
     rintro (_|_) h37
     ·replace h37 : ¬ (g.num = (100000)) := beq_eq_false_iff_ne.1 h37
      refine ⟨_, rfl, ?_⟩
      refine AW.cutM (4) s12 [(1, vI to), (2, vL 2 0 (0)), (4, vL 4 0 (1)), (5, vL 5 0 (2)), (6, vB false), (7, vL 7 0 (3)), (38, vB false)] [(2, 0, cNV g), (4, 1, [vI 0, vI 0, .slice none 0 0, .slice none 0 0, .slice none 0 0, vI 0, vI 0, vI 0, .slice none 0 0, .slice none 0 0, .slice none 0 0, .slice none 0 0, vI 0, vI 0, .slice none 0 0, vI 0, vI 0, vI 0, .slice none 0 0]), (5, 2, [vI 0, vI 0, vI 0, vI 0, vI 0, .slice none 0 0, vI 0, .slice none 0 0, .slice none 0 0, .slice none 0 0, .slice none 0 0, .slice none 0 0]), (7, 3, cNV u10.v)] ⟨rfl, rfl, rfl, rfl, rfl, rfl, rfl, trivial⟩ ⟨rfl, rfl, rfl, rfl, trivial⟩ rfl fun ρ0 ff => ?_
      have hF12 : Frs st s12 (pcNW u10) := ⟨hO10.pres hP12, hN10, hP10.trans hP12⟩
      refine cxs ?_
      refine ⟨_, rfl, ?_⟩
      refine ⟨_, op_ldo rfl rfl rfl rfl, ?_⟩
      have hn10 : u10.num = g.num := congrArg Nd.num h10
      have hnr : 0 ≤ g.num ∧ g.num ≤ 100000 := h12.num
      have hsl : g.slots ≤ 4 := h12.slots.2
      have hle : (g.sess.l.length : Int) ≤ g.slots := h12.sess.1
      have hs10 : u10.sess.l = g.sess.l := congrArg Nd.sess h10
      have hs11 : u10.sess.l.length = g.sess.l.length := by rw [hs10]
      have ew43 : IntKind.wrap .i64 (u10.num + (1)) = u10.num + (1) := wrap_i64 (by omega) (by omega)
      iterate 2 refine ⟨_, rfl, ?_⟩
      refine ⟨_, op_sto rfl rfl rfl rfl rfl rfl rfl, ?_⟩
      refine AW.cutM (4) s12 [(1, vI to), (2, vL 2 0 (0)), (4, vL 4 0 (1)), (5, vL 5 0 (2)), (6, vB false), (7, vL 7 0 (3))] [(2, 0, cNV g), (4, 1, [vI 0, vI 0, .slice none 0 0, .slice none 0 0, .slice none 0 0, vI 0, vI 0, vI 0, .slice none 0 0, .slice none 0 0, .slice none 0 0, .slice none 0 0, vI 0, vI 0, .slice none 0 0, vI 0, vI 0, vI 0, .slice none 0 0]), (5, 2, [vI 0, vI 0, vI 0, vI 0, vI 0, .slice none 0 0, vI 0, .slice none 0 0, .slice none 0 0, .slice none 0 0, .slice none 0 0, .slice none 0 0]), (7, 3, [vI u10.id, vI u10.n, vS u10.s.p u10.s.x.items.length, vS u10.s.q u10.s.x.floors.length, vS u10.t.p u10.t.l.length, vI u10.t.root, vI u10.g.cap, vI u10.g.frm, vS u10.g.p u10.g.l.length, vS u10.got.p u10.got.l.length, vS u10.acked.p u10.acked.l.length, vS u10.seen.p u10.seen.t.length, vI (u10.num + (1)), vI u10.slots, vS u10.sess.p u10.sess.l.length, vI u10.wait, vI u10.limit, vI u10.clock, vS u10.rises.p u10.rises.l.length])] ⟨rfl, rfl, rfl, rfl, rfl, rfl, trivial⟩ ⟨rfl, rfl, rfl, (show some (3, [vI u10.id, vI u10.n, vS u10.s.p u10.s.x.items.length, vS u10.s.q u10.s.x.floors.length, vS u10.t.p u10.t.l.length, vI u10.t.root, vI u10.g.cap, vI u10.g.frm, vS u10.g.p u10.g.l.length, vS u10.got.p u10.got.l.length, vS u10.acked.p u10.acked.l.length, vS u10.seen.p u10.seen.t.length, vI (IntKind.wrap .i64 (u10.num + (1))), vI u10.slots, vS u10.sess.p u10.sess.l.length, vI u10.wait, vI u10.limit, vI u10.clock, vS u10.rises.p u10.rises.l.length]) = some (3, [vI u10.id, vI u10.n, vS u10.s.p u10.s.x.items.length, vS u10.s.q u10.s.x.floors.length, vS u10.t.p u10.t.l.length, vI u10.t.root, vI u10.g.cap, vI u10.g.frm, vS u10.g.p u10.g.l.length, vS u10.got.p u10.got.l.length, vS u10.acked.p u10.acked.l.length, vS u10.seen.p u10.seen.t.length, vI (u10.num + (1)), vI u10.slots, vS u10.sess.p u10.sess.l.length, vI u10.wait, vI u10.limit, vI u10.clock, vS u10.rises.p u10.rises.l.length]) by rw [ew43]), trivial⟩ rfl fun ρ0 ff => ?_
      refine ⟨_, rfl, ?_⟩
      refine ⟨_, op_ldo rfl rfl rfl rfl, ?_⟩
      refine ⟨_, rfl, ?_⟩
      refine ⟨_, op_ldo rfl rfl rfl rfl, ?_⟩
      refine ⟨_, rfl, ?_⟩
      refine op_one (z := 4) (a := ((⟨to, u10.num + 1, false, 0⟩ : Ses) : Ses)) (f := cSess) rfl rfl rfl rfl rfl (by decide) rfl (Nat.le_of_ble_eq_true rfl) rfl rfl rfl ?_
      refine op_snoc (z := 4) (st := s12) (f := cSess) (b := 32) (l := u10.sess.l) (x := (⟨to, u10.num + 1, false, 0⟩ : Ses)) rfl rfl rfl rfl rfl rfl rfl (by decide) len_cSess rfl rfl rfl (by omega) (by unfold maxLen; omega) hF12.1.ses ?_
      intro q52 s52 hO52 hP52 hN52
      refine ⟨_, rfl, ?_⟩
      refine ⟨_, op_sto rfl rfl rfl rfl rfl rfl rfl, ?_⟩
      refine AW.cutM (4) s52 [(1, vI to), (2, vL 2 0 (0)), (4, vL 4 0 (1)), (5, vL 5 0 (2)), (6, vB false), (7, vL 7 0 (3))] [(2, 0, cNV g), (4, 1, [vI 0, vI 0, .slice none 0 0, .slice none 0 0, .slice none 0 0, vI 0, vI 0, vI 0, .slice none 0 0, .slice none 0 0, .slice none 0 0, .slice none 0 0, vI 0, vI 0, .slice none 0 0, vI 0, vI 0, vI 0, .slice none 0 0]), (5, 2, [vI 0, vI 0, vI 0, vI 0, vI 0, .slice none 0 0, vI 0, .slice none 0 0, .slice none 0 0, .slice none 0 0, .slice none 0 0, .slice none 0 0]), (7, 3, [vI u10.id, vI u10.n, vS u10.s.p u10.s.x.items.length, vS u10.s.q u10.s.x.floors.length, vS u10.t.p u10.t.l.length, vI u10.t.root, vI u10.g.cap, vI u10.g.frm, vS u10.g.p u10.g.l.length, vS u10.got.p u10.got.l.length, vS u10.acked.p u10.acked.l.length, vS u10.seen.p u10.seen.t.length, vI (u10.num + (1)), vI u10.slots, vS q52 (u10.sess.l ++ [(⟨to, u10.num + 1, false, 0⟩ : Ses)]).length, vI u10.wait, vI u10.limit, vI u10.clock, vS u10.rises.p u10.rises.l.length])] ⟨rfl, rfl, rfl, rfl, rfl, rfl, trivial⟩ ⟨rfl, rfl, rfl, rfl, trivial⟩ rfl fun ρ0 ff => ?_
      have hF52 : Frs st s52 (pcNW { u10 with sess := ⟨q52, u10.sess.l ++ [⟨to, u10.num + 1, false, 0⟩]⟩ }) := hF12.sessPush hP52 hO52 hN52
      have hR52 : RdN s52 { u10.v with num := u10.num + 1, sess := ⟨q52, u10.sess.l ++ [⟨to, u10.num + 1, false, 0⟩]⟩ } := OwnP.rdN (v := { u10 with num := u10.num + 1, sess := ⟨q52, u10.sess.l ++ [⟨to, u10.num + 1, false, 0⟩]⟩ }) hF52.1
      have hb10 : bigN u10.x := h10.symm ▸ hb
      have hb52 : bigN ({ u10.v with num := u10.num + 1, sess := ⟨q52, u10.sess.l ++ [⟨to, u10.num + 1, false, 0⟩]⟩ } : NV).x := ⟨hb10.s, hb10.t, hb10.g, hb10.got, hb10.acked, hb10.seen, by show (u10.sess.l ++ [_]).length ≤ 1048576; rw [List.length_append, hs11, List.length_singleton]; omega, hb10.rises⟩
      refine ⟨_, op_ldo (v := .agg #[vI u10.id, vI u10.n, vS u10.s.p u10.s.x.items.length, vS u10.s.q u10.s.x.floors.length, vS u10.t.p u10.t.l.length, vI u10.t.root, vI u10.g.cap, vI u10.g.frm, vS u10.g.p u10.g.l.length, vS u10.got.p u10.got.l.length, vS u10.acked.p u10.acked.l.length, vS u10.seen.p u10.seen.t.length, vI (u10.num + (1)), vI u10.slots, vS q52 (u10.sess.l ++ [(⟨to, u10.num + 1, false, 0⟩ : Ses)]).length, vI u10.wait, vI u10.limit, vI u10.clock, vS u10.rises.p u10.rises.l.length]) rfl rfl rfl rfl, ?_⟩
      refine ⟨_, rfl, ?_⟩
      refine ⟨_, op_ldo rfl rfl rfl rfl, ?_⟩
      refine ⟨_, rfl, (ac_impl_message { u10.v with num := u10.num + 1, sess := ⟨q52, u10.sess.l ++ [⟨to, u10.num + 1, false, 0⟩]⟩ } 2 to (u10.num + 1) s52 hR52 hb52).mono ?_⟩
      rintro _ s58 ⟨u58, rfl, h58, hO58, hN58, hP58⟩
      refine ⟨_, rfl, ?_⟩
      refine ⟨_, op_stw (vs := cMV u58) rfl rfl rfl rfl rfl rfl rfl rfl, ?_⟩
      refine AW.cutM (5) s58 [(2, vL 2 0 (0)), (4, vL 4 0 (1)), (5, vL 5 0 (2)), (6, vB false), (7, vL 7 0 (3)), (8, vL 8 0 (4))] [(2, 0, cNV g), (4, 1, [vI 0, vI 0, .slice none 0 0, .slice none 0 0, .slice none 0 0, vI 0, vI 0, vI 0, .slice none 0 0, .slice none 0 0, .slice none 0 0, .slice none 0 0, vI 0, vI 0, .slice none 0 0, vI 0, vI 0, vI 0, .slice none 0 0]), (5, 2, [vI 0, vI 0, vI 0, vI 0, vI 0, .slice none 0 0, vI 0, .slice none 0 0, .slice none 0 0, .slice none 0 0, .slice none 0 0, .slice none 0 0]), (7, 3, [vI u10.id, vI u10.n, vS u10.s.p u10.s.x.items.length, vS u10.s.q u10.s.x.floors.length, vS u10.t.p u10.t.l.length, vI u10.t.root, vI u10.g.cap, vI u10.g.frm, vS u10.g.p u10.g.l.length, vS u10.got.p u10.got.l.length, vS u10.acked.p u10.acked.l.length, vS u10.seen.p u10.seen.t.length, vI (u10.num + (1)), vI u10.slots, vS q52 (u10.sess.l ++ [(⟨to, u10.num + 1, false, 0⟩ : Ses)]).length, vI u10.wait, vI u10.limit, vI u10.clock, vS u10.rises.p u10.rises.l.length]), (8, 4, cMV u58)] ⟨rfl, rfl, rfl, rfl, rfl, rfl, trivial⟩ ⟨rfl, rfl, rfl, rfl, rfl, trivial⟩ rfl fun ρ0 ff => ?_
      refine ⟨_, rfl, ?_⟩
      refine ⟨_, op_ldo rfl rfl rfl rfl, ?_⟩
      refine ⟨_, rfl, (ac_impl_copyTree g.t s58 ((hF52.2.2.trans hP58).rows hR.t) hb.t).mono ?_⟩
      rintro _ s61 ⟨u61, rfl, h61, h61', hO61, hN61, hP61⟩
      refine ⟨_, rfl, ?_⟩
      refine ⟨_, op_sto rfl rfl rfl rfl rfl rfl rfl, ?_⟩
      refine AW.cutM (5) s61 [(4, vL 4 0 (1)), (5, vL 5 0 (2)), (6, vB false), (7, vL 7 0 (3)), (8, vL 8 0 (4))] [(4, 1, [vI 0, vI 0, .slice none 0 0, .slice none 0 0, .slice none 0 0, vI 0, vI 0, vI 0, .slice none 0 0, .slice none 0 0, .slice none 0 0, .slice none 0 0, vI 0, vI 0, .slice none 0 0, vI 0, vI 0, vI 0, .slice none 0 0]), (5, 2, [vI 0, vI 0, vI 0, vI 0, vI 0, .slice none 0 0, vI 0, .slice none 0 0, .slice none 0 0, .slice none 0 0, .slice none 0 0, .slice none 0 0]), (7, 3, [vI u10.id, vI u10.n, vS u10.s.p u10.s.x.items.length, vS u10.s.q u10.s.x.floors.length, vS u10.t.p u10.t.l.length, vI u10.t.root, vI u10.g.cap, vI u10.g.frm, vS u10.g.p u10.g.l.length, vS u10.got.p u10.got.l.length, vS u10.acked.p u10.acked.l.length, vS u10.seen.p u10.seen.t.length, vI (u10.num + (1)), vI u10.slots, vS q52 (u10.sess.l ++ [(⟨to, u10.num + 1, false, 0⟩ : Ses)]).length, vI u10.wait, vI u10.limit, vI u10.clock, vS u10.rises.p u10.rises.l.length]), (8, 4, [vI u58.kind, vI u58.frm, vI u58.to, vI u58.num, vI u58.hi, vS u61.p u61.l.length, vI u61.root, vS u58.vec.p u58.vec.l.length, vS u58.leaves.p u58.leaves.l.length, vS u58.part.p u58.part.x.items.length, vS u58.part.q u58.part.x.floors.length, vS u58.marks.p u58.marks.l.length])] ⟨rfl, rfl, rfl, rfl, rfl, trivial⟩ ⟨rfl, rfl, rfl, rfl, trivial⟩ rfl fun ρ0 ff => ?_
      refine ⟨_, op_ldo (v := .agg #[vI u10.id, vI u10.n, vS u10.s.p u10.s.x.items.length, vS u10.s.q u10.s.x.floors.length, vS u10.t.p u10.t.l.length, vI u10.t.root, vI u10.g.cap, vI u10.g.frm, vS u10.g.p u10.g.l.length, vS u10.got.p u10.got.l.length, vS u10.acked.p u10.acked.l.length, vS u10.seen.p u10.seen.t.length, vI (u10.num + (1)), vI u10.slots, vS q52 (u10.sess.l ++ [(⟨to, u10.num + 1, false, 0⟩ : Ses)]).length, vI u10.wait, vI u10.limit, vI u10.clock, vS u10.rises.p u10.rises.l.length]) rfl rfl rfl rfl, ?_⟩
      refine ⟨_, op_ldo (v := .agg #[vI u58.kind, vI u58.frm, vI u58.to, vI u58.num, vI u58.hi, vS u61.p u61.l.length, vI u61.root, vS u58.vec.p u58.vec.l.length, vS u58.leaves.p u58.leaves.l.length, vS u58.part.p u58.part.x.items.length, vS u58.part.q u58.part.x.floors.length, vS u58.marks.p u58.marks.l.length]) rfl rfl rfl rfl, ?_⟩
      refine ⟨ld_own rfl rfl rfl, ?_⟩
      refine ⟨_, op_stw (vs := [vI u10.id, vI u10.n, vS u10.s.p u10.s.x.items.length, vS u10.s.q u10.s.x.floors.length, vS u10.t.p u10.t.l.length, vI u10.t.root, vI u10.g.cap, vI u10.g.frm, vS u10.g.p u10.g.l.length, vS u10.got.p u10.got.l.length, vS u10.acked.p u10.acked.l.length, vS u10.seen.p u10.seen.t.length, vI (u10.num + (1)), vI u10.slots, vS q52 (u10.sess.l ++ [(⟨to, u10.num + 1, false, 0⟩ : Ses)]).length, vI u10.wait, vI u10.limit, vI u10.clock, vS u10.rises.p u10.rises.l.length]) rfl rfl rfl rfl rfl rfl rfl rfl, ?_⟩
      refine ⟨sx_cons ⟨_, _, _, rfl, rfl, rfl, by decide⟩ (sx_nil), ?_⟩
      refine ⟨_, op_stw (vs := [vI u58.kind, vI u58.frm, vI u58.to, vI u58.num, vI u58.hi, vS u61.p u61.l.length, vI u61.root, vS u58.vec.p u58.vec.l.length, vS u58.leaves.p u58.leaves.l.length, vS u58.part.p u58.part.x.items.length, vS u58.part.q u58.part.x.floors.length, vS u58.marks.p u58.marks.l.length]) rfl rfl rfl rfl rfl rfl rfl rfl, ?_⟩
      refine cxs ?_
      have hF := (hF52.join (Frs.tree (u := u61) ⟨hO58, hN58, hP58⟩ (Frs.one hO61 hN61 hP61)))
      have hsy : synOk g.x to := ⟨h12, h17, h24, by show (g.sess.l.length : Int) < g.slots; omega, h37⟩
      exact ⟨.inl rfl, _, rfl, { u10 with num := u10.num + 1, sess := ⟨q52, u10.sess.l ++ [⟨to, u10.num + 1, false, 0⟩]⟩ }, { u58 with tree := u61 }, true, rfl, syn_yes (x := u10.x) hsy h10 h58 (by first | exact tv_xx h61 h61' | exact (tv_xx h61 h61').trans (congrArg Nd.t h10)), hF.1, hF.2.1, hF.2.2⟩
     ·replace h37 : g.num = (100000) := beq_iff_eq.1 h37
      refine ⟨_, rfl, ?_⟩
      refine AW.cutM (4) s12 [(1, vI to), (2, vL 2 0 (0)), (4, vL 4 0 (1)), (5, vL 5 0 (2)), (6, vB false), (7, vL 7 0 (3)), (38, vB true)] [(2, 0, cNV g), (4, 1, [vI 0, vI 0, .slice none 0 0, .slice none 0 0, .slice none 0 0, vI 0, vI 0, vI 0, .slice none 0 0, .slice none 0 0, .slice none 0 0, .slice none 0 0, vI 0, vI 0, .slice none 0 0, vI 0, vI 0, vI 0, .slice none 0 0]), (5, 2, [vI 0, vI 0, vI 0, vI 0, vI 0, .slice none 0 0, vI 0, .slice none 0 0, .slice none 0 0, .slice none 0 0, .slice none 0 0, .slice none 0 0]), (7, 3, cNV u10.v)] ⟨rfl, rfl, rfl, rfl, rfl, rfl, rfl, trivial⟩ ⟨rfl, rfl, rfl, rfl, trivial⟩ rfl fun ρ0 ff => ?_
      have hF12 : Frs st s12 (pcNW u10) := ⟨hO10.pres hP12, hN10, hP10.trans hP12⟩
      refine ⟨_, op_ldo (v := (vNV u10.v)) rfl rfl rfl rfl, ?_⟩
      refine ⟨_, rfl, ?_⟩
      refine ⟨_, op_stw (vs := cNV u10.v) rfl rfl rfl rfl rfl rfl rfl rfl, ?_⟩
      refine ⟨_, op_stw (vs := [vI 0, vI 0, vI 0, vI 0, vI 0, .slice none 0 0, vI 0, .slice none 0 0, .slice none 0 0, .slice none 0 0, .slice none 0 0, .slice none 0 0]) rfl rfl rfl rfl rfl rfl rfl rfl, ?_⟩
      refine cxs ?_
      have hF := hF12.join Frs.mg0
      exact ⟨.inl rfl, _, rfl, u10, zMV, false, rfl, syn_no (fun k => k.num h37) h10, hF.1, hF.2.1, hF.2.2⟩
    ·replace h32 : (g.sess.l.length : Int) ≥ g.slots := of_decide_eq_true h32
     iterate 2 refine ⟨_, rfl, ?_⟩
     refine AW.cutM (4) s12 [(1, vI to), (2, vL 2 0 (0)), (4, vL 4 0 (1)), (5, vL 5 0 (2)), (6, vB false), (7, vL 7 0 (3)), (38, vB true)] [(2, 0, cNV g), (4, 1, [vI 0, vI 0, .slice none 0 0, .slice none 0 0, .slice none 0 0, vI 0, vI 0, vI 0, .slice none 0 0, .slice none 0 0, .slice none 0 0, .slice none 0 0, vI 0, vI 0, .slice none 0 0, vI 0, vI 0, vI 0, .slice none 0 0]), (5, 2, [vI 0, vI 0, vI 0, vI 0, vI 0, .slice none 0 0, vI 0, .slice none 0 0, .slice none 0 0, .slice none 0 0, .slice none 0 0, .slice none 0 0]), (7, 3, cNV u10.v)] ⟨rfl, rfl, rfl, rfl, rfl, rfl, rfl, trivial⟩ ⟨rfl, rfl, rfl, rfl, trivial⟩ rfl fun ρ0 ff => ?_
     have hF12 : Frs st s12 (pcNW u10) := ⟨hO10.pres hP12, hN10, hP10.trans hP12⟩
     refine ⟨_, op_ldo (v := (vNV u10.v)) rfl rfl rfl rfl, ?_⟩
     refine ⟨_, rfl, ?_⟩
     refine ⟨_, op_stw (vs := cNV u10.v) rfl rfl rfl rfl rfl rfl rfl rfl, ?_⟩
     refine ⟨_, op_stw (vs := [vI 0, vI 0, vI 0, vI 0, vI 0, .slice none 0 0, vI 0, .slice none 0 0, .slice none 0 0, .slice none 0 0, .slice none 0 0, .slice none 0 0]) rfl rfl rfl rfl rfl rfl rfl rfl, ?_⟩
     refine cxs ?_
     have hF := hF12.join Frs.mg0
     exact ⟨.inl rfl, _, rfl, u10, zMV, false, rfl, syn_no (fun k => absurd k.room (by show ¬ (g.sess.l.length : Int) < g.slots; omega)) h10, hF.1, hF.2.1, hF.2.2⟩
   ·replace h24 : (slotF g.sess.l to false 0) ≥ (0) := of_decide_eq_true h24
    iterate 3 refine ⟨_, rfl, ?_⟩
    refine AW.cutM (4) s12 [(1, vI to), (2, vL 2 0 (0)), (4, vL 4 0 (1)), (5, vL 5 0 (2)), (6, vB false), (7, vL 7 0 (3)), (38, vB true)] [(2, 0, cNV g), (4, 1, [vI 0, vI 0, .slice none 0 0, .slice none 0 0, .slice none 0 0, vI 0, vI 0, vI 0, .slice none 0 0, .slice none 0 0, .slice none 0 0, .slice none 0 0, vI 0, vI 0, .slice none 0 0, vI 0, vI 0, vI 0, .slice none 0 0]), (5, 2, [vI 0, vI 0, vI 0, vI 0, vI 0, .slice none 0 0, vI 0, .slice none 0 0, .slice none 0 0, .slice none 0 0, .slice none 0 0, .slice none 0 0]), (7, 3, cNV u10.v)] ⟨rfl, rfl, rfl, rfl, rfl, rfl, rfl, trivial⟩ ⟨rfl, rfl, rfl, rfl, trivial⟩ rfl fun ρ0 ff => ?_
    have hF12 : Frs st s12 (pcNW u10) := ⟨hO10.pres hP12, hN10, hP10.trans hP12⟩
    refine ⟨_, op_ldo (v := (vNV u10.v)) rfl rfl rfl rfl, ?_⟩
    refine ⟨_, rfl, ?_⟩
    refine ⟨_, op_stw (vs := cNV u10.v) rfl rfl rfl rfl rfl rfl rfl rfl, ?_⟩
    refine ⟨_, op_stw (vs := [vI 0, vI 0, vI 0, vI 0, vI 0, .slice none 0 0, vI 0, .slice none 0 0, .slice none 0 0, .slice none 0 0, .slice none 0 0, .slice none 0 0]) rfl rfl rfl rfl rfl rfl rfl rfl, ?_⟩
    refine cxs ?_
    have hF := hF12.join Frs.mg0
    exact ⟨.inl rfl, _, rfl, u10, zMV, false, rfl, syn_no (fun k => k.slot h24) h10, hF.1, hF.2.1, hF.2.2⟩
theorem ac_spec_Syn (g : NV) (to : Int) (st : St) (hR : RdN st g) (hb : bigN g.x) : C 34 [.agg #[vI g.id, vI g.n, vS g.s.p g.s.x.items.length, vS g.s.q g.s.x.floors.length, vS g.t.p g.t.l.length, vI g.t.root, vI g.g.cap, vI g.g.frm, vS g.g.p g.g.l.length, vS g.got.p g.got.l.length, vS g.acked.p g.acked.l.length, vS g.seen.p g.seen.t.length, vI g.num, vI g.slots, vS g.sess.p g.sess.l.length, vI g.wait, vI g.limit, vI g.clock, vS g.rises.p g.rises.l.length], vI to] st (fun v s => ∃ (u : NW) (m : MV) (b : Bool), v = .tuple #[.agg #[vI u.id, vI u.n, vS u.s.p u.s.x.items.length, vS u.s.q u.s.x.floors.length, vS u.t.p u.t.l.length, vI u.t.root, vI u.g.cap, vI u.g.frm, vS u.g.p u.g.l.length, vS u.got.p u.got.l.length, vS u.acked.p u.acked.l.length, vS u.seen.p u.seen.t.length, vI u.num, vI u.slots, vS u.sess.p u.sess.l.length, vI u.wait, vI u.limit, vI u.clock, vS u.rises.p u.rises.l.length], .agg #[vI m.kind, vI m.frm, vI m.to, vI m.num, vI m.hi, vS m.tree.p m.tree.l.length, vI m.tree.root, vS m.vec.p m.vec.l.length, vS m.leaves.p m.leaves.l.length, vS m.part.p m.part.x.items.length, vS m.part.q m.part.x.floors.length, vS m.marks.p m.marks.l.length], vB b] ∧ (u.x, m.x, b) = synF g.x to ∧ OwnP s (pcNW u ++ pcMV m) ∧ NewP st.next (pcNW u ++ pcMV m) ∧ Pres st s) := by
 refine AC.enterX (i := ⟨[2, 4, 5, 7, 8], [2, 4, 5, 7, 8, 27, 30, 35, 41, 44, 45, 48, 53, 56, 59, 62], [0, 1, 2, 4, 5, 6, 7, 8, 38]⟩) [(8, [2], [1]), (1008, [], [8])] Tryz.func34 rfl rfl (by kernel_rfl) (by kernel_rfl) Tryz.ntmps34 (Nat.le_of_ble_eq_true rfl) rfl ?_
 iterate 3 refine ⟨_, rfl, ?_⟩
 refine AW.cutM (3) st [(1, vI to), (2, vL 2 0 (0)), (4, vL 4 0 (1)), (5, vL 5 0 (2)), (6, vB false)] [(2, 0, cNV g), (4, 1, [vI 0, vI 0, .slice none 0 0, .slice none 0 0, .slice none 0 0, vI 0, vI 0, vI 0, .slice none 0 0, .slice none 0 0, .slice none 0 0, .slice none 0 0, vI 0, vI 0, .slice none 0 0, vI 0, vI 0, vI 0, .slice none 0 0]), (5, 2, [vI 0, vI 0, vI 0, vI 0, vI 0, .slice none 0 0, vI 0, .slice none 0 0, .slice none 0 0, .slice none 0 0, .slice none 0 0, .slice none 0 0])] ⟨rfl, rfl, rfl, rfl, rfl, trivial⟩ ⟨rfl, rfl, rfl, trivial⟩ rfl fun ρ0 ff => ?_
 refine ⟨_, op_ldo (v := (vNV g)) rfl rfl rfl rfl, ?_⟩
 refine ⟨_, rfl, (ac_spec_l11Copy g st hR (by first | assumption | omega)).mono ?_⟩
 rintro _ s10 ⟨u10, rfl, h10, hO10, hN10, hP10⟩
 refine ⟨_, rfl, ?_⟩
 refine ⟨_, op_stw (vs := cNV u10.v) rfl rfl rfl rfl rfl rfl rfl rfl, ?_⟩
 refine AW.cutM (4) s10 [(1, vI to), (2, vL 2 0 (0)), (4, vL 4 0 (1)), (5, vL 5 0 (2)), (6, vB false), (7, vL 7 0 (3))] [(2, 0, cNV g), (4, 1, [vI 0, vI 0, .slice none 0 0, .slice none 0 0, .slice none 0 0, vI 0, vI 0, vI 0, .slice none 0 0, .slice none 0 0, .slice none 0 0, .slice none 0 0, vI 0, vI 0, .slice none 0 0, vI 0, vI 0, vI 0, .slice none 0 0]), (5, 2, [vI 0, vI 0, vI 0, vI 0, vI 0, .slice none 0 0, vI 0, .slice none 0 0, .slice none 0 0, .slice none 0 0, .slice none 0 0, .slice none 0 0]), (7, 3, cNV u10.v)] ⟨rfl, rfl, rfl, rfl, rfl, rfl, trivial⟩ ⟨rfl, rfl, rfl, rfl, trivial⟩ rfl fun ρ0 ff => ?_
 refine ⟨_, op_ldo (v := (vNV g)) rfl rfl rfl rfl, ?_⟩
 refine ⟨_, rfl, (ac_spec_NodeOk g s10 (hR.pres hP10) (by first | assumption | omega)).mono ?_⟩
 rintro _ s12 ⟨x12, rfl, h12, hP12⟩
 rcases x12 with _|_
 ·replace h12 := fun k => Bool.false_ne_true (h12.2 k)
  iterate 5 refine ⟨_, rfl, ?_⟩
  refine AW.cutM (4) s12 [(1, vI to), (4, vL 4 0 (1)), (5, vL 5 0 (2)), (6, vB false), (7, vL 7 0 (3)), (38, vB true)] [(4, 1, [vI 0, vI 0, .slice none 0 0, .slice none 0 0, .slice none 0 0, vI 0, vI 0, vI 0, .slice none 0 0, .slice none 0 0, .slice none 0 0, .slice none 0 0, vI 0, vI 0, .slice none 0 0, vI 0, vI 0, vI 0, .slice none 0 0]), (5, 2, [vI 0, vI 0, vI 0, vI 0, vI 0, .slice none 0 0, vI 0, .slice none 0 0, .slice none 0 0, .slice none 0 0, .slice none 0 0, .slice none 0 0]), (7, 3, cNV u10.v)] ⟨rfl, rfl, rfl, rfl, rfl, rfl, trivial⟩ ⟨rfl, rfl, rfl, trivial⟩ rfl fun ρ0 ff => ?_
  have hF12 : Frs st s12 (pcNW u10) := ⟨hO10.pres hP12, hN10, hP10.trans hP12⟩
  refine ⟨_, op_ldo (v := (vNV u10.v)) rfl rfl rfl rfl, ?_⟩
  refine ⟨_, rfl, ?_⟩
  refine ⟨_, op_stw (vs := cNV u10.v) rfl rfl rfl rfl rfl rfl rfl rfl, ?_⟩
  refine ⟨_, op_stw (vs := [vI 0, vI 0, vI 0, vI 0, vI 0, .slice none 0 0, vI 0, .slice none 0 0, .slice none 0 0, .slice none 0 0, .slice none 0 0, .slice none 0 0]) rfl rfl rfl rfl rfl rfl rfl rfl, ?_⟩
  refine cxs ?_
  have hF := hF12.join Frs.mg0
  exact ⟨.inl rfl, _, rfl, u10, zMV, false, rfl, syn_no (fun k => h12 k.ok) h10, hF.1, hF.2.1, hF.2.2⟩
 ·replace h12 := h12.1 rfl
  refine ⟨_, rfl, ?_⟩
  refine ⟨_, op_ldo (v := (vNV g)) rfl rfl rfl rfl, ?_⟩
  have hn : 1 ≤ g.n ∧ g.n ≤ 5 := h12.n
  refine ⟨_, rfl, (ac_spec_l13Peer g to s12 (by first | assumption | omega)).mono ?_⟩
  rintro _ s12 ⟨x17, rfl, h17, rfl⟩
  rcases x17 with _|_
  ·replace h17 := fun k => Bool.false_ne_true (h17.2 k)
   iterate 5 refine ⟨_, rfl, ?_⟩
   refine AW.cutM (4) s12 [(1, vI to), (4, vL 4 0 (1)), (5, vL 5 0 (2)), (6, vB false), (7, vL 7 0 (3)), (38, vB true)] [(4, 1, [vI 0, vI 0, .slice none 0 0, .slice none 0 0, .slice none 0 0, vI 0, vI 0, vI 0, .slice none 0 0, .slice none 0 0, .slice none 0 0, .slice none 0 0, vI 0, vI 0, .slice none 0 0, vI 0, vI 0, vI 0, .slice none 0 0]), (5, 2, [vI 0, vI 0, vI 0, vI 0, vI 0, .slice none 0 0, vI 0, .slice none 0 0, .slice none 0 0, .slice none 0 0, .slice none 0 0, .slice none 0 0]), (7, 3, cNV u10.v)] ⟨rfl, rfl, rfl, rfl, rfl, rfl, trivial⟩ ⟨rfl, rfl, rfl, trivial⟩ rfl fun ρ0 ff => ?_
   have hF12 : Frs st s12 (pcNW u10) := ⟨hO10.pres hP12, hN10, hP10.trans hP12⟩
   refine ⟨_, op_ldo (v := (vNV u10.v)) rfl rfl rfl rfl, ?_⟩
   refine ⟨_, rfl, ?_⟩
   refine ⟨_, op_stw (vs := cNV u10.v) rfl rfl rfl rfl rfl rfl rfl rfl, ?_⟩
   refine ⟨_, op_stw (vs := [vI 0, vI 0, vI 0, vI 0, vI 0, .slice none 0 0, vI 0, .slice none 0 0, .slice none 0 0, .slice none 0 0, .slice none 0 0, .slice none 0 0]) rfl rfl rfl rfl rfl rfl rfl rfl, ?_⟩
   refine cxs ?_
   have hF := hF12.join Frs.mg0
   exact ⟨.inl rfl, _, rfl, u10, zMV, false, rfl, syn_no (fun k => h17 k.peer) h10, hF.1, hF.2.1, hF.2.2⟩
  ·replace h17 := h17.1 rfl
   iterate 2 refine ⟨_, rfl, ?_⟩
   refine ⟨_, op_ldo (v := (vNV g)) rfl rfl rfl rfl, ?_⟩
   refine ⟨_, rfl, (ac_spec_Slot g to false s12 (hR.pres (hP10.trans hP12)) (by first | assumption | omega)).mono ?_⟩
   rintro _ s12 ⟨rfl, rfl⟩
   refine ⟨_, rfl, ?_⟩
   rintro (_|_) h24
   ·replace h24 : ¬ ((slotF g.sess.l to false 0) ≥ (0)) := of_decide_eq_false h24
    iterate 2 refine ⟨_, rfl, ?_⟩
    refine ⟨_, op_ldo rfl rfl rfl rfl, ?_⟩
    refine ow_cut [(1, vI to), (2, vL 2 0 (0)), (4, vL 4 0 (1)), (5, vL 5 0 (2)), (6, vB false), (7, vL 7 0 (3)), (26, vB false), (28, vS g.sess.p g.sess.l.length)] ⟨rfl, rfl, rfl, rfl, rfl, rfl, rfl, rfl, trivial⟩ fun ρ0 => ?_
    iterate 2 refine ⟨_, rfl, ?_⟩
    refine ⟨_, op_ldo rfl rfl rfl rfl, ?_⟩
    have hle0 : (g.sess.l.length : Int) ≤ g.slots := h12.sess.1
    refine ⟨_, rfl, ?_⟩
    rintro (_|_) h32
    ·replace h32 : ¬ ((g.sess.l.length : Int) = g.slots) := beq_eq_false_iff_ne.1 h32
     iterate 2 refine ⟨_, rfl, ?_⟩
     refine ⟨_, op_ldo rfl rfl rfl rfl, ?_⟩
     refine ⟨_, rfl, ?_⟩
     rintro (_|_) h37
     ·replace h37 : ¬ (g.num = (100000)) := beq_eq_false_iff_ne.1 h37
      refine ⟨_, rfl, ?_⟩
      refine AW.cutM (4) s12 [(1, vI to), (4, vL 4 0 (1)), (5, vL 5 0 (2)), (6, vB false), (7, vL 7 0 (3)), (38, vB false)] [(4, 1, [vI 0, vI 0, .slice none 0 0, .slice none 0 0, .slice none 0 0, vI 0, vI 0, vI 0, .slice none 0 0, .slice none 0 0, .slice none 0 0, .slice none 0 0, vI 0, vI 0, .slice none 0 0, vI 0, vI 0, vI 0, .slice none 0 0]), (5, 2, [vI 0, vI 0, vI 0, vI 0, vI 0, .slice none 0 0, vI 0, .slice none 0 0, .slice none 0 0, .slice none 0 0, .slice none 0 0, .slice none 0 0]), (7, 3, cNV u10.v)] ⟨rfl, rfl, rfl, rfl, rfl, rfl, trivial⟩ ⟨rfl, rfl, rfl, trivial⟩ rfl fun ρ0 ff => ?_
      have hF12 : Frs st s12 (pcNW u10) := ⟨hO10.pres hP12, hN10, hP10.trans hP12⟩
      refine cxs ?_
      refine ⟨_, rfl, ?_⟩
      refine ⟨_, op_ldo rfl rfl rfl rfl, ?_⟩
      have hn10 : u10.num = g.num := congrArg Nd.num h10
      have hnr : 0 ≤ g.num ∧ g.num ≤ 100000 := h12.num
      have hsl : g.slots ≤ 4 := h12.slots.2
      have hle : (g.sess.l.length : Int) ≤ g.slots := h12.sess.1
      have hs10 : u10.sess.l = g.sess.l := congrArg Nd.sess h10
      have hs11 : u10.sess.l.length = g.sess.l.length := by rw [hs10]
      have ew43 : IntKind.wrap .i64 (u10.num + (1)) = u10.num + (1) := wrap_i64 (by omega) (by omega)
      iterate 2 refine ⟨_, rfl, ?_⟩
      refine ⟨_, op_sto rfl rfl rfl rfl rfl rfl rfl, ?_⟩
      refine AW.cutM (4) s12 [(1, vI to), (4, vL 4 0 (1)), (5, vL 5 0 (2)), (6, vB false), (7, vL 7 0 (3))] [(4, 1, [vI 0, vI 0, .slice none 0 0, .slice none 0 0, .slice none 0 0, vI 0, vI 0, vI 0, .slice none 0 0, .slice none 0 0, .slice none 0 0, .slice none 0 0, vI 0, vI 0, .slice none 0 0, vI 0, vI 0, vI 0, .slice none 0 0]), (5, 2, [vI 0, vI 0, vI 0, vI 0, vI 0, .slice none 0 0, vI 0, .slice none 0 0, .slice none 0 0, .slice none 0 0, .slice none 0 0, .slice none 0 0]), (7, 3, [vI u10.id, vI u10.n, vS u10.s.p u10.s.x.items.length, vS u10.s.q u10.s.x.floors.length, vS u10.t.p u10.t.l.length, vI u10.t.root, vI u10.g.cap, vI u10.g.frm, vS u10.g.p u10.g.l.length, vS u10.got.p u10.got.l.length, vS u10.acked.p u10.acked.l.length, vS u10.seen.p u10.seen.t.length, vI (u10.num + (1)), vI u10.slots, vS u10.sess.p u10.sess.l.length, vI u10.wait, vI u10.limit, vI u10.clock, vS u10.rises.p u10.rises.l.length])] ⟨rfl, rfl, rfl, rfl, rfl, trivial⟩ ⟨rfl, rfl, (show some (3, [vI u10.id, vI u10.n, vS u10.s.p u10.s.x.items.length, vS u10.s.q u10.s.x.floors.length, vS u10.t.p u10.t.l.length, vI u10.t.root, vI u10.g.cap, vI u10.g.frm, vS u10.g.p u10.g.l.length, vS u10.got.p u10.got.l.length, vS u10.acked.p u10.acked.l.length, vS u10.seen.p u10.seen.t.length, vI (IntKind.wrap .i64 (u10.num + (1))), vI u10.slots, vS u10.sess.p u10.sess.l.length, vI u10.wait, vI u10.limit, vI u10.clock, vS u10.rises.p u10.rises.l.length]) = some (3, [vI u10.id, vI u10.n, vS u10.s.p u10.s.x.items.length, vS u10.s.q u10.s.x.floors.length, vS u10.t.p u10.t.l.length, vI u10.t.root, vI u10.g.cap, vI u10.g.frm, vS u10.g.p u10.g.l.length, vS u10.got.p u10.got.l.length, vS u10.acked.p u10.acked.l.length, vS u10.seen.p u10.seen.t.length, vI (u10.num + (1)), vI u10.slots, vS u10.sess.p u10.sess.l.length, vI u10.wait, vI u10.limit, vI u10.clock, vS u10.rises.p u10.rises.l.length]) by rw [ew43]), trivial⟩ rfl fun ρ0 ff => ?_
      refine ⟨_, rfl, ?_⟩
      refine ⟨_, op_ldo rfl rfl rfl rfl, ?_⟩
      refine ⟨_, rfl, ?_⟩
      refine ⟨_, op_ldo rfl rfl rfl rfl, ?_⟩
      refine ⟨_, rfl, ?_⟩
      refine op_one (z := 4) (a := ((⟨to, u10.num + 1, false, 0⟩ : Ses) : Ses)) (f := cSess) rfl rfl rfl rfl rfl (by decide) rfl (Nat.le_of_ble_eq_true rfl) rfl rfl rfl ?_
      refine op_snoc (z := 4) (st := s12) (f := cSess) (b := 32) (l := u10.sess.l) (x := (⟨to, u10.num + 1, false, 0⟩ : Ses)) rfl rfl rfl rfl rfl rfl rfl (by decide) len_cSess rfl rfl rfl (by omega) (by unfold maxLen; omega) hF12.1.ses ?_
      intro q52 s52 hO52 hP52 hN52
      refine ⟨_, rfl, ?_⟩
      refine ⟨_, op_sto rfl rfl rfl rfl rfl rfl rfl, ?_⟩
      refine AW.cutM (4) s52 [(1, vI to), (4, vL 4 0 (1)), (5, vL 5 0 (2)), (6, vB false), (7, vL 7 0 (3))] [(4, 1, [vI 0, vI 0, .slice none 0 0, .slice none 0 0, .slice none 0 0, vI 0, vI 0, vI 0, .slice none 0 0, .slice none 0 0, .slice none 0 0, .slice none 0 0, vI 0, vI 0, .slice none 0 0, vI 0, vI 0, vI 0, .slice none 0 0]), (5, 2, [vI 0, vI 0, vI 0, vI 0, vI 0, .slice none 0 0, vI 0, .slice none 0 0, .slice none 0 0, .slice none 0 0, .slice none 0 0, .slice none 0 0]), (7, 3, [vI u10.id, vI u10.n, vS u10.s.p u10.s.x.items.length, vS u10.s.q u10.s.x.floors.length, vS u10.t.p u10.t.l.length, vI u10.t.root, vI u10.g.cap, vI u10.g.frm, vS u10.g.p u10.g.l.length, vS u10.got.p u10.got.l.length, vS u10.acked.p u10.acked.l.length, vS u10.seen.p u10.seen.t.length, vI (u10.num + (1)), vI u10.slots, vS q52 (u10.sess.l ++ [(⟨to, u10.num + 1, false, 0⟩ : Ses)]).length, vI u10.wait, vI u10.limit, vI u10.clock, vS u10.rises.p u10.rises.l.length])] ⟨rfl, rfl, rfl, rfl, rfl, trivial⟩ ⟨rfl, rfl, rfl, trivial⟩ rfl fun ρ0 ff => ?_
      have hF52 : Frs st s52 (pcNW { u10 with sess := ⟨q52, u10.sess.l ++ [⟨to, u10.num + 1, false, 0⟩]⟩ }) := hF12.sessPush hP52 hO52 hN52
      have hR52 : RdN s52 { u10.v with num := u10.num + 1, sess := ⟨q52, u10.sess.l ++ [⟨to, u10.num + 1, false, 0⟩]⟩ } := OwnP.rdN (v := { u10 with num := u10.num + 1, sess := ⟨q52, u10.sess.l ++ [⟨to, u10.num + 1, false, 0⟩]⟩ }) hF52.1
      have hb10 : bigN u10.x := h10.symm ▸ hb
      have hb52 : bigN ({ u10.v with num := u10.num + 1, sess := ⟨q52, u10.sess.l ++ [⟨to, u10.num + 1, false, 0⟩]⟩ } : NV).x := ⟨hb10.s, hb10.t, hb10.g, hb10.got, hb10.acked, hb10.seen, by show (u10.sess.l ++ [_]).length ≤ 1048576; rw [List.length_append, hs11, List.length_singleton]; omega, hb10.rises⟩
      refine ⟨_, op_ldo (v := .agg #[vI u10.id, vI u10.n, vS u10.s.p u10.s.x.items.length, vS u10.s.q u10.s.x.floors.length, vS u10.t.p u10.t.l.length, vI u10.t.root, vI u10.g.cap, vI u10.g.frm, vS u10.g.p u10.g.l.length, vS u10.got.p u10.got.l.length, vS u10.acked.p u10.acked.l.length, vS u10.seen.p u10.seen.t.length, vI (u10.num + (1)), vI u10.slots, vS q52 (u10.sess.l ++ [(⟨to, u10.num + 1, false, 0⟩ : Ses)]).length, vI u10.wait, vI u10.limit, vI u10.clock, vS u10.rises.p u10.rises.l.length]) rfl rfl rfl rfl, ?_⟩
      refine ⟨_, rfl, ?_⟩
      refine ⟨_, op_ldo rfl rfl rfl rfl, ?_⟩
      refine ⟨_, rfl, (ac_spec_l13Msg { u10.v with num := u10.num + 1, sess := ⟨q52, u10.sess.l ++ [⟨to, u10.num + 1, false, 0⟩]⟩ } 2 to (u10.num + 1) s52 hR52 hb52).mono ?_⟩
      rintro _ s58 ⟨u58, rfl, h58, hO58, hN58, hP58⟩
      refine ⟨_, rfl, ?_⟩
      refine ⟨_, op_stw (vs := cMV u58) rfl rfl rfl rfl rfl rfl rfl rfl, ?_⟩
      refine AW.cutM (5) s58 [(4, vL 4 0 (1)), (5, vL 5 0 (2)), (6, vB false), (7, vL 7 0 (3)), (8, vL 8 0 (4))] [(4, 1, [vI 0, vI 0, .slice none 0 0, .slice none 0 0, .slice none 0 0, vI 0, vI 0, vI 0, .slice none 0 0, .slice none 0 0, .slice none 0 0, .slice none 0 0, vI 0, vI 0, .slice none 0 0, vI 0, vI 0, vI 0, .slice none 0 0]), (5, 2, [vI 0, vI 0, vI 0, vI 0, vI 0, .slice none 0 0, vI 0, .slice none 0 0, .slice none 0 0, .slice none 0 0, .slice none 0 0, .slice none 0 0]), (7, 3, [vI u10.id, vI u10.n, vS u10.s.p u10.s.x.items.length, vS u10.s.q u10.s.x.floors.length, vS u10.t.p u10.t.l.length, vI u10.t.root, vI u10.g.cap, vI u10.g.frm, vS u10.g.p u10.g.l.length, vS u10.got.p u10.got.l.length, vS u10.acked.p u10.acked.l.length, vS u10.seen.p u10.seen.t.length, vI (u10.num + (1)), vI u10.slots, vS q52 (u10.sess.l ++ [(⟨to, u10.num + 1, false, 0⟩ : Ses)]).length, vI u10.wait, vI u10.limit, vI u10.clock, vS u10.rises.p u10.rises.l.length]), (8, 4, cMV u58)] ⟨rfl, rfl, rfl, rfl, rfl, trivial⟩ ⟨rfl, rfl, rfl, rfl, trivial⟩ rfl fun ρ0 ff => ?_
      refine ⟨_, rfl, ?_⟩
      refine ⟨_, op_ldo rfl rfl rfl rfl, ?_⟩
      refine ⟨_, rfl, (ac_spec_l6Copy u10.t s58 (hP58.rows hR52.t) hb10.t).mono ?_⟩
      rintro _ s61 ⟨u61, rfl, h61, h61', hO61, hN61, hP61⟩
      refine ⟨_, rfl, ?_⟩
      refine ⟨_, op_sto rfl rfl rfl rfl rfl rfl rfl, ?_⟩
      refine AW.cutM (5) s61 [(4, vL 4 0 (1)), (5, vL 5 0 (2)), (6, vB false), (7, vL 7 0 (3)), (8, vL 8 0 (4))] [(4, 1, [vI 0, vI 0, .slice none 0 0, .slice none 0 0, .slice none 0 0, vI 0, vI 0, vI 0, .slice none 0 0, .slice none 0 0, .slice none 0 0, .slice none 0 0, vI 0, vI 0, .slice none 0 0, vI 0, vI 0, vI 0, .slice none 0 0]), (5, 2, [vI 0, vI 0, vI 0, vI 0, vI 0, .slice none 0 0, vI 0, .slice none 0 0, .slice none 0 0, .slice none 0 0, .slice none 0 0, .slice none 0 0]), (7, 3, [vI u10.id, vI u10.n, vS u10.s.p u10.s.x.items.length, vS u10.s.q u10.s.x.floors.length, vS u10.t.p u10.t.l.length, vI u10.t.root, vI u10.g.cap, vI u10.g.frm, vS u10.g.p u10.g.l.length, vS u10.got.p u10.got.l.length, vS u10.acked.p u10.acked.l.length, vS u10.seen.p u10.seen.t.length, vI (u10.num + (1)), vI u10.slots, vS q52 (u10.sess.l ++ [(⟨to, u10.num + 1, false, 0⟩ : Ses)]).length, vI u10.wait, vI u10.limit, vI u10.clock, vS u10.rises.p u10.rises.l.length]), (8, 4, [vI u58.kind, vI u58.frm, vI u58.to, vI u58.num, vI u58.hi, vS u61.p u61.l.length, vI u61.root, vS u58.vec.p u58.vec.l.length, vS u58.leaves.p u58.leaves.l.length, vS u58.part.p u58.part.x.items.length, vS u58.part.q u58.part.x.floors.length, vS u58.marks.p u58.marks.l.length])] ⟨rfl, rfl, rfl, rfl, rfl, trivial⟩ ⟨rfl, rfl, rfl, rfl, trivial⟩ rfl fun ρ0 ff => ?_
      refine ⟨_, op_ldo (v := .agg #[vI u10.id, vI u10.n, vS u10.s.p u10.s.x.items.length, vS u10.s.q u10.s.x.floors.length, vS u10.t.p u10.t.l.length, vI u10.t.root, vI u10.g.cap, vI u10.g.frm, vS u10.g.p u10.g.l.length, vS u10.got.p u10.got.l.length, vS u10.acked.p u10.acked.l.length, vS u10.seen.p u10.seen.t.length, vI (u10.num + (1)), vI u10.slots, vS q52 (u10.sess.l ++ [(⟨to, u10.num + 1, false, 0⟩ : Ses)]).length, vI u10.wait, vI u10.limit, vI u10.clock, vS u10.rises.p u10.rises.l.length]) rfl rfl rfl rfl, ?_⟩
      refine ⟨_, op_ldo (v := .agg #[vI u58.kind, vI u58.frm, vI u58.to, vI u58.num, vI u58.hi, vS u61.p u61.l.length, vI u61.root, vS u58.vec.p u58.vec.l.length, vS u58.leaves.p u58.leaves.l.length, vS u58.part.p u58.part.x.items.length, vS u58.part.q u58.part.x.floors.length, vS u58.marks.p u58.marks.l.length]) rfl rfl rfl rfl, ?_⟩
      refine ⟨ld_own rfl rfl rfl, ?_⟩
      refine ⟨_, op_stw (vs := [vI u10.id, vI u10.n, vS u10.s.p u10.s.x.items.length, vS u10.s.q u10.s.x.floors.length, vS u10.t.p u10.t.l.length, vI u10.t.root, vI u10.g.cap, vI u10.g.frm, vS u10.g.p u10.g.l.length, vS u10.got.p u10.got.l.length, vS u10.acked.p u10.acked.l.length, vS u10.seen.p u10.seen.t.length, vI (u10.num + (1)), vI u10.slots, vS q52 (u10.sess.l ++ [(⟨to, u10.num + 1, false, 0⟩ : Ses)]).length, vI u10.wait, vI u10.limit, vI u10.clock, vS u10.rises.p u10.rises.l.length]) rfl rfl rfl rfl rfl rfl rfl rfl, ?_⟩
      refine ⟨sx_cons ⟨_, _, _, rfl, rfl, rfl, by decide⟩ (sx_nil), ?_⟩
      refine ⟨_, op_stw (vs := [vI u58.kind, vI u58.frm, vI u58.to, vI u58.num, vI u58.hi, vS u61.p u61.l.length, vI u61.root, vS u58.vec.p u58.vec.l.length, vS u58.leaves.p u58.leaves.l.length, vS u58.part.p u58.part.x.items.length, vS u58.part.q u58.part.x.floors.length, vS u58.marks.p u58.marks.l.length]) rfl rfl rfl rfl rfl rfl rfl rfl, ?_⟩
      refine cxs ?_
      have hF := (hF52.join (Frs.tree (u := u61) ⟨hO58, hN58, hP58⟩ (Frs.one hO61 hN61 hP61)))
      have hsy : synOk g.x to := ⟨h12, h17, h24, by show (g.sess.l.length : Int) < g.slots; omega, h37⟩
      exact ⟨.inl rfl, _, rfl, { u10 with num := u10.num + 1, sess := ⟨q52, u10.sess.l ++ [⟨to, u10.num + 1, false, 0⟩]⟩ }, { u58 with tree := u61 }, true, rfl, syn_yes (x := u10.x) hsy h10 h58 (by first | exact tv_xx h61 h61' | exact (tv_xx h61 h61').trans (congrArg Nd.t h10)), hF.1, hF.2.1, hF.2.2⟩
     ·replace h37 : g.num = (100000) := beq_iff_eq.1 h37
      refine ⟨_, rfl, ?_⟩
      refine AW.cutM (4) s12 [(1, vI to), (4, vL 4 0 (1)), (5, vL 5 0 (2)), (6, vB false), (7, vL 7 0 (3)), (38, vB true)] [(4, 1, [vI 0, vI 0, .slice none 0 0, .slice none 0 0, .slice none 0 0, vI 0, vI 0, vI 0, .slice none 0 0, .slice none 0 0, .slice none 0 0, .slice none 0 0, vI 0, vI 0, .slice none 0 0, vI 0, vI 0, vI 0, .slice none 0 0]), (5, 2, [vI 0, vI 0, vI 0, vI 0, vI 0, .slice none 0 0, vI 0, .slice none 0 0, .slice none 0 0, .slice none 0 0, .slice none 0 0, .slice none 0 0]), (7, 3, cNV u10.v)] ⟨rfl, rfl, rfl, rfl, rfl, rfl, trivial⟩ ⟨rfl, rfl, rfl, trivial⟩ rfl fun ρ0 ff => ?_
      have hF12 : Frs st s12 (pcNW u10) := ⟨hO10.pres hP12, hN10, hP10.trans hP12⟩
      refine ⟨_, op_ldo (v := (vNV u10.v)) rfl rfl rfl rfl, ?_⟩
      refine ⟨_, rfl, ?_⟩
      refine ⟨_, op_stw (vs := cNV u10.v) rfl rfl rfl rfl rfl rfl rfl rfl, ?_⟩
      refine ⟨_, op_stw (vs := [vI 0, vI 0, vI 0, vI 0, vI 0, .slice none 0 0, vI 0, .slice none 0 0, .slice none 0 0, .slice none 0 0, .slice none 0 0, .slice none 0 0]) rfl rfl rfl rfl rfl rfl rfl rfl, ?_⟩
      refine cxs ?_
      have hF := hF12.join Frs.mg0
      exact ⟨.inl rfl, _, rfl, u10, zMV, false, rfl, syn_no (fun k => k.num h37) h10, hF.1, hF.2.1, hF.2.2⟩
    ·replace h32 : (g.sess.l.length : Int) = g.slots := beq_iff_eq.1 h32
     iterate 2 refine ⟨_, rfl, ?_⟩
     refine AW.cutM (4) s12 [(1, vI to), (4, vL 4 0 (1)), (5, vL 5 0 (2)), (6, vB false), (7, vL 7 0 (3)), (38, vB true)] [(4, 1, [vI 0, vI 0, .slice none 0 0, .slice none 0 0, .slice none 0 0, vI 0, vI 0, vI 0, .slice none 0 0, .slice none 0 0, .slice none 0 0, .slice none 0 0, vI 0, vI 0, .slice none 0 0, vI 0, vI 0, vI 0, .slice none 0 0]), (5, 2, [vI 0, vI 0, vI 0, vI 0, vI 0, .slice none 0 0, vI 0, .slice none 0 0, .slice none 0 0, .slice none 0 0, .slice none 0 0, .slice none 0 0]), (7, 3, cNV u10.v)] ⟨rfl, rfl, rfl, rfl, rfl, rfl, trivial⟩ ⟨rfl, rfl, rfl, trivial⟩ rfl fun ρ0 ff => ?_
     have hF12 : Frs st s12 (pcNW u10) := ⟨hO10.pres hP12, hN10, hP10.trans hP12⟩
     refine ⟨_, op_ldo (v := (vNV u10.v)) rfl rfl rfl rfl, ?_⟩
     refine ⟨_, rfl, ?_⟩
     refine ⟨_, op_stw (vs := cNV u10.v) rfl rfl rfl rfl rfl rfl rfl rfl, ?_⟩
     refine ⟨_, op_stw (vs := [vI 0, vI 0, vI 0, vI 0, vI 0, .slice none 0 0, vI 0, .slice none 0 0, .slice none 0 0, .slice none 0 0, .slice none 0 0, .slice none 0 0]) rfl rfl rfl rfl rfl rfl rfl rfl, ?_⟩
     refine cxs ?_
     have hF := hF12.join Frs.mg0
     exact ⟨.inl rfl, _, rfl, u10, zMV, false, rfl, syn_no (fun k => absurd k.room (by show ¬ (g.sess.l.length : Int) < g.slots; omega)) h10, hF.1, hF.2.1, hF.2.2⟩
   ·replace h24 : (slotF g.sess.l to false 0) ≥ (0) := of_decide_eq_true h24
    iterate 3 refine ⟨_, rfl, ?_⟩
    refine AW.cutM (4) s12 [(1, vI to), (4, vL 4 0 (1)), (5, vL 5 0 (2)), (6, vB false), (7, vL 7 0 (3)), (38, vB true)] [(4, 1, [vI 0, vI 0, .slice none 0 0, .slice none 0 0, .slice none 0 0, vI 0, vI 0, vI 0, .slice none 0 0, .slice none 0 0, .slice none 0 0, .slice none 0 0, vI 0, vI 0, .slice none 0 0, vI 0, vI 0, vI 0, .slice none 0 0]), (5, 2, [vI 0, vI 0, vI 0, vI 0, vI 0, .slice none 0 0, vI 0, .slice none 0 0, .slice none 0 0, .slice none 0 0, .slice none 0 0, .slice none 0 0]), (7, 3, cNV u10.v)] ⟨rfl, rfl, rfl, rfl, rfl, rfl, trivial⟩ ⟨rfl, rfl, rfl, trivial⟩ rfl fun ρ0 ff => ?_
    have hF12 : Frs st s12 (pcNW u10) := ⟨hO10.pres hP12, hN10, hP10.trans hP12⟩
    refine ⟨_, op_ldo (v := (vNV u10.v)) rfl rfl rfl rfl, ?_⟩
    refine ⟨_, rfl, ?_⟩
    refine ⟨_, op_stw (vs := cNV u10.v) rfl rfl rfl rfl rfl rfl rfl rfl, ?_⟩
    refine ⟨_, op_stw (vs := [vI 0, vI 0, vI 0, vI 0, vI 0, .slice none 0 0, vI 0, .slice none 0 0, .slice none 0 0, .slice none 0 0, .slice none 0 0, .slice none 0 0]) rfl rfl rfl rfl rfl rfl rfl rfl, ?_⟩
    refine cxs ?_
    have hF := hF12.join Frs.mg0
    exact ⟨.inl rfl, _, rfl, u10, zMV, false, rfl, syn_no (fun k => k.slot h24) h10, hF.1, hF.2.1, hF.2.2⟩
abbrev pcTV (u : TV) : List Pc := pcIs u.toRV
theorem OwnP.rdTV {st : St} {u : TV} (h : OwnP st (pcTV u)) : Rows st 1 fI u.p u.l := OwnP.rdIs h
def mkTV (u : TV) (k : Int) : TV := ⟨mkIs u.toRV k, u.root⟩
theorem mkp_TV (u : TV) (k : Int) : (pcTV (mkTV u k)).map (·.p) = (pcTV u).map (·.p) := rfl
def RdTr (st : St) (t : TV) : Prop := Rows st 1 fI t.p t.l
theorem RdTr.pres {st st' : St} {t : TV} (h : RdTr st t) (k : Pres st st') : RdTr st' t := k.rows h
abbrev cntTV (t : Tr) : Nat := t.leaves.length
def bigTr (t : Tr) : Prop := t.leaves.length ≤ 1048576
theorem uc_markTree (u : TV) (k : Int) (st : St) (hO : OwnP st (pcTV u)) (hb : bigTr u.x) (h0 : 0 ≤ k) (hk : k ≤ 137438953472) : C 63 [.agg #[vS u.p u.l.length, vI u.root], vI k] st (fun v s => v = vI (k + (cntTV u.x : Int)) ∧ OwnP s (pcTV (mkTV u k)) ∧ PrL ((pcTV u).map (·.p)) st s) := by
 refine AC.enterX (i := ⟨[2], [2, 5], [0, 1, 2, 4]⟩) [] Tryz.func63 rfl rfl (by kernel_rfl) (by kernel_rfl) Tryz.ntmps63 (Nat.le_of_ble_eq_true rfl) rfl ?_
 refine ⟨_, rfl, ?_⟩
 refine AW.cutM (1) st [(1, vI k), (2, vL 2 0 (0)), (4, vI (0))] [(2, 0, [vS u.p u.l.length, vI u.root])] ⟨rfl, rfl, rfl, trivial⟩ ⟨rfl, trivial⟩ rfl fun ρ0 ff => ?_
 refine ⟨_, rfl, ?_⟩
 refine ⟨_, op_ldo rfl rfl rfl rfl, ?_⟩
 refine ⟨_, rfl, (uc_markIntS u.toRV k st hO hb h0 hk).mono ?_⟩
 rintro _ s8 ⟨rfl, hO8, hP8⟩
 refine cxs ?_
 refine cxs ?_
 exact ⟨.inl rfl, _, rfl, rfl, hO8, hP8⟩
theorem uc_heldTree (u : TV) (k : Int) (st : St) (hR : Rows st 1 fI (mkTV u k).p (mkTV u k).l) (hb : bigTr u.x) (h0 : 0 ≤ k) (hk : k ≤ 137438953472) : C 79 [.agg #[vS u.p u.l.length, vI u.root], vI k] st (fun v s => v = vI (k + (cntTV u.x : Int)) ∧ Pres st s) := by
 refine AC.enterX (i := ⟨[2], [2, 5], [0, 1, 2, 4, 10]⟩) [] Tryz.func79 rfl rfl (by kernel_rfl) (by kernel_rfl) Tryz.ntmps79 (Nat.le_of_ble_eq_true rfl) rfl ?_
 refine ⟨_, rfl, ?_⟩
 refine AW.cutM (1) st [(1, vI k), (2, vL 2 0 (0)), (4, vI (0))] [(2, 0, [vS u.p u.l.length, vI u.root])] ⟨rfl, rfl, rfl, trivial⟩ ⟨rfl, trivial⟩ rfl fun ρ0 ff => ?_
 refine ⟨_, rfl, ?_⟩
 refine ⟨_, op_ldo rfl rfl rfl rfl, ?_⟩
 refine ⟨_, rfl, (uc_heldIntS u.toRV k st hR hb h0 hk).mono ?_⟩
 rintro _ s8 ⟨rfl, hP8⟩
 refine AW.cutM (1) s8 [(1, vI (k + (cntIs u.l : Int))), (4, vI (0))] [] ⟨rfl, rfl, trivial⟩ trivial rfl fun ρ0 ff => ?_
 refine ⟨_, rfl, ?_⟩
 rintro (_|_) h10
 rotate_left
 ·exact absurd (of_decide_eq_true h10) ((by unfold cntIs; omega))
 refine AW.cutM (1) s8 [(1, vI (k + (cntIs u.l : Int))), (4, vI (0)), (10, vB false)] [] ⟨rfl, rfl, rfl, trivial⟩ trivial rfl fun ρ0 ff => ?_
 refine cxs ?_
 refine cxs ?_
 exact ⟨.inl rfl, _, rfl, rfl, hP8⟩
end Go.Proofs.YtbogbnjnjjhnbaaGreat.AM
