/- The law of marks on the abstract machine. -/
import Derived.Test.YtopcpcoklgepnaaE1
import Derived.Test.YtopcpcoklgepnaaM1
import Derived.Test.YtopcpcoklgepnaaD3
namespace Go.Proofs.Ytopcpcoklgepnaa.AM
open Go Go.Proofs
set_option linter.unusedVariables false
set_option linter.unusedSimpArgs false
set_option maxRecDepth 100000
set_option maxHeartbeats 4000000
/-- A marked state. -/
def mkS (s : Sta) (k : Int) : Sta := ⟨mkRow mkItm 6 s.items.length k, mkRow mkFlr 2 s.floors.length (k + 6 * (s.items.length : Int))⟩
theorem ac_laws_markState (s : SV) (k : Int) (st : St) (hO : OwnP st (pcS s)) (hb : bigS s.x) (h0 : 0 ≤ k) (hk : k ≤ 274877906944) : C 25 [.agg #[vS s.p s.x.items.length, vS s.q s.x.floors.length], vI k] st (fun v s' => v = vI (k + 6 * (s.x.items.length : Int) + 2 * (s.x.floors.length : Int)) ∧ OwnP s' (pcS ⟨s.p, s.q, mkS s.x k⟩) ∧ PrL [s.p, s.q] st s') := by
  have hs1 : s.x.items.length ≤ 1048576 := hb.1
  have hs2 : s.x.floors.length ≤ 1048576 := hb.2.1
  refine AC.enterX (i := ⟨[2], [2, 5, 9], [0, 1, 2, 4]⟩) [] Try.func25 rfl rfl (by kernel_rfl) (by kernel_rfl) Try.ntmps25 (Nat.le_of_ble_eq_true rfl) rfl ?_
  refine ⟨_, rfl, ?_⟩
  refine AW.cutM (1) st [(1, vI k), (2, vL 2 0 (0)), (4, vI (0))] [(2, 0, [vS s.p s.x.items.length, vS s.q s.x.floors.length])] ⟨rfl, rfl, rfl, trivial⟩ ⟨rfl, trivial⟩ rfl fun ρ0 ff => ?_
  iterate 2 refine ⟨_, rfl, ?_⟩
  refine ⟨_, rfl, (ac_laws_markItemS s.p s.x.items k st hO.items hb.1 h0 (by omega)).mono ?_⟩
  rintro _ s1 ⟨rfl, hO1, hP1⟩
  refine AW.cutM (1) s1 [(1, vI (k + 6 * (s.x.items.length : Int))), (2, vL 2 0 (0)), (4, vI (0))] [(2, 0, [vS s.p s.x.items.length, vS s.q s.x.floors.length])] ⟨rfl, rfl, rfl, trivial⟩ ⟨rfl, trivial⟩ rfl fun ρ0 ff => ?_
  have hA := OwnP.update (l := []) (m := [pcR 2 cFlr s.q s.x.floors]) (c := pcR 6 cItm s.p s.x.items) (d := pcR 6 cItm s.p (mkRow mkItm 6 s.x.items.length k)) hO hP1 (own_pc hO1) rfl
  have hF : OwnR s1 2 cFlr s.q s.x.floors := pc_own (by decide) len_cFlr (hA.1 _ (List.mem_cons_of_mem _ (List.mem_cons_self ..)))
  iterate 2 refine ⟨_, rfl, ?_⟩
  refine ⟨_, rfl, (ac_laws_markFloorS s.q s.x.floors (k + 6 * (s.x.items.length : Int)) s1 hF hb.2.1 (by omega) (by omega)).mono ?_⟩
  rintro _ s2 ⟨rfl, hO2, hP2⟩
  refine cx_sound _ _ _ _ _ ?_
  refine cx_sound _ _ _ _ _ ?_
  have hB := OwnP.update (l := [pcR 6 cItm s.p (mkRow mkItm 6 s.x.items.length k)]) (m := []) (c := pcR 2 cFlr s.q s.x.floors) (d := pcR 2 cFlr s.q (mkRow mkFlr 2 s.x.floors.length (k + 6 * (s.x.items.length : Int)))) hA hP2 (own_pc hO2) rfl
  exact ⟨.inl rfl, _, rfl, rfl, hB, (hP1.l (List.mem_cons_self ..)).trans (hP2.l (List.mem_cons_of_mem _ (List.mem_cons_self ..)))⟩
theorem PrL.newS {s : SV} {n : Nat} (hN : NewP n (pcS s)) : ∀ p ∈ [s.p, s.q], New n p := fun p hp => by
  rcases List.mem_cons.1 hp with rfl | hp
  · exact hN _ (List.mem_cons_self ..)
  · rw [List.mem_singleton.1 hp]; exact hN (pcR 2 cFlr s.q s.x.floors) (List.mem_cons_of_mem _ (List.mem_cons_self ..))
theorem PrL.oldS {s : SV} {st : St} (hO : OwnP st (pcS s)) : ∀ p ∈ [s.p, s.q], Old st.next p := fun p hp => by
  rcases List.mem_cons.1 hp with rfl | hp
  · exact hO.items.old
  · rw [List.mem_singleton.1 hp]; exact hO.floors.old
theorem PrL.ownR {α : Type} {st st' : St} {ps : List (Option Addr)} {z : Nat} {f : α → List Value} {q : Option Addr} {l : List α} (h0 : 0 < z) (hz : ∀ x, (f x).length = z) (h : PrL ps st st') (hO : OwnR st z f q l) (hd : ∀ p ∈ ps, Dis p q) : OwnR st' z f q l :=
  pc_own h0 hz ((OwnP.prl (OwnP.one (own_pc hO)) h fun c hc p hp => by rw [List.mem_singleton.1 hc]; exact hd p hp).1 _ (List.mem_singleton_self _))
theorem ac_spec_MarksOf' {s : SV} {x : Sta} (hx : s.x = x) (st : St) (hR : RdS st s) (hb : bigS x) : C 20 [.agg #[vS s.p s.x.items.length, vS s.q s.x.floors.length]] st (fun v s' => ∃ q, v = vS q (marksF (goneAt x) 5).length ∧ OwnR s' 2 cFlr q (marksF (goneAt x) 5) ∧ Pres st s' ∧ New st.next q) := by
  subst hx; exact ac_spec_MarksOf s st hR hb
theorem ac_impl_MarksOf' {s : SV} {x : Sta} (hx : s.x = x) (st : St) (hR : RdS st s) (hb : bigS x) : C 22 [.agg #[vS s.p s.x.items.length, vS s.q s.x.floors.length]] st (fun v s' => ∃ q, v = vS q (marksF (goneAt x) 5).length ∧ OwnR s' 2 cFlr q (marksF (goneAt x) 5) ∧ Pres st s' ∧ New st.next q) := by
  subst hx; exact ac_impl_MarksOf s st hR hb
theorem ac_laws_FnExactMarksOf (s : SV) (st : St) (hR : RdS st s ∧ maxS s.x) : C 4 [.agg #[vS s.p s.x.items.length, vS s.q s.x.floors.length]] st (fun v s => v = vB true) := by
  have hgl := marksF_len (goneAt s.x) 5
  have hgs : szOk (marksF (goneAt s.x) 5).length := by unfold szOk; omega
  refine AC.enterX (i := ⟨[1, 5], [1, 5], [0, 1, 2, 3, 4, 5, 6, 7, 8, 9, 10, 15, 26, 31, 42, 50, 53, 60, 65, 68]⟩) [(10, [2], [0])] Try.func4 rfl rfl (by kernel_rfl) (by kernel_rfl) Try.ntmps4 (Nat.le_of_ble_eq_true rfl) rfl ?_
  refine ⟨_, rfl, ?_⟩
  refine cx_sound _ _ _ _ _ ?_
  refine AW.cutM (1) st [(1, vL 1 0 (0)), (2, vB false), (3, vI (1048576))] [(1, 0, [vS s.p s.x.items.length, vS s.q s.x.floors.length])] ⟨rfl, rfl, rfl, trivial⟩ ⟨rfl, trivial⟩ rfl fun ρ0 ff => ?_
  refine ⟨_, rfl, ?_⟩
  refine ⟨_, rfl, (ac_laws_szState s 1048576 st hR.1 (by decide) (by decide) hR.2).mono ?_⟩
  rintro _ st ⟨r, rfl, hr, hz, rfl⟩
  refine AW.cutM (1) st [(1, vL 1 0 (0)), (2, vB false), (3, vI r)] [(1, 0, [vS s.p s.x.items.length, vS s.q s.x.floors.length])] ⟨rfl, rfl, rfl, trivial⟩ ⟨rfl, trivial⟩ rfl fun ρ0 ff => ?_
  refine ⟨_, rfl, ?_⟩
  rintro (_|_) h1
  · replace h1 : ¬ (r < 0) := of_decide_eq_false h1
    refine AW.cutM (1) st [(1, vL 1 0 (0)), (2, vB false), (15, vB false)] [(1, 0, [vS s.p s.x.items.length, vS s.q s.x.floors.length])] ⟨rfl, rfl, rfl, trivial⟩ ⟨rfl, trivial⟩ rfl fun ρ0 ff => ?_
    have hb := sz_bigS (s := s.x) (by have := hz (Int.not_lt.1 h1); omega)
    have hs1 : s.x.items.length ≤ 1048576 := hb.1
    have hs2 : s.x.floors.length ≤ 1048576 := hb.2.1
    refine cx_sound _ _ _ _ _ ?_
    refine ⟨_, rfl, ?_⟩
    refine ⟨_, rfl, (ac_laws_toState s st hR.1 hb).mono ?_⟩
    rintro _ s1 ⟨u1, rfl, hu1, hO1, hN1, hP1⟩
    refine ⟨_, rfl, (ac_spec_MarksOf' hu1 s1 hO1.rdS hb).mono ?_⟩
    rintro _ s2 ⟨qw, rfl, hOw, hPw, hNw⟩
    refine AW.cutM (1) s2 [(1, vL 1 0 (0)), (2, vB false), (4, vS qw (marksF (goneAt s.x) 5).length)] [(1, 0, [vS s.p s.x.items.length, vS s.q s.x.floors.length])] ⟨rfl, rfl, rfl, trivial⟩ ⟨rfl, trivial⟩ rfl fun ρ0 ff => ?_
    refine ⟨_, rfl, ?_⟩
    refine ⟨_, rfl, (ac_laws_toState s s2 (hR.1.pres (hP1.trans hPw)) hb).mono ?_⟩
    rintro _ s3 ⟨u2, rfl, hu2, hO2, hN2, hP2⟩
    iterate 2 refine ⟨_, rfl, ?_⟩
    refine AW.cutM (2) s3 [(1, vL 1 0 (0)), (2, vB false), (4, vS qw (marksF (goneAt s.x) 5).length), (5, vL 5 0 (1))] [(1, 0, [vS s.p s.x.items.length, vS s.q s.x.floors.length]), (5, 1, [vS u2.p u2.x.items.length, vS u2.q u2.x.floors.length])] ⟨rfl, rfl, rfl, rfl, trivial⟩ ⟨rfl, rfl, trivial⟩ rfl fun ρ0 ff => ?_
    refine ⟨_, rfl, ?_⟩
    refine ⟨_, rfl, (ac_impl_MarksOf' hu2 s3 hO2.rdS hb).mono ?_⟩
    rintro _ s4 ⟨qg, rfl, hOg, hPg, hNg⟩
    refine AW.cutM (2) s4 [(1, vL 1 0 (0)), (2, vB false), (4, vS qw (marksF (goneAt s.x) 5).length), (5, vL 5 0 (1)), (6, vS qg (marksF (goneAt s.x) 5).length)] [(1, 0, [vS s.p s.x.items.length, vS s.q s.x.floors.length]), (5, 1, [vS u2.p u2.x.items.length, vS u2.q u2.x.floors.length])] ⟨rfl, rfl, rfl, rfl, rfl, trivial⟩ ⟨rfl, rfl, trivial⟩ rfl fun ρ0 ff => ?_
    have hOw4 := (hP2.trans hPg).ownR hOw
    refine ⟨_, rfl, (AC.tru (ac_laws_eqMarkS qg qw (marksF (goneAt s.x) 5) (marksF (goneAt s.x) 5) s4 (hOg.rows len_cFlr) (hOw4.rows len_cFlr) hgs) rfl).mono ?_⟩
    rintro _ s4 ⟨rfl, rfl⟩
    refine ⟨_, rfl, ?_⟩
    refine AW.cutM (2) s4 [(1, vL 1 0 (0)), (2, vB false), (4, vS qw (marksF (goneAt s.x) 5).length), (5, vL 5 0 (1)), (6, vS qg (marksF (goneAt s.x) 5).length), (26, vB false)] [(1, 0, [vS s.p s.x.items.length, vS s.q s.x.floors.length]), (5, 1, [vS u2.p u2.x.items.length, vS u2.q u2.x.floors.length])] ⟨rfl, rfl, rfl, rfl, rfl, rfl, trivial⟩ ⟨rfl, rfl, trivial⟩ rfl fun ρ0 ff => ?_
    have hP4 := ((hP1.trans hPw).trans hP2).trans hPg
    refine cx_sound _ _ _ _ _ ?_
    refine ⟨_, rfl, ?_⟩
    refine ⟨ld_own rfl rfl rfl, ?_⟩
    refine ⟨_, rfl, ?_⟩
    refine ⟨_, rfl, (ac_laws_toState s s4 (hR.1.pres hP4) hb).mono ?_⟩
    rintro _ s5 ⟨u3, rfl, hu3, hO3, hN3, hP3⟩
    refine ⟨hP3.2, ?_⟩
    refine ⟨_, rfl, (AC.tru (ac_laws_eqState u2 u3 s5 ((hO2.pres (hPg.trans hP3)).rdS) hO3.rdS (hu2 ▸ hb)) (hu2.trans hu3.symm)).mono ?_⟩
    rintro _ s5 ⟨rfl, rfl⟩
    refine ⟨_, rfl, ?_⟩
    refine AW.cutM (2) s5 [(1, vL 1 0 (0)), (2, vB false), (4, vS qw (marksF (goneAt s.x) 5).length), (5, vL 5 0 (1)), (6, vS qg (marksF (goneAt s.x) 5).length), (31, vB false)] [(1, 0, [vS s.p s.x.items.length, vS s.q s.x.floors.length]), (5, 1, [vS u2.p u2.x.items.length, vS u2.q u2.x.floors.length])] ⟨rfl, rfl, rfl, rfl, rfl, rfl, trivial⟩ ⟨rfl, rfl, trivial⟩ rfl fun ρ0 ff => ?_
    refine cx_sound _ _ _ _ _ ?_
    refine AW.cutM (2) s5 [(1, vL 1 0 (0)), (2, vB false), (4, vS qw (marksF (goneAt s.x) 5).length), (5, vL 5 0 (1)), (6, vS qg (marksF (goneAt s.x) 5).length), (7, vI (1))] [(1, 0, [vS s.p s.x.items.length, vS s.q s.x.floors.length]), (5, 1, [vS u2.p u2.x.items.length, vS u2.q u2.x.floors.length])] ⟨rfl, rfl, rfl, rfl, rfl, rfl, trivial⟩ ⟨rfl, rfl, trivial⟩ rfl fun ρ0 ff => ?_
    refine ⟨_, rfl, ?_⟩
    refine ⟨_, rfl, (ac_laws_markState u2 1 s5 (hO2.pres (hPg.trans hP3)) (hu2 ▸ hb) (by decide) (by decide)).mono ?_⟩
    rintro _ s6 ⟨rfl, hO6, hL6⟩
    refine AW.cutM (2) s6 [(1, vL 1 0 (0)), (2, vB false), (4, vS qw (marksF (goneAt s.x) 5).length), (6, vS qg (marksF (goneAt s.x) 5).length), (7, vI (1 + 6 * (u2.x.items.length : Int) + 2 * (u2.x.floors.length : Int)))] [(1, 0, [vS s.p s.x.items.length, vS s.q s.x.floors.length])] ⟨rfl, rfl, rfl, rfl, rfl, trivial⟩ ⟨rfl, trivial⟩ rfl fun ρ0 ff => ?_
    have hOw6 := PrL.ownR (by decide) len_cFlr hL6 (hP3.ownR hOw4) fun p hp => (Dis.of hOw.old (PrL.newS hN2 p hp)).symm
    have hOg6 := PrL.ownR (by decide) len_cFlr hL6 (hP3.ownR hOg) fun p hp => Dis.of (PrL.oldS hO2 p hp) hNg
    have hP6 := hL6.pres (hP4.trans hP3) (PrL.newS (hN2.le (hP1.trans hPw).1))
    refine ⟨_, rfl, ?_⟩
    rintro (_|_) h2
    rotate_left
    · exact absurd (of_decide_eq_true h2) ((by omega))
    refine ⟨_, rfl, (AC.tru (ac_laws_eqMarkS qg qw (marksF (goneAt s.x) 5) (marksF (goneAt s.x) 5) s6 (hOg6.rows len_cFlr) (hOw6.rows len_cFlr) hgs) rfl).mono ?_⟩
    rintro _ s6 ⟨rfl, rfl⟩
    iterate 2 refine ⟨_, rfl, ?_⟩
    refine AW.cutM (2) s6 [(1, vL 1 0 (0)), (2, vB false), (4, vS qw (marksF (goneAt s.x) 5).length), (6, vS qg (marksF (goneAt s.x) 5).length), (42, vB false)] [(1, 0, [vS s.p s.x.items.length, vS s.q s.x.floors.length])] ⟨rfl, rfl, rfl, rfl, rfl, trivial⟩ ⟨rfl, trivial⟩ rfl fun ρ0 ff => ?_
    refine cx_sound _ _ _ _ _ ?_
    refine AW.cutM (2) s6 [(1, vL 1 0 (0)), (2, vB false), (4, vS qw (marksF (goneAt s.x) 5).length), (6, vS qg (marksF (goneAt s.x) 5).length), (8, vI (1))] [(1, 0, [vS s.p s.x.items.length, vS s.q s.x.floors.length])] ⟨rfl, rfl, rfl, rfl, rfl, trivial⟩ ⟨rfl, trivial⟩ rfl fun ρ0 ff => ?_
    refine ⟨_, rfl, (ac_laws_markMarkSx qg (marksF (goneAt s.x) 5) 1 s6 hOg6 hgs (by decide) (by decide)).mono ?_⟩
    rintro _ s7 ⟨rfl, hOg7, hP7⟩
    refine cx_sound _ _ _ _ _ ?_
    have hOw7 := hP7.ownR (Dis.of hOw.old (hNg.le hP2.1)).symm hOw6
    have hPs7 := hP7.pres hP6 (hNg.le ((hP1.trans hPw).trans hP2).1)
    refine AW.cutM (2) s7 [(1, vL 1 0 (0)), (2, vB false), (4, vS qw (marksF (goneAt s.x) 5).length), (6, vS qg (marksF (goneAt s.x) 5).length), (8, vI (1 + 2 * ((marksF (goneAt s.x) 5).length : Int))), (9, vI (1))] [(1, 0, [vS s.p s.x.items.length, vS s.q s.x.floors.length])] ⟨rfl, rfl, rfl, rfl, rfl, rfl, trivial⟩ ⟨rfl, trivial⟩ rfl fun ρ0 ff => ?_
    refine ⟨_, rfl, (ac_laws_heldMarkS qg (marksF (goneAt s.x) 5).length 1 s7 (hOg7.rows len_cFlr) hgs (by decide) (by decide)).mono ?_⟩
    rintro _ s8 ⟨rfl, hP8⟩
    refine AW.cutM (2) s8 [(1, vL 1 0 (0)), (2, vB false), (4, vS qw (marksF (goneAt s.x) 5).length), (6, vS qg (marksF (goneAt s.x) 5).length), (8, vI (1 + 2 * ((marksF (goneAt s.x) 5).length : Int))), (9, vI (1 + 2 * ((marksF (goneAt s.x) 5).length : Int)))] [(1, 0, [vS s.p s.x.items.length, vS s.q s.x.floors.length])] ⟨rfl, rfl, rfl, rfl, rfl, rfl, trivial⟩ ⟨rfl, trivial⟩ rfl fun ρ0 ff => ?_
    refine ⟨_, rfl, ?_⟩
    rintro (_|_) h3
    rotate_left
    · exact absurd (of_decide_eq_true h3) ((by omega))
    refine AW.cutM (2) s8 [(1, vL 1 0 (0)), (2, vB false), (4, vS qw (marksF (goneAt s.x) 5).length), (6, vS qg (marksF (goneAt s.x) 5).length), (8, vI (1 + 2 * ((marksF (goneAt s.x) 5).length : Int))), (9, vI (1 + 2 * ((marksF (goneAt s.x) 5).length : Int))), (50, vB false)] [(1, 0, [vS s.p s.x.items.length, vS s.q s.x.floors.length])] ⟨rfl, rfl, rfl, rfl, rfl, rfl, rfl, trivial⟩ ⟨rfl, trivial⟩ rfl fun ρ0 ff => ?_
    refine cx_sound _ _ _ _ _ ?_
    refine ⟨_, rfl, ?_⟩
    rintro (_|_) h4
    rotate_left
    · exact absurd (rfl) (bne_iff_ne.1 h4)
    refine AW.cutM (2) s8 [(1, vL 1 0 (0)), (2, vB false), (4, vS qw (marksF (goneAt s.x) 5).length), (6, vS qg (marksF (goneAt s.x) 5).length), (8, vI (1 + 2 * ((marksF (goneAt s.x) 5).length : Int))), (9, vI (1 + 2 * ((marksF (goneAt s.x) 5).length : Int))), (53, vB false)] [(1, 0, [vS s.p s.x.items.length, vS s.q s.x.floors.length])] ⟨rfl, rfl, rfl, rfl, rfl, rfl, rfl, trivial⟩ ⟨rfl, trivial⟩ rfl fun ρ0 ff => ?_
    refine cx_sound _ _ _ _ _ ?_
    refine ⟨_, rfl, ?_⟩
    refine ⟨_, rfl, (ac_laws_toState s s8 (hR.1.pres (hPs7.trans hP8)) hb).mono ?_⟩
    rintro _ s9 ⟨u4, rfl, hu4, hO4, hN4, hP9⟩
    refine ⟨_, rfl, (ac_impl_MarksOf' hu4 s9 hO4.rdS hb).mono ?_⟩
    rintro _ s10 ⟨qh, rfl, hOh, hPh, hNh⟩
    refine AW.cutM (2) s10 [(2, vB false), (4, vS qw (marksF (goneAt s.x) 5).length), (6, vS qg (marksF (goneAt s.x) 5).length), (8, vI (1 + 2 * ((marksF (goneAt s.x) 5).length : Int))), (9, vI (1 + 2 * ((marksF (goneAt s.x) 5).length : Int))), (10, vS qh (marksF (goneAt s.x) 5).length)] [] ⟨rfl, rfl, rfl, rfl, rfl, rfl, trivial⟩ trivial rfl fun ρ0 ff => ?_
    have hOw10 := ((hP8.trans hP9).trans hPh).ownR hOw7
    have hOg10 := ((hP8.trans hP9).trans hPh).ownR hOg7
    refine ⟨_, rfl, (AC.tru (ac_laws_eqMarkS qh qw (marksF (goneAt s.x) 5) (marksF (goneAt s.x) 5) s10 (hOh.rows len_cFlr) (hOw10.rows len_cFlr) hgs) rfl).mono ?_⟩
    rintro _ s10 ⟨rfl, rfl⟩
    refine ⟨_, rfl, ?_⟩
    refine AW.cutM (2) s10 [(2, vB false), (6, vS qg (marksF (goneAt s.x) 5).length), (8, vI (1 + 2 * ((marksF (goneAt s.x) 5).length : Int))), (9, vI (1 + 2 * ((marksF (goneAt s.x) 5).length : Int))), (60, vB false)] [] ⟨rfl, rfl, rfl, rfl, rfl, trivial⟩ trivial rfl fun ρ0 ff => ?_
    refine cx_sound _ _ _ _ _ ?_
    refine AW.cutM (2) s10 [(2, vB false), (6, vS qg (marksF (goneAt s.x) 5).length), (8, vI (1 + 2 * ((marksF (goneAt s.x) 5).length : Int))), (9, vI (1))] [] ⟨rfl, rfl, rfl, rfl, trivial⟩ trivial rfl fun ρ0 ff => ?_
    refine ⟨_, rfl, (ac_laws_heldMarkS qg (marksF (goneAt s.x) 5).length 1 s10 (hOg10.rows len_cFlr) hgs (by decide) (by decide)).mono ?_⟩
    rintro _ s11 ⟨rfl, hP11⟩
    refine AW.cutM (2) s11 [(2, vB false), (8, vI (1 + 2 * ((marksF (goneAt s.x) 5).length : Int))), (9, vI (1 + 2 * ((marksF (goneAt s.x) 5).length : Int)))] [] ⟨rfl, rfl, rfl, trivial⟩ trivial rfl fun ρ0 ff => ?_
    refine ⟨_, rfl, ?_⟩
    rintro (_|_) h5
    rotate_left
    · exact absurd (of_decide_eq_true h5) ((by omega))
    refine AW.cutM (2) s11 [(2, vB false), (8, vI (1 + 2 * ((marksF (goneAt s.x) 5).length : Int))), (9, vI (1 + 2 * ((marksF (goneAt s.x) 5).length : Int))), (65, vB false)] [] ⟨rfl, rfl, rfl, rfl, trivial⟩ trivial rfl fun ρ0 ff => ?_
    refine cx_sound _ _ _ _ _ ?_
    refine ⟨_, rfl, ?_⟩
    rintro (_|_) h6
    rotate_left
    · exact absurd (rfl) (bne_iff_ne.1 h6)
    refine AW.cutM (2) s11 [(2, vB false), (68, vB false)] [] ⟨rfl, rfl, trivial⟩ trivial rfl fun ρ0 ff => ?_
    refine cx_sound _ _ _ _ _ ?_
    refine cx_sound _ _ _ _ _ ?_
    exact ⟨.inl rfl, _, rfl, rfl⟩
  · replace h1 : r < 0 := of_decide_eq_true h1
    refine AW.cutM (1) st [(1, vL 1 0 (0)), (2, vB false), (15, vB true)] [(1, 0, [vS s.p s.x.items.length, vS s.q s.x.floors.length])] ⟨rfl, rfl, rfl, trivial⟩ ⟨rfl, trivial⟩ rfl fun ρ0 ff => ?_
    refine cx_sound _ _ _ _ _ ?_
    exact ⟨.inl rfl, _, rfl, rfl⟩
end Go.Proofs.Ytopcpcoklgepnaa.AM
