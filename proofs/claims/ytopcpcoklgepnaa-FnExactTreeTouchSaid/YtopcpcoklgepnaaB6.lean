/- Contracts of the program's bytes of states, and of leaves' sums. -/
import Derived.Test.YtopcpcoklgepnaaB5
namespace Go.Proofs.Ytopcpcoklgepnaa.AM
open Go Go.Proofs
set_option linter.unusedVariables false
set_option linter.unusedSimpArgs false
set_option maxRecDepth 100000
set_option maxHeartbeats 4000000
theorem ac_impl_StateBytes (s : SV) (st : St) (hR : RdS st s) (hb : bigS s.x) (hk : stateOk s.x) : C 169 [.agg #[vS s.p s.x.items.length, vS s.q s.x.floors.length]] st (fun v s' => ∃ q, v = vS q (stB s.x).length ∧ OwnR s' 1 fB q (stB s.x) ∧ New st.next q ∧ Pres st s') := by
  have hs1 : s.x.items.length ≤ 1048576 := hb.1
  have hs2 : s.x.floors.length ≤ 1048576 := hb.2.1
  have hpl1 := putN_len (s.x.items.length : Int)
  have hpl2 := putN_len (s.x.floors.length : Int)
  refine AC.enterX (i := ⟨[1, 5, 6, 8], [1, 5, 6, 8, 12, 16, 23, 26, 29, 32, 35, 38, 41, 48, 54, 62, 65], [0, 1, 2, 3, 5, 6, 8, 11, 17, 18, 19, 20, 55, 56, 57, 58]⟩) [(8, [3, 6, 9, 12, 15], [5, 8, 11, 14, 17]), (14, [3], [5])] Try.func169 rfl rfl (by kernel_rfl) (by kernel_rfl) Try.ntmps169 (Nat.le_of_ble_eq_true rfl) rfl ?_
  refine ⟨_, rfl, ?_⟩
  refine AW.cutM (1) st [(1, vL 1 0 (0)), (2, .slice none 0 0)] [(1, 0, [vS s.p s.x.items.length, vS s.q s.x.floors.length])] ⟨rfl, rfl, trivial⟩ ⟨rfl, trivial⟩ rfl fun ρ0 ff => ?_
  refine ⟨_, op_ldo rfl rfl rfl rfl, ?_⟩
  refine ⟨_, rfl, (AC.tru (ac_impl_StateOk s st hR hb) hk).mono ?_⟩
  rintro _ st ⟨rfl, rfl⟩
  refine ⟨_, rfl, ?_⟩
  refine AW.cutM (1) st [(1, vL 1 0 (0)), (2, .slice none 0 0), (11, vB false)] [(1, 0, [vS s.p s.x.items.length, vS s.q s.x.floors.length])] ⟨rfl, rfl, rfl, trivial⟩ ⟨rfl, trivial⟩ rfl fun ρ0 ff => ?_
  refine cx_sound _ _ _ _ _ ?_
  refine ⟨_, rfl, ?_⟩
  refine ⟨_, op_ldo rfl rfl rfl rfl, ?_⟩
  refine ⟨_, rfl, ?_⟩
  refine ⟨_, rfl, (ac_impl_PutNum (s.x.items.length : Int) st).mono ?_⟩
  rintro _ s15 ⟨q15, rfl, hO15, hN15, hP15⟩
  refine AW.cutM (1) s15 [(1, vL 1 0 (0)), (2, .slice none 0 0), (3, vS q15 (putN (s.x.items.length : Int)).length)] [(1, 0, [vS s.p s.x.items.length, vS s.q s.x.floors.length])] ⟨rfl, rfl, rfl, trivial⟩ ⟨rfl, trivial⟩ rfl fun ρ0 ff => ?_
  refine ⟨_, rfl, ?_⟩
  refine ⟨_, op_ldo rfl rfl rfl rfl, ?_⟩
  refine ⟨_, rfl, ?_⟩
  refine AW.cutM (1) s15 [(1, vL 1 0 (0)), (2, .slice none 0 0), (3, vS q15 (putN (s.x.items.length : Int)).length), (17, vS s.p s.x.items.length), (18, vI (s.x.items.length : Int)), (19, vI (0))] [(1, 0, [vS s.p s.x.items.length, vS s.q s.x.floors.length])] ⟨rfl, rfl, rfl, rfl, rfl, rfl, trivial⟩ ⟨rfl, trivial⟩ rfl fun ρ0 ff => ?_
  refine AW.loopM (fun x : Nat × Option Addr × List Int => [(1, vL 1 0 (0)), (2, .slice none 0 0), (3, vS x.2.1 x.2.2.length), (17, vS s.p s.x.items.length), (18, vI (s.x.items.length : Int)), (19, vI (x.1 : Int))]) (fun x : Nat × Option Addr × List Int => [(1, 0, [vS s.p s.x.items.length, vS s.q s.x.floors.length])]) (fun m (x : Nat × Option Addr × List Int) st' => m = s.x.items.length - x.1 ∧ x.1 ≤ s.x.items.length ∧ x.2.2 = putN (s.x.items.length : Int) ++ itsB (s.x.items.take x.1) ∧ OwnR st' 1 fB x.2.1 x.2.2 ∧ New st.next x.2.1 ∧ Pres st st') (0, q15, putN (s.x.items.length : Int)) _ ⟨rfl, rfl, rfl, rfl, rfl, rfl, trivial⟩ ⟨rfl, trivial⟩ ⟨rfl, Nat.zero_le _, (List.append_nil _).symm, hO15, hN15, hP15⟩ ?_
  rintro m ⟨i, q, b⟩ ρ0 ff gg st' ⟨rfl, hi, hv, hO, hN, hP⟩
  simp only at hi hv hO hN
  have hbl : b.length ≤ 5 + 38 * s.x.items.length := by rw [hv, List.length_append]; have := its_len hk i; omega
  refine ⟨_, rfl, ?_⟩
  rintro (_|_) h20
  · replace h20 : ¬ ((i : Int) < (s.x.items.length : Int)) := of_decide_eq_false h20
    refine AW.cutM (gg) st' [(1, vL 1 0 (0)), (2, .slice none 0 0), (3, vS q b.length), (17, vS s.p s.x.items.length), (18, vI (s.x.items.length : Int)), (19, vI (i : Int)), (20, vB false)] [(1, 0, [vS s.p s.x.items.length, vS s.q s.x.floors.length])] ⟨rfl, rfl, rfl, rfl, rfl, rfl, rfl, trivial⟩ ⟨rfl, trivial⟩ rfl fun ρ0 ff => ?_
    have hv1 : b = putN (s.x.items.length : Int) ++ itsB s.x.items := by rw [hv, show i = s.x.items.length by omega, List.take_length]
    obtain ⟨s1, hs1'⟩ : ∃ s1, s1 = st' := ⟨_, rfl⟩
    subst hs1'
    refine cx_sound _ _ _ _ _ ?_
    refine ⟨_, rfl, ?_⟩
    refine ⟨_, op_ldo rfl rfl rfl rfl, ?_⟩
    refine ⟨_, rfl, ?_⟩
    refine ⟨_, rfl, (ac_impl_PutNum (s.x.floors.length : Int) s1).mono ?_⟩
    rintro _ s51 ⟨q51, rfl, hO51, hN51, hP51⟩
    have hfm : fl [⟨q, b⟩, ⟨q51, putN (s.x.floors.length : Int)⟩] = b ++ putN (s.x.floors.length : Int) := by simp [fl]
    refine op_litR [⟨q, b⟩, ⟨q51, putN (s.x.floors.length : Int)⟩] rfl rfl rfl (by decide) rfl rfl rfl (by decide) ?_
    intro q52 s52 hO52 hP52 hN52
    refine ⟨_, rfl, (ac_impl_joined q52 [⟨q, b⟩, ⟨q51, putN (s.x.floors.length : Int)⟩] s52 (hO52.rows cRV_len) (fun r hr => by
    simp only [List.mem_cons, List.not_mem_nil, or_false] at hr
    rcases hr with rfl | rfl
    · exact (hP51.trans hP52).rows (hO.rows fB_len)
    · exact hP52.rows (hO51.rows fB_len)) (by show (2 : Nat) ≤ 1048576; omega) (by rw [hfm, List.length_append]; omega)).mono ?_⟩
    rintro _ s53 ⟨q53, rfl, hO53, hN53, hP53⟩
    refine AW.cutM (gg) s53 [(1, vL 1 0 (0)), (2, .slice none 0 0), (3, vS q53 (fl [⟨q, b⟩, ⟨q51, putN (s.x.floors.length : Int)⟩]).length)] [(1, 0, [vS s.p s.x.items.length, vS s.q s.x.floors.length])] ⟨rfl, rfl, rfl, trivial⟩ ⟨rfl, trivial⟩ rfl fun ρ0 ff => ?_
    have hN53' : New st.next q53 := hN53.le ((hP.trans hP51).trans hP52).1
    have hP53' := ((hP.trans hP51).trans hP52).trans hP53
    refine ⟨_, rfl, ?_⟩
    refine ⟨_, op_ldo rfl rfl rfl rfl, ?_⟩
    refine ⟨_, rfl, ?_⟩
    refine AW.cutM (gg) s53 [(2, .slice none 0 0), (3, vS q53 (fl [⟨q, b⟩, ⟨q51, putN (s.x.floors.length : Int)⟩]).length), (55, vS s.q s.x.floors.length), (56, vI (s.x.floors.length : Int)), (57, vI (0))] [] ⟨rfl, rfl, rfl, rfl, rfl, trivial⟩ trivial rfl fun ρ0 ff => ?_
    refine AW.loopM (fun z : Nat × Option Addr × List Int => [(2, .slice none 0 0), (3, vS z.2.1 z.2.2.length), (55, vS s.q s.x.floors.length), (56, vI (s.x.floors.length : Int)), (57, vI (z.1 : Int))]) (fun z : Nat × Option Addr × List Int => []) (fun m (z : Nat × Option Addr × List Int) st' => m = s.x.floors.length - z.1 ∧ z.1 ≤ s.x.floors.length ∧ z.2.2 = b ++ putN (s.x.floors.length : Int) ++ flsB (s.x.floors.take z.1) ∧ OwnR st' 1 fB z.2.1 z.2.2 ∧ New st.next z.2.1 ∧ Pres st st') (0, q53, fl [⟨q, b⟩, ⟨q51, putN (s.x.floors.length : Int)⟩]) _ ⟨rfl, rfl, rfl, rfl, rfl, trivial⟩ trivial ⟨rfl, Nat.zero_le _, hfm.trans (List.append_nil _).symm, hO53, hN53', hP53'⟩ ?_
    rintro m ⟨j, r, f⟩ ρ0 ff gg st' ⟨rfl, hj, hw, hOf, hNf, hPf⟩
    simp only at hj hw hOf hNf
    have hfl : f.length ≤ 10 + 38 * s.x.items.length + 10 * s.x.floors.length := by rw [hw, List.length_append, List.length_append]; have := fls_len s.x.floors j; omega
    refine ⟨_, rfl, ?_⟩
    rintro (_|_) h58
    · replace h58 : ¬ ((j : Int) < (s.x.floors.length : Int)) := of_decide_eq_false h58
      refine AW.cutM (gg) st' [(2, .slice none 0 0), (3, vS r f.length), (55, vS s.q s.x.floors.length), (56, vI (s.x.floors.length : Int)), (57, vI (j : Int)), (58, vB false)] [] ⟨rfl, rfl, rfl, rfl, rfl, rfl, trivial⟩ trivial rfl fun ρ0 ff => ?_
      have hw1 : f = stB s.x := by rw [hw, show j = s.x.floors.length by omega, List.take_length, hv1]; rfl
      refine cx_sound _ _ _ _ _ ?_
      refine cx_sound _ _ _ _ _ ?_
      refine ⟨.inl rfl, _, rfl, r, ?_⟩
      rw [← hw1]
      exact ⟨rfl, hOf, hNf, hPf⟩
    · replace h58 : (j : Int) < (s.x.floors.length : Int) := of_decide_eq_true h58
      refine AW.cutM (gg) st' [(2, .slice none 0 0), (3, vS r f.length), (55, vS s.q s.x.floors.length), (56, vI (s.x.floors.length : Int)), (57, vI (j : Int)), (58, vB true)] [] ⟨rfl, rfl, rfl, rfl, rfl, rfl, trivial⟩ trivial rfl fun ρ0 ff => ?_
      refine cx_sound _ _ _ _ _ ?_
      refine op_at j (hPf.rows hR.2) (by omega) rfl rfl rfl rfl rfl rfl rfl ?_
      intro x59 b59 d59 k59 hy59 hb59 hm59 hc59 ho59
      refine ⟨_, op_lda rfl rfl rfl rfl rfl hm59 hc59 rfl, ?_⟩
      refine ⟨_, rfl, ?_⟩
      refine ⟨_, op_sto rfl rfl rfl rfl rfl rfl rfl, ?_⟩
      refine AW.cutM (gg + 1) st' [(2, .slice none 0 0), (3, vS r f.length), (8, vL 8 0 (gg)), (55, vS s.q s.x.floors.length), (56, vI (s.x.floors.length : Int)), (57, vI (j : Int)), (58, vB true)] [(8, gg, [vI x59.id, vI x59.inc])] ⟨rfl, rfl, rfl, rfl, rfl, rfl, rfl, trivial⟩ ⟨rfl, trivial⟩ rfl fun ρ0 ff => ?_
      refine ⟨_, rfl, ?_⟩
      refine ⟨_, op_ldo rfl rfl rfl rfl, ?_⟩
      refine ⟨_, rfl, (ac_impl_PutNum x59.id st').mono ?_⟩
      rintro _ s64 ⟨q64, rfl, hO64, hN64, hP64⟩
      refine ⟨hP64.2, ?_⟩
      refine ⟨_, rfl, ?_⟩
      refine ⟨_, op_ldo rfl rfl rfl rfl, ?_⟩
      refine ⟨ld_own rfl rfl rfl, ?_⟩
      refine ⟨_, rfl, (ac_impl_PutNum x59.inc s64).mono ?_⟩
      rintro _ s67 ⟨q67, rfl, hO67, hN67, hP67⟩
      have hpa := putN_len x59.id
      have hpb := putN_len x59.inc
      have g64 := hP64.trans hP67
      have hfn : fl [⟨r, f⟩, ⟨q64, putN x59.id⟩, ⟨q67, putN x59.inc⟩] = f ++ flB x59 := by simp [fl, flB]
      have hil := flB_len x59
      refine op_litR [⟨r, f⟩, ⟨q64, putN x59.id⟩, ⟨q67, putN x59.inc⟩] rfl rfl rfl (by decide) rfl rfl rfl (by decide) ?_
      intro q68 s68 hO68 hP68 hN68
      refine ⟨_, rfl, (ac_impl_joined q68 [⟨r, f⟩, ⟨q64, putN x59.id⟩, ⟨q67, putN x59.inc⟩] s68 (hO68.rows cRV_len) (fun r hr => by
    simp only [List.mem_cons, List.not_mem_nil, or_false] at hr
    rcases hr with rfl | rfl | rfl
    · exact (g64.trans hP68).rows (hOf.rows fB_len)
    · exact (hP67.trans hP68).rows (hO64.rows fB_len)
    · exact hP68.rows (hO67.rows fB_len)) (by show (3 : Nat) ≤ 1048576; omega) (by rw [hfn, List.length_append]; omega)).mono ?_⟩
      rintro _ s69 ⟨q69, rfl, hO69, hN69, hP69⟩
      refine AW.cutM (gg + 1) s69 [(2, .slice none 0 0), (3, vS q69 (fl [⟨r, f⟩, ⟨q64, putN x59.id⟩, ⟨q67, putN x59.inc⟩]).length), (8, vL 8 0 (gg)), (55, vS s.q s.x.floors.length), (56, vI (s.x.floors.length : Int)), (57, vI (j : Int)), (58, vB true)] [(8, gg, [vI x59.id, vI x59.inc])] ⟨rfl, rfl, rfl, rfl, rfl, rfl, rfl, trivial⟩ ⟨rfl, trivial⟩ rfl fun ρ0 ff => ?_
      have ew70 : IntKind.wrap .i64 ((j : Int) + (1)) = ((j + 1 : Nat) : Int) := (wrap_i64 (by omega) (by omega)).trans (by omega)
      refine ⟨_, rfl, ?_⟩
      exact ⟨(j + 1, q69, fl [⟨r, f⟩, ⟨q64, putN x59.id⟩, ⟨q67, putN x59.inc⟩]), s.x.floors.length - (j + 1), by omega, ⟨rfl, rfl, rfl, rfl, congrArg (Value.int .i64) ew70, trivial⟩, trivial, rfl, by first | omega | (simp only; omega), by rw [show flsB (s.x.floors.take (j + 1)) = flsB (s.x.floors.take j) ++ flB x59 from fm_succ hy59, ← List.append_assoc, ← hw]; exact hfn, hO69, hN69.le ((hPf.trans g64).trans hP68).1, ((hPf.trans g64).trans hP68).trans hP69⟩
  · replace h20 : (i : Int) < (s.x.items.length : Int) := of_decide_eq_true h20
    refine AW.cutM (gg) st' [(1, vL 1 0 (0)), (2, .slice none 0 0), (3, vS q b.length), (17, vS s.p s.x.items.length), (18, vI (s.x.items.length : Int)), (19, vI (i : Int)), (20, vB true)] [(1, 0, [vS s.p s.x.items.length, vS s.q s.x.floors.length])] ⟨rfl, rfl, rfl, rfl, rfl, rfl, rfl, trivial⟩ ⟨rfl, trivial⟩ rfl fun ρ0 ff => ?_
    obtain ⟨s1, hs1'⟩ : ∃ s1, s1 = st' := ⟨_, rfl⟩
    subst hs1'
    refine cx_sound _ _ _ _ _ ?_
    refine op_at i (hP.rows hR.1) (by omega) rfl rfl rfl rfl rfl rfl rfl ?_
    intro x21 b21 d21 k21 hy21 hb21 hm21 hc21 ho21
    refine ⟨_, op_lda rfl rfl rfl rfl rfl hm21 hc21 rfl, ?_⟩
    refine ⟨_, rfl, ?_⟩
    refine ⟨_, op_sto rfl rfl rfl rfl rfl rfl rfl, ?_⟩
    refine AW.cutM (gg + 1) s1 [(1, vL 1 0 (0)), (2, .slice none 0 0), (3, vS q b.length), (5, vL 5 0 (gg)), (17, vS s.p s.x.items.length), (18, vI (s.x.items.length : Int)), (19, vI (i : Int)), (20, vB true)] [(1, 0, [vS s.p s.x.items.length, vS s.q s.x.floors.length]), (5, gg, [vI x21.id, vI x21.e.inc, vI x21.e.rank, vI x21.e.beat, vI x21.e.ver, .string x21.e.data])] ⟨rfl, rfl, rfl, rfl, rfl, rfl, rfl, rfl, trivial⟩ ⟨rfl, rfl, trivial⟩ rfl fun ρ0 ff => ?_
    refine ⟨_, rfl, ?_⟩
    refine ⟨_, op_ldo rfl rfl rfl rfl, ?_⟩
    refine ⟨_, rfl, ?_⟩
    refine ⟨_, op_sto rfl rfl rfl rfl rfl rfl rfl, ?_⟩
    refine AW.cutM (gg + 2) s1 [(1, vL 1 0 (0)), (2, .slice none 0 0), (3, vS q b.length), (5, vL 5 0 (gg)), (6, vL 6 0 (gg + 1)), (17, vS s.p s.x.items.length), (18, vI (s.x.items.length : Int)), (19, vI (i : Int)), (20, vB true)] [(1, 0, [vS s.p s.x.items.length, vS s.q s.x.floors.length]), (5, gg, [vI x21.id, vI x21.e.inc, vI x21.e.rank, vI x21.e.beat, vI x21.e.ver, .string x21.e.data]), (6, gg + 1, [vI x21.e.inc, vI x21.e.rank, vI x21.e.beat, vI x21.e.ver, .string x21.e.data])] ⟨rfl, rfl, rfl, rfl, rfl, rfl, rfl, rfl, rfl, trivial⟩ ⟨rfl, rfl, rfl, trivial⟩ rfl fun ρ0 ff => ?_
    have hdz : x21.e.data.size ≤ 8 := okSize hk (List.mem_of_getElem? hy21)
    refine ⟨_, rfl, ?_⟩
    refine ⟨_, op_ldo rfl rfl rfl rfl, ?_⟩
    refine ⟨_, rfl, (ac_impl_PutNum x21.id s1).mono ?_⟩
    rintro _ s28 ⟨q28, rfl, hO28, hN28, hP28⟩
    refine ⟨hP28.2, ?_⟩
    refine ⟨_, rfl, ?_⟩
    refine ⟨_, op_ldo rfl rfl rfl rfl, ?_⟩
    refine ⟨ld_own rfl rfl rfl, ?_⟩
    refine ⟨_, rfl, (ac_impl_PutNum x21.e.inc s28).mono ?_⟩
    rintro _ s31 ⟨q31, rfl, hO31, hN31, hP31⟩
    refine ⟨hP31.low hP28, ?_⟩
    refine ⟨_, rfl, ?_⟩
    refine ⟨_, op_ldo rfl rfl rfl rfl, ?_⟩
    refine ⟨ld_own rfl rfl rfl, ?_⟩
    refine ⟨_, rfl, (ac_impl_PutNum x21.e.rank s31).mono ?_⟩
    rintro _ s34 ⟨q34, rfl, hO34, hN34, hP34⟩
    refine ⟨hP34.low (hP28.trans hP31), ?_⟩
    refine ⟨_, rfl, ?_⟩
    refine ⟨_, op_ldo rfl rfl rfl rfl, ?_⟩
    refine ⟨ld_own rfl rfl rfl, ?_⟩
    refine ⟨_, rfl, (ac_impl_PutNum x21.e.beat s34).mono ?_⟩
    rintro _ s37 ⟨q37, rfl, hO37, hN37, hP37⟩
    refine ⟨hP37.low ((hP28.trans hP31).trans hP34), ?_⟩
    refine ⟨_, rfl, ?_⟩
    refine ⟨_, op_ldo rfl rfl rfl rfl, ?_⟩
    refine ⟨ld_own rfl rfl rfl, ?_⟩
    refine ⟨_, rfl, (ac_impl_PutNum x21.e.ver s37).mono ?_⟩
    rintro _ s40 ⟨q40, rfl, hO40, hN40, hP40⟩
    refine ⟨hP40.low (((hP28.trans hP31).trans hP34).trans hP37), ?_⟩
    refine ⟨_, rfl, ?_⟩
    refine ⟨_, op_ldo rfl rfl rfl rfl, ?_⟩
    refine ⟨ld_own rfl rfl rfl, ?_⟩
    refine ⟨_, rfl, (ac_impl_PutText x21.e.data s40 (by first | assumption | omega)).mono ?_⟩
    rintro _ s43 ⟨q43, rfl, hO43, hN43, hP43⟩
    have g43 := hP43
    have g40 := hP40.trans g43
    have g37 := hP37.trans g40
    have g34 := hP34.trans g37
    have g31 := hP31.trans g34
    have g28 := hP28.trans g31
    have hfl : fl [⟨q, b⟩, ⟨q28, putN x21.id⟩, ⟨q31, putN x21.e.inc⟩, ⟨q34, putN x21.e.rank⟩, ⟨q37, putN x21.e.beat⟩, ⟨q40, putN x21.e.ver⟩, ⟨q43, putS x21.e.data⟩] = b ++ itB x21 := by simp [fl, itB, numsB, itL]
    have hil := itB_len hdz
    refine op_litR [⟨q, b⟩, ⟨q28, putN x21.id⟩, ⟨q31, putN x21.e.inc⟩, ⟨q34, putN x21.e.rank⟩, ⟨q37, putN x21.e.beat⟩, ⟨q40, putN x21.e.ver⟩, ⟨q43, putS x21.e.data⟩] rfl rfl rfl (by decide) rfl rfl rfl (by decide) ?_
    intro q44 s44 hO44 hP44 hN44
    refine ⟨_, rfl, (ac_impl_joined q44 [⟨q, b⟩, ⟨q28, putN x21.id⟩, ⟨q31, putN x21.e.inc⟩, ⟨q34, putN x21.e.rank⟩, ⟨q37, putN x21.e.beat⟩, ⟨q40, putN x21.e.ver⟩, ⟨q43, putS x21.e.data⟩] s44 (hO44.rows cRV_len) (fun r hr => by
    simp only [List.mem_cons, List.not_mem_nil, or_false] at hr
    rcases hr with rfl | rfl | rfl | rfl | rfl | rfl | rfl
    · exact (g28.trans hP44).rows (hO.rows fB_len)
    · exact (g31.trans hP44).rows (hO28.rows fB_len)
    · exact (g34.trans hP44).rows (hO31.rows fB_len)
    · exact (g37.trans hP44).rows (hO34.rows fB_len)
    · exact (g40.trans hP44).rows (hO37.rows fB_len)
    · exact (g43.trans hP44).rows (hO40.rows fB_len)
    · exact hP44.rows (hO43.rows fB_len)) (by show (7 : Nat) ≤ 1048576; omega) (by rw [hfl, List.length_append]; omega)).mono ?_⟩
    rintro _ s45 ⟨q45, rfl, hO45, hN45, hP45⟩
    refine AW.cutM (gg + 2) s45 [(1, vL 1 0 (0)), (2, .slice none 0 0), (3, vS q45 (fl [⟨q, b⟩, ⟨q28, putN x21.id⟩, ⟨q31, putN x21.e.inc⟩, ⟨q34, putN x21.e.rank⟩, ⟨q37, putN x21.e.beat⟩, ⟨q40, putN x21.e.ver⟩, ⟨q43, putS x21.e.data⟩]).length), (5, vL 5 0 (gg)), (6, vL 6 0 (gg + 1)), (17, vS s.p s.x.items.length), (18, vI (s.x.items.length : Int)), (19, vI (i : Int)), (20, vB true)] [(1, 0, [vS s.p s.x.items.length, vS s.q s.x.floors.length]), (5, gg, [vI x21.id, vI x21.e.inc, vI x21.e.rank, vI x21.e.beat, vI x21.e.ver, .string x21.e.data]), (6, gg + 1, [vI x21.e.inc, vI x21.e.rank, vI x21.e.beat, vI x21.e.ver, .string x21.e.data])] ⟨rfl, rfl, rfl, rfl, rfl, rfl, rfl, rfl, rfl, trivial⟩ ⟨rfl, rfl, rfl, trivial⟩ rfl fun ρ0 ff => ?_
    have ew46 : IntKind.wrap .i64 ((i : Int) + (1)) = ((i + 1 : Nat) : Int) := (wrap_i64 (by omega) (by omega)).trans (by omega)
    refine ⟨_, rfl, ?_⟩
    exact ⟨(i + 1, q45, fl [⟨q, b⟩, ⟨q28, putN x21.id⟩, ⟨q31, putN x21.e.inc⟩, ⟨q34, putN x21.e.rank⟩, ⟨q37, putN x21.e.beat⟩, ⟨q40, putN x21.e.ver⟩, ⟨q43, putS x21.e.data⟩]), s.x.items.length - (i + 1), by omega, ⟨rfl, rfl, rfl, rfl, rfl, congrArg (Value.int .i64) ew46, trivial⟩, ⟨rfl, trivial⟩, rfl, by first | omega | (simp only; omega), by rw [show itsB (s.x.items.take (i + 1)) = itsB (s.x.items.take i) ++ itB x21 from fm_succ hy21, ← List.append_assoc, ← hv]; exact hfl, hO45, hN45.le ((hP.trans g28).trans hP44).1, ((hP.trans g28).trans hP44).trans hP45⟩
end Go.Proofs.Ytopcpcoklgepnaa.AM
