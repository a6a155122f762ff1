/- Contracts of states' copies, of entries that are looked up, of what is over, and of marks. -/
import Derived.Test.YtopcpcoklgepnaaS2
namespace Go.Proofs.Ytopcpcoklgepnaa.AM
open Go Go.Proofs
set_option linter.unusedVariables false
set_option linter.unusedSimpArgs false
set_option maxRecDepth 100000
set_option maxHeartbeats 4000000
theorem row_sub {cs r q : List Value} {d z i n : Nat} (hc : (cs.drop d).take z = r) (hq : (r.drop i).take n = q) (hle : i + n ≤ z) : (cs.drop (d + i)).take n = q := by
  subst hc hq
  rw [List.drop_take, List.take_take, List.drop_drop, Nat.min_eq_left (by omega)]
theorem copy_facts {st s1 s2 : St} {q1 q2 : Option Addr} {A B : Prop} {m : Nat} (hP : Pres st s1) (hN : New st.next q1) (hPr : Pr q1 s1 s2) (h : (q2 = q1 ∧ A ∧ B) ∨ (0 < m ∧ New s1.next q2)) : Pres st s2 ∧ New st.next q2 := by
  refine ⟨hPr.pres hP hN, ?_⟩
  rcases h with ⟨h, _⟩ | ⟨_, h⟩
  · rw [h]; exact hN
  · exact h.le hP.1
theorem Pr.low {p : Option Addr} {st0 s s' : St} (h : Pr p s s') (hP : Pres st0 s) (hN : New st0.next p) : ∀ a, a < st0.next → s'.mem a = s.mem a :=
  fun a ha => h.2 a (Nat.lt_of_lt_of_le ha hP.1) fun q hq e => by have := hN q hq; omega
theorem Pres.low {st0 s s' : St} (h : Pres s s') (hP : Pres st0 s) : ∀ a, a < st0.next → s'.mem a = s.mem a := fun a ha => h.2 a (Nat.lt_of_lt_of_le ha hP.1)
theorem ac_impl_copyState (s : SV) (st : St) (hR : RdS st s) (hb : bigS s.x) : C 108 [.agg #[vS s.p s.x.items.length, vS s.q s.x.floors.length]] st (fun v s' => ∃ u : SV, v = .agg #[vS u.p u.x.items.length, vS u.q u.x.floors.length] ∧ u.x = s.x ∧ OwnP s' (pcS u) ∧ NewP st.next (pcS u) ∧ Pres st s') := by
  have hs1 : s.x.items.length ≤ 1048576 := hb.1
  have hs2 : s.x.floors.length ≤ 1048576 := hb.2.1
  refine AC.enterX (i := ⟨[1, 2], [1, 2, 4, 8], [0, 1, 2]⟩) [(1, [3], [6])] Try.func108 rfl rfl (by kernel_rfl) (by kernel_rfl) Try.ntmps108 (Nat.le_of_ble_eq_true rfl) rfl ?_
  iterate 2 refine ⟨_, rfl, ?_⟩
  refine AW.cutM (2) st [(1, vL 1 0 (0)), (2, vL 2 0 (1))] [(1, 0, [vS s.p s.x.items.length, vS s.q s.x.floors.length]), (2, 1, [.slice none 0 0, .slice none 0 0])] ⟨rfl, rfl, trivial⟩ ⟨rfl, rfl, trivial⟩ rfl fun ρ0 ff => ?_
  refine op_nilK (z := 6) (f := cItm) rfl rfl rfl rfl (by decide) rfl ?_
  intro q1 s1 hO1 hP1 hN1
  iterate 2 refine ⟨_, rfl, ?_⟩
  refine op_app (z := 6) (st := s1) (f := cItm) (b := 56) (l := []) (l2 := s.x.items) rfl rfl rfl rfl rfl rfl rfl (by decide) len_cItm rfl rfl rfl rfl (by omega) (by unfold maxLen; omega) hO1 (hP1.rows hR.1) ?_
  intro q2 s2 hO2 hPr2 hN2
  refine ⟨hPr2.low hP1 hN1, ?_⟩
  have ⟨hP2, hN2⟩ := copy_facts hP1 hN1 hPr2 hN2
  refine op_nilK (z := 2) (f := cFlr) rfl rfl rfl rfl (by decide) rfl ?_
  intro q3 s3 hO3 hP3 hN3
  iterate 2 refine ⟨_, rfl, ?_⟩
  refine ⟨ld_own rfl rfl rfl, ?_⟩
  refine op_app (z := 2) (st := s3) (f := cFlr) (b := 16) (l := []) (l2 := s.x.floors) rfl rfl rfl rfl rfl rfl rfl (by decide) len_cFlr rfl rfl rfl rfl (by omega) (by unfold maxLen; omega) hO3 ((hP2.trans hP3).rows hR.2) ?_
  intro q4 s4 hO4 hPr4 hN4
  iterate 2 refine ⟨_, rfl, ?_⟩
  refine cx_sound _ _ _ _ _ ?_
  have ⟨hP4, hN4⟩ := copy_facts hP3 hN3 hPr4 hN4
  refine ⟨.inl rfl, _, rfl, ⟨q2, q4, s.x⟩, ?_, rfl, OwnP.join (l := [pcR 6 cItm q2 s.x.items]) (OwnP.one (own_pc hO2)) hP4 (OwnP.one (own_pc hO4)) (NewP.cons hN4 NewP.nil), NewP.cons hN2 (NewP.cons (hN4.le hP2.1) NewP.nil), hP2.trans hP4⟩
  show Value.agg #[vS q2 (0 + s.x.items.length), vS q4 (0 + s.x.floors.length)] = _
  rw [Nat.zero_add, Nat.zero_add]
theorem ac_spec_l3Copy (s : SV) (st : St) (hR : RdS st s) (hb : bigS s.x) : C 107 [.agg #[vS s.p s.x.items.length, vS s.q s.x.floors.length]] st (fun v s' => ∃ u : SV, v = .agg #[vS u.p u.x.items.length, vS u.q u.x.floors.length] ∧ u.x = s.x ∧ OwnP s' (pcS u) ∧ NewP st.next (pcS u) ∧ Pres st s') := by
  have hs1 : s.x.items.length ≤ 1048576 := hb.1
  have hs2 : s.x.floors.length ≤ 1048576 := hb.2.1
  refine AC.enterX (i := ⟨[1, 2], [1, 2, 4, 8], [0, 1, 2]⟩) [(1, [3], [6])] Try.func107 rfl rfl (by kernel_rfl) (by kernel_rfl) Try.ntmps107 (Nat.le_of_ble_eq_true rfl) rfl ?_
  iterate 2 refine ⟨_, rfl, ?_⟩
  refine AW.cutM (2) st [(1, vL 1 0 (0)), (2, vL 2 0 (1))] [(1, 0, [vS s.p s.x.items.length, vS s.q s.x.floors.length]), (2, 1, [.slice none 0 0, .slice none 0 0])] ⟨rfl, rfl, trivial⟩ ⟨rfl, rfl, trivial⟩ rfl fun ρ0 ff => ?_
  refine op_nilK (z := 6) (f := cItm) rfl rfl rfl rfl (by decide) rfl ?_
  intro q1 s1 hO1 hP1 hN1
  iterate 2 refine ⟨_, rfl, ?_⟩
  refine op_app (z := 6) (st := s1) (f := cItm) (b := 56) (l := []) (l2 := s.x.items) rfl rfl rfl rfl rfl rfl rfl (by decide) len_cItm rfl rfl rfl rfl (by omega) (by unfold maxLen; omega) hO1 (hP1.rows hR.1) ?_
  intro q2 s2 hO2 hPr2 hN2
  refine ⟨hPr2.low hP1 hN1, ?_⟩
  have ⟨hP2, hN2⟩ := copy_facts hP1 hN1 hPr2 hN2
  refine op_nilK (z := 2) (f := cFlr) rfl rfl rfl rfl (by decide) rfl ?_
  intro q3 s3 hO3 hP3 hN3
  iterate 2 refine ⟨_, rfl, ?_⟩
  refine ⟨ld_own rfl rfl rfl, ?_⟩
  refine op_app (z := 2) (st := s3) (f := cFlr) (b := 16) (l := []) (l2 := s.x.floors) rfl rfl rfl rfl rfl rfl rfl (by decide) len_cFlr rfl rfl rfl rfl (by omega) (by unfold maxLen; omega) hO3 ((hP2.trans hP3).rows hR.2) ?_
  intro q4 s4 hO4 hPr4 hN4
  iterate 2 refine ⟨_, rfl, ?_⟩
  refine cx_sound _ _ _ _ _ ?_
  have ⟨hP4, hN4⟩ := copy_facts hP3 hN3 hPr4 hN4
  refine ⟨.inl rfl, _, rfl, ⟨q2, q4, s.x⟩, ?_, rfl, OwnP.join (l := [pcR 6 cItm q2 s.x.items]) (OwnP.one (own_pc hO2)) hP4 (OwnP.one (own_pc hO4)) (NewP.cons hN4 NewP.nil), NewP.cons hN2 (NewP.cons (hN4.le hP2.1) NewP.nil), hP2.trans hP4⟩
  show Value.agg #[vS q2 (0 + s.x.items.length), vS q4 (0 + s.x.floors.length)] = _
  rw [Nat.zero_add, Nat.zero_add]
/-- An entry that is looked up. -/
def entP : List Itm → Int → Ent × Bool
  | [], _ => (zEnt, false)
  | x :: l, id => if x.id = id then (x.e, true) else entP l id
theorem ac_impl_EntryOf (s : SV) (id : Int) (st : St) (hR : RdS st s) (hb : bigS s.x) : C 144 [.agg #[vS s.p s.x.items.length, vS s.q s.x.floors.length], vI id] st (fun v s' => ∃ e b, v = .tuple #[.agg #[vI e.inc, vI e.rank, vI e.beat, vI e.ver, .string e.data], vB b] ∧ (e, b) = entP s.x.items id ∧ s' = st) := by
  have hs1 : s.x.items.length ≤ 1048576 := hb.1
  refine AC.enterX (i := ⟨[2, 4, 7], [2, 4, 7, 8, 15, 19], [0, 1, 2, 4, 5, 7, 9, 10, 11, 12, 18]⟩) [] Try.func144 rfl rfl (by kernel_rfl) (by kernel_rfl) Try.ntmps144 (Nat.le_of_ble_eq_true rfl) rfl ?_
  iterate 2 refine ⟨_, rfl, ?_⟩
  refine AW.cutM (2) st [(1, vI id), (2, vL 2 0 (0)), (4, vL 4 0 (1)), (5, vB false)] [(2, 0, [vS s.p s.x.items.length, vS s.q s.x.floors.length]), (4, 1, [vI 0, vI 0, vI 0, vI 0, .string ⟨#[]⟩])] ⟨rfl, rfl, rfl, rfl, trivial⟩ ⟨rfl, rfl, trivial⟩ rfl fun ρ0 ff => ?_
  iterate 3 refine ⟨_, rfl, ?_⟩
  refine AW.cutM (2) st [(1, vI id), (2, vL 2 0 (0)), (4, vL 4 0 (1)), (5, vB false), (9, vS s.p s.x.items.length), (10, vI (s.x.items.length)), (11, vI (0))] [(2, 0, [vS s.p s.x.items.length, vS s.q s.x.floors.length]), (4, 1, [vI 0, vI 0, vI 0, vI 0, .string ⟨#[]⟩])] ⟨rfl, rfl, rfl, rfl, rfl, rfl, rfl, trivial⟩ ⟨rfl, rfl, trivial⟩ rfl fun ρ0 ff => ?_
  refine AW.loopM (fun i : Nat => [(1, vI id), (2, vL 2 0 (0)), (4, vL 4 0 (1)), (5, vB false), (9, vS s.p s.x.items.length), (10, vI (s.x.items.length : Int)), (11, vI (i : Int))]) (fun i : Nat => [(2, 0, [vS s.p s.x.items.length, vS s.q s.x.floors.length]), (4, 1, [vI 0, vI 0, vI 0, vI 0, .string ⟨#[]⟩])]) (fun m (i : Nat) st' => m = s.x.items.length - i ∧ i ≤ s.x.items.length ∧ entP s.x.items id = entP (s.x.items.drop i) id ∧ st = st') 0 _ ⟨rfl, rfl, rfl, rfl, rfl, rfl, rfl, trivial⟩ ⟨rfl, rfl, trivial⟩ ⟨rfl, Nat.zero_le _, rfl, rfl⟩ ?_
  rintro m i ρ0 ff gg st' ⟨rfl, hi, hf, rfl⟩
  refine ⟨_, rfl, ?_⟩
  rintro (_|_) h1
  · replace h1 : ¬ ((i : Int) < (s.x.items.length : Int)) := of_decide_eq_false h1
    refine AW.cutM (gg) st [(1, vI id), (2, vL 2 0 (0)), (4, vL 4 0 (1)), (5, vB false), (9, vS s.p s.x.items.length), (10, vI (s.x.items.length : Int)), (11, vI (i : Int)), (12, vB false)] [(2, 0, [vS s.p s.x.items.length, vS s.q s.x.floors.length]), (4, 1, [vI 0, vI 0, vI 0, vI 0, .string ⟨#[]⟩])] ⟨rfl, rfl, rfl, rfl, rfl, rfl, rfl, rfl, trivial⟩ ⟨rfl, rfl, trivial⟩ rfl fun ρ0 ff => ?_
    refine cx_sound _ _ _ _ _ ?_
    refine ⟨_, rfl, ?_⟩
    refine ⟨_, op_sto rfl rfl rfl rfl rfl rfl rfl, ?_⟩
    refine cx_sound _ _ _ _ _ ?_
    have hil : i = s.x.items.length := by omega
    exact ⟨.inl rfl, _, rfl, zEnt, false, rfl, by rw [hf, hil, List.drop_length]; rfl, rfl⟩
  · replace h1 : (i : Int) < (s.x.items.length : Int) := of_decide_eq_true h1
    refine AW.cutM (gg) st [(1, vI id), (2, vL 2 0 (0)), (4, vL 4 0 (1)), (5, vB false), (9, vS s.p s.x.items.length), (10, vI (s.x.items.length : Int)), (11, vI (i : Int)), (12, vB true)] [(2, 0, [vS s.p s.x.items.length, vS s.q s.x.floors.length]), (4, 1, [vI 0, vI 0, vI 0, vI 0, .string ⟨#[]⟩])] ⟨rfl, rfl, rfl, rfl, rfl, rfl, rfl, rfl, trivial⟩ ⟨rfl, rfl, trivial⟩ rfl fun ρ0 ff => ?_
    have h1' := Int.ofNat_lt.1 h1
    have ⟨b1, o1, k1, x, hpe, hx, hm1, hc1, hb1⟩ := hR.1.atB h1'
    rw [(split_at' hx).2.2, entP] at hf
    refine cx_sound _ _ _ _ _ ?_
    refine ⟨_, op_idx (j := (i : Int)) (n := s.x.items.length) (q := ⟨b1, o1, none⟩) rfl (congrArg (fun u => vS u s.x.items.length) hpe) rfl rfl rfl (Int.natCast_nonneg _) h1, ?_⟩
    refine ⟨_, op_lda rfl rfl rfl rfl rfl hm1 hc1 rfl, ?_⟩
    refine ⟨_, rfl, ?_⟩
    refine ⟨_, op_sto rfl rfl rfl rfl rfl rfl rfl, ?_⟩
    refine AW.cutM (gg + 1) st [(1, vI id), (2, vL 2 0 (0)), (4, vL 4 0 (1)), (5, vB false), (7, vL 7 0 (gg)), (9, vS s.p s.x.items.length), (10, vI (s.x.items.length : Int)), (11, vI (i : Int)), (12, vB true)] [(2, 0, [vS s.p s.x.items.length, vS s.q s.x.floors.length]), (4, 1, [vI 0, vI 0, vI 0, vI 0, .string ⟨#[]⟩]), (7, gg, [vI x.id, vI x.e.inc, vI x.e.rank, vI x.e.beat, vI x.e.ver, .string x.e.data])] ⟨rfl, rfl, rfl, rfl, rfl, rfl, rfl, rfl, rfl, trivial⟩ ⟨rfl, rfl, rfl, trivial⟩ rfl fun ρ0 ff => ?_
    refine ⟨_, rfl, ?_⟩
    refine ⟨_, op_ldo rfl rfl rfl rfl, ?_⟩
    refine ⟨_, rfl, ?_⟩
    rintro (_|_) h2
    · replace h2 : ¬ (x.id = id) := beq_eq_false_iff_ne.1 h2
      refine AW.cutM (gg + 1) st [(1, vI id), (2, vL 2 0 (0)), (4, vL 4 0 (1)), (5, vB false), (7, vL 7 0 (gg)), (9, vS s.p s.x.items.length), (10, vI (s.x.items.length : Int)), (11, vI (i : Int)), (12, vB true), (18, vB false)] [(2, 0, [vS s.p s.x.items.length, vS s.q s.x.floors.length]), (4, 1, [vI 0, vI 0, vI 0, vI 0, .string ⟨#[]⟩]), (7, gg, [vI x.id, vI x.e.inc, vI x.e.rank, vI x.e.beat, vI x.e.ver, .string x.e.data])] ⟨rfl, rfl, rfl, rfl, rfl, rfl, rfl, rfl, rfl, rfl, trivial⟩ ⟨rfl, rfl, rfl, trivial⟩ rfl fun ρ0 ff => ?_
      refine cx_sound _ _ _ _ _ ?_
      have e21 : IntKind.wrap .i64 ((i : Int) + 1) = ((i + 1 : Nat) : Int) := (wrap_i64 (by omega) (by omega)).trans (by omega)
      refine ⟨_, rfl, ?_⟩
      exact ⟨i + 1, s.x.items.length - (i + 1), by omega, ⟨rfl, rfl, rfl, rfl, rfl, rfl, congrArg (Value.int .i64) e21, trivial⟩, ⟨rfl, rfl, trivial⟩, rfl, h1', by rw [hf, if_neg h2], rfl⟩
    · replace h2 : x.id = id := beq_iff_eq.1 h2
      refine AW.cutM (gg + 1) st [(1, vI id), (2, vL 2 0 (0)), (4, vL 4 0 (1)), (5, vB false), (7, vL 7 0 (gg)), (9, vS s.p s.x.items.length), (10, vI (s.x.items.length : Int)), (11, vI (i : Int)), (12, vB true), (18, vB true)] [(2, 0, [vS s.p s.x.items.length, vS s.q s.x.floors.length]), (4, 1, [vI 0, vI 0, vI 0, vI 0, .string ⟨#[]⟩]), (7, gg, [vI x.id, vI x.e.inc, vI x.e.rank, vI x.e.beat, vI x.e.ver, .string x.e.data])] ⟨rfl, rfl, rfl, rfl, rfl, rfl, rfl, rfl, rfl, rfl, trivial⟩ ⟨rfl, rfl, rfl, trivial⟩ rfl fun ρ0 ff => ?_
      refine ⟨_, rfl, ?_⟩
      refine ⟨_, op_ldo rfl rfl rfl rfl, ?_⟩
      refine ⟨_, op_sto rfl rfl rfl rfl rfl rfl rfl, ?_⟩
      refine cx_sound _ _ _ _ _ ?_
      exact ⟨.inl rfl, _, rfl, x.e, true, rfl, by rw [hf, if_pos h2], rfl⟩
theorem ac_spec_EntryOf (s : SV) (id : Int) (st : St) (hR : RdS st s) (hb : bigS s.x) : C 140 [.agg #[vS s.p s.x.items.length, vS s.q s.x.floors.length], vI id] st (fun v s' => ∃ e b, v = .tuple #[.agg #[vI e.inc, vI e.rank, vI e.beat, vI e.ver, .string e.data], vB b] ∧ (e, b) = entP s.x.items id ∧ s' = st) := by
  have hs1 : s.x.items.length ≤ 1048576 := hb.1
  refine AC.enterX (i := ⟨[2, 4], [2, 4, 8, 14, 22], [0, 1, 2, 4, 5, 6, 11, 21]⟩) [] Try.func140 rfl rfl (by kernel_rfl) (by kernel_rfl) Try.ntmps140 (Nat.le_of_ble_eq_true rfl) rfl ?_
  iterate 2 refine ⟨_, rfl, ?_⟩
  refine cx_sound _ _ _ _ _ ?_
  refine AW.cutM (2) st [(1, vI id), (2, vL 2 0 (0)), (4, vL 4 0 (1)), (5, vB false), (6, vI (0))] [(2, 0, [vS s.p s.x.items.length, vS s.q s.x.floors.length]), (4, 1, [vI 0, vI 0, vI 0, vI 0, .string ⟨#[]⟩])] ⟨rfl, rfl, rfl, rfl, rfl, trivial⟩ ⟨rfl, rfl, trivial⟩ rfl fun ρ0 ff => ?_
  refine AW.loopM (fun i : Nat => [(1, vI id), (2, vL 2 0 (0)), (4, vL 4 0 (1)), (5, vB false), (6, vI (i : Int))]) (fun i : Nat => [(2, 0, [vS s.p s.x.items.length, vS s.q s.x.floors.length]), (4, 1, [vI 0, vI 0, vI 0, vI 0, .string ⟨#[]⟩])]) (fun m (i : Nat) st' => m = s.x.items.length - i ∧ i ≤ s.x.items.length ∧ entP s.x.items id = entP (s.x.items.drop i) id ∧ st = st') 0 _ ⟨rfl, rfl, rfl, rfl, rfl, trivial⟩ ⟨rfl, rfl, trivial⟩ ⟨rfl, Nat.zero_le _, rfl, rfl⟩ ?_
  rintro m i ρ0 ff gg st' ⟨rfl, hi, hf, rfl⟩
  refine ⟨_, rfl, ?_⟩
  refine ⟨_, op_ldo rfl rfl rfl rfl, ?_⟩
  iterate 2 refine ⟨_, rfl, ?_⟩
  rintro (_|_) h1
  · replace h1 : ¬ ((i : Int) < (s.x.items.length : Int)) := of_decide_eq_false h1
    refine AW.cutM (gg) st [(1, vI id), (2, vL 2 0 (0)), (4, vL 4 0 (1)), (5, vB false), (6, vI (i : Int)), (11, vB false)] [(2, 0, [vS s.p s.x.items.length, vS s.q s.x.floors.length]), (4, 1, [vI 0, vI 0, vI 0, vI 0, .string ⟨#[]⟩])] ⟨rfl, rfl, rfl, rfl, rfl, rfl, trivial⟩ ⟨rfl, rfl, trivial⟩ rfl fun ρ0 ff => ?_
    refine cx_sound _ _ _ _ _ ?_
    refine ⟨_, rfl, ?_⟩
    refine ⟨_, op_sto rfl rfl rfl rfl rfl rfl rfl, ?_⟩
    refine cx_sound _ _ _ _ _ ?_
    have hil : i = s.x.items.length := by omega
    exact ⟨.inl rfl, _, rfl, zEnt, false, rfl, by rw [hf, hil, List.drop_length]; rfl, rfl⟩
  · replace h1 : (i : Int) < (s.x.items.length : Int) := of_decide_eq_true h1
    refine AW.cutM (gg) st [(1, vI id), (2, vL 2 0 (0)), (4, vL 4 0 (1)), (5, vB false), (6, vI (i : Int)), (11, vB true)] [(2, 0, [vS s.p s.x.items.length, vS s.q s.x.floors.length]), (4, 1, [vI 0, vI 0, vI 0, vI 0, .string ⟨#[]⟩])] ⟨rfl, rfl, rfl, rfl, rfl, rfl, trivial⟩ ⟨rfl, rfl, trivial⟩ rfl fun ρ0 ff => ?_
    have h1' := Int.ofNat_lt.1 h1
    have ⟨b1, o1, k1, x, hpe, hx, hm1, hc1, hb1⟩ := hR.1.atB h1'
    rw [(split_at' hx).2.2, entP] at hf
    have hc5 : (k1.cells.drop (o1 + i * 6 + 1)).take 5 = cEnt x.e := row_sub (i := 1) hc1 rfl (by decide)
    refine cx_sound _ _ _ _ _ ?_
    refine ⟨_, rfl, ?_⟩
    refine ⟨_, op_ldo rfl rfl rfl rfl, ?_⟩
    refine ⟨_, op_idx (j := (i : Int)) (n := s.x.items.length) (q := ⟨b1, o1, none⟩) rfl (congrArg (fun u => vS u s.x.items.length) hpe) rfl rfl rfl (Int.natCast_nonneg _) h1, ?_⟩
    refine ⟨_, rfl, ?_⟩
    refine ⟨_, op_ldc (i := 0) rfl rfl rfl rfl hm1 hc1 rfl rfl, ?_⟩
    refine ⟨_, rfl, ?_⟩
    rintro (_|_) h2
    · replace h2 : ¬ (x.id = id) := beq_eq_false_iff_ne.1 h2
      refine AW.cutM (gg) st [(1, vI id), (2, vL 2 0 (0)), (4, vL 4 0 (1)), (5, vB false), (6, vI (i : Int)), (11, vB true), (21, vB false)] [(2, 0, [vS s.p s.x.items.length, vS s.q s.x.floors.length]), (4, 1, [vI 0, vI 0, vI 0, vI 0, .string ⟨#[]⟩])] ⟨rfl, rfl, rfl, rfl, rfl, rfl, rfl, trivial⟩ ⟨rfl, rfl, trivial⟩ rfl fun ρ0 ff => ?_
      refine cx_sound _ _ _ _ _ ?_
      have e13 : IntKind.wrap .i64 ((i : Int) + 1) = ((i + 1 : Nat) : Int) := (wrap_i64 (by omega) (by omega)).trans (by omega)
      refine ⟨_, rfl, ?_⟩
      exact ⟨i + 1, s.x.items.length - (i + 1), by omega, ⟨rfl, rfl, rfl, rfl, congrArg (Value.int .i64) e13, trivial⟩, ⟨rfl, rfl, trivial⟩, rfl, h1', by rw [hf, if_neg h2], rfl⟩
    · replace h2 : x.id = id := beq_iff_eq.1 h2
      refine AW.cutM (gg) st [(1, vI id), (2, vL 2 0 (0)), (4, vL 4 0 (1)), (5, vB false), (6, vI (i : Int)), (11, vB true), (21, vB true)] [(2, 0, [vS s.p s.x.items.length, vS s.q s.x.floors.length]), (4, 1, [vI 0, vI 0, vI 0, vI 0, .string ⟨#[]⟩])] ⟨rfl, rfl, rfl, rfl, rfl, rfl, rfl, trivial⟩ ⟨rfl, rfl, trivial⟩ rfl fun ρ0 ff => ?_
      refine ⟨_, rfl, ?_⟩
      refine ⟨_, op_ldo rfl rfl rfl rfl, ?_⟩
      refine ⟨_, op_idx (j := (i : Int)) (n := s.x.items.length) (q := ⟨b1, o1, none⟩) rfl (congrArg (fun u => vS u s.x.items.length) hpe) rfl rfl rfl (Int.natCast_nonneg _) h1, ?_⟩
      refine ⟨_, rfl, ?_⟩
      refine ⟨_, op_lda rfl rfl rfl rfl rfl hm1 hc5 rfl, ?_⟩
      refine ⟨_, op_sto rfl rfl rfl rfl rfl rfl rfl, ?_⟩
      refine cx_sound _ _ _ _ _ ?_
      exact ⟨.inl rfl, _, rfl, x.e, true, rfl, by rw [hf, if_pos h2], rfl⟩
open Classical in
/-- What is over at a node. -/
noncomputable def goneAt (s : Sta) (id : Int) : Int :=
  if stateOk s then (if (entP s.items id).2 = true then (if (entP s.items id).1.rank = 1 then (entP s.items id).1.inc else (entP s.items id).1.inc - 1) else floorOf s.floors id) else 0
theorem entP_mem : ∀ {l : List Itm} {id : Int} {e : Ent}, (e, true) = entP l id → ∃ (j : Nat) (x : Itm), l[j]? = some x ∧ x.e = e ∧ x.id = id
  | [], id, e, h => by simp [entP] at h
  | x :: l, id, e, h => by
    rw [entP] at h
    split at h
    · rename_i hx
      injection h with h
      exact ⟨0, x, rfl, h.symm, hx⟩
    · obtain ⟨j, y, h1, h2⟩ := entP_mem h
      exact ⟨j + 1, y, by simpa using h1, h2⟩
theorem ent_ok {s : Sta} (h : stateOk s) {id : Int} {e : Ent} (he : (e, true) = entP s.items id) : entOk e := by
  obtain ⟨j, x, h1, h2, _⟩ := entP_mem he
  rw [← h2]; exact (h.1 j x h1).2.1
theorem ac_impl_GoneAt (s : SV) (id : Int) (st : St) (hR : RdS st s) (hb : bigS s.x) : C 74 [.agg #[vS s.p s.x.items.length, vS s.q s.x.floors.length], vI id] st (fun v s' => v = vI (goneAt s.x id) ∧ s' = st) := by
  refine AC.enterX (i := ⟨[2, 5], [2, 5, 23, 26, 28], [0, 1, 2, 4, 5, 6, 9, 16, 22]⟩) [] Try.func74 rfl rfl (by kernel_rfl) (by kernel_rfl) Try.ntmps74 (Nat.le_of_ble_eq_true rfl) rfl ?_
  refine ⟨_, rfl, ?_⟩
  refine AW.cutM (1) st [(1, vI id), (2, vL 2 0 (0)), (4, vI (0))] [(2, 0, [vS s.p s.x.items.length, vS s.q s.x.floors.length])] ⟨rfl, rfl, rfl, trivial⟩ ⟨rfl, trivial⟩ rfl fun ρ0 ff => ?_
  refine ⟨_, rfl, ?_⟩
  refine ⟨_, rfl, (ac_impl_StateOk s st hR hb).mono ?_⟩
  rintro _ st ⟨c, rfl, hk, rfl⟩
  rcases c with _|_
  · replace hk := fun k => Bool.false_ne_true (hk.2 k)
    refine ⟨_, rfl, ?_⟩
    refine AW.cutM (1) st [(1, vI id), (2, vL 2 0 (0)), (4, vI (0)), (9, vB true)] [(2, 0, [vS s.p s.x.items.length, vS s.q s.x.floors.length])] ⟨rfl, rfl, rfl, rfl, trivial⟩ ⟨rfl, trivial⟩ rfl fun ρ0 ff => ?_
    refine cx_sound _ _ _ _ _ ?_
    exact ⟨.inl rfl, _, rfl, congrArg vI (by rw [goneAt, if_neg hk]), rfl⟩
  · replace hk := hk.1 rfl
    refine ⟨_, rfl, ?_⟩
    refine AW.cutM (1) st [(1, vI id), (2, vL 2 0 (0)), (4, vI (0)), (9, vB false)] [(2, 0, [vS s.p s.x.items.length, vS s.q s.x.floors.length])] ⟨rfl, rfl, rfl, rfl, trivial⟩ ⟨rfl, trivial⟩ rfl fun ρ0 ff => ?_
    refine cx_sound _ _ _ _ _ ?_
    refine ⟨_, rfl, ?_⟩
    refine ⟨_, rfl, (ac_impl_EntryOf s id st hR hb).mono ?_⟩
    rintro _ st ⟨e, b, rfl, he, rfl⟩
    rcases b with _|_
    · iterate 4 refine ⟨_, rfl, ?_⟩
      refine AW.cutM (2) st [(1, vI id), (2, vL 2 0 (0)), (4, vI (0)), (5, vL 5 0 (1)), (6, vB false)] [(2, 0, [vS s.p s.x.items.length, vS s.q s.x.floors.length]), (5, 1, [vI e.inc, vI e.rank, vI e.beat, vI e.ver, .string e.data])] ⟨rfl, rfl, rfl, rfl, rfl, trivial⟩ ⟨rfl, rfl, trivial⟩ rfl fun ρ0 ff => ?_
      refine ⟨_, rfl, ?_⟩
      refine AW.cutM (2) st [(1, vI id), (2, vL 2 0 (0)), (4, vI (0)), (5, vL 5 0 (1)), (16, vB true)] [(2, 0, [vS s.p s.x.items.length, vS s.q s.x.floors.length]), (5, 1, [vI e.inc, vI e.rank, vI e.beat, vI e.ver, .string e.data])] ⟨rfl, rfl, rfl, rfl, rfl, trivial⟩ ⟨rfl, rfl, trivial⟩ rfl fun ρ0 ff => ?_
      refine ⟨_, rfl, ?_⟩
      refine ⟨_, rfl, (ac_impl_FloorOf s id st hR hb).mono ?_⟩
      rintro _ st ⟨rfl, rfl⟩
      refine cx_sound _ _ _ _ _ ?_
      exact ⟨.inl rfl, _, rfl, congrArg vI (by simp [goneAt, hk, ← he]), rfl⟩
    · iterate 4 refine ⟨_, rfl, ?_⟩
      refine AW.cutM (2) st [(1, vI id), (2, vL 2 0 (0)), (4, vI (0)), (5, vL 5 0 (1)), (6, vB true)] [(2, 0, [vS s.p s.x.items.length, vS s.q s.x.floors.length]), (5, 1, [vI e.inc, vI e.rank, vI e.beat, vI e.ver, .string e.data])] ⟨rfl, rfl, rfl, rfl, rfl, trivial⟩ ⟨rfl, rfl, trivial⟩ rfl fun ρ0 ff => ?_
      refine ⟨_, rfl, ?_⟩
      refine AW.cutM (2) st [(1, vI id), (2, vL 2 0 (0)), (4, vI (0)), (5, vL 5 0 (1)), (16, vB false)] [(2, 0, [vS s.p s.x.items.length, vS s.q s.x.floors.length]), (5, 1, [vI e.inc, vI e.rank, vI e.beat, vI e.ver, .string e.data])] ⟨rfl, rfl, rfl, rfl, rfl, trivial⟩ ⟨rfl, rfl, trivial⟩ rfl fun ρ0 ff => ?_
      iterate 3 refine ⟨_, rfl, ?_⟩
      rintro (_|_) h3
      · replace h3 : ¬ (e.rank = 1) := beq_eq_false_iff_ne.1 h3
        refine AW.cutM (2) st [(4, vI (0)), (5, vL 5 0 (1)), (22, vB false)] [(5, 1, [vI e.inc, vI e.rank, vI e.beat, vI e.ver, .string e.data])] ⟨rfl, rfl, rfl, trivial⟩ ⟨rfl, trivial⟩ rfl fun ρ0 ff => ?_
        refine cx_sound _ _ _ _ _ ?_
        iterate 2 refine ⟨_, rfl, ?_⟩
        have hee := (ent_ok hk he).1
        have e30 : IntKind.wrap .i64 (e.inc - 1) = e.inc - 1 := wrap_i64 (by omega) (by omega)
        refine ⟨_, rfl, ?_⟩
        refine cx_sound _ _ _ _ _ ?_
        exact ⟨.inl rfl, _, rfl, congrArg vI (by simp [goneAt, hk, ← he, h3, e30]), rfl⟩
      · replace h3 : e.rank = 1 := beq_iff_eq.1 h3
        refine AW.cutM (2) st [(4, vI (0)), (5, vL 5 0 (1)), (22, vB true)] [(5, 1, [vI e.inc, vI e.rank, vI e.beat, vI e.ver, .string e.data])] ⟨rfl, rfl, rfl, trivial⟩ ⟨rfl, trivial⟩ rfl fun ρ0 ff => ?_
        iterate 2 refine ⟨_, rfl, ?_⟩
        refine cx_sound _ _ _ _ _ ?_
        exact ⟨.inl rfl, _, rfl, congrArg vI (by simp [goneAt, hk, ← he, h3]), rfl⟩
theorem ac_spec_GoneAt (s : SV) (id : Int) (st : St) (hR : RdS st s) (hb : bigS s.x) : C 71 [.agg #[vS s.p s.x.items.length, vS s.q s.x.floors.length], vI id] st (fun v s' => v = vI (goneAt s.x id) ∧ s' = st) := by
  refine AC.enterX (i := ⟨[2, 5], [2, 5, 21, 24, 27], [0, 1, 2, 4, 5, 6, 9, 17, 23]⟩) [] Try.func71 rfl rfl (by kernel_rfl) (by kernel_rfl) Try.ntmps71 (Nat.le_of_ble_eq_true rfl) rfl ?_
  refine ⟨_, rfl, ?_⟩
  refine AW.cutM (1) st [(1, vI id), (2, vL 2 0 (0)), (4, vI (0))] [(2, 0, [vS s.p s.x.items.length, vS s.q s.x.floors.length])] ⟨rfl, rfl, rfl, trivial⟩ ⟨rfl, trivial⟩ rfl fun ρ0 ff => ?_
  refine ⟨_, rfl, ?_⟩
  refine ⟨_, rfl, (ac_spec_StateOk s st hR hb).mono ?_⟩
  rintro _ st ⟨c, rfl, hk, rfl⟩
  rcases c with _|_
  · replace hk := fun k => Bool.false_ne_true (hk.2 k)
    refine ⟨_, rfl, ?_⟩
    refine AW.cutM (1) st [(1, vI id), (2, vL 2 0 (0)), (4, vI (0)), (9, vB true)] [(2, 0, [vS s.p s.x.items.length, vS s.q s.x.floors.length])] ⟨rfl, rfl, rfl, rfl, trivial⟩ ⟨rfl, trivial⟩ rfl fun ρ0 ff => ?_
    refine cx_sound _ _ _ _ _ ?_
    exact ⟨.inl rfl, _, rfl, congrArg vI (by rw [goneAt, if_neg hk]), rfl⟩
  · replace hk := hk.1 rfl
    refine ⟨_, rfl, ?_⟩
    refine AW.cutM (1) st [(1, vI id), (2, vL 2 0 (0)), (4, vI (0)), (9, vB false)] [(2, 0, [vS s.p s.x.items.length, vS s.q s.x.floors.length])] ⟨rfl, rfl, rfl, rfl, trivial⟩ ⟨rfl, trivial⟩ rfl fun ρ0 ff => ?_
    refine cx_sound _ _ _ _ _ ?_
    refine ⟨_, rfl, ?_⟩
    refine ⟨_, rfl, (ac_spec_EntryOf s id st hR hb).mono ?_⟩
    rintro _ st ⟨e, b, rfl, he, rfl⟩
    rcases b with _|_
    · iterate 4 refine ⟨_, rfl, ?_⟩
      refine AW.cutM (2) st [(1, vI id), (2, vL 2 0 (0)), (4, vI (0)), (5, vL 5 0 (1)), (6, vB false)] [(2, 0, [vS s.p s.x.items.length, vS s.q s.x.floors.length]), (5, 1, [vI e.inc, vI e.rank, vI e.beat, vI e.ver, .string e.data])] ⟨rfl, rfl, rfl, rfl, rfl, trivial⟩ ⟨rfl, rfl, trivial⟩ rfl fun ρ0 ff => ?_
      refine ⟨_, rfl, ?_⟩
      refine AW.cutM (2) st [(1, vI id), (2, vL 2 0 (0)), (4, vI (0)), (5, vL 5 0 (1)), (17, vB true)] [(2, 0, [vS s.p s.x.items.length, vS s.q s.x.floors.length]), (5, 1, [vI e.inc, vI e.rank, vI e.beat, vI e.ver, .string e.data])] ⟨rfl, rfl, rfl, rfl, rfl, trivial⟩ ⟨rfl, rfl, trivial⟩ rfl fun ρ0 ff => ?_
      refine ⟨_, rfl, ?_⟩
      refine ⟨_, rfl, (ac_spec_FloorOf s id st hR hb).mono ?_⟩
      rintro _ st ⟨rfl, rfl⟩
      refine cx_sound _ _ _ _ _ ?_
      exact ⟨.inl rfl, _, rfl, congrArg vI (by simp [goneAt, hk, ← he]), rfl⟩
    · iterate 4 refine ⟨_, rfl, ?_⟩
      refine AW.cutM (2) st [(1, vI id), (2, vL 2 0 (0)), (4, vI (0)), (5, vL 5 0 (1)), (6, vB true)] [(2, 0, [vS s.p s.x.items.length, vS s.q s.x.floors.length]), (5, 1, [vI e.inc, vI e.rank, vI e.beat, vI e.ver, .string e.data])] ⟨rfl, rfl, rfl, rfl, rfl, trivial⟩ ⟨rfl, rfl, trivial⟩ rfl fun ρ0 ff => ?_
      refine ⟨_, rfl, ?_⟩
      refine AW.cutM (2) st [(1, vI id), (2, vL 2 0 (0)), (4, vI (0)), (5, vL 5 0 (1)), (17, vB false)] [(2, 0, [vS s.p s.x.items.length, vS s.q s.x.floors.length]), (5, 1, [vI e.inc, vI e.rank, vI e.beat, vI e.ver, .string e.data])] ⟨rfl, rfl, rfl, rfl, rfl, trivial⟩ ⟨rfl, rfl, trivial⟩ rfl fun ρ0 ff => ?_
      refine cx_sound _ _ _ _ _ ?_
      iterate 3 refine ⟨_, rfl, ?_⟩
      rintro (_|_) h3
      · replace h3 : ¬ (e.rank = 0) := beq_eq_false_iff_ne.1 h3
        refine AW.cutM (2) st [(4, vI (0)), (5, vL 5 0 (1)), (23, vB false)] [(5, 1, [vI e.inc, vI e.rank, vI e.beat, vI e.ver, .string e.data])] ⟨rfl, rfl, rfl, trivial⟩ ⟨rfl, trivial⟩ rfl fun ρ0 ff => ?_
        refine cx_sound _ _ _ _ _ ?_
        iterate 2 refine ⟨_, rfl, ?_⟩
        refine cx_sound _ _ _ _ _ ?_
        have hr := (ent_ok hk he).2.1
        have h4 : e.rank = 1 := by omega
        exact ⟨.inl rfl, _, rfl, congrArg vI (by simp [goneAt, hk, ← he, h4]), rfl⟩
      · replace h3 : e.rank = 0 := beq_iff_eq.1 h3
        refine AW.cutM (2) st [(4, vI (0)), (5, vL 5 0 (1)), (23, vB true)] [(5, 1, [vI e.inc, vI e.rank, vI e.beat, vI e.ver, .string e.data])] ⟨rfl, rfl, rfl, trivial⟩ ⟨rfl, trivial⟩ rfl fun ρ0 ff => ?_
        iterate 2 refine ⟨_, rfl, ?_⟩
        have hee := (ent_ok hk he).1
        have e26 : IntKind.wrap .i64 (e.inc - 1) = e.inc - 1 := wrap_i64 (by omega) (by omega)
        refine ⟨_, rfl, ?_⟩
        refine cx_sound _ _ _ _ _ ?_
        exact ⟨.inl rfl, _, rfl, congrArg vI (by simp [goneAt, hk, ← he, h3, e26]), rfl⟩
/-- Marks of all that is over. -/
def marksF (g : Int → Int) (i : Nat) : List Flr := (List.range i).filterMap fun (j : Nat) => if g (j : Int) > 0 then some ⟨(j : Int), g (j : Int)⟩ else none
theorem marksF_succ (g : Int → Int) (i : Nat) : marksF g (i + 1) = if g (i : Int) > 0 then marksF g i ++ [⟨(i : Int), g (i : Int)⟩] else marksF g i := by
  unfold marksF
  rw [List.range_succ, List.filterMap_append]
  split <;> simp [*]
theorem marksF_len (g : Int → Int) : ∀ i, (marksF g i).length ≤ i
  | 0 => by simp [marksF]
  | i + 1 => by
    have := marksF_len g i
    rw [marksF_succ]
    split <;> simp <;> omega
theorem ac_impl_MarksOf (s : SV) (st : St) (hR : RdS st s) (hb : bigS s.x) : C 22 [.agg #[vS s.p s.x.items.length, vS s.q s.x.floors.length]] st (fun v s' => ∃ q, v = vS q (marksF (goneAt s.x) 5).length ∧ OwnR s' 2 cFlr q (marksF (goneAt s.x) 5) ∧ Pres st s' ∧ New st.next q) := by
  refine AC.enterX (i := ⟨[1], [1], [0, 1, 2, 3, 4, 5, 8, 15]⟩) [] Try.func22 rfl rfl (by kernel_rfl) (by kernel_rfl) Try.ntmps22 (Nat.le_of_ble_eq_true rfl) rfl ?_
  refine ⟨_, rfl, ?_⟩
  refine AW.cutM (1) st [(1, vL 1 0 (0)), (2, .slice none 0 0)] [(1, 0, [vS s.p s.x.items.length, vS s.q s.x.floors.length])] ⟨rfl, rfl, trivial⟩ ⟨rfl, trivial⟩ rfl fun ρ0 ff => ?_
  refine op_nilK (z := 2) (f := cFlr) rfl rfl rfl rfl (by decide) rfl ?_
  intro q0 s0 hO0 hP0 hN0
  refine cx_sound _ _ _ _ _ ?_
  refine AW.cutM (1) s0 [(1, vL 1 0 (0)), (2, .slice none 0 0), (3, vS q0 0), (4, vI (0))] [(1, 0, [vS s.p s.x.items.length, vS s.q s.x.floors.length])] ⟨rfl, rfl, rfl, rfl, trivial⟩ ⟨rfl, trivial⟩ rfl fun ρ0 ff => ?_
  refine AW.loopM (fun x : Nat × Option Addr => [(1, vL 1 0 (0)), (3, vS x.2 (marksF (goneAt s.x) x.1).length), (4, vI (x.1 : Int))]) (fun x : Nat × Option Addr => [(1, 0, [vS s.p s.x.items.length, vS s.q s.x.floors.length])]) (fun m (x : Nat × Option Addr) st' => m = 5 - x.1 ∧ x.1 ≤ 5 ∧ OwnR st' 2 cFlr x.2 (marksF (goneAt s.x) x.1) ∧ New st.next x.2 ∧ Pres st st') (0, q0) _ ⟨rfl, rfl, rfl, trivial⟩ ⟨rfl, trivial⟩ ⟨rfl, Nat.zero_le _, (show OwnR s0 2 cFlr q0 (marksF (goneAt s.x) 0) from hO0), hN0, hP0⟩ ?_
  rintro m x ρ0 ff gg st' ⟨rfl, hi, hO, hN, hP⟩
  have hml := marksF_len (goneAt s.x) x.1
  refine ⟨_, rfl, ?_⟩
  rintro (_|_) h1
  · replace h1 : ¬ ((x.1 : Int) < 5) := of_decide_eq_false h1
    refine AW.cutM (gg) st' [(1, vL 1 0 (0)), (3, vS x.2 (marksF (goneAt s.x) x.1).length), (4, vI (x.1 : Int)), (8, vB false)] [(1, 0, [vS s.p s.x.items.length, vS s.q s.x.floors.length])] ⟨rfl, rfl, rfl, rfl, trivial⟩ ⟨rfl, trivial⟩ rfl fun ρ0 ff => ?_
    refine cx_sound _ _ _ _ _ ?_
    refine cx_sound _ _ _ _ _ ?_
    have hil : x.1 = 5 := by omega
    rw [hil] at hO
    exact ⟨.inl rfl, _, rfl, x.2, congrArg (fun i => vS x.2 (marksF (goneAt s.x) i).length) hil, hO, hP, hN⟩
  · replace h1 : (x.1 : Int) < 5 := of_decide_eq_true h1
    refine AW.cutM (gg) st' [(1, vL 1 0 (0)), (3, vS x.2 (marksF (goneAt s.x) x.1).length), (4, vI (x.1 : Int)), (8, vB true)] [(1, 0, [vS s.p s.x.items.length, vS s.q s.x.floors.length])] ⟨rfl, rfl, rfl, rfl, trivial⟩ ⟨rfl, trivial⟩ rfl fun ρ0 ff => ?_
    refine cx_sound _ _ _ _ _ ?_
    refine ⟨_, op_ldo rfl rfl rfl rfl, ?_⟩
    refine ⟨_, rfl, (ac_impl_GoneAt s x.1 st' (hR.pres hP) hb).mono ?_⟩
    rintro _ st' ⟨rfl, rfl⟩
    refine AW.cutM (gg) st' [(1, vL 1 0 (0)), (3, vS x.2 (marksF (goneAt s.x) x.1).length), (4, vI (x.1 : Int)), (5, vI (goneAt s.x (x.1 : Int))), (8, vB true)] [(1, 0, [vS s.p s.x.items.length, vS s.q s.x.floors.length])] ⟨rfl, rfl, rfl, rfl, rfl, trivial⟩ ⟨rfl, trivial⟩ rfl fun ρ0 ff => ?_
    refine ⟨_, rfl, ?_⟩
    rintro (_|_) h2
    · replace h2 : ¬ (goneAt s.x (x.1 : Int) > 0) := of_decide_eq_false h2
      refine AW.cutM (gg) st' [(1, vL 1 0 (0)), (3, vS x.2 (marksF (goneAt s.x) x.1).length), (4, vI (x.1 : Int)), (5, vI (goneAt s.x (x.1 : Int))), (8, vB true), (15, vB false)] [(1, 0, [vS s.p s.x.items.length, vS s.q s.x.floors.length])] ⟨rfl, rfl, rfl, rfl, rfl, rfl, trivial⟩ ⟨rfl, trivial⟩ rfl fun ρ0 ff => ?_
      refine cx_sound _ _ _ _ _ ?_
      have e10 : IntKind.wrap .i64 ((x.1 : Int) + 1) = ((x.1 + 1 : Nat) : Int) := (wrap_i64 (by omega) (by omega)).trans (by omega)
      refine ⟨_, rfl, ?_⟩
      have hm := marksF_succ (goneAt s.x) x.1
      rw [if_neg h2] at hm
      exact ⟨(x.1 + 1, x.2), 5 - (x.1 + 1), by omega, ⟨rfl, congrArg (fun l : List Flr => vS x.2 l.length) hm.symm, congrArg (Value.int .i64) e10, trivial⟩, ⟨rfl, trivial⟩, rfl, by omega, by rw [hm]; exact hO, hN, hP⟩
    · replace h2 : goneAt s.x (x.1 : Int) > 0 := of_decide_eq_true h2
      refine AW.cutM (gg) st' [(1, vL 1 0 (0)), (3, vS x.2 (marksF (goneAt s.x) x.1).length), (4, vI (x.1 : Int)), (5, vI (goneAt s.x (x.1 : Int))), (8, vB true), (15, vB true)] [(1, 0, [vS s.p s.x.items.length, vS s.q s.x.floors.length])] ⟨rfl, rfl, rfl, rfl, rfl, rfl, trivial⟩ ⟨rfl, trivial⟩ rfl fun ρ0 ff => ?_
      refine ⟨_, rfl, ?_⟩
      refine op_one (z := 2) (a := (⟨(x.1 : Int), goneAt s.x (x.1 : Int)⟩ : Flr)) (f := cFlr) rfl rfl rfl rfl rfl (by decide) rfl (Nat.le_of_ble_eq_true rfl) rfl rfl rfl ?_
      refine op_add (z := 2) (st := st') (f := cFlr) (b := 16) (l := marksF (goneAt s.x) x.1) rfl rfl rfl rfl rfl rfl rfl (by decide) len_cFlr rfl rfl rfl (by omega) (by unfold maxLen; omega) hO ?_
      intro q4 s4 hO4 hP4 hN4
      refine AW.cutM (gg) s4 [(1, vL 1 0 (0)), (3, vS q4 ((marksF (goneAt s.x) x.1).length + 1)), (4, vI (x.1 : Int)), (5, vI (goneAt s.x (x.1 : Int))), (8, vB true), (15, vB true)] [(1, 0, [vS s.p s.x.items.length, vS s.q s.x.floors.length])] ⟨rfl, rfl, rfl, rfl, rfl, rfl, trivial⟩ ⟨rfl, trivial⟩ rfl fun ρ0 ff => ?_
      have e10 : IntKind.wrap .i64 ((x.1 : Int) + 1) = ((x.1 + 1 : Nat) : Int) := (wrap_i64 (by omega) (by omega)).trans (by omega)
      refine ⟨_, rfl, ?_⟩
      have hm := marksF_succ (goneAt s.x) x.1
      rw [if_pos h2] at hm
      exact ⟨(x.1 + 1, q4), 5 - (x.1 + 1), by omega, ⟨rfl, (show vS q4 ((marksF (goneAt s.x) x.1).length + 1) = vS q4 (marksF (goneAt s.x) (x.1 + 1)).length by rw [hm, List.length_append]; rfl), congrArg (Value.int .i64) e10, trivial⟩, ⟨rfl, trivial⟩, rfl, by omega, by rw [hm]; exact hO4, hN4.le hP.1, hP4.pres hP hN⟩
theorem ac_spec_MarksOf (s : SV) (st : St) (hR : RdS st s) (hb : bigS s.x) : C 20 [.agg #[vS s.p s.x.items.length, vS s.q s.x.floors.length]] st (fun v s' => ∃ q, v = vS q (marksF (goneAt s.x) 5).length ∧ OwnR s' 2 cFlr q (marksF (goneAt s.x) 5) ∧ Pres st s' ∧ New st.next q) := by
  refine AC.enterX (i := ⟨[1], [1], [0, 1, 2, 3, 4, 5, 8, 15]⟩) [] Try.func20 rfl rfl (by kernel_rfl) (by kernel_rfl) Try.ntmps20 (Nat.le_of_ble_eq_true rfl) rfl ?_
  refine ⟨_, rfl, ?_⟩
  refine AW.cutM (1) st [(1, vL 1 0 (0)), (2, .slice none 0 0)] [(1, 0, [vS s.p s.x.items.length, vS s.q s.x.floors.length])] ⟨rfl, rfl, trivial⟩ ⟨rfl, trivial⟩ rfl fun ρ0 ff => ?_
  refine op_nilK (z := 2) (f := cFlr) rfl rfl rfl rfl (by decide) rfl ?_
  intro q0 s0 hO0 hP0 hN0
  refine cx_sound _ _ _ _ _ ?_
  refine AW.cutM (1) s0 [(1, vL 1 0 (0)), (2, .slice none 0 0), (3, vS q0 0), (4, vI (0))] [(1, 0, [vS s.p s.x.items.length, vS s.q s.x.floors.length])] ⟨rfl, rfl, rfl, rfl, trivial⟩ ⟨rfl, trivial⟩ rfl fun ρ0 ff => ?_
  refine AW.loopM (fun x : Nat × Option Addr => [(1, vL 1 0 (0)), (3, vS x.2 (marksF (goneAt s.x) x.1).length), (4, vI (x.1 : Int))]) (fun x : Nat × Option Addr => [(1, 0, [vS s.p s.x.items.length, vS s.q s.x.floors.length])]) (fun m (x : Nat × Option Addr) st' => m = 5 - x.1 ∧ x.1 ≤ 5 ∧ OwnR st' 2 cFlr x.2 (marksF (goneAt s.x) x.1) ∧ New st.next x.2 ∧ Pres st st') (0, q0) _ ⟨rfl, rfl, rfl, trivial⟩ ⟨rfl, trivial⟩ ⟨rfl, Nat.zero_le _, (show OwnR s0 2 cFlr q0 (marksF (goneAt s.x) 0) from hO0), hN0, hP0⟩ ?_
  rintro m x ρ0 ff gg st' ⟨rfl, hi, hO, hN, hP⟩
  have hml := marksF_len (goneAt s.x) x.1
  refine ⟨_, rfl, ?_⟩
  rintro (_|_) h1
  · replace h1 : ¬ ((x.1 : Int) < 5) := of_decide_eq_false h1
    refine AW.cutM (gg) st' [(1, vL 1 0 (0)), (3, vS x.2 (marksF (goneAt s.x) x.1).length), (4, vI (x.1 : Int)), (8, vB false)] [(1, 0, [vS s.p s.x.items.length, vS s.q s.x.floors.length])] ⟨rfl, rfl, rfl, rfl, trivial⟩ ⟨rfl, trivial⟩ rfl fun ρ0 ff => ?_
    refine cx_sound _ _ _ _ _ ?_
    refine cx_sound _ _ _ _ _ ?_
    have hil : x.1 = 5 := by omega
    rw [hil] at hO
    exact ⟨.inl rfl, _, rfl, x.2, congrArg (fun i => vS x.2 (marksF (goneAt s.x) i).length) hil, hO, hP, hN⟩
  · replace h1 : (x.1 : Int) < 5 := of_decide_eq_true h1
    refine AW.cutM (gg) st' [(1, vL 1 0 (0)), (3, vS x.2 (marksF (goneAt s.x) x.1).length), (4, vI (x.1 : Int)), (8, vB true)] [(1, 0, [vS s.p s.x.items.length, vS s.q s.x.floors.length])] ⟨rfl, rfl, rfl, rfl, trivial⟩ ⟨rfl, trivial⟩ rfl fun ρ0 ff => ?_
    refine cx_sound _ _ _ _ _ ?_
    refine ⟨_, op_ldo rfl rfl rfl rfl, ?_⟩
    refine ⟨_, rfl, (ac_spec_GoneAt s x.1 st' (hR.pres hP) hb).mono ?_⟩
    rintro _ st' ⟨rfl, rfl⟩
    refine AW.cutM (gg) st' [(1, vL 1 0 (0)), (3, vS x.2 (marksF (goneAt s.x) x.1).length), (4, vI (x.1 : Int)), (5, vI (goneAt s.x (x.1 : Int))), (8, vB true)] [(1, 0, [vS s.p s.x.items.length, vS s.q s.x.floors.length])] ⟨rfl, rfl, rfl, rfl, rfl, trivial⟩ ⟨rfl, trivial⟩ rfl fun ρ0 ff => ?_
    refine ⟨_, rfl, ?_⟩
    rintro (_|_) h2
    · replace h2 : ¬ (goneAt s.x (x.1 : Int) > 0) := of_decide_eq_false h2
      refine AW.cutM (gg) st' [(1, vL 1 0 (0)), (3, vS x.2 (marksF (goneAt s.x) x.1).length), (4, vI (x.1 : Int)), (5, vI (goneAt s.x (x.1 : Int))), (8, vB true), (15, vB false)] [(1, 0, [vS s.p s.x.items.length, vS s.q s.x.floors.length])] ⟨rfl, rfl, rfl, rfl, rfl, rfl, trivial⟩ ⟨rfl, trivial⟩ rfl fun ρ0 ff => ?_
      refine cx_sound _ _ _ _ _ ?_
      have e10 : IntKind.wrap .i64 ((x.1 : Int) + 1) = ((x.1 + 1 : Nat) : Int) := (wrap_i64 (by omega) (by omega)).trans (by omega)
      refine ⟨_, rfl, ?_⟩
      have hm := marksF_succ (goneAt s.x) x.1
      rw [if_neg h2] at hm
      exact ⟨(x.1 + 1, x.2), 5 - (x.1 + 1), by omega, ⟨rfl, congrArg (fun l : List Flr => vS x.2 l.length) hm.symm, congrArg (Value.int .i64) e10, trivial⟩, ⟨rfl, trivial⟩, rfl, by omega, by rw [hm]; exact hO, hN, hP⟩
    · replace h2 : goneAt s.x (x.1 : Int) > 0 := of_decide_eq_true h2
      refine AW.cutM (gg) st' [(1, vL 1 0 (0)), (3, vS x.2 (marksF (goneAt s.x) x.1).length), (4, vI (x.1 : Int)), (5, vI (goneAt s.x (x.1 : Int))), (8, vB true), (15, vB true)] [(1, 0, [vS s.p s.x.items.length, vS s.q s.x.floors.length])] ⟨rfl, rfl, rfl, rfl, rfl, rfl, trivial⟩ ⟨rfl, trivial⟩ rfl fun ρ0 ff => ?_
      refine ⟨_, rfl, ?_⟩
      refine op_one (z := 2) (a := (⟨(x.1 : Int), goneAt s.x (x.1 : Int)⟩ : Flr)) (f := cFlr) rfl rfl rfl rfl rfl (by decide) rfl (Nat.le_of_ble_eq_true rfl) rfl rfl rfl ?_
      refine op_add (z := 2) (st := st') (f := cFlr) (b := 16) (l := marksF (goneAt s.x) x.1) rfl rfl rfl rfl rfl rfl rfl (by decide) len_cFlr rfl rfl rfl (by omega) (by unfold maxLen; omega) hO ?_
      intro q4 s4 hO4 hP4 hN4
      refine AW.cutM (gg) s4 [(1, vL 1 0 (0)), (3, vS q4 ((marksF (goneAt s.x) x.1).length + 1)), (4, vI (x.1 : Int)), (5, vI (goneAt s.x (x.1 : Int))), (8, vB true), (15, vB true)] [(1, 0, [vS s.p s.x.items.length, vS s.q s.x.floors.length])] ⟨rfl, rfl, rfl, rfl, rfl, rfl, trivial⟩ ⟨rfl, trivial⟩ rfl fun ρ0 ff => ?_
      have e10 : IntKind.wrap .i64 ((x.1 : Int) + 1) = ((x.1 + 1 : Nat) : Int) := (wrap_i64 (by omega) (by omega)).trans (by omega)
      refine ⟨_, rfl, ?_⟩
      have hm := marksF_succ (goneAt s.x) x.1
      rw [if_pos h2] at hm
      exact ⟨(x.1 + 1, q4), 5 - (x.1 + 1), by omega, ⟨rfl, (show vS q4 ((marksF (goneAt s.x) x.1).length + 1) = vS q4 (marksF (goneAt s.x) (x.1 + 1)).length by rw [hm, List.length_append]; rfl), congrArg (Value.int .i64) e10, trivial⟩, ⟨rfl, trivial⟩, rfl, by omega, by rw [hm]; exact hO4, hN4.le hP.1, hP4.pres hP hN⟩
end Go.Proofs.Ytopcpcoklgepnaa.AM
