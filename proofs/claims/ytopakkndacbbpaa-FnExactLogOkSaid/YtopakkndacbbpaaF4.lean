/- Contracts of drawn vectors. -/
import Derived.Test.YtopakkndacbbpaaF3
namespace Go.Proofs.Ytopakkndacbbpaa.AM
open Go Go.Proofs
set_option linter.unusedVariables false
set_option linter.unusedSimpArgs false
set_option maxRecDepth 100000
set_option maxHeartbeats 4000000
theorem Ints.ap {st : St} {k : IntKind} {p : Option Addr} {l : List Int} (h : Ints st k p l) : l.length = 0 ∨ ∀ q, p = some q → q.block ≠ st.next := by
  rcases h with h | ⟨b, off, blk, rfl, _, hb, _⟩
  · exact .inl h
  · exact .inr fun q hq => by injection hq with hq; subst hq; exact Nat.ne_of_lt hb
theorem Own.r {st : St} {k : IntKind} {p : Option Addr} {l : List Int} : Own st k p l ↔ OwnR st 1 (fun x => [.int k x]) p l := by
  have : AM.ints k l = l.flatMap fun x => [Value.int k x] := by induction l with
    | nil => rfl
    | cons a l ih => rw [List.flatMap_cons, ← ih]; rfl
  unfold Own OwnR
  rw [this]
theorem PresC.of {c : Nat} {st st' : St} : PresC c st st' ↔ Pr (some ⟨c, 0, none⟩) st st' :=
  ⟨fun h => ⟨h.1, fun a ha hn => h.2 a ha (hn _ rfl)⟩, fun h => ⟨h.1, fun a ha hn => h.2 a ha fun q hq => by injection hq with hq; subst hq; exact hn⟩⟩
theorem ac_spec_l1New (p : Option Addr) (l : List Int) (st : St) (hI : Ints st .u8 p l) (hs : l.length < 1099511627776) : C 65 [vS p l.length] st (fun v s => v = vP st.next 0 ∧ Cur s st.next p l ∧ Pres st s ∧ s.next = st.next + 1) := by
  refine AC.enterX (i := ⟨[], [], [0, 2, 3, 4, 15]⟩) [] Try.func65 rfl rfl (by kernel_rfl) (by kernel_rfl) Try.ntmps65 (Nat.le_of_ble_eq_true rfl) rfl ?_
  refine AW.cut lo0 st [(0, vS p l.length), (2, _)] ⟨rfl, rfl, trivial⟩ fun ρ0 => ?_
  iterate 2 refine ⟨_, rfl, ?_⟩
  refine cx_sound _ _ _ _ _ ?_
  refine AW.cut lo0 st [(0, vS p l.length), (2, _), (3, _), (4, vI (0))] ⟨rfl, rfl, rfl, rfl, trivial⟩ fun ρ0 => ?_
  refine AW.loop0 (fun x : Int × Nat => [(0, vS p l.length), (2, .pointer none), (3, vI x.1), (4, vI x.2)]) (fun m (x : Int × Nat) st' => m = l.length - x.2 ∧ x.2 ≤ l.length ∧ st' = st) (_, 0) _ ⟨rfl, rfl, rfl, rfl, trivial⟩ rfl ⟨rfl, Nat.zero_le _, rfl⟩ ?_
  rintro m x ρ0 st' ⟨rfl, hi, rfl⟩
  iterate 2 refine ⟨_, rfl, ?_⟩
  rintro (_|_) h1
  · replace h1 : ¬ ((x.2 : Int) < (l.length : Int)) := of_decide_eq_false h1
    refine ⟨_, rfl, ?_⟩
    refine AW.cut lo0 st' [(0, vS p l.length), (2, .pointer none), (3, vI x.1), (4, vI x.2), (15, vB false)] ⟨rfl, rfl, rfl, rfl, rfl, trivial⟩ fun ρ0 => ?_
    refine cx_sound _ _ _ _ _ ?_
    iterate 2 refine ⟨_, rfl, ?_⟩
    refine cx_sound _ _ _ _ _ ?_
    refine ⟨.inl rfl, _, rfl, rfl, ⟨Nat.lt_succ_self _, 0, 0, _, if_pos rfl, Pres.push.ints hI, hI.ap, Nat.zero_le _⟩, Pres.push, rfl⟩
  · replace h1 : (x.2 : Int) < (l.length : Int) := of_decide_eq_true h1
    refine ⟨_, rfl, ?_⟩
    rintro (_|_) h2
    · refine ⟨_, rfl, ?_⟩
      refine AW.cut lo0 st' [(0, vS p l.length), (2, .pointer none), (3, vI x.1), (4, vI x.2), (15, vB false)] ⟨rfl, rfl, rfl, rfl, rfl, trivial⟩ fun ρ0 => ?_
      refine cx_sound _ _ _ _ _ ?_
      iterate 2 refine ⟨_, rfl, ?_⟩
      refine cx_sound _ _ _ _ _ ?_
      refine ⟨.inl rfl, _, rfl, rfl, ⟨Nat.lt_succ_self _, 0, 0, _, if_pos rfl, Pres.push.ints hI, hI.ap, Nat.zero_le _⟩, Pres.push, rfl⟩
    · refine ⟨_, rfl, ?_⟩
      refine AW.cut lo0 st' [(0, vS p l.length), (2, .pointer none), (3, vI x.1), (4, vI x.2), (15, vB true)] ⟨rfl, rfl, rfl, rfl, rfl, trivial⟩ fun ρ0 => ?_
      obtain ⟨b1, o1, k1, hpe, hb1, hc1⟩ := hI.at (Int.ofNat_lt.1 h1)
      refine cx_sound _ _ _ _ _ ?_
      refine ⟨_, rfl, ?_⟩
      refine ⟨_, op_idx (j := (x.2 : Int)) (n := l.length) rfl (congrArg (fun u => vS u l.length) hpe) rfl rfl rfl (Int.natCast_nonneg _) h1, ?_⟩
      refine ⟨_, op_ld rfl rfl rfl rfl hb1 hc1, ?_⟩
      iterate 4 refine ⟨_, rfl, ?_⟩
      refine AW.cut lo0 st' [(0, vS p l.length), (2, .pointer none), (3, _), (4, vI x.2), (15, vB true)] ⟨rfl, rfl, rfl, rfl, rfl, trivial⟩ fun ρ0 => ?_
      have e1 : IntKind.wrap .i64 ((x.2 : Int) + 1) = ((x.2 + 1 : Nat) : Int) := wrap_i64 (by omega) (by omega)
      refine ⟨_, rfl, ?_⟩
      refine ⟨(_, x.2 + 1), l.length - (x.2 + 1), ?_, ⟨rfl, rfl, rfl, congrArg (Value.int .i64) e1, trivial⟩, rfl, rfl, ?_, rfl⟩
      · omega
      · omega
abbrev fI : Int → List Value := fun x => [.int .i64 x]
theorem fI_len (x : Int) : (fI x).length = 1 := rfl
theorem OwnR.ints {st : St} {p : Option Addr} {l : List Int} (h : OwnR st 1 fI p l) : Ints st .i64 p l := (Own.r.2 h).ints
theorem ac_spec_l8Vec (c : Nat) (p : Option Addr) (bs : List Int) (st : St) (hc : Cur st c p bs) (hs : bs.length < 1099511627776) : C 66 [vP c 0] st (fun v s => ∃ q l, v = vS q l.length ∧ OwnR s 1 fI q l ∧ New st.next q ∧ l.length < 7 ∧ Cur s c p bs ∧ PresC c st s) := by
  refine AC.enterX (i := ⟨[], [], [0, 2, 3, 4, 5, 11, 26]⟩) [] Try.func66 rfl rfl (by kernel_rfl) (by kernel_rfl) Try.ntmps66 (Nat.le_of_ble_eq_true rfl) rfl ?_
  refine AW.cut lo0 st [(0, vP c 0), (2, _)] ⟨rfl, rfl, trivial⟩ fun ρ0 => ?_
  refine op_nilK (f := fI) rfl rfl rfl rfl Nat.one_pos rfl ?_
  intro q0 s0 hO0 hP0 hN0
  refine AW.cut lo0 s0 [(0, vP c 0), (2, _), (3, vS q0 0)] ⟨rfl, rfl, rfl, trivial⟩ fun ρ0 => ?_
  refine ⟨_, rfl, (ac_l1Below c p bs 7 s0 (hc.pres hP0) hs).mono ?_⟩
  rintro _ s1 ⟨n, rfl, hn0, hn7, _, hc1, hp1⟩
  refine cx_sound _ _ _ _ _ ?_
  obtain ⟨N, rfl⟩ : ∃ N : Nat, n = N := ⟨n.toNat, by omega⟩
  have hn7 := hn7 (by omega)
  have hO1 := (PresC.of.1 hp1).ownR (Dis.of (Old.some hc.1) hN0) hO0
  have hp1 := hP0.c.trans hp1
  refine AW.cut lo0 s1 [(0, vP c 0), (2, _), (3, vS q0 0), (4, vI N), (5, vI (0))] ⟨rfl, rfl, rfl, rfl, rfl, trivial⟩ fun ρ0 => ?_
  refine AW.loop0 (fun x : List Int × Option Addr => [(0, vP c 0), (3, vS x.2 x.1.length), (4, vI N), (5, vI x.1.length)]) (fun m (x : List Int × Option Addr) st' => m = N - x.1.length ∧ x.1.length ≤ N ∧ OwnR st' 1 fI x.2 x.1 ∧ New st.next x.2 ∧ Cur st' c p bs ∧ PresC c st st') ([], q0) _ ⟨rfl, rfl, rfl, rfl, trivial⟩ rfl ⟨rfl, Nat.zero_le _, hO1, hN0, hc1, hp1⟩ ?_
  rintro m x ρ0 st' ⟨rfl, hle, hO, hN, hC, hP⟩
  have hd := Dis.of (Old.some (o := 0) hc.1) hN
  refine ⟨_, rfl, ?_⟩
  rintro (_|_) h1
  · replace h1 : ¬ ((x.1.length : Int) < (N : Int)) := of_decide_eq_false h1
    refine AW.cut lo0 st' [(0, vP c 0), (3, vS x.2 x.1.length), (4, vI N), (5, vI x.1.length), (11, vB false)] ⟨rfl, rfl, rfl, rfl, rfl, trivial⟩ fun ρ0 => ?_
    refine cx_sound _ _ _ _ _ ?_
    iterate 2 refine ⟨_, rfl, ?_⟩
    rintro (_|_) h2
    · replace h2 : ¬ (0 < (x.1.length : Int)) := of_decide_eq_false h2
      refine ⟨_, rfl, ?_⟩
      refine AW.cut lo0 st' [(0, vP c 0), (3, vS x.2 x.1.length), (4, vI N), (5, vI x.1.length), (11, vB false), (26, vB false)] ⟨rfl, rfl, rfl, rfl, rfl, rfl, trivial⟩ fun ρ0 => ?_
      refine cx_sound _ _ _ _ _ ?_
      refine cx_sound _ _ _ _ _ ?_
      exact ⟨.inl rfl, _, rfl, x.2, x.1, rfl, hO, hN, by omega, hC, hP⟩
    · replace h2 : 0 < (x.1.length : Int) := of_decide_eq_true h2
      refine ⟨_, rfl, (ac_l1Once c p bs 10 st' hC hs).mono ?_⟩
      rintro _ s2 ⟨y, rfl, hc2, hp2⟩
      rcases y with _|_
      · refine ⟨_, rfl, ?_⟩
        refine AW.cut lo0 s2 [(0, vP c 0), (3, vS x.2 x.1.length), (4, vI N), (5, vI x.1.length), (11, vB false), (26, vB false)] ⟨rfl, rfl, rfl, rfl, rfl, rfl, trivial⟩ fun ρ0 => ?_
        refine cx_sound _ _ _ _ _ ?_
        refine cx_sound _ _ _ _ _ ?_
        exact ⟨.inl rfl, _, rfl, x.2, x.1, rfl, (PresC.of.1 hp2).ownR hd hO, hN, by omega, hc2, hP.trans hp2⟩
      · refine ⟨_, rfl, ?_⟩
        refine AW.cut lo0 s2 [(0, vP c 0), (3, vS x.2 x.1.length), (4, vI N), (5, vI x.1.length), (11, vB false), (26, vB true)] ⟨rfl, rfl, rfl, rfl, rfl, rfl, trivial⟩ fun ρ0 => ?_
        have hO2 := (PresC.of.1 hp2).ownR hd hO
        have hP2 := hP.trans hp2
        refine op_litI (k := .i64) (l := [-1, 100001, -9223372036854775808]) rfl rfl rfl rfl rfl rfl (Nat.le_of_ble_eq_true rfl) ?_
        intro q3 s3 hO3 hP3 hN3
        refine ⟨_, rfl, (ac_l1PickInt c p bs q3 [-1, 100001, -9223372036854775808] s3 (hc2.pres hP3) hs (Nat.le_of_ble_eq_true rfl) hO3.ints (fun a ha => Nat.ne_of_gt (Nat.lt_of_lt_of_le hc2.1 (hN3 a ha)))).mono ?_⟩
        rintro _ s4 ⟨r1, rfl, hc4, hp4⟩
        have hO4 := (PresC.of.1 hp4).ownR hd (hP3.ownR hO2)
        have hlen : 0 < x.1.length := Int.ofNat_lt.1 h2
        have ⟨a, ha⟩ := hO4.some hlen
        refine ⟨_, op_idx (j := 0) (n := x.1.length) (q := ⟨a, 0, none⟩) rfl (congrArg (fun u => vS u x.1.length) ha) rfl rfl rfl (Int.le_refl 0) h2, ?_⟩
        refine op_put (st := s4) (f := fI) (j := 0) (l := x.1) (y := r1) (p := x.2) rfl rfl rfl rfl rfl fI_len rfl rfl hlen hO4 ha ?_
        intro s5 hO5 hP5 hn5
        refine cx_sound _ _ _ _ _ ?_
        refine cx_sound _ _ _ _ _ ?_
        exact ⟨.inl rfl, _, rfl, x.2, x.1.set 0 r1, congrArg (vS x.2) (List.length_set ..).symm, hO5, hN, by rw [List.length_set]; omega, Cur.grow hc ((hP2.trans hP3.c).trans hp4) hc4 hP5.2 hP5.1 hN, PresC.of.2 (Pr.then hP5 (PresC.of.1 ((hP2.trans hP3.c).trans hp4)) hN)⟩
  · replace h1 : (x.1.length : Int) < (N : Int) := of_decide_eq_true h1
    refine AW.cut lo0 st' [(0, vP c 0), (3, vS x.2 x.1.length), (4, vI N), (5, vI x.1.length), (11, vB true)] ⟨rfl, rfl, rfl, rfl, rfl, trivial⟩ fun ρ0 => ?_
    refine cx_sound _ _ _ _ _ ?_
    refine op_litI (k := .i64) (l := [0, 1, 2, 5, 100000, 3, 1, 0]) rfl rfl rfl rfl rfl rfl (Nat.le_of_ble_eq_true rfl) ?_
    intro q2 s2 hO2 hP2 hN2
    refine ⟨_, rfl, (ac_l1PickInt c p bs q2 [0, 1, 2, 5, 100000, 3, 1, 0] s2 (hC.pres hP2) hs (Nat.le_of_ble_eq_true rfl) hO2.ints (fun a ha => Nat.ne_of_gt (Nat.lt_of_lt_of_le hC.1 (hN2 a ha)))).mono ?_⟩
    rintro _ s3 ⟨r1, rfl, hc3, hp3⟩
    refine op_one (a := r1) (f := fI) rfl rfl rfl rfl rfl Nat.one_pos rfl (Nat.le_of_ble_eq_true rfl) rfl rfl rfl ?_
    refine op_add (f := fI) (b := 8) (l := x.1) rfl rfl rfl rfl rfl rfl rfl Nat.one_pos fI_len rfl rfl rfl (by omega) (by unfold maxLen; omega) ((PresC.of.1 hp3).ownR hd (hP2.ownR hO)) ?_
    intro q4 s4 hO4 hP4 hN4
    refine AW.cut lo0 s4 [(0, vP c 0), (3, vS q4 (x.1.length + 1)), (4, vI N), (5, vI x.1.length), (11, vB true)] ⟨rfl, rfl, rfl, rfl, rfl, trivial⟩ fun ρ0 => ?_
    have hN4' := hN4.le ((hP.trans hP2.c).trans hp3).1
    have hC4 := Cur.grow hc ((hP.trans hP2.c).trans hp3) hc3 hP4.2 hP4.1 hN
    have hP4' := PresC.of.2 (Pr.then hP4 (PresC.of.1 ((hP.trans hP2.c).trans hp3)) hN)
    have e1 : IntKind.wrap .i64 ((x.1.length : Int) + 1) = ((x.1.length + 1 : Nat) : Int) := wrap_i64 (by omega) (by omega)
    refine ⟨_, rfl, ?_⟩
    refine ⟨(x.1 ++ [r1], q4), N - (x.1.length + 1), ?_, ⟨rfl, ?_, rfl, ?_, trivial⟩, rfl, ?_, ?_, hO4, hN4', hC4, hP4'⟩
    · omega
    · rw [List.length_append]; rfl
    · rw [List.length_append]; exact congrArg (Value.int .i64) e1
    · rw [List.length_append]; rfl
    · rw [List.length_append]; exact Nat.succ_le_of_lt (Int.ofNat_lt.1 h1)
theorem PresC.pres {c : Nat} {st st1 st2 : St} (h : Pres st st1) (k : PresC c st1 st2) (hc : st.next ≤ c) : Pres st st2 := ⟨Nat.le_trans h.1 k.1, fun a ha => (k.2 a (Nat.lt_of_lt_of_le ha h.1) (by omega)).trans (h.2 a ha)⟩
theorem ac_spec_l8Two (p : Option Addr) (bs : List Int) (st : St) (hI : Ints st .u8 p bs) (hs : bs.length < 1099511627776) : C 64 [vS p bs.length] st (fun v s => ∃ q1 q2 a b, v = .tuple #[vS q1 a.length, vS q2 b.length] ∧ Ints s .i64 q1 a ∧ Ints s .i64 q2 b ∧ a.length < 7 ∧ b.length < 7 ∧ Pres st s) := by
  refine AC.enterX (i := ⟨[], [], [0, 2, 3, 4, 5, 11]⟩) [] Try.func64 rfl rfl (by kernel_rfl) (by kernel_rfl) Try.ntmps64 (Nat.le_of_ble_eq_true rfl) rfl ?_
  refine AW.cut lo0 st [(0, vS p bs.length), (2, _), (3, _)] ⟨rfl, rfl, rfl, trivial⟩ fun ρ0 => ?_
  refine ⟨_, rfl, (ac_spec_l1New p bs st hI hs).mono ?_⟩
  rintro _ s1 ⟨rfl, hc1, hp1, hn1⟩
  refine AW.cut lo0 s1 [(0, vS p bs.length), (2, _), (3, _), (4, vP st.next 0)] ⟨rfl, rfl, rfl, rfl, trivial⟩ fun ρ0 => ?_
  refine ⟨_, rfl, (ac_spec_l8Vec st.next p bs s1 hc1 hs).mono ?_⟩
  rintro _ s2 ⟨q1, a, rfl, hO2, hN2, hl2, hc2, hp2⟩
  refine AW.cut lo0 s2 [(0, vS p bs.length), (2, _), (3, _), (4, vP st.next 0), (5, vS q1 a.length)] ⟨rfl, rfl, rfl, rfl, rfl, trivial⟩ fun ρ0 => ?_
  refine ⟨_, rfl, (ac_l1Once st.next p bs 3 s2 hc2 hs).mono ?_⟩
  rintro _ s3 ⟨y, rfl, hc3, hp3⟩
  rcases y with _|_
  · refine AW.cut lo0 s3 [(0, vS p bs.length), (2, _), (3, _), (4, vP st.next 0), (5, vS q1 a.length), (11, vB false)] ⟨rfl, rfl, rfl, rfl, rfl, rfl, trivial⟩ fun ρ0 => ?_
    have hd := Dis.of (Old.some (o := 0) hc1.1) hN2
    have hO3 := (PresC.of.1 hp3).ownR hd hO2
    refine cx_sound _ _ _ _ _ ?_
    refine ⟨_, rfl, (ac_spec_l8Vec st.next p bs s3 hc3 hs).mono ?_⟩
    rintro _ s4 ⟨q2, b, rfl, hO4, hN4, hl4, hc4, hp4⟩
    refine cx_sound _ _ _ _ _ ?_
    have hO4' := (PresC.of.1 hp4).ownR hd hO3
    exact ⟨.inl rfl, _, rfl, q1, q2, a, b, rfl, hO4'.ints, hO4.ints, by omega, by omega, PresC.pres hp1 ((hp2.trans hp3).trans hp4) (Nat.le_refl _)⟩
  · refine AW.cut lo0 s3 [(0, vS p bs.length), (2, _), (3, _), (4, vP st.next 0), (5, vS q1 a.length), (11, vB true)] ⟨rfl, rfl, rfl, rfl, rfl, rfl, trivial⟩ fun ρ0 => ?_
    have hd := Dis.of (Old.some (o := 0) hc1.1) hN2
    have hO3 := (PresC.of.1 hp3).ownR hd hO2
    refine ⟨_, rfl, (ac_spec_l8Vec st.next p bs s3 hc3 hs).mono ?_⟩
    rintro _ s4 ⟨q2, b, rfl, hO4, hN4, hl4, hc4, hp4⟩
    have hO4' := (PresC.of.1 hp4).ownR hd hO3
    refine ⟨_, rfl, (ac_spec_VecMax q1 q2 a b s4 hO4'.ints hO4.ints (by omega) (by omega)).mono ?_⟩
    rintro _ s5 ⟨q3, m, rfl, hv, hO5, hP5, hN5⟩
    refine cx_sound _ _ _ _ _ ?_
    exact ⟨.inl rfl, _, rfl, q1, q3, a, m, rfl, hP5.ints hO4'.ints, hO5.ints, by omega, by have := hv.1; omega, (PresC.pres hp1 ((hp2.trans hp3).trans hp4) (Nat.le_refl _)).trans hP5⟩
theorem ac_spec_DrawVecMax (p : Option Addr) (bs : List Int) (st : St) (hI : Ints st .u8 p bs) (hs : bs.length < 1099511627776) : C 43 [vS p bs.length] st (fun v s => ∃ q1 q2 a b, v = .tuple #[vS q1 a.length, vS q2 b.length] ∧ Ints s .i64 q1 a ∧ Ints s .i64 q2 b ∧ a.length < 7 ∧ b.length < 7 ∧ Pres st s) := by
  refine AC.enterX (i := ⟨[], [], [0, 2, 3]⟩) [] Try.func43 rfl rfl (by kernel_rfl) (by kernel_rfl) Try.ntmps43 (Nat.le_of_ble_eq_true rfl) rfl ?_
  refine AW.cut lo0 st [(0, vS p bs.length), (2, _), (3, _)] ⟨rfl, rfl, rfl, trivial⟩ fun ρ0 => ?_
  refine ⟨_, rfl, (ac_spec_l8Two p bs st hI hs).mono ?_⟩
  rintro _ s1 ⟨q1, q2, a, b, rfl, h1, h2, h3, h4, h5⟩
  iterate 2 refine ⟨_, rfl, ?_⟩
  refine cx_sound _ _ _ _ _ ?_
  exact ⟨.inl rfl, _, rfl, q1, q2, a, b, rfl, h1, h2, h3, h4, h5⟩
theorem ac_spec_DrawVecRaise (p : Option Addr) (bs : List Int) (st : St) (hI : Ints st .u8 p bs) (hs : bs.length < 1099511627776) : C 44 [vS p bs.length] st (fun v s => ∃ q a i n, v = .tuple #[vS q a.length, vI i, vI n] ∧ Ints s .i64 q a ∧ a.length < 7 ∧ Pres st s) := by
  refine AC.enterX (i := ⟨[], [], [0, 2, 3, 4, 5, 6]⟩) [] Try.func44 rfl rfl (by kernel_rfl) (by kernel_rfl) Try.ntmps44 (Nat.le_of_ble_eq_true rfl) rfl ?_
  refine AW.cut lo0 st [(0, vS p bs.length), (2, _), (3, vI (0)), (4, vI (0))] ⟨rfl, rfl, rfl, rfl, trivial⟩ fun ρ0 => ?_
  refine ⟨_, rfl, (ac_spec_l1New p bs st hI hs).mono ?_⟩
  rintro _ s1 ⟨rfl, hc1, hp1, hn1⟩
  refine AW.cut lo0 s1 [(0, vS p bs.length), (2, _), (3, vI (0)), (4, vI (0)), (5, vP st.next 0)] ⟨rfl, rfl, rfl, rfl, rfl, trivial⟩ fun ρ0 => ?_
  refine ⟨_, rfl, (ac_spec_l8Vec st.next p bs s1 hc1 hs).mono ?_⟩
  rintro _ s2 ⟨q1, a, rfl, hO2, hN2, hl2, hc2, hp2⟩
  refine AW.cut lo0 s2 [(0, vS p bs.length), (2, _), (3, vI (0)), (4, vI (0)), (5, vP st.next 0), (6, vS q1 a.length)] ⟨rfl, rfl, rfl, rfl, rfl, rfl, trivial⟩ fun ρ0 => ?_
  have hd := Dis.of (Old.some (o := 0) hc1.1) hN2
  iterate 2 refine ⟨_, rfl, ?_⟩
  refine ⟨_, rfl, (ac_l1Below st.next p bs _ s2 hc2 hs).mono ?_⟩
  rintro _ s3 ⟨n, rfl, _, _, _, hc3, hp3⟩
  refine ⟨_, rfl, ?_⟩
  refine ⟨_, rfl, (ac_l1Below st.next p bs _ s3 hc3 hs).mono ?_⟩
  rintro _ s4 ⟨n2, rfl, _, _, _, hc4, hp4⟩
  refine ⟨_, rfl, ?_⟩
  refine cx_sound _ _ _ _ _ ?_
  exact ⟨.inl rfl, _, rfl, q1, a, _, _, rfl, ((PresC.of.1 (hp3.trans hp4)).ownR hd hO2).ints, hl2, PresC.pres hp1 ((hp2.trans hp3).trans hp4) (Nat.le_refl _)⟩
theorem ammL_max (a b : Int) : ammL true [.int .i64 a, .int .i64 b] = some (.int .i64 (max a b)) := by
  simp only [ammL, ammF, amm, Int.max_def, if_true, Option.bind_some]
  congr 2
  split <;> split <;> omega
theorem ammL_min (a b : Int) : ammL false [.int .i64 a, .int .i64 b] = some (.int .i64 (min a b)) := by
  simp only [ammL, ammF, amm, Int.min_def, if_true, Option.bind_some]
  congr 2
  split <;> split <;> simp_all <;> omega
/-- 'impl.VecRaise': a copy, one element raised. -/
def vraise (l : List Int) (i n : Int) : List Int := if 0 ≤ i ∧ i ≤ l.length - 1 then l.set i.toNat (max (l.getD i.toNat 0) n) else l
theorem ac_impl_VecRaise (p : Option Addr) (l : List Int) (i n : Int) (st : St) (hI : Ints st .i64 p l) (hs : l.length < 1099511627776) : C 21 [vS p l.length, vI i, vI n] st (fun v s => ∃ q, v = vS q l.length ∧ OwnR s 1 fI q (vraise l i n) ∧ Pres st s ∧ New st.next q) := by
  refine AC.enterX (i := ⟨[], [], [0, 1, 2, 6, 7, 14]⟩) [] Try.func21 rfl rfl (by kernel_rfl) (by kernel_rfl) Try.ntmps21 (Nat.le_of_ble_eq_true rfl) rfl ?_
  refine AW.cut lo0 st [(0, vS p l.length), (1, vI i), (2, vI n), (6, _)] ⟨rfl, rfl, rfl, rfl, trivial⟩ fun ρ0 => ?_
  refine ⟨_, rfl, (ac_impl_copyInts p l st hI hs).mono ?_⟩
  rintro _ s1 ⟨q, rfl, hO, hP, hN⟩
  refine AW.cut lo0 s1 [(0, vS p l.length), (1, vI i), (2, vI n), (6, _), (7, vS q l.length)] ⟨rfl, rfl, rfl, rfl, rfl, trivial⟩ fun ρ0 => ?_
  iterate 2 refine ⟨_, rfl, ?_⟩
  refine ⟨_, rfl, (ac_impl_within i 0 _ s1).mono ?_⟩
  rintro _ s1 ⟨y, rfl, hy, rfl⟩
  rcases y with _|_
  · replace hy := of_decide_eq_false hy.symm
    refine AW.cut lo0 s1 [(0, vS p l.length), (1, vI i), (2, vI n), (6, _), (7, vS q l.length), (14, vB false)] ⟨rfl, rfl, rfl, rfl, rfl, rfl, trivial⟩ fun ρ0 => ?_
    have e1 : IntKind.wrap .i64 ((l.length : Int) - 1) = (l.length : Int) - 1 := wrap_i64 (by omega) (by omega)
    have hy := fun h => hy (show 0 ≤ i ∧ i ≤ IntKind.wrap .i64 ((l.length : Int) - 1) by rw [e1]; exact h)
    refine cx_sound _ _ _ _ _ ?_
    refine cx_sound _ _ _ _ _ ?_
    refine ⟨.inl rfl, _, rfl, q, rfl, ?_, hP, hN⟩
    rw [vraise, if_neg (fun h => hy h)]
    exact Own.r.1 hO
  · replace hy := of_decide_eq_true hy.symm
    refine AW.cut lo0 s1 [(0, vS p l.length), (1, vI i), (2, vI n), (6, _), (7, vS q l.length), (14, vB true)] ⟨rfl, rfl, rfl, rfl, rfl, rfl, trivial⟩ fun ρ0 => ?_
    have e1 : IntKind.wrap .i64 ((l.length : Int) - 1) = (l.length : Int) - 1 := wrap_i64 (by omega) (by omega)
    have hy : 0 ≤ i ∧ i ≤ IntKind.wrap .i64 ((l.length : Int) - 1) := hy
    rw [e1] at hy
    obtain ⟨j, rfl⟩ : ∃ j : Nat, i = j := ⟨i.toNat, by omega⟩
    have hj : j < l.length := by omega
    obtain ⟨b1, o1, k1, hpe, hb1, hc1⟩ := (hP.ints hI).at hj
    have ⟨a, ha⟩ := (Own.r.1 hO).some (by omega)
    refine ⟨_, op_idx (j := (j : Int)) (n := l.length) (q := ⟨b1, o1, none⟩) rfl (congrArg (fun u => vS u l.length) hpe) rfl rfl rfl (Int.natCast_nonneg j) (Int.ofNat_lt.2 hj), ?_⟩
    refine ⟨_, op_ld rfl rfl rfl rfl hb1 hc1, ?_⟩
    refine ⟨.int .i64 (max (l.getD j 0) n), ammL_max _ _, ?_⟩
    refine ⟨_, op_idx (j := (j : Int)) (n := l.length) (q := ⟨a, 0, none⟩) rfl (congrArg (fun u => vS u l.length) ha) rfl rfl rfl (Int.natCast_nonneg j) (Int.ofNat_lt.2 hj), ?_⟩
    refine op_put (st := s1) (f := fI) (j := j) (l := l) (y := max (l.getD j 0) n) (p := q) (d := 0 + j * 1) rfl rfl (Nat.zero_add _) rfl rfl fI_len rfl rfl hj (Own.r.1 hO) ha ?_
    intro s5 hO5 hP5 hn5
    refine cx_sound _ _ _ _ _ ?_
    refine cx_sound _ _ _ _ _ ?_
    refine ⟨.inl rfl, _, rfl, q, rfl, ?_, Pr.pres hP5 hP hN, hN⟩
    rw [vraise, if_pos hy]
    exact hO5
end Go.Proofs.Ytopakkndacbbpaa.AM
