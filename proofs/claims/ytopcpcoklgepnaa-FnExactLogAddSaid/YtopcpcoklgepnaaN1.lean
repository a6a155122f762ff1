/- Contracts of what was logged since a number, and of pruning. -/
import Derived.Test.YtopcpcoklgepnaaJ3
import Derived.Test.YtopcpcoklgepnaaL1
import Derived.Test.YtopcpcoklgepnaaN0
namespace Go.Proofs.Ytopcpcoklgepnaa.AM
open Go Go.Proofs
set_option linter.unusedVariables false
set_option linter.unusedSimpArgs false
set_option maxRecDepth 100000
set_option maxHeartbeats 4000000
/-! Joins stay small -/
theorem entP_sz {l : List Itm} (h : ∀ x ∈ l, szOk x.e.data.size) (id : Int) : szOk (entP l id).1.data.size := by
  induction l with
  | nil => exact Nat.zero_le _
  | cons x l ih =>
    rw [entP]
    split
    · exact h x (List.mem_cons_self ..)
    · exact ih fun y hy => h y (List.mem_cons_of_mem _ hy)
theorem bigS_join {a b : Sta} (ha : bigS a) (hb : bigS b) : bigS (joinF a b 5) := by
  have hl := joinF_len a b 5
  refine ⟨by unfold szOk; omega, by unfold szOk; omega, fun x hx => ?_⟩
  have hx : x ∈ (List.range 5).filterMap fun (j : Nat) => if (topE a b (j : Int)).inc > topF a b (j : Int) then some (⟨(j : Int), topE a b (j : Int)⟩ : Itm) else none := hx
  obtain ⟨j, _, hj⟩ := List.mem_filterMap.1 hx
  split at hj
  · injection hj with hj
    rw [← hj]
    show szOk (entMax (entP a.items j).1 (entP b.items j).1).data.size
    unfold entMax
    split
    · exact entP_sz hb.2.2 _
    · exact entP_sz ha.2.2 _
  · cases hj
def nilS : Sta := ⟨[], []⟩
theorem bigS_nil : bigS nilS := ⟨Nat.zero_le _, Nat.zero_le _, fun x hx => by cases hx⟩
theorem newS_nil {n : Nat} : NewP n (pcS ⟨none, none, nilS⟩) := NewP.cons New.none (NewP.cons New.none NewP.nil)
/-- All of a list joined. -/
def joinL (l : List Sta) : Sta := l.foldl (fun a s => joinF a s 5) nilS
theorem joinL_snoc (l : List Sta) (s : Sta) : joinL (l ++ [s]) = joinF (joinL l) s 5 := by simp [joinL]
theorem bigS_joinL {l : List Sta} (h : ∀ s ∈ l, bigS s) : bigS (joinL l) := by
  have key : ∀ (l : List Sta) (a : Sta), bigS a → (∀ s ∈ l, bigS s) → bigS (l.foldl (fun a s => joinF a s 5) a) := by
    intro l
    induction l with
    | nil => intro a ha _; exact ha
    | cons s l ih => intro a ha hl; exact ih _ (bigS_join ha (hl s (List.mem_cons_self ..))) fun t ht => hl t (List.mem_cons_of_mem _ ht)
  exact key l nilS bigS_nil h
open Classical in
noncomputable def sinceF (g : Lg) (n : Int) : Sta × Bool := if logOk g ∧ g.frm ≤ n ∧ n ≤ g.frm + (g.list.length : Int) then (joinL (g.list.drop (n - g.frm).toNat), true) else (nilS, false)
theorem pcS_new {st : St} {u : SV} (h : u = ⟨none, none, nilS⟩) : OwnP st (pcS u) := by rw [h]; exact pcS_nil
theorem ac_impl_LogSince (g : LV) (n : Int) (st : St) (hR : RdL st g.p g.l) (hb : bigL g.l) : C 56 [.agg #[vI g.cap, vI g.frm, vS g.p g.l.length], vI n] st (fun v s => ∃ (u : SV) (b : Bool), v = .tuple #[.agg #[vS u.p u.x.items.length, vS u.q u.x.floors.length], vB b] ∧ (u.x, b) = sinceF g.x n ∧ OwnP s (pcS u) ∧ NewP st.next (pcS u) ∧ Pres st s) := by
  have hs : g.l.length ≤ 1048576 := hb.1
  have hgl : g.x.list.length = g.l.length := List.length_map _
  refine AC.enterX (i := ⟨[2, 4, 6, 8], [2, 4, 6, 8, 14, 23, 26], [0, 1, 2, 4, 5, 6, 8, 20, 29, 30, 31, 32]⟩) [(1, [8], [6])] Try.func56 rfl rfl (by kernel_rfl) (by kernel_rfl) Try.ntmps56 (Nat.le_of_ble_eq_true rfl) rfl ?_
  iterate 2 refine ⟨_, rfl, ?_⟩
  refine AW.cutM (2) st [(1, vI n), (2, vL 2 0 (0)), (4, vL 4 0 (1)), (5, vB false)] [(2, 0, [vI g.cap, vI g.frm, vS g.p g.l.length]), (4, 1, [.slice none 0 0, .slice none 0 0])] ⟨rfl, rfl, rfl, rfl, trivial⟩ ⟨rfl, rfl, trivial⟩ rfl fun ρ0 ff => ?_
  refine ⟨_, rfl, ?_⟩
  refine ⟨_, rfl, (ac_impl_LogOk g st hR hb).mono ?_⟩
  rintro _ st ⟨a, rfl, hk, rfl⟩
  rcases a with _|_
  · replace hk := fun k => Bool.false_ne_true (hk.2 k)
    iterate 2 refine ⟨_, rfl, ?_⟩
    refine AW.cutM (2) st [(1, vI n), (2, vL 2 0 (0)), (4, vL 4 0 (1)), (5, vB false), (20, vB true)] [(2, 0, [vI g.cap, vI g.frm, vS g.p g.l.length]), (4, 1, [.slice none 0 0, .slice none 0 0])] ⟨rfl, rfl, rfl, rfl, rfl, trivial⟩ ⟨rfl, rfl, trivial⟩ rfl fun ρ0 ff => ?_
    iterate 2 refine ⟨_, rfl, ?_⟩
    refine cx_sound _ _ _ _ _ ?_
    exact ⟨.inl rfl, _, rfl, ⟨none, none, nilS⟩, false, rfl, by rw [sinceF, if_neg (fun h => hk h.1)], pcS_nil, newS_nil, Pres.refl _⟩
  · replace hk := hk.1 rfl
    iterate 3 refine ⟨_, rfl, ?_⟩
    refine ⟨ld_own rfl rfl rfl, ?_⟩
    refine ⟨_, rfl, ?_⟩
    refine ⟨_, rfl, (ac_impl_LogSeq g st hR hb).mono ?_⟩
    rintro _ st ⟨rfl, rfl⟩
    refine ⟨fun _ _ => rfl, ?_⟩
    refine ⟨_, rfl, (ac_impl_within n g.frm (logSeq g.x) st).mono ?_⟩
    rintro _ st ⟨b, rfl, hw, rfl⟩
    rcases b with _|_
    · replace hw := of_decide_eq_false hw.symm
      iterate 2 refine ⟨_, rfl, ?_⟩
      refine AW.cutM (2) st [(1, vI n), (2, vL 2 0 (0)), (4, vL 4 0 (1)), (5, vB false), (20, vB true)] [(2, 0, [vI g.cap, vI g.frm, vS g.p g.l.length]), (4, 1, [.slice none 0 0, .slice none 0 0])] ⟨rfl, rfl, rfl, rfl, rfl, trivial⟩ ⟨rfl, rfl, trivial⟩ rfl fun ρ0 ff => ?_
      iterate 2 refine ⟨_, rfl, ?_⟩
      refine cx_sound _ _ _ _ _ ?_
      rw [logSeq, if_pos hk] at hw
      exact ⟨.inl rfl, _, rfl, ⟨none, none, nilS⟩, false, rfl, by rw [sinceF, if_neg (fun h => hw h.2)], pcS_nil, newS_nil, Pres.refl _⟩
    · replace hw := of_decide_eq_true hw.symm
      iterate 2 refine ⟨_, rfl, ?_⟩
      refine AW.cutM (2) st [(1, vI n), (2, vL 2 0 (0)), (4, vL 4 0 (1)), (5, vB false), (20, vB false)] [(2, 0, [vI g.cap, vI g.frm, vS g.p g.l.length]), (4, 1, [.slice none 0 0, .slice none 0 0])] ⟨rfl, rfl, rfl, rfl, rfl, trivial⟩ ⟨rfl, rfl, trivial⟩ rfl fun ρ0 ff => ?_
      rw [logSeq, if_pos hk] at hw
      have hok : logOk g.x ∧ g.x.frm ≤ n ∧ n ≤ g.x.frm + (g.x.list.length : Int) := ⟨hk, hw⟩
      have hw1 : g.frm ≤ n := hw.1
      have hw2 : n ≤ g.frm + (g.l.length : Int) := by have h := hw.2; rw [hgl] at h; exact h
      have hk3 : 0 ≤ g.frm ∧ g.frm ≤ 100000 := hk.2.2.1
      have hdl : (g.l.drop (n - g.frm).toNat).length = g.l.length - (n - g.frm).toNat := List.length_drop
      have hfin : sinceF g.x n = (joinL ((g.l.drop (n - g.frm).toNat).map (·.x)), true) := by rw [sinceF, if_pos hok, List.map_drop]
      refine cx_sound _ _ _ _ _ ?_
      iterate 3 refine ⟨_, rfl, ?_⟩
      refine AW.cutM (3) st [(1, vI n), (2, vL 2 0 (0)), (4, vL 4 0 (1)), (5, vB false), (6, vL 6 0 (2))] [(2, 0, [vI g.cap, vI g.frm, vS g.p g.l.length]), (4, 1, [.slice none 0 0, .slice none 0 0]), (6, 2, [.slice none 0 0, .slice none 0 0])] ⟨rfl, rfl, rfl, rfl, rfl, trivial⟩ ⟨rfl, rfl, rfl, trivial⟩ rfl fun ρ0 ff => ?_
      iterate 4 refine ⟨_, rfl, ?_⟩
      have e28 : IntKind.wrap .i64 (n - g.frm) = n - g.frm := wrap_i64 (by omega) (by omega)
      refine ⟨_, rfl, ?_⟩
      refine ⟨_, op_slc (j := (n - g.frm).toNat) (n := g.l.length) rfl rfl (congrArg (Value.int .i64) e28) rfl rfl (by omega) (by omega), ?_⟩
      refine ⟨_, rfl, ?_⟩
      refine AW.cutM (3) st [(4, vL 4 0 (1)), (5, vB false), (6, vL 6 0 (2)), (29, .slice (shO g.p 2 (n - g.frm).toNat) (g.l.length - (n - g.frm).toNat) (g.l.length - (n - g.frm).toNat)), (30, vI ((g.l.length - (n - g.frm).toNat : Nat) : Int)), (31, vI (0))] [(4, 1, [.slice none 0 0, .slice none 0 0]), (6, 2, [.slice none 0 0, .slice none 0 0])] ⟨rfl, rfl, rfl, rfl, rfl, rfl, trivial⟩ ⟨rfl, rfl, trivial⟩ rfl fun ρ0 ff => ?_
      refine AW.loopM (fun x : Nat × SV => [(4, vL 4 0 (1)), (6, vL 6 0 (2)), (29, .slice (shO g.p 2 (n - g.frm).toNat) (g.l.length - (n - g.frm).toNat) (g.l.length - (n - g.frm).toNat)), (30, vI ((g.l.length - (n - g.frm).toNat : Nat) : Int)), (31, vI (x.1 : Int))]) (fun x : Nat × SV => [(4, 1, [.slice none 0 0, .slice none 0 0]), (6, 2, [vS x.2.p x.2.x.items.length, vS x.2.q x.2.x.floors.length])]) (fun m (x : Nat × SV) st' => m = (g.l.length - (n - g.frm).toNat) - x.1 ∧ x.1 ≤ g.l.length - (n - g.frm).toNat ∧ x.2.x = joinL (((g.l.drop (n - g.frm).toNat).take x.1).map (·.x)) ∧ OwnP st' (pcS x.2) ∧ NewP st.next (pcS x.2) ∧ bigS x.2.x ∧ Pres st st') (0, ⟨none, none, nilS⟩) _ ⟨rfl, rfl, rfl, rfl, rfl, trivial⟩ ⟨rfl, rfl, trivial⟩ ⟨rfl, Nat.zero_le _, rfl, pcS_nil, newS_nil, bigS_nil, Pres.refl _⟩ ?_
      rintro m ⟨i, c⟩ ρ0 ff gg st' ⟨rfl, hi, hx, hO, hN, hB, hP⟩
      simp only at hi hx hO hN hB
      refine ⟨_, rfl, ?_⟩
      rintro (_|_) h1
      · replace h1 : ¬ ((i : Int) < ((g.l.length - (n - g.frm).toNat : Nat) : Int)) := of_decide_eq_false h1
        refine AW.cutM (gg) st' [(4, vL 4 0 (1)), (6, vL 6 0 (2)), (29, .slice (shO g.p 2 (n - g.frm).toNat) (g.l.length - (n - g.frm).toNat) (g.l.length - (n - g.frm).toNat)), (30, vI ((g.l.length - (n - g.frm).toNat : Nat) : Int)), (31, vI (i : Int)), (32, vB false)] [(4, 1, [.slice none 0 0, .slice none 0 0]), (6, 2, [vS c.p c.x.items.length, vS c.q c.x.floors.length])] ⟨rfl, rfl, rfl, rfl, rfl, rfl, trivial⟩ ⟨rfl, rfl, trivial⟩ rfl fun ρ0 ff => ?_
        refine cx_sound _ _ _ _ _ ?_
        refine ⟨_, op_ldo rfl rfl rfl rfl, ?_⟩
        refine ⟨_, op_sto rfl rfl rfl rfl rfl rfl rfl, ?_⟩
        refine cx_sound _ _ _ _ _ ?_
        have hil : i = g.l.length - (n - g.frm).toNat := by omega
        have hx' : c.x = joinL ((g.l.drop (n - g.frm).toNat).map (·.x)) := by rw [hx, hil, ← hdl, List.take_length]
        exact ⟨.inl rfl, _, rfl, c, true, rfl, by rw [hfin, hx'], hO, hN, hP⟩
      · replace h1 : (i : Int) < ((g.l.length - (n - g.frm).toNat : Nat) : Int) := of_decide_eq_true h1
        refine AW.cutM (gg) st' [(4, vL 4 0 (1)), (6, vL 6 0 (2)), (29, .slice (shO g.p 2 (n - g.frm).toNat) (g.l.length - (n - g.frm).toNat) (g.l.length - (n - g.frm).toNat)), (30, vI ((g.l.length - (n - g.frm).toNat : Nat) : Int)), (31, vI (i : Int)), (32, vB true)] [(4, 1, [.slice none 0 0, .slice none 0 0]), (6, 2, [vS c.p c.x.items.length, vS c.q c.x.floors.length])] ⟨rfl, rfl, rfl, rfl, rfl, rfl, trivial⟩ ⟨rfl, rfl, trivial⟩ rfl fun ρ0 ff => ?_
        have h1' := Int.ofNat_lt.1 h1
        have ⟨b1, o1, k1, r, hpe, hr1, hm1, hc1, hb1⟩ := ((hP.rows hR.1).sh (n - g.frm).toNat).atB (j := i) (by rw [hdl]; exact h1')
        have hmem : r ∈ g.l := List.mem_of_mem_drop (List.mem_of_getElem? hr1)
        have hsn : ((g.l.drop (n - g.frm).toNat).take (i + 1)).map (·.x) = ((g.l.drop (n - g.frm).toNat).take i).map (·.x) ++ [r.x] := by rw [(split_at' hr1).2.1, List.map_append]; rfl
        refine cx_sound _ _ _ _ _ ?_
        refine ⟨_, op_idx (j := (i : Int)) (n := g.l.length - (n - g.frm).toNat) (q := ⟨b1, o1, none⟩) rfl (congrArg (fun u => vS u (g.l.length - (n - g.frm).toNat)) hpe) rfl rfl rfl (Int.natCast_nonneg _) h1, ?_⟩
        refine ⟨_, op_lda rfl rfl rfl rfl rfl hm1 hc1 rfl, ?_⟩
        refine ⟨_, rfl, ?_⟩
        refine ⟨_, op_sto rfl rfl rfl rfl rfl rfl rfl, ?_⟩
        refine AW.cutM (gg + 1) st' [(4, vL 4 0 (1)), (6, vL 6 0 (2)), (8, vL 8 0 (gg)), (29, .slice (shO g.p 2 (n - g.frm).toNat) (g.l.length - (n - g.frm).toNat) (g.l.length - (n - g.frm).toNat)), (30, vI ((g.l.length - (n - g.frm).toNat : Nat) : Int)), (31, vI (i : Int)), (32, vB true)] [(4, 1, [.slice none 0 0, .slice none 0 0]), (6, 2, [vS c.p c.x.items.length, vS c.q c.x.floors.length]), (8, gg, [vS r.p r.x.items.length, vS r.q r.x.floors.length])] ⟨rfl, rfl, rfl, rfl, rfl, rfl, rfl, trivial⟩ ⟨rfl, rfl, rfl, trivial⟩ rfl fun ρ0 ff => ?_
        refine ⟨_, op_ldo rfl rfl rfl rfl, ?_⟩
        refine ⟨_, op_ldo rfl rfl rfl rfl, ?_⟩
        refine ⟨_, rfl, (ac_impl_stateJoin c r st' hO.rdS ((hR.2 r hmem).pres hP) hB (hb.2 r hmem)).mono ?_⟩
        rintro _ s2 ⟨u, rfl, hu, hO2, hN2, hP2⟩
        refine ⟨_, op_sto rfl rfl rfl rfl rfl rfl rfl, ?_⟩
        refine AW.cutM (gg + 1) s2 [(4, vL 4 0 (1)), (6, vL 6 0 (2)), (8, vL 8 0 (gg)), (29, .slice (shO g.p 2 (n - g.frm).toNat) (g.l.length - (n - g.frm).toNat) (g.l.length - (n - g.frm).toNat)), (30, vI ((g.l.length - (n - g.frm).toNat : Nat) : Int)), (31, vI (i : Int)), (32, vB true)] [(4, 1, [.slice none 0 0, .slice none 0 0]), (6, 2, [vS u.p u.x.items.length, vS u.q u.x.floors.length]), (8, gg, [vS r.p r.x.items.length, vS r.q r.x.floors.length])] ⟨rfl, rfl, rfl, rfl, rfl, rfl, rfl, trivial⟩ ⟨rfl, rfl, rfl, trivial⟩ rfl fun ρ0 ff => ?_
        have e38 : IntKind.wrap .i64 ((i : Int) + 1) = ((i + 1 : Nat) : Int) := (wrap_i64 (by omega) (by omega)).trans (by omega)
        refine ⟨_, rfl, ?_⟩
        exact ⟨(i + 1, u), (g.l.length - (n - g.frm).toNat) - (i + 1), by omega, ⟨rfl, rfl, rfl, rfl, congrArg (Value.int .i64) e38, trivial⟩, ⟨rfl, rfl, trivial⟩, rfl, h1', by rw [hsn, joinL_snoc, ← hx]; exact hu, hO2, hN2.le hP.1, by rw [hu]; exact bigS_join hB (hb.2 r hmem), hP.trans hP2⟩
theorem ac_spec_LogSince (g : LV) (n : Int) (st : St) (hR : RdL st g.p g.l) (hb : bigL g.l) : C 55 [.agg #[vI g.cap, vI g.frm, vS g.p g.l.length], vI n] st (fun v s => ∃ (u : SV) (b : Bool), v = .tuple #[.agg #[vS u.p u.x.items.length, vS u.q u.x.floors.length], vB b] ∧ (u.x, b) = sinceF g.x n ∧ OwnP s (pcS u) ∧ NewP st.next (pcS u) ∧ Pres st s) := by
  have hs : g.l.length ≤ 1048576 := hb.1
  have hgl : g.x.list.length = g.l.length := List.length_map _
  refine AC.enterX (i := ⟨[2, 4, 6], [2, 4, 6, 14, 16, 18, 27, 31, 38], [0, 1, 2, 4, 5, 6, 7, 24, 34]⟩) [(7, [], [])] Try.func55 rfl rfl (by kernel_rfl) (by kernel_rfl) Try.ntmps55 (Nat.le_of_ble_eq_true rfl) rfl ?_
  iterate 2 refine ⟨_, rfl, ?_⟩
  refine AW.cutM (2) st [(1, vI n), (2, vL 2 0 (0)), (4, vL 4 0 (1)), (5, vB false)] [(2, 0, [vI g.cap, vI g.frm, vS g.p g.l.length]), (4, 1, [.slice none 0 0, .slice none 0 0])] ⟨rfl, rfl, rfl, rfl, trivial⟩ ⟨rfl, rfl, trivial⟩ rfl fun ρ0 ff => ?_
  iterate 3 refine ⟨_, rfl, ?_⟩
  refine AW.cutM (3) st [(1, vI n), (2, vL 2 0 (0)), (4, vL 4 0 (1)), (5, vB false), (6, vL 6 0 (2))] [(2, 0, [vI g.cap, vI g.frm, vS g.p g.l.length]), (4, 1, [.slice none 0 0, .slice none 0 0]), (6, 2, [.slice none 0 0, .slice none 0 0])] ⟨rfl, rfl, rfl, rfl, rfl, trivial⟩ ⟨rfl, rfl, rfl, trivial⟩ rfl fun ρ0 ff => ?_
  refine ⟨_, rfl, ?_⟩
  refine ⟨_, rfl, (ac_spec_LogOk g st hR hb).mono ?_⟩
  rintro _ st ⟨a, rfl, hk, rfl⟩
  rcases a with _|_
  · replace hk := fun k => Bool.false_ne_true (hk.2 k)
    iterate 2 refine ⟨_, rfl, ?_⟩
    refine AW.cutM (3) st [(1, vI n), (2, vL 2 0 (0)), (4, vL 4 0 (1)), (5, vB false), (6, vL 6 0 (2)), (24, vB true)] [(2, 0, [vI g.cap, vI g.frm, vS g.p g.l.length]), (4, 1, [.slice none 0 0, .slice none 0 0]), (6, 2, [.slice none 0 0, .slice none 0 0])] ⟨rfl, rfl, rfl, rfl, rfl, rfl, trivial⟩ ⟨rfl, rfl, rfl, trivial⟩ rfl fun ρ0 ff => ?_
    iterate 2 refine ⟨_, rfl, ?_⟩
    refine cx_sound _ _ _ _ _ ?_
    exact ⟨.inl rfl, _, rfl, ⟨none, none, nilS⟩, false, rfl, by rw [sinceF, if_neg (fun h => hk h.1)], pcS_nil, newS_nil, Pres.refl _⟩
  · replace hk := hk.1 rfl
    iterate 8 refine ⟨_, rfl, ?_⟩
    have hk3' : 0 ≤ g.frm ∧ g.frm ≤ 100000 := hk.2.2.1
    have e21 : IntKind.wrap .i64 (g.frm + (g.l.length : Int)) = g.frm + (g.l.length : Int) := wrap_i64 (by omega) (by omega)
    refine ⟨_, rfl, ?_⟩
    refine ⟨_, rfl, (ac_spec_l1In n g.frm (IntKind.wrap .i64 (g.frm + (g.l.length : Int))) st).mono ?_⟩
    rintro _ st ⟨b, rfl, hw, rfl⟩
    rcases b with _|_
    · replace hw := of_decide_eq_false hw.symm
      iterate 2 refine ⟨_, rfl, ?_⟩
      refine AW.cutM (3) st [(1, vI n), (2, vL 2 0 (0)), (4, vL 4 0 (1)), (5, vB false), (6, vL 6 0 (2)), (24, vB true)] [(2, 0, [vI g.cap, vI g.frm, vS g.p g.l.length]), (4, 1, [.slice none 0 0, .slice none 0 0]), (6, 2, [.slice none 0 0, .slice none 0 0])] ⟨rfl, rfl, rfl, rfl, rfl, rfl, trivial⟩ ⟨rfl, rfl, rfl, trivial⟩ rfl fun ρ0 ff => ?_
      iterate 2 refine ⟨_, rfl, ?_⟩
      refine cx_sound _ _ _ _ _ ?_
      rw [e21] at hw
      exact ⟨.inl rfl, _, rfl, ⟨none, none, nilS⟩, false, rfl, by rw [sinceF, if_neg (fun h => hw (by have h2 := h.2; rw [hgl] at h2; exact h2))], pcS_nil, newS_nil, Pres.refl _⟩
    · replace hw := of_decide_eq_true hw.symm
      iterate 2 refine ⟨_, rfl, ?_⟩
      refine AW.cutM (3) st [(1, vI n), (2, vL 2 0 (0)), (4, vL 4 0 (1)), (5, vB false), (6, vL 6 0 (2)), (24, vB false)] [(2, 0, [vI g.cap, vI g.frm, vS g.p g.l.length]), (4, 1, [.slice none 0 0, .slice none 0 0]), (6, 2, [.slice none 0 0, .slice none 0 0])] ⟨rfl, rfl, rfl, rfl, rfl, rfl, trivial⟩ ⟨rfl, rfl, rfl, trivial⟩ rfl fun ρ0 ff => ?_
      rw [e21] at hw
      have hw1 : g.frm ≤ n := hw.1
      have hw2 : n ≤ g.frm + (g.l.length : Int) := hw.2
      have hok : logOk g.x ∧ g.x.frm ≤ n ∧ n ≤ g.x.frm + (g.x.list.length : Int) := ⟨hk, hw1, by rw [hgl]; exact hw2⟩
      have hk3 : 0 ≤ g.frm ∧ g.frm ≤ 100000 := hk.2.2.1
      obtain ⟨d, hd⟩ : ∃ d : Nat, n - g.frm = (d : Int) := ⟨(n - g.frm).toNat, by omega⟩
      have hdl : (g.l.drop d).length = g.l.length - d := List.length_drop
      have hfin : sinceF g.x n = (joinL ((g.l.drop d).map (·.x)), true) := by rw [sinceF, if_pos hok, List.map_drop, show (n - g.x.frm).toNat = d by show (n - g.frm).toNat = d; omega]
      refine cx_sound _ _ _ _ _ ?_
      iterate 2 refine ⟨_, rfl, ?_⟩
      have e29 : IntKind.wrap .i64 (n - g.frm) = ((d + 0 : Nat) : Int) := (wrap_i64 (by omega) (by omega)).trans (by omega)
      refine ⟨_, rfl, ?_⟩
      refine AW.cutM (3) st [(2, vL 2 0 (0)), (4, vL 4 0 (1)), (5, vB false), (6, vL 6 0 (2)), (7, vI (((d + 0 : Nat) : Int)))] [(2, 0, [vI g.cap, vI g.frm, vS g.p g.l.length]), (4, 1, [.slice none 0 0, .slice none 0 0]), (6, 2, [.slice none 0 0, .slice none 0 0])] ⟨rfl, rfl, rfl, rfl, congrArg (Value.int .i64) e29, trivial⟩ ⟨rfl, rfl, rfl, trivial⟩ rfl fun ρ0 ff => ?_
      refine AW.loopM (fun x : Nat × SV => [(2, vL 2 0 (0)), (4, vL 4 0 (1)), (6, vL 6 0 (2)), (7, vI ((d + x.1 : Nat) : Int))]) (fun x : Nat × SV => [(2, 0, [vI g.cap, vI g.frm, vS g.p g.l.length]), (4, 1, [.slice none 0 0, .slice none 0 0]), (6, 2, [vS x.2.p x.2.x.items.length, vS x.2.q x.2.x.floors.length])]) (fun m (x : Nat × SV) st' => m = (g.l.length - d) - x.1 ∧ x.1 ≤ g.l.length - d ∧ x.2.x = joinL (((g.l.drop d).take x.1).map (·.x)) ∧ OwnP st' (pcS x.2) ∧ NewP st.next (pcS x.2) ∧ (bigS x.2.x ∧ stateOk x.2.x) ∧ Pres st st') (0, ⟨none, none, nilS⟩) _ ⟨rfl, rfl, rfl, rfl, trivial⟩ ⟨rfl, rfl, rfl, trivial⟩ ⟨rfl, Nat.zero_le _, rfl, pcS_nil, newS_nil, ⟨bigS_nil, stateOk_nil⟩, Pres.refl _⟩ ?_
      rintro m ⟨i, c⟩ ρ0 ff gg st' ⟨rfl, hi, hx, hO, hN, ⟨hB, hS⟩, hP⟩
      simp only at hi hx hO hN hB
      refine ⟨_, rfl, ?_⟩
      refine ⟨_, op_ldo rfl rfl rfl rfl, ?_⟩
      iterate 2 refine ⟨_, rfl, ?_⟩
      rintro (_|_) h1
      · replace h1 : ¬ (((d + i : Nat) : Int) < (g.l.length : Int)) := of_decide_eq_false h1
        refine AW.cutM (gg) st' [(2, vL 2 0 (0)), (4, vL 4 0 (1)), (6, vL 6 0 (2)), (7, vI ((d + i : Nat) : Int)), (34, vB false)] [(2, 0, [vI g.cap, vI g.frm, vS g.p g.l.length]), (4, 1, [.slice none 0 0, .slice none 0 0]), (6, 2, [vS c.p c.x.items.length, vS c.q c.x.floors.length])] ⟨rfl, rfl, rfl, rfl, rfl, trivial⟩ ⟨rfl, rfl, rfl, trivial⟩ rfl fun ρ0 ff => ?_
        refine cx_sound _ _ _ _ _ ?_
        refine ⟨_, op_ldo rfl rfl rfl rfl, ?_⟩
        refine ⟨_, op_sto rfl rfl rfl rfl rfl rfl rfl, ?_⟩
        refine cx_sound _ _ _ _ _ ?_
        have hil : i = g.l.length - d := by omega
        have hx' : c.x = joinL ((g.l.drop d).map (·.x)) := by rw [hx, hil, ← hdl, List.take_length]
        exact ⟨.inl rfl, _, rfl, c, true, rfl, by rw [hfin, hx'], hO, hN, hP⟩
      · replace h1 : ((d + i : Nat) : Int) < (g.l.length : Int) := of_decide_eq_true h1
        refine AW.cutM (gg) st' [(2, vL 2 0 (0)), (4, vL 4 0 (1)), (6, vL 6 0 (2)), (7, vI ((d + i : Nat) : Int)), (34, vB true)] [(2, 0, [vI g.cap, vI g.frm, vS g.p g.l.length]), (4, 1, [.slice none 0 0, .slice none 0 0]), (6, 2, [vS c.p c.x.items.length, vS c.q c.x.floors.length])] ⟨rfl, rfl, rfl, rfl, rfl, trivial⟩ ⟨rfl, rfl, rfl, trivial⟩ rfl fun ρ0 ff => ?_
        have h1' : d + i < g.l.length := Int.ofNat_lt.1 h1
        have ⟨b1, o1, k1, r, hpe, hr1, hm1, hc1, hb1⟩ := (hP.rows hR.1).atB h1'
        have hmem : r ∈ g.l := List.mem_of_getElem? hr1
        have hrok : stateOk r.x := hk.2.2.2.2 _ (List.mem_map_of_mem hmem)
        have hr2 : (g.l.drop d)[i]? = some r := by rw [List.getElem?_drop]; exact hr1
        have hsn : ((g.l.drop d).take (i + 1)).map (·.x) = ((g.l.drop d).take i).map (·.x) ++ [r.x] := by rw [(split_at' hr2).2.1, List.map_append]; rfl
        refine cx_sound _ _ _ _ _ ?_
        refine ⟨_, op_ldo rfl rfl rfl rfl, ?_⟩
        refine ⟨_, rfl, ?_⟩
        refine ⟨_, op_ldo rfl rfl rfl rfl, ?_⟩
        refine ⟨_, op_idx (j := ((d + i : Nat) : Int)) (n := g.l.length) (q := ⟨b1, o1, none⟩) rfl (congrArg (fun u => vS u g.l.length) hpe) rfl rfl rfl (Int.natCast_nonneg _) h1, ?_⟩
        refine ⟨_, op_lda rfl rfl rfl rfl rfl hm1 hc1 rfl, ?_⟩
        refine ⟨_, rfl, (ac_spec_l3Join c r st' hO.rdS ((hR.2 r hmem).pres hP) hB (hb.2 r hmem) hS hrok).mono ?_⟩
        rintro _ s2 ⟨u, rfl, hu, hO2, hN2, hP2⟩
        refine ⟨_, op_sto rfl rfl rfl rfl rfl rfl rfl, ?_⟩
        refine AW.cutM (gg) s2 [(2, vL 2 0 (0)), (4, vL 4 0 (1)), (6, vL 6 0 (2)), (7, vI ((d + i : Nat) : Int)), (34, vB true)] [(2, 0, [vI g.cap, vI g.frm, vS g.p g.l.length]), (4, 1, [.slice none 0 0, .slice none 0 0]), (6, 2, [vS u.p u.x.items.length, vS u.q u.x.floors.length])] ⟨rfl, rfl, rfl, rfl, rfl, trivial⟩ ⟨rfl, rfl, rfl, trivial⟩ rfl fun ρ0 ff => ?_
        have e36 : IntKind.wrap .i64 (((d + i : Nat) : Int) + 1) = ((d + (i + 1) : Nat) : Int) := (wrap_i64 (by omega) (by omega)).trans (by omega)
        refine ⟨_, rfl, ?_⟩
        exact ⟨(i + 1, u), (g.l.length - d) - (i + 1), by omega, ⟨rfl, rfl, rfl, congrArg (Value.int .i64) e36, trivial⟩, ⟨rfl, rfl, rfl, trivial⟩, rfl, by omega, by rw [hsn, joinL_snoc, ← hx]; exact hu, hO2, hN2.le hP.1, by rw [hu]; exact ⟨bigS_join hB (hb.2 r hmem), stateOk_join hS hrok⟩, hP.trans hP2⟩
end Go.Proofs.Ytopcpcoklgepnaa.AM
