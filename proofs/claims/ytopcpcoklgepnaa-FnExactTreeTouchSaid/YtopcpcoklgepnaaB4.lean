/- Contracts of slices of states. -/
import Derived.Test.YtopcpcoklgepnaaB3
namespace Go.Proofs.Ytopcpcoklgepnaa.AM
open Go Go.Proofs
set_option linter.unusedVariables false
set_option linter.unusedSimpArgs false
set_option maxRecDepth 100000
set_option maxHeartbeats 4000000
def inL (L : List Int) (id : Int) : Bool := decide (leafOf id ∈ L)
def itS (L : List Int) (l : List Itm) : List Itm := l.filter fun x => inL L x.id
def flS (L : List Int) (l : List Flr) : List Flr := l.filter fun x => inL L x.id
def sliceF (s : Sta) (L : List Int) : Sta := ⟨itS L s.items, flS L s.floors⟩
theorem filt_in {α : Type} {p : α → Bool} {l : List α} {i : Nat} {x : α} (h : l[i]? = some x) (hx : p x = true) : (l.take (i + 1)).filter p = (l.take i).filter p ++ [x] := by
  rw [List.take_add_one, h, List.filter_append]
  simp [hx]
theorem filt_out {α : Type} {p : α → Bool} {l : List α} {i : Nat} {x : α} (h : l[i]? = some x) (hx : p x = false) : (l.take (i + 1)).filter p = (l.take i).filter p := by
  rw [List.take_add_one, h, List.filter_append]
  simp [hx]
theorem filt_len {α : Type} {p : α → Bool} (l : List α) (i : Nat) : ((l.take i).filter p).length ≤ l.length := by
  have h1 := List.length_filter_le p (l.take i)
  rw [List.length_take] at h1
  omega
theorem itS_in {L : List Int} {l : List Itm} {i : Nat} {x : Itm} (h : l[i]? = some x) (hx : leafOf x.id ∈ L) : itS L (l.take (i + 1)) = itS L (l.take i) ++ [x] := filt_in h (decide_eq_true hx)
theorem itS_out {L : List Int} {l : List Itm} {i : Nat} {x : Itm} (h : l[i]? = some x) (hx : ¬ leafOf x.id ∈ L) : itS L (l.take (i + 1)) = itS L (l.take i) := filt_out h (decide_eq_false hx)
theorem flS_in {L : List Int} {l : List Flr} {i : Nat} {x : Flr} (h : l[i]? = some x) (hx : leafOf x.id ∈ L) : flS L (l.take (i + 1)) = flS L (l.take i) ++ [x] := filt_in h (decide_eq_true hx)
theorem flS_out {L : List Int} {l : List Flr} {i : Nat} {x : Flr} (h : l[i]? = some x) (hx : ¬ leafOf x.id ∈ L) : flS L (l.take (i + 1)) = flS L (l.take i) := filt_out h (decide_eq_false hx)
theorem ac_spec_l6Slice (s : SV) (p : Option Addr) (L : List Int) (st : St) (hR : RdS st s) (hb : bigS s.x) (hL : Rows st 1 fI p L) (hs : szOk L.length) : C 164 [.agg #[vS s.p s.x.items.length, vS s.q s.x.floors.length], vS p L.length] st (fun v s' => ∃ u : SV, v = .agg #[vS u.p u.x.items.length, vS u.q u.x.floors.length] ∧ u.x = sliceF s.x L ∧ OwnP s' (pcS u) ∧ NewP st.next (pcS u) ∧ Pres st s') := by
  have hs : L.length ≤ 1048576 := hs
  have hs1 : s.x.items.length ≤ 1048576 := hb.1
  have hs2 : s.x.floors.length ≤ 1048576 := hb.2.1
  refine AC.enterX (i := ⟨[2, 4, 5], [2, 4, 5, 10, 17, 25, 27, 34, 36, 43, 51, 53, 60], [0, 1, 2, 4, 5, 6, 7, 13, 24, 39, 50]⟩) [(6, [7], [1]), (11, [7], [1])] Try.func164 rfl rfl (by kernel_rfl) (by kernel_rfl) Try.ntmps164 (Nat.le_of_ble_eq_true rfl) rfl ?_
  iterate 2 refine ⟨_, rfl, ?_⟩
  refine AW.cutM (2) st [(1, vS p L.length), (2, vL 2 0 (0)), (4, vL 4 0 (1))] [(2, 0, [vS s.p s.x.items.length, vS s.q s.x.floors.length]), (4, 1, [.slice none 0 0, .slice none 0 0])] ⟨rfl, rfl, rfl, trivial⟩ ⟨rfl, rfl, trivial⟩ rfl fun ρ0 ff => ?_
  iterate 2 refine ⟨_, rfl, ?_⟩
  refine ⟨_, op_sto rfl rfl rfl rfl rfl rfl rfl, ?_⟩
  refine cx_sound _ _ _ _ _ ?_
  refine AW.cutM (3) st [(1, vS p L.length), (2, vL 2 0 (0)), (4, vL 4 0 (1)), (5, vL 5 0 (2)), (6, vI (0))] [(2, 0, [vS s.p s.x.items.length, vS s.q s.x.floors.length]), (4, 1, [.slice none 0 0, .slice none 0 0]), (5, 2, [.slice none 0 0, .slice none 0 0])] ⟨rfl, rfl, rfl, rfl, rfl, trivial⟩ ⟨rfl, rfl, rfl, trivial⟩ rfl fun ρ0 ff => ?_
  refine AW.loopM (fun x : Nat × Option Addr × List Itm => [(1, vS p L.length), (2, vL 2 0 (0)), (4, vL 4 0 (1)), (5, vL 5 0 (2)), (6, vI (x.1 : Int))]) (fun x : Nat × Option Addr × List Itm => [(2, 0, [vS s.p s.x.items.length, vS s.q s.x.floors.length]), (4, 1, [.slice none 0 0, .slice none 0 0]), (5, 2, [vS x.2.1 x.2.2.length, .slice none 0 0])]) (fun m (x : Nat × Option Addr × List Itm) st' => m = s.x.items.length - x.1 ∧ x.1 ≤ s.x.items.length ∧ x.2.2 = itS L (s.x.items.take x.1) ∧ OwnR st' 6 cItm x.2.1 x.2.2 ∧ New st.next x.2.1 ∧ Pres st st') (0, none, []) _ ⟨rfl, rfl, rfl, rfl, rfl, trivial⟩ ⟨rfl, rfl, rfl, trivial⟩ ⟨rfl, Nat.zero_le _, rfl, OwnR.nil, New.none, Pres.refl _⟩ ?_
  rintro m ⟨i, q, l⟩ ρ0 ff gg st' ⟨rfl, hi, hv, hO, hN, hP⟩
  simp only at hi hv hO hN
  have hll : l.length ≤ s.x.items.length := by rw [hv]; exact filt_len _ _
  refine ⟨_, rfl, ?_⟩
  refine ⟨_, op_ldo rfl rfl rfl rfl, ?_⟩
  iterate 2 refine ⟨_, rfl, ?_⟩
  rintro (_|_) h13
  · replace h13 : ¬ ((i : Int) < (s.x.items.length : Int)) := of_decide_eq_false h13
    refine AW.cutM (gg) st' [(1, vS p L.length), (2, vL 2 0 (0)), (4, vL 4 0 (1)), (5, vL 5 0 (2)), (6, vI (i : Int)), (13, vB false)] [(2, 0, [vS s.p s.x.items.length, vS s.q s.x.floors.length]), (4, 1, [.slice none 0 0, .slice none 0 0]), (5, 2, [vS q l.length, .slice none 0 0])] ⟨rfl, rfl, rfl, rfl, rfl, rfl, trivial⟩ ⟨rfl, rfl, rfl, trivial⟩ rfl fun ρ0 ff => ?_
    have hv1 : l = itS L s.x.items := by rw [hv, show i = s.x.items.length by omega, List.take_length]
    obtain ⟨s1, hs1⟩ : ∃ s1, s1 = st' := ⟨_, rfl⟩
    subst hs1
    refine cx_sound _ _ _ _ _ ?_
    refine AW.cutM (gg) s1 [(1, vS p L.length), (2, vL 2 0 (0)), (4, vL 4 0 (1)), (5, vL 5 0 (2)), (7, vI (0))] [(2, 0, [vS s.p s.x.items.length, vS s.q s.x.floors.length]), (4, 1, [.slice none 0 0, .slice none 0 0]), (5, 2, [vS q l.length, .slice none 0 0])] ⟨rfl, rfl, rfl, rfl, rfl, trivial⟩ ⟨rfl, rfl, rfl, trivial⟩ rfl fun ρ0 ff => ?_
    refine AW.loopM (fun x : Nat × Option Addr × List Flr => [(1, vS p L.length), (2, vL 2 0 (0)), (4, vL 4 0 (1)), (5, vL 5 0 (2)), (7, vI (x.1 : Int))]) (fun x : Nat × Option Addr × List Flr => [(2, 0, [vS s.p s.x.items.length, vS s.q s.x.floors.length]), (4, 1, [.slice none 0 0, .slice none 0 0]), (5, 2, [vS q l.length, vS x.2.1 x.2.2.length])]) (fun m (x : Nat × Option Addr × List Flr) st' => m = s.x.floors.length - x.1 ∧ x.1 ≤ s.x.floors.length ∧ x.2.2 = flS L (s.x.floors.take x.1) ∧ OwnR st' 2 cFlr x.2.1 x.2.2 ∧ New s1.next x.2.1 ∧ Pres s1 st') (0, none, []) _ ⟨rfl, rfl, rfl, rfl, rfl, trivial⟩ ⟨rfl, rfl, rfl, trivial⟩ ⟨rfl, Nat.zero_le _, rfl, OwnR.nil, New.none, Pres.refl _⟩ ?_
    rintro m ⟨j, r, f⟩ ρ0 ff gg st' ⟨rfl, hj, hw, hOj, hNj, hPj⟩
    simp only at hj hw hOj hNj
    have hfl : f.length ≤ s.x.floors.length := by rw [hw]; exact filt_len _ _
    refine ⟨_, rfl, ?_⟩
    refine ⟨_, op_ldo rfl rfl rfl rfl, ?_⟩
    iterate 2 refine ⟨_, rfl, ?_⟩
    rintro (_|_) h39
    · replace h39 : ¬ ((j : Int) < (s.x.floors.length : Int)) := of_decide_eq_false h39
      refine AW.cutM (gg) st' [(1, vS p L.length), (2, vL 2 0 (0)), (4, vL 4 0 (1)), (5, vL 5 0 (2)), (7, vI (j : Int)), (39, vB false)] [(2, 0, [vS s.p s.x.items.length, vS s.q s.x.floors.length]), (4, 1, [.slice none 0 0, .slice none 0 0]), (5, 2, [vS q l.length, vS r f.length])] ⟨rfl, rfl, rfl, rfl, rfl, rfl, trivial⟩ ⟨rfl, rfl, rfl, trivial⟩ rfl fun ρ0 ff => ?_
      have hw1 : f = flS L s.x.floors := by rw [hw, show j = s.x.floors.length by omega, List.take_length]
      refine cx_sound _ _ _ _ _ ?_
      refine ⟨_, op_ldo rfl rfl rfl rfl, ?_⟩
      refine ⟨_, op_sto rfl rfl rfl rfl rfl rfl rfl, ?_⟩
      refine cx_sound _ _ _ _ _ ?_
      exact ⟨.inl rfl, _, rfl, ⟨q, r, ⟨l, f⟩⟩, rfl, by rw [hv1, hw1]; rfl, OwnP.join (l := [pcR 6 cItm q l]) (OwnP.one (own_pc hO)) hPj (OwnP.one (own_pc hOj)) (NewP.cons hNj NewP.nil), NewP.cons hN (NewP.cons (hNj.le hP.1) NewP.nil), hP.trans hPj⟩
    · replace h39 : (j : Int) < (s.x.floors.length : Int) := of_decide_eq_true h39
      refine AW.cutM (gg) st' [(1, vS p L.length), (2, vL 2 0 (0)), (4, vL 4 0 (1)), (5, vL 5 0 (2)), (7, vI (j : Int)), (39, vB true)] [(2, 0, [vS s.p s.x.items.length, vS s.q s.x.floors.length]), (4, 1, [.slice none 0 0, .slice none 0 0]), (5, 2, [vS q l.length, vS r f.length])] ⟨rfl, rfl, rfl, rfl, rfl, rfl, trivial⟩ ⟨rfl, rfl, rfl, trivial⟩ rfl fun ρ0 ff => ?_
      refine cx_sound _ _ _ _ _ ?_
      refine ⟨_, rfl, ?_⟩
      refine ⟨_, op_ldo rfl rfl rfl rfl, ?_⟩
      refine op_at j ((hP.trans hPj).rows hR.2) (by omega) rfl rfl rfl rfl rfl rfl rfl ?_
      intro x46 b46 d46 k46 hy46 hb46 hm46 hc46 ho46
      refine ⟨_, rfl, ?_⟩
      refine ⟨_, op_ldc (i := 0) rfl rfl rfl rfl hm46 hc46 rfl rfl, ?_⟩
      refine ⟨_, rfl, (ac_spec_LeafOf x46.id st').mono ?_⟩
      rintro _ s49 ⟨rfl, hP49⟩
      refine ⟨_, rfl, (ac_spec_l1Has p L (leafOf x46.id) s49 (((hP.trans hPj).trans hP49).rows hL) (by first | assumption | omega)).mono ?_⟩
      rintro _ s49 ⟨x50, rfl, h50, rfl⟩
      rcases x50 with _|_
      · replace h50 := fun k => Bool.false_ne_true (h50.2 k)
        refine AW.cutM (gg) s49 [(1, vS p L.length), (2, vL 2 0 (0)), (4, vL 4 0 (1)), (5, vL 5 0 (2)), (7, vI (j : Int)), (39, vB true), (50, vB false)] [(2, 0, [vS s.p s.x.items.length, vS s.q s.x.floors.length]), (4, 1, [.slice none 0 0, .slice none 0 0]), (5, 2, [vS q l.length, vS r f.length])] ⟨rfl, rfl, rfl, rfl, rfl, rfl, rfl, trivial⟩ ⟨rfl, rfl, rfl, trivial⟩ rfl fun ρ0 ff => ?_
        refine cx_sound _ _ _ _ _ ?_
        have ew41 : IntKind.wrap .i64 ((j : Int) + (1)) = ((j + 1 : Nat) : Int) := (wrap_i64 (by omega) (by omega)).trans (by omega)
        refine ⟨_, rfl, ?_⟩
        exact ⟨(j + 1, r, f), s.x.floors.length - (j + 1), by omega, ⟨rfl, rfl, rfl, rfl, congrArg (Value.int .i64) ew41, trivial⟩, ⟨rfl, rfl, rfl, trivial⟩, rfl, by simp only; omega, by rw [flS_out hy46 h50]; exact hw, hP49.ownR hOj, hNj, hPj.trans hP49⟩
      · replace h50 := h50.1 rfl
        refine AW.cutM (gg) s49 [(1, vS p L.length), (2, vL 2 0 (0)), (4, vL 4 0 (1)), (5, vL 5 0 (2)), (7, vI (j : Int)), (39, vB true), (50, vB true)] [(2, 0, [vS s.p s.x.items.length, vS s.q s.x.floors.length]), (4, 1, [.slice none 0 0, .slice none 0 0]), (5, 2, [vS q l.length, vS r f.length])] ⟨rfl, rfl, rfl, rfl, rfl, rfl, rfl, trivial⟩ ⟨rfl, rfl, rfl, trivial⟩ rfl fun ρ0 ff => ?_
        refine ⟨_, rfl, ?_⟩
        refine ⟨_, op_ldo rfl rfl rfl rfl, ?_⟩
        refine ⟨ld_own rfl rfl rfl, ?_⟩
        refine ⟨_, rfl, ?_⟩
        refine ⟨_, op_ldo rfl rfl rfl rfl, ?_⟩
        refine op_el j (((hP.trans hPj).trans hP49).rows hR.2) hy46 rfl rfl rfl rfl rfl rfl rfl ?_
        intro b56 d56 k56 hb56 hm56 hc56 ho56
        refine ⟨_, op_lda rfl rfl rfl rfl rfl hm56 hc56 rfl, ?_⟩
        refine op_one (z := 2) (a := (x46 : Flr)) (f := cFlr) rfl rfl rfl rfl rfl (by decide) rfl (Nat.le_of_ble_eq_true rfl) rfl rfl rfl ?_
        refine ⟨Pres.push.2, ?_⟩
        refine op_snoc (z := 2) (st := s49) (f := cFlr) (b := 16) (l := f) (x := x46) rfl rfl rfl rfl rfl rfl rfl (by decide) len_cFlr rfl rfl rfl (by omega) (by unfold maxLen; omega) (hP49.ownR hOj) ?_
        intro q59 s59 hO59 hP59 hN59
        refine ⟨_, rfl, ?_⟩
        refine ⟨_, op_sto rfl rfl rfl rfl rfl rfl rfl, ?_⟩
        refine AW.cutM (gg) s59 [(1, vS p L.length), (2, vL 2 0 (0)), (4, vL 4 0 (1)), (5, vL 5 0 (2)), (7, vI (j : Int)), (39, vB true), (50, vB true)] [(2, 0, [vS s.p s.x.items.length, vS s.q s.x.floors.length]), (4, 1, [.slice none 0 0, .slice none 0 0]), (5, 2, [vS q l.length, vS q59 (f ++ [x46]).length])] ⟨rfl, rfl, rfl, rfl, rfl, rfl, rfl, trivial⟩ ⟨rfl, rfl, rfl, trivial⟩ rfl fun ρ0 ff => ?_
        have ew41 : IntKind.wrap .i64 ((j : Int) + (1)) = ((j + 1 : Nat) : Int) := (wrap_i64 (by omega) (by omega)).trans (by omega)
        refine ⟨_, rfl, ?_⟩
        exact ⟨(j + 1, q59, f ++ [x46]), s.x.floors.length - (j + 1), by omega, ⟨rfl, rfl, rfl, rfl, congrArg (Value.int .i64) ew41, trivial⟩, ⟨rfl, rfl, rfl, trivial⟩, rfl, by simp only; omega, by rw [flS_in hy46 h50, ← hw], hO59, hN59.le (hPj.trans hP49).1, hP59.pres (hPj.trans hP49) hNj⟩
  · replace h13 : (i : Int) < (s.x.items.length : Int) := of_decide_eq_true h13
    refine AW.cutM (gg) st' [(1, vS p L.length), (2, vL 2 0 (0)), (4, vL 4 0 (1)), (5, vL 5 0 (2)), (6, vI (i : Int)), (13, vB true)] [(2, 0, [vS s.p s.x.items.length, vS s.q s.x.floors.length]), (4, 1, [.slice none 0 0, .slice none 0 0]), (5, 2, [vS q l.length, .slice none 0 0])] ⟨rfl, rfl, rfl, rfl, rfl, rfl, trivial⟩ ⟨rfl, rfl, rfl, trivial⟩ rfl fun ρ0 ff => ?_
    refine cx_sound _ _ _ _ _ ?_
    refine ⟨_, rfl, ?_⟩
    refine ⟨_, op_ldo rfl rfl rfl rfl, ?_⟩
    refine op_at i (hP.rows hR.1) (by omega) rfl rfl rfl rfl rfl rfl rfl ?_
    intro x20 b20 d20 k20 hy20 hb20 hm20 hc20 ho20
    refine ⟨_, rfl, ?_⟩
    refine ⟨_, op_ldc (i := 0) rfl rfl rfl rfl hm20 hc20 rfl rfl, ?_⟩
    refine ⟨_, rfl, (ac_spec_LeafOf x20.id st').mono ?_⟩
    rintro _ s23 ⟨rfl, hP23⟩
    refine ⟨_, rfl, (ac_spec_l1Has p L (leafOf x20.id) s23 ((hP.trans hP23).rows hL) (by first | assumption | omega)).mono ?_⟩
    rintro _ s23 ⟨x24, rfl, h24, rfl⟩
    rcases x24 with _|_
    · replace h24 := fun k => Bool.false_ne_true (h24.2 k)
      refine AW.cutM (gg) s23 [(1, vS p L.length), (2, vL 2 0 (0)), (4, vL 4 0 (1)), (5, vL 5 0 (2)), (6, vI (i : Int)), (13, vB true), (24, vB false)] [(2, 0, [vS s.p s.x.items.length, vS s.q s.x.floors.length]), (4, 1, [.slice none 0 0, .slice none 0 0]), (5, 2, [vS q l.length, .slice none 0 0])] ⟨rfl, rfl, rfl, rfl, rfl, rfl, rfl, trivial⟩ ⟨rfl, rfl, rfl, trivial⟩ rfl fun ρ0 ff => ?_
      refine cx_sound _ _ _ _ _ ?_
      have ew15 : IntKind.wrap .i64 ((i : Int) + (1)) = ((i + 1 : Nat) : Int) := (wrap_i64 (by omega) (by omega)).trans (by omega)
      refine ⟨_, rfl, ?_⟩
      exact ⟨(i + 1, q, l), s.x.items.length - (i + 1), by omega, ⟨rfl, rfl, rfl, rfl, congrArg (Value.int .i64) ew15, trivial⟩, ⟨rfl, rfl, rfl, trivial⟩, rfl, by simp only; omega, by rw [itS_out hy20 h24]; exact hv, hP23.ownR hO, hN, hP.trans hP23⟩
    · replace h24 := h24.1 rfl
      refine AW.cutM (gg) s23 [(1, vS p L.length), (2, vL 2 0 (0)), (4, vL 4 0 (1)), (5, vL 5 0 (2)), (6, vI (i : Int)), (13, vB true), (24, vB true)] [(2, 0, [vS s.p s.x.items.length, vS s.q s.x.floors.length]), (4, 1, [.slice none 0 0, .slice none 0 0]), (5, 2, [vS q l.length, .slice none 0 0])] ⟨rfl, rfl, rfl, rfl, rfl, rfl, rfl, trivial⟩ ⟨rfl, rfl, rfl, trivial⟩ rfl fun ρ0 ff => ?_
      refine ⟨_, rfl, ?_⟩
      refine ⟨_, op_ldo rfl rfl rfl rfl, ?_⟩
      refine ⟨ld_own rfl rfl rfl, ?_⟩
      refine ⟨_, rfl, ?_⟩
      refine ⟨_, op_ldo rfl rfl rfl rfl, ?_⟩
      refine op_el i ((hP.trans hP23).rows hR.1) hy20 rfl rfl rfl rfl rfl rfl rfl ?_
      intro b30 d30 k30 hb30 hm30 hc30 ho30
      refine ⟨_, op_lda rfl rfl rfl rfl rfl hm30 hc30 rfl, ?_⟩
      refine op_one (z := 6) (a := (x20 : Itm)) (f := cItm) rfl rfl rfl rfl rfl (by decide) rfl (Nat.le_of_ble_eq_true rfl) rfl rfl rfl ?_
      refine ⟨Pres.push.2, ?_⟩
      refine op_snoc (z := 6) (st := s23) (f := cItm) (b := 56) (l := l) (x := x20) rfl rfl rfl rfl rfl rfl rfl (by decide) len_cItm rfl rfl rfl (by omega) (by unfold maxLen; omega) (hP23.ownR hO) ?_
      intro q33 s33 hO33 hP33 hN33
      refine ⟨_, rfl, ?_⟩
      refine ⟨_, op_sto rfl rfl rfl rfl rfl rfl rfl, ?_⟩
      refine AW.cutM (gg) s33 [(1, vS p L.length), (2, vL 2 0 (0)), (4, vL 4 0 (1)), (5, vL 5 0 (2)), (6, vI (i : Int)), (13, vB true), (24, vB true)] [(2, 0, [vS s.p s.x.items.length, vS s.q s.x.floors.length]), (4, 1, [.slice none 0 0, .slice none 0 0]), (5, 2, [vS q33 (l ++ [x20]).length, .slice none 0 0])] ⟨rfl, rfl, rfl, rfl, rfl, rfl, rfl, trivial⟩ ⟨rfl, rfl, rfl, trivial⟩ rfl fun ρ0 ff => ?_
      have ew15 : IntKind.wrap .i64 ((i : Int) + (1)) = ((i + 1 : Nat) : Int) := (wrap_i64 (by omega) (by omega)).trans (by omega)
      refine ⟨_, rfl, ?_⟩
      exact ⟨(i + 1, q33, l ++ [x20]), s.x.items.length - (i + 1), by omega, ⟨rfl, rfl, rfl, rfl, congrArg (Value.int .i64) ew15, trivial⟩, ⟨rfl, rfl, rfl, trivial⟩, rfl, by simp only; omega, by rw [itS_in hy20 h24, ← hv], hO33, hN33.le (hP.trans hP23).1, hP33.pres (hP.trans hP23) hN⟩
theorem ac_impl_Slice (s : SV) (p : Option Addr) (L : List Int) (st : St) (hR : RdS st s) (hb : bigS s.x) (hL : Rows st 1 fI p L) (hs : szOk L.length) (hk : stateOk s.x) : C 170 [.agg #[vS s.p s.x.items.length, vS s.q s.x.floors.length], vS p L.length] st (fun v s' => ∃ u : SV, v = .agg #[vS u.p u.x.items.length, vS u.q u.x.floors.length] ∧ u.x = sliceF s.x L ∧ OwnP s' (pcS u) ∧ NewP st.next (pcS u) ∧ Pres st s') := by
  have hs : L.length ≤ 1048576 := hs
  have hs1 : s.x.items.length ≤ 1048576 := hb.1
  have hs2 : s.x.floors.length ≤ 1048576 := hb.2.1
  refine AC.enterX (i := ⟨[2, 4, 5, 7, 9], [2, 4, 5, 7, 9, 15, 23, 27, 32, 34, 42, 46, 51], [0, 1, 2, 4, 5, 7, 9, 13, 16, 17, 18, 19, 26, 35, 36, 37, 38, 45]⟩) [] Try.func170 rfl rfl (by kernel_rfl) (by kernel_rfl) Try.ntmps170 (Nat.le_of_ble_eq_true rfl) rfl ?_
  iterate 2 refine ⟨_, rfl, ?_⟩
  refine AW.cutM (2) st [(1, vS p L.length), (2, vL 2 0 (0)), (4, vL 4 0 (1))] [(2, 0, [vS s.p s.x.items.length, vS s.q s.x.floors.length]), (4, 1, [.slice none 0 0, .slice none 0 0])] ⟨rfl, rfl, rfl, trivial⟩ ⟨rfl, rfl, trivial⟩ rfl fun ρ0 ff => ?_
  iterate 2 refine ⟨_, rfl, ?_⟩
  refine ⟨_, op_sto rfl rfl rfl rfl rfl rfl rfl, ?_⟩
  refine AW.cutM (3) st [(1, vS p L.length), (2, vL 2 0 (0)), (4, vL 4 0 (1)), (5, vL 5 0 (2))] [(2, 0, [vS s.p s.x.items.length, vS s.q s.x.floors.length]), (4, 1, [.slice none 0 0, .slice none 0 0]), (5, 2, [.slice none 0 0, .slice none 0 0])] ⟨rfl, rfl, rfl, rfl, trivial⟩ ⟨rfl, rfl, rfl, trivial⟩ rfl fun ρ0 ff => ?_
  refine ⟨_, op_ldo rfl rfl rfl rfl, ?_⟩
  refine ⟨_, rfl, (AC.tru (ac_impl_StateOk s st hR hb) hk).mono ?_⟩
  rintro _ st ⟨rfl, rfl⟩
  refine ⟨_, rfl, ?_⟩
  refine AW.cutM (3) st [(1, vS p L.length), (2, vL 2 0 (0)), (4, vL 4 0 (1)), (5, vL 5 0 (2)), (13, vB false)] [(2, 0, [vS s.p s.x.items.length, vS s.q s.x.floors.length]), (4, 1, [.slice none 0 0, .slice none 0 0]), (5, 2, [.slice none 0 0, .slice none 0 0])] ⟨rfl, rfl, rfl, rfl, rfl, trivial⟩ ⟨rfl, rfl, rfl, trivial⟩ rfl fun ρ0 ff => ?_
  refine cx_sound _ _ _ _ _ ?_
  refine ⟨_, rfl, ?_⟩
  refine ⟨_, op_ldo rfl rfl rfl rfl, ?_⟩
  refine ⟨_, rfl, ?_⟩
  refine AW.cutM (3) st [(1, vS p L.length), (2, vL 2 0 (0)), (4, vL 4 0 (1)), (5, vL 5 0 (2)), (16, vS s.p s.x.items.length), (17, vI (s.x.items.length : Int)), (18, vI (0))] [(2, 0, [vS s.p s.x.items.length, vS s.q s.x.floors.length]), (4, 1, [.slice none 0 0, .slice none 0 0]), (5, 2, [.slice none 0 0, .slice none 0 0])] ⟨rfl, rfl, rfl, rfl, rfl, rfl, rfl, trivial⟩ ⟨rfl, rfl, rfl, trivial⟩ rfl fun ρ0 ff => ?_
  refine AW.loopM (fun x : Nat × Option Addr × List Itm => [(1, vS p L.length), (2, vL 2 0 (0)), (4, vL 4 0 (1)), (5, vL 5 0 (2)), (16, vS s.p s.x.items.length), (17, vI (s.x.items.length : Int)), (18, vI (x.1 : Int))]) (fun x : Nat × Option Addr × List Itm => [(2, 0, [vS s.p s.x.items.length, vS s.q s.x.floors.length]), (4, 1, [.slice none 0 0, .slice none 0 0]), (5, 2, [vS x.2.1 x.2.2.length, .slice none 0 0])]) (fun m (x : Nat × Option Addr × List Itm) st' => m = s.x.items.length - x.1 ∧ x.1 ≤ s.x.items.length ∧ x.2.2 = itS L (s.x.items.take x.1) ∧ OwnR st' 6 cItm x.2.1 x.2.2 ∧ New st.next x.2.1 ∧ Pres st st') (0, none, []) _ ⟨rfl, rfl, rfl, rfl, rfl, rfl, rfl, trivial⟩ ⟨rfl, rfl, rfl, trivial⟩ ⟨rfl, Nat.zero_le _, rfl, OwnR.nil, New.none, Pres.refl _⟩ ?_
  rintro m ⟨i, q, l⟩ ρ0 ff gg st' ⟨rfl, hi, hv, hO, hN, hP⟩
  simp only at hi hv hO hN
  have hll : l.length ≤ s.x.items.length := by rw [hv]; exact filt_len _ _
  refine ⟨_, rfl, ?_⟩
  rintro (_|_) h19
  · replace h19 : ¬ ((i : Int) < (s.x.items.length : Int)) := of_decide_eq_false h19
    refine AW.cutM (gg) st' [(1, vS p L.length), (2, vL 2 0 (0)), (4, vL 4 0 (1)), (5, vL 5 0 (2)), (16, vS s.p s.x.items.length), (17, vI (s.x.items.length : Int)), (18, vI (i : Int)), (19, vB false)] [(2, 0, [vS s.p s.x.items.length, vS s.q s.x.floors.length]), (4, 1, [.slice none 0 0, .slice none 0 0]), (5, 2, [vS q l.length, .slice none 0 0])] ⟨rfl, rfl, rfl, rfl, rfl, rfl, rfl, rfl, trivial⟩ ⟨rfl, rfl, rfl, trivial⟩ rfl fun ρ0 ff => ?_
    have hv1 : l = itS L s.x.items := by rw [hv, show i = s.x.items.length by omega, List.take_length]
    obtain ⟨s1, hs1⟩ : ∃ s1, s1 = st' := ⟨_, rfl⟩
    subst hs1
    refine cx_sound _ _ _ _ _ ?_
    refine ⟨_, rfl, ?_⟩
    refine ⟨_, op_ldo rfl rfl rfl rfl, ?_⟩
    refine ⟨_, rfl, ?_⟩
    refine AW.cutM (gg) s1 [(1, vS p L.length), (4, vL 4 0 (1)), (5, vL 5 0 (2)), (35, vS s.q s.x.floors.length), (36, vI (s.x.floors.length : Int)), (37, vI (0))] [(4, 1, [.slice none 0 0, .slice none 0 0]), (5, 2, [vS q l.length, .slice none 0 0])] ⟨rfl, rfl, rfl, rfl, rfl, rfl, trivial⟩ ⟨rfl, rfl, trivial⟩ rfl fun ρ0 ff => ?_
    refine AW.loopM (fun x : Nat × Option Addr × List Flr => [(1, vS p L.length), (4, vL 4 0 (1)), (5, vL 5 0 (2)), (35, vS s.q s.x.floors.length), (36, vI (s.x.floors.length : Int)), (37, vI (x.1 : Int))]) (fun x : Nat × Option Addr × List Flr => [(4, 1, [.slice none 0 0, .slice none 0 0]), (5, 2, [vS q l.length, vS x.2.1 x.2.2.length])]) (fun m (x : Nat × Option Addr × List Flr) st' => m = s.x.floors.length - x.1 ∧ x.1 ≤ s.x.floors.length ∧ x.2.2 = flS L (s.x.floors.take x.1) ∧ OwnR st' 2 cFlr x.2.1 x.2.2 ∧ New s1.next x.2.1 ∧ Pres s1 st') (0, none, []) _ ⟨rfl, rfl, rfl, rfl, rfl, rfl, trivial⟩ ⟨rfl, rfl, trivial⟩ ⟨rfl, Nat.zero_le _, rfl, OwnR.nil, New.none, Pres.refl _⟩ ?_
    rintro m ⟨j, r, f⟩ ρ0 ff gg st' ⟨rfl, hj, hw, hOj, hNj, hPj⟩
    simp only at hj hw hOj hNj
    have hfl : f.length ≤ s.x.floors.length := by rw [hw]; exact filt_len _ _
    refine ⟨_, rfl, ?_⟩
    rintro (_|_) h38
    · replace h38 : ¬ ((j : Int) < (s.x.floors.length : Int)) := of_decide_eq_false h38
      refine AW.cutM (gg) st' [(1, vS p L.length), (4, vL 4 0 (1)), (5, vL 5 0 (2)), (35, vS s.q s.x.floors.length), (36, vI (s.x.floors.length : Int)), (37, vI (j : Int)), (38, vB false)] [(4, 1, [.slice none 0 0, .slice none 0 0]), (5, 2, [vS q l.length, vS r f.length])] ⟨rfl, rfl, rfl, rfl, rfl, rfl, rfl, trivial⟩ ⟨rfl, rfl, trivial⟩ rfl fun ρ0 ff => ?_
      have hw1 : f = flS L s.x.floors := by rw [hw, show j = s.x.floors.length by omega, List.take_length]
      refine cx_sound _ _ _ _ _ ?_
      refine ⟨_, op_ldo rfl rfl rfl rfl, ?_⟩
      refine ⟨_, op_sto rfl rfl rfl rfl rfl rfl rfl, ?_⟩
      refine cx_sound _ _ _ _ _ ?_
      exact ⟨.inl rfl, _, rfl, ⟨q, r, ⟨l, f⟩⟩, rfl, by rw [hv1, hw1]; rfl, OwnP.join (l := [pcR 6 cItm q l]) (OwnP.one (own_pc hO)) hPj (OwnP.one (own_pc hOj)) (NewP.cons hNj NewP.nil), NewP.cons hN (NewP.cons (hNj.le hP.1) NewP.nil), hP.trans hPj⟩
    · replace h38 : (j : Int) < (s.x.floors.length : Int) := of_decide_eq_true h38
      refine AW.cutM (gg) st' [(1, vS p L.length), (4, vL 4 0 (1)), (5, vL 5 0 (2)), (35, vS s.q s.x.floors.length), (36, vI (s.x.floors.length : Int)), (37, vI (j : Int)), (38, vB true)] [(4, 1, [.slice none 0 0, .slice none 0 0]), (5, 2, [vS q l.length, vS r f.length])] ⟨rfl, rfl, rfl, rfl, rfl, rfl, rfl, trivial⟩ ⟨rfl, rfl, trivial⟩ rfl fun ρ0 ff => ?_
      refine cx_sound _ _ _ _ _ ?_
      refine op_at j ((hP.trans hPj).rows hR.2) (by omega) rfl rfl rfl rfl rfl rfl rfl ?_
      intro x39 b39 d39 k39 hy39 hb39 hm39 hc39 ho39
      refine ⟨_, op_lda rfl rfl rfl rfl rfl hm39 hc39 rfl, ?_⟩
      refine ⟨_, rfl, ?_⟩
      refine ⟨_, op_sto rfl rfl rfl rfl rfl rfl rfl, ?_⟩
      refine AW.cutM (gg + 1) st' [(1, vS p L.length), (4, vL 4 0 (1)), (5, vL 5 0 (2)), (9, vL 9 0 (gg)), (35, vS s.q s.x.floors.length), (36, vI (s.x.floors.length : Int)), (37, vI (j : Int)), (38, vB true)] [(4, 1, [.slice none 0 0, .slice none 0 0]), (5, 2, [vS q l.length, vS r f.length]), (9, gg, [vI x39.id, vI x39.inc])] ⟨rfl, rfl, rfl, rfl, rfl, rfl, rfl, rfl, trivial⟩ ⟨rfl, rfl, rfl, trivial⟩ rfl fun ρ0 ff => ?_
      refine ⟨_, rfl, ?_⟩
      refine ⟨_, op_ldo rfl rfl rfl rfl, ?_⟩
      refine ⟨_, rfl, (ac_impl_LeafOf x39.id st').mono ?_⟩
      rintro _ s44 ⟨rfl, hP44⟩
      refine ⟨_, rfl, (ac_slices_Contains_Int p L (leafOf x39.id) s44 (((hP.trans hPj).trans hP44).rows hL) (by first | assumption | omega)).mono ?_⟩
      rintro _ s44 ⟨x45, rfl, h45, rfl⟩
      rcases x45 with _|_
      · replace h45 := fun k => Bool.false_ne_true (h45.2 k)
        refine AW.cutM (gg + 1) s44 [(1, vS p L.length), (4, vL 4 0 (1)), (5, vL 5 0 (2)), (9, vL 9 0 (gg)), (35, vS s.q s.x.floors.length), (36, vI (s.x.floors.length : Int)), (37, vI (j : Int)), (38, vB true), (45, vB false)] [(4, 1, [.slice none 0 0, .slice none 0 0]), (5, 2, [vS q l.length, vS r f.length]), (9, gg, [vI x39.id, vI x39.inc])] ⟨rfl, rfl, rfl, rfl, rfl, rfl, rfl, rfl, rfl, trivial⟩ ⟨rfl, rfl, rfl, trivial⟩ rfl fun ρ0 ff => ?_
        refine cx_sound _ _ _ _ _ ?_
        have ew52 : IntKind.wrap .i64 ((j : Int) + (1)) = ((j + 1 : Nat) : Int) := (wrap_i64 (by omega) (by omega)).trans (by omega)
        refine ⟨_, rfl, ?_⟩
        exact ⟨(j + 1, r, f), s.x.floors.length - (j + 1), by omega, ⟨rfl, rfl, rfl, rfl, rfl, congrArg (Value.int .i64) ew52, trivial⟩, ⟨rfl, rfl, trivial⟩, rfl, by simp only; omega, by rw [flS_out hy39 h45]; exact hw, hP44.ownR hOj, hNj, hPj.trans hP44⟩
      · replace h45 := h45.1 rfl
        refine AW.cutM (gg + 1) s44 [(1, vS p L.length), (4, vL 4 0 (1)), (5, vL 5 0 (2)), (9, vL 9 0 (gg)), (35, vS s.q s.x.floors.length), (36, vI (s.x.floors.length : Int)), (37, vI (j : Int)), (38, vB true), (45, vB true)] [(4, 1, [.slice none 0 0, .slice none 0 0]), (5, 2, [vS q l.length, vS r f.length]), (9, gg, [vI x39.id, vI x39.inc])] ⟨rfl, rfl, rfl, rfl, rfl, rfl, rfl, rfl, rfl, trivial⟩ ⟨rfl, rfl, rfl, trivial⟩ rfl fun ρ0 ff => ?_
        refine ⟨_, rfl, ?_⟩
        refine ⟨_, op_ldo rfl rfl rfl rfl, ?_⟩
        refine ⟨_, op_ldo rfl rfl rfl rfl, ?_⟩
        refine ⟨_, rfl, ?_⟩
        refine op_snoc (z := 2) (st := s44) (f := cFlr) (b := 16) (l := f) (x := x39) rfl rfl rfl rfl rfl rfl rfl (by decide) len_cFlr rfl rfl rfl (by omega) (by unfold maxLen; omega) (hP44.ownR hOj) ?_
        intro q50 s50 hO50 hP50 hN50
        refine ⟨_, rfl, ?_⟩
        refine ⟨_, op_sto rfl rfl rfl rfl rfl rfl rfl, ?_⟩
        refine AW.cutM (gg + 1) s50 [(1, vS p L.length), (4, vL 4 0 (1)), (5, vL 5 0 (2)), (9, vL 9 0 (gg)), (35, vS s.q s.x.floors.length), (36, vI (s.x.floors.length : Int)), (37, vI (j : Int)), (38, vB true), (45, vB true)] [(4, 1, [.slice none 0 0, .slice none 0 0]), (5, 2, [vS q l.length, vS q50 (f ++ [x39]).length]), (9, gg, [vI x39.id, vI x39.inc])] ⟨rfl, rfl, rfl, rfl, rfl, rfl, rfl, rfl, rfl, trivial⟩ ⟨rfl, rfl, rfl, trivial⟩ rfl fun ρ0 ff => ?_
        have ew52 : IntKind.wrap .i64 ((j : Int) + (1)) = ((j + 1 : Nat) : Int) := (wrap_i64 (by omega) (by omega)).trans (by omega)
        refine ⟨_, rfl, ?_⟩
        exact ⟨(j + 1, q50, f ++ [x39]), s.x.floors.length - (j + 1), by omega, ⟨rfl, rfl, rfl, rfl, rfl, congrArg (Value.int .i64) ew52, trivial⟩, ⟨rfl, rfl, trivial⟩, rfl, by simp only; omega, by rw [flS_in hy39 h45, ← hw], hO50, hN50.le (hPj.trans hP44).1, hP50.pres (hPj.trans hP44) hNj⟩
  · replace h19 : (i : Int) < (s.x.items.length : Int) := of_decide_eq_true h19
    refine AW.cutM (gg) st' [(1, vS p L.length), (2, vL 2 0 (0)), (4, vL 4 0 (1)), (5, vL 5 0 (2)), (16, vS s.p s.x.items.length), (17, vI (s.x.items.length : Int)), (18, vI (i : Int)), (19, vB true)] [(2, 0, [vS s.p s.x.items.length, vS s.q s.x.floors.length]), (4, 1, [.slice none 0 0, .slice none 0 0]), (5, 2, [vS q l.length, .slice none 0 0])] ⟨rfl, rfl, rfl, rfl, rfl, rfl, rfl, rfl, trivial⟩ ⟨rfl, rfl, rfl, trivial⟩ rfl fun ρ0 ff => ?_
    refine cx_sound _ _ _ _ _ ?_
    refine op_at i (hP.rows hR.1) (by omega) rfl rfl rfl rfl rfl rfl rfl ?_
    intro x20 b20 d20 k20 hy20 hb20 hm20 hc20 ho20
    refine ⟨_, op_lda rfl rfl rfl rfl rfl hm20 hc20 rfl, ?_⟩
    refine ⟨_, rfl, ?_⟩
    refine ⟨_, op_sto rfl rfl rfl rfl rfl rfl rfl, ?_⟩
    refine AW.cutM (gg + 1) st' [(1, vS p L.length), (2, vL 2 0 (0)), (4, vL 4 0 (1)), (5, vL 5 0 (2)), (7, vL 7 0 (gg)), (16, vS s.p s.x.items.length), (17, vI (s.x.items.length : Int)), (18, vI (i : Int)), (19, vB true)] [(2, 0, [vS s.p s.x.items.length, vS s.q s.x.floors.length]), (4, 1, [.slice none 0 0, .slice none 0 0]), (5, 2, [vS q l.length, .slice none 0 0]), (7, gg, [vI x20.id, vI x20.e.inc, vI x20.e.rank, vI x20.e.beat, vI x20.e.ver, .string x20.e.data])] ⟨rfl, rfl, rfl, rfl, rfl, rfl, rfl, rfl, rfl, trivial⟩ ⟨rfl, rfl, rfl, rfl, trivial⟩ rfl fun ρ0 ff => ?_
    refine ⟨_, rfl, ?_⟩
    refine ⟨_, op_ldo rfl rfl rfl rfl, ?_⟩
    refine ⟨_, rfl, (ac_impl_LeafOf x20.id st').mono ?_⟩
    rintro _ s25 ⟨rfl, hP25⟩
    refine ⟨_, rfl, (ac_slices_Contains_Int p L (leafOf x20.id) s25 ((hP.trans hP25).rows hL) (by first | assumption | omega)).mono ?_⟩
    rintro _ s25 ⟨x26, rfl, h26, rfl⟩
    rcases x26 with _|_
    · replace h26 := fun k => Bool.false_ne_true (h26.2 k)
      refine AW.cutM (gg + 1) s25 [(1, vS p L.length), (2, vL 2 0 (0)), (4, vL 4 0 (1)), (5, vL 5 0 (2)), (7, vL 7 0 (gg)), (16, vS s.p s.x.items.length), (17, vI (s.x.items.length : Int)), (18, vI (i : Int)), (19, vB true), (26, vB false)] [(2, 0, [vS s.p s.x.items.length, vS s.q s.x.floors.length]), (4, 1, [.slice none 0 0, .slice none 0 0]), (5, 2, [vS q l.length, .slice none 0 0]), (7, gg, [vI x20.id, vI x20.e.inc, vI x20.e.rank, vI x20.e.beat, vI x20.e.ver, .string x20.e.data])] ⟨rfl, rfl, rfl, rfl, rfl, rfl, rfl, rfl, rfl, rfl, trivial⟩ ⟨rfl, rfl, rfl, rfl, trivial⟩ rfl fun ρ0 ff => ?_
      refine cx_sound _ _ _ _ _ ?_
      have ew33 : IntKind.wrap .i64 ((i : Int) + (1)) = ((i + 1 : Nat) : Int) := (wrap_i64 (by omega) (by omega)).trans (by omega)
      refine ⟨_, rfl, ?_⟩
      exact ⟨(i + 1, q, l), s.x.items.length - (i + 1), by omega, ⟨rfl, rfl, rfl, rfl, rfl, rfl, congrArg (Value.int .i64) ew33, trivial⟩, ⟨rfl, rfl, rfl, trivial⟩, rfl, by simp only; omega, by rw [itS_out hy20 h26]; exact hv, hP25.ownR hO, hN, hP.trans hP25⟩
    · replace h26 := h26.1 rfl
      refine AW.cutM (gg + 1) s25 [(1, vS p L.length), (2, vL 2 0 (0)), (4, vL 4 0 (1)), (5, vL 5 0 (2)), (7, vL 7 0 (gg)), (16, vS s.p s.x.items.length), (17, vI (s.x.items.length : Int)), (18, vI (i : Int)), (19, vB true), (26, vB true)] [(2, 0, [vS s.p s.x.items.length, vS s.q s.x.floors.length]), (4, 1, [.slice none 0 0, .slice none 0 0]), (5, 2, [vS q l.length, .slice none 0 0]), (7, gg, [vI x20.id, vI x20.e.inc, vI x20.e.rank, vI x20.e.beat, vI x20.e.ver, .string x20.e.data])] ⟨rfl, rfl, rfl, rfl, rfl, rfl, rfl, rfl, rfl, rfl, trivial⟩ ⟨rfl, rfl, rfl, rfl, trivial⟩ rfl fun ρ0 ff => ?_
      refine ⟨_, rfl, ?_⟩
      refine ⟨_, op_ldo rfl rfl rfl rfl, ?_⟩
      refine ⟨_, op_ldo rfl rfl rfl rfl, ?_⟩
      refine ⟨_, rfl, ?_⟩
      refine op_snoc (z := 6) (st := s25) (f := cItm) (b := 56) (l := l) (x := x20) rfl rfl rfl rfl rfl rfl rfl (by decide) len_cItm rfl rfl rfl (by omega) (by unfold maxLen; omega) (hP25.ownR hO) ?_
      intro q31 s31 hO31 hP31 hN31
      refine ⟨_, rfl, ?_⟩
      refine ⟨_, op_sto rfl rfl rfl rfl rfl rfl rfl, ?_⟩
      refine AW.cutM (gg + 1) s31 [(1, vS p L.length), (2, vL 2 0 (0)), (4, vL 4 0 (1)), (5, vL 5 0 (2)), (7, vL 7 0 (gg)), (16, vS s.p s.x.items.length), (17, vI (s.x.items.length : Int)), (18, vI (i : Int)), (19, vB true), (26, vB true)] [(2, 0, [vS s.p s.x.items.length, vS s.q s.x.floors.length]), (4, 1, [.slice none 0 0, .slice none 0 0]), (5, 2, [vS q31 (l ++ [x20]).length, .slice none 0 0]), (7, gg, [vI x20.id, vI x20.e.inc, vI x20.e.rank, vI x20.e.beat, vI x20.e.ver, .string x20.e.data])] ⟨rfl, rfl, rfl, rfl, rfl, rfl, rfl, rfl, rfl, rfl, trivial⟩ ⟨rfl, rfl, rfl, rfl, trivial⟩ rfl fun ρ0 ff => ?_
      have ew33 : IntKind.wrap .i64 ((i : Int) + (1)) = ((i + 1 : Nat) : Int) := (wrap_i64 (by omega) (by omega)).trans (by omega)
      refine ⟨_, rfl, ?_⟩
      exact ⟨(i + 1, q31, l ++ [x20]), s.x.items.length - (i + 1), by omega, ⟨rfl, rfl, rfl, rfl, rfl, rfl, congrArg (Value.int .i64) ew33, trivial⟩, ⟨rfl, rfl, rfl, trivial⟩, rfl, by simp only; omega, by rw [itS_in hy20 h26, ← hv], hO31, hN31.le (hP.trans hP25).1, hP31.pres (hP.trans hP25) hN⟩
end Go.Proofs.Ytopcpcoklgepnaa.AM
