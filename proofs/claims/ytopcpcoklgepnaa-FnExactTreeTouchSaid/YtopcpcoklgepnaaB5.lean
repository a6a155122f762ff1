/- Contracts of states' bytes. -/
import Derived.Test.YtopcpcoklgepnaaB4
namespace Go.Proofs.Ytopcpcoklgepnaa.AM
open Go Go.Proofs
set_option linter.unusedVariables false
set_option linter.unusedSimpArgs false
set_option maxRecDepth 100000
set_option maxHeartbeats 4000000
def itL (x : Itm) : List Int := [x.id, x.e.inc, x.e.rank, x.e.beat, x.e.ver]
def itB (x : Itm) : List Int := numsB (itL x) ++ putS x.e.data
def flB (x : Flr) : List Int := putN x.id ++ putN x.inc
def itsB (l : List Itm) : List Int := l.flatMap itB
def flsB (l : List Flr) : List Int := l.flatMap flB
def stB (s : Sta) : List Int := putN (s.items.length : Int) ++ itsB s.items ++ putN (s.floors.length : Int) ++ flsB s.floors
theorem fm_succ {α : Type} {g : α → List Int} {l : List α} {i : Nat} {x : α} (h : l[i]? = some x) : (l.take (i + 1)).flatMap g = (l.take i).flatMap g ++ g x := by
  rw [List.take_add_one, h, List.flatMap_append]
  simp
theorem fm_len {α : Type} {g : α → List Int} {c : Nat} : ∀ {l : List α}, (∀ x ∈ l, (g x).length ≤ c) → (l.flatMap g).length ≤ c * l.length
  | [], _ => Nat.zero_le _
  | x :: l, h => by
    have h1 := fm_len (l := l) fun y hy => h y (List.mem_cons_of_mem _ hy)
    have h2 := h x (List.mem_cons_self ..)
    rw [List.flatMap_cons, List.length_append, List.length_cons, Nat.mul_add, Nat.mul_one]
    omega
theorem fm_ok {α : Type} {g : α → List Int} {l : List α} (h : ∀ x, bytesOk (g x)) : bytesOk (l.flatMap g) := fun y hy => by
  obtain ⟨x, _, hx⟩ := List.mem_flatMap.1 hy
  exact h x y hx
theorem itB_len {x : Itm} (h : x.e.data.size ≤ 8) : (itB x).length ≤ 38 := by
  have h1 := numsB_len (itL x)
  have h2 := putS_len x.e.data
  rw [itB, List.length_append]
  have : (itL x).length = 5 := rfl
  omega
theorem flB_len (x : Flr) : (flB x).length ≤ 10 := by
  have h1 := putN_len x.id
  have h2 := putN_len x.inc
  rw [flB, List.length_append]
  omega
theorem stB_ok (s : Sta) : bytesOk (stB s) :=
  (((putN_ok _).app (fm_ok fun x => (numsB_ok _).app (putS_ok _))).app (putN_ok _)).app (fm_ok fun x => (putN_ok _).app (putN_ok _))
theorem okSize {s : Sta} (hk : stateOk s) {x : Itm} (hx : x ∈ s.items) : x.e.data.size ≤ 8 := by
  obtain ⟨j, hj⟩ := List.getElem?_of_mem hx
  exact (hk.1 j x hj).2.1.2.2.2.2
theorem its_len {s : Sta} (hk : stateOk s) (i : Nat) : (itsB (s.items.take i)).length ≤ 38 * s.items.length := by
  have h1 : (itsB (s.items.take i)).length ≤ 38 * (s.items.take i).length := fm_len fun x hx => itB_len (okSize hk (List.mem_of_mem_take hx))
  rw [List.length_take] at h1
  omega
theorem fls_len (l : List Flr) (i : Nat) : (flsB (l.take i)).length ≤ 10 * l.length := by
  have h1 : (flsB (l.take i)).length ≤ 10 * (l.take i).length := fm_len fun x _ => flB_len x
  rw [List.length_take] at h1
  omega
theorem stB_len {s : Sta} (hk : stateOk s) : (stB s).length ≤ 10 + 38 * s.items.length + 10 * s.floors.length := by
  have h1 := its_len hk s.items.length
  have h2 := fls_len s.floors s.floors.length
  rw [List.take_length] at h1 h2
  have h3 := putN_len (s.items.length : Int)
  have h4 := putN_len (s.floors.length : Int)
  rw [stB, List.length_append, List.length_append, List.length_append]
  omega
theorem cat_dis {st : St} {p q r : Option Addr} {A B : Prop} {m : Nat} (hd : Dis p r) (ho : Old st.next r) (h : (q = p ∧ A ∧ B) ∨ (0 < m ∧ New st.next q)) : Dis q r := by
  rcases h with ⟨h, _⟩ | ⟨_, h⟩
  · rw [h]; exact hd
  · exact (Dis.of ho h).symm
theorem ac_spec_l6Bytes (s : SV) (st : St) (hR : RdS st s) (hb : bigS s.x) (hk : stateOk s.x) : C 163 [.agg #[vS s.p s.x.items.length, vS s.q s.x.floors.length]] st (fun v s' => ∃ q, v = vS q (stB s.x).length ∧ OwnR s' 1 fB q (stB s.x) ∧ New st.next q ∧ Pres st s') := by
  have hs1 : s.x.items.length ≤ 1048576 := hb.1
  have hs2 : s.x.floors.length ≤ 1048576 := hb.2.1
  have hpl1 := putN_len (s.x.items.length : Int)
  have hpl2 := putN_len (s.x.floors.length : Int)
  refine AC.enterX (i := ⟨[1, 5], [1, 5, 9, 14, 20, 26, 32, 34, 36, 38, 55, 60, 66, 73, 82], [0, 1, 2, 3, 4, 5, 6, 7, 8, 17, 44, 69]⟩) [(6, [], [])] Try.func163 rfl rfl (by kernel_rfl) (by kernel_rfl) Try.ntmps163 (Nat.le_of_ble_eq_true rfl) rfl ?_
  refine ⟨_, rfl, ?_⟩
  refine AW.cutM (1) st [(1, vL 1 0 (0)), (2, .slice none 0 0)] [(1, 0, [vS s.p s.x.items.length, vS s.q s.x.floors.length])] ⟨rfl, rfl, trivial⟩ ⟨rfl, trivial⟩ rfl fun ρ0 ff => ?_
  refine ⟨_, rfl, ?_⟩
  refine ⟨_, op_ldo rfl rfl rfl rfl, ?_⟩
  refine ⟨_, rfl, ?_⟩
  refine ⟨_, rfl, (ac_spec_PutNum (s.x.items.length : Int) st).mono ?_⟩
  rintro _ s12 ⟨q12, rfl, hO12, hN12, hP12⟩
  refine cx_sound _ _ _ _ _ ?_
  refine AW.cutM (1) s12 [(1, vL 1 0 (0)), (2, .slice none 0 0), (3, vS q12 (putN (s.x.items.length : Int)).length), (4, vI (0))] [(1, 0, [vS s.p s.x.items.length, vS s.q s.x.floors.length])] ⟨rfl, rfl, rfl, rfl, trivial⟩ ⟨rfl, trivial⟩ rfl fun ρ0 ff => ?_
  refine AW.loopM (fun x : Nat × Option Addr × List Int => [(1, vL 1 0 (0)), (2, .slice none 0 0), (3, vS x.2.1 x.2.2.length), (4, vI (x.1 : Int))]) (fun x : Nat × Option Addr × List Int => [(1, 0, [vS s.p s.x.items.length, vS s.q s.x.floors.length])]) (fun m (x : Nat × Option Addr × List Int) st' => m = s.x.items.length - x.1 ∧ x.1 ≤ s.x.items.length ∧ x.2.2 = putN (s.x.items.length : Int) ++ itsB (s.x.items.take x.1) ∧ OwnR st' 1 fB x.2.1 x.2.2 ∧ New st.next x.2.1 ∧ Pres st st') (0, q12, putN (s.x.items.length : Int)) _ ⟨rfl, rfl, rfl, rfl, trivial⟩ ⟨rfl, trivial⟩ ⟨rfl, Nat.zero_le _, (List.append_nil _).symm, hO12, hN12, hP12⟩ ?_
  rintro m ⟨i, q, b⟩ ρ0 ff gg st' ⟨rfl, hi, hv, hO, hN, hP⟩
  simp only at hi hv hO hN
  have hbl : b.length ≤ 5 + 38 * s.x.items.length := by rw [hv, List.length_append]; have := its_len hk i; omega
  refine ⟨_, rfl, ?_⟩
  refine ⟨_, op_ldo rfl rfl rfl rfl, ?_⟩
  iterate 2 refine ⟨_, rfl, ?_⟩
  rintro (_|_) h17
  · replace h17 : ¬ ((i : Int) < (s.x.items.length : Int)) := of_decide_eq_false h17
    refine AW.cutM (gg) st' [(1, vL 1 0 (0)), (2, .slice none 0 0), (3, vS q b.length), (4, vI (i : Int)), (17, vB false)] [(1, 0, [vS s.p s.x.items.length, vS s.q s.x.floors.length])] ⟨rfl, rfl, rfl, rfl, rfl, trivial⟩ ⟨rfl, trivial⟩ rfl fun ρ0 ff => ?_
    have hv1 : b = putN (s.x.items.length : Int) ++ itsB s.x.items := by rw [hv, show i = s.x.items.length by omega, List.take_length]
    obtain ⟨s1, hs1'⟩ : ∃ s1, s1 = st' := ⟨_, rfl⟩
    subst hs1'
    refine cx_sound _ _ _ _ _ ?_
    refine ⟨_, rfl, ?_⟩
    refine ⟨_, op_ldo rfl rfl rfl rfl, ?_⟩
    refine ⟨_, rfl, ?_⟩
    refine ⟨_, rfl, (ac_spec_PutNum (s.x.floors.length : Int) s1).mono ?_⟩
    rintro _ s63 ⟨q63, rfl, hO63, hN63, hP63⟩
    refine op_cat' (z := 1) (st := s63) (f := fB) (b := 1) (l := b) (l2 := putN (s.x.floors.length : Int)) rfl rfl rfl rfl rfl rfl rfl (by decide) fB_len rfl rfl rfl rfl (by first | omega | (simp only [List.length_nil]; omega)) (by unfold maxLen; first | omega | (simp only [List.length_nil]; omega)) (hP63.ownR hO) (hO63.rows fB_len) ?_
    intro q64 s64 hO64 hPr64 hN64
    refine cx_sound _ _ _ _ _ ?_
    have hN64' := cat_new (hP.trans hP63) hN hN64
    have hP64' := hPr64.pres (hP.trans hP63) hN
    refine AW.cutM (gg) s64 [(1, vL 1 0 (0)), (2, .slice none 0 0), (3, vS q64 (b ++ (putN (s.x.floors.length : Int))).length), (8, vI (0))] [(1, 0, [vS s.p s.x.items.length, vS s.q s.x.floors.length])] ⟨rfl, rfl, rfl, rfl, trivial⟩ ⟨rfl, trivial⟩ rfl fun ρ0 ff => ?_
    refine AW.loopM (fun z : Nat × Option Addr × List Int => [(1, vL 1 0 (0)), (2, .slice none 0 0), (3, vS z.2.1 z.2.2.length), (8, vI (z.1 : Int))]) (fun z : Nat × Option Addr × List Int => [(1, 0, [vS s.p s.x.items.length, vS s.q s.x.floors.length])]) (fun m (z : Nat × Option Addr × List Int) st' => m = s.x.floors.length - z.1 ∧ z.1 ≤ s.x.floors.length ∧ z.2.2 = b ++ putN (s.x.floors.length : Int) ++ flsB (s.x.floors.take z.1) ∧ OwnR st' 1 fB z.2.1 z.2.2 ∧ New st.next z.2.1 ∧ Pres st st') (0, q64, b ++ putN (s.x.floors.length : Int)) _ ⟨rfl, rfl, rfl, rfl, trivial⟩ ⟨rfl, trivial⟩ ⟨rfl, Nat.zero_le _, (List.append_nil _).symm, hO64, hN64', hP64'⟩ ?_
    rintro m ⟨j, r, f⟩ ρ0 ff gg st' ⟨rfl, hj, hw, hOf, hNf, hPf⟩
    simp only at hj hw hOf hNf
    have hfl : f.length ≤ 10 + 38 * s.x.items.length + 10 * s.x.floors.length := by rw [hw, List.length_append, List.length_append]; have := fls_len s.x.floors j; omega
    refine ⟨_, rfl, ?_⟩
    refine ⟨_, op_ldo rfl rfl rfl rfl, ?_⟩
    iterate 2 refine ⟨_, rfl, ?_⟩
    rintro (_|_) h69
    · replace h69 : ¬ ((j : Int) < (s.x.floors.length : Int)) := of_decide_eq_false h69
      refine AW.cutM (gg) st' [(1, vL 1 0 (0)), (2, .slice none 0 0), (3, vS r f.length), (8, vI (j : Int)), (69, vB false)] [(1, 0, [vS s.p s.x.items.length, vS s.q s.x.floors.length])] ⟨rfl, rfl, rfl, rfl, rfl, trivial⟩ ⟨rfl, trivial⟩ rfl fun ρ0 ff => ?_
      have hw1 : f = stB s.x := by rw [hw, show j = s.x.floors.length by omega, List.take_length, hv1]; rfl
      refine cx_sound _ _ _ _ _ ?_
      refine cx_sound _ _ _ _ _ ?_
      refine ⟨.inl rfl, _, rfl, r, ?_⟩
      rw [← hw1]
      exact ⟨rfl, hOf, hNf, hPf⟩
    · replace h69 : (j : Int) < (s.x.floors.length : Int) := of_decide_eq_true h69
      refine AW.cutM (gg) st' [(1, vL 1 0 (0)), (2, .slice none 0 0), (3, vS r f.length), (8, vI (j : Int)), (69, vB true)] [(1, 0, [vS s.p s.x.items.length, vS s.q s.x.floors.length])] ⟨rfl, rfl, rfl, rfl, rfl, trivial⟩ ⟨rfl, trivial⟩ rfl fun ρ0 ff => ?_
      refine cx_sound _ _ _ _ _ ?_
      refine ⟨_, rfl, ?_⟩
      refine ⟨_, op_ldo rfl rfl rfl rfl, ?_⟩
      refine op_at j (hPf.rows hR.2) (by omega) rfl rfl rfl rfl rfl rfl rfl ?_
      intro x76 b76 d76 k76 hy76 hb76 hm76 hc76 ho76
      refine ⟨_, rfl, ?_⟩
      refine ⟨_, op_ldc (i := 0) rfl rfl rfl rfl hm76 hc76 rfl rfl, ?_⟩
      have hpa := putN_len x76.id
      refine ⟨_, rfl, (ac_spec_PutNum x76.id st').mono ?_⟩
      rintro _ s79 ⟨q79, rfl, hO79, hN79, hP79⟩
      refine op_cat' (z := 1) (st := s79) (f := fB) (b := 1) (l := f) (l2 := putN x76.id) rfl rfl rfl rfl rfl rfl rfl (by decide) fB_len rfl rfl rfl rfl (by first | omega | (simp only [List.length_nil]; omega)) (by unfold maxLen; first | omega | (simp only [List.length_nil]; omega)) (hP79.ownR hOf) (hO79.rows fB_len) ?_
      intro q80 s80 hO80 hPr80 hN80
      refine AW.cutM (gg) s80 [(1, vL 1 0 (0)), (2, .slice none 0 0), (3, vS q80 (f ++ (putN x76.id)).length), (8, vI (j : Int)), (69, vB true)] [(1, 0, [vS s.p s.x.items.length, vS s.q s.x.floors.length])] ⟨rfl, rfl, rfl, rfl, rfl, trivial⟩ ⟨rfl, trivial⟩ rfl fun ρ0 ff => ?_
      have hfa : (f ++ putN x76.id).length = f.length + (putN x76.id).length := List.length_append
      have hN80' := cat_new (hPf.trans hP79) hNf hN80
      have hP80' := hPr80.pres (hPf.trans hP79) hNf
      refine ⟨_, rfl, ?_⟩
      refine ⟨_, op_ldo rfl rfl rfl rfl, ?_⟩
      refine op_el j (hP80'.rows hR.2) hy76 rfl rfl rfl rfl rfl rfl rfl ?_
      intro b85 d85 k85 hb85 hm85 hc85 ho85
      refine ⟨_, rfl, ?_⟩
      refine ⟨_, op_ldc (i := 1) rfl rfl rfl rfl hm85 hc85 rfl rfl, ?_⟩
      have hpb := putN_len x76.inc
      refine ⟨_, rfl, (ac_spec_PutNum x76.inc s80).mono ?_⟩
      rintro _ s88 ⟨q88, rfl, hO88, hN88, hP88⟩
      refine op_cat' (z := 1) (st := s88) (f := fB) (b := 1) (l := (f ++ putN x76.id)) (l2 := putN x76.inc) rfl rfl rfl rfl rfl rfl rfl (by decide) fB_len rfl rfl rfl rfl (by first | omega | (simp only [List.length_nil]; omega)) (by unfold maxLen; first | omega | (simp only [List.length_nil]; omega)) (hP88.ownR hO80) (hO88.rows fB_len) ?_
      intro q89 s89 hO89 hPr89 hN89
      refine AW.cutM (gg) s89 [(1, vL 1 0 (0)), (2, .slice none 0 0), (3, vS q89 ((f ++ putN x76.id) ++ (putN x76.inc)).length), (8, vI (j : Int)), (69, vB true)] [(1, 0, [vS s.p s.x.items.length, vS s.q s.x.floors.length])] ⟨rfl, rfl, rfl, rfl, rfl, trivial⟩ ⟨rfl, trivial⟩ rfl fun ρ0 ff => ?_
      have ew71 : IntKind.wrap .i64 ((j : Int) + (1)) = ((j + 1 : Nat) : Int) := (wrap_i64 (by omega) (by omega)).trans (by omega)
      refine ⟨_, rfl, ?_⟩
      exact ⟨(j + 1, q89, f ++ putN x76.id ++ putN x76.inc), s.x.floors.length - (j + 1), by omega, ⟨rfl, rfl, rfl, congrArg (Value.int .i64) ew71, trivial⟩, ⟨rfl, trivial⟩, rfl, by first | omega | (simp only; omega), by rw [show flsB (s.x.floors.take (j + 1)) = flsB (s.x.floors.take j) ++ flB x76 from fm_succ hy76, ← List.append_assoc, ← hw, List.append_assoc]; rfl, hO89, cat_new (hP80'.trans hP88) hN80' hN89, hPr89.pres (hP80'.trans hP88) hN80'⟩
  · replace h17 : (i : Int) < (s.x.items.length : Int) := of_decide_eq_true h17
    refine AW.cutM (gg) st' [(1, vL 1 0 (0)), (2, .slice none 0 0), (3, vS q b.length), (4, vI (i : Int)), (17, vB true)] [(1, 0, [vS s.p s.x.items.length, vS s.q s.x.floors.length])] ⟨rfl, rfl, rfl, rfl, rfl, trivial⟩ ⟨rfl, trivial⟩ rfl fun ρ0 ff => ?_
    obtain ⟨s1, hs1'⟩ : ∃ s1, s1 = st' := ⟨_, rfl⟩
    subst hs1'
    refine cx_sound _ _ _ _ _ ?_
    refine ⟨_, rfl, ?_⟩
    refine ⟨_, op_ldo rfl rfl rfl rfl, ?_⟩
    refine op_at i (hP.rows hR.1) (by omega) rfl rfl rfl rfl rfl rfl rfl ?_
    intro x23 b23 d23 k23 hy23 hb23 hm23 hc23 ho23
    refine ⟨_, rfl, ?_⟩
    refine ⟨_, op_lda rfl rfl rfl rfl rfl hm23 (sub_row 1 5 hc23 rfl (by decide)) rfl, ?_⟩
    refine ⟨_, rfl, ?_⟩
    refine ⟨_, op_sto rfl rfl rfl rfl rfl rfl rfl, ?_⟩
    refine AW.cutM (gg + 1) s1 [(1, vL 1 0 (0)), (2, .slice none 0 0), (3, vS q b.length), (4, vI (i : Int)), (5, vL 5 0 (gg)), (17, vB true)] [(1, 0, [vS s.p s.x.items.length, vS s.q s.x.floors.length]), (5, gg, [vI x23.e.inc, vI x23.e.rank, vI x23.e.beat, vI x23.e.ver, .string x23.e.data])] ⟨rfl, rfl, rfl, rfl, rfl, rfl, trivial⟩ ⟨rfl, rfl, trivial⟩ rfl fun ρ0 ff => ?_
    have hdz : x23.e.data.size ≤ 8 := okSize hk (List.mem_of_getElem? hy23)
    refine ⟨_, rfl, ?_⟩
    refine ⟨_, op_ldo rfl rfl rfl rfl, ?_⟩
    refine op_el i (hP.rows hR.1) hy23 rfl rfl rfl rfl rfl rfl rfl ?_
    intro b29 d29 k29 hb29 hm29 hc29 ho29
    refine ⟨_, rfl, ?_⟩
    refine ⟨_, op_ldc (i := 0) rfl rfl rfl rfl hm29 hc29 rfl rfl, ?_⟩
    refine ⟨_, rfl, ?_⟩
    refine ⟨_, op_ldo rfl rfl rfl rfl, ?_⟩
    refine ⟨_, rfl, ?_⟩
    refine ⟨_, op_ldo rfl rfl rfl rfl, ?_⟩
    refine ⟨_, rfl, ?_⟩
    refine ⟨_, op_ldo rfl rfl rfl rfl, ?_⟩
    refine ⟨_, rfl, ?_⟩
    refine ⟨_, op_ldo rfl rfl rfl rfl, ?_⟩
    refine op_litI (k := .i64) (l := itL x23) rfl rfl rfl rfl rfl rfl (by decide) ?_
    intro q40 s40 hO40 hP40 hN40
    refine cx_sound _ _ _ _ _ ?_
    have h5 : (itL x23).length = 5 := rfl
    have hO40 : OwnR s40 1 fI q40 (itL x23) := hO40
    refine AW.cutM (gg + 1) s40 [(1, vL 1 0 (0)), (2, .slice none 0 0), (3, vS q b.length), (4, vI (i : Int)), (5, vL 5 0 (gg)), (6, vS q40 (itL x23).length), (7, vI (0)), (17, vB true)] [(1, 0, [vS s.p s.x.items.length, vS s.q s.x.floors.length]), (5, gg, [vI x23.e.inc, vI x23.e.rank, vI x23.e.beat, vI x23.e.ver, .string x23.e.data])] ⟨rfl, rfl, rfl, rfl, rfl, rfl, rfl, rfl, trivial⟩ ⟨rfl, rfl, trivial⟩ rfl fun ρ0 ff => ?_
    refine AW.loopM (fun y : Nat × Option Addr × List Int => [(1, vL 1 0 (0)), (2, .slice none 0 0), (3, vS y.2.1 y.2.2.length), (4, vI (i : Int)), (5, vL 5 0 (gg)), (6, vS q40 (itL x23).length), (7, vI (y.1 : Int)), (17, vB true)]) (fun y : Nat × Option Addr × List Int => [(1, 0, [vS s.p s.x.items.length, vS s.q s.x.floors.length]), (5, gg, [vI x23.e.inc, vI x23.e.rank, vI x23.e.beat, vI x23.e.ver, .string x23.e.data])]) (fun m (y : Nat × Option Addr × List Int) st' => m = 5 - y.1 ∧ y.1 ≤ 5 ∧ y.2.2 = b ++ numsB ((itL x23).take y.1) ∧ OwnR st' 1 fB y.2.1 y.2.2 ∧ New st.next y.2.1 ∧ OwnR st' 1 fI q40 (itL x23) ∧ Dis y.2.1 q40 ∧ Pres st st') (0, q, b) _ ⟨rfl, rfl, rfl, rfl, rfl, rfl, rfl, rfl, trivial⟩ ⟨rfl, rfl, trivial⟩ ⟨rfl, Nat.zero_le _, (List.append_nil _).symm, hP40.ownR hO, hN, hO40, Dis.of hO.old hN40, hP.trans hP40⟩ ?_
    rintro m ⟨k, r, c⟩ ρ0 ff gg2 st' ⟨rfl, hk5, hc, hOc, hNc, hO5, hd5, hPc⟩
    simp only at hk5 hc hOc hNc hd5
    have hcl : c.length ≤ 30 + 38 * s.x.items.length := by rw [hc, List.length_append]; have := numsB_len ((itL x23).take k); rw [List.length_take] at this; omega
    iterate 2 refine ⟨_, rfl, ?_⟩
    rintro (_|_) h44
    · replace h44 : ¬ ((k : Int) < ((itL x23).length : Int)) := of_decide_eq_false h44
      refine AW.cutM (gg2) st' [(1, vL 1 0 (0)), (2, .slice none 0 0), (3, vS r c.length), (4, vI (i : Int)), (5, vL 5 0 (gg)), (6, vS q40 (itL x23).length), (7, vI (k : Int)), (17, vB true), (44, vB false)] [(1, 0, [vS s.p s.x.items.length, vS s.q s.x.floors.length]), (5, gg, [vI x23.e.inc, vI x23.e.rank, vI x23.e.beat, vI x23.e.ver, .string x23.e.data])] ⟨rfl, rfl, rfl, rfl, rfl, rfl, rfl, rfl, rfl, trivial⟩ ⟨rfl, rfl, trivial⟩ rfl fun ρ0 ff => ?_
      have hc5 : c = b ++ numsB (itL x23) := by rw [hc, show k = 5 by omega]; rfl
      refine cx_sound _ _ _ _ _ ?_
      refine ⟨_, rfl, ?_⟩
      refine ⟨_, op_ldo rfl rfl rfl rfl, ?_⟩
      have hpt := putS_len x23.e.data
      refine ⟨_, rfl, (ac_spec_PutText x23.e.data st' (by first | assumption | omega)).mono ?_⟩
      rintro _ s57 ⟨q57, rfl, hO57, hN57, hP57⟩
      refine op_cat' (z := 1) (st := s57) (f := fB) (b := 1) (l := c) (l2 := putS x23.e.data) rfl rfl rfl rfl rfl rfl rfl (by decide) fB_len rfl rfl rfl rfl (by first | omega | (simp only [List.length_nil]; omega)) (by unfold maxLen; first | omega | (simp only [List.length_nil]; omega)) (hP57.ownR hOc) (hO57.rows fB_len) ?_
      intro q58 s58 hO58 hPr58 hN58
      refine AW.cutM (gg2) s58 [(1, vL 1 0 (0)), (2, .slice none 0 0), (3, vS q58 (c ++ (putS x23.e.data)).length), (4, vI (i : Int)), (5, vL 5 0 (gg)), (6, vS q40 (itL x23).length), (7, vI (k : Int)), (17, vB true), (44, vB false)] [(1, 0, [vS s.p s.x.items.length, vS s.q s.x.floors.length]), (5, gg, [vI x23.e.inc, vI x23.e.rank, vI x23.e.beat, vI x23.e.ver, .string x23.e.data])] ⟨rfl, rfl, rfl, rfl, rfl, rfl, rfl, rfl, rfl, trivial⟩ ⟨rfl, rfl, trivial⟩ rfl fun ρ0 ff => ?_
      have ew19 : IntKind.wrap .i64 ((i : Int) + (1)) = ((i + 1 : Nat) : Int) := (wrap_i64 (by omega) (by omega)).trans (by omega)
      refine ⟨_, rfl, ?_⟩
      exact ⟨(i + 1, q58, c ++ putS x23.e.data), s.x.items.length - (i + 1), by omega, ⟨rfl, rfl, rfl, congrArg (Value.int .i64) ew19, trivial⟩, ⟨rfl, trivial⟩, rfl, by first | omega | (simp only; omega), by rw [show itsB (s.x.items.take (i + 1)) = itsB (s.x.items.take i) ++ itB x23 from fm_succ hy23, ← List.append_assoc, ← hv, hc5, List.append_assoc]; rfl, hO58, cat_new (hPc.trans hP57) hNc hN58, hPr58.pres (hPc.trans hP57) hNc⟩
    · replace h44 : (k : Int) < ((itL x23).length : Int) := of_decide_eq_true h44
      refine AW.cutM (gg2) st' [(1, vL 1 0 (0)), (2, .slice none 0 0), (3, vS r c.length), (4, vI (i : Int)), (5, vL 5 0 (gg)), (6, vS q40 (itL x23).length), (7, vI (k : Int)), (17, vB true), (44, vB true)] [(1, 0, [vS s.p s.x.items.length, vS s.q s.x.floors.length]), (5, gg, [vI x23.e.inc, vI x23.e.rank, vI x23.e.beat, vI x23.e.ver, .string x23.e.data])] ⟨rfl, rfl, rfl, rfl, rfl, rfl, rfl, rfl, rfl, trivial⟩ ⟨rfl, rfl, trivial⟩ rfl fun ρ0 ff => ?_
      refine cx_sound _ _ _ _ _ ?_
      refine op_at k (hO5.rows fI_len) (by omega) rfl rfl rfl rfl rfl rfl rfl ?_
      intro x50 b50 d50 k50 hy50 hb50 hm50 hc50 ho50
      refine ⟨_, op_ldc (i := 0) rfl rfl rfl rfl hm50 hc50 rfl rfl, ?_⟩
      have hpl := putN_len x50
      refine ⟨_, rfl, (ac_spec_PutNum x50 st').mono ?_⟩
      rintro _ s52 ⟨q52, rfl, hO52, hN52, hP52⟩
      refine op_cat' (z := 1) (st := s52) (f := fB) (b := 1) (l := c) (l2 := putN x50) rfl rfl rfl rfl rfl rfl rfl (by decide) fB_len rfl rfl rfl rfl (by first | omega | (simp only [List.length_nil]; omega)) (by unfold maxLen; first | omega | (simp only [List.length_nil]; omega)) (hP52.ownR hOc) (hO52.rows fB_len) ?_
      intro q53 s53 hO53 hPr53 hN53
      refine AW.cutM (gg2) s53 [(1, vL 1 0 (0)), (2, .slice none 0 0), (3, vS q53 (c ++ (putN x50)).length), (4, vI (i : Int)), (5, vL 5 0 (gg)), (6, vS q40 (itL x23).length), (7, vI (k : Int)), (17, vB true), (44, vB true)] [(1, 0, [vS s.p s.x.items.length, vS s.q s.x.floors.length]), (5, gg, [vI x23.e.inc, vI x23.e.rank, vI x23.e.beat, vI x23.e.ver, .string x23.e.data])] ⟨rfl, rfl, rfl, rfl, rfl, rfl, rfl, rfl, rfl, trivial⟩ ⟨rfl, rfl, trivial⟩ rfl fun ρ0 ff => ?_
      have ew46 : IntKind.wrap .i64 ((k : Int) + (1)) = ((k + 1 : Nat) : Int) := (wrap_i64 (by omega) (by omega)).trans (by omega)
      refine ⟨_, rfl, ?_⟩
      exact ⟨(k + 1, q53, c ++ putN x50), 5 - (k + 1), by omega, ⟨rfl, rfl, rfl, rfl, rfl, rfl, congrArg (Value.int .i64) ew46, rfl, trivial⟩, ⟨rfl, rfl, trivial⟩, rfl, by first | omega | (simp only; omega), by rw [numsB_succ hy50, ← List.append_assoc, ← hc], hO53, cat_new (hPc.trans hP52) hNc hN53, hPr53.ownR hd5 (hP52.ownR hO5), cat_dis hd5 (hP52.ownR hO5).old hN53, hPr53.pres (hPc.trans hP52) hNc⟩
end Go.Proofs.Ytopcpcoklgepnaa.AM
