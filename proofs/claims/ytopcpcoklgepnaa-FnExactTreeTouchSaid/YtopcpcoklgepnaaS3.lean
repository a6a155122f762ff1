/- Contracts of lists of states and of logs; the law of the logs' check on the abstract machine. -/
import Derived.Test.YtopcpcoklgepnaaS2
import Derived.Test.YtopcpcoklgepnaaD2
namespace Go.Proofs.Ytopcpcoklgepnaa.AM
open Go Go.Proofs
set_option linter.unusedVariables false
set_option linter.unusedSimpArgs false
set_option maxRecDepth 100000
set_option maxHeartbeats 4000000
abbrev xls (l : List SV) : List Sta := l.map (·.x)
theorem len_cSV (s : SV) : (cSV s).length = 2 := rfl
def RdL (st : St) (p : Option Addr) (l : List SV) : Prop := Rows st 2 cSV p l ∧ ∀ s ∈ l, RdS st s
abbrev pcL (p : Option Addr) (l : List SV) : List Pc := pcR 2 cSV p l :: l.flatMap pcS
theorem RdL.pres {st st' : St} {p : Option Addr} {l : List SV} (h : RdL st p l) (k : Pres st st') : RdL st' p l := ⟨k.rows h.1, fun s hs => (h.2 s hs).pres k⟩
theorem OwnP.louter {st : St} {p : Option Addr} {l : List SV} {m : List Pc} (h : OwnP st (pcR 2 cSV p l :: m)) : OwnR st 2 cSV p l := pc_own (by decide) len_cSV (h.1 _ (List.mem_cons_self ..))
theorem OwnP.sub {st : St} {l m : List Pc} (h : OwnP st l) (hs : m.Sublist l) : OwnP st m := ⟨fun c hc => h.1 c (hs.subset hc), h.2.sublist hs⟩
theorem OwnP.state {st : St} {l : List SV} {s : SV} (h : OwnP st (l.flatMap pcS)) (hs : s ∈ l) : OwnP st (pcS s) := by
  obtain ⟨i, hi⟩ := List.getElem?_of_mem hs
  rw [(split_at' hi).1, List.flatMap_append, List.flatMap_cons] at h
  exact OwnP.left (OwnP.right h)
theorem OwnP.rdL {st : St} {p : Option Addr} {l : List SV} (h : OwnP st (pcL p l)) : RdL st p l := ⟨h.louter.rows len_cSV, fun s hs => (h.tail.state hs).rdS⟩
def szL (l : List SV) : Nat := l.length + sumOf (fun s => szSta s.x) l
def bigL (l : List SV) : Prop := szOk l.length ∧ ∀ s ∈ l, bigS s.x
def maxL (l : List SV) : Prop := l.length ≤ maxLen ∧ ∀ s ∈ l, maxS s.x
theorem sz_bigL {l : List SV} (h : szL l ≤ 1048576) : bigL l := by
  unfold szL at h
  refine ⟨by unfold szOk; omega, fun s hs => sz_bigS ?_⟩
  have := sumOf_mem (f := fun s : SV => szSta s.x) hs
  omega
theorem ac_laws_szStateS (p : Option Addr) (l : List SV) (n : Int) (st : St) (hR : RdL st p l) (h0 : 0 ≤ n) (hn : n ≤ 1048576) (hm : maxL l) : C 64 [vS p l.length, vI n] st (fun v s => ∃ r, v = vI r ∧ r ≤ n ∧ (0 ≤ r → r + (szL l : Int) = n) ∧ s = st) := by
  have hm1 : l.length ≤ 9223372036854775807 := hm.1
  refine AC.enterX (i := ⟨[], [], [0, 1, 4, 5, 11, 15, 25]⟩) [] Try.func64 rfl rfl (by kernel_rfl) (by kernel_rfl) Try.ntmps64 (Nat.le_of_ble_eq_true rfl) rfl ?_
  refine AW.cut lo0 st [(0, vS p l.length), (1, vI n), (4, vI (0))] ⟨rfl, rfl, rfl, trivial⟩ fun ρ0 => ?_
  refine ⟨_, rfl, ?_⟩
  have e9 : IntKind.wrap .i64 (n - (l.length : Int)) = n - (l.length : Int) := wrap_i64 (by omega) (by omega)
  refine ⟨_, rfl, ?_⟩
  refine AW.cut lo0 st [(0, vS p l.length), (1, vI (n - (l.length : Int))), (4, vI (0))] ⟨rfl, congrArg (Value.int .i64) e9, rfl, trivial⟩ fun ρ0 => ?_
  refine ⟨_, rfl, ?_⟩
  rintro (_|_) h1
  · replace h1 : ¬ (n - (l.length : Int) < 0) := of_decide_eq_false h1
    refine AW.cut lo0 st [(0, vS p l.length), (1, vI (n - (l.length : Int))), (4, vI (0)), (11, vB false)] ⟨rfl, rfl, rfl, rfl, trivial⟩ fun ρ0 => ?_
    refine cx_sound _ _ _ _ _ ?_
    refine AW.cut lo0 st [(0, vS p l.length), (1, vI (n - (l.length : Int))), (4, vI (0)), (5, vI (0))] ⟨rfl, rfl, rfl, rfl, trivial⟩ fun ρ0 => ?_
    refine AW.loop0 (fun x : Nat × Int => [(0, vS p l.length), (1, vI x.2), (5, vI (x.1 : Int))]) (fun m (x : Nat × Int) st' => m = l.length - x.1 ∧ x.1 ≤ l.length ∧ 0 ≤ x.2 ∧ x.2 + (l.length : Int) + (sumOf (fun s => szSta s.x) (l.take x.1) : Int) = n ∧ st = st') (0, n - (l.length : Int)) _ ⟨rfl, rfl, rfl, trivial⟩ rfl ⟨rfl, Nat.zero_le _, by omega, by simp [sumOf], rfl⟩ ?_
    rintro m x ρ0 st' ⟨rfl, hi, hx0, hx1, rfl⟩
    iterate 2 refine ⟨_, rfl, ?_⟩
    rintro (_|_) h2
    · replace h2 : ¬ ((x.1 : Int) < (l.length : Int)) := of_decide_eq_false h2
      refine AW.cut lo0 st [(0, vS p l.length), (1, vI x.2), (5, vI (x.1 : Int)), (15, vB false)] ⟨rfl, rfl, rfl, rfl, trivial⟩ fun ρ0 => ?_
      refine cx_sound _ _ _ _ _ ?_
      refine cx_sound _ _ _ _ _ ?_
      have hil : x.1 = l.length := by omega
      exact ⟨.inl rfl, _, rfl, x.2, rfl, by omega, fun _ => by rw [hil, List.take_length] at hx1; unfold szL; omega, rfl⟩
    · replace h2 : (x.1 : Int) < (l.length : Int) := of_decide_eq_true h2
      refine AW.cut lo0 st [(0, vS p l.length), (1, vI x.2), (5, vI (x.1 : Int)), (15, vB true)] ⟨rfl, rfl, rfl, rfl, trivial⟩ fun ρ0 => ?_
      have h2' := Int.ofNat_lt.1 h2
      have ⟨b1, o1, k1, r, hpe, hr1, hm1, hc1⟩ := hR.1.at h2'
      have hmem := List.mem_of_getElem? hr1
      have hct := sumOf_take (f := fun s : SV => szSta s.x) hr1
      refine cx_sound _ _ _ _ _ ?_
      refine ⟨_, op_idx (j := (x.1 : Int)) (n := l.length) (q := ⟨b1, o1, none⟩) rfl (congrArg (fun u => vS u l.length) hpe) rfl rfl rfl (Int.natCast_nonneg _) h2, ?_⟩
      refine ⟨_, op_lda rfl rfl rfl rfl rfl hm1 hc1 rfl, ?_⟩
      refine ⟨_, rfl, (ac_laws_szState r x.2 st (hR.2 r hmem) hx0 (by omega) (hm.2 r hmem)).mono ?_⟩
      rintro _ st ⟨y, rfl, hy, hz, rfl⟩
      refine AW.cut lo0 st [(0, vS p l.length), (1, vI y), (5, vI (x.1 : Int)), (15, vB true)] ⟨rfl, rfl, rfl, rfl, trivial⟩ fun ρ0 => ?_
      refine ⟨_, rfl, ?_⟩
      rintro (_|_) h3
      · replace h3 : ¬ (y < 0) := of_decide_eq_false h3
        refine AW.cut lo0 st [(0, vS p l.length), (1, vI y), (5, vI (x.1 : Int)), (15, vB true), (25, vB false)] ⟨rfl, rfl, rfl, rfl, rfl, trivial⟩ fun ρ0 => ?_
        refine cx_sound _ _ _ _ _ ?_
        have e17 : IntKind.wrap .i64 ((x.1 : Int) + 1) = ((x.1 + 1 : Nat) : Int) := (wrap_i64 (by omega) (by omega)).trans (by omega)
        refine ⟨_, rfl, ?_⟩
        exact ⟨(x.1 + 1, y), l.length - (x.1 + 1), by omega, ⟨rfl, rfl, congrArg (Value.int .i64) e17, trivial⟩, rfl, rfl, h2', by omega, by have := hz (by omega); simp only; omega, rfl⟩
      · replace h3 : y < 0 := of_decide_eq_true h3
        refine AW.cut lo0 st [(0, vS p l.length), (1, vI y), (5, vI (x.1 : Int)), (15, vB true), (25, vB true)] ⟨rfl, rfl, rfl, rfl, rfl, trivial⟩ fun ρ0 => ?_
        refine cx_sound _ _ _ _ _ ?_
        exact ⟨.inl rfl, _, rfl, -1, rfl, by omega, fun h => absurd h (by omega), rfl⟩
  · replace h1 : n - (l.length : Int) < 0 := of_decide_eq_true h1
    refine AW.cut lo0 st [(0, vS p l.length), (1, vI (n - (l.length : Int))), (4, vI (0)), (11, vB true)] ⟨rfl, rfl, rfl, rfl, trivial⟩ fun ρ0 => ?_
    refine cx_sound _ _ _ _ _ ?_
    exact ⟨.inl rfl, _, rfl, -1, rfl, by omega, fun h => absurd h (by omega), rfl⟩
abbrev zSV : SV := ⟨none, none, ⟨[], []⟩⟩
theorem ac_laws_toStateS (p : Option Addr) (l : List SV) (st : St) (hR : RdL st p l) (hb : bigL l) : C 66 [vS p l.length] st (fun v s => ∃ q u, v = vS q l.length ∧ u.map (·.x) = l.map (·.x) ∧ OwnP s (pcL q u) ∧ NewP st.next (pcL q u) ∧ Pres st s) := by
  have hs : l.length ≤ 1048576 := hb.1
  refine AC.enterX (i := ⟨[], [], [0, 2, 3, 4, 11]⟩) [] Try.func66 rfl rfl (by kernel_rfl) (by kernel_rfl) Try.ntmps66 (Nat.le_of_ble_eq_true rfl) rfl ?_
  refine AW.cut lo0 st [(0, vS p l.length), (2, .slice none 0 0)] ⟨rfl, rfl, trivial⟩ fun ρ0 => ?_
  refine ⟨_, rfl, ?_⟩
  refine op_mkK (z := 2) (f := cSV) (a := zSV) (b := 48) (i := l.length) rfl rfl rfl rfl rfl rfl rfl rfl rfl (by decide) rfl rfl (by omega) (by omega) ?_
  intro q s1 hO hP hN
  have hO : OwnP s1 [pcR 2 cSV q (List.replicate l.length zSV)] := OwnP.one (own_pc hO)
  refine cx_sound _ _ _ _ _ ?_
  refine AW.cut lo0 s1 [(0, vS p l.length), (2, .slice none 0 0), (3, vS q l.length), (4, vI (0))] ⟨rfl, rfl, rfl, rfl, trivial⟩ fun ρ0 => ?_
  refine AW.loop0 (fun x : Nat × List SV => [(0, vS p l.length), (3, vS q l.length), (4, vI (x.1 : Int))]) (fun m (x : Nat × List SV) st' => m = l.length - x.1 ∧ x.1 ≤ l.length ∧ x.2.map (·.x) = (l.take x.1).map (·.x) ∧ OwnP st' (pcR 2 cSV q (x.2 ++ List.replicate (l.length - x.1) zSV) :: x.2.flatMap pcS) ∧ NewP st.next (pcL q x.2) ∧ Pres st st') (0, []) _ ⟨rfl, rfl, rfl, trivial⟩ rfl ⟨rfl, Nat.zero_le _, rfl, hO, NewP.cons hN NewP.nil, hP⟩ ?_
  rintro m x ρ0 st' ⟨rfl, hi, hl, hO', hN', hP'⟩
  iterate 2 refine ⟨_, rfl, ?_⟩
  rintro (_|_) h1
  · replace h1 : ¬ ((x.1 : Int) < (l.length : Int)) := of_decide_eq_false h1
    refine AW.cut lo0 st' [(0, vS p l.length), (3, vS q l.length), (4, vI (x.1 : Int)), (11, vB false)] ⟨rfl, rfl, rfl, rfl, trivial⟩ fun ρ0 => ?_
    refine cx_sound _ _ _ _ _ ?_
    refine cx_sound _ _ _ _ _ ?_
    have hil : x.1 = l.length := by omega
    rw [hil, Nat.sub_self, List.replicate_zero, List.append_nil] at hO'
    exact ⟨.inl rfl, _, rfl, q, x.2, rfl, by rw [hl, hil, List.take_length], hO', hN', hP'⟩
  · replace h1 : (x.1 : Int) < (l.length : Int) := of_decide_eq_true h1
    refine AW.cut lo0 st' [(0, vS p l.length), (3, vS q l.length), (4, vI (x.1 : Int)), (11, vB true)] ⟨rfl, rfl, rfl, rfl, trivial⟩ fun ρ0 => ?_
    have h1' := Int.ofNat_lt.1 h1
    have ⟨b1, o1, k1, r, hpe, hr1, hm1, hc1⟩ := (hR.pres hP').1.at h1'
    have hmem := List.mem_of_getElem? hr1
    obtain ⟨d1, d2, d3⟩ := split_at' hr1
    have hxl : x.2.length = x.1 := by have := congrArg List.length hl; simp at this; omega
    obtain ⟨n1, hn1⟩ : ∃ n1, l.length - x.1 = n1 + 1 := ⟨l.length - x.1 - 1, by omega⟩
    refine cx_sound _ _ _ _ _ ?_
    refine ⟨_, op_idx (j := (x.1 : Int)) (n := l.length) (q := ⟨b1, o1, none⟩) rfl (congrArg (fun u => vS u l.length) hpe) rfl rfl rfl (Int.natCast_nonneg _) h1, ?_⟩
    refine ⟨_, op_lda rfl rfl rfl rfl rfl hm1 hc1 rfl, ?_⟩
    refine ⟨_, rfl, (ac_laws_toState r st' ((hR.pres hP').2 r hmem) (hb.2 r hmem)).mono ?_⟩
    rintro _ s2 ⟨y, rfl, hy, hO2, hN2, hP2⟩
    have hA := OwnP.join hO' hP2 hO2 hN2
    have hlen : x.1 < (x.2 ++ List.replicate (l.length - x.1) zSV).length := by rw [List.length_append, List.length_replicate]; omega
    have hout : OwnR s2 2 cSV q (x.2 ++ List.replicate (l.length - x.1) zSV) := (hO'.pres hP2).louter
    have ⟨a, ha⟩ := hout.some (by omega)
    refine ⟨_, op_idx (j := (x.1 : Int)) (n := l.length) (q := ⟨a, 0, none⟩) rfl (congrArg (fun u => vS u l.length) ha) rfl rfl rfl (Int.natCast_nonneg _) h1, ?_⟩
    refine op_put (z := 2) (st := s2) (f := cSV) (j := x.1) (l := x.2 ++ List.replicate (l.length - x.1) zSV) (y := y) (p := q) (d := 0 + x.1 * 2) rfl rfl (Nat.zero_add _) rfl rfl len_cSV rfl rfl hlen hout ha ?_
    intro s5 hO5 hP5 hn5
    refine AW.cut lo0 s5 [(0, vS p l.length), (3, vS q l.length), (4, vI (x.1 : Int)), (11, vB true)] ⟨rfl, rfl, rfl, rfl, trivial⟩ fun ρ0 => ?_
    have hset : (x.2 ++ List.replicate (l.length - x.1) zSV).set x.1 y = (x.2 ++ [y]) ++ List.replicate (l.length - (x.1 + 1)) zSV := by
      rw [hn1, show l.length - (x.1 + 1) = n1 by omega, List.replicate_succ, List.set_append_right _ _ (by omega), show x.1 - x.2.length = 0 by omega, List.set_cons_zero]
      simp
    rw [hset] at hO5
    have hB : OwnP s5 (pcR 2 cSV q ((x.2 ++ [y]) ++ List.replicate (l.length - (x.1 + 1)) zSV) :: (x.2.flatMap pcS ++ pcS y)) :=
      OwnP.update (l := []) (m := x.2.flatMap pcS ++ pcS y) (c := pcR 2 cSV q (x.2 ++ List.replicate (l.length - x.1) zSV)) (d := pcR 2 cSV q ((x.2 ++ [y]) ++ List.replicate (l.length - (x.1 + 1)) zSV)) hA hP5 (own_pc hO5) rfl
    have hB : OwnP s5 (pcR 2 cSV q ((x.2 ++ [y]) ++ List.replicate (l.length - (x.1 + 1)) zSV) :: (x.2 ++ [y]).flatMap pcS) := by rw [List.flatMap_append, List.flatMap_singleton]; exact hB
    have e13 : IntKind.wrap .i64 ((x.1 : Int) + 1) = ((x.1 + 1 : Nat) : Int) := (wrap_i64 (by omega) (by omega)).trans (by omega)
    refine ⟨_, rfl, ?_⟩
    refine ⟨(x.1 + 1, x.2 ++ [y]), l.length - (x.1 + 1), by omega, ⟨rfl, rfl, congrArg (Value.int .i64) e13, trivial⟩, rfl, rfl, h1', ?_, hB, ?_, ?_⟩
    · rw [List.map_append, hl, d2, List.map_append]; simp [hy]
    · refine NewP.cons hN ?_
      rw [List.flatMap_append, List.flatMap_singleton]
      exact NewP.app (fun c hc => hN' c (List.mem_cons_of_mem _ hc)) (hN2.le hP'.1)
    · exact hP5.pres (hP'.trans hP2) hN
theorem ac_laws_eqStateS (p q : Option Addr) (a b : List SV) (st : St) (hA : RdL st p a) (hB : RdL st q b) (hb : bigL a) : C 68 [vS p a.length, vS q b.length] st (fun v s => ∃ x, v = .bool x ∧ (x = true ↔ a.map (·.x) = b.map (·.x)) ∧ s = st) := by
  have hs : a.length ≤ 1048576 := hb.1
  refine AC.enterX (i := ⟨[], [], [0, 1, 4, 5, 10, 14, 26]⟩) [(6, [], [])] Try.func68 rfl rfl (by kernel_rfl) (by kernel_rfl) Try.ntmps68 (Nat.le_of_ble_eq_true rfl) rfl ?_
  refine AW.cut lo0 st [(0, vS p a.length), (1, vS q b.length), (4, vB false)] ⟨rfl, rfl, rfl, trivial⟩ fun ρ0 => ?_
  iterate 3 refine ⟨_, rfl, ?_⟩
  rintro (_|_) h1
  · replace h1 : (a.length : Int) = (b.length : Int) := bne_eq_false_iff_eq.1 h1
    refine AW.cut lo0 st [(0, vS p a.length), (1, vS q b.length), (4, vB false), (10, vB false)] ⟨rfl, rfl, rfl, rfl, trivial⟩ fun ρ0 => ?_
    refine cx_sound _ _ _ _ _ ?_
    refine AW.cut lo0 st [(0, vS p a.length), (1, vS q b.length), (4, vB false), (5, vI (0))] ⟨rfl, rfl, rfl, rfl, trivial⟩ fun ρ0 => ?_
    refine AW.loop0 (fun i : Nat => [(0, vS p a.length), (1, vS q b.length), (4, vB false), (5, vI (i : Int))]) (fun m (i : Nat) st' => m = a.length - i ∧ i ≤ a.length ∧ (∀ (j : Nat) x y, j < i → a[j]? = some x → b[j]? = some y → x.x = y.x) ∧ st = st') 0 _ ⟨rfl, rfl, rfl, rfl, trivial⟩ rfl ⟨rfl, Nat.zero_le _, fun j x y h => absurd h (Nat.not_lt_zero _), rfl⟩ ?_
    rintro m i ρ0 st' ⟨rfl, hi, heq, rfl⟩
    iterate 2 refine ⟨_, rfl, ?_⟩
    rintro (_|_) h2
    · replace h2 : ¬ ((i : Int) < (a.length : Int)) := of_decide_eq_false h2
      refine AW.cut lo0 st [(0, vS p a.length), (1, vS q b.length), (4, vB false), (5, vI (i : Int)), (14, vB false)] ⟨rfl, rfl, rfl, rfl, rfl, trivial⟩ fun ρ0 => ?_
      refine cx_sound _ _ _ _ _ ?_
      refine cx_sound _ _ _ _ _ ?_
      refine ⟨.inl rfl, _, rfl, true, rfl, ⟨fun _ => ?_, fun _ => rfl⟩, rfl⟩
      refine iff_lists (by simp; omega) fun j x y hj hx hy => ?_
      rw [List.getElem?_map] at hx hy
      obtain ⟨u, hu, rfl⟩ := Option.map_eq_some_iff.1 hx
      obtain ⟨v, hv, rfl⟩ := Option.map_eq_some_iff.1 hy
      exact heq j u v (by simp at hj; omega) hu hv
    · replace h2 : (i : Int) < (a.length : Int) := of_decide_eq_true h2
      refine AW.cut lo0 st [(0, vS p a.length), (1, vS q b.length), (4, vB false), (5, vI (i : Int)), (14, vB true)] ⟨rfl, rfl, rfl, rfl, rfl, trivial⟩ fun ρ0 => ?_
      have h2' := Int.ofNat_lt.1 h2
      have ⟨b1, o1, k1, x, hpe, hx, hm1, hc1, hb1⟩ := hA.1.atB h2'
      have ⟨b2, o2, k2, y, hqe, hy, hm2, hc2, hb2⟩ := hB.1.atB (j := i) (by omega)
      have hxm := List.mem_of_getElem? hx
      have hym := List.mem_of_getElem? hy
      refine cx_sound _ _ _ _ _ ?_
      refine ⟨_, op_idx (j := (i : Int)) (n := a.length) (q := ⟨b1, o1, none⟩) rfl (congrArg (fun u => vS u a.length) hpe) rfl rfl rfl (Int.natCast_nonneg _) h2, ?_⟩
      refine ⟨_, op_lda rfl rfl rfl rfl rfl hm1 hc1 rfl, ?_⟩
      refine ⟨_, op_idx (j := (i : Int)) (n := b.length) (q := ⟨b2, o2, none⟩) rfl (congrArg (fun u => vS u b.length) hqe) rfl rfl rfl (Int.natCast_nonneg _) (h1 ▸ h2), ?_⟩
      refine ⟨_, op_lda rfl rfl rfl rfl rfl hm2 hc2 rfl, ?_⟩
      refine ⟨_, rfl, (ac_laws_eqState x y st (hA.2 x hxm) (hB.2 y hym) (hb.2 x hxm)).mono ?_⟩
      rintro _ st ⟨c, rfl, h3, rfl⟩
      rcases c with _|_
      · replace h3 := fun k => Bool.false_ne_true (h3.2 k)
        refine ⟨_, rfl, ?_⟩
        refine AW.cut lo0 st [(0, vS p a.length), (1, vS q b.length), (4, vB false), (5, vI (i : Int)), (14, vB true), (26, vB true)] ⟨rfl, rfl, rfl, rfl, rfl, rfl, trivial⟩ fun ρ0 => ?_
        refine cx_sound _ _ _ _ _ ?_
        refine ⟨.inl rfl, _, rfl, false, rfl, ⟨fun h => absurd h Bool.false_ne_true, fun h => absurd ?_ h3⟩, rfl⟩
        have h4 : (a.map (·.x))[i]? = some x.x := by rw [List.getElem?_map, hx]; rfl
        rw [h, List.getElem?_map, hy] at h4
        injection h4 with h4
        exact h4.symm
      · replace h3 := h3.1 rfl
        refine ⟨_, rfl, ?_⟩
        refine AW.cut lo0 st [(0, vS p a.length), (1, vS q b.length), (4, vB false), (5, vI (i : Int)), (14, vB true), (26, vB false)] ⟨rfl, rfl, rfl, rfl, rfl, rfl, trivial⟩ fun ρ0 => ?_
        refine cx_sound _ _ _ _ _ ?_
        have e16 : IntKind.wrap .i64 ((i : Int) + 1) = ((i + 1 : Nat) : Int) := (wrap_i64 (by omega) (by omega)).trans (by omega)
        refine ⟨_, rfl, ?_⟩
        refine ⟨i + 1, a.length - (i + 1), by omega, ⟨rfl, rfl, rfl, congrArg (Value.int .i64) e16, trivial⟩, rfl, rfl, h2', fun j u v hj hu hv => ?_, rfl⟩
        rcases Nat.lt_or_ge j i with h | h
        · exact heq j u v h hu hv
        · obtain rfl : j = i := by omega
          rw [hx] at hu; rw [hy] at hv
          injection hu with hu; injection hv with hv
          rw [← hu, ← hv]; exact h3
  · replace h1 : ¬ ((a.length : Int) = (b.length : Int)) := bne_iff_ne.1 h1
    refine AW.cut lo0 st [(0, vS p a.length), (1, vS q b.length), (4, vB false), (10, vB true)] ⟨rfl, rfl, rfl, rfl, trivial⟩ fun ρ0 => ?_
    refine cx_sound _ _ _ _ _ ?_
    exact ⟨.inl rfl, _, rfl, false, rfl, ⟨fun h => absurd h Bool.false_ne_true, fun h => absurd (by have := congrArg List.length h; simp at this; exact congrArg Nat.cast this) h1⟩, rfl⟩
/-! Logs -/
structure Lg where
  cap : Int
  frm : Int
  list : List Sta
structure LV where
  cap : Int
  frm : Int
  p : Option Addr
  l : List SV
abbrev LV.x (g : LV) : Lg := ⟨g.cap, g.frm, g.l.map (·.x)⟩
abbrev cLV (g : LV) : List Value := [vI g.cap, vI g.frm, vS g.p g.l.length]
theorem ac_laws_szLog (g : LV) (n : Int) (st : St) (hR : RdL st g.p g.l) (h0 : 0 ≤ n) (hn : n ≤ 1048576) (hm : maxL g.l) : C 14 [.agg #[vI g.cap, vI g.frm, vS g.p g.l.length], vI n] st (fun v s => ∃ r, v = vI r ∧ r ≤ n ∧ (0 ≤ r → r + (szL g.l : Int) = n) ∧ s = st) := by
  refine AC.enterX (i := ⟨[2], [2, 5], [0, 1, 2, 4, 10]⟩) [] Try.func14 rfl rfl (by kernel_rfl) (by kernel_rfl) Try.ntmps14 (Nat.le_of_ble_eq_true rfl) rfl ?_
  refine ⟨_, rfl, ?_⟩
  refine AW.cutM (1) st [(1, vI n), (2, vL 2 0 (0)), (4, vI (0))] [(2, 0, [vI g.cap, vI g.frm, vS g.p g.l.length])] ⟨rfl, rfl, rfl, trivial⟩ ⟨rfl, trivial⟩ rfl fun ρ0 ff => ?_
  iterate 2 refine ⟨_, rfl, ?_⟩
  refine ⟨_, rfl, (ac_laws_szStateS g.p g.l n st hR h0 hn hm).mono ?_⟩
  rintro _ st ⟨r, rfl, hr, hz, rfl⟩
  refine AW.cutM (1) st [(1, vI r), (4, vI (0))] [] ⟨rfl, rfl, trivial⟩ trivial rfl fun ρ0 ff => ?_
  refine ⟨_, rfl, ?_⟩
  rintro (_|_) h1
  · replace h1 : ¬ (r < 0) := of_decide_eq_false h1
    refine AW.cutM (1) st [(1, vI r), (4, vI (0)), (10, vB false)] [] ⟨rfl, rfl, rfl, trivial⟩ trivial rfl fun ρ0 ff => ?_
    refine cx_sound _ _ _ _ _ ?_
    refine cx_sound _ _ _ _ _ ?_
    exact ⟨.inl rfl, _, rfl, r, rfl, hr, hz, rfl⟩
  · replace h1 : r < 0 := of_decide_eq_true h1
    refine AW.cutM (1) st [(1, vI r), (4, vI (0)), (10, vB true)] [] ⟨rfl, rfl, rfl, trivial⟩ trivial rfl fun ρ0 ff => ?_
    refine cx_sound _ _ _ _ _ ?_
    exact ⟨.inl rfl, _, rfl, -1, rfl, by omega, fun h => absurd h (by omega), rfl⟩
theorem ac_laws_toLog (g : LV) (st : St) (hR : RdL st g.p g.l) (hb : bigL g.l) : C 16 [.agg #[vI g.cap, vI g.frm, vS g.p g.l.length]] st (fun v s => ∃ u : LV, v = .agg #[vI u.cap, vI u.frm, vS u.p u.l.length] ∧ u.x = g.x ∧ OwnP s (pcL u.p u.l) ∧ NewP st.next (pcL u.p u.l) ∧ Pres st s) := by
  refine AC.enterX (i := ⟨[1, 2, 3], [1, 2, 3, 4, 6, 7, 9, 10, 13], [0, 1, 2, 3]⟩) [] Try.func16 rfl rfl (by kernel_rfl) (by kernel_rfl) Try.ntmps16 (Nat.le_of_ble_eq_true rfl) rfl ?_
  iterate 2 refine ⟨_, rfl, ?_⟩
  refine AW.cutM (2) st [(1, vL 1 0 (0)), (2, vL 2 0 (1))] [(1, 0, [vI g.cap, vI g.frm, vS g.p g.l.length]), (2, 1, [vI 0, vI 0, .slice none 0 0])] ⟨rfl, rfl, trivial⟩ ⟨rfl, rfl, trivial⟩ rfl fun ρ0 ff => ?_
  refine ⟨_, rfl, ?_⟩
  refine AW.cutM (3) st [(1, vL 1 0 (0)), (2, vL 2 0 (1)), (3, vL 3 0 (2))] [(1, 0, [vI g.cap, vI g.frm, vS g.p g.l.length]), (2, 1, [vI 0, vI 0, .slice none 0 0]), (3, 2, [vI 0, vI 0, .slice none 0 0])] ⟨rfl, rfl, rfl, trivial⟩ ⟨rfl, rfl, rfl, trivial⟩ rfl fun ρ0 ff => ?_
  iterate 4 refine ⟨_, rfl, ?_⟩
  refine AW.cutM (3) st [(1, vL 1 0 (0)), (2, vL 2 0 (1)), (3, vL 3 0 (2))] [(1, 0, [vI g.cap, vI g.frm, vS g.p g.l.length]), (2, 1, [vI 0, vI 0, .slice none 0 0]), (3, 2, [vI g.cap, vI 0, .slice none 0 0])] ⟨rfl, rfl, rfl, trivial⟩ ⟨rfl, rfl, rfl, trivial⟩ rfl fun ρ0 ff => ?_
  iterate 4 refine ⟨_, rfl, ?_⟩
  refine AW.cutM (3) st [(1, vL 1 0 (0)), (2, vL 2 0 (1)), (3, vL 3 0 (2))] [(1, 0, [vI g.cap, vI g.frm, vS g.p g.l.length]), (2, 1, [vI 0, vI 0, .slice none 0 0]), (3, 2, [vI g.cap, vI g.frm, .slice none 0 0])] ⟨rfl, rfl, rfl, trivial⟩ ⟨rfl, rfl, rfl, trivial⟩ rfl fun ρ0 ff => ?_
  iterate 2 refine ⟨_, rfl, ?_⟩
  refine ⟨_, rfl, (ac_laws_toStateS g.p g.l st hR hb).mono ?_⟩
  rintro _ s1 ⟨q, u, rfl, hu, hO, hN, hP⟩
  iterate 2 refine ⟨_, rfl, ?_⟩
  refine AW.cutM (3) s1 [(2, vL 2 0 (1)), (3, vL 3 0 (2))] [(2, 1, [vI 0, vI 0, .slice none 0 0]), (3, 2, [vI g.cap, vI g.frm, vS q g.l.length])] ⟨rfl, rfl, trivial⟩ ⟨rfl, rfl, trivial⟩ rfl fun ρ0 ff => ?_
  iterate 2 refine ⟨_, rfl, ?_⟩
  refine cx_sound _ _ _ _ _ ?_
  have hul : u.length = g.l.length := by have := congrArg List.length hu; simpa using this
  exact ⟨.inl rfl, _, rfl, ⟨g.cap, g.frm, q, u⟩, congrArg (fun n => Value.agg #[vI g.cap, vI g.frm, vS q n]) hul.symm, by simp only [LV.x, hu], hO, hN, hP⟩
theorem ac_laws_eqLog (a b : LV) (st : St) (hA : RdL st a.p a.l) (hB : RdL st b.p b.l) (hb : bigL a.l) : C 18 [.agg #[vI a.cap, vI a.frm, vS a.p a.l.length], .agg #[vI b.cap, vI b.frm, vS b.p b.l.length]] st (fun v s => ∃ x, v = .bool x ∧ (x = true ↔ a.x = b.x) ∧ s = st) := by
  refine AC.enterX (i := ⟨[2, 3], [2, 3, 5, 7, 10, 12, 15, 17], [0, 1, 2, 3, 4, 9, 14, 20]⟩) [] Try.func18 rfl rfl (by kernel_rfl) (by kernel_rfl) Try.ntmps18 (Nat.le_of_ble_eq_true rfl) rfl ?_
  iterate 2 refine ⟨_, rfl, ?_⟩
  refine AW.cutM (2) st [(2, vL 2 0 (0)), (3, vL 3 0 (1)), (4, vB false)] [(2, 0, [vI a.cap, vI a.frm, vS a.p a.l.length]), (3, 1, [vI b.cap, vI b.frm, vS b.p b.l.length])] ⟨rfl, rfl, rfl, trivial⟩ ⟨rfl, rfl, trivial⟩ rfl fun ρ0 ff => ?_
  iterate 5 refine ⟨_, rfl, ?_⟩
  rintro (_|_) h1
  · replace h1 : a.cap = b.cap := bne_eq_false_iff_eq.1 h1
    refine AW.cutM (2) st [(2, vL 2 0 (0)), (3, vL 3 0 (1)), (4, vB false), (9, vB false)] [(2, 0, [vI a.cap, vI a.frm, vS a.p a.l.length]), (3, 1, [vI b.cap, vI b.frm, vS b.p b.l.length])] ⟨rfl, rfl, rfl, rfl, trivial⟩ ⟨rfl, rfl, trivial⟩ rfl fun ρ0 ff => ?_
    refine cx_sound _ _ _ _ _ ?_
    iterate 5 refine ⟨_, rfl, ?_⟩
    rintro (_|_) h2
    · replace h2 : a.frm = b.frm := bne_eq_false_iff_eq.1 h2
      refine AW.cutM (2) st [(2, vL 2 0 (0)), (3, vL 3 0 (1)), (4, vB false), (14, vB false)] [(2, 0, [vI a.cap, vI a.frm, vS a.p a.l.length]), (3, 1, [vI b.cap, vI b.frm, vS b.p b.l.length])] ⟨rfl, rfl, rfl, rfl, trivial⟩ ⟨rfl, rfl, trivial⟩ rfl fun ρ0 ff => ?_
      refine cx_sound _ _ _ _ _ ?_
      iterate 4 refine ⟨_, rfl, ?_⟩
      refine ⟨_, rfl, (ac_laws_eqStateS a.p b.p a.l b.l st hA hB hb).mono ?_⟩
      rintro _ st ⟨c, rfl, h3, rfl⟩
      rcases c with _|_
      · replace h3 := fun k => Bool.false_ne_true (h3.2 k)
        refine ⟨_, rfl, ?_⟩
        refine AW.cutM (2) st [(4, vB false), (20, vB true)] [] ⟨rfl, rfl, trivial⟩ trivial rfl fun ρ0 ff => ?_
        refine cx_sound _ _ _ _ _ ?_
        exact ⟨.inl rfl, _, rfl, false, rfl, ⟨fun h => absurd h Bool.false_ne_true, fun h => absurd (congrArg Lg.list h) h3⟩, rfl⟩
      · replace h3 := h3.1 rfl
        refine ⟨_, rfl, ?_⟩
        refine AW.cutM (2) st [(4, vB false), (20, vB false)] [] ⟨rfl, rfl, trivial⟩ trivial rfl fun ρ0 ff => ?_
        refine cx_sound _ _ _ _ _ ?_
        refine cx_sound _ _ _ _ _ ?_
        exact ⟨.inl rfl, _, rfl, true, rfl, ⟨fun _ => by simp only [LV.x, h1, h2, h3], fun _ => rfl⟩, rfl⟩
    · replace h2 : ¬ (a.frm = b.frm) := bne_iff_ne.1 h2
      refine AW.cutM (2) st [(2, vL 2 0 (0)), (3, vL 3 0 (1)), (4, vB false), (14, vB true)] [(2, 0, [vI a.cap, vI a.frm, vS a.p a.l.length]), (3, 1, [vI b.cap, vI b.frm, vS b.p b.l.length])] ⟨rfl, rfl, rfl, rfl, trivial⟩ ⟨rfl, rfl, trivial⟩ rfl fun ρ0 ff => ?_
      refine cx_sound _ _ _ _ _ ?_
      exact ⟨.inl rfl, _, rfl, false, rfl, ⟨fun h => absurd h Bool.false_ne_true, fun h => absurd (congrArg Lg.frm h) h2⟩, rfl⟩
  · replace h1 : ¬ (a.cap = b.cap) := bne_iff_ne.1 h1
    refine AW.cutM (2) st [(2, vL 2 0 (0)), (3, vL 3 0 (1)), (4, vB false), (9, vB true)] [(2, 0, [vI a.cap, vI a.frm, vS a.p a.l.length]), (3, 1, [vI b.cap, vI b.frm, vS b.p b.l.length])] ⟨rfl, rfl, rfl, rfl, trivial⟩ ⟨rfl, rfl, trivial⟩ rfl fun ρ0 ff => ?_
    refine cx_sound _ _ _ _ _ ?_
    exact ⟨.inl rfl, _, rfl, false, rfl, ⟨fun h => absurd h Bool.false_ne_true, fun h => absurd (congrArg Lg.cap h) h1⟩, rfl⟩
def logOk (g : Lg) : Prop := (1 ≤ g.cap ∧ g.cap ≤ 8) ∧ (g.list.length : Int) ≤ g.cap ∧ (0 ≤ g.frm ∧ g.frm ≤ 100000) ∧ g.frm + (g.list.length : Int) ≤ 100000 ∧ ∀ s ∈ g.list, stateOk s
theorem states_of {l : List SV} {P : Sta → Prop} (h : ∀ s ∈ l.map (·.x), P s) {i : Nat} {s : SV} (hs : l[i]? = some s) : P s.x := h _ (List.mem_map_of_mem (List.mem_of_getElem? hs))
theorem states_to {l : List SV} {P : Sta → Prop} (h : ∀ (j : Nat) s, l[j]? = some s → P s.x) : ∀ s ∈ l.map (·.x), P s := fun s hs => by
  obtain ⟨r, hr, rfl⟩ := List.mem_map.1 hs
  obtain ⟨i, hi⟩ := List.getElem?_of_mem hr
  exact h i r hi
theorem ac_spec_LogOk (g : LV) (st : St) (hR : RdL st g.p g.l) (hb : bigL g.l) : C 65 [.agg #[vI g.cap, vI g.frm, vS g.p g.l.length]] st (fun v s => ∃ x, v = .bool x ∧ (x = true ↔ logOk g.x) ∧ s = st) := by
  have hs : g.l.length ≤ 1048576 := hb.1
  have hgl : g.x.list.length = g.l.length := List.length_map _
  refine AC.enterX (i := ⟨[1], [1, 4, 9, 12, 17, 23, 25, 32, 38], [0, 1, 2, 3, 30, 35, 44]⟩) [] Try.func65 rfl rfl (by kernel_rfl) (by kernel_rfl) Try.ntmps65 (Nat.le_of_ble_eq_true rfl) rfl ?_
  refine ⟨_, rfl, ?_⟩
  refine AW.cutM (1) st [(1, vL 1 0 (0)), (2, vB false)] [(1, 0, [vI g.cap, vI g.frm, vS g.p g.l.length])] ⟨rfl, rfl, trivial⟩ ⟨rfl, trivial⟩ rfl fun ρ0 ff => ?_
  iterate 2 refine ⟨_, rfl, ?_⟩
  refine ⟨_, rfl, (ac_spec_l1In g.cap 1 8 st).mono ?_⟩
  rintro _ st ⟨a, rfl, h1, rfl⟩
  rcases a with _|_
  · replace h1 := of_decide_eq_false h1.symm
    iterate 4 refine ⟨_, rfl, ?_⟩
    refine AW.cutM (1) st [(1, vL 1 0 (0)), (2, vB false), (30, vB true)] [(1, 0, [vI g.cap, vI g.frm, vS g.p g.l.length])] ⟨rfl, rfl, rfl, trivial⟩ ⟨rfl, trivial⟩ rfl fun ρ0 ff => ?_
    refine cx_sound _ _ _ _ _ ?_
    exact ⟨.inl rfl, _, rfl, false, rfl, ⟨fun h => absurd h Bool.false_ne_true, fun h => absurd h.1 h1⟩, rfl⟩
  · replace h1 := of_decide_eq_true h1.symm
    iterate 7 refine ⟨_, rfl, ?_⟩
    rintro (_|_) h2
    · replace h2 : ¬ ((g.l.length : Int) > g.cap) := of_decide_eq_false h2
      iterate 3 refine ⟨_, rfl, ?_⟩
      refine ⟨_, rfl, (ac_spec_l1In g.frm 0 100000 st).mono ?_⟩
      rintro _ st ⟨b, rfl, h3, rfl⟩
      rcases b with _|_
      · replace h3 := of_decide_eq_false h3.symm
        iterate 3 refine ⟨_, rfl, ?_⟩
        refine AW.cutM (1) st [(1, vL 1 0 (0)), (2, vB false), (30, vB true)] [(1, 0, [vI g.cap, vI g.frm, vS g.p g.l.length])] ⟨rfl, rfl, rfl, trivial⟩ ⟨rfl, trivial⟩ rfl fun ρ0 ff => ?_
        refine cx_sound _ _ _ _ _ ?_
        exact ⟨.inl rfl, _, rfl, false, rfl, ⟨fun h => absurd h Bool.false_ne_true, fun h => absurd h.2.2.1 h3⟩, rfl⟩
      · replace h3 := of_decide_eq_true h3.symm
        iterate 9 refine ⟨_, rfl, ?_⟩
        rintro (_|_) h4
        · replace h4 : ¬ (IntKind.wrap .i64 (g.frm + (g.l.length : Int)) > 100000) := of_decide_eq_false h4
          refine ⟨_, rfl, ?_⟩
          refine AW.cutM (1) st [(1, vL 1 0 (0)), (2, vB false), (30, vB false)] [(1, 0, [vI g.cap, vI g.frm, vS g.p g.l.length])] ⟨rfl, rfl, rfl, trivial⟩ ⟨rfl, trivial⟩ rfl fun ρ0 ff => ?_
          have e28 : IntKind.wrap .i64 (g.frm + (g.l.length : Int)) = g.frm + (g.l.length : Int) := wrap_i64 (by omega) (by omega)
          rw [e28] at h4
          refine cx_sound _ _ _ _ _ ?_
          refine AW.cutM (1) st [(1, vL 1 0 (0)), (2, vB false), (3, vI (0))] [(1, 0, [vI g.cap, vI g.frm, vS g.p g.l.length])] ⟨rfl, rfl, rfl, trivial⟩ ⟨rfl, trivial⟩ rfl fun ρ0 ff => ?_
          refine AW.loopM (fun i : Nat => [(1, vL 1 0 (0)), (3, vI (i : Int))]) (fun i : Nat => [(1, 0, [vI g.cap, vI g.frm, vS g.p g.l.length])]) (fun m (i : Nat) st' => m = g.l.length - i ∧ i ≤ g.l.length ∧ (∀ (j : Nat) s, j < i → g.l[j]? = some s → stateOk s.x) ∧ st = st') 0 _ ⟨rfl, rfl, trivial⟩ ⟨rfl, trivial⟩ ⟨rfl, Nat.zero_le _, fun j s h => absurd h (Nat.not_lt_zero _), rfl⟩ ?_
          rintro m i ρ0 ff gg st' ⟨rfl, hi, hok, rfl⟩
          refine ⟨_, rfl, ?_⟩
          refine ⟨_, op_ldo rfl rfl rfl rfl, ?_⟩
          iterate 2 refine ⟨_, rfl, ?_⟩
          rintro (_|_) h5
          · replace h5 : ¬ ((i : Int) < (g.l.length : Int)) := of_decide_eq_false h5
            refine AW.cutM (gg) st [(1, vL 1 0 (0)), (3, vI (i : Int)), (35, vB false)] [(1, 0, [vI g.cap, vI g.frm, vS g.p g.l.length])] ⟨rfl, rfl, rfl, trivial⟩ ⟨rfl, trivial⟩ rfl fun ρ0 ff => ?_
            refine cx_sound _ _ _ _ _ ?_
            refine cx_sound _ _ _ _ _ ?_
            refine ⟨.inl rfl, _, rfl, true, rfl, ⟨fun _ => ⟨h1, by rw [hgl]; show (g.l.length : Int) ≤ g.cap; omega, h3, by rw [hgl]; show g.frm + (g.l.length : Int) ≤ 100000; omega, states_to fun j s hs => hok j s (by have := (List.getElem?_eq_some_iff.1 hs).1; omega) hs⟩, fun _ => rfl⟩, rfl⟩
          · replace h5 : (i : Int) < (g.l.length : Int) := of_decide_eq_true h5
            refine AW.cutM (gg) st [(1, vL 1 0 (0)), (3, vI (i : Int)), (35, vB true)] [(1, 0, [vI g.cap, vI g.frm, vS g.p g.l.length])] ⟨rfl, rfl, rfl, trivial⟩ ⟨rfl, trivial⟩ rfl fun ρ0 ff => ?_
            have h5' := Int.ofNat_lt.1 h5
            have ⟨b1, o1, k1, r, hpe, hr1, hm1, hc1⟩ := hR.1.at h5'
            have hmem := List.mem_of_getElem? hr1
            refine cx_sound _ _ _ _ _ ?_
            refine ⟨_, rfl, ?_⟩
            refine ⟨_, op_ldo rfl rfl rfl rfl, ?_⟩
            refine ⟨_, op_idx (j := (i : Int)) (n := g.l.length) (q := ⟨b1, o1, none⟩) rfl (congrArg (fun u => vS u g.l.length) hpe) rfl rfl rfl (Int.natCast_nonneg _) h5, ?_⟩
            refine ⟨_, op_lda rfl rfl rfl rfl rfl hm1 hc1 rfl, ?_⟩
            refine ⟨_, rfl, (ac_spec_StateOk r st (hR.2 r hmem) (hb.2 r hmem)).mono ?_⟩
            rintro _ st ⟨c, rfl, h6, rfl⟩
            rcases c with _|_
            · replace h6 := fun k => Bool.false_ne_true (h6.2 k)
              refine ⟨_, rfl, ?_⟩
              refine AW.cutM (gg) st [(1, vL 1 0 (0)), (3, vI (i : Int)), (35, vB true), (44, vB true)] [(1, 0, [vI g.cap, vI g.frm, vS g.p g.l.length])] ⟨rfl, rfl, rfl, rfl, trivial⟩ ⟨rfl, trivial⟩ rfl fun ρ0 ff => ?_
              refine cx_sound _ _ _ _ _ ?_
              exact ⟨.inl rfl, _, rfl, false, rfl, ⟨fun h => absurd h Bool.false_ne_true, fun h => absurd (states_of h.2.2.2.2 hr1) h6⟩, rfl⟩
            · replace h6 := h6.1 rfl
              refine ⟨_, rfl, ?_⟩
              refine AW.cutM (gg) st [(1, vL 1 0 (0)), (3, vI (i : Int)), (35, vB true), (44, vB false)] [(1, 0, [vI g.cap, vI g.frm, vS g.p g.l.length])] ⟨rfl, rfl, rfl, rfl, trivial⟩ ⟨rfl, trivial⟩ rfl fun ρ0 ff => ?_
              refine cx_sound _ _ _ _ _ ?_
              have e37 : IntKind.wrap .i64 ((i : Int) + 1) = ((i + 1 : Nat) : Int) := (wrap_i64 (by omega) (by omega)).trans (by omega)
              refine ⟨_, rfl, ?_⟩
              refine ⟨i + 1, g.l.length - (i + 1), by omega, ⟨rfl, congrArg (Value.int .i64) e37, trivial⟩, ⟨rfl, trivial⟩, rfl, h5', fun j s hj hs => ?_, rfl⟩
              rcases Nat.lt_or_ge j i with h | h
              · exact hok j s h hs
              · obtain rfl : j = i := by omega
                rw [hr1] at hs
                injection hs with hs
                rw [← hs]; exact h6
        · replace h4 : IntKind.wrap .i64 (g.frm + (g.l.length : Int)) > 100000 := of_decide_eq_true h4
          refine ⟨_, rfl, ?_⟩
          refine AW.cutM (1) st [(1, vL 1 0 (0)), (2, vB false), (30, vB true)] [(1, 0, [vI g.cap, vI g.frm, vS g.p g.l.length])] ⟨rfl, rfl, rfl, trivial⟩ ⟨rfl, trivial⟩ rfl fun ρ0 ff => ?_
          have e28 : IntKind.wrap .i64 (g.frm + (g.l.length : Int)) = g.frm + (g.l.length : Int) := wrap_i64 (by omega) (by omega)
          rw [e28] at h4
          refine cx_sound _ _ _ _ _ ?_
          exact ⟨.inl rfl, _, rfl, false, rfl, ⟨fun h => absurd h Bool.false_ne_true, fun h => absurd h.2.2.2.1 (by rw [hgl]; show ¬ g.frm + (g.l.length : Int) ≤ 100000; omega)⟩, rfl⟩
    · replace h2 : (g.l.length : Int) > g.cap := of_decide_eq_true h2
      iterate 3 refine ⟨_, rfl, ?_⟩
      refine AW.cutM (1) st [(1, vL 1 0 (0)), (2, vB false), (30, vB true)] [(1, 0, [vI g.cap, vI g.frm, vS g.p g.l.length])] ⟨rfl, rfl, rfl, trivial⟩ ⟨rfl, trivial⟩ rfl fun ρ0 ff => ?_
      refine cx_sound _ _ _ _ _ ?_
      exact ⟨.inl rfl, _, rfl, false, rfl, ⟨fun h => absurd h Bool.false_ne_true, fun h => absurd h.2.1 (by rw [hgl]; show ¬ (g.l.length : Int) ≤ g.cap; omega)⟩, rfl⟩
theorem ac_impl_LogOk (g : LV) (st : St) (hR : RdL st g.p g.l) (hb : bigL g.l) : C 67 [.agg #[vI g.cap, vI g.frm, vS g.p g.l.length]] st (fun v s => ∃ x, v = .bool x ∧ (x = true ↔ logOk g.x) ∧ s = st) := by
  have hs : g.l.length ≤ 1048576 := hb.1
  have hgl : g.x.list.length = g.l.length := List.length_map _
  refine AC.enterX (i := ⟨[1, 4], [1, 4, 5, 16, 20, 23, 28, 33, 35], [0, 1, 2, 4, 6, 7, 8, 9, 14]⟩) [] Try.func67 rfl rfl (by kernel_rfl) (by kernel_rfl) Try.ntmps67 (Nat.le_of_ble_eq_true rfl) rfl ?_
  refine ⟨_, rfl, ?_⟩
  refine AW.cutM (1) st [(1, vL 1 0 (0)), (2, vB false)] [(1, 0, [vI g.cap, vI g.frm, vS g.p g.l.length])] ⟨rfl, rfl, trivial⟩ ⟨rfl, trivial⟩ rfl fun ρ0 ff => ?_
  iterate 3 refine ⟨_, rfl, ?_⟩
  refine AW.cutM (1) st [(1, vL 1 0 (0)), (2, vB false), (6, vS g.p g.l.length), (7, vI (g.l.length)), (8, vI (0))] [(1, 0, [vI g.cap, vI g.frm, vS g.p g.l.length])] ⟨rfl, rfl, rfl, rfl, rfl, trivial⟩ ⟨rfl, trivial⟩ rfl fun ρ0 ff => ?_
  refine AW.loopM (fun i : Nat => [(1, vL 1 0 (0)), (6, vS g.p g.l.length), (7, vI (g.l.length : Int)), (8, vI (i : Int))]) (fun i : Nat => [(1, 0, [vI g.cap, vI g.frm, vS g.p g.l.length])]) (fun m (i : Nat) st' => m = g.l.length - i ∧ i ≤ g.l.length ∧ (∀ (j : Nat) s, j < i → g.l[j]? = some s → stateOk s.x) ∧ st = st') 0 _ ⟨rfl, rfl, rfl, rfl, trivial⟩ ⟨rfl, trivial⟩ ⟨rfl, Nat.zero_le _, fun j s h => absurd h (Nat.not_lt_zero _), rfl⟩ ?_
  rintro m i ρ0 ff gg st' ⟨rfl, hi, hok, rfl⟩
  refine ⟨_, rfl, ?_⟩
  rintro (_|_) h5
  · replace h5 : ¬ ((i : Int) < (g.l.length : Int)) := of_decide_eq_false h5
    refine AW.cutM (gg) st [(1, vL 1 0 (0)), (6, vS g.p g.l.length), (7, vI (g.l.length : Int)), (8, vI (i : Int)), (9, vB false)] [(1, 0, [vI g.cap, vI g.frm, vS g.p g.l.length])] ⟨rfl, rfl, rfl, rfl, rfl, trivial⟩ ⟨rfl, trivial⟩ rfl fun ρ0 ff => ?_
    refine cx_sound _ _ _ _ _ ?_
    refine ⟨_, rfl, ?_⟩
    refine ⟨_, op_ldo rfl rfl rfl rfl, ?_⟩
    refine ⟨_, rfl, (ac_impl_within g.cap 1 8 st).mono ?_⟩
    rintro _ st ⟨a, rfl, h1, rfl⟩
    rcases a with _|_
    · replace h1 := of_decide_eq_false h1.symm
      iterate 3 refine ⟨_, rfl, ?_⟩
      refine cx_sound _ _ _ _ _ ?_
      exact ⟨.inl rfl, _, rfl, false, rfl, ⟨fun h => absurd h Bool.false_ne_true, fun h => absurd h.1 h1⟩, rfl⟩
    · replace h1 := of_decide_eq_true h1.symm
      refine ⟨_, rfl, ?_⟩
      refine ⟨_, op_ldo rfl rfl rfl rfl, ?_⟩
      iterate 2 refine ⟨_, rfl, ?_⟩
      refine ⟨_, op_ldo rfl rfl rfl rfl, ?_⟩
      refine ⟨_, rfl, ?_⟩
      rintro (_|_) h2
      · replace h2 : ¬ ((g.l.length : Int) ≤ g.cap) := of_decide_eq_false h2
        iterate 3 refine ⟨_, rfl, ?_⟩
        refine cx_sound _ _ _ _ _ ?_
        exact ⟨.inl rfl, _, rfl, false, rfl, ⟨fun h => absurd h Bool.false_ne_true, fun h => absurd h.2.1 (by rw [hgl]; exact h2)⟩, rfl⟩
      · replace h2 : (g.l.length : Int) ≤ g.cap := of_decide_eq_true h2
        iterate 2 refine ⟨_, rfl, ?_⟩
        refine ⟨_, op_ldo rfl rfl rfl rfl, ?_⟩
        refine ⟨_, rfl, (ac_impl_within g.frm 0 100000 st).mono ?_⟩
        rintro _ st ⟨b, rfl, h3, rfl⟩
        rcases b with _|_
        · replace h3 := of_decide_eq_false h3.symm
          iterate 2 refine ⟨_, rfl, ?_⟩
          refine cx_sound _ _ _ _ _ ?_
          exact ⟨.inl rfl, _, rfl, false, rfl, ⟨fun h => absurd h Bool.false_ne_true, fun h => absurd h.2.2.1 h3⟩, rfl⟩
        · replace h3 := of_decide_eq_true h3.symm
          iterate 2 refine ⟨_, rfl, ?_⟩
          refine ⟨_, op_ldo rfl rfl rfl rfl, ?_⟩
          refine ⟨_, rfl, ?_⟩
          refine ⟨_, op_ldo rfl rfl rfl rfl, ?_⟩
          refine ⟨_, rfl, ?_⟩
          have e38 : IntKind.wrap .i64 (g.frm + (g.l.length : Int)) = g.frm + (g.l.length : Int) := wrap_i64 (by omega) (by omega)
          iterate 2 refine ⟨_, rfl, ?_⟩
          rintro (_|_) h4
          · replace h4 : ¬ (IntKind.wrap .i64 (g.frm + (g.l.length : Int)) ≤ 100000) := of_decide_eq_false h4
            refine ⟨_, rfl, ?_⟩
            refine cx_sound _ _ _ _ _ ?_
            exact ⟨.inl rfl, _, rfl, false, rfl, ⟨fun h => absurd h Bool.false_ne_true, fun h => absurd h.2.2.2.1 (by rw [hgl, ← e38]; exact h4)⟩, rfl⟩
          · replace h4 : IntKind.wrap .i64 (g.frm + (g.l.length : Int)) ≤ 100000 := of_decide_eq_true h4
            refine ⟨_, rfl, ?_⟩
            refine cx_sound _ _ _ _ _ ?_
            exact ⟨.inl rfl, _, rfl, true, rfl, ⟨fun _ => ⟨h1, by rw [hgl]; exact h2, h3, by rw [hgl, ← e38]; exact h4, states_to fun j s hs => hok j s (by have := (List.getElem?_eq_some_iff.1 hs).1; omega) hs⟩, fun _ => rfl⟩, rfl⟩
  · replace h5 : (i : Int) < (g.l.length : Int) := of_decide_eq_true h5
    refine AW.cutM (gg) st [(1, vL 1 0 (0)), (6, vS g.p g.l.length), (7, vI (g.l.length : Int)), (8, vI (i : Int)), (9, vB true)] [(1, 0, [vI g.cap, vI g.frm, vS g.p g.l.length])] ⟨rfl, rfl, rfl, rfl, rfl, trivial⟩ ⟨rfl, trivial⟩ rfl fun ρ0 ff => ?_
    have h5' := Int.ofNat_lt.1 h5
    have ⟨b1, o1, k1, r, hpe, hr1, hm1, hc1⟩ := hR.1.at h5'
    have hmem := List.mem_of_getElem? hr1
    refine cx_sound _ _ _ _ _ ?_
    refine ⟨_, op_idx (j := (i : Int)) (n := g.l.length) (q := ⟨b1, o1, none⟩) rfl (congrArg (fun u => vS u g.l.length) hpe) rfl rfl rfl (Int.natCast_nonneg _) h5, ?_⟩
    refine ⟨_, op_lda rfl rfl rfl rfl rfl hm1 hc1 rfl, ?_⟩
    refine ⟨_, rfl, ?_⟩
    refine ⟨_, op_sto rfl rfl rfl rfl rfl rfl rfl, ?_⟩
    refine AW.cutM (gg + 1) st [(1, vL 1 0 (0)), (4, vL 4 0 (gg)), (6, vS g.p g.l.length), (7, vI (g.l.length : Int)), (8, vI (i : Int)), (9, vB true)] [(1, 0, [vI g.cap, vI g.frm, vS g.p g.l.length]), (4, gg, [vS r.p r.x.items.length, vS r.q r.x.floors.length])] ⟨rfl, rfl, rfl, rfl, rfl, rfl, trivial⟩ ⟨rfl, rfl, trivial⟩ rfl fun ρ0 ff => ?_
    refine ⟨_, op_ldo rfl rfl rfl rfl, ?_⟩
    refine ⟨_, rfl, (ac_impl_StateOk r st (hR.2 r hmem) (hb.2 r hmem)).mono ?_⟩
    rintro _ st ⟨c, rfl, h6, rfl⟩
    rcases c with _|_
    · replace h6 := fun k => Bool.false_ne_true (h6.2 k)
      refine ⟨_, rfl, ?_⟩
      refine AW.cutM (gg + 1) st [(1, vL 1 0 (0)), (4, vL 4 0 (gg)), (6, vS g.p g.l.length), (7, vI (g.l.length : Int)), (8, vI (i : Int)), (9, vB true), (14, vB true)] [(1, 0, [vI g.cap, vI g.frm, vS g.p g.l.length]), (4, gg, [vS r.p r.x.items.length, vS r.q r.x.floors.length])] ⟨rfl, rfl, rfl, rfl, rfl, rfl, rfl, trivial⟩ ⟨rfl, rfl, trivial⟩ rfl fun ρ0 ff => ?_
      refine cx_sound _ _ _ _ _ ?_
      exact ⟨.inl rfl, _, rfl, false, rfl, ⟨fun h => absurd h Bool.false_ne_true, fun h => absurd (states_of h.2.2.2.2 hr1) h6⟩, rfl⟩
    · replace h6 := h6.1 rfl
      refine ⟨_, rfl, ?_⟩
      refine AW.cutM (gg + 1) st [(1, vL 1 0 (0)), (4, vL 4 0 (gg)), (6, vS g.p g.l.length), (7, vI (g.l.length : Int)), (8, vI (i : Int)), (9, vB true), (14, vB false)] [(1, 0, [vI g.cap, vI g.frm, vS g.p g.l.length]), (4, gg, [vS r.p r.x.items.length, vS r.q r.x.floors.length])] ⟨rfl, rfl, rfl, rfl, rfl, rfl, rfl, trivial⟩ ⟨rfl, rfl, trivial⟩ rfl fun ρ0 ff => ?_
      refine cx_sound _ _ _ _ _ ?_
      have e15 : IntKind.wrap .i64 ((i : Int) + 1) = ((i + 1 : Nat) : Int) := (wrap_i64 (by omega) (by omega)).trans (by omega)
      refine ⟨_, rfl, ?_⟩
      refine ⟨i + 1, g.l.length - (i + 1), by omega, ⟨rfl, rfl, rfl, congrArg (Value.int .i64) e15, trivial⟩, ⟨rfl, trivial⟩, rfl, h5', fun j s hj hs => ?_, rfl⟩
      rcases Nat.lt_or_ge j i with h | h
      · exact hok j s h hs
      · obtain rfl : j = i := by omega
        rw [hr1] at hs
        injection hs with hs
        rw [← hs]; exact h6
theorem bigL_of {u l : List SV} (h : u.map (·.x) = l.map (·.x)) (hb : bigL l) : bigL u := by
  have hl := congrArg List.length h
  simp only [List.length_map] at hl
  refine ⟨by rw [hl]; exact hb.1, fun s hs => ?_⟩
  have : s.x ∈ l.map (·.x) := by rw [← h]; exact List.mem_map_of_mem hs
  obtain ⟨r, hr, he⟩ := List.mem_map.1 this
  rw [← he]; exact hb.2 r hr
end Go.Proofs.Ytopcpcoklgepnaa.AM
