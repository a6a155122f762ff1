/- Contracts of texts' bytes, of leaves, of trees copied and of their roots. -/
import Derived.Test.YtopcpcoklgepnaaB1
import Derived.Test.YtopcpcoklgepnaaV0
namespace Go.Proofs.Ytopcpcoklgepnaa.AM
open Go Go.Proofs
set_option linter.unusedVariables false
set_option linter.unusedSimpArgs false
set_option maxRecDepth 100000
set_option maxHeartbeats 4000000
def bsl (s : ByteArray) : List Int := s.data.toList.map fun b => (b.toNat : Int)
theorem bsl_len (s : ByteArray) : (bsl s).length = s.size := by rw [bsl, List.length_map, Array.length_toList]; rfl
theorem bsl_ok (s : ByteArray) : bytesOk (bsl s) := fun x hx => by
  obtain ⟨b, _, rfl⟩ := List.mem_map.1 hx
  have := b.toNat_lt
  omega
theorem fb_map : ∀ l : List UInt8, (l.map fun b => (b.toNat : Int)).flatMap fB = l.map fun b => Value.int .u8 b.toNat
  | [] => rfl
  | b :: l => by rw [List.map_cons, List.flatMap_cons, fb_map l]; rfl
section
variable {P : Program} {ls : List Tmp} {call : ACallT} {o : Oper} {e : Operand → Value} {lo : Lo} {st : St} {K : Value × Lo × St → Prop}
theorem op_bytes {src dst el : TypeId} {x : Operand} {s : ByteArray} (ho : o.op = .convert src dst x) (hx : e x = .string s) (hd : telem P dst = some el) (h1 : tint P el = some .u8) (h2 : tstr P src = true) (hs : s.size ≤ maxLen)
    (hK : ∀ q st', OwnR st' 1 fB q (bsl s) → Pres st st' → New st.next q → K (.slice q (bsl s).length (bsl s).length, lo, st')) : ∃ r, aoper P ls call o e lo st = some r ∧ K r := by
  obtain ⟨d, op, ty, pos, after, gd⟩ := o
  simp only at ho
  subst ho
  refine ⟨_, ?_, hK (some ⟨st.next, 0, none⟩) (st.push 1 ((bsl s).flatMap fB)) OwnR.push Pres.push New.self⟩
  simp only [aoper, hd, abytesOf, hx]
  rw [if_pos ⟨h1, h2, hs⟩, bsl_len, show (bsl s).flatMap fB = s.data.toList.map (fun b => Value.int .u8 b.toNat) from fb_map _]
/-- A literal of rows. -/
theorem op_litR {t el : TypeId} {n : Nat} {ps : Array (Nat × Operand)} {u : Value} (l : List RV) (ho : o.op = .buildSlice t n ps) (hp : parts e ps = mkp 0 (l.map fun r => vS r.p r.l.length)) (hn : n = l.length) (h0 : 0 < n) (he : telem P t = some el) (hz : tsize P el = some 1) (hz0 : tzero P el = some [u]) (hsz : n ≤ 16777216)
    (hK : ∀ q st', OwnR st' 1 cRV q l → Pres st st' → New st.next q → K (.slice q n n, lo, st')) : ∃ r, aoper P ls call o e lo st = some r ∧ K r := by
  refine op_lit ho hp (by rw [hn, List.length_map]) h0 he hz hz0 Nat.one_pos rfl (by omega) (fun v hv => ?_) ?_
  · obtain ⟨r, _, rfl⟩ := List.mem_map.1 hv
    exact ⟨rfl, rfl⟩
  · rw [show (l.map fun r => vS r.p r.l.length).flatMap (fun v => v.cells.toList) = l.flatMap cRV by rw [List.flatMap_map]; rfl]
    exact hK _ _ OwnR.push Pres.push New.self
end
def putS (s : ByteArray) : List Int := putN s.size ++ bsl s
theorem putS_len (s : ByteArray) : (putS s).length ≤ 5 + s.size := by
  have := putN_len s.size
  rw [putS, List.length_append, bsl_len]
  omega
theorem putS_ok (s : ByteArray) : bytesOk (putS s) := (putN_ok _).app (bsl_ok s)
theorem cat_new {st0 st : St} {p q : Option Addr} {A B : Prop} {m : Nat} (hP : Pres st0 st) (hN : New st0.next p) (h : (q = p ∧ A ∧ B) ∨ (0 < m ∧ New st.next q)) : New st0.next q := by
  rcases h with ⟨h, _⟩ | ⟨_, h⟩
  · rw [h]; exact hN
  · exact h.le hP.1
theorem ac_spec_PutText (s : ByteArray) (st : St) (hs : s.size ≤ 1048576) : C 178 [.string s] st (fun v s' => ∃ q, v = vS q (putS s).length ∧ OwnR s' 1 fB q (putS s) ∧ New st.next q ∧ Pres st s') := by
  have hsl := bsl_len s
  have hpl := putN_len s.size
  refine AC.enterX (i := ⟨[], [], [0, 2]⟩) [] Try.func178 rfl rfl (by kernel_rfl) (by kernel_rfl) Try.ntmps178 (Nat.le_of_ble_eq_true rfl) rfl ?_
  refine AW.cut lo0 st [(0, .string s), (2, .slice none 0 0)] ⟨rfl, rfl, trivial⟩ fun ρ0 => ?_
  refine ⟨_, rfl, ?_⟩
  refine ⟨_, rfl, (ac_spec_PutNum (s.size : Int) st).mono ?_⟩
  rintro _ s5 ⟨q5, rfl, hO5, hN5, hP5⟩
  refine op_bytes (s := s) rfl rfl rfl rfl rfl (by unfold maxLen; omega) ?_
  intro q7 s7 hO7 hP7 hN7
  refine op_cat' (z := 1) (st := s7) (f := fB) (b := 1) (l := putN (s.size : Int)) (l2 := bsl s) rfl rfl rfl rfl rfl rfl rfl (by decide) fB_len rfl rfl rfl rfl (by first | omega | (simp only [List.length_nil]; omega)) (by unfold maxLen; first | omega | (simp only [List.length_nil]; omega)) (hP7.ownR hO5) (hO7.rows fB_len) ?_
  intro q8 s8 hO8 hPr8 hN8
  refine cx_sound _ _ _ _ _ ?_
  exact ⟨.inl rfl, _, rfl, q8, rfl, hO8, cat_new (hP5.trans hP7) hN5 hN8, hPr8.pres (hP5.trans hP7) hN5⟩
theorem ac_impl_PutText (s : ByteArray) (st : St) (hs : s.size ≤ 1048576) : C 180 [.string s] st (fun v s' => ∃ q, v = vS q (putS s).length ∧ OwnR s' 1 fB q (putS s) ∧ New st.next q ∧ Pres st s') := by
  have hsl := bsl_len s
  have hpl := putN_len s.size
  have hf : fl [⟨none, putN s.size⟩, ⟨none, bsl s⟩] = putS s := by simp [fl, putS]
  refine AC.enterX (i := ⟨[], [], [0, 2]⟩) [] Try.func180 rfl rfl (by kernel_rfl) (by kernel_rfl) Try.ntmps180 (Nat.le_of_ble_eq_true rfl) rfl ?_
  refine AW.cut lo0 st [(0, .string s), (2, .slice none 0 0)] ⟨rfl, rfl, trivial⟩ fun ρ0 => ?_
  refine ⟨_, rfl, ?_⟩
  refine ⟨_, rfl, (ac_impl_PutNum (s.size : Int) st).mono ?_⟩
  rintro _ s5 ⟨q5, rfl, hO5, hN5, hP5⟩
  refine op_bytes (s := s) rfl rfl rfl rfl rfl (by unfold maxLen; omega) ?_
  intro q7 s7 hO7 hP7 hN7
  refine op_litR [⟨q5, putN s.size⟩, ⟨q7, bsl s⟩] rfl rfl rfl (by decide) rfl rfl rfl (by decide) ?_
  intro q8 s8 hO8 hP8 hN8
  refine ⟨_, rfl, (ac_impl_joined q8 [⟨q5, putN s.size⟩, ⟨q7, bsl s⟩] s8 (hO8.rows cRV_len) (fun r hr => by
    rcases List.mem_cons.1 hr with rfl | hr
    · exact (hP7.trans hP8).rows (hO5.rows fB_len)
    · rw [List.mem_singleton.1 hr]; exact hP8.rows (hO7.rows fB_len)) (by show (2 : Nat) ≤ 1048576; omega) (by show (fl [⟨none, putN s.size⟩, ⟨none, bsl s⟩]).length ≤ _; rw [hf]; have := putS_len s; omega)).mono ?_⟩
  rintro _ s9 ⟨q9, rfl, hO9, hN9, hP9⟩
  refine cx_sound _ _ _ _ _ ?_
  exact ⟨.inl rfl, _, rfl, q9, by first | rfl | exact congrArg (fun n => vS q9 n) (congrArg List.length hf), hf ▸ hO9, hN9.le ((hP5.trans hP7).trans hP8).1, ((hP5.trans hP7).trans hP8).trans hP9⟩
/-! Leaves -/
def leafOf (id : Int) : Int := if 0 ≤ id ∧ id ≤ 4 then crc (putN id) % 4 else -1
theorem leafOf_rng {id : Int} (h : 0 ≤ id ∧ id ≤ 4) : 0 ≤ leafOf id ∧ leafOf id < 4 := by
  rw [leafOf, if_pos h]
  omega
theorem ac_spec_LeafOf (id : Int) (st : St) : C 132 [vI id] st (fun v s => v = vI (leafOf id) ∧ Pres st s) := by
  refine AC.enterX (i := ⟨[], [], [0, 2, 5]⟩) [] Try.func132 rfl rfl (by kernel_rfl) (by kernel_rfl) Try.ntmps132 (Nat.le_of_ble_eq_true rfl) rfl ?_
  refine AW.cut lo0 st [(0, vI id), (2, vI (0))] ⟨rfl, rfl, trivial⟩ fun ρ0 => ?_
  refine ⟨_, rfl, (ac_spec_l3Node id st).mono ?_⟩
  rintro _ st ⟨x4, rfl, h4, rfl⟩
  rcases x4 with _|_
  · replace h4 := of_decide_eq_false h4.symm
    refine ⟨_, rfl, ?_⟩
    refine AW.cut lo0 st [(0, vI id), (2, vI (0)), (5, vB true)] ⟨rfl, rfl, rfl, trivial⟩ fun ρ0 => ?_
    refine cx_sound _ _ _ _ _ ?_
    exact ⟨.inl rfl, _, rfl, congrArg vI (by rw [leafOf, if_neg h4]), Pres.refl _⟩
  · replace h4 := of_decide_eq_true h4.symm
    refine ⟨_, rfl, ?_⟩
    refine AW.cut lo0 st [(0, vI id), (2, vI (0)), (5, vB false)] ⟨rfl, rfl, rfl, trivial⟩ fun ρ0 => ?_
    refine cx_sound _ _ _ _ _ ?_
    refine ⟨_, rfl, (ac_spec_PutNum id st).mono ?_⟩
    rintro _ s7 ⟨q7, rfl, hO7, hN7, hP7⟩
    have hpl := putN_len id
    have hc0 := (crc_rng (putN_ok id)).1
    refine ⟨_, rfl, (ac_spec_Crc q7 (putN id) s7 (hO7.rows fB_len) (putN_ok id) (by omega)).mono ?_⟩
    rintro _ s7 ⟨rfl, rfl⟩
    refine ⟨_, op_rm (r := crc (putN id) % 4) rfl rfl rfl (by decide) (tm_emod 4 hc0), ?_⟩
    refine cx_sound _ _ _ _ _ ?_
    exact ⟨.inl rfl, _, rfl, congrArg vI (by rw [leafOf, if_pos h4]), hP7⟩
theorem ac_impl_LeafOf (id : Int) (st : St) : C 135 [vI id] st (fun v s => v = vI (leafOf id) ∧ Pres st s) := by
  refine AC.enterX (i := ⟨[], [], [0, 2, 5]⟩) [] Try.func135 rfl rfl (by kernel_rfl) (by kernel_rfl) Try.ntmps135 (Nat.le_of_ble_eq_true rfl) rfl ?_
  refine AW.cut lo0 st [(0, vI id), (2, vI (0))] ⟨rfl, rfl, trivial⟩ fun ρ0 => ?_
  refine ⟨_, rfl, (ac_impl_isNode id st).mono ?_⟩
  rintro _ st ⟨x4, rfl, h4, rfl⟩
  rcases x4 with _|_
  · replace h4 := of_decide_eq_false h4.symm
    refine ⟨_, rfl, ?_⟩
    refine AW.cut lo0 st [(0, vI id), (2, vI (0)), (5, vB true)] ⟨rfl, rfl, rfl, trivial⟩ fun ρ0 => ?_
    refine cx_sound _ _ _ _ _ ?_
    exact ⟨.inl rfl, _, rfl, congrArg vI (by rw [leafOf, if_neg h4]), Pres.refl _⟩
  · replace h4 := of_decide_eq_true h4.symm
    refine ⟨_, rfl, ?_⟩
    refine AW.cut lo0 st [(0, vI id), (2, vI (0)), (5, vB false)] ⟨rfl, rfl, rfl, trivial⟩ fun ρ0 => ?_
    refine cx_sound _ _ _ _ _ ?_
    refine ⟨_, rfl, (ac_impl_PutNum id st).mono ?_⟩
    rintro _ s7 ⟨q7, rfl, hO7, hN7, hP7⟩
    have hpl := putN_len id
    have hc0 := (crc_rng (putN_ok id)).1
    refine ⟨_, rfl, (ac_impl_Crc q7 (putN id) s7 (hO7.rows fB_len) (putN_ok id) (by omega)).mono ?_⟩
    rintro _ s7 ⟨rfl, rfl⟩
    refine ⟨_, op_rm (r := crc (putN id) % 4) rfl rfl rfl (by decide) (tm_emod 4 hc0), ?_⟩
    refine cx_sound _ _ _ _ _ ?_
    exact ⟨.inl rfl, _, rfl, congrArg vI (by rw [leafOf, if_pos h4]), hP7⟩
theorem ac_spec_l1Has (p : Option Addr) (l : List Int) (y : Int) (st : St) (hR : Rows st 1 fI p l) (hs : szOk l.length) : C 179 [vS p l.length, vI y] st (fun v s => ∃ x, v = .bool x ∧ (x = true ↔ y ∈ l) ∧ s = st) := by
  have hs : l.length ≤ 1048576 := hs
  refine AC.enterX (i := ⟨[], [], [0, 1, 4, 5, 9, 17]⟩) [] Try.func179 rfl rfl (by kernel_rfl) (by kernel_rfl) Try.ntmps179 (Nat.le_of_ble_eq_true rfl) rfl ?_
  refine cx_sound _ _ _ _ _ ?_
  refine AW.cut lo0 st [(0, vS p l.length), (1, vI y), (4, vB false), (5, vI (0))] ⟨rfl, rfl, rfl, rfl, trivial⟩ fun ρ0 => ?_
  refine AW.loop0 (fun i : Nat => [(0, vS p l.length), (1, vI y), (5, vI (i : Int))]) (fun m (i : Nat) st' => m = l.length - i ∧ i ≤ l.length ∧ (∀ (j : Nat) x, j < i → l[j]? = some x → ¬ x = y) ∧ st = st') 0 _ ⟨rfl, rfl, rfl, trivial⟩ rfl ⟨rfl, Nat.zero_le _, fun j x h => absurd h (Nat.not_lt_zero _), rfl⟩ ?_
  rintro m i ρ0 st' ⟨rfl, hi, hok, rfl⟩
  iterate 2 refine ⟨_, rfl, ?_⟩
  rintro (_|_) h9
  · replace h9 : ¬ ((i : Int) < (l.length : Int)) := of_decide_eq_false h9
    refine AW.cut lo0 st [(0, vS p l.length), (1, vI y), (5, vI (i : Int)), (9, vB false)] ⟨rfl, rfl, rfl, rfl, trivial⟩ fun ρ0 => ?_
    refine cx_sound _ _ _ _ _ ?_
    refine cx_sound _ _ _ _ _ ?_
    exact ⟨.inl rfl, _, rfl, false, rfl, ⟨fun h => absurd h Bool.false_ne_true, fun h => (show False from (by obtain ⟨j, hj⟩ := List.getElem?_of_mem h; exact hok j y (by have := (List.getElem?_eq_some_iff.1 hj).1; omega) hj rfl)).elim⟩, rfl⟩
  · replace h9 : (i : Int) < (l.length : Int) := of_decide_eq_true h9
    refine AW.cut lo0 st [(0, vS p l.length), (1, vI y), (5, vI (i : Int)), (9, vB true)] ⟨rfl, rfl, rfl, rfl, trivial⟩ fun ρ0 => ?_
    refine cx_sound _ _ _ _ _ ?_
    refine op_at i hR (by omega) rfl rfl rfl rfl rfl rfl rfl ?_
    intro x14 b14 d14 k14 hy14 hb14 hm14 hc14 ho14
    refine ⟨_, op_ldc (i := 0) rfl rfl rfl rfl hm14 hc14 rfl rfl, ?_⟩
    refine ⟨_, rfl, ?_⟩
    rintro (_|_) h17
    · replace h17 : ¬ (x14 = y) := beq_eq_false_iff_ne.1 h17
      refine AW.cut lo0 st [(0, vS p l.length), (1, vI y), (5, vI (i : Int)), (9, vB true), (17, vB false)] ⟨rfl, rfl, rfl, rfl, rfl, trivial⟩ fun ρ0 => ?_
      refine cx_sound _ _ _ _ _ ?_
      have ew11 : IntKind.wrap .i64 ((i : Int) + (1)) = ((i + 1 : Nat) : Int) := (wrap_i64 (by omega) (by omega)).trans (by omega)
      refine ⟨_, rfl, ?_⟩
      refine ⟨i + 1, l.length - (i + 1), by omega, ⟨rfl, rfl, congrArg (Value.int .i64) ew11, trivial⟩, rfl, rfl, by omega, fun j x hj hx => ?_, rfl⟩
      rcases Nat.lt_or_ge j i with h | h
      · exact hok j x h hx
      · obtain rfl : j = i := by omega
        rw [hy14] at hx; injection hx with hx; rw [← hx]; exact h17
    · replace h17 : x14 = y := beq_iff_eq.1 h17
      refine AW.cut lo0 st [(0, vS p l.length), (1, vI y), (5, vI (i : Int)), (9, vB true), (17, vB true)] ⟨rfl, rfl, rfl, rfl, rfl, trivial⟩ fun ρ0 => ?_
      refine cx_sound _ _ _ _ _ ?_
      exact ⟨.inl rfl, _, rfl, true, rfl, ⟨fun _ => h17 ▸ List.mem_of_getElem? hy14, fun _ => rfl⟩, rfl⟩
theorem ac_slices_Index_Int (p : Option Addr) (l : List Int) (y : Int) (st : St) (hR : Rows st 1 fI p l) (hs : szOk l.length) : C 185 [vS p l.length, vI y] st (fun v s => ∃ i, v = vI i ∧ (0 ≤ i ↔ y ∈ l) ∧ s = st) := by
  have hs : l.length ≤ 1048576 := hs
  refine AC.enterX (i := ⟨[], [], [0, 1, 4, 5, 7, 8, 9, 16]⟩) [] Try.func185 rfl rfl (by kernel_rfl) (by kernel_rfl) Try.ntmps185 (Nat.le_of_ble_eq_true rfl) rfl ?_
  refine AW.cut lo0 st [(0, vS p l.length), (1, vI y), (4, vI (0))] ⟨rfl, rfl, rfl, trivial⟩ fun ρ0 => ?_
  refine ⟨_, rfl, ?_⟩
  refine AW.cut lo0 st [(0, vS p l.length), (1, vI y), (4, vI (0)), (7, vI (l.length : Int)), (8, vI (0))] ⟨rfl, rfl, rfl, rfl, rfl, trivial⟩ fun ρ0 => ?_
  refine AW.loop0 (fun i : Nat => [(0, vS p l.length), (1, vI y), (7, vI (l.length : Int)), (8, vI (i : Int))]) (fun m (i : Nat) st' => m = l.length - i ∧ i ≤ l.length ∧ (∀ (j : Nat) x, j < i → l[j]? = some x → ¬ y = x) ∧ st = st') 0 _ ⟨rfl, rfl, rfl, rfl, trivial⟩ rfl ⟨rfl, Nat.zero_le _, fun j x h => absurd h (Nat.not_lt_zero _), rfl⟩ ?_
  rintro m i ρ0 st' ⟨rfl, hi, hok, rfl⟩
  refine ⟨_, rfl, ?_⟩
  rintro (_|_) h9
  · replace h9 : ¬ ((i : Int) < (l.length : Int)) := of_decide_eq_false h9
    refine AW.cut lo0 st [(0, vS p l.length), (1, vI y), (7, vI (l.length : Int)), (8, vI (i : Int)), (9, vB false)] ⟨rfl, rfl, rfl, rfl, rfl, trivial⟩ fun ρ0 => ?_
    refine cx_sound _ _ _ _ _ ?_
    refine cx_sound _ _ _ _ _ ?_
    exact ⟨.inl rfl, _, rfl, -1, rfl, ⟨fun h => absurd h (by decide), fun h => by obtain ⟨j, hj⟩ := List.getElem?_of_mem h; exact absurd rfl (hok j y (by have := (List.getElem?_eq_some_iff.1 hj).1; omega) hj)⟩, rfl⟩
  · replace h9 : (i : Int) < (l.length : Int) := of_decide_eq_true h9
    refine AW.cut lo0 st [(0, vS p l.length), (1, vI y), (7, vI (l.length : Int)), (8, vI (i : Int)), (9, vB true)] ⟨rfl, rfl, rfl, rfl, rfl, trivial⟩ fun ρ0 => ?_
    refine cx_sound _ _ _ _ _ ?_
    refine AW.cut lo0 st [(0, vS p l.length), (1, vI y), (5, vI (i : Int)), (7, vI (l.length : Int)), (8, vI (i : Int)), (9, vB true)] ⟨rfl, rfl, rfl, rfl, rfl, rfl, trivial⟩ fun ρ0 => ?_
    refine op_at i hR (by omega) rfl rfl rfl rfl rfl rfl rfl ?_
    intro x14 b14 d14 k14 hy14 hb14 hm14 hc14 ho14
    refine ⟨_, op_ldc (i := 0) rfl rfl rfl rfl hm14 hc14 rfl rfl, ?_⟩
    refine ⟨_, rfl, ?_⟩
    rintro (_|_) h16
    · replace h16 : ¬ (y = x14) := beq_eq_false_iff_ne.1 h16
      refine AW.cut lo0 st [(0, vS p l.length), (1, vI y), (5, vI (i : Int)), (7, vI (l.length : Int)), (8, vI (i : Int)), (9, vB true), (16, vB false)] ⟨rfl, rfl, rfl, rfl, rfl, rfl, rfl, trivial⟩ fun ρ0 => ?_
      refine cx_sound _ _ _ _ _ ?_
      have ew18 : IntKind.wrap .i64 ((i : Int) + (1)) = ((i + 1 : Nat) : Int) := (wrap_i64 (by omega) (by omega)).trans (by omega)
      refine ⟨_, rfl, ?_⟩
      refine ⟨i + 1, l.length - (i + 1), by omega, ⟨rfl, rfl, rfl, congrArg (Value.int .i64) ew18, trivial⟩, rfl, rfl, by omega, fun j x hj hx => ?_, rfl⟩
      rcases Nat.lt_or_ge j i with h | h
      · exact hok j x h hx
      · obtain rfl : j = i := by omega
        rw [hy14] at hx; injection hx with hx; rw [← hx]; exact h16
    · replace h16 : y = x14 := beq_iff_eq.1 h16
      refine AW.cut lo0 st [(0, vS p l.length), (1, vI y), (5, vI (i : Int)), (7, vI (l.length : Int)), (8, vI (i : Int)), (9, vB true), (16, vB true)] ⟨rfl, rfl, rfl, rfl, rfl, rfl, rfl, trivial⟩ fun ρ0 => ?_
      refine cx_sound _ _ _ _ _ ?_
      exact ⟨.inl rfl, _, rfl, (i : Int), rfl, ⟨fun _ => h16 ▸ List.mem_of_getElem? hy14, fun _ => by omega⟩, rfl⟩
theorem ac_slices_Contains_Int (p : Option Addr) (l : List Int) (y : Int) (st : St) (hR : Rows st 1 fI p l) (hs : szOk l.length) : C 181 [vS p l.length, vI y] st (fun v s => ∃ x, v = .bool x ∧ (x = true ↔ y ∈ l) ∧ s = st) := by
  refine AC.enterX (i := ⟨[], [], [0, 1, 4]⟩) [] Try.func181 rfl rfl (by kernel_rfl) (by kernel_rfl) Try.ntmps181 (Nat.le_of_ble_eq_true rfl) rfl ?_
  refine AW.cut lo0 st [(0, vS p l.length), (1, vI y), (4, vB false)] ⟨rfl, rfl, rfl, trivial⟩ fun ρ0 => ?_
  refine ⟨_, rfl, (ac_slices_Index_Int p l y st hR hs).mono ?_⟩
  rintro _ st ⟨i, rfl, hi, rfl⟩
  refine ⟨_, rfl, ?_⟩
  rintro (_|_) h8
  · replace h8 : ¬ (i ≥ (0)) := of_decide_eq_false h8
    refine cx_sound _ _ _ _ _ ?_
    exact ⟨.inl rfl, _, rfl, false, rfl, ⟨fun h => absurd h Bool.false_ne_true, fun h => (show False from (h8 (hi.2 h))).elim⟩, rfl⟩
  · replace h8 : i ≥ (0) := of_decide_eq_true h8
    refine cx_sound _ _ _ _ _ ?_
    exact ⟨.inl rfl, _, rfl, true, rfl, ⟨fun _ => hi.1 h8, fun _ => rfl⟩, rfl⟩
end Go.Proofs.Ytopcpcoklgepnaa.AM
