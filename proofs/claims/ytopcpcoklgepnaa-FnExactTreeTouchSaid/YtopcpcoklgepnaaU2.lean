/- Rows of ints, marks and tables of ints in the shape that all laws mark and hold. -/
import Derived.Test.YtopcpcoklgepnaaU1
import Derived.Test.YtopcpcoklgepnaaF9
import Derived.Test.YtopcpcoklgepnaaM1
namespace Go.Proofs.Ytopcpcoklgepnaa.AM
open Go Go.Proofs
set_option linter.unusedVariables false
set_option linter.unusedSimpArgs false
set_option maxRecDepth 100000
set_option maxHeartbeats 4000000
theorem own_one {α : Type} {st : St} {z : Nat} {f : α → List Value} {p : Option Addr} {l : List α} (h0 : 0 < z) (hz : ∀ x, (f x).length = z) (h : OwnP st [pcR z f p l]) : OwnR st z f p l := pc_own h0 hz (h.1 _ (List.mem_singleton_self _))
/-! Rows of ints -/
abbrev pcIs (g : RV) : List Pc := [pcRV g]
theorem OwnP.rdIs {st : St} {g : RV} (h : OwnP st (pcIs g)) : Rows st 1 fI g.p g.l := (own_one Nat.one_pos fI_len h).rows fI_len
def mkIs (g : RV) (k : Int) : RV := ⟨g.p, mkInts g.l.length k⟩
theorem mkp_Is (g : RV) (k : Int) : (pcIs (mkIs g k)).map (·.p) = (pcIs g).map (·.p) := rfl
abbrev cntIs (l : List Int) : Nat := l.length
theorem uc_toIntS (g : RV) (st : St) (hR : Rows st 1 fI g.p g.l) (hb : szOk g.l.length) : C 85 [vS g.p g.l.length] st (fun v s => ∃ u : RV, v = vS u.p u.l.length ∧ u.l = g.l ∧ OwnP s (pcIs u) ∧ NewP st.next (pcIs u) ∧ Pres st s) :=
  (ac_laws_toIntS g.p g.l st hR hb).mono fun v s ⟨q, h1, h2, h3, h4⟩ => ⟨⟨q, g.l⟩, h1, rfl, OwnP.one (own_pc h2), NewP.cons h4 NewP.nil, h3⟩
theorem uc_markIntS (u : RV) (k : Int) (st : St) (hO : OwnP st (pcIs u)) (hb : szOk u.l.length) (h0 : 0 ≤ k) (hk : k ≤ 137438953472) : C 127 [vS u.p u.l.length, vI k] st (fun v s => v = vI (k + (cntIs u.l : Int)) ∧ OwnP s (pcIs (mkIs u k)) ∧ PrL ((pcIs u).map (·.p)) st s) :=
  (ac_laws_markIntS u.p u.l k st (own_one Nat.one_pos fI_len hO) hb h0 (by omega)).mono fun v s ⟨h1, h2, h3⟩ => ⟨h1, OwnP.one (own_pc h2), h3.l (List.mem_singleton_self _)⟩
theorem uc_heldIntS (u : RV) (k : Int) (st : St) (hR : Rows st 1 fI (mkIs u k).p (mkIs u k).l) (hb : szOk u.l.length) (h0 : 0 ≤ k) (hk : k ≤ 137438953472) : C 138 [vS u.p u.l.length, vI k] st (fun v s => v = vI (k + (cntIs u.l : Int)) ∧ Pres st s) :=
  (ac_laws_heldIntS u.p u.l.length k st hR hb h0 (by omega)).mono fun v s ⟨h1, h2⟩ => ⟨h1, h2 ▸ Pres.refl _⟩
/-! Marks -/
structure FV where
  p : Option Addr
  l : List Flr
abbrev pcFV (g : FV) : List Pc := [pcR 2 cFlr g.p g.l]
theorem OwnP.rdFV {st : St} {g : FV} (h : OwnP st (pcFV g)) : Rows st 2 cFlr g.p g.l := (own_one (by decide) len_cFlr h).rows len_cFlr
def mkFV (g : FV) (k : Int) : FV := ⟨g.p, mkRow mkFlr 2 g.l.length k⟩
theorem mkp_FV (g : FV) (k : Int) : (pcFV (mkFV g k)).map (·.p) = (pcFV g).map (·.p) := rfl
abbrev cntFV (l : List Flr) : Nat := 2 * l.length
theorem uc_toMarkS (g : FV) (st : St) (hR : Rows st 2 cFlr g.p g.l) (hb : szOk g.l.length) : C 86 [vS g.p g.l.length] st (fun v s => ∃ u : FV, v = vS u.p u.l.length ∧ u.l = g.l ∧ OwnP s (pcFV u) ∧ NewP st.next (pcFV u) ∧ Pres st s) :=
  (ac_laws_toMarkS g.p g.l st hR hb).mono fun v s ⟨q, h1, h2, h3, h4⟩ => ⟨⟨q, g.l⟩, h1, rfl, OwnP.one (own_pc h2), NewP.cons h4 NewP.nil, h3⟩
theorem uc_markMarkS (u : FV) (k : Int) (st : St) (hO : OwnP st (pcFV u)) (hb : szOk u.l.length) (h0 : 0 ≤ k) (hk : k ≤ 137438953472) : C 26 [vS u.p u.l.length, vI k] st (fun v s => v = vI (k + (cntFV u.l : Int)) ∧ OwnP s (pcFV (mkFV u k)) ∧ PrL ((pcFV u).map (·.p)) st s) :=
  (ac_laws_markMarkSx u.p u.l k st (own_one (by decide) len_cFlr hO) hb h0 (by omega)).mono fun v s ⟨h1, h2, h3⟩ => ⟨h1.trans (congrArg (Value.int .i64) (by unfold cntFV; omega)), OwnP.one (own_pc h2), h3.l (List.mem_singleton_self _)⟩
theorem uc_heldMarkS (u : FV) (k : Int) (st : St) (hR : Rows st 2 cFlr (mkFV u k).p (mkFV u k).l) (hb : szOk u.l.length) (h0 : 0 ≤ k) (hk : k ≤ 137438953472) : C 27 [vS u.p u.l.length, vI k] st (fun v s => v = vI (k + (cntFV u.l : Int)) ∧ Pres st s) :=
  (ac_laws_heldMarkS u.p u.l.length k st hR hb h0 (by omega)).mono fun v s ⟨h1, h2⟩ => ⟨h1.trans (congrArg (Value.int .i64) (by unfold cntFV; omega)), h2⟩
/-! Tables -/
structure TT where
  p : Option Addr
  t : List RV
abbrev TT.x (g : TT) : List (List Int) := rls g.t
abbrev pcTT (g : TT) : List Pc := pcT g.p g.t
def bigT (x : List (List Int)) : Prop := szOk x.length ∧ ∀ l ∈ x, szOk l.length
theorem bigT_iff {t : List RV} : bigT (rls t) ↔ szOk t.length ∧ ∀ r ∈ t, szOk r.l.length := by
  refine ⟨fun h => ⟨by have := h.1; rwa [List.length_map] at this, fun r hr => h.2 r.l (List.mem_map_of_mem hr)⟩, fun h => ⟨by rw [List.length_map]; exact h.1, fun l hl => ?_⟩⟩
  obtain ⟨r, hr, rfl⟩ := List.mem_map.1 hl
  exact h.2 r hr
def cntTab (x : List (List Int)) : Nat := (x.map List.length).sum
theorem cntTab_t (t : List RV) : cntTab (rls t) = cntT t := by simp [cntTab, cntT, rls, Function.comp_def]
theorem cntT_mem {t : List RV} {r : RV} (h : r ∈ t) : r.l.length ≤ cntT t := by
  obtain ⟨i, hi⟩ := List.getElem?_of_mem h
  have := cntT_take hi
  omega
theorem sz_bigT {g : TT} (h : g.t.length + cntT g.t ≤ 1048576) : bigT g.x := bigT_iff.2 ⟨by unfold szOk; omega, fun r hr => by have := cntT_mem hr; unfold szOk; omega⟩
def mkTT (g : TT) (k : Int) : TT := ⟨g.p, mkT g.t k⟩
theorem mkp_TT (g : TT) (k : Int) : (pcTT (mkTT g k)).map (·.p) = (pcTT g).map (·.p) := by
  show g.p :: ((mkT g.t k).map pcRV).map (·.p) = g.p :: (g.t.map pcRV).map (·.p)
  rw [List.map_map, List.map_map]
  exact congrArg (g.p :: ·) (mkT_ps g.t k)
def maxT (t : List RV) : Prop := t.length ≤ maxLen ∧ ∀ r ∈ t, r.l.length ≤ maxLen
theorem uc_szIntSS (g : TT) (n : Int) (st : St) (hR : RdT st g.p g.t) (h0 : 0 ≤ n) (hn : n ≤ 1048576) (hm : maxT g.t) : C 48 [vS g.p g.t.length, vI n] st (fun v s => ∃ r, v = vI r ∧ r ≤ n ∧ (0 ≤ r → r + ((g.t.length + cntT g.t : Nat) : Int) = n) ∧ s = st) :=
  (ac_laws_szIntSS g.p g.t n st hR h0 hn hm.1 hm.2).mono fun v s ⟨r, h1, h2, h3, h4⟩ => ⟨r, h1, h2, fun h => by have := h3 h; omega, h4⟩
theorem uc_toIntSS (g : TT) (st : St) (hR : RdT st g.p g.t) (hb : bigT g.x) : C 50 [vS g.p g.t.length] st (fun v s => ∃ u : TT, v = vS u.p u.t.length ∧ u.x = g.x ∧ OwnP s (pcTT u) ∧ NewP st.next (pcTT u) ∧ Pres st s) :=
  (ac_laws_toIntSS g.p g.t st hR (bigT_iff.1 hb).1 (bigT_iff.1 hb).2).mono fun v s ⟨q, u, h1, h2, h3, h4, h5⟩ => ⟨⟨q, u⟩, h1.trans (congrArg (vS q) (by have := congrArg List.length h2; simpa using this.symm)), h2, h3, h4, h5⟩
theorem uc_eqIntSS (a b : TT) (st : St) (hA : RdT st a.p a.t) (hB : RdT st b.p b.t) (hb : bigT a.x) : C 52 [vS a.p a.t.length, vS b.p b.t.length] st (fun v s => ∃ x, v = .bool x ∧ (x = true ↔ a.x = b.x) ∧ s = st) :=
  ac_laws_eqIntSS a.p b.p a.t b.t st hA hB (bigT_iff.1 hb).1 (bigT_iff.1 hb).2
theorem uc_markIntSS (u : TT) (k : Int) (st : St) (hO : OwnP st (pcTT u)) (hb : bigT u.x) (h0 : 0 ≤ k) (hk : k + (cntTab u.x : Int) ≤ 137438953472) : C 53 [vS u.p u.t.length, vI k] st (fun v s => v = vI (k + (cntTab u.x : Int)) ∧ OwnP s (pcTT (mkTT u k)) ∧ PrL ((pcTT u).map (·.p)) st s) := by
  have hc := cntTab_t u.t
  have hk : k + (cntTab (rls u.t) : Int) ≤ 137438953472 := hk
  refine (ac_laws_markIntSS u.p u.t k st hO (bigT_iff.1 hb).1 (bigT_iff.1 hb).2 h0 (by omega)).mono fun v s ⟨h1, h2, h3⟩ => ⟨h1.trans (by show vI (k + (cntT u.t : Int)) = vI (k + (cntTab (rls u.t) : Int)); rw [hc]), h2, h3.mono fun p hp => ?_⟩
  show p ∈ u.p :: (u.t.map pcRV).map (·.p)
  rw [List.map_map]
  exact List.mem_cons_of_mem _ hp
end Go.Proofs.Ytopcpcoklgepnaa.AM
