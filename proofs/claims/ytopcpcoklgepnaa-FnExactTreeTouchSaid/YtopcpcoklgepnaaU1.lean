/- One shape for all that the laws mark and hold: groups of pieces; states and logs in that shape. -/
import Derived.Test.YtopcpcoklgepnaaN0
namespace Go.Proofs.Ytopcpcoklgepnaa.AM
open Go Go.Proofs
set_option linter.unusedVariables false
set_option linter.unusedSimpArgs false
set_option maxRecDepth 100000
set_option maxHeartbeats 4000000
/-! Groups of pieces -/
theorem OwnP.perm {st : St} {l m : List Pc} (h : OwnP st l) (hp : l.Perm m) : OwnP st m := ⟨fun c hc => h.1 c (hp.mem_iff.2 hc), (hp.pairwise_iff fun hd => hd.symm).1 h.2⟩
theorem OwnP.front1 {st : St} {a b y : List Pc} (h : OwnP st (a ++ (b ++ y))) : OwnP st (b ++ (a ++ y)) := h.perm (by
  rw [← List.append_assoc, ← List.append_assoc]
  exact List.perm_append_comm.append_right y)
theorem OwnP.front2 {st : St} {a b c y : List Pc} (h : OwnP st (a ++ (b ++ (c ++ y)))) : OwnP st (c ++ (a ++ (b ++ y))) := by
  have h1 : OwnP st ((a ++ b) ++ (c ++ y)) := by rw [List.append_assoc]; exact h
  have h2 := h1.front1
  rw [List.append_assoc] at h2
  exact h2
theorem OwnP.front3 {st : St} {a b c d y : List Pc} (h : OwnP st (a ++ (b ++ (c ++ (d ++ y))))) : OwnP st (d ++ (a ++ (b ++ (c ++ y)))) := by
  have h1 : OwnP st ((a ++ b) ++ (c ++ (d ++ y))) := by rw [List.append_assoc]; exact h
  have h2 := h1.front2
  rw [List.append_assoc] at h2
  exact h2
theorem OwnP.front4 {st : St} {a b c d e y : List Pc} (h : OwnP st (a ++ (b ++ (c ++ (d ++ (e ++ (y))))))) : OwnP st (e ++ (a ++ (b ++ (c ++ (d ++ (y)))))) := by
  have h1 : OwnP st ((a ++ b) ++ (c ++ (d ++ (e ++ (y))))) := by rw [List.append_assoc]; exact h
  have h2 := h1.front3
  rw [List.append_assoc] at h2
  exact h2
theorem OwnP.front5 {st : St} {a b c d e f y : List Pc} (h : OwnP st (a ++ (b ++ (c ++ (d ++ (e ++ (f ++ (y)))))))) : OwnP st (f ++ (a ++ (b ++ (c ++ (d ++ (e ++ (y))))))) := by
  have h1 : OwnP st ((a ++ b) ++ (c ++ (d ++ (e ++ (f ++ (y)))))) := by rw [List.append_assoc]; exact h
  have h2 := h1.front4
  rw [List.append_assoc] at h2
  exact h2
theorem OwnP.front6 {st : St} {a b c d e f g y : List Pc} (h : OwnP st (a ++ (b ++ (c ++ (d ++ (e ++ (f ++ (g ++ (y))))))))) : OwnP st (g ++ (a ++ (b ++ (c ++ (d ++ (e ++ (f ++ (y)))))))) := by
  have h1 : OwnP st ((a ++ b) ++ (c ++ (d ++ (e ++ (f ++ (g ++ (y))))))) := by rw [List.append_assoc]; exact h
  have h2 := h1.front5
  rw [List.append_assoc] at h2
  exact h2
theorem OwnP.front7 {st : St} {a b c d e f g h9 y : List Pc} (h : OwnP st (a ++ (b ++ (c ++ (d ++ (e ++ (f ++ (g ++ (h9 ++ (y)))))))))) : OwnP st (h9 ++ (a ++ (b ++ (c ++ (d ++ (e ++ (f ++ (g ++ (y))))))))) := by
  have h1 : OwnP st ((a ++ b) ++ (c ++ (d ++ (e ++ (f ++ (g ++ (h9 ++ (y)))))))) := by rw [List.append_assoc]; exact h
  have h2 := h1.front6
  rw [List.append_assoc] at h2
  exact h2
theorem OwnP.front8 {st : St} {a b c d e f g h9 i y : List Pc} (h : OwnP st (a ++ (b ++ (c ++ (d ++ (e ++ (f ++ (g ++ (h9 ++ (i ++ (y))))))))))) : OwnP st (i ++ (a ++ (b ++ (c ++ (d ++ (e ++ (f ++ (g ++ (h9 ++ (y)))))))))) := by
  have h1 : OwnP st ((a ++ b) ++ (c ++ (d ++ (e ++ (f ++ (g ++ (h9 ++ (i ++ (y))))))))) := by rw [List.append_assoc]; exact h
  have h2 := h1.front7
  rw [List.append_assoc] at h2
  exact h2
theorem OwnP.front9 {st : St} {a b c d e f g h9 i j y : List Pc} (h : OwnP st (a ++ (b ++ (c ++ (d ++ (e ++ (f ++ (g ++ (h9 ++ (i ++ (j ++ (y)))))))))))) : OwnP st (j ++ (a ++ (b ++ (c ++ (d ++ (e ++ (f ++ (g ++ (h9 ++ (i ++ (y))))))))))) := by
  have h1 : OwnP st ((a ++ b) ++ (c ++ (d ++ (e ++ (f ++ (g ++ (h9 ++ (i ++ (j ++ (y)))))))))) := by rw [List.append_assoc]; exact h
  have h2 := h1.front8
  rw [List.append_assoc] at h2
  exact h2
theorem OwnP.front10 {st : St} {a b c d e f g h9 i j k y : List Pc} (h : OwnP st (a ++ (b ++ (c ++ (d ++ (e ++ (f ++ (g ++ (h9 ++ (i ++ (j ++ (k ++ (y))))))))))))) : OwnP st (k ++ (a ++ (b ++ (c ++ (d ++ (e ++ (f ++ (g ++ (h9 ++ (i ++ (j ++ (y)))))))))))) := by
  have h1 : OwnP st ((a ++ b) ++ (c ++ (d ++ (e ++ (f ++ (g ++ (h9 ++ (i ++ (j ++ (k ++ (y))))))))))) := by rw [List.append_assoc]; exact h
  have h2 := h1.front9
  rw [List.append_assoc] at h2
  exact h2
theorem OwnP.front11 {st : St} {a b c d e f g h9 i j k l y : List Pc} (h : OwnP st (a ++ (b ++ (c ++ (d ++ (e ++ (f ++ (g ++ (h9 ++ (i ++ (j ++ (k ++ (l ++ (y)))))))))))))) : OwnP st (l ++ (a ++ (b ++ (c ++ (d ++ (e ++ (f ++ (g ++ (h9 ++ (i ++ (j ++ (k ++ (y))))))))))))) := by
  have h1 : OwnP st ((a ++ b) ++ (c ++ (d ++ (e ++ (f ++ (g ++ (h9 ++ (i ++ (j ++ (k ++ (l ++ (y)))))))))))) := by rw [List.append_assoc]; exact h
  have h2 := h1.front10
  rw [List.append_assoc] at h2
  exact h2
theorem OwnP.front12 {st : St} {a b c d e f g h9 i j k l m y : List Pc} (h : OwnP st (a ++ (b ++ (c ++ (d ++ (e ++ (f ++ (g ++ (h9 ++ (i ++ (j ++ (k ++ (l ++ (m ++ (y))))))))))))))) : OwnP st (m ++ (a ++ (b ++ (c ++ (d ++ (e ++ (f ++ (g ++ (h9 ++ (i ++ (j ++ (k ++ (l ++ (y)))))))))))))) := by
  have h1 : OwnP st ((a ++ b) ++ (c ++ (d ++ (e ++ (f ++ (g ++ (h9 ++ (i ++ (j ++ (k ++ (l ++ (m ++ (y))))))))))))) := by rw [List.append_assoc]; exact h
  have h2 := h1.front11
  rw [List.append_assoc] at h2
  exact h2
theorem OwnP.joinF {st st' : St} {l m : List Pc} (h : OwnP st l) (hp : Pres st st') (k : OwnP st' m) (hn : NewP st.next m) : OwnP st' (m ++ l) :=
  OwnP.app k (h.pres hp) fun a ha b hb => (Dis.of (h.1 b hb).old (hn a ha)).symm
theorem OwnP.markG {st st' : St} {m m' y : List Pc} (h : OwnP st (m ++ y)) (hM : OwnP st' m') (hp : m'.map (·.p) = m.map (·.p)) (hL : PrL (m.map (·.p)) st st') : OwnP st' (m' ++ y) := by
  have hd := (List.pairwise_append.1 h.2).2.2
  refine hM.app (h.right.prl hL fun c hc p hp' => ?_) fun a ha b hb => ?_
  · obtain ⟨d, hd1, rfl⟩ := List.mem_map.1 hp'
    exact hd d hd1 c hc
  · have : a.p ∈ m.map (·.p) := by rw [← hp]; exact List.mem_map_of_mem ha
    obtain ⟨d, hd1, he⟩ := List.mem_map.1 this
    rw [← he]; exact hd d hd1 b hb
theorem newPs {n : Nat} {l : List Pc} (h : NewP n l) : ∀ p ∈ l.map (·.p), New n p := fun p hp => by
  obtain ⟨c, hc, rfl⟩ := List.mem_map.1 hp
  exact h c hc
/-! States -/
abbrev cntState (x : Sta) : Nat := cntS x
def mkState (u : SV) (k : Int) : SV := ⟨u.p, u.q, mkS u.x k⟩
theorem cnt_State {x : Sta} (h : bigS x) : cntState x ≤ 8388608 := by
  have h1 : x.items.length ≤ 1048576 := h.1
  have h2 : x.floors.length ≤ 1048576 := h.2.1
  unfold cntState cntS
  omega
theorem mkp_State (u : SV) (k : Int) : (pcS (mkState u k)).map (·.p) = (pcS u).map (·.p) := rfl
theorem uc_markState (u : SV) (k : Int) (st : St) (hO : OwnP st (pcS u)) (hb : bigS u.x) (h0 : 0 ≤ k) (hk : k ≤ 137438953472) : C 25 [.agg #[vS u.p u.x.items.length, vS u.q u.x.floors.length], vI k] st (fun v s => v = vI (k + (cntState u.x : Int)) ∧ OwnP s (pcS (mkState u k)) ∧ PrL ((pcS u).map (·.p)) st s) :=
  (ac_laws_markState u k st hO hb h0 (by omega)).mono fun v s ⟨h1, h2, h3⟩ => ⟨h1.trans (congrArg (Value.int .i64) (by unfold cntState cntS; omega)), h2, h3⟩
theorem uc_heldState (u : SV) (k : Int) (st : St) (hR : RdS st (mkState u k)) (hb : bigS u.x) (h0 : 0 ≤ k) (hk : k ≤ 137438953472) : C 54 [.agg #[vS u.p u.x.items.length, vS u.q u.x.floors.length], vI k] st (fun v s => v = vI (k + (cntState u.x : Int)) ∧ Pres st s) :=
  (ac_laws_heldState u k st hR hb h0 (by omega)).mono fun v s ⟨h1, h2⟩ => ⟨h1.trans (congrArg (Value.int .i64) (by unfold cntState cntS; omega)), h2⟩
/-! Logs: their row may be a later part of a row of one's own -/
structure LW where
  cap : Int
  frm : Int
  p : Option Addr
  l : List SV
  C : Pc
  ok : l = [] ∨ ∃ a o, C.p = some ⟨a, 0, none⟩ ∧ p = some ⟨a, o, none⟩ ∧ ∀ (j : Nat) x, l[j]? = some x → (C.cs.drop (o + j * 2)).take 2 = cSV x
abbrev LW.v (g : LW) : LV := ⟨g.cap, g.frm, g.p, g.l⟩
abbrev LW.x (g : LW) : Lg := g.v.x
abbrev pcLog (g : LW) : List Pc := g.C :: g.l.flatMap pcS
theorem LW.rows {st : St} {g : LW} (h : g.C.own st) : Rows st 2 cSV g.p g.l := by
  rcases g.ok with h0 | ⟨a, o, h1, h2, h3⟩
  · exact .inl h0
  · rcases h with ⟨h4, _⟩ | ⟨b, h4, hb, hm⟩
    · rw [h1] at h4; cases h4
    · rw [h1] at h4
      injection h4 with h4
      injection h4 with h4
      subst h4
      exact .inr ⟨a, o, _, h2, hm, hb, h3⟩
theorem OwnP.rdLog {st : St} {g : LW} (h : OwnP st (pcLog g)) : RdL st g.p g.l := ⟨LW.rows (h.1 _ (List.mem_cons_self ..)), fun s hs => (h.tail.state hs).rdS⟩
/-- A log of one's own, as it was copied. -/
theorem OwnP.lw {st : St} {u : LV} (h : OwnP st (pcL u.p u.l)) : ∃ g : LW, g.v = u ∧ OwnP st (pcLog g) ∧ g.C = pcR 2 cSV u.p u.l := by
  refine ⟨⟨u.cap, u.frm, u.p, u.l, pcR 2 cSV u.p u.l, ?_⟩, rfl, h, rfl⟩
  rcases h.louter with ⟨_, h2⟩ | ⟨a, h1, _⟩
  · exact .inl h2
  · exact .inr ⟨a, 0, h1, h1, fun j x hx => by rw [Nat.zero_add]; exact flat_at (l := u.l) len_cSV hx⟩
def bigLog (g : Lg) : Prop := szOk g.list.length ∧ ∀ s ∈ g.list, bigS s
theorem bigLog_iff {g : LV} : bigLog g.x ↔ bigL g.l := by
  refine ⟨fun h => ⟨by have := h.1; simpa [LV.x] using this, fun s hs => h.2 s.x (List.mem_map_of_mem hs)⟩, fun h => ⟨by have := h.1; simpa [LV.x] using this, fun s hs => ?_⟩⟩
  obtain ⟨r, hr, rfl⟩ := List.mem_map.1 hs
  exact h.2 r hr
def cntLog (g : Lg) : Nat := sumOf cntS g.list
theorem cntLog_l (g : LV) : cntLog g.x = cntL g.l := by simp [cntLog, cntL, sumOf, LV.x, Function.comp_def]
theorem mkL_getX : ∀ {l : List SV} {k : Int} {j : Nat} {x : SV}, (mkL l k)[j]? = some x → ∃ y, l[j]? = some y ∧ cSV x = cSV y
  | [], _, _, _, h => by cases h
  | s :: l, k, 0, x, h => by
    rw [mkL, List.getElem?_cons_zero] at h
    injection h with h
    exact ⟨s, rfl, by rw [← h]; simp [cSV, mkS, mkRow_len]⟩
  | s :: l, k, j + 1, x, h => by
    rw [mkL, List.getElem?_cons_succ] at h
    obtain ⟨y, h1, h2⟩ := mkL_getX h
    exact ⟨y, h1, h2⟩
def mkLog (g : LW) (k : Int) : LW := ⟨g.cap, g.frm, g.p, mkL g.l k, g.C, by
  rcases g.ok with h | ⟨a, o, h1, h2, h3⟩
  · exact .inl (by rw [h]; rfl)
  · refine .inr ⟨a, o, h1, h2, fun j x hx => ?_⟩
    obtain ⟨y, hy, he⟩ := mkL_getX hx
    rw [he]; exact h3 j y hy⟩
theorem mkL_p : ∀ (l : List SV) (k : Int), ((mkL l k).flatMap pcS).map (·.p) = (l.flatMap pcS).map (·.p)
  | [], _ => rfl
  | s :: l, k => by
    rw [mkL, List.flatMap_cons, List.flatMap_cons, List.map_append, List.map_append, mkL_p l]
    rfl
theorem mkp_Log (u : LW) (k : Int) : (pcLog (mkLog u k)).map (·.p) = (pcLog u).map (·.p) := by
  show u.C.p :: ((mkL u.l k).flatMap pcS).map (·.p) = u.C.p :: (u.l.flatMap pcS).map (·.p)
  rw [mkL_p]
theorem uc_toLog (g : LV) (st : St) (hR : RdL st g.p g.l) (hb : bigLog g.x) : C 16 [.agg #[vI g.cap, vI g.frm, vS g.p g.l.length]] st (fun v s => ∃ u : LW, v = .agg #[vI u.cap, vI u.frm, vS u.p u.l.length] ∧ u.v.x = g.x ∧ OwnP s (pcLog u) ∧ NewP st.next (pcLog u) ∧ Pres st s) :=
  (ac_laws_toLog g st hR (bigLog_iff.1 hb)).mono fun v s ⟨u, h1, h2, h3, h4, h5⟩ => by
    obtain ⟨w, hw, hO, hC⟩ := h3.lw
    subst hw
    refine ⟨w, h1, h2, hO, ?_, h5⟩
    show NewP st.next (w.C :: w.l.flatMap pcS)
    rw [hC]; exact h4
theorem uc_eqLog (a b : LW) (st : St) (hA : RdL st a.p a.l) (hB : RdL st b.p b.l) (hb : bigLog a.v.x) : C 18 [.agg #[vI a.cap, vI a.frm, vS a.p a.l.length], .agg #[vI b.cap, vI b.frm, vS b.p b.l.length]] st (fun v s => ∃ x, v = .bool x ∧ (x = true ↔ a.v.x = b.v.x) ∧ s = st) :=
  ac_laws_eqLog a.v b.v st hA hB (bigLog_iff.1 hb)
theorem uc_markLog (u : LW) (k : Int) (st : St) (hO : OwnP st (pcLog u)) (hb : bigLog u.v.x) (h0 : 0 ≤ k) (hk : k + (cntLog u.v.x : Int) ≤ 137438953472) : C 35 [.agg #[vI u.cap, vI u.frm, vS u.p u.l.length], vI k] st (fun v s => v = vI (k + (cntLog u.v.x : Int)) ∧ OwnP s (pcLog (mkLog u k)) ∧ PrL ((pcLog u).map (·.p)) st s) := by
  have hb' := bigLog_iff.1 hb
  have hc : cntLog u.v.x = cntL u.l := cntLog_l u.v
  have hdis := List.pairwise_cons.1 hO.2
  have hd : ∀ q ∈ (u.l.flatMap pcS).map (·.p), Dis u.p q := fun q hq => by
    obtain ⟨c, hc, rfl⟩ := List.mem_map.1 hq
    have h1 := hdis.1 c hc
    rcases u.ok with h0 | ⟨a, o, h2, h3, _⟩
    · rw [h0] at hc; cases hc
    · intro x y hx hy
      rw [h3] at hx
      injection hx with hx
      rw [← hx]
      exact h1 ⟨a, 0, none⟩ y h2 hy
  refine (ac_laws_markLog u.v k st (LW.rows (hO.1 _ (List.mem_cons_self ..))) hO.tail hd hb' h0 (by simp only; omega)).mono fun v s ⟨h1, h2, h3⟩ => ?_
  have h4 : PrL ((pcLog u).map (·.p)) st s := h3.mono fun p hp => List.mem_cons_of_mem _ hp
  refine ⟨h1.trans (by rw [hc]), ?_, h4⟩
  have hO' : OwnP st (u.l.flatMap pcS ++ [u.C]) := hO.perm (List.perm_append_comm (l₁ := [u.C]))
  exact (OwnP.markG hO' h2 (mkL_p _ _) h3).perm (List.perm_append_comm (l₂ := [u.C]))
theorem uc_heldLog (u : LW) (k : Int) (st : St) (hR : RdL st (mkLog u k).p (mkLog u k).l) (hC : Rows st 2 cSV u.p u.l) (hb : bigLog u.v.x) (h0 : 0 ≤ k) (hk : k + (cntLog u.v.x : Int) ≤ 137438953472) : C 36 [.agg #[vI u.cap, vI u.frm, vS u.p u.l.length], vI k] st (fun v s => v = vI (k + (cntLog u.v.x : Int)) ∧ Pres st s) := by
  have hc : cntLog u.v.x = cntL u.l := cntLog_l u.v
  refine (ac_laws_heldLog u.v k st hC hR.2 (bigLog_iff.1 hb) h0 (by simp only; omega)).mono fun v s ⟨h1, h2⟩ => ⟨h1.trans (by rw [hc]), h2⟩
end Go.Proofs.Ytopcpcoklgepnaa.AM
