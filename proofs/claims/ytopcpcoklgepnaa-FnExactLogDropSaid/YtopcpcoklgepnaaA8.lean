/- The abstract machine's regions whose order the model draws: whatever order is drawn, the text's own order tells the outcome. -/
import Derived.Test.YtopcpcoklgepnaaA7
namespace Go.Proofs.Ytopcpcoklgepnaa.AM
open Go Go.RowKit
set_option linter.unusedVariables false
set_option linter.unusedSimpArgs false

section
variable {P : Program}

abbrev S3 := Tm × Lo × St
def StepAt (P : Program) (ls : List Tmp) (call : ACallT) (ops : Array Oper) (n0 : Nat) (fl ld : Nat → Bool) (j : Nat) (s s' : S3) (v : Value) : Prop := ∃ o, ops[j]? = some o ∧
  ((aguard ops s.1 o = some true ∧ aoper P ls call o (ev s.1) s.2.1 s.2.2 = some (v, s'.2.1, s'.2.2) ∧ s'.1 = Tm.putO s.1 o.dst v ∧ (fl j = true → ∀ a, a < n0 → s'.2.2.mem a = s.2.2.mem a) ∧ (ld j = true → ∀ t x, o.op = .load t x → ∀ p, ev s.1 x = .pointer (some p) → p.spot = none → p.block < n0)) ∨
   (aguard ops s.1 o = some false ∧ v = skipV ∧ s' = (Tm.putO s.1 o.dst skipV, s.2.1, s.2.2)))

theorem trace_of {ls : List Tmp} {call : ACallT} {ops : Array Oper} {n0 : Nat} {fl ld : Nat → Bool} {fin : S3} : ∀ (os : List Oper) (i : Nat) (s : S3), ops.toList.drop i = os → aops P ls call ops n0 fl ld os i s.1 s.2.1 s.2.2 = some fin →
    ∃ (S : Nat → S3) (V : Nat → Value), S i = s ∧ S (max i ops.size) = fin ∧ ∀ j, i ≤ j → j < ops.size → StepAt P ls call ops n0 fl ld j (S j) (S (j + 1)) (V j) := by
  intro os
  induction os with
  | nil =>
    intro i s hd hs
    simp only [aops, Option.some.injEq] at hs
    have : ops.size ≤ i := by
      have := congrArg List.length hd
      simp at this
      omega
    exact ⟨fun _ => s, fun _ => undef, rfl, hs, fun j h1 h2 => by omega⟩
  | cons o os ih =>
    intro i s hd hs
    have hlt : i < ops.size := by
      have := congrArg List.length hd
      simp at this
      omega
    have hoi : ops[i]? = some o := by
      have := congrArg (fun l => l[0]?) hd
      simp only [List.getElem?_drop, Nat.add_zero, List.getElem?_cons_zero] at this
      simpa using this
    have hd' : ops.toList.drop (i + 1) = os := by
      have := congrArg List.tail hd
      simpa using this
    have fin' : ∀ (s1 : S3) (v : Value), aops P ls call ops n0 fl ld os (i + 1) s1.1 s1.2.1 s1.2.2 = some fin → StepAt P ls call ops n0 fl ld i s s1 v →
        ∃ (S : Nat → S3) (V : Nat → Value), S i = s ∧ S (max i ops.size) = fin ∧ ∀ j, i ≤ j → j < ops.size → StepAt P ls call ops n0 fl ld j (S j) (S (j + 1)) (V j) := by
      intro s1 v h1 h2
      obtain ⟨S, V, hS, hfin, hst⟩ := ih (i + 1) s1 hd' h1
      refine ⟨fun j => if j = i then s else S j, fun j => if j = i then v else V j, if_pos rfl, ?_, fun j h3 h4 => ?_⟩
      · show (if max i ops.size = i then s else S (max i ops.size)) = fin
        rw [if_neg (by omega), ← hfin]
        congr 1
        omega
      · show StepAt P ls call ops n0 fl ld j (if j = i then s else S j) (if j + 1 = i then s else S (j + 1)) (if j = i then v else V j)
        rw [if_neg (show ¬ j + 1 = i by omega)]
        by_cases hj : j = i
        · rw [if_pos hj, if_pos hj, hj, hS]
          exact h2
        · rw [if_neg hj, if_neg hj]
          exact hst j (by omega) h4
    unfold aops at hs
    split at hs
    · rename_i hg
      split at hs
      · rename_i v lo1 st1 ho
        split at hs
        · rename_i hc
          exact fin' (Tm.putO s.1 o.dst v, lo1, st1) v hs ⟨o, hoi, .inl ⟨hg, ho, rfl, hc.1, hc.2⟩⟩
        · cases hs
      · cases hs
    · rename_i hg
      exact fin' (Tm.putO s.1 o.dst skipV, s.2.1, s.2.2) skipV hs ⟨o, hoi, .inr ⟨hg, rfl, rfl⟩⟩
    · cases hs

/-! Congruences -/
theorem parts_congr {e e' : Operand → Value} {ps : Array (Nat × Operand)} (h : ∀ p ∈ ps, e p.2 = e' p.2) : parts e ps = parts e' ps := by
  unfold parts
  exact List.map_congr_left fun p hp => by rw [h p (Array.mem_toList_iff.1 hp)]
theorem rop_congr {o : Op} {e e' : Operand → Value} {rd : Nat → Option Nat → Option (List Value)} (h : ∀ x ∈ o.operands, e x = e' x) : rop P o e rd = rop P o e' rd := by
  cases o <;> simp only [Op.operands] at h <;> simp only [rop]
  case build t ps => rw [parts_congr fun p hp => h p.2 (by simp; exact ⟨p.1, hp⟩)]
  case slice t x lo hi mx => cases lo <;> cases hi <;> cases mx <;> simp_all [rop]
  case makeFunc fn fs cs => cases fn <;> rfl
  case call c =>
    have hargs : c.args.map e = c.args.map e' := Array.map_congr_left fun x hx => h x (by simp [Call.operands, hx])
    rw [hargs]
  all_goals (first | rfl | (simp_all; done))
theorem rop_rd {o : Op} {e : Operand → Value} {rd rd' : Nat → Option Nat → Option (List Value)} (h : readsMem o = false) : rop P o e rd = rop P o e rd' := by
  cases o
  case slice t x lo hi mx => cases lo <;> cases hi <;> cases mx <;> rfl
  case makeFunc fn fs cs => cases fn <;> rfl
  all_goals first | rfl | (simp [readsMem] at h)
theorem aoper_congr {ls : List Tmp} {call : ACallT} {o : Oper} {e e' : Operand → Value} {lo : Lo} {st : St} (h : ∀ x ∈ o.op.operands, e x = e' x) : aoper P ls call o e lo st = aoper P ls call o e' lo st := by
  obtain ⟨dst, op, type, pos, after, guard⟩ := o
  simp only at h
  have hr := rop_congr (P := P) (rd := rdB lo st) h
  cases op <;> simp only [Op.operands] at h <;> simp only [aoper]
  case buildSlice t k ps => rw [hr, parts_congr fun p hp => h p.2 (by simp; exact ⟨p.1, hp⟩)]
  case call c =>
    have hargs : c.args.toList.map e = c.args.toList.map e' := List.map_congr_left fun x hx => h x (by simp [Call.operands]; exact .inr (Array.mem_toList_iff.1 hx))
    cases hc : c.callee with
    | value f =>
      have hf : e f = e' f := h f (by simp [Call.operands, hc])
      simp only [hf, hargs]
    | invoke r m => simp only; rw [hr]
    | builtin b =>
      cases b <;> simp only <;> first
        | (rw [hr]; done)
        | (have ha : aappend P c e lo st = aappend P c e' lo st := by
             have ht : ∀ x ∈ c.args.toList, e x = e' x := fun x hx => h x (by simp [Call.operands, hc]; exact Array.mem_toList_iff.1 hx)
             unfold aappend
             split
             · rename_i t u ov ox h1 h2
               rw [h2] at ht
               rw [ht ov (by simp), ht ox (by simp)]
             · rfl
           rw [ha])
  all_goals (first | (rw [hr]; done) | rfl | (simp_all; done))

/-- What does not write leaves all as it is. -/
theorem aoper_R {ls : List Tmp} {call : ACallT} {o : Oper} {e : Operand → Value} {lo lo' : Lo} {st st' : St} {v : Value} (hE : isE P o.op = false) (h : aoper P ls call o e lo st = some (v, lo', st')) :
    lo' = lo ∧ st' = st ∧ rop P o.op e (rdB lo st) = some v ∧ ∀ lo1 st1, rop P o.op e (rdB lo1 st1) = some v → aoper P ls call o e lo1 st1 = some (v, lo1, st1) := by
  obtain ⟨dst, op, type, pos, after, guard⟩ := o
  simp only at hE h ⊢
  have key : (rop P op e (rdB lo st)).map (fun v => (v, lo, st)) = some (v, lo', st') → lo' = lo ∧ st' = st ∧ rop P op e (rdB lo st) = some v := by
    intro hk
    obtain ⟨u, hu, he⟩ := Option.map_eq_some_iff.1 hk
    simp only [Prod.mk.injEq] at he
    obtain ⟨rfl, rfl, rfl⟩ := he
    exact ⟨rfl, rfl, hu⟩
  cases op <;> simp only [isE, reduceCtorEq] at hE <;> simp only [aoper] at h ⊢
  case buildSlice t n ps =>
    have hn : n = 0 := by simpa using hE
    subst hn
    simp only [if_true] at h ⊢
    obtain ⟨h1, h2, h3⟩ := key h
    exact ⟨h1, h2, h3, fun lo1 st1 hr => by rw [hr]; rfl⟩
  case convert src dst x =>
    have hn : telem P dst = none := by cases ht : telem P dst <;> simp_all
    rw [hn] at h ⊢
    simp only at h ⊢
    obtain ⟨h1, h2, h3⟩ := key h
    exact ⟨h1, h2, h3, fun lo1 st1 hr => by
      have : aconv P src dst (rdB lo1 st1) (e x) = some v := hr
      rw [this]; rfl⟩
  case call c =>
    cases hc : c.callee with
    | value f => rw [hc] at hE; simp at hE
    | invoke r m =>
      rw [hc] at h
      simp only at h ⊢
      obtain ⟨h1, h2, h3⟩ := key h
      exact ⟨h1, h2, h3, fun lo1 st1 hr => by rw [hr]; rfl⟩
    | builtin b =>
      rw [hc] at h hE
      cases b <;> simp only [reduceCtorEq] at h hE ⊢
      all_goals
        obtain ⟨h1, h2, h3⟩ := key h
        exact ⟨h1, h2, h3, fun lo1 st1 hr => by rw [hr]; rfl⟩
  all_goals
    obtain ⟨h1, h2, h3⟩ := key h
    exact ⟨h1, h2, h3, fun lo1 st1 hr => by rw [hr]; rfl⟩
theorem amake_lo {t : TypeId} {l c : Value} {lo : Lo} {st : St} {r : Value × Lo × St} (h : amake P t l c lo st = some r) : r.2.1 = lo := by
  unfold amake at h
  split at h
  · simp only [Option.bind_eq_some_iff] at h
    obtain ⟨e, _, z, _, b, _, z0, _, h⟩ := h
    split at h
    · injection h with h; rw [← h]
    · cases h
  · cases h
theorem alit_lo {t : TypeId} {n : Nat} {ps : List (Nat × Value)} {lo : Lo} {st : St} {r : Value × Lo × St} (h : alit P t n ps lo st = some r) : r.2.1 = lo := by
  unfold alit at h
  simp only [Option.bind_eq_some_iff] at h
  obtain ⟨e, _, z, _, z0, _, h⟩ := h
  split at h
  · obtain ⟨c, _, h⟩ := Option.map_eq_some_iff.1 h
    rw [← h]
  · cases h
theorem aappend_lo {c : Call} {e : Operand → Value} {lo : Lo} {st : St} {r : Value × Lo × St} (h : aappend P c e lo st = some r) : r.2.1 = lo := by
  unfold aappend at h
  split at h
  · split at h
    · simp only [Option.bind_eq_some_iff] at h
      obtain ⟨e, _, z, _, b, _, z0, _, h⟩ := h
      split at h
      · obtain ⟨s, _, h⟩ := Option.bind_eq_some_iff.1 h
        obtain ⟨c, _, h⟩ := Option.map_eq_some_iff.1 h
        rw [← h]
      · cases h
    · cases h
  · cases h
theorem aoper_call {ls : List Tmp} {call : ACallT} {o : Oper} {e : Operand → Value} {lo lo' : Lo} {st st' : St} {v : Value} (hC : isCall o.op = true) (h : aoper P ls call o e lo st = some (v, lo', st')) : lo' = lo := by
  obtain ⟨dst, op, type, pos, after, guard⟩ := o
  cases op <;> simp only [isCall, reduceCtorEq] at hC
  case makeSlice t l c => exact amake_lo (r := (v, lo', st')) h
  case buildSlice t n ps =>
    have hn : ¬ n = 0 := by simpa using hC
    simp only [aoper] at h
    rw [if_neg hn] at h
    exact alit_lo (r := (v, lo', st')) h
  rename_i c
  simp only [aoper] at h
  split at hC
  · rename_i f hf
    rw [hf] at h
    simp only at h
    split at h
    · split at h
      · obtain ⟨r, _, he⟩ := Option.map_eq_some_iff.1 h
        simp only [Prod.mk.injEq] at he
        exact he.2.1.symm
      · cases h
    · cases h
  · rename_i hf
    rw [hf] at h
    simp only at h
    exact aappend_lo (r := (v, lo', st')) h
  · cases hC

/-! What a region's text shows -/
theorem pairs_at {ops : Array Oper} {b : Array Nat} (h : pairsOk P ops b = true) {i j : Nat} {x y : Oper} (hi : ops[i]? = some x) (hj : ops[j]? = some y) (hij : i < j) : clash P ops b i j x y = true := by
  unfold pairsOk at h
  rw [List.all_eq_true] at h
  have h1 := h (y, j) (by rw [List.mem_zipIdx_iff_getElem?]; simpa using hj)
  simp only at h1
  rw [List.all_eq_true] at h1
  have h2 := h1 (x, i) (by rw [List.mem_zipIdx_iff_getElem?]; simpa using hi)
  simpa [hij] using h2
theorem edges_at {ops : Array Oper} (h : edgesOk ops = true) {i : Nat} {o : Oper} (hi : ops[i]? = some o) : ∀ e ∈ o.after, Region.binds .any e = true → e.on < i := by
  unfold edgesOk at h
  rw [List.all_eq_true] at h
  have h1 := h (o, i) (by rw [List.mem_zipIdx_iff_getElem?]; simpa using hi)
  simp only at h1
  rw [List.all_eq_true] at h1
  intro e he hb
  have := h1 e (Array.mem_toList_iff.2 he)
  rw [hb] at this
  simpa using this
theorem rank_at {md : Region.Mode} {ops : Array Oper} (h : rankOk md ops = true) : ∃ r : Nat → Nat, ∀ (j : Nat) o, ops[j]? = some o → ∀ e ∈ o.after, Region.binds md e = true → e.on < ops.size ∧ r e.on < r j := by
  refine ⟨fun i => (Region.linearise md ops 0).idxOf i, fun j o hj e he hb => ?_⟩
  unfold rankOk at h
  rw [List.all_eq_true] at h
  have h1 := h (o, j) (by rw [List.mem_zipIdx_iff_getElem?]; simpa using hj)
  simp only at h1
  rw [List.all_eq_true] at h1
  have := h1 e (Array.mem_toList_iff.2 he)
  rw [hb] at this
  simpa using this
theorem rank_any {ops : Array Oper} (h : edgesOk ops = true) : ∃ r : Nat → Nat, ∀ (j : Nat) o, ops[j]? = some o → ∀ e ∈ o.after, Region.binds .any e = true → e.on < ops.size ∧ r e.on < r j :=
  ⟨fun i => i, fun j o hj e he hb => by
    have h1 := edges_at h hj e he hb
    have h2 := (Array.getElem?_eq_some_iff.1 hj).1
    exact ⟨by omega, h1⟩⟩
theorem binds_all {md : Region.Mode} {e : Edge} (h : Region.binds .any e = true) : Region.binds md e = true := by
  unfold Region.binds at h ⊢
  cases hg : e.ground <;> rw [hg] at h <;> first | rfl | (simp at h; done) | (cases h)
theorem clos_at {ops : Array Oper} {b : Array Nat} (h : closOk ops b = true) {i j : Nat} {o : Oper} (hj : ops[j]? = some o) (hi : i < ops.size) (hb : isBefore b i j = true) : ∃ e ∈ o.after, Region.binds .any e = true ∧ (e.on = i ∨ isBefore b i e.on = true) := by
  unfold closOk at h
  rw [List.all_eq_true] at h
  have h1 := h (o, j) (by rw [List.mem_zipIdx_iff_getElem?]; simpa using hj)
  simp only at h1
  rw [List.all_eq_true] at h1
  have h2 := h1 i (List.mem_range.2 hi)
  rw [hb] at h2
  simp only [Bool.not_true, Bool.false_or, List.any_eq_true, Bool.and_eq_true, Bool.or_eq_true, beq_iff_eq] at h2
  obtain ⟨e, he, h4, h3⟩ := h2
  exact ⟨e, Array.mem_toList_iff.1 he, h4, h3⟩

/-- A set of operations that holds, with each, all that lies before it. -/
theorem closed_before {ops : Array Oper} {b : Array Nat} (he : edgesOk ops = true) (hc : closOk ops b = true) {D : Nat → Prop} (hD : ∀ j o, ops[j]? = some o → D j → ∀ e ∈ o.after, Region.binds .any e = true → D e.on) :
    ∀ (j i : Nat), j < ops.size → i < ops.size → isBefore b i j = true → (∀ o, ops[j]? = some o → ∀ e ∈ o.after, Region.binds .any e = true → D e.on) → D i := by
  intro j
  induction j using Nat.strongRecOn with
  | _ j ih =>
    intro i hj hi hb hDj
    have hoj : ops[j]? = some ops[j] := Array.getElem?_eq_getElem hj
    obtain ⟨e, hem, hbe, hor⟩ := clos_at hc hoj hi hb
    have hen := edges_at he hoj e hem hbe
    rcases hor with h1 | h1
    · rw [← h1]; exact hDj _ hoj e hem hbe
    · have hDe := hDj _ hoj e hem hbe
      exact ih e.on hen i (by omega) hi h1 (fun o ho => hD e.on o ho hDe)

theorem looks_opnd {ops : Array Oper} {o : Oper} {t : Tmp} (h : Operand.tmp t ∈ o.op.operands) : t ∈ o.looksAt ops := by
  unfold Oper.looksAt
  exact List.mem_append_left _ (List.mem_filterMap.2 ⟨.tmp t, Array.mem_toList_iff.2 h, rfl⟩)
theorem looks_guard {ops : Array Oper} {o : Oper} {j : Nat} {want : Bool} {t : Tmp} (hg : o.guard = some (j, want)) (ht : (ops[j]?).bind (·.dst) = some t) : t ∈ o.looksAt ops := by
  unfold Oper.looksAt
  refine List.mem_append_right _ ?_
  rw [hg]
  simp only [ht]
  simp
theorem ev_agree {ops : Array Oper} {ρ ρ' : Tm} {o : Oper} (h : ∀ t ∈ o.looksAt ops, ρ t = ρ' t) : (∀ x ∈ o.op.operands, ev ρ x = ev ρ' x) ∧ aguard ops ρ o = aguard ops ρ' o := by
  refine ⟨fun x hx => ?_, ?_⟩
  · cases x with
    | tmp t => exact h t (looks_opnd hx)
    | _ => rfl
  · unfold aguard
    split
    · rfl
    · rename_i j want hg
      split
      · rename_i t ht
        rw [h t (looks_guard hg ht)]
      · rfl

/-- What the places hold, where the operations D have run. -/
def Holds (ops : Array Oper) (ρ0 : Tm) (V : Nat → Value) (D : Nat → Prop) (ρ : Tm) : Prop := ∀ t,
  (∃ j o, ops[j]? = some o ∧ D j ∧ o.dst = some t ∧ (∀ j' o', ops[j']? = some o' → D j' → o'.dst = some t → j' ≤ j) ∧ ρ t = V j) ∨ ((∀ j o, ops[j]? = some o → D j → o.dst ≠ some t) ∧ ρ t = ρ0 t)
theorem Holds.same {ops : Array Oper} {ρ0 : Tm} {V : Nat → Value} {D D' : Nat → Prop} {ρ ρ' : Tm} (h : Holds ops ρ0 V D ρ) (h' : Holds ops ρ0 V D' ρ') {t : Tmp} (ht : ∀ j o, ops[j]? = some o → o.dst = some t → (D j ↔ D' j)) : ρ t = ρ' t := by
  rcases h t with ⟨j, o, ho, hj, hd, hm, hv⟩ | ⟨hn, hv⟩ <;> rcases h' t with ⟨j', o', ho', hj', hd', hm', hv'⟩ | ⟨hn', hv'⟩
  · have h1 := hm j' o' ho' ((ht j' o' ho' hd').2 hj') hd'
    have h2 := hm' j o ho ((ht j o ho hd).1 hj) hd
    have : j = j' := by omega
    rw [hv, hv', this]
  · exact absurd hd (hn' j o ho ((ht j o ho hd).1 hj))
  · exact absurd hd' (hn j' o' ho' ((ht j' o' ho' hd').2 hj'))
  · rw [hv, hv']
theorem Holds.step {ops : Array Oper} {ρ0 : Tm} {V : Nat → Value} {D : Nat → Prop} {ρ : Tm} (h : Holds ops ρ0 V D ρ) {i : Nat} {o : Oper} (ho : ops[i]? = some o) (hlast : ∀ j o', ops[j]? = some o' → D j → (∃ t, o.dst = some t ∧ o'.dst = some t) → j ≤ i) :
    Holds ops ρ0 V (fun j => D j ∨ j = i) (Tm.putO ρ o.dst (V i)) := by
  intro t
  cases hd : o.dst with
  | none =>
    rcases h t with ⟨j, o1, ho1, hj, hd1, hm, hv⟩ | ⟨hn, hv⟩
    · refine .inl ⟨j, o1, ho1, .inl hj, hd1, fun j' o' ho' hj' hd' => ?_, hv⟩
      rcases hj' with hj' | rfl
      · exact hm j' o' ho' hj' hd'
      · rw [ho] at ho'; injection ho' with ho'; rw [← ho', hd] at hd'; cases hd'
    · refine .inr ⟨fun j o' ho' hj' hd' => ?_, hv⟩
      rcases hj' with hj' | rfl
      · exact hn j o' ho' hj' hd'
      · rw [ho] at ho'; injection ho' with ho'; rw [← ho', hd] at hd'; cases hd'
  | some d =>
    by_cases htd : t = d
    · subst htd
      refine .inl ⟨i, o, ho, .inr rfl, hd, fun j' o' ho' hj' hd' => ?_, if_pos rfl⟩
      rcases hj' with hj' | rfl
      · exact hlast j' o' ho' hj' ⟨t, hd, hd'⟩
      · exact Nat.le_refl _
    · have hput : Tm.putO ρ (some d) (V i) t = ρ t := if_neg htd
      rw [hput]
      rcases h t with ⟨j, o1, ho1, hj, hd1, hm, hv⟩ | ⟨hn, hv⟩
      · refine .inl ⟨j, o1, ho1, .inl hj, hd1, fun j' o' ho' hj' hd' => ?_, hv⟩
        rcases hj' with hj' | rfl
        · exact hm j' o' ho' hj' hd'
        · rw [ho] at ho'; injection ho' with ho'; rw [← ho', hd] at hd'; injection hd' with hd'; exact absurd hd'.symm htd
      · refine .inr ⟨fun j o' ho' hj' hd' => ?_, hv⟩
        rcases hj' with hj' | rfl
        · exact hn j o' ho' hj' hd'
        · rw [ho] at ho'; injection ho' with ho'; rw [← ho', hd] at hd'; injection hd' with hd'; exact absurd hd'.symm htd

/-- How many are still to run. -/
def left (listed : Array Bool) : Nat → Nat
  | 0 => 0
  | k + 1 => left listed k + (if listed.getD k true = true then 0 else 1)
theorem left_set {listed : Array Bool} {i : Nat} (hi : listed.getD i true = false) : ∀ k, left (listed.setIfInBounds i true) k + (if i < k then 1 else 0) = left listed k
  | 0 => by simp [left]
  | k + 1 => by
    have ih := left_set hi k
    have hlt : i < listed.size := by
      rcases Nat.lt_or_ge i listed.size with h | h
      · exact h
      · rw [Array.getD_eq_getD_getElem?, Array.getElem?_eq_none h] at hi; cases hi
    simp only [left]
    by_cases hk : k = i
    · subst hk
      have h1 : (listed.setIfInBounds k true).getD k true = true := by rw [Array.getD_eq_getD_getElem?, Array.getElem?_setIfInBounds_self_of_lt hlt]; rfl
      rw [h1, hi]
      simp only [Nat.lt_irrefl, if_false] at ih
      simp only [if_true, Bool.false_eq_true, if_false, Nat.lt_succ_self]
      omega
    · rw [getD_set_ne true (Ne.symm hk)]
      by_cases h2 : i < k
      · rw [if_pos (show i < k + 1 by omega)]; rw [if_pos h2] at ih; omega
      · rw [if_neg (show ¬ i < k + 1 by omega)]; rw [if_neg h2] at ih; omega
theorem left_zero {listed : Array Bool} : ∀ k, left listed k = 0 → ∀ i, i < k → listed.getD i true = true
  | 0, _, i, hi => by omega
  | k + 1, h, i, hi => by
    simp only [left] at h
    rcases Nat.lt_or_ge i k with h1 | h1
    · exact left_zero k (by omega) i h1
    · have : i = k := by omega
      subst this
      by_cases h2 : listed.getD i true = true
      · exact h2
      · rw [if_neg h2] at h; omega
theorem left_le {listed : Array Bool} : ∀ k, left listed k ≤ k
  | 0 => Nat.le_refl _
  | k + 1 => by
    have := left_le (listed := listed) k
    simp only [left]
    split <;> omega


theorem before_lt {ops : Array Oper} {b : Array Nat} (he : edgesOk ops = true) (hc : closOk ops b = true) : ∀ (j i : Nat), j < ops.size → i < ops.size → isBefore b i j = true → i < j := by
  intro j
  induction j using Nat.strongRecOn with
  | _ j ih =>
    intro i hj hi hb
    have hoj : ops[j]? = some ops[j] := Array.getElem?_eq_getElem hj
    obtain ⟨e, hem, hbe, hor⟩ := clos_at hc hoj hi hb
    have hen := edges_at he hoj e hem hbe
    rcases hor with h1 | h1
    · omega
    · have := ih e.on hen i (by omega) hi h1
      omega

theorem clash_or {ops : Array Oper} {b : Array Nat} {i j : Nat} {x y : Oper} (h : clash P ops b i j x y = true) : isBefore b i j = true ∨
    ((isE P x.op = true → isE P y.op = true → False) ∧ x.apart ops y = true ∧ y.apart ops x = true ∧ (readsMem x.op = true → isE P y.op = true → isLoad x.op = true ∧ isCall y.op = true) ∧ (readsMem y.op = true → isE P x.op = true → isLoad y.op = true ∧ isCall x.op = true)) := by
  unfold clash at h
  cases hb : isBefore b i j with
  | true => exact .inl rfl
  | false =>
    rw [hb] at h
    simp only [Bool.false_or, Bool.and_eq_true, Bool.or_eq_true, Bool.not_eq_true', Bool.and_eq_false_iff] at h
    obtain ⟨⟨⟨⟨h1, h2⟩, h3⟩, h4⟩, h5⟩ := h
    refine .inr ⟨fun hx hy => ?_, h2, h3, fun hx hy => ?_, fun hx hy => ?_⟩
    · rcases h1 with h1 | h1
      · rw [hx] at h1; cases h1
      · rw [hy] at h1; cases h1
    · rcases h4 with (h4 | h4) | h4
      · rw [hx] at h4; cases h4
      · rw [hy] at h4; cases h4
      · exact h4
    · rcases h5 with (h5 | h5) | h5
      · rw [hx] at h5; cases h5
      · rw [hy] at h5; cases h5
      · exact h5

theorem apart_dst {ops : Array Oper} {x y : Oper} (h : x.apart ops y = true) {t : Tmp} (hx : x.dst = some t) : t ∉ y.looksAt ops ∧ y.dst ≠ some t := by
  unfold Oper.apart at h
  rw [hx] at h
  simp only [Bool.and_eq_true, Bool.not_eq_true', bne_iff_ne, ne_eq] at h
  refine ⟨fun hm => ?_, h.1.2⟩
  have := h.1.1
  rw [List.contains_iff_mem.2 hm] at this
  cases this

/-- Two places in the trace between which no operation that writes lies. -/
theorem trace_quiet {ls : List Tmp} {call : ACallT} {ops : Array Oper} {n0 : Nat} {fl ld : Nat → Bool} {S : Nat → S3} {V : Nat → Value} (hst : ∀ j, j < ops.size → StepAt P ls call ops n0 fl ld j (S j) (S (j + 1)) (V j)) :
    ∀ (d l : Nat), l + d ≤ ops.size → (∀ j o, l ≤ j → j < l + d → ops[j]? = some o → isE P o.op = false) → (S (l + d)).2 = (S l).2 := by
  intro d
  induction d with
  | zero => intro l _ _; rfl
  | succ d ih =>
    intro l hl hq
    rw [← ih l (by omega) fun j o h1 h2 h3 => hq j o h1 (by omega) h3]
    obtain ⟨o, ho, hor⟩ := hst (l + d) (by omega)
    rcases hor with ⟨_, ha, _, _, _⟩ | ⟨_, _, hs⟩
    · obtain ⟨h1, h2, _⟩ := aoper_R (hq (l + d) o (by omega) (by omega) ho) ha
      exact Prod.ext h1 h2
    · rw [show l + (d + 1) = l + d + 1 from rfl, hs]
/-- .. or only calls that leave the old memory as it is. -/
theorem trace_calls {ls : List Tmp} {call : ACallT} {ops : Array Oper} {n0 : Nat} {fl ld : Nat → Bool} {S : Nat → S3} {V : Nat → Value} (hst : ∀ j, j < ops.size → StepAt P ls call ops n0 fl ld j (S j) (S (j + 1)) (V j)) :
    ∀ (d l : Nat), l + d ≤ ops.size → (∀ j o, l ≤ j → j < l + d → ops[j]? = some o → isE P o.op = true → isCall o.op = true ∧ fl j = true) → (S (l + d)).2.1 = (S l).2.1 ∧ ∀ a, a < n0 → (S (l + d)).2.2.mem a = (S l).2.2.mem a := by
  intro d
  induction d with
  | zero => intro l _ _; exact ⟨rfl, fun _ _ => rfl⟩
  | succ d ih =>
    intro l hl hq
    obtain ⟨h1, h2⟩ := ih l (by omega) fun j o h1 h2 h3 => hq j o h1 (by omega) h3
    rw [← h1, show l + (d + 1) = l + d + 1 from rfl]
    obtain ⟨o, ho, hor⟩ := hst (l + d) (by omega)
    rcases hor with ⟨_, ha, _, hf, _⟩ | ⟨_, _, hs⟩
    · cases hE : isE P o.op with
      | false =>
        obtain ⟨h3, h4, _⟩ := aoper_R hE ha
        exact ⟨h3, fun a ha => by rw [h4]; exact h2 a ha⟩
      | true =>
        obtain ⟨hc, hfl⟩ := hq (l + d) o (by omega) (by omega) ho hE
        exact ⟨aoper_call hc ha, fun a ha => by rw [hf hfl a ha]; exact h2 a ha⟩
    · rw [hs]; exact ⟨rfl, h2⟩

theorem rdB_same {lo lo' : Lo} {st st' : St} (hl : lo = lo') {b : Nat} {s : Option Nat} (h : s = none → st.mem b = st'.mem b) : rdB lo st b s = rdB lo' st' b s := by
  subst hl
  cases s with
  | none => simp only [rdB]; rw [h rfl]
  | some g => rfl

theorem flOf_of {ops : Array Oper} {i j : Nat} {x y : Oper} (hi : ops[i]? = some x) (hj : ops[j]? = some y) (hc : isCall x.op = true) (hl : isLoad y.op = true) (hf : free (Region.before ops) i j = true) : flOf P ops i = true := by
  unfold flOf
  rw [hi]
  simp only [hc, Bool.true_and, List.any_eq_true]
  exact ⟨(y, j), by rw [List.mem_zipIdx_iff_getElem?]; simpa using hj, by simp [hl, hf]⟩
theorem ldOf_of {ops : Array Oper} {i j : Nat} {x y : Oper} (hi : ops[i]? = some x) (hj : ops[j]? = some y) (hc : isLoad x.op = true) (hl : isE P y.op = true) (hf : free (Region.before ops) i j = true) : ldOf P ops i = true := by
  unfold ldOf
  rw [hi]
  simp only [hc, Bool.true_and, List.any_eq_true]
  exact ⟨(y, j), by rw [List.mem_zipIdx_iff_getElem?]; simpa using hj, by simp [hl, hf]⟩

theorem draw_go {md : Region.Mode} {call : ACallT} (hcall : CallsOK P call) {i : FInfo} {n : Nat} {ops : Array Oper} {ι0 : Inj} {w0 : World} {Q : Exit → Act → World → Prop} {S : Nat → S3} {V : Nat → Value} {n0 : Nat}
    (hall : ∀ o ∈ ops.toList, escOk P.globals.size i.ls i.T o = true ∧ dstOk n o = true) (hdr : drawOk P ops = true) (hrk : ∃ r : Nat → Nat, ∀ (j : Nat) o, ops[j]? = some o → ∀ e ∈ o.after, Region.binds md e = true → e.on < ops.size ∧ r e.on < r j)
    (hst : ∀ j, j < ops.size → StepAt P i.ls call ops n0 (flOf P ops) (ldOf P ops) j (S j) (S (j + 1)) (V j))
    (hQ : ∀ ι' a' w', SRel P i.T n ι' (S ops.size).2.1 (S ops.size).2.2 (S ops.size).1 a' w' → Goes ι0 (S 0).2.1 (S 0).2.2 w0 ι' (S ops.size).2.1 (S ops.size).2.2 w' → Q .normal a' w') :
    ∀ (fuel : Nat) (listed : Array Bool) (m : Nat) (ρ : Tm) (ι : Inj) (a : Act) (w : World), listed.size = ops.size → (∀ j o, ops[j]? = some o → listed.getD j true = true → ∀ e ∈ o.after, Region.binds .any e = true → listed.getD e.on true = true) →
      m ≤ ops.size → (∀ j o, j < m → ops[j]? = some o → isE P o.op = true → listed.getD j true = true) → (∀ j o, m ≤ j → ops[j]? = some o → isE P o.op = true → listed.getD j true = false) →
      SRel P i.T n ι (S m).2.1 (S m).2.2 ρ a w → Holds ops (S 0).1 V (fun j => listed.getD j true = true) ρ → Goes ι0 (S 0).2.1 (S 0).2.2 w0 ι (S m).2.1 (S m).2.2 w → left listed ops.size ≤ fuel →
      wpAny P md ops Q fuel listed a w := by
  simp only [drawOk, Bool.and_eq_true] at hdr
  obtain ⟨⟨⟨hedge, hclos⟩, hpair⟩, _⟩ := hdr
  obtain ⟨rk, hrk⟩ := hrk
  have hget : ∀ (j : Nat) (hj : j < ops.size), ops[j]? = some ops[j] := fun j hj => Array.getElem?_eq_getElem hj
  have hlt : ∀ {j : Nat} {o : Oper}, ops[j]? = some o → j < ops.size := fun h => (Array.getElem?_eq_some_iff.1 h).1
  -- what the trace's own places hold
  have hTr : ∀ k, k ≤ ops.size → Holds ops (S 0).1 V (fun j => j < k) (S k).1 := by
    intro k
    induction k with
    | zero => intro _ t; exact .inr ⟨fun j o _ hj => absurd hj (Nat.not_lt_zero _), rfl⟩
    | succ k ih =>
      intro hk
      obtain ⟨o, ho, hor⟩ := hst k (by omega)
      have h1 := (ih (by omega)).step ho (fun j o' _ hj _ => Nat.le_of_lt hj)
      have h2 : (S (k + 1)).1 = Tm.putO (S k).1 o.dst (V k) := by
        rcases hor with ⟨_, _, h, _, _⟩ | ⟨_, hv, h⟩
        · exact h
        · rw [h, hv]
      rw [h2, show (fun j => j < k + 1) = (fun j => j < k ∨ j = k) from funext fun j => propext (by omega)]
      exact h1
  intro fuel
  have done : ∀ (listed : Array Bool) (m : Nat) (ρ : Tm) (ι : Inj) (a : Act) (w : World), listed.size = ops.size → m ≤ ops.size → (∀ j o, m ≤ j → ops[j]? = some o → isE P o.op = true → listed.getD j true = false) →
      SRel P i.T n ι (S m).2.1 (S m).2.2 ρ a w → Holds ops (S 0).1 V (fun j => listed.getD j true = true) ρ → Goes ι0 (S 0).2.1 (S 0).2.2 w0 ι (S m).2.1 (S m).2.2 w → Region.ready md ops listed = [] → Q .normal a w := by
    intro listed m ρ ι a w hsz hm he2 hrel hH hgo hnil
    have hfull' : ∀ n j, rk j ≤ n → j < ops.size → listed.getD j true = true := by
      intro n
      induction n using Nat.strongRecOn with
      | _ n ih =>
        intro j hn hj
        cases hl : listed.getD j true with
        | true => rfl
        | false =>
          have hr : j ∈ Region.ready md ops listed := mem_ready.2 ⟨hl, ops[j], hget j hj, fun e he hbe => by
            obtain ⟨hsz', hlt'⟩ := hrk j ops[j] (hget j hj) e he hbe
            have := ih (rk e.on) (by omega) e.on (Nat.le_refl _) hsz'
            rw [Array.getD_eq_getD_getElem?, Array.getElem?_eq_getElem (by omega)] at this ⊢
            exact this⟩
          rw [hnil] at hr
          cases hr
    have hfull : ∀ j, j < ops.size → listed.getD j true = true := fun j hj => hfull' _ j (Nat.le_refl _) hj
    have hS : (S ops.size).2 = (S m).2 := by
      have := trace_quiet hst (ops.size - m) m (by omega) (fun j o h1 h2 ho => by
        cases hE : isE P o.op with
        | false => rfl
        | true => have := he2 j o h1 ho hE; rw [hfull j (hlt ho)] at this; cases this)
      rwa [show m + (ops.size - m) = ops.size by omega] at this
    have hρ : ρ = (S ops.size).1 := funext fun t => hH.same (hTr ops.size (Nat.le_refl _)) fun j o ho _ => ⟨fun _ => hlt ho, fun _ => hfull j (hlt ho)⟩
    rw [← hS] at hrel hgo
    rw [hρ] at hrel
    exact hQ ι a w hrel hgo
  induction fuel with
  | zero =>
    intro listed m ρ ι a w hsz hcl hm he1 he2 hrel hH hgo hf
    have hnil : Region.ready md ops listed = [] := by
      refine List.eq_nil_iff_forall_not_mem.2 fun j hj => ?_
      obtain ⟨h0, o, ho, _⟩ := mem_ready.1 hj
      rw [left_zero ops.size (by omega) j (hlt ho)] at h0
      cases h0
    exact ⟨hnil, done listed m ρ ι a w hsz hm he2 hrel hH hgo hnil⟩
  | succ fuel ih =>
    intro listed m ρ ι a w hsz hcl hm he1 he2 hrel hH hgo hf
    refine ⟨done listed m ρ ι a w hsz hm he2 hrel hH hgo, fun k hk => ?_⟩
    obtain ⟨h0, o, ho, hready⟩ := mem_ready.1 hk
    have hkN := hlt ho
    have hDk : ∀ e ∈ o.after, Region.binds .any e = true → listed.getD e.on true = true := fun e he hbe => by
      have h1 := edges_at hedge ho e he hbe
      have := hready e he (binds_all hbe)
      rw [Array.getD_eq_getD_getElem?, Array.getElem?_eq_getElem (by omega)] at this ⊢
      exact this
    have hbef : ∀ j, j < ops.size → isBefore (Region.before ops) j k = true → listed.getD j true = true := fun j hj hb =>
      closed_before (D := fun j => listed.getD j true = true) hedge hclos hcl k j hkN hj hb (fun o' ho' => by rw [ho] at ho'; injection ho' with ho'; rw [← ho']; exact hDk)
    have hafter : ∀ j, j < ops.size → isBefore (Region.before ops) k j = true → listed.getD j true = true → False := fun j hj hb hD => by
      have := closed_before (D := fun j => listed.getD j true = true) hedge hclos hcl j k hj hkN hb (fun o' ho' => hcl j o' ho' hD)
      rw [h0] at this
      cases this
    have hmem : o ∈ ops.toList := Array.mem_toList_iff.2 (Array.mem_of_getElem? ho)
    -- the places that it looks at
    have hlook : ∀ t ∈ o.looksAt ops, ρ t = (S k).1 t := by
      intro t ht
      refine hH.same (hTr k (by omega)) fun j o' ho' hd => ?_
      rcases Nat.lt_trichotomy j k with hjk | hjk | hjk
      · refine ⟨fun _ => hjk, fun _ => ?_⟩
        rcases clash_or (pairs_at hpair ho' ho hjk) with hb | ⟨_, hap, _⟩
        · exact hbef j (hlt ho') hb
        · exact absurd ht (apart_dst hap hd).1
      · subst hjk
        exact ⟨fun h => (by rw [h0] at h; cases h), fun h => absurd h (Nat.lt_irrefl _)⟩
      · refine ⟨fun h => ?_, fun h => by omega⟩
        rcases clash_or (pairs_at hpair ho ho' hjk) with hb | ⟨_, _, hap, _⟩
        · exact (hafter j (hlt ho') hb h).elim
        · exact absurd ht (apart_dst hap hd).1
    obtain ⟨hev, hgu⟩ := ev_agree hlook
    have hlast : ∀ j o', ops[j]? = some o' → listed.getD j true = true → (∃ t, o.dst = some t ∧ o'.dst = some t) → j ≤ k := by
      rintro j o' ho' hD ⟨t, h1, h2⟩
      rcases Nat.lt_or_ge k j with hjk | hjk
      · rcases clash_or (pairs_at hpair ho ho' hjk) with hb | ⟨_, hap, _⟩
        · exact (hafter j (hlt ho') hb hD).elim
        · exact absurd h2 (apart_dst hap h1).2
      · exact hjk
    have hset : ∀ j, j ≠ k → (listed.setIfInBounds k true).getD j true = listed.getD j true := fun j hj => getD_set_ne true (Ne.symm hj)
    have hsetk : (listed.setIfInBounds k true).getD k true = true := by
      rw [Array.getD_eq_getD_getElem?, Array.getElem?_setIfInBounds_self_of_lt (by rw [hsz]; exact hkN)]; rfl
    have hH' : Holds ops (S 0).1 V (fun j => (listed.setIfInBounds k true).getD j true = true) (Tm.putO ρ o.dst (V k)) := by
      have h1 := hH.step ho hlast
      rw [show (fun j => (listed.setIfInBounds k true).getD j true = true) = (fun j => listed.getD j true = true ∨ j = k) from funext fun j => propext (by
        by_cases hj : j = k
        · subst hj; exact ⟨fun _ => .inr rfl, fun _ => hsetk⟩
        · rw [hset j hj]; exact ⟨.inl, fun h => h.resolve_right hj⟩)]
      exact h1
    have hnext : ∀ (m' : Nat) (ι' : Inj) (a' : Act) (w' : World), m' ≤ ops.size → (∀ j o', j < m' → ops[j]? = some o' → isE P o'.op = true → listed.getD j true = true ∨ j = k) → (∀ j o', m' ≤ j → ops[j]? = some o' → isE P o'.op = true → j ≠ k ∧ listed.getD j true = false) →
        SRel P i.T n ι' (S m').2.1 (S m').2.2 (Tm.putO ρ o.dst (V k)) a' w' → Goes ι (S m).2.1 (S m).2.2 w ι' (S m').2.1 (S m').2.2 w' → wpAny P md ops Q fuel (listed.setIfInBounds k true) a' w' := by
      intro m' ι' a' w' hm' h1 h2 h3 h4
      refine ih _ m' _ ι' a' w' (by simpa using hsz) (fun j o' ho' hD e he hbe => ?_) hm' (fun j o' hj ho' hE => ?_) (fun j o' hj ho' hE => ?_) h3 hH' (hgo.trans h4) ?_
      · have he' : listed.getD e.on true = true := by
          by_cases hj : j = k
          · subst hj; rw [ho] at ho'; injection ho' with ho'; rw [← ho'] at he; exact hDk e he hbe
          · rw [hset j hj] at hD; exact hcl j o' ho' hD e he hbe
        by_cases hek : e.on = k
        · rw [hek]; exact hsetk
        · rw [hset _ hek]; exact he'
      · rcases h1 j o' hj ho' hE with h | h
        · by_cases hj : j = k
          · rw [hj]; exact hsetk
          · rw [hset j hj]; exact h
        · rw [h]; exact hsetk
      · obtain ⟨h, h'⟩ := h2 j o' hj ho' hE
        rw [hset j h]; exact h'
      · have := left_set h0 ops.size
        rw [if_pos hkN] at this
        omega
    -- what is so of an operation that writes
    have hEs : isE P o.op = true → m ≤ k ∧ (S k).2 = (S m).2 ∧ (∀ j o', j < k + 1 → ops[j]? = some o' → isE P o'.op = true → listed.getD j true = true ∨ j = k) ∧ (∀ j o', k + 1 ≤ j → ops[j]? = some o' → isE P o'.op = true → j ≠ k ∧ listed.getD j true = false) := by
      intro hE
      have hmk : m ≤ k := by
        rcases Nat.lt_or_ge k m with h | h
        · have := he1 k o h ho hE; rw [h0] at this; cases this
        · exact h
      have hlow : ∀ j o', j < k → ops[j]? = some o' → isE P o'.op = true → listed.getD j true = true := by
        intro j o' hj ho' hE'
        rcases clash_or (pairs_at hpair ho' ho hj) with hb | ⟨hn, _⟩
        · exact hbef j (hlt ho') hb
        · exact (hn hE' hE).elim
      refine ⟨hmk, ?_, fun j o' hj ho' hE' => ?_, fun j o' hj ho' hE' => ⟨by omega, he2 j o' (by omega) ho' hE'⟩⟩
      · have := trace_quiet hst (k - m) m (by omega) (fun j o' h1 h2 ho' => by
          cases hE' : isE P o'.op with
          | false => rfl
          | true =>
            have h3 := hlow j o' (by omega) ho' hE'
            rw [he2 j o' h1 ho' hE'] at h3
            cases h3)
        rwa [show m + (k - m) = k by omega] at this
      · rcases Nat.lt_or_ge j k with h | h
        · exact .inl (hlow j o' h ho' hE')
        · exact .inr (by omega)
    have hRs : isE P o.op = false → (∀ j o', j < m → ops[j]? = some o' → isE P o'.op = true → listed.getD j true = true ∨ j = k) ∧ (∀ j o', m ≤ j → ops[j]? = some o' → isE P o'.op = true → j ≠ k ∧ listed.getD j true = false) := by
      intro hE
      refine ⟨fun j o' hj ho' hE' => .inl (he1 j o' hj ho' hE'), fun j o' hj ho' hE' => ⟨fun h => ?_, he2 j o' hj ho' hE'⟩⟩
      subst h
      rw [ho] at ho'; injection ho' with ho'
      rw [← ho', hE] at hE'
      cases hE'
    obtain ⟨o', ho', hor⟩ := hst k hkN
    rw [ho] at ho'
    injection ho' with ho'
    subst ho'
    unfold wpOp
    rw [ho]
    simp only
    rcases hor with ⟨hg, ha, hput, hfl, hld⟩ | ⟨hg, hv, hS⟩
    · rw [guard_sound hrel (hgu.trans hg)]
      simp only [if_true]
      refine .inl ?_
      cases hE : isE P o.op with
      | true =>
        obtain ⟨hmk, hSk, h1, h2⟩ := hEs hE
        have ha' : aoper P i.ls call o (ev ρ) (S m).2.1 (S m).2.2 = some (V k, (S (k + 1)).2.1, (S (k + 1)).2.2) := by
          rw [← hSk, aoper_congr hev]; exact ha
        exact op_step hcall hrel (hall o hmem).1 (hall o hmem).2 ha' (fun ι' cv w' h3 h4 => hnext (k + 1) ι' _ w' (by omega) h1 h2 h3 h4)
      | false =>
        obtain ⟨h1, h2⟩ := hRs hE
        obtain ⟨_, _, hrop, hgen⟩ := aoper_R hE ha
        have hr : rop P o.op (ev (S k).1) (rdB (S m).2.1 (S m).2.2) = some (V k) := by
          cases hrd : readsMem o.op with
          | false => rw [← hrop]; exact rop_rd hrd
          | true =>
            -- the writers that lie between are calls, and free of this one
            have hbetw : ∀ j o', ((m ≤ j ∧ j < k) ∨ (k ≤ j ∧ j < m)) → ops[j]? = some o' → isE P o'.op = true → isLoad o.op = true ∧ isCall o'.op = true ∧ free (Region.before ops) k j = true := by
              rintro j o' (⟨h3, h4⟩ | ⟨h3, h4⟩) ho' hE'
              · have hnD := he2 j o' h3 ho' hE'
                have hnb : isBefore (Region.before ops) j k = false := by
                  cases hb : isBefore (Region.before ops) j k with
                  | false => rfl
                  | true => have := hbef j (hlt ho') hb; rw [hnD] at this; cases this
                have hnb' : isBefore (Region.before ops) k j = false := by
                  cases hb : isBefore (Region.before ops) k j with
                  | false => rfl
                  | true => have := before_lt hedge hclos j k (hlt ho') hkN hb; omega
                rcases clash_or (pairs_at hpair ho' ho h4) with hb | ⟨_, _, _, _, hx⟩
                · rw [hnb] at hb; cases hb
                · obtain ⟨h5, h6⟩ := hx hrd hE'
                  exact ⟨h5, h6, by simp [free, hnb, hnb', show k ≠ j by omega]⟩
              · have hkj : k ≠ j := by
                  intro h; subst h; rw [ho] at ho'; injection ho' with ho'; rw [← ho', hE] at hE'; cases hE'
                have hD := he1 j o' h4 ho' hE'
                have hnb : isBefore (Region.before ops) k j = false := by
                  cases hb : isBefore (Region.before ops) k j with
                  | false => rfl
                  | true => exact (hafter j (hlt ho') hb hD).elim
                have hnb' : isBefore (Region.before ops) j k = false := by
                  cases hb : isBefore (Region.before ops) j k with
                  | false => rfl
                  | true => have := before_lt hedge hclos k j hkN (hlt ho') hb; omega
                rcases clash_or (pairs_at hpair ho ho' (by omega)) with hb | ⟨_, _, _, hx, _⟩
                · rw [hnb] at hb; cases hb
                · obtain ⟨h5, h6⟩ := hx hrd hE'
                  exact ⟨h5, h6, by simp [free, hnb, hnb', hkj]⟩
            by_cases hex : ∃ j o', ((m ≤ j ∧ j < k) ∨ (k ≤ j ∧ j < m)) ∧ ops[j]? = some o' ∧ isE P o'.op = true
            · obtain ⟨j, o', hj, ho', hE'⟩ := hex
              obtain ⟨hload, _, hfree⟩ := hbetw j o' hj ho' hE'
              have hldk : ldOf P ops k = true := ldOf_of ho ho' hload hE' hfree
              have hcalls : ∀ j o', ((m ≤ j ∧ j < k) ∨ (k ≤ j ∧ j < m)) → ops[j]? = some o' → isE P o'.op = true → isCall o'.op = true ∧ flOf P ops j = true := by
                intro j o' hj ho' hE'
                obtain ⟨h3, h4, h5⟩ := hbetw j o' hj ho' hE'
                refine ⟨h4, flOf_of ho' ho h4 h3 ?_⟩
                simp only [free, Bool.and_eq_true, Bool.not_eq_true', bne_iff_ne] at h5 ⊢
                exact ⟨⟨h5.1.2, h5.1.1⟩, Ne.symm h5.2⟩
              have hsame : (S k).2.1 = (S m).2.1 ∧ ∀ a, a < n0 → (S k).2.2.mem a = (S m).2.2.mem a := by
                rcases Nat.le_total m k with hle | hle
                · have := trace_calls hst (k - m) m (by omega) (fun j o' h3 h4 => hcalls j o' (.inl ⟨h3, by omega⟩))
                  rwa [show m + (k - m) = k by omega] at this
                · have := trace_calls hst (m - k) k (by omega) (fun j o' h3 h4 => hcalls j o' (.inr ⟨h3, by omega⟩))
                  rw [show k + (m - k) = m by omega] at this
                  exact ⟨this.1.symm, fun a ha => (this.2 a ha).symm⟩
              have hop : ∃ t x, o.op = .load t x := by
                cases hop : o.op <;> rw [hop] at hload <;> simp only [isLoad, reduceCtorEq] at hload
                exact ⟨_, _, rfl⟩
              obtain ⟨t, x, hop⟩ := hop
              have hlow := hld hldk t x hop
              rw [hop] at hrop ⊢
              rw [← hrop]
              simp only [rop]
              split
              · rename_i p hp
                rw [rdB_same hsame.1.symm (fun hs => (hsame.2 p.block (hlow p hp hs)).symm)]
              · rfl
            · have hq : ∀ j o', ((m ≤ j ∧ j < k) ∨ (k ≤ j ∧ j < m)) → ops[j]? = some o' → isE P o'.op = false := by
                intro j o' hj ho'
                cases hE' : isE P o'.op with
                | false => rfl
                | true => exact absurd ⟨j, o', hj, ho', hE'⟩ hex
              have hsame : (S k).2 = (S m).2 := by
                rcases Nat.le_total m k with hle | hle
                · have := trace_quiet hst (k - m) m (by omega) (fun j o' h3 h4 => hq j o' (.inl ⟨h3, by omega⟩))
                  rwa [show m + (k - m) = k by omega] at this
                · have := trace_quiet hst (m - k) k (by omega) (fun j o' h3 h4 => hq j o' (.inr ⟨h3, by omega⟩))
                  rw [show k + (m - k) = m by omega] at this
                  exact this.symm
              rw [← hsame]
              exact hrop
        have ha' : aoper P i.ls call o (ev ρ) (S m).2.1 (S m).2.2 = some (V k, (S m).2.1, (S m).2.2) := by
          rw [aoper_congr hev]; exact hgen _ _ hr
        exact op_step hcall hrel (hall o hmem).1 (hall o hmem).2 ha' (fun ι' cv w' h3 h4 => hnext m ι' _ w' hm h1 h2 h3 h4)
    · rw [guard_sound hrel (hgu.trans hg)]
      simp only [Bool.false_eq_true, if_false]
      have h' := hrel.step (Goes.refl hrel.rel) (o := o) (hall o hmem).2 (v := V k) (cv := undef) (by rw [hv]; split <;> exact VR_skip _)
      cases hE : isE P o.op with
      | true =>
        obtain ⟨hmk, hSk, h1, h2⟩ := hEs hE
        have hS2 : (S (k + 1)).2 = (S m).2 := by rw [hS]; exact hSk
        refine hnext (k + 1) ι _ w (by omega) h1 h2 ?_ ?_
        · rw [hS2]; exact h'
        · rw [hS2]; exact Goes.refl hrel.rel
      | false =>
        obtain ⟨h1, h2⟩ := hRs hE
        exact hnext m ι _ w hm h1 h2 h' (Goes.refl hrel.rel)

theorem draw_ok {call : ACallT} (hcall : CallsOK P call) : DrawOK P call := by
  intro i n id ops ι lo st ρ a w ρ' lo' st' Q hall hdr hrel hops hQ
  refine wp_region_draw fun t => ?_
  have hmode : ∃ md t', Region.schedule (P.follows .mixedOrders) ops t = Region.linearise md ops t' ∧ ∃ r : Nat → Nat, ∀ (j : Nat) o, ops[j]? = some o → ∀ e ∈ o.after, Region.binds md e = true → e.on < ops.size ∧ r e.on < r j := by
    have hdr2 := hdr
    simp only [drawOk, Bool.and_eq_true] at hdr2
    obtain ⟨⟨⟨hedge, _⟩, _⟩, hmd⟩ := hdr2
    unfold Region.schedule
    split
    · exact ⟨.any, t, rfl, rank_any hedge⟩
    · rename_i hnd
      have hdep : Region.departs ops = true := by
        cases hd : Region.departs ops with
        | true => rfl
        | false => rw [hd] at hnd; simp at hnd
      rw [hdep] at hmd
      simp only [Bool.not_true, Bool.false_or, Bool.and_eq_true] at hmd
      split
      · exact ⟨.text, t / 2, rfl, rank_at hmd.1⟩
      · exact ⟨.gc, t / 2, rfl, rank_at hmd.2⟩
  obtain ⟨md, t', hsch, hrk⟩ := hmode
  rw [hsch]
  obtain ⟨S, V, hS0, hSN, hst⟩ := trace_of (P := P) (ops := ops) ops.toList 0 (ρ, lo, st) (by simp) hops
  rw [Nat.zero_max] at hSN
  have hgo := goes_same (w1 := { w with drawn := w.drawn + 1 }) hrel.rel ⟨rfl, rfl, rfl, rfl⟩
  refine wpAny_sound ops.size t' _ a _ ?_
  refine draw_go hcall (ι0 := ι) (w0 := w) (S := S) (V := V) hall hdr hrk (fun j hj => hst j (Nat.zero_le _) hj) ?_ ops.size _ 0 ρ ι a _ (by simp) ?_ (Nat.zero_le _) (fun j o hj => absurd hj (Nat.not_lt_zero _)) ?_ ?_ ?_ ?_ (left_le _)
  · rw [hSN, hS0]; exact hQ
  · intro j o ho hD
    rw [Array.getD_eq_getD_getElem?, Array.getElem?_replicate, if_pos (Array.getElem?_eq_some_iff.1 ho).1] at hD
    cases hD
  · intro j o _ ho _
    rw [Array.getD_eq_getD_getElem?, Array.getElem?_replicate, if_pos (Array.getElem?_eq_some_iff.1 ho).1]
    rfl
  · rw [hS0]; exact ⟨hgo.rel, hrel.fr, hrel.gl, hrel.size, hrel.defers⟩
  · rw [hS0]
    intro t
    refine .inr ⟨fun j o ho hD => ?_, rfl⟩
    have hD : (Array.replicate ops.size false).getD j true = true := hD
    rw [Array.getD_eq_getD_getElem?, Array.getElem?_replicate, if_pos (Array.getElem?_eq_some_iff.1 ho).1] at hD
    cases hD
  · rw [hS0]; exact hgo

/-- The abstract machine's answer is the program's. -/
theorem acall_sound {LT : FuncId → FInfo} {ext : String → List Value → St → Option (Value × St)} (hext : ExtOK P ext) : ∀ k, CallsOK P (acall P LT ext k) :=
  calls_sound hext fun _ h => draw_ok h

end
end Go.Proofs.Ytopcpcoklgepnaa.AM
