/- A part of the machine on which the law's proof rests. -/
import Derived.Test.YteabadoaeadcgaaDoorXpA6
namespace Go.Proofs.YteabadoaeadcgaaDoor.AM
open Go Go.RowKit
set_option linter.unusedVariables false
set_option linter.unusedSimpArgs false
section
variable {P : Program} {T : List Tmp} {n : Nat} {ι : Inj} {lo : Lo} {st : St} {ρ : Tm} {a : Act} {w : World}
theorem guard_sound (h : SRel P T n ι lo st ρ a w) {ops : Array Oper} {o : Oper} {b : Bool} (hg : aguard ops ρ o = some b) : Region.wanted o (yielded ops a.tmps) = b := by
 unfold aguard at hg
 unfold Region.wanted
 split at hg
 ·rename_i hgd; injection hg with hg; rw [hgd]; exact hg
 ·rename_i j want hgd
  rw [hgd]
  simp only
  split at hg
  ·rename_i t ht
   have hfr := h.fr t
   have hgt : a.tmps.getD t undef = (a.tmps[t]?).getD undef := Array.getD_eq_getD_getElem? ..
   split at hg
   ·rename_i c hc
    injection hg with hg
    rw [hc] at hfr
    have hv : a.tmps.getD t undef = .bool c := by split at hfr <;> exact hfr
    rw [hgt] at hv
    have hy : yielded ops a.tmps j = some c := by
     unfold yielded
     rw [ht]
     simp only [Option.bind_some]
     cases hx : a.tmps[t]? with
     | none => rw [hx] at hv; simp [undef] at hv
     | some x => rw [hx] at hv; simp only [Option.getD_some] at hv; rw [hv]
    rw [hy,← hg]
    cases c <;> cases want <;> rfl
   ·rename_i hc
    injection hg with hg
    rw [hc] at hfr
    have hv : a.tmps.getD t undef = undef := by split at hfr <;> exact hfr
    rw [hgt] at hv
    have hy : yielded ops a.tmps j = none := by
     unfold yielded
     rw [ht]
     simp only [Option.bind_some]
     cases hx : a.tmps[t]? with
     | none => rfl
     | some x => rw [hx] at hv; simp only [Option.getD_some] at hv; rw [hv]; rfl
    rw [hy,← hg]
    rfl
   ·cases hg
  ·cases hg
theorem ops_sound {call : ACallT} (hcall : CallsOK P call) {ls : List Tmp} {ops : Array Oper} {n0 : Nat → Prop} {fl ld : Nat → Bool} {Q : Exit → Act → World → Prop} {ρ' : Tm} {lo' : Lo} {st' : St} (hall : ∀ o ∈ ops.toList,escOk P.globals.size ls T o = true ∧ dstOk n o = true) :
  ∀ (os : List Oper) (i : Nat) (ι : Inj) (lo : Lo) (st : St) (ρ : Tm) (a : Act) (w : World),ops.toList.drop i = os → aops P ls call ops n0 fl ld os i ρ lo st = some (ρ',lo',st') → SRel P T n ι lo st ρ a w →
  (∀ ι' a' w',SRel P T n ι' lo' st' ρ' a' w' → Goes ι lo st w ι' lo' st' w' → Q .normal a' w') → wpOps P ops Q (List.range' i (ops.size - i)) a w := by
 intro os
 induction os with
 | nil =>
  intro i ι lo st ρ a w hd hs h hQ
  simp only [aops,Option.some.injEq,Prod.mk.injEq] at hs
  obtain ⟨rfl,rfl,rfl⟩ := hs
  have : ops.size - i = 0 := by
   have := congrArg List.length hd
   simp at this
   omega
  rw [this]
  exact hQ ι a w h (Goes.refl h.rel)
 | cons o os ih =>
  intro i ι lo st ρ a w hd hs h hQ
  have hlt : i < ops.size := by
   have := congrArg List.length hd
   simp at this
   omega
  have hoi : ops[i]? = some o := by
   have := congrArg (fun l => l[0]?) hd
   simp only [List.getElem?_drop,Nat.add_zero,List.getElem?_cons_zero] at this
   simpa using this
  have hmem : o ∈ ops.toList := Array.mem_toList_iff.2 (Array.mem_of_getElem? hoi)
  have hd' : ops.toList.drop (i + 1) = os := by
   have := congrArg List.tail hd
   simpa using this
  obtain ⟨k,hk⟩ : ∃ k,ops.size - i = k + 1 := ⟨ops.size - i - 1,by omega⟩
  have hk' : ops.size - (i + 1) = k := by omega
  rw [hk,List.range'_succ]
  simp only [wpOps,hoi]
  unfold aops at hs
  split at hs
  ·rename_i hg
   rw [guard_sound h hg]
   simp only [if_true]
   split at hs
   ·rename_i v lo1 st1 ho
    split at hs
    ·refine .inl (op_step hcall h (hall o hmem).1 (hall o hmem).2 ho ?_)
     intro ι' cv w' h' hgo
     have := ih (i + 1) ι' lo1 st1 _ _ w' hd' hs h' (fun ι2 a2 w2 h2 hg2 => hQ ι2 a2 w2 h2 (hgo.trans hg2))
     rw [hk'] at this
     exact this
    ·cases hs
   ·cases hs
  ·rename_i hg
   rw [guard_sound h hg]
   simp only [Bool.false_eq_true,if_false]
   have h' := h.step (Goes.refl h.rel) (o := o) (hall o hmem).2 (v := skipV) (cv := undef) (by split <;> exact VR_skip _)
   have := ih (i + 1) ι lo st _ _ w hd' hs h' hQ
   rw [hk'] at this
   exact this
  ·cases hs
theorem SRel.keep (h : SRel P T n ι lo st ρ a w) (V : List Tmp) : SRel P T n ι lo st (keep V ρ) a w := by
 refine ⟨h.rel,fun t => ?_,h.gl,h.size,h.defers⟩
 unfold AM.keep
 by_cases hV : V.contains t = true
 ·rw [if_pos hV]; exact h.fr t
 ·rw [if_neg hV]; exact VR_undef _ _
def LoopAt (P : Program) (c : Code) (Q : Exit → Act → World → Prop) (a : Act) (w : World) : Prop :=
 ∀ (b : Frame) (k : List Item) (cs : List Frame),∃ e a' w',Q e a' w' ∧ Arrives P (lone (b.at a (.code c :: .inLoop c :: k)) cs w) b k cs e a' w'
theorem wp_loop_of {c : Code} {Q : Exit → Act → World → Prop} (h : LoopAt P c Q a w) : (Code.loop c).wp P Q a w := by
 intro b k cs
 obtain ⟨e,a',w',hq,harr⟩ := h b k cs
 exact ⟨e,a',w',hq,.of_steps (.one step_loop) harr⟩
theorem loopAt_of {c : Code} {Q : Exit → Act → World → Prop} (h : c.wp P (Exit.then (LoopAt P c Q) Q) a w) : LoopAt P c Q a w := by
 intro b k cs
 obtain ⟨e,a₁,w₁,hq,harr⟩ := h b (.inLoop c :: k) cs
 cases e with
 | normal =>
  obtain ⟨e₂,a₂,w₂,hq₂,harr₂⟩ := hq b k cs
  exact ⟨e₂,a₂,w₂,hq₂,.of_steps (Steps.trans harr (.one step_inLoop)) harr₂⟩
 | exit id => exact ⟨_,a₁,w₁,hq,.pass (x := .inLoop c) rfl (fun _ _ => .inl (by simp)) harr⟩
 | goto l => exact ⟨_,a₁,w₁,hq,.pass (x := .inLoop c) rfl (fun _ _ => .inl (by simp)) harr⟩
 | ret => exact ⟨_,a₁,w₁,hq,.pass (x := .inLoop c) rfl (fun _ _ => .inl (by simp)) harr⟩
 | panic ch => exact ⟨_,a₁,w₁,hq,.pass (x := .inLoop c) rfl (fun _ _ => .inl (by simp)) harr⟩
 | outgrown => exact ⟨_,a₁,w₁,hq,.pass (x := .inLoop c) rfl (fun _ _ => .inl (by simp)) harr⟩
def DrawOK (P : Program) (call : ACallT) : Prop := ∀ (i : FInfo) (n id : Nat) (ops0 ops : Array Oper) (ι : Inj) (lo : Lo) (st : St) (ρ : Tm) (a : Act) (w : World) (ρ' : Tm) (lo' : Lo) (st' : St) (Q : Exit → Act → World → Prop) (n0 : Nat → Prop),
 (ops = ops0 ∨ ∃ π,permOk π ops0 = true ∧ ops = permOps π ops0) →
 (∀ o ∈ ops.toList,escOk P.globals.size i.ls i.T o = true ∧ dstOk n o = true) → drawOk P i.ls ops = true → SRel P i.T n ι lo st ρ a w →
 aops P i.ls call ops n0 (flOf P ops) (ldOf P ops) ops.toList 0 ρ lo st = some (ρ',lo',st') →
 (∀ ι' a' w',SRel P i.T n ι' lo' st' ρ' a' w' → Goes ι lo st w ι' lo' st' w' → Q .normal a' w') → (Code.region id ops0 true).wp P Q a w
theorem reC'_nil : ∀ c : Code,reC' [] c = c
 | .region id ops true => rfl
 | .region id ops false => rfl
 | .seq a b => by simp only [reC',reC'_nil a,reC'_nil b]
 | .cond c a b => by simp only [reC',reC'_nil a,reC'_nil b]
 | .block id c => by simp only [reC',reC'_nil c]
 | .loop c => by simp only [reC',reC'_nil c]
 | .skip | .scope _ | .rangeFunc .. | .label _ | .goto _ | .refuse _ | .exit _ | .ret => rfl
theorem permsOk_nil : ∀ c : Code,permsOk [] c = true
 | .region id ops d => rfl
 | .seq a b => by simp only [permsOk,permsOk_nil a,permsOk_nil b,Bool.and_self]
 | .cond c a b => by simp only [permsOk,permsOk_nil a,permsOk_nil b,Bool.and_self]
 | .block id c => permsOk_nil c
 | .loop c => permsOk_nil c
 | .skip | .scope _ | .rangeFunc .. | .label _ | .goto _ | .refuse _ | .exit _ | .ret => rfl
theorem reC_eq (mv : List (Nat × List Nat)) (c : Code) : reC mv c = reC' mv c := by
 cases mv with
 | nil => exact (reC'_nil c).symm
 | cons m l => rfl
theorem code_sound {call : ACallT} (hcall : CallsOK P call) (hdraw : DrawOK P call) (i : FInfo) (n : Nat) (mv : List (Nat × List Nat)) : ∀ (k : Nat) (c : Code) (ρ : Tm) (lo : Lo) (st : St) (e : Exit) (ρ' : Tm) (lo' : Lo) (st' : St),
  acode P i call k (reC' mv c) ρ lo st = some (e,ρ',lo',st') → codeOk P i n (reC' mv c) = true → permsOk mv c = true → ∀ (ι : Inj) (a : Act) (w : World),SRel P i.T n ι lo st ρ a w → ∀ (Q : Exit → Act → World → Prop),
  (∀ ι' a' w',SRel P i.T n ι' lo' st' ρ' a' w' → Goes ι lo st w ι' lo' st' w' → Q e a' w') → c.wp P Q a w ∧ (∀ c',c = .loop c' → LoopAt P c' Q a w) := by
 intro k
 induction k with
 | zero => intro c ρ lo st e ρ' lo' st' hs; simp [reC',acode] at hs
 | succ k ih =>
  intro c ρ lo st e ρ' lo' st' hs hok hpm ι a w h Q hQ
  cases c with
  | skip =>
   rw [show reC' mv .skip = .skip from rfl] at hs
   simp only [acode,Option.some.injEq,Prod.mk.injEq] at hs
   obtain ⟨rfl,rfl,rfl,rfl⟩ := hs
   exact ⟨wp_skip (hQ ι a w h (Goes.refl h.rel)),fun _ h => by cases h⟩
  | region id ops0 draw =>
   obtain ⟨ops,hops,he0⟩ : ∃ ops,(draw = true ∧ (ops = ops0 ∨ ∃ π,permOk π ops0 = true ∧ ops = permOps π ops0) ∨ draw = false ∧ ops = ops0) ∧ reC' mv (.region id ops0 draw) = .region id ops draw := by
    cases draw with
    | false => exact ⟨ops0,.inr ⟨rfl,rfl⟩,rfl⟩
    | true =>
     refine ⟨reR mv id ops0,.inl ⟨rfl,?_⟩,rfl⟩
     simp only [permsOk] at hpm
     unfold reR
     split
     ·exact .inl rfl
     ·rename_i π hl
      rw [hl] at hpm
      exact .inr ⟨π,hpm,rfl⟩
   rw [he0] at hs hok
   simp only [acode] at hs
   obtain ⟨⟨ρ1,lo1,st1⟩,ho,he⟩ := Option.map_eq_some_iff.1 hs
   simp only [Prod.mk.injEq] at he
   obtain ⟨rfl,rfl,rfl,rfl⟩ := he
   simp only [codeOk,Bool.and_eq_true,List.all_eq_true] at hok
   have hall : ∀ o ∈ ops.toList,escOk P.globals.size i.ls i.T o = true ∧ dstOk n o = true := hok.1
   obtain ⟨n0,ho⟩ := aany_get ho
   refine ⟨?_,fun _ h => by cases h⟩
   cases draw with
   | false =>
    obtain rfl : ops = ops0 := by
     rcases hops with ⟨h1,_⟩ | ⟨_,h1⟩
     ·cases h1
     ·exact h1
    simp only [Bool.false_eq_true,if_false] at ho
    refine wp_region ?_
    have := ops_sound hcall hall ops.toList 0 ι lo st ρ a w rfl ho h (fun ι' a' w' h' hg => hQ ι' a' w' (h'.keep i.V) hg)
    rw [Nat.sub_zero,← List.range_eq_range'] at this
    exact this
   | true =>
    simp only [if_true] at ho
    have hops : ops = ops0 ∨ ∃ π,permOk π ops0 = true ∧ ops = permOps π ops0 := by
     rcases hops with ⟨_,h1⟩ | ⟨h1,_⟩
     ·exact h1
     ·cases h1
    exact hdraw i n id ops0 ops ι lo st ρ a w ρ1 lo1 st1 Q n0 hops hall (by simpa using hok.2) h ho (fun ι' a' w' h' hg => hQ ι' a' w' (h'.keep i.V) hg)
  | seq x y =>
   simp only [reC',codeOk,Bool.and_eq_true] at hok
   simp only [permsOk,Bool.and_eq_true] at hpm
   simp only [reC',acode] at hs
   refine ⟨wp_seq ?_,fun _ h => by cases h⟩
   split at hs
   ·rename_i ρ1 lo1 st1 hx
    exact (ih x ρ lo st _ _ _ _ hx hok.1 hpm.1 ι a w h _ (fun ι1 a1 w1 h1 hg1 => (ih y ρ1 lo1 st1 _ _ _ _ hs hok.2 hpm.2 ι1 a1 w1 h1 Q (fun ι2 a2 w2 h2 hg2 => hQ ι2 a2 w2 h2 (hg1.trans hg2))).1)).1
   ·rename_i hne
    refine (ih x ρ lo st _ _ _ _ hs hok.1 hpm.1 ι a w h _ (fun ι1 a1 w1 h1 hg1 => ?_)).1
    have hq := hQ ι1 a1 w1 h1 hg1
    cases e <;> first | exact hq | (exact absurd hs (hne _ _ _))
  | cond c x y =>
   simp only [reC',codeOk,Bool.and_eq_true] at hok
   simp only [permsOk,Bool.and_eq_true] at hpm
   simp only [reC',acode] at hs
   have hc := ev_const h hok.1.1
   refine ⟨?_,fun _ h => by cases h⟩
   split at hs
   ·rename_i hb
    rw [hb] at hc
    exact wp_cond_true (VR_bool.1 hc) (ih x ρ lo st _ _ _ _ hs hok.1.2 hpm.1 ι a w h Q hQ).1
   ·rename_i hb
    rw [hb] at hc
    exact wp_cond_false (VR_bool.1 hc) (ih y ρ lo st _ _ _ _ hs hok.2 hpm.2 ι a w h Q hQ).1
   ·cases hs
  | block id c =>
   simp only [reC',codeOk] at hok
   simp only [permsOk] at hpm
   simp only [reC',acode] at hs
   refine ⟨wp_block ?_,fun _ h => by cases h⟩
   split at hs
   ·rename_i id' ρ1 lo1 st1 hx
    refine (ih c ρ lo st _ _ _ _ hx hok hpm ι a w h _ (fun ι1 a1 w1 h1 hg1 => ?_)).1
    by_cases hid : id' = id
    ·rw [if_pos hid] at hs
     simp only [Option.some.injEq,Prod.mk.injEq] at hs
     obtain ⟨rfl,rfl,rfl,rfl⟩ := hs
     simp only [Exit.inBlock,hid,if_true]
     exact hQ ι1 a1 w1 h1 hg1
    ·rw [if_neg hid] at hs
     simp only [Option.some.injEq,Prod.mk.injEq] at hs
     obtain ⟨rfl,rfl,rfl,rfl⟩ := hs
     simp only [Exit.inBlock,hid,if_false]
     exact hQ ι1 a1 w1 h1 hg1
   ·rename_i hne
    refine (ih c ρ lo st _ _ _ _ hs hok hpm ι a w h _ (fun ι1 a1 w1 h1 hg1 => ?_)).1
    have hq := hQ ι1 a1 w1 h1 hg1
    cases e <;> first | exact hq | (exact absurd hs (hne _ _ _ _))
  | loop c =>
   have hok' : codeOk P i n (reC' mv c) = true := by simpa [reC',codeOk] using hok
   have hpm' : permsOk mv c = true := hpm
   simp only [reC',acode] at hs
   have hl : LoopAt P c Q a w := by
    refine loopAt_of ?_
    split at hs
    ·rename_i ρ1 lo1 st1 hx
     exact (ih c ρ lo st _ _ _ _ hx hok' hpm' ι a w h _ (fun ι1 a1 w1 h1 hg1 => (ih (.loop c) ρ1 lo1 st1 _ _ _ _ hs hok hpm ι1 a1 w1 h1 Q (fun ι2 a2 w2 h2 hg2 => hQ ι2 a2 w2 h2 (hg1.trans hg2))).2 c rfl)).1
    ·rename_i hne
     refine (ih c ρ lo st _ _ _ _ hs hok' hpm' ι a w h _ (fun ι1 a1 w1 h1 hg1 => ?_)).1
     have hq := hQ ι1 a1 w1 h1 hg1
     cases e <;> first | exact hq | (exact absurd hs (hne _ _ _))
   refine ⟨wp_loop_of hl,fun c' hc => ?_⟩
   injection hc with hc
   rw [← hc]
   exact hl
  | exit id =>
   rw [show reC' mv (.exit id) = .exit id from rfl] at hs
   simp only [acode,Option.some.injEq,Prod.mk.injEq] at hs
   obtain ⟨rfl,rfl,rfl,rfl⟩ := hs
   exact ⟨wp_exit (hQ ι a w h (Goes.refl h.rel)),fun _ h => by cases h⟩
  | ret =>
   rw [show reC' mv .ret = .ret from rfl] at hs
   simp only [acode,Option.some.injEq,Prod.mk.injEq] at hs
   obtain ⟨rfl,rfl,rfl,rfl⟩ := hs
   exact ⟨wp_ret (hQ ι a w h (Goes.refl h.rel)),fun _ h => by cases h⟩
  | rangeFunc f ps x y => simp [reC',acode] at hs
  | scope c => simp [reC',acode] at hs
  | label l => simp [reC',acode] at hs
  | goto l => simp [reC',acode] at hs
  | refuse s => simp [reC',acode] at hs
theorem isRes_VR1 {κ : Inj} {v cv : Value} (hv : isRes v = true) (h : VR κ v cv) : VR1 κ v cv := by
 cases v <;> first | (simp [isRes] at hv; done) | exact h
theorem res_sound (h : SRel P T n ι lo st ρ a w) : ∀ (rs : List ResultVar) (vs : List Value),aresL P ρ lo st rs = some vs → rs.all (resOk T) = true →
  ∃ us : List Value,(rs.mapM fun
   | .tmp t => pure (a.tmps.getD t undef)
   | .cell b t => do loadVar t (← asAddr (a.tmps.getD b undef)) : Sem (List Value)).run P w = .ok us w ∧ us.length = vs.length ∧ ∀ (i : Nat) (v : Value),vs[i]? = some v → ∃ u : Value,us[i]? = some u ∧ isRes v = true ∧ VR ι.base v u := by
 intro rs
 induction rs with
 | nil =>
  intro vs hs _
  simp only [aresL,Option.some.injEq] at hs
  subst hs
  exact ⟨[],by simp,rfl,fun i v hv => by simp at hv⟩
 | cons r rs ih =>
  intro vs hs hok
  simp only [List.all_cons,Bool.and_eq_true] at hok
  simp only [aresL] at hs
  obtain ⟨v,hv,hs⟩ := Option.bind_eq_some_iff.1 hs
  split at hs
  ·rename_i hres
   obtain ⟨vs',hvs,rfl⟩ := Option.map_eq_some_iff.1 hs
   obtain ⟨us,h1,h2,h3⟩ := ih vs' hvs hok.2
   have one : ∃ u,(match r with
     | .tmp t => pure (a.tmps.getD t undef)
     | .cell b t => do loadVar t (← asAddr (a.tmps.getD b undef)) : Sem Value).run P w = .ok u w ∧ VR ι.base v u := by
    cases r with
    | tmp t =>
     simp only [ares,Option.some.injEq] at hv
     subst hv
     have hfr := h.fr t
     have ht : T.contains t = false := by simpa [resOk] using hok.1
     rw [if_neg (by rw [ht]; decide)] at hfr
     exact ⟨_,rfl,hfr⟩
    | cell b t =>
     simp only [ares] at hv
     split at hv
     ·rename_i p hp
      obtain ⟨cs,hcs,hv⟩ := Option.bind_eq_some_iff.1 hv
      have hfr : VR ι (ρ b) (a.tmps.getD b undef) := by
       have := h.fr b
       split at this
       ·exact this
       ·exact VR_mono (Ext.ofBase _) this
      rw [hp] at hfr
      obtain ⟨hokp,hvp⟩ := VR_pointer.1 hfr
      obtain ⟨cv,h4,h5⟩ := aload_sound (P := P) h.rel (.inl rfl) hokp hcs hv
      exact ⟨cv,by simp [hvp,asAddr,h4],h5⟩
     ·cases hv
   obtain ⟨u,hu1,hu2⟩ := one
   refine ⟨u :: us,?_,by simp [h2],fun i x hx => ?_⟩
   ·rw [List.mapM_cons,Sem.run_bind,hu1,Result.andThen_ok,Sem.run_bind,h1,Result.andThen_ok,Sem.run_pure]
   ·cases i with
    | zero =>
     simp only [List.getElem?_cons_zero,Option.some.injEq] at hx
     subst hx
     exact ⟨u,rfl,hres,hu2⟩
    | succ i => simpa using h3 i x (by simpa using hx)
  ·cases hs
theorem results_sound (h : SRel P T n ι lo st ρ a w) {fn : Func} {vs : List Value} (hs : aresL P ρ lo st fn.results.toList = some vs) (hok : fn.results.toList.all (resOk T) = true) :
  ∃ cv,(results fn a.tmps).run P w = .ok cv w ∧ VR ι.base (aret vs) cv := by
 obtain ⟨us,h1,h2,h3⟩ := res_sound h _ _ hs hok
 have hm : ∀ (f : ResultVar → Sem Value) (xs : Array ResultVar) (us : List Value),(xs.toList.mapM f).run P w = .ok us w → (xs.mapM f).run P w = .ok us.toArray w := by
  intro f xs us hx
  rw [Array.mapM_eq_mapM_toList]
  simp [hx]
 have hr := hm _ fn.results us h1
 refine ⟨(if h : us.toArray.size = 1 then us.toArray[0] else .tuple us.toArray),?_,?_⟩
 ·unfold results
  rw [Sem.run_bind]
  refine (congrArg (fun r => Result.andThen r _) hr).trans ?_
  simp
 ·match vs,us,h2 with
  | [],[],_ => exact .inl rfl
  | [v],[u],_ =>
   obtain ⟨u',hu,hres,hv⟩ := h3 0 v rfl
   simp only [List.getElem?_cons_zero,Option.some.injEq] at hu
   subst hu
   exact hv
  | v1 :: v2 :: vs,u1 :: u2 :: us,h2 =>
   have hne : ¬ ((u1 :: u2 :: us).toArray.size = 1) := by simp
   rw [dif_neg hne]
   refine .inr ⟨_,rfl,by simpa using h2,fun i x hx => ?_⟩
   obtain ⟨u,hu,hres,hv⟩ := h3 i x (by simpa using hx)
   exact ⟨u,by simpa using hu,isRes_VR1 hres hv⟩
def ExtOK (P : Program) (ext : String → List Value → St → Option (Value × St)) : Prop := ∀ f fn args st v st',P.funcs[f]? = some fn → ext fn.name args st = some (v,st') → ∀ (ι : Inj) (w : World) (cargs : Array Value),ι.g = 0 → GL P ι → Rel ι lo0 st w →
 cargs.size = args.length → (∀ (i : Nat) (x : Value),args[i]? = some x → ∃ y : Value,cargs[i]? = some y ∧ VR ι x y) →
 ((callFunc f cargs).run P w = .ok (.enter f cargs) w ∧ Calls P f cargs w (fun e w' => ∃ cv ι',e = .returned cv ∧ ι'.g = 0 ∧ Goes ι lo0 st w ι' lo0 st' w' ∧ VR ι' v cv)) ∨
 (∃ cv ι' w',(callFunc f cargs).run P w = .ok (.value cv) w' ∧ ι'.g = 0 ∧ Goes ι lo0 st w ι' lo0 st' w' ∧ VR ι' v cv)
theorem Goes.drop {ι ι2 : Inj} {lo : Lo} {st st' : St} {w w' : World} (hg0 : ι.g = 0) (h : Goes ι lo0 st w ι2 lo st' w') : Goes ι lo0 st w ι2.base lo0 st' w' := by
 refine ⟨⟨h.ext.n,by rw [hg0]; exact Nat.zero_le _,h.ext.h,h.ext.cap,fun t g hg => by rw [hg0] at hg; omega⟩,h.rel.callee,h.frm,?_,h.ro⟩
 rintro b (⟨a,blk,ha,hr,rfl⟩ | ⟨t,g,cs,ht,rfl⟩)
 ·exact h.sub _ (.inl ⟨a,blk,ha,hr,rfl⟩)
 ·simp [lo0] at ht
theorem calls_sound {LT : FuncId → FInfo} {ext : String → List Value → St → Option (Value × St)} (hext : ExtOK P ext) (hdraw : ∀ call,CallsOK P call → DrawOK P call) : ∀ k,CallsOK P (acall P LT ext k) := by
 intro k
 induction k with
 | zero => intro f args st v st' hs; simp [acall] at hs
 | succ k ih =>
  intro f args st v st' hs ι w cargs hg0 hgl hrel hsz hargs
  simp only [acall] at hs
  split at hs
  ·cases hs
  ·rename_i fn hf
   split at hs
   ·rename_i hb
    exact hext f fn args st v st' hf hs ι w cargs hg0 hgl hrel hsz hargs
   ·rename_i c hb
    split at hs
    ·rename_i hcond
     obtain ⟨hok,hlen⟩ := hcond
     simp only [fnOk,Bool.and_eq_true] at hok
     refine .inl ⟨?_,?_⟩
     ·have hname : (fn.name == "runtime.NumGoroutine") = false := by simpa using hok.2
      have hname' : ¬ fn.name = "runtime.NumGoroutine" := by simpa using hname
      simp [callFunc,run_program,hf,hname',hb]
     ·refine calls_of_wp hf hb ?_
      have h0 : SRel P (LT f).T fn.ntmps ι lo0 st (enter (LT f).V args) { tmps := cargs ++ Array.replicate (fn.ntmps - cargs.size) undef,defers := [] } w := by
       refine ⟨hrel,fun t => ?_,hgl,by simp; omega,rfl⟩
       unfold enter AM.keep
       by_cases hV : (LT f).V.contains t = true
       ·rw [if_pos hV]
        simp only
        rw [List.getD_eq_getElem?_getD]
        cases hx : args[t]? with
        | none => exact VR_undef _ _
        | some x =>
         obtain ⟨y,hy,hv⟩ := hargs t x hx
         have hlt := (Array.getElem?_eq_some_iff.1 hy).1
         have : (cargs ++ Array.replicate (fn.ntmps - cargs.size) undef).getD t undef = y := by
          rw [Array.getD_eq_getD_getElem?,Array.getElem?_append_left hlt,hy]
          rfl
         rw [this,base_self hg0]
         simp only [Option.getD_some]
         split <;> exact hv
       ·rw [if_neg hV]; exact VR_undef _ _
      have fin : ∀ (e : Exit) (ρ : Tm) (lo : Lo) (st1 : St),acode P (LT f) (acall P LT ext k) k (reC (LT f).mv c) (enter (LT f).V args) lo0 st = some (e,ρ,lo,st1) → (aresL P ρ lo st1 fn.results.toList).map (fun vs => (aret vs,st1)) = some (v,st') → (e = .ret ∨ e = .normal) →
        c.wp P (bodyPost P fn fun e w' => ∃ cv ι',e = .returned cv ∧ ι'.g = 0 ∧ Goes ι lo0 st w ι' lo0 st' w' ∧ VR ι' v cv) { tmps := cargs ++ Array.replicate (fn.ntmps - cargs.size) undef,defers := [] } w := by
       intro e ρ lo st1 hc hres he
       obtain ⟨vs,hvs,heq⟩ := Option.map_eq_some_iff.1 hres
       simp only [Prod.mk.injEq] at heq
       obtain ⟨rfl,rfl⟩ := heq
       refine (code_sound ih (hdraw _ ih) (LT f) fn.ntmps (LT f).mv k c _ _ _ _ _ _ _ (reC_eq _ c ▸ hc) (reC_eq _ c ▸ hok.1.1.2) (by
        have h1 := hok.1.1.1
        simp only [Bool.or_eq_true] at h1
        rcases h1 with h1 | h1
        ·rw [List.isEmpty_iff.1 h1]; exact permsOk_nil c
        ·exact h1) ι _ w h0 _ (fun ι' a' w' h' hg => ?_)).1
       obtain ⟨cv,hr,hv⟩ := results_sound h' hvs hok.1.2
       have key : bodyPost P fn (fun e w' => ∃ cv ι',e = .returned cv ∧ ι'.g = 0 ∧ Goes ι lo0 st w ι' lo0 st1 w' ∧ VR ι' (aret vs) cv) .ret a' w' := ⟨h'.defers,cv,hr,cv,ι'.base,rfl,rfl,hg.drop hg0,hv⟩
       rcases he with rfl | rfl <;> exact key
      split at hs
      ·rename_i hc; exact fin _ _ _ _ hc hs (.inl rfl)
      ·rename_i hc; exact fin _ _ _ _ hc hs (.inr rfl)
      ·cases hs
    ·split at hs
     ·cases hs
     ·exact hext f fn args st v st' hf hs ι w cargs hg0 hgl hrel hsz hargs
end
end Go.Proofs.YteabadoaeadcgaaDoor.AM
