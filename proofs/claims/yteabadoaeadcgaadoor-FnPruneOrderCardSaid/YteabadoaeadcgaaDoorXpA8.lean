/- A part of the machine on which the law's proof rests. -/
import Derived.Test.YteabadoaeadcgaaDoorXpA15
namespace Go.Proofs.YteabadoaeadcgaaDoor.AM
open Go Go.RowKit
set_option linter.unusedVariables false
set_option linter.unusedSimpArgs false
section
variable {P : Program}
abbrev S3 := Tm × Lo × St
def StepAt (P : Program) (ls : List Tmp) (call : ACallT) (ops : Array Oper) (n0 : Nat → Prop) (fl ld : Nat → Bool) (j : Nat) (s s' : S3) (v : Value) : Prop := ∃ o,ops[j]? = some o ∧
 ((aguard ops s.1 o = some true ∧ aoper P ls call o (ev s.1) s.2.1 s.2.2 = some (v,s'.2.1,s'.2.2) ∧ s'.1 = Tm.putO s.1 o.dst v ∧ (fl j = true → flChk n0 ops j o.op (ev s.1) s.2.2 s'.2.2) ∧ (ld j = true → ldChk n0 o.op (ev s.1))) ∨
  (aguard ops s.1 o = some false ∧ v = skipV ∧ s' = (Tm.putO s.1 o.dst skipV,s.2.1,s.2.2)))
theorem trace_of {ls : List Tmp} {call : ACallT} {ops : Array Oper} {n0 : Nat → Prop} {fl ld : Nat → Bool} {fin : S3} : ∀ (os : List Oper) (i : Nat) (s : S3),ops.toList.drop i = os → aops P ls call ops n0 fl ld os i s.1 s.2.1 s.2.2 = some fin →
  ∃ (S : Nat → S3) (V : Nat → Value),S i = s ∧ S (max i ops.size) = fin ∧ ∀ j,i ≤ j → j < ops.size → StepAt P ls call ops n0 fl ld j (S j) (S (j + 1)) (V j) := by
 intro os
 induction os with
 | nil =>
  intro i s hd hs
  simp only [aops,Option.some.injEq] at hs
  have : ops.size ≤ i := by
   have := congrArg List.length hd
   simp at this
   omega
  exact ⟨fun _ => s,fun _ => undef,rfl,hs,fun j h1 h2 => by omega⟩
 | cons o os ih =>
  intro i s hd hs
  have hlt : i < ops.size := by
   have := congrArg List.length hd
   simp at this
   omega
  have hoi : ops[i]? = some o := by
   have := congrArg (fun l => l[0]?) hd
   simp only [List.getElem?_drop,Nat.add_zero,List.getElem?_cons_zero] at this
   simpa using this
  have hd' : ops.toList.drop (i + 1) = os := by
   have := congrArg List.tail hd
   simpa using this
  have fin' : ∀ (s1 : S3) (v : Value),aops P ls call ops n0 fl ld os (i + 1) s1.1 s1.2.1 s1.2.2 = some fin → StepAt P ls call ops n0 fl ld i s s1 v →
    ∃ (S : Nat → S3) (V : Nat → Value),S i = s ∧ S (max i ops.size) = fin ∧ ∀ j,i ≤ j → j < ops.size → StepAt P ls call ops n0 fl ld j (S j) (S (j + 1)) (V j) := by
   intro s1 v h1 h2
   obtain ⟨S,V,hS,hfin,hst⟩ := ih (i + 1) s1 hd' h1
   refine ⟨fun j => if j = i then s else S j,fun j => if j = i then v else V j,if_pos rfl,?_,fun j h3 h4 => ?_⟩
   ·show (if max i ops.size = i then s else S (max i ops.size)) = fin
    rw [if_neg (by omega),← hfin]
    congr 1
    omega
   ·show StepAt P ls call ops n0 fl ld j (if j = i then s else S j) (if j + 1 = i then s else S (j + 1)) (if j = i then v else V j)
    rw [if_neg (show ¬ j + 1 = i by omega)]
    by_cases hj : j = i
    ·rw [if_pos hj,if_pos hj,hj,hS]
     exact h2
    ·rw [if_neg hj,if_neg hj]
     exact hst j (by omega) h4
  unfold aops at hs
  split at hs
  ·rename_i hg
   split at hs
   ·rename_i v lo1 st1 ho
    split at hs
    ·rename_i hc
     exact fin' (Tm.putO s.1 o.dst v,lo1,st1) v hs ⟨o,hoi,.inl ⟨hg,ho,rfl,hc.1,hc.2⟩⟩
    ·cases hs
   ·cases hs
  ·rename_i hg
   exact fin' (Tm.putO s.1 o.dst skipV,s.2.1,s.2.2) skipV hs ⟨o,hoi,.inr ⟨hg,rfl,rfl⟩⟩
  ·cases hs
theorem parts_congr {e e' : Operand → Value} {ps : Array (Nat × Operand)} (h : ∀ p ∈ ps,e p.2 = e' p.2) : parts e ps = parts e' ps := by
 unfold parts
 exact List.map_congr_left fun p hp => by rw [h p (Array.mem_toList_iff.1 hp)]
theorem rop_congr {o : Op} {e e' : Operand → Value} {rd : Nat → Option Nat → Option (List Value)} (h : ∀ x ∈ o.operands,e x = e' x) : rop P o e rd = rop P o e' rd := by
 cases o <;> simp only [Op.operands] at h <;> simp only [rop]
 case build t ps => rw [parts_congr fun p hp => h p.2 (by simp; exact ⟨p.1,hp⟩)]
 case slice t x lo hi mx => cases lo <;> cases hi <;> cases mx <;> simp_all [rop]
 case makeFunc fn fs cs => cases fn <;> rfl
 case call c =>
  have hargs : c.args.map e = c.args.map e' := Array.map_congr_left fun x hx => h x (by simp [Call.operands,hx])
  rw [hargs]
 all_goals (first | rfl | (simp_all; done))
theorem tstr_telem {t : TypeId} (h : tstr P t = true) : telem P t = none := by
 unfold tstr at h
 unfold telem
 split at h
 ·rename_i hu; rw [hu]
 ·cases h
theorem rop_rd {o : Op} {e : Operand → Value} {rd rd' : Nat → Option Nat → Option (List Value)} (h : readsMem o = false) : rop P o e rd = rop P o e rd' := by
 cases o
 case slice t x lo hi mx => cases lo <;> cases hi <;> cases mx <;> rfl
 case makeFunc fn fs cs => cases fn <;> rfl
 case convert a b x =>
  have hab : a = b := by simpa [readsMem] using h
  subst hab
  simp only [rop,aconv]
  split
  ·rfl
  ·rfl
  ·split
   ·rename_i hs
    rw [tstr_telem hs]
   ·rfl
  ·rfl
 all_goals first | rfl | (simp [readsMem] at h)
theorem aoper_congr {ls : List Tmp} {call : ACallT} {o : Oper} {e e' : Operand → Value} {lo : Lo} {st : St} (h : ∀ x ∈ o.op.operands,e x = e' x) : aoper P ls call o e lo st = aoper P ls call o e' lo st := by
 obtain ⟨dst,op,type,pos,after,guard⟩ := o
 simp only at h
 have hr := rop_congr (P := P) (rd := rdB lo st) h
 cases op <;> simp only [Op.operands] at h <;> simp only [aoper]
 case buildSlice t k ps => rw [hr,parts_congr fun p hp => h p.2 (by simp; exact ⟨p.1,hp⟩)]
 case call c =>
  have hargs : c.args.toList.map e = c.args.toList.map e' := List.map_congr_left fun x hx => h x (by simp [Call.operands]; exact .inr (Array.mem_toList_iff.1 hx))
  cases hc : c.callee with
  | value f =>
   have hf : e f = e' f := h f (by simp [Call.operands,hc])
   simp only [hf,hargs]
  | invoke r m => simp only; rw [hr]
  | builtin b =>
   cases b <;> simp only <;> first
    | (rw [hr]; done)
    | (
    have ha : aappend P c e lo st = aappend P c e' lo st := by
       have ht : ∀ x ∈ c.args.toList,e x = e' x := fun x hx => h x (by simp [Call.operands,hc]; exact Array.mem_toList_iff.1 hx)
       unfold aappend
       split
       ·rename_i t u ov ox h1 h2
        rw [h2] at ht
        rw [ht ov (by simp),ht ox (by simp)]
       ·rfl
    rw [ha])
 all_goals (first | (rw [hr]; done) | rfl | (simp_all; done))
theorem aoper_R {ls : List Tmp} {call : ACallT} {o : Oper} {e : Operand → Value} {lo lo' : Lo} {st st' : St} {v : Value} (hE : isE P o.op = false) (hF : isFz P o.op = false) (h : aoper P ls call o e lo st = some (v,lo',st')) :
  lo' = lo ∧ st' = st ∧ rop P o.op e (rdB lo st) = some v ∧ ∀ lo1 st1,rop P o.op e (rdB lo1 st1) = some v → aoper P ls call o e lo1 st1 = some (v,lo1,st1) := by
 obtain ⟨dst,op,type,pos,after,guard⟩ := o
 simp only at hE hF h ⊢
 have key : (rop P op e (rdB lo st)).map (fun v => (v,lo,st)) = some (v,lo',st') → lo' = lo ∧ st' = st ∧ rop P op e (rdB lo st) = some v := by
  intro hk
  obtain ⟨u,hu,he⟩ := Option.map_eq_some_iff.1 hk
  simp only [Prod.mk.injEq] at he
  obtain ⟨rfl,rfl,rfl⟩ := he
  exact ⟨rfl,rfl,hu⟩
 cases op <;> simp only [isE,reduceCtorEq] at hE <;> simp only [aoper] at h ⊢
 case buildSlice t n ps =>
  have hn : n = 0 := by simpa using hE
  subst hn
  simp only [if_true] at h ⊢
  obtain ⟨h1,h2,h3⟩ := key h
  exact ⟨h1,h2,h3,fun lo1 st1 hr => by rw [hr]; rfl⟩
 case convert src dst x =>
  have hn : telem P dst = none := by
   cases ht : telem P dst with
   | none => rfl
   | some e => simp [isFz,ht] at hE hF; exact absurd hE hF
  rw [hn] at h ⊢
  simp only at h ⊢
  obtain ⟨h1,h2,h3⟩ := key h
  exact ⟨h1,h2,h3,fun lo1 st1 hr => by
   have : aconv P src dst (rdB lo1 st1) (e x) = some v := hr
   rw [this]; rfl⟩
 case call c =>
  cases hc : c.callee with
  | value f => rw [hc] at hE; simp at hE
  | invoke r m =>
   rw [hc] at h
   simp only at h ⊢
   obtain ⟨h1,h2,h3⟩ := key h
   exact ⟨h1,h2,h3,fun lo1 st1 hr => by rw [hr]; rfl⟩
  | builtin b =>
   rw [hc] at h hE
   cases b <;> simp only [reduceCtorEq] at h hE ⊢
   all_goals
    obtain ⟨h1,h2,h3⟩ := key h
    exact ⟨h1,h2,h3,fun lo1 st1 hr => by rw [hr]; rfl⟩
 all_goals
  obtain ⟨h1,h2,h3⟩ := key h
  exact ⟨h1,h2,h3,fun lo1 st1 hr => by rw [hr]; rfl⟩
theorem aoper_fz {ls : List Tmp} {call : ACallT} {o : Oper} {e : Operand → Value} {lo lo' : Lo} {st st' : St} {v : Value} (hF : isFz P o.op = true) (h : aoper P ls call o e lo st = some (v,lo',st')) :
  lo' = lo ∧ st' = st ∧ ∃ a x p n c el,o.op = .convert a a x ∧ e x = .slice (some p) n c ∧ v = .slice (some p) n c ∧ telem P a = some el ∧ tint P el = some .u8 ∧ 0 < n := by
 obtain ⟨dst,op,type,pos,after,guard⟩ := o
 cases op <;> simp only [isFz,reduceCtorEq,Bool.false_eq_true] at hF
 rename_i a b x
 simp only [Bool.and_eq_true,beq_iff_eq] at hF
 obtain ⟨ht,rfl⟩ := hF
 obtain ⟨el,he⟩ := Option.isSome_iff_exists.1 ht
 simp only [aoper,he] at h
 unfold abytesOf at h
 split at h
 ·rw [he] at h
  simp only at h
  split at h
  ·rename_i hc
   rw [tstr_telem hc.2.1] at he
   cases he
  ·cases h
 ·rename_i p n c hx
  split at h
  ·rename_i e' b he' hb
   rw [he] at he'
   injection he' with he'
   subst he'
   split at h
   ·rename_i hc
    simp only [Option.some.injEq,Prod.mk.injEq] at h
    exact ⟨h.2.1.symm,h.2.2.symm,a,x,p,n,c,el,rfl,hx,h.1.symm,he,hc.1,hc.2.2.2.2⟩
   ·cases h
  ·cases h
 ·cases h
theorem aoper_same {ls : List Tmp} {call : ACallT} {o : Oper} {e : Operand → Value} {lo lo' : Lo} {st st' : St} {v : Value} (hE : isE P o.op = false) (h : aoper P ls call o e lo st = some (v,lo',st')) : lo' = lo ∧ st' = st := by
 cases hF : isFz P o.op with
 | false => obtain ⟨h1,h2,_⟩ := aoper_R hE hF h; exact ⟨h1,h2⟩
 | true => obtain ⟨h1,h2,_⟩ := aoper_fz hF h; exact ⟨h1,h2⟩
theorem amake_lo {t : TypeId} {l c : Value} {lo : Lo} {st : St} {r : Value × Lo × St} (h : amake P t l c lo st = some r) : r.2.1 = lo := by
 unfold amake at h
 split at h
 ·simp only [Option.bind_eq_some_iff] at h
  obtain ⟨e,_,z,_,b,_,z0,_,h⟩ := h
  split at h
  ·injection h with h; rw [← h]
  ·cases h
 ·cases h
theorem alit_lo {t : TypeId} {n : Nat} {ps : List (Nat × Value)} {lo : Lo} {st : St} {r : Value × Lo × St} (h : alit P t n ps lo st = some r) : r.2.1 = lo := by
 unfold alit at h
 simp only [Option.bind_eq_some_iff] at h
 obtain ⟨e,_,z,_,z0,_,h⟩ := h
 split at h
 ·obtain ⟨c,_,h⟩ := Option.map_eq_some_iff.1 h
  rw [← h]
 ·cases h
theorem aappend_lo {c : Call} {e : Operand → Value} {lo : Lo} {st : St} {r : Value × Lo × St} (h : aappend P c e lo st = some r) : r.2.1 = lo := by
 unfold aappend at h
 split at h
 ·split at h
  ·simp only [Option.bind_eq_some_iff] at h
   obtain ⟨e,_,z,_,b,_,z0,_,h⟩ := h
   split at h
   ·obtain ⟨s,_,h⟩ := Option.bind_eq_some_iff.1 h
    obtain ⟨c,_,h⟩ := Option.map_eq_some_iff.1 h
    rw [← h]
   ·cases h
  ·cases h
 ·cases h
theorem aoper_call {ls : List Tmp} {call : ACallT} {o : Oper} {e : Operand → Value} {lo lo' : Lo} {st st' : St} {v : Value} (hC : isCall o.op = true) (h : aoper P ls call o e lo st = some (v,lo',st')) : lo' = lo := by
 obtain ⟨dst,op,type,pos,after,guard⟩ := o
 cases op <;> simp only [isCall,reduceCtorEq] at hC
 case makeSlice t l c => exact amake_lo (r := (v,lo',st')) h
 case buildSlice t n ps =>
  have hn : ¬ n = 0 := by simpa using hC
  simp only [aoper] at h
  rw [if_neg hn] at h
  exact alit_lo (r := (v,lo',st')) h
 rename_i c
 simp only [aoper] at h
 split at hC
 ·rename_i f hf
  rw [hf] at h
  simp only at h
  split at h
  ·split at h
   ·obtain ⟨r,_,he⟩ := Option.map_eq_some_iff.1 h
    simp only [Prod.mk.injEq] at he
    exact he.2.1.symm
   ·cases h
  ·cases h
 ·rename_i hf
  rw [hf] at h
  simp only at h
  exact aappend_lo (r := (v,lo',st')) h
 ·cases hC
theorem pairs_at {ls : List Tmp} {ops : Array Oper} {b : Array Nat} (h : pairsOk P ls ops b = true) {i j : Nat} {x y : Oper} (hi : ops[i]? = some x) (hj : ops[j]? = some y) (hij : i < j) : clash P ls ops b i j x y = true := by
 unfold pairsOk at h
 rw [List.all_eq_true] at h
 have h1 := h (y,j) (by rw [List.mem_zipIdx_iff_getElem?]; simpa using hj)
 simp only at h1
 rw [List.all_eq_true] at h1
 have h2 := h1 (x,i) (by rw [List.mem_zipIdx_iff_getElem?]; simpa using hi)
 simpa [hij] using h2
theorem edges_at {ops : Array Oper} (h : edgesOk ops = true) {i : Nat} {o : Oper} (hi : ops[i]? = some o) : ∀ e ∈ o.after,Region.binds .any e = true → e.on < i := by
 unfold edgesOk at h
 rw [List.all_eq_true] at h
 have h1 := h (o,i) (by rw [List.mem_zipIdx_iff_getElem?]; simpa using hi)
 simp only at h1
 rw [List.all_eq_true] at h1
 intro e he hb
 have := h1 e (Array.mem_toList_iff.2 he)
 rw [hb] at this
 simpa using this
theorem rank_at {md : Region.Mode} {ops : Array Oper} (h : rankOk md ops = true) : ∃ r : Nat → Nat,∀ (j : Nat) o,ops[j]? = some o → ∀ e ∈ o.after,Region.binds md e = true → e.on < ops.size ∧ r e.on < r j := by
 refine ⟨fun i => (Region.linearise md ops 0).idxOf i,fun j o hj e he hb => ?_⟩
 unfold rankOk at h
 rw [List.all_eq_true] at h
 have h1 := h (o,j) (by rw [List.mem_zipIdx_iff_getElem?]; simpa using hj)
 simp only at h1
 rw [List.all_eq_true] at h1
 have := h1 e (Array.mem_toList_iff.2 he)
 rw [hb] at this
 simpa using this
theorem rank_any {ops : Array Oper} (h : edgesOk ops = true) : ∃ r : Nat → Nat,∀ (j : Nat) o,ops[j]? = some o → ∀ e ∈ o.after,Region.binds .any e = true → e.on < ops.size ∧ r e.on < r j :=
 ⟨fun i => i,fun j o hj e he hb => by
  have h1 := edges_at h hj e he hb
  have h2 := (Array.getElem?_eq_some_iff.1 hj).1
  exact ⟨by omega,h1⟩⟩
theorem binds_all {md : Region.Mode} {e : Edge} (h : Region.binds .any e = true) : Region.binds md e = true := by
 unfold Region.binds at h ⊢
 cases hg : e.ground <;> rw [hg] at h <;> first | rfl | (simp at h; done) | (cases h)
theorem clos_at {ops : Array Oper} {b : Array Nat} (h : closOk ops b = true) {i j : Nat} {o : Oper} (hj : ops[j]? = some o) (hi : i < ops.size) (hb : isBefore b i j = true) : ∃ e ∈ o.after,Region.binds .any e = true ∧ (e.on = i ∨ isBefore b i e.on = true) := by
 unfold closOk at h
 rw [List.all_eq_true] at h
 have h1 := h (o,j) (by rw [List.mem_zipIdx_iff_getElem?]; simpa using hj)
 simp only at h1
 rw [List.all_eq_true] at h1
 have h2 := h1 i (List.mem_range.2 hi)
 rw [hb] at h2
 simp only [Bool.not_true,Bool.false_or,List.any_eq_true,Bool.and_eq_true,Bool.or_eq_true,beq_iff_eq] at h2
 obtain ⟨e,he,h4,h3⟩ := h2
 exact ⟨e,Array.mem_toList_iff.1 he,h4,h3⟩
theorem closed_before {ops : Array Oper} {b : Array Nat} (he : edgesOk ops = true) (hc : closOk ops b = true) {D : Nat → Prop} (hD : ∀ j o,ops[j]? = some o → D j → ∀ e ∈ o.after,Region.binds .any e = true → D e.on) :
  ∀ (j i : Nat),j < ops.size → i < ops.size → isBefore b i j = true → (∀ o,ops[j]? = some o → ∀ e ∈ o.after,Region.binds .any e = true → D e.on) → D i := by
 intro j
 induction j using Nat.strongRecOn with
 | _ j ih =>
  intro i hj hi hb hDj
  have hoj : ops[j]? = some ops[j] := Array.getElem?_eq_getElem hj
  obtain ⟨e,hem,hbe,hor⟩ := clos_at hc hoj hi hb
  have hen := edges_at he hoj e hem hbe
  rcases hor with h1 | h1
  ·rw [← h1]; exact hDj _ hoj e hem hbe
  ·have hDe := hDj _ hoj e hem hbe
   exact ih e.on hen i (by omega) hi h1 (fun o ho => hD e.on o ho hDe)
theorem looks_opnd {ops : Array Oper} {o : Oper} {t : Tmp} (h : Operand.tmp t ∈ o.op.operands) : t ∈ o.looksAt ops := by
 unfold Oper.looksAt
 exact List.mem_append_left _ (List.mem_filterMap.2 ⟨.tmp t,Array.mem_toList_iff.2 h,rfl⟩)
theorem looks_guard {ops : Array Oper} {o : Oper} {j : Nat} {want : Bool} {t : Tmp} (hg : o.guard = some (j,want)) (ht : (ops[j]?).bind (·.dst) = some t) : t ∈ o.looksAt ops := by
 unfold Oper.looksAt
 refine List.mem_append_right _ ?_
 rw [hg]
 simp only [ht]
 simp
theorem ev_agree {ops : Array Oper} {ρ ρ' : Tm} {o : Oper} (h : ∀ t ∈ o.looksAt ops,ρ t = ρ' t) : (∀ x ∈ o.op.operands,ev ρ x = ev ρ' x) ∧ aguard ops ρ o = aguard ops ρ' o := by
 refine ⟨fun x hx => ?_,?_⟩
 ·cases x with
  | tmp t => exact h t (looks_opnd hx)
  | _ => rfl
 ·unfold aguard
  split
  ·rfl
  ·rename_i j want hg
   split
   ·rename_i t ht
    rw [h t (looks_guard hg ht)]
   ·rfl
def Holds (ops : Array Oper) (ρ0 : Tm) (V : Nat → Value) (D : Nat → Prop) (ρ : Tm) : Prop := ∀ t,
 (∃ j o,ops[j]? = some o ∧ D j ∧ o.dst = some t ∧ (∀ j' o',ops[j']? = some o' → D j' → o'.dst = some t → j' ≤ j) ∧ ρ t = V j) ∨ ((∀ j o,ops[j]? = some o → D j → o.dst ≠ some t) ∧ ρ t = ρ0 t)
theorem Holds.same {ops : Array Oper} {ρ0 : Tm} {V : Nat → Value} {D D' : Nat → Prop} {ρ ρ' : Tm} (h : Holds ops ρ0 V D ρ) (h' : Holds ops ρ0 V D' ρ') {t : Tmp} (ht : ∀ j o,ops[j]? = some o → o.dst = some t → (D j ↔ D' j)) : ρ t = ρ' t := by
 rcases h t with ⟨j,o,ho,hj,hd,hm,hv⟩ | ⟨hn,hv⟩ <;> rcases h' t with ⟨j',o',ho',hj',hd',hm',hv'⟩ | ⟨hn',hv'⟩
 ·have h1 := hm j' o' ho' ((ht j' o' ho' hd').2 hj') hd'
  have h2 := hm' j o ho ((ht j o ho hd).1 hj) hd
  have : j = j' := by omega
  rw [hv,hv',this]
 ·exact absurd hd (hn' j o ho ((ht j o ho hd).1 hj))
 ·exact absurd hd' (hn j' o' ho' ((ht j' o' ho' hd').2 hj'))
 ·rw [hv,hv']
theorem Holds.step {ops : Array Oper} {ρ0 : Tm} {V : Nat → Value} {D : Nat → Prop} {ρ : Tm} (h : Holds ops ρ0 V D ρ) {i : Nat} {o : Oper} (ho : ops[i]? = some o) (hlast : ∀ j o',ops[j]? = some o' → D j → (∃ t,o.dst = some t ∧ o'.dst = some t) → j ≤ i) :
  Holds ops ρ0 V (fun j => D j ∨ j = i) (Tm.putO ρ o.dst (V i)) := by
 intro t
 cases hd : o.dst with
 | none =>
  rcases h t with ⟨j,o1,ho1,hj,hd1,hm,hv⟩ | ⟨hn,hv⟩
  ·refine .inl ⟨j,o1,ho1,.inl hj,hd1,fun j' o' ho' hj' hd' => ?_,hv⟩
   rcases hj' with hj' | rfl
   ·exact hm j' o' ho' hj' hd'
   ·rw [ho] at ho'; injection ho' with ho'; rw [← ho',hd] at hd'; cases hd'
  ·refine .inr ⟨fun j o' ho' hj' hd' => ?_,hv⟩
   rcases hj' with hj' | rfl
   ·exact hn j o' ho' hj' hd'
   ·rw [ho] at ho'; injection ho' with ho'; rw [← ho',hd] at hd'; cases hd'
 | some d =>
  by_cases htd : t = d
  ·subst htd
   refine .inl ⟨i,o,ho,.inr rfl,hd,fun j' o' ho' hj' hd' => ?_,if_pos rfl⟩
   rcases hj' with hj' | rfl
   ·exact hlast j' o' ho' hj' ⟨t,hd,hd'⟩
   ·exact Nat.le_refl _
  ·have hput : Tm.putO ρ (some d) (V i) t = ρ t := if_neg htd
   rw [hput]
   rcases h t with ⟨j,o1,ho1,hj,hd1,hm,hv⟩ | ⟨hn,hv⟩
   ·refine .inl ⟨j,o1,ho1,.inl hj,hd1,fun j' o' ho' hj' hd' => ?_,hv⟩
    rcases hj' with hj' | rfl
    ·exact hm j' o' ho' hj' hd'
    ·rw [ho] at ho'; injection ho' with ho'; rw [← ho',hd] at hd'; injection hd' with hd'; exact absurd hd'.symm htd
   ·refine .inr ⟨fun j o' ho' hj' hd' => ?_,hv⟩
    rcases hj' with hj' | rfl
    ·exact hn j o' ho' hj' hd'
    ·rw [ho] at ho'; injection ho' with ho'; rw [← ho',hd] at hd'; injection hd' with hd'; exact absurd hd'.symm htd
def left (listed : Array Bool) : Nat → Nat
 | 0 => 0
 | k + 1 => left listed k + (if listed.getD k true = true then 0 else 1)
theorem left_set {listed : Array Bool} {i : Nat} (hi : listed.getD i true = false) : ∀ k,left (listed.setIfInBounds i true) k + (if i < k then 1 else 0) = left listed k
 | 0 => by simp [left]
 | k + 1 => by
  have ih := left_set hi k
  have hlt : i < listed.size := by
   rcases Nat.lt_or_ge i listed.size with h | h
   ·exact h
   ·rw [Array.getD_eq_getD_getElem?,Array.getElem?_eq_none h] at hi; cases hi
  simp only [left]
  by_cases hk : k = i
  ·subst hk
   have h1 : (listed.setIfInBounds k true).getD k true = true := by rw [Array.getD_eq_getD_getElem?,Array.getElem?_setIfInBounds_self_of_lt hlt]; rfl
   rw [h1,hi]
   simp only [Nat.lt_irrefl,if_false] at ih
   simp only [if_true,Bool.false_eq_true,if_false,Nat.lt_succ_self]
   omega
  ·rw [getD_set_ne true (Ne.symm hk)]
   by_cases h2 : i < k
   ·rw [if_pos (show i < k + 1 by omega)]; rw [if_pos h2] at ih; omega
   ·rw [if_neg (show ¬ i < k + 1 by omega)]; rw [if_neg h2] at ih; omega
theorem left_zero {listed : Array Bool} : ∀ k,left listed k = 0 → ∀ i,i < k → listed.getD i true = true
 | 0,_,i,hi => by omega
 | k + 1,h,i,hi => by
  simp only [left] at h
  rcases Nat.lt_or_ge i k with h1 | h1
  ·exact left_zero k (by omega) i h1
  ·have : i = k := by omega
   subst this
   by_cases h2 : listed.getD i true = true
   ·exact h2
   ·rw [if_neg h2] at h; omega
theorem left_le {listed : Array Bool} : ∀ k,left listed k ≤ k
 | 0 => Nat.le_refl _
 | k + 1 => by
  have := left_le (listed := listed) k
  simp only [left]
  split <;> omega
theorem before_lt {ops : Array Oper} {b : Array Nat} (he : edgesOk ops = true) (hc : closOk ops b = true) : ∀ (j i : Nat),j < ops.size → i < ops.size → isBefore b i j = true → i < j := by
 intro j
 induction j using Nat.strongRecOn with
 | _ j ih =>
  intro i hj hi hb
  have hoj : ops[j]? = some ops[j] := Array.getElem?_eq_getElem hj
  obtain ⟨e,hem,hbe,hor⟩ := clos_at hc hoj hi hb
  have hen := edges_at he hoj e hem hbe
  rcases hor with h1 | h1
  ·omega
  ·have := ih e.on hen i (by omega) hi h1
   omega
theorem clash_or {ls : List Tmp} {ops : Array Oper} {b : Array Nat} {i j : Nat} {x y : Oper} (h : clash P ls ops b i j x y = true) : isBefore b i j = true ∨ (x.apart ops y = true ∧ y.apart ops x = true ∧
  (((isE P x.op = true → isE P y.op = true → False) ∧ (readsMem x.op = true → isE P y.op = true → isRd P x.op = true ∧ isCall y.op = true) ∧ (readsMem y.op = true → isE P x.op = true → isRd P y.op = true ∧ isCall x.op = true)) ∨
   (isPend ls y = true ∧ allBehind P ops b i j = true ∧ (readsMem x.op = false ∨ isRd P x.op = true)) ∨ (isPend ls x = true ∧ isE P y.op = false ∧ (readsMem y.op = false ∨ isRd P y.op = true)) ∨ stP ops x y = true)) := by
 unfold clash at h
 cases hb : isBefore b i j with
 | true => exact .inl rfl
 | false =>
  rw [hb] at h
  simp only [Bool.false_or,Bool.and_eq_true,Bool.or_eq_true,Bool.not_eq_true',Bool.and_eq_false_iff] at h
  obtain ⟨⟨h2,h3⟩,h1⟩ := h
  refine .inr ⟨h2,h3,?_⟩
  rcases h1 with ((⟨⟨h1,h4⟩,h5⟩ | h1) | h1) | h1
  ·refine .inl ⟨fun hx hy => ?_,fun hx hy => ?_,fun hx hy => ?_⟩
   ·rcases h1 with h1 | h1
    ·rw [hx] at h1; cases h1
    ·rw [hy] at h1; cases h1
   ·rcases h4 with (h4 | h4) | h4
    ·rw [hx] at h4; cases h4
    ·rw [hy] at h4; cases h4
    ·exact h4
   ·rcases h5 with (h5 | h5) | h5
    ·rw [hx] at h5; cases h5
    ·rw [hy] at h5; cases h5
    ·exact h5
  ·exact .inr (.inl ⟨h1.1.1,h1.1.2,h1.2⟩)
  ·exact .inr (.inr (.inl ⟨h1.1.1,h1.1.2,h1.2⟩))
  ·exact .inr (.inr (.inr h1))
theorem flChk_call {n0 : Nat → Prop} {i : Nat} {ops : Array Oper} {o : Op} {e : Operand → Value} {st st' : St} (hc : isCall o = true) (h : flChk n0 ops i o e st st') : ∀ a,n0 a → st'.mem a = st.mem a := by
 cases o <;> first | exact h | cases hc
theorem stP_iff {ops : Array Oper} {x y : Oper} (h : stP ops x y = true) : ∃ t a t' b v,x.op = .load t (.tmp a) ∧ y.op = .store t' (.tmp b) v ∧ ∀ o ∈ ops.toList,o.dst ≠ some a ∧ o.dst ≠ some b := by
 unfold stP at h
 split at h
 ·rename_i t a t' b v h1 h2
  refine ⟨t,a,t',b,v,h1,h2,fun o ho => ?_⟩
  have := List.all_eq_true.1 h o ho
  simpa using this
 ·cases h
theorem stP_l {ops : Array Oper} {x y : Oper} (h : stP ops x y = true) : isE P x.op = false ∧ isLoad x.op = true := by
 obtain ⟨t,a,t',b,v,h1,_⟩ := stP_iff h
 rw [h1]; exact ⟨rfl,rfl⟩
theorem stP_r {ops : Array Oper} {x y : Oper} (h : stP ops x y = true) : isE P y.op = true ∧ readsMem y.op = false ∧ isSt y.op = true := by
 obtain ⟨t,a,t',b,v,_,h1,_⟩ := stP_iff h
 rw [h1]; exact ⟨rfl,rfl,rfl⟩
theorem isPendA_iff {ls : List Tmp} {o : Oper} (h : isPendA ls o = true) : ∃ t d,o.op = .alloc t ∧ o.dst = some d ∧ ls.contains d = true ∧ o.guard = none ∧ o.after = #[] := by
 unfold isPendA at h
 split at h
 ·rename_i t d h1 h2
  simp only [Bool.and_eq_true,Option.isNone_iff_eq_none,Array.isEmpty_iff] at h
  exact ⟨t,d,h1,h2,h.1.1,h.1.2,h.2⟩
 ·cases h
theorem isPendH_iff {o : Oper} (h : isPendH o = true) : isMk o.op = true ∧ (∃ d,o.dst = some d) ∧ o.guard = none := by
 simp only [isPendH,Bool.and_eq_true,Option.isNone_iff_eq_none,Option.isSome_iff_exists] at h
 exact ⟨h.1.1,h.1.2,h.2⟩
theorem isPend_or {ls : List Tmp} {o : Oper} (h : isPend ls o = true) : isPendA ls o = true ∨ isPendH o = true := by simpa [isPend] using h
theorem isPend_A {ls : List Tmp} {o : Oper} (h : isPendA ls o = true) : isPend ls o = true := by simp [isPend,h]
theorem isPend_H {ls : List Tmp} {o : Oper} (h : isPendH o = true) : isPend ls o = true := by simp [isPend,h]
theorem isMk_cases {o : Op} (h : isMk o = true) : (∃ t l c,o = .makeSlice t l c) ∨ ∃ t n ps,o = .buildSlice t n ps ∧ n ≠ 0 := by
 cases o <;> simp only [isMk,reduceCtorEq] at h
 ·rename_i t n ps; exact .inr ⟨t,n,ps,rfl,by simpa using h⟩
 ·exact .inl ⟨_,_,_,rfl⟩
theorem isMk_call {o : Op} (h : isMk o = true) : isCall o = true := by
 rcases isMk_cases h with ⟨t,l,c,rfl⟩ | ⟨t,n,ps,rfl,hn⟩
 ·rfl
 ·simpa [isCall] using hn
theorem isMk_E {o : Op} (h : isMk o = true) : isE P o = true := by
 rcases isMk_cases h with ⟨t,l,c,rfl⟩ | ⟨t,n,ps,rfl,hn⟩
 ·rfl
 ·simpa [isE] using hn
theorem isPend_gd {ls : List Tmp} {o : Oper} (h : isPend ls o = true) : (∃ d,o.dst = some d) ∧ o.guard = none := by
 rcases isPend_or h with h | h
 ·obtain ⟨t,d,_,h1,_,h2,_⟩ := isPendA_iff h; exact ⟨⟨d,h1⟩,h2⟩
 ·exact (isPendH_iff h).2
theorem isPend_E {ls : List Tmp} {o : Oper} (h : isPend ls o = true) : isE P o.op = true := by
 rcases isPend_or h with h | h
 ·obtain ⟨t,d,h1,_⟩ := isPendA_iff h
  rw [h1]; rfl
 ·exact isMk_E (isPendH_iff h).1
theorem isPendA_call {ls : List Tmp} {o : Oper} (h : isPendA ls o = true) : isCall o.op = false := by
 obtain ⟨t,d,h1,_⟩ := isPendA_iff h
 rw [h1]; rfl
theorem isRd_iff {o : Op} (h : isRd P o = true) : readsMem o = true ∧ isE P o = false := by simpa [isRd] using h
theorem stP_pend {ls : List Tmp} {ops : Array Oper} {x y : Oper} (h : stP ops x y = true) : (isPend ls y = true → False) ∧ (isPend ls x = true → False) := by
 obtain ⟨t,a,t',b,v,h1,h2,_⟩ := stP_iff h
 refine ⟨fun k => ?_,fun k => ?_⟩
 ·rcases isPend_or k with k | k
  ·obtain ⟨u,d,h3,_⟩ := isPendA_iff k; rw [h2] at h3; cases h3
  ·have := (isPendH_iff k).1; rw [h2] at this; cases this
 ·rcases isPend_or k with k | k
  ·obtain ⟨u,d,h3,_⟩ := isPendA_iff k; rw [h1] at h3; cases h3
  ·have := (isPendH_iff k).1; rw [h1] at this; cases this
theorem behind_at {ops : Array Oper} {b : Array Nat} {i j k : Nat} (h : allBehind P ops b i j = true) (hk : k < ops.size) (hb : isBefore b j k = true) : isBefore b i k = true ∨ isFzOf P ops j k = true := by
 unfold allBehind at h
 rw [List.all_eq_true] at h
 have := h k (List.mem_range.2 hk)
 rw [hb] at this
 simpa using this
theorem isFzOf_iff {ops : Array Oper} {j k : Nat} (h : isFzOf P ops j k = true) : k = j + 1 ∧ ∃ o,ops[k]? = some o ∧ isFz P o.op = true := by
 simp only [isFzOf,Bool.and_eq_true,beq_iff_eq] at h
 obtain ⟨h1,h2⟩ := h
 refine ⟨h1,?_⟩
 split at h2
 ·rename_i o ho; exact ⟨o,ho,h2⟩
 ·cases h2
theorem isFz_E {o : Op} (h : isFz P o = true) : isE P o = false ∧ readsMem o = false := by
 cases o <;> simp only [isFz,reduceCtorEq,Bool.false_eq_true] at h
 simp only [Bool.and_eq_true,beq_iff_eq] at h
 simp [isE,readsMem,h.2]
theorem isFz_pend {ls : List Tmp} {o : Oper} (h : isFz P o.op = true) (k : isPend ls o = true) : False := by
 have := isPend_E (P := P) k
 rw [(isFz_E h).1] at this
 cases this
structure FzAt (P : Program) (ops : Array Oper) (b : Array Nat) (k : Nat) (o u : Oper) (x d : Tmp) : Prop where
 op : ∃ t,o.op = .convert t t (.tmp x)
 pos : 0 < k
 at_ : ops[k - 1]? = some u
 mkH : isPendH u = true
 dx : u.dst = some x
 bef : isBefore b (k - 1) k = true
 gd : o.guard = none
 dst : o.dst = some d
 ne : d ≠ x
 behind : ∀ j,j < ops.size → isBefore b k j = true → isBefore b (k - 1) j = true
 wait : ∀ (j : Nat) y,ops[j]? = some y → k < j → isE P y.op = true → isBefore b k j = true
theorem fz_at {ops : Array Oper} {b : Array Nat} (h : fzOk P ops b = true) {k : Nat} {o : Oper} (ho : ops[k]? = some o) (hF : isFz P o.op = true) : ∃ u x d,FzAt P ops b k o u x d := by
 unfold fzOk at h
 rw [List.all_eq_true] at h
 have h1 := h (o,k) (by rw [List.mem_zipIdx_iff_getElem?]; simpa using ho)
 simp only [hF,Bool.not_true,Bool.false_or] at h1
 unfold fzOne at h1
 split at h1
 ·rename_i t t' x hop
  simp only [Bool.and_eq_true,decide_eq_true_eq,Option.isNone_iff_eq_none,Option.isSome_iff_exists,Bool.not_eq_true',beq_eq_false_iff_ne,ne_eq] at h1
  obtain ⟨⟨⟨⟨⟨⟨⟨h2,h3⟩,h4⟩,h5⟩,⟨d,h6⟩⟩,h7⟩,h8⟩,h9⟩ := h1
  split at h3
  ·rename_i u hu
   simp only [Bool.and_eq_true,beq_iff_eq] at h3
   have htt : t = t' := by
    rw [hop] at hF
    simp only [isFz,Bool.and_eq_true,beq_iff_eq] at hF
    exact hF.2
   subst htt
   refine ⟨u,x,d,⟨t,hop⟩,h2,hu,h3.1,h3.2,h4,h5,h6,fun hdx => h7 (by rw [h6,hdx]),fun j hj hb => ?_,fun j y hy hkj hE => ?_⟩
   ·rw [List.all_eq_true] at h8
    have := h8 j (List.mem_range.2 hj)
    rw [hb] at this
    simpa using this
   ·rw [List.all_eq_true] at h9
    have := h9 (y,j) (by rw [List.mem_zipIdx_iff_getElem?]; simpa using hy)
    simpa [hkj,hE] using this
  ·cases h3
 ·cases h1
def Off (ι : Inj) (lo : Lo) (st : St) (B : Nat) : Prop := (∀ a b,st.mem a = some b → (ι.h a).1 ≠ B) ∧ ∀ t g cs,lo.loc t = some (g,cs) → ι.l t g ≠ B
theorem Off.img {ι : Inj} {lo : Lo} {st : St} {B : Nat} (h : Off ι lo st B) (hi : img ι lo st B) : False := by
 rcases hi with ⟨a,blk,ha,_,he⟩ | ⟨t,g,cs,ht,he⟩
 ·exact h.1 a blk ha he
 ·exact h.2 t g cs ht he
theorem Off.goes {ι ι' : Inj} {lo lo' : Lo} {st st' : St} {w w' : World} {B : Nat} (h : Off ι lo st B) (hr : Rel ι lo st w) (hg : Goes ι lo st w ι' lo' st' w') (hB : B < w.heap.size) : Off ι' lo' st' B := by
 refine ⟨fun a b hb he => ?_,fun t g cs ht he => ?_⟩
 ·cases hrw : b.rw with
  | true =>
   rcases hg.sub B (.inl ⟨a,b,hb,hrw,he⟩) with hi | hi
   ·exact h.img hi
   ·omega
  | false =>
   have hb0 := hg.ro a b hb hrw
   have := hg.ext.h a (by rw [hr.n]; exact hr.lt a b hb0)
   exact h.1 a b hb0 (by rw [← this]; exact he)
 ·rcases hg.sub B (.inr ⟨t,g,cs,ht,he⟩) with hi | hi
  ·exact h.img hi
  ·omega
theorem box_loc {lo : Lo} {t : Tmp} {cs : List Value} : ∀ t' g' cs',(lo.box t cs).loc t' = some (g',cs') → (t' = t ∧ g' = lo.gen ∧ cs' = cs) ∨ (t' ≠ t ∧ lo.loc t' = some (g',cs')) := by
 intro t' g' cs' hb
 simp only [Lo.box] at hb
 split at hb
 ·rename_i he
  injection hb with hb
  injection hb with hb1 hb2
  exact .inl ⟨he,hb1.symm,hb2.symm⟩
 ·rename_i he
  exact .inr ⟨he,hb⟩
theorem rel_adopt {ι : Inj} {lo : Lo} {st : St} {w : World} (h : Rel ι lo st w) (t : Tmp) {B : Nat} {c : Array Value} {e : TypeId} {cs : List Value} (hB : w.heap[B]? = some (.cells c e (0,0))) (hoff : Off ι lo st B) (hr : ∀ (i : Nat) (x : Value),cs[i]? = some x → ∃ y : Value,c[i]? = some y ∧ VR0 ι.base x y) (hl : cs.length ≤ c.size) : Rel (ι.pushL t B) (lo.box t cs) st w := by
 have hE := Ext.pushL ι t B
 have hg : ι.g = lo.gen := h.g
 have hat : (ι.pushL t B).l t lo.gen = B := by rw [← hg]; exact pushL_at _ _ _
 have hold : ∀ t' g',g' < lo.gen → (ι.pushL t B).l t' g' = ι.l t' g' := fun t' g' hg' => hE.l t' g' (by omega)
 have hloc := box_loc (lo := lo) (t := t) (cs := cs)
 refine ⟨h.n,?_,h.lt,?_,?_,?_,h.hh,?_,?_,h.hb⟩
 ·show ι.g + 1 = lo.gen + 1; omega
 ·intro a b hb
  exact (h.hk a b hb).mono hE (by rw [h.n]; exact h.lt a b hb) rfl
 ·intro t' g' cs' ht
  show g' < lo.gen + 1
  rcases hloc t' g' cs' ht with ⟨rfl,rfl,rfl⟩ | ⟨_,ht⟩
  ·omega
  ·have := h.lg _ _ _ ht; omega
 ·intro t' g' cs' ht
  rcases hloc t' g' cs' ht with ⟨rfl,rfl,rfl⟩ | ⟨_,ht⟩
  ·refine ⟨c,e,by rw [hat]; exact hB,hl,fun i x hx => ?_⟩
   obtain ⟨y,hy,hv⟩ := hr i x hx
   exact ⟨y,hy,VR0_mono hE.base hv⟩
  ·exact (h.lk t' g' cs' ht).mono hE (by rw [h.g]; exact h.lg _ _ _ ht) rfl
 ·intro a b t' g' cs' hb ht
  show (ι.h a).1 ≠ _
  rcases hloc t' g' cs' ht with ⟨rfl,rfl,rfl⟩ | ⟨_,ht⟩
  ·rw [hat]; exact hoff.1 a b hb
  ·rw [hold _ _ (h.lg _ _ _ ht)]; exact h.hl a b t' g' cs' hb ht
 ·intro t1 g1 cs1 t2 g2 cs2 hne h1 h2
  rcases hloc t1 g1 cs1 h1 with ⟨rfl,rfl,rfl⟩ | ⟨_,k1⟩ <;> rcases hloc t2 g2 cs2 h2 with ⟨rfl,rfl,rfl⟩ | ⟨_,k2⟩
  ·exact absurd rfl hne
  ·rw [hat,hold _ _ (h.lg _ _ _ k2)]; exact (hoff.2 _ _ _ k2).symm
  ·rw [hat,hold _ _ (h.lg _ _ _ k1)]; exact hoff.2 _ _ _ k1
  ·rw [hold _ _ (h.lg _ _ _ k1),hold _ _ (h.lg _ _ _ k2)]; exact h.ll _ _ _ _ _ _ hne k1 k2
theorem img_adopt {ι : Inj} {lo : Lo} {st : St} {w : World} (h : Rel ι lo st w) {t : Tmp} {B b : Nat} {cs : List Value} (hi : img (ι.pushL t B) (lo.box t cs) st b) : img ι lo st b ∨ b = B := by
 rcases hi with ⟨a,blk,ha,hr,he⟩ | ⟨t',g',cs',ht,he⟩
 ·exact .inl (.inl ⟨a,blk,ha,hr,he⟩)
 ·rcases box_loc t' g' cs' ht with ⟨rfl,rfl,rfl⟩ | ⟨_,ht⟩
  ·right
   rw [← he,← h.g]; exact pushL_at _ _ _
  ·left
   refine .inr ⟨t',g',cs',ht,?_⟩
   rw [← he]
   exact ((Ext.pushL ι t B).l t' g' (by rw [h.g]; exact h.lg _ _ _ ht)).symm
theorem rel_adoptH {ι : Inj} {lo : Lo} {st : St} {w : World} (h : Rel ι lo st w) {B z cap : Nat} {c : Array Value} {e : TypeId} {fr : Nat × Nat} {cs : List Value} (hB : w.heap[B]? = some (.cells c e fr)) (hoff : Off ι lo st B) (hr : ∀ (i : Nat) (x : Value),cs[i]? = some x → ∃ y : Value,c[i]? = some y ∧ VR0 ι.base x y) (hl : cs.length ≤ c.size)
  (hc : cap * z ≤ c.size) (hf : frOk fr c.size) : Rel (ι.push B cap) lo (st.push z cs) w := by
 have hE := Ext.push ι B cap
 have hn : ι.n = st.next := h.n
 have hat : (ι.push B cap).h st.next = (B,0) := by rw [← hn]; exact push_at _ _ _
 have hold : ∀ a,a < st.next → (ι.push B cap).h a = ι.h a := fun a ha => hE.h a (by omega)
 have hmem : ∀ a b,(st.push z cs).mem a = some b → (a = st.next ∧ b = ⟨true,z,cs⟩) ∨ (a < st.next ∧ st.mem a = some b) := by
  intro a b hb
  simp only [St.push] at hb
  split at hb
  ·rename_i he
   injection hb with hb
   exact .inl ⟨he,hb.symm⟩
  ·exact .inr ⟨h.lt a b hb,hb⟩
 refine ⟨?_,h.g,?_,?_,h.lg,?_,?_,?_,?_,?_⟩
 ·show ι.n + 1 = st.next + 1; omega
 ·intro a b hb
  show a < st.next + 1
  rcases hmem a b hb with ⟨rfl,_⟩ | ⟨hlt,_⟩ <;> omega
 ·intro a b hb
  rcases hmem a b hb with ⟨rfl,rfl⟩ | ⟨hlt,hb⟩
  ·refine ⟨fun i x hx => ?_,fun _ => ?_,fun h0 => by cases h0⟩
   ·obtain ⟨y,hy,hv⟩ := hr i x hx
    refine ⟨y,?_,VR0_mono hE.base hv⟩
    rw [hat]
    simp only [Nat.zero_add]
    rw [cell_of hB]
    exact hy
   ·rw [hat]
    refine ⟨rfl,c,e,fr,hB,hf,hl,?_⟩
    have : (ι.push B cap).cap st.next = cap := by rw [← hn]; exact push_cap _ _ _
    rw [this]
    exact hc
  ·exact (h.hk a b hb).mono hE (by omega) rfl
 ·intro t g cs' ht
  exact (h.lk t g cs' ht).mono hE (by rw [h.g]; exact h.lg t g cs' ht) rfl
 ·intro a b a' b' hne hb hb' hrw
  rcases hmem a b hb with ⟨rfl,rfl⟩ | ⟨hlt,hb⟩ <;> rcases hmem a' b' hb' with ⟨rfl,rfl⟩ | ⟨hlt',hb'⟩
  ·exact absurd rfl hne
  ·rw [hat,hold _ hlt']
   exact (hoff.1 a' b' hb').symm
  ·rw [hat,hold _ hlt]
   exact hoff.1 a b hb
  ·rw [hold _ hlt,hold _ hlt']
   exact h.hh a b a' b' hne hb hb' hrw
 ·intro a b t g cs' hb ht
  show ((ι.push B cap).h a).1 ≠ ι.l t g
  rcases hmem a b hb with ⟨rfl,rfl⟩ | ⟨hlt,hb⟩
  ·rw [hat]; exact (hoff.2 _ _ _ ht).symm
  ·rw [hold _ hlt]
   exact h.hl a b t g cs' hb ht
 ·exact h.ll
 ·intro a b hb
  rcases hmem a b hb with ⟨rfl,rfl⟩ | ⟨hlt,hb⟩
  ·rw [hat]; exact (Array.getElem?_eq_some_iff.1 hB).1
  ·rw [hold _ hlt]; exact h.hb a b hb
theorem push_mem {st : St} {z : Nat} {cs : List Value} {a : Nat} {b : Blk} (hb : (st.push z cs).mem a = some b) : (a = st.next ∧ b = ⟨true,z,cs⟩) ∨ st.mem a = some b := by
 simp only [St.push] at hb
 split at hb
 ·rename_i he; injection hb with hb; exact .inl ⟨he,hb.symm⟩
 ·exact .inr hb
theorem img_adoptH {ι : Inj} {lo : Lo} {st : St} {w : World} (h : Rel ι lo st w) {B z cap b : Nat} {cs : List Value} (hi : img (ι.push B cap) lo (st.push z cs) b) : img ι lo st b ∨ b = B := by
 rcases hi with ⟨a,blk,ha,hr,he⟩ | ⟨t',g',cs',ht,he⟩
 ·rcases push_mem ha with ⟨rfl,rfl⟩ | ha
  ·right
   rw [← he,← h.n,push_at]
  ·left
   refine .inl ⟨a,blk,ha,hr,?_⟩
   rw [← he,(Ext.push ι B cap).h a (by rw [h.n]; exact h.lt a blk ha)]
 ·exact .inl (.inr ⟨t',g',cs',ht,he⟩)
def LoG (lo lo' : Lo) : Prop := lo.gen ≤ lo'.gen ∧ ∀ t,lo'.loc t = lo.loc t ∨ ∃ g cs,lo'.loc t = some (g,cs) ∧ lo.gen ≤ g
theorem LoG.refl (lo : Lo) : LoG lo lo := ⟨Nat.le_refl _,fun _ => .inl rfl⟩
theorem LoG.trans {a b c : Lo} (h : LoG a b) (k : LoG b c) : LoG a c := ⟨Nat.le_trans h.1 k.1,fun t => by
 rcases k.2 t with h1 | ⟨g,cs,h1,h2⟩
 ·rcases h.2 t with h3 | ⟨g,cs,h3,h4⟩
  ·exact .inl (h1.trans h3)
  ·exact .inr ⟨g,cs,h1.trans h3,h4⟩
 ·exact .inr ⟨g,cs,h1,Nat.le_trans h.1 h2⟩⟩
theorem LoG.box (lo : Lo) (t : Tmp) (cs : List Value) : LoG lo (lo.box t cs) := ⟨Nat.le_succ _,fun t' => by
 by_cases h : t' = t
 ·exact .inr ⟨lo.gen,cs,by simp [Lo.box,h],Nat.le_refl _⟩
 ·exact .inl (by simp [Lo.box,h])⟩
theorem rdB_G {lo lo' : Lo} {st st' : St} {b : Nat} {s : Option Nat} {cs : List Value} (hl : LoG lo lo') (hm : s = none → st.mem b = st'.mem b) (hg : ∀ g,s = some g → g < lo.gen) (h : rdB lo' st' b s = some cs) : rdB lo st b s = some cs := by
 cases s with
 | none => simp only [rdB] at h ⊢; rw [hm rfl]; exact h
 | some g =>
  simp only [rdB] at h ⊢
  have hg := hg g rfl
  rcases hl.2 b with h1 | ⟨g1,cs1,h1,h2⟩
  ·rw [← h1]; exact h
  ·rw [h1] at h
   simp only at h
   split at h
   ·omega
   ·cases h
theorem apart_dst {ops : Array Oper} {x y : Oper} (h : x.apart ops y = true) {t : Tmp} (hx : x.dst = some t) : t ∉ y.looksAt ops ∧ y.dst ≠ some t := by
 unfold Oper.apart at h
 rw [hx] at h
 simp only [Bool.and_eq_true,Bool.not_eq_true',bne_iff_ne,ne_eq] at h
 refine ⟨fun hm => ?_,h.1.2⟩
 have := h.1.1
 rw [List.contains_iff_mem.2 hm] at this
 cases this
theorem trace_quiet {ls : List Tmp} {call : ACallT} {ops : Array Oper} {n0 : Nat → Prop} {fl ld : Nat → Bool} {S : Nat → S3} {V : Nat → Value} (hst : ∀ j,j < ops.size → StepAt P ls call ops n0 fl ld j (S j) (S (j + 1)) (V j)) :
  ∀ (d l : Nat),l + d ≤ ops.size → (∀ j o,l ≤ j → j < l + d → ops[j]? = some o → isE P o.op = false) → (S (l + d)).2 = (S l).2 := by
 intro d
 induction d with
 | zero => intro l _ _; rfl
 | succ d ih =>
  intro l hl hq
  rw [← ih l (by omega) fun j o h1 h2 h3 => hq j o h1 (by omega) h3]
  obtain ⟨o,ho,hor⟩ := hst (l + d) (by omega)
  rcases hor with ⟨_,ha,_,_,_⟩ | ⟨_,_,hs⟩
  ·obtain ⟨h1,h2⟩ := aoper_same (hq (l + d) o (by omega) (by omega) ho) ha
   exact Prod.ext h1 h2
  ·rw [show l + (d + 1) = l + d + 1 from rfl,hs]
theorem rdB_same {lo lo' : Lo} {st st' : St} (hl : lo = lo') {b : Nat} {s : Option Nat} (h : s = none → st.mem b = st'.mem b) : rdB lo st b s = rdB lo' st' b s := by
 subst hl
 cases s with
 | none => simp only [rdB]; rw [h rfl]
 | some g => rfl
theorem store_apart {ls : List Tmp} {call : ACallT} {o : Oper} {e : Operand → Value} {lo lo' : Lo} {st st' : St} {v : Value} {t : TypeId} {y u : Operand} {q : Addr} {g b : Nat} {sp : Option Nat} (hop : o.op = .store t y u) (hy : e y = .pointer (some q)) (hq : q.spot = some g) (hb : ¬ q.block = b) (h : aoper P ls call o e lo st = some (v,lo',st')) : rdB lo' st' b sp = rdB lo st b sp := by
 unfold aoper at h
 rw [hop] at h
 simp only [astore,hy,hq] at h
 split at h
 ·split at h
  ·split at h
   ·simp only [Option.some.injEq,Prod.mk.injEq] at h
    obtain ⟨_,rfl,rfl⟩ := h
    cases sp with
    | none => rfl
    | some s =>
     simp only [rdB,Lo.set]
     rw [if_neg (fun h => hb h.symm)]
   ·cases h
  ·cases h
 ·cases h
theorem trace_apart {ls : List Tmp} {call : ACallT} {ops : Array Oper} {n0 : Nat → Prop} {fl ld : Nat → Bool} {S : Nat → S3} {V : Nat → Value} (hst : ∀ j,j < ops.size → StepAt P ls call ops n0 fl ld j (S j) (S (j + 1)) (V j)) (b : Nat) (sp : Option Nat) :
  ∀ (d l : Nat),l + d ≤ ops.size → (sp = none → n0 b) → (∀ j o,l ≤ j → j < l + d → ops[j]? = some o → isE P o.op = true → (isCall o.op = true ∧ fl j = true) ∨ (fl j = true ∧ isSt o.op = true ∧ ∀ t y v,o.op = .store t y v → stChk ops j y (ev (S j).1) → ∃ (q : Addr) (g : Nat),ev (S j).1 y = .pointer (some q) ∧ q.spot = some g ∧ ¬ q.block = b)) →
  rdB (S (l + d)).2.1 (S (l + d)).2.2 b sp = rdB (S l).2.1 (S l).2.2 b sp := by
 intro d
 induction d with
 | zero => intro l _ _ _; rfl
 | succ d ih =>
  intro l hl hlow hq
  rw [← ih l (by omega) hlow fun j o h1 h2 h3 => hq j o h1 (by omega) h3]
  rw [show l + (d + 1) = l + d + 1 from rfl]
  obtain ⟨o,ho,hor⟩ := hst (l + d) (by omega)
  rcases hor with ⟨_,ha,_,hf,_⟩ | ⟨_,_,hs⟩
  ·cases hE : isE P o.op with
   | false =>
    obtain ⟨h3,h4⟩ := aoper_same hE ha
    rw [h3,h4]
   | true =>
    rcases hq (l + d) o (by omega) (by omega) ho hE with ⟨hc,hfl⟩ | ⟨hfl,hs,hx⟩
    ·exact rdB_same (aoper_call hc ha) fun hs => flChk_call hc (hf hfl) b (hlow hs)
    ·cases hop : o.op <;> rw [hop] at hs <;> simp only [isSt,reduceCtorEq] at hs
     rename_i t y v
     have hk := hf hfl
     rw [hop] at hk
     obtain ⟨q,g,e1,e2,e3⟩ := hx t y v hop hk
     exact store_apart hop e1 e2 e3 ha
  ·rw [hs]
theorem trace_keep {ls : List Tmp} {call : ACallT} {ops : Array Oper} {n0 : Nat → Prop} {fl ld : Nat → Bool} {S : Nat → S3} {V : Nat → Value} {a : Tmp} (hst : ∀ j,j < ops.size → StepAt P ls call ops n0 fl ld j (S j) (S (j + 1)) (V j)) :
  ∀ (d l j : Nat),j = l + d → j ≤ ops.size → (∀ o ∈ ops.toList,o.dst ≠ some a) → (S j).1 a = (S l).1 a := by
 intro d
 induction d with
 | zero => intro l j hj _ _; rw [hj]; rfl
 | succ d ih =>
  intro l j hj hl hq
  subst hj
  rw [← ih l (l + d) rfl (by omega) hq,show l + (d + 1) = l + d + 1 from rfl]
  obtain ⟨o,ho,hor⟩ := hst (l + d) (by omega)
  have hd : o.dst ≠ some a := hq o (Array.mem_toList_iff.2 (Array.mem_of_getElem? ho))
  have hput : ∀ (ρ : Tm) (v : Value),Tm.putO ρ o.dst v a = ρ a := fun ρ v => by
   cases hdo : o.dst with
   | none => rfl
   | some d0 =>
    rw [hdo] at hd
    simp only [Tm.putO,Tm.put]
    rw [if_neg (fun h => hd (by rw [h]))]
  rcases hor with ⟨_,_,hp,_,_⟩ | ⟨_,_,hs⟩
  ·rw [hp]; exact hput _ _
  ·rw [hs]; exact hput _ _
theorem flOf_of {ops : Array Oper} {i j : Nat} {x y : Oper} (hi : ops[i]? = some x) (hj : ops[j]? = some y) (hc : isCall x.op = true) (hl : isRd P y.op = true) (hf : free (Region.before ops) i j = true) : flOf P ops i = true := by
 unfold flOf
 rw [hi]
 simp only [hc,Bool.true_and,Bool.or_eq_true,List.any_eq_true]
 exact .inl ⟨(y,j),by rw [List.mem_zipIdx_iff_getElem?]; simpa using hj,by simp [hl,hf]⟩
theorem flOf_st {ops : Array Oper} {i j : Nat} {x y : Oper} (hi : ops[i]? = some x) (hj : ops[j]? = some y) (hc : isSt x.op = true) (hl : isLoad y.op = true) (hlt : j < i) (hf : free (Region.before ops) j i = true) : flOf P ops i = true := by
 unfold flOf
 rw [hi]
 simp only [hc,Bool.true_and,Bool.or_eq_true,List.any_eq_true]
 exact .inr ⟨(y,j),by rw [List.mem_zipIdx_iff_getElem?]; simpa using hj,by simp [hl,hf,hlt]⟩
theorem ldOf_of {ops : Array Oper} {i j : Nat} {x y : Oper} (hi : ops[i]? = some x) (hj : ops[j]? = some y) (hc : isRd P x.op = true) (hl : isE P y.op = true) (hf : free (Region.before ops) i j = true) : ldOf P ops i = true := by
 unfold ldOf
 rw [hi]
 simp only [hc,Bool.true_and,List.any_eq_true]
 exact ⟨(y,j),by rw [List.mem_zipIdx_iff_getElem?]; simpa using hj,by simp [hl,hf]⟩
theorem pend_step {ls : List Tmp} {call : ACallT} {ops : Array Oper} {n0 : Nat → Prop} {fl ld : Nat → Bool} {j : Nat} {s s' : S3} {v : Value} {o : Oper} (hst : StepAt P ls call ops n0 fl ld j s s' v) (ho : ops[j]? = some o) (hp : isPendA ls o = true) :
  ∃ t d z,o.op = .alloc t ∧ o.dst = some d ∧ ls.contains d = true ∧ tzero P t = some z ∧ v = .pointer (some ⟨d,0,some s.2.1.gen⟩) ∧ s'.2.1 = s.2.1.box d z ∧ s'.2.2 = s.2.2 := by
 obtain ⟨t,d,h1,h2,h3,h4,_⟩ := isPendA_iff hp
 obtain ⟨o',ho',hor⟩ := hst
 rw [ho] at ho'; injection ho' with ho'; subst ho'
 rcases hor with ⟨_,ha,_⟩ | ⟨hg,_⟩
 ·unfold aoper at ha
  rw [h1] at ha
  simp only at ha
  obtain ⟨z,hz,ha⟩ := Option.bind_eq_some_iff.1 ha
  unfold anew at ha
  rw [h2] at ha
  simp only [h3,if_true] at ha
  split at ha
  ·simp only [Option.some.injEq,Prod.mk.injEq] at ha
   exact ⟨t,d,z,h1,h2,h3,hz,ha.1.symm,ha.2.1.symm,ha.2.2.symm⟩
  ·cases ha
 ·rw [aguard,h4] at hg; cases hg
theorem mk_step {ls : List Tmp} {call : ACallT} {ops : Array Oper} {n0 : Nat → Prop} {fl ld : Nat → Bool} {j : Nat} {s s' : S3} {v : Value} {o : Oper} (hst : StepAt P ls call ops n0 fl ld j s s' v) (ho : ops[j]? = some o) (hp : isPendH o = true) : aoper P ls call o (ev s.1) s.2.1 s.2.2 = some (v,s'.2.1,s'.2.2) := by
 obtain ⟨_,_,h4⟩ := isPendH_iff hp
 obtain ⟨o',ho',hor⟩ := hst
 rw [ho] at ho'; injection ho' with ho'; subst ho'
 rcases hor with ⟨_,ha,_⟩ | ⟨hg,_⟩
 ·exact ha
 ·rw [aguard,h4] at hg; cases hg
theorem mk_run {T : List Tmp} {n : Nat} {ι : Inj} {lo lo1 lo' : Lo} {st st1 st' : St} {ρ : Tm} {a : Act} {w : World} (h : SRel P T n ι lo st ρ a w) {ls : List Tmp} {call : ACallT} {o : Oper} {v : Value} (hmk : isMk o.op = true) (hesc : escOk P.globals.size ls T o = true) (ha : aoper P ls call o (ev ρ) lo1 st1 = some (v,lo',st')) :
  ∃ (n cap z : Nat) (cells : List Value) (c : Array Value) (e : TypeId) (fr : Nat × Nat),v = .slice (some ⟨st1.next,0,none⟩) n n ∧ lo' = lo1 ∧ st' = st1.push z cells ∧
  (execOp a.eval o).run P w = .ok (.value (.slice (some ⟨w.heap.size,0,none⟩) n cap)) (w.alloc (.cells c e fr)) ∧ (∀ (i : Nat) (x : Value),cells[i]? = some x → ∃ y : Value,c[i]? = some y ∧ VR0 ι.base x y) ∧ cells.length ≤ c.size ∧ cap * z ≤ c.size ∧ frOk fr c.size ∧ n ≤ cap ∧ cap ≤ maxLen := by
 unfold aoper at ha
 rcases isMk_cases hmk with ⟨t,l,c,ho⟩ | ⟨t,k,ps,ho,hk⟩
 ·rw [ho] at ha
  rw [escOk,ho] at hesc
  simp only [Op.operands,List.all_cons,List.all_nil,Bool.and_true,Bool.and_eq_true] at hesc
  obtain ⟨n,cap,z,cells,c',e,fr,h1,h2,h3,h4,h5⟩ := amake_as (w := w) ha (ev_opnd h hesc.1) (ev_opnd h hesc.2)
  exact ⟨n,cap,z,cells,c',e,fr,h1,h2,h3,by simp [execOp,ho,h4],h5⟩
 ·rw [ho] at ha
  rw [escOk,ho] at hesc
  simp only [Op.operands] at hesc
  simp only at ha
  rw [if_neg hk] at ha
  obtain ⟨n,cap,z,cells,c',e,fr,h1,h2,h3,h4,h5⟩ := alit_as (w := w) (κ := ι.base) ha (qs := ps.map fun (i,x) => (i,a.eval x)) (by simp [parts]) (parts_rel fun p hp => ev_opnd h (List.all_eq_true.1 hesc p.2 (by simp; exact ⟨p.1,hp⟩)))
  exact ⟨n,cap,z,cells,c',e,fr,h1,h2,h3,by simp [execOp,ho,h4],h5⟩
theorem trace_mix {ls : List Tmp} {call : ACallT} {ops : Array Oper} {n0 : Nat → Prop} {fl ld : Nat → Bool} {S : Nat → S3} {V : Nat → Value} (hst : ∀ j,j < ops.size → StepAt P ls call ops n0 fl ld j (S j) (S (j + 1)) (V j)) :
  ∀ (d l : Nat),l + d ≤ ops.size → (∀ j o,l ≤ j → j < l + d → ops[j]? = some o → isE P o.op = true → isPendA ls o = true ∨ (isCall o.op = true ∧ fl j = true)) → LoG (S l).2.1 (S (l + d)).2.1 ∧ ∀ a,n0 a → (S (l + d)).2.2.mem a = (S l).2.2.mem a := by
 intro d
 induction d with
 | zero => intro l _ _; exact ⟨LoG.refl _,fun _ _ => rfl⟩
 | succ d ih =>
  intro l hl hq
  obtain ⟨h1,h2⟩ := ih l (by omega) fun j o h1 h2 h3 => hq j o h1 (by omega) h3
  rw [show l + (d + 1) = l + d + 1 from rfl]
  have hs := hst (l + d) (by omega)
  obtain ⟨o,ho,hor⟩ := hs
  rcases hor with ⟨_,ha,_,hf,_⟩ | ⟨_,_,hs⟩
  ·cases hE : isE P o.op with
   | false =>
    obtain ⟨h3,h4⟩ := aoper_same hE ha
    exact ⟨h3 ▸ h1,fun a ha => by rw [h4]; exact h2 a ha⟩
   | true =>
    rcases hq (l + d) o (by omega) (by omega) ho hE with hp | ⟨hc,hfl⟩
    ·obtain ⟨_,d',z,_,_,_,_,_,h3,h4⟩ := pend_step (hst (l + d) (by omega)) ho hp
     rw [h3,h4]
     exact ⟨h1.trans (LoG.box _ _ _),h2⟩
    ·exact ⟨aoper_call hc ha ▸ h1,fun a ha => by rw [flChk_call hc (hf hfl) a ha]; exact h2 a ha⟩
  ·rw [hs]; exact ⟨h1,h2⟩
def rdAt (o : Op) (e : Operand → Value) (p : Addr) : Prop := (∃ t x,o = .load t x ∧ e x = .pointer (some p)) ∨ ∃ u t x n c,o = .convert u t x ∧ e x = .slice (some p) n c
theorem rop_at {o : Op} {e : Operand → Value} {rd rd' : Nat → Option Nat → Option (List Value)} {v : Value} (hr : isRd P o = true) (h : ∀ p,rdAt o e p → ∀ cs,rd' p.block p.spot = some cs → rd p.block p.spot = some cs) (hv : rop P o e rd' = some v) : rop P o e rd = some v := by
 have hm := (isRd_iff hr).1
 cases o <;> simp only [readsMem,reduceCtorEq] at hm
 case load t x =>
  simp only [rop] at hv ⊢
  split at hv
  ·rename_i p hp
   obtain ⟨cs,hcs,hl⟩ := Option.bind_eq_some_iff.1 hv
   rw [h p (.inl ⟨t,x,rfl,hp⟩) cs hcs]
   exact hl
  ·cases hv
 case convert u t x =>
  simp only [rop,aconv] at hv ⊢
  split at hv
  ·exact hv
  ·exact hv
  ·rename_i q n c hx
   split at hv
   ·rename_i hs
    rw [if_pos hs]
    split at hv
    ·split at hv
     ·rename_i he
      rw [if_pos he]
      rw [hx] at hv ⊢
      unfold astring at hv ⊢
      cases q with
      | none => exact hv
      | some p =>
       simp only at hv ⊢
       obtain ⟨cs,hcs,hl⟩ := Option.bind_eq_some_iff.1 hv
       rw [h p (.inr ⟨u,t,x,n,c,rfl,hx⟩) cs hcs]
       exact hl
     ·cases hv
    ·cases hv
   ·cases hv
  ·cases hv
theorem ldChk_at {n0 : Nat → Prop} {o : Op} {e : Operand → Value} {p : Addr} (h : ldChk n0 o e) (hp : rdAt o e p) (hs : p.spot = none) : n0 p.block := by
 rcases hp with ⟨t,x,rfl,hx⟩ | ⟨u,t,x,n,c,rfl,hx⟩
 ·exact h t x rfl p hx hs
 ·exact (h p n c hx).2
theorem ldChk_congr {n0 : Nat → Prop} {o : Op} {e e' : Operand → Value} (h : ∀ x ∈ o.operands,e x = e' x) (k : ldChk n0 o e) : ldChk n0 o e' := by
 cases o
 case convert u t x => exact fun p n c hp => k p n c ((h x (by simp [Op.operands])).trans hp)
 all_goals exact fun t' x' he p hp hs => k t' x' he p ((h x' (by rw [he]; simp [Op.operands])).trans hp) hs
theorem rd_G {T : List Tmp} {n : Nat} {ι : Inj} {lo lo' : Lo} {st st' : St} {ρ : Tm} {a : Act} {w : World} (h : SRel P T n ι lo st ρ a w) {o : Oper} {ls : List Tmp} {n0 : Nat → Prop} (hrd : isRd P o.op = true) (hesc : escOk P.globals.size ls T o = true) {v : Value} (hl : LoG lo lo') (hld : ldChk n0 o.op (ev ρ))
  (hm : ∀ a,n0 a → st.mem a = st'.mem a) (hr : rop P o.op (ev ρ) (rdB lo' st') = some v) : rop P o.op (ev ρ) (rdB lo st) = some v := by
 refine rop_at hrd (fun p hp cs hcs => rdB_G hl (fun hs => hm _ (ldChk_at hld hp hs)) (fun g hs => ?_) hcs) hr
 rcases hp with ⟨t,x,hop,hx⟩ | ⟨u,t,x,k,c,hop,hx⟩
 ·rw [escOk,hop] at hesc
  have hv := ev_const h hesc
  rw [hx] at hv
  have hok := (VR_pointer.1 hv).1
  unfold okA at hok
  rw [hs] at hok
  have := h.rel.g
  simp only at hok
  omega
 ·rw [hop] at hld
  have := (hld p k c hx).1
  rw [hs] at this
  cases this
def Hd (P : Program) (ls : List Tmp) (ops : Array Oper) (listed : Array Bool) (m : Nat) (j : Nat) : Prop := listed.getD j true = true ∧ ∃ o,ops[j]? = some o ∧ ((m ≤ j ∧ isPend ls o = true) ∨ (m + 1 ≤ j ∧ isFz P o.op = true))
open Classical in
noncomputable def mask (ops : Array Oper) (H : Nat → Prop) (ρ : Tm) : Tm := fun t => if ∃ j o,H j ∧ ops[j]? = some o ∧ o.dst = some t then undef else ρ t
theorem mask_of {ops : Array Oper} {H : Nat → Prop} {ρ : Tm} {t : Tmp} (h : ∀ j o,H j → ops[j]? = some o → o.dst = some t → False) : mask ops H ρ t = ρ t := if_neg fun ⟨j,o,h1,h2,h3⟩ => h j o h1 h2 h3
theorem mask_show {ops : Array Oper} {H H' : Nat → Prop} {ρ : Tm} {j : Nat} {o : Oper} {d : Tmp} {v : Value} (ho : ops[j]? = some o) (hd : o.dst = some d) (hH : ∀ k,H' k ↔ H k ∧ k ≠ j) (hoth : ∀ k u,H' k → ops[k]? = some u → u.dst = some d → False) :
  mask ops H' (Tm.putO ρ o.dst v) = Tm.putO (mask ops H ρ) o.dst v := by
 funext t
 rw [hd]
 by_cases htd : t = d
 ·subst htd
  rw [mask_of hoth]
  simp [Tm.putO,Tm.put]
 ·have hput : ∀ f : Tm,Tm.putO f (some d) v t = f t := fun f => if_neg htd
  rw [hput]
  unfold mask
  rw [hput]
  congr 1
  refine propext ⟨fun ⟨k,u,h1,h2,h3⟩ => ⟨k,u,((hH k).1 h1).1,h2,h3⟩,fun ⟨k,u,h1,h2,h3⟩ => ⟨k,u,(hH k).2 ⟨h1,fun hk => ?_⟩,h2,h3⟩⟩
  subst hk
  rw [ho] at h2; injection h2 with h2
  rw [← h2,hd] at h3; injection h3 with h3
  exact htd h3.symm
theorem mask_hide {ops : Array Oper} {H H' : Nat → Prop} {ρ : Tm} {j : Nat} {o : Oper} {d : Tmp} (ho : ops[j]? = some o) (hd : o.dst = some d) (hH : ∀ k,H' k ↔ H k ∨ k = j) : mask ops H' ρ = Tm.putO (mask ops H ρ) o.dst undef := by
 funext t
 rw [hd]
 by_cases htd : t = d
 ·subst htd
  simp only [Tm.putO,Tm.put,if_true]
  exact if_pos ⟨j,o,(hH j).2 (.inr rfl),ho,hd⟩
 ·have hput : ∀ f : Tm,Tm.putO f (some d) undef t = f t := fun f => if_neg htd
  rw [hput]
  unfold mask
  congr 1
  refine propext ⟨fun ⟨k,u,h1,h2,h3⟩ => ?_,fun ⟨k,u,h1,h2,h3⟩ => ⟨k,u,(hH k).2 (.inl h1),h2,h3⟩⟩
  rcases (hH k).1 h1 with h4 | rfl
  ·exact ⟨k,u,h4,h2,h3⟩
  ·rw [ho] at h2; injection h2 with h2
   rw [← h2,hd] at h3; injection h3 with h3
   exact (htd h3.symm).elim
theorem mask_put {ops : Array Oper} {H H' : Nat → Prop} {ρ : Tm} {d : Option Tmp} {v : Value} (hH : ∀ k,H' k ↔ H k) (hoth : ∀ k u t,H k → ops[k]? = some u → d = some t → u.dst = some t → False) : mask ops H' (Tm.putO ρ d v) = Tm.putO (mask ops H ρ) d v := by
 have hHH : H' = H := funext fun k => propext (hH k)
 subst hHH
 cases d with
 | none => rfl
 | some d =>
  funext t
  by_cases htd : t = d
  ·subst htd
   rw [mask_of fun k u h1 h2 h3 => hoth k u t h1 h2 rfl h3]
   simp [Tm.putO,Tm.put]
  ·have hput : ∀ f : Tm,Tm.putO f (some d) v t = f t := fun f => if_neg htd
   rw [hput]
   unfold mask
   rw [hput]
def Dset (P : Program) (ls : List Tmp) (ops : Array Oper) (listed : Array Bool) (m : Nat) (j : Nat) : Prop := listed.getD j true = true ∧ ¬ Hd P ls ops listed m j
def Made (P : Program) (ls : List Tmp) (S : Nat → S3) (V : Nat → Value) (ι : Inj) (w : World) (o : Oper) (j B : Nat) (cv : Value) : Prop := ∃ (cells : List Value) (c : Array Value) (e : TypeId) (fr : Nat × Nat),w.heap[B]? = some (.cells c e fr) ∧ cells.length ≤ c.size ∧ (∀ (x : Nat) (y : Value),cells[x]? = some y → ∃ u : Value,c[x]? = some u ∧ VR0 ι.base y u) ∧
 ((isPendA ls o = true ∧ (∃ t,o.op = .alloc t ∧ tzero P t = some cells) ∧ fr = (0,0) ∧ cv = .pointer (some ⟨B,0,none⟩)) ∨
  (isPendH o = true ∧ ∃ n cap z,cv = .slice (some ⟨B,0,none⟩) n cap ∧ cap * z ≤ c.size ∧ frOk fr c.size ∧ n ≤ cap ∧ cap ≤ maxLen ∧ V j = .slice (some ⟨(S j).2.2.next,0,none⟩) n n ∧ (S (j + 1)).2.1 = (S j).2.1 ∧ (S (j + 1)).2.2 = (S j).2.2.push z cells))
theorem Made.lt {ls : List Tmp} {S : Nat → S3} {V : Nat → Value} {ι : Inj} {w : World} {o : Oper} {j B : Nat} {cv : Value} (h : Made P ls S V ι w o j B cv) : B < w.heap.size := by
 obtain ⟨_,_,_,_,h1,_⟩ := h
 exact (Array.getElem?_eq_some_iff.1 h1).1
theorem Made.mono {ls : List Tmp} {S : Nat → S3} {V : Nat → Value} {ι ι' : Inj} {w w' : World} {o : Oper} {j B : Nat} {cv : Value} (h : Made P ls S V ι w o j B cv) (hE : Ext ι ι') (hw : w'.heap[B]? = w.heap[B]?) : Made P ls S V ι' w' o j B cv := by
 obtain ⟨cells,c,e,fr,h1,h2,h3,h4⟩ := h
 exact ⟨cells,c,e,fr,hw.trans h1,h2,fun x y hx => by
  obtain ⟨u,hu1,hu2⟩ := h3 x y hx
  exact ⟨u,hu1,VR0_mono hE.base hu2⟩,h4⟩
structure DInv (P : Program) (i : FInfo) (n : Nat) (ops : Array Oper) (S : Nat → S3) (V : Nat → Value) (ι0 : Inj) (w0 : World) (listed : Array Bool) (m : Nat) (ρ : Tm) (ι : Inj) (a : Act) (w : World) (Bf : Nat → Nat) : Prop where
 hsz : listed.size = ops.size
 hcl : ∀ j o,ops[j]? = some o → listed.getD j true = true → ∀ e ∈ o.after,Region.binds .any e = true → listed.getD e.on true = true
 hm : m ≤ ops.size
 he1 : ∀ j o,j < m → ops[j]? = some o → isE P o.op = true → listed.getD j true = true
 he2 : ∀ j o,m ≤ j → ops[j]? = some o → isE P o.op = true → listed.getD j true = true → isPend i.ls o = true
 hrel : SRel P i.T n ι (S m).2.1 (S m).2.2 (mask ops (Hd P i.ls ops listed m) ρ) a w
 hH : Holds ops (S 0).1 V (Dset P i.ls ops listed m) ρ
 hgo : Goes ι0 (S 0).2.1 (S 0).2.2 w0 ι (S m).2.1 (S m).2.2 w
 hB : ∀ j o,m ≤ j → listed.getD j true = true → ops[j]? = some o → isPend i.ls o = true → ∃ d,o.dst = some d ∧ Made P i.ls S V ι w o j (Bf j) (a.tmps.getD d undef) ∧ Off ι (S m).2.1 (S m).2.2 (Bf j) ∧ w0.heap.size ≤ Bf j
 hD : ∀ j j' o o',m ≤ j → m ≤ j' → listed.getD j true = true → listed.getD j' true = true → ops[j]? = some o → ops[j']? = some o' → isPend i.ls o = true → isPend i.ls o' = true → j ≠ j' → Bf j ≠ Bf j'
 hN : ∀ j o k,m ≤ j → ops[j]? = some o → isPend i.ls o = true → k < ops.size → listed.getD j true = true → listed.getD k true = true → isBefore (Region.before ops) j k = false ∨ isFzOf P ops j k = true
 hC : ∀ j o,m + 1 ≤ j → listed.getD j true = true → ops[j]? = some o → isFz P o.op = true → ∃ d x u,o.dst = some d ∧ ops[j - 1]? = some u ∧ u.dst = some x ∧ a.tmps.getD d undef = a.tmps.getD x undef ∧ V j = V (j - 1)
theorem pend_apart {ls : List Tmp} {ops : Array Oper} (hpair : pairsOk P ls ops (Region.before ops) = true) {j k : Nat} {o u : Oper} (ho : ops[j]? = some o) (hu : ops[k]? = some u) (hne : j ≠ k) (hnb : isBefore (Region.before ops) j k = false) (hnb' : isBefore (Region.before ops) k j = false) : o.apart ops u = true := by
 rcases Nat.lt_trichotomy j k with h | h | h
 ·rcases clash_or (pairs_at hpair ho hu h) with hb | ⟨h1,_⟩
  ·rw [hnb] at hb; cases hb
  ·exact h1
 ·exact absurd h hne
 ·rcases clash_or (pairs_at hpair hu ho h) with hb | ⟨_,h1,_⟩
  ·rw [hnb'] at hb; cases hb
  ·exact h1
theorem not_before {ops : Array Oper} (hedge : edgesOk ops = true) (hclos : closOk ops (Region.before ops) = true) {i j : Nat} (hi : i < ops.size) (hj : j < ops.size) (h : j ≤ i) : isBefore (Region.before ops) i j = false := by
 cases hb : isBefore (Region.before ops) i j with
 | false => rfl
 | true => have := before_lt hedge hclos j i hj hi hb; omega
theorem DInv.pass {call : ACallT} {i : FInfo} {n : Nat} {ops : Array Oper} {S : Nat → S3} {V : Nat → Value} {n0 : Nat → Prop} {fl ld : Nat → Bool} {ι0 : Inj} {w0 : World} {listed : Array Bool} {m : Nat} {ρ : Tm} {ι : Inj} {a : Act} {w : World} {Bf : Nat → Nat}
  (hall : ∀ o ∈ ops.toList,escOk P.globals.size i.ls i.T o = true ∧ dstOk n o = true) (hedge : edgesOk ops = true) (hpair : pairsOk P i.ls ops (Region.before ops) = true) (hclos : closOk ops (Region.before ops) = true) (hfzo : fzOk P ops (Region.before ops) = true)
  (hst : ∀ j,j < ops.size → StepAt P i.ls call ops n0 fl ld j (S j) (S (j + 1)) (V j)) (h : DInv P i n ops S V ι0 w0 listed m ρ ι a w Bf) {o : Oper} (ho : ops[m]? = some o) (hE : isE P o.op = true → listed.getD m true = true) :
  ∃ ρ' ι',DInv P i n ops S V ι0 w0 listed (m + 1) ρ' ι' a w Bf := by
 have hlt := (Array.getElem?_eq_some_iff.1 ho).1
 cases hE' : isE P o.op with
 | false =>
  have hnp : ∀ o',ops[m]? = some o' → isPend i.ls o' = true → False := fun o' ho' hp => by
   rw [ho] at ho'; injection ho' with ho'; rw [← ho'] at hp
   have := isPend_E (P := P) hp
   rw [hE'] at this; cases this
  have hS : (S (m + 1)).2 = (S m).2 := by
   have := trace_quiet hst 1 m (by omega) (fun j o' h1 h2 h3 => by
    obtain rfl : j = m := by omega
    rw [ho] at h3; injection h3 with h3; rw [← h3]; exact hE')
   exact this
  have hS1 : (S (m + 1)).2.1 = (S m).2.1 := congrArg Prod.fst hS
  have hS2 : (S (m + 1)).2.2 = (S m).2.2 := congrArg Prod.snd hS
  have hge : ∀ {j : Nat} {o' : Oper},m ≤ j → ops[j]? = some o' → isPend i.ls o' = true → m + 1 ≤ j := fun {j o'} h1 h2 h3 => by
   rcases Nat.lt_or_ge m j with h4 | h4
   ·exact h4
   ·obtain rfl : j = m := by omega
    exact (hnp _ h2 h3).elim
  have hHd : Hd P i.ls ops listed (m + 1) = Hd P i.ls ops listed m := by
   funext j
   unfold Hd
   refine propext ⟨fun ⟨h1,o',h2,h3⟩ => ⟨h1,o',h2,h3.imp (fun h4 => ⟨by omega,h4.2⟩) (fun h4 => ⟨by omega,h4.2⟩)⟩,fun ⟨h1,o',h2,h3⟩ => ⟨h1,o',h2,h3.imp (fun h4 => ⟨hge h4.1 h2 h4.2,h4.2⟩) (fun h4 => ⟨?_,h4.2⟩)⟩⟩
   obtain ⟨u,x,d,hz⟩ := fz_at hfzo h2 h4.2
   rcases Nat.lt_or_ge (m + 1) j with h5 | h5
   ·exact h5
   ·have hjm : j - 1 = m := by have := h4.1; omega
    have := hz.at_
    rw [hjm] at this
    exact (hnp _ this (isPend_H hz.mkH)).elim
  have hDs : Dset P i.ls ops listed (m + 1) = Dset P i.ls ops listed m := by
   unfold Dset
   rw [hHd]
  refine ⟨ρ,ι,h.hsz,h.hcl,by omega,fun j o' hj ho' hE2 => ?_,fun j o' hj => h.he2 j o' (by omega),by rw [hS1,hS2,hHd]; exact h.hrel,by rw [hDs]; exact h.hH,by rw [hS1,hS2]; exact h.hgo,fun j o' hj => by rw [hS1,hS2]; exact h.hB j o' (by omega),fun j j' o1 o2 h1 h2 => h.hD j j' o1 o2 (by omega) (by omega),fun j o' k hj => h.hN j o' k (by omega),fun j o' hj => h.hC j o' (by omega)⟩
  rcases Nat.lt_or_ge j m with h1 | h1
  ·exact h.he1 j o' h1 ho' hE2
  ·obtain rfl : j = m := by omega
   rw [ho] at ho'; injection ho' with ho'; rw [← ho',hE'] at hE2; cases hE2
 | true =>
  have hlm := hE hE'
  have hp := h.he2 m o (Nat.le_refl _) ho hE' hlm
  obtain ⟨d,hdst,hmade,hoff,hw0⟩ := h.hB m o (Nat.le_refl _) hlm ho hp
  have hrel := h.hrel.rel
  obtain ⟨ι',hExt,hRel,hval,hvalH,himg,hmem,hoffs⟩ : ∃ ι',Ext ι ι' ∧ Rel ι' (S (m + 1)).2.1 (S (m + 1)).2.2 w ∧ VR (if i.T.contains d = true then ι' else ι'.base) (V m) (a.tmps.getD d undef) ∧ (isPendH o = true → VR ι'.base (V m) (a.tmps.getD d undef)) ∧
    (∀ b,img ι' (S (m + 1)).2.1 (S (m + 1)).2.2 b → img ι (S m).2.1 (S m).2.2 b ∨ b = Bf m) ∧ (∀ x b,(S (m + 1)).2.2.mem x = some b → b.rw = false → (S m).2.2.mem x = some b) ∧ (∀ B,Bf m ≠ B → Off ι (S m).2.1 (S m).2.2 B → Off ι' (S (m + 1)).2.1 (S (m + 1)).2.2 B) := by
   obtain ⟨cells,c,e,fr,hheap,hzl,hcells,hkind⟩ := hmade
   rcases hkind with ⟨hpA,⟨t,hop,hz⟩,rfl,htmp⟩ | ⟨hpH,k,cap,z,htmp,hcap,hfr,hk1,hk2,hv,hS1,hS2⟩
   ·obtain ⟨t2,d2,z2,hop2,hdst2,hls,hz2,hv,hS1,hS2⟩ := pend_step (hst m hlt) ho hpA
    rw [hop] at hop2; injection hop2 with hop2; subst hop2
    rw [hdst] at hdst2; injection hdst2 with hdst2; subst hdst2
    rw [hz] at hz2; injection hz2 with hz2; subst hz2
    have hesc := (hall o (Array.mem_toList_iff.2 (Array.mem_of_getElem? ho))).1
    rw [escOk,hop] at hesc
    simp only [hdst,Bool.or_eq_true,Bool.not_eq_true'] at hesc
    have hT : i.T.contains d = true := hesc.resolve_left (by rw [hls]; decide)
    refine ⟨ι.pushL d (Bf m),Ext.pushL ι d (Bf m),by rw [hS1,hS2]; exact rel_adopt hrel d hheap hoff hcells hzl,?_,fun hpH => ?_,fun b hb => ?_,fun x b hb _ => by rw [hS2] at hb; exact hb,fun B hB hO => ?_⟩
    ·rw [if_pos hT,htmp,hv]
     refine VR_pointer.2 ⟨?_,?_⟩
     ·show (S m).2.1.gen < ι.g + 1
      have := hrel.g; omega
     ·simp only [tr]
      rw [← hrel.g,pushL_at]
    ·have := (isPendH_iff hpH).1
     rw [hop] at this
     cases this
    ·rw [hS1,hS2] at hb
     exact img_adopt hrel hb
    ·rw [hS1,hS2]
     refine ⟨fun a' b' hb => hO.1 a' b' hb,fun t1 g cs ht => ?_⟩
     rcases box_loc t1 g cs ht with ⟨rfl,rfl,rfl⟩ | ⟨_,ht⟩
     ·rw [← hrel.g,pushL_at]
      exact hB
     ·rw [(Ext.pushL ι d (Bf m)).l t1 g (by rw [hrel.g]; exact hrel.lg _ _ _ ht)]
      exact hO.2 _ _ _ ht
   ·have hE1 := Ext.push ι (Bf m) cap
    refine ⟨ι.push (Bf m) cap,hE1,by rw [hS1,hS2]; exact rel_adoptH hrel hheap hoff hcells hzl hcap hfr,?_,fun _ => ?_,fun b hb => ?_,fun x b hb hrw => ?_,fun B hB hO => ?_⟩
    ·rw [htmp,hv]
     have := new_sliceB (ι := ι) (st := (S m).2.2) hrel.n (Bf m) cap k hk1 hk2
     split
     ·exact VR_mono (Ext.ofBase _) this
     ·exact this
    ·rw [htmp,hv]
     exact new_sliceB (ι := ι) (st := (S m).2.2) hrel.n (Bf m) cap k hk1 hk2
    ·rw [hS1,hS2] at hb
     exact img_adoptH hrel hb
    ·rw [hS2] at hb
     rcases push_mem hb with ⟨_,rfl⟩ | hb
     ·cases hrw
     ·exact hb
    ·rw [hS1,hS2]
     refine ⟨fun a' b' hb => ?_,fun t1 g cs ht => hO.2 _ _ _ ht⟩
     rcases push_mem hb with ⟨rfl,rfl⟩ | hb
     ·rw [← hrel.n,push_at]
      exact hB
     ·rw [hE1.h a' (by rw [hrel.n]; exact hrel.lt a' b' hb)]
      exact hO.1 _ _ hb
  have hothH : ∀ (k : Nat) u,listed.getD k true = true → ops[k]? = some u → m < k → u.dst = some d → False := fun k u hl hu hmk hd => by
   have hk2 := (Array.getElem?_eq_some_iff.1 hu).1
   rcases h.hN m o k (Nat.le_refl _) ho hp hk2 hlm hl with h1 | h1
   ·exact (apart_dst (pend_apart hpair ho hu (by omega) h1 (not_before hedge hclos hk2 hlt (by omega))) hdst).2 hd
   ·obtain ⟨rfl,u',hu',hz'⟩ := isFzOf_iff h1
    rw [hu] at hu'; injection hu' with hu'; subst hu'
    obtain ⟨u2,x,d2,hz⟩ := fz_at hfzo hu hz'
    have h2 := hz.at_
    rw [Nat.add_sub_cancel,ho] at h2; injection h2 with h2; subst h2
    have h3 := hz.dx
    rw [hdst] at h3; injection h3 with h3
    have h4 := hz.dst
    rw [hd] at h4; injection h4 with h4
    exact hz.ne (by rw [← h4,h3])
  have hgt : ∀ {k : Nat},Hd P i.ls ops listed m k → m ≤ k := fun {k} ⟨_,u,_,h2⟩ => by rcases h2 with h2 | h2 <;> omega
  have hmask : mask ops (fun k => Hd P i.ls ops listed m k ∧ k ≠ m) (Tm.putO ρ o.dst (V m)) = Tm.putO (mask ops (Hd P i.ls ops listed m) ρ) o.dst (V m) :=
   mask_show ho hdst (fun k => Iff.rfl) fun k u ⟨h1,h2⟩ hu hd => hothH k u h1.1 hu (by have := hgt h1; omega) hd
  have hfr1 : SRel P i.T n ι' (S (m + 1)).2.1 (S (m + 1)).2.2 (Tm.putO (mask ops (Hd P i.ls ops listed m) ρ) o.dst (V m)) a w := by
   refine ⟨hRel,fun t' => ?_,h.hrel.gl.mono hExt,h.hrel.size,h.hrel.defers⟩
   rw [hdst]
   by_cases htd : t' = d
   ·subst htd
    simp only [Tm.putO,Tm.put,if_true]
    exact hval
   ·have hput : ∀ f : Tm,Tm.putO f (some d) (V m) t' = f t' := fun f => if_neg htd
    rw [hput]
    have := h.hrel.fr t'
    split
    ·rename_i ht; rw [if_pos ht] at this; exact VR_mono hExt this
    ·rename_i ht; rw [if_neg ht] at this; exact VR_mono hExt.base this
  have hH1 : Holds ops (S 0).1 V (fun j => Dset P i.ls ops listed m j ∨ j = m) (Tm.putO ρ o.dst (V m)) := by
   refine h.hH.step ho fun j o' ho' hDj ⟨t',h1,h2⟩ => ?_
   rcases Nat.lt_or_ge m j with h3 | h3
   ·rw [hdst] at h1; injection h1 with h1; subst h1
    exact (hothH j o' hDj.1 ho' h3 h2).elim
   ·exact h3
  have mk : ∀ ρ',SRel P i.T n ι' (S (m + 1)).2.1 (S (m + 1)).2.2 (mask ops (Hd P i.ls ops listed (m + 1)) ρ') a w → Holds ops (S 0).1 V (Dset P i.ls ops listed (m + 1)) ρ' → DInv P i n ops S V ι0 w0 listed (m + 1) ρ' ι' a w Bf := by
   intro ρ' g1 g2
   refine ⟨h.hsz,h.hcl,by omega,fun j o' hj ho' hE2 => ?_,fun j o' hj => h.he2 j o' (by omega),g1,g2,?_,fun j o' hj hl ho' hp' => ?_,fun j j' o1 o2 h1 h2 => h.hD j j' o1 o2 (by omega) (by omega),fun j o' k hj => h.hN j o' k (by omega),fun j o' hj => h.hC j o' (by omega)⟩
   ·rcases Nat.lt_or_ge j m with h1 | h1
    ·exact h.he1 j o' h1 ho' hE2
    ·obtain rfl : j = m := by omega
     exact hlm
   ·refine ⟨h.hgo.ext.trans hExt,hRel,h.hgo.frm,fun b hb => ?_,fun x b hb hr => h.hgo.ro x b (hmem _ _ hb hr) hr⟩
    rcases himg b hb with hi | rfl
    ·exact h.hgo.sub b hi
    ·exact .inr hw0
   ·obtain ⟨d',g2,g3,g8,g9⟩ := h.hB j o' (by omega) hl ho' hp'
    exact ⟨d',g2,g3.mono hExt rfl,hoffs _ (h.hD m j o o' (Nat.le_refl _) (by omega) hlm hl ho ho' hp hp' (by omega)) g8,g9⟩
  by_cases hCx : ∃ u,ops[m + 1]? = some u ∧ isFz P u.op = true ∧ listed.getD (m + 1) true = true
  ·
   obtain ⟨u,hu,huz,hul⟩ := hCx
   obtain ⟨u2,x,d',hz⟩ := fz_at hfzo hu huz
   have h2 := hz.at_
   rw [Nat.add_sub_cancel,ho] at h2; injection h2 with h2; subst h2
   have hxd : x = d := by have h3 := hz.dx; rw [hdst] at h3; injection h3 with h3; exact h3.symm
   subst hxd
   obtain ⟨d2,x2,u3,g1,g2,g3,g4,g5⟩ := h.hC (m + 1) u (Nat.le_refl _) hul hu huz
   rw [hz.dst] at g1; injection g1 with g1; subst g1
   rw [Nat.add_sub_cancel] at g2 g5
   rw [ho] at g2; injection g2 with g2; subst g2
   rw [hdst] at g3; injection g3 with g3; subst g3
   have hlt1 := (Array.getElem?_eq_some_iff.1 hu).1
   have hapC : ∀ (k : Nat) v,listed.getD k true = true → ops[k]? = some v → m + 1 < k → v.dst = some d' → False := fun k v hl hv hmk hd => by
    have hk2 := (Array.getElem?_eq_some_iff.1 hv).1
    have hnb : isBefore (Region.before ops) (m + 1) k = false := by
     cases hb : isBefore (Region.before ops) (m + 1) k with
     | false => rfl
     | true =>
      have h3 := hz.behind k hk2 hb
      rw [Nat.add_sub_cancel] at h3
      rcases h.hN m _ k (Nat.le_refl _) ho hp hk2 hlm hl with h4 | h4
      ·rw [h3] at h4; cases h4
      ·have := (isFzOf_iff h4).1; omega
    exact (apart_dst (pend_apart hpair hu hv (by omega) hnb (not_before hedge hclos hk2 hlt1 (by omega))) hz.dst).2 hd
   have hHd : ∀ k,Hd P i.ls ops listed (m + 1) k ↔ (Hd P i.ls ops listed m k ∧ k ≠ m) ∧ k ≠ m + 1 := by
    intro k
    unfold Hd
    refine ⟨fun ⟨h3,v,h4,h5⟩ => ⟨⟨⟨h3,v,h4,h5.imp (fun h6 => ⟨by omega,h6.2⟩) (fun h6 => ⟨by omega,h6.2⟩)⟩,by rcases h5 with h5 | h5 <;> omega⟩,?_⟩,fun ⟨⟨⟨h3,v,h4,h5⟩,h6⟩,h7⟩ => ⟨h3,v,h4,h5.imp (fun h6 => ⟨by omega,h6.2⟩) (fun h6 => ⟨by omega,h6.2⟩)⟩⟩
    rcases h5 with h5 | h5
    ·rintro rfl
     rw [hu] at h4; injection h4 with h4; subst h4
     exact isFz_pend huz h5.2
    ·omega
   have hmask2 : mask ops (Hd P i.ls ops listed (m + 1)) (Tm.putO (Tm.putO ρ o.dst (V m)) u.dst (V (m + 1))) = Tm.putO (Tm.putO (mask ops (Hd P i.ls ops listed m) ρ) o.dst (V m)) u.dst (V (m + 1)) := by
    rw [← hmask]
    refine mask_show hu hz.dst hHd fun k v h3 hv hd => ?_
    have h4 := (hHd k).1 h3
    exact hapC k v h3.1 hv (by have := hgt h4.1.1; omega) hd
   have hDs : Dset P i.ls ops listed (m + 1) = fun j => (Dset P i.ls ops listed m j ∨ j = m) ∨ j = m + 1 := by
    funext j
    unfold Dset
    refine propext ⟨fun ⟨h3,h4⟩ => ?_,fun h3 => ?_⟩
    ·by_cases hj : j = m
     ·exact .inl (.inr hj)
     ·by_cases hj1 : j = m + 1
      ·exact .inr hj1
      ·exact .inl (.inl ⟨h3,fun h5 => h4 ((hHd j).2 ⟨⟨h5,hj⟩,hj1⟩)⟩)
    ·rcases h3 with (⟨h3,h4⟩ | rfl) | rfl
     ·exact ⟨h3,fun h5 => h4 ((hHd j).1 h5).1.1⟩
     ·exact ⟨hlm,fun h5 => ((hHd j).1 h5).1.2 rfl⟩
     ·exact ⟨hul,fun h5 => ((hHd _).1 h5).2 rfl⟩
   refine ⟨_,ι',mk (Tm.putO (Tm.putO ρ o.dst (V m)) u.dst (V (m + 1))) ?_ ?_⟩
   ·rw [hmask2]
    refine ⟨hfr1.rel,fun t' => ?_,hfr1.gl,hfr1.size,hfr1.defers⟩
    rw [hz.dst]
    by_cases htd : t' = d'
    ·subst htd
     simp only [Tm.putO,Tm.put,if_true]
     have hv2 := hvalH hz.mkH
     rw [g4,g5]
     split
     ·exact VR_mono (Ext.ofBase _) hv2
     ·exact hv2
    ·have hput : ∀ f : Tm,Tm.putO f (some d') (V (m + 1)) t' = f t' := fun f => if_neg htd
     rw [hput]
     exact hfr1.fr t'
   ·rw [hDs]
    refine hH1.step hu fun j o' ho' hDj ⟨t',h3,h4⟩ => ?_
    rcases Nat.lt_or_ge (m + 1) j with h5 | h5
    ·rw [hz.dst] at h3; injection h3 with h3; subst h3
     rcases hDj with hDj | hDj
     ·exact (hapC j o' hDj.1 ho' h5 h4).elim
     ·omega
    ·exact h5
  ·have hHd : ∀ k,Hd P i.ls ops listed (m + 1) k ↔ Hd P i.ls ops listed m k ∧ k ≠ m := by
    intro k
    unfold Hd
    refine ⟨fun ⟨h3,v,h4,h5⟩ => ⟨⟨h3,v,h4,h5.imp (fun h6 => ⟨by omega,h6.2⟩) (fun h6 => ⟨by omega,h6.2⟩)⟩,by rcases h5 with h5 | h5 <;> omega⟩,fun ⟨⟨h3,v,h4,h5⟩,h6⟩ => ⟨h3,v,h4,h5.imp (fun h6 => ⟨by omega,h6.2⟩) (fun h7 => ⟨?_,h7.2⟩)⟩⟩
    rcases Nat.lt_or_ge (m + 1) k with h8 | h8
    ·exact h8
    ·obtain rfl : k = m + 1 := by have := h7.1; omega
     exact (hCx ⟨v,h4,h7.2,h3⟩).elim
   have hDs : Dset P i.ls ops listed (m + 1) = fun j => Dset P i.ls ops listed m j ∨ j = m := by
    funext j
    unfold Dset
    refine propext ⟨fun ⟨h3,h4⟩ => ?_,fun h3 => ?_⟩
    ·by_cases hj : j = m
     ·exact .inr hj
     ·exact .inl ⟨h3,fun h5 => h4 ((hHd j).2 ⟨h5,hj⟩)⟩
    ·rcases h3 with ⟨h3,h4⟩ | rfl
     ·exact ⟨h3,fun h5 => h4 ((hHd j).1 h5).1⟩
     ·exact ⟨hlm,fun h5 => ((hHd j).1 h5).2 rfl⟩
   refine ⟨_,ι',mk (Tm.putO ρ o.dst (V m)) ?_ (by rw [hDs]; exact hH1)⟩
   rw [show Hd P i.ls ops listed (m + 1) = fun k => Hd P i.ls ops listed m k ∧ k ≠ m from funext fun k => propext (hHd k),hmask]
   exact hfr1
def Stop (P : Program) (ls : List Tmp) (ops : Array Oper) (listed : Array Bool) (m : Nat) : Prop := m = ops.size ∨ (∃ o,ops[m]? = some o ∧ isE P o.op = true ∧ listed.getD m true = false) ∨ (∃ o,ops[m]? = some o ∧ isPendA ls o = true ∧ listed.getD m true = true ∧ ∃ i u,i < m ∧ ops[i]? = some u ∧ readsMem u.op = true ∧ isE P u.op = false ∧ listed.getD i true = false)
theorem DInv.settle {call : ACallT} {i : FInfo} {n : Nat} {ops : Array Oper} {S : Nat → S3} {V : Nat → Value} {n0 : Nat → Prop} {fl ld : Nat → Bool} {ι0 : Inj} {w0 : World} {listed : Array Bool} {a : Act} {w : World} {Bf : Nat → Nat}
  (hall : ∀ o ∈ ops.toList,escOk P.globals.size i.ls i.T o = true ∧ dstOk n o = true) (hedge : edgesOk ops = true) (hpair : pairsOk P i.ls ops (Region.before ops) = true) (hclos : closOk ops (Region.before ops) = true) (hfzo : fzOk P ops (Region.before ops) = true)
  (hst : ∀ j,j < ops.size → StepAt P i.ls call ops n0 fl ld j (S j) (S (j + 1)) (V j)) :
  ∀ (f m : Nat) (ρ : Tm) (ι : Inj),ops.size - m ≤ f → DInv P i n ops S V ι0 w0 listed m ρ ι a w Bf → (∀ j o,j < m → ops[j]? = some o → isPendA i.ls o = true → ∀ i' u,i' < j → ops[i']? = some u → readsMem u.op = true → isE P u.op = false → listed.getD i' true = true) →
  ∃ m' ρ' ι',DInv P i n ops S V ι0 w0 listed m' ρ' ι' a w Bf ∧ Stop P i.ls ops listed m' ∧ (∀ j o,j < m' → ops[j]? = some o → isPendA i.ls o = true → ∀ i' u,i' < j → ops[i']? = some u → readsMem u.op = true → isE P u.op = false → listed.getD i' true = true) := by
 intro f
 induction f with
 | zero => intro m ρ ι hf h hw; exact ⟨m,ρ,ι,h,.inl (by have := h.hm; omega),hw⟩
 | succ f ih =>
  intro m ρ ι hf h hw
  rcases Classical.em (Stop P i.ls ops listed m) with hs | hs
  ·exact ⟨m,ρ,ι,h,hs,hw⟩
  ·have hlt : m < ops.size := by
    rcases Nat.lt_or_ge m ops.size with h1 | h1
    ·exact h1
    ·exact (hs (.inl (by have := h.hm; omega))).elim
   have ho : ops[m]? = some ops[m] := Array.getElem?_eq_getElem hlt
   obtain ⟨ρ',ι',h'⟩ := h.pass hall hedge hpair hclos hfzo hst ho (fun hE => by
    cases hl : listed.getD m true with
    | true => rfl
    | false => exact (hs (.inr (.inl ⟨_,ho,hE,hl⟩))).elim)
   refine ih (m + 1) ρ' ι' (by omega) h' fun j o' hj ho' hp i' u hi hu hr hE => ?_
   rcases Nat.lt_or_ge j m with h1 | h1
   ·exact hw j o' h1 ho' hp i' u hi hu hr hE
   ·obtain rfl : j = m := by omega
    cases hl : listed.getD i' true with
    | true => rfl
    | false =>
     have hl2 : listed.getD j true = true := by
      cases hl2 : listed.getD j true with
      | true => rfl
      | false => exact (hs (.inr (.inl ⟨_,ho',isPend_E (isPend_A hp),hl2⟩))).elim
     exact (hs (.inr (.inr ⟨_,ho',hp,hl2,i',u,hi,hu,hr,hE,hl⟩))).elim
theorem draw_go {md : Region.Mode} {call : ACallT} (hcall : CallsOK P call) {i : FInfo} {n : Nat} {ops : Array Oper} {ι0 : Inj} {w0 : World} {Q : Exit → Act → World → Prop} {S : Nat → S3} {V : Nat → Value} {n0 : Nat → Prop}
  (hall : ∀ o ∈ ops.toList,escOk P.globals.size i.ls i.T o = true ∧ dstOk n o = true) (hdr : drawOk P i.ls ops = true) (hrk : ∃ r : Nat → Nat,∀ (j : Nat) o,ops[j]? = some o → ∀ e ∈ o.after,Region.binds md e = true → e.on < ops.size ∧ r e.on < r j)
  (hst : ∀ j,j < ops.size → StepAt P i.ls call ops n0 (flOf P ops) (ldOf P ops) j (S j) (S (j + 1)) (V j))
  (hQ : ∀ ι' a' w',SRel P i.T n ι' (S ops.size).2.1 (S ops.size).2.2 (S ops.size).1 a' w' → Goes ι0 (S 0).2.1 (S 0).2.2 w0 ι' (S ops.size).2.1 (S ops.size).2.2 w' → Q .normal a' w') :
  ∀ (fuel : Nat) (listed : Array Bool) (m : Nat) (ρ : Tm) (ι : Inj) (a : Act) (w : World) (Bf : Nat → Nat),DInv P i n ops S V ι0 w0 listed m ρ ι a w Bf →
   (∀ j o,j < m → ops[j]? = some o → isPendA i.ls o = true → ∀ i' u,i' < j → ops[i']? = some u → readsMem u.op = true → isE P u.op = false → listed.getD i' true = true) → left listed ops.size ≤ fuel →
   wpAny P md ops Q fuel listed a w := by
 simp only [drawOk,Bool.and_eq_true] at hdr
 obtain ⟨⟨⟨⟨hedge,hclos⟩,hpair⟩,hfzo⟩,_⟩ := hdr
 obtain ⟨rk,hrk⟩ := hrk
 have hget : ∀ (j : Nat) (hj : j < ops.size),ops[j]? = some ops[j] := fun j hj => Array.getElem?_eq_getElem hj
 have hlt : ∀ {j : Nat} {o : Oper},ops[j]? = some o → j < ops.size := fun h => (Array.getElem?_eq_some_iff.1 h).1
 have hTr : ∀ k,k ≤ ops.size → Holds ops (S 0).1 V (fun j => j < k) (S k).1 := by
  intro k
  induction k with
  | zero => intro _ t; exact .inr ⟨fun j o _ hj => absurd hj (Nat.not_lt_zero _),rfl⟩
  | succ k ih =>
   intro hk
   obtain ⟨o,ho,hor⟩ := hst k (by omega)
   have h1 := (ih (by omega)).step ho (fun j o' _ hj _ => Nat.le_of_lt hj)
   have h2 : (S (k + 1)).1 = Tm.putO (S k).1 o.dst (V k) := by
    rcases hor with ⟨_,_,h,_,_⟩ | ⟨_,hv,h⟩
    ·exact h
    ·rw [h,hv]
   rw [h2,show (fun j => j < k + 1) = (fun j => j < k ∨ j = k) from funext fun j => propext (by omega)]
   exact h1
 have done : ∀ (listed : Array Bool) (m : Nat) (ρ : Tm) (ι : Inj) (a : Act) (w : World) (Bf : Nat → Nat),DInv P i n ops S V ι0 w0 listed m ρ ι a w Bf →
   (∀ j o,j < m → ops[j]? = some o → isPendA i.ls o = true → ∀ i' u,i' < j → ops[i']? = some u → readsMem u.op = true → isE P u.op = false → listed.getD i' true = true) → Region.ready md ops listed = [] → Q .normal a w := by
  intro listed m0 ρ0 ι1 a w Bf h0 hw0 hnil
  obtain ⟨m,ρ,ι,h,hstop,hw⟩ := DInv.settle hall hedge hpair hclos hfzo hst _ m0 ρ0 ι1 (Nat.le_refl _) h0 hw0
  have hfull' : ∀ r j,rk j ≤ r → j < ops.size → listed.getD j true = true := by
   intro r
   induction r using Nat.strongRecOn with
   | _ r ih =>
    intro j hn hj
    cases hl : listed.getD j true with
    | true => rfl
    | false =>
     have hr : j ∈ Region.ready md ops listed := mem_ready.2 ⟨hl,ops[j],hget j hj,fun e he hbe => by
      obtain ⟨hsz',hlt'⟩ := hrk j ops[j] (hget j hj) e he hbe
      have := ih (rk e.on) (by omega) e.on (Nat.le_refl _) hsz'
      rw [Array.getD_eq_getD_getElem?,Array.getElem?_eq_getElem (by rw [h.hsz]; omega)] at this ⊢
      exact this⟩
     rw [hnil] at hr
     cases hr
  have hfull : ∀ j,j < ops.size → listed.getD j true = true := fun j hj => hfull' _ j (Nat.le_refl _) hj
  have hms : m = ops.size := by
   rcases hstop with h1 | ⟨o,ho,_,hl⟩ | ⟨o,ho,_,_,i',u,_,hu,_,_,hl⟩
   ·exact h1
   ·rw [hfull m (hlt ho)] at hl; cases hl
   ·rw [hfull i' (hlt hu)] at hl; cases hl
  subst hms
  have hHn : ∀ j,Hd P i.ls ops listed ops.size j → False := fun j ⟨_,u,hu,h2⟩ => by
   have := hlt hu
   rcases h2 with h2 | h2 <;> omega
  have hmask : mask ops (Hd P i.ls ops listed ops.size) ρ = ρ := funext fun t => mask_of fun j o h1 _ _ => hHn j h1
  have hρ : ρ = (S ops.size).1 := funext fun t => h.hH.same (hTr ops.size (Nat.le_refl _)) fun j o ho _ => ⟨fun _ => hlt ho,fun _ => ⟨hfull j (hlt ho),hHn j⟩⟩
  have hrel := h.hrel
  rw [hmask,hρ] at hrel
  exact hQ ι a w hrel h.hgo
 intro fuel
 induction fuel with
 | zero =>
  intro listed m ρ ι a w Bf h hw hf
  have hnil : Region.ready md ops listed = [] := by
   refine List.eq_nil_iff_forall_not_mem.2 fun j hj => ?_
   obtain ⟨h0,o,ho,_⟩ := mem_ready.1 hj
   rw [left_zero ops.size (by omega) j (hlt ho)] at h0
   cases h0
  exact ⟨hnil,done listed m ρ ι a w Bf h hw hnil⟩
 | succ fuel ih =>
  intro listed m1 ρ1 ι1 a w Bf h1 hw1 hf
  refine ⟨done listed m1 ρ1 ι1 a w Bf h1 hw1,fun k hk => ?_⟩
  obtain ⟨m,ρ,ι,h,hstop,hw⟩ := DInv.settle hall hedge hpair hclos hfzo hst _ m1 ρ1 ι1 (Nat.le_refl _) h1 hw1
  obtain ⟨h0,o,ho,hready⟩ := mem_ready.1 hk
  have hkN := hlt ho
  have hsz := h.hsz
  have hcl := h.hcl
  have hDk : ∀ e ∈ o.after,Region.binds .any e = true → listed.getD e.on true = true := fun e he hbe => by
   have h1 := edges_at hedge ho e he hbe
   have := hready e he (binds_all hbe)
   rw [Array.getD_eq_getD_getElem?,Array.getElem?_eq_getElem (by omega)] at this ⊢
   exact this
  have hbef : ∀ j,j < ops.size → isBefore (Region.before ops) j k = true → listed.getD j true = true := fun j hj hb =>
   closed_before (D := fun j => listed.getD j true = true) hedge hclos hcl k j hkN hj hb (fun o' ho' => by rw [ho] at ho'; injection ho' with ho'; rw [← ho']; exact hDk)
  have hafter : ∀ j,j < ops.size → isBefore (Region.before ops) k j = true → listed.getD j true = true → False := fun j hj hb hD => by
   have := closed_before (D := fun j => listed.getD j true = true) hedge hclos hcl j k hj hkN hb (fun o' ho' => hcl j o' ho' hD)
   rw [h0] at this
   cases this
  have hmem : o ∈ ops.toList := Array.mem_toList_iff.2 (Array.mem_of_getElem? ho)
  have hcls : ∀ j i',j < ops.size → i' < ops.size → listed.getD j true = true → isBefore (Region.before ops) i' j = true → listed.getD i' true = true := fun j i' hj hi hl hb =>
   closed_before (D := fun j => listed.getD j true = true) hedge hclos hcl j i' hj hi hb (fun o' ho' => hcl j o' ho' hl)
  have hclaim : ∀ j u,m ≤ j → listed.getD j true = true → ops[j]? = some u → isPend i.ls u = true → isBefore (Region.before ops) j k = false ∨ isFzOf P ops j k = true := by
   intro j u hj hl hu hp
   cases hb : isBefore (Region.before ops) j k with
   | false => exact .inl rfl
   | true =>
    refine .inr ?_
    cases hz : isFzOf P ops j k with
    | true => rfl
    | false =>
    exfalso
    have hres : ∀ {A : Prop},A ∨ isFzOf P ops j k = true → A := fun hh => hh.resolve_right (by rw [hz]; decide)
    rcases hstop with h2 | ⟨o',ho',hE,hl'⟩ | ⟨o',ho',hpA,hl',i',u',hi',hu',hr',hE',hli⟩
    ·have := hlt hu; omega
    ·have hmj : m ≠ j := fun he => by rw [he,hl] at hl'; cases hl'
     rcases clash_or (pairs_at hpair ho' hu (show m < j by omega)) with hb' | ⟨_,_,⟨hx1,_⟩ | ⟨_,hbh,_⟩ | ⟨_,hnE,_⟩ | hsp⟩
     ·rw [hcls j m (hlt hu) (hlt ho') hl hb'] at hl'; cases hl'
     ·exact (hx1 hE (isPend_E hp)).elim
     ·rw [hbef m (hlt ho') (hres (behind_at hbh hkN hb))] at hl'; cases hl'
     ·rw [isPend_E hp] at hnE; cases hnE
     ·exact ((stP_pend hsp).1 hp).elim
    ·have hp' : isPend i.ls o' = true := isPend_A hpA
     have hmk : isBefore (Region.before ops) m k = true := by
      rcases Nat.lt_or_ge m j with h3 | h3
      ·rcases clash_or (pairs_at hpair ho' hu h3) with hb' | ⟨_,_,⟨hx1,_⟩ | ⟨_,hbh,_⟩ | ⟨_,hnE,_⟩ | hsp⟩
       ·rcases h.hN m o' j (Nat.le_refl _) ho' hp' (hlt hu) hl' hl with h4 | h4
        ·rw [h4] at hb'; cases hb'
        ·obtain ⟨_,v,hv,hvz⟩ := isFzOf_iff h4
         rw [hu] at hv; injection hv with hv; subst hv
         exact (isFz_pend hvz hp).elim
       ·exact (hx1 (isPend_E hp') (isPend_E hp)).elim
       ·exact hres (behind_at hbh hkN hb)
       ·rw [isPend_E hp] at hnE; cases hnE
       ·exact ((stP_pend hsp).1 hp).elim
      ·obtain rfl : m = j := by omega
       exact hb
     rcases clash_or (pairs_at hpair hu' ho' hi') with hb' | ⟨_,_,⟨_,hx2,_⟩ | ⟨_,hbh,_⟩ | ⟨hpi,_,_⟩ | hsp⟩
     ·rw [hcls m i' (hlt ho') (hlt hu') hl' hb'] at hli; cases hli
     ·have := (hx2 hr' (isPend_E hp')).2
      rw [isPendA_call hpA] at this; cases this
     ·rcases behind_at hbh hkN hmk with h4 | h4
      ·rw [hbef i' (hlt hu') h4] at hli; cases hli
      ·obtain ⟨hkm,v,hv,hvz⟩ := isFzOf_iff h4
       obtain ⟨u2,x,d,hfz⟩ := fz_at hfzo hv hvz
       have h5 := hfz.at_
       rw [show k - 1 = m by omega,ho'] at h5; injection h5 with h5; subst h5
       obtain ⟨t,d,h6,_⟩ := isPendA_iff hpA
       have h7 := (isPendH_iff hfz.mkH).1
       rw [h6] at h7; cases h7
     ·rw [isPend_E (P := P) hpi] at hE'; cases hE'
     ·exact ((stP_pend hsp).1 hp').elim
  have hset : ∀ j,j ≠ k → (listed.setIfInBounds k true).getD j true = listed.getD j true := fun j hj => getD_set_ne true (Ne.symm hj)
  have hsetk : (listed.setIfInBounds k true).getD k true = true := by
   rw [Array.getD_eq_getD_getElem?,Array.getElem?_setIfInBounds_self_of_lt (by rw [hsz]; exact hkN)]; rfl
  have hcl' : ∀ j o',ops[j]? = some o' → (listed.setIfInBounds k true).getD j true = true → ∀ e ∈ o'.after,Region.binds .any e = true → (listed.setIfInBounds k true).getD e.on true = true := by
   intro j o' ho' hD e he hbe
   have he' : listed.getD e.on true = true := by
    by_cases hj : j = k
    ·subst hj; rw [ho] at ho'; injection ho' with ho'; rw [← ho'] at he; exact hDk e he hbe
    ·rw [hset j hj] at hD; exact hcl j o' ho' hD e he hbe
   by_cases hek : e.on = k
   ·rw [hek]; exact hsetk
   ·rw [hset _ hek]; exact he'
  have hleft : left (listed.setIfInBounds k true) ops.size ≤ fuel := by
   have := left_set h0 ops.size
   rw [if_pos hkN] at this
   omega
  have hgetS : ∀ {j : Nat},listed.getD j true = true → (listed.setIfInBounds k true).getD j true = true := fun {j} hl => by
   by_cases hj : j = k
   ·rw [hj]; exact hsetk
   ·rw [hset j hj]; exact hl
  have hclaimH : ∀ j,Hd P i.ls ops listed m j → isBefore (Region.before ops) j k = false ∨ isFzOf P ops j k = true := by
   rintro j ⟨hl,u,hu,h2 | h2⟩
   ·exact hclaim j u h2.1 hl hu h2.2
   ·cases hb : isBefore (Region.before ops) j k with
    | false => exact .inl rfl
    | true =>
     obtain ⟨u2,x,d,hfz⟩ := fz_at hfzo hu h2.2
     have hjN := hlt hu
     have hl1 := hcls j (j - 1) hjN (by omega) hl hfz.bef
     rcases hclaim (j - 1) u2 (by omega) hl1 hfz.at_ (isPend_H hfz.mkH) with h3 | h3
     ·rw [hfz.behind k hkN hb] at h3; cases h3
     ·have h4 := (isFzOf_iff h3).1
      have h5 : k = j := by have := hfz.pos; omega
      rw [← h5,h0] at hl; cases hl
  have hHrow : ∀ j u,m + 1 ≤ j → listed.getD j true = true → ops[j]? = some u → isFz P u.op = true → ∀ v,ops[j - 1]? = some v → Hd P i.ls ops listed m (j - 1) := by
   intro j u h1 h2 h3 h4 v hv
   obtain ⟨u2,x,d,hfz⟩ := fz_at hfzo h3 h4
   have hjN := hlt h3
   exact ⟨hcls j (j - 1) hjN (by omega) h2 hfz.bef,u2,hfz.at_,.inl ⟨by omega,isPend_H hfz.mkH⟩⟩
  have hpapart : ∀ j u,Hd P i.ls ops listed m j → isFzOf P ops j k = false → ops[j]? = some u → u.apart ops o = true := fun j u hj hz hu =>
   pend_apart hpair hu ho (fun he => by have := hj.1; rw [he,h0] at this; cases this) ((hclaimH j hj).resolve_right (by rw [hz]; decide)) (by
    cases hb : isBefore (Region.before ops) k j with
    | false => rfl
    | true => exact (hafter j (hlt hu) hb hj.1).elim)
  obtain ⟨o',ho',hor⟩ := hst k hkN
  rw [ho] at ho'
  injection ho' with ho'
  subst ho'
  rcases Classical.em (isFz P o.op = true ∧ m + 1 ≤ k) with ⟨hFz,hmk⟩ | hsp
  ·
   obtain ⟨u,x,d,hz⟩ := fz_at hfzo ho hFz
   obtain ⟨t,hop⟩ := hz.op
   have hp1 : isPend i.ls u = true := isPend_H hz.mkH
   have hl1 : listed.getD (k - 1) true = true := hbef (k - 1) (by omega) hz.bef
   obtain ⟨d1,g1,g2,gO,gS⟩ := h.hB (k - 1) u (by omega) hl1 hz.at_ hp1
   rw [hz.dx] at g1; injection g1 with g1; subst g1
   obtain ⟨cells,c,e,fr,q1,q2,q3,q4⟩ := g2
   rcases q4 with ⟨q4,_⟩ | ⟨_,n',cap,z,q5,q6,q7,q8,q9,q10,q11,q12⟩
   ·obtain ⟨t,d,h6,_⟩ := isPendA_iff q4
    have h7 := (isPendH_iff hz.mkH).1
    rw [h6] at h7; cases h7
   have hgd : ∀ ρ,aguard ops ρ o = some true := fun ρ => by rw [aguard,hz.gd]
   obtain ⟨ha,hput⟩ : aoper P i.ls call o (ev (S k).1) (S k).2.1 (S k).2.2 = some (V k,(S (k + 1)).2.1,(S (k + 1)).2.2) ∧ True := by
    rcases hor with ⟨_,ha,_⟩ | ⟨hg,_⟩
    ·exact ⟨ha,trivial⟩
    ·rw [hgd] at hg; cases hg
   obtain ⟨_,_,a1,x1,p1,n1,c1,el,e1,e2,e3,e4,e5,e6⟩ := aoper_fz hFz ha
   rw [hop] at e1
   injection e1 with e1 _ e1x
   subst e1 e1x
   have hSx : (S k).1 x = V (k - 1) := by
    obtain ⟨u',hu',hor'⟩ := hst (k - 1) (by omega)
    rw [hz.at_] at hu'; injection hu' with hu'; subst hu'
    rw [show k - 1 + 1 = k by have := hz.pos; omega] at hor'
    have hpp : (S k).1 = Tm.putO (S (k - 1)).1 u.dst (V (k - 1)) := by
     rcases hor' with ⟨_,_,h1,_⟩ | ⟨_,h1,h2⟩
     ·exact h1
     ·rw [h2,h1]
    rw [hpp,hz.dx]
    simp [Tm.putO,Tm.put]
   have e2 : (S k).1 x = .slice (some p1) n1 c1 := e2
   rw [hSx,q10] at e2
   injection e2 with e2 e2n e2c
   have hVk : V k = V (k - 1) := by rw [e3,q10,e2,← e2n,← e2c]
   have hB1 : (w.freeze ⟨Bf (k - 1),c.size,none⟩ 1).heap[Bf (k - 1)]? = _ := (freeze_at q1 c.size).1
   obtain ⟨_,s2,s3,s4,s5,s6⟩ := freeze_at q1 c.size
   have hsh : w.shape? (Bf (k - 1)) = some (e,c.size) := by simp [World.shape?,q1]
   have hrun : (execOp a.eval o).run P w = .ok (.value (.slice (some ⟨Bf (k - 1),0,none⟩) n' cap)) (w.freeze ⟨Bf (k - 1),c.size,none⟩ 1) := by
    have hev : a.eval (.tmp x) = .slice (some ⟨Bf (k - 1),0,none⟩) n' cap := q5
    simp [execOp,hop,hev,convert,run_underlying (telem_under e4),run_underlying (tint_under e5),markStringish,hsh]
   have hrel := h.hrel.rel
   have hne : ∀ a' b',(S m).2.2.mem a' = some b' → (ι.h a').1 ≠ Bf (k - 1) := fun a' b' hb => gO.1 a' b' hb
   have hRel : Rel ι (S m).2.1 (S m).2.2 (w.freeze ⟨Bf (k - 1),c.size,none⟩ 1) :=
    ⟨hrel.n,hrel.g,hrel.lt,fun a' b' hb => (hrel.hk a' b' hb).mono (Ext.refl _) (by rw [hrel.n]; exact hrel.lt a' b' hb) (s2 _ (hne a' b' hb)),hrel.lg,
     fun t' g cs ht => (hrel.lk t' g cs ht).mono (Ext.refl _) (by rw [hrel.g]; exact hrel.lg t' g cs ht) (s2 _ (gO.2 t' g cs ht)),hrel.hh,hrel.hl,hrel.ll,fun a' b' hb => by rw [s6]; exact hrel.hb a' b' hb⟩
   have hd2 : d < n := by have := (hall o hmem).2; simpa [dstOk,hz.dst] using this
   have hnz : ∀ j,Hd P i.ls ops listed m j → j ≠ k - 1 → isFzOf P ops j k = false := fun j hj hne => by
    cases hz' : isFzOf P ops j k with
    | false => rfl
    | true => have := (isFzOf_iff hz').1; omega
   have hgetd : ∀ t',t' ≠ d → (a.put o.dst (.slice (some ⟨Bf (k - 1),0,none⟩) n' cap)).tmps.getD t' undef = a.tmps.getD t' undef := fun t' ht => by
    rw [hz.dst]
    simp only [Act.put]
    rw [Array.getD_eq_getD_getElem?,Array.getElem?_setIfInBounds_ne (fun e => ht e.symm),← Array.getD_eq_getD_getElem?]
   have hgetd1 : (a.put o.dst (.slice (some ⟨Bf (k - 1),0,none⟩) n' cap)).tmps.getD d undef = .slice (some ⟨Bf (k - 1),0,none⟩) n' cap := by
    rw [hz.dst]
    simp [Act.put,Array.getD_eq_getD_getElem?,h.hrel.size,hd2]
   have hHd : ∀ j,Hd P i.ls ops (listed.setIfInBounds k true) m j ↔ Hd P i.ls ops listed m j ∨ j = k := by
    intro j
    unfold Hd
    by_cases hj : j = k
    ·subst hj
     exact ⟨fun _ => .inr rfl,fun _ => ⟨hsetk,o,ho,.inr ⟨hmk,hFz⟩⟩⟩
    ·rw [hset j hj]
     exact ⟨.inl,fun h => h.resolve_right hj⟩
   have hDs : Dset P i.ls ops (listed.setIfInBounds k true) m = Dset P i.ls ops listed m := by
    funext j
    unfold Dset
    rw [hHd]
    by_cases hj : j = k
    ·subst hj
     exact propext ⟨fun ⟨_,g⟩ => (g (.inr rfl)).elim,fun ⟨g,_⟩ => by rw [h0] at g; cases g⟩
    ·rw [hset j hj]
     exact propext ⟨fun ⟨g1,g2⟩ => ⟨g1,fun g => g2 (.inl g)⟩,fun ⟨g1,g2⟩ => ⟨g1,fun g => g.elim g2 hj⟩⟩
   have hdst : ∀ j u',Hd P i.ls ops listed m j → ops[j]? = some u' → j ≠ k - 1 → u'.dst ≠ some d := fun j u' hj hu' hne hd =>
    (apart_dst (hpapart j u' hj (hnz j hj hne) hu') hd).2 hz.dst
   unfold wpOp
   rw [ho]
   simp only
   rw [guard_sound h.hrel (hgd (mask ops (Hd P i.ls ops listed m) ρ))]
   simp only [if_true]
   refine .inl ?_
   unfold Oper.wp
   rw [hrun]
   refine ih _ m ρ ι _ _ Bf ⟨by simpa using hsz,hcl',h.hm,fun j u g1 g2 g3 => hgetS (h.he1 j u g1 g2 g3),fun j u g1 g2 g3 g4 => ?_,?_,by rw [hDs]; exact h.hH,?_,fun j u' g1 g2 g3' g4' => ?_,fun j j' u u' g1 g2 g3 g4 g5 g6 g7 g8 g9 => ?_,fun j u k' g1 g2 g3 g4 g5 g6 => ?_,fun j u' g1 g2 g3' g4' => ?_⟩ (fun j u g1 g2 g3 i' u' g4 g5 g6 g7 => hgetS (hw j u g1 g2 g3 i' u' g4 g5 g6 g7)) hleft
   ·by_cases hj : j = k
    ·subst hj; rw [ho] at g2; injection g2 with g2; rw [← g2,(isFz_E hFz).1] at g3; cases g3
    ·rw [hset j hj] at g4; exact h.he2 j u g1 g2 g3 g4
   ·rw [mask_hide ho hz.dst hHd]
    refine ⟨hRel,fun t' => ?_,h.hrel.gl,?_,?_⟩
    ·rw [hz.dst]
     by_cases htd : t' = d
     ·subst htd
      simp only [Tm.putO,Tm.put,if_true]
      exact VR_undef _ _
     ·have hput : ∀ f : Tm,Tm.putO f (some d) undef t' = f t' := fun f => if_neg htd
      rw [hput,← hz.dst,hgetd t' htd]
      exact h.hrel.fr t'
    ·rw [hz.dst]; simpa [Act.put] using h.hrel.size
    ·rw [hz.dst]; exact h.hrel.defers
   ·exact ⟨h.hgo.ext,hRel,⟨s3.trans h.hgo.frm.os,s4.trans h.hgo.frm.tape,s5.trans h.hgo.frm.output,by rw [s6]; exact h.hgo.frm.size,fun b hb hi => (s2 b (by omega)).trans (h.hgo.frm.keep b hb hi)⟩,h.hgo.sub,h.hgo.ro⟩
   ·have hjk : j ≠ k := by rintro rfl; rw [ho] at g3'; injection g3' with g3'; subst g3'; exact isFz_pend hFz g4'
    rw [hset j hjk] at g2
    by_cases hj : j = k - 1
    ·subst hj
     rw [hz.at_] at g3'; injection g3' with g3'; subst g3'
     refine ⟨x,hz.dx,⟨cells,c,e,_,hB1,q2,q3,.inr ⟨hz.mkH,n',cap,z,?_,q6,?_,q8,q9,q10,q11,q12⟩⟩,gO,gS⟩
     ·rw [hgetd x (fun e => hz.ne e.symm)]; exact q5
     ·refine .inr ?_
      split
      ·exact Nat.le_refl _
      ·rename_i hne'
       rcases q7 with rfl | q7
       ·exact absurd rfl hne'
       ·simp only; omega
    ·have hHj : Hd P i.ls ops listed m j := ⟨g2,u',g3',.inl ⟨g1,g4'⟩⟩
     obtain ⟨d',r1,r2,r3,r4⟩ := h.hB j u' g1 g2 g3' g4'
     refine ⟨d',r1,?_,r3,r4⟩
     rw [hgetd d' (fun e => hdst j u' hHj g3' hj (by rw [r1,e]))]
     exact r2.mono (Ext.refl _) (s2 _ (fun e => h.hD j (k - 1) u' u g1 (by omega) g2 hl1 g3' hz.at_ g4' hp1 hj e))
   ·have hjk : ∀ {j : Nat} {u : Oper},ops[j]? = some u → isPend i.ls u = true → (listed.setIfInBounds k true).getD j true = true → listed.getD j true = true := fun {j u} f1 f2 f3 => by
     by_cases hj : j = k
     ·subst hj; rw [ho] at f1; injection f1 with f1; subst f1; exact (isFz_pend hFz f2).elim
     ·rw [hset j hj] at f3; exact f3
    exact h.hD j j' u u' g1 g2 (hjk g5 g7 g3) (hjk g6 g8 g4) g5 g6 g7 g8 g9
   ·have hjk : j ≠ k := by rintro rfl; rw [ho] at g2; injection g2 with g2; subst g2; exact isFz_pend hFz g3
    rw [hset j hjk] at g5
    by_cases hk' : k' = k
    ·subst hk'; exact hclaim j u g1 g5 g2 g3
    ·rw [hset k' hk'] at g6; exact h.hN j u k' g1 g2 g3 g4 g5 g6
   ·by_cases hj : j = k
    ·subst hj
     rw [ho] at g3'; injection g3' with g3'; subst g3'
     exact ⟨d,x,u,hz.dst,hz.at_,hz.dx,by rw [hgetd1,hgetd x (fun e => hz.ne e.symm)]; exact q5.symm,hVk⟩
    ·rw [hset j hj] at g2
     obtain ⟨d',x',v,r1,r2,r3,r4,r5⟩ := h.hC j u' g1 g2 g3' g4'
     have hHj : Hd P i.ls ops listed m j := ⟨g2,u',g3',.inr ⟨g1,g4'⟩⟩
     have hjp : 0 < j := by omega
     have hkp := hz.pos
     refine ⟨d',x',v,r1,r2,r3,?_,r5⟩
     rw [hgetd d' (fun e => hdst j u' hHj g3' (fun e2 => ?_) (by rw [r1,e])),hgetd x' (fun e => hdst (j - 1) v (hHrow j u' g1 g2 g3' g4' v r2) r2 (by omega) (by rw [r3,e]))]
     ·exact r4
     ·rw [e2,hz.at_] at g3'; injection g3' with g3'; subst g3'; exact isFz_pend g4' hp1
  have hnf : ∀ j,Hd P i.ls ops listed m j → isFzOf P ops j k = false := fun j hj => by
   cases hz' : isFzOf P ops j k with
   | false => rfl
   | true =>
    obtain ⟨h1,v,hv,hvz⟩ := isFzOf_iff hz'
    rw [ho] at hv; injection hv with hv; subst hv
    obtain ⟨_,_,_,h2⟩ := hj
    exact (hsp ⟨hvz,by rcases h2 with h2 | h2 <;> omega⟩).elim
  have hnomask : ∀ t,(t ∈ o.looksAt ops ∨ o.dst = some t) → ∀ j u,Hd P i.ls ops listed m j → ops[j]? = some u → u.dst = some t → False := by
   intro t ht j u hj hu hd
   have := apart_dst (hpapart j u hj (hnf j hj) hu) hd
   rcases ht with ht | ht
   ·exact this.1 ht
   ·exact this.2 ht
  have hlook : ∀ t ∈ o.looksAt ops,mask ops (Hd P i.ls ops listed m) ρ t = (S k).1 t := by
   intro t ht
   rw [mask_of (hnomask t (.inl ht))]
   refine h.hH.same (hTr k (by omega)) fun j o' ho' hd => ?_
   rcases Nat.lt_trichotomy j k with hjk | hjk | hjk
   ·refine ⟨fun _ => hjk,fun _ => ?_⟩
    have hl : listed.getD j true = true := by
     rcases clash_or (pairs_at hpair ho' ho hjk) with hb | ⟨hap,_⟩
     ·exact hbef j (hlt ho') hb
     ·exact absurd ht (apart_dst hap hd).1
    exact ⟨hl,fun hj => hnomask t (.inl ht) j o' hj ho' hd⟩
   ·subst hjk
    exact ⟨fun h => (by have := h.1; rw [h0] at this; cases this),fun h => absurd h (Nat.lt_irrefl _)⟩
   ·refine ⟨fun h => ?_,fun h => by omega⟩
    rcases clash_or (pairs_at hpair ho ho' hjk) with hb | ⟨_,hap,_⟩
    ·exact (hafter j (hlt ho') hb h.1).elim
    ·exact absurd ht (apart_dst hap hd).1
  obtain ⟨hev,hgu⟩ := ev_agree hlook
  have hlast : ∀ j o',ops[j]? = some o' → Dset P i.ls ops listed m j → (∃ t,o.dst = some t ∧ o'.dst = some t) → j ≤ k := by
   rintro j o' ho' hD ⟨t,h1,h2⟩
   rcases Nat.lt_or_ge k j with hjk | hjk
   ·rcases clash_or (pairs_at hpair ho ho' hjk) with hb | ⟨hap,_⟩
    ·exact (hafter j (hlt ho') hb hD.1).elim
    ·exact absurd h2 (apart_dst hap h1).2
   ·exact hjk
  cases hp : isPend i.ls o with
  | true =>
   obtain ⟨⟨d,hdst⟩,hgd⟩ := isPend_gd hp
   have hmk : m ≤ k := by
    rcases Nat.lt_or_ge k m with h2 | h2
    ·have := h.he1 k o h2 ho (isPend_E hp); rw [h0] at this; cases this
    ·exact h2
   obtain ⟨cv,c,e,fr,hrun,hmade⟩ : ∃ (cv : Value) (c : Array Value) (e : TypeId) (fr : Nat × Nat),(execOp a.eval o).run P w = .ok (.value cv) (w.alloc (.cells c e fr)) ∧ Made P i.ls S V ι (w.alloc (.cells c e fr)) o k w.heap.size cv := by
    rcases isPend_or hp with hpA | hpH
    ·obtain ⟨t,d1,z,hop,hdst1,_,hz,hv,_,_⟩ := pend_step (hst k hkN) ho hpA
     obtain ⟨zv,hz1,hz2,hz3⟩ := run_zero (P := P) (w := w) hz
     have hrow : RelL ι.base z zv.cells := by rw [← hz2]; simpa using RelL.plain (κ := ι.base) (xs := zv.cells.toList) (by rw [hz2]; exact hz3)
     exact ⟨.pointer (some ⟨w.heap.size,0,none⟩),zv.cells,t,(0,0),by simp [execOp,hop,Instr.alloc,hz1,newVar,newRow],z,zv.cells,t,(0,0),alloc_new w _,by rw [hrow.1]; exact Nat.le_refl _,hrow.2,.inl ⟨hpA,⟨t,hop,hz⟩,rfl,rfl⟩⟩
    ·have ha' : aoper P i.ls call o (ev (mask ops (Hd P i.ls ops listed m) ρ)) (S k).2.1 (S k).2.2 = some (V k,(S (k + 1)).2.1,(S (k + 1)).2.2) := by
      rw [aoper_congr hev]; exact mk_step (hst k hkN) ho hpH
     obtain ⟨n',cap,z,cells,c,e,fr,h1,h2,h3,h4,h5,h6,h7,h8,h9,h10⟩ := mk_run h.hrel (isPendH_iff hpH).1 (hall o hmem).1 ha'
     exact ⟨_,c,e,fr,h4,cells,c,e,fr,alloc_new w _,h6,h5,.inr ⟨hpH,n',cap,z,rfl,h7,h8,h9,h10,h1,h2,h3⟩⟩
   have hG : Goes ι (S m).2.1 (S m).2.2 w ι (S m).2.1 (S m).2.2 (w.alloc (.cells c e fr)) := goes_grow h.hrel.rel
   unfold wpOp
   rw [ho]
   simp only
   rw [guard_sound h.hrel (show aguard ops (mask ops (Hd P i.ls ops listed m) ρ) o = some true by rw [aguard,hgd])]
   simp only [if_true]
   refine .inl ?_
   unfold Oper.wp
   rw [hrun]
   have hnoF : isFz P o.op = true → False := fun hh => isFz_pend hh hp
   have hHd : ∀ j,Hd P i.ls ops (listed.setIfInBounds k true) m j ↔ Hd P i.ls ops listed m j ∨ j = k := by
    intro j
    unfold Hd
    by_cases hj : j = k
    ·subst hj
     exact ⟨fun _ => .inr rfl,fun _ => ⟨hsetk,o,ho,.inl ⟨hmk,hp⟩⟩⟩
    ·rw [hset j hj]
     exact ⟨.inl,fun h => h.resolve_right hj⟩
   have hmask : mask ops (Hd P i.ls ops (listed.setIfInBounds k true) m) ρ = Tm.putO (mask ops (Hd P i.ls ops listed m) ρ) o.dst undef := mask_hide ho hdst hHd
   have hDs : Dset P i.ls ops (listed.setIfInBounds k true) m = Dset P i.ls ops listed m := by
    funext j
    unfold Dset
    rw [hHd]
    by_cases hj : j = k
    ·subst hj
     exact propext ⟨fun ⟨_,g⟩ => (g (.inr rfl)).elim,fun ⟨g,_⟩ => by rw [h0] at g; cases g⟩
    ·rw [hset j hj]
     exact propext ⟨fun ⟨g1,g2⟩ => ⟨g1,fun g => g2 (.inl g)⟩,fun ⟨g1,g2⟩ => ⟨g1,fun g => g.elim g2 hj⟩⟩
   refine ih _ m ρ ι _ _ (fun j => if j = k then w.heap.size else Bf j) ⟨by simpa using hsz,hcl',h.hm,fun j u g1 g2 g3 => hgetS (h.he1 j u g1 g2 g3),fun j u g1 g2 g3 g4 => ?_,?_,by rw [hDs]; exact h.hH,h.hgo.trans hG,fun j u g1 g2 g3 g4 => ?_,fun j j' u u' g1 g2 g3 g4 g5 g6 g7 g8 g9 => ?_,fun j u k' g1 g2 g3 g4 g5 g6 => ?_,fun j u' g1 g2 g3' g4' => ?_⟩ (fun j u g1 g2 g3 i' u' g4 g5 g6 g7 => hgetS (hw j u g1 g2 g3 i' u' g4 g5 g6 g7)) hleft
   ·by_cases hj : j = k
    ·subst hj; rw [ho] at g2; injection g2 with g2; rw [← g2]; exact hp
    ·rw [hset j hj] at g4; exact h.he2 j u g1 g2 g3 g4
   ·rw [hmask]
    exact h.hrel.step hG (hall o hmem).2 (VR_undef _ _)
   ·by_cases hj : j = k
    ·subst hj
     rw [ho] at g3; injection g3 with g3; subst g3
     simp only [if_true]
     refine ⟨d,hdst,?_,⟨fun a' b' hb he => ?_,fun t1 g1 cs ht he => ?_⟩,h.hgo.frm.size⟩
     ·have hd2 : d < n := by have := (hall o hmem).2; simpa [dstOk,hdst] using this
      have hput : (a.put o.dst cv).tmps.getD d undef = cv := by
       rw [hdst]
       simp [Act.put,Array.getD_eq_getD_getElem?,h.hrel.size,hd2]
      rw [hput]
      exact hmade
     ·have := h.hrel.rel.hb a' b' hb; omega
     ·have := h.hrel.rel.lt_l ht; omega
    ·rw [hset j hj] at g2
     simp only [if_neg hj]
     obtain ⟨d',q1,q2,q3,q4⟩ := h.hB j u g1 g2 g3 g4
     refine ⟨d',q1,?_,q3,q4⟩
     have hne : d ≠ d' := fun he => hnomask d (.inr hdst) j u ⟨g2,u,g3,.inl ⟨g1,g4⟩⟩ g3 (by rw [q1,he])
     rw [hdst]
     simp only [Act.put]
     rw [Array.getD_eq_getD_getElem?,Array.getElem?_setIfInBounds_ne hne,← Array.getD_eq_getD_getElem?]
     exact q2.mono (Ext.refl _) (alloc_old w _ q2.lt)
   ·by_cases hj : j = k
    ·by_cases hj' : j' = k
     ·omega
     ·rw [if_pos hj,if_neg hj']
      rw [hset j' hj'] at g4
      obtain ⟨_,_,q5,_⟩ := h.hB j' u' g2 g4 g6 g8
      have := q5.lt
      omega
    ·rw [hset j hj] at g3
     by_cases hj' : j' = k
     ·rw [if_neg hj,if_pos hj']
      obtain ⟨_,_,q5,_⟩ := h.hB j u g1 g3 g5 g7
      have := q5.lt
      omega
     ·rw [if_neg hj,if_neg hj']
      rw [hset j' hj'] at g4
      exact h.hD j j' u u' g1 g2 g3 g4 g5 g6 g7 g8 g9
   ·by_cases hj : j = k
    ·subst hj
     refine .inl ?_
     cases hb : isBefore (Region.before ops) j k' with
     | false => rfl
     | true =>
      have hjk := before_lt hedge hclos k' j g4 hkN hb
      rw [hset k' (by omega)] at g6
      exact (hafter k' g4 hb g6).elim
    ·rw [hset j hj] at g5
     by_cases hk' : k' = k
     ·subst hk'; exact hclaim j u g1 g5 g2 g3
     ·rw [hset k' hk'] at g6; exact h.hN j u k' g1 g2 g3 g4 g5 g6
   ·have hjk : j ≠ k := by rintro rfl; rw [ho] at g3'; injection g3' with g3'; subst g3'; exact hnoF g4'
    rw [hset j hjk] at g2
    obtain ⟨d',x',v,r1,r2,r3,r4,r5⟩ := h.hC j u' g1 g2 g3' g4'
    have hn1 : d ≠ d' := fun he => hnomask d (.inr hdst) j u' ⟨g2,u',g3',.inr ⟨g1,g4'⟩⟩ g3' (by rw [r1,he])
    have hn2 : d ≠ x' := fun he => hnomask d (.inr hdst) (j - 1) v (hHrow j u' g1 g2 g3' g4' v r2) r2 (by rw [r3,he])
    refine ⟨d',x',v,r1,r2,r3,?_,r5⟩
    rw [hdst]
    simp only [Act.put]
    rw [Array.getD_eq_getD_getElem?,Array.getElem?_setIfInBounds_ne hn1,← Array.getD_eq_getD_getElem?,Array.getD_eq_getD_getElem? (i := x'),Array.getElem?_setIfInBounds_ne hn2,← Array.getD_eq_getD_getElem?]
    exact r4
  | false =>
  have hnk : ∀ u,ops[k]? = some u → isPend i.ls u = true → False := fun u hu hpu => by rw [ho] at hu; injection hu with hu; rw [← hu,hp] at hpu; cases hpu
  have hnext : ∀ (m' : Nat) (ι' : Inj) (cv : Value) (w' : World),m' ≤ ops.size → (∀ j u,j < m' → ops[j]? = some u → isE P u.op = true → listed.getD j true = true ∨ j = k) → (∀ j u,m' ≤ j → ops[j]? = some u → isE P u.op = true → j ≠ k) → m ≤ m' → (∀ j u,m ≤ j → j < m' → ops[j]? = some u → isPend i.ls u = true → False) →
    SRel P i.T n ι' (S m').2.1 (S m').2.2 (Tm.putO (mask ops (Hd P i.ls ops listed m) ρ) o.dst (V k)) (a.put o.dst cv) w' → Goes ι (S m).2.1 (S m).2.2 w ι' (S m').2.1 (S m').2.2 w' → wpAny P md ops Q fuel (listed.setIfInBounds k true) (a.put o.dst cv) w' := by
   intro m' ι' cv w' hm' h1 h2 hmm hno h3 h4
   have hge : ∀ {j : Nat} {u : Oper},m ≤ j → ops[j]? = some u → isPend i.ls u = true → m' ≤ j := fun {j u} g1 g2 g3 => by
    rcases Nat.lt_or_ge j m' with g4 | g4
    ·exact (hno j u g1 g4 g2 g3).elim
    ·exact g4
   have hl2 : ∀ {j : Nat} {u : Oper},ops[j]? = some u → isPend i.ls u = true → (listed.setIfInBounds k true).getD j true = true → listed.getD j true = true := fun {j u} g1 g2 g3 => by
    by_cases hj : j = k
    ·subst hj; exact (hnk u g1 g2).elim
    ·rw [hset j hj] at g3; exact g3
   have hFk : ∀ j u,m + 1 ≤ j → (listed.setIfInBounds k true).getD j true = true → ops[j]? = some u → isFz P u.op = true → m' + 1 ≤ j ∧ listed.getD j true = true := fun j u g1 g2 g3 g4 => by
    have hjk : j ≠ k := by rintro rfl; rw [ho] at g3; injection g3 with g3; subst g3; exact hsp ⟨g4,g1⟩
    rw [hset j hjk] at g2
    obtain ⟨u2,x,d,hfz⟩ := fz_at hfzo g3 g4
    refine ⟨?_,g2⟩
    rcases Nat.lt_or_ge (j - 1) m' with g5 | g5
    ·exact (hno (j - 1) u2 (by omega) g5 hfz.at_ (isPend_H hfz.mkH)).elim
    ·omega
   have hHd : ∀ j,Hd P i.ls ops (listed.setIfInBounds k true) m' j ↔ Hd P i.ls ops listed m j := by
    intro j
    unfold Hd
    refine ⟨fun ⟨g1,u,g2,g3⟩ => ?_,fun ⟨g1,u,g2,g3⟩ => ⟨hgetS g1,u,g2,g3.imp (fun g4 => ⟨hge g4.1 g2 g4.2,g4.2⟩) (fun g4 => ⟨(hFk j u g4.1 (hgetS g1) g2 g4.2).1,g4.2⟩)⟩⟩
    rcases g3 with g3 | g3
    ·exact ⟨hl2 g2 g3.2 g1,u,g2,.inl ⟨by omega,g3.2⟩⟩
    ·exact ⟨(hFk j u (by omega) g1 g2 g3.2).2,u,g2,.inr ⟨by omega,g3.2⟩⟩
   have hmask : mask ops (Hd P i.ls ops (listed.setIfInBounds k true) m') (Tm.putO ρ o.dst (V k)) = Tm.putO (mask ops (Hd P i.ls ops listed m) ρ) o.dst (V k) :=
    mask_put hHd fun j u t h1 h2 h3 h4 => hnomask t (.inr h3) j u h1 h2 h4
   have hDs : Dset P i.ls ops (listed.setIfInBounds k true) m' = fun j => Dset P i.ls ops listed m j ∨ j = k := by
    funext j
    unfold Dset
    rw [hHd]
    by_cases hj : j = k
    ·subst hj
     exact propext ⟨fun _ => .inr rfl,fun _ => ⟨hsetk,fun g => by have := g.1; rw [h0] at this; cases this⟩⟩
    ·rw [hset j hj]
     exact propext ⟨.inl,fun g => g.resolve_right hj⟩
   refine ih _ m' _ ι' _ w' Bf ⟨by simpa using hsz,hcl',hm',fun j u g1 g2 g3 => ?_,fun j u g1 g2 g3 g4 => ?_,by rw [hmask]; exact h3,by rw [hDs]; exact h.hH.step ho hlast,h.hgo.trans h4,fun j u g1 g2 g3 g4 => ?_,fun j j' u u' g1 g2 g3 g4 g5 g6 g7 g8 => h.hD j j' u u' (by omega) (by omega) (hl2 g5 g7 g3) (hl2 g6 g8 g4) g5 g6 g7 g8,fun j u k' g1 g2 g3 g4 g5 g6 => ?_,fun j u' g1 g2 g3' g4' => ?_⟩ (fun j u g1 g2 g3 i' u' g4 g5 g6 g7 => ?_) hleft
   ·rcases h1 j u g1 g2 g3 with g | g
    ·exact hgetS g
    ·rw [g]; exact hsetk
   ·rw [hset j (h2 j u g1 g2 g3)] at g4
    exact h.he2 j u (by omega) g2 g3 g4
   ·obtain ⟨d',q1,q2,q3,q4⟩ := h.hB j u (by omega) (hl2 g3 g4 g2) g3 g4
    have hBlt := q2.lt
    refine ⟨d',q1,?_,q3.goes h.hrel.rel h4 hBlt,q4⟩
    have hval : (a.put o.dst cv).tmps.getD d' undef = a.tmps.getD d' undef := by
     cases hdst : o.dst with
     | none => rfl
     | some d =>
      have hne : d ≠ d' := fun he => hnomask d (.inr hdst) j u ⟨hl2 g3 g4 g2,u,g3,.inl ⟨by omega,g4⟩⟩ g3 (by rw [q1,he])
      simp only [Act.put]
      rw [Array.getD_eq_getD_getElem?,Array.getElem?_setIfInBounds_ne hne,← Array.getD_eq_getD_getElem?]
    rw [hval]
    exact q2.mono h4.ext (h4.frm.keep _ hBlt (fun hi => q3.img hi))
   ·have g5' := hl2 g2 g3 g5
    by_cases hk' : k' = k
    ·subst hk'; exact hclaim j u (by omega) g5' g2 g3
    ·rw [hset k' hk'] at g6; exact h.hN j u k' (by omega) g2 g3 g4 g5' g6
   ·obtain ⟨_,g5⟩ := hFk j u' (by omega) g2 g3' g4'
    obtain ⟨d',x',v,r1,r2,r3,r4,r5⟩ := h.hC j u' (by omega) g5 g3' g4'
    refine ⟨d',x',v,r1,r2,r3,?_,r5⟩
    cases hdst : o.dst with
    | none => exact r4
    | some d =>
     have hn1 : d ≠ d' := fun he => hnomask d (.inr hdst) j u' ⟨g5,u',g3',.inr ⟨by omega,g4'⟩⟩ g3' (by rw [r1,he])
     have hn2 : d ≠ x' := fun he => hnomask d (.inr hdst) (j - 1) v (hHrow j u' (by omega) g5 g3' g4' v r2) r2 (by rw [r3,he])
     simp only [Act.put]
     rw [Array.getD_eq_getD_getElem?,Array.getElem?_setIfInBounds_ne hn1,← Array.getD_eq_getD_getElem?,Array.getD_eq_getD_getElem? (i := x'),Array.getElem?_setIfInBounds_ne hn2,← Array.getD_eq_getD_getElem?]
     exact r4
   ·rcases Nat.lt_or_ge j m with g8 | g8
    ·exact hgetS (hw j u g8 g2 g3 i' u' g4 g5 g6 g7)
    ·exact (hno j u g8 g1 g2 (isPend_A g3)).elim
  have hEs : isE P o.op = true → m ≤ k ∧ (S k).2 = (S m).2 ∧ (∀ j o',j < k + 1 → ops[j]? = some o' → isE P o'.op = true → listed.getD j true = true ∨ j = k) ∧ (∀ j o',k + 1 ≤ j → ops[j]? = some o' → isE P o'.op = true → j ≠ k) ∧ (∀ j u,m ≤ j → j < k + 1 → ops[j]? = some u → isPend i.ls u = true → False) := by
   intro hE
   have hmk : m ≤ k := by
    rcases Nat.lt_or_ge k m with h2 | h2
    ·have := h.he1 k o h2 ho hE; rw [h0] at this; cases this
    ·exact h2
   have hlow : ∀ j o',j < k → ops[j]? = some o' → isE P o'.op = true → isBefore (Region.before ops) j k = true := by
    intro j o' hj ho' hE'
    rcases clash_or (pairs_at hpair ho' ho hj) with hb | ⟨_,_,⟨hn,_⟩ | ⟨hpk,_⟩ | ⟨_,hnE,_⟩ | hsp⟩
    ·exact hb
    ·exact (hn hE' hE).elim
    ·rw [hp] at hpk; cases hpk
    ·rw [hE] at hnE; cases hnE
    ·rw [(stP_l (P := P) hsp).1] at hE'; cases hE'
   have hnone : ∀ j u,m ≤ j → j < k → ops[j]? = some u → isE P u.op = true → False := by
    intro j u g1 g2 g3 g4
    have hb := hlow j u g2 g3 g4
    have hl := hbef j (hlt g3) hb
    rcases hclaim j u g1 hl g3 (h.he2 j u g1 g3 g4 hl) with this | this
    ·rw [hb] at this; cases this
    ·obtain ⟨_,v,hv,hvz⟩ := isFzOf_iff this
     rw [ho] at hv; injection hv with hv; subst hv
     rw [(isFz_E hvz).1] at hE; cases hE
   refine ⟨hmk,?_,fun j o' hj ho' hE' => ?_,fun j o' hj _ _ => by omega,fun j u g1 g2 g3 g4 => ?_⟩
   ·have := trace_quiet hst (k - m) m (by omega) (fun j o' h1 h2 ho' => by
     cases hE' : isE P o'.op with
     | false => rfl
     | true => exact (hnone j o' h1 (by omega) ho' hE').elim)
    rwa [show m + (k - m) = k by omega] at this
   ·rcases Nat.lt_or_ge j k with h2 | h2
    ·exact .inl (hbef j (hlt ho') (hlow j o' h2 ho' hE'))
    ·exact .inr (by omega)
   ·rcases Nat.lt_or_ge j k with h2 | h2
    ·exact hnone j u g1 h2 g3 (isPend_E g4)
    ·obtain rfl : j = k := by omega
     exact hnk u g3 g4
  have hRs : isE P o.op = false → (∀ j o',j < m → ops[j]? = some o' → isE P o'.op = true → listed.getD j true = true ∨ j = k) ∧ (∀ j o',m ≤ j → ops[j]? = some o' → isE P o'.op = true → j ≠ k) := by
   intro hE
   refine ⟨fun j o' hj ho' hE' => .inl (h.he1 j o' hj ho' hE'),fun j o' hj ho' hE' he => ?_⟩
   subst he
   rw [ho] at ho'; injection ho' with ho'
   rw [← ho',hE] at hE'
   cases hE'
  unfold wpOp
  rw [ho]
  simp only
  rcases hor with ⟨hg,ha,hput,hfl,hld⟩ | ⟨hg,hv,hS⟩
  ·rw [guard_sound h.hrel (hgu.trans hg)]
   simp only [if_true]
   refine .inl ?_
   cases hE : isE P o.op with
   | true =>
    obtain ⟨hmk,hSk,h1,h2,h3⟩ := hEs hE
    have ha' : aoper P i.ls call o (ev (mask ops (Hd P i.ls ops listed m) ρ)) (S m).2.1 (S m).2.2 = some (V k,(S (k + 1)).2.1,(S (k + 1)).2.2) := by
     rw [← hSk,aoper_congr hev]; exact ha
    exact op_step hcall h.hrel (hall o hmem).1 (hall o hmem).2 ha' (fun ι' cv w' h4 h5 => hnext (k + 1) ι' cv w' (by omega) h1 h2 (by omega) h3 h4 h5)
   | false =>
    obtain ⟨h1,h2⟩ := hRs hE
    cases hFz : isFz P o.op with
    | true =>
     have hkm : m ≤ k + 0 ∨ k < m := by omega
     have hSk : (S k).2 = (S m).2 := by
      obtain ⟨u,x,d,hz⟩ := fz_at hfzo ho hFz
      have hkm : k ≤ m := by
       rcases Nat.lt_or_ge m k with h3 | h3
       ·exact (hsp ⟨hFz,h3⟩).elim
       ·exact h3
      have := trace_quiet hst (m - k) k (by have := h.hm; omega) (fun j o' h3 h4 ho' => by
       cases hE' : isE P o'.op with
       | false => rfl
       | true =>
        have hjk : k ≠ j := by rintro rfl; rw [ho] at ho'; injection ho' with ho'; rw [← ho',hE] at hE'; cases hE'
        exact (hafter j (hlt ho') (hz.wait j o' ho' (by omega) hE') (h.he1 j o' (by omega) ho' hE')).elim)
      rw [show k + (m - k) = m by omega] at this
      exact this.symm
     obtain ⟨hs1,hs2⟩ := aoper_same hE ha
     have ha' : aoper P i.ls call o (ev (mask ops (Hd P i.ls ops listed m) ρ)) (S m).2.1 (S m).2.2 = some (V k,(S m).2.1,(S m).2.2) := by
      rw [aoper_congr hev,← hSk,ha,hs1,hs2]
     exact op_step hcall h.hrel (hall o hmem).1 (hall o hmem).2 ha' (fun ι' cv w' h3 h4 => hnext m ι' cv w' h.hm h1 h2 (Nat.le_refl _) (fun j u g1 g2 => by omega) h3 h4)
    | false =>
    obtain ⟨_,_,hrop,hgen⟩ := aoper_R hE hFz ha
    have hr : rop P o.op (ev (mask ops (Hd P i.ls ops listed m) ρ)) (rdB (S m).2.1 (S m).2.2) = some (V k) := by
     rw [rop_congr hev]
     cases hrd : readsMem o.op with
     | false => rw [← hrop]; exact rop_rd hrd
     | true =>
      have hrdP : isRd P o.op = true := by simp [isRd,hrd,hE]
      have hbetw : ∀ j o',((m ≤ j ∧ j < k) ∨ (k ≤ j ∧ j < m)) → ops[j]? = some o' → isE P o'.op = true → (m ≤ j ∧ isPendA i.ls o' = true ∧ free (Region.before ops) k j = true) ∨ (isCall o'.op = true ∧ free (Region.before ops) k j = true) ∨ (k < j ∧ j < m ∧ stP ops o o' = true ∧ free (Region.before ops) k j = true) := by
       rintro j o' (⟨h3,h4⟩ | ⟨h3,h4⟩) ho' hE'
       ·have hnb : isBefore (Region.before ops) j k = false := by
         cases hb : isBefore (Region.before ops) j k with
         | false => rfl
         | true =>
          have hl := hbef j (hlt ho') hb
          rcases hclaim j o' h3 hl ho' (h.he2 j o' h3 ho' hE' hl) with this | this
          ·rw [hb] at this; cases this
          ·obtain ⟨_,v,hv,hvz⟩ := isFzOf_iff this
           rw [ho] at hv; injection hv with hv; subst hv
           rw [(isFz_E hvz).2] at hrd; cases hrd
        have hnb' : isBefore (Region.before ops) k j = false := not_before hedge hclos hkN (hlt ho') (by omega)
        have hfree : free (Region.before ops) k j = true := by simp [free,hnb,hnb',show k ≠ j by omega]
        rcases clash_or (pairs_at hpair ho' ho h4) with hb | ⟨_,_,⟨_,_,hx⟩ | ⟨hpk,_⟩ | ⟨hpj,_,hx⟩ | hsp⟩
        ·rw [hnb] at hb; cases hb
        ·exact .inr (.inl ⟨(hx hrd hE').2,hfree⟩)
        ·rw [hp] at hpk; cases hpk
        ·rcases isPend_or hpj with hpA | hpH
         ·exact .inl ⟨h3,hpA,hfree⟩
         ·exact .inr (.inl ⟨isMk_call (isPendH_iff hpH).1,hfree⟩)
        ·rw [(stP_l (P := P) hsp).1] at hE'; cases hE'
       ·have hkj : k ≠ j := by
         intro he; subst he; rw [ho] at ho'; injection ho' with ho'; rw [← ho',hE] at hE'; cases hE'
        have hD := h.he1 j o' h4 ho' hE'
        have hnb : isBefore (Region.before ops) k j = false := by
         cases hb : isBefore (Region.before ops) k j with
         | false => rfl
         | true => exact (hafter j (hlt ho') hb hD).elim
        have hnb' : isBefore (Region.before ops) j k = false := not_before hedge hclos (hlt ho') hkN (by omega)
        have hfree : free (Region.before ops) k j = true := by simp [free,hnb,hnb',hkj]
        rcases clash_or (pairs_at hpair ho ho' (by omega)) with hb | ⟨_,_,⟨_,hx,_⟩ | ⟨hpj,_⟩ | ⟨hpk,_⟩ | hsp⟩
        ·rw [hnb] at hb; cases hb
        ·exact .inr (.inl ⟨(hx hrd hE').2,hfree⟩)
        ·rcases isPend_or hpj with hpA | hpH
         ·have := hw j o' h4 ho' hpA k o (by omega) ho hrd hE
          rw [h0] at this; cases this
         ·exact .inr (.inl ⟨isMk_call (isPendH_iff hpH).1,hfree⟩)
        ·rw [hp] at hpk; cases hpk
        ·exact .inr (.inr ⟨by omega,h4,hsp,hfree⟩)
      by_cases hex : ∃ j o',((m ≤ j ∧ j < k) ∨ (k ≤ j ∧ j < m)) ∧ ops[j]? = some o' ∧ isE P o'.op = true
      ·have hldk : ldOf P ops k = true := by
        obtain ⟨j,o',hj,ho',hE'⟩ := hex
        have hfree : free (Region.before ops) k j = true := by
         rcases hbetw j o' hj ho' hE' with ⟨_,_,h3⟩ | ⟨_,h3⟩ | ⟨_,_,_,h3⟩ <;> exact h3
        exact ldOf_of ho ho' hrdP hE' hfree
       have hlow := hld hldk
       have hfloat : ∀ j o',((m ≤ j ∧ j < k) ∨ (k ≤ j ∧ j < m)) → ops[j]? = some o' → isE P o'.op = true → isPendA i.ls o' = true ∨ (isCall o'.op = true ∧ flOf P ops j = true) ∨ (k < j ∧ j < m ∧ stP ops o o' = true ∧ flOf P ops j = true ∧ free (Region.before ops) k j = true) := by
        intro j o' hj ho' hE'
        rcases hbetw j o' hj ho' hE' with ⟨_,h4,_⟩ | ⟨h4,h5⟩ | ⟨h3,h4,h5,h6⟩
        ·exact .inl h4
        ·refine .inr (.inl ⟨h4,flOf_of ho' ho h4 hrdP ?_⟩)
         simp only [free,Bool.and_eq_true,Bool.not_eq_true',bne_iff_ne] at h5 ⊢
         exact ⟨⟨h5.1.2,h5.1.1⟩,Ne.symm h5.2⟩
        ·exact .inr (.inr ⟨h3,h4,h5,flOf_st ho' ho (stP_r (P := P) h5).2.2 (stP_l (P := P) h5).2 h3 h6,h6⟩)
       rcases Nat.le_total m k with hle | hle
       ·have hm := trace_mix hst (k - m) m (by omega) (fun j o' h3 h4 ho' hE' => (hfloat j o' (.inl ⟨h3,by omega⟩) ho' hE').imp_right fun h => h.resolve_right fun h => by omega)
        rw [show m + (k - m) = k by omega] at hm
        rw [← rop_congr hev]
        exact rd_G h.hrel hrdP (hall o hmem).1 hm.1 (ldChk_congr (fun x hx => (hev x hx).symm) hlow) (fun a ha => (hm.2 a ha).symm) (by rw [rop_congr hev]; exact hrop)
       ·refine rop_at hrdP (fun p hp' cs hcs => ?_) hrop
        have hsame := trace_apart hst p.block p.spot (m - k) k (by have := h.hm; omega) (fun hs => ldChk_at hlow hp' hs) (fun j o' h3 h4 ho' hE' => by
          rcases hfloat j o' (.inr ⟨h3,by omega⟩) ho' hE' with hpj | h5 | ⟨h5,_,h6,h7,h8⟩
          ·have := hw j o' (by omega) ho' hpj k o (by
            rcases Nat.lt_or_ge k j with h6 | h6
            ·exact h6
            ·obtain rfl : j = k := by omega
             exact (hnk o' ho' (isPend_A hpj)).elim) ho hrd hE
           rw [h0] at this; cases this
          ·exact .inl h5
          ·refine .inr ⟨h7,(stP_r (P := P) h6).2.2,?_⟩
           obtain ⟨t1,a1,t2,b1,v1,g1,g2,g3⟩ := stP_iff h6
           rcases hp' with ⟨t,x,hop,hp'⟩ | ⟨_,_,_,_,_,hop,_⟩
           ·have hxa : x = .tmp a1 := by rw [hop] at g1; injection g1
            intro t3 y3 v3 hst3 hchk
            obtain ⟨p3,q3,g,e1,e2,e3,e4⟩ := hchk k o t x ho hop h5 h8
            have hkeep : (S j).1 a1 = (S k).1 a1 := trace_keep hst (j - k) k j (by omega) (by have := h.hm; omega) fun u hu => (g3 u hu).1
            have hp3 : p3 = p := by
             rw [hxa] at e1 hp'
             have e1 : (S j).1 a1 = .pointer (some p3) := e1
             have hp' : (S k).1 a1 = .pointer (some p) := hp'
             rw [hkeep,hp'] at e1
             injection e1 with e1
             injection e1 with e1
             exact e1.symm
            subst hp3
            exact ⟨q3,g,e2,e3,e4⟩
           ·rw [hop] at g1; cases g1)
        rw [show k + (m - k) = m by omega] at hsame
        rw [hsame]
        exact hcs
      ·have hq : ∀ j o',((m ≤ j ∧ j < k) ∨ (k ≤ j ∧ j < m)) → ops[j]? = some o' → isE P o'.op = false := by
        intro j o' hj ho'
        cases hE' : isE P o'.op with
        | false => rfl
        | true => exact absurd ⟨j,o',hj,ho',hE'⟩ hex
       have hsame : (S k).2 = (S m).2 := by
        rcases Nat.le_total m k with hle | hle
        ·have := trace_quiet hst (k - m) m (by omega) (fun j o' h3 h4 => hq j o' (.inl ⟨h3,by omega⟩))
         rwa [show m + (k - m) = k by omega] at this
        ·have := trace_quiet hst (m - k) k (by have := h.hm; omega) (fun j o' h3 h4 => hq j o' (.inr ⟨h3,by omega⟩))
         rw [show k + (m - k) = m by omega] at this
         exact this.symm
       rw [← hsame]
       exact hrop
    have ha' : aoper P i.ls call o (ev (mask ops (Hd P i.ls ops listed m) ρ)) (S m).2.1 (S m).2.2 = some (V k,(S m).2.1,(S m).2.2) := by
     rw [aoper_congr hev]; rw [rop_congr hev] at hr; exact hgen _ _ hr
    exact op_step hcall h.hrel (hall o hmem).1 (hall o hmem).2 ha' (fun ι' cv w' h3 h4 => hnext m ι' cv w' h.hm h1 h2 (Nat.le_refl _) (fun j u g1 g2 => by omega) h3 h4)
  ·rw [guard_sound h.hrel (hgu.trans hg)]
   simp only [Bool.false_eq_true,if_false]
   have h' := h.hrel.step (Goes.refl h.hrel.rel) (o := o) (hall o hmem).2 (v := V k) (cv := undef) (by rw [hv]; split <;> exact VR_skip _)
   cases hE : isE P o.op with
   | true =>
    obtain ⟨hmk,hSk,h1,h2,h3⟩ := hEs hE
    have hS2 : (S (k + 1)).2 = (S m).2 := by rw [hS]; exact hSk
    refine hnext (k + 1) ι undef w (by omega) h1 h2 (by omega) h3 ?_ ?_
    ·rw [hS2]; exact h'
    ·rw [hS2]; exact Goes.refl h.hrel.rel
   | false =>
    obtain ⟨h1,h2⟩ := hRs hE
    exact hnext m ι undef w h.hm h1 h2 (Nat.le_refl _) (fun j u g1 g2 => by omega) h' (Goes.refl h.hrel.rel)
theorem draw_ok {call : ACallT} (hcall : CallsOK P call) : DrawOK P call := by
 intro i n id ops0 ops ι lo st ρ a w ρ' lo' st' Q n0 hπ hall hdr hrel hops hQ
 refine wp_region_draw fun t => ?_
 have hmode : ∃ md t',Region.schedule (P.follows .mixedOrders) ops0 t = Region.linearise md ops0 t' ∧ ∃ r : Nat → Nat,∀ (j : Nat) o,ops[j]? = some o → ∀ e ∈ o.after,Region.binds md e = true → e.on < ops.size ∧ r e.on < r j := by
  have hdr2 := hdr
  simp only [drawOk,Bool.and_eq_true] at hdr2
  obtain ⟨⟨⟨⟨hedge,_⟩,_⟩,_⟩,hmd⟩ := hdr2
  have hdeps : Region.departs ops = Region.departs ops0 := by
   rcases hπ with rfl | ⟨π,hπ,rfl⟩
   ·rfl
   ·exact (permOk_get hπ).dep
  unfold Region.schedule
  split
  ·exact ⟨.any,t,rfl,rank_any hedge⟩
  ·rename_i hnd
   have hdep : Region.departs ops = true := by
    rw [hdeps]
    cases hd : Region.departs ops0 with
    | true => rfl
    | false => rw [hd] at hnd; simp at hnd
   rw [hdep] at hmd
   simp only [Bool.not_true,Bool.false_or,Bool.and_eq_true] at hmd
   split
   ·exact ⟨.text,t / 2,rfl,rank_at hmd.1⟩
   ·exact ⟨.gc,t / 2,rfl,rank_at hmd.2⟩
 obtain ⟨md,t',hsch,hrk⟩ := hmode
 rw [hsch]
 obtain ⟨S,V,hS0,hSN,hst⟩ := trace_of (P := P) (ops := ops) ops.toList 0 (ρ,lo,st) (by simp) hops
 rw [Nat.zero_max] at hSN
 have hgo := goes_same (w1 := { w with drawn := w.drawn + 1 }) hrel.rel ⟨rfl,rfl,rfl,rfl⟩
 refine wpAny_sound ops0.size t' _ a _ ?_
 have hany : wpAny P md ops Q ops.size (Array.replicate ops.size false) a { w with drawn := w.drawn + 1 } → wpAny P md ops0 Q ops0.size (Array.replicate ops0.size false) a { w with drawn := w.drawn + 1 } := fun hh => by
  rcases hπ with rfl | ⟨π,hπ,rfl⟩
  ·exact hh
  ·have hg := permOk_get hπ
   have hs : (permOps π ops0).size = ops0.size := by rw [perm_size,hg.len]
   rw [hs] at hh
   exact wpAny_perm hg _ _ _ _ _ (LSame.start hg.len hg.lt) hh
 refine hany ?_
 have hnl : ∀ j o,ops[j]? = some o → (Array.replicate ops.size false).getD j true = true → False := fun j o ho hD => by
  rw [Array.getD_eq_getD_getElem?,Array.getElem?_replicate,if_pos (Array.getElem?_eq_some_iff.1 ho).1] at hD
  cases hD
 have hHn : ∀ j,Hd P i.ls ops (Array.replicate ops.size false) 0 j → False := fun j ⟨h1,u,hu,_⟩ => hnl j u hu h1
 have hmask : mask ops (Hd P i.ls ops (Array.replicate ops.size false) 0) ρ = ρ := funext fun t => mask_of fun j o h1 _ _ => hHn j h1
 refine draw_go hcall (ι0 := ι) (w0 := w) (S := S) (V := V) hall hdr hrk (fun j hj => hst j (Nat.zero_le _) hj) ?_ ops.size _ 0 ρ ι a _ (fun _ => 0) ⟨by simp,fun j o ho hD => (hnl j o ho hD).elim,Nat.zero_le _,fun j o hj => absurd hj (Nat.not_lt_zero _),fun j o _ ho _ hD => (hnl j o ho hD).elim,?_,?_,?_,fun j o _ hD ho => (hnl j o ho hD).elim,fun j j' o o' _ _ hD _ ho => (hnl j o ho hD).elim,fun j o k _ ho _ _ hD => (hnl j o ho hD).elim,fun j o _ hD ho => (hnl j o ho hD).elim⟩ (fun j o hj => absurd hj (Nat.not_lt_zero _)) (left_le _)
 ·rw [hSN,hS0]; exact hQ
 ·rw [hS0,hmask]; exact ⟨hgo.rel,hrel.fr,hrel.gl,hrel.size,hrel.defers⟩
 ·rw [hS0]
  intro t
  exact .inr ⟨fun j o ho hD => (hnl j o ho hD.1).elim,rfl⟩
 ·rw [hS0]; exact hgo
theorem acall_sound {LT : FuncId → FInfo} {ext : String → List Value → St → Option (Value × St)} (hext : ExtOK P ext) : ∀ k,CallsOK P (acall P LT ext k) :=
 calls_sound hext fun _ h => draw_ok h
end
end Go.Proofs.YteabadoaeadcgaaDoor.AM
