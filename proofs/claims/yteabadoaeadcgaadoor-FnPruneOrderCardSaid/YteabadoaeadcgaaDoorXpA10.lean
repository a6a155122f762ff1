/- A part of the machine on which the law's proof rests. -/
import Derived.Test.YteabadoaeadcgaaDoorXpA9
namespace Go.Proofs.YteabadoaeadcgaaDoor.AM
open Go Go.RowKit
set_option linter.unusedVariables false
set_option linter.unusedSimpArgs false
def ov : List (Nat × Value) → Tm → Tm
 | [],ρ,t => ρ t
 | (s,v) :: l,ρ,t => if t = s then v else ov l ρ t
def und : Tm := fun _ => undef
def Has (ρ : Tm) : List (Nat × Value) → Prop
 | [] => True
 | (t,v) :: l => ρ t = v ∧ Has ρ l
theorem ov_map (f : Nat → Value) : ∀ (V : List Nat) (t : Nat),ov (V.map fun t => (t,f t)) und t = if V.contains t then f t else undef
 | [],t => rfl
 | s :: V,t => by
  simp only [List.map_cons,ov]
  by_cases h : t = s
  ·subst h; simp
  ·rw [if_neg h,ov_map f V t]
   simp only [List.contains_cons]
   simp [h]
theorem keep_ov (V : List Nat) (ρ : Tm) : keep V ρ = ov (V.map fun t => (t,ρ t)) und := funext fun t => by rw [ov_map]; rfl
theorem enter_ov (V : List Nat) (args : List Value) : enter V args = ov (V.map fun t => (t,args.getD t undef)) und := keep_ov V _
theorem ov_has {ρ : Tm} : ∀ {l : List (Nat × Value)},Has ρ l → ρ = ov l ρ
 | [],_ => rfl
 | (t,v) :: l,⟨h1,h2⟩ => by
  have ih := ov_has h2
  funext s
  by_cases hs : s = t
  ·subst hs; simp [ov,h1]
  ·rw [ov,if_neg hs,← ih]
section
variable {P : Program} {LT : FuncId → FInfo} {ext : String → List Value → St → Option (Value × St)} {i : FInfo} {ρ : Tm} {lo : Lo} {st : St} {Q : Exit → Tm → Lo → St → Prop}
theorem AW.regionN {id : Nat} {ops : Array Oper} {n0 : Nat → Prop} (h : AO P LT ext i.ls ops n0 noFl noFl ops.toList 0 ρ lo st (fun ρ' lo' st' => Q .normal (ov (i.V.map fun t => (t,ρ' t)) und) lo' st')) : AW P LT ext i (.region id ops false) ρ lo st Q :=
 AW.region (by simpa only [Bool.false_eq_true,if_false,keep_ov] using h)
theorem AW.regionD {id : Nat} {ops : Array Oper} {n0 : Nat → Prop} (h : AO P LT ext i.ls ops n0 (flOf P ops) (ldOf P ops) ops.toList 0 ρ lo st (fun ρ' lo' st' => Q .normal (ov (i.V.map fun t => (t,ρ' t)) und) lo' st')) : AW P LT ext i (.region id ops true) ρ lo st Q :=
 AW.region (by simpa only [if_true,keep_ov] using h)
theorem AW.condT {c : Operand} {a b : Code} (hx : ev ρ c = .bool true) (h : AW P LT ext i a ρ lo st Q) : AW P LT ext i (.cond c a b) ρ lo st Q := AW.cond hx (fun _ => h) (fun h => by cases h)
theorem AW.condF {c : Operand} {a b : Code} (hx : ev ρ c = .bool false) (h : AW P LT ext i b ρ lo st Q) : AW P LT ext i (.cond c a b) ρ lo st Q := AW.cond hx (fun h => by cases h) (fun _ => h)
section
variable {ls : List Tmp} {ops : Array Oper} {n0 : Nat → Prop} {j : Nat} {o : Oper} {os : List Oper} {R : Tm → Lo → St → Prop}
theorem AN.op {v : Value} {lo' : Lo} {st' : St} (hg : aguard ops ρ o = some true) (hs : aoper P ls (fun _ _ _ => none) o (ev ρ) lo st = some (v,lo',st'))
  (h : AO P LT ext ls ops n0 noFl noFl os (j + 1) (Tm.putO ρ o.dst v) lo' st' R) : AO P LT ext ls ops n0 noFl noFl (o :: os) j ρ lo st R :=
 AO.op hg hs (fun h => by cases h) (fun h => by cases h) h
theorem AN.call {c : Call} {f : Operand} {g : FuncId} {args : List Value} {S : Value → St → Prop} (hg : aguard ops ρ o = some true) (ho : o.op = .call c) (hc : c.callee = .value f) (hev : ev ρ f = .func (.func g) #[] #[]) (ha : c.args.toList.map (ev ρ) = args)
  (hcall : AC P LT ext g args st S)
  (h : ∀ v s,S v s → AO P LT ext ls ops n0 noFl noFl os (j + 1) (Tm.putO ρ o.dst v) lo s R) : AO P LT ext ls ops n0 noFl noFl (o :: os) j ρ lo st R := by
 obtain ⟨d,op,ty,pos,after,gd⟩ := o
 simp only at ho
 subst ho ha
 exact AO.call hg hc hev hcall (fun h => by cases h) h
end
theorem AC.enter' {f : FuncId} {args : List Value} {R : Value → St → Prop} {fn : Func} {c : Code} {i : FInfo} {n : Nat} {rs : List ResultVar} (hf : P.funcs[f]? = some fn) (hb : fn.body = some c) (hi : LT f = i) (hok : fnOk P i fn c = true) (hn : fn.ntmps = n) (hl : args.length ≤ n) (hr : fn.results.toList = rs)
  (h : AW P LT ext i (reC i.mv c) (ov (i.V.map fun t => (t,args.getD t undef)) und) lo0 st (fun e ρ lo st' => (e = .ret ∨ e = .normal) ∧ ∃ vs,aresL P ρ lo st' rs = some vs ∧ R (aret vs) st')) : AC P LT ext f args st R := by
 subst hn hr
 exact AC.enter hf hb hi hok hl (by rw [enter_ov]; exact h)
end
def sw (P : Program) (LT : FuncId → FInfo) (ext : String → List Value → St → Option (Value × St)) (ls : List Tmp) (o : Oper) (e : Operand → Value) (lo : Lo) (st : St) (K : Value → Lo → St → Prop) : Prop := match o.op with
 | .move x | .assign x => K (e x) lo st
 | .binOp .eql t x y _ => ∃ b,abin P .eql t (e x) (e y) = some (.bool b) ∧ ∀ c,b = c → K (.bool c) lo st
 | .binOp .neq t x y _ => ∃ b,abin P .neq t (e x) (e y) = some (.bool b) ∧ ∀ c,b = c → K (.bool c) lo st
 | .binOp .lss t x y _ => ∃ b,abin P .lss t (e x) (e y) = some (.bool b) ∧ ∀ c,b = c → K (.bool c) lo st
 | .binOp .leq t x y _ => ∃ b,abin P .leq t (e x) (e y) = some (.bool b) ∧ ∀ c,b = c → K (.bool c) lo st
 | .binOp .gtr t x y _ => ∃ b,abin P .gtr t (e x) (e y) = some (.bool b) ∧ ∀ c,b = c → K (.bool c) lo st
 | .binOp .geq t x y _ => ∃ b,abin P .geq t (e x) (e y) = some (.bool b) ∧ ∀ c,b = c → K (.bool c) lo st
 | .call c => match c.callee with
  | .value f => ∃ g,e f = .func (.func g) #[] #[] ∧ AC P LT ext g (c.args.toList.map e) st (fun v s => K v lo s)
  | .builtin .append => ∃ r,aappend P c e lo st = some r ∧ K r.1 r.2.1 r.2.2
  | .builtin .len => ∃ v,(c.argTypes.toList.head?.bind fun t => c.args.toList.head?.bind fun x => alen P t (e x)) = some v ∧ K v lo st
  | .builtin .max => ∃ v,ammL true (c.args.toList.map e) = some v ∧ K v lo st
  | .builtin .min => ∃ v,ammL false (c.args.toList.map e) = some v ∧ K v lo st
  | _ => ∃ v,rop P o.op e (rdB lo st) = some v ∧ K v lo st
 | _ => ∃ r,aoper P ls (fun _ _ _ => none) o e lo st = some r ∧ K r.1 r.2.1 r.2.2
def ow (P : Program) (LT : FuncId → FInfo) (ext : String → List Value → St → Option (Value × St)) (ls : List Tmp) (ops : Array Oper) : List Oper → Tm → Lo → St → (Tm → Lo → St → Prop) → Prop
 | [],ρ,lo,st,K => K ρ lo st
 | o :: os,ρ,lo,st,K => match aguard ops ρ o with
  | some true => sw P LT ext ls o (ev ρ) lo st (fun v lo' st' => ow P LT ext ls ops os (Tm.putO ρ o.dst v) lo' st' K)
  | some false => ow P LT ext ls ops os (Tm.putO ρ o.dst skipV) lo st K
  | none => False
def owD (P : Program) (LT : FuncId → FInfo) (ext : String → List Value → St → Option (Value × St)) (ls : List Tmp) (ops : Array Oper) (n0 : Nat → Prop) : List Oper → Nat → Tm → Lo → St → (Tm → Lo → St → Prop) → Prop
 | [],_,ρ,lo,st,K => K ρ lo st
 | o :: os,j,ρ,lo,st,K => match aguard ops ρ o with
  | some true => sw P LT ext ls o (ev ρ) lo st (fun v lo' st' => match flOf P ops j with
    | true => flChk n0 ops j o.op (ev ρ) st st' ∧ owD P LT ext ls ops n0 os (j + 1) (Tm.putO ρ o.dst v) lo' st' K
    | false => match ldOf P ops j with
     | true => ldChk n0 o.op (ev ρ) ∧ owD P LT ext ls ops n0 os (j + 1) (Tm.putO ρ o.dst v) lo' st' K
     | false => owD P LT ext ls ops n0 os (j + 1) (Tm.putO ρ o.dst v) lo' st' K)
  | some false => owD P LT ext ls ops n0 os (j + 1) (Tm.putO ρ o.dst skipV) lo st K
  | none => False
def cw (P : Program) (LT : FuncId → FInfo) (ext : String → List Value → St → Option (Value × St)) (i : FInfo) : Code → Tm → Lo → St → (Exit → Tm → Lo → St → Prop) → Prop
 | .skip,ρ,lo,st,K => K .normal ρ lo st
 | .region _ ops false,ρ,lo,st,K => ow P LT ext i.ls ops ops.toList ρ lo st (fun ρ' lo' st' => K .normal (ov (i.V.map fun t => (t,ρ' t)) und) lo' st')
 | .region _ ops true,ρ,lo,st,K => owD P LT ext i.ls ops (· < st.next) ops.toList 0 ρ lo st (fun ρ' lo' st' => K .normal (ov (i.V.map fun t => (t,ρ' t)) und) lo' st')
 | .seq a b,ρ,lo,st,K => cw P LT ext i a ρ lo st (eThen (fun ρ' lo' st' => cw P LT ext i b ρ' lo' st' K) K)
 | .cond c a b,ρ,lo,st,K => match ev ρ c with
  | .bool true => cw P LT ext i a ρ lo st K
  | .bool false => cw P LT ext i b ρ lo st K
  | _ => False
 | .block id c,ρ,lo,st,K => cw P LT ext i c ρ lo st (eBlock id K)
 | .loop c,ρ,lo,st,K => AW P LT ext i (.loop c) ρ lo st K
 | .exit id,ρ,lo,st,K => K (.exit id) ρ lo st
 | .ret,ρ,lo,st,K => K .ret ρ lo st
 | _,_,_,_,_ => False
section
variable {P : Program} {LT : FuncId → FInfo} {ext : String → List Value → St → Option (Value × St)} {i : FInfo}
theorem sw_step {ls : List Tmp} {ops : Array Oper} {n0 : Nat → Prop} {fl ld : Nat → Bool} {j : Nat} {o : Oper} {os : List Oper} {ρ : Tm} {lo : Lo} {st : St} {R : Tm → Lo → St → Prop} {K : Value → Lo → St → Prop} (hg : aguard ops ρ o = some true) (hs : sw P LT ext ls o (ev ρ) lo st K)
  (hf : fl j = true → ∀ v lo' st',K v lo' st' → flChk n0 ops j o.op (ev ρ) st st') (hl : ld j = true → ∀ v lo' st',K v lo' st' → ldChk n0 o.op (ev ρ))
  (h : ∀ v lo' st',K v lo' st' → AO P LT ext ls ops n0 fl ld os (j + 1) (Tm.putO ρ o.dst v) lo' st' R) : AO P LT ext ls ops n0 fl ld (o :: os) j ρ lo st R := by
 have base : ∀ (r : Value × Lo × St),aoper P ls (fun _ _ _ => none) o (ev ρ) lo st = some r → K r.1 r.2.1 r.2.2 → AO P LT ext ls ops n0 fl ld (o :: os) j ρ lo st R := by
  rintro ⟨v,lo',st'⟩ h1 h2
  exact AO.op hg h1 (fun hx => hf hx v lo' st' h2) (fun hx => hl hx v lo' st' h2) (h v lo' st' h2)
 obtain ⟨d,op,ty,pos,after,gd⟩ := o
 unfold sw at hs
 simp only at hs
 split at hs
 ·exact base (_,lo,st) rfl hs
 ·exact base (_,lo,st) rfl hs
 iterate 6
  ·obtain ⟨b,hb,hK⟩ := hs
   exact base (.bool b,lo,st) (by simp only [aoper,rop,hb]; rfl) (hK b rfl)
 ·rename_i c
  split at hs
  ·rename_i f hcal
   obtain ⟨g,hev,hC⟩ := hs
   exact AO.call hg hcal hev hC (fun hx v s hk => hf hx v lo s hk) (fun v s hk => h v lo s hk)
  ·rename_i hcal
   obtain ⟨r,hr,hK⟩ := hs
   exact base r (by simp only [aoper,hcal]; exact hr) hK
  ·rename_i hcal
   obtain ⟨v,hv,hK⟩ := hs
   refine base (v,lo,st) ?_ hK
   obtain ⟨t,ht,hv⟩ := Option.bind_eq_some_iff.1 hv
   obtain ⟨x,hx,hv⟩ := Option.bind_eq_some_iff.1 hv
   have h1 : c.argTypes[0]? = some t := by rw [← Array.getElem?_toList,← List.head?_eq_getElem?]; exact ht
   have h2 : (c.args.map (ev ρ))[0]? = some (ev ρ x) := by rw [Array.getElem?_map,← Array.getElem?_toList,← List.head?_eq_getElem?,hx]; rfl
   simp only [aoper,hcal,rop,h1,h2,hv]; rfl
  ·rename_i hcal
   obtain ⟨v,hv,hK⟩ := hs
   exact base (v,lo,st) (by simp only [aoper,hcal,rop,Array.toList_map,hv]; rfl) hK
  ·rename_i hcal
   obtain ⟨v,hv,hK⟩ := hs
   exact base (v,lo,st) (by simp only [aoper,hcal,rop,Array.toList_map,hv]; rfl) hK
  ·rename_i h1 h2 h3 h4 h5
   obtain ⟨v,hv,hK⟩ := hs
   refine base (v,lo,st) ?_ hK
   simp only [aoper]
   cases hcal : c.callee with
   | value f => exact absurd hcal (h1 f)
   | invoke a b => simp only [hv]; rfl
   | builtin b => cases b <;> first | (simp only [hv]; rfl) | exact absurd hcal h2
 ·obtain ⟨r,hr,hK⟩ := hs
  exact base r hr hK
theorem ow_sound {ls : List Tmp} {ops : Array Oper} {n0 : Nat → Prop} {R : Tm → Lo → St → Prop} : ∀ (os : List Oper) (j : Nat) (ρ : Tm) (lo : Lo) (st : St),ow P LT ext ls ops os ρ lo st R → AO P LT ext ls ops n0 noFl noFl os j ρ lo st R := by
 intro os
 induction os with
 | nil => intro j ρ lo st h; exact AO.nil h
 | cons o os ih =>
  intro j ρ lo st h
  unfold ow at h
  split at h
  ·rename_i hg
   exact sw_step hg h (fun h => by cases h) (fun h => by cases h) (fun v lo' st' hk => ih _ _ _ _ hk)
  ·rename_i hg
   exact AO.off hg (ih _ _ _ _ h)
  ·exact h.elim
theorem owD_sound {ls : List Tmp} {ops : Array Oper} {n0 : Nat → Prop} {R : Tm → Lo → St → Prop} : ∀ (os : List Oper) (j : Nat) (ρ : Tm) (lo : Lo) (st : St),owD P LT ext ls ops n0 os j ρ lo st R → AO P LT ext ls ops n0 (flOf P ops) (ldOf P ops) os j ρ lo st R := by
 intro os
 induction os with
 | nil => intro j ρ lo st h; exact AO.nil h
 | cons o os ih =>
  intro j ρ lo st h
  unfold owD at h
  split at h
  ·rename_i hg
   refine sw_step hg h (fun hf v lo' st' hk => ?_) (fun hl v lo' st' hk => ?_) (fun v lo' st' hk => ?_)
   ·rw [hf] at hk; exact hk.1
   ·split at hk
    ·rename_i hf
     exfalso
     unfold flOf at hf
     unfold ldOf at hl
     cases hj : ops[j]? with
     | none => rw [hj] at hf; cases hf
     | some u =>
      rw [hj] at hf hl
      simp only [Bool.or_eq_true,Bool.and_eq_true] at hf hl
      have h2 := hl.1
      have h1 : isCall u.op = true ∨ isSt u.op = true := hf.imp (·.1) (·.1)
      cases u with
      | mk d op ty pos after gd =>
       cases op <;> simp_all [isCall,isRd,readsMem,isE,isSt]
    ·rw [hl] at hk; exact hk.1
   ·split at hk
    ·exact ih _ _ _ _ hk.2
    ·split at hk
     ·exact ih _ _ _ _ hk.2
     ·exact ih _ _ _ _ hk
  ·rename_i hg
   exact AO.off hg (ih _ _ _ _ h)
  ·exact h.elim
theorem cw_sound : ∀ (c : Code) (ρ : Tm) (lo : Lo) (st : St) (K : Exit → Tm → Lo → St → Prop),cw P LT ext i c ρ lo st K → AW P LT ext i c ρ lo st K
 | .skip,ρ,lo,st,K,h => AW.skip h
 | .region _ ops false,ρ,lo,st,K,h => AW.regionN (n0 := fun _ => False) (ow_sound _ _ _ _ _ h)
 | .region _ ops true,ρ,lo,st,K,h => AW.regionD (owD_sound _ _ _ _ _ h)
 | .seq a b,ρ,lo,st,K,h => by
  refine AW.seq ((cw_sound a ρ lo st _ h).mono fun e r l s hk => ?_)
  cases e
  case normal => exact cw_sound b r l s K hk
  all_goals exact hk
 | .cond c a b,ρ,lo,st,K,h => by
  unfold cw at h
  split at h
  ·rename_i hx; exact AW.condT hx (cw_sound a ρ lo st K h)
  ·rename_i hx; exact AW.condF hx (cw_sound b ρ lo st K h)
  ·exact h.elim
 | .block id c,ρ,lo,st,K,h => AW.block (cw_sound c ρ lo st _ h)
 | .loop c,ρ,lo,st,K,h => h
 | .exit id,ρ,lo,st,K,h => AW.exit h
 | .ret,ρ,lo,st,K,h => AW.ret h
end
end Go.Proofs.YteabadoaeadcgaaDoor.AM
