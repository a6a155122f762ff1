/- A part of the machine on which the law's proof rests. -/
import Derived.Test.YteabadoaeadcgaaDoorXpA8
namespace Go.Proofs.YteabadoaeadcgaaDoor.AM
open Go Go.RowKit
set_option linter.unusedVariables false
set_option linter.unusedSimpArgs false
def CLe (c c' : ACallT) : Prop := ∀ f a s r,c f a s = some r → c' f a s = some r
section
variable {P : Program} {LT : FuncId → FInfo} {ext : String → List Value → St → Option (Value × St)}
theorem aoper_mono {ls : List Tmp} {c c' : ACallT} (hc : CLe c c') {o : Oper} {e : Operand → Value} {lo : Lo} {st : St} {r : Value × Lo × St} (h : aoper P ls c o e lo st = some r) : aoper P ls c' o e lo st = some r := by
 obtain ⟨dst,op,type,pos,after,guard⟩ := o
 cases op <;> try exact h
 rename_i cl
 simp only [aoper] at h ⊢
 split at h
 ·rename_i f hf
  split at h
  ·rename_i g fs cs he
   split at h
   ·rename_i hz
    rw [if_pos hz]
    obtain ⟨u,hu,hr⟩ := Option.map_eq_some_iff.1 h
    rw [hc _ _ _ _ hu]
    simp [hr]
   ·cases h
  ·cases h
 ·exact h
 ·rename_i h1 h2
  cases hcal : cl.callee with
  | value f => exact absurd hcal (h1 f)
  | invoke a b => exact h
  | builtin b => cases b <;> first | exact h | exact absurd hcal h2
theorem aops_mono {ls : List Tmp} {c c' : ACallT} (hc : CLe c c') {ops : Array Oper} {n0 : Nat → Prop} {fl ld : Nat → Bool} {r : Tm × Lo × St} : ∀ (os : List Oper) (i : Nat) (ρ : Tm) (lo : Lo) (st : St),aops P ls c ops n0 fl ld os i ρ lo st = some r → aops P ls c' ops n0 fl ld os i ρ lo st = some r := by
 intro os
 induction os with
 | nil => intro i ρ lo st h; exact h
 | cons o os ih =>
  intro i ρ lo st h
  unfold aops at h ⊢
  split at h
  ·rename_i hg
   split at h
   ·rename_i v lo1 st1 ho
    rw [aoper_mono hc ho]
    simp only
    split at h
    ·rename_i hcnd
     rw [if_pos hcnd]
     exact ih _ _ _ _ h
    ·cases h
   ·cases h
  ·exact ih _ _ _ _ h
  ·cases h
theorem acode_mono {i : FInfo} {c c' : ACallT} (hc : CLe c c') : ∀ (k k' : Nat),k ≤ k' → ∀ (x : Code) (ρ : Tm) (lo : Lo) (st : St) (r : Exit × Tm × Lo × St),acode P i c k x ρ lo st = some r → acode P i c' k' x ρ lo st = some r := by
 intro k
 induction k with
 | zero => intro k' _ x ρ lo st r h; simp [acode] at h
 | succ k ih =>
  intro k' hk x ρ lo st r h
  obtain ⟨j,rfl⟩ : ∃ j,k' = j + 1 := ⟨k' - 1,by omega⟩
  have hj : k ≤ j := by omega
  cases x with
  | skip => exact h
  | ret => exact h
  | exit id => exact h
  | region id ops draw =>
   simp only [acode] at h ⊢
   obtain ⟨u,hu,hr⟩ := Option.map_eq_some_iff.1 h
   obtain ⟨n0,hu⟩ := aany_get hu
   rw [aany_of (aops_mono hc _ _ _ _ _ hu)]
   simp [hr]
  | seq a b =>
   simp only [acode] at h ⊢
   split at h
   ·rename_i ρ1 lo1 st1 ha
    rw [ih j hj _ _ _ _ _ ha]
    exact ih j hj _ _ _ _ _ h
   ·rename_i hne
    rw [ih j hj _ _ _ _ _ h]
    obtain ⟨e,ρ1,lo1,st1⟩ := r
    cases e <;> first | rfl | exact absurd h (hne _ _ _)
  | cond o a b =>
   simp only [acode] at h ⊢
   split at h
   ·exact ih j hj _ _ _ _ _ h
   ·exact ih j hj _ _ _ _ _ h
   ·cases h
  | block id a =>
   simp only [acode] at h ⊢
   split at h
   ·rename_i id' ρ1 lo1 st1 ha
    rw [ih j hj _ _ _ _ _ ha]
    exact h
   ·rename_i hne
    rw [ih j hj _ _ _ _ _ h]
    obtain ⟨e,ρ1,lo1,st1⟩ := r
    cases e <;> first | rfl | exact absurd h (hne _ _ _ _)
  | loop a =>
   simp only [acode] at h ⊢
   split at h
   ·rename_i ρ1 lo1 st1 ha
    rw [ih j hj _ _ _ _ _ ha]
    exact ih j hj _ _ _ _ _ h
   ·rename_i hne
    rw [ih j hj _ _ _ _ _ h]
    obtain ⟨e,ρ1,lo1,st1⟩ := r
    cases e <;> first | rfl | exact absurd h (hne _ _ _)
  | _ => simp [acode] at h
theorem acall_eq (k : Nat) (f : FuncId) (args : List Value) (st : St) : acall P LT ext (k + 1) f args st = match P.funcs[f]? with
  | none => none
  | some fn => match fn.body with
   | none => ext fn.name args st
   | some c => if fnOk P (LT f) fn c = true ∧ args.length ≤ fn.ntmps then
     match acode P (LT f) (acall P LT ext k) k (reC (LT f).mv c) (enter (LT f).V args) lo0 st with
     | some (.ret,ρ,lo,st') => (aresL P ρ lo st' fn.results.toList).map fun vs => (aret vs,st')
     | some (.normal,ρ,lo,st') => (aresL P ρ lo st' fn.results.toList).map fun vs => (aret vs,st')
     | _ => none
    else if fn.name = "runtime.NumGoroutine" then none else ext fn.name args st := rfl
theorem acall_succ : ∀ k,CLe (acall P LT ext k) (acall P LT ext (k + 1)) := by
 intro k
 induction k with
 | zero => intro f a s r h; simp [acall] at h
 | succ k ih =>
  intro f a s r h
  rw [acall_eq] at h ⊢
  split at h
  ·cases h
  ·rename_i fn hf
   split at h
   ·exact h
   ·rename_i c hb
    split at h
    ·rename_i hok
     rw [if_pos hok]
     split at h
     ·rename_i ρ1 lo1 st1 hc
      rw [acode_mono ih k (k + 1) (Nat.le_succ _) _ _ _ _ _ hc]
      exact h
     ·rename_i ρ1 lo1 st1 hc
      rw [acode_mono ih k (k + 1) (Nat.le_succ _) _ _ _ _ _ hc]
      exact h
     ·cases h
    ·rename_i hok
     rw [if_neg hok]
     exact h
theorem acall_mono {k k' : Nat} (h : k ≤ k') : CLe (acall P LT ext k) (acall P LT ext k') := by
 induction h with
 | refl => exact fun _ _ _ _ h => h
 | step _ ih => exact fun f a s r h => acall_succ _ f a s r (ih f a s r h)
end
def eThen (K : Tm → Lo → St → Prop) (Q : Exit → Tm → Lo → St → Prop) : Exit → Tm → Lo → St → Prop
 | .normal => K
 | e => Q e
def eBlock (id : Nat) (Q : Exit → Tm → Lo → St → Prop) : Exit → Tm → Lo → St → Prop
 | .exit id' => if id' = id then Q .normal else Q (.exit id')
 | e => Q e
inductive AC (P : Program) (LT : FuncId → FInfo) (ext : String → List Value → St → Option (Value × St)) (f : FuncId) (args : List Value) (st : St) (R : Value → St → Prop) : Prop
 | intro (k : Nat) (v : Value) (st' : St) (h : acall P LT ext k f args st = some (v,st')) (hR : R v st') : AC P LT ext f args st R
inductive AW (P : Program) (LT : FuncId → FInfo) (ext : String → List Value → St → Option (Value × St)) (i : FInfo) (c : Code) (ρ : Tm) (lo : Lo) (st : St) (Q : Exit → Tm → Lo → St → Prop) : Prop
 | intro (k : Nat) (e : Exit) (ρ' : Tm) (lo' : Lo) (st' : St) (h : acode P i (acall P LT ext k) k c ρ lo st = some (e,ρ',lo',st')) (hQ : Q e ρ' lo' st') : AW P LT ext i c ρ lo st Q
inductive AO (P : Program) (LT : FuncId → FInfo) (ext : String → List Value → St → Option (Value × St)) (ls : List Tmp) (ops : Array Oper) (n0 : Nat → Prop) (fl ld : Nat → Bool) (os : List Oper) (j : Nat) (ρ : Tm) (lo : Lo) (st : St) (R : Tm → Lo → St → Prop) : Prop
 | intro (k : Nat) (ρ' : Tm) (lo' : Lo) (st' : St) (h : aops P ls (acall P LT ext k) ops n0 fl ld os j ρ lo st = some (ρ',lo',st')) (hR : R ρ' lo' st') : AO P LT ext ls ops n0 fl ld os j ρ lo st R
section
variable {P : Program} {LT : FuncId → FInfo} {ext : String → List Value → St → Option (Value × St)} {i : FInfo} {ρ : Tm} {lo : Lo} {st : St} {Q : Exit → Tm → Lo → St → Prop}
theorem AC.mono {f : FuncId} {args : List Value} {R R' : Value → St → Prop} (h : AC P LT ext f args st R) (hR : ∀ v s,R v s → R' v s) : AC P LT ext f args st R' :=
 let ⟨k,v,s,h1,h2⟩ := h; ⟨k,v,s,h1,hR v s h2⟩
theorem AW.mono {c : Code} {Q' : Exit → Tm → Lo → St → Prop} (h : AW P LT ext i c ρ lo st Q) (hQ : ∀ e r l s,Q e r l s → Q' e r l s) : AW P LT ext i c ρ lo st Q' :=
 let ⟨k,e,r,l,s,h1,h2⟩ := h; ⟨k,e,r,l,s,h1,hQ e r l s h2⟩
theorem AW.skip (h : Q .normal ρ lo st) : AW P LT ext i .skip ρ lo st Q := ⟨1,_,_,_,_,rfl,h⟩
theorem AW.ret (h : Q .ret ρ lo st) : AW P LT ext i .ret ρ lo st Q := ⟨1,_,_,_,_,rfl,h⟩
theorem AW.exit {id : Nat} (h : Q (.exit id) ρ lo st) : AW P LT ext i (.exit id) ρ lo st Q := ⟨1,_,_,_,_,rfl,h⟩
theorem AW.seq {a b : Code} (h : AW P LT ext i a ρ lo st (eThen (fun ρ' lo' st' => AW P LT ext i b ρ' lo' st' Q) Q)) : AW P LT ext i (.seq a b) ρ lo st Q := by
 obtain ⟨k,e,r,l,s,h1,h2⟩ := h
 cases e
 case normal =>
  obtain ⟨k2,e2,r2,l2,s2,h3,h4⟩ := h2
  refine ⟨max k k2 + 1,e2,r2,l2,s2,?_,h4⟩
  simp only [acode]
  rw [acode_mono (acall_mono (show k ≤ max k k2 + 1 by omega)) k (max k k2) (by omega) _ _ _ _ _ h1]
  exact acode_mono (acall_mono (show k2 ≤ max k k2 + 1 by omega)) k2 (max k k2) (by omega) _ _ _ _ _ h3
 all_goals
  refine ⟨k + 1,_,r,l,s,?_,h2⟩
  simp only [acode]
  rw [acode_mono (acall_succ k) k k (Nat.le_refl _) _ _ _ _ _ h1]
theorem AW.cond {c : Operand} {a b : Code} {x : Bool} (hx : ev ρ c = .bool x) (ht : x = true → AW P LT ext i a ρ lo st Q) (hf : x = false → AW P LT ext i b ρ lo st Q) : AW P LT ext i (.cond c a b) ρ lo st Q := by
 cases x with
 | true =>
  obtain ⟨k,e,r,l,s,h1,h2⟩ := ht rfl
  exact ⟨k + 1,e,r,l,s,by simp only [acode,hx]; exact acode_mono (acall_succ k) k k (Nat.le_refl _) _ _ _ _ _ h1,h2⟩
 | false =>
  obtain ⟨k,e,r,l,s,h1,h2⟩ := hf rfl
  exact ⟨k + 1,e,r,l,s,by simp only [acode,hx]; exact acode_mono (acall_succ k) k k (Nat.le_refl _) _ _ _ _ _ h1,h2⟩
theorem AW.block {id : Nat} {c : Code} (h : AW P LT ext i c ρ lo st (eBlock id Q)) : AW P LT ext i (.block id c) ρ lo st Q := by
 obtain ⟨k,e,r,l,s,h1,h2⟩ := h
 have h3 := acode_mono (P := P) (acall_succ (P := P) (LT := LT) (ext := ext) k) k k (Nat.le_refl _) _ _ _ _ _ h1
 cases e
 case exit id' =>
  simp only [eBlock] at h2
  by_cases he : id' = id
  ·rw [if_pos he] at h2
   exact ⟨k + 1,.normal,r,l,s,by simp only [acode,h3]; rw [if_pos he],h2⟩
  ·rw [if_neg he] at h2
   exact ⟨k + 1,.exit id',r,l,s,by simp only [acode,h3]; rw [if_neg he],h2⟩
 all_goals exact ⟨k + 1,_,r,l,s,by simp only [acode,h3],h2⟩
theorem AW.loop {c : Code} (I : Nat → Tm → Lo → St → Prop) {n : Nat} (h0 : I n ρ lo st)
  (hs : ∀ m ρ lo st,I m ρ lo st → AW P LT ext i c ρ lo st (eThen (fun ρ' lo' st' => ∃ m',m' < m ∧ I m' ρ' lo' st') Q)) : AW P LT ext i (.loop c) ρ lo st Q := by
 induction n using Nat.strongRecOn generalizing ρ lo st with
 | _ n ih =>
  obtain ⟨k,e,r,l,s,h1,h2⟩ := hs n ρ lo st h0
  cases e
  case normal =>
   obtain ⟨m',hm,hI⟩ := h2
   obtain ⟨k2,e2,r2,l2,s2,h3,h4⟩ := ih m' hm hI
   refine ⟨max k k2 + 1,e2,r2,l2,s2,?_,h4⟩
   simp only [acode]
   rw [acode_mono (acall_mono (show k ≤ max k k2 + 1 by omega)) k (max k k2) (by omega) _ _ _ _ _ h1]
   exact acode_mono (acall_mono (show k2 ≤ max k k2 + 1 by omega)) k2 (max k k2) (by omega) _ _ _ _ _ h3
  all_goals
   refine ⟨k + 1,_,r,l,s,?_,h2⟩
   simp only [acode]
   rw [acode_mono (acall_succ k) k k (Nat.le_refl _) _ _ _ _ _ h1]
theorem AW.region {id : Nat} {ops : Array Oper} {draw : Bool} {n0 : Nat → Prop} (h : AO P LT ext i.ls ops n0 (if draw then flOf P ops else noFl) (if draw then ldOf P ops else noFl) ops.toList 0 ρ lo st (fun ρ' lo' st' => Q .normal (keep i.V ρ') lo' st')) : AW P LT ext i (.region id ops draw) ρ lo st Q := by
 obtain ⟨k,r,l,s,h1,h2⟩ := h
 refine ⟨k + 1,.normal,keep i.V r,l,s,?_,h2⟩
 simp only [acode]
 rw [aany_of (aops_mono (acall_succ k) _ _ _ _ _ h1)]
 rfl
section
variable {ls : List Tmp} {ops : Array Oper} {n0 : Nat → Prop} {fl ld : Nat → Bool} {j : Nat} {o : Oper} {os : List Oper} {R : Tm → Lo → St → Prop}
theorem AO.nil (h : R ρ lo st) : AO P LT ext ls ops n0 fl ld [] j ρ lo st R := ⟨0,_,_,_,rfl,h⟩
theorem AO.off (hg : aguard ops ρ o = some false) (h : AO P LT ext ls ops n0 fl ld os (j + 1) (Tm.putO ρ o.dst skipV) lo st R) : AO P LT ext ls ops n0 fl ld (o :: os) j ρ lo st R := by
 obtain ⟨k,r,l,s,h1,h2⟩ := h
 exact ⟨k,r,l,s,by unfold aops; rw [hg]; exact h1,h2⟩
theorem AO.op {v : Value} {lo' : Lo} {st' : St} (hg : aguard ops ρ o = some true) (hs : aoper P ls (fun _ _ _ => none) o (ev ρ) lo st = some (v,lo',st'))
  (hf : fl j = true → flChk n0 ops j o.op (ev ρ) st st') (hl : ld j = true → ldChk n0 o.op (ev ρ))
  (h : AO P LT ext ls ops n0 fl ld os (j + 1) (Tm.putO ρ o.dst v) lo' st' R) : AO P LT ext ls ops n0 fl ld (o :: os) j ρ lo st R := by
 obtain ⟨k,r,l,s,h1,h2⟩ := h
 refine ⟨k,r,l,s,?_,h2⟩
 unfold aops
 rw [hg]
 simp only
 rw [aoper_mono (c' := acall P LT ext k) (fun _ _ _ _ h => by cases h) hs]
 simp only
 rw [if_pos ⟨hf,hl⟩]
 exact h1
theorem AO.call {d : Option Tmp} {c : Call} {ty : TypeId} {pos : String} {after : Array Edge} {gd : Option (Nat × Bool)} {f : Operand} {g : FuncId} {S : Value → St → Prop} (hg : aguard ops ρ ⟨d,.call c,ty,pos,after,gd⟩ = some true) (hc : c.callee = .value f) (hev : ev ρ f = .func (.func g) #[] #[])
  (hcall : AC P LT ext g (c.args.toList.map (ev ρ)) st S) (hf : fl j = true → ∀ v s,S v s → ∀ a,n0 a → s.mem a = st.mem a)
  (h : ∀ v s,S v s → AO P LT ext ls ops n0 fl ld os (j + 1) (Tm.putO ρ d v) lo s R) : AO P LT ext ls ops n0 fl ld (⟨d,.call c,ty,pos,after,gd⟩ :: os) j ρ lo st R := by
 obtain ⟨k1,v,s,h1,hS⟩ := hcall
 obtain ⟨k2,r,l,s2,h2,hR⟩ := h v s hS
 refine ⟨max k1 k2,r,l,s2,?_,hR⟩
 unfold aops
 rw [hg]
 simp only
 have : aoper P ls (acall P LT ext (max k1 k2)) ⟨d,.call c,ty,pos,after,gd⟩ (ev ρ) lo st = some (v,lo,s) := by
  simp only [aoper,hc,hev]
  rw [if_pos ⟨rfl,rfl⟩,acall_mono (show k1 ≤ max k1 k2 by omega) _ _ _ _ h1]
  rfl
 rw [this]
 simp only
 rw [if_pos ⟨fun hx => hf hx v s hS,fun _ t x hx => by cases hx⟩]
 exact aops_mono (acall_mono (by omega)) _ _ _ _ _ h2
end
theorem AC.enter {f : FuncId} {args : List Value} {R : Value → St → Prop} {fn : Func} {c : Code} {i : FInfo} (hf : P.funcs[f]? = some fn) (hb : fn.body = some c) (hi : LT f = i) (hok : fnOk P i fn c = true) (hn : args.length ≤ fn.ntmps)
  (h : AW P LT ext i (reC i.mv c) (enter i.V args) lo0 st (fun e ρ lo st' => (e = .ret ∨ e = .normal) ∧ ∃ vs,aresL P ρ lo st' fn.results.toList = some vs ∧ R (aret vs) st')) : AC P LT ext f args st R := by
 subst hi
 obtain ⟨k,e,r,l,s,h1,he,vs,hv,hR⟩ := h
 refine ⟨k + 1,aret vs,s,?_,hR⟩
 simp only [acall,hf,hb]
 rw [if_pos ⟨hok,hn⟩,h1]
 rcases he with rfl | rfl <;> simp [hv]
end
end Go.Proofs.YteabadoaeadcgaaDoor.AM
