/- A part of the machine on which the law's proof rests. -/
import Derived.Test.YteabadoaeadcgaaDoorXpA11
namespace Go.Proofs.YteabadoaeadcgaaDoor.AM
open Go Go.RowKit
set_option linter.unusedVariables false
set_option linter.unusedSimpArgs false
abbrev DD := List (Nat × List Nat × List Nat)
def dFl (D : DD) (id : Nat) : List Nat := match D with
 | [] => []
 | (j,a,b) :: l => if id = j then a else dFl l id
def dLd (D : DD) (id : Nat) : List Nat := match D with
 | [] => []
 | (j,a,b) :: l => if id = j then b else dLd l id
def flE (n0 : Nat → Prop) (sx : List Nat) (o : Op) (e : Operand → Value) (st st' : St) : Prop := match o with
 | .store _ y _ => ∀ x ∈ sx,∃ p q g,e (.tmp x) = .pointer (some p) ∧ e y = .pointer (some q) ∧ q.spot = some g ∧ ¬ q.block = p.block
 | _ => ∀ a,n0 a → st'.mem a = st.mem a
def sxOk (ops : Array Oper) (sx : List Nat) : Bool :=
 ops.toList.zipIdx.all fun (y,j) => !isSt y.op || ops.toList.zipIdx.all fun (x,k) => !(isLoad x.op && decide (k < j) && free (Region.before ops) k j) || (match x.op with | .load _ (.tmp a) => sx.contains a | _ => false)
theorem sx_get {ops : Array Oper} {sx : List Nat} (h : sxOk ops sx = true) {j k : Nat} {x y : Oper} {t : TypeId} {u : Operand} (hy : ops[j]? = some y) (hs : isSt y.op = true) (hx : ops[k]? = some x) (hl : x.op = .load t u) (hk : k < j) (hf : free (Region.before ops) k j = true) : ∃ a,u = .tmp a ∧ a ∈ sx := by
 unfold sxOk at h
 rw [List.all_eq_true] at h
 have h1 := h (y,j) (by rw [List.mem_zipIdx_iff_getElem?]; simpa using hy)
 simp only [hs,Bool.not_true,Bool.false_or,List.all_eq_true] at h1
 have h2 := h1 (x,k) (by rw [List.mem_zipIdx_iff_getElem?]; simpa using hx)
 simp only [hl,isLoad,hk,decide_true,hf,Bool.and_self,Bool.not_true,Bool.false_or] at h2
 split at h2
 ·rename_i a he
  injection he with _ he
  exact ⟨a,he,by simpa using h2⟩
 ·cases h2
theorem flE_chk {n0 : Nat → Prop} {j : Nat} {ops : Array Oper} {sx : List Nat} {o : Oper} {e : Operand → Value} {st st' : St} (h : sxOk ops sx = true) (ho : ops[j]? = some o) (hk : flE n0 sx o.op e st st') : flChk n0 ops j o.op e st st' := by
 cases hop : o.op
 case store t y v =>
  rw [hop] at hk
  intro k x t' u hx hl hkj hf
  obtain ⟨a,rfl,ha⟩ := sx_get h ho (by rw [hop]; rfl) hx hl hkj hf
  exact hk a ha
 all_goals (rw [hop] at hk; exact hk)
def flagsAt (P : Program) (ops : Array Oper) (fl ld : List Nat) : Bool :=
 (List.range ops.size).all (fun j => flOf P ops j == fl.contains j && ldOf P ops j == ld.contains j) && fl.all (fun j => decide (j < ops.size)) && ld.all (fun j => decide (j < ops.size))
def flagsOk (P : Program) (D : DD) : Code → Bool
 | .region id ops true => flagsAt P ops (dFl D id) (dLd D id) && sxOk ops (dLd D (1000 + id))
 | .seq a b => flagsOk P D a && flagsOk P D b
 | .cond _ a b => flagsOk P D a && flagsOk P D b
 | .block _ c => flagsOk P D c
 | .loop c => flagsOk P D c
 | _ => true
theorem flags_get {P : Program} {ops : Array Oper} {fl ld : List Nat} (h : flagsAt P ops fl ld = true) (j : Nat) : flOf P ops j = fl.contains j ∧ ldOf P ops j = ld.contains j := by
 simp only [flagsAt,Bool.and_eq_true,List.all_eq_true,List.mem_range,beq_iff_eq,decide_eq_true_eq] at h
 by_cases hj : j < ops.size
 ·exact h.1.1 j hj
 ·have hn : ops[j]? = none := Array.getElem?_eq_none (by omega)
  refine ⟨?_,?_⟩
  ·rw [show flOf P ops j = false by simp [flOf,hn]]
   cases hc : fl.contains j
   ·rfl
   ·exact absurd (h.1.2 j (by simpa using hc)) hj
  ·rw [show ldOf P ops j = false by simp [ldOf,hn]]
   cases hc : ld.contains j
   ·rfl
   ·exact absurd (h.2 j (by simpa using hc)) hj
def owE (P : Program) (LT : FuncId → FInfo) (ext : String → List Value → St → Option (Value × St)) (ls : List Tmp) (ops : Array Oper) (n0 : Nat → Prop) (fl ld sx : List Nat) : List Oper → Nat → Tm → Lo → St → (Tm → Lo → St → Prop) → Prop
 | [],_,ρ,lo,st,K => K ρ lo st
 | o :: os,j,ρ,lo,st,K => match aguard ops ρ o with
  | some true => sw P LT ext ls o (ev ρ) lo st (fun v lo' st' => match fl.contains j with
    | true => flE n0 sx o.op (ev ρ) st st' ∧ owE P LT ext ls ops n0 fl ld sx os (j + 1) (Tm.putO ρ o.dst v) lo' st' K
    | false => match ld.contains j with
     | true => ldChk n0 o.op (ev ρ) ∧ owE P LT ext ls ops n0 fl ld sx os (j + 1) (Tm.putO ρ o.dst v) lo' st' K
     | false => owE P LT ext ls ops n0 fl ld sx os (j + 1) (Tm.putO ρ o.dst v) lo' st' K)
  | some false => owE P LT ext ls ops n0 fl ld sx os (j + 1) (Tm.putO ρ o.dst skipV) lo st K
  | none => False
theorem sw_mono {P : Program} {LT : FuncId → FInfo} {ext : String → List Value → St → Option (Value × St)} {ls : List Tmp} {o : Oper} {e : Operand → Value} {lo : Lo} {st : St} {K K' : Value → Lo → St → Prop} (h : sw P LT ext ls o e lo st K) (hk : ∀ v l s,K v l s → K' v l s) : sw P LT ext ls o e lo st K' := by
 unfold sw at h ⊢
 split at h
 ·exact hk _ _ _ h
 ·exact hk _ _ _ h
 iterate 6
  ·obtain ⟨b,hb,hK⟩ := h
   exact ⟨b,hb,fun c hc => hk _ _ _ (hK c hc)⟩
 ·split at h
  ·obtain ⟨g,h1,h2⟩ := h
   exact ⟨g,h1,h2.mono fun v s => hk _ _ _⟩
  all_goals
   obtain ⟨r,h1,h2⟩ := h
   exact ⟨r,h1,hk _ _ _ h2⟩
 ·obtain ⟨r,h1,h2⟩ := h
  exact ⟨r,h1,hk _ _ _ h2⟩
theorem owE_owD {P : Program} {LT : FuncId → FInfo} {ext : String → List Value → St → Option (Value × St)} {ls : List Tmp} {ops : Array Oper} {n0 : Nat → Prop} {fl ld sx : List Nat} (hf : flagsAt P ops fl ld = true) (hsx : sxOk ops sx = true) {K : Tm → Lo → St → Prop} : ∀ (os : List Oper) (j : Nat) (ρ : Tm) (lo : Lo) (st : St),ops.toList.drop j = os → owE P LT ext ls ops n0 fl ld sx os j ρ lo st K → owD P LT ext ls ops n0 os j ρ lo st K := by
 intro os
 induction os with
 | nil => intro j ρ lo st _ h; exact h
 | cons o os ih =>
  intro j ρ lo st hd h
  have hoj : ops[j]? = some o := by
   have := congrArg (fun l => l[0]?) hd
   simp only [List.getElem?_drop,Nat.add_zero,List.getElem?_cons_zero] at this
   simpa using this
  have hd' : ops.toList.drop (j + 1) = os := by
   have := congrArg List.tail hd
   simpa using this
  unfold owE at h
  unfold owD
  obtain ⟨h1,h2⟩ := flags_get hf j
  split at h
  ·rename_i hg
   rw [hg]
   refine sw_mono h fun v l s hk => ?_
   rw [h1,h2]
   split at hk
   ·rename_i e; rw [e]; exact ⟨flE_chk hsx hoj hk.1,ih _ _ _ _ hd' hk.2⟩
   ·rename_i e; rw [e]
    split at hk
    ·rename_i e; rw [e]; exact ⟨hk.1,ih _ _ _ _ hd' hk.2⟩
    ·rename_i e; rw [e]; exact ih _ _ _ _ hd' hk
  ·rename_i hg
   rw [hg]
   exact ih _ _ _ _ hd' h
  ·exact h.elim
def AX (P : Program) (LT : FuncId → FInfo) (ext : String → List Value → St → Option (Value × St)) (i : FInfo) (D : DD) (c : Code) (ρ : Tm) (lo : Lo) (st : St) (K : Exit → Tm → Lo → St → Prop) : Prop := flagsOk P D c = true → AW P LT ext i c ρ lo st K
def cx (P : Program) (LT : FuncId → FInfo) (ext : String → List Value → St → Option (Value × St)) (i : FInfo) (D : DD) : Code → Tm → Lo → St → (Exit → Tm → Lo → St → Prop) → Prop
 | .skip,ρ,lo,st,K => K .normal ρ lo st
 | .region _ ops false,ρ,lo,st,K => ow P LT ext i.ls ops ops.toList ρ lo st (fun ρ' lo' st' => K .normal (ov (i.V.map fun t => (t,ρ' t)) und) lo' st')
 | .region id ops true,ρ,lo,st,K => match dLd D (2000 + id) with
  | [] => owE P LT ext i.ls ops (· < st.next) (dFl D id) (dLd D id) (dLd D (1000 + id)) ops.toList 0 ρ lo st (fun ρ' lo' st' => K .normal (ov (i.V.map fun t => (t,ρ' t)) und) lo' st')
  | _ => ∃ n0,owE P LT ext i.ls ops n0 (dFl D id) (dLd D id) (dLd D (1000 + id)) ops.toList 0 ρ lo st (fun ρ' lo' st' => K .normal (ov (i.V.map fun t => (t,ρ' t)) und) lo' st')
 | .seq a b,ρ,lo,st,K => cx P LT ext i D a ρ lo st (eThen (fun ρ' lo' st' => AX P LT ext i D b ρ' lo' st' K) K)
 | .cond c a b,ρ,lo,st,K => match ev ρ c with
  | .bool true => cx P LT ext i D a ρ lo st K
  | .bool false => cx P LT ext i D b ρ lo st K
  | _ => False
 | .block id c,ρ,lo,st,K => cx P LT ext i D c ρ lo st (eBlock id K)
 | .loop c,ρ,lo,st,K => AX P LT ext i D (.loop c) ρ lo st K
 | .exit id,ρ,lo,st,K => K (.exit id) ρ lo st
 | .ret,ρ,lo,st,K => K .ret ρ lo st
 | _,_,_,_,_ => False
def lfind : List (Nat × Nat × List Value) → (Nat → Option (Nat × List Value)) → Nat → Option (Nat × List Value)
 | [],f,t => f t
 | (s,v) :: l,f,t => if t = s then some v else lfind l f t
def LHas (lo : Lo) : List (Nat × Nat × List Value) → Prop
 | [] => True
 | (t,v) :: l => lo.loc t = some v ∧ LHas lo l
theorem lfind_has {lo : Lo} : ∀ {l : List (Nat × Nat × List Value)},LHas lo l → lfind l lo.loc = lo.loc
 | [],_ => rfl
 | (t,v) :: l,⟨h1,h2⟩ => by
  funext s
  by_cases hs : s = t
  ·subst hs; simp [lfind,h1]
  ·rw [lfind,if_neg hs,lfind_has h2]
theorem lo_has {lo : Lo} {l : List (Nat × Nat × List Value)} {g : Nat} (h : LHas lo l) (hg : lo.gen = g) : lo = ⟨lfind l lo.loc,g⟩ := by
 rw [lfind_has h,← hg]
section
variable {P : Program} {LT : FuncId → FInfo} {ext : String → List Value → St → Option (Value × St)} {i : FInfo} {D : DD}
theorem cx_sound : ∀ (c : Code) (ρ : Tm) (lo : Lo) (st : St) (K : Exit → Tm → Lo → St → Prop),cx P LT ext i D c ρ lo st K → AX P LT ext i D c ρ lo st K
 | .skip,ρ,lo,st,K,h => fun _ => AW.skip h
 | .region _ ops false,ρ,lo,st,K,h => fun _ => AW.regionN (n0 := fun _ => False) (ow_sound _ _ _ _ _ h)
 | .region id ops true,ρ,lo,st,K,h => fun hf => by
  unfold cx at h
  split at h
  ·exact AW.regionD (owD_sound _ _ _ _ _ (owE_owD (Bool.and_eq_true _ _ ▸ hf).1 (Bool.and_eq_true _ _ ▸ hf).2 _ 0 _ _ _ rfl h))
  ·obtain ⟨n0,h⟩ := h
   exact AW.regionD (owD_sound _ _ _ _ _ (owE_owD (Bool.and_eq_true _ _ ▸ hf).1 (Bool.and_eq_true _ _ ▸ hf).2 _ 0 _ _ _ rfl h))
 | .seq a b,ρ,lo,st,K,h => fun hf => by
  have hf2 := Bool.and_eq_true_iff.1 (show (flagsOk P D a && flagsOk P D b) = true from hf)
  refine AW.seq ((cx_sound a ρ lo st _ h hf2.1).mono fun e r l s hk => ?_)
  cases e
  case normal => exact hk hf2.2
  all_goals exact hk
 | .cond c a b,ρ,lo,st,K,h => fun hf => by
  have hf2 := Bool.and_eq_true_iff.1 (show (flagsOk P D a && flagsOk P D b) = true from hf)
  unfold cx at h
  split at h
  ·rename_i hx; exact AW.condT hx (cx_sound a ρ lo st K h hf2.1)
  ·rename_i hx; exact AW.condF hx (cx_sound b ρ lo st K h hf2.2)
  ·exact h.elim
 | .block id c,ρ,lo,st,K,h => fun hf => AW.block (cx_sound c ρ lo st _ h hf)
 | .loop c,ρ,lo,st,K,h => h
 | .exit id,ρ,lo,st,K,h => fun _ => AW.exit h
 | .ret,ρ,lo,st,K,h => fun _ => AW.ret h
variable {ρ : Tm} {lo : Lo} {st : St} {K : Exit → Tm → Lo → St → Prop}
theorem AW.cut {c : Code} (lo : Lo) (st : St) (L : List (Nat × Value)) (h : Has ρ L) (hK : ∀ ρ0,cx P LT ext i D c (ov L ρ0) lo st K) : AX P LT ext i D c ρ lo st K := by
 rw [ov_has h]; exact cx_sound _ _ _ _ _ (hK ρ)
theorem AW.cutM {c : Code} (g : Nat) (st : St) (L : List (Nat × Value)) (M : List (Nat × Nat × List Value)) (h : Has ρ L) (hM : LHas lo M) (hg : lo.gen = g) (hK : ∀ ρ0 f,cx P LT ext i D c (ov L ρ0) ⟨lfind M f,g⟩ st K) : AX P LT ext i D c ρ lo st K := by
 rw [ov_has h,lo_has hM hg]; exact cx_sound _ _ _ _ _ (hK ρ lo.loc)
theorem AW.seq_inv {a b : Code} {Q : Exit → Tm → Lo → St → Prop} (h : AW P LT ext i (.seq a b) ρ lo st Q) : AW P LT ext i a ρ lo st (eThen (fun ρ' lo' st' => AW P LT ext i b ρ' lo' st' Q) Q) := by
 obtain ⟨k,e,ρ',lo',st',h,hQ⟩ := h
 cases k with
 | zero => simp [acode] at h
 | succ k =>
  simp only [acode] at h
  cases ha : acode P i (acall P LT ext (k + 1)) k a ρ lo st with
  | none => rw [ha] at h; simp at h
  | some r =>
   obtain ⟨e1,r1,l1,s1⟩ := r
   have hm : ∀ {c : Code} {r : Tm} {l : Lo} {s : St} {u : Exit × Tm × Lo × St},acode P i (acall P LT ext (k + 1)) k c r l s = some u → acode P i (acall P LT ext (k + 1)) (k + 1) c r l s = some u := fun h => acode_mono (acall_mono (Nat.le_refl _)) k (k + 1) (Nat.le_succ _) _ _ _ _ _ h
   rw [ha] at h
   refine ⟨k + 1,e1,r1,l1,s1,hm ha,?_⟩
   cases e1
   case normal => exact ⟨k + 1,e,ρ',lo',st',hm h,hQ⟩
   all_goals
    simp only [Option.some.injEq,Prod.mk.injEq] at h
    obtain ⟨rfl,rfl,rfl,rfl⟩ := h
    exact hQ
theorem AW.skip_inv {Q : Exit → Tm → Lo → St → Prop} (h : AW P LT ext i .skip ρ lo st Q) : Q .normal ρ lo st := by
 obtain ⟨k,e,ρ',lo',st',h,hQ⟩ := h
 cases k with
 | zero => simp [acode] at h
 | succ k =>
  simp only [acode,Option.some.injEq,Prod.mk.injEq] at h
  obtain ⟨rfl,rfl,rfl,rfl⟩ := h
  exact hQ
def preC : Nat → Code → Code
 | 0,.seq a _ => a
 | n + 1,.seq a b => .seq a (preC n b)
 | _,c => c
def postC : Nat → Code → Code
 | 0,.seq _ b => b
 | n + 1,.seq _ b => postC n b
 | _,_ => .skip
theorem AW.pre : ∀ (n : Nat) (c : Code) (ρ : Tm) (lo : Lo) (st : St) (J : Tm → Lo → St → Prop) (K : Exit → Tm → Lo → St → Prop),(flagsOk P D c = true → flagsOk P D (preC n c) = true ∧ flagsOk P D (postC n c) = true) ∧
  (AW P LT ext i (preC n c) ρ lo st (eThen J K) → (∀ ρ' lo' st',J ρ' lo' st' → AW P LT ext i (postC n c) ρ' lo' st' K) → AW P LT ext i c ρ lo st K) := by
 have other : ∀ (n : Nat) (c : Code) (ρ : Tm) (lo : Lo) (st : St) (J : Tm → Lo → St → Prop) (K : Exit → Tm → Lo → St → Prop),preC n c = c → postC n c = .skip → (flagsOk P D c = true → flagsOk P D (preC n c) = true ∧ flagsOk P D (postC n c) = true) ∧
   (AW P LT ext i (preC n c) ρ lo st (eThen J K) → (∀ ρ' lo' st',J ρ' lo' st' → AW P LT ext i (postC n c) ρ' lo' st' K) → AW P LT ext i c ρ lo st K) := fun n c ρ lo st J K h1 h2 => by
  rw [h1,h2]
  refine ⟨fun h => ⟨h,rfl⟩,fun h hb => h.mono fun e r l s hk => ?_⟩
  cases e
  case normal => exact (hb r l s hk).skip_inv
  all_goals exact hk
 intro n
 induction n with
 | zero =>
  intro c ρ lo st J K
  cases c
  case seq a b =>
   refine ⟨fun h => ?_,fun h hb => AW.seq (h.mono fun e r l s hk => ?_)⟩
   ·exact Bool.and_eq_true_iff.1 (show (flagsOk P D a && flagsOk P D b) = true from h)
   ·cases e
    case normal => exact hb r l s hk
    all_goals exact hk
  all_goals exact other _ _ ρ lo st J K rfl rfl
 | succ n ih =>
  intro c ρ lo st J K
  cases c
  case seq a b =>
   refine ⟨fun h => ?_,fun h hb => AW.seq ((AW.seq_inv h).mono fun e r l s hk => ?_)⟩
   ·have h := Bool.and_eq_true_iff.1 (show (flagsOk P D a && flagsOk P D b) = true from h)
    have h2 := (ih b ρ lo st J K).1 h.2
    exact ⟨Bool.and_eq_true_iff.2 ⟨h.1,h2.1⟩,h2.2⟩
   ·cases e
    case normal => exact (ih b r l s J K).2 hk hb
    all_goals exact hk
  all_goals exact other _ _ ρ lo st J K rfl rfl
theorem AX.meet {α : Type} {c : Code} {K : Exit → Tm → Lo → St → Prop} (n : Nat) (Kf : α → List (Nat × Value)) (Mf : α → List (Nat × Nat × List Value)) (I : α → St → Prop)
  (ha : AX P LT ext i D (preC n c) ρ lo st (eThen (fun ρ' lo' st' => ∃ x,Has ρ' (Kf x) ∧ LHas lo' (Mf x) ∧ I x st') K))
  (hb : ∀ x ρ0 f g' st',I x st' → cx P LT ext i D (postC n c) (ov (Kf x) ρ0) ⟨lfind (Mf x) f,g'⟩ st' K) : AX P LT ext i D c ρ lo st K := fun hf => by
 have hp := AW.pre (P := P) (LT := LT) (ext := ext) (i := i) (D := D) n c ρ lo st (fun ρ' lo' st' => ∃ x,Has ρ' (Kf x) ∧ LHas lo' (Mf x) ∧ I x st') K
 have hf2 := hp.1 hf
 refine hp.2 (ha hf2.1) fun ρ1 l1 s1 hk => ?_
 obtain ⟨x,h1,h2,h3⟩ := hk
 rw [ov_has h1,lo_has h2 rfl]
 exact cx_sound _ _ _ _ _ (hb x ρ1 l1.loc l1.gen s1 h3) hf2.2
theorem AW.loopM {α : Type} {c : Code} {Q : Exit → Tm → Lo → St → Prop} (K : α → List (Nat × Value)) (M : α → List (Nat × Nat × List Value)) (I : Nat → α → St → Prop) (x : α) (n : Nat) (h0 : Has ρ (K x)) (hM : LHas lo (M x)) (hI : I n x st)
  (hs : ∀ m x ρ0 f g st,I m x st → cx P LT ext i D c (ov (K x) ρ0) ⟨lfind (M x) f,g⟩ st (eThen (fun ρ' lo' st' => ∃ x' m',m' < m ∧ Has ρ' (K x') ∧ LHas lo' (M x') ∧ I m' x' st') Q)) : AX P LT ext i D (.loop c) ρ lo st Q := fun hf => by
 refine AW.loop (fun m ρ lo st => ∃ x,Has ρ (K x) ∧ LHas lo (M x) ∧ I m x st) (n := n) ⟨x,h0,hM,hI⟩ ?_
 rintro m ρ lo st ⟨x,hH,hM,hI⟩
 rw [ov_has hH,lo_has hM rfl]
 refine (cx_sound _ _ _ _ _ (hs m x ρ lo.loc lo.gen st hI) hf).mono fun e ρ' lo' st' h => ?_
 cases e
 case normal =>
  obtain ⟨x',m',hm,hH,hM,hI'⟩ := h
  exact ⟨m',hm,x',hH,hM,hI'⟩
 all_goals exact h
theorem AW.loop0 {α : Type} {c : Code} {Q : Exit → Tm → Lo → St → Prop} (K : α → List (Nat × Value)) (I : Nat → α → St → Prop) (x : α) (n : Nat) (h0 : Has ρ (K x)) (hlo : lo = lo0) (hI : I n x st)
  (hs : ∀ m x ρ0 st,I m x st → cx P LT ext i D c (ov (K x) ρ0) lo0 st (eThen (fun ρ' lo' st' => ∃ x' m',m' < m ∧ Has ρ' (K x') ∧ lo' = lo0 ∧ I m' x' st') Q)) : AX P LT ext i D (.loop c) ρ lo st Q := fun hf => by
 refine AW.loop (fun m ρ lo st => ∃ x,Has ρ (K x) ∧ lo = lo0 ∧ I m x st) (n := n) ⟨x,h0,hlo,hI⟩ ?_
 rintro m ρ lo st ⟨x,hH,rfl,hI⟩
 rw [ov_has hH]
 refine (cx_sound _ _ _ _ _ (hs m x ρ st hI) hf).mono fun e ρ' lo' st' h => ?_
 cases e
 case normal =>
  obtain ⟨x',m',hm,hH,hM,hI'⟩ := h
  exact ⟨m',hm,x',hH,hM,hI'⟩
 all_goals exact h
theorem cxs {D : DD} {c : Code} {ρ : Tm} {lo : Lo} {st : St} {K : Exit → Tm → Lo → St → Prop} (h : cx P LT ext i D c ρ lo st K) : AX P LT ext i D c ρ lo st K := cx_sound _ _ _ _ _ h
theorem AC.enterX {f : FuncId} {args : List Value} {R : Value → St → Prop} {fn : Func} {c : Code} {i : FInfo} {n : Nat} {rs : List ResultVar} (D : DD) (hf : P.funcs[f]? = some fn) (hb : fn.body = some c) (hi : LT f = i) (hok : fnOk P i fn c = true) (hD : flagsOk P D (reC i.mv c) = true) (hn : fn.ntmps = n) (hl : args.length ≤ n) (hr : fn.results.toList = rs)
  (h : cx P LT ext i D (reC i.mv c) (ov (i.V.map fun t => (t,args.getD t undef)) und) lo0 st (fun e ρ lo st' => (e = .ret ∨ e = .normal) ∧ ∃ vs,aresL P ρ lo st' rs = some vs ∧ R (aret vs) st')) : AC P LT ext f args st R :=
 AC.enter' hf hb hi hok hn hl hr (cx_sound _ _ _ _ _ h hD)
end
end Go.Proofs.YteabadoaeadcgaaDoor.AM
