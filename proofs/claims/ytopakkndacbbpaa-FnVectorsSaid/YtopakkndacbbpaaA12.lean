/- The abstract machine's walk in pieces: the frame and the frame's own variables are cut to clean terms ahead of each piece. -/
import Derived.Test.YtopakkndacbbpaaA11
namespace Go.Proofs.Ytopakkndacbbpaa.AM
open Go Go.RowKit
set_option linter.unusedVariables false
set_option linter.unusedSimpArgs false

/-- What a piece of code leaves to be shown, as far as its first region reaches. -/
def cx (P : Program) (LT : FuncId → FInfo) (ext : String → List Value → St → Option (Value × St)) (i : FInfo) : Code → Tm → Lo → St → (Exit → Tm → Lo → St → Prop) → Prop
  | .skip, ρ, lo, st, K => K .normal ρ lo st
  | .region _ ops false, ρ, lo, st, K => ow P LT ext i.ls ops ops.toList ρ lo st (fun ρ' lo' st' => K .normal (ov (i.V.map fun t => (t, ρ' t)) und) lo' st')
  | .region _ ops true, ρ, lo, st, K => owD P LT ext i.ls ops st.next ops.toList 0 ρ lo st (fun ρ' lo' st' => K .normal (ov (i.V.map fun t => (t, ρ' t)) und) lo' st')
  | .seq a b, ρ, lo, st, K => cx P LT ext i a ρ lo st (eThen (fun ρ' lo' st' => AW P LT ext i b ρ' lo' st' K) K)
  | .cond c a b, ρ, lo, st, K => match ev ρ c with
    | .bool true => cx P LT ext i a ρ lo st K
    | .bool false => cx P LT ext i b ρ lo st K
    | _ => False
  | .block id c, ρ, lo, st, K => cx P LT ext i c ρ lo st (eBlock id K)
  | .loop c, ρ, lo, st, K => AW P LT ext i (.loop c) ρ lo st K
  | .exit id, ρ, lo, st, K => K (.exit id) ρ lo st
  | .ret, ρ, lo, st, K => K .ret ρ lo st
  | _, _, _, _, _ => False

/-- The frame's own variables: what the list tells; elsewhere f. -/
def lfind : List (Nat × Nat × List Value) → (Nat → Option (Nat × List Value)) → Nat → Option (Nat × List Value)
  | [], f, t => f t
  | (s, v) :: l, f, t => if t = s then some v else lfind l f t
def LHas (lo : Lo) : List (Nat × Nat × List Value) → Prop
  | [] => True
  | (t, v) :: l => lo.loc t = some v ∧ LHas lo l
theorem lfind_has {lo : Lo} : ∀ {l : List (Nat × Nat × List Value)}, LHas lo l → lfind l lo.loc = lo.loc
  | [], _ => rfl
  | (t, v) :: l, ⟨h1, h2⟩ => by
    funext s
    by_cases hs : s = t
    · subst hs; simp [lfind, h1]
    · rw [lfind, if_neg hs, lfind_has h2]
theorem lo_has {lo : Lo} {l : List (Nat × Nat × List Value)} {g : Nat} (h : LHas lo l) (hg : lo.gen = g) : lo = ⟨lfind l lo.loc, g⟩ := by
  rw [lfind_has h, ← hg]

section
variable {P : Program} {LT : FuncId → FInfo} {ext : String → List Value → St → Option (Value × St)} {i : FInfo}
theorem cx_sound : ∀ (c : Code) (ρ : Tm) (lo : Lo) (st : St) (K : Exit → Tm → Lo → St → Prop), cx P LT ext i c ρ lo st K → AW P LT ext i c ρ lo st K
  | .skip, ρ, lo, st, K, h => AW.skip h
  | .region _ ops false, ρ, lo, st, K, h => AW.regionN (ow_sound _ _ _ _ _ h)
  | .region _ ops true, ρ, lo, st, K, h => AW.regionD (owD_sound _ _ _ _ _ h)
  | .seq a b, ρ, lo, st, K, h => AW.seq (cx_sound a ρ lo st _ h)
  | .cond c a b, ρ, lo, st, K, h => by
    unfold cx at h
    split at h
    · rename_i hx; exact AW.condT hx (cx_sound a ρ lo st K h)
    · rename_i hx; exact AW.condF hx (cx_sound b ρ lo st K h)
    · exact h.elim
  | .block id c, ρ, lo, st, K, h => AW.block (cx_sound c ρ lo st _ h)
  | .loop c, ρ, lo, st, K, h => h
  | .exit id, ρ, lo, st, K, h => AW.exit h
  | .ret, ρ, lo, st, K, h => AW.ret h
variable {ρ : Tm} {lo : Lo} {st : St} {K : Exit → Tm → Lo → St → Prop}
/-- The next piece, in a clean frame. -/
theorem AW.cut {c : Code} (lo : Lo) (st : St) (L : List (Nat × Value)) (h : Has ρ L) (hK : ∀ ρ0, cx P LT ext i c (ov L ρ0) lo st K) : AW P LT ext i c ρ lo st K := by
  rw [ov_has h]; exact cx_sound _ _ _ _ _ (hK ρ)
/-- The same, with the frame's own variables. -/
theorem AW.cutM {c : Code} (g : Nat) (st : St) (L : List (Nat × Value)) (M : List (Nat × Nat × List Value)) (h : Has ρ L) (hM : LHas lo M) (hg : lo.gen = g) (hK : ∀ ρ0 f, cx P LT ext i c (ov L ρ0) ⟨lfind M f, g⟩ st K) : AW P LT ext i c ρ lo st K := by
  rw [ov_has h, lo_has hM hg]; exact cx_sound _ _ _ _ _ (hK ρ lo.loc)
/-- A loop, with the frame's own variables. -/
theorem AW.loopM {α : Type} {c : Code} {Q : Exit → Tm → Lo → St → Prop} (K : α → List (Nat × Value)) (M : α → List (Nat × Nat × List Value)) (I : Nat → α → St → Prop) (x : α) (n : Nat) (h0 : Has ρ (K x)) (hM : LHas lo (M x)) (hI : I n x st)
    (hs : ∀ m x ρ0 f g st, I m x st → cx P LT ext i c (ov (K x) ρ0) ⟨lfind (M x) f, g⟩ st (eThen (fun ρ' lo' st' => ∃ x' m', m' < m ∧ Has ρ' (K x') ∧ LHas lo' (M x') ∧ I m' x' st') Q)) : AW P LT ext i (.loop c) ρ lo st Q := by
  refine AW.loop (fun m ρ lo st => ∃ x, Has ρ (K x) ∧ LHas lo (M x) ∧ I m x st) (n := n) ⟨x, h0, hM, hI⟩ ?_
  rintro m ρ lo st ⟨x, hH, hM, hI⟩
  rw [ov_has hH, lo_has hM rfl]
  refine (cx_sound _ _ _ _ _ (hs m x ρ lo.loc lo.gen st hI)).mono fun e ρ' lo' st' h => ?_
  cases e
  case normal =>
    obtain ⟨x', m', hm, hH, hM, hI'⟩ := h
    exact ⟨m', hm, x', hH, hM, hI'⟩
  all_goals exact h
/-- A loop of a frame without own variables. -/
theorem AW.loop0 {α : Type} {c : Code} {Q : Exit → Tm → Lo → St → Prop} (K : α → List (Nat × Value)) (I : Nat → α → St → Prop) (x : α) (n : Nat) (h0 : Has ρ (K x)) (hlo : lo = lo0) (hI : I n x st)
    (hs : ∀ m x ρ0 st, I m x st → cx P LT ext i c (ov (K x) ρ0) lo0 st (eThen (fun ρ' lo' st' => ∃ x' m', m' < m ∧ Has ρ' (K x') ∧ lo' = lo0 ∧ I m' x' st') Q)) : AW P LT ext i (.loop c) ρ lo st Q := by
  refine AW.loop (fun m ρ lo st => ∃ x, Has ρ (K x) ∧ lo = lo0 ∧ I m x st) (n := n) ⟨x, h0, hlo, hI⟩ ?_
  rintro m ρ lo st ⟨x, hH, rfl, hI⟩
  rw [ov_has hH]
  refine (cx_sound _ _ _ _ _ (hs m x ρ st hI)).mono fun e ρ' lo' st' h => ?_
  cases e
  case normal =>
    obtain ⟨x', m', hm, hH, hM, hI'⟩ := h
    exact ⟨m', hm, x', hH, hM, hI'⟩
  all_goals exact h
theorem AC.enterX {f : FuncId} {args : List Value} {R : Value → St → Prop} {fn : Func} {c : Code} {i : FInfo} {n : Nat} {rs : List ResultVar} (hf : P.funcs[f]? = some fn) (hb : fn.body = some c) (hi : LT f = i) (hok : fnOk P i fn c = true) (hn : fn.ntmps = n) (hl : args.length ≤ n) (hr : fn.results.toList = rs)
    (h : cx P LT ext i c (ov (i.V.map fun t => (t, args.getD t undef)) und) lo0 st (fun e ρ lo st' => (e = .ret ∨ e = .normal) ∧ ∃ vs, aresL P ρ lo st' rs = some vs ∧ R (aret vs) st')) : AC P LT ext f args st R :=
  AC.enter' hf hb hi hok hn hl hr (cx_sound _ _ _ _ _ h)
end
end Go.Proofs.Ytopakkndacbbpaa.AM
