/- A part of the machine on which the law's proof rests. -/
import Derived.Test.YteabadoaeadcgaaDoorXpA2
import Derived.Laws.StructEq
namespace Go.Proofs.YteabadoaeadcgaaDoor.AM
open Go Go.RowKit
set_option linter.unusedVariables false
set_option linter.unusedSimpArgs false
def isLit : Value → Bool
 | .bool _ | .int .. | .string _ => true
 | _ => false
section
variable {P : Program} {w : World}
theorem run_isAgg {t : TypeId} {b : Bool} (h : tagg P t = some b) : (isAgg t).run P w = .ok b w := by
 unfold tagg at h
 obtain ⟨d,hd,hb⟩ := Option.map_eq_some_iff.1 h
 simp only [isAgg,Sem.run_bind,run_underlying hd,Result.andThen_ok]
 cases d <;> simp_all
theorem run_sizeOf {t : TypeId} {n : Nat} (h : tsize P t = some n) : (sizeOf t).run P w = .ok n w := by
 unfold tsize at h
 obtain ⟨i,hi,rfl⟩ := Option.map_eq_some_iff.1 h
 simp [sizeOf,typeInfo,hi]
theorem telem_under {t e : TypeId} (h : telem P t = some e) : P.underlying t = some (.slice e) := by
 unfold telem at h
 split at h
 ·rename_i e' he; injection h with h; subst h; exact he
 ·cases h
theorem tint_under {t : TypeId} {k : IntKind} (h : tint P t = some k) : P.underlying t = some (.int k) := by
 unfold tint at h
 split at h
 ·rename_i e' he; injection h with h; subst h; exact he
 ·cases h
theorem tstr_under {t : TypeId} (h : tstr P t = true) : P.underlying t = some .string := by
 unfold tstr at h
 split at h
 ·assumption
 ·cases h
theorem run_loadN {a : Addr} {ys : List Value} {n : Nat} (hl : ys.length = n) (h : ∀ j v,ys[j]? = some v → w.cell? (a.add j) = some v) : (loadCells a n).run P w = .ok ys.toArray w := by
 subst hl
 exact run_loadCells_list w a ys h
theorem run_load1 {a : Addr} {y : Value} (h : w.cell? a = some y) : (load a).run P w = .ok y w := by
 simp [load,Sem.run,h]
theorem aload_sound {ι κ : Inj} {lo : Lo} {st : St} (h : Rel ι lo st w) (hκ : κ = ι ∨ κ = ι.base) {t : TypeId} {p : Addr} (hp : okA κ p) {cs : List Value} (hr : rdB lo st p.block p.spot = some cs) {v : Value} (hv : aload P t cs p.off = some v) :
  ∃ cv,(loadVar t (tr κ p)).run P w = .ok cv w ∧ VR ι.base v cv := by
 unfold aload at hv
 split at hv
 ·rename_i ht
  obtain ⟨n,hn,hv⟩ := Option.bind_eq_some_iff.1 hv
  split at hv
  ·rename_i hl
   injection hv with hv
   subst hv
   obtain ⟨ys,h1,h2,h3⟩ := h.readN hκ hp hr n hl
   refine ⟨.agg ys.toArray,?_,?_⟩
   ·simp only [loadVar,Sem.run_bind,run_isAgg ht,Result.andThen_ok,if_true,run_sizeOf hn,run_loadN h1 h2,Sem.run_pure]
   ·refine VR_agg.2 ⟨ys.toArray,rfl,by simp [h1,hl],fun i u hu => ?_⟩
    obtain ⟨y,hy,hv⟩ := h3 i u (by simpa using hu)
    exact ⟨y,by simpa using hy,hv⟩
  ·cases hv
 ·rename_i ht
  obtain ⟨y,hy,hvr⟩ := h.read hκ hp hr 0 v (by simpa using hv)
  have hy0 : w.cell? (tr κ p) = some y := by simpa [Addr.add] using hy
  refine ⟨y,?_,?_⟩
  ·simp only [loadVar,Sem.run_bind,run_isAgg ht,Result.andThen_ok,Bool.false_eq_true,if_false,run_load1 hy0]
  ·exact VR_of0' hvr
 ·cases hv
theorem aint_sound {op : BinOp} {t : TypeId} {x y : Operand} {k : IntKind} {a b : Int} {v : Value} (h : aint op k a b = some v) :
  (do eqGuard op t x y (.int k a) (.int k b); binOp op t (.int k a) (.int k b) : Sem Value).run P w = .ok v w ∧ ∃ u,isCell v = true ∧ v = u := by
 refine ⟨?_,v,?_,rfl⟩
 ·cases op <;> simp only [aint,Option.some.injEq,reduceCtorEq] at h <;> try (subst h)
  case quo =>
   split at h
   ·cases h
   ·injection h with h; subst h
    rename_i hb
    simp [eqGuard,binOp,Op.intDiv,hb]
  case rem =>
   split at h
   ·cases h
   ·injection h with h; subst h
    rename_i hb
    simp [eqGuard,binOp,Op.intDiv,hb]
  all_goals simp [eqGuard,binOp,Op.intArith,Op.intBits,Op.intCmp,bits]
 ·cases op <;> simp only [aint,Option.some.injEq,reduceCtorEq] at h <;> first
   | (subst h; rfl)
   | (split at h <;> first | (cases h; done) | (injection h with h; subst h; rfl))
theorem VR_refl_cell {κ : Inj} {v : Value} (h : isLit v = true) : VR κ v v := by
 cases v <;> first | (simp [isLit] at h; done) | exact rfl
theorem aint_plain {op : BinOp} {k : IntKind} {a b : Int} {v : Value} (h : aint op k a b = some v) : isLit v = true := by
 cases op <;> simp only [aint,Option.some.injEq,reduceCtorEq] at h <;> first
  | (subst h; rfl)
  | (split at h <;> first | (cases h; done) | (injection h with h; subst h; rfl))
theorem astrop_sound {op : BinOp} {t : TypeId} {x y : Operand} {a b : ByteArray} {v : Value} (h : astrop op a b = some v) :
  (do eqGuard op t x y (.string a) (.string b); binOp op t (.string a) (.string b) : Sem Value).run P w = .ok v w ∧ isLit v = true := by
 cases op <;> simp only [astrop,Option.some.injEq,reduceCtorEq] at h <;> try (subst h)
 case add =>
  split at h
  ·injection h with h; subst h
   rename_i hb
   refine ⟨?_,rfl⟩
   have hm : ¬ ((a.size + b.size : Nat) : Int) > IntKind.i64.max := by
    have : IntKind.i64.max = 9223372036854775807 := by decide
    omega
   have hm' : (a.size : Int) + (b.size : Int) ≤ IntKind.i64.max := by omega
   have : IntKind.i64.max = 9223372036854775807 := by decide
   simp only [eqGuard,binOp,Op.stringOp]
   rw [if_neg hm]
   simp
  ·cases h
 all_goals exact ⟨by simp [eqGuard,binOp,Op.stringOp],rfl⟩
theorem apart_sound {κ : Inj} {t : TypeId} {n : Nat} {cs ds : Array Value} {off : Nat} {u : Value} (hn : tsize P t = some n) (hs : ds.size = cs.size) (hd : ∀ (i : Nat) (u : Value),cs[i]? = some u → ∃ v : Value,ds[i]? = some v ∧ VR0 κ u v)
  (h : apart P t n cs off = some u) : ∃ v,(part t ds off).run P w = .ok v w ∧ VR κ u v := by
 unfold apart at h
 split at h
 ·rename_i ht
  injection h with h; subst h
  refine ⟨.agg (ds.extract off (off + n)),?_,?_⟩
  ·simp only [part,Sem.run_bind,run_isAgg ht,Result.andThen_ok,if_true,run_sizeOf hn,Sem.run_pure]
  ·refine VR_agg.2 ⟨_,rfl,by simp [hs],fun i u hu => ?_⟩
   rw [Array.getElem?_extract] at hu
   split at hu
   ·rename_i hi
    obtain ⟨v,hv,hr⟩ := hd _ u hu
    refine ⟨v,?_,hr⟩
    rw [Array.getElem?_extract,if_pos (by rw [hs]; exact hi)]
    exact hv
   ·cases hu
 ·rename_i ht
  obtain ⟨v,hv,hr⟩ := hd _ u h
  refine ⟨v,?_,VR_of0' hr⟩
  simp only [part,Sem.run_bind,run_isAgg ht,Result.andThen_ok,Bool.false_eq_true,if_false,hv,Sem.run_pure]
 ·cases h
theorem aeqFields_sound {κ : Inj} {d : Nat} (ih : ∀ (t : TypeId) (x y cx cy : Value) (r : Bool),aeq P d t x y = some r → VR κ x cx → VR κ y cy → (Op.equalIn d t cx cy).run P w = .ok r w)
  {xs ys xs' ys' : Array Value} (hx : xs'.size = xs.size) (hxs : ∀ (i : Nat) (u : Value),xs[i]? = some u → ∃ v : Value,xs'[i]? = some v ∧ VR0 κ u v) (hy : ys'.size = ys.size) (hys : ∀ (i : Nat) (u : Value),ys[i]? = some u → ∃ v : Value,ys'[i]? = some v ∧ VR0 κ u v) :
  ∀ (fs : List Field) (r : Bool),aeqFields P (aeq P d) xs ys fs = some r → (Op.eqFields d xs' ys' fs).run P w = .ok r w := by
 intro fs
 induction fs with
 | nil => intro r h; simp only [aeqFields,Option.some.injEq] at h; subst h; simp [Op.eqFields]
 | cons f fs ihf =>
  intro r h
  unfold aeqFields at h
  unfold Op.eqFields
  split at h
  ·rename_i hn
   rw [if_pos hn]
   obtain ⟨n,hn1,h⟩ := Option.bind_eq_some_iff.1 h
   obtain ⟨u,hu,h⟩ := Option.bind_eq_some_iff.1 h
   obtain ⟨v,hv,h⟩ := Option.bind_eq_some_iff.1 h
   obtain ⟨q,hq,h⟩ := Option.bind_eq_some_iff.1 h
   obtain ⟨u',hu1,hu2⟩ := apart_sound (P := P) (w := w) hn1 hx hxs hu
   obtain ⟨v',hv1,hv2⟩ := apart_sound (P := P) (w := w) hn1 hy hys hv
   have he := ih _ _ _ _ _ q hq hu2 hv2
   simp only [Sem.run_bind,hu1,hv1,he,Result.andThen_ok]
   cases q
   ·simp only [Bool.false_eq_true,if_false,Option.some.injEq] at h
    subst h
    simp
   ·simp only [if_true] at h
    simpa using ihf r h
  ·rename_i hn
   rw [if_neg hn]
   exact ihf r h
theorem aeq_sound {κ : Inj} : ∀ (d : Nat) (t : TypeId) (x y cx cy : Value) (r : Bool),aeq P d t x y = some r → VR κ x cx → VR κ y cy → (Op.equalIn d t cx cy).run P w = .ok r w := by
 intro d
 induction d with
 | zero => intro t x y cx cy r h; simp [aeq] at h
 | succ d ih =>
  intro t x y cx cy r h hx hy
  unfold aeq at h
  split at h
  ·rename_i ht
   injection h with h; subst h
   obtain rfl := VR_bool.1 hx
   obtain rfl := VR_bool.1 hy
   exact run_equalIn_bool w d t _ _ ht
  ·rename_i ht
   split at h
   ·rename_i hk
    subst hk
    injection h with h; subst h
    obtain rfl := VR_int.1 hx
    obtain rfl := VR_int.1 hy
    exact run_equalIn_int w d t _ _ _ _ ht
   ·cases h
  ·rename_i ht
   injection h with h; subst h
   obtain rfl := VR_string.1 hx
   obtain rfl := VR_string.1 hy
   exact run_equalIn_string w d t _ _ ht
  ·rename_i fs xs ys ht
   split at h
   ·cases h
   ·rename_i hp
    obtain ⟨xs',rfl,hx1,hx2⟩ := VR_agg.1 hx
    obtain ⟨ys',rfl,hy1,hy2⟩ := VR_agg.1 hy
    have hf : P.fieldsOf t = fs := by simp [Program.fieldsOf,ht]
    rw [run_equalIn_struct w d t xs' ys' (by rw [hf]; exact ht) (by simpa using hp),hf]
    exact aeqFields_sound ih hx1 hx2 hy1 hy2 _ _ h
  ·cases h
theorem aeqV_sound {κ : Inj} {op : BinOp} {t : TypeId} {ox oy : Operand} {x y cx cy : Value} {r : Bool} (h : aeqV P t x y = some r) (hx : VR κ x cx) (hy : VR κ y cy) :
  (eqGuard op t ox oy cx cy).run P w = .ok () w ∧ (Op.equal t cx cy).run P w = .ok r w ∧ ((∃ a b,cx = .bool a ∧ cy = .bool b) ∨ ∃ a b,cx = .agg a ∧ cy = .agg b) := by
 unfold aeqV at h
 split at h
 ·have he := aeq_sound (P := P) (w := w) _ _ _ _ _ _ r h hx hy
  obtain rfl := VR_bool.1 hx
  obtain rfl := VR_bool.1 hy
  refine ⟨?_,he,.inl ⟨_,_,rfl,rfl⟩⟩
  cases op <;> simp [eqGuard]
 ·split at h
  ·cases h
  ·rename_i hg
   have he := aeq_sound (P := P) (w := w) _ _ _ _ _ _ r h hx hy
   obtain ⟨xs',rfl,hx1,hx2⟩ := VR_agg.1 hx
   obtain ⟨ys',rfl,hy1,hy2⟩ := VR_agg.1 hy
   exact ⟨run_eqGuard_agg w op t ox oy _ _ (by simpa using hg),he,.inr ⟨_,_,rfl,rfl⟩⟩
 ·cases h
theorem abin_sound {κ : Inj} {op : BinOp} {t : TypeId} {ox oy : Operand} {x y cx cy v : Value} (h : abin P op t x y = some v) (hx : VR κ x cx) (hy : VR κ y cy) :
  ∃ cv,(do eqGuard op t ox oy cx cy; binOp op t cx cy : Sem Value).run P w = .ok cv w ∧ VR κ v cv := by
 unfold abin at h
 split at h
 ·split at h
  ·rename_i hb
   injection h with h; subst h
   obtain rfl := VR_int.1 hx
   obtain rfl := VR_int.1 hy
   refine ⟨_,?_,VR_int.2 rfl⟩
   simp [eqGuard,binOp,shift_shl _ _ _ _ hb.1 hb.2]
  ·cases h
 ·split at h
  ·rename_i hb
   injection h with h; subst h
   obtain rfl := VR_int.1 hx
   obtain rfl := VR_int.1 hy
   refine ⟨_,?_,VR_int.2 rfl⟩
   simp [eqGuard,binOp,shift_shr _ _ _ _ hb.1 hb.2]
  ·cases h
 ·split at h
  ·rename_i hk
   subst hk
   obtain rfl := VR_int.1 hx
   obtain rfl := VR_int.1 hy
   exact ⟨v,(aint_sound h).1,VR_refl_cell (aint_plain h)⟩
  ·cases h
 ·obtain rfl := VR_string.1 hx
  obtain rfl := VR_string.1 hy
  exact ⟨v,(astrop_sound h).1,VR_refl_cell (astrop_sound (P := P) (w := w) (t := t) (x := ox) (y := oy) h).2⟩
 ·obtain ⟨r,hr,rfl⟩ := Option.map_eq_some_iff.1 h
  obtain ⟨h1,h2,h3⟩ := aeqV_sound (P := P) (w := w) (op := .eql) (ox := ox) (oy := oy) hr hx hy
  refine ⟨.bool r,?_,VR_bool.2 rfl⟩
  rcases h3 with ⟨a,b,rfl,rfl⟩ | ⟨a,b,rfl,rfl⟩ <;> simp [h1,binOp,h2]
 ·obtain ⟨r,hr,rfl⟩ := Option.map_eq_some_iff.1 h
  obtain ⟨h1,h2,h3⟩ := aeqV_sound (P := P) (w := w) (op := .neq) (ox := ox) (oy := oy) hr hx hy
  refine ⟨.bool (!r),?_,VR_bool.2 rfl⟩
  rcases h3 with ⟨a,b,rfl,rfl⟩ | ⟨a,b,rfl,rfl⟩ <;> simp [h1,binOp,h2]
 ·cases h
theorem aun_sound {κ : Inj} {op : UnOp} {x cx v : Value} (h : aun op x = some v) (hx : VR κ x cx) : ∃ cv,(Op.unary op cx).run P w = .ok cv w ∧ VR κ v cv := by
 unfold aun at h
 split at h
 ·injection h with h; subst h
  obtain rfl := VR_bool.1 hx
  exact ⟨_,by simp [Op.unary],VR_bool.2 rfl⟩
 ·injection h with h; subst h
  obtain rfl := VR_int.1 hx
  exact ⟨_,by simp [Op.unary,Op.intArith],VR_int.2 rfl⟩
 ·cases h
def ORel (κ : Inj) (x y : Option Value) : Prop := match x,y with
 | none,none => True
 | some a,some b => VR κ a b
 | _,_ => False
theorem ORel_map {κ : Inj} {e : Operand → Value} {a : Act} (o : Option Operand) (h : ∀ x,o = some x → VR κ (e x) (a.eval x)) : ORel κ (o.map e) (o.map a.eval) := by
 cases o with
 | none => trivial
 | some x => exact h x rfl
theorem bound_sound {κ : Inj} {x : Value} {x' : Value} {n y : Nat} {code : BoundsCode} {d : Nat} (h : abound (some x) d = some n) (hx : VR κ x x') (hn : n ≤ y) : (Instr.sliceBound x' y code).run P w = .ok n w := by
 unfold abound at h
 split at h
 ·cases ‹some x = none›
 ·rename_i k i he
  injection he with he
  subst he
  obtain rfl := VR_int.1 hx
  split at h
  ·rename_i hi
   injection h with h
   subst h
   have : 0 ≤ i ∧ i ≤ (y : Int) := ⟨hi,by omega⟩
   simp [Instr.sliceBound,asIntOf,this]
  ·cases h
 ·cases h
theorem bounds_sound {κ : Inj} {lo hi lo' hi' : Option Value} {l h len cap : Nat} {b : Bool} (hlo : ORel κ lo lo') (hhi : ORel κ hi hi') (hl : abound lo 0 = some l) (hh : abound hi len = some h) (h1 : l ≤ h) (h2 : h ≤ cap) :
  (Instr.sliceBounds b len cap lo' hi' none).run P w = .ok (l,h,cap) w := by
 have e1 : ∀ (code : BoundsCode),(match hi' with
   | some v => Instr.sliceBound v cap code
   | none => pure len : Sem Nat).run P w = .ok h w := by
  intro code
  cases hi with
  | none => cases hi' with
   | none => simp only [abound,Option.some.injEq] at hh; subst hh; rfl
   | some _ => exact hhi.elim
  | some x => cases hi' with
   | none => exact hhi.elim
   | some x' => exact bound_sound hh hhi h2
 have e2 : ∀ (code : BoundsCode),(match lo' with
   | some v => Instr.sliceBound v h code
   | none => pure 0 : Sem Nat).run P w = .ok l w := by
  intro code
  cases lo with
  | none => cases lo' with
   | none => simp only [abound,Option.some.injEq] at hl; subst hl; rfl
   | some _ => exact hlo.elim
  | some x => cases lo' with
   | none => exact hlo.elim
   | some x' => exact bound_sound hl hlo h1
 unfold Instr.sliceBounds
 cases hi' with
 | none =>
  have e1' := e1 .sliceB
  simp only [Sem.run_pure,Result.ok.injEq,and_true] at e1'
  cases lo' with
  | none =>
   have e2' := e2 .sliceB
   simp only [Sem.run_pure,Result.ok.injEq,and_true] at e2'
   simp [e1',e2']
  | some v =>
   have e2' := e2 .sliceB
   simp only at e2'
   simp [e1',e2']
 | some u =>
  have e1' := fun c => e1 c
  simp only at e1'
  cases lo' with
  | none =>
   have e2' := e2 .sliceB
   simp only [Sem.run_pure,Result.ok.injEq,and_true] at e2'
   simp [e1',e2']
  | some v =>
   have e2' := e2 .sliceB
   simp only at e2'
   simp [e1',e2']
theorem aslice_sound {κ : Inj} {t : TypeId} {x cx v : Value} {lo hi lo' hi' : Option Value} (h : aslice P t x lo hi = some v) (hx : VR κ x cx) (hlo : ORel κ lo lo') (hhi : ORel κ hi hi') :
  ∃ cv,(Instr.sliceAt t cx lo' hi' none).run P w = .ok cv w ∧ VR κ v cv := by
 unfold aslice at h
 split at h
 ·rename_i s
  split at h
  ·rename_i ht
   obtain ⟨l,hl,h⟩ := Option.bind_eq_some_iff.1 h
   obtain ⟨r,hr,h⟩ := Option.bind_eq_some_iff.1 h
   split at h
   ·rename_i hb
    injection h with h
    subst h
    obtain rfl := VR_string.1 hx
    refine ⟨_,?_,VR_string.2 rfl⟩
    simp [Instr.sliceAt,Instr.slice,run_underlying (tstr_under ht),bounds_sound (P := P) (w := w) (b := false) hlo hhi hl hr hb.1 hb.2]
   ·cases h
  ·cases h
 ·rename_i p n c0
  obtain ⟨e,he,h⟩ := Option.bind_eq_some_iff.1 h
  obtain ⟨z,hz,h⟩ := Option.bind_eq_some_iff.1 h
  obtain ⟨l,hl,h⟩ := Option.bind_eq_some_iff.1 h
  obtain ⟨r,hr,h⟩ := Option.bind_eq_some_iff.1 h
  split at h
  ·rename_i hb
   injection h with h
   subst h
   obtain ⟨q,c,rfl,h1,h2,h3⟩ := VR_slice.1 hx
   have hbs := bounds_sound (P := P) (w := w) (b := true) hlo hhi hl hr hb.1 (Nat.le_trans hb.2 h1)
   refine ⟨.slice (if c = l then q else q.map (·.add (l * z))) (r - l) (c - l),?_,VR_slice.2 ⟨_,_,rfl,by omega,by omega,?_⟩⟩
   ·simp [Instr.sliceAt,Instr.slice,run_underlying (telem_under he),hbs,run_sizeOf hz]
   ·by_cases hc : c - l = 0
    ·exact .inl hc
    ·refine .inr ?_
     rcases h3 with h3 | ⟨a,rfl,ha,hs,rfl,hcap⟩
     ·omega
     ·refine ⟨_,rfl,?_,hs,?_,?_⟩
      ·unfold okA at *
       simp only
       rw [hs] at ha ⊢
       exact ha
      ·rw [if_neg (by omega)]
       simp only [Option.map_some,Option.some.injEq,tr,hs,add_plain,Nat.add_assoc]
      ·intro ho
       simp only at ho ⊢
       have : c ≤ κ.cap a.block := hcap (by omega)
       omega
  ·cases h
 ·cases h
theorem abytes_push : ∀ (l : List Value) (bs : List UInt8),abytes l = some bs → ∀ (acc : ByteArray),
  (forIn (m := Sem) l acc fun c r => do
   match c with
   | .int .u8 n => pure (ForInStep.yield (r.push (UInt8.ofNat n.toNat)))
   | _ => do
    stuck "bytesToString: byte expected"
    pure (ForInStep.yield r)).run P w = .ok ⟨acc.data ++ bs.toArray⟩ w := by
 intro l
 induction l with
 | nil =>
  intro bs h acc
  simp only [abytes,Option.some.injEq] at h
  subst h
  simp
 | cons c l ih =>
  intro bs h acc
  unfold abytes at h
  split at h
  ·cases ‹_ :: _ = []›
  ·rename_i n l' he
   injection he with h1 h2
   subst h1 h2
   obtain ⟨bs',hb,rfl⟩ := Option.map_eq_some_iff.1 h
   have := ih bs' hb (acc.push (UInt8.ofNat n.toNat))
   simp only [List.forIn_cons,Sem.run_bind,Sem.run_pure,Result.andThen_ok]
   rw [this]
   simp [ByteArray.push]
  ·cases h
theorem abytes_rel {κ : Inj} : ∀ (l ys : List Value) (bs : List UInt8),abytes l = some bs → ys.length = l.length → (∀ (i : Nat) (x : Value),l[i]? = some x → ∃ y : Value,ys[i]? = some y ∧ VR0 κ x y) → ys = l := by
 intro l
 induction l with
 | nil => intro ys bs _ hl _; exact List.eq_nil_of_length_eq_zero (by simpa using hl)
 | cons c l ih =>
  intro ys bs h hl hr
  unfold abytes at h
  split at h
  ·cases ‹_ :: _ = []›
  ·rename_i n l' he
   injection he with h1 h2
   subst h1 h2
   obtain ⟨bs',hb,rfl⟩ := Option.map_eq_some_iff.1 h
   cases ys with
   | nil => simp at hl
   | cons y ys =>
    obtain ⟨y',hy,hv⟩ := hr 0 _ rfl
    simp only [List.getElem?_cons_zero,Option.some.injEq] at hy
    subst hy
    have h1 : y = .int .u8 n := hv
    have h2 := ih ys bs' hb (by simpa using hl) (fun i x hx => by simpa using hr (i + 1) x (by simpa using hx))
    rw [h1,h2]
  ·cases h
theorem astring_sound {ι κ : Inj} {lo : Lo} {st : St} (h : Rel ι lo st w) (hκ : κ = ι ∨ κ = ι.base) {x cx v : Value} (hv : astring (rdB lo st) x = some v) (hx : VR κ x cx) : (Conv.bytesToString cx).run P w = .ok v w ∧ ∃ s,v = .string s := by
 unfold astring at hv
 split at hv
 ·rename_i n c0
  injection hv with hv
  subst hv
  obtain ⟨q,c,rfl,h1,h2,h3⟩ := VR_slice.1 hx
  refine ⟨?_,_,rfl⟩
  have hc : c = 0 := by
   rcases h3 with h3 | ⟨a,ha,_⟩
   ·exact h3
   ·cases ha
  have hn : n = 0 := by omega
  subst hc hn
  cases q with
  | none => simp [Conv.bytesToString]; rfl
  | some q => simp [Conv.bytesToString,loadCells,loadCellsFrom]; rfl
 ·rename_i p n c0
  obtain ⟨cs,hcs,hv⟩ := Option.bind_eq_some_iff.1 hv
  split at hv
  ·rename_i hl
   obtain ⟨bs,hb,rfl⟩ := Option.map_eq_some_iff.1 hv
   obtain ⟨q,c,rfl,h1,h2,h3⟩ := VR_slice.1 hx
   refine ⟨?_,_,rfl⟩
   rcases h3 with h3 | ⟨a,ha,hok,hs,rfl,_⟩
   ·have hn : n = 0 := by omega
    subst hn
    simp only [List.take_zero,abytes,Option.some.injEq] at hb
    subst hb
    cases q with
    | none => simp [Conv.bytesToString]; rfl
    | some q => simp [Conv.bytesToString,loadCells,loadCellsFrom]; rfl
   ·injection ha with ha
    subst ha
    obtain ⟨ys,hy1,hy2,hy3⟩ := h.readN hκ hok hcs n hl
    have hys := abytes_rel _ ys bs hb (by rw [hy1,hl]) hy3
    have hp := abytes_push (P := P) (w := w) _ bs hb ByteArray.empty
    simp only [Conv.bytesToString,Sem.run_bind,run_loadN hy1 hy2,Result.andThen_ok]
    rw [← Array.forIn_toList,hys]
    refine (congrArg (fun r => Result.andThen r fun a w' => Sem.run P (pure (Value.string a)) w') hp).trans ?_
    have e : (ByteArray.empty).data ++ bs.toArray = bs.toArray := by rw [show (ByteArray.empty).data = #[] from rfl]; simp
    rw [e]; rfl
  ·cases hv
 ·cases hv
theorem aconv_sound {ι κ : Inj} {lo : Lo} {st : St} (h : Rel ι lo st w) (hκ : κ = ι ∨ κ = ι.base) {src dst : TypeId} {x cx v : Value} (hv : aconv P src dst (rdB lo st) x = some v) (hx : VR κ x cx) : ∃ cv,(convert src dst cx).run P w = .ok cv w ∧ VR κ v cv ∧ isLit v = true := by
 unfold aconv at hv
 split at hv
 ·obtain ⟨k',hk',hv⟩ := Option.bind_eq_some_iff.1 hv
  obtain ⟨k,hk,rfl⟩ := Option.map_eq_some_iff.1 hv
  obtain rfl := VR_int.1 hx
  refine ⟨_,?_,VR_int.2 rfl,rfl⟩
  simp [convert,run_underlying (tint_under hk'),run_underlying (tint_under hk),Conv.intToInt]
 ·split at hv
  ·rename_i ht
   simp only [Option.some.injEq] at hv
   subst hv
   obtain rfl := VR_string.1 hx
   refine ⟨_,?_,VR_string.2 rfl,rfl⟩
   simp [convert,run_underlying (tstr_under ht.1),run_underlying (tstr_under ht.2)]
  ·cases hv
 ·split at hv
  ·rename_i ht
   split at hv
   ·rename_i e he
    split at hv
    ·rename_i hu
     obtain ⟨h1,s,rfl⟩ := astring_sound (P := P) h hκ hv hx
     obtain ⟨q,c,rfl,_⟩ := VR_slice.1 hx
     refine ⟨_,?_,VR_string.2 rfl,rfl⟩
     simp [convert,run_underlying (tstr_under ht),run_underlying (telem_under he),run_underlying (tint_under hu),h1]
    ·cases hv
   ·cases hv
  ·cases hv
 ·cases hv
theorem amm_sound {mx : Bool} {x y v : Value} (h : amm mx x y = some v) : ((if mx then Builtin.max2 x y else Builtin.min2 x y)).run P w = .ok v w ∧ ∃ k n,v = .int k n := by
 unfold amm at h
 split at h
 ·split at h
  ·rename_i hk
   subst hk
   injection h with h
   subst h
   cases mx
   ·exact ⟨by simp [Builtin.min2],_,_,rfl⟩
   ·exact ⟨by simp [Builtin.max2],_,_,rfl⟩
  ·cases h
 ·cases h
theorem ammF_sound {κ : Inj} {mx : Bool} : ∀ (l ys : List Value) (u v : Value),ammF mx l u = some v → (∃ k n,u = .int k n) → ys.length = l.length → (∀ (i : Nat) (x : Value),l[i]? = some x → ∃ y : Value,ys[i]? = some y ∧ VR κ x y) →
  (ys.foldlM (fun a b => if mx then Builtin.max2 a b else Builtin.min2 a b) u).run P w = .ok v w ∧ ∃ k n,v = .int k n := by
 intro l
 induction l with
 | nil =>
  intro ys u v h hu hl _
  simp only [ammF,Option.some.injEq] at h
  subst h
  obtain rfl := List.eq_nil_of_length_eq_zero (by simpa using hl)
  exact ⟨by simp,hu⟩
 | cons x l ih =>
  intro ys u v h hu hl hr
  unfold ammF at h
  obtain ⟨q,hq,h'⟩ := Option.bind_eq_some_iff.1 h
  clear h
  match ys,hl with
  | y :: ys,hl =>
   obtain ⟨y',hy,hv⟩ := hr 0 _ rfl
   simp only [List.getElem?_cons_zero,Option.some.injEq] at hy
   subst hy
   have hx : ∃ k m,x = .int k m := by
    unfold amm at hq
    split at hq
    ·exact ⟨_,_,rfl⟩
    ·cases hq
   obtain ⟨k,m,rfl⟩ := hx
   obtain rfl := VR_int.1 hv
   obtain ⟨h1,h2⟩ := amm_sound (P := P) (w := w) hq
   obtain ⟨h3,h4⟩ := ih ys q v h' h2 (by simpa using hl) (fun i x hx => by simpa using hr (i + 1) x (by simpa using hx))
   refine ⟨?_,h4⟩
   rw [List.foldlM_cons,Sem.run_bind,h1,Result.andThen_ok]
   exact h3
theorem ammL_sound {κ : Inj} {mx : Bool} {l : List Value} {ys : Array Value} {v : Value} (h : ammL mx l = some v) (hl : ys.size = l.length) (hr : ∀ (i : Nat) (x : Value),l[i]? = some x → ∃ y : Value,ys[i]? = some y ∧ VR κ x y) :
  (if mx then Builtin.max_ #[] 0 ys else Builtin.min_ #[] 0 ys).run P w = .ok v w ∧ ∃ k n,v = .int k n := by
 unfold ammL at h
 split at h
 ·rename_i k n l'
  obtain ⟨ys⟩ := ys
  match ys,hl with
  | y :: ys,hl =>
   obtain ⟨y',hy,hv⟩ := hr 0 _ rfl
   simp only [List.getElem?_toArray,List.getElem?_cons_zero,Option.some.injEq] at hy
   subst hy
   obtain rfl := VR_int.1 hv
   obtain ⟨h1,h2⟩ := ammF_sound (P := P) (w := w) l' ys _ v h ⟨_,_,rfl⟩ (by simpa using hl) (fun i x hx => by simpa using hr (i + 1) x (by simpa using hx))
   refine ⟨?_,h2⟩
   cases mx
   ·simpa [Builtin.min_] using h1
   ·simpa [Builtin.max_] using h1
 ·cases h
theorem alen_sound {κ : Inj} {t : TypeId} {ty : TypeId} {x cx v : Value} {ts : Array TypeId} {cs : Array Value} (h : alen P t x = some v) (hx : VR κ x cx) (ht : ts[0]? = some t) (hc : cs[0]? = some cx) : (Builtin.len_ ts ty cs).run P w = .ok v w ∧ isLit v = true := by
 unfold alen at h
 split at h
 ·split at h
  ·rename_i hs
   injection h with h
   subst h
   obtain rfl := VR_string.1 hx
   exact ⟨by simp [Builtin.len_,ht,hc,run_underlying (tstr_under hs),goInt],rfl⟩
  ·cases h
 ·split at h
  ·rename_i e he
   injection h with h
   subst h
   obtain ⟨q,c,rfl,_⟩ := VR_slice.1 hx
   exact ⟨by simp [Builtin.len_,ht,hc,run_underlying (telem_under he),goInt],rfl⟩
  ·cases h
 ·cases h
theorem fieldPlace_sound {t : TypeId} {i off n : Nat} {ty : TypeId} (h : tfield P t i = some (off,n,ty)) : ∃ fs f,P.underlying t = some (.struct fs) ∧ fs[i]? = some f ∧ f.offset = off ∧ tsize P f.type = some n ∧ f.type = ty := by
 unfold tfield at h
 split at h
 ·rename_i fs hfs
  obtain ⟨f,hf,h⟩ := Option.bind_eq_some_iff.1 h
  obtain ⟨m,hm,h⟩ := Option.map_eq_some_iff.1 h
  simp only [Prod.mk.injEq] at h
  obtain ⟨h1,h2,h3⟩ := h
  exact ⟨fs,f,hfs,hf,h1,h2 ▸ hm,h3⟩
 ·cases h
theorem okA_off {κ : Inj} {p : Addr} (h : okA κ p) (o : Nat) : okA κ ⟨p.block,o,p.spot⟩ := by
 unfold okA at *; exact h
theorem tr_add {κ : Inj} (p : Addr) (o : Nat) : (tr κ p).add o = tr κ ⟨p.block,p.off + o,p.spot⟩ := by
 unfold tr
 cases p.spot with
 | none => simp only [add_plain,Nat.add_assoc]
 | some g => simp only [add_plain]
theorem plain0_VR {κ : Inj} {v : Value} (h : plain0 v = true) : VR0 κ v v := by
 unfold plain0 at h
 split at h
 ·rfl
 ·rfl
 ·rfl
 ·rfl
 ·rfl
 ·exact ⟨none,0,rfl,Nat.le_refl _,Nat.zero_le _,.inl rfl⟩
 ·cases h
theorem tzero_info {t : TypeId} {z : List Value} (h : tzero P t = some z) : ∃ i zv,P.info? t = some i ∧ i.zero = some zv ∧ zv.cells.toList = z ∧ ∀ x ∈ z,plain0 x = true := by
 unfold tzero at h
 obtain ⟨i,hi,h⟩ := Option.bind_eq_some_iff.1 h
 obtain ⟨zv,hz,h⟩ := Option.bind_eq_some_iff.1 h
 split at h
 ·rename_i ha
  injection h with h
  subst h
  exact ⟨i,zv,hi,hz,rfl,fun x hx => List.all_eq_true.1 ha x hx⟩
 ·cases h
theorem run_zero {t : TypeId} {z : List Value} (h : tzero P t = some z) : ∃ zv,(zeroValue t).run P w = .ok zv w ∧ zv.cells.toList = z ∧ ∀ x ∈ z,plain0 x = true := by
 obtain ⟨i,zv,hi,hz,h1,h2⟩ := tzero_info h
 exact ⟨zv,by simp [zeroValue,typeInfo,hi,hz],h1,h2⟩
def RelL (κ : Inj) (xs : List Value) (ys : Array Value) : Prop := ys.size = xs.length ∧ ∀ (i : Nat) (x : Value),xs[i]? = some x → ∃ y : Value,ys[i]? = some y ∧ VR0 κ x y
theorem RelL.plain {κ : Inj} {xs : List Value} (h : ∀ x ∈ xs,plain0 x = true) : RelL κ xs xs.toArray :=
 ⟨by simp,fun i x hx => ⟨x,by simpa using hx,plain0_VR (h x (List.mem_of_getElem? hx))⟩⟩
theorem RelL.set {κ : Inj} {xs : List Value} {ys : Array Value} (h : RelL κ xs ys) (i : Nat) {x y : Value} (hv : VR0 κ x y) : RelL κ (xs.set i x) (ys.setIfInBounds i y) := by
 refine ⟨by simp [h.1],fun j u hu => ?_⟩
 by_cases hj : i = j
 ·subst hj
  have hlt : i < xs.length := by
   have := (List.getElem?_eq_some_iff.1 hu).1
   simpa using this
  rw [List.getElem?_set_self hlt] at hu
  injection hu with hu
  subst hu
  exact ⟨y,by rw [Array.getElem?_setIfInBounds_self_of_lt (by rw [h.1]; exact hlt)],hv⟩
 ·rw [List.getElem?_set_ne hj] at hu
  obtain ⟨v,hv1,hv2⟩ := h.2 j u hu
  exact ⟨v,by rw [Array.getElem?_setIfInBounds_ne hj]; exact hv1,hv2⟩
theorem RelL.splice {κ : Inj} : ∀ (vs ws : List Value) (k off : Nat) (xs : List Value) (ys : Array Value),RelL κ xs ys → ws.length = vs.length → (∀ (i : Nat) (x : Value),vs[i]? = some x → ∃ y : Value,ws[i]? = some y ∧ VR0 κ x y) →
  RelL κ (splice xs (off + k) vs) ((ws.zipIdx k).foldl (fun cs (p : Value × Nat) => cs.setIfInBounds (off + p.2) p.1) ys) := by
 intro vs
 induction vs with
 | nil =>
  intro ws k off xs ys h hl _
  obtain rfl := List.eq_nil_of_length_eq_zero (by simpa using hl)
  exact h
 | cons v vs ih =>
  intro ws k off xs ys h hl hr
  match ws,hl with
  | y :: ws,hl =>
   obtain ⟨y',hy,hv⟩ := hr 0 _ rfl
   simp only [List.getElem?_cons_zero,Option.some.injEq] at hy
   subst hy
   have := ih ws (k + 1) off (xs.set (off + k) v) (ys.setIfInBounds (off + k) y) (h.set _ hv) (by simpa using hl) (fun i x hx => by simpa using hr (i + 1) x (by simpa using hx))
   simpa [AM.splice,List.zipIdx_cons,Nat.add_assoc] using this
theorem cells_rel {κ : Inj} {v cv : Value} (h : VR κ v cv) (hc : v.cells.toList.all isCell = true) : RelL κ v.cells.toList cv.cells := by
 cases v with
 | agg cs =>
  obtain ⟨ds,rfl,h1,h2⟩ := VR_agg.1 h
  exact ⟨by simp [Value.cells,h1],fun i x hx => h2 i x (by simpa [Value.cells] using hx)⟩
 | tuple vs => simp [Value.cells,isCell] at hc
 | chan r => simp [Value.cells,isCell] at hc
 | _ =>
  have h0 := VR0_of (by rfl) h
  have hne : ∀ ds,cv ≠ .agg ds := by
   rintro ds rfl
   first
    | (simp [VR0] at h0; done)
    | (rename_i a; cases a <;> simp [VR0] at h0)
  have hcv : cv.cells = #[cv] := by cases cv <;> first | rfl | exact absurd rfl (hne _)
  rw [hcv]
  refine ⟨rfl,fun i x hx => ?_⟩
  cases i with
  | zero =>
   simp only [Value.cells,List.getElem?_cons_zero,Option.some.injEq] at hx
   subst hx
   exact ⟨cv,rfl,h0⟩
  | succ i => simp [Value.cells] at hx
theorem afill_sound {κ : Inj} {place : Nat → Option (Nat × Nat)} : ∀ (ps qs : List (Nat × Value)) (xs r : List Value) (ys : Array Value),afill place xs ps = some r → RelL κ xs ys → qs.length = ps.length →
  (∀ (i : Nat) (p : Nat × Value),ps[i]? = some p → ∃ q : Nat × Value,qs[i]? = some q ∧ q.1 = p.1 ∧ VR κ p.2 q.2) → ∃ zs,Instr.fill place ys qs = some zs ∧ RelL κ r zs := by
 intro ps
 induction ps with
 | nil =>
  intro qs xs r ys h hr hl _
  simp only [afill,Option.some.injEq] at h
  subst h
  obtain rfl := List.eq_nil_of_length_eq_zero (by simpa using hl)
  exact ⟨ys,rfl,hr⟩
 | cons p ps ih =>
  intro qs xs r ys h hr hl hq
  match qs,hl with
  | q :: qs,hl =>
   obtain ⟨i,v⟩ := p
   obtain ⟨q',hq1,hq2,hv⟩ := hq 0 _ rfl
   simp only [List.getElem?_cons_zero,Option.some.injEq] at hq1
   subst hq1
   obtain ⟨j,cv⟩ := q
   simp only at hq2 hv
   subst hq2
   unfold afill at h
   obtain ⟨⟨off,size⟩,hp,h⟩ := Option.bind_eq_some_iff.1 h
   split at h
   ·rename_i hc
    obtain ⟨hc1,hc2,hc3⟩ := hc
    simp only at hc1 hc2 h
    have hcr := cells_rel hv hc3
    have hs := RelL.splice v.cells.toList cv.cells.toList 0 off xs ys hr (by rw [Array.length_toList,hcr.1]) (fun i x hx => by simpa using hcr.2 i x hx)
    obtain ⟨zs,hz1,hz2⟩ := ih qs _ r _ h hs (by simpa using hl) (fun i p hp => by simpa using hq (i + 1) p (by simpa using hp))
    refine ⟨zs,?_,hz2⟩
    unfold Instr.fill
    have e1 : cv.cells.size = size := by rw [hcr.1]; exact hc1
    rw [hp]
    simp only
    rw [if_neg (by simp [e1,hr.1]; omega)]
    rw [← hz1]
    congr 1
    rw [← Array.foldl_toList,Array.toList_zipIdx]
   ·cases h
theorem tplaces_sound {t : TypeId} {pl : List (Nat × Nat)} (h : tplaces P t = some pl) : ∃ fs,P.underlying t = some (.struct fs) ∧ (fs.mapM fun f => Prod.mk f.offset <$> sizeOf f.type : Sem (Array (Nat × Nat))).run P w = .ok pl.toArray w := by
 unfold tplaces at h
 split at h
 ·rename_i fs hfs
  refine ⟨fs,hfs,?_⟩
  obtain ⟨fs⟩ := fs
  have key : ∀ (l : List Field) (pl : List (Nat × Nat)),(l.mapM fun f => (tsize P f.type).map fun n => (f.offset,n)) = some pl → (l.mapM fun f => Prod.mk f.offset <$> sizeOf f.type : Sem (List (Nat × Nat))).run P w = .ok pl w := by
   intro l
   induction l with
   | nil => intro pl h; simp at h; subst h; simp
   | cons f l ih =>
    intro pl h
    rw [List.mapM_cons] at h
    obtain ⟨a,ha,h⟩ := Option.bind_eq_some_iff.1 h
    obtain ⟨b,hb,h⟩ := Option.bind_eq_some_iff.1 h
    obtain ⟨n,hn,rfl⟩ := Option.map_eq_some_iff.1 ha
    simp only [Option.pure_def,Option.some.injEq] at h
    subst h
    simp [List.mapM_cons,run_sizeOf hn,ih b hb]
  have := key fs pl (by simpa using h)
  rw [List.mapM_toArray]
  simp [this]
 ·cases h
theorem abuild_sound {κ : Inj} {t : TypeId} {ps : List (Nat × Value)} {qs : Array (Nat × Value)} {v : Value} (h : abuild P t ps = some v) (hl : qs.size = ps.length)
  (hq : ∀ (i : Nat) (p : Nat × Value),ps[i]? = some p → ∃ q : Nat × Value,qs[i]? = some q ∧ q.1 = p.1 ∧ VR κ p.2 q.2) : ∃ cv,(Instr.build t qs).run P w = .ok cv w ∧ VR κ v cv := by
 unfold abuild at h
 obtain ⟨z,hz,h⟩ := Option.bind_eq_some_iff.1 h
 obtain ⟨pl,hp,h⟩ := Option.bind_eq_some_iff.1 h
 obtain ⟨c,hc,rfl⟩ := Option.map_eq_some_iff.1 h
 obtain ⟨zv,hz1,hz2,hz3⟩ := run_zero (P := P) (w := w) hz
 obtain ⟨fs,hfs,hm⟩ := tplaces_sound (P := P) (w := w) hp
 have hr : RelL κ z zv.cells := by rw [← hz2]; simpa using RelL.plain (κ := κ) (xs := zv.cells.toList) (by rw [hz2]; exact hz3)
 obtain ⟨zs,h1,h2⟩ := afill_sound (κ := κ) ps qs.toList z c zv.cells hc hr (by simpa using hl) (fun i p hp => by simpa using hq i p hp)
 refine ⟨.agg zs,?_,VR_agg.2 ⟨zs,rfl,by simp [h2.1],fun i u hu => h2.2 i u (by simpa using hu)⟩⟩
 simp [Instr.build,hz1,run_underlying hfs,hm,h1]
theorem parts_rel {κ : Inj} {e : Operand → Value} {a : Act} {ps : Array (Nat × Operand)} (h : ∀ p ∈ ps,VR κ (e p.2) (a.eval p.2)) :
  ∀ (i : Nat) (p : Nat × Value),(parts e ps)[i]? = some p → ∃ q : Nat × Value,(ps.map fun (i,x) => (i,a.eval x))[i]? = some q ∧ q.1 = p.1 ∧ VR κ p.2 q.2 := by
 intro i p hp
 unfold parts at hp
 rw [List.getElem?_map,Option.map_eq_some_iff] at hp
 obtain ⟨q,hq,rfl⟩ := hp
 have hq' : ps[i]? = some q := by simpa using hq
 exact ⟨(q.1,a.eval q.2),by simp [hq'],rfl,h q (Array.mem_of_getElem? hq')⟩
theorem rop_sound {ι κ : Inj} {lo : Lo} {st : St} (h : Rel ι lo st w) (hκ : κ = ι ∨ κ = ι.base) {o : Oper} {a : Act} {e : Operand → Value} {v : Value} (hr : rop P o.op e (rdB lo st) = some v) (hop : ∀ x ∈ o.op.operands,VR κ (e x) (a.eval x)) (hnb : ∀ t n ps,o.op ≠ .buildSlice t n ps) :
  ∃ cv,(execOp a.eval o).run P w = .ok (.value cv) w ∧ VR κ v cv ∧ (isLoad o.op = true → VR ι.base v cv) := by
 obtain ⟨dst,op,type,pos,after,guard⟩ := o
 simp only at hr hop hnb ⊢
 unfold rop at hr
 split at hr
 ·injection hr with hr
  subst hr
  exact ⟨_,by simp [execOp],hop _ (by simp [Op.operands]),fun h => by cases h⟩
 ·injection hr with hr
  subst hr
  exact ⟨_,by simp [execOp],hop _ (by simp [Op.operands]),fun h => by cases h⟩
 ·rename_i c x y
  have hc := hop c (by simp [Op.operands])
  split at hr
  ·rename_i hb
   rw [hb] at hc
   injection hr with hr
   subst hr
   exact ⟨_,by simp [execOp,VR_bool.1 hc,asBool],hop x (by simp [Op.operands]),fun h => by cases h⟩
  ·rename_i hb
   rw [hb] at hc
   injection hr with hr
   subst hr
   exact ⟨_,by simp [execOp,VR_bool.1 hc,asBool],hop y (by simp [Op.operands]),fun h => by cases h⟩
  ·cases hr
 ·rename_i t x
  have hx := hop x (by simp [Op.operands])
  split at hr
  ·rename_i p hp
   rw [hp] at hx
   obtain ⟨hok,hx⟩ := VR_pointer.1 hx
   obtain ⟨cs,hcs,hv⟩ := Option.bind_eq_some_iff.1 hr
   obtain ⟨cv,h1,h2⟩ := aload_sound (P := P) h hκ hok hcs hv
   refine ⟨cv,?_,?_,fun _ => h2⟩
   ·simp [execOp,Instr.loadAt,hx,Instr.sureAddr,h1]
   ·rcases hκ with rfl | rfl
    ·exact VR_mono (Ext.ofBase _) h2
    ·exact h2
  ·cases hr
 ·rename_i x
  have hx := hop x (by simp [Op.operands])
  split at hr
  ·rename_i p hp
   rw [hp] at hx
   injection hr with hr
   subst hr
   exact ⟨_,by simp [execOp,(VR_pointer.1 hx).2],VR_pointer.2 ⟨(VR_pointer.1 hx).1,rfl⟩,fun h => by cases h⟩
  ·cases hr
 ·rename_i op t x y yt
  obtain ⟨cv,h1,h2⟩ := abin_sound (P := P) (w := w) (ox := x) (oy := y) hr (hop x (by simp [Op.operands])) (hop y (by simp [Op.operands]))
  refine ⟨cv,?_,h2,fun h => by cases h⟩
  simp only [execOp]
  rw [Sem.run_bind,h1]
  simp
 ·rename_i op t x
  obtain ⟨cv,h1,h2⟩ := aun_sound (P := P) (w := w) hr (hop x (by simp [Op.operands]))
  exact ⟨cv,by simp [execOp,h1],h2,fun h => by cases h⟩
 ·rename_i src dst x
  obtain ⟨cv,h1,h2,_⟩ := aconv_sound (P := P) h hκ hr (hop x (by simp [Op.operands]))
  exact ⟨cv,by simp [execOp,h1],h2,fun h => by cases h⟩
 ·rename_i t ps
  obtain ⟨cv,h1,h2⟩ := abuild_sound (P := P) (w := w) hr (by simp [parts]) (parts_rel fun p hp => hop p.2 (by simp [Op.operands]; exact ⟨p.1,by simpa using hp⟩))
  exact ⟨cv,by simp [execOp,h1],h2,fun h => by cases h⟩
 ·rename_i f fs cs
  split at hr
  ·rename_i hz
   injection hr with hr
   subst hr
   obtain rfl : fs = #[] := Array.eq_empty_of_size_eq_zero hz.1
   obtain rfl : cs = #[] := Array.eq_empty_of_size_eq_zero hz.2
   exact ⟨_,by simp [execOp,Instr.makeFunc],VR_func.2 ⟨rfl,rfl,rfl⟩,fun h => by cases h⟩
  ·cases hr
 ·rename_i t x lo hi
  obtain ⟨cv,h1,h2⟩ := aslice_sound (P := P) (w := w) hr (hop x (by simp [Op.operands])) (ORel_map lo fun y hy => hop y (by simp [Op.operands,hy])) (ORel_map hi fun y hy => hop y (by simp [Op.operands,hy]))
  exact ⟨cv,by simp [execOp,h1],h2,fun h => by cases h⟩
 ·rename_i t x i
  have hx := hop x (by simp [Op.operands])
  split at hr
  ·rename_i p off n ty hp hf
   rw [hp] at hx
   obtain ⟨hok,hx⟩ := VR_pointer.1 hx
   split at hr
   ·cases hr
   ·rename_i hn
    injection hr with hr
    subst hr
    obtain ⟨fs,f,h1,h2,h3,h4,h5⟩ := fieldPlace_sound hf
    refine ⟨_,?_,VR_pointer.2 ⟨okA_off hok _,rfl⟩,fun h => by cases h⟩
    subst h3
    simp [execOp,Instr.fieldAt,run_underlying h1,h2,hx,Instr.sureAddr,fieldPlace,run_sizeOf h4,hn,tr_add]
  ·cases hr
 ·rename_i t x i
  have hx := hop x (by simp [Op.operands])
  split at hr
  ·rename_i cs off n ty hp hf
   rw [hp] at hx
   obtain ⟨ds,hd,h1,h2⟩ := VR_agg.1 hx
   obtain ⟨fs,f,h3,h4,h5,h6,h7⟩ := fieldPlace_sound hf
   subst h7 h5
   obtain ⟨cv,h8,h9⟩ := apart_sound (P := P) (w := w) h6 h1 h2 hr
   refine ⟨cv,?_,h9,fun h => by cases h⟩
   simp [execOp,Instr.field,run_underlying h3,h4,hd,asAgg,h8]
  ·cases hr
 ·rename_i t x i
  have hx := hop x (by simp [Op.operands])
  have hi := hop i (by simp [Op.operands])
  split at hr
  ·rename_i p n c k j e hp hj he
   rw [hp] at hx
   rw [hj] at hi
   obtain ⟨z,hz,hr⟩ := Option.bind_eq_some_iff.1 hr
   split at hr
   ·rename_i hb
    injection hr with hr
    subst hr
    obtain ⟨q,c',hq,h1,h2,h3⟩ := VR_slice.1 hx
    rcases h3 with h3 | ⟨a',ha,hok,hs,rfl,_⟩
    ·omega
    ·injection ha with ha
     subst ha
     refine ⟨_,?_,VR_pointer.2 ⟨okA_off hok _,rfl⟩,fun h => by cases h⟩
     simp [execOp,Instr.indexAt,VR_int.1 hi,asIntOf,run_underlying (telem_under he),hq,hb,run_sizeOf hz,tr_add]
   ·cases hr
  ·cases hr
 ·rename_i t x i
  have hx := hop x (by simp [Op.operands])
  have hi := hop i (by simp [Op.operands])
  split at hr
  ·rename_i s k j hp hj
   rw [hp] at hx
   rw [hj] at hi
   split at hr
   ·rename_i hb
    obtain ⟨b,hb2,rfl⟩ := Option.map_eq_some_iff.1 hr
    refine ⟨_,?_,VR_int.2 rfl,fun h => by cases h⟩
    simp [execOp,Instr.index,VR_int.1 hi,asIntOf,run_underlying (tstr_under hb.1),VR_string.1 hx,hb.2,hb2]
   ·cases hr
  ·cases hr
 ·rename_i x i
  have hx := hop x (by simp [Op.operands])
  split at hr
  ·rename_i vs hp
   rw [hp] at hx
   have hx' : vs.size = 0 ∨ ∃ us,a.eval x = .tuple us ∧ us.size = vs.size ∧ ∀ (i : Nat) (u : Value),vs[i]? = some u → ∃ v : Value,us[i]? = some v ∧ VR1 κ u v := hx
   rcases hx' with h0 | ⟨us,h1,h2,h3⟩
   ·rw [Array.getElem?_eq_none (by omega)] at hr
    cases hr
   ·obtain ⟨cv,h4,h5⟩ := h3 i v hr
    refine ⟨cv,by simp [execOp,Instr.extract,h1,h4],?_,fun h => by cases h⟩
    cases v with
    | tuple vs => exact h5.elim
    | chan r => exact h5.elim
    | _ => exact h5
  ·cases hr
 ·rename_i c
  have hargs : ∀ (i : Nat) (x : Value),(c.args.map e).toList[i]? = some x → ∃ y : Value,(c.args.map a.eval)[i]? = some y ∧ VR κ x y := by
   intro i x hx
   rw [Array.getElem?_toList,Array.getElem?_map,Option.map_eq_some_iff] at hx
   obtain ⟨q,hq,rfl⟩ := hx
   exact ⟨a.eval q,by simp [hq],hop q (by simp [Op.operands,Call.operands]; exact .inr (Array.mem_of_getElem? hq))⟩
  split at hr
  ·rename_i hcal
   split at hr
   ·rename_i t x ht hx
    obtain ⟨y,hy,hv⟩ := hargs 0 x (by simpa using hx)
    obtain ⟨h1,h2⟩ := alen_sound (P := P) (w := w) (ty := type) hr hv ht hy
    exact ⟨v,by simp [execOp,resolve,hcal,invoke,builtin,h1],VR_refl_cell h2,fun h => by cases h⟩
   ·cases hr
  ·rename_i hcal
   obtain ⟨h1,k,n,rfl⟩ := ammL_sound (P := P) (w := w) (ys := c.args.map a.eval) hr (by simp) hargs
   simp only [if_true] at h1
   refine ⟨_,?_,VR_int.2 rfl,fun h => by cases h⟩
   have h1' : ∀ ts ty,(Builtin.max_ ts ty (c.args.map a.eval)).run P w = .ok (.int k n) w := fun _ _ => h1
   simp [execOp,resolve,hcal,invoke,builtin,h1']
  ·rename_i hcal
   obtain ⟨h1,k,n,rfl⟩ := ammL_sound (P := P) (w := w) (ys := c.args.map a.eval) hr (by simp) hargs
   simp only [Bool.false_eq_true,if_false] at h1
   refine ⟨_,?_,VR_int.2 rfl,fun h => by cases h⟩
   have h1' : ∀ ts ty,(Builtin.min_ ts ty (c.args.map a.eval)).run P w = .ok (.int k n) w := fun _ _ => h1
   simp [execOp,resolve,hcal,invoke,builtin,h1']
  ·cases hr
 ·exact absurd rfl (hnb _ _ _)
 ·cases hr
end
end Go.Proofs.YteabadoaeadcgaaDoor.AM
