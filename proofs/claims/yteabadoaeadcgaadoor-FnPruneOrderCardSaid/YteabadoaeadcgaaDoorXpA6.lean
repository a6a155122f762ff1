/- A part of the machine on which the law's proof rests. -/
import Derived.Test.YteabadoaeadcgaaDoorXpA5
namespace Go.Proofs.YteabadoaeadcgaaDoor.AM
open Go Go.RowKit
set_option linter.unusedVariables false
set_option linter.unusedSimpArgs false
def GL (P : Program) (ι : Inj) : Prop := ∀ g,g < P.globals.size → g < ι.n ∧ ι.h g = (g,0)
theorem GL.mono {P : Program} {ι ι' : Inj} (h : GL P ι) (hE : Ext ι ι') : GL P ι' := fun g hg =>
 ⟨Nat.lt_of_lt_of_le (h g hg).1 hE.n,by rw [hE.h g (h g hg).1]; exact (h g hg).2⟩
def FR (ι : Inj) (T : List Tmp) (ρ : Tm) (a : Act) : Prop := ∀ t,VR (if T.contains t = true then ι else ι.base) (ρ t) (a.tmps.getD t undef)
structure SRel (P : Program) (T : List Tmp) (n : Nat) (ι : Inj) (lo : Lo) (st : St) (ρ : Tm) (a : Act) (w : World) : Prop where
 rel : Rel ι lo st w
 fr : FR ι T ρ a
 gl : GL P ι
 size : a.tmps.size = n
 defers : a.defers = []
theorem plainV_VR {κ : Inj} {v : Value} (h : plainV v = true) : VR κ v v := by
 unfold plainV at h
 split at h
 ·rename_i cs
  refine VR_agg.2 ⟨cs,rfl,rfl,fun i u hu => ⟨u,hu,plain0_VR (List.all_eq_true.1 h u ?_)⟩⟩
  exact Array.mem_toList_iff.2 (Array.mem_of_getElem? hu)
 ·rename_i vs
  exact .inl (by simpa using h)
 ·exact VR_of0' (plain0_VR h)
section
variable {P : Program} {T : List Tmp} {n : Nat} {ι : Inj} {lo : Lo} {st : St} {ρ : Tm} {a : Act} {w : World}
theorem ev_global (h : GL P ι) {g : Nat} (hg : g < P.globals.size) : VR ι.base (.pointer (some ⟨g,0,none⟩)) (.pointer (some ⟨g,0,none⟩)) := by
 obtain ⟨h1,h2⟩ := h g hg
 refine VR_pointer.2 ⟨h1,?_⟩
 simp only [tr]
 show Value.pointer (some ⟨g,0,none⟩) = Value.pointer (some (⟨(ι.h g).1,(ι.h g).2 + 0,none⟩ : Addr))
 rw [h2]
theorem ev_opnd (h : SRel P T n ι lo st ρ a w) {x : Operand} (hx : opndOk P.globals.size T x = true) : VR ι.base (ev ρ x) (a.eval x) := by
 cases x with
 | tmp t =>
  have := h.fr t
  simp only [opndOk,Bool.not_eq_true'] at hx
  rw [if_neg (by rw [hx]; decide)] at this
  exact this
 | const v => exact plainV_VR hx
 | global g => exact ev_global h.gl (by simpa [opndOk] using hx)
 | func f => exact VR_func.2 ⟨rfl,rfl,rfl⟩
theorem ev_const (h : SRel P T n ι lo st ρ a w) {x : Operand} (hx : constOk P.globals.size x = true) : VR ι (ev ρ x) (a.eval x) := by
 cases x with
 | tmp t =>
  have := h.fr t
  split at this
  ·exact this
  ·exact VR_mono (Ext.ofBase _) this
 | const v => exact plainV_VR hx
 | global g => exact VR_mono (Ext.ofBase _) (ev_global h.gl (by simpa [constOk] using hx))
 | func f => exact VR_func.2 ⟨rfl,rfl,rfl⟩
theorem ev_notT (h : SRel P T n ι lo st ρ a w) {x : Operand} (hx : constOk P.globals.size x = true) (hT : inT T x = false) : VR ι.base (ev ρ x) (a.eval x) := by
 refine ev_opnd h ?_
 cases x <;> simp_all [opndOk,constOk,inT]
theorem SRel.step (h : SRel P T n ι lo st ρ a w) {ι' : Inj} {lo' : Lo} {st' : St} {w' : World} (hg : Goes ι lo st w ι' lo' st' w') {o : Oper} (hd : dstOk n o = true) {v cv : Value} (hv : VR (if dstIn T o.dst = true then ι' else ι'.base) v cv) :
  SRel P T n ι' lo' st' (Tm.putO ρ o.dst v) (a.put o.dst cv) w' := by
 have mono : ∀ t x y,VR (if T.contains t = true then ι else ι.base) x y → VR (if T.contains t = true then ι' else ι'.base) x y := by
  intro t x y hxy
  split
  ·rename_i ht; rw [if_pos ht] at hxy; exact VR_mono hg.ext hxy
  ·rename_i ht; rw [if_neg ht] at hxy; exact VR_mono hg.ext.base hxy
 refine ⟨hg.rel,fun t => ?_,h.gl.mono hg.ext,?_,?_⟩
 ·cases hdst : o.dst with
  | none => exact mono t _ _ (h.fr t)
  | some d =>
   rw [hdst] at hv
   have hlt : d < n := by simpa [dstOk,hdst] using hd
   have hsz := h.size
   simp only [Tm.putO,Tm.put,Act.put]
   by_cases ht : t = d
   ·rw [if_pos ht,ht]
    have : (a.tmps.setIfInBounds d cv).getD d undef = cv := by
     rw [Array.getD_eq_getD_getElem?,Array.getElem?_setIfInBounds_self_of_lt (by rw [hsz]; exact hlt)]
     rfl
    rw [this]
    exact hv
   ·rw [if_neg ht]
    have : (a.tmps.setIfInBounds d cv).getD t undef = a.tmps.getD t undef := by
     rw [Array.getD_eq_getD_getElem?,Array.getElem?_setIfInBounds_ne (fun e => ht e.symm),← Array.getD_eq_getD_getElem?]
    rw [this]
    exact mono t _ _ (h.fr t)
 ·cases hdst : o.dst with
  | none => exact h.size
  | some d => simp [Act.put,h.size]
 ·cases hdst : o.dst with
  | none => exact h.defers
  | some d => exact h.defers
theorem putK {o : Oper} {ι : Inj} {v cv : Value} (h : VR ι.base v cv) : VR (if dstIn T o.dst = true then ι else ι.base) v cv := by
 split
 ·exact VR_mono (Ext.ofBase _) h
 ·exact h
theorem rop_step (h : SRel P T n ι lo st ρ a w) {o : Oper} {ls : List Tmp} (hesc : escOk P.globals.size ls T o = true) {v : Value} (hr : rop P o.op (ev ρ) (rdB lo st) = some v) (hnb : ∀ t n ps,o.op ≠ .buildSlice t n ps) :
  ∃ cv,(execOp a.eval o).run P w = .ok (.value cv) w ∧ VR (if dstIn T o.dst = true then ι else ι.base) v cv := by
 have moves : ∀ x,o.op.operands = #[x] → (constOk P.globals.size x && (!inT T x || dstIn T o.dst)) = true → ∃ cv,(execOp a.eval o).run P w = .ok (.value cv) w ∧ VR (if dstIn T o.dst = true then ι else ι.base) v cv := by
  intro x hx hc
  simp only [Bool.and_eq_true,Bool.or_eq_true,Bool.not_eq_true'] at hc
  by_cases hT : inT T x = false
  ·obtain ⟨cv,h1,h2,_⟩ := rop_sound (P := P) h.rel (.inr rfl) (a := a) hr (fun y hy => (show y = x by simpa [hx] using hy) ▸ ev_notT h hc.1 hT) hnb
   exact ⟨cv,h1,putK h2⟩
  ·obtain ⟨cv,h1,h2,_⟩ := rop_sound (P := P) h.rel (.inl rfl) (a := a) hr (fun y hy => (show y = x by simpa [hx] using hy) ▸ ev_const h hc.1) hnb
   refine ⟨cv,h1,?_⟩
   rw [if_pos (hc.2.resolve_left hT)]
   exact h2
 have others : (o.op.operands.toList.all (opndOk P.globals.size T)) = true → ∃ cv,(execOp a.eval o).run P w = .ok (.value cv) w ∧ VR (if dstIn T o.dst = true then ι else ι.base) v cv := by
  intro hall
  obtain ⟨cv,h1,h2,_⟩ := rop_sound (P := P) h.rel (.inr rfl) (a := a) hr (fun y hy => ev_opnd h (List.all_eq_true.1 hall y (Array.mem_toList_iff.2 hy))) hnb
  exact ⟨cv,h1,putK h2⟩
 unfold escOk at hesc
 split at hesc
 ·rename_i x ho; exact moves x (by rw [ho]; rfl) hesc
 ·rename_i x ho; exact moves x (by rw [ho]; rfl) hesc
 ·rename_i x ho; exact moves x (by rw [ho]; rfl) hesc
 ·rename_i t x i ho; exact moves x (by rw [ho]; rfl) hesc
 ·rename_i t x ho
  obtain ⟨cv,h1,h2,h3⟩ := rop_sound (P := P) h.rel (.inl rfl) (a := a) hr (fun y hy => (show y = x by simpa [ho,Op.operands] using hy) ▸ ev_const h hesc) hnb
  exact ⟨cv,h1,putK (h3 (by rw [ho]; rfl))⟩
 ·rename_i t x u ho; rw [ho] at hr; simp [rop] at hr
 ·rename_i t x ho; rw [ho] at hr; simp [rop] at hr
 ·rename_i t ho; rw [ho] at hr; simp [rop] at hr
 ·exact others hesc
def CallsOK (P : Program) (call : ACallT) : Prop := ∀ f args st v st',call f args st = some (v,st') → ∀ (ι : Inj) (w : World) (cargs : Array Value),ι.g = 0 → GL P ι → Rel ι lo0 st w →
 cargs.size = args.length → (∀ (i : Nat) (x : Value),args[i]? = some x → ∃ y : Value,cargs[i]? = some y ∧ VR ι x y) →
 ((callFunc f cargs).run P w = .ok (.enter f cargs) w ∧ Calls P f cargs w (fun e w' => ∃ cv ι',e = .returned cv ∧ ι'.g = 0 ∧ Goes ι lo0 st w ι' lo0 st' w' ∧ VR ι' v cv)) ∨
 (∃ cv ι' w',(callFunc f cargs).run P w = .ok (.value cv) w' ∧ ι'.g = 0 ∧ Goes ι lo0 st w ι' lo0 st' w' ∧ VR ι' v cv)
theorem base_self {ι : Inj} (h : ι.g = 0) : ι.base = ι := by
 obtain ⟨a,b,c,d,e⟩ := ι
 simp only at h
 subst h
 rfl
theorem Rel.callee (h : Rel ι lo st w) : Rel ι.base lo0 st w :=
 ⟨h.n,rfl,h.lt,fun a b hb => h.hk a b hb,fun t g cs ht => by simp [lo0] at ht,fun t g cs ht => by simp [lo0] at ht,h.hh,fun a b t g cs _ ht => by simp [lo0] at ht,
  fun t g cs t' g' cs' _ ht _ => by simp [lo0] at ht,h.hb⟩
theorem Goes.back (h : Rel ι lo st w) {ι1 : Inj} {st' : St} {w' : World} (hg0 : ι1.g = 0) (k : Goes ι.base lo0 st w ι1 lo0 st' w') :
  Goes ι lo st w { ι1 with l := ι.l,g := ι.g } lo st' w' ∧ Ext ι1 ({ ι1 with l := ι.l,g := ι.g } : Inj).base := by
 have hE1 : Ext ι1 ({ ι1 with l := ι.l,g := ι.g } : Inj).base := ⟨Nat.le_refl _,by rw [hg0]; exact Nat.zero_le _,fun _ _ => rfl,fun _ _ => rfl,fun _ g hg => by rw [hg0] at hg; omega⟩
 have hE : Ext ι { ι1 with l := ι.l,g := ι.g } := ⟨k.ext.n,Nat.le_refl _,k.ext.h,k.ext.cap,fun _ _ _ => rfl⟩
 have himg : ∀ b,img ι.base lo0 st b → img ι lo st b := by
  rintro b (⟨a,blk,ha,hr,rfl⟩ | ⟨t,g,cs,ht,rfl⟩)
  ·exact .inl ⟨a,blk,ha,hr,rfl⟩
  ·simp [lo0] at ht
 have hkeep : ∀ t g cs,lo.loc t = some (g,cs) → w'.heap[ι.l t g]? = w.heap[ι.l t g]? := by
  intro t g cs ht
  refine k.frm.keep _ (h.lt_l ht) ?_
  rintro (⟨a,blk,ha,hr,he⟩ | ⟨t',g',cs',ht',he⟩)
  ·exact h.hl a blk t g cs ha ht he
  ·simp [lo0] at ht'
 refine ⟨⟨hE,⟨k.rel.n,h.g,k.rel.lt,fun a b hb => ?_,h.lg,fun t g cs ht => (h.lk t g cs ht).mono hE (by rw [h.g]; exact h.lg t g cs ht) (hkeep t g cs ht),k.rel.hh,fun a b t g cs hb ht => ?_,h.ll,k.rel.hb⟩,k.frm.imp himg,?_,k.ro⟩,hE1⟩
 ·obtain ⟨h1,h2⟩ := k.rel.hk a b hb
  exact ⟨fun i x hx => by obtain ⟨y,hy,hv⟩ := h1 i x hx; exact ⟨y,hy,VR0_mono (by rw [← base_self hg0] at hE1; exact hE1.base) hv⟩,h2⟩
 ·show (ι1.h a).1 ≠ ι.l t g
  have hlt := h.lt_l ht
  cases hr : b.rw with
  | true =>
   rcases k.sub (ι1.h a).1 (.inl ⟨a,b,hb,hr,rfl⟩) with hi | hi
   ·rcases hi with ⟨a',b',ha',_,he⟩ | ⟨t',g',cs',ht',_⟩
    ·rw [← he]; exact h.hl a' b' t g cs ha' ht
    ·simp [lo0] at ht'
   ·omega
  | false =>
   have hb0 := k.ro a b hb hr
   have := k.ext.h a (by show a < ι.n; rw [h.n]; exact h.lt a b hb0)
   rw [this]
   exact h.hl a b t g cs hb0 ht
 ·rintro b (⟨a,blk,ha,hr,rfl⟩ | ⟨t,g,cs,ht,rfl⟩)
  ·rcases k.sub (ι1.h a).1 (.inl ⟨a,blk,ha,hr,rfl⟩) with hi | hi
   ·exact .inl (himg _ hi)
   ·exact .inr hi
  ·exact .inl (.inr ⟨t,g,cs,ht,rfl⟩)
theorem new_run (P : Program) (w : World) (elem : TypeId) (v : Value) : (Instr.box elem v).run P w = .ok (.pointer (some ⟨w.heap.size,0,none⟩)) (w.alloc (.cells v.cells elem)) := by
 simp [Instr.box,newVar,newRow]
theorem op_step {call : ACallT} (hcall : CallsOK P call) (h : SRel P T n ι lo st ρ a w) {o : Oper} {ls : List Tmp} (hesc : escOk P.globals.size ls T o = true) (hd : dstOk n o = true) {v : Value} {lo' : Lo} {st' : St} (hs : aoper P ls call o (ev ρ) lo st = some (v,lo',st'))
  {K : Act → World → Prop} {Q : Exit → Act → World → Prop} (hK : ∀ ι' cv w',SRel P T n ι' lo' st' (Tm.putO ρ o.dst v) (a.put o.dst cv) w' → Goes ι lo st w ι' lo' st' w' → K (a.put o.dst cv) w') : o.wp P a w K Q := by
 have fin : ∀ ι' w' cv,(execOp a.eval o).run P w = .ok (.value cv) w' → Goes ι lo st w ι' lo' st' w' → VR (if dstIn T o.dst = true then ι' else ι'.base) v cv → o.wp P a w K Q := by
  intro ι' w' cv hr hg hv
  unfold Oper.wp
  rw [hr]
  exact hK ι' cv w' (h.step hg hd hv) hg
 have ropc : (∀ t n ps,o.op ≠ .buildSlice t n ps) → (rop P o.op (ev ρ) (rdB lo st)).map (fun v => (v,lo,st)) = some (v,lo',st') → o.wp P a w K Q := by
  intro hnb hr
  obtain ⟨u,hu,he⟩ := Option.map_eq_some_iff.1 hr
  simp only [Prod.mk.injEq] at he
  obtain ⟨rfl,rfl,rfl⟩ := he
  obtain ⟨cv,h1,h2⟩ := rop_step h hesc hu hnb
  exact fin ι w cv h1 (Goes.refl h.rel) h2
 unfold aoper at hs
 split at hs
 ·rename_i el x ho
  rw [escOk,ho] at hesc
  simp only [Bool.and_eq_true] at hesc
  split at hs
  ·rename_i hb
   have hv := ev_opnd h hesc.1
   have hcell : (ev ρ x).cells.toList.all isCell = true := by
    unfold anew at hs
    split at hs
    ·cases hs
    ·split at hs
     ·assumption
     ·cases hs
   obtain ⟨ι',hg,hv1,hv2⟩ := anew_sound h.rel hs (c := (a.eval x).cells) (e := el) (cells_rel hv hcell)
   refine fin ι' _ (.pointer (some ⟨w.heap.size,0,none⟩)) (by simp only [execOp,ho,Sem.run_bind,new_run,Result.andThen_ok,Sem.run_pure]) hg ?_
   rcases hv2 with ⟨d,hdst,hls⟩ | hv2
   ·rw [hdst] at hesc ⊢
    have : T.contains d = true := by
     have := hesc.2
     simp only [Bool.or_eq_true,Bool.not_eq_true'] at this
     exact this.resolve_left (by rw [hls]; decide)
    rw [if_pos (show dstIn T (some d) = true from this)]
    exact hv1
   ·exact putK hv2
  ·cases hs
 ·rename_i t ho
  rw [escOk,ho] at hesc
  obtain ⟨z,hz,hs⟩ := Option.bind_eq_some_iff.1 hs
  obtain ⟨zv,hz1,hz2,hz3⟩ := run_zero (P := P) (w := w) hz
  have hr : RelL ι.base z zv.cells := by rw [← hz2]; simpa using RelL.plain (κ := ι.base) (xs := zv.cells.toList) (by rw [hz2]; exact hz3)
  obtain ⟨ι',hg,hv1,hv2⟩ := anew_sound h.rel hs (c := zv.cells) (e := t) hr
  refine fin ι' _ (.pointer (some ⟨w.heap.size,0,none⟩)) (by simp [execOp,ho,Instr.alloc,hz1,newVar,newRow]) hg ?_
  rcases hv2 with ⟨d,hdst,hls⟩ | hv2
  ·rw [hdst] at hesc ⊢
   have : T.contains d = true := by
    simp only [Bool.or_eq_true,Bool.not_eq_true'] at hesc
    exact hesc.resolve_left (by rw [hls]; decide)
   rw [if_pos (show dstIn T (some d) = true from this)]
   exact hv1
  ·exact putK hv2
 ·rename_i t x u ho
  rw [escOk,ho] at hesc
  simp only [Bool.and_eq_true] at hesc
  obtain ⟨w',hr,hg,rfl⟩ := astore_sound (P := P) h.rel hs (ev_const h hesc.1) (ev_opnd h hesc.2)
  unfold Oper.wp
  have : (execOp a.eval o).run P w = .ok .skip w' := by simp [execOp,ho,hr]
  rw [this]
  exact hK ι undef w' (h.step hg hd (putK (VR_undef _ _))) hg
 ·rename_i t l c ho
  rw [escOk,ho] at hesc
  simp only [Op.operands,List.all_cons,List.all_nil,Bool.and_true,Bool.and_eq_true] at hesc
  obtain ⟨ι',w',cv,hr,hg,hv⟩ := amake_sound (P := P) h.rel hs (ev_opnd h hesc.1) (ev_opnd h hesc.2)
  exact fin ι' w' cv (by simp [execOp,ho,hr]) hg (putK hv)
 ·rename_i t k ps ho
  rw [escOk,ho] at hesc
  simp only [Op.operands] at hesc
  split at hs
  ·rename_i hk
   subst hk
   rw [ho] at hs
   obtain ⟨u,hu,he⟩ := Option.map_eq_some_iff.1 hs
   simp only [Prod.mk.injEq] at he
   obtain ⟨rfl,rfl,rfl⟩ := he
   simp only [rop,litNil,if_true] at hu
   obtain ⟨el,he,hu⟩ := Option.bind_eq_some_iff.1 hu
   obtain ⟨z,hz,hu⟩ := Option.bind_eq_some_iff.1 hu
   split at hu
   ·rename_i hc
    injection hu with hu
    subst hu
    obtain rfl : ps = #[] := Array.eq_empty_of_size_eq_zero hc.1
    exact fin ι (w.alloc (.cells ((Array.range 0).map fun _ => (default : Value)) el)) (.slice (some ⟨w.heap.size,0,none⟩) 0 0) (by simp [execOp,ho,Instr.buildSlice,run_underlying (telem_under he),run_sizeOf hz,newRow,Instr.fill]) (goes_grow h.rel) (putK (VR_slice.2 ⟨_,0,rfl,Nat.le_refl _,by simp [maxLen],.inl rfl⟩))
   ·cases hu
  obtain ⟨ι',w',cv,hr,hg,hv⟩ := alit_sound (P := P) h.rel hs (qs := ps.map fun (i,x) => (i,a.eval x)) (by simp [parts]) (parts_rel fun p hp => ev_opnd h (List.all_eq_true.1 hesc p.2 (by simp; exact ⟨p.1,hp⟩)))
  exact fin ι' w' cv (by simp [execOp,ho,hr]) hg (putK hv)
 ·rename_i src dst x ho
  split at hs
  ·rw [escOk,ho] at hesc
   simp only [Op.operands,List.all_cons,List.all_nil,Bool.and_true] at hesc
   obtain ⟨ι',w',cv,hr,hg,hv⟩ := abytesOf_sound (P := P) h.rel hs (ev_opnd h hesc)
   exact fin ι' w' cv (by simp [execOp,ho,hr]) hg (putK hv)
  ·exact ropc (fun _ _ _ hx => by rw [ho] at hx; cases hx) (by rw [ho]; exact hs)
 ·rename_i c ho
  rw [escOk,ho] at hesc
  simp only [Op.operands,Call.operands] at hesc
  split at hs
  ·rename_i f hcal
   rw [hcal] at hesc
   simp only at hesc
   have hf := ev_opnd h (List.all_eq_true.1 hesc f (by simp))
   split at hs
   ·rename_i g fs cs hev
    rw [hev] at hf
    split at hs
    ·rename_i hz
     obtain ⟨⟨u,su⟩,hcl,he⟩ := Option.map_eq_some_iff.1 hs
     simp only [Prod.mk.injEq] at he
     obtain ⟨rfl,rfl,rfl⟩ := he
     obtain ⟨hf1,hf2,hf3⟩ := VR_func.1 hf
     have hargs : ∀ (i : Nat) (x : Value),(c.args.toList.map (ev ρ))[i]? = some x → ∃ y : Value,(c.args.map a.eval)[i]? = some y ∧ VR ι.base x y := by
      intro i x hx
      rw [List.getElem?_map,Option.map_eq_some_iff] at hx
      obtain ⟨q,hq,rfl⟩ := hx
      have hq' : c.args[i]? = some q := by simpa using hq
      exact ⟨a.eval q,by simp [hq'],ev_opnd h (List.all_eq_true.1 hesc q (by simp; exact .inr (Array.mem_of_getElem? hq')))⟩
     have hcs := hcall g _ st u su hcl ι.base w (c.args.map a.eval) rfl (fun g hg => h.gl g hg) h.rel.callee (by simp) hargs
     have hrun : (execOp a.eval o).run P w = (callFunc g (c.args.map a.eval)).run P w := by
      simp [execOp,ho,resolve,hcal,hf3,Deferred.ofValue,invoke]
     unfold Oper.wp
     rw [hrun]
     rcases hcs with ⟨hr,hC⟩ | ⟨cv,ι1,w',hr,hg0,hg,hv⟩
     ·rw [hr]
      refine Calls.mono hC ?_
      rintro e w' ⟨cv,ι1,rfl,hg0,hg,hv⟩
      obtain ⟨hb,hE⟩ := hg.back h.rel hg0
      exact hK _ cv w' (h.step hb hd (putK (VR_mono hE hv))) hb
     ·rw [hr]
      obtain ⟨hb,hE⟩ := hg.back h.rel hg0
      exact hK _ cv w' (h.step hb hd (putK (VR_mono hE hv))) hb
    ·cases hs
   ·cases hs
  ·rename_i hcal
   rw [hcal] at hesc
   obtain ⟨ι',w',cv,hr,hg,hv⟩ := aappend_sound (P := P) (ty := o.type) h.rel hs (a := a) (fun x hx => ev_opnd h (List.all_eq_true.1 hesc x (by simp; exact hx)))
   exact fin ι' w' cv (by simp [execOp,ho,resolve,hcal,invoke,builtin,hr]) hg (putK hv)
  ·exact ropc (fun _ _ _ hx => by rw [ho] at hx; cases hx) hs
 ·rename_i hx; exact ropc (fun t n ps h => by simp_all) hs
end
end Go.Proofs.YteabadoaeadcgaaDoor.AM
