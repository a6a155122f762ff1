/- A part of the machine on which the law's proof rests. -/
import Derived.Test.YteabadoaeadcgaaDoorXpA10
namespace Go.Proofs.YteabadoaeadcgaaDoor.AM
open Go Go.RowKit
set_option linter.unusedVariables false
set_option linter.unusedSimpArgs false
def ιL (G : Nat) (L : List (Nat × Nat × List Value)) : Inj := ⟨fun a => if a < G then (a,0) else match L[a - G]? with
 | some x => (x.1,x.2.1)
 | none => (0,0),fun _ => maxLen,G + L.length,fun _ _ => 0,0⟩
def stL (G : Nat) (L : List (Nat × Nat × List Value)) : St := ⟨fun a => if a < G then none else (L[a - G]?).map fun x => ⟨false,0,x.2.2⟩,G + L.length⟩
theorem relL {G : Nat} {L : List (Nat × Nat × List Value)} {w : World} (hlt : ∀ x ∈ L,x.1 < w.heap.size)
  (hc : ∀ x ∈ L,∀ (j : Nat) (u : Value),x.2.2[j]? = some u → ∃ y : Value,w.cell? ⟨x.1,x.2.1 + j,none⟩ = some y ∧ VR0 (ιL G L) u y) : Rel (ιL G L) lo0 (stL G L) w := by
 have key : ∀ a b,(stL G L).mem a = some b → ∃ x ∈ L,G ≤ a ∧ a - G < L.length ∧ L[a - G]? = some x ∧ b = ⟨false,0,x.2.2⟩ ∧ (ιL G L).h a = (x.1,x.2.1) := by
  intro a b hb
  simp only [stL] at hb
  split at hb
  ·cases hb
  ·rename_i hG
   obtain ⟨x,hx,rfl⟩ := Option.map_eq_some_iff.1 hb
   refine ⟨x,List.mem_of_getElem? hx,by omega,(List.getElem?_eq_some_iff.1 hx).1,hx,rfl,?_⟩
   simp only [ιL]
   rw [if_neg hG,hx]
 refine ⟨rfl,rfl,fun a b hb => ?_,fun a b hb => ?_,fun t g cs ht => by simp [lo0] at ht,fun t g cs ht => by simp [lo0] at ht,fun a b a' b' _ hb _ hr => ?_,fun a b t g cs _ ht => by simp [lo0] at ht,fun t g cs t' g' cs' _ ht _ => by simp [lo0] at ht,fun a b hb => ?_⟩
 ·obtain ⟨x,_,h1,h2,_⟩ := key a b hb
  show a < G + L.length
  omega
 ·obtain ⟨x,hx,_,_,_,rfl,hh⟩ := key a b hb
  refine ⟨fun j u hu => ?_,(fun hr => by cases hr),fun _ hz => by cases hz⟩
  obtain ⟨y,hy,hv⟩ := hc x hx j u hu
  rw [hh]
  exact ⟨y,hy,hv⟩
 ·obtain ⟨x,_,_,_,_,rfl,_⟩ := key a b hb
  cases hr
 ·obtain ⟨x,hx,_,_,_,_,hh⟩ := key a b hb
  rw [hh]
  exact hlt x hx
theorem glL {P : Program} {L : List (Nat × Nat × List Value)} : GL P (ιL P.globals.size L) := by
 intro g hg
 refine ⟨?_,?_⟩
 ·show g < P.globals.size + L.length
  omega
 ·simp only [ιL]
  rw [if_pos hg]
theorem law_from {P : Program} {LT : FuncId → FInfo} {ext : String → List Value → St → Option (Value × St)} (hext : ExtOK P ext) {f : FuncId} {ι : Inj} {st0 : St} {args : List Value} {R : Value → St → Prop}
  (h : AC P LT ext f args st0 R) (hR : ∀ v s,R v s → v = .bool true) {w : World} (hg0 : ι.g = 0) (hgl : GL P ι) (hrel : Rel ι lo0 st0 w) (hro : ∀ a b,st0.mem a = some b → b.rw = false)
  {cargs : Array Value} (hsz : cargs.size = args.length) (ha : ∀ (i : Nat) (x : Value),args[i]? = some x → ∃ y : Value,cargs[i]? = some y ∧ VR ι x y)
  {fn : Func} {c : Code} (hf : P.funcs[f]? = some fn) (hb : fn.body = some c) : Calls P f cargs w (fun e w' => e = .returned (.bool true) ∧ Below w.heap.size w w') := by
 obtain ⟨k,v,s,h1,h2⟩ := h
 obtain rfl := hR v s h2
 have key : ∀ cv ι' w',Goes ι lo0 st0 w ι' lo0 s w' → VR ι' (.bool true) cv → cv = .bool true ∧ Below w.heap.size w w' := by
  intro cv ι' w' hg hv
  refine ⟨hv,hg.frm.os,hg.frm.tape,hg.frm.output,hg.frm.size,fun b hlt => hg.frm.keep b hlt ?_⟩
  rintro (⟨a,blk,ha,hr,_⟩ | ⟨t,g,cs,ht,_⟩)
  ·rw [hro a blk ha] at hr
   cases hr
  ·simp [lo0] at ht
 rcases acall_sound hext k f args _ _ _ h1 ι w cargs hg0 hgl hrel hsz ha with ⟨_,hC⟩ | ⟨cv,ι',w',hr,_,hg,hv⟩
 ·refine Calls.mono hC ?_
  rintro e w' ⟨cv,ι',rfl,_,hg,hv⟩
  obtain ⟨rfl,hB⟩ := key cv ι' w' hg hv
  exact ⟨rfl,hB⟩
 ·exfalso
  cases k with
  | zero => simp [acall] at h1
  | succ k =>
   rw [acall_eq,hf] at h1
   simp only [hb] at h1
   split at h1
   ·rename_i hok
    have hn : (fn.name != "runtime.NumGoroutine") = true := by
     have := hok.1
     simp only [fnOk,Bool.and_eq_true] at this
     exact this.2
    have hname : ¬ fn.name = "runtime.NumGoroutine" := by simpa using hn
    simp [callFunc,run_program,hf,hname,hb] at hr
   ·split at h1
    ·cases h1
    ·rename_i hname
     simp [callFunc,run_program,hf,hname,hb] at hr
theorem stL_ro {G : Nat} {L : List (Nat × Nat × List Value)} : ∀ a b,(stL G L).mem a = some b → b.rw = false := by
 intro a b ha
 simp only [stL] at ha
 split at ha
 ·cases ha
 ·obtain ⟨x,_,rfl⟩ := Option.map_eq_some_iff.1 ha
  rfl
section
variable {P : Program} {ls : List Tmp} {call : ACallT} {o : Oper} {e : Operand → Value} {lo : Lo} {st : St}
theorem op_ld {t : TypeId} {x : Operand} {p : Addr} {blk : Blk} {v : Value} (ho : o.op = .load t x) (hx : e x = .pointer (some p)) (hs : p.spot = none) (ht : tagg P t = some false) (hm : st.mem p.block = some blk) (hc : blk.cells[p.off]? = some v) : aoper P ls call o e lo st = some (v,lo,st) := by
 obtain ⟨d,op,ty,pos,after,gd⟩ := o
 simp only at ho
 subst ho
 simp [aoper,rop,hx,hs,rdB,hm,aload,ht,hc]
theorem op_idx {t el : TypeId} {x i : Operand} {q : Addr} {n c z : Nat} {k : IntKind} {j : Int} (ho : o.op = .indexAddr t x i) (hx : e x = .slice (some q) n c) (hi : e i = .int k j) (ht : telem P t = some el) (hz : tsize P el = some z) (h0 : 0 ≤ j) (h1 : j < n) :
  aoper P ls call o e lo st = some (.pointer (some ⟨q.block,q.off + j.toNat * z,q.spot⟩),lo,st) := by
 obtain ⟨d,op,ty,pos,after,gd⟩ := o
 simp only at ho
 subst ho
 simp [aoper,rop,hx,hi,ht,hz,h0,h1]
theorem op_st {t : TypeId} {x u : Operand} {p : Addr} {blk : Blk} {v : Value} (ho : o.op = .store t x u) (hx : e x = .pointer (some p)) (hu : e u = v) (hs : p.spot = none) (ht : tsize P t = some 1) (hv : v.cells.toList = [v]) (hi : isCell v = true) (hm : st.mem p.block = some blk) (hr : blk.rw = true) (hl : p.off < blk.cells.length) :
  aoper P ls call o e lo st = some (undef,lo,st.set p.block (some ⟨true,blk.esz,blk.cells.set p.off v⟩)) := by
 obtain ⟨d,op,ty,pos,after,gd⟩ := o
 simp only at ho
 subst ho
 have h2 : p.off + 1 ≤ blk.cells.length := hl
 simp [aoper,astore,hx,hu,hs,ht,hv,hi,hm,hr,h2,splice]
theorem op_stc {K : Value × Lo × St → Prop} {t : TypeId} {x u : Operand} {p : Addr} {blk : Blk} {v : Value} (ho : o.op = .store t x u) (hx : e x = .pointer (some p)) (hu : e u = v) (hs : p.spot = none) (ht : tsize P t = some 1) (hv : v.cells.toList = [v]) (hi : isCell v = true) (hm : st.mem p.block = some blk) (hr : blk.rw = true) (hl : p.off < blk.cells.length)
  (hK : ∀ st',st'.mem p.block = some ⟨true,blk.esz,blk.cells.set p.off v⟩ → st'.next = st.next → (∀ a,a ≠ p.block → st'.mem a = st.mem a) → K (undef,lo,st')) : ∃ r,aoper P ls call o e lo st = some r ∧ K r :=
 ⟨_,op_st ho hx hu hs ht hv hi hm hr hl,hK _ (by simp [St.set]) rfl (fun a ha => by simp [St.set,ha])⟩
theorem op_rem {t ty : TypeId} {x y : Operand} {k : IntKind} {a b : Int} (ho : o.op = .binOp .rem t x y ty) (hx : e x = .int k a) (hy : e y = .int k b) (hb : b ≠ 0) : aoper P ls call o e lo st = some (.int k (a.tmod b),lo,st) := by
 obtain ⟨d,op,ty,pos,after,gd⟩ := o
 simp only at ho
 subst ho
 simp [aoper,rop,hx,hy,abin,aint,hb]
end
end Go.Proofs.YteabadoaeadcgaaDoor.AM
