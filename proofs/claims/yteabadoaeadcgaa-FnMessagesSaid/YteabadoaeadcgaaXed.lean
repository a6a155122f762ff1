/- Part 4 of the texts on which the law's proof rests. -/
import Derived.Test.YteabadoaeadcgaaXec
namespace Go.Proofs.Yteabadoaeadcgaa.AM
open Go Go.Proofs
set_option linter.unusedVariables false
set_option linter.unusedSimpArgs false
set_option maxRecDepth 100000
set_option maxHeartbeats 4000000
abbrev rdC (c : Nat) (p : Option Addr) (l : List Int) (a : Int) (f : Bool) : Pc := ⟨0,some ⟨c,0,none⟩,[vS p l.length,vI a,vB f]⟩
theorem rdC_mem {st : St} {c : Nat} {p : Option Addr} {l : List Int} {a : Int} {f : Bool} (h : (rdC c p l a f).own st) : c < st.next ∧ st.mem c = some ⟨true,0,[vS p l.length,vI a,vB f]⟩ := by
 rcases h with ⟨h,_⟩ | ⟨x,h,h1,h2⟩
 ·cases h
 ·injection h with h
  injection h with h
  rw [h]
  exact ⟨h1,h2⟩
theorem op_stO {P : Program} {ls : List Tmp} {call : ACallT} {o : Oper} {e : Operand → Value} {lo : Lo} {st : St} {K : Value × Lo × St → Prop} {t : TypeId} {x u : Operand} {c off z : Nat} {cs : List Value} {v : Value} (ho : o.op = .store t x u) (hx : e x = .pointer (some ⟨c,off,none⟩)) (hu : e u = v) (ht : tsize P t = some 1) (hv : v.cells.toList = [v]) (hi : isCell v = true) (hown : (⟨z,some ⟨c,0,none⟩,cs⟩ : Pc).own st) (hl : off < cs.length)
  (hK : ∀ st',(⟨z,some ⟨c,0,none⟩,cs.set off v⟩ : Pc).own st' → Pr (some ⟨c,0,none⟩) st st' → st'.next = st.next → K (undef,lo,st')) : ∃ r,aoper P ls call o e lo st = some r ∧ K r := by
 rcases hown with ⟨h,_⟩ | ⟨a,h,h1,h2⟩
 ·cases h
 ·injection h with h
  injection h with h
  subst h
  refine op_stc ho hx hu rfl ht hv hi h2 rfl hl fun st' hm hn hk => hK st' (.inr ⟨_,rfl,by rw [hn]; exact h1,hm⟩) ⟨by rw [hn]; exact Nat.le_refl _,fun b hb hq => hk b (show b ≠ c from hq ⟨c,0,none⟩ rfl)⟩ hn
def rnF (l : List Int) (a : Int) (f : Bool) : Int × Int × Bool := match gnR l a with
 | (n,k,b) => if f = false ∧ b = true then (n,k,false) else (0,a,true)
theorem rnF_bad {l : List Int} {a : Int} : rnF l a true = (0,a,true) := by unfold rnF; simp
theorem rnF_no {l : List Int} {a n k : Int} {f : Bool} (h : (n,k,false) = gnR l a) : rnF l a f = (0,a,true) := by unfold rnF; rw [← h]; simp
theorem rnF_yes {l : List Int} {a n k : Int} (h : (n,k,true) = gnR l a) : rnF l a false = (n,k,false) := by unfold rnF; rw [← h]; simp
theorem rnF_rng {l : List Int} {a : Int} {f : Bool} (hl : bytesOk l) (hs : l.length ≤ 1099511627776) (ha : a ≤ 1099511627776) : (rnF l a f).2.1 ≤ 1099511627776 ∧ 0 ≤ (rnF l a f).1 ∧ (rnF l a f).1 ≤ 2147483647 := by
 rcases hg : gnR l a with ⟨n,k,b⟩
 cases f with
 | true => rw [rnF_bad]; exact ⟨ha,Int.le_refl _,by simp only; omega⟩
 | false =>
  cases b with
  | false => rw [rnF_no hg.symm]; exact ⟨ha,Int.le_refl _,by simp only; omega⟩
  | true =>
   rw [rnF_yes hg.symm]
   have := gnR_ok hl hg.symm
   exact ⟨by simp only; omega,this.1,this.2.1⟩
theorem bad_impl_num (c : Nat) (p : Option Addr) (l : List Int) (a : Int) (st : St) (hO : (rdC c p l a true).own st) (hR : Rows st 1 fB p l) (hl : bytesOk l) (hs : l.length ≤ 1099511627776) (ha : a ≤ 1099511627776) : C 99 [vP c 0] st (fun v s => v = vI 0 ∧ (rdC c p l a true).own s ∧ Pr (some ⟨c,0,none⟩) st s) := by
 obtain ⟨hc0,hm⟩ := rdC_mem hO
 refine AC.enterX (i := ⟨[],[],[0,2,3,4,5,26],[]⟩) [(1,[],[])] Try.func99 rfl rfl (by kernel_rfl) (by kernel_rfl) Try.ntmps99 (Lb rfl) rfl ?_
 refine Cu lo0 st [(0,vP c 0),(2,vI 0)] fun _ => ?_
 iterate 2 refine ⟨_,rfl,?_⟩
 refine ⟨_,op_ld rfl rfl rfl rfl hm rfl,?_⟩
 iterate 2 refine ⟨_,rfl,?_⟩
 refine ⟨_,op_ld rfl rfl rfl rfl hm rfl,?_⟩
 refine ⟨_,rfl,(ac_impl_GetNum p l a st hR hl hs ha).mono ?_⟩
 rintro _ st ⟨n,k,b,rfl,h15,rfl⟩
 iterate 3 refine ⟨_,rfl,?_⟩
 refine Cu lo0 st [(0,vP c 0),(2,vI 0),(3,vI n),(4,vI k),(5,vB b)] fun _ => ?_
 iterate 2 refine ⟨_,rfl,?_⟩
 refine ⟨_,op_ld rfl rfl rfl rfl hm rfl,?_⟩
 refine ⟨_,rfl,?_⟩
 refine Cu lo0 st [(0,vP c 0),(2,vI 0),(3,vI n),(4,vI k),(26,vB true)] fun _ => ?_
 iterate 2 refine ⟨_,rfl,?_⟩
 refine op_stO (z := 0) (c := c) (off := 2) rfl rfl rfl rfl rfl rfl hO (by simp) ?_
 intro s5 hO5 hP5 hn5
 refine cxs ?_
 exact cxs (Rt ⟨rfl,hO5,hP5⟩)
theorem good_impl_num (c : Nat) (p : Option Addr) (l : List Int) (a : Int) (st : St) (hO : (rdC c p l a false).own st) (hR : Rows st 1 fB p l) (hl : bytesOk l) (hs : l.length ≤ 1099511627776) (ha : a ≤ 1099511627776) : C 99 [vP c 0] st (fun v s => ∃ n k b,v = vI n ∧ (n,k,b) = rnF l a false ∧ (rdC c p l k b).own s ∧ Pr (some ⟨c,0,none⟩) st s) := by
 obtain ⟨hc0,hm⟩ := rdC_mem hO
 refine AC.enterX (i := ⟨[],[],[0,2,3,4,5,26],[]⟩) [(1,[],[])] Try.func99 rfl rfl (by kernel_rfl) (by kernel_rfl) Try.ntmps99 (Lb rfl) rfl ?_
 refine Cu lo0 st [(0,vP c 0),(2,vI 0)] fun _ => ?_
 iterate 2 refine ⟨_,rfl,?_⟩
 refine ⟨_,op_ld rfl rfl rfl rfl hm rfl,?_⟩
 iterate 2 refine ⟨_,rfl,?_⟩
 refine ⟨_,op_ld rfl rfl rfl rfl hm rfl,?_⟩
 refine ⟨_,rfl,(ac_impl_GetNum p l a st hR hl hs ha).mono ?_⟩
 rintro _ st ⟨n,k,b,rfl,h15,rfl⟩
 rcases b with _|_
 ·iterate 3 refine ⟨_,rfl,?_⟩
  refine Cu lo0 st [(0,vP c 0),(2,vI 0),(3,vI n),(4,vI k),(5,vB false)] fun _ => ?_
  iterate 2 refine ⟨_,rfl,?_⟩
  refine ⟨_,op_ld rfl rfl rfl rfl hm rfl,?_⟩
  iterate 2 refine ⟨_,rfl,?_⟩
  refine Cu lo0 st [(0,vP c 0),(2,vI 0),(3,vI n),(4,vI k),(26,vB true)] fun _ => ?_
  iterate 2 refine ⟨_,rfl,?_⟩
  refine op_stO (z := 0) (c := c) (off := 2) rfl rfl rfl rfl rfl rfl hO (by simp) ?_
  intro s5 hO5 hP5 hn5
  refine cxs ?_
  exact cxs (Rt ⟨0,a,true,rfl,(rnF_no h15).symm,hO5,hP5⟩)
 ·iterate 3 refine ⟨_,rfl,?_⟩
  refine Cu lo0 st [(0,vP c 0),(2,vI 0),(3,vI n),(4,vI k),(5,vB true)] fun _ => ?_
  iterate 2 refine ⟨_,rfl,?_⟩
  refine ⟨_,op_ld rfl rfl rfl rfl hm rfl,?_⟩
  iterate 2 refine ⟨_,rfl,?_⟩
  refine Cu lo0 st [(0,vP c 0),(2,vI 0),(3,vI n),(4,vI k),(26,vB false)] fun _ => ?_
  refine cxs ?_
  iterate 2 refine ⟨_,rfl,?_⟩
  refine op_stO (z := 0) (c := c) (off := 1) rfl rfl rfl rfl rfl rfl hO (by simp) ?_
  intro s5 hO5 hP5 hn5
  refine cxs ?_
  exact cxs (Rt ⟨_,_,false,rfl,(rnF_yes h15).symm,hO5,hP5⟩)
theorem ac_impl_num (c : Nat) (p : Option Addr) (l : List Int) (a : Int) (f : Bool) (st : St) (hO : (rdC c p l a f).own st) (hR : Rows st 1 fB p l) (hl : bytesOk l) (hs : l.length ≤ 1099511627776) (ha : a ≤ 1099511627776) : C 99 [vP c 0] st (fun v s => ∃ n k b,v = vI n ∧ (n,k,b) = rnF l a f ∧ (rdC c p l k b).own s ∧ Pr (some ⟨c,0,none⟩) st s) := by
 cases f with
 | false => exact good_impl_num c p l a st hO hR hl hs ha
 | true => exact AC.mono (bad_impl_num c p l a st hO hR hl hs ha) fun v s ⟨h1,h2,h3⟩ => ⟨0,a,true,h1,rnF_bad.symm,h2,h3⟩
theorem bad_spec_num (c : Nat) (p : Option Addr) (l : List Int) (a : Int) (st : St) (hO : (rdC c p l a true).own st) (hR : Rows st 1 fB p l) (hl : bytesOk l) (hs : l.length ≤ 1099511627776) (ha : a ≤ 1099511627776) : C 94 [vP c 0] st (fun v s => v = vI 0 ∧ (rdC c p l a true).own s ∧ Pr (some ⟨c,0,none⟩) st s) := by
 obtain ⟨hc0,hm⟩ := rdC_mem hO
 refine AC.enterX (i := ⟨[],[],[0,2,3,4,5,26],[]⟩) [(1,[],[])] Try.func94 rfl rfl (by kernel_rfl) (by kernel_rfl) Try.ntmps94 (Lb rfl) rfl ?_
 refine Cu lo0 st [(0,vP c 0),(2,vI 0)] fun _ => ?_
 iterate 2 refine ⟨_,rfl,?_⟩
 refine ⟨_,op_ld rfl rfl rfl rfl hm rfl,?_⟩
 iterate 2 refine ⟨_,rfl,?_⟩
 refine ⟨_,op_ld rfl rfl rfl rfl hm rfl,?_⟩
 refine ⟨_,rfl,(ac_spec_GetNum p l a st hR hl hs ha).mono ?_⟩
 rintro _ st ⟨n,k,b,rfl,h15,rfl⟩
 iterate 3 refine ⟨_,rfl,?_⟩
 refine Cu lo0 st [(0,vP c 0),(2,vI 0),(3,vI n),(4,vI k),(5,vB b)] fun _ => ?_
 iterate 2 refine ⟨_,rfl,?_⟩
 refine ⟨_,op_ld rfl rfl rfl rfl hm rfl,?_⟩
 refine ⟨_,rfl,?_⟩
 refine Cu lo0 st [(0,vP c 0),(2,vI 0),(3,vI n),(4,vI k),(26,vB true)] fun _ => ?_
 iterate 2 refine ⟨_,rfl,?_⟩
 refine op_stO (z := 0) (c := c) (off := 2) rfl rfl rfl rfl rfl rfl hO (by simp) ?_
 intro s5 hO5 hP5 hn5
 refine cxs ?_
 exact cxs (Rt ⟨rfl,hO5,hP5⟩)
theorem good_spec_num (c : Nat) (p : Option Addr) (l : List Int) (a : Int) (st : St) (hO : (rdC c p l a false).own st) (hR : Rows st 1 fB p l) (hl : bytesOk l) (hs : l.length ≤ 1099511627776) (ha : a ≤ 1099511627776) : C 94 [vP c 0] st (fun v s => ∃ n k b,v = vI n ∧ (n,k,b) = rnF l a false ∧ (rdC c p l k b).own s ∧ Pr (some ⟨c,0,none⟩) st s) := by
 obtain ⟨hc0,hm⟩ := rdC_mem hO
 refine AC.enterX (i := ⟨[],[],[0,2,3,4,5,26],[]⟩) [(1,[],[])] Try.func94 rfl rfl (by kernel_rfl) (by kernel_rfl) Try.ntmps94 (Lb rfl) rfl ?_
 refine Cu lo0 st [(0,vP c 0),(2,vI 0)] fun _ => ?_
 iterate 2 refine ⟨_,rfl,?_⟩
 refine ⟨_,op_ld rfl rfl rfl rfl hm rfl,?_⟩
 iterate 2 refine ⟨_,rfl,?_⟩
 refine ⟨_,op_ld rfl rfl rfl rfl hm rfl,?_⟩
 refine ⟨_,rfl,(ac_spec_GetNum p l a st hR hl hs ha).mono ?_⟩
 rintro _ st ⟨n,k,b,rfl,h15,rfl⟩
 rcases b with _|_
 ·iterate 3 refine ⟨_,rfl,?_⟩
  refine Cu lo0 st [(0,vP c 0),(2,vI 0),(3,vI n),(4,vI k),(5,vB false)] fun _ => ?_
  iterate 2 refine ⟨_,rfl,?_⟩
  refine ⟨_,op_ld rfl rfl rfl rfl hm rfl,?_⟩
  iterate 2 refine ⟨_,rfl,?_⟩
  refine Cu lo0 st [(0,vP c 0),(2,vI 0),(3,vI n),(4,vI k),(26,vB true)] fun _ => ?_
  iterate 2 refine ⟨_,rfl,?_⟩
  refine op_stO (z := 0) (c := c) (off := 2) rfl rfl rfl rfl rfl rfl hO (by simp) ?_
  intro s5 hO5 hP5 hn5
  refine cxs ?_
  exact cxs (Rt ⟨0,a,true,rfl,(rnF_no h15).symm,hO5,hP5⟩)
 ·iterate 3 refine ⟨_,rfl,?_⟩
  refine Cu lo0 st [(0,vP c 0),(2,vI 0),(3,vI n),(4,vI k),(5,vB true)] fun _ => ?_
  iterate 2 refine ⟨_,rfl,?_⟩
  refine ⟨_,op_ld rfl rfl rfl rfl hm rfl,?_⟩
  iterate 2 refine ⟨_,rfl,?_⟩
  refine Cu lo0 st [(0,vP c 0),(2,vI 0),(3,vI n),(4,vI k),(26,vB false)] fun _ => ?_
  refine cxs ?_
  iterate 2 refine ⟨_,rfl,?_⟩
  refine op_stO (z := 0) (c := c) (off := 1) rfl rfl rfl rfl rfl rfl hO (by simp) ?_
  intro s5 hO5 hP5 hn5
  refine cxs ?_
  exact cxs (Rt ⟨_,_,false,rfl,(rnF_yes h15).symm,hO5,hP5⟩)
theorem ac_spec_num (c : Nat) (p : Option Addr) (l : List Int) (a : Int) (f : Bool) (st : St) (hO : (rdC c p l a f).own st) (hR : Rows st 1 fB p l) (hl : bytesOk l) (hs : l.length ≤ 1099511627776) (ha : a ≤ 1099511627776) : C 94 [vP c 0] st (fun v s => ∃ n k b,v = vI n ∧ (n,k,b) = rnF l a f ∧ (rdC c p l k b).own s ∧ Pr (some ⟨c,0,none⟩) st s) := by
 cases f with
 | false => exact good_spec_num c p l a st hO hR hl hs ha
 | true => exact AC.mono (bad_spec_num c p l a st hO hR hl hs ha) fun v s ⟨h1,h2,h3⟩ => ⟨0,a,true,h1,rnF_bad.symm,h2,h3⟩
def rtF (l : List Int) (a : Int) (f : Bool) : ByteArray × Int × Bool := match gtR l a with
 | (n,k,b) => if f = false ∧ b = true then (n,k,false) else (⟨#[]⟩,a,true)
theorem rtF_bad {l : List Int} {a : Int} : rtF l a true = (⟨#[]⟩,a,true) := by unfold rtF; simp
theorem rtF_no {l : List Int} {a k : Int} {n : ByteArray} {f : Bool} (h : (n,k,false) = gtR l a) : rtF l a f = (⟨#[]⟩,a,true) := by unfold rtF; rw [← h]; simp
theorem rtF_yes {l : List Int} {a k : Int} {n : ByteArray} (h : (n,k,true) = gtR l a) : rtF l a false = (n,k,false) := by unfold rtF; rw [← h]; simp
theorem bad_impl_text (c : Nat) (p : Option Addr) (l : List Int) (a : Int) (st : St) (hO : (rdC c p l a true).own st) (hR : Rows st 1 fB p l) (hl : bytesOk l) (hs : l.length ≤ 1099511627776) (ha : a ≤ 1099511627776) : C 100 [vP c 0] st (fun v s => v = .string ⟨#[]⟩ ∧ (rdC c p l a true).own s ∧ Pr (some ⟨c,0,none⟩) st s) := by
 obtain ⟨hc0,hm⟩ := rdC_mem hO
 refine AC.enterX (i := ⟨[],[],[0,2,3,4,5,26],[]⟩) [(1,[],[])] Try.func100 rfl rfl (by kernel_rfl) (by kernel_rfl) Try.ntmps100 (Lb rfl) rfl ?_
 refine Cu lo0 st [(0,vP c 0),(2,.string ⟨#[]⟩)] fun _ => ?_
 iterate 2 refine ⟨_,rfl,?_⟩
 refine ⟨_,op_ld rfl rfl rfl rfl hm rfl,?_⟩
 iterate 2 refine ⟨_,rfl,?_⟩
 refine ⟨_,op_ld rfl rfl rfl rfl hm rfl,?_⟩
 refine ⟨_,rfl,(ac_impl_GetText p l a st hR hl hs ha).mono ?_⟩
 rintro _ st ⟨n,k,b,rfl,h15,rfl⟩
 iterate 3 refine ⟨_,rfl,?_⟩
 refine Cu lo0 st [(0,vP c 0),(2,.string ⟨#[]⟩),(3,.string n),(4,vI k),(5,vB b)] fun _ => ?_
 iterate 2 refine ⟨_,rfl,?_⟩
 refine ⟨_,op_ld rfl rfl rfl rfl hm rfl,?_⟩
 refine ⟨_,rfl,?_⟩
 refine Cu lo0 st [(0,vP c 0),(2,.string ⟨#[]⟩),(3,.string n),(4,vI k),(26,vB true)] fun _ => ?_
 iterate 2 refine ⟨_,rfl,?_⟩
 refine op_stO (z := 0) (c := c) (off := 2) rfl rfl rfl rfl rfl rfl hO (by simp) ?_
 intro s5 hO5 hP5 hn5
 refine cxs ?_
 exact cxs (Rt ⟨rfl,hO5,hP5⟩)
theorem good_impl_text (c : Nat) (p : Option Addr) (l : List Int) (a : Int) (st : St) (hO : (rdC c p l a false).own st) (hR : Rows st 1 fB p l) (hl : bytesOk l) (hs : l.length ≤ 1099511627776) (ha : a ≤ 1099511627776) : C 100 [vP c 0] st (fun v s => ∃ n k b,v = .string n ∧ (n,k,b) = rtF l a false ∧ (rdC c p l k b).own s ∧ Pr (some ⟨c,0,none⟩) st s) := by
 obtain ⟨hc0,hm⟩ := rdC_mem hO
 refine AC.enterX (i := ⟨[],[],[0,2,3,4,5,26],[]⟩) [(1,[],[])] Try.func100 rfl rfl (by kernel_rfl) (by kernel_rfl) Try.ntmps100 (Lb rfl) rfl ?_
 refine Cu lo0 st [(0,vP c 0),(2,.string ⟨#[]⟩)] fun _ => ?_
 iterate 2 refine ⟨_,rfl,?_⟩
 refine ⟨_,op_ld rfl rfl rfl rfl hm rfl,?_⟩
 iterate 2 refine ⟨_,rfl,?_⟩
 refine ⟨_,op_ld rfl rfl rfl rfl hm rfl,?_⟩
 refine ⟨_,rfl,(ac_impl_GetText p l a st hR hl hs ha).mono ?_⟩
 rintro _ st ⟨n,k,b,rfl,h15,rfl⟩
 rcases b with _|_
 ·iterate 3 refine ⟨_,rfl,?_⟩
  refine Cu lo0 st [(0,vP c 0),(2,.string ⟨#[]⟩),(3,.string n),(4,vI k),(5,vB false)] fun _ => ?_
  iterate 2 refine ⟨_,rfl,?_⟩
  refine ⟨_,op_ld rfl rfl rfl rfl hm rfl,?_⟩
  iterate 2 refine ⟨_,rfl,?_⟩
  refine Cu lo0 st [(0,vP c 0),(2,.string ⟨#[]⟩),(3,.string n),(4,vI k),(26,vB true)] fun _ => ?_
  iterate 2 refine ⟨_,rfl,?_⟩
  refine op_stO (z := 0) (c := c) (off := 2) rfl rfl rfl rfl rfl rfl hO (by simp) ?_
  intro s5 hO5 hP5 hn5
  refine cxs ?_
  exact cxs (Rt ⟨_,a,true,rfl,(rtF_no h15).symm,hO5,hP5⟩)
 ·iterate 3 refine ⟨_,rfl,?_⟩
  refine Cu lo0 st [(0,vP c 0),(2,.string ⟨#[]⟩),(3,.string n),(4,vI k),(5,vB true)] fun _ => ?_
  iterate 2 refine ⟨_,rfl,?_⟩
  refine ⟨_,op_ld rfl rfl rfl rfl hm rfl,?_⟩
  iterate 2 refine ⟨_,rfl,?_⟩
  refine Cu lo0 st [(0,vP c 0),(2,.string ⟨#[]⟩),(3,.string n),(4,vI k),(26,vB false)] fun _ => ?_
  refine cxs ?_
  iterate 2 refine ⟨_,rfl,?_⟩
  refine op_stO (z := 0) (c := c) (off := 1) rfl rfl rfl rfl rfl rfl hO (by simp) ?_
  intro s5 hO5 hP5 hn5
  refine cxs ?_
  exact cxs (Rt ⟨_,_,false,rfl,(rtF_yes h15).symm,hO5,hP5⟩)
theorem ac_impl_text (c : Nat) (p : Option Addr) (l : List Int) (a : Int) (f : Bool) (st : St) (hO : (rdC c p l a f).own st) (hR : Rows st 1 fB p l) (hl : bytesOk l) (hs : l.length ≤ 1099511627776) (ha : a ≤ 1099511627776) : C 100 [vP c 0] st (fun v s => ∃ n k b,v = .string n ∧ (n,k,b) = rtF l a f ∧ (rdC c p l k b).own s ∧ Pr (some ⟨c,0,none⟩) st s) := by
 cases f with
 | false => exact good_impl_text c p l a st hO hR hl hs ha
 | true => exact AC.mono (bad_impl_text c p l a st hO hR hl hs ha) fun v s ⟨h1,h2,h3⟩ => ⟨_,a,true,h1,rtF_bad.symm,h2,h3⟩
def rcF (l : List Int) (a : Int) (f : Bool) (m : Int) : Int × Int × Bool := match rnF l a f with
 | (n,k,b) => if m < n then (0,k,true) else (n,k,b)
theorem ac_impl_count (c : Nat) (p : Option Addr) (l : List Int) (a : Int) (f : Bool) (m : Int) (st : St) (hO : (rdC c p l a f).own st) (hR : Rows st 1 fB p l) (hl : bytesOk l) (hs : l.length ≤ 1099511627776) (ha : a ≤ 1099511627776) : C 98 [vP c 0,vI m] st (fun v s => ∃ n k b,v = vI n ∧ (n,k,b) = rcF l a f m ∧ (rdC c p l k b).own s ∧ Pr (some ⟨c,0,none⟩) st s) := by
 refine AC.enterX (i := ⟨[],[],[0,1,4,5,10],[]⟩) [] Try.func98 rfl rfl (by kernel_rfl) (by kernel_rfl) Try.ntmps98 (Lb rfl) rfl ?_
 refine Cu lo0 st [(0,vP c 0),(1,vI m),(4,vI 0)] fun _ => ?_
 refine ⟨_,rfl,(ac_impl_num c p l a f st hO hR hl hs ha).mono ?_⟩
 rintro _ s7 ⟨n,k,b,rfl,h7,hO7,hP7⟩
 refine Cu lo0 s7 [(0,vP c 0),(1,vI m),(4,vI 0),(5,vI n)] fun _ => ?_
 refine ⟨_,rfl,?_⟩
 rintro (_|_) h10
 ·replace h10 : ¬ (n > m) := of_decide_eq_false h10
  refine Cu lo0 s7 [(0,vP c 0),(4,vI 0),(5,vI n),(10,vB false)] fun _ => ?_
  refine cxs ?_
  exact cxs (Rt ⟨n,k,b,rfl,by unfold rcF; rw [← h7]; exact (if_neg h10).symm,hO7,hP7⟩)
 ·replace h10 : n > m := of_decide_eq_true h10
  refine Cu lo0 s7 [(0,vP c 0),(4,vI 0),(5,vI n),(10,vB true)] fun _ => ?_
  iterate 2 refine ⟨_,rfl,?_⟩
  refine op_stO (z := 0) (c := c) (off := 2) rfl rfl rfl rfl rfl rfl hO7 (by simp) ?_
  intro s5 hO5 hP5 hn5
  refine cxs ?_
  exact cxs (Rt ⟨0,k,true,rfl,by unfold rcF; rw [← h7]; exact (if_pos h10).symm,hO5,hP7.trans hP5⟩)
def Sf (l : List Int) (a : Int) (r : List Int) : Prop := ∃ k : Nat,a = (k : Int) ∧ k ≤ l.length ∧ l.drop k = r
theorem Sf.start (l : List Int) : Sf l 0 l := ⟨0,rfl,Nat.zero_le _,rfl⟩
theorem Sf.next {l x r : List Int} {k : Nat} (h1 : k ≤ l.length) (h2 : l.drop k = x ++ r) : Sf l ((k : Int) + (x.length : Int)) r := by
 refine ⟨k + x.length,by omega,?_,?_⟩
 ·have := congrArg List.length h2
  rw [List.length_drop,List.length_append] at this
  omega
 ·rw [← List.drop_drop,h2,List.drop_left]
theorem Sf.gn {l r : List Int} {a n : Int} (h : Sf l a (putN n ++ r)) (hn : 0 ≤ n ∧ n ≤ 2147483647) : ∃ k,gnR l a = (n,k,true) ∧ Sf l k r := by
 obtain ⟨k,rfl,h1,h2⟩ := h
 refine ⟨(k : Int) + (putN n).length,?_,Sf.next h1 h2⟩
 have hl : l = l.take k ++ (putN n ++ r) := by rw [← h2,List.take_append_drop]
 have hk : (l.take k).length = k := by rw [List.length_take]; omega
 have := gnAt_put (a := l.take k) (r := r) hn
 rw [← hl,hk] at this
 unfold gnR
 rw [this]
theorem Sf.num {l r : List Int} {a n m k : Int} {f b : Bool} (h : Sf l a (putN n ++ r)) (hn : 0 ≤ n ∧ n ≤ 2147483647) (hf : f = false) (he : (m,k,b) = rnF l a f) : m = n ∧ b = false ∧ Sf l k r := by
 subst hf
 obtain ⟨k',h1,h2⟩ := h.gn hn
 rw [rnF_yes h1.symm] at he
 injection he with e1 he
 injection he with e2 e3
 subst e1 e2 e3
 exact ⟨rfl,rfl,h2⟩
theorem toB_bsl (d : ByteArray) : toB (bsl d) = d := by
 obtain ⟨⟨l⟩⟩ := d
 unfold toB bsl
 rw [List.map_map]
 congr 2
 conv => rhs; rw [← List.map_id l]
 refine List.map_congr_left fun x _ => ?_
 simp
theorem Sf.gt {l r : List Int} {a k : Int} {d t : ByteArray} {b : Bool} (h : Sf l a (putS d ++ r)) (hd : d.size ≤ 2147483647) (he : (t,k,b) = gtR l a) : t = d ∧ b = true ∧ Sf l k r := by
 have h : Sf l a (putN d.size ++ (bsl d ++ r)) := by rw [← List.append_assoc]; exact h
 obtain ⟨k1,h1,k2,rfl,h3,h4⟩ := h.gn ⟨by omega,by omega⟩
 have hlen := congrArg List.length h4
 rw [List.length_drop,List.length_append,bsl_len] at hlen
 rw [← gtR_yes h1.symm (by omega)] at he
 injection he with e1 he
 injection he with e2 e3
 refine ⟨?_,e3,?_⟩
 ·rw [e1,h4,← bsl_len,List.take_left,toB_bsl]
 ·rw [e2,← bsl_len]; exact Sf.next h3 h4
theorem Sf.text {l r : List Int} {a k : Int} {d t : ByteArray} {f b : Bool} (h : Sf l a (putS d ++ r)) (hd : d.size ≤ 2147483647) (hf : f = false) (he : (t,k,b) = rtF l a f) : t = d ∧ b = false ∧ Sf l k r := by
 subst hf
 rcases hg : gtR l a with ⟨t',k',b'⟩
 obtain ⟨rfl,rfl,h3⟩ := h.gt hd hg.symm
 rw [rtF_yes hg.symm] at he
 injection he with e1 he
 injection he with e2 e3
 subst e1 e2 e3
 exact ⟨rfl,rfl,h3⟩
theorem Sf.count {l r : List Int} {a n m k top : Int} {f b : Bool} (h : Sf l a (putN n ++ r)) (hn : 0 ≤ n ∧ n ≤ 2147483647) (ht : n ≤ top) (hf : f = false) (he : (m,k,b) = rcF l a f top) : m = n ∧ b = false ∧ Sf l k r := by
 rcases hr : rnF l a f with ⟨m',k',b'⟩
 obtain ⟨rfl,rfl,h3⟩ := h.num hn hf hr.symm
 unfold rcF at he
 rw [hr] at he
 simp only at he
 rw [if_neg (by omega)] at he
 injection he with e1 he
 injection he with e2 e3
 subst e1 e2 e3
 exact ⟨rfl,rfl,h3⟩
def rsF (l : List Int) (a : Int) (f : Bool) : Nat → List Int × Int × Bool
 | 0 => ([],a,f)
 | i + 1 => match rsF l a f i with
  | (L,k,b) => match rnF l k b with
   | (n,k',b') => (L ++ [n],k',b')
theorem rsF_succ {l L : List Int} {a k k' n : Int} {f b b' : Bool} {i : Nat} (h : (L,k,b) = rsF l a f i) (h2 : (n,k',b') = rnF l k b) : (L ++ [n],k',b') = rsF l a f (i + 1) := by
 rw [rsF,← h]
 simp only
 rw [← h2]
theorem rsF_rng {l : List Int} {a : Int} {f : Bool} (hl : bytesOk l) (hs : l.length ≤ 1099511627776) (ha : a ≤ 1099511627776) : ∀ i,(rsF l a f i).1.length = i ∧ (rsF l a f i).2.1 ≤ 1099511627776
 | 0 => ⟨rfl,ha⟩
 | i + 1 => by
  have ih := rsF_rng (f := f) hl hs ha i
  have h2 := (rnF_rng (f := (rsF l a f i).2.2) hl hs ih.2).1
  refine ⟨?_,?_⟩
  ·show ((rsF l a f i).1 ++ [_]).length = i + 1
   rw [List.length_append,ih.1]; rfl
  ·exact h2
theorem rsF_get {l L : List Int} {a k : Int} {f b : Bool} {i : Nat} (hl : bytesOk l) (hs : l.length ≤ 1099511627776) (ha : a ≤ 1099511627776) (h : (L,k,b) = rsF l a f i) : L.length = i ∧ k ≤ 1099511627776 := by
 have := rsF_rng (f := f) hl hs ha i
 rw [← h] at this
 exact this
theorem numsB_cons {L : List Int} {i : Nat} {x : Int} (h : L[i]? = some x) : numsB (L.drop i) = putN x ++ numsB (L.drop (i + 1)) := by
 rw [dropCons h,numsB,List.flatMap_cons]; rfl
theorem Sf.row {l r L0 : List Int} {a : Int} {f : Bool} (h : Sf l a (numsB L0 ++ r)) (h0 : ∀ x ∈ L0,0 ≤ x ∧ x ≤ 2147483647) (hf : f = false) : ∀ i,i ≤ L0.length → (rsF l a f i).1 = L0.take i ∧ (rsF l a f i).2.2 = false ∧ Sf l (rsF l a f i).2.1 (numsB (L0.drop i) ++ r)
 | 0,_ => ⟨rfl,hf,h⟩
 | i + 1,hi => by
  obtain ⟨h1,h2,h3⟩ := Sf.row h h0 hf i (by omega)
  have hx : L0[i]? = some L0[i] := List.getElem?_eq_getElem (by omega)
  rcases hr : rsF l a f i with ⟨L,k,b⟩
  rw [hr] at h1 h2 h3
  simp only at h1 h2 h3
  rcases hn : rnF l k b with ⟨n,k',b'⟩
  rw [numsB_cons hx,List.append_assoc] at h3
  obtain ⟨rfl,rfl,h5⟩ := h3.num (h0 _ (List.getElem_mem ..)) h2 hn.symm
  rw [← rsF_succ hr.symm hn.symm]
  refine ⟨?_,rfl,h5⟩
  show L ++ [_] = _
  rw [List.take_add_one,hx,h1]; rfl
theorem Sf.nums {l r L0 L : List Int} {a k : Int} {f b : Bool} (h : Sf l a (numsB L0 ++ r)) (h0 : ∀ x ∈ L0,0 ≤ x ∧ x ≤ 2147483647) (hf : f = false) (he : (L,k,b) = rsF l a f L0.length) : L = L0 ∧ b = false ∧ Sf l k r := by
 obtain ⟨h1,h2,h3⟩ := Sf.row h h0 hf L0.length (Nat.le_refl _)
 rw [← he] at h1 h2 h3
 simp only [List.take_length,List.drop_length] at h1 h2 h3
 exact ⟨h1,h2,h3⟩
theorem rcF_rng {l : List Int} {a m n k : Int} {f b : Bool} (hl : bytesOk l) (hs : l.length ≤ 1099511627776) (ha : a ≤ 1099511627776) (h0 : 0 ≤ m) (h : (n,k,b) = rcF l a f m) : 0 ≤ n ∧ n ≤ m ∧ k ≤ 1099511627776 := by
 have h1 := rnF_rng (f := f) hl hs ha
 unfold rcF at h
 rcases hr : rnF l a f with ⟨n',k',b'⟩
 rw [hr] at h1 h
 simp only at h1 h
 by_cases hc : m < n'
 ·rw [if_pos hc] at h
  injection h with e1 h
  injection h with e2 e3
  rw [e1,e2]
  exact ⟨Int.le_refl _,h0,h1.1⟩
 ·rw [if_neg hc] at h
  injection h with e1 h
  injection h with e2 e3
  rw [e1,e2]
  exact ⟨h1.2.1,by omega,h1.1⟩
theorem rnF_get {l : List Int} {a n k : Int} {f b : Bool} (hl : bytesOk l) (hs : l.length ≤ 1099511627776) (ha : a ≤ 1099511627776) (h : (n,k,b) = rnF l a f) : k ≤ 1099511627776 ∧ 0 ≤ n ∧ n ≤ 2147483647 := by
 have := rnF_rng (f := f) hl hs ha
 rw [← h] at this
 exact this
theorem gnR_live {l : List Int} {a n k : Int} (h : (n,k,true) = gnR l a) : 0 < l.length := by
 cases l with
 | nil =>
  unfold gnR gnAt at h
  split at h
  ·rename_i r hr
   split at hr
   ·cases hr
   ·simp [gnF] at hr
  ·cases h
 | cons x l => exact Nat.succ_pos _
theorem rnF_live {l : List Int} {a n k : Int} {f : Bool} (h : (n,k,false) = rnF l a f) : 0 < l.length := by
 unfold rnF at h
 rcases hg : gnR l a with ⟨n',k',b⟩
 rw [hg] at h
 simp only at h
 split at h
 ·rename_i hc; rw [hc.2] at hg; exact gnR_live hg.symm
 ·injection h with _ h; injection h with _ h; cases h
theorem rcF_live {l : List Int} {a n k m : Int} {f : Bool} (h : (n,k,false) = rcF l a f m) : 0 < l.length := by
 unfold rcF at h
 rcases hg : rnF l a f with ⟨n',k',b⟩
 rw [hg] at h
 simp only at h
 split at h
 ·injection h with _ h; injection h with _ h; cases h
 ·injection h with _ h; injection h with _ h; subst h; exact rnF_live hg.symm
theorem Pr.thenNew {c q : Option Addr} {a b d : St} (h : Pr c a b) (k : Pr q b d) (hn : New a.next q) : Pr c a d := ⟨Nat.le_trans h.1 k.1,fun x hx hc => (k.2 x (Nat.lt_of_lt_of_le hx h.1) fun r hr he => by have := hn r hr; omega).trans (h.2 x hx hc)⟩
abbrev DisR (c : Nat) (p : Option Addr) (l : List Int) : Prop := l = [] ∨ Dis (some ⟨c,0,none⟩) p
theorem Pr.rowsD {c : Nat} {p : Option Addr} {l : List Int} {s s' : St} (h : Pr (some ⟨c,0,none⟩) s s') (hd : DisR c p l) (hR : Rows s 1 fB p l) : Rows s' 1 fB p l := by
 rcases hd with rfl | hd
 ·exact .inl rfl
 ·exact h.rows hd hR
theorem DisR.new {p : Option Addr} {l : List Int} {s : St} (hR : Rows s 1 fB p l) : DisR s.next p l := by
 rcases hR with rfl | ⟨b,off,blk,rfl,_,hb,_⟩
 ·exact .inl rfl
 ·exact .inr fun x y hx hy he => by injection hx with hx; injection hy with hy; subst hx hy; simp only at he; omega
theorem Pc.own.pr {s s' : St} {x : Pc} {q : Option Addr} (h : x.own s) (hP : Pr q s s') (hd : Dis q x.p) : x.own s' := h.keep hP.1 fun r hr => hP.2 _ (h.old r hr) fun t ht he => hd t r ht hr he.symm
theorem Pc.own.pres {s s' : St} {x : Pc} (h : x.own s) (hP : Pres s s') : x.own s' := h.keep hP.1 fun r hr => hP.2 _ (h.old r hr)
theorem ac_impl_nums (c : Nat) (p : Option Addr) (l : List Int) (a : Int) (f : Bool) (m : Int) (st : St) (hO : (rdC c p l a f).own st) (hR : Rows st 1 fB p l) (hd : DisR c p l) (hl : bytesOk l) (hs : l.length ≤ 1099511627776) (ha : a ≤ 1099511627776) (hm0 : 0 ≤ m) (hm : m ≤ 1048576) : C 123 [vP c 0,vI m] st (fun v s => ∃ q n k b L k' b',v = vS q L.length ∧ (n,k,b) = rcF l a f m ∧ (L,k',b') = rsF l k b n.toNat ∧ OwnR s 1 fI q L ∧ New st.next q ∧ (rdC c p l k' b').own s ∧ Pr (some ⟨c,0,none⟩) st s) := by
 have hc0 := (rdC_mem hO).1
 refine AC.enterX (i := ⟨[],[],[0,1,4,5,6,7,12,13,14],[]⟩) [] Try.func123 rfl rfl (by kernel_rfl) (by kernel_rfl) Try.ntmps123 (Lb rfl) rfl ?_
 refine Cu lo0 st [(0,vP c 0),(1,vI m),(4,Sn)] fun _ => ?_
 refine op_nilK (z := 1) (f := fI) rfl rfl rfl rfl (by decide) rfl ?_
 intro q8 s8 hO8 hP8 hN8
 refine Cu lo0 s8 [(0,vP c 0),(1,vI m),(4,Sn),(5,vS q8 0)] fun _ => ?_
 refine ⟨_,rfl,(ac_impl_count c p l a f m s8 (hO.pres hP8) (hP8.rows hR) hl hs ha).mono ?_⟩
 rintro _ s11 ⟨n,k,b,rfl,h11,hO11,hP11⟩
 refine cxs ?_
 refine Cu lo0 s11 [(0,vP c 0),(4,Sn),(5,vS q8 0),(12,vI n),(13,vI 0)] fun _ => ?_
 obtain ⟨hn0,hnm,hk⟩ := rcF_rng hl hs ha hm0 h11
 have hN0 : New st.next q8 := hN8
 have hQ0 : OwnR s11 1 fI q8 [] := hP11.ownR (Dis.of (Old.some hc0) hN0) hO8
 have hP0 : Pr (some ⟨c,0,none⟩) st s11 := hP8.pr.trans hP11
 refine AW.loop0 (fun x : Nat × Option Addr × List Int × Int × Bool => [(0,vP c 0),(4,.slice none 0 0),(5,vS x.2.1 x.2.2.1.length),(12,vI n),(13,vI (x.1 : Int))]) (fun m (x : Nat × Option Addr × List Int × Int × Bool) st' => m = n.toNat - x.1 ∧ (x.1 : Int) ≤ n ∧ (x.2.2.1,x.2.2.2.1,x.2.2.2.2) = rsF l k b x.1 ∧ OwnR st' 1 fI x.2.1 x.2.2.1 ∧ New st.next x.2.1 ∧ (rdC c p l x.2.2.2.1 x.2.2.2.2).own st' ∧ Pr (some ⟨c,0,none⟩) st st') (0,q8,[],k,b) _ ⟨rfl,rfl,rfl,rfl,rfl,trivial⟩ rfl ⟨rfl,hn0,rfl,hQ0,hN0,hO11,hP0⟩ ?_
 rintro m ⟨i,q,L,k',b'⟩ ρ0 st' ⟨rfl,hi,hL,hQ,hN,hO',hP⟩
 simp only at hi hL hQ hN hO' hP
 refine ⟨_,rfl,?_⟩
 rintro (_|_) h14
 ·replace h14 : ¬ ((i : Int) < n) := of_decide_eq_false h14
  refine Cu lo0 st' [(0,vP c 0),(4,Sn),(5,vS q L.length),(12,vI n),(13,vI (i : Int)),(14,vB false)] fun _ => ?_
  refine cxs ?_
  exact cxs (Rt ⟨q,n,k,b,L,k',b',rfl,h11,(by rw [show n.toNat = i by omega]; exact hL),hQ,hN,hO',hP⟩)
 ·replace h14 : (i : Int) < n := of_decide_eq_true h14
  refine Cu lo0 st' [(0,vP c 0),(4,Sn),(5,vS q L.length),(12,vI n),(13,vI (i : Int)),(14,vB true)] fun _ => ?_
  refine cxs ?_
  refine ⟨_,rfl,(ac_impl_num c p l k' b' st' hO' (hP.rowsD hd hR) hl hs (rsF_get hl hs hk hL).2).mono ?_⟩
  rintro _ s16 ⟨n16,k16,b16,rfl,h16,hO16,hP16⟩
  refine Cu lo0 s16 [(0,vP c 0),(4,Sn),(5,vS q L.length),(7,vI n16),(12,vI n),(13,vI (i : Int)),(14,vB true)] fun _ => ?_
  have hQ16 : OwnR s16 1 fI q L := hP16.ownR (Dis.of (Old.some hc0) hN) hQ
  have hlen := (rsF_get hl hs hk hL).1
  refine op_one (z := 1) (a := (n16 : Int)) (f := fI) rfl rfl rfl rfl rfl (by decide) rfl (Lb rfl) rfl rfl rfl ?_
  refine op_snoc (z := 1) (st := s16) (f := fI) (b := 8) (l := L) (x := n16) rfl rfl rfl rfl rfl rfl rfl (by decide) fI_len rfl rfl rfl (by omega) (by unfold maxLen; omega) hQ16 ?_
  intro q20 s20 hO20 hP20 hN20
  refine Cu lo0 s20 [(0,vP c 0),(4,Sn),(5,vS q20 (L ++ [n16]).length),(7,vI n16),(12,vI n),(13,vI (i : Int)),(14,vB true)] fun _ => ?_
  have ew21 : IntKind.wrap .i64 ((i : Int) + (1)) = ((i + 1 : Nat) : Int) := (wrap_i64 (by omega) (by omega)).trans (by omega)
  refine ⟨_,rfl,?_⟩
  exact ⟨(i + 1,q20,L ++ [n16],k16,b16),n.toNat - (i + 1),by omega,⟨rfl,rfl,rfl,rfl,congrArg (Value.int .i64) ew21,trivial⟩,rfl,rfl,by simp only; omega,rsF_succ hL h16,hO20,hN20.le (Nat.le_trans hP.1 hP16.1),hO16.pr hP20 (Dis.of (Old.some hc0) hN).symm,(hP.trans hP16).thenNew hP20 hN⟩
theorem ac_spec_l10Many (c : Nat) (p : Option Addr) (l : List Int) (a : Int) (f : Bool) (tm : Int) (st : St) (hO : (rdC c p l a f).own st) (hR : Rows st 1 fB p l) (hd : DisR c p l) (hl : bytesOk l) (hs : l.length ≤ 1099511627776) (ha : a ≤ 1099511627776) (htm : tm = 1 ∨ tm = 2) : C 96 [vP c 0,vI tm] st (fun v s => ∃ q L k' b',v = vS q L.length ∧ L.length ≤ 200 ∧ k' ≤ 1099511627776 ∧ (b' = false → 0 < l.length) ∧ (f = false → ∀ (n0 : Int) L0 r,(∀ x ∈ L0,0 ≤ x ∧ x ≤ 2147483647) → (L0.length : Int) = n0 * tm → 0 ≤ n0 → n0 ≤ 100 → Sf l a (putN n0 ++ (numsB L0 ++ r)) → L = L0 ∧ b' = false ∧ Sf l k' r) ∧ OwnR s 1 fI q L ∧ New st.next q ∧ (rdC c p l k' b').own s ∧ Pr (some ⟨c,0,none⟩) st s) := by
 have hc0 := (rdC_mem hO).1
 refine AC.enterX (i := ⟨[],[],[0,1,4,5,6,7,8,27],[]⟩) [] Try.func96 rfl rfl (by kernel_rfl) (by kernel_rfl) Try.ntmps96 (Lb rfl) rfl ?_
 refine Cu lo0 st [(0,vP c 0),(1,vI tm),(4,Sn)] fun _ => ?_
 refine ⟨_,rfl,(ac_spec_num c p l a f st hO hR hl hs ha).mono ?_⟩
 rintro _ s10 ⟨n,k,b,rfl,h10,hO10,hP10⟩
 refine Cu lo0 s10 [(0,vP c 0),(1,vI tm),(4,Sn),(5,vI n)] fun _ => ?_
 obtain ⟨hk,hn0,hn1⟩ := rnF_get hl hs ha h10
 obtain ⟨M,hM,hM0,hM1,hM2⟩ : ∃ M,n * tm = M ∧ 0 ≤ M ∧ M ≤ 4294967294 ∧ (n ≤ 100 → M ≤ 200) := by
  rcases htm with rfl | rfl
  ·exact ⟨n,Int.mul_one n,hn0,by omega,fun h => by omega⟩
  ·exact ⟨n * 2,rfl,by omega,by omega,fun h => by omega⟩
 refine op_nilK (z := 1) (f := fI) rfl rfl rfl rfl (by decide) rfl ?_
 intro q11 s11 hO11 hP11 hN11
 refine cxs ?_
 have hQ0 : OwnR s11 1 fI q11 [] := hO11
 have hP0 : Pr (some ⟨c,0,none⟩) st s11 := hP10.trans hP11.pr
 have hN0 : New st.next q11 := hN11.le hP10.1
 have hO0 : (rdC c p l k b).own s11 := hO10.pres hP11
 refine Cu lo0 s11 [(0,vP c 0),(1,vI tm),(4,Sn),(5,vI n),(6,vS q11 0),(7,vI 0)] fun _ => ?_
 refine AW.loop0 (fun x : Nat × Option Addr × List Int × Int × Bool => [(0,vP c 0),(1,vI tm),(4,.slice none 0 0),(5,vI n),(6,vS x.2.1 x.2.2.1.length),(7,vI (x.1 : Int))]) (fun m (x : Nat × Option Addr × List Int × Int × Bool) st' => m = 200 - x.1 ∧ x.1 ≤ 200 ∧ x.2.2.1.length = x.1 ∧ x.2.2.2.1 ≤ 1099511627776 ∧ ((x.1 : Int) ≤ M ∧ (x.2.2.2.2 = false → 0 < l.length)) ∧ (f = false → ∀ (n0 : Int) L0 r,(∀ x ∈ L0,0 ≤ x ∧ x ≤ 2147483647) → (L0.length : Int) = n0 * tm → 0 ≤ n0 → n0 ≤ 100 → Sf l a (putN n0 ++ (numsB L0 ++ r)) → n = n0 ∧ M = (L0.length : Int) ∧ x.2.2.1 = L0.take x.1 ∧ x.2.2.2.2 = false ∧ Sf l x.2.2.2.1 (numsB (L0.drop x.1) ++ r)) ∧ OwnR st' 1 fI x.2.1 x.2.2.1 ∧ New st.next x.2.1 ∧ (rdC c p l x.2.2.2.1 x.2.2.2.2).own st' ∧ Pr (some ⟨c,0,none⟩) st st') (0,q11,[],k,b) _ ⟨rfl,rfl,rfl,rfl,rfl,rfl,trivial⟩ rfl ⟨rfl,Nat.zero_le _,rfl,hk,⟨hM0,fun hb => by subst hb; exact rnF_live h10⟩,fun hf n0 L0 r h0 hlen h1 h2 hS => (by obtain ⟨e1,e2,e3⟩ := hS.num ⟨h1,by omega⟩ hf h10; subst e1; exact ⟨rfl,by rw [← hM,hlen],rfl,e2,e3⟩),hQ0,hN0,hO0,hP0⟩ ?_
 rintro m ⟨i,q,L,k',b'⟩ ρ0 st' ⟨rfl,hi,hLl,hk',⟨hiM,hlv⟩,hS,hQ,hN,hO',hP⟩
 simp only at hi hLl hk' hiM hlv hS hQ hN hO' hP
 have hmem := (rdC_mem hO').2
 have ew15 : IntKind.wrap .i64 (n * tm) = n * tm := wrap_i64 (by omega) (by omega)
 iterate 2 refine ⟨_,rfl,?_⟩
 rintro (_|_) h16
 ·replace h16 : ¬ ((i : Int) < (IntKind.wrap .i64 (n * tm))) := of_decide_eq_false h16
  rw [ew15] at h16
  iterate 2 refine ⟨_,rfl,?_⟩
  refine Cu lo0 st' [(0,vP c 0),(1,vI tm),(4,Sn),(5,vI n),(6,vS q L.length),(7,vI (i : Int)),(27,vB false)] fun _ => ?_
  refine cxs ?_
  iterate 2 refine ⟨_,rfl,?_⟩
  refine ⟨_,op_ld rfl rfl rfl rfl hmem rfl,?_⟩
  rcases b' with _|_
  ·refine ⟨_,rfl,?_⟩
   rintro (_|_) h43
   ·replace h43 : ¬ (n > (100)) := of_decide_eq_false h43
    iterate 3 refine ⟨_,rfl,?_⟩
    refine op_stO (z := 0) (c := c) (off := 2) rfl rfl rfl rfl rfl rfl hO' (by simp) ?_
    intro s5 hO5 hP5 hn5
    refine cxs ?_
    refine cxs ?_
    exact ⟨.inl rfl,_,rfl,q,L,k',false,rfl,by omega,hk',(fun _ => hlv rfl),fun hf n0 L0 r h0 hlen h1 h2 hSf => (by
     obtain ⟨e1,e2,e3,e4,e5⟩ := hS hf n0 L0 r h0 hlen h1 h2 hSf
     exact ⟨by rw [e3]; exact List.take_of_length_le (by omega),rfl,by rw [List.drop_eq_nil_of_le (by omega)] at e5; exact e5⟩),hP5.ownR (Dis.of (Old.some hc0) hN) hQ,hN,hO5,hP.trans hP5⟩
   ·replace h43 : n > (100) := of_decide_eq_true h43
    iterate 3 refine ⟨_,rfl,?_⟩
    refine op_stO (z := 0) (c := c) (off := 2) rfl rfl rfl rfl rfl rfl hO' (by simp) ?_
    intro s5 hO5 hP5 hn5
    refine cxs ?_
    refine cxs ?_
    exact ⟨.inl rfl,_,rfl,q,L,k',true,rfl,by omega,hk',(fun h => (by cases h)),fun hf n0 L0 r h0 hlen h1 h2 hSf => (by
     obtain ⟨e1,e2,e3,e4,e5⟩ := hS hf n0 L0 r h0 hlen h1 h2 hSf
     omega),hP5.ownR (Dis.of (Old.some hc0) hN) hQ,hN,hO5,hP.trans hP5⟩
  ·iterate 3 refine ⟨_,rfl,?_⟩
   refine op_stO (z := 0) (c := c) (off := 2) rfl rfl rfl rfl rfl rfl hO' (by simp) ?_
   intro s5 hO5 hP5 hn5
   refine cxs ?_
   refine cxs ?_
   exact ⟨.inl rfl,_,rfl,q,L,k',true,rfl,by omega,hk',(fun h => (by cases h)),fun hf n0 L0 r h0 hlen h1 h2 hSf => (by
    obtain ⟨e1,e2,e3,e4,e5⟩ := hS hf n0 L0 r h0 hlen h1 h2 hSf
    cases e4),hP5.ownR (Dis.of (Old.some hc0) hN) hQ,hN,hO5,hP.trans hP5⟩
 ·replace h16 : (i : Int) < (IntKind.wrap .i64 (n * tm)) := of_decide_eq_true h16
  rw [ew15] at h16
  iterate 2 refine ⟨_,rfl,?_⟩
  refine ⟨_,op_ld rfl rfl rfl rfl hmem rfl,?_⟩
  rcases b' with _|_
  ·iterate 3 refine ⟨_,rfl,?_⟩
   rintro (_|_) h26
   ·replace h26 : ¬ (n ≤ (100)) := of_decide_eq_false h26
    refine ⟨_,rfl,?_⟩
    refine Cu lo0 st' [(0,vP c 0),(1,vI tm),(4,Sn),(5,vI n),(6,vS q L.length),(7,vI (i : Int)),(27,vB false)] fun _ => ?_
    refine cxs ?_
    iterate 2 refine ⟨_,rfl,?_⟩
    refine ⟨_,op_ld rfl rfl rfl rfl hmem rfl,?_⟩
    refine ⟨_,rfl,?_⟩
    rintro (_|_) h43
    ·replace h43 : ¬ (n > (100)) := of_decide_eq_false h43
     iterate 3 refine ⟨_,rfl,?_⟩
     refine op_stO (z := 0) (c := c) (off := 2) rfl rfl rfl rfl rfl rfl hO' (by simp) ?_
     intro s5 hO5 hP5 hn5
     refine cxs ?_
     refine cxs ?_
     exact absurd h43 (by omega)
    ·replace h43 : n > (100) := of_decide_eq_true h43
     iterate 3 refine ⟨_,rfl,?_⟩
     refine op_stO (z := 0) (c := c) (off := 2) rfl rfl rfl rfl rfl rfl hO' (by simp) ?_
     intro s5 hO5 hP5 hn5
     refine cxs ?_
     refine cxs ?_
     exact ⟨.inl rfl,_,rfl,q,L,k',true,rfl,by omega,hk',(fun h => (by cases h)),fun hf n0 L0 r h0 hlen h1 h2 hSf => (by
      obtain ⟨e1,e2,e3,e4,e5⟩ := hS hf n0 L0 r h0 hlen h1 h2 hSf
      omega),hP5.ownR (Dis.of (Old.some hc0) hN) hQ,hN,hO5,hP.trans hP5⟩
   ·replace h26 : n ≤ (100) := of_decide_eq_true h26
    refine ⟨_,rfl,?_⟩
    refine Cu lo0 st' [(0,vP c 0),(1,vI tm),(4,Sn),(5,vI n),(6,vS q L.length),(7,vI (i : Int)),(27,vB true)] fun _ => ?_
    refine cxs ?_
    refine ⟨_,rfl,(ac_spec_num c p l k' false st' hO' (hP.rowsD hd hR) hl hs hk').mono ?_⟩
    rintro _ s31 ⟨n31,k31,b31,rfl,h31,hO31,hP31⟩
    refine Cu lo0 s31 [(0,vP c 0),(1,vI tm),(4,Sn),(5,vI n),(6,vS q L.length),(7,vI (i : Int)),(8,vI n31),(27,vB true)] fun _ => ?_
    have hQ31 : OwnR s31 1 fI q L := hP31.ownR (Dis.of (Old.some hc0) hN) hQ
    refine op_one (z := 1) (a := (n31 : Int)) (f := fI) rfl rfl rfl rfl rfl (by decide) rfl (Lb rfl) rfl rfl rfl ?_
    refine op_snoc (z := 1) (st := s31) (f := fI) (b := 8) (l := L) (x := n31) rfl rfl rfl rfl rfl rfl rfl (by decide) fI_len rfl rfl rfl (by omega) (by unfold maxLen; omega) hQ31 ?_
    intro q35 s35 hO35 hP35 hN35
    refine Cu lo0 s35 [(0,vP c 0),(1,vI tm),(4,Sn),(5,vI n),(6,vS q35 (L ++ [n31]).length),(7,vI (i : Int)),(8,vI n31),(27,vB true)] fun _ => ?_
    have ew29 : IntKind.wrap .i64 ((i : Int) + (1)) = ((i + 1 : Nat) : Int) := (wrap_i64 (by omega) (by omega)).trans (by omega)
    refine ⟨_,rfl,?_⟩
    have hi200 : i < 200 := by have := hM2 h26; omega
    refine ⟨(i + 1,q35,L ++ [n31],k31,b31),200 - (i + 1),by omega,⟨rfl,rfl,rfl,rfl,rfl,congrArg (Value.int .i64) ew29,trivial⟩,rfl,rfl,hi200,by rw [List.length_append,hLl]; rfl,(rnF_get hl hs hk' h31).1,⟨by simp only; omega,fun hb => by simp only at hb; subst hb; exact rnF_live h31⟩,fun hf n0 L0 r h0 hlen h1 h2 hSf => ?_,hO35,hN35.le (Nat.le_trans hP.1 hP31.1),hO31.pr hP35 (Dis.of (Old.some hc0) hN).symm,(hP.trans hP31).thenNew hP35 hN⟩
    obtain ⟨e1,e2,e3,e4,e5⟩ := hS hf n0 L0 r h0 hlen h1 h2 hSf
    have hx : L0[i]? = some L0[i] := List.getElem?_eq_getElem (by omega)
    rw [numsB_cons hx,List.append_assoc] at e5
    obtain ⟨g1,g2,g3⟩ := e5.num (h0 _ (List.getElem_mem ..)) rfl h31
    exact ⟨e1,e2,by show L ++ [n31] = _; rw [List.take_add_one,hx,← e3,g1]; rfl,g2,g3⟩
  ·iterate 3 refine ⟨_,rfl,?_⟩
   refine Cu lo0 st' [(0,vP c 0),(1,vI tm),(4,Sn),(5,vI n),(6,vS q L.length),(7,vI (i : Int)),(27,vB false)] fun _ => ?_
   refine cxs ?_
   iterate 2 refine ⟨_,rfl,?_⟩
   refine ⟨_,op_ld rfl rfl rfl rfl hmem rfl,?_⟩
   iterate 3 refine ⟨_,rfl,?_⟩
   refine op_stO (z := 0) (c := c) (off := 2) rfl rfl rfl rfl rfl rfl hO' (by simp) ?_
   intro s5 hO5 hP5 hn5
   refine cxs ?_
   refine cxs ?_
   exact ⟨.inl rfl,_,rfl,q,L,k',true,rfl,by omega,hk',(fun h => (by cases h)),fun hf n0 L0 r h0 hlen h1 h2 hSf => (by
    obtain ⟨e1,e2,e3,e4,e5⟩ := hS hf n0 L0 r h0 hlen h1 h2 hSf
    cases e4),hP5.ownR (Dis.of (Old.some hc0) hN) hQ,hN,hO5,hP.trans hP5⟩
section
variable {P : Program} {ls : List Tmp} {call : ACallT} {o : Oper} {e : Operand → Value} {lo : Lo} {st : St}
theorem op_strW {src dst el : TypeId} {x : Operand} {p : Option Addr} {l : List Int} (ho : o.op = .convert src dst x) (hx : e x = vS p l.length) (hd : telem P dst = none) (hs : tstr P dst = true) (hse : telem P src = some el) (hi : tint P el = some .u8) (hR : Rows st 1 fB p l) (hl : 0 < l.length) :
  aoper P ls call o e lo st = some (.string (toB l),lo,st) := by
 have hp : shO p 1 0 = p := by cases p <;> simp [shO]
 have := op_strS (ls := ls) (call := call) (lo := lo) (e := e) (k := 0) (n := l.length) ho (hx.trans (by rw [hp])) hd hs hse hi hR hl (by omega)
 rw [List.drop_zero,List.take_length] at this
 exact this
theorem ld_str {n0 : Nat → Prop} {o' : Op} {s d : TypeId} {x : Operand} {p : Option Addr} {n : Nat} (ho : o' = .convert s d x) (hx : e x = vS p n) (hp : ∀ q,p = some q → q.spot = none ∧ n0 q.block) : ldChk n0 o' e := by
 subst ho
 intro q m c h
 rw [hx] at h
 injection h with h1 _ _
 exact hp q h1
end
theorem rows_lt {st : St} {p : Option Addr} {l : List Int} (h : Rows st 1 fB p l) (hl : 0 < l.length) : ∀ q,p = some q → q.spot = none ∧ q.block < st.next := fun q hq => by
 rcases h with rfl | ⟨b,off,blk,h1,_,hb,_⟩
 ·cases hl
 ·rw [h1] at hq; injection hq with hq; subst hq; exact ⟨rfl,hb⟩
theorem bsl_toB {l : List Int} (h : bytesOk l) : bsl (toB l) = l := by
 unfold bsl toB
 rw [List.map_map]
 conv => rhs; rw [← List.map_id l]
 refine List.map_congr_left fun x hx => ?_
 have := h x hx
 show ((UInt8.ofNat x.toNat).toNat : Int) = x
 rw [UInt8.toNat_ofNat']
 omega
theorem toB_inj {a b : List Int} (ha : bytesOk a) (hb : bytesOk b) (h : toB a = toB b) : a = b := by rw [← bsl_toB ha,← bsl_toB hb,h]
theorem ac_bytes_Equal (p q : Option Addr) (a b : List Int) (st : St) (hA : Rows st 1 fB p a) (hB : Rows st 1 fB q b) (ha : 0 < a.length) (hb : 0 < b.length) (oa : bytesOk a) (ob : bytesOk b) : C 101 [vS p a.length,vS q b.length] st (fun v s => ∃ x,v = .bool x ∧ (x = true ↔ a = b) ∧ s = st) := by
 refine AC.enterX (i := ⟨[],[],[0,1,4],[]⟩) [] Try.func101 rfl rfl (by kernel_rfl) (by kernel_rfl) Try.ntmps101 (Lb rfl) rfl ?_
 refine Cu lo0 st [(0,vS p a.length),(1,vS q b.length),(4,vB false)] fun _ => ?_
 refine ⟨_,op_strW (l := a) rfl rfl rfl rfl rfl rfl hA ha,?_⟩
 refine ⟨_,op_strW (l := b) rfl rfl rfl rfl rfl rfl hB hb,?_⟩
 refine ⟨_,rfl,?_⟩
 rintro (_|_) h9
 ·replace h9 : ¬ ((toB a) = (toB b)) := str_bne h9
  exact cxs (Rt ⟨false,rfl,⟨fun h => absurd h Bool.false_ne_true,fun h => (show False from (h9 (by rw [h]))).elim⟩,rfl⟩)
 ·replace h9 : (toB a) = (toB b) := beq_bytes.1 h9
  exact cxs (Rt ⟨true,rfl,⟨fun _ => toB_inj oa ob h9,fun _ => rfl⟩,rfl⟩)
open Classical in
noncomputable def parseS (l : List Int) : Sta × Bool := if h : ∃ s,stateOk s ∧ stB s = l then (Classical.choose h,true) else (nilS,false)
theorem parse_ok {u : Sta} {l : List Int} (h1 : stateOk u) (h2 : stB u = l) (h3 : ∀ s,stateOk s → stB s = l → u = s) : (u,true) = parseS l := by
 unfold parseS
 have h : ∃ s,stateOk s ∧ stB s = l := ⟨u,h1,h2⟩
 rw [dif_pos h,← h3 _ (Classical.choose_spec h).1 (Classical.choose_spec h).2]
theorem parse_no {l : List Int} (h : ∀ s,stateOk s → stB s = l → False) : (nilS,false) = parseS l := by
 unfold parseS
 rw [dif_neg (fun ⟨s,h1,h2⟩ => h s h1 h2)]
theorem parse_yes {u : Sta} {l : List Int} (h : (u,true) = parseS l) : stateOk u ∧ stB u = l := by
 unfold parseS at h
 split at h
 ·rename_i hx
  injection h with h _
  rw [h]; exact Classical.choose_spec hx
 ·injection h with _ h; cases h
theorem sta_of {a b : Sta} (h1 : a.items = b.items) (h2 : a.floors = b.floors) : a = b := by
 obtain ⟨ai,af⟩ := a
 obtain ⟨bi,bf⟩ := b
 simp only at h1 h2
 rw [h1,h2]
theorem gtR_rng {l : List Int} {a k : Int} {t : ByteArray} {b : Bool} (hl : bytesOk l) (hs : l.length ≤ 1048576) (h : (t,k,b) = gtR l a) : k ≤ 1099511627776 ∧ t.size ≤ 1048576 ∧ (b = true → 0 < l.length) := by
 unfold gtR at h
 rcases hg : gnR l a with ⟨n',k',b'⟩
 rw [hg] at h
 simp only at h
 split at h
 ·rename_i hc
  obtain ⟨rfl,hc⟩ := hc
  have := gnR_ok hl hg.symm
  injection h with e1 h
  injection h with e2 e3
  rw [e1,e2]
  refine ⟨by omega,?_,fun _ => gnR_live hg.symm⟩
  rw [toB_size,List.length_take,List.length_drop]; omega
 ·injection h with e1 h
  injection h with e2 e3
  rw [e1,e2,e3]
  exact ⟨by decide,by decide,fun h => by cases h⟩
theorem rtF_rng {l : List Int} {a k : Int} {t : ByteArray} {f b : Bool} (hl : bytesOk l) (hs : l.length ≤ 1048576) (ha : a ≤ 1099511627776) (h : (t,k,b) = rtF l a f) : k ≤ 1099511627776 ∧ t.size ≤ 1048576 ∧ (b = false → 0 < l.length) := by
 unfold rtF at h
 rcases hg : gtR l a with ⟨n',k',b'⟩
 have hr := gtR_rng hl hs hg.symm
 rw [hg] at h
 simp only at h
 split at h
 ·rename_i hc
  injection h with e1 h
  injection h with e2 e3
  rw [e1,e2]
  exact ⟨hr.1,hr.2.1,fun _ => hr.2.2 hc.2⟩
 ·injection h with e1 h
  injection h with e2 e3
  rw [e1,e2,e3]
  exact ⟨ha,by decide,fun h => by cases h⟩
theorem flB_cons {L : List Flr} {i : Nat} {x : Flr} (h : L[i]? = some x) : flsB (L.drop i) = putN x.id ++ (putN x.inc ++ flsB (L.drop (i + 1))) := by
 rw [dropCons h,flsB,List.flatMap_cons,flB,List.append_assoc]; rfl
theorem itB_cons {L : List Itm} {i : Nat} {x : Itm} (h : L[i]? = some x) (r : List Int) : itsB (L.drop i) ++ r = putN x.id ++ (putN x.e.inc ++ (putN x.e.rank ++ (putN x.e.beat ++ (putN x.e.ver ++ (putS x.e.data ++ (itsB (L.drop (i + 1)) ++ r)))))) := by
 rw [dropCons h,itsB,List.flatMap_cons,itB]
 simp [numsB,itL,List.append_assoc,itsB]
theorem stB_eq (s : Sta) : stB s = putN (s.items.length : Int) ++ (itsB s.items ++ (putN (s.floors.length : Int) ++ flsB s.floors)) := by
 unfold stB; simp only [List.append_assoc]
theorem stB_pos {s : Sta} (h : stateOk s) : 0 < (stB s).length := by
 have h5 := items_len h
 rw [stB_eq,List.length_append]
 have hp : putN (s.items.length : Int) = vlq (s.items.length : Int).toNat := if_pos ⟨by omega,by omega⟩
 have := vlq_pos (s.items.length : Int).toNat
 rw [hp]; omega
theorem item_rng {s : Sta} (h : stateOk s) {i : Nat} {x : Itm} (hx : s.items[i]? = some x) : (0 ≤ x.id ∧ x.id ≤ 2147483647) ∧ (0 ≤ x.e.inc ∧ x.e.inc ≤ 2147483647) ∧ (0 ≤ x.e.rank ∧ x.e.rank ≤ 2147483647) ∧ (0 ≤ x.e.beat ∧ x.e.beat ≤ 2147483647) ∧ (0 ≤ x.e.ver ∧ x.e.ver ≤ 2147483647) ∧ x.e.data.size ≤ 2147483647 := by
 obtain ⟨h1,⟨h2,h3,h4,h5,h6⟩,_⟩ := h.1 i x hx
 omega
theorem floor_rng {s : Sta} (h : stateOk s) {i : Nat} {x : Flr} (hx : s.floors[i]? = some x) : (0 ≤ x.id ∧ x.id ≤ 2147483647) ∧ (0 ≤ x.inc ∧ x.inc ≤ 2147483647) := by
 obtain ⟨h1,h2,_⟩ := h.2 i x hx
 omega
theorem ac_impl_StateOf (p : Option Addr) (l : List Int) (st : St) (hR : Rows st 1 fB p l) (hl : bytesOk l) (hs : l.length ≤ 1048576) : C 40 [vS p l.length] st (fun v s => ∃ (u : SV) (b : Bool),v = .tuple #[.agg #[vS u.p u.x.items.length,vS u.q u.x.floors.length],vB b] ∧ (u.x,b) = parseS l ∧ OwnP s (pcS u) ∧ NewP st.next (pcS u) ∧ Pres st s) := by
 have hs' : l.length ≤ 1099511627776 := by omega
 refine AC.enterX (i := ⟨[2,5,7,9],[2,5,7,9,22,25,26,29,30,33,34,37,38,41,42,43,48,58,61,62,67],[0,2,3,4,5,6,7,8,9,16,17,18,52,53,54,84],[]⟩) [] Try.func40 rfl rfl (by kernel_rfl) (by kernel_rfl) Try.ntmps40 (Lb rfl) rfl ?_
 refine ⟨_,rfl,?_⟩
 refine Cm 1 st [(0,vS p l.length),Ml 2 0,(3,vB false)] [(2,0,[Sn,Sn])] fun _ _ => ?_
 refine ⟨_,rfl,?_⟩
 refine ⟨_,rfl,?_⟩
 refine Cm 1 (st.push 0 [vS p l.length,vI 0,vB false]) [(0,vS p l.length),Ml 2 0,(3,vB false),(4,vP st.next 0)] [(2,0,[Sn,Sn])] fun _ _ => ?_
 have hO1 : (rdC st.next p l 0 false).own (st.push 0 [vS p l.length,vI 0,vB false]) := .inr ⟨st.next,rfl,Nat.lt_succ_self _,if_pos rfl⟩
 have hP1 : Pres st (st.push 0 [vS p l.length,vI 0,vB false]) := Pres.push
 have hc1 : st.next < (st.push 0 [vS p l.length,vI 0,vB false]).next := Nat.lt_succ_self _
 obtain ⟨s1,hs1⟩ : ∃ s,s = st.push 0 [vS p l.length,vI 0,vB false] := ⟨_,rfl⟩
 rw [← hs1] at hO1 hP1 hc1 ⊢
 have hd := DisR.new hR
 have hR1 := hP1.rows hR
 iterate 2 refine ⟨_,rfl,?_⟩
 refine ⟨_,Os rfl,?_⟩
 refine Cm 2 s1 [(0,vS p l.length),Ml 2 0,(3,vB false),(4,vP st.next 0),Ml 5 1] [(2,0,[Sn,Sn]),(5,1,[Sn,Sn])] fun _ _ => ?_
 refine ⟨_,rfl,(ac_impl_count st.next p l 0 false 5 s1 hO1 hR1 hl hs' (by decide)).mono ?_⟩
 rintro _ s15 ⟨n,k,b,rfl,h15,hO15,hP15⟩
 refine cxs ?_
 obtain ⟨hn0,hn5,hk⟩ := rcF_rng hl hs' (by decide) (by decide) h15
 have hF15 : FrC st.next s1 s15 (pcS ⟨none,none,nilS⟩) := (Frs.nlS.toC (Nat.lt_of_lt_of_le hc1 hP15.1)).sooner (PresC.of.2 hP15) hc1
 have hS0 : ∀ s0,stateOk s0 → stB s0 = l → n = (s0.items.length : Int) ∧ ([] : List Itm) = s0.items.take 0 ∧ b = false ∧ Sf l k (itsB (s0.items.drop 0) ++ (putN (s0.floors.length : Int) ++ flsB s0.floors)) := fun s0 h1 h2 => by
  have h3 : Sf l 0 (putN (s0.items.length : Int) ++ (itsB s0.items ++ (putN (s0.floors.length : Int) ++ flsB s0.floors))) := by rw [← stB_eq,h2]; exact Sf.start l
  have h5 := items_len h1
  obtain ⟨e1,e2,e3⟩ := h3.count (by omega) (by omega) rfl h15
  exact ⟨e1,rfl,e2,e3⟩
 have hlive : b = false → 0 < l.length := fun hb => by subst hb; exact rcF_live h15
 refine Cm 2 s15 [(0,vS p l.length),Ml 2 0,(3,vB false),(4,vP st.next 0),Ml 5 1,(16,vI n),(17,vI 0)] [(2,0,[Sn,Sn]),(5,1,[Sn,Sn])] fun _ _ => ?_
 refine AW.loopM (fun x : Nat × SV × Int × Bool => [(0,vS p l.length),(2,vL 2 0 (0)),(3,vB false),(4,vP st.next 0),(5,vL 5 0 (1)),(16,vI n),(17,vI (x.1 : Int))]) (fun x : Nat × SV × Int × Bool => [(2,0,[.slice none 0 0,.slice none 0 0]),(5,1,[vS x.2.1.p x.2.1.x.items.length,vS x.2.1.q x.2.1.x.floors.length])]) (fun m (x : Nat × SV × Int × Bool) st' => m = n.toNat - x.1 ∧ (x.1 : Int) ≤ n ∧ (x.2.1.x.items.length = x.1 ∧ x.2.1.x.floors = [] ∧ ∀ y ∈ x.2.1.x.items,y.e.data.size ≤ 1048576) ∧ x.2.2.1 ≤ 1099511627776 ∧ (∀ s0,stateOk s0 → stB s0 = l → n = (s0.items.length : Int) ∧ x.2.1.x.items = s0.items.take x.1 ∧ x.2.2.2 = false ∧ Sf l x.2.2.1 (itsB (s0.items.drop x.1) ++ (putN (s0.floors.length : Int) ++ flsB s0.floors))) ∧ (x.2.2.2 = false → 0 < l.length) ∧ FrC st.next s1 st' (pcS x.2.1) ∧ (rdC st.next p l x.2.2.1 x.2.2.2).own st') (0,⟨none,none,nilS⟩,k,b) _ ⟨rfl,rfl,rfl,rfl,rfl,rfl,rfl,trivial⟩ ⟨rfl,rfl,trivial⟩ ⟨rfl,hn0,⟨rfl,rfl,fun y hy => (nomatch hy)⟩,hk,hS0,hlive,hF15,hO15⟩ ?_
 rintro m ⟨i,u,k',b'⟩ ρ0 ff gg st' ⟨rfl,hi,⟨hil,hfl,hds⟩,hk',hS,hlv,hF,hO'⟩
 simp only at hi hil hfl hds hk' hS hlv hF hO'
 have hRl : Rows st' 1 fB p l := (PresC.of.1 hF.2.2.1).rowsD hd hR1
 refine ⟨_,rfl,?_⟩
 rintro (_|_) h18
 ·replace h18 : ¬ ((i : Int) < n) := of_decide_eq_false h18
  refine Cm gg st' [(0,vS p l.length),Ml 2 0,(3,vB false),(4,vP st.next 0),Ml 5 1,(16,vI n),(17,vI (i : Int)),(18,vB false)] [(2,0,[Sn,Sn]),(5,1,cSV u)] fun _ _ => ?_
  refine cxs ?_
  refine ⟨_,rfl,(ac_impl_count st.next p l k' b' 5 st' hO' hRl hl hs' hk').mono ?_⟩
  rintro _ s51 ⟨n6,k7,b7,rfl,h51,hO51,hP51⟩
  refine cxs ?_
  obtain ⟨hm0,hm5,hk51⟩ := rcF_rng hl hs' hk' (by decide) h51
  have hF51 := hF.later (PresC.of.2 hP51)
  have hin : (i : Int) = n := by omega
  have hS1 : ∀ s0,stateOk s0 → stB s0 = l → u.x.items = s0.items ∧ n6 = (s0.floors.length : Int) ∧ u.x.floors = s0.floors.take 0 ∧ b7 = false ∧ Sf l k7 (flsB (s0.floors.drop 0)) := fun s0 g1 g2 => by
   obtain ⟨e1,e2,e3,e4⟩ := hS s0 g1 g2
   rw [List.drop_eq_nil_of_le (by omega)] at e4
   have h5 := marks_len g1.2
   obtain ⟨a1,a2,a3⟩ := Sf.count (r := flsB s0.floors) e4 (by omega) (by omega) e3 h51
   exact ⟨by rw [e2]; exact List.take_of_length_le (by omega),a1,hfl,a2,a3⟩
  have hlive1 : b7 = false → 0 < l.length := fun hb => by subst hb; exact rcF_live h51
  refine Cm gg s51 [(0,vS p l.length),Ml 2 0,(3,vB false),(4,vP st.next 0),Ml 5 1,(52,vI n6),(53,vI 0)] [(2,0,[Sn,Sn]),(5,1,cSV u)] fun _ _ => ?_
  refine AW.loopM (fun x : Nat × SV × Int × Bool => [(0,vS p l.length),(2,vL 2 0 (0)),(3,vB false),(4,vP st.next 0),(5,vL 5 0 (1)),(52,vI n6),(53,vI (x.1 : Int))]) (fun x : Nat × SV × Int × Bool => [(2,0,[.slice none 0 0,.slice none 0 0]),(5,1,[vS x.2.1.p x.2.1.x.items.length,vS x.2.1.q x.2.1.x.floors.length])]) (fun m (x : Nat × SV × Int × Bool) st' => m = n6.toNat - x.1 ∧ (x.1 : Int) ≤ n6 ∧ (x.2.1.x.items = u.x.items ∧ x.2.1.x.floors.length = x.1) ∧ x.2.2.1 ≤ 1099511627776 ∧ (∀ s0,stateOk s0 → stB s0 = l → u.x.items = s0.items ∧ n6 = (s0.floors.length : Int) ∧ x.2.1.x.floors = s0.floors.take x.1 ∧ x.2.2.2 = false ∧ Sf l x.2.2.1 (flsB (s0.floors.drop x.1))) ∧ (x.2.2.2 = false → 0 < l.length) ∧ FrC st.next s1 st' (pcS x.2.1) ∧ (rdC st.next p l x.2.2.1 x.2.2.2).own st') (0,u,k7,b7) _ ⟨rfl,rfl,rfl,rfl,rfl,rfl,rfl,trivial⟩ ⟨rfl,rfl,trivial⟩ ⟨rfl,hm0,⟨rfl,by rw [hfl]; rfl⟩,hk51,hS1,hlive1,hF51,hO51⟩ ?_
  rintro m ⟨j,w,kk,bb⟩ ρ0 ff gg st' ⟨rfl,hj,⟨hwi,hwf⟩,hkk,hT,hlw,hG,hOw⟩
  simp only at hj hwi hwf hkk hT hlw hG hOw
  have hRw : Rows st' 1 fB p l := (PresC.of.1 hG.2.2.1).rowsD hd hR1
  refine ⟨_,rfl,?_⟩
  rintro (_|_) h54
  ·replace h54 : ¬ ((j : Int) < n6) := of_decide_eq_false h54
   refine Cm gg st' [(0,vS p l.length),Ml 2 0,(3,vB false),(4,vP st.next 0),Ml 5 1,(52,vI n6),(53,vI (j : Int)),(54,vB false)] [(2,0,[Sn,Sn]),(5,1,cSV w)] fun _ _ => ?_
   refine cxs ?_
   iterate 2 refine ⟨_,rfl,?_⟩
   have hmem := (rdC_mem hOw).2
   have hbw : bigS w.x := ⟨by unfold szOk; rw [hwi]; omega,by unfold szOk; omega,fun y hy => hds y (by rw [← hwi]; exact hy)⟩
   have hRw' : RdS st' w := hG.1.rdS
   have hT' : ∀ s0,stateOk s0 → stB s0 = l → w.x = s0 ∧ bb = false := fun s0 g1 g2 => by
    obtain ⟨e0,e1,e2,e3,e4⟩ := hT s0 g1 g2
    have hf : w.x.floors = s0.floors := by rw [e2]; exact List.take_of_length_le (by omega)
    have hi' : w.x.items = s0.items := hwi.trans e0
    exact ⟨sta_of hi' hf,e3⟩
   refine ⟨_,op_ld rfl rfl rfl rfl hmem rfl,?_⟩
   rcases bb with _|_
   ·refine ⟨_,Od rfl,?_⟩
    refine ⟨_,rfl,(ac_impl_StateOk w st' hRw' hbw).mono ?_⟩
    rintro _ st' ⟨x75,rfl,h75,rfl⟩
    rcases x75 with _|_
    ·replace h75 := fun k => Bool.false_ne_true (h75.2 k)
     iterate 3 refine ⟨_,rfl,?_⟩
     refine Cm gg st' [Ml 2 0,(3,vB false),Ml 5 1,(84,vB true)] [(2,0,[Sn,Sn]),(5,1,cSV w)] fun _ _ => ?_
     refine ⟨_,rfl,?_⟩
     refine ⟨_,Os rfl,?_⟩
     exact cxs (Rt ⟨⟨none,none,nilS⟩,false,rfl,parse_no (fun s0 g1 g2 => h75 ((hT' s0 g1 g2).1 ▸ g1)),pcS_nil,newS_nil,(hG.out hP1).2.2⟩)
    ·replace h75 := h75.1 rfl
     iterate 2 refine ⟨_,rfl,?_⟩
     refine ⟨_,Od rfl,?_⟩
     refine ⟨_,rfl,(ac_impl_StateBytes w st' hRw' hbw h75).mono ?_⟩
     rintro _ s80 ⟨q80,rfl,hO80,hN80,hP80⟩
     refine ⟨_,rfl,(ac_bytes_Equal q80 p (stB w.x) l s80 (hO80.rows fB_len) (hP80.rows hRw) (stB_pos h75) (hlw rfl) (stB_ok w.x) hl).mono ?_⟩
     rintro _ s80 ⟨x82,rfl,h82,rfl⟩
     rcases x82 with _|_
     ·replace h82 := fun k => Bool.false_ne_true (h82.2 k)
      iterate 2 refine ⟨_,rfl,?_⟩
      refine Cm gg s80 [Ml 2 0,(3,vB false),Ml 5 1,(84,vB true)] [(2,0,[Sn,Sn]),(5,1,cSV w)] fun _ _ => ?_
      refine ⟨_,rfl,?_⟩
      refine ⟨_,Os rfl,?_⟩
      exact cxs (Rt ⟨⟨none,none,nilS⟩,false,rfl,parse_no (fun s0 g1 g2 => h82 ((hT' s0 g1 g2).1 ▸ g2)),pcS_nil,newS_nil,((hG.step hP80).out hP1).2.2⟩)
     ·replace h82 := h82.1 rfl
      iterate 2 refine ⟨_,rfl,?_⟩
      refine Cm gg s80 [Ml 2 0,(3,vB false),Ml 5 1,(84,vB false)] [(2,0,[Sn,Sn]),(5,1,cSV w)] fun _ _ => ?_
      refine cxs ?_
      refine ⟨_,Od rfl,?_⟩
      refine ⟨_,Os rfl,?_⟩
      refine cxs ?_
      have hFin := (hG.step hP80).out hP1
      exact Rt ⟨w,true,rfl,parse_ok h75 h82 (fun s0 g1 g2 => (hT' s0 g1 g2).1),hFin.1,hFin.2.1,hFin.2.2⟩
   ·iterate 2 refine ⟨_,rfl,?_⟩
    refine Cm gg st' [Ml 2 0,(3,vB false),Ml 5 1,(84,vB true)] [(2,0,[Sn,Sn]),(5,1,cSV w)] fun _ _ => ?_
    refine ⟨_,rfl,?_⟩
    refine ⟨_,Os rfl,?_⟩
    exact cxs (Rt ⟨⟨none,none,nilS⟩,false,rfl,parse_no (fun s0 g1 g2 => by cases (hT' s0 g1 g2).2),pcS_nil,newS_nil,(hG.out hP1).2.2⟩)
  ·replace h54 : (j : Int) < n6 := of_decide_eq_true h54
   refine Cm gg st' [(0,vS p l.length),Ml 2 0,(3,vB false),(4,vP st.next 0),Ml 5 1,(52,vI n6),(53,vI (j : Int)),(54,vB true)] [(2,0,[Sn,Sn]),(5,1,cSV w)] fun _ _ => ?_
   refine cxs ?_
   iterate 2 refine ⟨_,rfl,?_⟩
   refine ⟨_,Os rfl,?_⟩
   refine Cm (gg + 1) st' [(0,vS p l.length),Ml 2 0,(3,vB false),(4,vP st.next 0),Ml 5 1,Ml 9 gg,(52,vI n6),(53,vI (j : Int)),(54,vB true)] [(2,0,[Sn,Sn]),(5,1,cSV w),(9,gg,[vI 0,vI 0])] fun _ _ => ?_
   refine ⟨_,rfl,(ac_impl_num st.next p l kk bb st' hOw hRw hl hs' hkk).mono ?_⟩
   rintro _ s57 ⟨n7,k8,b8,rfl,h57,hO57,hP57⟩
   refine ⟨_,rfl,?_⟩
   refine ⟨_,Os rfl,?_⟩
   refine Cm (gg + 1) s57 [(0,vS p l.length),Ml 2 0,(3,vB false),(4,vP st.next 0),Ml 5 1,Ml 9 gg,(52,vI n6),(53,vI (j : Int)),(54,vB true)] [(2,0,[Sn,Sn]),(5,1,cSV w),(9,gg,[vI n7,vI 0])] fun _ _ => ?_
   have hR57 := hP57.rowsD hd hRw
   have hk57 := (rnF_get hl hs' hkk h57).1
   refine ⟨_,rfl,(ac_impl_num st.next p l k8 b8 s57 hO57 hR57 hl hs' hk57).mono ?_⟩
   rintro _ s60 ⟨n8,k9,b9,rfl,h60,hO60,hP60⟩
   refine ⟨_,rfl,?_⟩
   refine ⟨_,Os rfl,?_⟩
   refine Cm (gg + 1) s60 [(0,vS p l.length),Ml 2 0,(3,vB false),(4,vP st.next 0),Ml 5 1,Ml 9 gg,(52,vI n6),(53,vI (j : Int)),(54,vB true)] [(2,0,[Sn,Sn]),(5,1,cSV w),(9,gg,[vI n7,vI n8])] fun _ _ => ?_
   have hG60 := hG.later (PresC.of.2 (hP57.trans hP60))
   have hOf : OwnR s60 2 cFlr w.q w.x.floors := hG60.1.floors
   refine ⟨_,rfl,?_⟩
   refine ⟨_,Od rfl,?_⟩
   refine ⟨_,Od rfl,?_⟩
   refine op_one (z := 2) (a := ((⟨n7,n8⟩ : Flr) : Flr)) (f := cFlr) rfl rfl rfl rfl rfl (by decide) rfl (Lb rfl) rfl rfl rfl ?_
   refine op_snoc (z := 2) (st := s60) (f := cFlr) (b := 16) (l := w.x.floors) (x := (⟨n7,n8⟩ : Flr)) rfl rfl rfl rfl rfl rfl rfl (by decide) len_cFlr rfl rfl rfl (by omega) (by unfold maxLen; omega) hOf ?_
   intro q66 s66 hO66 hP66 hN66
   refine ⟨_,rfl,?_⟩
   refine ⟨_,Os rfl,?_⟩
   refine Cm (gg + 1) s66 [(0,vS p l.length),Ml 2 0,(3,vB false),(4,vP st.next 0),Ml 5 1,Ml 9 gg,(52,vI n6),(53,vI (j : Int)),(54,vB true)] [(2,0,[Sn,Sn]),(5,1,[vS w.p w.x.items.length,vS q66 (w.x.floors ++ [(⟨n7,n8⟩ : Flr)]).length]),(9,gg,[vI n7,vI n8])] fun _ _ => ?_
   have ew68 : IntKind.wrap .i64 ((j : Int) + (1)) = ((j + 1 : Nat) : Int) := (wrap_i64 (by omega) (by omega)).trans (by omega)
   refine ⟨_,rfl,?_⟩
   have hG66 := hG60.floors hP66 hO66 hN66
   have hNf : New s1.next w.q := hG60.2.1 _ (List.mem_cons_of_mem _ (List.mem_cons_self ..))
   refine ⟨(j + 1,⟨w.p,q66,⟨w.x.items,w.x.floors ++ [⟨n7,n8⟩]⟩⟩,k9,b9),n6.toNat - (j + 1),by omega,⟨rfl,rfl,rfl,rfl,rfl,rfl,congrArg (Value.int .i64) ew68,trivial⟩,⟨rfl,rfl,trivial⟩,rfl,by simp only; omega,⟨hwi,by simp only [List.length_append,List.length_singleton,hwf]⟩,(rnF_get hl hs' hk57 h60).1,fun s0 g1 g2 => ?_,fun hb => by subst hb; exact rnF_live h60,hG66.1,hO60.pr hP66 (Dis.of (Old.some hc1) hNf).symm⟩
   obtain ⟨e0,e1,e2,e3,e4⟩ := hT s0 g1 g2
   have hx : s0.floors[j]? = some s0.floors[j] := List.getElem?_eq_getElem (by omega)
   obtain ⟨r1,r2⟩ := floor_rng g1 hx
   rw [flB_cons hx] at e4
   obtain ⟨a1,a2,a3⟩ := e4.num r1 e3 h57
   obtain ⟨c1,c2,c3⟩ := a3.num r2 a2 h60
   refine ⟨e0,e1,?_,c2,c3⟩
   show w.x.floors ++ [_] = _
   rw [List.take_add_one,hx,← e2,a1,c1]; rfl
 ·replace h18 : (i : Int) < n := of_decide_eq_true h18
  refine Cm gg st' [(0,vS p l.length),Ml 2 0,(3,vB false),(4,vP st.next 0),Ml 5 1,(16,vI n),(17,vI (i : Int)),(18,vB true)] [(2,0,[Sn,Sn]),(5,1,cSV u)] fun _ _ => ?_
  refine cxs ?_
  iterate 2 refine ⟨_,rfl,?_⟩
  refine ⟨_,Os rfl,?_⟩
  refine Cm (gg + 1) st' [(0,vS p l.length),Ml 2 0,(3,vB false),(4,vP st.next 0),Ml 5 1,Ml 7 gg,(16,vI n),(17,vI (i : Int)),(18,vB true)] [(2,0,[Sn,Sn]),(5,1,cSV u),(7,gg,[vI 0,vI 0,vI 0,vI 0,vI 0,.string ⟨#[]⟩])] fun _ _ => ?_
  refine ⟨_,rfl,(ac_impl_num st.next p l k' b' st' hO' hRl hl hs' hk').mono ?_⟩
  rintro _ s21 ⟨n1,k1,b1,rfl,h21,hO21,hP21⟩
  refine ⟨_,rfl,?_⟩
  refine ⟨_,Os rfl,?_⟩
  refine Cm (gg + 1) s21 [(0,vS p l.length),Ml 2 0,(3,vB false),(4,vP st.next 0),Ml 5 1,Ml 7 gg,(16,vI n),(17,vI (i : Int)),(18,vB true)] [(2,0,[Sn,Sn]),(5,1,cSV u),(7,gg,[vI n1,vI 0,vI 0,vI 0,vI 0,.string ⟨#[]⟩])] fun _ _ => ?_
  have hR21 := hP21.rowsD hd hRl
  have hk21 := (rnF_get hl hs' hk' h21).1
  refine ⟨_,rfl,(ac_impl_num st.next p l k1 b1 s21 hO21 hR21 hl hs' hk21).mono ?_⟩
  rintro _ s24 ⟨n2,k2,b2,rfl,h24,hO24,hP24⟩
  iterate 2 refine ⟨_,rfl,?_⟩
  refine ⟨_,Os rfl,?_⟩
  refine Cm (gg + 1) s24 [(0,vS p l.length),Ml 2 0,(3,vB false),(4,vP st.next 0),Ml 5 1,Ml 7 gg,(16,vI n),(17,vI (i : Int)),(18,vB true)] [(2,0,[Sn,Sn]),(5,1,cSV u),(7,gg,[vI n1,vI n2,vI 0,vI 0,vI 0,.string ⟨#[]⟩])] fun _ _ => ?_
  have hR24 := hP24.rowsD hd hR21
  have hk24 := (rnF_get hl hs' hk21 h24).1
  refine ⟨_,rfl,(ac_impl_num st.next p l k2 b2 s24 hO24 hR24 hl hs' hk24).mono ?_⟩
  rintro _ s28 ⟨n3,k3,b3,rfl,h28,hO28,hP28⟩
  iterate 2 refine ⟨_,rfl,?_⟩
  refine ⟨_,Os rfl,?_⟩
  refine Cm (gg + 1) s28 [(0,vS p l.length),Ml 2 0,(3,vB false),(4,vP st.next 0),Ml 5 1,Ml 7 gg,(16,vI n),(17,vI (i : Int)),(18,vB true)] [(2,0,[Sn,Sn]),(5,1,cSV u),(7,gg,[vI n1,vI n2,vI n3,vI 0,vI 0,.string ⟨#[]⟩])] fun _ _ => ?_
  have hR28 := hP28.rowsD hd hR24
  have hk28 := (rnF_get hl hs' hk24 h28).1
  refine ⟨_,rfl,(ac_impl_num st.next p l k3 b3 s28 hO28 hR28 hl hs' hk28).mono ?_⟩
  rintro _ s32 ⟨n4,k4,b4,rfl,h32,hO32,hP32⟩
  iterate 2 refine ⟨_,rfl,?_⟩
  refine ⟨_,Os rfl,?_⟩
  refine Cm (gg + 1) s32 [(0,vS p l.length),Ml 2 0,(3,vB false),(4,vP st.next 0),Ml 5 1,Ml 7 gg,(16,vI n),(17,vI (i : Int)),(18,vB true)] [(2,0,[Sn,Sn]),(5,1,cSV u),(7,gg,[vI n1,vI n2,vI n3,vI n4,vI 0,.string ⟨#[]⟩])] fun _ _ => ?_
  have hR32 := hP32.rowsD hd hR28
  have hk32 := (rnF_get hl hs' hk28 h32).1
  refine ⟨_,rfl,(ac_impl_num st.next p l k4 b4 s32 hO32 hR32 hl hs' hk32).mono ?_⟩
  rintro _ s36 ⟨n5,k5,b5,rfl,h36,hO36,hP36⟩
  iterate 2 refine ⟨_,rfl,?_⟩
  refine ⟨_,Os rfl,?_⟩
  refine Cm (gg + 1) s36 [(0,vS p l.length),Ml 2 0,(3,vB false),(4,vP st.next 0),Ml 5 1,Ml 7 gg,(16,vI n),(17,vI (i : Int)),(18,vB true)] [(2,0,[Sn,Sn]),(5,1,cSV u),(7,gg,[vI n1,vI n2,vI n3,vI n4,vI n5,.string ⟨#[]⟩])] fun _ _ => ?_
  have hR36 := hP36.rowsD hd hR32
  have hk36 := (rnF_get hl hs' hk32 h36).1
  refine ⟨_,rfl,(ac_impl_text st.next p l k5 b5 s36 hO36 hR36 hl hs' hk36).mono ?_⟩
  rintro _ s40 ⟨t,k6,b6,rfl,h40,hO40,hP40⟩
  iterate 2 refine ⟨_,rfl,?_⟩
  refine ⟨_,Os rfl,?_⟩
  refine Cm (gg + 1) s40 [(0,vS p l.length),Ml 2 0,(3,vB false),(4,vP st.next 0),Ml 5 1,Ml 7 gg,(16,vI n),(17,vI (i : Int)),(18,vB true)] [(2,0,[Sn,Sn]),(5,1,cSV u),(7,gg,[vI n1,vI n2,vI n3,vI n4,vI n5,.string t])] fun _ _ => ?_
  have hF40 := hF.later (PresC.of.2 (((((hP21.trans hP24).trans hP28).trans hP32).trans hP36).trans hP40))
  have hOi : OwnR s40 6 cItm u.p u.x.items := hF40.1.items
  obtain ⟨hk40,ht40,hl40⟩ := rtF_rng hl hs hk36 h40
  refine ⟨_,rfl,?_⟩
  refine ⟨_,Od rfl,?_⟩
  refine ⟨_,Od rfl,?_⟩
  refine op_one (z := 6) (a := ((⟨n1,⟨n2,n3,n4,n5,t⟩⟩ : Itm) : Itm)) (f := cItm) rfl rfl rfl rfl rfl (by decide) rfl (Lb rfl) rfl rfl rfl ?_
  refine op_snoc (z := 6) (st := s40) (f := cItm) (b := 56) (l := u.x.items) (x := (⟨n1,⟨n2,n3,n4,n5,t⟩⟩ : Itm)) rfl rfl rfl rfl rfl rfl rfl (by decide) len_cItm rfl rfl rfl (by omega) (by unfold maxLen; omega) hOi ?_
  intro q47 s47 hO47 hP47 hN47
  refine ⟨_,rfl,?_⟩
  refine ⟨_,Os rfl,?_⟩
  refine Cm (gg + 1) s47 [(0,vS p l.length),Ml 2 0,(3,vB false),(4,vP st.next 0),Ml 5 1,Ml 7 gg,(16,vI n),(17,vI (i : Int)),(18,vB true)] [(2,0,[Sn,Sn]),(5,1,[vS q47 (u.x.items ++ [(⟨n1,⟨n2,n3,n4,n5,t⟩⟩ : Itm)]).length,vS u.q u.x.floors.length]),(7,gg,[vI n1,vI n2,vI n3,vI n4,vI n5,.string t])] fun _ _ => ?_
  have ew49 : IntKind.wrap .i64 ((i : Int) + (1)) = ((i + 1 : Nat) : Int) := (wrap_i64 (by omega) (by omega)).trans (by omega)
  refine ⟨_,rfl,?_⟩
  have hF47 := hF40.items hP47 hO47 hN47
  have hNi : New s1.next u.p := hF40.2.1 _ (List.mem_cons_self ..)
  refine ⟨(i + 1,⟨q47,u.q,⟨u.x.items ++ [⟨n1,⟨n2,n3,n4,n5,t⟩⟩],u.x.floors⟩⟩,k6,b6),n.toNat - (i + 1),by omega,⟨rfl,rfl,rfl,rfl,rfl,rfl,congrArg (Value.int .i64) ew49,trivial⟩,⟨rfl,rfl,trivial⟩,rfl,by simp only; omega,⟨by simp only [List.length_append,List.length_singleton,hil],hfl,fun y hy => ?_⟩,hk40,fun s0 g1 g2 => ?_,hl40,hF47.1,hO40.pr hP47 (Dis.of (Old.some hc1) hNi).symm⟩
  ·rcases List.mem_append.1 hy with hy | hy
   ·exact hds y hy
   ·rw [List.mem_singleton.1 hy]; exact ht40
  ·obtain ⟨e1,e2,e3,e4⟩ := hS s0 g1 g2
   have hx : s0.items[i]? = some s0.items[i] := List.getElem?_eq_getElem (by omega)
   obtain ⟨r1,r2,r3,r4,r5,r6⟩ := item_rng g1 hx
   rw [itB_cons hx] at e4
   obtain ⟨a1,a2,a3⟩ := e4.num r1 e3 h21
   obtain ⟨b1',b2',b3'⟩ := a3.num r2 a2 h24
   obtain ⟨c1,c2,c3⟩ := b3'.num r3 b2' h28
   obtain ⟨d1,d2,d3⟩ := c3.num r4 c2 h32
   obtain ⟨f1,f2,f3⟩ := d3.num r5 d2 h36
   obtain ⟨m1,m2,m3⟩ := f3.text r6 f2 h40
   refine ⟨e1,?_,m2,m3⟩
   show u.x.items ++ [_] = _
   rw [List.take_add_one,hx,← e2,a1,b1',c1,d1,f1,m1]; rfl
def flL (l : List Flr) : List Int := l.flatMap fun x => [x.id,x.inc]
theorem flL_len (l : List Flr) : (flL l).length = 2 * l.length := by
 induction l with
 | nil => rfl
 | cons x l ih => rw [flL,List.flatMap_cons,List.length_append,List.length_cons,← flL,ih]; simp only [List.length_cons,List.length_nil]; omega
theorem flL_get : ∀ {l : List Flr} {i : Nat} {x : Flr},l[i]? = some x → (flL l)[2 * i]? = some x.id ∧ (flL l)[2 * i + 1]? = some x.inc
 | [],i,x,h => by simp at h
 | y :: l,0,x,h => by
  simp only [List.getElem?_cons_zero,Option.some.injEq] at h
  subst h; exact ⟨rfl,rfl⟩
 | y :: l,i + 1,x,h => by
  simp only [List.getElem?_cons_succ] at h
  have ih := flL_get h
  have e : flL (y :: l) = y.id :: y.inc :: flL l := rfl
  rw [e,show 2 * (i + 1) = 2 * i + 1 + 1 by omega,show 2 * i + 1 + 1 + 1 = (2 * i + 1) + 1 + 1 by omega]
  simp only [List.getElem?_cons_succ]
  exact ih
theorem flL_B (l : List Flr) : numsB (flL l) = flsB l := by
 unfold numsB flL flsB
 rw [List.flatMap_assoc]
 congr 1
 funext x
 simp [flB]
theorem flL_rng {l : List Flr} (h : marksOk l) : ∀ x ∈ flL l,0 ≤ x ∧ x ≤ 2147483647 := fun x hx => by
 obtain ⟨y,hy,hx⟩ := List.mem_flatMap.1 hx
 obtain ⟨j,hj⟩ := List.getElem?_of_mem hy
 have := h j y hj
 obtain ⟨h1,h2,_⟩ := this
 simp only [List.mem_cons,List.not_mem_nil,or_false] at hx
 omega
theorem ac_spec_StateOf (p : Option Addr) (l : List Int) (st : St) (hR : Rows st 1 fB p l) (hl : bytesOk l) (hs : l.length ≤ 1048576) : C 38 [vS p l.length] st (fun v s => ∃ (u : SV) (b : Bool),v = .tuple #[.agg #[vS u.p u.x.items.length,vS u.q u.x.floors.length],vB b] ∧ (u.x,b) = parseS l ∧ OwnP s (pcS u) ∧ NewP st.next (pcS u) ∧ Pres st s) := by
 have hs' : l.length ≤ 1099511627776 := by omega
 refine AC.enterX (i := ⟨[2,5,8],[2,5,8,39,42,43,46,47,50,51,54,55,76,77,82,87,97,111],[0,2,3,4,5,6,7,8,9,10,11,12,13,33,73,94,132],[]⟩) [(23,[12],[1]),(24,[15],[18])] Try.func38 rfl rfl (by kernel_rfl) (by kernel_rfl) Try.ntmps38 (Lb rfl) rfl ?_
 refine ⟨_,rfl,?_⟩
 refine Cm 1 st [(0,vS p l.length),Ml 2 0,(3,vB false)] [(2,0,[Sn,Sn])] fun _ _ => ?_
 refine ⟨_,rfl,?_⟩
 refine ⟨_,rfl,?_⟩
 refine Cm 1 (st.push 0 [vS p l.length,vI 0,vB false]) [(0,vS p l.length),Ml 2 0,(3,vB false),(4,vP st.next 0)] [(2,0,[Sn,Sn])] fun _ _ => ?_
 have hO1 : (rdC st.next p l 0 false).own (st.push 0 [vS p l.length,vI 0,vB false]) := .inr ⟨st.next,rfl,Nat.lt_succ_self _,if_pos rfl⟩
 have hP1 : Pres st (st.push 0 [vS p l.length,vI 0,vB false]) := Pres.push
 have hc1 : st.next < (st.push 0 [vS p l.length,vI 0,vB false]).next := Nat.lt_succ_self _
 obtain ⟨s1,hs1⟩ : ∃ s,s = st.push 0 [vS p l.length,vI 0,vB false] := ⟨_,rfl⟩
 rw [← hs1] at hO1 hP1 hc1 ⊢
 have hd := DisR.new hR
 have hR1 := hP1.rows hR
 iterate 2 refine ⟨_,rfl,?_⟩
 refine ⟨_,Os rfl,?_⟩
 refine Cm 2 s1 [(0,vS p l.length),Ml 2 0,(3,vB false),(4,vP st.next 0),Ml 5 1] [(2,0,[Sn,Sn]),(5,1,[Sn,Sn])] fun _ _ => ?_
 refine ⟨_,rfl,(ac_spec_num st.next p l 0 false s1 hO1 hR1 hl hs' (by decide)).mono ?_⟩
 rintro _ s19 ⟨n,k,b,rfl,h19,hO19,hP19⟩
 refine cxs ?_
 obtain ⟨hk,hn0,hn1⟩ := rnF_get hl hs' (by decide) h19
 have hF19 : FrC st.next s1 s19 (pcS ⟨none,none,nilS⟩) := (Frs.nlS.toC (Nat.lt_of_lt_of_le hc1 hP19.1)).sooner (PresC.of.2 hP19) hc1
 have hS0 : ∀ s0,stateOk s0 → stB s0 = l → n = (s0.items.length : Int) ∧ ([] : List Itm) = s0.items.take 0 ∧ b = false ∧ Sf l k (itsB (s0.items.drop 0) ++ (putN (s0.floors.length : Int) ++ flsB s0.floors)) := fun s0 h1 h2 => by
  have h3 : Sf l 0 (putN (s0.items.length : Int) ++ (itsB s0.items ++ (putN (s0.floors.length : Int) ++ flsB s0.floors))) := by rw [← stB_eq,h2]; exact Sf.start l
  have h5 := items_len h1
  obtain ⟨e1,e2,e3⟩ := h3.num (by omega) rfl h19
  exact ⟨e1,rfl,e2,e3⟩
 have hlive : b = false → 0 < l.length := fun hb => by subst hb; exact rnF_live h19
 refine Cm 2 s19 [(0,vS p l.length),Ml 2 0,(3,vB false),(4,vP st.next 0),Ml 5 1,(6,vI n),(7,vI 0)] [(2,0,[Sn,Sn]),(5,1,[Sn,Sn])] fun _ _ => ?_
 refine AW.loopM (fun x : Nat × SV × Int × Bool => [(0,vS p l.length),(2,vL 2 0 (0)),(4,vP st.next 0),(5,vL 5 0 (1)),(6,vI n),(7,vI (x.1 : Int))]) (fun x : Nat × SV × Int × Bool => [(2,0,[.slice none 0 0,.slice none 0 0]),(5,1,[vS x.2.1.p x.2.1.x.items.length,vS x.2.1.q x.2.1.x.floors.length])]) (fun m (x : Nat × SV × Int × Bool) st' => m = 100 - x.1 ∧ ((x.1 : Int) ≤ n ∧ x.1 ≤ 100) ∧ (x.2.1.x.items.length = x.1 ∧ x.2.1.x.floors = [] ∧ ∀ y ∈ x.2.1.x.items,y.e.data.size ≤ 1048576) ∧ x.2.2.1 ≤ 1099511627776 ∧ (∀ s0,stateOk s0 → stB s0 = l → n = (s0.items.length : Int) ∧ x.2.1.x.items = s0.items.take x.1 ∧ x.2.2.2 = false ∧ Sf l x.2.2.1 (itsB (s0.items.drop x.1) ++ (putN (s0.floors.length : Int) ++ flsB s0.floors))) ∧ (x.2.2.2 = false → 0 < l.length) ∧ FrC st.next s1 st' (pcS x.2.1) ∧ (rdC st.next p l x.2.2.1 x.2.2.2).own st') (0,⟨none,none,nilS⟩,k,b) _ ⟨rfl,rfl,rfl,rfl,rfl,rfl,trivial⟩ ⟨rfl,rfl,trivial⟩ ⟨rfl,⟨hn0,Nat.zero_le _⟩,⟨rfl,rfl,fun y hy => (nomatch hy)⟩,hk,hS0,hlive,hF19,hO19⟩ ?_
 rintro m ⟨i,u,k',b'⟩ ρ0 ff gg st' ⟨rfl,⟨hi,hi100⟩,⟨hil,hfl,hds⟩,hk',hS,hlv,hF,hO'⟩
 simp only at hi hi100 hil hfl hds hk' hS hlv hF hO'
 have hRl : Rows st' 1 fB p l := (PresC.of.1 hF.2.2.1).rowsD hd hR1
 have hmem := (rdC_mem hO').2
 refine ⟨_,rfl,?_⟩
 rintro (_|_) h22
 ·replace h22 : ¬ ((i : Int) < n) := of_decide_eq_false h22
  iterate 2 refine ⟨_,rfl,?_⟩
  refine Cm gg st' [(0,vS p l.length),Ml 2 0,(4,vP st.next 0),Ml 5 1,(6,vI n),(7,vI (i : Int)),(33,vB false)] [(2,0,[Sn,Sn]),(5,1,cSV u)] fun _ _ => ?_
  refine cxs ?_
  refine ⟨_,rfl,(ac_spec_l10Many st.next p l k' b' 2 st' hO' hRl hd hl hs' hk' (.inr rfl)).mono ?_⟩
  rintro _ s89 ⟨q2,FL,k7,b7,rfl,hFL,hk89,hl89,h89,hO89,hN89,hR89,hP89⟩
  refine cxs ?_
  have hF89 := hF.later (PresC.of.2 hP89)
  have hQ89 : Rows s89 1 fI q2 FL := hO89.rows fI_len
  have hS1 : ∀ s0,stateOk s0 → stB s0 = l → (i : Int) < n → False := fun s0 g1 g2 hlt => by
   obtain ⟨e1,e2,e3,e4⟩ := hS s0 g1 g2
   have h5 := items_len g1
   first | omega | (cases e3)
  have hS2 : ∀ s0,stateOk s0 → stB s0 = l → n ≤ 100 ∧ u.x.items = s0.items ∧ FL = flL s0.floors ∧ b7 = false := fun s0 g1 g2 => by
   obtain ⟨e1,e2,e3,e4⟩ := hS s0 g1 g2
   have hge : ¬ (i : Int) < n := hS1 s0 g1 g2
   have h5 := items_len g1
   have h6 := marks_len g1.2
   rw [List.drop_eq_nil_of_le (by omega)] at e4
   have e4 : Sf l k' (putN (s0.floors.length : Int) ++ (numsB (flL s0.floors) ++ [])) := by rw [List.append_nil,flL_B]; exact e4
   obtain ⟨a1,a2,a3⟩ := h89 e3 _ _ _ (flL_rng g1.2) (by rw [flL_len]; omega) (by omega) (by omega) e4
   exact ⟨by omega,by rw [e2]; exact List.take_of_length_le (by omega),a1,a2⟩
  refine Cm gg s89 [(0,vS p l.length),Ml 2 0,(4,vP st.next 0),Ml 5 1,(6,vI n),(12,vS q2 FL.length),(13,vI 0)] [(2,0,[Sn,Sn]),(5,1,cSV u)] fun _ _ => ?_
  refine AW.loopM (fun x : Nat × SV => [(0,vS p l.length),(2,vL 2 0 (0)),(4,vP st.next 0),(5,vL 5 0 (1)),(6,vI n),(12,vS q2 FL.length),(13,vI ((2 * x.1 : Nat) : Int))]) (fun x : Nat × SV => [(2,0,[.slice none 0 0,.slice none 0 0]),(5,1,[vS x.2.p x.2.x.items.length,vS x.2.q x.2.x.floors.length])]) (fun m (x : Nat × SV) st' => m = 200 - x.1 ∧ 2 * x.1 ≤ FL.length ∧ (x.2.x.items = u.x.items ∧ x.2.x.floors.length = x.1) ∧ (∀ s0,stateOk s0 → stB s0 = l → x.2.x.floors = s0.floors.take x.1) ∧ FrC st.next s1 st' (pcS x.2) ∧ (OwnR st' 1 fI q2 FL ∧ Dis x.2.q q2) ∧ (rdC st.next p l k7 b7).own st') (0,u) _ ⟨rfl,rfl,rfl,rfl,rfl,rfl,rfl,trivial⟩ ⟨rfl,rfl,trivial⟩ ⟨rfl,Nat.zero_le _,⟨rfl,by rw [hfl]; rfl⟩,fun s0 _ _ => by rw [hfl]; rfl,hF89,⟨hO89,Dis.of hF.1.floors.old hN89⟩,hR89⟩ ?_
  rintro m ⟨j,w⟩ ρ0 ff gg st' ⟨rfl,hj,⟨hwi,hwf⟩,hT,hG,⟨hQo,hDq⟩,hOw⟩
  simp only at hj hwi hwf hT hG hQo hDq hOw
  have hQw : Rows st' 1 fI q2 FL := hQo.rows fI_len
  have hRw : Rows st' 1 fB p l := (PresC.of.1 hG.2.2.1).rowsD hd hR1
  have ew91 : IntKind.wrap .i64 (((2 * j : Nat) : Int) + (1)) = ((2 * j + 1 : Nat) : Int) := (wrap_i64 (by omega) (by omega)).trans (by omega)
  iterate 3 refine ⟨_,rfl,?_⟩
  rintro (_|_) h94
  ·replace h94 : ¬ ((IntKind.wrap .i64 (((2 * j : Nat) : Int) + (1))) < (FL.length : Int)) := of_decide_eq_false h94
   rw [ew91] at h94
   refine Cm gg st' [(0,vS p l.length),Ml 2 0,(4,vP st.next 0),Ml 5 1,(6,vI n),(12,vS q2 FL.length),(13,vI ((2 * j : Nat) : Int)),(94,vB false)] [(2,0,[Sn,Sn]),(5,1,cSV w)] fun _ _ => ?_
   refine cxs ?_
   iterate 2 refine ⟨_,rfl,?_⟩
   have hmw := rdC_mem hOw
   have hbw : bigS w.x := ⟨by unfold szOk; rw [hwi]; omega,by unfold szOk; omega,fun y hy => hds y (by rw [← hwi]; exact hy)⟩
   have hRS : RdS st' w := hG.1.rdS
   have hT' : ∀ s0,stateOk s0 → stB s0 = l → w.x = s0 := fun s0 g1 g2 => by
    obtain ⟨e1,e2,e3,e4⟩ := hS2 s0 g1 g2
    have hlen : FL.length = 2 * s0.floors.length := by rw [e3,flL_len]
    exact sta_of (hwi.trans e2) (by rw [hT s0 g1 g2]; exact List.take_of_length_le (by omega))
   refine ⟨_,op_ld rfl rfl rfl rfl hmw.2 rfl,?_⟩
   rcases b7 with _|_
   ·refine ⟨_,rfl,?_⟩
    rintro (_|_) h118
    ·replace h118 : ¬ (n > (100)) := of_decide_eq_false h118
     refine ⟨_,rfl,?_⟩
     refine ⟨_,Od rfl,?_⟩
     refine ⟨_,rfl,(ac_spec_StateOk w st' hRS hbw).mono ?_⟩
     rintro _ st' ⟨x122,rfl,h122,rfl⟩
     rcases x122 with _|_
     ·replace h122 := fun k => Bool.false_ne_true (h122.2 k)
      iterate 3 refine ⟨_,rfl,?_⟩
      refine Cm gg st' [Ml 2 0,Ml 5 1,(132,vB true)] [(2,0,[Sn,Sn]),(5,1,cSV w)] fun _ _ => ?_
      refine ⟨_,rfl,?_⟩
      refine ⟨_,Os rfl,?_⟩
      exact cxs (Rt ⟨⟨none,none,nilS⟩,false,rfl,parse_no (fun s0 g1 g2 => h122 (hT' s0 g1 g2 ▸ g1)),pcS_nil,newS_nil,(hG.out hP1).2.2⟩)
     ·replace h122 := h122.1 rfl
      iterate 2 refine ⟨_,rfl,?_⟩
      refine ⟨_,Od rfl,?_⟩
      refine ⟨_,rfl,(ac_spec_l6Bytes w st' hRS hbw h122).mono ?_⟩
      rintro _ s127 ⟨q127,rfl,hO127,hN127,hP127⟩
      refine ⟨hP127.2,?_⟩
      refine ⟨_,op_strW (l := stB w.x) rfl rfl rfl rfl rfl rfl (hO127.rows fB_len) (stB_pos h122),?_⟩
      refine ⟨_,op_strW (l := l) rfl rfl rfl rfl rfl rfl (hP127.rows hRw) (hl89 rfl),?_⟩
      refine ⟨ld_str rfl rfl (rows_lt hRw (hl89 rfl)),?_⟩
      refine ⟨_,rfl,?_⟩
      rintro (_|_) h131
      ·replace h131 : (toB (stB w.x)) = (toB l) := str_eq h131
       refine ⟨_,rfl,?_⟩
       refine Cm gg s127 [Ml 2 0,Ml 5 1,(132,vB false)] [(2,0,[Sn,Sn]),(5,1,cSV w)] fun _ _ => ?_
       refine cxs ?_
       refine ⟨_,Od rfl,?_⟩
       refine ⟨_,Os rfl,?_⟩
       refine cxs ?_
       have hFin := (hG.step hP127).out hP1
       exact Rt ⟨w,true,rfl,parse_ok h122 (toB_inj (stB_ok _) hl h131) (fun s0 g1 g2 => hT' s0 g1 g2),hFin.1,hFin.2.1,hFin.2.2⟩
      ·replace h131 : ¬ ((toB (stB w.x)) = (toB l)) := str_ne h131
       refine ⟨_,rfl,?_⟩
       refine Cm gg s127 [Ml 2 0,Ml 5 1,(132,vB true)] [(2,0,[Sn,Sn]),(5,1,cSV w)] fun _ _ => ?_
       refine ⟨_,rfl,?_⟩
       refine ⟨_,Os rfl,?_⟩
       exact cxs (Rt ⟨⟨none,none,nilS⟩,false,rfl,parse_no (fun s0 g1 g2 => h131 (by rw [hT' s0 g1 g2,g2])),pcS_nil,newS_nil,((hG.step hP127).out hP1).2.2⟩)
    ·replace h118 : n > (100) := of_decide_eq_true h118
     iterate 3 refine ⟨_,rfl,?_⟩
     refine Cm gg st' [Ml 2 0,Ml 5 1,(132,vB true)] [(2,0,[Sn,Sn]),(5,1,cSV w)] fun _ _ => ?_
     refine ⟨_,rfl,?_⟩
     refine ⟨_,Os rfl,?_⟩
     exact cxs (Rt ⟨⟨none,none,nilS⟩,false,rfl,parse_no (fun s0 g1 g2 => by have := (hS2 s0 g1 g2).1; omega),pcS_nil,newS_nil,(hG.out hP1).2.2⟩)
   ·iterate 3 refine ⟨_,rfl,?_⟩
    refine Cm gg st' [Ml 2 0,Ml 5 1,(132,vB true)] [(2,0,[Sn,Sn]),(5,1,cSV w)] fun _ _ => ?_
    refine ⟨_,rfl,?_⟩
    refine ⟨_,Os rfl,?_⟩
    exact cxs (Rt ⟨⟨none,none,nilS⟩,false,rfl,parse_no (fun s0 g1 g2 => by cases (hS2 s0 g1 g2).2.2.2),pcS_nil,newS_nil,(hG.out hP1).2.2⟩)
  ·replace h94 : (IntKind.wrap .i64 (((2 * j : Nat) : Int) + (1))) < (FL.length : Int) := of_decide_eq_true h94
   rw [ew91] at h94
   refine Cm gg st' [(0,vS p l.length),Ml 2 0,(4,vP st.next 0),Ml 5 1,(6,vI n),(12,vS q2 FL.length),(13,vI ((2 * j : Nat) : Int)),(94,vB true)] [(2,0,[Sn,Sn]),(5,1,cSV w)] fun _ _ => ?_
   refine cxs ?_
   refine ⟨_,rfl,?_⟩
   refine ⟨_,Od rfl,?_⟩
   refine ⟨ld_own rfl rfl rfl,?_⟩
   refine op_at (2 * j) hQw (by omega) rfl rfl rfl rfl rfl rfl rfl ?_
   intro x101 b101 d101 k101 hy101 hb101 hm101 hc101 ho101
   refine ⟨_,op_ldc (i := 0) rfl rfl rfl rfl hm101 hc101 rfl rfl,?_⟩
   have ew105 : IntKind.wrap .i64 (((2 * j : Nat) : Int) + (1)) = ((2 * j + 1 : Nat) : Int) := (wrap_i64 (by omega) (by omega)).trans (by omega)
   refine ⟨_,rfl,?_⟩
   refine op_at (2 * j + 1) hQw (by omega) rfl rfl rfl rfl (by rw [ew105]) rfl rfl ?_
   intro x106 b106 d106 k106 hy106 hb106 hm106 hc106 ho106
   refine ⟨_,op_ldc (i := 0) rfl rfl rfl rfl hm106 hc106 rfl rfl,?_⟩
   refine ⟨_,rfl,?_⟩
   refine op_one (z := 2) (a := ((⟨x101,x106⟩ : Flr) : Flr)) (f := cFlr) rfl rfl rfl rfl rfl (by decide) rfl (Lb rfl) rfl rfl rfl ?_
   refine ⟨Pres.push.2,?_⟩
   have hOf : OwnR st' 2 cFlr w.q w.x.floors := hG.1.floors
   refine op_snoc (z := 2) (st := st') (f := cFlr) (b := 16) (l := w.x.floors) (x := (⟨x101,x106⟩ : Flr)) rfl rfl rfl rfl rfl rfl rfl (by decide) len_cFlr rfl rfl rfl (by omega) (by unfold maxLen; omega) hOf ?_
   intro q110 s110 hO110 hP110 hN110
   refine ⟨_,rfl,?_⟩
   refine ⟨_,Os rfl,?_⟩
   refine Cm gg s110 [(0,vS p l.length),Ml 2 0,(4,vP st.next 0),Ml 5 1,(6,vI n),(12,vS q2 FL.length),(13,vI ((2 * j : Nat) : Int)),(94,vB true)] [(2,0,[Sn,Sn]),(5,1,[vS w.p w.x.items.length,vS q110 (w.x.floors ++ [(⟨x101,x106⟩ : Flr)]).length])] fun _ _ => ?_
   have e96 : IntKind.wrap .i64 (((2 * j : Nat) : Int) + 2) = ((2 * (j + 1) : Nat) : Int) := (wrap_i64 (by omega) (by omega)).trans (by omega)
   refine ⟨_,rfl,?_⟩
   have hG110 := hG.floors hP110 hO110 hN110
   have hNf : New s1.next w.q := hG.2.1 _ (List.mem_cons_of_mem _ (List.mem_cons_self ..))
   refine ⟨(j + 1,⟨w.p,q110,⟨w.x.items,w.x.floors ++ [⟨x101,x106⟩]⟩⟩),200 - (j + 1),by omega,⟨rfl,rfl,rfl,rfl,rfl,rfl,congrArg (Value.int .i64) e96,trivial⟩,⟨rfl,rfl,trivial⟩,rfl,by simp only; omega,⟨hwi,by simp only [List.length_append,List.length_singleton,hwf]⟩,fun s0 g1 g2 => ?_,hG110.1,⟨hP110.ownR hDq hQo,(Dis.of hQo.old hN110).symm⟩,hOw.pr hP110 (Dis.of (Old.some hc1) hNf).symm⟩
   ·obtain ⟨_,_,e3,_⟩ := hS2 s0 g1 g2
    have hlen : FL.length = 2 * s0.floors.length := by rw [e3,flL_len]
    have hx : s0.floors[j]? = some s0.floors[j] := List.getElem?_eq_getElem (by omega)
    have := flL_get hx
    rw [← e3,hy101,hy106] at this
    obtain ⟨c1,c2⟩ := this
    injection c1 with c1
    injection c2 with c2
    show w.x.floors ++ [_] = _
    rw [List.take_add_one,hx,← hT s0 g1 g2,c1,c2]; rfl
 ·replace h22 : (i : Int) < n := of_decide_eq_true h22
  iterate 2 refine ⟨_,rfl,?_⟩
  refine ⟨_,op_ld rfl rfl rfl rfl hmem rfl,?_⟩
  rcases b' with _|_
  ·iterate 3 refine ⟨_,rfl,?_⟩
   rintro (_|_) h32
   ·replace h32 : ¬ (n ≤ (100)) := of_decide_eq_false h32
    refine ⟨_,rfl,?_⟩
    refine Cm gg st' [(0,vS p l.length),Ml 2 0,(4,vP st.next 0),Ml 5 1,(6,vI n),(7,vI (i : Int)),(33,vB false)] [(2,0,[Sn,Sn]),(5,1,cSV u)] fun _ _ => ?_
    refine cxs ?_
    refine ⟨_,rfl,(ac_spec_l10Many st.next p l k' false 2 st' hO' hRl hd hl hs' hk' (.inr rfl)).mono ?_⟩
    rintro _ s89 ⟨q2,FL,k7,b7,rfl,hFL,hk89,hl89,h89,hO89,hN89,hR89,hP89⟩
    refine cxs ?_
    have hF89 := hF.later (PresC.of.2 hP89)
    have hQ89 : Rows s89 1 fI q2 FL := hO89.rows fI_len
    have hS1 : ∀ s0,stateOk s0 → stB s0 = l → (i : Int) < n → False := fun s0 g1 g2 hlt => by
     obtain ⟨e1,e2,e3,e4⟩ := hS s0 g1 g2
     have h5 := items_len g1
     first | omega | (cases e3)
    have hS2 : ∀ s0,stateOk s0 → stB s0 = l → n ≤ 100 ∧ u.x.items = s0.items ∧ FL = flL s0.floors ∧ b7 = false := fun s0 g1 g2 => by
     obtain ⟨e1,e2,e3,e4⟩ := hS s0 g1 g2
     have hge : ¬ (i : Int) < n := hS1 s0 g1 g2
     have h5 := items_len g1
     have h6 := marks_len g1.2
     rw [List.drop_eq_nil_of_le (by omega)] at e4
     have e4 : Sf l k' (putN (s0.floors.length : Int) ++ (numsB (flL s0.floors) ++ [])) := by rw [List.append_nil,flL_B]; exact e4
     obtain ⟨a1,a2,a3⟩ := h89 e3 _ _ _ (flL_rng g1.2) (by rw [flL_len]; omega) (by omega) (by omega) e4
     exact ⟨by omega,by rw [e2]; exact List.take_of_length_le (by omega),a1,a2⟩
    refine Cm gg s89 [(0,vS p l.length),Ml 2 0,(4,vP st.next 0),Ml 5 1,(6,vI n),(12,vS q2 FL.length),(13,vI 0)] [(2,0,[Sn,Sn]),(5,1,cSV u)] fun _ _ => ?_
    refine AW.loopM (fun x : Nat × SV => [(0,vS p l.length),(2,vL 2 0 (0)),(4,vP st.next 0),(5,vL 5 0 (1)),(6,vI n),(12,vS q2 FL.length),(13,vI ((2 * x.1 : Nat) : Int))]) (fun x : Nat × SV => [(2,0,[.slice none 0 0,.slice none 0 0]),(5,1,[vS x.2.p x.2.x.items.length,vS x.2.q x.2.x.floors.length])]) (fun m (x : Nat × SV) st' => m = 200 - x.1 ∧ 2 * x.1 ≤ FL.length ∧ (x.2.x.items = u.x.items ∧ x.2.x.floors.length = x.1) ∧ (∀ s0,stateOk s0 → stB s0 = l → x.2.x.floors = s0.floors.take x.1) ∧ FrC st.next s1 st' (pcS x.2) ∧ (OwnR st' 1 fI q2 FL ∧ Dis x.2.q q2) ∧ (rdC st.next p l k7 b7).own st') (0,u) _ ⟨rfl,rfl,rfl,rfl,rfl,rfl,rfl,trivial⟩ ⟨rfl,rfl,trivial⟩ ⟨rfl,Nat.zero_le _,⟨rfl,by rw [hfl]; rfl⟩,fun s0 _ _ => by rw [hfl]; rfl,hF89,⟨hO89,Dis.of hF.1.floors.old hN89⟩,hR89⟩ ?_
    rintro m ⟨j,w⟩ ρ0 ff gg st' ⟨rfl,hj,⟨hwi,hwf⟩,hT,hG,⟨hQo,hDq⟩,hOw⟩
    simp only at hj hwi hwf hT hG hQo hDq hOw
    have hQw : Rows st' 1 fI q2 FL := hQo.rows fI_len
    have hRw : Rows st' 1 fB p l := (PresC.of.1 hG.2.2.1).rowsD hd hR1
    have ew91 : IntKind.wrap .i64 (((2 * j : Nat) : Int) + (1)) = ((2 * j + 1 : Nat) : Int) := (wrap_i64 (by omega) (by omega)).trans (by omega)
    iterate 3 refine ⟨_,rfl,?_⟩
    rintro (_|_) h94
    ·replace h94 : ¬ ((IntKind.wrap .i64 (((2 * j : Nat) : Int) + (1))) < (FL.length : Int)) := of_decide_eq_false h94
     rw [ew91] at h94
     refine Cm gg st' [(0,vS p l.length),Ml 2 0,(4,vP st.next 0),Ml 5 1,(6,vI n),(12,vS q2 FL.length),(13,vI ((2 * j : Nat) : Int)),(94,vB false)] [(2,0,[Sn,Sn]),(5,1,cSV w)] fun _ _ => ?_
     refine cxs ?_
     iterate 2 refine ⟨_,rfl,?_⟩
     have hmw := rdC_mem hOw
     have hbw : bigS w.x := ⟨by unfold szOk; rw [hwi]; omega,by unfold szOk; omega,fun y hy => hds y (by rw [← hwi]; exact hy)⟩
     have hRS : RdS st' w := hG.1.rdS
     have hT' : ∀ s0,stateOk s0 → stB s0 = l → w.x = s0 := fun s0 g1 g2 => by
      obtain ⟨e1,e2,e3,e4⟩ := hS2 s0 g1 g2
      have hlen : FL.length = 2 * s0.floors.length := by rw [e3,flL_len]
      exact sta_of (hwi.trans e2) (by rw [hT s0 g1 g2]; exact List.take_of_length_le (by omega))
     refine ⟨_,op_ld rfl rfl rfl rfl hmw.2 rfl,?_⟩
     rcases b7 with _|_
     ·refine ⟨_,rfl,?_⟩
      rintro (_|_) h118
      ·replace h118 : ¬ (n > (100)) := of_decide_eq_false h118
       refine ⟨_,rfl,?_⟩
       refine ⟨_,Od rfl,?_⟩
       refine ⟨_,rfl,(ac_spec_StateOk w st' hRS hbw).mono ?_⟩
       rintro _ st' ⟨x122,rfl,h122,rfl⟩
       rcases x122 with _|_
       ·replace h122 := fun k => Bool.false_ne_true (h122.2 k)
        iterate 3 refine ⟨_,rfl,?_⟩
        refine Cm gg st' [Ml 2 0,Ml 5 1,(132,vB true)] [(2,0,[Sn,Sn]),(5,1,cSV w)] fun _ _ => ?_
        refine ⟨_,rfl,?_⟩
        refine ⟨_,Os rfl,?_⟩
        exact cxs (Rt ⟨⟨none,none,nilS⟩,false,rfl,parse_no (fun s0 g1 g2 => h122 (hT' s0 g1 g2 ▸ g1)),pcS_nil,newS_nil,(hG.out hP1).2.2⟩)
       ·replace h122 := h122.1 rfl
        iterate 2 refine ⟨_,rfl,?_⟩
        refine ⟨_,Od rfl,?_⟩
        refine ⟨_,rfl,(ac_spec_l6Bytes w st' hRS hbw h122).mono ?_⟩
        rintro _ s127 ⟨q127,rfl,hO127,hN127,hP127⟩
        refine ⟨hP127.2,?_⟩
        refine ⟨_,op_strW (l := stB w.x) rfl rfl rfl rfl rfl rfl (hO127.rows fB_len) (stB_pos h122),?_⟩
        refine ⟨_,op_strW (l := l) rfl rfl rfl rfl rfl rfl (hP127.rows hRw) (hl89 rfl),?_⟩
        refine ⟨ld_str rfl rfl (rows_lt hRw (hl89 rfl)),?_⟩
        refine ⟨_,rfl,?_⟩
        rintro (_|_) h131
        ·replace h131 : (toB (stB w.x)) = (toB l) := str_eq h131
         refine ⟨_,rfl,?_⟩
         refine Cm gg s127 [Ml 2 0,Ml 5 1,(132,vB false)] [(2,0,[Sn,Sn]),(5,1,cSV w)] fun _ _ => ?_
         refine cxs ?_
         refine ⟨_,Od rfl,?_⟩
         refine ⟨_,Os rfl,?_⟩
         refine cxs ?_
         have hFin := (hG.step hP127).out hP1
         exact Rt ⟨w,true,rfl,parse_ok h122 (toB_inj (stB_ok _) hl h131) (fun s0 g1 g2 => hT' s0 g1 g2),hFin.1,hFin.2.1,hFin.2.2⟩
        ·replace h131 : ¬ ((toB (stB w.x)) = (toB l)) := str_ne h131
         refine ⟨_,rfl,?_⟩
         refine Cm gg s127 [Ml 2 0,Ml 5 1,(132,vB true)] [(2,0,[Sn,Sn]),(5,1,cSV w)] fun _ _ => ?_
         refine ⟨_,rfl,?_⟩
         refine ⟨_,Os rfl,?_⟩
         exact cxs (Rt ⟨⟨none,none,nilS⟩,false,rfl,parse_no (fun s0 g1 g2 => h131 (by rw [hT' s0 g1 g2,g2])),pcS_nil,newS_nil,((hG.step hP127).out hP1).2.2⟩)
      ·replace h118 : n > (100) := of_decide_eq_true h118
       iterate 3 refine ⟨_,rfl,?_⟩
       refine Cm gg st' [Ml 2 0,Ml 5 1,(132,vB true)] [(2,0,[Sn,Sn]),(5,1,cSV w)] fun _ _ => ?_
       refine ⟨_,rfl,?_⟩
       refine ⟨_,Os rfl,?_⟩
       exact cxs (Rt ⟨⟨none,none,nilS⟩,false,rfl,parse_no (fun s0 g1 g2 => by have := (hS2 s0 g1 g2).1; omega),pcS_nil,newS_nil,(hG.out hP1).2.2⟩)
     ·iterate 3 refine ⟨_,rfl,?_⟩
      refine Cm gg st' [Ml 2 0,Ml 5 1,(132,vB true)] [(2,0,[Sn,Sn]),(5,1,cSV w)] fun _ _ => ?_
      refine ⟨_,rfl,?_⟩
      refine ⟨_,Os rfl,?_⟩
      exact cxs (Rt ⟨⟨none,none,nilS⟩,false,rfl,parse_no (fun s0 g1 g2 => by cases (hS2 s0 g1 g2).2.2.2),pcS_nil,newS_nil,(hG.out hP1).2.2⟩)
    ·replace h94 : (IntKind.wrap .i64 (((2 * j : Nat) : Int) + (1))) < (FL.length : Int) := of_decide_eq_true h94
     rw [ew91] at h94
     refine Cm gg st' [(0,vS p l.length),Ml 2 0,(4,vP st.next 0),Ml 5 1,(6,vI n),(12,vS q2 FL.length),(13,vI ((2 * j : Nat) : Int)),(94,vB true)] [(2,0,[Sn,Sn]),(5,1,cSV w)] fun _ _ => ?_
     refine cxs ?_
     refine ⟨_,rfl,?_⟩
     refine ⟨_,Od rfl,?_⟩
     refine ⟨ld_own rfl rfl rfl,?_⟩
     refine op_at (2 * j) hQw (by omega) rfl rfl rfl rfl rfl rfl rfl ?_
     intro x101 b101 d101 k101 hy101 hb101 hm101 hc101 ho101
     refine ⟨_,op_ldc (i := 0) rfl rfl rfl rfl hm101 hc101 rfl rfl,?_⟩
     have ew105 : IntKind.wrap .i64 (((2 * j : Nat) : Int) + (1)) = ((2 * j + 1 : Nat) : Int) := (wrap_i64 (by omega) (by omega)).trans (by omega)
     refine ⟨_,rfl,?_⟩
     refine op_at (2 * j + 1) hQw (by omega) rfl rfl rfl rfl (by rw [ew105]) rfl rfl ?_
     intro x106 b106 d106 k106 hy106 hb106 hm106 hc106 ho106
     refine ⟨_,op_ldc (i := 0) rfl rfl rfl rfl hm106 hc106 rfl rfl,?_⟩
     refine ⟨_,rfl,?_⟩
     refine op_one (z := 2) (a := ((⟨x101,x106⟩ : Flr) : Flr)) (f := cFlr) rfl rfl rfl rfl rfl (by decide) rfl (Lb rfl) rfl rfl rfl ?_
     refine ⟨Pres.push.2,?_⟩
     have hOf : OwnR st' 2 cFlr w.q w.x.floors := hG.1.floors
     refine op_snoc (z := 2) (st := st') (f := cFlr) (b := 16) (l := w.x.floors) (x := (⟨x101,x106⟩ : Flr)) rfl rfl rfl rfl rfl rfl rfl (by decide) len_cFlr rfl rfl rfl (by omega) (by unfold maxLen; omega) hOf ?_
     intro q110 s110 hO110 hP110 hN110
     refine ⟨_,rfl,?_⟩
     refine ⟨_,Os rfl,?_⟩
     refine Cm gg s110 [(0,vS p l.length),Ml 2 0,(4,vP st.next 0),Ml 5 1,(6,vI n),(12,vS q2 FL.length),(13,vI ((2 * j : Nat) : Int)),(94,vB true)] [(2,0,[Sn,Sn]),(5,1,[vS w.p w.x.items.length,vS q110 (w.x.floors ++ [(⟨x101,x106⟩ : Flr)]).length])] fun _ _ => ?_
     have e96 : IntKind.wrap .i64 (((2 * j : Nat) : Int) + 2) = ((2 * (j + 1) : Nat) : Int) := (wrap_i64 (by omega) (by omega)).trans (by omega)
     refine ⟨_,rfl,?_⟩
     have hG110 := hG.floors hP110 hO110 hN110
     have hNf : New s1.next w.q := hG.2.1 _ (List.mem_cons_of_mem _ (List.mem_cons_self ..))
     refine ⟨(j + 1,⟨w.p,q110,⟨w.x.items,w.x.floors ++ [⟨x101,x106⟩]⟩⟩),200 - (j + 1),by omega,⟨rfl,rfl,rfl,rfl,rfl,rfl,congrArg (Value.int .i64) e96,trivial⟩,⟨rfl,rfl,trivial⟩,rfl,by simp only; omega,⟨hwi,by simp only [List.length_append,List.length_singleton,hwf]⟩,fun s0 g1 g2 => ?_,hG110.1,⟨hP110.ownR hDq hQo,(Dis.of hQo.old hN110).symm⟩,hOw.pr hP110 (Dis.of (Old.some hc1) hNf).symm⟩
     ·obtain ⟨_,_,e3,_⟩ := hS2 s0 g1 g2
      have hlen : FL.length = 2 * s0.floors.length := by rw [e3,flL_len]
      have hx : s0.floors[j]? = some s0.floors[j] := List.getElem?_eq_getElem (by omega)
      have := flL_get hx
      rw [← e3,hy101,hy106] at this
      obtain ⟨c1,c2⟩ := this
      injection c1 with c1
      injection c2 with c2
      show w.x.floors ++ [_] = _
      rw [List.take_add_one,hx,← hT s0 g1 g2,c1,c2]; rfl
   ·replace h32 : n ≤ (100) := of_decide_eq_true h32
    refine ⟨_,rfl,?_⟩
    refine Cm gg st' [(0,vS p l.length),Ml 2 0,(4,vP st.next 0),Ml 5 1,(6,vI n),(7,vI (i : Int)),(33,vB true)] [(2,0,[Sn,Sn]),(5,1,cSV u)] fun _ _ => ?_
    refine cxs ?_
    iterate 2 refine ⟨_,rfl,?_⟩
    refine ⟨_,Os rfl,?_⟩
    refine Cm (gg + 1) st' [(0,vS p l.length),Ml 2 0,(4,vP st.next 0),Ml 5 1,(6,vI n),(7,vI (i : Int)),Ml 8 gg,(33,vB true)] [(2,0,[Sn,Sn]),(5,1,cSV u),(8,gg,[vI 0,vI 0,vI 0,vI 0,vI 0,.string ⟨#[]⟩])] fun _ _ => ?_
    refine ⟨_,rfl,(ac_spec_num st.next p l k' false st' hO' hRl hl hs' hk').mono ?_⟩
    rintro _ s38 ⟨n1,k1,b1,rfl,h38,hO38,hP38⟩
    refine ⟨_,rfl,?_⟩
    refine ⟨_,Os rfl,?_⟩
    refine Cm (gg + 1) s38 [(0,vS p l.length),Ml 2 0,(4,vP st.next 0),Ml 5 1,(6,vI n),(7,vI (i : Int)),Ml 8 gg,(33,vB true)] [(2,0,[Sn,Sn]),(5,1,cSV u),(8,gg,[vI n1,vI 0,vI 0,vI 0,vI 0,.string ⟨#[]⟩])] fun _ _ => ?_
    have hR38 := hP38.rowsD hd hRl
    have hk38 := (rnF_get hl hs' hk' h38).1
    refine ⟨_,rfl,(ac_spec_num st.next p l k1 b1 s38 hO38 hR38 hl hs' hk38).mono ?_⟩
    rintro _ s41 ⟨n2,k2,b2,rfl,h41,hO41,hP41⟩
    iterate 2 refine ⟨_,rfl,?_⟩
    refine ⟨_,Os rfl,?_⟩
    refine Cm (gg + 1) s41 [(0,vS p l.length),Ml 2 0,(4,vP st.next 0),Ml 5 1,(6,vI n),(7,vI (i : Int)),Ml 8 gg,(33,vB true)] [(2,0,[Sn,Sn]),(5,1,cSV u),(8,gg,[vI n1,vI n2,vI 0,vI 0,vI 0,.string ⟨#[]⟩])] fun _ _ => ?_
    have hR41 := hP41.rowsD hd hR38
    have hk41 := (rnF_get hl hs' hk38 h41).1
    refine ⟨_,rfl,(ac_spec_num st.next p l k2 b2 s41 hO41 hR41 hl hs' hk41).mono ?_⟩
    rintro _ s45 ⟨n3,k3,b3,rfl,h45,hO45,hP45⟩
    iterate 2 refine ⟨_,rfl,?_⟩
    refine ⟨_,Os rfl,?_⟩
    refine Cm (gg + 1) s45 [(0,vS p l.length),Ml 2 0,(4,vP st.next 0),Ml 5 1,(6,vI n),(7,vI (i : Int)),Ml 8 gg,(33,vB true)] [(2,0,[Sn,Sn]),(5,1,cSV u),(8,gg,[vI n1,vI n2,vI n3,vI 0,vI 0,.string ⟨#[]⟩])] fun _ _ => ?_
    have hR45 := hP45.rowsD hd hR41
    have hk45 := (rnF_get hl hs' hk41 h45).1
    refine ⟨_,rfl,(ac_spec_num st.next p l k3 b3 s45 hO45 hR45 hl hs' hk45).mono ?_⟩
    rintro _ s49 ⟨n4,k4,b4,rfl,h49,hO49,hP49⟩
    iterate 2 refine ⟨_,rfl,?_⟩
    refine ⟨_,Os rfl,?_⟩
    refine Cm (gg + 1) s49 [(0,vS p l.length),Ml 2 0,(4,vP st.next 0),Ml 5 1,(6,vI n),(7,vI (i : Int)),Ml 8 gg,(33,vB true)] [(2,0,[Sn,Sn]),(5,1,cSV u),(8,gg,[vI n1,vI n2,vI n3,vI n4,vI 0,.string ⟨#[]⟩])] fun _ _ => ?_
    have hR49 := hP49.rowsD hd hR45
    have hk49 := (rnF_get hl hs' hk45 h49).1
    refine ⟨_,rfl,(ac_spec_num st.next p l k4 b4 s49 hO49 hR49 hl hs' hk49).mono ?_⟩
    rintro _ s53 ⟨n5,k5,b5,rfl,h53,hO53,hP53⟩
    iterate 2 refine ⟨_,rfl,?_⟩
    refine ⟨_,Os rfl,?_⟩
    refine Cm (gg + 1) s53 [(0,vS p l.length),Ml 2 0,(4,vP st.next 0),Ml 5 1,(6,vI n),(7,vI (i : Int)),Ml 8 gg,(33,vB true)] [(2,0,[Sn,Sn]),(5,1,cSV u),(8,gg,[vI n1,vI n2,vI n3,vI n4,vI n5,.string ⟨#[]⟩])] fun _ _ => ?_
    have hR53 := hP53.rowsD hd hR49
    have hk53 := (rnF_get hl hs' hk49 h53).1
    have hm53 := (rdC_mem hO53).2
    have hF53 := hF.later (PresC.of.2 ((((hP38.trans hP41).trans hP45).trans hP49).trans hP53))
    have hSi : ∀ s0,stateOk s0 → stB s0 = l → ∃ x0,s0.items[i]? = some x0 ∧ (⟨n1,⟨n2,n3,n4,n5,x0.e.data⟩⟩ : Itm) = x0 ∧ b5 = false ∧ Sf l k5 (putS x0.e.data ++ (itsB (s0.items.drop (i + 1)) ++ (putN (s0.floors.length : Int) ++ flsB s0.floors))) := fun s0 g1 g2 => by
     obtain ⟨e1,e2,e3,e4⟩ := hS s0 g1 g2
     have hx : s0.items[i]? = some s0.items[i] := List.getElem?_eq_getElem (by omega)
     obtain ⟨r1,r2,r3,r4,r5,r6⟩ := item_rng g1 hx
     rw [itB_cons hx] at e4
     obtain ⟨a1,a2,a3⟩ := e4.num r1 e3 h38
     obtain ⟨b1',b2',b3'⟩ := a3.num r2 a2 h41
     obtain ⟨c1,c2,c3⟩ := b3'.num r3 b2' h45
     obtain ⟨d1,d2,d3⟩ := c3.num r4 c2 h49
     obtain ⟨f1,f2,f3⟩ := d3.num r5 d2 h53
     exact ⟨_,hx,by rw [a1,b1',c1,d1,f1],f2,f3⟩
    iterate 2 refine ⟨_,rfl,?_⟩
    refine ⟨_,op_ld rfl rfl rfl rfl hm53 rfl,?_⟩
    refine ⟨_,rfl,(ac_spec_GetText p l k5 s53 hR53 hl hs' hk53).mono ?_⟩
    rintro _ s53 ⟨t,k6,b6,rfl,h62,rfl⟩
    rcases b6 with _|_
    ·iterate 3 refine ⟨_,rfl,?_⟩
     refine Cm (gg + 1) s53 [(0,vS p l.length),Ml 2 0,(4,vP st.next 0),Ml 5 1,(6,vI n),(7,vI (i : Int)),Ml 8 gg,(9,.string t),(10,vI k6),(11,vB false),(33,vB true)] [(2,0,[Sn,Sn]),(5,1,cSV u),(8,gg,[vI n1,vI n2,vI n3,vI n4,vI n5,.string ⟨#[]⟩])] fun _ _ => ?_
     iterate 2 refine ⟨_,rfl,?_⟩
     refine ⟨_,op_ld rfl rfl rfl rfl hm53 rfl,?_⟩
     rcases b5 with _|_
     ·iterate 2 refine ⟨_,rfl,?_⟩
      refine Cm (gg + 1) s53 [(0,vS p l.length),Ml 2 0,(4,vP st.next 0),Ml 5 1,(6,vI n),(7,vI (i : Int)),Ml 8 gg,(9,.string t),(10,vI k6),(11,vB false),(33,vB true),(73,vB true)] [(2,0,[Sn,Sn]),(5,1,cSV u),(8,gg,[vI n1,vI n2,vI n3,vI n4,vI n5,.string ⟨#[]⟩])] fun _ _ => ?_
      refine ⟨_,rfl,?_⟩
      refine ⟨_,Os rfl,?_⟩
      exact cxs (Rt ⟨⟨none,none,nilS⟩,false,rfl,parse_no (fun s0 g1 g2 => by obtain ⟨x0,q1,q2,q3,q4⟩ := hSi s0 g1 g2; have := (q4.gt (item_rng g1 q1).2.2.2.2.2 h62).2.1; cases this),pcS_nil,newS_nil,(hF53.out hP1).2.2⟩)
     ·refine ⟨_,rfl,?_⟩
      refine Cm (gg + 1) s53 [(0,vS p l.length),Ml 2 0,(4,vP st.next 0),Ml 5 1,(6,vI n),(7,vI (i : Int)),Ml 8 gg,(9,.string t),(10,vI k6),(11,vB false),(33,vB true),(73,vB true)] [(2,0,[Sn,Sn]),(5,1,cSV u),(8,gg,[vI n1,vI n2,vI n3,vI n4,vI n5,.string ⟨#[]⟩])] fun _ _ => ?_
      refine ⟨_,rfl,?_⟩
      refine ⟨_,Os rfl,?_⟩
      exact cxs (Rt ⟨⟨none,none,nilS⟩,false,rfl,parse_no (fun s0 g1 g2 => by obtain ⟨x0,q1,q2,q3,q4⟩ := hSi s0 g1 g2; cases q3),pcS_nil,newS_nil,(hF53.out hP1).2.2⟩)
    ·iterate 3 refine ⟨_,rfl,?_⟩
     refine Cm (gg + 1) s53 [(0,vS p l.length),Ml 2 0,(4,vP st.next 0),Ml 5 1,(6,vI n),(7,vI (i : Int)),Ml 8 gg,(9,.string t),(10,vI k6),(11,vB true),(33,vB true)] [(2,0,[Sn,Sn]),(5,1,cSV u),(8,gg,[vI n1,vI n2,vI n3,vI n4,vI n5,.string ⟨#[]⟩])] fun _ _ => ?_
     iterate 2 refine ⟨_,rfl,?_⟩
     refine ⟨_,op_ld rfl rfl rfl rfl hm53 rfl,?_⟩
     rcases b5 with _|_
     ·iterate 2 refine ⟨_,rfl,?_⟩
      refine Cm (gg + 1) s53 [(0,vS p l.length),Ml 2 0,(4,vP st.next 0),Ml 5 1,(6,vI n),(7,vI (i : Int)),Ml 8 gg,(9,.string t),(10,vI k6),(11,vB true),(33,vB true),(73,vB false)] [(2,0,[Sn,Sn]),(5,1,cSV u),(8,gg,[vI n1,vI n2,vI n3,vI n4,vI n5,.string ⟨#[]⟩])] fun _ _ => ?_
      refine cxs ?_
      iterate 2 refine ⟨_,rfl,?_⟩
      refine ⟨_,Os rfl,?_⟩
      refine Cm (gg + 1) s53 [(0,vS p l.length),Ml 2 0,(4,vP st.next 0),Ml 5 1,(6,vI n),(7,vI (i : Int)),Ml 8 gg,(9,.string t),(10,vI k6),(11,vB true),(33,vB true),(73,vB false)] [(2,0,[Sn,Sn]),(5,1,cSV u),(8,gg,[vI n1,vI n2,vI n3,vI n4,vI n5,.string t])] fun _ _ => ?_
      iterate 2 refine ⟨_,rfl,?_⟩
      refine op_stO (z := 0) (c := st.next) (off := 1) rfl rfl rfl rfl rfl rfl hO53 (by simp) ?_
      intro s81 hO81 hP81 hn81
      refine Cm (gg + 1) s81 [(0,vS p l.length),Ml 2 0,(4,vP st.next 0),Ml 5 1,(6,vI n),(7,vI (i : Int)),Ml 8 gg,(9,.string t),(10,vI k6),(11,vB true),(33,vB true),(73,vB false)] [(2,0,[Sn,Sn]),(5,1,cSV u),(8,gg,[vI n1,vI n2,vI n3,vI n4,vI n5,.string t])] fun _ _ => ?_
      have hO81 : (rdC st.next p l k6 false).own s81 := hO81
      have hF81 := hF53.later (PresC.of.2 hP81)
      have hOi : OwnR s81 6 cItm u.p u.x.items := hF81.1.items
      obtain ⟨hk62,ht62,hl62⟩ := gtR_rng hl hs h62
      refine ⟨_,rfl,?_⟩
      refine ⟨_,Od rfl,?_⟩
      refine ⟨_,Od rfl,?_⟩
      refine op_one (z := 6) (a := ((⟨n1,⟨n2,n3,n4,n5,t⟩⟩ : Itm) : Itm)) (f := cItm) rfl rfl rfl rfl rfl (by decide) rfl (Lb rfl) rfl rfl rfl ?_
      refine op_snoc (z := 6) (st := s81) (f := cItm) (b := 56) (l := u.x.items) (x := (⟨n1,⟨n2,n3,n4,n5,t⟩⟩ : Itm)) rfl rfl rfl rfl rfl rfl rfl (by decide) len_cItm rfl rfl rfl (by omega) (by unfold maxLen; omega) hOi ?_
      intro q86 s86 hO86 hP86 hN86
      refine ⟨_,rfl,?_⟩
      refine ⟨_,Os rfl,?_⟩
      refine Cm (gg + 1) s86 [(0,vS p l.length),Ml 2 0,(4,vP st.next 0),Ml 5 1,(6,vI n),(7,vI (i : Int)),Ml 8 gg,(9,.string t),(10,vI k6),(11,vB true),(33,vB true),(73,vB false)] [(2,0,[Sn,Sn]),(5,1,[vS q86 (u.x.items ++ [(⟨n1,⟨n2,n3,n4,n5,t⟩⟩ : Itm)]).length,vS u.q u.x.floors.length]),(8,gg,[vI n1,vI n2,vI n3,vI n4,vI n5,.string t])] fun _ _ => ?_
      have ew35 : IntKind.wrap .i64 ((i : Int) + (1)) = ((i + 1 : Nat) : Int) := (wrap_i64 (by omega) (by omega)).trans (by omega)
      refine ⟨_,rfl,?_⟩
      have hF86 := hF81.items hP86 hO86 hN86
      have hNi : New s1.next u.p := hF81.2.1 _ (List.mem_cons_self ..)
      refine ⟨(i + 1,⟨q86,u.q,⟨u.x.items ++ [⟨n1,⟨n2,n3,n4,n5,t⟩⟩],u.x.floors⟩⟩,k6,false),100 - (i + 1),by omega,⟨rfl,rfl,rfl,rfl,rfl,congrArg (Value.int .i64) ew35,trivial⟩,⟨rfl,rfl,trivial⟩,rfl,⟨by simp only; omega,by simp only; omega⟩,⟨by simp only [List.length_append,List.length_singleton,hil],hfl,fun y hy => ?_⟩,hk62,fun s0 g1 g2 => ?_,fun _ => hl62 rfl,hF86.1,hO81.pr hP86 (Dis.of (Old.some hc1) hNi).symm⟩
      ·rcases List.mem_append.1 hy with hy | hy
       ·exact hds y hy
       ·rw [List.mem_singleton.1 hy]; exact ht62
      ·obtain ⟨e1,e2,e3,e4⟩ := hS s0 g1 g2
       obtain ⟨x0,q1,q2,q3,q4⟩ := hSi s0 g1 g2
       obtain ⟨m1,m2,m3⟩ := q4.gt (item_rng g1 q1).2.2.2.2.2 h62
       refine ⟨e1,?_,rfl,m3⟩
       show u.x.items ++ [_] = _
       rw [List.take_add_one,q1,← e2,m1,q2]; rfl
     ·refine ⟨_,rfl,?_⟩
      refine Cm (gg + 1) s53 [(0,vS p l.length),Ml 2 0,(4,vP st.next 0),Ml 5 1,(6,vI n),(7,vI (i : Int)),Ml 8 gg,(9,.string t),(10,vI k6),(11,vB true),(33,vB true),(73,vB true)] [(2,0,[Sn,Sn]),(5,1,cSV u),(8,gg,[vI n1,vI n2,vI n3,vI n4,vI n5,.string ⟨#[]⟩])] fun _ _ => ?_
      refine ⟨_,rfl,?_⟩
      refine ⟨_,Os rfl,?_⟩
      exact cxs (Rt ⟨⟨none,none,nilS⟩,false,rfl,parse_no (fun s0 g1 g2 => by obtain ⟨x0,q1,q2,q3,q4⟩ := hSi s0 g1 g2; cases q3),pcS_nil,newS_nil,(hF53.out hP1).2.2⟩)
  ·iterate 3 refine ⟨_,rfl,?_⟩
   refine Cm gg st' [(0,vS p l.length),Ml 2 0,(4,vP st.next 0),Ml 5 1,(6,vI n),(7,vI (i : Int)),(33,vB false)] [(2,0,[Sn,Sn]),(5,1,cSV u)] fun _ _ => ?_
   refine cxs ?_
   refine ⟨_,rfl,(ac_spec_l10Many st.next p l k' true 2 st' hO' hRl hd hl hs' hk' (.inr rfl)).mono ?_⟩
   rintro _ s89 ⟨q2,FL,k7,b7,rfl,hFL,hk89,hl89,h89,hO89,hN89,hR89,hP89⟩
   refine cxs ?_
   have hF89 := hF.later (PresC.of.2 hP89)
   have hQ89 : Rows s89 1 fI q2 FL := hO89.rows fI_len
   have hS1 : ∀ s0,stateOk s0 → stB s0 = l → (i : Int) < n → False := fun s0 g1 g2 hlt => by
    obtain ⟨e1,e2,e3,e4⟩ := hS s0 g1 g2
    have h5 := items_len g1
    first | omega | (cases e3)
   have hS2 : ∀ s0,stateOk s0 → stB s0 = l → n ≤ 100 ∧ u.x.items = s0.items ∧ FL = flL s0.floors ∧ b7 = false := fun s0 g1 g2 => by
    obtain ⟨e1,e2,e3,e4⟩ := hS s0 g1 g2
    have hge : ¬ (i : Int) < n := hS1 s0 g1 g2
    have h5 := items_len g1
    have h6 := marks_len g1.2
    rw [List.drop_eq_nil_of_le (by omega)] at e4
    have e4 : Sf l k' (putN (s0.floors.length : Int) ++ (numsB (flL s0.floors) ++ [])) := by rw [List.append_nil,flL_B]; exact e4
    obtain ⟨a1,a2,a3⟩ := h89 e3 _ _ _ (flL_rng g1.2) (by rw [flL_len]; omega) (by omega) (by omega) e4
    exact ⟨by omega,by rw [e2]; exact List.take_of_length_le (by omega),a1,a2⟩
   refine Cm gg s89 [(0,vS p l.length),Ml 2 0,(4,vP st.next 0),Ml 5 1,(6,vI n),(12,vS q2 FL.length),(13,vI 0)] [(2,0,[Sn,Sn]),(5,1,cSV u)] fun _ _ => ?_
   refine AW.loopM (fun x : Nat × SV => [(0,vS p l.length),(2,vL 2 0 (0)),(4,vP st.next 0),(5,vL 5 0 (1)),(6,vI n),(12,vS q2 FL.length),(13,vI ((2 * x.1 : Nat) : Int))]) (fun x : Nat × SV => [(2,0,[.slice none 0 0,.slice none 0 0]),(5,1,[vS x.2.p x.2.x.items.length,vS x.2.q x.2.x.floors.length])]) (fun m (x : Nat × SV) st' => m = 200 - x.1 ∧ 2 * x.1 ≤ FL.length ∧ (x.2.x.items = u.x.items ∧ x.2.x.floors.length = x.1) ∧ (∀ s0,stateOk s0 → stB s0 = l → x.2.x.floors = s0.floors.take x.1) ∧ FrC st.next s1 st' (pcS x.2) ∧ (OwnR st' 1 fI q2 FL ∧ Dis x.2.q q2) ∧ (rdC st.next p l k7 b7).own st') (0,u) _ ⟨rfl,rfl,rfl,rfl,rfl,rfl,rfl,trivial⟩ ⟨rfl,rfl,trivial⟩ ⟨rfl,Nat.zero_le _,⟨rfl,by rw [hfl]; rfl⟩,fun s0 _ _ => by rw [hfl]; rfl,hF89,⟨hO89,Dis.of hF.1.floors.old hN89⟩,hR89⟩ ?_
   rintro m ⟨j,w⟩ ρ0 ff gg st' ⟨rfl,hj,⟨hwi,hwf⟩,hT,hG,⟨hQo,hDq⟩,hOw⟩
   simp only at hj hwi hwf hT hG hQo hDq hOw
   have hQw : Rows st' 1 fI q2 FL := hQo.rows fI_len
   have hRw : Rows st' 1 fB p l := (PresC.of.1 hG.2.2.1).rowsD hd hR1
   have ew91 : IntKind.wrap .i64 (((2 * j : Nat) : Int) + (1)) = ((2 * j + 1 : Nat) : Int) := (wrap_i64 (by omega) (by omega)).trans (by omega)
   iterate 3 refine ⟨_,rfl,?_⟩
   rintro (_|_) h94
   ·replace h94 : ¬ ((IntKind.wrap .i64 (((2 * j : Nat) : Int) + (1))) < (FL.length : Int)) := of_decide_eq_false h94
    rw [ew91] at h94
    refine Cm gg st' [(0,vS p l.length),Ml 2 0,(4,vP st.next 0),Ml 5 1,(6,vI n),(12,vS q2 FL.length),(13,vI ((2 * j : Nat) : Int)),(94,vB false)] [(2,0,[Sn,Sn]),(5,1,cSV w)] fun _ _ => ?_
    refine cxs ?_
    iterate 2 refine ⟨_,rfl,?_⟩
    have hmw := rdC_mem hOw
    have hbw : bigS w.x := ⟨by unfold szOk; rw [hwi]; omega,by unfold szOk; omega,fun y hy => hds y (by rw [← hwi]; exact hy)⟩
    have hRS : RdS st' w := hG.1.rdS
    have hT' : ∀ s0,stateOk s0 → stB s0 = l → w.x = s0 := fun s0 g1 g2 => by
     obtain ⟨e1,e2,e3,e4⟩ := hS2 s0 g1 g2
     have hlen : FL.length = 2 * s0.floors.length := by rw [e3,flL_len]
     exact sta_of (hwi.trans e2) (by rw [hT s0 g1 g2]; exact List.take_of_length_le (by omega))
    refine ⟨_,op_ld rfl rfl rfl rfl hmw.2 rfl,?_⟩
    rcases b7 with _|_
    ·refine ⟨_,rfl,?_⟩
     rintro (_|_) h118
     ·replace h118 : ¬ (n > (100)) := of_decide_eq_false h118
      refine ⟨_,rfl,?_⟩
      refine ⟨_,Od rfl,?_⟩
      refine ⟨_,rfl,(ac_spec_StateOk w st' hRS hbw).mono ?_⟩
      rintro _ st' ⟨x122,rfl,h122,rfl⟩
      rcases x122 with _|_
      ·replace h122 := fun k => Bool.false_ne_true (h122.2 k)
       iterate 3 refine ⟨_,rfl,?_⟩
       refine Cm gg st' [Ml 2 0,Ml 5 1,(132,vB true)] [(2,0,[Sn,Sn]),(5,1,cSV w)] fun _ _ => ?_
       refine ⟨_,rfl,?_⟩
       refine ⟨_,Os rfl,?_⟩
       exact cxs (Rt ⟨⟨none,none,nilS⟩,false,rfl,parse_no (fun s0 g1 g2 => h122 (hT' s0 g1 g2 ▸ g1)),pcS_nil,newS_nil,(hG.out hP1).2.2⟩)
      ·replace h122 := h122.1 rfl
       iterate 2 refine ⟨_,rfl,?_⟩
       refine ⟨_,Od rfl,?_⟩
       refine ⟨_,rfl,(ac_spec_l6Bytes w st' hRS hbw h122).mono ?_⟩
       rintro _ s127 ⟨q127,rfl,hO127,hN127,hP127⟩
       refine ⟨hP127.2,?_⟩
       refine ⟨_,op_strW (l := stB w.x) rfl rfl rfl rfl rfl rfl (hO127.rows fB_len) (stB_pos h122),?_⟩
       refine ⟨_,op_strW (l := l) rfl rfl rfl rfl rfl rfl (hP127.rows hRw) (hl89 rfl),?_⟩
       refine ⟨ld_str rfl rfl (rows_lt hRw (hl89 rfl)),?_⟩
       refine ⟨_,rfl,?_⟩
       rintro (_|_) h131
       ·replace h131 : (toB (stB w.x)) = (toB l) := str_eq h131
        refine ⟨_,rfl,?_⟩
        refine Cm gg s127 [Ml 2 0,Ml 5 1,(132,vB false)] [(2,0,[Sn,Sn]),(5,1,cSV w)] fun _ _ => ?_
        refine cxs ?_
        refine ⟨_,Od rfl,?_⟩
        refine ⟨_,Os rfl,?_⟩
        refine cxs ?_
        have hFin := (hG.step hP127).out hP1
        exact Rt ⟨w,true,rfl,parse_ok h122 (toB_inj (stB_ok _) hl h131) (fun s0 g1 g2 => hT' s0 g1 g2),hFin.1,hFin.2.1,hFin.2.2⟩
       ·replace h131 : ¬ ((toB (stB w.x)) = (toB l)) := str_ne h131
        refine ⟨_,rfl,?_⟩
        refine Cm gg s127 [Ml 2 0,Ml 5 1,(132,vB true)] [(2,0,[Sn,Sn]),(5,1,cSV w)] fun _ _ => ?_
        refine ⟨_,rfl,?_⟩
        refine ⟨_,Os rfl,?_⟩
        exact cxs (Rt ⟨⟨none,none,nilS⟩,false,rfl,parse_no (fun s0 g1 g2 => h131 (by rw [hT' s0 g1 g2,g2])),pcS_nil,newS_nil,((hG.step hP127).out hP1).2.2⟩)
     ·replace h118 : n > (100) := of_decide_eq_true h118
      iterate 3 refine ⟨_,rfl,?_⟩
      refine Cm gg st' [Ml 2 0,Ml 5 1,(132,vB true)] [(2,0,[Sn,Sn]),(5,1,cSV w)] fun _ _ => ?_
      refine ⟨_,rfl,?_⟩
      refine ⟨_,Os rfl,?_⟩
      exact cxs (Rt ⟨⟨none,none,nilS⟩,false,rfl,parse_no (fun s0 g1 g2 => by have := (hS2 s0 g1 g2).1; omega),pcS_nil,newS_nil,(hG.out hP1).2.2⟩)
    ·iterate 3 refine ⟨_,rfl,?_⟩
     refine Cm gg st' [Ml 2 0,Ml 5 1,(132,vB true)] [(2,0,[Sn,Sn]),(5,1,cSV w)] fun _ _ => ?_
     refine ⟨_,rfl,?_⟩
     refine ⟨_,Os rfl,?_⟩
     exact cxs (Rt ⟨⟨none,none,nilS⟩,false,rfl,parse_no (fun s0 g1 g2 => by cases (hS2 s0 g1 g2).2.2.2),pcS_nil,newS_nil,(hG.out hP1).2.2⟩)
   ·replace h94 : (IntKind.wrap .i64 (((2 * j : Nat) : Int) + (1))) < (FL.length : Int) := of_decide_eq_true h94
    rw [ew91] at h94
    refine Cm gg st' [(0,vS p l.length),Ml 2 0,(4,vP st.next 0),Ml 5 1,(6,vI n),(12,vS q2 FL.length),(13,vI ((2 * j : Nat) : Int)),(94,vB true)] [(2,0,[Sn,Sn]),(5,1,cSV w)] fun _ _ => ?_
    refine cxs ?_
    refine ⟨_,rfl,?_⟩
    refine ⟨_,Od rfl,?_⟩
    refine ⟨ld_own rfl rfl rfl,?_⟩
    refine op_at (2 * j) hQw (by omega) rfl rfl rfl rfl rfl rfl rfl ?_
    intro x101 b101 d101 k101 hy101 hb101 hm101 hc101 ho101
    refine ⟨_,op_ldc (i := 0) rfl rfl rfl rfl hm101 hc101 rfl rfl,?_⟩
    have ew105 : IntKind.wrap .i64 (((2 * j : Nat) : Int) + (1)) = ((2 * j + 1 : Nat) : Int) := (wrap_i64 (by omega) (by omega)).trans (by omega)
    refine ⟨_,rfl,?_⟩
    refine op_at (2 * j + 1) hQw (by omega) rfl rfl rfl rfl (by rw [ew105]) rfl rfl ?_
    intro x106 b106 d106 k106 hy106 hb106 hm106 hc106 ho106
    refine ⟨_,op_ldc (i := 0) rfl rfl rfl rfl hm106 hc106 rfl rfl,?_⟩
    refine ⟨_,rfl,?_⟩
    refine op_one (z := 2) (a := ((⟨x101,x106⟩ : Flr) : Flr)) (f := cFlr) rfl rfl rfl rfl rfl (by decide) rfl (Lb rfl) rfl rfl rfl ?_
    refine ⟨Pres.push.2,?_⟩
    have hOf : OwnR st' 2 cFlr w.q w.x.floors := hG.1.floors
    refine op_snoc (z := 2) (st := st') (f := cFlr) (b := 16) (l := w.x.floors) (x := (⟨x101,x106⟩ : Flr)) rfl rfl rfl rfl rfl rfl rfl (by decide) len_cFlr rfl rfl rfl (by omega) (by unfold maxLen; omega) hOf ?_
    intro q110 s110 hO110 hP110 hN110
    refine ⟨_,rfl,?_⟩
    refine ⟨_,Os rfl,?_⟩
    refine Cm gg s110 [(0,vS p l.length),Ml 2 0,(4,vP st.next 0),Ml 5 1,(6,vI n),(12,vS q2 FL.length),(13,vI ((2 * j : Nat) : Int)),(94,vB true)] [(2,0,[Sn,Sn]),(5,1,[vS w.p w.x.items.length,vS q110 (w.x.floors ++ [(⟨x101,x106⟩ : Flr)]).length])] fun _ _ => ?_
    have e96 : IntKind.wrap .i64 (((2 * j : Nat) : Int) + 2) = ((2 * (j + 1) : Nat) : Int) := (wrap_i64 (by omega) (by omega)).trans (by omega)
    refine ⟨_,rfl,?_⟩
    have hG110 := hG.floors hP110 hO110 hN110
    have hNf : New s1.next w.q := hG.2.1 _ (List.mem_cons_of_mem _ (List.mem_cons_self ..))
    refine ⟨(j + 1,⟨w.p,q110,⟨w.x.items,w.x.floors ++ [⟨x101,x106⟩]⟩⟩),200 - (j + 1),by omega,⟨rfl,rfl,rfl,rfl,rfl,rfl,congrArg (Value.int .i64) e96,trivial⟩,⟨rfl,rfl,trivial⟩,rfl,by simp only; omega,⟨hwi,by simp only [List.length_append,List.length_singleton,hwf]⟩,fun s0 g1 g2 => ?_,hG110.1,⟨hP110.ownR hDq hQo,(Dis.of hQo.old hN110).symm⟩,hOw.pr hP110 (Dis.of (Old.some hc1) hNf).symm⟩
    ·obtain ⟨_,_,e3,_⟩ := hS2 s0 g1 g2
     have hlen : FL.length = 2 * s0.floors.length := by rw [e3,flL_len]
     have hx : s0.floors[j]? = some s0.floors[j] := List.getElem?_eq_getElem (by omega)
     have := flL_get hx
     rw [← e3,hy101,hy106] at this
     obtain ⟨c1,c2⟩ := this
     injection c1 with c1
     injection c2 with c2
     show w.x.floors ++ [_] = _
     rw [List.take_add_one,hx,← hT s0 g1 g2,c1,c2]; rfl
theorem ac_d_l2Draw {p : Option Addr} {bs : List Int} (c : Nat) (st : St) (hc : Cur st c p bs) (hs : bs.length < 1099511627776) : C 157 [vP c 0] st (fun v s => ∃ e : Ent,v = .agg #[vI e.inc,vI e.rank,vI e.beat,vI e.ver,.string e.data] ∧ e.data.size ≤ 9 ∧ Cur s c p bs ∧ PresC c st s) := by
 refine AC.enterX (i := ⟨[2,3],[2,3,13,19,25,31,34],[0,2,3,7,8,14,20,26,32],[]⟩) [] Try.func157 rfl rfl (by kernel_rfl) (by kernel_rfl) Try.ntmps157 (Lb rfl) rfl ?_
 refine ⟨_,rfl,?_⟩
 refine Cm 1 st [(0,vP c 0),Ml 2 0] [(2,0,[vI 0,vI 0,vI 0,vI 0,.string ⟨#[]⟩])] fun _ _ => ?_
 refine ⟨_,rfl,(ac_d_l2Right c st hc (by first | assumption | omega)).mono ?_⟩
 rintro _ s5 ⟨e5,rfl,h5,hC5,hL5⟩
 refine ⟨_,rfl,?_⟩
 refine ⟨_,Os rfl,?_⟩
 refine Cm 2 s5 [(0,vP c 0),Ml 2 0,Ml 3 1] [(2,0,[vI 0,vI 0,vI 0,vI 0,.string ⟨#[]⟩]),(3,1,[vI e5.inc,vI e5.rank,vI e5.beat,vI e5.ver,.string e5.data])] fun _ _ => ?_
 have hd : e5.data.size ≤ 9 := Nat.le_trans h5.2.2.2.2 (by decide)
 refine ⟨_,rfl,(ac_d_l1Below c 14 s5 hC5 (by first | assumption | omega)).mono ?_⟩
 rintro _ s7 ⟨r7,rfl,h7,h7',h7'',hC7,hL7⟩
 refine Cm 2 s7 [(0,vP c 0),Ml 2 0,Ml 3 1,(7,vI r7)] [(2,0,[vI 0,vI 0,vI 0,vI 0,.string ⟨#[]⟩]),(3,1,[vI e5.inc,vI e5.rank,vI e5.beat,vI e5.ver,.string e5.data])] fun _ _ => ?_
 refine ⟨_,rfl,?_⟩
 rintro (_|_) h9
 ·replace h9 : ¬ (r7 = (0)) := beq_eq_false_iff_ne.1 h9
  refine Cm 2 s7 [(0,vP c 0),Ml 2 0,Ml 3 1,(7,vI r7),(8,vB false)] [(2,0,[vI 0,vI 0,vI 0,vI 0,.string ⟨#[]⟩]),(3,1,[vI e5.inc,vI e5.rank,vI e5.beat,vI e5.ver,.string e5.data])] fun _ _ => ?_
  refine ⟨_,rfl,?_⟩
  rintro (_|_) h15
  ·replace h15 : ¬ (r7 = (1)) := beq_eq_false_iff_ne.1 h15
   refine Cm 2 s7 [(0,vP c 0),Ml 2 0,Ml 3 1,(7,vI r7),(14,vB false)] [(2,0,[vI 0,vI 0,vI 0,vI 0,.string ⟨#[]⟩]),(3,1,[vI e5.inc,vI e5.rank,vI e5.beat,vI e5.ver,.string e5.data])] fun _ _ => ?_
   refine ⟨_,rfl,?_⟩
   rintro (_|_) h21
   ·replace h21 : ¬ (r7 = (2)) := beq_eq_false_iff_ne.1 h21
    refine Cm 2 s7 [(0,vP c 0),Ml 2 0,Ml 3 1,(7,vI r7),(20,vB false)] [(2,0,[vI 0,vI 0,vI 0,vI 0,.string ⟨#[]⟩]),(3,1,[vI e5.inc,vI e5.rank,vI e5.beat,vI e5.ver,.string e5.data])] fun _ _ => ?_
    refine ⟨_,rfl,?_⟩
    rintro (_|_) h27
    ·replace h27 : ¬ (r7 = (3)) := beq_eq_false_iff_ne.1 h27
     refine Cm 2 s7 [(0,vP c 0),Ml 2 0,Ml 3 1,(7,vI r7),(26,vB false)] [(2,0,[vI 0,vI 0,vI 0,vI 0,.string ⟨#[]⟩]),(3,1,[vI e5.inc,vI e5.rank,vI e5.beat,vI e5.ver,.string e5.data])] fun _ _ => ?_
     refine ⟨_,rfl,?_⟩
     rintro (_|_) h33
     ·replace h33 : ¬ (r7 = (4)) := beq_eq_false_iff_ne.1 h33
      refine Cm 2 s7 [Ml 2 0,Ml 3 1,(32,vB false)] [(2,0,[vI 0,vI 0,vI 0,vI 0,.string ⟨#[]⟩]),(3,1,[vI e5.inc,vI e5.rank,vI e5.beat,vI e5.ver,.string e5.data])] fun _ _ => ?_
      refine cxs ?_
      refine ⟨_,Od rfl,?_⟩
      refine ⟨_,Os rfl,?_⟩
      exact cxs (Rt ⟨e5,rfl,hd,hC7,hL5.trans hL7⟩)
     ·replace h33 : r7 = (4) := beq_iff_eq.1 h33
      refine Cm 2 s7 [Ml 2 0,Ml 3 1,(32,vB true)] [(2,0,[vI 0,vI 0,vI 0,vI 0,.string ⟨#[]⟩]),(3,1,[vI e5.inc,vI e5.rank,vI e5.beat,vI e5.ver,.string e5.data])] fun _ _ => ?_
      refine ⟨_,rfl,?_⟩
      refine ⟨_,Os rfl,?_⟩
      refine Cm 2 s7 [Ml 2 0,Ml 3 1] [(2,0,[vI 0,vI 0,vI 0,vI 0,.string ⟨#[]⟩]),(3,1,[vI e5.inc,vI e5.rank,vI e5.beat,vI e5.ver,.string ⟨#[49,50,51,52,53,54,55,56,57]⟩])] fun _ _ => ?_
      refine ⟨_,Od rfl,?_⟩
      refine ⟨_,Os rfl,?_⟩
      exact cxs (Rt ⟨⟨e5.inc,e5.rank,e5.beat,e5.ver,⟨#[49,50,51,52,53,54,55,56,57]⟩⟩,rfl,by show 9 ≤ 9; exact Nat.le_refl 9,hC7,hL5.trans hL7⟩)
    ·replace h27 : r7 = (3) := beq_iff_eq.1 h27
     refine Cm 2 s7 [(0,vP c 0),Ml 2 0,Ml 3 1,(7,vI r7),(26,vB true)] [(2,0,[vI 0,vI 0,vI 0,vI 0,.string ⟨#[]⟩]),(3,1,[vI e5.inc,vI e5.rank,vI e5.beat,vI e5.ver,.string e5.data])] fun _ _ => ?_
     refine op_litI (k := .i64) (l := [-1,1000,1001]) rfl rfl rfl rfl rfl rfl (Lb rfl) ?_
     intro q29 s29 hO29 hP29 hN29
     refine ⟨_,rfl,(ac_d_l1PickInt c q29 ([-1,1000,1001]) s29 (hC7.pres hP29) (by first | assumption | omega) (by first | assumption | omega | decide) (by first | assumption | omega) (by first | assumption | exact NC.new (by assumption) (Cur.lt (by assumption)))).mono ?_⟩
     rintro _ s30 ⟨r30,rfl,h30,hC30,hL30⟩
     refine ⟨_,rfl,?_⟩
     refine ⟨_,Os rfl,?_⟩
     refine Cm 2 s30 [Ml 2 0,Ml 3 1] [(2,0,[vI 0,vI 0,vI 0,vI 0,.string ⟨#[]⟩]),(3,1,[vI e5.inc,vI e5.rank,vI e5.beat,vI r30,.string e5.data])] fun _ _ => ?_
     refine ⟨_,Od rfl,?_⟩
     refine ⟨_,Os rfl,?_⟩
     exact cxs (Rt ⟨⟨e5.inc,e5.rank,e5.beat,r30,e5.data⟩,rfl,hd,hC30,((hL5.trans hL7).trans hP29.c).trans hL30⟩)
   ·replace h21 : r7 = (2) := beq_iff_eq.1 h21
    refine Cm 2 s7 [(0,vP c 0),Ml 2 0,Ml 3 1,(7,vI r7),(20,vB true)] [(2,0,[vI 0,vI 0,vI 0,vI 0,.string ⟨#[]⟩]),(3,1,[vI e5.inc,vI e5.rank,vI e5.beat,vI e5.ver,.string e5.data])] fun _ _ => ?_
    refine op_litI (k := .i64) (l := [-1,100000,100001]) rfl rfl rfl rfl rfl rfl (Lb rfl) ?_
    intro q23 s23 hO23 hP23 hN23
    refine ⟨_,rfl,(ac_d_l1PickInt c q23 ([-1,100000,100001]) s23 (hC7.pres hP23) (by first | assumption | omega) (by first | assumption | omega | decide) (by first | assumption | omega) (by first | assumption | exact NC.new (by assumption) (Cur.lt (by assumption)))).mono ?_⟩
    rintro _ s24 ⟨r24,rfl,h24,hC24,hL24⟩
    refine ⟨_,rfl,?_⟩
    refine ⟨_,Os rfl,?_⟩
    refine Cm 2 s24 [Ml 2 0,Ml 3 1] [(2,0,[vI 0,vI 0,vI 0,vI 0,.string ⟨#[]⟩]),(3,1,[vI e5.inc,vI e5.rank,vI r24,vI e5.ver,.string e5.data])] fun _ _ => ?_
    refine ⟨_,Od rfl,?_⟩
    refine ⟨_,Os rfl,?_⟩
    exact cxs (Rt ⟨⟨e5.inc,e5.rank,r24,e5.ver,e5.data⟩,rfl,hd,hC24,((hL5.trans hL7).trans hP23.c).trans hL24⟩)
  ·replace h15 : r7 = (1) := beq_iff_eq.1 h15
   refine Cm 2 s7 [(0,vP c 0),Ml 2 0,Ml 3 1,(7,vI r7),(14,vB true)] [(2,0,[vI 0,vI 0,vI 0,vI 0,.string ⟨#[]⟩]),(3,1,[vI e5.inc,vI e5.rank,vI e5.beat,vI e5.ver,.string e5.data])] fun _ _ => ?_
   refine op_litI (k := .i64) (l := [-1,2]) rfl rfl rfl rfl rfl rfl (Lb rfl) ?_
   intro q17 s17 hO17 hP17 hN17
   refine ⟨_,rfl,(ac_d_l1PickInt c q17 ([-1,2]) s17 (hC7.pres hP17) (by first | assumption | omega) (by first | assumption | omega | decide) (by first | assumption | omega) (by first | assumption | exact NC.new (by assumption) (Cur.lt (by assumption)))).mono ?_⟩
   rintro _ s18 ⟨r18,rfl,h18,hC18,hL18⟩
   refine ⟨_,rfl,?_⟩
   refine ⟨_,Os rfl,?_⟩
   refine Cm 2 s18 [Ml 2 0,Ml 3 1] [(2,0,[vI 0,vI 0,vI 0,vI 0,.string ⟨#[]⟩]),(3,1,[vI e5.inc,vI r18,vI e5.beat,vI e5.ver,.string e5.data])] fun _ _ => ?_
   refine ⟨_,Od rfl,?_⟩
   refine ⟨_,Os rfl,?_⟩
   exact cxs (Rt ⟨⟨e5.inc,r18,e5.beat,e5.ver,e5.data⟩,rfl,hd,hC18,((hL5.trans hL7).trans hP17.c).trans hL18⟩)
 ·replace h9 : r7 = (0) := beq_iff_eq.1 h9
  refine Cm 2 s7 [(0,vP c 0),Ml 2 0,Ml 3 1,(7,vI r7),(8,vB true)] [(2,0,[vI 0,vI 0,vI 0,vI 0,.string ⟨#[]⟩]),(3,1,[vI e5.inc,vI e5.rank,vI e5.beat,vI e5.ver,.string e5.data])] fun _ _ => ?_
  refine op_litI (k := .i64) (l := [0,1000,1001,-1]) rfl rfl rfl rfl rfl rfl (Lb rfl) ?_
  intro q11 s11 hO11 hP11 hN11
  refine ⟨_,rfl,(ac_d_l1PickInt c q11 ([0,1000,1001,-1]) s11 (hC7.pres hP11) (by first | assumption | omega) (by first | assumption | omega | decide) (by first | assumption | omega) (by first | assumption | exact NC.new (by assumption) (Cur.lt (by assumption)))).mono ?_⟩
  rintro _ s12 ⟨r12,rfl,h12,hC12,hL12⟩
  refine ⟨_,rfl,?_⟩
  refine ⟨_,Os rfl,?_⟩
  refine Cm 2 s12 [Ml 2 0,Ml 3 1] [(2,0,[vI 0,vI 0,vI 0,vI 0,.string ⟨#[]⟩]),(3,1,[vI r12,vI e5.rank,vI e5.beat,vI e5.ver,.string e5.data])] fun _ _ => ?_
  refine ⟨_,Od rfl,?_⟩
  refine ⟨_,Os rfl,?_⟩
  exact cxs (Rt ⟨⟨r12,e5.rank,e5.beat,e5.ver,e5.data⟩,rfl,hd,hC12,((hL5.trans hL7).trans hP11.c).trans hL12⟩)
open Classical in
noncomputable def singF (id : Int) (e : Ent) : Sta × Bool := if stateOk ⟨[⟨id,e⟩],[]⟩ then (⟨[⟨id,e⟩],[]⟩,true) else (nilS,false)
theorem sing_ok {id : Int} {e : Ent} {x : Sta} {b : Bool} (h : (x,b) = singF id e) : stateOk x := by
 unfold singF at h
 split at h
 ·injection h with h _; rw [h]; assumption
 ·injection h with h _; rw [h]; exact stateOk_nil
theorem ac_spec_Single (id : Int) (e : Ent) (st : St) (hz : e.data.size ≤ 1048576) : C 179 [vI id,.agg #[vI e.inc,vI e.rank,vI e.beat,vI e.ver,.string e.data]] st (fun v s => ∃ (u : SV) (b : Bool),v = .tuple #[.agg #[vS u.p u.x.items.length,vS u.q u.x.floors.length],vB b] ∧ (u.x,b) = singF id e ∧ OwnP s (pcS u) ∧ NewP st.next (pcS u) ∧ Pres st s) := by
 refine AC.enterX (i := ⟨[3,4,6],[3,4,6],[0,1,3,4,5,6,14],[]⟩) [] Try.func179 rfl rfl (by kernel_rfl) (by kernel_rfl) Try.ntmps179 (Lb rfl) rfl ?_
 iterate 2 refine ⟨_,rfl,?_⟩
 refine Cm 2 st [(0,vI id),Ml 3 0,Ml 4 1,(5,vB false)] [(3,0,[vI e.inc,vI e.rank,vI e.beat,vI e.ver,.string e.data]),(4,1,[Sn,Sn])] fun _ _ => ?_
 refine ⟨_,Od rfl,?_⟩
 refine ⟨_,rfl,?_⟩
 refine op_one (z := 6) (a := (⟨id,e⟩ : Itm)) (f := cItm) rfl rfl rfl rfl rfl (by decide) rfl (Lb rfl) rfl rfl rfl ?_
 iterate 2 refine ⟨_,rfl,?_⟩
 refine ⟨_,Os rfl,?_⟩
 refine Cm 3 (st.push 6 ([(⟨id,e⟩ : Itm)].flatMap cItm)) [Ml 4 1,(5,vB false),Ml 6 2] [(4,1,[Sn,Sn]),(6,2,[vS (some ⟨st.next,0,none⟩) 1,Sn])] fun _ _ => ?_
 have hO : OwnR (st.push 6 ([(⟨id,e⟩ : Itm)].flatMap cItm)) 6 cItm (some ⟨st.next,0,none⟩) [(⟨id,e⟩ : Itm)] := OwnR.push
 obtain ⟨s1,hs1⟩ : ∃ s,s = st.push 6 ([(⟨id,e⟩ : Itm)].flatMap cItm) := ⟨_,rfl⟩
 have hP1 : Pres st (st.push 6 ([(⟨id,e⟩ : Itm)].flatMap cItm)) := Pres.push
 rw [← hs1] at hO hP1 ⊢
 have hF : Frs st s1 (pcS ⟨some ⟨st.next,0,none⟩,none,⟨[⟨id,e⟩],[]⟩⟩) := ⟨⟨fun d hd => by
  rcases List.mem_cons.1 hd with rfl | hd
  ·exact own_pc hO
  ·rw [List.mem_singleton.1 hd]; exact .inl ⟨rfl,rfl⟩,List.pairwise_pair.2 (Dis.symm Dis.none)⟩,NewP.cons (by intro r hr; injection hr with hr; rw [← hr]; exact Nat.le_refl _) (NewP.cons New.none NewP.nil),hP1⟩
 have hb : bigS ⟨[⟨id,e⟩],[]⟩ := ⟨show 1 ≤ 1048576 by decide,Nat.zero_le _,fun y hy => by rw [List.mem_singleton.1 hy]; exact hz⟩
 refine ⟨_,Od rfl,?_⟩
 refine ⟨_,rfl,(ac_spec_StateOk ⟨some ⟨st.next,0,none⟩,none,⟨[⟨id,e⟩],[]⟩⟩ s1 hF.1.rdS hb).mono ?_⟩
 rintro _ s1 ⟨x13,rfl,h13,rfl⟩
 rcases x13 with _|_
 ·replace h13 := fun k => Bool.false_ne_true (h13.2 k)
  refine ⟨_,rfl,?_⟩
  refine Cm 3 s1 [Ml 4 1,(5,vB false),Ml 6 2,(14,vB true)] [(4,1,[Sn,Sn]),(6,2,[vS (some ⟨st.next,0,none⟩) 1,Sn])] fun _ _ => ?_
  refine ⟨_,rfl,?_⟩
  refine ⟨_,Os rfl,?_⟩
  exact cxs (Rt ⟨⟨none,none,nilS⟩,false,rfl,(if_neg h13).symm,pcS_nil,newS_nil,hP1⟩)
 ·replace h13 := h13.1 rfl
  refine ⟨_,rfl,?_⟩
  refine Cm 3 s1 [Ml 4 1,(5,vB false),Ml 6 2,(14,vB false)] [(4,1,[Sn,Sn]),(6,2,[vS (some ⟨st.next,0,none⟩) 1,Sn])] fun _ _ => ?_
  refine cxs ?_
  refine ⟨_,Od rfl,?_⟩
  refine ⟨_,Os rfl,?_⟩
  exact cxs (Rt ⟨⟨some ⟨st.next,0,none⟩,none,⟨[⟨id,e⟩],[]⟩⟩,true,rfl,(if_pos h13).symm,hF.1,hF.2.1,hP1⟩)
theorem frs_floor1 {a : St} {x : Flr} : Frs a (a.push 2 ([x].flatMap cFlr)) (pcS ⟨none,some ⟨a.next,0,none⟩,⟨[],[x]⟩⟩) := ⟨⟨fun d hd => by
  rcases List.mem_cons.1 hd with rfl | hd
  ·exact .inl ⟨rfl,rfl⟩
  ·rw [List.mem_singleton.1 hd]; exact own_pc OwnR.push,List.pairwise_pair.2 Dis.none⟩,NewP.cons New.none (NewP.cons (by intro r hr; injection hr with hr; rw [← hr]; exact Nat.le_refl _) NewP.nil),Pres.push⟩
theorem ok_floor1 {id inc : Int} (h : 0 ≤ id ∧ id ≤ 4) (k : 1 ≤ inc ∧ inc ≤ 1000) : stateOk ⟨[],[⟨id,inc⟩]⟩ := stateOk_floors fun j x hx => by
 cases j with
 | zero => injection hx with hx; rw [← hx]; exact ⟨h,k,fun y hy => by omega⟩
 | succ j => simp at hx
theorem ac_d_l3Right {p : Option Addr} {bs : List Int} (c : Nat) (st : St) (hc : Cur st c p bs) (hs : bs.length < 1099511627776) : C 151 [vP c 0] st (fun v s => ∃ u : SV,v = .agg #[vS u.p u.x.items.length,vS u.q u.x.floors.length] ∧ stateOk u.x ∧ FrC c st s (pcS u) ∧ Cur s c p bs) := by
 refine AC.enterX (i := ⟨[2,3,6],[2,3,6],[0,2,3,4,5,6,8,9,15,33],[]⟩) [(2012,[],[1]),(12,[2,4,7],[0])] Try.func151 rfl rfl (by kernel_rfl) (by kernel_rfl) Try.ntmps151 (Lb rfl) rfl ?_
 refine ⟨_,rfl,?_⟩
 refine Cm 1 st [(0,vP c 0),Ml 2 0] [(2,0,[Sn,Sn])] fun _ _ => ?_
 iterate 2 refine ⟨_,rfl,?_⟩
 refine ⟨_,Os rfl,?_⟩
 refine Cm 2 st [(0,vP c 0),Ml 2 0,Ml 3 1] [(2,0,[Sn,Sn]),(3,1,[Sn,Sn])] fun _ _ => ?_
 refine ⟨_,rfl,(ac_d_l1Below c 7 st hc (by first | assumption | omega)).mono ?_⟩
 rintro _ s12 ⟨r12,rfl,h12,h12',h12'',hC12,hL12⟩
 refine cxs ?_
 refine Cm 2 s12 [(0,vP c 0),Ml 2 0,Ml 3 1,(4,vI r12),(5,vI 0)] [(2,0,[Sn,Sn]),(3,1,[Sn,Sn])] fun _ _ => ?_
 refine AW.loopM (fun x : Nat × SV => [(0,vP c 0),(2,vL 2 0 (0)),(3,vL 3 0 (1)),(4,vI r12),(5,vI (x.1 : Int))]) (fun x : Nat × SV => [(2,0,[.slice none 0 0,.slice none 0 0]),(3,1,[vS x.2.p x.2.x.items.length,vS x.2.q x.2.x.floors.length])]) (fun m (x : Nat × SV) st' => m = r12.toNat - x.1 ∧ (x.1 : Int) ≤ r12 ∧ stateOk x.2.x ∧ FrC c st st' (pcS x.2) ∧ Cur st' c p bs) (0,⟨none,none,nilS⟩) _ ⟨rfl,rfl,rfl,rfl,rfl,trivial⟩ ⟨rfl,rfl,trivial⟩ ⟨rfl,h12,stateOk_nil,(Frs.nlS.toC hC12.lt).sooner hL12 hc.lt,hC12⟩ ?_
 rintro m ⟨i,u⟩ ρ0 ff gg st' ⟨rfl,hi,hk,hF,hC⟩
 simp only at hi hk hF
 refine ⟨_,rfl,?_⟩
 rintro (_|_) h15
 ·replace h15 : ¬ ((i : Int) < r12) := of_decide_eq_false h15
  refine Cm gg st' [(0,vP c 0),Ml 2 0,Ml 3 1,(4,vI r12),(5,vI (i : Int)),(15,vB false)] [(2,0,[Sn,Sn]),(3,1,cSV u)] fun _ _ => ?_
  refine cxs ?_
  refine ⟨_,rfl,(ac_d_l1Below c 3 st' hC (by first | assumption | omega)).mono ?_⟩
  rintro _ s30 ⟨r30,rfl,h30,h30',h30'',hC30,hL30⟩
  refine cxs ?_
  have hF30 := hF.later hL30
  refine Cm gg s30 [(0,vP c 0),Ml 2 0,Ml 3 1,(8,vI r30),(9,vI 0)] [(2,0,[Sn,Sn]),(3,1,cSV u)] fun _ _ => ?_
  refine AW.loopM (fun x : Nat × SV => [(0,vP c 0),(2,vL 2 0 (0)),(3,vL 3 0 (1)),(8,vI r30),(9,vI (x.1 : Int))]) (fun x : Nat × SV => [(2,0,[.slice none 0 0,.slice none 0 0]),(3,1,[vS x.2.p x.2.x.items.length,vS x.2.q x.2.x.floors.length])]) (fun m (x : Nat × SV) st' => m = r30.toNat - x.1 ∧ (x.1 : Int) ≤ r30 ∧ stateOk x.2.x ∧ FrC c st st' (pcS x.2) ∧ Cur st' c p bs) (0,u) _ ⟨rfl,rfl,rfl,rfl,rfl,trivial⟩ ⟨rfl,rfl,trivial⟩ ⟨rfl,h30,hk,hF30,hC30⟩ ?_
  rintro m ⟨i,u⟩ ρ0 ff gg st' ⟨rfl,hi,hk,hF,hC⟩
  simp only at hi hk hF
  refine ⟨_,rfl,?_⟩
  rintro (_|_) h33
  ·replace h33 : ¬ ((i : Int) < r30) := of_decide_eq_false h33
   refine Cm gg st' [(0,vP c 0),Ml 2 0,Ml 3 1,(8,vI r30),(9,vI (i : Int)),(33,vB false)] [(2,0,[Sn,Sn]),(3,1,cSV u)] fun _ _ => ?_
   refine cxs ?_
   refine ⟨_,Od rfl,?_⟩
   refine ⟨_,Os rfl,?_⟩
   exact cxs (Rt ⟨u,rfl,hk,hF,hC⟩)
  ·replace h33 : (i : Int) < r30 := of_decide_eq_true h33
   refine Cm gg st' [(0,vP c 0),Ml 2 0,Ml 3 1,(8,vI r30),(9,vI (i : Int)),(33,vB true)] [(2,0,[Sn,Sn]),(3,1,cSV u)] fun _ _ => ?_
   refine cxs ?_
   refine ⟨fun _ => False,?_⟩
   refine ⟨_,Od rfl,?_⟩
   refine ⟨ld_own rfl rfl rfl,?_⟩
   refine ⟨_,rfl,(ac_d_l1Below c 5 st' hC (by first | assumption | omega)).mono ?_⟩
   rintro _ s38 ⟨r38,rfl,h38,h38',h38'',hC38,hL38⟩
   refine ⟨fun _ h => h.elim,?_⟩
   refine ⟨_,rfl,(ac_d_l1Below c 2 s38 hC38 (by first | assumption | omega)).mono ?_⟩
   rintro _ s40 ⟨r40,rfl,h40,h40',h40'',hC40,hL40⟩
   refine ⟨fun _ h => h.elim,?_⟩
   have ew41 : IntKind.wrap .i64 ((1) + r40) = (1) + r40 := wrap_i64 (by omega) (by omega)
   iterate 2 refine ⟨_,rfl,?_⟩
   refine op_one (z := 2) (a := ((⟨r38,IntKind.wrap .i64 (1 + r40)⟩ : Flr) : Flr)) (f := cFlr) rfl rfl rfl rfl rfl (by decide) rfl (Lb rfl) rfl rfl rfl ?_
   refine ⟨fun _ h => h.elim,?_⟩
   refine ⟨_,rfl,?_⟩
   have hF40 := (hF.later hL38).later hL40
   have hP43 : Pres s40 (s40.push 2 ([(⟨r38,IntKind.wrap .i64 (1 + r40)⟩ : Flr)].flatMap cFlr)) := Pres.push
   have hF43 : Frs s40 (s40.push 2 ([(⟨r38,IntKind.wrap .i64 (1 + r40)⟩ : Flr)].flatMap cFlr)) (pcS ⟨none,some ⟨s40.next,0,none⟩,⟨[],[⟨r38,IntKind.wrap .i64 (1 + r40)⟩]⟩⟩) := frs_floor1
   have hR43 := (hF40.step hP43).1.rdS
   have hC43 := hC40.pres hP43
   have hk43 : stateOk ⟨[],[⟨r38,IntKind.wrap .i64 (1 + r40)⟩]⟩ := ok_floor1 (by omega) (by omega)
   refine ⟨_,rfl,(ac_spec_l3Join u ⟨none,some ⟨s40.next,0,none⟩,⟨[],[⟨r38,IntKind.wrap .i64 (1 + r40)⟩]⟩⟩ (s40.push 2 ([(⟨r38,IntKind.wrap .i64 (1 + r40)⟩ : Flr)].flatMap cFlr)) hR43 hF43.1.rdS (big_ok hk) (big_ok hk43) hk hk43).mono ?_⟩
   rintro _ s45 ⟨u45,rfl,h45,hO45,hN45,hP45⟩
   refine ⟨_,Os rfl,?_⟩
   refine Cm gg s45 [(0,vP c 0),Ml 2 0,Ml 3 1,(8,vI r30),(9,vI (i : Int)),(33,vB true)] [(2,0,[Sn,Sn]),(3,1,cSV u45)] fun _ _ => ?_
   have hF45 : FrC c st s45 (pcS u45) := (Frs.toC ⟨hO45,hN45,hP45⟩ (hF40.step hP43).lt).sooner (hF40.step hP43).2.2.1 hc.lt
   have ew35 : IntKind.wrap .i64 ((i : Int) + (1)) = ((i + 1 : Nat) : Int) := (wrap_i64 (by omega) (by omega)).trans (by omega)
   refine ⟨_,rfl,?_⟩
   exact ⟨(i + 1,u45),r30.toNat - (i + 1),by omega,⟨rfl,rfl,rfl,rfl,congrArg (Value.int .i64) ew35,trivial⟩,⟨rfl,rfl,trivial⟩,rfl,by simp only; omega,by rw [h45]; exact stateOk_join hk hk43,hF45,hC43.pres hP45⟩
 ·replace h15 : (i : Int) < r12 := of_decide_eq_true h15
  refine Cm gg st' [(0,vP c 0),Ml 2 0,Ml 3 1,(4,vI r12),(5,vI (i : Int)),(15,vB true)] [(2,0,[Sn,Sn]),(3,1,cSV u)] fun _ _ => ?_
  refine cxs ?_
  refine ⟨_,rfl,(ac_d_l1Below c 5 st' hC (by first | assumption | omega)).mono ?_⟩
  rintro _ s20 ⟨r20,rfl,h20,h20',h20'',hC20,hL20⟩
  refine ⟨_,rfl,(ac_d_l2Right c s20 hC20 (by first | assumption | omega)).mono ?_⟩
  rintro _ s22 ⟨e22,rfl,h22,hC22,hL22⟩
  refine ⟨_,rfl,(ac_spec_Single r20 e22 s22 (Nat.le_trans h22.2.2.2.2 (by decide))).mono ?_⟩
  rintro _ s23 ⟨u23,b23,rfl,h23,hO23,hN23,hP23⟩
  iterate 3 refine ⟨_,rfl,?_⟩
  refine ⟨_,Os rfl,?_⟩
  refine Cm (gg + 1) s23 [(0,vP c 0),Ml 2 0,Ml 3 1,(4,vI r12),(5,vI (i : Int)),Ml 6 gg,(15,vB true)] [(2,0,[Sn,Sn]),(3,1,cSV u),(6,gg,cSV u23)] fun _ _ => ?_
  have hF22 := (hF.later hL20).later hL22
  have hF23 : FrC c st s23 (pcS u23) := (Frs.toC ⟨hO23,hN23,hP23⟩ hF22.lt).sooner hF22.2.2.1 hc.lt
  have hR23 : RdS s23 u := (hF22.step hP23).1.rdS
  have hC23 := hC22.pres hP23
  have hk23 := sing_ok h23
  have hbu := big_ok hk
  have hbv := big_ok hk23
  refine ⟨_,Od rfl,?_⟩
  refine ⟨_,Od rfl,?_⟩
  refine ⟨_,rfl,(ac_spec_l3Join u u23 s23 hR23 hF23.1.rdS (by first | assumption | omega) (by first | assumption | omega) (by first | assumption | omega) (by first | assumption | omega)).mono ?_⟩
  rintro _ s28 ⟨u28,rfl,h28,hO28,hN28,hP28⟩
  refine ⟨_,Os rfl,?_⟩
  refine Cm (gg + 1) s28 [(0,vP c 0),Ml 2 0,Ml 3 1,(4,vI r12),(5,vI (i : Int)),Ml 6 gg,(15,vB true)] [(2,0,[Sn,Sn]),(3,1,cSV u28),(6,gg,cSV u23)] fun _ _ => ?_
  have ew17 : IntKind.wrap .i64 ((i : Int) + (1)) = ((i + 1 : Nat) : Int) := (wrap_i64 (by omega) (by omega)).trans (by omega)
  refine ⟨_,rfl,?_⟩
  exact ⟨(i + 1,u28),r12.toNat - (i + 1),by omega,⟨rfl,rfl,rfl,rfl,congrArg (Value.int .i64) ew17,trivial⟩,⟨rfl,rfl,trivial⟩,rfl,by simp only; omega,by rw [h28]; exact stateOk_join hk hk23,(Frs.toC ⟨hO28,hN28,hP28⟩ hF23.lt).sooner hF23.2.2.1 hc.lt,hC23.pres hP28⟩
theorem smS.snocI {n : Nat} {x : Sta} {y : Itm} (h : smS n x) (hy : y.e.data.size ≤ 9) : smS (n + 1) ⟨x.items ++ [y],x.floors⟩ := ⟨by rw [List.length_append]; exact Nat.succ_le_succ h.i,Nat.le_succ_of_le h.f,fun z hz => by
 rcases List.mem_append.1 hz with hz | hz
 ·exact h.d z hz
 ·rw [List.mem_singleton.1 hz]; exact hy⟩
theorem smS.snocF {n : Nat} {x : Sta} {y : Flr} (h : smS n x) : smS (n + 1) ⟨x.items,x.floors ++ [y]⟩ := ⟨Nat.le_succ_of_le h.i,by rw [List.length_append]; exact Nat.succ_le_succ h.f,h.d⟩
theorem smS.setI {n i : Nat} {x : Sta} {y : Itm} (h : smS n x) (hy : y.e.data.size ≤ 9) : smS (n + 1) ⟨x.items.set i y,x.floors⟩ := ⟨by rw [List.length_set]; exact Nat.le_succ_of_le h.i,Nat.le_succ_of_le h.f,fun z hz => by
 rcases List.mem_or_eq_of_mem_set hz with hz | rfl
 ·exact h.d z hz
 ·exact hy⟩
theorem ac_d_l3Draw {p : Option Addr} {bs : List Int} (c : Nat) (st : St) (hc : Cur st c p bs) (hs : bs.length < 1099511627776) : C 85 [vP c 0] st (fun v s => ∃ u : SV,v = .agg #[vS u.p u.x.items.length,vS u.q u.x.floors.length] ∧ smS 6 u.x ∧ FrC c st s (pcS u) ∧ Cur s c p bs) := by
 refine AC.enterX (i := ⟨[2,3],[2,3,10,20,23,34,37,41,44,54,58,60],[0,2,3,7,8,21,35,40,52,57],[]⟩) [(2004,[],[1]),(2006,[],[1]),(2009,[],[1]),(4,[3,6,8],[1]),(6,[3,6,7,9],[1]),(9,[6,8],[1]),(12,[],[])] Try.func85 rfl rfl (by kernel_rfl) (by kernel_rfl) Try.ntmps85 (Lb rfl) rfl ?_
 refine ⟨_,rfl,?_⟩
 refine Cm 1 st [(0,vP c 0),Ml 2 0] [(2,0,[Sn,Sn])] fun _ _ => ?_
 refine ⟨_,rfl,(ac_d_l3Right c st hc (by first | assumption | omega)).mono ?_⟩
 rintro _ s5 ⟨u5,rfl,h5,hF5,hC5⟩
 refine ⟨_,rfl,?_⟩
 refine ⟨_,Os rfl,?_⟩
 refine Cm 2 s5 [(0,vP c 0),Ml 2 0,Ml 3 1] [(2,0,[Sn,Sn]),(3,1,cSV u5)] fun _ _ => ?_
 have hsm := sm_ok h5
 have hNi : New st.next u5.p := hF5.2.1 _ (List.mem_cons_self ..)
 have hNf : New st.next u5.q := hF5.2.1 _ (List.mem_cons_of_mem _ (List.mem_cons_self ..))
 refine ⟨_,rfl,(ac_d_l1Below c 14 s5 hC5 (by first | assumption | omega)).mono ?_⟩
 rintro _ s7 ⟨r7,rfl,h7,h7',h7'',hC7,hL7⟩
 refine Cm 2 s7 [(0,vP c 0),Ml 2 0,Ml 3 1,(7,vI r7)] [(2,0,[Sn,Sn]),(3,1,cSV u5)] fun _ _ => ?_
 have hF7 := hF5.later hL7
 have hR7 := hF7.1.rdS
 refine ⟨_,rfl,?_⟩
 rintro (_|_) h9
 ·replace h9 : ¬ (r7 = (0)) := beq_eq_false_iff_ne.1 h9
  refine Cm 2 s7 [(0,vP c 0),Ml 2 0,Ml 3 1,(7,vI r7),(8,vB false)] [(2,0,[Sn,Sn]),(3,1,cSV u5)] fun _ _ => ?_
  refine ⟨_,rfl,?_⟩
  rintro (_|_) h22
  ·replace h22 : ¬ (r7 = (1)) := beq_eq_false_iff_ne.1 h22
   refine Cm 2 s7 [(0,vP c 0),Ml 2 0,Ml 3 1,(7,vI r7),(21,vB false)] [(2,0,[Sn,Sn]),(3,1,cSV u5)] fun _ _ => ?_
   refine ⟨_,rfl,?_⟩
   rintro (_|_) h36
   ·replace h36 : ¬ (r7 = (2)) := beq_eq_false_iff_ne.1 h36
    refine Cm 2 s7 [(0,vP c 0),Ml 2 0,Ml 3 1,(7,vI r7),(35,vB false)] [(2,0,[Sn,Sn]),(3,1,cSV u5)] fun _ _ => ?_
    refine ⟨_,rfl,?_⟩
    rintro (_|_) h53
    ·replace h53 : ¬ (r7 = (3)) := beq_eq_false_iff_ne.1 h53
     refine Cm 2 s7 [Ml 2 0,Ml 3 1,(52,vB false)] [(2,0,[Sn,Sn]),(3,1,cSV u5)] fun _ _ => ?_
     refine cxs ?_
     refine ⟨_,Od rfl,?_⟩
     refine ⟨_,Os rfl,?_⟩
     exact cxs (Rt ⟨u5,rfl,hsm.le (by decide),hF7,hC7⟩)
    ·replace h53 : r7 = (3) := beq_iff_eq.1 h53
     refine Cm 2 s7 [Ml 2 0,Ml 3 1,(52,vB true)] [(2,0,[Sn,Sn]),(3,1,cSV u5)] fun _ _ => ?_
     refine ⟨_,rfl,?_⟩
     refine ⟨_,Od rfl,?_⟩
     iterate 2 refine ⟨_,rfl,?_⟩
     rintro (_|_) h57
     ·replace h57 : ¬ ((u5.x.items.length : Int) > (1)) := of_decide_eq_false h57
      refine Cm 2 s7 [Ml 2 0,Ml 3 1,(57,vB false)] [(2,0,[Sn,Sn]),(3,1,cSV u5)] fun _ _ => ?_
      refine cxs ?_
      refine ⟨_,Od rfl,?_⟩
      refine ⟨_,Os rfl,?_⟩
      exact cxs (Rt ⟨u5,rfl,hsm.le (by decide),hF7,hC7⟩)
     ·replace h57 : (u5.x.items.length : Int) > (1) := of_decide_eq_true h57
      refine Cm 2 s7 [Ml 2 0,Ml 3 1,(57,vB true)] [(2,0,[Sn,Sn]),(3,1,cSV u5)] fun _ _ => ?_
      refine ⟨_,rfl,?_⟩
      refine ⟨_,Od rfl,?_⟩
      refine ⟨_,rfl,?_⟩
      refine ⟨_,Od rfl,?_⟩
      refine op_at 1 hR7.1 (by omega) rfl rfl rfl rfl rfl rfl rfl ?_
      intro x62 b62 d62 k62 hy62 hb62 hm62 hc62 ho62
      refine ⟨_,op_lda rfl rfl rfl rfl rfl hm62 hc62 rfl,?_⟩
      have hO7 : OwnR s7 6 cItm u5.p u5.x.items := hF7.1.items
      obtain ⟨a,ha⟩ := hO7.some (by omega)
      have hd62 : x62.e.data.size ≤ 9 := hsm.d _ (List.mem_of_getElem? hy62)
      refine ⟨_,op_idx (j := 0) (n := u5.x.items.length) (q := ⟨a,0,none⟩) rfl (congrArg (fun v => vS v u5.x.items.length) ha) rfl rfl rfl (Int.le_refl 0) (by omega),?_⟩
      refine op_put (st := s7) (f := cItm) (j := 0) (l := u5.x.items) (y := x62) (p := u5.p) (d := 0 + (0 : Int).toNat * 6) rfl rfl rfl rfl rfl len_cItm rfl rfl (by omega) hO7 ha ?_
      intro s64 hO64 hP64 hn64
      refine Cm 2 s64 [Ml 2 0,Ml 3 1] [(2,0,[Sn,Sn]),(3,1,cSV u5)] fun _ _ => ?_
      refine ⟨_,Od rfl,?_⟩
      refine ⟨_,Os rfl,?_⟩
      refine cxs ?_
      have hF64 := hF7.setItems hP64 hO64
      exact Rt ⟨⟨u5.p,u5.q,⟨u5.x.items.set 0 x62,u5.x.floors⟩⟩,congrArg (fun n => Value.agg #[vS u5.p n,vS u5.q u5.x.floors.length]) List.length_set.symm,hsm.setI hd62,hF64.1,hC7.thenNew hc hF7.2.2.1 hP64 hNi⟩
   ·replace h36 : r7 = (2) := beq_iff_eq.1 h36
    refine Cm 2 s7 [(0,vP c 0),Ml 2 0,Ml 3 1,(7,vI r7),(35,vB true)] [(2,0,[Sn,Sn]),(3,1,cSV u5)] fun _ _ => ?_
    refine ⟨_,rfl,?_⟩
    refine ⟨_,Od rfl,?_⟩
    iterate 2 refine ⟨_,rfl,?_⟩
    rintro (_|_) h40
    ·replace h40 : ¬ ((u5.x.items.length : Int) > (0)) := of_decide_eq_false h40
     refine Cm 2 s7 [(0,vP c 0),Ml 2 0,Ml 3 1,(40,vB false)] [(2,0,[Sn,Sn]),(3,1,cSV u5)] fun _ _ => ?_
     refine cxs ?_
     refine ⟨_,Od rfl,?_⟩
     refine ⟨_,Os rfl,?_⟩
     exact cxs (Rt ⟨u5,rfl,hsm.le (by decide),hF7,hC7⟩)
    ·replace h40 : (u5.x.items.length : Int) > (0) := of_decide_eq_true h40
     refine Cm 2 s7 [(0,vP c 0),Ml 2 0,Ml 3 1,(40,vB true)] [(2,0,[Sn,Sn]),(3,1,cSV u5)] fun _ _ => ?_
     refine ⟨fun _ => False,?_⟩
     refine ⟨_,rfl,?_⟩
     refine ⟨_,Od rfl,?_⟩
     refine ⟨ld_own rfl rfl rfl,?_⟩
     refine ⟨_,rfl,?_⟩
     refine ⟨_,Od rfl,?_⟩
     refine ⟨_,rfl,?_⟩
     refine ⟨_,rfl,(ac_d_l1Below c (u5.x.items.length : Int) s7 hC7 (by first | assumption | omega)).mono ?_⟩
     rintro _ s47 ⟨r47,rfl,h47,h47',h47'',hC47,hL47⟩
     refine ⟨fun _ h => h.elim,?_⟩
     refine ⟨_,rfl,(ac_d_l2Draw c s47 hC47 (by first | assumption | omega)).mono ?_⟩
     rintro _ s49 ⟨e49,rfl,h49,hC49,hL49⟩
     refine ⟨fun _ h => h.elim,?_⟩
     have hF49 := (hF7.later hL47).later hL49
     have hO49 : OwnR s49 6 cItm u5.p u5.x.items := hF49.1.items
     have h47l := h47' (by omega)
     obtain ⟨a,ha⟩ := hO49.some (by omega)
     obtain ⟨w,hw⟩ : ∃ w,u5.x.items[r47.toNat]? = some w := ⟨_,List.getElem?_eq_getElem (by omega)⟩
     refine ⟨_,op_idx (j := r47) (n := u5.x.items.length) (q := ⟨a,0,none⟩) rfl (congrArg (fun v => vS v u5.x.items.length) ha) rfl rfl rfl h47 (by omega),?_⟩
     refine ⟨_,rfl,?_⟩
     refine op_putw (st := s49) (f := cItm) (z := 6) (i := 1) (j := r47.toNat) (l := u5.x.items) (w := w) (y := (⟨w.id,e49⟩ : Itm)) (ws := cEnt e49) (p := u5.p) (d := 0 + r47.toNat * 6 + 1) rfl rfl (congrArg (· + 1) (Nat.zero_add _)) rfl rfl len_cItm rfl rfl hw ⟨[vI w.id],cEnt w.e,[],rfl,rfl,rfl,rfl⟩ hO49 ha ?_
     intro s51 hO51 hP51 hn51
     refine Cm 2 s51 [Ml 2 0,Ml 3 1] [(2,0,[Sn,Sn]),(3,1,cSV u5)] fun _ _ => ?_
     refine ⟨_,Od rfl,?_⟩
     refine ⟨_,Os rfl,?_⟩
     refine cxs ?_
     have hF51 := hF49.setItems hP51 hO51
     exact Rt ⟨⟨u5.p,u5.q,⟨u5.x.items.set r47.toNat ⟨w.id,e49⟩,u5.x.floors⟩⟩,congrArg (fun n => Value.agg #[vS u5.p n,vS u5.q u5.x.floors.length]) List.length_set.symm,hsm.setI h49,hF51.1,hC49.thenNew hc hF49.2.2.1 hP51 hNi⟩
  ·replace h22 : r7 = (1) := beq_iff_eq.1 h22
   refine Cm 2 s7 [(0,vP c 0),Ml 2 0,Ml 3 1,(7,vI r7),(21,vB true)] [(2,0,[Sn,Sn]),(3,1,cSV u5)] fun _ _ => ?_
   refine ⟨fun _ => False,?_⟩
   refine ⟨_,rfl,?_⟩
   refine ⟨_,Od rfl,?_⟩
   refine ⟨ld_own rfl rfl rfl,?_⟩
   refine ⟨_,rfl,(ac_d_l1Below c 7 s7 hC7 (by first | assumption | omega)).mono ?_⟩
   rintro _ s26 ⟨r26,rfl,h26,h26',h26'',hC26,hL26⟩
   refine ⟨fun _ h => h.elim,?_⟩
   have ew27 : IntKind.wrap .i64 (r26 - (1)) = r26 - (1) := wrap_i64 (by omega) (by omega)
   refine ⟨_,rfl,?_⟩
   refine op_litI (k := .i64) (l := [0,1,5,1001]) rfl rfl rfl rfl rfl rfl (Lb rfl) ?_
   intro q29 s29 hO29 hP29 hN29
   refine ⟨fun _ h => h.elim,?_⟩
   refine ⟨_,rfl,(ac_d_l1PickInt c q29 ([0,1,5,1001]) s29 (hC26.pres hP29) (by first | assumption | omega) (by first | assumption | omega | decide) (by first | assumption | omega) (by first | assumption | exact NC.new (by assumption) (Cur.lt (by assumption)))).mono ?_⟩
   rintro _ s30 ⟨r30,rfl,h30,hC30,hL30⟩
   refine ⟨fun _ h => h.elim,?_⟩
   refine ⟨_,rfl,?_⟩
   refine op_one (z := 2) (a := ((⟨IntKind.wrap .i64 (r26 - 1),r30⟩ : Flr) : Flr)) (f := cFlr) rfl rfl rfl rfl rfl (by decide) rfl (Lb rfl) rfl rfl rfl ?_
   refine ⟨fun _ h => h.elim,?_⟩
   have hF30 := ((hF7.later hL26).step hP29).later hL30
   have hO30 : OwnR s30 2 cFlr u5.q u5.x.floors := hF30.1.floors
   have hfl : u5.x.floors.length ≤ 5 := hsm.f
   refine op_snoc (z := 2) (st := s30) (f := cFlr) (b := 16) (l := u5.x.floors) (x := (⟨IntKind.wrap .i64 (r26 - 1),r30⟩ : Flr)) rfl rfl rfl rfl rfl rfl rfl (by decide) len_cFlr rfl rfl rfl (by omega) (by unfold maxLen; omega) hO30 ?_
   intro q33 s33 hO33 hP33 hN33
   refine ⟨_,rfl,?_⟩
   refine ⟨_,Os rfl,?_⟩
   refine Cm 2 s33 [Ml 2 0,Ml 3 1] [(2,0,[Sn,Sn]),(3,1,[vS u5.p u5.x.items.length,vS q33 (u5.x.floors ++ [(⟨IntKind.wrap .i64 (r26 - 1),r30⟩ : Flr)]).length])] fun _ _ => ?_
   refine ⟨_,Od rfl,?_⟩
   refine ⟨_,Os rfl,?_⟩
   refine cxs ?_
   have hF33 := hF30.floors hP33 hO33 hN33
   exact Rt ⟨_,rfl,hsm.snocF,hF33.1,hC30.thenNew hc hF30.2.2.1 hP33 hNf⟩
 ·replace h9 : r7 = (0) := beq_iff_eq.1 h9
  refine Cm 2 s7 [(0,vP c 0),Ml 2 0,Ml 3 1,(7,vI r7),(8,vB true)] [(2,0,[Sn,Sn]),(3,1,cSV u5)] fun _ _ => ?_
  refine ⟨fun _ => False,?_⟩
  refine ⟨_,rfl,?_⟩
  refine ⟨_,Od rfl,?_⟩
  refine ⟨ld_own rfl rfl rfl,?_⟩
  refine ⟨_,rfl,(ac_d_l1Below c 7 s7 hC7 (by first | assumption | omega)).mono ?_⟩
  rintro _ s13 ⟨r13,rfl,h13,h13',h13'',hC13,hL13⟩
  refine ⟨fun _ h => h.elim,?_⟩
  have ew14 : IntKind.wrap .i64 (r13 - (1)) = r13 - (1) := wrap_i64 (by omega) (by omega)
  refine ⟨_,rfl,?_⟩
  refine ⟨_,rfl,(ac_d_l2Draw c s13 hC13 (by first | assumption | omega)).mono ?_⟩
  rintro _ s16 ⟨e16,rfl,h16,hC16,hL16⟩
  refine ⟨fun _ h => h.elim,?_⟩
  refine ⟨_,rfl,?_⟩
  refine op_one (z := 6) (a := ((⟨IntKind.wrap .i64 (r13 - 1),e16⟩ : Itm) : Itm)) (f := cItm) rfl rfl rfl rfl rfl (by decide) rfl (Lb rfl) rfl rfl rfl ?_
  refine ⟨fun _ h => h.elim,?_⟩
  have hF16 := (hF7.later hL13).later hL16
  have hO16 : OwnR s16 6 cItm u5.p u5.x.items := hF16.1.items
  have hil : u5.x.items.length ≤ 5 := hsm.i
  refine op_snoc (z := 6) (st := s16) (f := cItm) (b := 56) (l := u5.x.items) (x := (⟨IntKind.wrap .i64 (r13 - 1),e16⟩ : Itm)) rfl rfl rfl rfl rfl rfl rfl (by decide) len_cItm rfl rfl rfl (by omega) (by unfold maxLen; omega) hO16 ?_
  intro q19 s19 hO19 hP19 hN19
  refine ⟨_,rfl,?_⟩
  refine ⟨_,Os rfl,?_⟩
  refine Cm 2 s19 [Ml 2 0,Ml 3 1] [(2,0,[Sn,Sn]),(3,1,[vS q19 (u5.x.items ++ [(⟨IntKind.wrap .i64 (r13 - 1),e16⟩ : Itm)]).length,vS u5.q u5.x.floors.length])] fun _ _ => ?_
  refine ⟨_,Od rfl,?_⟩
  refine ⟨_,Os rfl,?_⟩
  refine cxs ?_
  have hF19 := hF16.items hP19 hO19 hN19
  exact Rt ⟨_,rfl,hsm.snocI h16,hF19.1,hC16.thenNew hc hF16.2.2.1 hP19 hNi⟩
def putT {α : Type} (t : List α) (K : Nat) (x : α) : List α := t.take K ++ x :: t.drop (K + 1)
theorem OwnP.put {st st' : St} {q : Option Addr} {u : List RV} {K : Nat} {a : Option Addr} {l l' : List Int} (h : OwnP st (pcT q (putT u K ⟨a,l⟩))) (hp : Pr a st st') (ho : OwnR st' 1 fI a l') (hl : l'.length = l.length) : OwnP st' (pcT q (putT u K ⟨a,l'⟩)) := by
 have h1 : pcT q (putT u K ⟨a,l⟩) = (pcR 1 cRV q (putT u K ⟨a,l⟩) :: (u.take K).map pcRV) ++ pcRV ⟨a,l⟩ :: (u.drop (K + 1)).map pcRV := by simp [pcT,putT]
 have h2 : pcT q (putT u K ⟨a,l'⟩) = (pcR 1 cRV q (putT u K ⟨a,l⟩) :: (u.take K).map pcRV) ++ pcRV ⟨a,l'⟩ :: (u.drop (K + 1)).map pcRV := by simp [pcT,putT,pcR,hl]
 rw [h1] at h
 rw [h2]
 exact OwnP.update h hp (own_pc ho) rfl
theorem mem_ps {q : Option Addr} {t : List RV} {p : Option Addr} (h : p ∈ t.map (·.p)) : ∃ c ∈ pcT q t,c.p = p := by
 obtain ⟨r,hr,rfl⟩ := List.mem_map.1 h
 exact ⟨pcRV r,List.mem_cons_of_mem _ (List.mem_map_of_mem hr),rfl⟩
theorem OwnP.after {st0 s s' : St} {l : List Pc} {q : Option Addr} {t : List RV} {n : Nat} (h : OwnP s l) (h0 : OwnP st0 l) (hn : st0.next ≤ n) (hN : NewP n (pcT q t)) (hL : PrL (t.map (·.p)) s s') : OwnP s' l :=
 h.prl hL fun c hc p hp => by
  obtain ⟨d,hd,rfl⟩ := mem_ps (q := q) hp
  exact (Dis.of (((h0.1 c hc).old).le hn) (hN d hd)).symm
theorem OwnP.before {st0 s s' : St} {l : List Pc} {q : Option Addr} {t : List RV} {n : Nat} (h : OwnP s l) (hN : NewP n l) (h0 : OwnP st0 (pcT q t)) (hn : st0.next ≤ n) (hL : PrL (t.map (·.p)) s s') : OwnP s' l :=
 h.prl hL fun c hc p hp => by
  obtain ⟨d,hd,rfl⟩ := mem_ps (q := q) hp
  exact Dis.of (((h0.1 d hd).old).le hn) (hN c hc)
theorem FrC.oneF {c : Nat} {a b : St} {z : Nat} {α : Type} {f : α → List Value} {q : Option Addr} {l : List α} (hO : OwnR b z f q l) (hN : New a.next q) (hP : Pres a b) (hc : c < a.next) : FrC c a b [pcR z f q l] := ⟨OwnP.one (own_pc hO),NewP.cons hN NewP.nil,hP.c,hc⟩
theorem FrC.renew1 {c : Nat} {a b d : St} {z : Nat} {α : Type} {f : α → List Value} {p q : Option Addr} {l m : List α} (h : FrC c a b [pcR z f p l]) (hp : Pr p b d) (ho : OwnR d z f q m) (hn : New b.next q) : FrC c a d [pcR z f q m] ∧ PresC c a d :=
 have hP := PresC.thenNew h.2.2.1 hp (h.2.1 _ (List.mem_cons_self ..))
 ⟨⟨OwnP.one (own_pc ho),NewP.cons (hn.le h.2.2.1.1) NewP.nil,hP,h.2.2.2⟩,hP⟩
theorem ac_d_l9Marks {p : Option Addr} {bs : List Int} (c : Nat) (st : St) (hc : Cur st c p bs) (hs : bs.length < 1099511627776) : C 71 [vP c 0] st (fun v s => ∃ (q : Option Addr) (l : List Flr),v = vS q l.length ∧ l.length ≤ 6 ∧ FrC c st s [pcR 2 cFlr q l] ∧ Cur s c p bs) := by
 refine AC.enterX (i := ⟨[],[],[0,2,3,8],[]⟩) [] Try.func71 rfl rfl (by kernel_rfl) (by kernel_rfl) Try.ntmps71 (Lb rfl) rfl ?_
 refine Cu lo0 st [(0,vP c 0),(2,Sn)] fun _ => ?_
 refine ⟨_,rfl,(ac_d_l3Right c st hc (by first | assumption | omega)).mono ?_⟩
 rintro _ s5 ⟨u5,rfl,h5,hF5,hC5⟩
 have hb5 := big_ok h5
 refine ⟨_,rfl,(ac_spec_MarksOf u5 s5 (hF5.1.rdS) (by first | assumption | omega)).mono ?_⟩
 rintro _ s6 ⟨q6,rfl,hO6,hP6,hN6⟩
 refine Cu lo0 s6 [(0,vP c 0),(2,Sn),(3,vS q6 (marksF (goneAt u5.x) 5).length)] fun _ => ?_
 have hF6 : FrC c st s6 [pcR 2 cFlr q6 (marksF (goneAt u5.x) 5)] := (FrC.oneF hO6 hN6 hP6 hF5.lt).sooner hF5.2.2.1 hc.lt
 have hC6 := hC5.pres hP6
 have hl := marksF_len (goneAt u5.x) 5
 refine ⟨_,rfl,(ac_d_l1Once c 10 s6 hC6 (by first | assumption | omega)).mono ?_⟩
 rintro _ s8 ⟨b8,rfl,hC8,hL8⟩
 rcases b8 with _|_
 ·refine Cu lo0 s8 [(0,vP c 0),(2,Sn),(3,vS q6 (marksF (goneAt u5.x) 5).length),(8,vB false)] fun _ => ?_
  refine cxs ?_
  exact cxs (Rt ⟨q6,_,rfl,by omega,hF6.later hL8,hC8⟩)
 ·refine Cu lo0 s8 [(0,vP c 0),(2,Sn),(3,vS q6 (marksF (goneAt u5.x) 5).length),(8,vB true)] fun _ => ?_
  refine ⟨_,rfl,(ac_d_l1Below c 7 s8 hC8 (by first | assumption | omega)).mono ?_⟩
  rintro _ s11 ⟨r11,rfl,h11,h11',h11'',hC11,hL11⟩
  have ew12 : IntKind.wrap .i64 (r11 - (1)) = r11 - (1) := wrap_i64 (by omega) (by omega)
  refine ⟨_,rfl,?_⟩
  refine op_litI (k := .i64) (l := [0,1,1001]) rfl rfl rfl rfl rfl rfl (Lb rfl) ?_
  intro q14 s14 hO14 hP14 hN14
  refine ⟨_,rfl,(ac_d_l1PickInt c q14 ([0,1,1001]) s14 (hC11.pres hP14) (by first | assumption | omega) (by first | assumption | omega | decide) (by first | assumption | omega) (by first | assumption | exact NC.new (by assumption) (Cur.lt (by assumption)))).mono ?_⟩
  rintro _ s15 ⟨r15,rfl,h15,hC15,hL15⟩
  refine ⟨_,rfl,?_⟩
  refine op_one (z := 2) (a := ((⟨IntKind.wrap .i64 (r11 - 1),r15⟩ : Flr) : Flr)) (f := cFlr) rfl rfl rfl rfl rfl (by decide) rfl (Lb rfl) rfl rfl rfl ?_
  have hF15 := (((hF6.later hL8).later hL11).step hP14).later hL15
  have hO15 : OwnR s15 2 cFlr q6 (marksF (goneAt u5.x) 5) := own_one (by decide) len_cFlr hF15.1
  refine op_snoc (z := 2) (st := s15) (f := cFlr) (b := 16) (l := marksF (goneAt u5.x) 5) (x := (⟨IntKind.wrap .i64 (r11 - 1),r15⟩ : Flr)) rfl rfl rfl rfl rfl rfl rfl (by decide) len_cFlr rfl rfl rfl (by omega) (by unfold maxLen; omega) hO15 ?_
  intro q18 s18 hO18 hP18 hN18
  refine cxs ?_
  refine cxs ?_
  have hF18 := hF15.renew1 hP18 hO18 hN18
  exact Rt ⟨q18,_,rfl,by rw [List.length_append,List.length_singleton]; omega,hF18.1,hC15.thenNew hc hF15.2.2.1 hP18 (hF15.2.1 _ (List.mem_cons_self ..))⟩
abbrev Hold (L : List Pc) (R : St → Prop) : Prop := ∀ s,OwnP s L → R s
section
variable {P : Program} {ls : List Tmp} {call : ACallT} {o : Oper} {e : Operand → Value} {lo : Lo} {st : St}
theorem op_slH {t el : TypeId} {x w : Operand} {p : Option Addr} {n j z : Nat} {b : Int} (ho : o.op = .slice t x none (some w) none) (hx : e x = .slice p n n) (hw : e w = vI b) (hb : b = (j : Int)) (he : telem P t = some el) (hz : tsize P el = some z) (h1 : j ≤ n) : aoper P ls call o e lo st = some (.slice p j j,lo,st) := by
 obtain ⟨d,op,ty,pos,after,gd⟩ := o
 simp only at ho
 subst ho hb
 have hp : (p.map fun q => (⟨q.block,q.off + 0 * z,q.spot⟩ : Addr)) = p := by cases p <;> simp
 simp only [aoper,rop,hx,hw,aslice,he,hz,Option.bind_some,Option.map_none,Option.map_some,abound,Option.bind]
 rw [if_pos (Int.natCast_nonneg j)]
 simp only [Int.toNat_natCast]
 rw [if_pos ⟨Nat.zero_le _,h1⟩,hp]
 rfl
end
end Go.Proofs.Yteabadoaeadcgaa.AM
