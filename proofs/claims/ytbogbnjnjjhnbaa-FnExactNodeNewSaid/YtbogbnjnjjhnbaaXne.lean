/- Part 5 of the texts on which the law's proof rests. -/
import Derived.Test.YtbogbnjnjjhnbaaXnd
namespace Go.Proofs.Ytbogbnjnjjhnbaa.AM
open Go Go.Proofs
set_option linter.unusedVariables false
set_option linter.unusedSimpArgs false
set_option maxRecDepth 100000
set_option maxHeartbeats 4000000
def mkSes (k : Int) : Ses := ⟨k,k + 1,(k + 2).tmod 3 == 0,k + 3⟩
def mkRis (k : Int) : Ris := ⟨k,k + 1,k + 2⟩
theorem ac_laws_markSessS (p : Option Addr) (l : List Ses) (k : Int) (st : St) (hO : OwnR st 4 cSess p l) (hs : szOk l.length) (h0 : 0 ≤ k) (hk : k ≤ 549755813888) : C 112 [vS p l.length,vI k] st (fun v s => v = vI (k + 4 * (l.length : Int)) ∧ OwnR s 4 cSess p (mkRow mkSes 4 l.length k) ∧ Pr p st s) := by
 have hs : l.length ≤ 1048576 := hs
 refine AC.enterX (i := ⟨[],[],[0,1,4,5,9],[]⟩) [] Try.func112 rfl rfl (by kernel_rfl) (by kernel_rfl) Try.ntmps112 (Nat.le_of_ble_eq_true rfl) rfl ?_
 refine cxs ?_
 refine AW.cut lo0 st [(0,vS p l.length),(1,vI k),(4,vI (0)),(5,vI (0))] ⟨rfl,rfl,rfl,rfl,trivial⟩ fun ρ0 => ?_
 refine AW.loop0 (fun i : Nat => [(0,vS p l.length),(1,vI (k + 4 * (i : Int))),(5,vI (i : Int))]) (fun m (i : Nat) st' => m = l.length - i ∧ i ≤ l.length ∧ OwnR st' 4 cSess p (mkRow mkSes 4 i k ++ l.drop i) ∧ Pr p st st') 0 _ ⟨rfl,congrArg (Value.int .i64) (show k = k + 4 * ((0 : Nat) : Int) by omega),rfl,trivial⟩ rfl ⟨rfl,Nat.zero_le _,by simpa [mkRow] using hO,Pr.refl _ _⟩ ?_
 rintro m i ρ0 st' ⟨rfl,hi,hO0,hP0⟩
 iterate 2 refine ⟨_,rfl,?_⟩
 rintro (_|_) h1
 ·replace h1 : ¬ ((i : Int) < (l.length : Int)) := of_decide_eq_false h1
  refine AW.cut lo0 st' [(0,vS p l.length),(1,vI (k + 4 * (i : Int))),(5,vI (i : Int)),(9,vB false)] ⟨rfl,rfl,rfl,rfl,trivial⟩ fun ρ0 => ?_
  refine cxs ?_
  refine cxs ?_
  have hil : i = l.length := by omega
  subst hil
  rw [List.drop_length,List.append_nil] at hO0
  exact ⟨.inl rfl,_,rfl,rfl,hO0,hP0⟩
 ·replace h1 : (i : Int) < (l.length : Int) := of_decide_eq_true h1
  refine AW.cut lo0 st' [(0,vS p l.length),(1,vI (k + 4 * (i : Int))),(5,vI (i : Int)),(9,vB true)] ⟨rfl,rfl,rfl,rfl,trivial⟩ fun ρ0 => ?_
  have h1' := Int.ofNat_lt.1 h1
  have hlen : i < (mkRow mkSes 4 i k ++ l.drop i).length := by rw [List.length_append,mkRow_len,List.length_drop]; omega
  have ⟨a,ha⟩ := hO0.some (by omega)
  obtain ⟨w,hw⟩ : ∃ w,(mkRow mkSes 4 i k ++ l.drop i)[i]? = some w := ⟨_,List.getElem?_eq_getElem hlen⟩
  have hset := mkRow_set (mk := mkSes) (z := 4) (k := k) h1'
  refine cxs ?_
  refine ⟨_,op_idx (j := (i : Int)) (n := l.length) (q := ⟨a,0,none⟩) rfl (congrArg (fun u => vS u l.length) ha) rfl rfl rfl (Int.natCast_nonneg _) h1,?_⟩
  refine ⟨_,rfl,?_⟩
  refine op_putc (z := 4) (i := 0) (st := st') (f := cSess) (j := i) (l := (mkRow mkSes 4 i k ++ l.drop i)) (w := w) (y := ((⟨(k + 4 * (i : Int)),w.num,w.inn,w.age⟩ : Ses) : Ses)) (p := p) (d := 0 + i * 4 + 0) rfl rfl (by omega) rfl rfl len_cSess rfl rfl hw (by decide) rfl hO0 ha ?_
  intro s1 hO1 hP1 hn1
  have hQ1 : Pr p st s1 := hP0.trans hP1
  refine AW.cut lo0 s1 [(0,vS p l.length),(1,vI (k + 4 * (i : Int))),(5,vI (i : Int)),(9,vB true)] ⟨rfl,rfl,rfl,rfl,trivial⟩ fun ρ0 => ?_
  have e18 : IntKind.wrap .i64 (k + 4 * (i : Int) + 1) = k + 4 * (i : Int) + 1 := (wrap_i64 (by omega) (by omega)).trans (by omega)
  refine ⟨_,rfl,?_⟩
  refine AW.cut lo0 s1 [(0,vS p l.length),(1,vI (k + 4 * (i : Int) + 1)),(5,vI (i : Int)),(9,vB true)] ⟨rfl,congrArg (Value.int .i64) e18,rfl,rfl,trivial⟩ fun ρ0 => ?_
  refine ⟨_,op_idx (j := (i : Int)) (n := l.length) (q := ⟨a,0,none⟩) rfl (congrArg (fun u => vS u l.length) ha) rfl rfl rfl (Int.natCast_nonneg _) h1,?_⟩
  refine ⟨_,rfl,?_⟩
  refine op_putc (z := 4) (i := 1) (st := s1) (f := cSess) (j := i) (l := ((mkRow mkSes 4 i k ++ l.drop i).set i (⟨(k + 4 * (i : Int)),w.num,w.inn,w.age⟩ : Ses))) (w := (⟨(k + 4 * (i : Int)),w.num,w.inn,w.age⟩ : Ses)) (y := ((⟨(k + 4 * (i : Int)),(k + 4 * (i : Int)) + 1,w.inn,w.age⟩ : Ses) : Ses)) (p := p) (d := 0 + i * 4 + 1) rfl rfl (by omega) rfl rfl len_cSess rfl rfl (getElem?_set_same hlen) (by decide) rfl hO1 ha ?_
  intro s2 hO2 hP2 hn2
  rw [set_set] at hO2
  have hQ2 : Pr p st s2 := hQ1.trans hP2
  refine AW.cut lo0 s2 [(0,vS p l.length),(1,vI (k + 4 * (i : Int) + 1)),(5,vI (i : Int)),(9,vB true)] ⟨rfl,rfl,rfl,rfl,trivial⟩ fun ρ0 => ?_
  have e25 : IntKind.wrap .i64 (k + 4 * (i : Int) + 1 + 1) = k + 4 * (i : Int) + 2 := (wrap_i64 (by omega) (by omega)).trans (by omega)
  refine ⟨_,rfl,?_⟩
  refine AW.cut lo0 s2 [(0,vS p l.length),(1,vI (k + 4 * (i : Int) + 2)),(5,vI (i : Int)),(9,vB true)] ⟨rfl,congrArg (Value.int .i64) e25,rfl,rfl,trivial⟩ fun ρ0 => ?_
  refine ⟨_,op_rem rfl rfl rfl (by decide),?_⟩
  refine ⟨_,rfl,?_⟩
  rintro _ rfl
  refine ⟨_,op_idx (j := (i : Int)) (n := l.length) (q := ⟨a,0,none⟩) rfl (congrArg (fun u => vS u l.length) ha) rfl rfl rfl (Int.natCast_nonneg _) h1,?_⟩
  refine ⟨_,rfl,?_⟩
  refine op_putc (z := 4) (i := 2) (st := s2) (f := cSess) (j := i) (l := ((mkRow mkSes 4 i k ++ l.drop i).set i (⟨(k + 4 * (i : Int)),(k + 4 * (i : Int)) + 1,w.inn,w.age⟩ : Ses))) (w := (⟨(k + 4 * (i : Int)),(k + 4 * (i : Int)) + 1,w.inn,w.age⟩ : Ses)) (y := ((⟨(k + 4 * (i : Int)),(k + 4 * (i : Int)) + 1,((k + 4 * (i : Int)) + 2).tmod 3 == 0,w.age⟩ : Ses) : Ses)) (p := p) (d := 0 + i * 4 + 2) rfl rfl (by omega) rfl rfl len_cSess rfl rfl (getElem?_set_same hlen) (by decide) rfl hO2 ha ?_
  intro s3 hO3 hP3 hn3
  rw [set_set] at hO3
  have hQ3 : Pr p st s3 := hQ2.trans hP3
  refine AW.cut lo0 s3 [(0,vS p l.length),(1,vI (k + 4 * (i : Int) + 2)),(5,vI (i : Int)),(9,vB true)] ⟨rfl,rfl,rfl,rfl,trivial⟩ fun ρ0 => ?_
  have e34 : IntKind.wrap .i64 (k + 4 * (i : Int) + 2 + 1) = k + 4 * (i : Int) + 3 := (wrap_i64 (by omega) (by omega)).trans (by omega)
  refine ⟨_,rfl,?_⟩
  refine AW.cut lo0 s3 [(0,vS p l.length),(1,vI (k + 4 * (i : Int) + 3)),(5,vI (i : Int)),(9,vB true)] ⟨rfl,congrArg (Value.int .i64) e34,rfl,rfl,trivial⟩ fun ρ0 => ?_
  refine ⟨_,op_idx (j := (i : Int)) (n := l.length) (q := ⟨a,0,none⟩) rfl (congrArg (fun u => vS u l.length) ha) rfl rfl rfl (Int.natCast_nonneg _) h1,?_⟩
  refine ⟨_,rfl,?_⟩
  refine op_putc (z := 4) (i := 3) (st := s3) (f := cSess) (j := i) (l := ((mkRow mkSes 4 i k ++ l.drop i).set i (⟨(k + 4 * (i : Int)),(k + 4 * (i : Int)) + 1,((k + 4 * (i : Int)) + 2).tmod 3 == 0,w.age⟩ : Ses))) (w := (⟨(k + 4 * (i : Int)),(k + 4 * (i : Int)) + 1,((k + 4 * (i : Int)) + 2).tmod 3 == 0,w.age⟩ : Ses)) (y := ((⟨(k + 4 * (i : Int)),(k + 4 * (i : Int)) + 1,((k + 4 * (i : Int)) + 2).tmod 3 == 0,(k + 4 * (i : Int)) + 3⟩ : Ses) : Ses)) (p := p) (d := 0 + i * 4 + 3) rfl rfl (by omega) rfl rfl len_cSess rfl rfl (getElem?_set_same hlen) (by decide) rfl hO3 ha ?_
  intro s4 hO4 hP4 hn4
  rw [set_set] at hO4
  have hQ4 : Pr p st s4 := hQ3.trans hP4
  refine AW.cut lo0 s4 [(0,vS p l.length),(1,vI (k + 4 * (i : Int) + 3)),(5,vI (i : Int)),(9,vB true)] ⟨rfl,rfl,rfl,rfl,trivial⟩ fun ρ0 => ?_
  have e41 : IntKind.wrap .i64 (k + 4 * (i : Int) + 3 + 1) = k + 4 * ((i + 1 : Nat) : Int) := (wrap_i64 (by omega) (by omega)).trans (by omega)
  refine ⟨_,rfl,?_⟩
  refine AW.cut lo0 s4 [(0,vS p l.length),(1,vI (k + 4 * ((i + 1 : Nat) : Int))),(5,vI (i : Int)),(9,vB true)] ⟨rfl,congrArg (Value.int .i64) e41,rfl,rfl,trivial⟩ fun ρ0 => ?_
  have e11 : IntKind.wrap .i64 ((i : Int) + 1) = ((i + 1 : Nat) : Int) := (wrap_i64 (by omega) (by omega)).trans (by omega)
  refine ⟨_,rfl,?_⟩
  exact ⟨i + 1,l.length - (i + 1),by omega,⟨rfl,rfl,congrArg (Value.int .i64) e11,trivial⟩,rfl,rfl,h1',(show OwnR s4 4 cSess p (mkRow mkSes 4 (i + 1) k ++ l.drop (i + 1)) by rw [← hset]; exact hO4),hQ4⟩
theorem ac_laws_heldSessS (p : Option Addr) (n : Nat) (k : Int) (st : St) (hR : Rows st 4 cSess p (mkRow mkSes 4 n k)) (hs : szOk n) (h0 : 0 ≤ k) (hk : k ≤ 549755813888) : C 116 [vS p n,vI k] st (fun v s => v = vI (k + 4 * (n : Int)) ∧ Pres st s) := by
 have hs : n ≤ 1048576 := hs
 refine AC.enterX (i := ⟨[],[],[0,1,4,5,9,18,27,38,47],[]⟩) [] Try.func116 rfl rfl (by kernel_rfl) (by kernel_rfl) Try.ntmps116 (Nat.le_of_ble_eq_true rfl) rfl ?_
 refine cxs ?_
 refine AW.cut lo0 st [(0,vS p n),(1,vI k),(4,vI (0)),(5,vI (0))] ⟨rfl,rfl,rfl,rfl,trivial⟩ fun ρ0 => ?_
 refine AW.loop0 (fun i : Nat => [(0,vS p n),(1,vI (k + 4 * (i : Int))),(5,vI (i : Int))]) (fun m (i : Nat) st' => m = n - i ∧ i ≤ n ∧ Pres st st') 0 _ ⟨rfl,congrArg (Value.int .i64) (show k = k + 4 * ((0 : Nat) : Int) by omega),rfl,trivial⟩ rfl ⟨rfl,Nat.zero_le _,Pres.refl _⟩ ?_
 rintro m i ρ0 st' ⟨rfl,hi,hP⟩
 iterate 2 refine ⟨_,rfl,?_⟩
 rintro (_|_) h1
 ·replace h1 : ¬ ((i : Int) < (n : Int)) := of_decide_eq_false h1
  refine AW.cut lo0 st' [(0,vS p n),(1,vI (k + 4 * (i : Int))),(5,vI (i : Int)),(9,vB false)] ⟨rfl,rfl,rfl,rfl,trivial⟩ fun ρ0 => ?_
  refine cxs ?_
  refine cxs ?_
  have hil : i = n := by omega
  subst hil
  exact ⟨.inl rfl,_,rfl,rfl,hP⟩
 ·replace h1 : (i : Int) < (n : Int) := of_decide_eq_true h1
  refine AW.cut lo0 st' [(0,vS p n),(1,vI (k + 4 * (i : Int))),(5,vI (i : Int)),(9,vB true)] ⟨rfl,rfl,rfl,rfl,trivial⟩ fun ρ0 => ?_
  have h1' := Int.ofNat_lt.1 h1
  have ⟨b1,o1,k1,x,hpe,hx,hm1,hc1,hb1⟩ := (hP.rows hR).atB (j := i) (by rw [mkRow_len]; exact h1')
  have hx := mkRow_get hx
  have hc1 : (k1.cells.drop (o1 + i * 4)).take 4 = cSess (mkSes (k + 4 * (i : Int))) := by rw [hc1,hx]; rfl
  refine cxs ?_
  refine ⟨_,op_idx (j := (i : Int)) (n := n) (q := ⟨b1,o1,none⟩) rfl (congrArg (fun u => vS u n) hpe) rfl rfl rfl (Int.natCast_nonneg _) h1,?_⟩
  refine ⟨_,rfl,?_⟩
  refine ⟨_,op_ldc (i := 0) rfl rfl rfl rfl hm1 hc1 rfl rfl,?_⟩
  refine ⟨_,rfl,?_⟩
  rintro (_|_) h18
  rotate_left
  ·exact absurd (rfl) (bne_iff_ne.1 h18)
  refine AW.cut lo0 st' [(0,vS p n),(1,vI (k + 4 * (i : Int))),(5,vI (i : Int)),(9,vB true),(18,vB false)] ⟨rfl,rfl,rfl,rfl,rfl,trivial⟩ fun ρ0 => ?_
  refine cxs ?_
  have e20 : IntKind.wrap .i64 (k + 4 * (i : Int) + 1) = k + 4 * (i : Int) + 1 := (wrap_i64 (by omega) (by omega)).trans (by omega)
  refine ⟨_,rfl,?_⟩
  refine AW.cut lo0 st' [(0,vS p n),(1,vI (k + 4 * (i : Int) + 1)),(5,vI (i : Int)),(9,vB true),(18,vB false)] ⟨rfl,congrArg (Value.int .i64) e20,rfl,rfl,rfl,trivial⟩ fun ρ0 => ?_
  refine ⟨_,op_idx (j := (i : Int)) (n := n) (q := ⟨b1,o1,none⟩) rfl (congrArg (fun u => vS u n) hpe) rfl rfl rfl (Int.natCast_nonneg _) h1,?_⟩
  refine ⟨_,rfl,?_⟩
  refine ⟨_,op_ldc (i := 1) rfl rfl rfl rfl hm1 hc1 rfl rfl,?_⟩
  refine ⟨_,rfl,?_⟩
  rintro (_|_) h27
  rotate_left
  ·exact absurd (rfl) (bne_iff_ne.1 h27)
  refine AW.cut lo0 st' [(0,vS p n),(1,vI (k + 4 * (i : Int) + 1)),(5,vI (i : Int)),(9,vB true),(18,vB false),(27,vB false)] ⟨rfl,rfl,rfl,rfl,rfl,rfl,trivial⟩ fun ρ0 => ?_
  refine cxs ?_
  have e29 : IntKind.wrap .i64 (k + 4 * (i : Int) + 1 + 1) = k + 4 * (i : Int) + 2 := (wrap_i64 (by omega) (by omega)).trans (by omega)
  refine ⟨_,rfl,?_⟩
  refine AW.cut lo0 st' [(0,vS p n),(1,vI (k + 4 * (i : Int) + 2)),(5,vI (i : Int)),(9,vB true),(18,vB false),(27,vB false)] ⟨rfl,congrArg (Value.int .i64) e29,rfl,rfl,rfl,rfl,trivial⟩ fun ρ0 => ?_
  refine ⟨_,op_idx (j := (i : Int)) (n := n) (q := ⟨b1,o1,none⟩) rfl (congrArg (fun u => vS u n) hpe) rfl rfl rfl (Int.natCast_nonneg _) h1,?_⟩
  refine ⟨_,rfl,?_⟩
  refine ⟨_,op_ldc (i := 2) rfl rfl rfl rfl hm1 hc1 rfl rfl,?_⟩
  refine ⟨_,op_rem rfl rfl rfl (by decide),?_⟩
  refine ⟨_,rfl,?_⟩
  rintro _ rfl
  refine ⟨_,rfl,?_⟩
  rintro (_|_) h38
  rotate_left
  ·exact absurd (rfl) (b_ne h38)
  refine AW.cut lo0 st' [(0,vS p n),(1,vI (k + 4 * (i : Int) + 2)),(5,vI (i : Int)),(9,vB true),(18,vB false),(27,vB false),(38,vB false)] ⟨rfl,rfl,rfl,rfl,rfl,rfl,rfl,trivial⟩ fun ρ0 => ?_
  refine cxs ?_
  have e40 : IntKind.wrap .i64 (k + 4 * (i : Int) + 2 + 1) = k + 4 * (i : Int) + 3 := (wrap_i64 (by omega) (by omega)).trans (by omega)
  refine ⟨_,rfl,?_⟩
  refine AW.cut lo0 st' [(0,vS p n),(1,vI (k + 4 * (i : Int) + 3)),(5,vI (i : Int)),(9,vB true),(18,vB false),(27,vB false),(38,vB false)] ⟨rfl,congrArg (Value.int .i64) e40,rfl,rfl,rfl,rfl,rfl,trivial⟩ fun ρ0 => ?_
  refine ⟨_,op_idx (j := (i : Int)) (n := n) (q := ⟨b1,o1,none⟩) rfl (congrArg (fun u => vS u n) hpe) rfl rfl rfl (Int.natCast_nonneg _) h1,?_⟩
  refine ⟨_,rfl,?_⟩
  refine ⟨_,op_ldc (i := 3) rfl rfl rfl rfl hm1 hc1 rfl rfl,?_⟩
  refine ⟨_,rfl,?_⟩
  rintro (_|_) h47
  rotate_left
  ·exact absurd (rfl) (bne_iff_ne.1 h47)
  refine AW.cut lo0 st' [(0,vS p n),(1,vI (k + 4 * (i : Int) + 3)),(5,vI (i : Int)),(9,vB true),(18,vB false),(27,vB false),(38,vB false),(47,vB false)] ⟨rfl,rfl,rfl,rfl,rfl,rfl,rfl,rfl,trivial⟩ fun ρ0 => ?_
  refine cxs ?_
  have e49 : IntKind.wrap .i64 (k + 4 * (i : Int) + 3 + 1) = k + 4 * ((i + 1 : Nat) : Int) := (wrap_i64 (by omega) (by omega)).trans (by omega)
  refine ⟨_,rfl,?_⟩
  refine AW.cut lo0 st' [(0,vS p n),(1,vI (k + 4 * ((i + 1 : Nat) : Int))),(5,vI (i : Int)),(9,vB true),(18,vB false),(27,vB false),(38,vB false),(47,vB false)] ⟨rfl,congrArg (Value.int .i64) e49,rfl,rfl,rfl,rfl,rfl,rfl,trivial⟩ fun ρ0 => ?_
  have e11 : IntKind.wrap .i64 ((i : Int) + 1) = ((i + 1 : Nat) : Int) := (wrap_i64 (by omega) (by omega)).trans (by omega)
  refine ⟨_,rfl,?_⟩
  exact ⟨i + 1,n - (i + 1),by omega,⟨rfl,rfl,congrArg (Value.int .i64) e11,trivial⟩,rfl,rfl,h1',hP⟩
theorem ac_laws_markRiseS (p : Option Addr) (l : List Ris) (k : Int) (st : St) (hO : OwnR st 3 cRise p l) (hs : szOk l.length) (h0 : 0 ≤ k) (hk : k ≤ 549755813888) : C 113 [vS p l.length,vI k] st (fun v s => v = vI (k + 3 * (l.length : Int)) ∧ OwnR s 3 cRise p (mkRow mkRis 3 l.length k) ∧ Pr p st s) := by
 have hs : l.length ≤ 1048576 := hs
 refine AC.enterX (i := ⟨[],[],[0,1,4,5,9],[]⟩) [] Try.func113 rfl rfl (by kernel_rfl) (by kernel_rfl) Try.ntmps113 (Nat.le_of_ble_eq_true rfl) rfl ?_
 refine cxs ?_
 refine AW.cut lo0 st [(0,vS p l.length),(1,vI k),(4,vI (0)),(5,vI (0))] ⟨rfl,rfl,rfl,rfl,trivial⟩ fun ρ0 => ?_
 refine AW.loop0 (fun i : Nat => [(0,vS p l.length),(1,vI (k + 3 * (i : Int))),(5,vI (i : Int))]) (fun m (i : Nat) st' => m = l.length - i ∧ i ≤ l.length ∧ OwnR st' 3 cRise p (mkRow mkRis 3 i k ++ l.drop i) ∧ Pr p st st') 0 _ ⟨rfl,congrArg (Value.int .i64) (show k = k + 3 * ((0 : Nat) : Int) by omega),rfl,trivial⟩ rfl ⟨rfl,Nat.zero_le _,by simpa [mkRow] using hO,Pr.refl _ _⟩ ?_
 rintro m i ρ0 st' ⟨rfl,hi,hO0,hP0⟩
 iterate 2 refine ⟨_,rfl,?_⟩
 rintro (_|_) h1
 ·replace h1 : ¬ ((i : Int) < (l.length : Int)) := of_decide_eq_false h1
  refine AW.cut lo0 st' [(0,vS p l.length),(1,vI (k + 3 * (i : Int))),(5,vI (i : Int)),(9,vB false)] ⟨rfl,rfl,rfl,rfl,trivial⟩ fun ρ0 => ?_
  refine cxs ?_
  refine cxs ?_
  have hil : i = l.length := by omega
  subst hil
  rw [List.drop_length,List.append_nil] at hO0
  exact ⟨.inl rfl,_,rfl,rfl,hO0,hP0⟩
 ·replace h1 : (i : Int) < (l.length : Int) := of_decide_eq_true h1
  refine AW.cut lo0 st' [(0,vS p l.length),(1,vI (k + 3 * (i : Int))),(5,vI (i : Int)),(9,vB true)] ⟨rfl,rfl,rfl,rfl,trivial⟩ fun ρ0 => ?_
  have h1' := Int.ofNat_lt.1 h1
  have hlen : i < (mkRow mkRis 3 i k ++ l.drop i).length := by rw [List.length_append,mkRow_len,List.length_drop]; omega
  have ⟨a,ha⟩ := hO0.some (by omega)
  obtain ⟨w,hw⟩ : ∃ w,(mkRow mkRis 3 i k ++ l.drop i)[i]? = some w := ⟨_,List.getElem?_eq_getElem hlen⟩
  have hset := mkRow_set (mk := mkRis) (z := 3) (k := k) h1'
  refine cxs ?_
  refine ⟨_,op_idx (j := (i : Int)) (n := l.length) (q := ⟨a,0,none⟩) rfl (congrArg (fun u => vS u l.length) ha) rfl rfl rfl (Int.natCast_nonneg _) h1,?_⟩
  refine ⟨_,rfl,?_⟩
  refine op_putc (z := 3) (i := 0) (st := st') (f := cRise) (j := i) (l := (mkRow mkRis 3 i k ++ l.drop i)) (w := w) (y := ((⟨(k + 3 * (i : Int)),w.beat,w.tick⟩ : Ris) : Ris)) (p := p) (d := 0 + i * 3 + 0) rfl rfl (by omega) rfl rfl len_cRise rfl rfl hw (by decide) rfl hO0 ha ?_
  intro s1 hO1 hP1 hn1
  have hQ1 : Pr p st s1 := hP0.trans hP1
  refine AW.cut lo0 s1 [(0,vS p l.length),(1,vI (k + 3 * (i : Int))),(5,vI (i : Int)),(9,vB true)] ⟨rfl,rfl,rfl,rfl,trivial⟩ fun ρ0 => ?_
  have e18 : IntKind.wrap .i64 (k + 3 * (i : Int) + 1) = k + 3 * (i : Int) + 1 := (wrap_i64 (by omega) (by omega)).trans (by omega)
  refine ⟨_,rfl,?_⟩
  refine AW.cut lo0 s1 [(0,vS p l.length),(1,vI (k + 3 * (i : Int) + 1)),(5,vI (i : Int)),(9,vB true)] ⟨rfl,congrArg (Value.int .i64) e18,rfl,rfl,trivial⟩ fun ρ0 => ?_
  refine ⟨_,op_idx (j := (i : Int)) (n := l.length) (q := ⟨a,0,none⟩) rfl (congrArg (fun u => vS u l.length) ha) rfl rfl rfl (Int.natCast_nonneg _) h1,?_⟩
  refine ⟨_,rfl,?_⟩
  refine op_putc (z := 3) (i := 1) (st := s1) (f := cRise) (j := i) (l := ((mkRow mkRis 3 i k ++ l.drop i).set i (⟨(k + 3 * (i : Int)),w.beat,w.tick⟩ : Ris))) (w := (⟨(k + 3 * (i : Int)),w.beat,w.tick⟩ : Ris)) (y := ((⟨(k + 3 * (i : Int)),(k + 3 * (i : Int)) + 1,w.tick⟩ : Ris) : Ris)) (p := p) (d := 0 + i * 3 + 1) rfl rfl (by omega) rfl rfl len_cRise rfl rfl (getElem?_set_same hlen) (by decide) rfl hO1 ha ?_
  intro s2 hO2 hP2 hn2
  rw [set_set] at hO2
  have hQ2 : Pr p st s2 := hQ1.trans hP2
  refine AW.cut lo0 s2 [(0,vS p l.length),(1,vI (k + 3 * (i : Int) + 1)),(5,vI (i : Int)),(9,vB true)] ⟨rfl,rfl,rfl,rfl,trivial⟩ fun ρ0 => ?_
  have e25 : IntKind.wrap .i64 (k + 3 * (i : Int) + 1 + 1) = k + 3 * (i : Int) + 2 := (wrap_i64 (by omega) (by omega)).trans (by omega)
  refine ⟨_,rfl,?_⟩
  refine AW.cut lo0 s2 [(0,vS p l.length),(1,vI (k + 3 * (i : Int) + 2)),(5,vI (i : Int)),(9,vB true)] ⟨rfl,congrArg (Value.int .i64) e25,rfl,rfl,trivial⟩ fun ρ0 => ?_
  refine ⟨_,op_idx (j := (i : Int)) (n := l.length) (q := ⟨a,0,none⟩) rfl (congrArg (fun u => vS u l.length) ha) rfl rfl rfl (Int.natCast_nonneg _) h1,?_⟩
  refine ⟨_,rfl,?_⟩
  refine op_putc (z := 3) (i := 2) (st := s2) (f := cRise) (j := i) (l := ((mkRow mkRis 3 i k ++ l.drop i).set i (⟨(k + 3 * (i : Int)),(k + 3 * (i : Int)) + 1,w.tick⟩ : Ris))) (w := (⟨(k + 3 * (i : Int)),(k + 3 * (i : Int)) + 1,w.tick⟩ : Ris)) (y := ((⟨(k + 3 * (i : Int)),(k + 3 * (i : Int)) + 1,(k + 3 * (i : Int)) + 2⟩ : Ris) : Ris)) (p := p) (d := 0 + i * 3 + 2) rfl rfl (by omega) rfl rfl len_cRise rfl rfl (getElem?_set_same hlen) (by decide) rfl hO2 ha ?_
  intro s3 hO3 hP3 hn3
  rw [set_set] at hO3
  have hQ3 : Pr p st s3 := hQ2.trans hP3
  refine AW.cut lo0 s3 [(0,vS p l.length),(1,vI (k + 3 * (i : Int) + 2)),(5,vI (i : Int)),(9,vB true)] ⟨rfl,rfl,rfl,rfl,trivial⟩ fun ρ0 => ?_
  have e32 : IntKind.wrap .i64 (k + 3 * (i : Int) + 2 + 1) = k + 3 * ((i + 1 : Nat) : Int) := (wrap_i64 (by omega) (by omega)).trans (by omega)
  refine ⟨_,rfl,?_⟩
  refine AW.cut lo0 s3 [(0,vS p l.length),(1,vI (k + 3 * ((i + 1 : Nat) : Int))),(5,vI (i : Int)),(9,vB true)] ⟨rfl,congrArg (Value.int .i64) e32,rfl,rfl,trivial⟩ fun ρ0 => ?_
  have e11 : IntKind.wrap .i64 ((i : Int) + 1) = ((i + 1 : Nat) : Int) := (wrap_i64 (by omega) (by omega)).trans (by omega)
  refine ⟨_,rfl,?_⟩
  exact ⟨i + 1,l.length - (i + 1),by omega,⟨rfl,rfl,congrArg (Value.int .i64) e11,trivial⟩,rfl,rfl,h1',(show OwnR s3 3 cRise p (mkRow mkRis 3 (i + 1) k ++ l.drop (i + 1)) by rw [← hset]; exact hO3),hQ3⟩
theorem ac_laws_heldRiseS (p : Option Addr) (n : Nat) (k : Int) (st : St) (hR : Rows st 3 cRise p (mkRow mkRis 3 n k)) (hs : szOk n) (h0 : 0 ≤ k) (hk : k ≤ 549755813888) : C 117 [vS p n,vI k] st (fun v s => v = vI (k + 3 * (n : Int)) ∧ Pres st s) := by
 have hs : n ≤ 1048576 := hs
 refine AC.enterX (i := ⟨[],[],[0,1,4,5,9,18,27,36],[]⟩) [] Try.func117 rfl rfl (by kernel_rfl) (by kernel_rfl) Try.ntmps117 (Nat.le_of_ble_eq_true rfl) rfl ?_
 refine cxs ?_
 refine AW.cut lo0 st [(0,vS p n),(1,vI k),(4,vI (0)),(5,vI (0))] ⟨rfl,rfl,rfl,rfl,trivial⟩ fun ρ0 => ?_
 refine AW.loop0 (fun i : Nat => [(0,vS p n),(1,vI (k + 3 * (i : Int))),(5,vI (i : Int))]) (fun m (i : Nat) st' => m = n - i ∧ i ≤ n ∧ Pres st st') 0 _ ⟨rfl,congrArg (Value.int .i64) (show k = k + 3 * ((0 : Nat) : Int) by omega),rfl,trivial⟩ rfl ⟨rfl,Nat.zero_le _,Pres.refl _⟩ ?_
 rintro m i ρ0 st' ⟨rfl,hi,hP⟩
 iterate 2 refine ⟨_,rfl,?_⟩
 rintro (_|_) h1
 ·replace h1 : ¬ ((i : Int) < (n : Int)) := of_decide_eq_false h1
  refine AW.cut lo0 st' [(0,vS p n),(1,vI (k + 3 * (i : Int))),(5,vI (i : Int)),(9,vB false)] ⟨rfl,rfl,rfl,rfl,trivial⟩ fun ρ0 => ?_
  refine cxs ?_
  refine cxs ?_
  have hil : i = n := by omega
  subst hil
  exact ⟨.inl rfl,_,rfl,rfl,hP⟩
 ·replace h1 : (i : Int) < (n : Int) := of_decide_eq_true h1
  refine AW.cut lo0 st' [(0,vS p n),(1,vI (k + 3 * (i : Int))),(5,vI (i : Int)),(9,vB true)] ⟨rfl,rfl,rfl,rfl,trivial⟩ fun ρ0 => ?_
  have h1' := Int.ofNat_lt.1 h1
  have ⟨b1,o1,k1,x,hpe,hx,hm1,hc1,hb1⟩ := (hP.rows hR).atB (j := i) (by rw [mkRow_len]; exact h1')
  have hx := mkRow_get hx
  have hc1 : (k1.cells.drop (o1 + i * 3)).take 3 = cRise (mkRis (k + 3 * (i : Int))) := by rw [hc1,hx]; rfl
  refine cxs ?_
  refine ⟨_,op_idx (j := (i : Int)) (n := n) (q := ⟨b1,o1,none⟩) rfl (congrArg (fun u => vS u n) hpe) rfl rfl rfl (Int.natCast_nonneg _) h1,?_⟩
  refine ⟨_,rfl,?_⟩
  refine ⟨_,op_ldc (i := 0) rfl rfl rfl rfl hm1 hc1 rfl rfl,?_⟩
  refine ⟨_,rfl,?_⟩
  rintro (_|_) h18
  rotate_left
  ·exact absurd (rfl) (bne_iff_ne.1 h18)
  refine AW.cut lo0 st' [(0,vS p n),(1,vI (k + 3 * (i : Int))),(5,vI (i : Int)),(9,vB true),(18,vB false)] ⟨rfl,rfl,rfl,rfl,rfl,trivial⟩ fun ρ0 => ?_
  refine cxs ?_
  have e20 : IntKind.wrap .i64 (k + 3 * (i : Int) + 1) = k + 3 * (i : Int) + 1 := (wrap_i64 (by omega) (by omega)).trans (by omega)
  refine ⟨_,rfl,?_⟩
  refine AW.cut lo0 st' [(0,vS p n),(1,vI (k + 3 * (i : Int) + 1)),(5,vI (i : Int)),(9,vB true),(18,vB false)] ⟨rfl,congrArg (Value.int .i64) e20,rfl,rfl,rfl,trivial⟩ fun ρ0 => ?_
  refine ⟨_,op_idx (j := (i : Int)) (n := n) (q := ⟨b1,o1,none⟩) rfl (congrArg (fun u => vS u n) hpe) rfl rfl rfl (Int.natCast_nonneg _) h1,?_⟩
  refine ⟨_,rfl,?_⟩
  refine ⟨_,op_ldc (i := 1) rfl rfl rfl rfl hm1 hc1 rfl rfl,?_⟩
  refine ⟨_,rfl,?_⟩
  rintro (_|_) h27
  rotate_left
  ·exact absurd (rfl) (bne_iff_ne.1 h27)
  refine AW.cut lo0 st' [(0,vS p n),(1,vI (k + 3 * (i : Int) + 1)),(5,vI (i : Int)),(9,vB true),(18,vB false),(27,vB false)] ⟨rfl,rfl,rfl,rfl,rfl,rfl,trivial⟩ fun ρ0 => ?_
  refine cxs ?_
  have e29 : IntKind.wrap .i64 (k + 3 * (i : Int) + 1 + 1) = k + 3 * (i : Int) + 2 := (wrap_i64 (by omega) (by omega)).trans (by omega)
  refine ⟨_,rfl,?_⟩
  refine AW.cut lo0 st' [(0,vS p n),(1,vI (k + 3 * (i : Int) + 2)),(5,vI (i : Int)),(9,vB true),(18,vB false),(27,vB false)] ⟨rfl,congrArg (Value.int .i64) e29,rfl,rfl,rfl,rfl,trivial⟩ fun ρ0 => ?_
  refine ⟨_,op_idx (j := (i : Int)) (n := n) (q := ⟨b1,o1,none⟩) rfl (congrArg (fun u => vS u n) hpe) rfl rfl rfl (Int.natCast_nonneg _) h1,?_⟩
  refine ⟨_,rfl,?_⟩
  refine ⟨_,op_ldc (i := 2) rfl rfl rfl rfl hm1 hc1 rfl rfl,?_⟩
  refine ⟨_,rfl,?_⟩
  rintro (_|_) h36
  rotate_left
  ·exact absurd (rfl) (bne_iff_ne.1 h36)
  refine AW.cut lo0 st' [(0,vS p n),(1,vI (k + 3 * (i : Int) + 2)),(5,vI (i : Int)),(9,vB true),(18,vB false),(27,vB false),(36,vB false)] ⟨rfl,rfl,rfl,rfl,rfl,rfl,rfl,trivial⟩ fun ρ0 => ?_
  refine cxs ?_
  have e38 : IntKind.wrap .i64 (k + 3 * (i : Int) + 2 + 1) = k + 3 * ((i + 1 : Nat) : Int) := (wrap_i64 (by omega) (by omega)).trans (by omega)
  refine ⟨_,rfl,?_⟩
  refine AW.cut lo0 st' [(0,vS p n),(1,vI (k + 3 * ((i + 1 : Nat) : Int))),(5,vI (i : Int)),(9,vB true),(18,vB false),(27,vB false),(36,vB false)] ⟨rfl,congrArg (Value.int .i64) e38,rfl,rfl,rfl,rfl,rfl,trivial⟩ fun ρ0 => ?_
  have e11 : IntKind.wrap .i64 ((i : Int) + 1) = ((i + 1 : Nat) : Int) := (wrap_i64 (by omega) (by omega)).trans (by omega)
  refine ⟨_,rfl,?_⟩
  exact ⟨i + 1,n - (i + 1),by omega,⟨rfl,rfl,congrArg (Value.int .i64) e11,trivial⟩,rfl,rfl,h1',hP⟩
def mkSesR (g : SesV) (k : Int) : SesV := ⟨g.p,mkRow mkSes 4 g.l.length k⟩
theorem mkp_SesR (g : SesV) (k : Int) : (pcSes (mkSesR g k)).map (·.p) = (pcSes g).map (·.p) := rfl
theorem uc_markSessS (u : SesV) (k : Int) (st : St) (hO : OwnP st (pcSes u)) (hb : szOk u.l.length) (h0 : 0 ≤ k) (hk : k ≤ 274877906944) : C 112 [vS u.p u.l.length,vI k] st (fun v s => v = vI (k + ((4 * u.l.length : Nat) : Int)) ∧ OwnP s (pcSes (mkSesR u k)) ∧ PrL ((pcSes u).map (·.p)) st s) :=
 (ac_laws_markSessS u.p u.l k st (own_one (by decide) len_cSess hO) hb h0 (by omega)).mono fun v s ⟨h1,h2,h3⟩ => ⟨h1.trans (congrArg (Value.int .i64) (by omega)),OwnP.one (own_pc h2),h3.l (List.mem_singleton_self _)⟩
theorem uc_heldSessS (u : SesV) (k : Int) (st : St) (hR : Rows st 4 cSess (mkSesR u k).p (mkSesR u k).l) (hb : szOk u.l.length) (h0 : 0 ≤ k) (hk : k ≤ 274877906944) : C 116 [vS u.p u.l.length,vI k] st (fun v s => v = vI (k + ((4 * u.l.length : Nat) : Int)) ∧ Pres st s) :=
 (ac_laws_heldSessS u.p u.l.length k st hR hb h0 (by omega)).mono fun v s ⟨h1,h2⟩ => ⟨h1.trans (congrArg (Value.int .i64) (by omega)),h2⟩
def mkRisR (g : RisV) (k : Int) : RisV := ⟨g.p,mkRow mkRis 3 g.l.length k⟩
theorem mkp_RisR (g : RisV) (k : Int) : (pcRis (mkRisR g k)).map (·.p) = (pcRis g).map (·.p) := rfl
theorem uc_markRiseS (u : RisV) (k : Int) (st : St) (hO : OwnP st (pcRis u)) (hb : szOk u.l.length) (h0 : 0 ≤ k) (hk : k ≤ 274877906944) : C 113 [vS u.p u.l.length,vI k] st (fun v s => v = vI (k + ((3 * u.l.length : Nat) : Int)) ∧ OwnP s (pcRis (mkRisR u k)) ∧ PrL ((pcRis u).map (·.p)) st s) :=
 (ac_laws_markRiseS u.p u.l k st (own_one (by decide) len_cRise hO) hb h0 (by omega)).mono fun v s ⟨h1,h2,h3⟩ => ⟨h1.trans (congrArg (Value.int .i64) (by omega)),OwnP.one (own_pc h2),h3.l (List.mem_singleton_self _)⟩
theorem uc_heldRiseS (u : RisV) (k : Int) (st : St) (hR : Rows st 3 cRise (mkRisR u k).p (mkRisR u k).l) (hb : szOk u.l.length) (h0 : 0 ≤ k) (hk : k ≤ 274877906944) : C 117 [vS u.p u.l.length,vI k] st (fun v s => v = vI (k + ((3 * u.l.length : Nat) : Int)) ∧ Pres st s) :=
 (ac_laws_heldRiseS u.p u.l.length k st hR hb h0 (by omega)).mono fun v s ⟨h1,h2⟩ => ⟨h1.trans (congrArg (Value.int .i64) (by omega)),h2⟩
theorem OwnP.rot {st : St} {a b : List Pc} (h : OwnP st (a ++ b)) : OwnP st (b ++ a) := h.perm List.perm_append_comm
def mkNode (u : NW) (k : Int) : NW := { u with s := mkState u.s k,t := mkTV u.t (k + (cntState u.s.x : Int)),g := mkLog u.g (k + (cntState u.s.x : Int) + (cntTV u.t.x : Int)),got := mkIs u.got (k + (cntState u.s.x : Int) + (cntTV u.t.x : Int) + (cntLog u.g.v.x : Int)),acked := mkIs u.acked (k + (cntState u.s.x : Int) + (cntTV u.t.x : Int) + (cntLog u.g.v.x : Int) + (cntIs u.got.l : Int)),seen := mkTT u.seen (k + (cntState u.s.x : Int) + (cntTV u.t.x : Int) + (cntLog u.g.v.x : Int) + (cntIs u.got.l : Int) + (cntIs u.acked.l : Int)),sess := mkSesR u.sess (k + (cntState u.s.x : Int) + (cntTV u.t.x : Int) + (cntLog u.g.v.x : Int) + (cntIs u.got.l : Int) + (cntIs u.acked.l : Int) + (cntTab u.seen.x : Int)),rises := mkRisR u.rises (k + (cntState u.s.x : Int) + (cntTV u.t.x : Int) + (cntLog u.g.v.x : Int) + (cntIs u.got.l : Int) + (cntIs u.acked.l : Int) + (cntTab u.seen.x : Int) + ((4 * u.sess.l.length : Nat) : Int)) }
theorem mkp_Node (u : NW) (k : Int) : (pcNW (mkNode u k)).map (·.p) = (pcNW u).map (·.p) :=
 map_app2 (mkp_State _ _) (map_app2 (mkp_TV _ _) (map_app2 (mkp_Log _ _) (map_app2 (mkp_Is _ _) (map_app2 (mkp_Is _ _) (map_app2 (mkp_TT _ _) (map_app2 (mkp_SesR _ _) (mkp_RisR _ _)))))))
theorem uc_markNode (u : NW) (k : Int) (st : St) (hO : OwnP st (pcNW u)) (hb : bigN u.x) (h0 : 0 ≤ k) (hk : k + (cntNode u.x : Int) ≤ 137438953472) : C 33 [.agg #[vI u.id,vI u.n,vS u.s.p u.s.x.items.length,vS u.s.q u.s.x.floors.length,vS u.t.p u.t.l.length,vI u.t.root,vI u.g.cap,vI u.g.frm,vS u.g.p u.g.l.length,vS u.got.p u.got.l.length,vS u.acked.p u.acked.l.length,vS u.seen.p u.seen.t.length,vI u.num,vI u.slots,vS u.sess.p u.sess.l.length,vI u.wait,vI u.limit,vI u.clock,vS u.rises.p u.rises.l.length],vI k] st (fun v s => v = vI (k + (cntNode u.x : Int)) ∧ OwnP s (pcNW (mkNode u k)) ∧ PrL ((pcNW u).map (·.p)) st s) := by
 have hc : cntNode u.x = cntState u.s.x + cntTV u.t.x + cntLog u.g.v.x + cntIs u.got.l + cntIs u.acked.l + cntTab u.seen.x + 4 * u.sess.l.length + 3 * u.rises.l.length := rfl
 refine AC.enterX (i := ⟨[2],[2,5,9,13,17,21,25,29,33],[0,1,2,4],[]⟩) [] Try.func33 rfl rfl (by kernel_rfl) (by kernel_rfl) Try.ntmps33 (Nat.le_of_ble_eq_true rfl) rfl ?_
 refine ⟨_,rfl,?_⟩
 refine AW.cutM (1) st [(1,vI k),(2,vL 2 0 (0)),(4,vI (0))] [(2,0,cNV u.v)] ⟨rfl,rfl,rfl,trivial⟩ ⟨rfl,trivial⟩ rfl fun ρ0 ff => ?_
 refine ⟨_,rfl,?_⟩
 refine ⟨_,op_ldo rfl rfl rfl rfl,?_⟩
 refine ⟨_,rfl,(uc_markState u.s k st (OwnP.left hO) hb.s (by omega) (by omega)).mono ?_⟩
 rintro _ s8 ⟨rfl,hO8,hL8⟩
 refine AW.cutM (1) s8 [(1,vI (k + (cntState u.s.x : Int))),(2,vL 2 0 (0)),(4,vI (0))] [(2,0,cNV u.v)] ⟨rfl,rfl,rfl,trivial⟩ ⟨rfl,trivial⟩ rfl fun ρ0 ff => ?_
 have hA8 : OwnP s8 (pcTV u.t ++ (pcLog u.g ++ (pcIs u.got ++ (pcIs u.acked ++ (pcTT u.seen ++ (pcSes u.sess ++ (pcRis u.rises ++ (pcS (mkState u.s k))))))))) := by
  have := (OwnP.markG hO hO8 (mkp_State _ _) hL8).rot
  simpa only [List.append_assoc] using this
 refine ⟨_,rfl,?_⟩
 refine ⟨_,op_ldo rfl rfl rfl rfl,?_⟩
 refine ⟨_,rfl,(uc_markTree u.t (k + (cntState u.s.x : Int)) s8 (OwnP.left hA8) hb.t (by omega) (by omega)).mono ?_⟩
 rintro _ s12 ⟨rfl,hO12,hL12⟩
 refine AW.cutM (1) s12 [(1,vI (k + (cntState u.s.x : Int) + (cntTV u.t.x : Int))),(2,vL 2 0 (0)),(4,vI (0))] [(2,0,cNV u.v)] ⟨rfl,rfl,rfl,trivial⟩ ⟨rfl,trivial⟩ rfl fun ρ0 ff => ?_
 have hA12 : OwnP s12 (pcLog u.g ++ (pcIs u.got ++ (pcIs u.acked ++ (pcTT u.seen ++ (pcSes u.sess ++ (pcRis u.rises ++ (pcS (mkState u.s k) ++ (pcTV (mkTV u.t (k + (cntState u.s.x : Int))))))))))) := by
  have := (OwnP.markG hA8 hO12 (mkp_TV _ _) hL12).rot
  simpa only [List.append_assoc] using this
 refine ⟨_,rfl,?_⟩
 refine ⟨_,op_ldo rfl rfl rfl rfl,?_⟩
 refine ⟨_,rfl,(uc_markLog u.g (k + (cntState u.s.x : Int) + (cntTV u.t.x : Int)) s12 (OwnP.left hA12) hb.g (by omega) (by omega)).mono ?_⟩
 rintro _ s16 ⟨rfl,hO16,hL16⟩
 refine AW.cutM (1) s16 [(1,vI (k + (cntState u.s.x : Int) + (cntTV u.t.x : Int) + (cntLog u.g.v.x : Int))),(2,vL 2 0 (0)),(4,vI (0))] [(2,0,cNV u.v)] ⟨rfl,rfl,rfl,trivial⟩ ⟨rfl,trivial⟩ rfl fun ρ0 ff => ?_
 have hA16 : OwnP s16 (pcIs u.got ++ (pcIs u.acked ++ (pcTT u.seen ++ (pcSes u.sess ++ (pcRis u.rises ++ (pcS (mkState u.s k) ++ (pcTV (mkTV u.t (k + (cntState u.s.x : Int))) ++ (pcLog (mkLog u.g (k + (cntState u.s.x : Int) + (cntTV u.t.x : Int))))))))))) := by
  have := (OwnP.markG hA12 hO16 (mkp_Log _ _) hL16).rot
  simpa only [List.append_assoc] using this
 refine ⟨_,rfl,?_⟩
 refine ⟨_,op_ldo rfl rfl rfl rfl,?_⟩
 refine ⟨_,rfl,(uc_markIntS u.got (k + (cntState u.s.x : Int) + (cntTV u.t.x : Int) + (cntLog u.g.v.x : Int)) s16 (OwnP.left hA16) hb.got (by omega) (by omega)).mono ?_⟩
 rintro _ s20 ⟨rfl,hO20,hL20⟩
 refine AW.cutM (1) s20 [(1,vI (k + (cntState u.s.x : Int) + (cntTV u.t.x : Int) + (cntLog u.g.v.x : Int) + (cntIs u.got.l : Int))),(2,vL 2 0 (0)),(4,vI (0))] [(2,0,cNV u.v)] ⟨rfl,rfl,rfl,trivial⟩ ⟨rfl,trivial⟩ rfl fun ρ0 ff => ?_
 have hA20 : OwnP s20 (pcIs u.acked ++ (pcTT u.seen ++ (pcSes u.sess ++ (pcRis u.rises ++ (pcS (mkState u.s k) ++ (pcTV (mkTV u.t (k + (cntState u.s.x : Int))) ++ (pcLog (mkLog u.g (k + (cntState u.s.x : Int) + (cntTV u.t.x : Int))) ++ (pcIs (mkIs u.got (k + (cntState u.s.x : Int) + (cntTV u.t.x : Int) + (cntLog u.g.v.x : Int))))))))))) := by
  have := (OwnP.markG hA16 hO20 (mkp_Is _ _) hL20).rot
  simpa only [List.append_assoc] using this
 refine ⟨_,rfl,?_⟩
 refine ⟨_,op_ldo rfl rfl rfl rfl,?_⟩
 refine ⟨_,rfl,(uc_markIntS u.acked (k + (cntState u.s.x : Int) + (cntTV u.t.x : Int) + (cntLog u.g.v.x : Int) + (cntIs u.got.l : Int)) s20 (OwnP.left hA20) hb.acked (by omega) (by omega)).mono ?_⟩
 rintro _ s24 ⟨rfl,hO24,hL24⟩
 refine AW.cutM (1) s24 [(1,vI (k + (cntState u.s.x : Int) + (cntTV u.t.x : Int) + (cntLog u.g.v.x : Int) + (cntIs u.got.l : Int) + (cntIs u.acked.l : Int))),(2,vL 2 0 (0)),(4,vI (0))] [(2,0,cNV u.v)] ⟨rfl,rfl,rfl,trivial⟩ ⟨rfl,trivial⟩ rfl fun ρ0 ff => ?_
 have hA24 : OwnP s24 (pcTT u.seen ++ (pcSes u.sess ++ (pcRis u.rises ++ (pcS (mkState u.s k) ++ (pcTV (mkTV u.t (k + (cntState u.s.x : Int))) ++ (pcLog (mkLog u.g (k + (cntState u.s.x : Int) + (cntTV u.t.x : Int))) ++ (pcIs (mkIs u.got (k + (cntState u.s.x : Int) + (cntTV u.t.x : Int) + (cntLog u.g.v.x : Int))) ++ (pcIs (mkIs u.acked (k + (cntState u.s.x : Int) + (cntTV u.t.x : Int) + (cntLog u.g.v.x : Int) + (cntIs u.got.l : Int))))))))))) := by
  have := (OwnP.markG hA20 hO24 (mkp_Is _ _) hL24).rot
  simpa only [List.append_assoc] using this
 refine ⟨_,rfl,?_⟩
 refine ⟨_,op_ldo rfl rfl rfl rfl,?_⟩
 refine ⟨_,rfl,(uc_markIntSS u.seen (k + (cntState u.s.x : Int) + (cntTV u.t.x : Int) + (cntLog u.g.v.x : Int) + (cntIs u.got.l : Int) + (cntIs u.acked.l : Int)) s24 (OwnP.left hA24) hb.seen (by omega) (by omega)).mono ?_⟩
 rintro _ s28 ⟨rfl,hO28,hL28⟩
 refine AW.cutM (1) s28 [(1,vI (k + (cntState u.s.x : Int) + (cntTV u.t.x : Int) + (cntLog u.g.v.x : Int) + (cntIs u.got.l : Int) + (cntIs u.acked.l : Int) + (cntTab u.seen.x : Int))),(2,vL 2 0 (0)),(4,vI (0))] [(2,0,cNV u.v)] ⟨rfl,rfl,rfl,trivial⟩ ⟨rfl,trivial⟩ rfl fun ρ0 ff => ?_
 have hA28 : OwnP s28 (pcSes u.sess ++ (pcRis u.rises ++ (pcS (mkState u.s k) ++ (pcTV (mkTV u.t (k + (cntState u.s.x : Int))) ++ (pcLog (mkLog u.g (k + (cntState u.s.x : Int) + (cntTV u.t.x : Int))) ++ (pcIs (mkIs u.got (k + (cntState u.s.x : Int) + (cntTV u.t.x : Int) + (cntLog u.g.v.x : Int))) ++ (pcIs (mkIs u.acked (k + (cntState u.s.x : Int) + (cntTV u.t.x : Int) + (cntLog u.g.v.x : Int) + (cntIs u.got.l : Int))) ++ (pcTT (mkTT u.seen (k + (cntState u.s.x : Int) + (cntTV u.t.x : Int) + (cntLog u.g.v.x : Int) + (cntIs u.got.l : Int) + (cntIs u.acked.l : Int))))))))))) := by
  have := (OwnP.markG hA24 hO28 (mkp_TT _ _) hL28).rot
  simpa only [List.append_assoc] using this
 refine ⟨_,rfl,?_⟩
 refine ⟨_,op_ldo rfl rfl rfl rfl,?_⟩
 refine ⟨_,rfl,(uc_markSessS u.sess (k + (cntState u.s.x : Int) + (cntTV u.t.x : Int) + (cntLog u.g.v.x : Int) + (cntIs u.got.l : Int) + (cntIs u.acked.l : Int) + (cntTab u.seen.x : Int)) s28 (OwnP.left hA28) hb.sess (by omega) (by omega)).mono ?_⟩
 rintro _ s32 ⟨rfl,hO32,hL32⟩
 refine AW.cutM (1) s32 [(1,vI (k + (cntState u.s.x : Int) + (cntTV u.t.x : Int) + (cntLog u.g.v.x : Int) + (cntIs u.got.l : Int) + (cntIs u.acked.l : Int) + (cntTab u.seen.x : Int) + ((4 * u.sess.l.length : Nat) : Int))),(2,vL 2 0 (0)),(4,vI (0))] [(2,0,cNV u.v)] ⟨rfl,rfl,rfl,trivial⟩ ⟨rfl,trivial⟩ rfl fun ρ0 ff => ?_
 have hA32 : OwnP s32 (pcRis u.rises ++ (pcS (mkState u.s k) ++ (pcTV (mkTV u.t (k + (cntState u.s.x : Int))) ++ (pcLog (mkLog u.g (k + (cntState u.s.x : Int) + (cntTV u.t.x : Int))) ++ (pcIs (mkIs u.got (k + (cntState u.s.x : Int) + (cntTV u.t.x : Int) + (cntLog u.g.v.x : Int))) ++ (pcIs (mkIs u.acked (k + (cntState u.s.x : Int) + (cntTV u.t.x : Int) + (cntLog u.g.v.x : Int) + (cntIs u.got.l : Int))) ++ (pcTT (mkTT u.seen (k + (cntState u.s.x : Int) + (cntTV u.t.x : Int) + (cntLog u.g.v.x : Int) + (cntIs u.got.l : Int) + (cntIs u.acked.l : Int))) ++ (pcSes (mkSesR u.sess (k + (cntState u.s.x : Int) + (cntTV u.t.x : Int) + (cntLog u.g.v.x : Int) + (cntIs u.got.l : Int) + (cntIs u.acked.l : Int) + (cntTab u.seen.x : Int))))))))))) := by
  have := (OwnP.markG hA28 hO32 (mkp_SesR _ _) hL32).rot
  simpa only [List.append_assoc] using this
 refine ⟨_,rfl,?_⟩
 refine ⟨_,op_ldo rfl rfl rfl rfl,?_⟩
 refine ⟨_,rfl,(uc_markRiseS u.rises (k + (cntState u.s.x : Int) + (cntTV u.t.x : Int) + (cntLog u.g.v.x : Int) + (cntIs u.got.l : Int) + (cntIs u.acked.l : Int) + (cntTab u.seen.x : Int) + ((4 * u.sess.l.length : Nat) : Int)) s32 (OwnP.left hA32) hb.rises (by omega) (by omega)).mono ?_⟩
 rintro _ s36 ⟨rfl,hO36,hL36⟩
 refine cxs ?_
 have hA36 : OwnP s36 (pcS (mkState u.s k) ++ (pcTV (mkTV u.t (k + (cntState u.s.x : Int))) ++ (pcLog (mkLog u.g (k + (cntState u.s.x : Int) + (cntTV u.t.x : Int))) ++ (pcIs (mkIs u.got (k + (cntState u.s.x : Int) + (cntTV u.t.x : Int) + (cntLog u.g.v.x : Int))) ++ (pcIs (mkIs u.acked (k + (cntState u.s.x : Int) + (cntTV u.t.x : Int) + (cntLog u.g.v.x : Int) + (cntIs u.got.l : Int))) ++ (pcTT (mkTT u.seen (k + (cntState u.s.x : Int) + (cntTV u.t.x : Int) + (cntLog u.g.v.x : Int) + (cntIs u.got.l : Int) + (cntIs u.acked.l : Int))) ++ (pcSes (mkSesR u.sess (k + (cntState u.s.x : Int) + (cntTV u.t.x : Int) + (cntLog u.g.v.x : Int) + (cntIs u.got.l : Int) + (cntIs u.acked.l : Int) + (cntTab u.seen.x : Int))) ++ (pcRis (mkRisR u.rises (k + (cntState u.s.x : Int) + (cntTV u.t.x : Int) + (cntLog u.g.v.x : Int) + (cntIs u.got.l : Int) + (cntIs u.acked.l : Int) + (cntTab u.seen.x : Int) + ((4 * u.sess.l.length : Nat) : Int))))))))))) := by
  have := (OwnP.markG hA32 hO36 (mkp_RisR _ _) hL36).rot
  simpa only [List.append_assoc] using this
 refine cxs ?_
 exact ⟨.inl rfl,_,rfl,congrArg vI (by rw [hc]; omega),hA36,((((((((PrL.inl hL8).trans (PrL.inr (PrL.inl hL12))).trans (PrL.inr (PrL.inr (PrL.inl hL16)))).trans (PrL.inr (PrL.inr (PrL.inr (PrL.inl hL20))))).trans (PrL.inr (PrL.inr (PrL.inr (PrL.inr (PrL.inl hL24)))))).trans (PrL.inr (PrL.inr (PrL.inr (PrL.inr (PrL.inr (PrL.inl hL28))))))).trans (PrL.inr (PrL.inr (PrL.inr (PrL.inr (PrL.inr (PrL.inr (PrL.inl hL32)))))))).trans (PrL.inr (PrL.inr (PrL.inr (PrL.inr (PrL.inr (PrL.inr (PrL.inr (hL36)))))))))⟩
theorem uc_heldNode (u : NW) (k : Int) (st : St) (hO : OwnP st (pcNW (mkNode u k))) (hb : bigN u.x) (h0 : 0 ≤ k) (hk : k + (cntNode u.x : Int) ≤ 137438953472) : C 34 [.agg #[vI u.id,vI u.n,vS u.s.p u.s.x.items.length,vS u.s.q u.s.x.floors.length,vS u.t.p u.t.l.length,vI u.t.root,vI u.g.cap,vI u.g.frm,vS u.g.p u.g.l.length,vS u.got.p u.got.l.length,vS u.acked.p u.acked.l.length,vS u.seen.p u.seen.t.length,vI u.num,vI u.slots,vS u.sess.p u.sess.l.length,vI u.wait,vI u.limit,vI u.clock,vS u.rises.p u.rises.l.length],vI k] st (fun v s => v = vI (k + (cntNode u.x : Int)) ∧ Pres st s) := by
 have hc : cntNode u.x = cntState u.s.x + cntTV u.t.x + cntLog u.g.v.x + cntIs u.got.l + cntIs u.acked.l + cntTab u.seen.x + 4 * u.sess.l.length + 3 * u.rises.l.length := rfl
 refine AC.enterX (i := ⟨[2],[2,5,11,17,23,29,35,41,47],[0,1,2,4,10,16,22,28,34,40,46,52],[]⟩) [] Try.func34 rfl rfl (by kernel_rfl) (by kernel_rfl) Try.ntmps34 (Nat.le_of_ble_eq_true rfl) rfl ?_
 refine ⟨_,rfl,?_⟩
 refine AW.cutM (1) st [(1,vI k),(2,vL 2 0 (0)),(4,vI (0))] [(2,0,cNV u.v)] ⟨rfl,rfl,rfl,trivial⟩ ⟨rfl,trivial⟩ rfl fun ρ0 ff => ?_
 refine ⟨_,rfl,?_⟩
 refine ⟨_,op_ldo rfl rfl rfl rfl,?_⟩
 refine ⟨_,rfl,(uc_heldState u.s k st (OwnP.rdS (OwnP.left hO)) hb.s (by omega) (by omega)).mono ?_⟩
 rintro _ s8 ⟨rfl,hP8⟩
 refine AW.cutM (1) s8 [(1,vI (k + (cntState u.s.x : Int))),(2,vL 2 0 (0)),(4,vI (0))] [(2,0,cNV u.v)] ⟨rfl,rfl,rfl,trivial⟩ ⟨rfl,trivial⟩ rfl fun ρ0 ff => ?_
 refine ⟨_,rfl,?_⟩
 rintro (_|_) h10
 rotate_left
 ·exact absurd (of_decide_eq_true h10) ((by omega))
 refine AW.cutM (1) s8 [(1,vI (k + (cntState u.s.x : Int))),(2,vL 2 0 (0)),(4,vI (0)),(10,vB false)] [(2,0,cNV u.v)] ⟨rfl,rfl,rfl,rfl,trivial⟩ ⟨rfl,trivial⟩ rfl fun ρ0 ff => ?_
 refine cxs ?_
 refine ⟨_,rfl,?_⟩
 refine ⟨_,op_ldo rfl rfl rfl rfl,?_⟩
 refine ⟨_,rfl,(uc_heldTree u.t (k + (cntState u.s.x : Int)) s8 (OwnP.rdTV (OwnP.left (OwnP.right (hO.pres hP8)))) hb.t (by omega) (by omega)).mono ?_⟩
 rintro _ s14 ⟨rfl,hP14⟩
 refine AW.cutM (1) s14 [(1,vI (k + (cntState u.s.x : Int) + (cntTV u.t.x : Int))),(2,vL 2 0 (0)),(4,vI (0))] [(2,0,cNV u.v)] ⟨rfl,rfl,rfl,trivial⟩ ⟨rfl,trivial⟩ rfl fun ρ0 ff => ?_
 have hQ14 : Pres st s14 := hP8.trans hP14
 refine ⟨_,rfl,?_⟩
 rintro (_|_) h16
 rotate_left
 ·exact absurd (of_decide_eq_true h16) ((by omega))
 refine AW.cutM (1) s14 [(1,vI (k + (cntState u.s.x : Int) + (cntTV u.t.x : Int))),(2,vL 2 0 (0)),(4,vI (0)),(16,vB false)] [(2,0,cNV u.v)] ⟨rfl,rfl,rfl,rfl,trivial⟩ ⟨rfl,trivial⟩ rfl fun ρ0 ff => ?_
 refine cxs ?_
 refine ⟨_,rfl,?_⟩
 refine ⟨_,op_ldo rfl rfl rfl rfl,?_⟩
 refine ⟨_,rfl,(uc_heldLog u.g (k + (cntState u.s.x : Int) + (cntTV u.t.x : Int)) s14 (OwnP.rdLog (OwnP.left (OwnP.right (OwnP.right (hO.pres hQ14))))) (LW.rows ((OwnP.left (OwnP.right (OwnP.right (hO.pres hQ14)))).1 _ (List.mem_cons_self ..))) hb.g (by omega) (by omega)).mono ?_⟩
 rintro _ s20 ⟨rfl,hP20⟩
 refine AW.cutM (1) s20 [(1,vI (k + (cntState u.s.x : Int) + (cntTV u.t.x : Int) + (cntLog u.g.v.x : Int))),(2,vL 2 0 (0)),(4,vI (0))] [(2,0,cNV u.v)] ⟨rfl,rfl,rfl,trivial⟩ ⟨rfl,trivial⟩ rfl fun ρ0 ff => ?_
 have hQ20 : Pres st s20 := hQ14.trans hP20
 refine ⟨_,rfl,?_⟩
 rintro (_|_) h22
 rotate_left
 ·exact absurd (of_decide_eq_true h22) ((by omega))
 refine AW.cutM (1) s20 [(1,vI (k + (cntState u.s.x : Int) + (cntTV u.t.x : Int) + (cntLog u.g.v.x : Int))),(2,vL 2 0 (0)),(4,vI (0)),(22,vB false)] [(2,0,cNV u.v)] ⟨rfl,rfl,rfl,rfl,trivial⟩ ⟨rfl,trivial⟩ rfl fun ρ0 ff => ?_
 refine cxs ?_
 refine ⟨_,rfl,?_⟩
 refine ⟨_,op_ldo rfl rfl rfl rfl,?_⟩
 refine ⟨_,rfl,(uc_heldIntS u.got (k + (cntState u.s.x : Int) + (cntTV u.t.x : Int) + (cntLog u.g.v.x : Int)) s20 (OwnP.rdIs (OwnP.left (OwnP.right (OwnP.right (OwnP.right (hO.pres hQ20)))))) hb.got (by omega) (by omega)).mono ?_⟩
 rintro _ s26 ⟨rfl,hP26⟩
 refine AW.cutM (1) s26 [(1,vI (k + (cntState u.s.x : Int) + (cntTV u.t.x : Int) + (cntLog u.g.v.x : Int) + (cntIs u.got.l : Int))),(2,vL 2 0 (0)),(4,vI (0))] [(2,0,cNV u.v)] ⟨rfl,rfl,rfl,trivial⟩ ⟨rfl,trivial⟩ rfl fun ρ0 ff => ?_
 have hQ26 : Pres st s26 := hQ20.trans hP26
 refine ⟨_,rfl,?_⟩
 rintro (_|_) h28
 rotate_left
 ·exact absurd (of_decide_eq_true h28) ((by omega))
 refine AW.cutM (1) s26 [(1,vI (k + (cntState u.s.x : Int) + (cntTV u.t.x : Int) + (cntLog u.g.v.x : Int) + (cntIs u.got.l : Int))),(2,vL 2 0 (0)),(4,vI (0)),(28,vB false)] [(2,0,cNV u.v)] ⟨rfl,rfl,rfl,rfl,trivial⟩ ⟨rfl,trivial⟩ rfl fun ρ0 ff => ?_
 refine cxs ?_
 refine ⟨_,rfl,?_⟩
 refine ⟨_,op_ldo rfl rfl rfl rfl,?_⟩
 refine ⟨_,rfl,(uc_heldIntS u.acked (k + (cntState u.s.x : Int) + (cntTV u.t.x : Int) + (cntLog u.g.v.x : Int) + (cntIs u.got.l : Int)) s26 (OwnP.rdIs (OwnP.left (OwnP.right (OwnP.right (OwnP.right (OwnP.right (hO.pres hQ26))))))) hb.acked (by omega) (by omega)).mono ?_⟩
 rintro _ s32 ⟨rfl,hP32⟩
 refine AW.cutM (1) s32 [(1,vI (k + (cntState u.s.x : Int) + (cntTV u.t.x : Int) + (cntLog u.g.v.x : Int) + (cntIs u.got.l : Int) + (cntIs u.acked.l : Int))),(2,vL 2 0 (0)),(4,vI (0))] [(2,0,cNV u.v)] ⟨rfl,rfl,rfl,trivial⟩ ⟨rfl,trivial⟩ rfl fun ρ0 ff => ?_
 have hQ32 : Pres st s32 := hQ26.trans hP32
 refine ⟨_,rfl,?_⟩
 rintro (_|_) h34
 rotate_left
 ·exact absurd (of_decide_eq_true h34) ((by omega))
 refine AW.cutM (1) s32 [(1,vI (k + (cntState u.s.x : Int) + (cntTV u.t.x : Int) + (cntLog u.g.v.x : Int) + (cntIs u.got.l : Int) + (cntIs u.acked.l : Int))),(2,vL 2 0 (0)),(4,vI (0)),(34,vB false)] [(2,0,cNV u.v)] ⟨rfl,rfl,rfl,rfl,trivial⟩ ⟨rfl,trivial⟩ rfl fun ρ0 ff => ?_
 refine cxs ?_
 refine ⟨_,rfl,?_⟩
 refine ⟨_,op_ldo rfl rfl rfl rfl,?_⟩
 refine ⟨_,rfl,(uc_heldIntSS u.seen (k + (cntState u.s.x : Int) + (cntTV u.t.x : Int) + (cntLog u.g.v.x : Int) + (cntIs u.got.l : Int) + (cntIs u.acked.l : Int)) s32 (OwnP.rdT (OwnP.left (OwnP.right (OwnP.right (OwnP.right (OwnP.right (OwnP.right (hO.pres hQ32)))))))) hb.seen (by omega) (by omega)).mono ?_⟩
 rintro _ s38 ⟨rfl,hP38⟩
 refine AW.cutM (1) s38 [(1,vI (k + (cntState u.s.x : Int) + (cntTV u.t.x : Int) + (cntLog u.g.v.x : Int) + (cntIs u.got.l : Int) + (cntIs u.acked.l : Int) + (cntTab u.seen.x : Int))),(2,vL 2 0 (0)),(4,vI (0))] [(2,0,cNV u.v)] ⟨rfl,rfl,rfl,trivial⟩ ⟨rfl,trivial⟩ rfl fun ρ0 ff => ?_
 have hQ38 : Pres st s38 := hQ32.trans hP38
 refine ⟨_,rfl,?_⟩
 rintro (_|_) h40
 rotate_left
 ·exact absurd (of_decide_eq_true h40) ((by omega))
 refine AW.cutM (1) s38 [(1,vI (k + (cntState u.s.x : Int) + (cntTV u.t.x : Int) + (cntLog u.g.v.x : Int) + (cntIs u.got.l : Int) + (cntIs u.acked.l : Int) + (cntTab u.seen.x : Int))),(2,vL 2 0 (0)),(4,vI (0)),(40,vB false)] [(2,0,cNV u.v)] ⟨rfl,rfl,rfl,rfl,trivial⟩ ⟨rfl,trivial⟩ rfl fun ρ0 ff => ?_
 refine cxs ?_
 refine ⟨_,rfl,?_⟩
 refine ⟨_,op_ldo rfl rfl rfl rfl,?_⟩
 refine ⟨_,rfl,(uc_heldSessS u.sess (k + (cntState u.s.x : Int) + (cntTV u.t.x : Int) + (cntLog u.g.v.x : Int) + (cntIs u.got.l : Int) + (cntIs u.acked.l : Int) + (cntTab u.seen.x : Int)) s38 (OwnP.rdSes (OwnP.left (OwnP.right (OwnP.right (OwnP.right (OwnP.right (OwnP.right (OwnP.right (hO.pres hQ38))))))))) hb.sess (by omega) (by omega)).mono ?_⟩
 rintro _ s44 ⟨rfl,hP44⟩
 refine AW.cutM (1) s44 [(1,vI (k + (cntState u.s.x : Int) + (cntTV u.t.x : Int) + (cntLog u.g.v.x : Int) + (cntIs u.got.l : Int) + (cntIs u.acked.l : Int) + (cntTab u.seen.x : Int) + ((4 * u.sess.l.length : Nat) : Int))),(2,vL 2 0 (0)),(4,vI (0))] [(2,0,cNV u.v)] ⟨rfl,rfl,rfl,trivial⟩ ⟨rfl,trivial⟩ rfl fun ρ0 ff => ?_
 have hQ44 : Pres st s44 := hQ38.trans hP44
 refine ⟨_,rfl,?_⟩
 rintro (_|_) h46
 rotate_left
 ·exact absurd (of_decide_eq_true h46) ((by omega))
 refine AW.cutM (1) s44 [(1,vI (k + (cntState u.s.x : Int) + (cntTV u.t.x : Int) + (cntLog u.g.v.x : Int) + (cntIs u.got.l : Int) + (cntIs u.acked.l : Int) + (cntTab u.seen.x : Int) + ((4 * u.sess.l.length : Nat) : Int))),(2,vL 2 0 (0)),(4,vI (0)),(46,vB false)] [(2,0,cNV u.v)] ⟨rfl,rfl,rfl,rfl,trivial⟩ ⟨rfl,trivial⟩ rfl fun ρ0 ff => ?_
 refine cxs ?_
 refine ⟨_,rfl,?_⟩
 refine ⟨_,op_ldo rfl rfl rfl rfl,?_⟩
 refine ⟨_,rfl,(uc_heldRiseS u.rises (k + (cntState u.s.x : Int) + (cntTV u.t.x : Int) + (cntLog u.g.v.x : Int) + (cntIs u.got.l : Int) + (cntIs u.acked.l : Int) + (cntTab u.seen.x : Int) + ((4 * u.sess.l.length : Nat) : Int)) s44 (OwnP.rdRis (OwnP.right (OwnP.right (OwnP.right (OwnP.right (OwnP.right (OwnP.right (OwnP.right (hO.pres hQ44))))))))) hb.rises (by omega) (by omega)).mono ?_⟩
 rintro _ s50 ⟨rfl,hP50⟩
 refine AW.cutM (1) s50 [(1,vI (k + (cntState u.s.x : Int) + (cntTV u.t.x : Int) + (cntLog u.g.v.x : Int) + (cntIs u.got.l : Int) + (cntIs u.acked.l : Int) + (cntTab u.seen.x : Int) + ((4 * u.sess.l.length : Nat) : Int) + ((3 * u.rises.l.length : Nat) : Int))),(4,vI (0))] [] ⟨rfl,rfl,trivial⟩ trivial rfl fun ρ0 ff => ?_
 have hQ50 : Pres st s50 := hQ44.trans hP50
 refine ⟨_,rfl,?_⟩
 rintro (_|_) h52
 rotate_left
 ·exact absurd (of_decide_eq_true h52) ((by omega))
 refine AW.cutM (1) s50 [(1,vI (k + (cntState u.s.x : Int) + (cntTV u.t.x : Int) + (cntLog u.g.v.x : Int) + (cntIs u.got.l : Int) + (cntIs u.acked.l : Int) + (cntTab u.seen.x : Int) + ((4 * u.sess.l.length : Nat) : Int) + ((3 * u.rises.l.length : Nat) : Int))),(4,vI (0)),(52,vB false)] [] ⟨rfl,rfl,rfl,trivial⟩ trivial rfl fun ρ0 ff => ?_
 refine cxs ?_
 refine cxs ?_
 exact ⟨.inl rfl,_,rfl,congrArg vI (by rw [hc]; omega),hQ50⟩
theorem new_big {id n cap slots wait limit : Int} {x : Nd} {b : Bool} (h : (x,b) = newF id n cap slots wait limit) : bigN x := by
 have h1 : x = (newF id n cap slots wait limit).1 := congrArg Prod.fst h
 rw [h1]
 unfold newF
 split
 ·rename_i hk; exact newN_big hk.1
 ·exact ⟨bigS_nil,Nat.zero_le _,⟨Nat.zero_le _,fun s hs => by cases hs⟩,Nat.zero_le _,Nat.zero_le _,⟨Nat.zero_le _,fun l hl => by cases hl⟩,Nat.zero_le _,Nat.zero_le _⟩
theorem new_cnt {id n cap slots wait limit : Int} {x : Nd} {b : Bool} (h : (x,b) = newF id n cap slots wait limit) : cntNode x ≤ 8388608 := by
 have h1 : x = (newF id n cap slots wait limit).1 := congrArg Prod.fst h
 rw [h1]
 unfold newF
 split
 ·rename_i hk
  have h1 := zI_len n
  have h2 := tnew_len n
  have h3 := tree_len nilS
  have h4 : cntTab (tnew n) ≤ 25 := by
   unfold tnew
   rw [if_pos hk.1]
   have h5 : n = 1 ∨ n = 2 ∨ n = 3 ∨ n = 4 ∨ n = 5 := by omega
   rcases h5 with rfl | rfl | rfl | rfl | rfl <;> decide
  show cntS nilS + (treeF nilS).leaves.length + cntLog ⟨cap,0,[]⟩ + (zI n).length + (zI n).length + cntTab (tnew n) + 4 * 0 + 3 * (List.replicate 5 zRis).length ≤ 8388608
  have h6 : cntS nilS = 0 := rfl
  have h7 : cntLog ⟨cap,0,[]⟩ = 0 := rfl
  have h8 : (List.replicate 5 zRis).length = 5 := rfl
  omega
 ·exact Nat.zero_le _
theorem ac_laws_FnExactNodeNew (a : Int) (b : Int) (c : Int) (d : Int) (e : Int) (f : Int) (st : St) (hw_a : (Lit.int .i64 a).wf = true) (hw_b : (Lit.int .i64 b).wf = true) (hw_c : (Lit.int .i64 c).wf = true) (hw_d : (Lit.int .i64 d).wf = true) (hw_e : (Lit.int .i64 e).wf = true) (hw_f : (Lit.int .i64 f).wf = true) : C 7 [vI a,vI b,vI c,vI d,vI e,vI f] st (fun v s => v = vB true) := by
 refine AC.enterX (i := ⟨[13,15,19],[13,15,19],[0,1,2,3,4,5,12,13,14,15,16,17,18,19,20,49,57,60,79,84,87],[]⟩) [] Try.func7 rfl rfl (by kernel_rfl) (by kernel_rfl) Try.ntmps7 (Nat.le_of_ble_eq_true rfl) rfl ?_
 refine AW.cutM (0) st [(0,vI a),(1,vI b),(2,vI c),(3,vI d),(4,vI e),(5,vI f),(12,vB false)] [] ⟨rfl,rfl,rfl,rfl,rfl,rfl,rfl,trivial⟩ trivial rfl fun ρ0 ff => ?_
 refine ⟨_,rfl,(ac_spec_NodeNew a b c d e f st).mono ?_⟩
 rintro _ s1 ⟨r1,b1,rfl,hr1,hO1,hN1,hP1⟩
 iterate 3 refine ⟨_,rfl,?_⟩
 refine ⟨_,op_stw (vs := cNV r1.v) rfl rfl rfl rfl rfl rfl rfl rfl,?_⟩
 refine AW.cutM (1) s1 [(0,vI a),(1,vI b),(2,vI c),(3,vI d),(4,vI e),(5,vI f),(12,vB false),(13,vL 13 0 (0)),(14,vB b1)] [(13,0,cNV r1.v)] ⟨rfl,rfl,rfl,rfl,rfl,rfl,rfl,rfl,rfl,trivial⟩ ⟨rfl,trivial⟩ rfl fun ρ0 ff => ?_
 have hA1 : OwnP s1 (pcNW r1 ++ []) := (OwnP.joinF OwnP.nil hP1 hO1 hN1)
 refine ⟨_,rfl,(ac_impl_NodeNew a b c d e f s1).mono ?_⟩
 rintro _ s2 ⟨r2,b2,rfl,hr2,hO2,hN2,hP2⟩
 iterate 3 refine ⟨_,rfl,?_⟩
 refine ⟨_,op_stw (vs := cNV r2.v) rfl rfl rfl rfl rfl rfl rfl rfl,?_⟩
 refine AW.cutM (2) s2 [(0,vI a),(1,vI b),(2,vI c),(3,vI d),(4,vI e),(5,vI f),(12,vB false),(13,vL 13 0 (0)),(14,vB b1),(15,vL 15 0 (1)),(16,vB b2)] [(13,0,cNV r1.v),(15,1,cNV r2.v)] ⟨rfl,rfl,rfl,rfl,rfl,rfl,rfl,rfl,rfl,rfl,rfl,trivial⟩ ⟨rfl,rfl,trivial⟩ rfl fun ρ0 ff => ?_
 have hA2 : OwnP s2 (pcNW r2 ++ (pcNW r1 ++ [])) := (OwnP.joinF hA1 hP2 hO2 hN2)
 have hQ2 : Pres st s2 := (hP1.trans hP2)
 have hE1 : (r2.x,b2) = (r1.x,b1) := by rw [hr2,hr1]
 refine ⟨_,op_ldo (v := (vNV r2.v)) rfl rfl rfl rfl,?_⟩
 refine ⟨_,op_ldo (v := (vNV r1.v)) rfl rfl rfl rfl,?_⟩
 refine ⟨_,rfl,(AC.tru (uc_eqNode r2 r1 s2 (OwnP.rdN (OwnP.left hA2)) (OwnP.rdN (OwnP.left (OwnP.right hA2))) (new_big hr2)) ((Prod.mk.inj hE1).1)).mono ?_⟩
 rintro _ s2 ⟨rfl,rfl⟩
 iterate 2 refine ⟨_,rfl,?_⟩
 rintro (_|_) he3
 rotate_left
 ·exact absurd (((Prod.mk.inj hE1).2)) (b_ne he3)
 refine ⟨_,rfl,?_⟩
 refine AW.cutM (2) s2 [(0,vI a),(1,vI b),(2,vI c),(3,vI d),(4,vI e),(5,vI f),(12,vB false),(13,vL 13 0 (0)),(14,vB b1),(15,vL 15 0 (1)),(49,vB false)] [(13,0,cNV r1.v),(15,1,cNV r2.v)] ⟨rfl,rfl,rfl,rfl,rfl,rfl,rfl,rfl,rfl,rfl,rfl,trivial⟩ ⟨rfl,rfl,trivial⟩ rfl fun ρ0 ff => ?_
 refine cxs ?_
 refine AW.cutM (2) s2 [(0,vI a),(1,vI b),(2,vI c),(3,vI d),(4,vI e),(5,vI f),(12,vB false),(13,vL 13 0 (0)),(14,vB b1),(15,vL 15 0 (1)),(17,vI (1))] [(13,0,cNV r1.v),(15,1,cNV r2.v)] ⟨rfl,rfl,rfl,rfl,rfl,rfl,rfl,rfl,rfl,rfl,rfl,trivial⟩ ⟨rfl,rfl,trivial⟩ rfl fun ρ0 ff => ?_
 refine ⟨_,op_ldo (v := (vNV r2.v)) rfl rfl rfl rfl,?_⟩
 have hM4 := hA2
 have hNw4 := newPs (hN2.le (hP1).1)
 have hcm4 : cntNode r2.x ≤ 8388608 := new_cnt hr2
 refine ⟨_,rfl,(uc_markNode r2 1 s2 (OwnP.left hM4) (new_big hr2) (by omega) (by omega)).mono ?_⟩
 rintro _ s4 ⟨rfl,hO4,hL4⟩
 refine cxs ?_
 have hA6 : OwnP s4 (pcNW (mkNode r2 1) ++ _) := OwnP.markG hM4 hO4 (mkp_Node _ _) hL4
 have hQ6 : Pres st s4 := hL4.pres hQ2 hNw4
 refine AW.cutM (2) s4 [(0,vI a),(1,vI b),(2,vI c),(3,vI d),(4,vI e),(5,vI f),(12,vB false),(13,vL 13 0 (0)),(14,vB b1),(15,vL 15 0 (1)),(17,vI (1 + (cntNode r2.x : Int))),(18,vI (1))] [(13,0,cNV r1.v),(15,1,cNV r2.v)] ⟨rfl,rfl,rfl,rfl,rfl,rfl,rfl,rfl,rfl,rfl,rfl,rfl,trivial⟩ ⟨rfl,rfl,trivial⟩ rfl fun ρ0 ff => ?_
 refine ⟨_,op_ldo (v := (vNV r2.v)) rfl rfl rfl rfl,?_⟩
 refine ⟨_,rfl,(uc_heldNode r2 1 s4 (OwnP.left hA6) (new_big hr2) (by decide) (by omega)).mono ?_⟩
 rintro _ s5 ⟨rfl,hP5⟩
 refine AW.cutM (2) s5 [(0,vI a),(1,vI b),(2,vI c),(3,vI d),(4,vI e),(5,vI f),(12,vB false),(13,vL 13 0 (0)),(14,vB b1),(15,vL 15 0 (1)),(17,vI (1 + (cntNode r2.x : Int))),(18,vI (1 + (cntNode r2.x : Int)))] [(13,0,cNV r1.v),(15,1,cNV r2.v)] ⟨rfl,rfl,rfl,rfl,rfl,rfl,rfl,rfl,rfl,rfl,rfl,rfl,trivial⟩ ⟨rfl,rfl,trivial⟩ rfl fun ρ0 ff => ?_
 have hA8 : OwnP s5 (pcNW (mkNode r2 1) ++ (pcNW r1 ++ [])) := (OwnP.pres hA6 hP5)
 have hQ8 : Pres st s5 := (hQ6.trans hP5)
 refine ⟨_,rfl,?_⟩
 rintro (_|_) hg6
 rotate_left
 ·exact absurd (of_decide_eq_true hg6) ((by omega))
 refine AW.cutM (2) s5 [(0,vI a),(1,vI b),(2,vI c),(3,vI d),(4,vI e),(5,vI f),(12,vB false),(13,vL 13 0 (0)),(14,vB b1),(15,vL 15 0 (1)),(17,vI (1 + (cntNode r2.x : Int))),(18,vI (1 + (cntNode r2.x : Int))),(57,vB false)] [(13,0,cNV r1.v),(15,1,cNV r2.v)] ⟨rfl,rfl,rfl,rfl,rfl,rfl,rfl,rfl,rfl,rfl,rfl,rfl,rfl,trivial⟩ ⟨rfl,rfl,trivial⟩ rfl fun ρ0 ff => ?_
 refine cxs ?_
 refine ⟨_,rfl,?_⟩
 rintro (_|_) hg7
 rotate_left
 ·exact absurd (rfl) (bne_iff_ne.1 hg7)
 refine AW.cutM (2) s5 [(0,vI a),(1,vI b),(2,vI c),(3,vI d),(4,vI e),(5,vI f),(12,vB false),(13,vL 13 0 (0)),(14,vB b1),(15,vL 15 0 (1)),(17,vI (1 + (cntNode r2.x : Int))),(18,vI (1 + (cntNode r2.x : Int))),(60,vB false)] [(13,0,cNV r1.v),(15,1,cNV r2.v)] ⟨rfl,rfl,rfl,rfl,rfl,rfl,rfl,rfl,rfl,rfl,rfl,rfl,rfl,trivial⟩ ⟨rfl,rfl,trivial⟩ rfl fun ρ0 ff => ?_
 refine cxs ?_
 refine ⟨_,rfl,(ac_impl_NodeNew a b c d e f s5).mono ?_⟩
 rintro _ s8 ⟨r8,b8,rfl,hr8,hO8,hN8,hP8⟩
 iterate 3 refine ⟨_,rfl,?_⟩
 refine ⟨_,op_stw (vs := cNV r8.v) rfl rfl rfl rfl rfl rfl rfl rfl,?_⟩
 refine AW.cutM (3) s8 [(12,vB false),(13,vL 13 0 (0)),(14,vB b1),(15,vL 15 0 (1)),(17,vI (1 + (cntNode r2.x : Int))),(18,vI (1 + (cntNode r2.x : Int))),(19,vL 19 0 (2)),(20,vB b8)] [(13,0,cNV r1.v),(15,1,cNV r2.v),(19,2,cNV r8.v)] ⟨rfl,rfl,rfl,rfl,rfl,rfl,rfl,rfl,trivial⟩ ⟨rfl,rfl,rfl,trivial⟩ rfl fun ρ0 ff => ?_
 have hA13 : OwnP s8 (pcNW r8 ++ (pcNW (mkNode r2 1) ++ (pcNW r1 ++ []))) := (OwnP.joinF hA8 hP8 hO8 hN8)
 have hQ13 : Pres st s8 := (hQ8.trans hP8)
 have hE2 : (r8.x,b8) = (r1.x,b1) := by rw [hr8,hr1]
 refine ⟨_,op_ldo (v := (vNV r8.v)) rfl rfl rfl rfl,?_⟩
 refine ⟨_,op_ldo (v := (vNV r1.v)) rfl rfl rfl rfl,?_⟩
 refine ⟨_,rfl,(AC.tru (uc_eqNode r8 r1 s8 (OwnP.rdN (OwnP.left hA13)) (OwnP.rdN (OwnP.left (OwnP.right (OwnP.right hA13)))) (new_big hr8)) ((Prod.mk.inj hE2).1)).mono ?_⟩
 rintro _ s8 ⟨rfl,rfl⟩
 iterate 2 refine ⟨_,rfl,?_⟩
 rintro (_|_) he9
 rotate_left
 ·exact absurd (((Prod.mk.inj hE2).2)) (b_ne he9)
 refine ⟨_,rfl,?_⟩
 refine AW.cutM (3) s8 [(12,vB false),(15,vL 15 0 (1)),(17,vI (1 + (cntNode r2.x : Int))),(18,vI (1 + (cntNode r2.x : Int))),(79,vB false)] [(15,1,cNV r2.v)] ⟨rfl,rfl,rfl,rfl,rfl,trivial⟩ ⟨rfl,trivial⟩ rfl fun ρ0 ff => ?_
 refine cxs ?_
 refine AW.cutM (3) s8 [(12,vB false),(15,vL 15 0 (1)),(17,vI (1 + (cntNode r2.x : Int))),(18,vI (1))] [(15,1,cNV r2.v)] ⟨rfl,rfl,rfl,rfl,trivial⟩ ⟨rfl,trivial⟩ rfl fun ρ0 ff => ?_
 refine ⟨_,op_ldo (v := (vNV r2.v)) rfl rfl rfl rfl,?_⟩
 refine ⟨_,rfl,(uc_heldNode r2 1 s8 (OwnP.left (OwnP.right hA13)) (new_big hr2) (by decide) (by omega)).mono ?_⟩
 rintro _ s10 ⟨rfl,hP10⟩
 refine AW.cutM (3) s10 [(12,vB false),(17,vI (1 + (cntNode r2.x : Int))),(18,vI (1 + (cntNode r2.x : Int)))] [] ⟨rfl,rfl,rfl,trivial⟩ trivial rfl fun ρ0 ff => ?_
 have hA17 : OwnP s10 (pcNW r8 ++ (pcNW (mkNode r2 1) ++ (pcNW r1 ++ []))) := (OwnP.pres hA13 hP10)
 have hQ17 : Pres st s10 := (hQ13.trans hP10)
 refine ⟨_,rfl,?_⟩
 rintro (_|_) hg11
 rotate_left
 ·exact absurd (of_decide_eq_true hg11) ((by omega))
 refine AW.cutM (3) s10 [(12,vB false),(17,vI (1 + (cntNode r2.x : Int))),(18,vI (1 + (cntNode r2.x : Int))),(84,vB false)] [] ⟨rfl,rfl,rfl,rfl,trivial⟩ trivial rfl fun ρ0 ff => ?_
 refine cxs ?_
 refine ⟨_,rfl,?_⟩
 rintro (_|_) hg12
 rotate_left
 ·exact absurd (rfl) (bne_iff_ne.1 hg12)
 refine AW.cutM (3) s10 [(12,vB false),(87,vB false)] [] ⟨rfl,rfl,trivial⟩ trivial rfl fun ρ0 ff => ?_
 refine cxs ?_
 refine cxs ?_
 exact ⟨.inl rfl,_,rfl,rfl⟩
end Go.Proofs.Ytbogbnjnjjhnbaa.AM
