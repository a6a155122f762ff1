/- Part 2 of the texts on which the law's proof rests. -/
import Derived.Test.YteabadoaeadcgaaXfa
namespace Go.Proofs.Yteabadoaeadcgaa.AM
open Go Go.Proofs
set_option linter.unusedVariables false
set_option linter.unusedSimpArgs false
set_option maxRecDepth 100000
set_option maxHeartbeats 4000000
def mkFlr (k : Int) : Flr := ⟨k,k + 1⟩
def mkItm (k : Int) : Itm := ⟨k,⟨k + 1,k + 2,k + 3,k + 4,mText (k + 5)⟩⟩
def mkRow {α : Type} (mk : Int → α) (z n : Nat) (k : Int) : List α := (List.range n).map fun (j : Nat) => mk (k + (z : Int) * (j : Int))
theorem mkRow_len {α : Type} (mk : Int → α) (z n : Nat) (k : Int) : (mkRow mk z n k).length = n := by simp [mkRow]
theorem mkRow_get {α : Type} {mk : Int → α} {z n : Nat} {k : Int} {j : Nat} {x : α} (h : (mkRow mk z n k)[j]? = some x) : x = mk (k + (z : Int) * (j : Int)) := by
 have hj := (List.getElem?_eq_some_iff.1 h).1
 rw [mkRow_len] at hj
 simp [mkRow,List.getElem?_range hj] at h
 exact h.symm
theorem mkRow_set {α : Type} {mk : Int → α} {z : Nat} {l : List α} {k : Int} {i : Nat} (hi : i < l.length) : (mkRow mk z i k ++ l.drop i).set i (mk (k + (z : Int) * (i : Int))) = mkRow mk z (i + 1) k ++ l.drop (i + 1) := by
 have h1 : mkRow mk z (i + 1) k = mkRow mk z i k ++ [mk (k + (z : Int) * (i : Int))] := by simp [mkRow,List.range_succ]
 rw [List.set_append_right _ _ (by rw [mkRow_len]; exact Nat.le_refl _),mkRow_len,Nat.sub_self,List.drop_eq_getElem_cons hi,List.set_cons_zero,h1]
 simp
theorem set_set {α : Type} (l : List α) (i : Nat) (x y : α) : (l.set i x).set i y = l.set i y := List.set_set ..
theorem getElem?_set_same {α : Type} {l : List α} {i : Nat} {x : α} (h : i < l.length) : (l.set i x)[i]? = some x := List.getElem?_set_self h
theorem ac_laws_markFloorS (p : Option Addr) (l : List Flr) (k : Int) (st : St) (hO : OwnR st 2 cFlr p l) (hs : szOk l.length) (h0 : 0 ≤ k) (hk : k ≤ 549755813888) : C 105 [vS p l.length,vI k] st (fun v s => v = vI (k + 2 * (l.length : Int)) ∧ OwnR s 2 cFlr p (mkRow mkFlr 2 l.length k) ∧ Pr p st s) := by
 have hs : l.length ≤ 1048576 := hs
 refine AC.enterX (i := ⟨[],[],[0,1,4,5,9],[]⟩) [] Try.func105 rfl rfl (by kernel_rfl) (by kernel_rfl) Try.ntmps105 (Nat.le_of_ble_eq_true rfl) rfl ?_
 refine cxs ?_
 refine AW.cut lo0 st [(0,vS p l.length),(1,vI k),(4,vI (0)),(5,vI (0))] ⟨rfl,rfl,rfl,rfl,trivial⟩ fun ρ0 => ?_
 refine AW.loop0 (fun i : Nat => [(0,vS p l.length),(1,vI (k + 2 * (i : Int))),(5,vI (i : Int))]) (fun m (i : Nat) st' => m = l.length - i ∧ i ≤ l.length ∧ OwnR st' 2 cFlr p (mkRow mkFlr 2 i k ++ l.drop i) ∧ Pr p st st') 0 _ ⟨rfl,congrArg (Value.int .i64) (show k = k + 2 * ((0 : Nat) : Int) by omega),rfl,trivial⟩ rfl ⟨rfl,Nat.zero_le _,by simpa [mkRow] using hO,Pr.refl _ _⟩ ?_
 rintro m i ρ0 st' ⟨rfl,hi,hO0,hP0⟩
 iterate 2 refine ⟨_,rfl,?_⟩
 rintro (_|_) h1
 ·replace h1 : ¬ ((i : Int) < (l.length : Int)) := of_decide_eq_false h1
  refine AW.cut lo0 st' [(0,vS p l.length),(1,vI (k + 2 * (i : Int))),(5,vI (i : Int)),(9,vB false)] ⟨rfl,rfl,rfl,rfl,trivial⟩ fun ρ0 => ?_
  refine cxs ?_
  refine cxs ?_
  have hil : i = l.length := by omega
  subst hil
  rw [List.drop_length,List.append_nil] at hO0
  exact ⟨.inl rfl,_,rfl,rfl,hO0,hP0⟩
 ·replace h1 : (i : Int) < (l.length : Int) := of_decide_eq_true h1
  refine AW.cut lo0 st' [(0,vS p l.length),(1,vI (k + 2 * (i : Int))),(5,vI (i : Int)),(9,vB true)] ⟨rfl,rfl,rfl,rfl,trivial⟩ fun ρ0 => ?_
  have h1' := Int.ofNat_lt.1 h1
  have hlen : i < (mkRow mkFlr 2 i k ++ l.drop i).length := by rw [List.length_append,mkRow_len,List.length_drop]; omega
  have ⟨a,ha⟩ := hO0.some (by omega)
  obtain ⟨w,hw⟩ : ∃ w,(mkRow mkFlr 2 i k ++ l.drop i)[i]? = some w := ⟨_,List.getElem?_eq_getElem hlen⟩
  have hset := mkRow_set (mk := mkFlr) (z := 2) (k := k) h1'
  refine cxs ?_
  refine ⟨_,op_idx (j := (i : Int)) (n := l.length) (q := ⟨a,0,none⟩) rfl (congrArg (fun u => vS u l.length) ha) rfl rfl rfl (Int.natCast_nonneg _) h1,?_⟩
  refine ⟨_,rfl,?_⟩
  refine op_putc (z := 2) (i := 0) (st := st') (f := cFlr) (j := i) (l := (mkRow mkFlr 2 i k ++ l.drop i)) (w := w) (y := ((⟨(k + 2 * (i : Int)),w.inc⟩ : Flr) : Flr)) (p := p) (d := 0 + i * 2 + 0) rfl rfl (by omega) rfl rfl len_cFlr rfl rfl hw (by decide) rfl hO0 ha ?_
  intro s1 hO1 hP1 hn1
  have hQ1 : Pr p st s1 := hP0.trans hP1
  refine AW.cut lo0 s1 [(0,vS p l.length),(1,vI (k + 2 * (i : Int))),(5,vI (i : Int)),(9,vB true)] ⟨rfl,rfl,rfl,rfl,trivial⟩ fun ρ0 => ?_
  have e18 : IntKind.wrap .i64 (k + 2 * (i : Int) + 1) = k + 2 * (i : Int) + 1 := (wrap_i64 (by omega) (by omega)).trans (by omega)
  refine ⟨_,rfl,?_⟩
  refine AW.cut lo0 s1 [(0,vS p l.length),(1,vI (k + 2 * (i : Int) + 1)),(5,vI (i : Int)),(9,vB true)] ⟨rfl,congrArg (Value.int .i64) e18,rfl,rfl,trivial⟩ fun ρ0 => ?_
  refine ⟨_,op_idx (j := (i : Int)) (n := l.length) (q := ⟨a,0,none⟩) rfl (congrArg (fun u => vS u l.length) ha) rfl rfl rfl (Int.natCast_nonneg _) h1,?_⟩
  refine ⟨_,rfl,?_⟩
  refine op_putc (z := 2) (i := 1) (st := s1) (f := cFlr) (j := i) (l := ((mkRow mkFlr 2 i k ++ l.drop i).set i (⟨(k + 2 * (i : Int)),w.inc⟩ : Flr))) (w := (⟨(k + 2 * (i : Int)),w.inc⟩ : Flr)) (y := ((⟨(k + 2 * (i : Int)),(k + 2 * (i : Int)) + 1⟩ : Flr) : Flr)) (p := p) (d := 0 + i * 2 + 1) rfl rfl (by omega) rfl rfl len_cFlr rfl rfl (getElem?_set_same hlen) (by decide) rfl hO1 ha ?_
  intro s2 hO2 hP2 hn2
  rw [set_set] at hO2
  have hQ2 : Pr p st s2 := hQ1.trans hP2
  refine AW.cut lo0 s2 [(0,vS p l.length),(1,vI (k + 2 * (i : Int) + 1)),(5,vI (i : Int)),(9,vB true)] ⟨rfl,rfl,rfl,rfl,trivial⟩ fun ρ0 => ?_
  have e25 : IntKind.wrap .i64 (k + 2 * (i : Int) + 1 + 1) = k + 2 * ((i + 1 : Nat) : Int) := (wrap_i64 (by omega) (by omega)).trans (by omega)
  refine ⟨_,rfl,?_⟩
  refine AW.cut lo0 s2 [(0,vS p l.length),(1,vI (k + 2 * ((i + 1 : Nat) : Int))),(5,vI (i : Int)),(9,vB true)] ⟨rfl,congrArg (Value.int .i64) e25,rfl,rfl,trivial⟩ fun ρ0 => ?_
  have e11 : IntKind.wrap .i64 ((i : Int) + 1) = ((i + 1 : Nat) : Int) := (wrap_i64 (by omega) (by omega)).trans (by omega)
  refine ⟨_,rfl,?_⟩
  exact ⟨i + 1,l.length - (i + 1),by omega,⟨rfl,rfl,congrArg (Value.int .i64) e11,trivial⟩,rfl,rfl,h1',(show OwnR s2 2 cFlr p (mkRow mkFlr 2 (i + 1) k ++ l.drop (i + 1)) by rw [← hset]; exact hO2),hQ2⟩
theorem ac_laws_markItemS (p : Option Addr) (l : List Itm) (k : Int) (st : St) (hO : OwnR st 6 cItm p l) (hs : szOk l.length) (h0 : 0 ≤ k) (hk : k ≤ 549755813888) : C 104 [vS p l.length,vI k] st (fun v s => v = vI (k + 6 * (l.length : Int)) ∧ OwnR s 6 cItm p (mkRow mkItm 6 l.length k) ∧ Pr p st s) := by
 have hs : l.length ≤ 1048576 := hs
 refine AC.enterX (i := ⟨[],[],[0,1,4,5,9],[]⟩) [] Try.func104 rfl rfl (by kernel_rfl) (by kernel_rfl) Try.ntmps104 (Nat.le_of_ble_eq_true rfl) rfl ?_
 refine cxs ?_
 refine AW.cut lo0 st [(0,vS p l.length),(1,vI k),(4,vI (0)),(5,vI (0))] ⟨rfl,rfl,rfl,rfl,trivial⟩ fun ρ0 => ?_
 refine AW.loop0 (fun i : Nat => [(0,vS p l.length),(1,vI (k + 6 * (i : Int))),(5,vI (i : Int))]) (fun m (i : Nat) st' => m = l.length - i ∧ i ≤ l.length ∧ OwnR st' 6 cItm p (mkRow mkItm 6 i k ++ l.drop i) ∧ Pr p st st') 0 _ ⟨rfl,congrArg (Value.int .i64) (show k = k + 6 * ((0 : Nat) : Int) by omega),rfl,trivial⟩ rfl ⟨rfl,Nat.zero_le _,by simpa [mkRow] using hO,Pr.refl _ _⟩ ?_
 rintro m i ρ0 st' ⟨rfl,hi,hO0,hP0⟩
 iterate 2 refine ⟨_,rfl,?_⟩
 rintro (_|_) h1
 ·replace h1 : ¬ ((i : Int) < (l.length : Int)) := of_decide_eq_false h1
  refine AW.cut lo0 st' [(0,vS p l.length),(1,vI (k + 6 * (i : Int))),(5,vI (i : Int)),(9,vB false)] ⟨rfl,rfl,rfl,rfl,trivial⟩ fun ρ0 => ?_
  refine cxs ?_
  refine cxs ?_
  have hil : i = l.length := by omega
  subst hil
  rw [List.drop_length,List.append_nil] at hO0
  exact ⟨.inl rfl,_,rfl,rfl,hO0,hP0⟩
 ·replace h1 : (i : Int) < (l.length : Int) := of_decide_eq_true h1
  refine AW.cut lo0 st' [(0,vS p l.length),(1,vI (k + 6 * (i : Int))),(5,vI (i : Int)),(9,vB true)] ⟨rfl,rfl,rfl,rfl,trivial⟩ fun ρ0 => ?_
  have h1' := Int.ofNat_lt.1 h1
  have hlen : i < (mkRow mkItm 6 i k ++ l.drop i).length := by rw [List.length_append,mkRow_len,List.length_drop]; omega
  have ⟨a,ha⟩ := hO0.some (by omega)
  obtain ⟨w,hw⟩ : ∃ w,(mkRow mkItm 6 i k ++ l.drop i)[i]? = some w := ⟨_,List.getElem?_eq_getElem hlen⟩
  have hset := mkRow_set (mk := mkItm) (z := 6) (k := k) h1'
  refine cxs ?_
  refine ⟨_,op_idx (j := (i : Int)) (n := l.length) (q := ⟨a,0,none⟩) rfl (congrArg (fun u => vS u l.length) ha) rfl rfl rfl (Int.natCast_nonneg _) h1,?_⟩
  refine ⟨_,rfl,?_⟩
  refine op_putc (z := 6) (i := 0) (st := st') (f := cItm) (j := i) (l := (mkRow mkItm 6 i k ++ l.drop i)) (w := w) (y := ((⟨(k + 6 * (i : Int)),⟨w.e.inc,w.e.rank,w.e.beat,w.e.ver,w.e.data⟩⟩ : Itm) : Itm)) (p := p) (d := 0 + i * 6 + 0) rfl rfl (by omega) rfl rfl len_cItm rfl rfl hw (by decide) rfl hO0 ha ?_
  intro s1 hO1 hP1 hn1
  have hQ1 : Pr p st s1 := hP0.trans hP1
  refine AW.cut lo0 s1 [(0,vS p l.length),(1,vI (k + 6 * (i : Int))),(5,vI (i : Int)),(9,vB true)] ⟨rfl,rfl,rfl,rfl,trivial⟩ fun ρ0 => ?_
  have e18 : IntKind.wrap .i64 (k + 6 * (i : Int) + 1) = k + 6 * (i : Int) + 1 := (wrap_i64 (by omega) (by omega)).trans (by omega)
  refine ⟨_,rfl,?_⟩
  refine AW.cut lo0 s1 [(0,vS p l.length),(1,vI (k + 6 * (i : Int) + 1)),(5,vI (i : Int)),(9,vB true)] ⟨rfl,congrArg (Value.int .i64) e18,rfl,rfl,trivial⟩ fun ρ0 => ?_
  refine ⟨_,op_idx (j := (i : Int)) (n := l.length) (q := ⟨a,0,none⟩) rfl (congrArg (fun u => vS u l.length) ha) rfl rfl rfl (Int.natCast_nonneg _) h1,?_⟩
  iterate 2 refine ⟨_,rfl,?_⟩
  refine op_putc (z := 6) (i := 1) (st := s1) (f := cItm) (j := i) (l := ((mkRow mkItm 6 i k ++ l.drop i).set i (⟨(k + 6 * (i : Int)),⟨w.e.inc,w.e.rank,w.e.beat,w.e.ver,w.e.data⟩⟩ : Itm))) (w := (⟨(k + 6 * (i : Int)),⟨w.e.inc,w.e.rank,w.e.beat,w.e.ver,w.e.data⟩⟩ : Itm)) (y := ((⟨(k + 6 * (i : Int)),⟨(k + 6 * (i : Int)) + 1,w.e.rank,w.e.beat,w.e.ver,w.e.data⟩⟩ : Itm) : Itm)) (p := p) (d := 0 + i * 6 + 1) rfl rfl (by omega) rfl rfl len_cItm rfl rfl (getElem?_set_same hlen) (by decide) rfl hO1 ha ?_
  intro s2 hO2 hP2 hn2
  rw [set_set] at hO2
  have hQ2 : Pr p st s2 := hQ1.trans hP2
  refine AW.cut lo0 s2 [(0,vS p l.length),(1,vI (k + 6 * (i : Int) + 1)),(5,vI (i : Int)),(9,vB true)] ⟨rfl,rfl,rfl,rfl,trivial⟩ fun ρ0 => ?_
  have e26 : IntKind.wrap .i64 (k + 6 * (i : Int) + 1 + 1) = k + 6 * (i : Int) + 2 := (wrap_i64 (by omega) (by omega)).trans (by omega)
  refine ⟨_,rfl,?_⟩
  refine AW.cut lo0 s2 [(0,vS p l.length),(1,vI (k + 6 * (i : Int) + 2)),(5,vI (i : Int)),(9,vB true)] ⟨rfl,congrArg (Value.int .i64) e26,rfl,rfl,trivial⟩ fun ρ0 => ?_
  refine ⟨_,op_idx (j := (i : Int)) (n := l.length) (q := ⟨a,0,none⟩) rfl (congrArg (fun u => vS u l.length) ha) rfl rfl rfl (Int.natCast_nonneg _) h1,?_⟩
  iterate 2 refine ⟨_,rfl,?_⟩
  refine op_putc (z := 6) (i := 2) (st := s2) (f := cItm) (j := i) (l := ((mkRow mkItm 6 i k ++ l.drop i).set i (⟨(k + 6 * (i : Int)),⟨(k + 6 * (i : Int)) + 1,w.e.rank,w.e.beat,w.e.ver,w.e.data⟩⟩ : Itm))) (w := (⟨(k + 6 * (i : Int)),⟨(k + 6 * (i : Int)) + 1,w.e.rank,w.e.beat,w.e.ver,w.e.data⟩⟩ : Itm)) (y := ((⟨(k + 6 * (i : Int)),⟨(k + 6 * (i : Int)) + 1,(k + 6 * (i : Int)) + 2,w.e.beat,w.e.ver,w.e.data⟩⟩ : Itm) : Itm)) (p := p) (d := 0 + i * 6 + 2) rfl rfl (by omega) rfl rfl len_cItm rfl rfl (getElem?_set_same hlen) (by decide) rfl hO2 ha ?_
  intro s3 hO3 hP3 hn3
  rw [set_set] at hO3
  have hQ3 : Pr p st s3 := hQ2.trans hP3
  refine AW.cut lo0 s3 [(0,vS p l.length),(1,vI (k + 6 * (i : Int) + 2)),(5,vI (i : Int)),(9,vB true)] ⟨rfl,rfl,rfl,rfl,trivial⟩ fun ρ0 => ?_
  have e34 : IntKind.wrap .i64 (k + 6 * (i : Int) + 2 + 1) = k + 6 * (i : Int) + 3 := (wrap_i64 (by omega) (by omega)).trans (by omega)
  refine ⟨_,rfl,?_⟩
  refine AW.cut lo0 s3 [(0,vS p l.length),(1,vI (k + 6 * (i : Int) + 3)),(5,vI (i : Int)),(9,vB true)] ⟨rfl,congrArg (Value.int .i64) e34,rfl,rfl,trivial⟩ fun ρ0 => ?_
  refine ⟨_,op_idx (j := (i : Int)) (n := l.length) (q := ⟨a,0,none⟩) rfl (congrArg (fun u => vS u l.length) ha) rfl rfl rfl (Int.natCast_nonneg _) h1,?_⟩
  iterate 2 refine ⟨_,rfl,?_⟩
  refine op_putc (z := 6) (i := 3) (st := s3) (f := cItm) (j := i) (l := ((mkRow mkItm 6 i k ++ l.drop i).set i (⟨(k + 6 * (i : Int)),⟨(k + 6 * (i : Int)) + 1,(k + 6 * (i : Int)) + 2,w.e.beat,w.e.ver,w.e.data⟩⟩ : Itm))) (w := (⟨(k + 6 * (i : Int)),⟨(k + 6 * (i : Int)) + 1,(k + 6 * (i : Int)) + 2,w.e.beat,w.e.ver,w.e.data⟩⟩ : Itm)) (y := ((⟨(k + 6 * (i : Int)),⟨(k + 6 * (i : Int)) + 1,(k + 6 * (i : Int)) + 2,(k + 6 * (i : Int)) + 3,w.e.ver,w.e.data⟩⟩ : Itm) : Itm)) (p := p) (d := 0 + i * 6 + 3) rfl rfl (by omega) rfl rfl len_cItm rfl rfl (getElem?_set_same hlen) (by decide) rfl hO3 ha ?_
  intro s4 hO4 hP4 hn4
  rw [set_set] at hO4
  have hQ4 : Pr p st s4 := hQ3.trans hP4
  refine AW.cut lo0 s4 [(0,vS p l.length),(1,vI (k + 6 * (i : Int) + 3)),(5,vI (i : Int)),(9,vB true)] ⟨rfl,rfl,rfl,rfl,trivial⟩ fun ρ0 => ?_
  have e42 : IntKind.wrap .i64 (k + 6 * (i : Int) + 3 + 1) = k + 6 * (i : Int) + 4 := (wrap_i64 (by omega) (by omega)).trans (by omega)
  refine ⟨_,rfl,?_⟩
  refine AW.cut lo0 s4 [(0,vS p l.length),(1,vI (k + 6 * (i : Int) + 4)),(5,vI (i : Int)),(9,vB true)] ⟨rfl,congrArg (Value.int .i64) e42,rfl,rfl,trivial⟩ fun ρ0 => ?_
  refine ⟨_,op_idx (j := (i : Int)) (n := l.length) (q := ⟨a,0,none⟩) rfl (congrArg (fun u => vS u l.length) ha) rfl rfl rfl (Int.natCast_nonneg _) h1,?_⟩
  iterate 2 refine ⟨_,rfl,?_⟩
  refine op_putc (z := 6) (i := 4) (st := s4) (f := cItm) (j := i) (l := ((mkRow mkItm 6 i k ++ l.drop i).set i (⟨(k + 6 * (i : Int)),⟨(k + 6 * (i : Int)) + 1,(k + 6 * (i : Int)) + 2,(k + 6 * (i : Int)) + 3,w.e.ver,w.e.data⟩⟩ : Itm))) (w := (⟨(k + 6 * (i : Int)),⟨(k + 6 * (i : Int)) + 1,(k + 6 * (i : Int)) + 2,(k + 6 * (i : Int)) + 3,w.e.ver,w.e.data⟩⟩ : Itm)) (y := ((⟨(k + 6 * (i : Int)),⟨(k + 6 * (i : Int)) + 1,(k + 6 * (i : Int)) + 2,(k + 6 * (i : Int)) + 3,(k + 6 * (i : Int)) + 4,w.e.data⟩⟩ : Itm) : Itm)) (p := p) (d := 0 + i * 6 + 4) rfl rfl (by omega) rfl rfl len_cItm rfl rfl (getElem?_set_same hlen) (by decide) rfl hO4 ha ?_
  intro s5 hO5 hP5 hn5
  rw [set_set] at hO5
  have hQ5 : Pr p st s5 := hQ4.trans hP5
  refine AW.cut lo0 s5 [(0,vS p l.length),(1,vI (k + 6 * (i : Int) + 4)),(5,vI (i : Int)),(9,vB true)] ⟨rfl,rfl,rfl,rfl,trivial⟩ fun ρ0 => ?_
  have e50 : IntKind.wrap .i64 (k + 6 * (i : Int) + 4 + 1) = k + 6 * (i : Int) + 5 := (wrap_i64 (by omega) (by omega)).trans (by omega)
  refine ⟨_,rfl,?_⟩
  refine AW.cut lo0 s5 [(0,vS p l.length),(1,vI (k + 6 * (i : Int) + 5)),(5,vI (i : Int)),(9,vB true)] ⟨rfl,congrArg (Value.int .i64) e50,rfl,rfl,trivial⟩ fun ρ0 => ?_
  refine ⟨_,rfl,(ac_laws_markText (k + 6 * (i : Int) + 5) s5 (by omega) (by omega)).mono ?_⟩
  rintro _ sT ⟨rfl,hPT⟩
  have hO5T := hPT.ownR hO5
  refine ⟨_,op_idx (j := (i : Int)) (n := l.length) (q := ⟨a,0,none⟩) rfl (congrArg (fun u => vS u l.length) ha) rfl rfl rfl (Int.natCast_nonneg _) h1,?_⟩
  iterate 2 refine ⟨_,rfl,?_⟩
  refine op_putc (z := 6) (i := 5) (st := sT) (f := cItm) (j := i) (l := ((mkRow mkItm 6 i k ++ l.drop i).set i (⟨(k + 6 * (i : Int)),⟨(k + 6 * (i : Int)) + 1,(k + 6 * (i : Int)) + 2,(k + 6 * (i : Int)) + 3,(k + 6 * (i : Int)) + 4,w.e.data⟩⟩ : Itm))) (w := (⟨(k + 6 * (i : Int)),⟨(k + 6 * (i : Int)) + 1,(k + 6 * (i : Int)) + 2,(k + 6 * (i : Int)) + 3,(k + 6 * (i : Int)) + 4,w.e.data⟩⟩ : Itm)) (y := ((⟨(k + 6 * (i : Int)),⟨(k + 6 * (i : Int)) + 1,(k + 6 * (i : Int)) + 2,(k + 6 * (i : Int)) + 3,(k + 6 * (i : Int)) + 4,mText ((k + 6 * (i : Int)) + 5)⟩⟩ : Itm) : Itm)) (p := p) (d := 0 + i * 6 + 5) rfl rfl (by omega) rfl rfl len_cItm rfl rfl (getElem?_set_same hlen) (by decide) rfl hO5T ha ?_
  intro s6 hO6 hP6 hn6
  rw [set_set] at hO6
  have hQ6 : Pr p st s6 := (hQ5.trans (Pres.pr hPT)).trans hP6
  refine AW.cut lo0 s6 [(0,vS p l.length),(1,vI (k + 6 * (i : Int) + 5)),(5,vI (i : Int)),(9,vB true)] ⟨rfl,rfl,rfl,rfl,trivial⟩ fun ρ0 => ?_
  have e59 : IntKind.wrap .i64 (k + 6 * (i : Int) + 5 + 1) = k + 6 * ((i + 1 : Nat) : Int) := (wrap_i64 (by omega) (by omega)).trans (by omega)
  refine ⟨_,rfl,?_⟩
  refine AW.cut lo0 s6 [(0,vS p l.length),(1,vI (k + 6 * ((i + 1 : Nat) : Int))),(5,vI (i : Int)),(9,vB true)] ⟨rfl,congrArg (Value.int .i64) e59,rfl,rfl,trivial⟩ fun ρ0 => ?_
  have e11 : IntKind.wrap .i64 ((i : Int) + 1) = ((i + 1 : Nat) : Int) := (wrap_i64 (by omega) (by omega)).trans (by omega)
  refine ⟨_,rfl,?_⟩
  exact ⟨i + 1,l.length - (i + 1),by omega,⟨rfl,rfl,congrArg (Value.int .i64) e11,trivial⟩,rfl,rfl,h1',(show OwnR s6 6 cItm p (mkRow mkItm 6 (i + 1) k ++ l.drop (i + 1)) by rw [← hset]; exact hO6),hQ6⟩
theorem ac_laws_heldFloorS (p : Option Addr) (n : Nat) (k : Int) (st : St) (hR : Rows st 2 cFlr p (mkRow mkFlr 2 n k)) (hs : szOk n) (h0 : 0 ≤ k) (hk : k ≤ 549755813888) : C 107 [vS p n,vI k] st (fun v s => v = vI (k + 2 * (n : Int)) ∧ Pres st s) := by
 have hs : n ≤ 1048576 := hs
 refine AC.enterX (i := ⟨[],[],[0,1,4,5,9,18,27],[]⟩) [] Try.func107 rfl rfl (by kernel_rfl) (by kernel_rfl) Try.ntmps107 (Nat.le_of_ble_eq_true rfl) rfl ?_
 refine cxs ?_
 refine AW.cut lo0 st [(0,vS p n),(1,vI k),(4,vI (0)),(5,vI (0))] ⟨rfl,rfl,rfl,rfl,trivial⟩ fun ρ0 => ?_
 refine AW.loop0 (fun i : Nat => [(0,vS p n),(1,vI (k + 2 * (i : Int))),(5,vI (i : Int))]) (fun m (i : Nat) st' => m = n - i ∧ i ≤ n ∧ Pres st st') 0 _ ⟨rfl,congrArg (Value.int .i64) (show k = k + 2 * ((0 : Nat) : Int) by omega),rfl,trivial⟩ rfl ⟨rfl,Nat.zero_le _,Pres.refl _⟩ ?_
 rintro m i ρ0 st' ⟨rfl,hi,hP⟩
 iterate 2 refine ⟨_,rfl,?_⟩
 rintro (_|_) h1
 ·replace h1 : ¬ ((i : Int) < (n : Int)) := of_decide_eq_false h1
  refine AW.cut lo0 st' [(0,vS p n),(1,vI (k + 2 * (i : Int))),(5,vI (i : Int)),(9,vB false)] ⟨rfl,rfl,rfl,rfl,trivial⟩ fun ρ0 => ?_
  refine cxs ?_
  refine cxs ?_
  have hil : i = n := by omega
  subst hil
  exact ⟨.inl rfl,_,rfl,rfl,hP⟩
 ·replace h1 : (i : Int) < (n : Int) := of_decide_eq_true h1
  refine AW.cut lo0 st' [(0,vS p n),(1,vI (k + 2 * (i : Int))),(5,vI (i : Int)),(9,vB true)] ⟨rfl,rfl,rfl,rfl,trivial⟩ fun ρ0 => ?_
  have h1' := Int.ofNat_lt.1 h1
  have ⟨b1,o1,k1,x,hpe,hx,hm1,hc1,hb1⟩ := (hP.rows hR).atB (j := i) (by rw [mkRow_len]; exact h1')
  have hx := mkRow_get hx
  have hc1 : (k1.cells.drop (o1 + i * 2)).take 2 = cFlr (mkFlr (k + 2 * (i : Int))) := by rw [hc1,hx]; rfl
  refine cxs ?_
  refine ⟨_,op_idx (j := (i : Int)) (n := n) (q := ⟨b1,o1,none⟩) rfl (congrArg (fun u => vS u n) hpe) rfl rfl rfl (Int.natCast_nonneg _) h1,?_⟩
  refine ⟨_,rfl,?_⟩
  refine ⟨_,op_ldc (i := 0) rfl rfl rfl rfl hm1 hc1 rfl rfl,?_⟩
  refine ⟨_,rfl,?_⟩
  rintro (_|_) h18
  rotate_left
  ·exact absurd (rfl) (bne_iff_ne.1 h18)
  refine AW.cut lo0 st' [(0,vS p n),(1,vI (k + 2 * (i : Int))),(5,vI (i : Int)),(9,vB true),(18,vB false)] ⟨rfl,rfl,rfl,rfl,rfl,trivial⟩ fun ρ0 => ?_
  refine cxs ?_
  have e20 : IntKind.wrap .i64 (k + 2 * (i : Int) + 1) = k + 2 * (i : Int) + 1 := (wrap_i64 (by omega) (by omega)).trans (by omega)
  refine ⟨_,rfl,?_⟩
  refine AW.cut lo0 st' [(0,vS p n),(1,vI (k + 2 * (i : Int) + 1)),(5,vI (i : Int)),(9,vB true),(18,vB false)] ⟨rfl,congrArg (Value.int .i64) e20,rfl,rfl,rfl,trivial⟩ fun ρ0 => ?_
  refine ⟨_,op_idx (j := (i : Int)) (n := n) (q := ⟨b1,o1,none⟩) rfl (congrArg (fun u => vS u n) hpe) rfl rfl rfl (Int.natCast_nonneg _) h1,?_⟩
  refine ⟨_,rfl,?_⟩
  refine ⟨_,op_ldc (i := 1) rfl rfl rfl rfl hm1 hc1 rfl rfl,?_⟩
  refine ⟨_,rfl,?_⟩
  rintro (_|_) h27
  rotate_left
  ·exact absurd (rfl) (bne_iff_ne.1 h27)
  refine AW.cut lo0 st' [(0,vS p n),(1,vI (k + 2 * (i : Int) + 1)),(5,vI (i : Int)),(9,vB true),(18,vB false),(27,vB false)] ⟨rfl,rfl,rfl,rfl,rfl,rfl,trivial⟩ fun ρ0 => ?_
  refine cxs ?_
  have e29 : IntKind.wrap .i64 (k + 2 * (i : Int) + 1 + 1) = k + 2 * ((i + 1 : Nat) : Int) := (wrap_i64 (by omega) (by omega)).trans (by omega)
  refine ⟨_,rfl,?_⟩
  refine AW.cut lo0 st' [(0,vS p n),(1,vI (k + 2 * ((i + 1 : Nat) : Int))),(5,vI (i : Int)),(9,vB true),(18,vB false),(27,vB false)] ⟨rfl,congrArg (Value.int .i64) e29,rfl,rfl,rfl,rfl,trivial⟩ fun ρ0 => ?_
  have e11 : IntKind.wrap .i64 ((i : Int) + 1) = ((i + 1 : Nat) : Int) := (wrap_i64 (by omega) (by omega)).trans (by omega)
  refine ⟨_,rfl,?_⟩
  exact ⟨i + 1,n - (i + 1),by omega,⟨rfl,rfl,congrArg (Value.int .i64) e11,trivial⟩,rfl,rfl,h1',hP⟩
theorem ac_laws_heldItemS (p : Option Addr) (n : Nat) (k : Int) (st : St) (hR : Rows st 6 cItm p (mkRow mkItm 6 n k)) (hs : szOk n) (h0 : 0 ≤ k) (hk : k ≤ 549755813888) : C 106 [vS p n,vI k] st (fun v s => v = vI (k + 6 * (n : Int)) ∧ Pres st s) := by
 have hs : n ≤ 1048576 := hs
 refine AC.enterX (i := ⟨[],[],[0,1,4,5,9,18,28,38,48,58,69],[]⟩) [(19,[7],[5])] Try.func106 rfl rfl (by kernel_rfl) (by kernel_rfl) Try.ntmps106 (Nat.le_of_ble_eq_true rfl) rfl ?_
 refine cxs ?_
 refine AW.cut lo0 st [(0,vS p n),(1,vI k),(4,vI (0)),(5,vI (0))] ⟨rfl,rfl,rfl,rfl,trivial⟩ fun ρ0 => ?_
 refine AW.loop0 (fun i : Nat => [(0,vS p n),(1,vI (k + 6 * (i : Int))),(5,vI (i : Int))]) (fun m (i : Nat) st' => m = n - i ∧ i ≤ n ∧ Pres st st') 0 _ ⟨rfl,congrArg (Value.int .i64) (show k = k + 6 * ((0 : Nat) : Int) by omega),rfl,trivial⟩ rfl ⟨rfl,Nat.zero_le _,Pres.refl _⟩ ?_
 rintro m i ρ0 st' ⟨rfl,hi,hP⟩
 iterate 2 refine ⟨_,rfl,?_⟩
 rintro (_|_) h1
 ·replace h1 : ¬ ((i : Int) < (n : Int)) := of_decide_eq_false h1
  refine AW.cut lo0 st' [(0,vS p n),(1,vI (k + 6 * (i : Int))),(5,vI (i : Int)),(9,vB false)] ⟨rfl,rfl,rfl,rfl,trivial⟩ fun ρ0 => ?_
  refine cxs ?_
  refine cxs ?_
  have hil : i = n := by omega
  subst hil
  exact ⟨.inl rfl,_,rfl,rfl,hP⟩
 ·replace h1 : (i : Int) < (n : Int) := of_decide_eq_true h1
  refine AW.cut lo0 st' [(0,vS p n),(1,vI (k + 6 * (i : Int))),(5,vI (i : Int)),(9,vB true)] ⟨rfl,rfl,rfl,rfl,trivial⟩ fun ρ0 => ?_
  have h1' := Int.ofNat_lt.1 h1
  have ⟨b1,o1,k1,x,hpe,hx,hm1,hc1,hb1⟩ := (hP.rows hR).atB (j := i) (by rw [mkRow_len]; exact h1')
  have hx := mkRow_get hx
  have hc1 : (k1.cells.drop (o1 + i * 6)).take 6 = cItm (mkItm (k + 6 * (i : Int))) := by rw [hc1,hx]; rfl
  refine cxs ?_
  refine ⟨_,op_idx (j := (i : Int)) (n := n) (q := ⟨b1,o1,none⟩) rfl (congrArg (fun u => vS u n) hpe) rfl rfl rfl (Int.natCast_nonneg _) h1,?_⟩
  refine ⟨_,rfl,?_⟩
  refine ⟨_,op_ldc (i := 0) rfl rfl rfl rfl hm1 hc1 rfl rfl,?_⟩
  refine ⟨_,rfl,?_⟩
  rintro (_|_) h18
  rotate_left
  ·exact absurd (rfl) (bne_iff_ne.1 h18)
  refine AW.cut lo0 st' [(0,vS p n),(1,vI (k + 6 * (i : Int))),(5,vI (i : Int)),(9,vB true),(18,vB false)] ⟨rfl,rfl,rfl,rfl,rfl,trivial⟩ fun ρ0 => ?_
  refine cxs ?_
  have e20 : IntKind.wrap .i64 (k + 6 * (i : Int) + 1) = k + 6 * (i : Int) + 1 := (wrap_i64 (by omega) (by omega)).trans (by omega)
  refine ⟨_,rfl,?_⟩
  refine AW.cut lo0 st' [(0,vS p n),(1,vI (k + 6 * (i : Int) + 1)),(5,vI (i : Int)),(9,vB true),(18,vB false)] ⟨rfl,congrArg (Value.int .i64) e20,rfl,rfl,rfl,trivial⟩ fun ρ0 => ?_
  refine ⟨_,op_idx (j := (i : Int)) (n := n) (q := ⟨b1,o1,none⟩) rfl (congrArg (fun u => vS u n) hpe) rfl rfl rfl (Int.natCast_nonneg _) h1,?_⟩
  iterate 2 refine ⟨_,rfl,?_⟩
  refine ⟨_,op_ldc (i := 1) rfl rfl rfl rfl hm1 hc1 rfl rfl,?_⟩
  refine ⟨_,rfl,?_⟩
  rintro (_|_) h28
  rotate_left
  ·exact absurd (rfl) (bne_iff_ne.1 h28)
  refine AW.cut lo0 st' [(0,vS p n),(1,vI (k + 6 * (i : Int) + 1)),(5,vI (i : Int)),(9,vB true),(18,vB false),(28,vB false)] ⟨rfl,rfl,rfl,rfl,rfl,rfl,trivial⟩ fun ρ0 => ?_
  refine cxs ?_
  have e30 : IntKind.wrap .i64 (k + 6 * (i : Int) + 1 + 1) = k + 6 * (i : Int) + 2 := (wrap_i64 (by omega) (by omega)).trans (by omega)
  refine ⟨_,rfl,?_⟩
  refine AW.cut lo0 st' [(0,vS p n),(1,vI (k + 6 * (i : Int) + 2)),(5,vI (i : Int)),(9,vB true),(18,vB false),(28,vB false)] ⟨rfl,congrArg (Value.int .i64) e30,rfl,rfl,rfl,rfl,trivial⟩ fun ρ0 => ?_
  refine ⟨_,op_idx (j := (i : Int)) (n := n) (q := ⟨b1,o1,none⟩) rfl (congrArg (fun u => vS u n) hpe) rfl rfl rfl (Int.natCast_nonneg _) h1,?_⟩
  iterate 2 refine ⟨_,rfl,?_⟩
  refine ⟨_,op_ldc (i := 2) rfl rfl rfl rfl hm1 hc1 rfl rfl,?_⟩
  refine ⟨_,rfl,?_⟩
  rintro (_|_) h38
  rotate_left
  ·exact absurd (rfl) (bne_iff_ne.1 h38)
  refine AW.cut lo0 st' [(0,vS p n),(1,vI (k + 6 * (i : Int) + 2)),(5,vI (i : Int)),(9,vB true),(18,vB false),(28,vB false),(38,vB false)] ⟨rfl,rfl,rfl,rfl,rfl,rfl,rfl,trivial⟩ fun ρ0 => ?_
  refine cxs ?_
  have e40 : IntKind.wrap .i64 (k + 6 * (i : Int) + 2 + 1) = k + 6 * (i : Int) + 3 := (wrap_i64 (by omega) (by omega)).trans (by omega)
  refine ⟨_,rfl,?_⟩
  refine AW.cut lo0 st' [(0,vS p n),(1,vI (k + 6 * (i : Int) + 3)),(5,vI (i : Int)),(9,vB true),(18,vB false),(28,vB false),(38,vB false)] ⟨rfl,congrArg (Value.int .i64) e40,rfl,rfl,rfl,rfl,rfl,trivial⟩ fun ρ0 => ?_
  refine ⟨_,op_idx (j := (i : Int)) (n := n) (q := ⟨b1,o1,none⟩) rfl (congrArg (fun u => vS u n) hpe) rfl rfl rfl (Int.natCast_nonneg _) h1,?_⟩
  iterate 2 refine ⟨_,rfl,?_⟩
  refine ⟨_,op_ldc (i := 3) rfl rfl rfl rfl hm1 hc1 rfl rfl,?_⟩
  refine ⟨_,rfl,?_⟩
  rintro (_|_) h48
  rotate_left
  ·exact absurd (rfl) (bne_iff_ne.1 h48)
  refine AW.cut lo0 st' [(0,vS p n),(1,vI (k + 6 * (i : Int) + 3)),(5,vI (i : Int)),(9,vB true),(18,vB false),(28,vB false),(38,vB false),(48,vB false)] ⟨rfl,rfl,rfl,rfl,rfl,rfl,rfl,rfl,trivial⟩ fun ρ0 => ?_
  refine cxs ?_
  have e50 : IntKind.wrap .i64 (k + 6 * (i : Int) + 3 + 1) = k + 6 * (i : Int) + 4 := (wrap_i64 (by omega) (by omega)).trans (by omega)
  refine ⟨_,rfl,?_⟩
  refine AW.cut lo0 st' [(0,vS p n),(1,vI (k + 6 * (i : Int) + 4)),(5,vI (i : Int)),(9,vB true),(18,vB false),(28,vB false),(38,vB false),(48,vB false)] ⟨rfl,congrArg (Value.int .i64) e50,rfl,rfl,rfl,rfl,rfl,rfl,trivial⟩ fun ρ0 => ?_
  refine ⟨_,op_idx (j := (i : Int)) (n := n) (q := ⟨b1,o1,none⟩) rfl (congrArg (fun u => vS u n) hpe) rfl rfl rfl (Int.natCast_nonneg _) h1,?_⟩
  iterate 2 refine ⟨_,rfl,?_⟩
  refine ⟨_,op_ldc (i := 4) rfl rfl rfl rfl hm1 hc1 rfl rfl,?_⟩
  refine ⟨_,rfl,?_⟩
  rintro (_|_) h58
  rotate_left
  ·exact absurd (rfl) (bne_iff_ne.1 h58)
  refine AW.cut lo0 st' [(0,vS p n),(1,vI (k + 6 * (i : Int) + 4)),(5,vI (i : Int)),(9,vB true),(18,vB false),(28,vB false),(38,vB false),(48,vB false),(58,vB false)] ⟨rfl,rfl,rfl,rfl,rfl,rfl,rfl,rfl,rfl,trivial⟩ fun ρ0 => ?_
  refine cxs ?_
  have e60 : IntKind.wrap .i64 (k + 6 * (i : Int) + 4 + 1) = k + 6 * (i : Int) + 5 := (wrap_i64 (by omega) (by omega)).trans (by omega)
  refine ⟨_,rfl,?_⟩
  refine AW.cut lo0 st' [(0,vS p n),(1,vI (k + 6 * (i : Int) + 5)),(5,vI (i : Int)),(9,vB true),(18,vB false),(28,vB false),(38,vB false),(48,vB false),(58,vB false)] ⟨rfl,congrArg (Value.int .i64) e60,rfl,rfl,rfl,rfl,rfl,rfl,rfl,trivial⟩ fun ρ0 => ?_
  refine ⟨_,op_idx (j := (i : Int)) (n := n) (q := ⟨b1,o1,none⟩) rfl (congrArg (fun u => vS u n) hpe) rfl rfl rfl (Int.natCast_nonneg _) h1,?_⟩
  iterate 2 refine ⟨_,rfl,?_⟩
  refine ⟨_,op_ldc (i := 5) rfl rfl rfl rfl hm1 hc1 rfl rfl,?_⟩
  refine ⟨ld_lt rfl rfl hb1,?_⟩
  refine ⟨_,rfl,(ac_laws_markText (k + 6 * (i : Int) + 5) st' (by omega) (by omega)).mono ?_⟩
  rintro _ sT ⟨rfl,hPT⟩
  refine ⟨hPT.2,?_⟩
  refine ⟨_,rfl,?_⟩
  rintro (_|_) h69
  rotate_left
  ·exact absurd (rfl) (str_ne h69)
  refine AW.cut lo0 sT [(0,vS p n),(1,vI (k + 6 * (i : Int) + 5)),(5,vI (i : Int)),(9,vB true),(18,vB false),(28,vB false),(38,vB false),(48,vB false),(58,vB false),(69,vB false)] ⟨rfl,rfl,rfl,rfl,rfl,rfl,rfl,rfl,rfl,rfl,trivial⟩ fun ρ0 => ?_
  refine cxs ?_
  have e71 : IntKind.wrap .i64 (k + 6 * (i : Int) + 5 + 1) = k + 6 * ((i + 1 : Nat) : Int) := (wrap_i64 (by omega) (by omega)).trans (by omega)
  refine ⟨_,rfl,?_⟩
  refine AW.cut lo0 sT [(0,vS p n),(1,vI (k + 6 * ((i + 1 : Nat) : Int))),(5,vI (i : Int)),(9,vB true),(18,vB false),(28,vB false),(38,vB false),(48,vB false),(58,vB false),(69,vB false)] ⟨rfl,congrArg (Value.int .i64) e71,rfl,rfl,rfl,rfl,rfl,rfl,rfl,rfl,trivial⟩ fun ρ0 => ?_
  have e11 : IntKind.wrap .i64 ((i : Int) + 1) = ((i + 1 : Nat) : Int) := (wrap_i64 (by omega) (by omega)).trans (by omega)
  refine ⟨_,rfl,?_⟩
  exact ⟨i + 1,n - (i + 1),by omega,⟨rfl,rfl,congrArg (Value.int .i64) e11,trivial⟩,rfl,rfl,h1',hP.trans hPT⟩
def RdL (st : St) (p : Option Addr) (l : List SV) : Prop := Rows st 2 cSV p l ∧ ∀ s ∈ l,RdS st s
theorem RdL.pres {st st' : St} {p : Option Addr} {l : List SV} (h : RdL st p l) (k : Pres st st') : RdL st' p l := ⟨k.rows h.1,fun s hs => (h.2 s hs).pres k⟩
theorem OwnP.sub {st : St} {l m : List Pc} (h : OwnP st l) (hs : m.Sublist l) : OwnP st m := ⟨fun c hc => h.1 c (hs.subset hc),h.2.sublist hs⟩
structure Lg where
 cap : Int
 frm : Int
 list : List Sta
structure LV where
 cap : Int
 frm : Int
 p : Option Addr
 l : List SV
abbrev LV.x (g : LV) : Lg := ⟨g.cap,g.frm,g.l.map (·.x)⟩
def mkS (s : Sta) (k : Int) : Sta := ⟨mkRow mkItm 6 s.items.length k,mkRow mkFlr 2 s.floors.length (k + 6 * (s.items.length : Int))⟩
theorem ac_laws_markState (s : SV) (k : Int) (st : St) (hO : OwnP st (pcS s)) (hb : bigS s.x) (h0 : 0 ≤ k) (hk : k ≤ 274877906944) : C 44 [.agg #[vS s.p s.x.items.length,vS s.q s.x.floors.length],vI k] st (fun v s' => v = vI (k + 6 * (s.x.items.length : Int) + 2 * (s.x.floors.length : Int)) ∧ OwnP s' (pcS ⟨s.p,s.q,mkS s.x k⟩) ∧ PrL [s.p,s.q] st s') := by
 have hs1 : s.x.items.length ≤ 1048576 := hb.1
 have hs2 : s.x.floors.length ≤ 1048576 := hb.2.1
 refine AC.enterX (i := ⟨[2],[2,5,9],[0,1,2,4],[]⟩) [] Try.func44 rfl rfl (by kernel_rfl) (by kernel_rfl) Try.ntmps44 (Nat.le_of_ble_eq_true rfl) rfl ?_
 refine ⟨_,rfl,?_⟩
 refine AW.cutM (1) st [(1,vI k),(2,vL 2 0 (0)),(4,vI (0))] [(2,0,[vS s.p s.x.items.length,vS s.q s.x.floors.length])] ⟨rfl,rfl,rfl,trivial⟩ ⟨rfl,trivial⟩ rfl fun ρ0 ff => ?_
 iterate 2 refine ⟨_,rfl,?_⟩
 refine ⟨_,rfl,(ac_laws_markItemS s.p s.x.items k st hO.items hb.1 h0 (by omega)).mono ?_⟩
 rintro _ s1 ⟨rfl,hO1,hP1⟩
 refine AW.cutM (1) s1 [(1,vI (k + 6 * (s.x.items.length : Int))),(2,vL 2 0 (0)),(4,vI (0))] [(2,0,[vS s.p s.x.items.length,vS s.q s.x.floors.length])] ⟨rfl,rfl,rfl,trivial⟩ ⟨rfl,trivial⟩ rfl fun ρ0 ff => ?_
 have hA := OwnP.update (l := []) (m := [pcR 2 cFlr s.q s.x.floors]) (c := pcR 6 cItm s.p s.x.items) (d := pcR 6 cItm s.p (mkRow mkItm 6 s.x.items.length k)) hO hP1 (own_pc hO1) rfl
 have hF : OwnR s1 2 cFlr s.q s.x.floors := pc_own (by decide) len_cFlr (hA.1 _ (List.mem_cons_of_mem _ (List.mem_cons_self ..)))
 iterate 2 refine ⟨_,rfl,?_⟩
 refine ⟨_,rfl,(ac_laws_markFloorS s.q s.x.floors (k + 6 * (s.x.items.length : Int)) s1 hF hb.2.1 (by omega) (by omega)).mono ?_⟩
 rintro _ s2 ⟨rfl,hO2,hP2⟩
 refine cxs ?_
 refine cxs ?_
 have hB := OwnP.update (l := [pcR 6 cItm s.p (mkRow mkItm 6 s.x.items.length k)]) (m := []) (c := pcR 2 cFlr s.q s.x.floors) (d := pcR 2 cFlr s.q (mkRow mkFlr 2 s.x.floors.length (k + 6 * (s.x.items.length : Int)))) hA hP2 (own_pc hO2) rfl
 exact ⟨.inl rfl,_,rfl,rfl,hB,(hP1.l (List.mem_cons_self ..)).trans (hP2.l (List.mem_cons_of_mem _ (List.mem_cons_self ..)))⟩
theorem PrL.ownR {α : Type} {st st' : St} {ps : List (Option Addr)} {z : Nat} {f : α → List Value} {q : Option Addr} {l : List α} (h0 : 0 < z) (hz : ∀ x,(f x).length = z) (h : PrL ps st st') (hO : OwnR st z f q l) (hd : ∀ p ∈ ps,Dis p q) : OwnR st' z f q l :=
 pc_own h0 hz ((OwnP.prl (OwnP.one (own_pc hO)) h fun c hc p hp => by rw [List.mem_singleton.1 hc]; exact hd p hp).1 _ (List.mem_singleton_self _))
def shO (p : Option Addr) (z i : Nat) : Option Addr := p.map fun q => ⟨q.block,q.off + i * z,q.spot⟩
section
variable {P : Program} {ls : List Tmp} {call : ACallT} {o : Oper} {e : Operand → Value} {lo : Lo} {st : St}
end
theorem PrL.rows {α : Type} {st st' : St} {ps : List (Option Addr)} {z : Nat} {f : α → List Value} {p : Option Addr} {l : List α} (h : PrL ps st st') (hR : Rows st z f p l) (hd : ∀ q ∈ ps,Dis p q) : Rows st' z f p l := by
 rcases hR with rfl | ⟨b,off,blk,rfl,hm,hb,hc⟩
 ·exact .inl rfl
 ·refine .inr ⟨b,off,blk,rfl,?_,Nat.lt_of_lt_of_le hb h.1,hc⟩
  rw [h.2 b hb fun q hq r hr => hd q hq _ r rfl hr]
  exact hm
theorem ac_laws_heldState (s : SV) (k : Int) (st : St) (hR : RdS st ⟨s.p,s.q,mkS s.x k⟩) (hb : bigS s.x) (h0 : 0 ≤ k) (hk : k ≤ 274877906944) : C 45 [.agg #[vS s.p s.x.items.length,vS s.q s.x.floors.length],vI k] st (fun v s' => v = vI (k + 6 * (s.x.items.length : Int) + 2 * (s.x.floors.length : Int)) ∧ Pres st s') := by
 have hs1 : s.x.items.length ≤ 1048576 := hb.1
 have hs2 : s.x.floors.length ≤ 1048576 := hb.2.1
 refine AC.enterX (i := ⟨[2],[2,5,11],[0,1,2,4,10,16],[]⟩) [] Try.func45 rfl rfl (by kernel_rfl) (by kernel_rfl) Try.ntmps45 (Nat.le_of_ble_eq_true rfl) rfl ?_
 refine ⟨_,rfl,?_⟩
 refine AW.cutM (1) st [(1,vI k),(2,vL 2 0 (0)),(4,vI (0))] [(2,0,[vS s.p s.x.items.length,vS s.q s.x.floors.length])] ⟨rfl,rfl,rfl,trivial⟩ ⟨rfl,trivial⟩ rfl fun ρ0 ff => ?_
 iterate 2 refine ⟨_,rfl,?_⟩
 refine ⟨_,rfl,(ac_laws_heldItemS s.p s.x.items.length k st hR.1 hb.1 h0 (by omega)).mono ?_⟩
 rintro _ s1 ⟨rfl,hP1⟩
 refine AW.cutM (1) s1 [(1,vI (k + 6 * (s.x.items.length : Int))),(2,vL 2 0 (0)),(4,vI (0))] [(2,0,[vS s.p s.x.items.length,vS s.q s.x.floors.length])] ⟨rfl,rfl,rfl,trivial⟩ ⟨rfl,trivial⟩ rfl fun ρ0 ff => ?_
 refine ⟨_,rfl,?_⟩
 rintro (_|_) h1
 rotate_left
 ·exact absurd (of_decide_eq_true h1) ((by omega))
 refine AW.cutM (1) s1 [(1,vI (k + 6 * (s.x.items.length : Int))),(2,vL 2 0 (0)),(4,vI (0)),(10,vB false)] [(2,0,[vS s.p s.x.items.length,vS s.q s.x.floors.length])] ⟨rfl,rfl,rfl,rfl,trivial⟩ ⟨rfl,trivial⟩ rfl fun ρ0 ff => ?_
 refine cxs ?_
 iterate 2 refine ⟨_,rfl,?_⟩
 refine ⟨_,rfl,(ac_laws_heldFloorS s.q s.x.floors.length (k + 6 * (s.x.items.length : Int)) s1 (hP1.rows hR.2) hb.2.1 (by omega) (by omega)).mono ?_⟩
 rintro _ s2 ⟨rfl,hP2⟩
 refine AW.cutM (1) s2 [(1,vI (k + 6 * (s.x.items.length : Int) + 2 * (s.x.floors.length : Int))),(4,vI (0))] [] ⟨rfl,rfl,trivial⟩ trivial rfl fun ρ0 ff => ?_
 refine ⟨_,rfl,?_⟩
 rintro (_|_) h2
 rotate_left
 ·exact absurd (of_decide_eq_true h2) ((by omega))
 refine AW.cutM (1) s2 [(1,vI (k + 6 * (s.x.items.length : Int) + 2 * (s.x.floors.length : Int))),(4,vI (0)),(16,vB false)] [] ⟨rfl,rfl,rfl,trivial⟩ trivial rfl fun ρ0 ff => ?_
 refine cxs ?_
 refine cxs ?_
 exact ⟨.inl rfl,_,rfl,rfl,hP1.trans hP2⟩
abbrev cntS (s : Sta) : Nat := 6 * s.items.length + 2 * s.floors.length
theorem wrap_nat (n : Nat) (h : n < 9223372036854775808) : IntKind.wrap .i64 (n : Int) = (n : Int) := wrap_i64 (by omega) (by omega)
def rng32 (x : Int) : Prop := 0 ≤ x ∧ x < 4294967296
def bytesOk (l : List Int) : Prop := ∀ x ∈ l,0 ≤ x ∧ x < 256
theorem bytesOk.at {l : List Int} (hl : bytesOk l) {i : Nat} {u : Int} (h : l[i]? = some u) : rng32 u := by
 have := hl u (List.mem_of_getElem? h)
 exact ⟨this.1,by omega⟩
section
variable {P : Program} {ls : List Tmp} {call : ACallT} {o : Oper} {e : Operand → Value} {lo : Lo} {st : St}
theorem op_rm {t ty : TypeId} {x y : Operand} {a b r : Int} (ho : o.op = .binOp .rem t x y ty) (hx : e x = vI a) (hy : e y = vI b) (hb : b ≠ 0) (hr : a.tmod b = r) : aoper P ls call o e lo st = some (vI r,lo,st) := by
 subst hr
 exact op_rem ho hx hy hb
theorem op_qo {t ty : TypeId} {x y : Operand} {a b r : Int} (ho : o.op = .binOp .quo t x y ty) (hx : e x = vI a) (hy : e y = vI b) (hb : b ≠ 0) (hr : a.tdiv b = r) (h1 : -9223372036854775808 ≤ r) (h2 : r < 9223372036854775808) : aoper P ls call o e lo st = some (vI r,lo,st) := by
 subst hr
 rw [op_quo ho hx hy hb,wrap_i64 h1 h2]
theorem op_ofB {src dst : TypeId} {x : Operand} {b : Int} (ho : o.op = .convert src dst x) (hx : e x = .int .u8 b) (hd : telem P dst = none) (h1 : tint P src = some .u8) (h2 : tint P dst = some .i64) (hb : rng32 b) : aoper P ls call o e lo st = some (vI b,lo,st) := by
 obtain ⟨d,op,tt,pos,after,gd⟩ := o
 simp only at ho
 subst ho
 simp only [aoper,hd,rop,hx,aconv,h1,h2,Option.bind_some,Option.map_some]
 rw [wrap_i64 (by have := hb.1; omega) (by have := hb.2; omega)]
theorem op_toB {src dst : TypeId} {x : Operand} {b r : Int} (ho : o.op = .convert src dst x) (hx : e x = vI b) (hd : telem P dst = none) (h1 : tint P src = some .i64) (h2 : tint P dst = some .u8) (hb : b = r) (h3 : 0 ≤ r) (h4 : r < 256) : aoper P ls call o e lo st = some (.int .u8 r,lo,st) := by
 obtain ⟨d,op,tt,pos,after,gd⟩ := o
 simp only at ho
 subst ho hb
 simp only [aoper,hd,rop,hx,aconv,h1,h2,Option.bind_some,Option.map_some]
 rw [wrap_u8 h3 h4]
end
theorem tm_emod {a : Int} (b : Int) (h : 0 ≤ a) : a.tmod b = a % b := Int.tmod_eq_emod_of_nonneg h
theorem td_ediv {a : Int} (b : Int) (h : 0 ≤ a) : a.tdiv b = a / b := Int.tdiv_eq_ediv_of_nonneg h
def vlq (n : Nat) : List Int := if h : n < 128 then [(n : Int)] else ((n % 128 + 128 : Nat) : Int) :: vlq (n / 128)
termination_by n
decreasing_by omega
def putN (n : Int) : List Int := if 0 ≤ n ∧ n ≤ 2147483647 then vlq n.toNat else []
theorem vlq_lt {n : Nat} (h : n < 128) : vlq n = [(n : Int)] := by rw [vlq,dif_pos h]
theorem vlq_ge {n : Nat} (h : ¬ n < 128) : vlq n = ((n % 128 + 128 : Nat) : Int) :: vlq (n / 128) := by rw [vlq,dif_neg h]
theorem vlq_len : ∀ (f n : Nat),n < 128 ^ (f + 1) → (vlq n).length ≤ f + 1
 | 0,n,h => by rw [vlq_lt (by omega)]; exact Nat.le_refl _
 | f + 1,n,h => by
  by_cases h1 : n < 128
  ·rw [vlq_lt h1]; simp
  ·rw [vlq_ge h1,List.length_cons]
   have := vlq_len f (n / 128) (by rw [Nat.pow_succ] at h; omega)
   omega
theorem vlq_pos (n : Nat) : 0 < (vlq n).length := by
 by_cases h1 : n < 128
 ·rw [vlq_lt h1]; exact Nat.one_pos
 ·rw [vlq_ge h1,List.length_cons]; omega
theorem vlq_ok : ∀ (f n : Nat),n < 128 ^ (f + 1) → bytesOk (vlq n)
 | 0,n,h => by
  rw [vlq_lt (by omega)]
  intro x hx
  rw [List.mem_singleton.1 hx]
  omega
 | f + 1,n,h => by
  by_cases h1 : n < 128
  ·rw [vlq_lt h1]
   intro x hx
   rw [List.mem_singleton.1 hx]
   omega
  ·rw [vlq_ge h1]
   intro x hx
   rcases List.mem_cons.1 hx with rfl | hx
   ·omega
   ·exact vlq_ok f (n / 128) (by rw [Nat.pow_succ] at h; omega) x hx
theorem putN_len (n : Int) : (putN n).length ≤ 5 := by
 unfold putN
 split
 ·exact vlq_len 4 _ (by omega)
 ·exact Nat.zero_le _
theorem putN_ok (n : Int) : bytesOk (putN n) := by
 unfold putN
 split
 ·exact vlq_ok 4 _ (by omega)
 ·intro x hx; cases hx
theorem bytesOk.app {a b : List Int} (ha : bytesOk a) (hb : bytesOk b) : bytesOk (a ++ b) := fun x hx => by
 rcases List.mem_append.1 hx with h | h
 ·exact ha x h
 ·exact hb x h
theorem ac_spec_PutNum (n : Int) (st : St) : C 160 [vI n] st (fun v s => ∃ q,v = vS q (putN n).length ∧ OwnR s 1 fB q (putN n) ∧ New st.next q ∧ Pres st s) := by
 refine AC.enterX (i := ⟨[],[],[0,2,3,7,10],[]⟩) [] Try.func160 rfl rfl (by kernel_rfl) (by kernel_rfl) Try.ntmps160 (Nat.le_of_ble_eq_true rfl) rfl ?_
 refine AW.cut lo0 st [(0,vI n),(2,.slice none 0 0)] ⟨rfl,rfl,trivial⟩ fun ρ0 => ?_
 refine op_nilK (z := 1) (f := fB) rfl rfl rfl rfl (by decide) rfl ?_
 intro q4 s4 hO4 hP4 hN4
 refine AW.cut lo0 s4 [(0,vI n),(2,.slice none 0 0),(3,vS q4 0)] ⟨rfl,rfl,rfl,trivial⟩ fun ρ0 => ?_
 refine ⟨_,rfl,(ac_spec_l1In n 0 2147483647 s4).mono ?_⟩
 rintro _ s4 ⟨x6,rfl,h6,rfl⟩
 rcases x6 with _|_
 ·replace h6 := of_decide_eq_false h6.symm
  refine ⟨_,rfl,?_⟩
  refine AW.cut lo0 s4 [(0,vI n),(2,.slice none 0 0),(3,vS q4 0),(7,vB true)] ⟨rfl,rfl,rfl,rfl,trivial⟩ fun ρ0 => ?_
  refine cxs ?_
  refine ⟨.inl rfl,_,rfl,?_⟩
  rw [show putN n = [] from if_neg h6]
  exact ⟨q4,rfl,hO4,hN4,hP4⟩
 ·replace h6 := of_decide_eq_true h6.symm
  refine ⟨_,rfl,?_⟩
  refine AW.cut lo0 s4 [(0,vI n),(2,.slice none 0 0),(3,vS q4 0),(7,vB false)] ⟨rfl,rfl,rfl,rfl,trivial⟩ fun ρ0 => ?_
  obtain ⟨n,rfl⟩ := Int.eq_ofNat_of_zero_le h6.1
  have hpn : vlq n = putN n := (if_pos h6).symm
  have hpl := putN_len n
  refine cxs ?_
  refine AW.loop0 (fun x : Nat × Option Addr × List Int => [(0,vI (x.1 : Int)),(2,.slice none 0 0),(3,vS x.2.1 x.2.2.length)]) (fun m (x : Nat × Option Addr × List Int) st' => m = x.1 ∧ x.1 ≤ n ∧ x.2.2 ++ vlq x.1 = putN n ∧ OwnR st' 1 fB x.2.1 x.2.2 ∧ New st.next x.2.1 ∧ Pres st st') (n,q4,[]) _ ⟨rfl,rfl,rfl,trivial⟩ rfl ⟨rfl,Nat.le_refl _,hpn,hO4,hN4,hP4⟩ ?_
  rintro m ⟨k,q,l⟩ ρ0 st' ⟨hm,hk,hv,hO,hN,hP⟩
  simp only at hm hk hv hO hN
  have hvl := congrArg List.length hv
  rw [List.length_append] at hvl
  have hv1 := vlq_pos k
  refine ⟨_,rfl,?_⟩
  rintro (_|_) h10
  ·replace h10 : ¬ ((k : Int) > (127)) := of_decide_eq_false h10
   refine AW.cut lo0 st' [(0,vI (k : Int)),(2,.slice none 0 0),(3,vS q l.length),(10,vB false)] ⟨rfl,rfl,rfl,rfl,trivial⟩ fun ρ0 => ?_
   refine cxs ?_
   refine ⟨_,op_toB (r := (k : Int)) rfl rfl rfl rfl rfl rfl (by omega) (by omega),?_⟩
   refine op_one (z := 1) (a := ((k : Int) : Int)) (f := fB) rfl rfl rfl rfl rfl (by decide) rfl (Nat.le_of_ble_eq_true rfl) rfl rfl rfl ?_
   refine op_snoc (z := 1) (st := st') (f := fB) (b := 1) (l := l) (x := (k : Int)) rfl rfl rfl rfl rfl rfl rfl (by decide) fB_len rfl rfl rfl (by omega) (by unfold maxLen; omega) hO ?_
   intro q24 s24 hO24 hP24 hN24
   refine cxs ?_
   refine ⟨.inl rfl,_,rfl,q24,?_⟩
   rw [← hv,vlq_lt (n := k) (by omega)]
   exact ⟨rfl,hO24,hN24.le hP.1,hP24.pres hP hN⟩
  ·replace h10 : (k : Int) > (127) := of_decide_eq_true h10
   refine AW.cut lo0 st' [(0,vI (k : Int)),(2,.slice none 0 0),(3,vS q l.length),(10,vB true)] ⟨rfl,rfl,rfl,rfl,trivial⟩ fun ρ0 => ?_
   refine cxs ?_
   refine ⟨_,op_rm (r := ((k % 128 : Nat) : Int)) rfl rfl rfl (by decide) ((tm_emod 128 (by omega)).trans (by omega)),?_⟩
   have ew14 : IntKind.wrap .i64 (((k % 128 : Nat) : Int) + (128)) = ((k % 128 + 128 : Nat) : Int) := (wrap_i64 (by omega) (by omega)).trans (by omega)
   refine ⟨_,rfl,?_⟩
   refine ⟨_,op_toB (r := ((k % 128 + 128 : Nat) : Int)) rfl rfl rfl rfl rfl (ew14.trans (by omega)) (by omega) (by omega),?_⟩
   refine op_one (z := 1) (a := (((k % 128 + 128 : Nat) : Int) : Int)) (f := fB) rfl rfl rfl rfl rfl (by decide) rfl (Nat.le_of_ble_eq_true rfl) rfl rfl rfl ?_
   refine op_snoc (z := 1) (st := st') (f := fB) (b := 1) (l := l) (x := ((k % 128 + 128 : Nat) : Int)) rfl rfl rfl rfl rfl rfl rfl (by decide) fB_len rfl rfl rfl (by omega) (by unfold maxLen; omega) hO ?_
   intro q17 s17 hO17 hP17 hN17
   refine AW.cut lo0 s17 [(0,vI (k : Int)),(2,.slice none 0 0),(3,vS q17 (l ++ [((k % 128 + 128 : Nat) : Int)]).length),(10,vB true)] ⟨rfl,rfl,rfl,rfl,trivial⟩ fun ρ0 => ?_
   refine ⟨_,op_qo (r := ((k / 128 : Nat) : Int)) rfl rfl rfl (by decide) ((td_ediv 128 (by omega)).trans (by omega)) (by omega) (by omega),?_⟩
   exact ⟨(k / 128,q17,l ++ [((k % 128 + 128 : Nat) : Int)]),k / 128,by omega,⟨rfl,rfl,rfl,trivial⟩,rfl,rfl,by simp only; omega,by rw [← hv,vlq_ge (n := k) (by omega),List.append_assoc]; rfl,hO17,hN17.le hP.1,hP17.pres hP hN⟩
theorem ac_impl_PutNum (n : Int) (st : St) : C 108 [vI n] st (fun v s => ∃ q,v = vS q (putN n).length ∧ OwnR s 1 fB q (putN n) ∧ New st.next q ∧ Pres st s) := by
 refine AC.enterX (i := ⟨[],[],[0,2,3,6,9],[]⟩) [] Try.func108 rfl rfl (by kernel_rfl) (by kernel_rfl) Try.ntmps108 (Nat.le_of_ble_eq_true rfl) rfl ?_
 refine AW.cut lo0 st [(0,vI n),(2,.slice none 0 0)] ⟨rfl,rfl,trivial⟩ fun ρ0 => ?_
 refine ⟨_,rfl,(ac_impl_within n 0 2147483647 st).mono ?_⟩
 rintro _ st ⟨x5,rfl,h5,rfl⟩
 rcases x5 with _|_
 ·replace h5 := of_decide_eq_false h5.symm
  refine ⟨_,rfl,?_⟩
  refine AW.cut lo0 st [(0,vI n),(2,.slice none 0 0),(6,vB true)] ⟨rfl,rfl,rfl,trivial⟩ fun ρ0 => ?_
  refine cxs ?_
  refine ⟨.inl rfl,_,rfl,?_⟩
  rw [show putN n = [] from if_neg h5]
  exact ⟨none,rfl,OwnR.nil,New.none,Pres.refl _⟩
 ·replace h5 := of_decide_eq_true h5.symm
  refine ⟨_,rfl,?_⟩
  refine AW.cut lo0 st [(0,vI n),(2,.slice none 0 0),(6,vB false)] ⟨rfl,rfl,rfl,trivial⟩ fun ρ0 => ?_
  obtain ⟨n,rfl⟩ := Int.eq_ofNat_of_zero_le h5.1
  have hpn : vlq n = putN n := (if_pos h5).symm
  have hpl := putN_len n
  refine cxs ?_
  refine op_nilK (z := 1) (f := fB) rfl rfl rfl rfl (by decide) rfl ?_
  intro q7 s7 hO7 hP7 hN7
  refine AW.cut lo0 s7 [(0,vI n),(2,.slice none 0 0),(3,vS q7 0)] ⟨rfl,rfl,rfl,trivial⟩ fun ρ0 => ?_
  refine AW.loop0 (fun x : Nat × Option Addr × List Int => [(0,vI (x.1 : Int)),(2,.slice none 0 0),(3,vS x.2.1 x.2.2.length)]) (fun m (x : Nat × Option Addr × List Int) st' => m = x.1 ∧ x.1 ≤ n ∧ x.2.2 ++ vlq x.1 = putN n ∧ OwnR st' 1 fB x.2.1 x.2.2 ∧ New st.next x.2.1 ∧ Pres st st') (n,q7,[]) _ ⟨rfl,rfl,rfl,trivial⟩ rfl ⟨rfl,Nat.le_refl _,hpn,hO7,hN7,hP7⟩ ?_
  rintro m ⟨k,q,l⟩ ρ0 st' ⟨hm,hk,hv,hO,hN,hP⟩
  simp only at hm hk hv hO hN
  have hvl := congrArg List.length hv
  rw [List.length_append] at hvl
  have hv1 := vlq_pos k
  refine ⟨_,rfl,?_⟩
  rintro (_|_) h9
  ·replace h9 : ¬ ((k : Int) ≥ (128)) := of_decide_eq_false h9
   refine AW.cut lo0 st' [(0,vI (k : Int)),(2,.slice none 0 0),(3,vS q l.length),(9,vB false)] ⟨rfl,rfl,rfl,rfl,trivial⟩ fun ρ0 => ?_
   refine cxs ?_
   refine ⟨_,op_toB (r := (k : Int)) rfl rfl rfl rfl rfl rfl (by omega) (by omega),?_⟩
   refine op_one (z := 1) (a := ((k : Int) : Int)) (f := fB) rfl rfl rfl rfl rfl (by decide) rfl (Nat.le_of_ble_eq_true rfl) rfl rfl rfl ?_
   refine op_snoc (z := 1) (st := st') (f := fB) (b := 1) (l := l) (x := (k : Int)) rfl rfl rfl rfl rfl rfl rfl (by decide) fB_len rfl rfl rfl (by omega) (by unfold maxLen; omega) hO ?_
   intro q23 s23 hO23 hP23 hN23
   refine cxs ?_
   refine ⟨.inl rfl,_,rfl,q23,?_⟩
   rw [← hv,vlq_lt (n := k) (by omega)]
   exact ⟨rfl,hO23,hN23.le hP.1,hP23.pres hP hN⟩
  ·replace h9 : (k : Int) ≥ (128) := of_decide_eq_true h9
   refine AW.cut lo0 st' [(0,vI (k : Int)),(2,.slice none 0 0),(3,vS q l.length),(9,vB true)] ⟨rfl,rfl,rfl,rfl,trivial⟩ fun ρ0 => ?_
   refine cxs ?_
   refine ⟨_,op_rm (r := ((k % 128 : Nat) : Int)) rfl rfl rfl (by decide) ((tm_emod 128 (by omega)).trans (by omega)),?_⟩
   have ew13 : IntKind.wrap .i64 (((k % 128 : Nat) : Int) + (128)) = ((k % 128 + 128 : Nat) : Int) := (wrap_i64 (by omega) (by omega)).trans (by omega)
   refine ⟨_,rfl,?_⟩
   refine ⟨_,op_toB (r := ((k % 128 + 128 : Nat) : Int)) rfl rfl rfl rfl rfl (ew13.trans (by omega)) (by omega) (by omega),?_⟩
   refine op_one (z := 1) (a := (((k % 128 + 128 : Nat) : Int) : Int)) (f := fB) rfl rfl rfl rfl rfl (by decide) rfl (Nat.le_of_ble_eq_true rfl) rfl rfl rfl ?_
   refine op_snoc (z := 1) (st := st') (f := fB) (b := 1) (l := l) (x := ((k % 128 + 128 : Nat) : Int)) rfl rfl rfl rfl rfl rfl rfl (by decide) fB_len rfl rfl rfl (by omega) (by unfold maxLen; omega) hO ?_
   intro q16 s16 hO16 hP16 hN16
   refine AW.cut lo0 s16 [(0,vI (k : Int)),(2,.slice none 0 0),(3,vS q16 (l ++ [((k % 128 + 128 : Nat) : Int)]).length),(9,vB true)] ⟨rfl,rfl,rfl,rfl,trivial⟩ fun ρ0 => ?_
   refine ⟨_,op_qo (r := ((k / 128 : Nat) : Int)) rfl rfl rfl (by decide) ((td_ediv 128 (by omega)).trans (by omega)) (by omega) (by omega),?_⟩
   exact ⟨(k / 128,q16,l ++ [((k % 128 + 128 : Nat) : Int)]),k / 128,by omega,⟨rfl,rfl,rfl,trivial⟩,rfl,rfl,by simp only; omega,by rw [← hv,vlq_ge (n := k) (by omega),List.append_assoc]; rfl,hO16,hN16.le hP.1,hP16.pres hP hN⟩
def fl (t : List RV) : List Int := t.flatMap fun r => r.l
theorem fl_succ {t : List RV} {i : Nat} {r : RV} (h : t[i]? = some r) : fl (t.take (i + 1)) = fl (t.take i) ++ r.l := by
 unfold fl
 rw [List.take_add_one,h,List.flatMap_append]
 simp
theorem fl_le (t : List RV) (i : Nat) : (fl (t.take i)).length ≤ (fl t).length := by
 unfold fl
 conv => rhs; rw [← List.take_append_drop i t]
 rw [List.flatMap_append,List.length_append]
 omega
theorem ac_impl_joined (p : Option Addr) (t : List RV) (st : St) (hR : Rows st 1 cRV p t) (hB : ∀ r ∈ t,Rows st 1 fB r.p r.l) (hs : szOk t.length) (hl : (fl t).length ≤ 1073741824) : C 109 [vS p t.length] st (fun v s => ∃ q,v = vS q (fl t).length ∧ OwnR s 1 fB q (fl t) ∧ New st.next q ∧ Pres st s) := by
 have hs : t.length ≤ 1048576 := hs
 refine AC.enterX (i := ⟨[],[],[0,2,3,5,7,8,9,10],[]⟩) [] Try.func109 rfl rfl (by kernel_rfl) (by kernel_rfl) Try.ntmps109 (Nat.le_of_ble_eq_true rfl) rfl ?_
 refine AW.cut lo0 st [(0,vS p t.length),(2,.slice none 0 0)] ⟨rfl,rfl,trivial⟩ fun ρ0 => ?_
 refine op_nilK (z := 1) (f := fB) rfl rfl rfl rfl (by decide) rfl ?_
 intro q6 s6 hO6 hP6 hN6
 refine AW.cut lo0 s6 [(0,vS p t.length),(2,.slice none 0 0),(3,vS q6 0)] ⟨rfl,rfl,rfl,trivial⟩ fun ρ0 => ?_
 refine ⟨_,rfl,?_⟩
 refine AW.cut lo0 s6 [(2,.slice none 0 0),(3,vS q6 0),(7,vS p t.length),(8,vI (t.length : Int)),(9,vI (0))] ⟨rfl,rfl,rfl,rfl,rfl,trivial⟩ fun ρ0 => ?_
 refine AW.loop0 (fun x : Nat × Option Addr × List Int => [(2,.slice none 0 0),(3,vS x.2.1 x.2.2.length),(7,vS p t.length),(8,vI (t.length : Int)),(9,vI (x.1 : Int))]) (fun m (x : Nat × Option Addr × List Int) st' => m = t.length - x.1 ∧ x.1 ≤ t.length ∧ x.2.2 = fl (t.take x.1) ∧ OwnR st' 1 fB x.2.1 x.2.2 ∧ New st.next x.2.1 ∧ Pres st st') (0,q6,[]) _ ⟨rfl,rfl,rfl,rfl,rfl,trivial⟩ rfl ⟨rfl,Nat.zero_le _,rfl,hO6,hN6,hP6⟩ ?_
 rintro m ⟨i,q,l⟩ ρ0 st' ⟨rfl,hi,hv,hO,hN,hP⟩
 simp only at hi hv hO hN
 refine ⟨_,rfl,?_⟩
 rintro (_|_) h10
 ·replace h10 : ¬ ((i : Int) < (t.length : Int)) := of_decide_eq_false h10
  refine AW.cut lo0 st' [(2,.slice none 0 0),(3,vS q l.length),(7,vS p t.length),(8,vI (t.length : Int)),(9,vI (i : Int)),(10,vB false)] ⟨rfl,rfl,rfl,rfl,rfl,rfl,trivial⟩ fun ρ0 => ?_
  refine cxs ?_
  refine cxs ?_
  refine ⟨.inl rfl,_,rfl,q,?_⟩
  rw [show fl t = l by rw [hv,show i = t.length by omega,List.take_length]]
  exact ⟨rfl,hO,hN,hP⟩
 ·replace h10 : (i : Int) < (t.length : Int) := of_decide_eq_true h10
  refine AW.cut lo0 st' [(2,.slice none 0 0),(3,vS q l.length),(7,vS p t.length),(8,vI (t.length : Int)),(9,vI (i : Int)),(10,vB true)] ⟨rfl,rfl,rfl,rfl,rfl,rfl,trivial⟩ fun ρ0 => ?_
  refine cxs ?_
  refine op_at i (hP.rows hR) (by omega) rfl rfl rfl rfl rfl rfl rfl ?_
  intro x11 b11 d11 k11 hy11 hb11 hm11 hc11 ho11
  refine ⟨_,op_ldc (i := 0) rfl rfl rfl rfl hm11 hc11 rfl rfl,?_⟩
  refine AW.cut lo0 st' [(2,.slice none 0 0),(3,vS q l.length),(5,vS x11.p x11.l.length),(7,vS p t.length),(8,vI (t.length : Int)),(9,vI (i : Int)),(10,vB true)] ⟨rfl,rfl,rfl,rfl,rfl,rfl,rfl,trivial⟩ fun ρ0 => ?_
  have hsc := fl_succ hy11
  have hle := fl_le t (i + 1)
  have hll := congrArg List.length hsc
  rw [List.length_append,← hv] at hll
  have hrb := hB _ (List.mem_of_getElem? hy11)
  refine op_cat' (z := 1) (st := st') (f := fB) (b := 1) (l := l) (l2 := x11.l) rfl rfl rfl rfl rfl rfl rfl (by decide) fB_len rfl rfl rfl rfl (by first | omega | (simp only [List.length_nil]; omega)) (by unfold maxLen; first | omega | (simp only [List.length_nil]; omega)) hO (hP.rows hrb) ?_
  intro q15 s15 hO15 hPr15 hN15
  refine AW.cut lo0 s15 [(2,.slice none 0 0),(3,vS q15 (l ++ x11.l).length),(5,vS x11.p x11.l.length),(7,vS p t.length),(8,vI (t.length : Int)),(9,vI (i : Int)),(10,vB true)] ⟨rfl,rfl,rfl,rfl,rfl,rfl,rfl,trivial⟩ fun ρ0 => ?_
  have ew16 : IntKind.wrap .i64 ((i : Int) + (1)) = ((i + 1 : Nat) : Int) := (wrap_i64 (by omega) (by omega)).trans (by omega)
  refine ⟨_,rfl,?_⟩
  refine ⟨(i + 1,q15,l ++ x11.l),t.length - (i + 1),by omega,⟨rfl,rfl,rfl,rfl,congrArg (Value.int .i64) ew16,trivial⟩,rfl,rfl,by omega,by rw [hsc,← hv],hO15,?_,hPr15.pres hP hN⟩
  rcases hN15 with ⟨h,_⟩ | ⟨_,h⟩
  ·rw [h]; exact hN
  ·exact h.le hP.1
def gnF : List Int → Nat → Int → Option (Int × Nat)
 | [],_,_ => none
 | b :: t,i,n => if 5 ≤ i then none else if b < 128 then (if (0 < i ∧ b = 0) ∨ 2147483647 < n + b * 2 ^ (7 * i) then none else some (n + b * 2 ^ (7 * i),i + 1)) else gnF t (i + 1) (n + b % 128 * 2 ^ (7 * i))
theorem gnF_vlq : ∀ (k i n : Nat) (r : List Int),n + k * 2 ^ (7 * i) ≤ 2147483647 → (0 < k ∨ i = 0) → gnF (vlq k ++ r) i n = some (((n + k * 2 ^ (7 * i) : Nat) : Int),i + (vlq k).length) := by
 intro k
 induction k using Nat.strongRecOn with
 | _ k ih =>
  intro i n r h hk
  have h5 : ¬ 5 ≤ i := by
   intro h5
   rcases hk with hk | hk
   ·have h1 : 2 ^ 35 ≤ 2 ^ (7 * i) := Nat.pow_le_pow_right (by decide) (by omega)
    have h2 : 2 ^ (7 * i) ≤ k * 2 ^ (7 * i) := Nat.le_mul_of_pos_left _ hk
    have h3 : (2 : Nat) ^ 35 = 34359738368 := by decide
    omega
   ·omega
  by_cases hlt : k < 128
  ·rw [vlq_lt hlt]
   simp only [List.cons_append,List.nil_append,gnF]
   rw [if_neg h5,if_pos (by omega)]
   have hc : ((n : Int) + (k : Int) * 2 ^ (7 * i)) = ((n + k * 2 ^ (7 * i) : Nat) : Int) := by push_cast; rfl
   rw [if_neg (by rw [hc]; omega),hc]
   rfl
  ·rw [vlq_ge hlt]
   simp only [List.cons_append,gnF]
   rw [if_neg h5,if_neg (by omega)]
   have hm : (((k % 128 + 128 : Nat) : Int) % 128) = ((k % 128 : Nat) : Int) := by omega
   have hc : ((n : Int) + ((k % 128 : Nat) : Int) * 2 ^ (7 * i)) = ((n + k % 128 * 2 ^ (7 * i) : Nat) : Int) := by push_cast; rfl
   have hp : n + k % 128 * 2 ^ (7 * i) + k / 128 * 2 ^ (7 * (i + 1)) = n + k * 2 ^ (7 * i) := by
    have e1 : 2 ^ (7 * (i + 1)) = 128 * 2 ^ (7 * i) := by rw [Nat.mul_add,Nat.pow_add,Nat.mul_comm]
    rw [e1,← Nat.mul_assoc,Nat.add_assoc,← Nat.add_mul]
    congr 2
    omega
   rw [hm,hc,ih (k / 128) (by omega) (i + 1) (n + k % 128 * 2 ^ (7 * i)) r (by rw [hp]; exact h) (.inl (by omega)),hp]
   simp only [List.length_cons]
   rw [show i + 1 + (vlq (k / 128)).length = i + ((vlq (k / 128)).length + 1) by omega]
def gnAt (l : List Int) (at_ : Int) : Option (Int × Int) := if at_ < 0 then none else (gnF (l.drop at_.toNat) 0 0).map fun r => (r.1,at_ + r.2)
theorem gnAt_put {a r : List Int} {n : Int} (h : 0 ≤ n ∧ n ≤ 2147483647) : gnAt (a ++ (putN n ++ r)) a.length = some (n,(a.length : Int) + (putN n).length) := by
 unfold gnAt
 rw [if_neg (by omega),Int.toNat_natCast,List.drop_left]
 have : putN n = vlq n.toNat := if_pos h
 rw [this,show (0 : Int) = ((0 : Nat) : Int) from rfl,gnF_vlq n.toNat 0 0 r (by omega) (.inr rfl)]
 simp only [Option.map_some,Nat.mul_zero,Nat.pow_zero,Nat.mul_one,Nat.zero_add]
 congr 2
 omega
section
variable {P : Program} {ls : List Tmp} {call : ACallT} {o : Oper} {e : Operand → Value} {lo : Lo} {st : St}
theorem op_sl {t ty : TypeId} {x y : Operand} {a r : Int} {b : Nat} (ho : o.op = .binOp .shl t x y ty) (hx : e x = vI a) (hy : e y = vI (b : Int)) (hb : b ≤ 63) (hr : a * 2 ^ b = r) (h1 : -9223372036854775808 ≤ r) (h2 : r < 9223372036854775808) : aoper P ls call o e lo st = some (vI r,lo,st) := by
 obtain ⟨d,op,tt,pos,after,gd⟩ := o
 simp only at ho
 subst ho hr
 have h3 : (0 : Int) ≤ (b : Int) ∧ (b : Int) ≤ IntKind.bits .i64 := ⟨by omega,by show (b : Int) ≤ 64; omega⟩
 simp only [aoper,rop,hx,hy,abin,if_pos h3,Int.toNat_natCast,Option.map_some]
 rw [wrap_i64 h1 h2]
theorem op_ad {t ty : TypeId} {x y : Operand} {a b r : Int} (ho : o.op = .binOp .add t x y ty) (hx : e x = vI a) (hy : e y = vI b) (hr : a + b = r) (h1 : -9223372036854775808 ≤ r) (h2 : r < 9223372036854775808) : aoper P ls call o e lo st = some (vI r,lo,st) := by
 obtain ⟨d,op,tt,pos,after,gd⟩ := o
 simp only at ho
 subst ho hr
 simp only [aoper,rop,hx,hy,abin,aint,if_true,Option.map_some]
 rw [wrap_i64 h1 h2]
theorem bits_or {a b : Nat} (ha : a < 4294967296) (hb : b < 1099511627776) : bits .or .i64 (a : Int) (b : Int) = ((a ||| b : Nat) : Int) := by
 have h : a ||| b < 2 ^ 40 := Nat.or_lt_two_pow (n := 40) (by omega) (by omega)
 have h1 : (BitVec.ofInt 64 (a : Int) ||| BitVec.ofInt 64 (b : Int)).toNat = a ||| b := by
  rw [BitVec.toNat_or,BitVec.ofInt_natCast,BitVec.ofInt_natCast,BitVec.toNat_ofNat,BitVec.toNat_ofNat,Nat.mod_eq_of_lt (by omega),Nat.mod_eq_of_lt (by omega)]
 show IntKind.wrap .i64 (((BitVec.ofInt 64 (a : Int) ||| BitVec.ofInt 64 (b : Int)).toNat : Nat) : Int) = _
 rw [h1]
 exact wrap_nat _ (by omega)
theorem op_or {t ty : TypeId} {x y : Operand} {a b r : Int} (ho : o.op = .binOp .or t x y ty) (hx : e x = vI a) (hy : e y = vI b) (hr : bits .or .i64 a b = r) : aoper P ls call o e lo st = some (vI r,lo,st) := by
 obtain ⟨d,op,tt,pos,after,gd⟩ := o
 simp only at ho
 subst ho hr
 simp [aoper,rop,hx,hy,abin,aint]
end
theorem or_add {n c i : Nat} (hn : n < 2 ^ (7 * i)) (hc : c < 128) (hi : i ≤ 4) : bits .or .i64 (n : Int) ((c * 2 ^ (7 * i) : Nat) : Int) = ((n + c * 2 ^ (7 * i) : Nat) : Int) := by
 have h1 : 2 ^ (7 * i) ≤ 2 ^ 28 := Nat.pow_le_pow_right (by decide) (by omega)
 have h2 : c * 2 ^ (7 * i) ≤ 127 * 2 ^ 28 := Nat.mul_le_mul (by omega) h1
 have h3 : (2 : Nat) ^ 28 = 268435456 := by decide
 rw [bits_or (by omega) (by omega)]
 congr 1
 rw [Nat.or_comm,Nat.mul_comm,← Nat.two_pow_add_eq_or_of_lt hn,Nat.add_comm]
def gnR (l : List Int) (a : Int) : Int × Int × Bool := match gnAt l a with
 | some r => (r.1,r.2,true)
 | none => (0,0,false)
theorem gnR_neg {l : List Int} {a : Int} (h : a < 0) : gnR l a = (0,0,false) := by unfold gnR gnAt; rw [if_pos h]
theorem gnR_of {l : List Int} {a : Nat} : gnR l a = match gnF (l.drop a) 0 0 with
  | some r => (r.1,(a : Int) + r.2,true)
  | none => (0,0,false) := by
 unfold gnR gnAt
 rw [if_neg (by omega),Int.toNat_natCast]
 cases gnF (l.drop a) 0 0 <;> rfl
theorem dropCons {α : Type} {l : List α} {j : Nat} {x : α} (h : l[j]? = some x) : l.drop j = x :: l.drop (j + 1) := by
 obtain ⟨h1,rfl⟩ := List.getElem?_eq_some_iff.1 h
 exact List.drop_eq_getElem_cons h1
theorem gnF_five {l : List Int} {n : Int} : gnF l 5 n = none := by cases l <;> rfl
theorem gnF_go {l : List Int} {j i n c : Nat} {b : Int} (hb : l[j]? = some b) (hi : i ≤ 4) (h1 : ¬ b < 128) (hc : b % 128 = (c : Int)) : gnF (l.drop j) i n = gnF (l.drop (j + 1)) (i + 1) ((n + c * 2 ^ (7 * i) : Nat) : Int) := by
 rw [dropCons hb]
 simp only [gnF]
 rw [if_neg (by omega),if_neg h1,hc]
 congr 1
theorem gnF_no {l : List Int} {j i n : Nat} {b : Int} (hb : l[j]? = some b) (h1 : b < 128) (h2 : (0 < i ∧ b = 0) ∨ 2147483647 < n + b * 2 ^ (7 * i)) : gnF (l.drop j) i n = none := by
 rw [dropCons hb]
 simp only [gnF]
 by_cases h5 : 5 ≤ i
 ·rw [if_pos h5]
 ·rw [if_neg h5,if_pos h1,if_pos h2]
theorem gnF_yes {l : List Int} {j i n : Nat} {b : Int} (hb : l[j]? = some b) (hi : i ≤ 4) (h1 : b < 128) (h2 : ¬ ((0 < i ∧ b = 0) ∨ 2147483647 < n + b * 2 ^ (7 * i))) : gnF (l.drop j) i n = some (n + b * 2 ^ (7 * i),i + 1) := by
 rw [dropCons hb]
 simp only [gnF]
 rw [if_neg (by omega),if_pos h1,if_neg h2]
theorem pow7 {i : Nat} (h : i ≤ 4) (c : Nat) : c % 128 * 2 ^ (7 * i) ≤ 34091302912 := by
 have h1 : 2 ^ (7 * i) ≤ 2 ^ 28 := Nat.pow_le_pow_right (by decide) (by omega)
 have h2 : c % 128 * 2 ^ (7 * i) ≤ 127 * 2 ^ 28 := Nat.mul_le_mul (by omega) h1
 omega
theorem pow7n {i n : Nat} (h : i ≤ 4) (hn : n < 2 ^ (7 * i)) : n < 268435456 := by
 have h1 : 2 ^ (7 * i) ≤ 2 ^ 28 := Nat.pow_le_pow_right (by decide) (by omega)
 omega
theorem pow7s {i n c : Nat} (hn : n < 2 ^ (7 * i)) : n + c % 128 * 2 ^ (7 * i) < 2 ^ (7 * (i + 1)) := by
 have e1 : 2 ^ (7 * (i + 1)) = 128 * 2 ^ (7 * i) := by rw [Nat.mul_add,Nat.pow_add,Nat.mul_comm]
 have h2 : c % 128 * 2 ^ (7 * i) ≤ 127 * 2 ^ (7 * i) := Nat.mul_le_mul_right _ (by omega)
 omega
theorem gnR_yes {l : List Int} {a i n c : Nat} (hg : gnF (l.drop a) 0 0 = gnF (l.drop (a + i)) i n) (hb : l[a + i]? = some (c : Int)) (hi : i ≤ 4) (h1 : c < 128) (h2 : ¬ ((0 < i ∧ c = 0) ∨ 2147483647 < n + c % 128 * 2 ^ (7 * i))) : (((n + c % 128 * 2 ^ (7 * i) : Nat) : Int),(a : Int) + i + 1,true) = gnR l a := by
 have hm : c % 128 = c := Nat.mod_eq_of_lt h1
 have hc : ((n : Int) + (c : Int) * 2 ^ (7 * i)) = ((n + c * 2 ^ (7 * i) : Nat) : Int) := by push_cast; rfl
 rw [hm] at h2 ⊢
 rw [gnR_of,hg,gnF_yes hb hi (by omega) (by rw [hc]; omega),hc]
 simp only [Int.natCast_add,Int.natCast_one,Int.add_assoc]
theorem gnR_no {l : List Int} {a i n c : Nat} (hg : gnF (l.drop a) 0 0 = gnF (l.drop (a + i)) i n) (hb : l[a + i]? = some (c : Int)) (h1 : c < 128) (h2 : (0 < i ∧ c = 0) ∨ 2147483647 < n + c % 128 * 2 ^ (7 * i)) : (0,0,false) = gnR l a := by
 have hm : c % 128 = c := Nat.mod_eq_of_lt h1
 have hc : ((n : Int) + (c : Int) * 2 ^ (7 * i)) = ((n + c * 2 ^ (7 * i) : Nat) : Int) := by push_cast; rfl
 rw [hm] at h2
 rw [gnR_of,hg,gnF_no hb (by omega) (by rw [hc]; omega)]
theorem gnR_end {l : List Int} {a i n : Nat} (hg : gnF (l.drop a) 0 0 = gnF (l.drop (a + i)) i n) (h : i = 5 ∨ l.length ≤ a + i) : (0,0,false) = gnR l a := by
 rw [gnR_of,hg]
 rcases h with rfl | h
 ·rw [gnF_five]
 ·rw [List.drop_eq_nil_of_le h]; rfl
theorem ac_impl_GetNum (p : Option Addr) (l : List Int) (a : Int) (st : St) (hR : Rows st 1 fB p l) (hl : bytesOk l) (hs : l.length ≤ 1099511627776) (ha : a ≤ 1099511627776) : C 162 [vS p l.length,vI a] st (fun v s => ∃ n k b,v = .tuple #[vI n,vI k,vB b] ∧ (n,k,b) = gnR l a ∧ s = st) := by
 refine AC.enterX (i := ⟨[],[],[0,1,4,5,6,7,8,9,17,27,45,55],[]⟩) [] Try.func162 rfl rfl (by kernel_rfl) (by kernel_rfl) Try.ntmps162 (Nat.le_of_ble_eq_true rfl) rfl ?_
 refine AW.cut lo0 st [(0,vS p l.length),(1,vI a),(4,vI (0)),(5,vI (0)),(6,vB false)] ⟨rfl,rfl,rfl,rfl,rfl,trivial⟩ fun ρ0 => ?_
 refine ⟨_,rfl,?_⟩
 rintro (_|_) h11
 ·replace h11 : ¬ (a < (0)) := of_decide_eq_false h11
  iterate 2 refine ⟨_,rfl,?_⟩
  rintro (_|_) h16
  ·replace h16 : ¬ (a ≥ (l.length : Int)) := of_decide_eq_false h16
   refine ⟨_,rfl,?_⟩
   refine AW.cut lo0 st [(0,vS p l.length),(1,vI a),(4,vI (0)),(5,vI (0)),(6,vB false),(17,vB false)] ⟨rfl,rfl,rfl,rfl,rfl,rfl,trivial⟩ fun ρ0 => ?_
   obtain ⟨a,rfl⟩ := Int.eq_ofNat_of_zero_le (show 0 ≤ a by omega)
   refine cxs ?_
   refine cxs ?_
   refine AW.cut lo0 st [(0,vS p l.length),(1,vI a),(4,vI (0)),(5,vI (0)),(6,vB false),(7,vI (0)),(8,vI (0))] ⟨rfl,rfl,rfl,rfl,rfl,rfl,rfl,trivial⟩ fun ρ0 => ?_
   refine AW.loop0 (fun x : Nat × Nat => [(0,vS p l.length),(1,vI a),(7,vI (x.2 : Int)),(8,vI (x.1 : Int))]) (fun m (x : Nat × Nat) st' => m = 5 - x.1 ∧ x.1 ≤ 5 ∧ x.2 < 2 ^ (7 * x.1) ∧ gnF (l.drop a) 0 0 = gnF (l.drop (a + x.1)) x.1 x.2 ∧ st = st') (0,0) _ ⟨rfl,rfl,rfl,rfl,trivial⟩ rfl ⟨rfl,Nat.zero_le _,Nat.one_pos,rfl,rfl⟩ ?_
   rintro m ⟨i,n⟩ ρ0 st' ⟨rfl,hi,hn,hg,rfl⟩
   simp only at hi hn hg
   refine ⟨_,rfl,?_⟩
   rintro (_|_) h19
   ·replace h19 : ¬ ((i : Int) < (5)) := of_decide_eq_false h19
    refine ⟨_,rfl,?_⟩
    refine AW.cut lo0 st [(0,vS p l.length),(1,vI a),(7,vI (n : Int)),(8,vI (i : Int)),(27,vB false)] ⟨rfl,rfl,rfl,rfl,rfl,trivial⟩ fun ρ0 => ?_
    refine cxs ?_
    refine cxs ?_
    exact ⟨.inl rfl,_,rfl,0,0,false,rfl,gnR_end hg (.inl (by omega)),rfl⟩
   ·replace h19 : (i : Int) < (5) := of_decide_eq_true h19
    have ew23 : IntKind.wrap .i64 (a + (i : Int)) = a + (i : Int) := wrap_i64 (by omega) (by omega)
    iterate 3 refine ⟨_,rfl,?_⟩
    rintro (_|_) h26
    ·replace h26 : ¬ ((IntKind.wrap .i64 (a + (i : Int))) < (l.length : Int)) := of_decide_eq_false h26
     rw [ew23] at h26
     refine ⟨_,rfl,?_⟩
     refine AW.cut lo0 st [(0,vS p l.length),(1,vI a),(7,vI (n : Int)),(8,vI (i : Int)),(27,vB false)] ⟨rfl,rfl,rfl,rfl,rfl,trivial⟩ fun ρ0 => ?_
     refine cxs ?_
     refine cxs ?_
     exact ⟨.inl rfl,_,rfl,0,0,false,rfl,gnR_end hg (.inr (by omega)),rfl⟩
    ·replace h26 : (IntKind.wrap .i64 (a + (i : Int))) < (l.length : Int) := of_decide_eq_true h26
     rw [ew23] at h26
     refine ⟨_,rfl,?_⟩
     refine AW.cut lo0 st [(0,vS p l.length),(1,vI a),(7,vI (n : Int)),(8,vI (i : Int)),(27,vB true)] ⟨rfl,rfl,rfl,rfl,rfl,trivial⟩ fun ρ0 => ?_
     refine cxs ?_
     have ew33 : IntKind.wrap .i64 (a + (i : Int)) = a + (i : Int) := wrap_i64 (by omega) (by omega)
     refine ⟨_,rfl,?_⟩
     refine op_at ((a + (i : Int)).toNat) hR (by omega) rfl rfl rfl rfl (by rw [ew33]; omega) rfl rfl ?_
     intro x34 b34 d34 k34 hy34 hb34 hm34 hc34 ho34
     refine ⟨_,op_ldc (i := 0) rfl rfl rfl rfl hm34 hc34 rfl rfl,?_⟩
     refine ⟨_,op_ofB rfl rfl rfl rfl rfl (hl.at hy34),?_⟩
     refine AW.cut lo0 st [(0,vS p l.length),(1,vI a),(7,vI (n : Int)),(8,vI (i : Int)),(9,vI (x34 : Int)),(27,vB true)] ⟨rfl,rfl,rfl,rfl,rfl,rfl,trivial⟩ fun ρ0 => ?_
     obtain ⟨x34,rfl⟩ := Int.eq_ofNat_of_zero_le (show 0 ≤ x34 from (hl _ (List.mem_of_getElem? hy34)).1)
     rw [show ((a : Int) + (i : Int)).toNat = a + i by omega] at hy34
     have hi4 : i ≤ 4 := by omega
     have hq := pow7 hi4 x34
     have hn4 := pow7n hi4 hn
     have hx := (hl _ (List.mem_of_getElem? hy34)).2
     refine ⟨_,op_rm (r := ((x34 % 128 : Nat) : Int)) rfl rfl rfl (by decide) ((tm_emod 128 (by omega)).trans (by omega)),?_⟩
     have ew41 : IntKind.wrap .i64 ((7) * (i : Int)) = (7) * (i : Int) := wrap_i64 (by omega) (by omega)
     refine ⟨_,rfl,?_⟩
     refine ⟨_,op_sl (b := 7 * i) (r := ((x34 % 128 * 2 ^ (7 * i) : Nat) : Int)) rfl rfl (congrArg vI (ew41.trans (by omega))) (by omega) (by push_cast; rfl) (by omega) (by omega),?_⟩
     refine ⟨_,op_ad (r := ((n + x34 % 128 * 2 ^ (7 * i) : Nat) : Int)) rfl rfl rfl (by omega) (by omega) (by omega),?_⟩
     refine AW.cut lo0 st [(0,vS p l.length),(1,vI a),(7,vI ((n + x34 % 128 * 2 ^ (7 * i) : Nat) : Int)),(8,vI (i : Int)),(9,vI (x34 : Int)),(27,vB true)] ⟨rfl,rfl,rfl,rfl,rfl,rfl,trivial⟩ fun ρ0 => ?_
     refine ⟨_,rfl,?_⟩
     rintro (_|_) h45
     ·replace h45 : ¬ ((x34 : Int) ≥ (128)) := of_decide_eq_false h45
      refine AW.cut lo0 st [(0,vS p l.length),(1,vI a),(7,vI ((n + x34 % 128 * 2 ^ (7 * i) : Nat) : Int)),(8,vI (i : Int)),(9,vI (x34 : Int)),(27,vB true),(45,vB false)] ⟨rfl,rfl,rfl,rfl,rfl,rfl,rfl,trivial⟩ fun ρ0 => ?_
      refine cxs ?_
      refine ⟨_,rfl,?_⟩
      rintro (_|_) h47
      ·replace h47 : ¬ ((i : Int) > (0)) := of_decide_eq_false h47
       iterate 2 refine ⟨_,rfl,?_⟩
       rintro (_|_) h54
       ·replace h54 : ¬ (((n + x34 % 128 * 2 ^ (7 * i) : Nat) : Int) > (2147483647)) := of_decide_eq_false h54
        refine ⟨_,rfl,?_⟩
        refine AW.cut lo0 st [(0,vS p l.length),(1,vI a),(7,vI ((n + x34 % 128 * 2 ^ (7 * i) : Nat) : Int)),(8,vI (i : Int)),(9,vI (x34 : Int)),(27,vB true),(45,vB false),(55,vB false)] ⟨rfl,rfl,rfl,rfl,rfl,rfl,rfl,rfl,trivial⟩ fun ρ0 => ?_
        refine cxs ?_
        have ew59 : IntKind.wrap .i64 (a + (i : Int)) = a + (i : Int) := wrap_i64 (by omega) (by omega)
        refine ⟨_,rfl,?_⟩
        have ew60 : IntKind.wrap .i64 ((IntKind.wrap .i64 (a + (i : Int))) + (1)) = (a + (i : Int)) + (1) := by rw [ew59]; exact wrap_i64 (by omega) (by omega)
        refine ⟨_,rfl,?_⟩
        refine cxs ?_
        exact ⟨.inl rfl,_,rfl,_,_,true,rfl,(by rw [ew60]; exact gnR_yes hg hy34 hi4 (by omega) (by omega)),rfl⟩
       ·replace h54 : ((n + x34 % 128 * 2 ^ (7 * i) : Nat) : Int) > (2147483647) := of_decide_eq_true h54
        refine ⟨_,rfl,?_⟩
        refine AW.cut lo0 st [(0,vS p l.length),(1,vI a),(7,vI ((n + x34 % 128 * 2 ^ (7 * i) : Nat) : Int)),(8,vI (i : Int)),(9,vI (x34 : Int)),(27,vB true),(45,vB false),(55,vB true)] ⟨rfl,rfl,rfl,rfl,rfl,rfl,rfl,rfl,trivial⟩ fun ρ0 => ?_
        refine cxs ?_
        exact ⟨.inl rfl,_,rfl,0,0,false,rfl,gnR_no hg hy34 (by omega) (by omega),rfl⟩
      ·replace h47 : (i : Int) > (0) := of_decide_eq_true h47
       refine ⟨_,rfl,?_⟩
       rintro (_|_) h50
       ·replace h50 : ¬ ((x34 : Int) = (0)) := beq_eq_false_iff_ne.1 h50
        iterate 2 refine ⟨_,rfl,?_⟩
        rintro (_|_) h54
        ·replace h54 : ¬ (((n + x34 % 128 * 2 ^ (7 * i) : Nat) : Int) > (2147483647)) := of_decide_eq_false h54
         refine ⟨_,rfl,?_⟩
         refine AW.cut lo0 st [(0,vS p l.length),(1,vI a),(7,vI ((n + x34 % 128 * 2 ^ (7 * i) : Nat) : Int)),(8,vI (i : Int)),(9,vI (x34 : Int)),(27,vB true),(45,vB false),(55,vB false)] ⟨rfl,rfl,rfl,rfl,rfl,rfl,rfl,rfl,trivial⟩ fun ρ0 => ?_
         refine cxs ?_
         have ew59 : IntKind.wrap .i64 (a + (i : Int)) = a + (i : Int) := wrap_i64 (by omega) (by omega)
         refine ⟨_,rfl,?_⟩
         have ew60 : IntKind.wrap .i64 ((IntKind.wrap .i64 (a + (i : Int))) + (1)) = (a + (i : Int)) + (1) := by rw [ew59]; exact wrap_i64 (by omega) (by omega)
         refine ⟨_,rfl,?_⟩
         refine cxs ?_
         exact ⟨.inl rfl,_,rfl,_,_,true,rfl,(by rw [ew60]; exact gnR_yes hg hy34 hi4 (by omega) (by omega)),rfl⟩
        ·replace h54 : ((n + x34 % 128 * 2 ^ (7 * i) : Nat) : Int) > (2147483647) := of_decide_eq_true h54
         refine ⟨_,rfl,?_⟩
         refine AW.cut lo0 st [(0,vS p l.length),(1,vI a),(7,vI ((n + x34 % 128 * 2 ^ (7 * i) : Nat) : Int)),(8,vI (i : Int)),(9,vI (x34 : Int)),(27,vB true),(45,vB false),(55,vB true)] ⟨rfl,rfl,rfl,rfl,rfl,rfl,rfl,rfl,trivial⟩ fun ρ0 => ?_
         refine cxs ?_
         exact ⟨.inl rfl,_,rfl,0,0,false,rfl,gnR_no hg hy34 (by omega) (by omega),rfl⟩
       ·replace h50 : (x34 : Int) = (0) := beq_iff_eq.1 h50
        iterate 2 refine ⟨_,rfl,?_⟩
        refine AW.cut lo0 st [(0,vS p l.length),(1,vI a),(7,vI ((n + x34 % 128 * 2 ^ (7 * i) : Nat) : Int)),(8,vI (i : Int)),(9,vI (x34 : Int)),(27,vB true),(45,vB false),(55,vB true)] ⟨rfl,rfl,rfl,rfl,rfl,rfl,rfl,rfl,trivial⟩ fun ρ0 => ?_
        refine cxs ?_
        exact ⟨.inl rfl,_,rfl,0,0,false,rfl,gnR_no hg hy34 (by omega) (by omega),rfl⟩
     ·replace h45 : (x34 : Int) ≥ (128) := of_decide_eq_true h45
      refine AW.cut lo0 st [(0,vS p l.length),(1,vI a),(7,vI ((n + x34 % 128 * 2 ^ (7 * i) : Nat) : Int)),(8,vI (i : Int)),(9,vI (x34 : Int)),(27,vB true),(45,vB true)] ⟨rfl,rfl,rfl,rfl,rfl,rfl,rfl,trivial⟩ fun ρ0 => ?_
      refine cxs ?_
      have ew29 : IntKind.wrap .i64 ((i : Int) + (1)) = ((i + 1 : Nat) : Int) := (wrap_i64 (by omega) (by omega)).trans (by omega)
      refine ⟨_,rfl,?_⟩
      exact ⟨(i + 1,n + x34 % 128 * 2 ^ (7 * i)),5 - (i + 1),by omega,⟨rfl,rfl,rfl,congrArg (Value.int .i64) ew29,trivial⟩,rfl,rfl,by simp only; omega,pow7s hn,hg.trans (gnF_go (c := x34 % 128) hy34 hi4 (by omega) (by omega)),rfl⟩
  ·replace h16 : a ≥ (l.length : Int) := of_decide_eq_true h16
   refine ⟨_,rfl,?_⟩
   refine AW.cut lo0 st [(0,vS p l.length),(1,vI a),(4,vI (0)),(5,vI (0)),(6,vB false),(17,vB true)] ⟨rfl,rfl,rfl,rfl,rfl,rfl,trivial⟩ fun ρ0 => ?_
   obtain ⟨a,rfl⟩ := Int.eq_ofNat_of_zero_le (show 0 ≤ a by omega)
   refine cxs ?_
   exact ⟨.inl rfl,_,rfl,0,0,false,rfl,by rw [gnR_of,List.drop_eq_nil_of_le (by omega)]; rfl,rfl⟩
 ·replace h11 : a < (0) := of_decide_eq_true h11
  refine ⟨_,rfl,?_⟩
  refine AW.cut lo0 st [(0,vS p l.length),(1,vI a),(4,vI (0)),(5,vI (0)),(6,vB false),(17,vB true)] ⟨rfl,rfl,rfl,rfl,rfl,rfl,trivial⟩ fun ρ0 => ?_
  refine cxs ?_
  exact ⟨.inl rfl,_,rfl,0,0,false,rfl,(gnR_neg h11).symm,rfl⟩
theorem ac_spec_GetNum (p : Option Addr) (l : List Int) (a : Int) (st : St) (hR : Rows st 1 fB p l) (hl : bytesOk l) (hs : l.length ≤ 1099511627776) (ha : a ≤ 1099511627776) : C 159 [vS p l.length,vI a] st (fun v s => ∃ n k b,v = .tuple #[vI n,vI k,vB b] ∧ (n,k,b) = gnR l a ∧ s = st) := by
 refine AC.enterX (i := ⟨[],[],[0,1,4,5,6,7,8,9,11,23,39,49],[]⟩) [] Try.func159 rfl rfl (by kernel_rfl) (by kernel_rfl) Try.ntmps159 (Nat.le_of_ble_eq_true rfl) rfl ?_
 refine cxs ?_
 refine cxs ?_
 refine AW.cut lo0 st [(0,vS p l.length),(1,vI a),(4,vI (0)),(5,vI (0)),(6,vB false),(7,vI (0)),(8,vI (0))] ⟨rfl,rfl,rfl,rfl,rfl,rfl,rfl,trivial⟩ fun ρ0 => ?_
 refine AW.loop0 (fun x : Nat × Nat => [(0,vS p l.length),(1,vI a),(7,vI (x.2 : Int)),(8,vI (x.1 : Int))]) (fun m (x : Nat × Nat) st' => m = 5 - x.1 ∧ x.1 ≤ 5 ∧ x.2 < 2 ^ (7 * x.1) ∧ gnF (l.drop a.toNat) 0 0 = gnF (l.drop (a.toNat + x.1)) x.1 x.2 ∧ (x.1 = 0 ∨ 0 ≤ a) ∧ st = st') (0,0) _ ⟨rfl,rfl,rfl,rfl,trivial⟩ rfl ⟨rfl,Nat.zero_le _,Nat.one_pos,rfl,.inl rfl,rfl⟩ ?_
 rintro m ⟨i,n⟩ ρ0 st' ⟨rfl,hi,hn,hg,h0a,rfl⟩
 simp only at hi hn hg h0a
 refine ⟨_,rfl,?_⟩
 rintro (_|_) h11
 ·replace h11 : ¬ ((i : Int) < (5)) := of_decide_eq_false h11
  refine AW.cut lo0 st [(0,vS p l.length),(1,vI a),(7,vI (n : Int)),(8,vI (i : Int)),(11,vB false)] ⟨rfl,rfl,rfl,rfl,rfl,trivial⟩ fun ρ0 => ?_
  refine cxs ?_
  refine cxs ?_
  exact ⟨.inl rfl,_,rfl,0,0,false,rfl,(by rw [← Int.toNat_of_nonneg (show 0 ≤ a by omega)]; exact gnR_end hg (.inl (by omega))),rfl⟩
 ·replace h11 : (i : Int) < (5) := of_decide_eq_true h11
  refine AW.cut lo0 st [(0,vS p l.length),(1,vI a),(7,vI (n : Int)),(8,vI (i : Int)),(11,vB true)] ⟨rfl,rfl,rfl,rfl,rfl,trivial⟩ fun ρ0 => ?_
  refine cxs ?_
  refine ⟨_,rfl,?_⟩
  rintro (_|_) h15
  ·replace h15 : ¬ (a < (0)) := of_decide_eq_false h15
   refine ⟨_,rfl,?_⟩
   have ew21 : IntKind.wrap .i64 ((l.length : Int) - (i : Int)) = (l.length : Int) - (i : Int) := wrap_i64 (by omega) (by omega)
   iterate 2 refine ⟨_,rfl,?_⟩
   rintro (_|_) h22
   ·replace h22 : ¬ (a ≥ (IntKind.wrap .i64 ((l.length : Int) - (i : Int)))) := of_decide_eq_false h22
    rw [ew21] at h22
    refine ⟨_,rfl,?_⟩
    refine AW.cut lo0 st [(0,vS p l.length),(1,vI a),(7,vI (n : Int)),(8,vI (i : Int)),(11,vB true),(23,vB false)] ⟨rfl,rfl,rfl,rfl,rfl,rfl,trivial⟩ fun ρ0 => ?_
    obtain ⟨a,rfl⟩ := Int.eq_ofNat_of_zero_le (show 0 ≤ a by omega)
    rw [Int.toNat_natCast] at hg
    refine cxs ?_
    have ew27 : IntKind.wrap .i64 (a + (i : Int)) = a + (i : Int) := wrap_i64 (by omega) (by omega)
    refine ⟨_,rfl,?_⟩
    refine op_at ((a + (i : Int)).toNat) hR (by omega) rfl rfl rfl rfl (by rw [ew27]; omega) rfl rfl ?_
    intro x28 b28 d28 k28 hy28 hb28 hm28 hc28 ho28
    refine ⟨_,op_ldc (i := 0) rfl rfl rfl rfl hm28 hc28 rfl rfl,?_⟩
    refine ⟨_,op_ofB rfl rfl rfl rfl rfl (hl.at hy28),?_⟩
    refine AW.cut lo0 st [(0,vS p l.length),(1,vI a),(7,vI (n : Int)),(8,vI (i : Int)),(9,vI (x28 : Int)),(11,vB true),(23,vB false)] ⟨rfl,rfl,rfl,rfl,rfl,rfl,rfl,trivial⟩ fun ρ0 => ?_
    obtain ⟨x28,rfl⟩ := Int.eq_ofNat_of_zero_le (show 0 ≤ x28 from (hl _ (List.mem_of_getElem? hy28)).1)
    rw [show ((a : Int) + (i : Int)).toNat = a + i by omega] at hy28
    have hi4 : i ≤ 4 := by omega
    have hq := pow7 hi4 x28
    have hn4 := pow7n hi4 hn
    have hx := (hl _ (List.mem_of_getElem? hy28)).2
    refine ⟨_,op_rm (r := ((x28 % 128 : Nat) : Int)) rfl rfl rfl (by decide) ((tm_emod 128 (by omega)).trans (by omega)),?_⟩
    have ew35 : IntKind.wrap .i64 ((7) * (i : Int)) = (7) * (i : Int) := wrap_i64 (by omega) (by omega)
    refine ⟨_,rfl,?_⟩
    refine ⟨_,op_sl (b := 7 * i) (r := ((x28 % 128 * 2 ^ (7 * i) : Nat) : Int)) rfl rfl (congrArg vI (ew35.trans (by omega))) (by omega) (by push_cast; rfl) (by omega) (by omega),?_⟩
    refine ⟨_,op_or (r := ((n + x28 % 128 * 2 ^ (7 * i) : Nat) : Int)) rfl rfl rfl (or_add hn (by omega) hi4),?_⟩
    refine AW.cut lo0 st [(0,vS p l.length),(1,vI a),(7,vI ((n + x28 % 128 * 2 ^ (7 * i) : Nat) : Int)),(8,vI (i : Int)),(9,vI (x28 : Int)),(11,vB true),(23,vB false)] ⟨rfl,rfl,rfl,rfl,rfl,rfl,rfl,trivial⟩ fun ρ0 => ?_
    refine ⟨_,rfl,?_⟩
    rintro (_|_) h39
    ·replace h39 : ¬ ((x28 : Int) < (128)) := of_decide_eq_false h39
     refine AW.cut lo0 st [(0,vS p l.length),(1,vI a),(7,vI ((n + x28 % 128 * 2 ^ (7 * i) : Nat) : Int)),(8,vI (i : Int)),(9,vI (x28 : Int)),(11,vB true),(23,vB false),(39,vB false)] ⟨rfl,rfl,rfl,rfl,rfl,rfl,rfl,rfl,trivial⟩ fun ρ0 => ?_
     refine cxs ?_
     have ew13 : IntKind.wrap .i64 ((i : Int) + (1)) = ((i + 1 : Nat) : Int) := (wrap_i64 (by omega) (by omega)).trans (by omega)
     refine ⟨_,rfl,?_⟩
     exact ⟨(i + 1,n + x28 % 128 * 2 ^ (7 * i)),5 - (i + 1),by omega,⟨rfl,rfl,rfl,congrArg (Value.int .i64) ew13,trivial⟩,rfl,rfl,by simp only; omega,pow7s hn,hg.trans (gnF_go (c := x28 % 128) hy28 hi4 (by omega) (by omega)),.inr (by omega),rfl⟩
    ·replace h39 : (x28 : Int) < (128) := of_decide_eq_true h39
     refine AW.cut lo0 st [(0,vS p l.length),(1,vI a),(7,vI ((n + x28 % 128 * 2 ^ (7 * i) : Nat) : Int)),(8,vI (i : Int)),(9,vI (x28 : Int)),(11,vB true),(23,vB false),(39,vB true)] ⟨rfl,rfl,rfl,rfl,rfl,rfl,rfl,rfl,trivial⟩ fun ρ0 => ?_
     refine ⟨_,rfl,?_⟩
     rintro (_|_) h41
     ·replace h41 : ¬ ((i : Int) > (0)) := of_decide_eq_false h41
      iterate 2 refine ⟨_,rfl,?_⟩
      rintro (_|_) h48
      ·replace h48 : ¬ (((n + x28 % 128 * 2 ^ (7 * i) : Nat) : Int) > (2147483647)) := of_decide_eq_false h48
       refine ⟨_,rfl,?_⟩
       refine AW.cut lo0 st [(0,vS p l.length),(1,vI a),(7,vI ((n + x28 % 128 * 2 ^ (7 * i) : Nat) : Int)),(8,vI (i : Int)),(9,vI (x28 : Int)),(11,vB true),(23,vB false),(39,vB true),(49,vB false)] ⟨rfl,rfl,rfl,rfl,rfl,rfl,rfl,rfl,rfl,trivial⟩ fun ρ0 => ?_
       refine cxs ?_
       have ew53 : IntKind.wrap .i64 (a + (i : Int)) = a + (i : Int) := wrap_i64 (by omega) (by omega)
       refine ⟨_,rfl,?_⟩
       have ew54 : IntKind.wrap .i64 ((IntKind.wrap .i64 (a + (i : Int))) + (1)) = (a + (i : Int)) + (1) := by rw [ew53]; exact wrap_i64 (by omega) (by omega)
       refine ⟨_,rfl,?_⟩
       refine cxs ?_
       exact ⟨.inl rfl,_,rfl,_,_,true,rfl,(by rw [ew54]; exact gnR_yes hg hy28 hi4 (by omega) (by omega)),rfl⟩
      ·replace h48 : ((n + x28 % 128 * 2 ^ (7 * i) : Nat) : Int) > (2147483647) := of_decide_eq_true h48
       refine ⟨_,rfl,?_⟩
       refine AW.cut lo0 st [(0,vS p l.length),(1,vI a),(7,vI ((n + x28 % 128 * 2 ^ (7 * i) : Nat) : Int)),(8,vI (i : Int)),(9,vI (x28 : Int)),(11,vB true),(23,vB false),(39,vB true),(49,vB true)] ⟨rfl,rfl,rfl,rfl,rfl,rfl,rfl,rfl,rfl,trivial⟩ fun ρ0 => ?_
       refine cxs ?_
       exact ⟨.inl rfl,_,rfl,0,0,false,rfl,gnR_no hg hy28 (by omega) (by omega),rfl⟩
     ·replace h41 : (i : Int) > (0) := of_decide_eq_true h41
      refine ⟨_,rfl,?_⟩
      rintro (_|_) h44
      ·replace h44 : ¬ ((x28 : Int) = (0)) := beq_eq_false_iff_ne.1 h44
       iterate 2 refine ⟨_,rfl,?_⟩
       rintro (_|_) h48
       ·replace h48 : ¬ (((n + x28 % 128 * 2 ^ (7 * i) : Nat) : Int) > (2147483647)) := of_decide_eq_false h48
        refine ⟨_,rfl,?_⟩
        refine AW.cut lo0 st [(0,vS p l.length),(1,vI a),(7,vI ((n + x28 % 128 * 2 ^ (7 * i) : Nat) : Int)),(8,vI (i : Int)),(9,vI (x28 : Int)),(11,vB true),(23,vB false),(39,vB true),(49,vB false)] ⟨rfl,rfl,rfl,rfl,rfl,rfl,rfl,rfl,rfl,trivial⟩ fun ρ0 => ?_
        refine cxs ?_
        have ew53 : IntKind.wrap .i64 (a + (i : Int)) = a + (i : Int) := wrap_i64 (by omega) (by omega)
        refine ⟨_,rfl,?_⟩
        have ew54 : IntKind.wrap .i64 ((IntKind.wrap .i64 (a + (i : Int))) + (1)) = (a + (i : Int)) + (1) := by rw [ew53]; exact wrap_i64 (by omega) (by omega)
        refine ⟨_,rfl,?_⟩
        refine cxs ?_
        exact ⟨.inl rfl,_,rfl,_,_,true,rfl,(by rw [ew54]; exact gnR_yes hg hy28 hi4 (by omega) (by omega)),rfl⟩
       ·replace h48 : ((n + x28 % 128 * 2 ^ (7 * i) : Nat) : Int) > (2147483647) := of_decide_eq_true h48
        refine ⟨_,rfl,?_⟩
        refine AW.cut lo0 st [(0,vS p l.length),(1,vI a),(7,vI ((n + x28 % 128 * 2 ^ (7 * i) : Nat) : Int)),(8,vI (i : Int)),(9,vI (x28 : Int)),(11,vB true),(23,vB false),(39,vB true),(49,vB true)] ⟨rfl,rfl,rfl,rfl,rfl,rfl,rfl,rfl,rfl,trivial⟩ fun ρ0 => ?_
        refine cxs ?_
        exact ⟨.inl rfl,_,rfl,0,0,false,rfl,gnR_no hg hy28 (by omega) (by omega),rfl⟩
      ·replace h44 : (x28 : Int) = (0) := beq_iff_eq.1 h44
       iterate 2 refine ⟨_,rfl,?_⟩
       refine AW.cut lo0 st [(0,vS p l.length),(1,vI a),(7,vI ((n + x28 % 128 * 2 ^ (7 * i) : Nat) : Int)),(8,vI (i : Int)),(9,vI (x28 : Int)),(11,vB true),(23,vB false),(39,vB true),(49,vB true)] ⟨rfl,rfl,rfl,rfl,rfl,rfl,rfl,rfl,rfl,trivial⟩ fun ρ0 => ?_
       refine cxs ?_
       exact ⟨.inl rfl,_,rfl,0,0,false,rfl,gnR_no hg hy28 (by omega) (by omega),rfl⟩
   ·replace h22 : a ≥ (IntKind.wrap .i64 ((l.length : Int) - (i : Int))) := of_decide_eq_true h22
    rw [ew21] at h22
    refine ⟨_,rfl,?_⟩
    refine AW.cut lo0 st [(0,vS p l.length),(1,vI a),(7,vI (n : Int)),(8,vI (i : Int)),(11,vB true),(23,vB true)] ⟨rfl,rfl,rfl,rfl,rfl,rfl,trivial⟩ fun ρ0 => ?_
    refine cxs ?_
    exact ⟨.inl rfl,_,rfl,0,0,false,rfl,(by rw [← Int.toNat_of_nonneg (show 0 ≤ a by omega)]; exact gnR_end hg (.inr (by omega))),rfl⟩
  ·replace h15 : a < (0) := of_decide_eq_true h15
   refine ⟨_,rfl,?_⟩
   refine AW.cut lo0 st [(0,vS p l.length),(1,vI a),(7,vI (n : Int)),(8,vI (i : Int)),(11,vB true),(23,vB true)] ⟨rfl,rfl,rfl,rfl,rfl,rfl,trivial⟩ fun ρ0 => ?_
   refine cxs ?_
   exact ⟨.inl rfl,_,rfl,0,0,false,rfl,(gnR_neg h15).symm,rfl⟩
theorem flat_map (l : List Int) : l.flatMap fB = l.map (Value.int .u8) := by
 induction l with
 | nil => rfl
 | cons x l ih => rw [List.flatMap_cons,ih]; rfl
section
variable {P : Program} {ls : List Tmp} {call : ACallT} {o : Oper} {e : Operand → Value} {lo : Lo} {st : St}
theorem op_sl3 {t el : TypeId} {x y w : Operand} {p : Option Addr} {n i j z : Nat} {a b : Int} (ho : o.op = .slice t x (some y) (some w) none) (hx : e x = .slice p n n) (hy : e y = vI a) (hw : e w = vI b) (ha : a = (i : Int)) (hb : b = (j : Int)) (he : telem P t = some el) (hz : tsize P el = some z) (h1 : i ≤ j) (h2 : j ≤ n) : aoper P ls call o e lo st = some (.slice (shO p z i) (j - i) (j - i),lo,st) := by
 obtain ⟨d,op,tt,pos,after,gd⟩ := o
 simp only at ho
 subst ho ha hb
 simp [aoper,rop,aslice,abound,hx,hy,hw,he,hz,h1,h2,shO]
theorem op_strS {src dst el : TypeId} {x : Operand} {p : Option Addr} {l : List Int} {k n : Nat} (ho : o.op = .convert src dst x) (hx : e x = .slice (shO p 1 k) n n) (hd : telem P dst = none) (hs : tstr P dst = true) (hse : telem P src = some el) (hi : tint P el = some .u8) (hR : Rows st 1 fB p l) (hl : 0 < l.length) (hk : k + n ≤ l.length) :
  aoper P ls call o e lo st = some (.string (toB ((l.drop k).take n)),lo,st) := by
 obtain ⟨d,op,ty,pos,after,gd⟩ := o
 simp only at ho
 subst ho
 rcases hR with rfl | ⟨b,off,blk,rfl,hm,_,hc⟩
 ·cases hl
 ·have h1 := take_rows (f := fB) (z := 1) (l := l) (cs := blk.cells) (off := off) fB_len hc
  rw [Nat.mul_one] at h1
  have h2 : (blk.cells.drop (off + k)).take n = ((l.drop k).take n).flatMap fB := by
   rw [flat_map,List.map_take,List.map_drop,← flat_map,← h1,← List.drop_drop,List.drop_take,List.take_take,Nat.min_eq_left (by omega)]
  have h3 : ((l.drop k).take n).length = n := by rw [List.length_take,List.length_drop]; omega
  simp only [shO,Option.map_some,aoper,hd,hx,aconv,hs,hse,hi,astring,rdB,hm,Option.bind_some,h2,flat_len fB_len,Nat.mul_one,h3,if_true,abytes_ints]
  rfl
end
theorem gnF_rng : ∀ (t : List Int) (i : Nat) (n v : Int) (j : Nat),bytesOk t → 0 ≤ n → gnF t i n = some (v,j) → 0 ≤ v ∧ v ≤ 2147483647 ∧ i < j ∧ j ≤ i + t.length
 | [],_,_,_,_,_,_,h => by cases h
 | b :: t,i,n,v,j,hb,hn,h => by
  have h0 := hb b (List.mem_cons_self ..)
  have hp : (0 : Int) < 2 ^ (7 * i) := Int.pow_pos (by decide)
  simp only [gnF] at h
  split at h
  ·cases h
  ·split at h
   ·split at h
    ·cases h
    ·rename_i hc
     injection h with h
     injection h with h1 h2
     have : 0 ≤ b * 2 ^ (7 * i) := Int.mul_nonneg h0.1 (Int.le_of_lt hp)
     rw [List.length_cons]
     omega
   ·have hm : 0 ≤ b % 128 * 2 ^ (7 * i) := Int.mul_nonneg (by omega) (Int.le_of_lt hp)
    have := gnF_rng t (i + 1) _ v j (fun x hx => hb x (List.mem_cons_of_mem _ hx)) (by omega) h
    rw [List.length_cons]
    omega
theorem gnR_ok {l : List Int} {a n k : Int} (hl : bytesOk l) (h : (n,k,true) = gnR l a) : 0 ≤ n ∧ n ≤ 2147483647 ∧ 0 ≤ a ∧ a < k ∧ k ≤ l.length := by
 unfold gnR gnAt at h
 by_cases h0 : a < 0
 ·rw [if_pos h0] at h; cases h
 ·rw [if_neg h0] at h
  cases hg : gnF (l.drop a.toNat) 0 0 with
  | none => rw [hg] at h; cases h
  | some r =>
   rw [hg] at h
   simp only [Option.map_some,Prod.mk.injEq] at h
   have := gnF_rng _ 0 0 r.1 r.2 (fun x hx => hl x (List.mem_of_mem_drop hx)) (Int.le_refl _) hg
   rw [List.length_drop] at this
   omega
def gtR (l : List Int) (a : Int) : ByteArray × Int × Bool := match gnR l a with
 | (n,k,b) => if b = true ∧ n ≤ l.length - k then (toB ((l.drop k.toNat).take n.toNat),k + n,true) else (⟨#[]⟩,0,false)
theorem gtR_no {l : List Int} {a n k : Int} {b : Bool} (h : (n,k,b) = gnR l a) (hk : ¬ (b = true ∧ n ≤ l.length - k)) : (⟨#[]⟩,0,false) = gtR l a := by
 unfold gtR
 rw [← h]
 simp only
 rw [if_neg hk]
theorem gtR_yes {l : List Int} {a : Int} {n k : Nat} (h : ((n : Int),(k : Int),true) = gnR l a) (hk : (n : Int) ≤ l.length - k) : (toB ((l.drop k).take n),(k : Int) + n,true) = gtR l a := by
 unfold gtR
 rw [← h]
 simp only [Int.toNat_natCast]
 rw [if_pos ⟨trivial,hk⟩]
theorem ac_impl_GetText (p : Option Addr) (l : List Int) (a : Int) (st : St) (hR : Rows st 1 fB p l) (hl : bytesOk l) (hs : l.length ≤ 1099511627776) (ha : a ≤ 1099511627776) : C 163 [vS p l.length,vI a] st (fun v s => ∃ t k b,v = .tuple #[.string t,vI k,vB b] ∧ (t,k,b) = gtR l a ∧ s = st) := by
 refine AC.enterX (i := ⟨[],[],[0,1,4,5,6,7,8,9,26],[]⟩) [] Try.func163 rfl rfl (by kernel_rfl) (by kernel_rfl) Try.ntmps163 (Nat.le_of_ble_eq_true rfl) rfl ?_
 refine AW.cut lo0 st [(0,vS p l.length),(1,vI a),(4,.string ⟨#[]⟩),(5,vI (0)),(6,vB false)] ⟨rfl,rfl,rfl,rfl,rfl,trivial⟩ fun ρ0 => ?_
 refine ⟨_,rfl,(ac_impl_GetNum p l a st hR (by first | assumption | omega) (by first | assumption | omega) (by first | assumption | omega)).mono ?_⟩
 rintro _ st ⟨n13,k13,b13,rfl,h13,rfl⟩
 rcases b13 with _|_
 ·iterate 3 refine ⟨_,rfl,?_⟩
  refine AW.cut lo0 st [(0,vS p l.length),(4,.string ⟨#[]⟩),(5,vI (0)),(6,vB false),(7,vI n13),(8,vI k13),(9,vB false)] ⟨rfl,rfl,rfl,rfl,rfl,rfl,rfl,trivial⟩ fun ρ0 => ?_
  iterate 2 refine ⟨_,rfl,?_⟩
  refine AW.cut lo0 st [(0,vS p l.length),(4,.string ⟨#[]⟩),(5,vI (0)),(6,vB false),(7,vI n13),(8,vI k13),(26,vB true)] ⟨rfl,rfl,rfl,rfl,rfl,rfl,rfl,trivial⟩ fun ρ0 => ?_
  refine cxs ?_
  exact ⟨.inl rfl,_,rfl,_,0,false,rfl,gtR_no h13 (fun k => by cases k.1),rfl⟩
 ·iterate 3 refine ⟨_,rfl,?_⟩
  refine AW.cut lo0 st [(0,vS p l.length),(4,.string ⟨#[]⟩),(5,vI (0)),(6,vB false),(7,vI n13),(8,vI k13),(9,vB true)] ⟨rfl,rfl,rfl,rfl,rfl,rfl,rfl,trivial⟩ fun ρ0 => ?_
  obtain ⟨q1,q2,q3,q4,q5⟩ := gnR_ok hl h13
  obtain ⟨n13,rfl⟩ := Int.eq_ofNat_of_zero_le q1
  obtain ⟨k13,rfl⟩ := Int.eq_ofNat_of_zero_le (show 0 ≤ k13 by omega)
  iterate 2 refine ⟨_,rfl,?_⟩
  have ew24 : IntKind.wrap .i64 ((l.length : Int) - k13) = (l.length : Int) - k13 := wrap_i64 (by omega) (by omega)
  iterate 2 refine ⟨_,rfl,?_⟩
  rintro (_|_) h25
  ·replace h25 : ¬ (n13 > (IntKind.wrap .i64 ((l.length : Int) - k13))) := of_decide_eq_false h25
   rw [ew24] at h25
   refine ⟨_,rfl,?_⟩
   refine AW.cut lo0 st [(0,vS p l.length),(4,.string ⟨#[]⟩),(5,vI (0)),(6,vB false),(7,vI n13),(8,vI k13),(26,vB false)] ⟨rfl,rfl,rfl,rfl,rfl,rfl,rfl,trivial⟩ fun ρ0 => ?_
   refine cxs ?_
   have ew31 : IntKind.wrap .i64 (k13 + n13) = k13 + n13 := wrap_i64 (by omega) (by omega)
   refine ⟨_,rfl,?_⟩
   refine ⟨_,op_sl3 (i := k13) (j := k13 + n13) rfl rfl rfl rfl rfl (ew31.trans (by omega)) rfl rfl (by omega) (by omega),?_⟩
   refine ⟨_,op_strS (l := l) (k := k13) (n := n13) rfl (by rw [show k13 + n13 - k13 = n13 by omega]; rfl) rfl rfl rfl rfl hR (by omega) (by omega),?_⟩
   have ew36 : IntKind.wrap .i64 (k13 + n13) = k13 + n13 := wrap_i64 (by omega) (by omega)
   refine ⟨_,rfl,?_⟩
   refine cxs ?_
   exact ⟨.inl rfl,_,rfl,_,_,true,rfl,(by rw [ew36]; exact gtR_yes h13 (by omega)),rfl⟩
  ·replace h25 : n13 > (IntKind.wrap .i64 ((l.length : Int) - k13)) := of_decide_eq_true h25
   rw [ew24] at h25
   refine ⟨_,rfl,?_⟩
   refine AW.cut lo0 st [(0,vS p l.length),(4,.string ⟨#[]⟩),(5,vI (0)),(6,vB false),(7,vI n13),(8,vI k13),(26,vB true)] ⟨rfl,rfl,rfl,rfl,rfl,rfl,rfl,trivial⟩ fun ρ0 => ?_
   refine cxs ?_
   exact ⟨.inl rfl,_,rfl,_,0,false,rfl,gtR_no h13 (fun k => by omega),rfl⟩
theorem ac_spec_GetText (p : Option Addr) (l : List Int) (a : Int) (st : St) (hR : Rows st 1 fB p l) (hl : bytesOk l) (hs : l.length ≤ 1099511627776) (ha : a ≤ 1099511627776) : C 95 [vS p l.length,vI a] st (fun v s => ∃ t k b,v = .tuple #[.string t,vI k,vB b] ∧ (t,k,b) = gtR l a ∧ s = st) := by
 refine AC.enterX (i := ⟨[],[],[0,1,4,5,6,7,8,9,26],[]⟩) [] Try.func95 rfl rfl (by kernel_rfl) (by kernel_rfl) Try.ntmps95 (Nat.le_of_ble_eq_true rfl) rfl ?_
 refine AW.cut lo0 st [(0,vS p l.length),(1,vI a),(4,.string ⟨#[]⟩),(5,vI (0)),(6,vB false)] ⟨rfl,rfl,rfl,rfl,rfl,trivial⟩ fun ρ0 => ?_
 refine ⟨_,rfl,(ac_spec_GetNum p l a st hR (by first | assumption | omega) (by first | assumption | omega) (by first | assumption | omega)).mono ?_⟩
 rintro _ st ⟨n13,k13,b13,rfl,h13,rfl⟩
 rcases b13 with _|_
 ·iterate 3 refine ⟨_,rfl,?_⟩
  refine AW.cut lo0 st [(0,vS p l.length),(4,.string ⟨#[]⟩),(5,vI (0)),(6,vB false),(7,vI n13),(8,vI k13),(9,vB false)] ⟨rfl,rfl,rfl,rfl,rfl,rfl,rfl,trivial⟩ fun ρ0 => ?_
  iterate 2 refine ⟨_,rfl,?_⟩
  refine AW.cut lo0 st [(0,vS p l.length),(4,.string ⟨#[]⟩),(5,vI (0)),(6,vB false),(7,vI n13),(8,vI k13),(26,vB true)] ⟨rfl,rfl,rfl,rfl,rfl,rfl,rfl,trivial⟩ fun ρ0 => ?_
  refine cxs ?_
  exact ⟨.inl rfl,_,rfl,_,0,false,rfl,gtR_no h13 (fun k => by cases k.1),rfl⟩
 ·iterate 3 refine ⟨_,rfl,?_⟩
  refine AW.cut lo0 st [(0,vS p l.length),(4,.string ⟨#[]⟩),(5,vI (0)),(6,vB false),(7,vI n13),(8,vI k13),(9,vB true)] ⟨rfl,rfl,rfl,rfl,rfl,rfl,rfl,trivial⟩ fun ρ0 => ?_
  obtain ⟨q1,q2,q3,q4,q5⟩ := gnR_ok hl h13
  obtain ⟨n13,rfl⟩ := Int.eq_ofNat_of_zero_le q1
  obtain ⟨k13,rfl⟩ := Int.eq_ofNat_of_zero_le (show 0 ≤ k13 by omega)
  iterate 2 refine ⟨_,rfl,?_⟩
  have ew24 : IntKind.wrap .i64 ((l.length : Int) - k13) = (l.length : Int) - k13 := wrap_i64 (by omega) (by omega)
  iterate 2 refine ⟨_,rfl,?_⟩
  rintro (_|_) h25
  ·replace h25 : ¬ (n13 > (IntKind.wrap .i64 ((l.length : Int) - k13))) := of_decide_eq_false h25
   rw [ew24] at h25
   refine ⟨_,rfl,?_⟩
   refine AW.cut lo0 st [(0,vS p l.length),(4,.string ⟨#[]⟩),(5,vI (0)),(6,vB false),(7,vI n13),(8,vI k13),(26,vB false)] ⟨rfl,rfl,rfl,rfl,rfl,rfl,rfl,trivial⟩ fun ρ0 => ?_
   refine cxs ?_
   have ew31 : IntKind.wrap .i64 (k13 + n13) = k13 + n13 := wrap_i64 (by omega) (by omega)
   refine ⟨_,rfl,?_⟩
   refine ⟨_,op_sl3 (i := k13) (j := k13 + n13) rfl rfl rfl rfl rfl (ew31.trans (by omega)) rfl rfl (by omega) (by omega),?_⟩
   refine ⟨_,op_strS (l := l) (k := k13) (n := n13) rfl (by rw [show k13 + n13 - k13 = n13 by omega]; rfl) rfl rfl rfl rfl hR (by omega) (by omega),?_⟩
   have ew36 : IntKind.wrap .i64 (k13 + n13) = k13 + n13 := wrap_i64 (by omega) (by omega)
   refine ⟨_,rfl,?_⟩
   refine cxs ?_
   exact ⟨.inl rfl,_,rfl,_,_,true,rfl,(by rw [ew36]; exact gtR_yes h13 (by omega)),rfl⟩
  ·replace h25 : n13 > (IntKind.wrap .i64 ((l.length : Int) - k13)) := of_decide_eq_true h25
   rw [ew24] at h25
   refine ⟨_,rfl,?_⟩
   refine AW.cut lo0 st [(0,vS p l.length),(4,.string ⟨#[]⟩),(5,vI (0)),(6,vB false),(7,vI n13),(8,vI k13),(26,vB true)] ⟨rfl,rfl,rfl,rfl,rfl,rfl,rfl,trivial⟩ fun ρ0 => ?_
   refine cxs ?_
   exact ⟨.inl rfl,_,rfl,_,0,false,rfl,gtR_no h13 (fun k => by omega),rfl⟩
abbrev rdC (c : Nat) (p : Option Addr) (l : List Int) (a : Int) (f : Bool) : Pc := ⟨0,some ⟨c,0,none⟩,[vS p l.length,vI a,vB f]⟩
theorem rdC_mem {st : St} {c : Nat} {p : Option Addr} {l : List Int} {a : Int} {f : Bool} (h : (rdC c p l a f).own st) : c < st.next ∧ st.mem c = some ⟨true,0,[vS p l.length,vI a,vB f]⟩ := by
 rcases h with ⟨h,_⟩ | ⟨x,h,h1,h2⟩
 ·cases h
 ·injection h with h
  injection h with h
  rw [h]
  exact ⟨h1,h2⟩
theorem op_stO {P : Program} {ls : List Tmp} {call : ACallT} {o : Oper} {e : Operand → Value} {lo : Lo} {st : St} {K : Value × Lo × St → Prop} {t : TypeId} {x u : Operand} {c off z : Nat} {cs : List Value} {v : Value} (ho : o.op = .store t x u) (hx : e x = .pointer (some ⟨c,off,none⟩)) (hu : e u = v) (ht : tsize P t = some 1) (hv : v.cells.toList = [v]) (hi : isCell v = true) (hown : (⟨z,some ⟨c,0,none⟩,cs⟩ : Pc).own st) (hl : off < cs.length)
  (hK : ∀ st',(⟨z,some ⟨c,0,none⟩,cs.set off v⟩ : Pc).own st' → Pr (some ⟨c,0,none⟩) st st' → st'.next = st.next → K (undef,lo,st')) : ∃ r,aoper P ls call o e lo st = some r ∧ K r := by
 rcases hown with ⟨h,_⟩ | ⟨a,h,h1,h2⟩
 ·cases h
 ·injection h with h
  injection h with h
  subst h
  refine op_stc ho hx hu rfl ht hv hi h2 rfl hl fun st' hm hn hk => hK st' (.inr ⟨_,rfl,by rw [hn]; exact h1,hm⟩) ⟨by rw [hn]; exact Nat.le_refl _,fun b hb hq => hk b (show b ≠ c from hq ⟨c,0,none⟩ rfl)⟩ hn
def rnF (l : List Int) (a : Int) (f : Bool) : Int × Int × Bool := match gnR l a with
 | (n,k,b) => if f = false ∧ b = true then (n,k,false) else (0,a,true)
theorem rnF_bad {l : List Int} {a : Int} : rnF l a true = (0,a,true) := by unfold rnF; simp
theorem rnF_no {l : List Int} {a n k : Int} {f : Bool} (h : (n,k,false) = gnR l a) : rnF l a f = (0,a,true) := by unfold rnF; rw [← h]; simp
theorem rnF_yes {l : List Int} {a n k : Int} (h : (n,k,true) = gnR l a) : rnF l a false = (n,k,false) := by unfold rnF; rw [← h]; simp
theorem rnF_rng {l : List Int} {a : Int} {f : Bool} (hl : bytesOk l) (hs : l.length ≤ 1099511627776) (ha : a ≤ 1099511627776) : (rnF l a f).2.1 ≤ 1099511627776 ∧ 0 ≤ (rnF l a f).1 ∧ (rnF l a f).1 ≤ 2147483647 := by
 rcases hg : gnR l a with ⟨n,k,b⟩
 cases f with
 | true => rw [rnF_bad]; exact ⟨ha,Int.le_refl _,by simp only; omega⟩
 | false =>
  cases b with
  | false => rw [rnF_no hg.symm]; exact ⟨ha,Int.le_refl _,by simp only; omega⟩
  | true =>
   rw [rnF_yes hg.symm]
   have := gnR_ok hl hg.symm
   exact ⟨by simp only; omega,this.1,this.2.1⟩
theorem bad_impl_num (c : Nat) (p : Option Addr) (l : List Int) (a : Int) (st : St) (hO : (rdC c p l a true).own st) (hR : Rows st 1 fB p l) (hl : bytesOk l) (hs : l.length ≤ 1099511627776) (ha : a ≤ 1099511627776) : C 99 [vP c 0] st (fun v s => v = vI 0 ∧ (rdC c p l a true).own s ∧ Pr (some ⟨c,0,none⟩) st s) := by
 obtain ⟨hc0,hm⟩ := rdC_mem hO
 refine AC.enterX (i := ⟨[],[],[0,2,3,4,5,26],[]⟩) [(1,[],[])] Try.func99 rfl rfl (by kernel_rfl) (by kernel_rfl) Try.ntmps99 (Nat.le_of_ble_eq_true rfl) rfl ?_
 refine AW.cut lo0 st [(0,vP c 0),(2,vI (0))] ⟨rfl,rfl,trivial⟩ fun ρ0 => ?_
 iterate 2 refine ⟨_,rfl,?_⟩
 refine ⟨_,op_ld rfl rfl rfl rfl hm rfl,?_⟩
 iterate 2 refine ⟨_,rfl,?_⟩
 refine ⟨_,op_ld rfl rfl rfl rfl hm rfl,?_⟩
 refine ⟨_,rfl,(ac_impl_GetNum p l a st hR hl hs ha).mono ?_⟩
 rintro _ st ⟨n,k,b,rfl,h15,rfl⟩
 iterate 3 refine ⟨_,rfl,?_⟩
 refine AW.cut lo0 st [(0,vP c 0),(2,vI (0)),(3,vI n),(4,vI k),(5,vB b)] ⟨rfl,rfl,rfl,rfl,rfl,trivial⟩ fun ρ0 => ?_
 iterate 2 refine ⟨_,rfl,?_⟩
 refine ⟨_,op_ld rfl rfl rfl rfl hm rfl,?_⟩
 refine ⟨_,rfl,?_⟩
 refine AW.cut lo0 st [(0,vP c 0),(2,vI (0)),(3,vI n),(4,vI k),(26,vB true)] ⟨rfl,rfl,rfl,rfl,rfl,trivial⟩ fun ρ0 => ?_
 iterate 2 refine ⟨_,rfl,?_⟩
 refine op_stO (z := 0) (c := c) (off := 2) rfl rfl rfl rfl rfl rfl hO (by simp) ?_
 intro s5 hO5 hP5 hn5
 refine cxs ?_
 refine cxs ?_
 exact ⟨.inl rfl,_,rfl,rfl,hO5,hP5⟩
theorem good_impl_num (c : Nat) (p : Option Addr) (l : List Int) (a : Int) (st : St) (hO : (rdC c p l a false).own st) (hR : Rows st 1 fB p l) (hl : bytesOk l) (hs : l.length ≤ 1099511627776) (ha : a ≤ 1099511627776) : C 99 [vP c 0] st (fun v s => ∃ n k b,v = vI n ∧ (n,k,b) = rnF l a false ∧ (rdC c p l k b).own s ∧ Pr (some ⟨c,0,none⟩) st s) := by
 obtain ⟨hc0,hm⟩ := rdC_mem hO
 refine AC.enterX (i := ⟨[],[],[0,2,3,4,5,26],[]⟩) [(1,[],[])] Try.func99 rfl rfl (by kernel_rfl) (by kernel_rfl) Try.ntmps99 (Nat.le_of_ble_eq_true rfl) rfl ?_
 refine AW.cut lo0 st [(0,vP c 0),(2,vI (0))] ⟨rfl,rfl,trivial⟩ fun ρ0 => ?_
 iterate 2 refine ⟨_,rfl,?_⟩
 refine ⟨_,op_ld rfl rfl rfl rfl hm rfl,?_⟩
 iterate 2 refine ⟨_,rfl,?_⟩
 refine ⟨_,op_ld rfl rfl rfl rfl hm rfl,?_⟩
 refine ⟨_,rfl,(ac_impl_GetNum p l a st hR hl hs ha).mono ?_⟩
 rintro _ st ⟨n,k,b,rfl,h15,rfl⟩
 rcases b with _|_
 ·iterate 3 refine ⟨_,rfl,?_⟩
  refine AW.cut lo0 st [(0,vP c 0),(2,vI (0)),(3,vI n),(4,vI k),(5,vB false)] ⟨rfl,rfl,rfl,rfl,rfl,trivial⟩ fun ρ0 => ?_
  iterate 2 refine ⟨_,rfl,?_⟩
  refine ⟨_,op_ld rfl rfl rfl rfl hm rfl,?_⟩
  iterate 2 refine ⟨_,rfl,?_⟩
  refine AW.cut lo0 st [(0,vP c 0),(2,vI (0)),(3,vI n),(4,vI k),(26,vB true)] ⟨rfl,rfl,rfl,rfl,rfl,trivial⟩ fun ρ0 => ?_
  iterate 2 refine ⟨_,rfl,?_⟩
  refine op_stO (z := 0) (c := c) (off := 2) rfl rfl rfl rfl rfl rfl hO (by simp) ?_
  intro s5 hO5 hP5 hn5
  refine cxs ?_
  refine cxs ?_
  exact ⟨.inl rfl,_,rfl,0,a,true,rfl,(rnF_no h15).symm,hO5,hP5⟩
 ·iterate 3 refine ⟨_,rfl,?_⟩
  refine AW.cut lo0 st [(0,vP c 0),(2,vI (0)),(3,vI n),(4,vI k),(5,vB true)] ⟨rfl,rfl,rfl,rfl,rfl,trivial⟩ fun ρ0 => ?_
  iterate 2 refine ⟨_,rfl,?_⟩
  refine ⟨_,op_ld rfl rfl rfl rfl hm rfl,?_⟩
  iterate 2 refine ⟨_,rfl,?_⟩
  refine AW.cut lo0 st [(0,vP c 0),(2,vI (0)),(3,vI n),(4,vI k),(26,vB false)] ⟨rfl,rfl,rfl,rfl,rfl,trivial⟩ fun ρ0 => ?_
  refine cxs ?_
  iterate 2 refine ⟨_,rfl,?_⟩
  refine op_stO (z := 0) (c := c) (off := 1) rfl rfl rfl rfl rfl rfl hO (by simp) ?_
  intro s5 hO5 hP5 hn5
  refine cxs ?_
  refine cxs ?_
  exact ⟨.inl rfl,_,rfl,_,_,false,rfl,(rnF_yes h15).symm,hO5,hP5⟩
theorem ac_impl_num (c : Nat) (p : Option Addr) (l : List Int) (a : Int) (f : Bool) (st : St) (hO : (rdC c p l a f).own st) (hR : Rows st 1 fB p l) (hl : bytesOk l) (hs : l.length ≤ 1099511627776) (ha : a ≤ 1099511627776) : C 99 [vP c 0] st (fun v s => ∃ n k b,v = vI n ∧ (n,k,b) = rnF l a f ∧ (rdC c p l k b).own s ∧ Pr (some ⟨c,0,none⟩) st s) := by
 cases f with
 | false => exact good_impl_num c p l a st hO hR hl hs ha
 | true => exact AC.mono (bad_impl_num c p l a st hO hR hl hs ha) fun v s ⟨h1,h2,h3⟩ => ⟨0,a,true,h1,rnF_bad.symm,h2,h3⟩
theorem bad_spec_num (c : Nat) (p : Option Addr) (l : List Int) (a : Int) (st : St) (hO : (rdC c p l a true).own st) (hR : Rows st 1 fB p l) (hl : bytesOk l) (hs : l.length ≤ 1099511627776) (ha : a ≤ 1099511627776) : C 94 [vP c 0] st (fun v s => v = vI 0 ∧ (rdC c p l a true).own s ∧ Pr (some ⟨c,0,none⟩) st s) := by
 obtain ⟨hc0,hm⟩ := rdC_mem hO
 refine AC.enterX (i := ⟨[],[],[0,2,3,4,5,26],[]⟩) [(1,[],[])] Try.func94 rfl rfl (by kernel_rfl) (by kernel_rfl) Try.ntmps94 (Nat.le_of_ble_eq_true rfl) rfl ?_
 refine AW.cut lo0 st [(0,vP c 0),(2,vI (0))] ⟨rfl,rfl,trivial⟩ fun ρ0 => ?_
 iterate 2 refine ⟨_,rfl,?_⟩
 refine ⟨_,op_ld rfl rfl rfl rfl hm rfl,?_⟩
 iterate 2 refine ⟨_,rfl,?_⟩
 refine ⟨_,op_ld rfl rfl rfl rfl hm rfl,?_⟩
 refine ⟨_,rfl,(ac_spec_GetNum p l a st hR hl hs ha).mono ?_⟩
 rintro _ st ⟨n,k,b,rfl,h15,rfl⟩
 iterate 3 refine ⟨_,rfl,?_⟩
 refine AW.cut lo0 st [(0,vP c 0),(2,vI (0)),(3,vI n),(4,vI k),(5,vB b)] ⟨rfl,rfl,rfl,rfl,rfl,trivial⟩ fun ρ0 => ?_
 iterate 2 refine ⟨_,rfl,?_⟩
 refine ⟨_,op_ld rfl rfl rfl rfl hm rfl,?_⟩
 refine ⟨_,rfl,?_⟩
 refine AW.cut lo0 st [(0,vP c 0),(2,vI (0)),(3,vI n),(4,vI k),(26,vB true)] ⟨rfl,rfl,rfl,rfl,rfl,trivial⟩ fun ρ0 => ?_
 iterate 2 refine ⟨_,rfl,?_⟩
 refine op_stO (z := 0) (c := c) (off := 2) rfl rfl rfl rfl rfl rfl hO (by simp) ?_
 intro s5 hO5 hP5 hn5
 refine cxs ?_
 refine cxs ?_
 exact ⟨.inl rfl,_,rfl,rfl,hO5,hP5⟩
theorem good_spec_num (c : Nat) (p : Option Addr) (l : List Int) (a : Int) (st : St) (hO : (rdC c p l a false).own st) (hR : Rows st 1 fB p l) (hl : bytesOk l) (hs : l.length ≤ 1099511627776) (ha : a ≤ 1099511627776) : C 94 [vP c 0] st (fun v s => ∃ n k b,v = vI n ∧ (n,k,b) = rnF l a false ∧ (rdC c p l k b).own s ∧ Pr (some ⟨c,0,none⟩) st s) := by
 obtain ⟨hc0,hm⟩ := rdC_mem hO
 refine AC.enterX (i := ⟨[],[],[0,2,3,4,5,26],[]⟩) [(1,[],[])] Try.func94 rfl rfl (by kernel_rfl) (by kernel_rfl) Try.ntmps94 (Nat.le_of_ble_eq_true rfl) rfl ?_
 refine AW.cut lo0 st [(0,vP c 0),(2,vI (0))] ⟨rfl,rfl,trivial⟩ fun ρ0 => ?_
 iterate 2 refine ⟨_,rfl,?_⟩
 refine ⟨_,op_ld rfl rfl rfl rfl hm rfl,?_⟩
 iterate 2 refine ⟨_,rfl,?_⟩
 refine ⟨_,op_ld rfl rfl rfl rfl hm rfl,?_⟩
 refine ⟨_,rfl,(ac_spec_GetNum p l a st hR hl hs ha).mono ?_⟩
 rintro _ st ⟨n,k,b,rfl,h15,rfl⟩
 rcases b with _|_
 ·iterate 3 refine ⟨_,rfl,?_⟩
  refine AW.cut lo0 st [(0,vP c 0),(2,vI (0)),(3,vI n),(4,vI k),(5,vB false)] ⟨rfl,rfl,rfl,rfl,rfl,trivial⟩ fun ρ0 => ?_
  iterate 2 refine ⟨_,rfl,?_⟩
  refine ⟨_,op_ld rfl rfl rfl rfl hm rfl,?_⟩
  iterate 2 refine ⟨_,rfl,?_⟩
  refine AW.cut lo0 st [(0,vP c 0),(2,vI (0)),(3,vI n),(4,vI k),(26,vB true)] ⟨rfl,rfl,rfl,rfl,rfl,trivial⟩ fun ρ0 => ?_
  iterate 2 refine ⟨_,rfl,?_⟩
  refine op_stO (z := 0) (c := c) (off := 2) rfl rfl rfl rfl rfl rfl hO (by simp) ?_
  intro s5 hO5 hP5 hn5
  refine cxs ?_
  refine cxs ?_
  exact ⟨.inl rfl,_,rfl,0,a,true,rfl,(rnF_no h15).symm,hO5,hP5⟩
 ·iterate 3 refine ⟨_,rfl,?_⟩
  refine AW.cut lo0 st [(0,vP c 0),(2,vI (0)),(3,vI n),(4,vI k),(5,vB true)] ⟨rfl,rfl,rfl,rfl,rfl,trivial⟩ fun ρ0 => ?_
  iterate 2 refine ⟨_,rfl,?_⟩
  refine ⟨_,op_ld rfl rfl rfl rfl hm rfl,?_⟩
  iterate 2 refine ⟨_,rfl,?_⟩
  refine AW.cut lo0 st [(0,vP c 0),(2,vI (0)),(3,vI n),(4,vI k),(26,vB false)] ⟨rfl,rfl,rfl,rfl,rfl,trivial⟩ fun ρ0 => ?_
  refine cxs ?_
  iterate 2 refine ⟨_,rfl,?_⟩
  refine op_stO (z := 0) (c := c) (off := 1) rfl rfl rfl rfl rfl rfl hO (by simp) ?_
  intro s5 hO5 hP5 hn5
  refine cxs ?_
  refine cxs ?_
  exact ⟨.inl rfl,_,rfl,_,_,false,rfl,(rnF_yes h15).symm,hO5,hP5⟩
theorem ac_spec_num (c : Nat) (p : Option Addr) (l : List Int) (a : Int) (f : Bool) (st : St) (hO : (rdC c p l a f).own st) (hR : Rows st 1 fB p l) (hl : bytesOk l) (hs : l.length ≤ 1099511627776) (ha : a ≤ 1099511627776) : C 94 [vP c 0] st (fun v s => ∃ n k b,v = vI n ∧ (n,k,b) = rnF l a f ∧ (rdC c p l k b).own s ∧ Pr (some ⟨c,0,none⟩) st s) := by
 cases f with
 | false => exact good_spec_num c p l a st hO hR hl hs ha
 | true => exact AC.mono (bad_spec_num c p l a st hO hR hl hs ha) fun v s ⟨h1,h2,h3⟩ => ⟨0,a,true,h1,rnF_bad.symm,h2,h3⟩
def rtF (l : List Int) (a : Int) (f : Bool) : ByteArray × Int × Bool := match gtR l a with
 | (n,k,b) => if f = false ∧ b = true then (n,k,false) else (⟨#[]⟩,a,true)
theorem rtF_bad {l : List Int} {a : Int} : rtF l a true = (⟨#[]⟩,a,true) := by unfold rtF; simp
theorem rtF_no {l : List Int} {a k : Int} {n : ByteArray} {f : Bool} (h : (n,k,false) = gtR l a) : rtF l a f = (⟨#[]⟩,a,true) := by unfold rtF; rw [← h]; simp
theorem rtF_yes {l : List Int} {a k : Int} {n : ByteArray} (h : (n,k,true) = gtR l a) : rtF l a false = (n,k,false) := by unfold rtF; rw [← h]; simp
theorem bad_impl_text (c : Nat) (p : Option Addr) (l : List Int) (a : Int) (st : St) (hO : (rdC c p l a true).own st) (hR : Rows st 1 fB p l) (hl : bytesOk l) (hs : l.length ≤ 1099511627776) (ha : a ≤ 1099511627776) : C 100 [vP c 0] st (fun v s => v = .string ⟨#[]⟩ ∧ (rdC c p l a true).own s ∧ Pr (some ⟨c,0,none⟩) st s) := by
 obtain ⟨hc0,hm⟩ := rdC_mem hO
 refine AC.enterX (i := ⟨[],[],[0,2,3,4,5,26],[]⟩) [(1,[],[])] Try.func100 rfl rfl (by kernel_rfl) (by kernel_rfl) Try.ntmps100 (Nat.le_of_ble_eq_true rfl) rfl ?_
 refine AW.cut lo0 st [(0,vP c 0),(2,.string ⟨#[]⟩)] ⟨rfl,rfl,trivial⟩ fun ρ0 => ?_
 iterate 2 refine ⟨_,rfl,?_⟩
 refine ⟨_,op_ld rfl rfl rfl rfl hm rfl,?_⟩
 iterate 2 refine ⟨_,rfl,?_⟩
 refine ⟨_,op_ld rfl rfl rfl rfl hm rfl,?_⟩
 refine ⟨_,rfl,(ac_impl_GetText p l a st hR hl hs ha).mono ?_⟩
 rintro _ st ⟨n,k,b,rfl,h15,rfl⟩
 iterate 3 refine ⟨_,rfl,?_⟩
 refine AW.cut lo0 st [(0,vP c 0),(2,.string ⟨#[]⟩),(3,.string n),(4,vI k),(5,vB b)] ⟨rfl,rfl,rfl,rfl,rfl,trivial⟩ fun ρ0 => ?_
 iterate 2 refine ⟨_,rfl,?_⟩
 refine ⟨_,op_ld rfl rfl rfl rfl hm rfl,?_⟩
 refine ⟨_,rfl,?_⟩
 refine AW.cut lo0 st [(0,vP c 0),(2,.string ⟨#[]⟩),(3,.string n),(4,vI k),(26,vB true)] ⟨rfl,rfl,rfl,rfl,rfl,trivial⟩ fun ρ0 => ?_
 iterate 2 refine ⟨_,rfl,?_⟩
 refine op_stO (z := 0) (c := c) (off := 2) rfl rfl rfl rfl rfl rfl hO (by simp) ?_
 intro s5 hO5 hP5 hn5
 refine cxs ?_
 refine cxs ?_
 exact ⟨.inl rfl,_,rfl,rfl,hO5,hP5⟩
theorem good_impl_text (c : Nat) (p : Option Addr) (l : List Int) (a : Int) (st : St) (hO : (rdC c p l a false).own st) (hR : Rows st 1 fB p l) (hl : bytesOk l) (hs : l.length ≤ 1099511627776) (ha : a ≤ 1099511627776) : C 100 [vP c 0] st (fun v s => ∃ n k b,v = .string n ∧ (n,k,b) = rtF l a false ∧ (rdC c p l k b).own s ∧ Pr (some ⟨c,0,none⟩) st s) := by
 obtain ⟨hc0,hm⟩ := rdC_mem hO
 refine AC.enterX (i := ⟨[],[],[0,2,3,4,5,26],[]⟩) [(1,[],[])] Try.func100 rfl rfl (by kernel_rfl) (by kernel_rfl) Try.ntmps100 (Nat.le_of_ble_eq_true rfl) rfl ?_
 refine AW.cut lo0 st [(0,vP c 0),(2,.string ⟨#[]⟩)] ⟨rfl,rfl,trivial⟩ fun ρ0 => ?_
 iterate 2 refine ⟨_,rfl,?_⟩
 refine ⟨_,op_ld rfl rfl rfl rfl hm rfl,?_⟩
 iterate 2 refine ⟨_,rfl,?_⟩
 refine ⟨_,op_ld rfl rfl rfl rfl hm rfl,?_⟩
 refine ⟨_,rfl,(ac_impl_GetText p l a st hR hl hs ha).mono ?_⟩
 rintro _ st ⟨n,k,b,rfl,h15,rfl⟩
 rcases b with _|_
 ·iterate 3 refine ⟨_,rfl,?_⟩
  refine AW.cut lo0 st [(0,vP c 0),(2,.string ⟨#[]⟩),(3,.string n),(4,vI k),(5,vB false)] ⟨rfl,rfl,rfl,rfl,rfl,trivial⟩ fun ρ0 => ?_
  iterate 2 refine ⟨_,rfl,?_⟩
  refine ⟨_,op_ld rfl rfl rfl rfl hm rfl,?_⟩
  iterate 2 refine ⟨_,rfl,?_⟩
  refine AW.cut lo0 st [(0,vP c 0),(2,.string ⟨#[]⟩),(3,.string n),(4,vI k),(26,vB true)] ⟨rfl,rfl,rfl,rfl,rfl,trivial⟩ fun ρ0 => ?_
  iterate 2 refine ⟨_,rfl,?_⟩
  refine op_stO (z := 0) (c := c) (off := 2) rfl rfl rfl rfl rfl rfl hO (by simp) ?_
  intro s5 hO5 hP5 hn5
  refine cxs ?_
  refine cxs ?_
  exact ⟨.inl rfl,_,rfl,_,a,true,rfl,(rtF_no h15).symm,hO5,hP5⟩
 ·iterate 3 refine ⟨_,rfl,?_⟩
  refine AW.cut lo0 st [(0,vP c 0),(2,.string ⟨#[]⟩),(3,.string n),(4,vI k),(5,vB true)] ⟨rfl,rfl,rfl,rfl,rfl,trivial⟩ fun ρ0 => ?_
  iterate 2 refine ⟨_,rfl,?_⟩
  refine ⟨_,op_ld rfl rfl rfl rfl hm rfl,?_⟩
  iterate 2 refine ⟨_,rfl,?_⟩
  refine AW.cut lo0 st [(0,vP c 0),(2,.string ⟨#[]⟩),(3,.string n),(4,vI k),(26,vB false)] ⟨rfl,rfl,rfl,rfl,rfl,trivial⟩ fun ρ0 => ?_
  refine cxs ?_
  iterate 2 refine ⟨_,rfl,?_⟩
  refine op_stO (z := 0) (c := c) (off := 1) rfl rfl rfl rfl rfl rfl hO (by simp) ?_
  intro s5 hO5 hP5 hn5
  refine cxs ?_
  refine cxs ?_
  exact ⟨.inl rfl,_,rfl,_,_,false,rfl,(rtF_yes h15).symm,hO5,hP5⟩
theorem ac_impl_text (c : Nat) (p : Option Addr) (l : List Int) (a : Int) (f : Bool) (st : St) (hO : (rdC c p l a f).own st) (hR : Rows st 1 fB p l) (hl : bytesOk l) (hs : l.length ≤ 1099511627776) (ha : a ≤ 1099511627776) : C 100 [vP c 0] st (fun v s => ∃ n k b,v = .string n ∧ (n,k,b) = rtF l a f ∧ (rdC c p l k b).own s ∧ Pr (some ⟨c,0,none⟩) st s) := by
 cases f with
 | false => exact good_impl_text c p l a st hO hR hl hs ha
 | true => exact AC.mono (bad_impl_text c p l a st hO hR hl hs ha) fun v s ⟨h1,h2,h3⟩ => ⟨_,a,true,h1,rtF_bad.symm,h2,h3⟩
def rcF (l : List Int) (a : Int) (f : Bool) (m : Int) : Int × Int × Bool := match rnF l a f with
 | (n,k,b) => if m < n then (0,k,true) else (n,k,b)
theorem ac_impl_count (c : Nat) (p : Option Addr) (l : List Int) (a : Int) (f : Bool) (m : Int) (st : St) (hO : (rdC c p l a f).own st) (hR : Rows st 1 fB p l) (hl : bytesOk l) (hs : l.length ≤ 1099511627776) (ha : a ≤ 1099511627776) : C 98 [vP c 0,vI m] st (fun v s => ∃ n k b,v = vI n ∧ (n,k,b) = rcF l a f m ∧ (rdC c p l k b).own s ∧ Pr (some ⟨c,0,none⟩) st s) := by
 refine AC.enterX (i := ⟨[],[],[0,1,4,5,10],[]⟩) [] Try.func98 rfl rfl (by kernel_rfl) (by kernel_rfl) Try.ntmps98 (Nat.le_of_ble_eq_true rfl) rfl ?_
 refine AW.cut lo0 st [(0,vP c 0),(1,vI m),(4,vI (0))] ⟨rfl,rfl,rfl,trivial⟩ fun ρ0 => ?_
 refine ⟨_,rfl,(ac_impl_num c p l a f st hO hR hl hs ha).mono ?_⟩
 rintro _ s7 ⟨n,k,b,rfl,h7,hO7,hP7⟩
 refine AW.cut lo0 s7 [(0,vP c 0),(1,vI m),(4,vI (0)),(5,vI n)] ⟨rfl,rfl,rfl,rfl,trivial⟩ fun ρ0 => ?_
 refine ⟨_,rfl,?_⟩
 rintro (_|_) h10
 ·replace h10 : ¬ (n > m) := of_decide_eq_false h10
  refine AW.cut lo0 s7 [(0,vP c 0),(4,vI (0)),(5,vI n),(10,vB false)] ⟨rfl,rfl,rfl,rfl,trivial⟩ fun ρ0 => ?_
  refine cxs ?_
  refine cxs ?_
  exact ⟨.inl rfl,_,rfl,n,k,b,rfl,by unfold rcF; rw [← h7]; exact (if_neg h10).symm,hO7,hP7⟩
 ·replace h10 : n > m := of_decide_eq_true h10
  refine AW.cut lo0 s7 [(0,vP c 0),(4,vI (0)),(5,vI n),(10,vB true)] ⟨rfl,rfl,rfl,rfl,trivial⟩ fun ρ0 => ?_
  iterate 2 refine ⟨_,rfl,?_⟩
  refine op_stO (z := 0) (c := c) (off := 2) rfl rfl rfl rfl rfl rfl hO7 (by simp) ?_
  intro s5 hO5 hP5 hn5
  refine cxs ?_
  refine cxs ?_
  exact ⟨.inl rfl,_,rfl,0,k,true,rfl,by unfold rcF; rw [← h7]; exact (if_pos h10).symm,hO5,hP7.trans hP5⟩
theorem OwnP.perm {st : St} {l m : List Pc} (h : OwnP st l) (hp : l.Perm m) : OwnP st m := ⟨fun c hc => h.1 c (hp.mem_iff.2 hc),(hp.pairwise_iff fun hd => hd.symm).1 h.2⟩
theorem OwnP.front1 {st : St} {a b y : List Pc} (h : OwnP st (a ++ (b ++ y))) : OwnP st (b ++ (a ++ y)) := h.perm (by
 rw [← List.append_assoc,← List.append_assoc]
 exact List.perm_append_comm.append_right y)
theorem OwnP.front2 {st : St} {a b c y : List Pc} (h : OwnP st (a ++ (b ++ (c ++ y)))) : OwnP st (c ++ (a ++ (b ++ y))) := by
 have h1 : OwnP st ((a ++ b) ++ (c ++ y)) := by rw [List.append_assoc]; exact h
 have h2 := h1.front1
 rw [List.append_assoc] at h2
 exact h2
theorem OwnP.joinF {st st' : St} {l m : List Pc} (h : OwnP st l) (hp : Pres st st') (k : OwnP st' m) (hn : NewP st.next m) : OwnP st' (m ++ l) :=
 OwnP.app k (h.pres hp) fun a ha b hb => (Dis.of (h.1 b hb).old (hn a ha)).symm
theorem OwnP.markG {st st' : St} {m m' y : List Pc} (h : OwnP st (m ++ y)) (hM : OwnP st' m') (hp : m'.map (·.p) = m.map (·.p)) (hL : PrL (m.map (·.p)) st st') : OwnP st' (m' ++ y) := by
 have hd := (List.pairwise_append.1 h.2).2.2
 refine hM.app (h.right.prl hL fun c hc p hp' => ?_) fun a ha b hb => ?_
 ·obtain ⟨d,hd1,rfl⟩ := List.mem_map.1 hp'
  exact hd d hd1 c hc
 ·have : a.p ∈ m.map (·.p) := by rw [← hp]; exact List.mem_map_of_mem ha
  obtain ⟨d,hd1,he⟩ := List.mem_map.1 this
  rw [← he]; exact hd d hd1 b hb
theorem newPs {n : Nat} {l : List Pc} (h : NewP n l) : ∀ p ∈ l.map (·.p),New n p := fun p hp => by
 obtain ⟨c,hc,rfl⟩ := List.mem_map.1 hp
 exact h c hc
abbrev cntState (x : Sta) : Nat := cntS x
def mkState (u : SV) (k : Int) : SV := ⟨u.p,u.q,mkS u.x k⟩
theorem cnt_State {x : Sta} (h : bigS x) : cntState x ≤ 8388608 := by
 have h1 : x.items.length ≤ 1048576 := h.1
 have h2 : x.floors.length ≤ 1048576 := h.2.1
 unfold cntState cntS
 omega
theorem mkp_State (u : SV) (k : Int) : (pcS (mkState u k)).map (·.p) = (pcS u).map (·.p) := rfl
theorem uc_markState (u : SV) (k : Int) (st : St) (hO : OwnP st (pcS u)) (hb : bigS u.x) (h0 : 0 ≤ k) (hk : k ≤ 137438953472) : C 44 [.agg #[vS u.p u.x.items.length,vS u.q u.x.floors.length],vI k] st (fun v s => v = vI (k + (cntState u.x : Int)) ∧ OwnP s (pcS (mkState u k)) ∧ PrL ((pcS u).map (·.p)) st s) :=
 (ac_laws_markState u k st hO hb h0 (by omega)).mono fun v s ⟨h1,h2,h3⟩ => ⟨h1.trans (congrArg (Value.int .i64) (by unfold cntState cntS; omega)),h2,h3⟩
theorem uc_heldState (u : SV) (k : Int) (st : St) (hR : RdS st (mkState u k)) (hb : bigS u.x) (h0 : 0 ≤ k) (hk : k ≤ 137438953472) : C 45 [.agg #[vS u.p u.x.items.length,vS u.q u.x.floors.length],vI k] st (fun v s => v = vI (k + (cntState u.x : Int)) ∧ Pres st s) :=
 (ac_laws_heldState u k st hR hb h0 (by omega)).mono fun v s ⟨h1,h2⟩ => ⟨h1.trans (congrArg (Value.int .i64) (by unfold cntState cntS; omega)),h2⟩
structure LW where
 cap : Int
 frm : Int
 p : Option Addr
 l : List SV
 C : Pc
 ok : l = [] ∨ ∃ a o,C.p = some ⟨a,0,none⟩ ∧ p = some ⟨a,o,none⟩ ∧ ∀ (j : Nat) x,l[j]? = some x → (C.cs.drop (o + j * 2)).take 2 = cSV x
abbrev LW.v (g : LW) : LV := ⟨g.cap,g.frm,g.p,g.l⟩
abbrev LW.x (g : LW) : Lg := g.v.x
theorem LW.rows {st : St} {g : LW} (h : g.C.own st) : Rows st 2 cSV g.p g.l := by
 rcases g.ok with h0 | ⟨a,o,h1,h2,h3⟩
 ·exact .inl h0
 ·rcases h with ⟨h4,_⟩ | ⟨b,h4,hb,hm⟩
  ·rw [h1] at h4; cases h4
  ·rw [h1] at h4
   injection h4 with h4
   injection h4 with h4
   subst h4
   exact .inr ⟨a,o,_,h2,hm,hb,h3⟩
theorem own_one {α : Type} {st : St} {z : Nat} {f : α → List Value} {p : Option Addr} {l : List α} (h0 : 0 < z) (hz : ∀ x,(f x).length = z) (h : OwnP st [pcR z f p l]) : OwnR st z f p l := pc_own h0 hz (h.1 _ (List.mem_singleton_self _))
structure FV where
 p : Option Addr
 l : List Flr
structure TT where
 p : Option Addr
 t : List RV
abbrev TT.x (g : TT) : List (List Int) := rls g.t
end Go.Proofs.Yteabadoaeadcgaa.AM
namespace Go.Proofs.Yteabadoaeadcgaa.AM
open Go Go.Proofs
set_option linter.unusedVariables false
set_option linter.unusedSimpArgs false
def Frs (a b : St) (l : List Pc) : Prop := OwnP b l ∧ NewP a.next l ∧ Pres a b
theorem Frs.join {a b c : St} {l m : List Pc} (h : Frs a b l) (k : Frs b c m) : Frs a c (l ++ m) :=
 ⟨h.1.join k.2.2 k.1 k.2.1,h.2.1.app (k.2.1.le h.2.2.1),h.2.2.trans k.2.2⟩
theorem PrL.inl {a b : List Pc} {st st' : St} (h : PrL (a.map (·.p)) st st') : PrL ((a ++ b).map (·.p)) st st' := h.mono fun p hp => by rw [List.map_append]; exact List.mem_append_left _ hp
theorem PrL.inr {a b : List Pc} {st st' : St} (h : PrL (b.map (·.p)) st st') : PrL ((a ++ b).map (·.p)) st st' := h.mono fun p hp => by rw [List.map_append]; exact List.mem_append_right _ hp
structure Tr where
 leaves : List Int
 root : Int
structure TV extends RV where
 root : Int
abbrev TV.x (t : TV) : Tr := ⟨t.l,t.root⟩
structure Ses where
 peer : Int
 num : Int
 inn : Bool
 age : Int
structure Ris where
 inc : Int
 beat : Int
 tick : Int
abbrev cSess (x : Ses) : List Value := [vI x.peer,vI x.num,vB x.inn,vI x.age]
abbrev cRise (x : Ris) : List Value := [vI x.inc,vI x.beat,vI x.tick]
structure SesV where
 p : Option Addr
 l : List Ses
structure RisV where
 p : Option Addr
 l : List Ris
structure Mg where
 kind : Int
 frm : Int
 to : Int
 num : Int
 hi : Int
 tree : Tr
 vec : List Int
 leaves : List Int
 part : Sta
 marks : List Flr
structure MV where
 kind : Int
 frm : Int
 to : Int
 num : Int
 hi : Int
 tree : TV
 vec : RV
 leaves : RV
 part : SV
 marks : FV
abbrev MV.x (m : MV) : Mg := ⟨m.kind,m.frm,m.to,m.num,m.hi,m.tree.x,m.vec.l,m.leaves.l,m.part.x,m.marks.l⟩
structure RdM (st : St) (m : MV) : Prop where
 tree : Rows st 1 fI m.tree.p m.tree.l
 vec : Rows st 1 fI m.vec.p m.vec.l
 leaves : Rows st 1 fI m.leaves.p m.leaves.l
 part : RdS st m.part
 marks : Rows st 2 cFlr m.marks.p m.marks.l
theorem RdM.pres {st st' : St} {m : MV} (h : RdM st m) (k : Pres st st') : RdM st' m := ⟨k.rows h.tree,k.rows h.vec,k.rows h.leaves,h.part.pres k,k.rows h.marks⟩
structure Nd where
 id : Int
 n : Int
 s : Sta
 t : Tr
 g : Lg
 got : List Int
 acked : List Int
 seen : List (List Int)
 num : Int
 slots : Int
 sess : List Ses
 wait : Int
 limit : Int
 clock : Int
 rises : List Ris
structure NV where
 id : Int
 n : Int
 s : SV
 t : TV
 g : LV
 got : RV
 acked : RV
 seen : TT
 num : Int
 slots : Int
 sess : SesV
 wait : Int
 limit : Int
 clock : Int
 rises : RisV
abbrev NV.x (v : NV) : Nd := ⟨v.id,v.n,v.s.x,v.t.x,v.g.x,v.got.l,v.acked.l,v.seen.x,v.num,v.slots,v.sess.l,v.wait,v.limit,v.clock,v.rises.l⟩
structure NW where
 id : Int
 n : Int
 s : SV
 t : TV
 g : LW
 got : RV
 acked : RV
 seen : TT
 num : Int
 slots : Int
 sess : SesV
 wait : Int
 limit : Int
 clock : Int
 rises : RisV
abbrev NW.v (v : NW) : NV := ⟨v.id,v.n,v.s,v.t,v.g.v,v.got,v.acked,v.seen,v.num,v.slots,v.sess,v.wait,v.limit,v.clock,v.rises⟩
abbrev NW.x (v : NW) : Nd := v.v.x
structure RdN (st : St) (v : NV) : Prop where
 s : RdS st v.s
 t : Rows st 1 fI v.t.p v.t.l
 g : RdL st v.g.p v.g.l
 got : Rows st 1 fI v.got.p v.got.l
 acked : Rows st 1 fI v.acked.p v.acked.l
 seen : RdT st v.seen.p v.seen.t
 sess : Rows st 4 cSess v.sess.p v.sess.l
 rises : Rows st 3 cRise v.rises.p v.rises.l
theorem RdN.pres {st st' : St} {v : NV} (h : RdN st v) (k : Pres st st') : RdN st' v := ⟨h.s.pres k,k.rows h.t,h.g.pres k,k.rows h.got,k.rows h.acked,h.seen.pres k,k.rows h.sess,k.rows h.rises⟩
end Go.Proofs.Yteabadoaeadcgaa.AM
namespace Go.Proofs.Yteabadoaeadcgaa.AM
open Go Go.Proofs
set_option linter.unusedVariables false
set_option linter.unusedSimpArgs false
set_option maxRecDepth 100000
set_option maxHeartbeats 4000000
def bsl (s : ByteArray) : List Int := s.data.toList.map fun b => (b.toNat : Int)
theorem bsl_len (s : ByteArray) : (bsl s).length = s.size := by rw [bsl,List.length_map,Array.length_toList]; rfl
theorem bsl_ok (s : ByteArray) : bytesOk (bsl s) := fun x hx => by
 obtain ⟨b,_,rfl⟩ := List.mem_map.1 hx
 have := b.toNat_lt
 omega
theorem fb_map : ∀ l : List UInt8,(l.map fun b => (b.toNat : Int)).flatMap fB = l.map fun b => Value.int .u8 b.toNat
 | [] => rfl
 | b :: l => by rw [List.map_cons,List.flatMap_cons,fb_map l]; rfl
section
variable {P : Program} {ls : List Tmp} {call : ACallT} {o : Oper} {e : Operand → Value} {lo : Lo} {st : St} {K : Value × Lo × St → Prop}
theorem op_bytes {src dst el : TypeId} {x : Operand} {s : ByteArray} (ho : o.op = .convert src dst x) (hx : e x = .string s) (hd : telem P dst = some el) (h1 : tint P el = some .u8) (h2 : tstr P src = true) (hs : s.size ≤ maxLen)
  (hK : ∀ q st',OwnR st' 1 fB q (bsl s) → Pres st st' → New st.next q → K (.slice q (bsl s).length (bsl s).length,lo,st')) : ∃ r,aoper P ls call o e lo st = some r ∧ K r := by
 obtain ⟨d,op,ty,pos,after,gd⟩ := o
 simp only at ho
 subst ho
 refine ⟨_,?_,hK (some ⟨st.next,0,none⟩) (st.push 1 ((bsl s).flatMap fB)) OwnR.push Pres.push New.self⟩
 simp only [aoper,hd,abytesOf,hx]
 rw [if_pos ⟨h1,h2,hs⟩,bsl_len,show (bsl s).flatMap fB = s.data.toList.map (fun b => Value.int .u8 b.toNat) from fb_map _]
theorem op_litR {t el : TypeId} {n : Nat} {ps : Array (Nat × Operand)} {u : Value} (l : List RV) (ho : o.op = .buildSlice t n ps) (hp : parts e ps = mkp 0 (l.map fun r => vS r.p r.l.length)) (hn : n = l.length) (h0 : 0 < n) (he : telem P t = some el) (hz : tsize P el = some 1) (hz0 : tzero P el = some [u]) (hsz : n ≤ 16777216)
  (hK : ∀ q st',OwnR st' 1 cRV q l → Pres st st' → New st.next q → K (.slice q n n,lo,st')) : ∃ r,aoper P ls call o e lo st = some r ∧ K r := by
 refine op_lit ho hp (by rw [hn,List.length_map]) h0 he hz hz0 Nat.one_pos rfl (by omega) (fun v hv => ?_) ?_
 ·obtain ⟨r,_,rfl⟩ := List.mem_map.1 hv
  exact ⟨rfl,rfl⟩
 ·rw [show (l.map fun r => vS r.p r.l.length).flatMap (fun v => v.cells.toList) = l.flatMap cRV by rw [List.flatMap_map]; rfl]
  exact hK _ _ OwnR.push Pres.push New.self
end
def putS (s : ByteArray) : List Int := putN s.size ++ bsl s
theorem putS_len (s : ByteArray) : (putS s).length ≤ 5 + s.size := by
 have := putN_len s.size
 rw [putS,List.length_append,bsl_len]
 omega
theorem putS_ok (s : ByteArray) : bytesOk (putS s) := (putN_ok _).app (bsl_ok s)
theorem cat_new {st0 st : St} {p q : Option Addr} {A B : Prop} {m : Nat} (hP : Pres st0 st) (hN : New st0.next p) (h : (q = p ∧ A ∧ B) ∨ (0 < m ∧ New st.next q)) : New st0.next q := by
 rcases h with ⟨h,_⟩ | ⟨_,h⟩
 ·rw [h]; exact hN
 ·exact h.le hP.1
theorem ac_spec_PutText (s : ByteArray) (st : St) (hs : s.size ≤ 1048576) : C 161 [.string s] st (fun v s' => ∃ q,v = vS q (putS s).length ∧ OwnR s' 1 fB q (putS s) ∧ New st.next q ∧ Pres st s') := by
 have hsl := bsl_len s
 have hpl := putN_len s.size
 refine AC.enterX (i := ⟨[],[],[0,2],[]⟩) [] Try.func161 rfl rfl (by kernel_rfl) (by kernel_rfl) Try.ntmps161 (Nat.le_of_ble_eq_true rfl) rfl ?_
 refine AW.cut lo0 st [(0,.string s),(2,.slice none 0 0)] ⟨rfl,rfl,trivial⟩ fun ρ0 => ?_
 refine ⟨_,rfl,?_⟩
 refine ⟨_,rfl,(ac_spec_PutNum (s.size : Int) st).mono ?_⟩
 rintro _ s5 ⟨q5,rfl,hO5,hN5,hP5⟩
 refine op_bytes (s := s) rfl rfl rfl rfl rfl (by unfold maxLen; omega) ?_
 intro q7 s7 hO7 hP7 hN7
 refine op_cat' (z := 1) (st := s7) (f := fB) (b := 1) (l := putN (s.size : Int)) (l2 := bsl s) rfl rfl rfl rfl rfl rfl rfl (by decide) fB_len rfl rfl rfl rfl (by first | omega | (simp only [List.length_nil]; omega)) (by unfold maxLen; first | omega | (simp only [List.length_nil]; omega)) (hP7.ownR hO5) (hO7.rows fB_len) ?_
 intro q8 s8 hO8 hPr8 hN8
 refine cxs ?_
 exact ⟨.inl rfl,_,rfl,q8,rfl,hO8,cat_new (hP5.trans hP7) hN5 hN8,hPr8.pres (hP5.trans hP7) hN5⟩
theorem ac_impl_PutText (s : ByteArray) (st : St) (hs : s.size ≤ 1048576) : C 110 [.string s] st (fun v s' => ∃ q,v = vS q (putS s).length ∧ OwnR s' 1 fB q (putS s) ∧ New st.next q ∧ Pres st s') := by
 have hsl := bsl_len s
 have hpl := putN_len s.size
 have hf : fl [⟨none,putN s.size⟩,⟨none,bsl s⟩] = putS s := by simp [fl,putS]
 refine AC.enterX (i := ⟨[],[],[0,2],[]⟩) [] Try.func110 rfl rfl (by kernel_rfl) (by kernel_rfl) Try.ntmps110 (Nat.le_of_ble_eq_true rfl) rfl ?_
 refine AW.cut lo0 st [(0,.string s),(2,.slice none 0 0)] ⟨rfl,rfl,trivial⟩ fun ρ0 => ?_
 refine ⟨_,rfl,?_⟩
 refine ⟨_,rfl,(ac_impl_PutNum (s.size : Int) st).mono ?_⟩
 rintro _ s5 ⟨q5,rfl,hO5,hN5,hP5⟩
 refine op_bytes (s := s) rfl rfl rfl rfl rfl (by unfold maxLen; omega) ?_
 intro q7 s7 hO7 hP7 hN7
 refine op_litR [⟨q5,putN s.size⟩,⟨q7,bsl s⟩] rfl rfl rfl (by decide) rfl rfl rfl (by decide) ?_
 intro q8 s8 hO8 hP8 hN8
 refine ⟨_,rfl,(ac_impl_joined q8 [⟨q5,putN s.size⟩,⟨q7,bsl s⟩] s8 (hO8.rows cRV_len) (fun r hr => by
  rcases List.mem_cons.1 hr with rfl | hr
  ·exact (hP7.trans hP8).rows (hO5.rows fB_len)
  ·rw [List.mem_singleton.1 hr]; exact hP8.rows (hO7.rows fB_len)) (by show (2 : Nat) ≤ 1048576; omega) (by show (fl [⟨none,putN s.size⟩,⟨none,bsl s⟩]).length ≤ _; rw [hf]; have := putS_len s; omega)).mono ?_⟩
 rintro _ s9 ⟨q9,rfl,hO9,hN9,hP9⟩
 refine cxs ?_
 exact ⟨.inl rfl,_,rfl,q9,by first | rfl | exact congrArg (fun n => vS q9 n) (congrArg List.length hf),hf ▸ hO9,hN9.le ((hP5.trans hP7).trans hP8).1,((hP5.trans hP7).trans hP8).trans hP9⟩
def numsB (l : List Int) : List Int := l.flatMap putN
theorem numsB_succ {l : List Int} {i : Nat} {x : Int} (h : l[i]? = some x) : numsB (l.take (i + 1)) = numsB (l.take i) ++ putN x := by
 unfold numsB
 rw [List.take_add_one,h,List.flatMap_append]
 simp
theorem numsB_len : ∀ l : List Int,(numsB l).length ≤ 5 * l.length
 | [] => Nat.le_refl _
 | x :: l => by
  have h1 := numsB_len l
  have h2 := putN_len x
  rw [show numsB (x :: l) = putN x ++ numsB l from List.flatMap_cons,List.length_append,List.length_cons]
  omega
theorem numsB_ok (l : List Int) : bytesOk (numsB l) := fun x hx => by
 obtain ⟨y,_,hy⟩ := List.mem_flatMap.1 hx
 exact putN_ok y x hy
def itL (x : Itm) : List Int := [x.id,x.e.inc,x.e.rank,x.e.beat,x.e.ver]
def itB (x : Itm) : List Int := numsB (itL x) ++ putS x.e.data
def flB (x : Flr) : List Int := putN x.id ++ putN x.inc
def itsB (l : List Itm) : List Int := l.flatMap itB
def flsB (l : List Flr) : List Int := l.flatMap flB
def stB (s : Sta) : List Int := putN (s.items.length : Int) ++ itsB s.items ++ putN (s.floors.length : Int) ++ flsB s.floors
theorem fm_succ {α : Type} {g : α → List Int} {l : List α} {i : Nat} {x : α} (h : l[i]? = some x) : (l.take (i + 1)).flatMap g = (l.take i).flatMap g ++ g x := by
 rw [List.take_add_one,h,List.flatMap_append]
 simp
theorem fm_len {α : Type} {g : α → List Int} {c : Nat} : ∀ {l : List α},(∀ x ∈ l,(g x).length ≤ c) → (l.flatMap g).length ≤ c * l.length
 | [],_ => Nat.zero_le _
 | x :: l,h => by
  have h1 := fm_len (l := l) fun y hy => h y (List.mem_cons_of_mem _ hy)
  have h2 := h x (List.mem_cons_self ..)
  rw [List.flatMap_cons,List.length_append,List.length_cons,Nat.mul_add,Nat.mul_one]
  omega
theorem fm_ok {α : Type} {g : α → List Int} {l : List α} (h : ∀ x,bytesOk (g x)) : bytesOk (l.flatMap g) := fun y hy => by
 obtain ⟨x,_,hx⟩ := List.mem_flatMap.1 hy
 exact h x y hx
theorem itB_len {x : Itm} (h : x.e.data.size ≤ 8) : (itB x).length ≤ 38 := by
 have h1 := numsB_len (itL x)
 have h2 := putS_len x.e.data
 rw [itB,List.length_append]
 have : (itL x).length = 5 := rfl
 omega
theorem flB_len (x : Flr) : (flB x).length ≤ 10 := by
 have h1 := putN_len x.id
 have h2 := putN_len x.inc
 rw [flB,List.length_append]
 omega
theorem stB_ok (s : Sta) : bytesOk (stB s) :=
 (((putN_ok _).app (fm_ok fun x => (numsB_ok _).app (putS_ok _))).app (putN_ok _)).app (fm_ok fun x => (putN_ok _).app (putN_ok _))
theorem okSize {s : Sta} (hk : stateOk s) {x : Itm} (hx : x ∈ s.items) : x.e.data.size ≤ 8 := by
 obtain ⟨j,hj⟩ := List.getElem?_of_mem hx
 exact (hk.1 j x hj).2.1.2.2.2.2
theorem its_len {s : Sta} (hk : stateOk s) (i : Nat) : (itsB (s.items.take i)).length ≤ 38 * s.items.length := by
 have h1 : (itsB (s.items.take i)).length ≤ 38 * (s.items.take i).length := fm_len fun x hx => itB_len (okSize hk (List.mem_of_mem_take hx))
 rw [List.length_take] at h1
 omega
theorem fls_len (l : List Flr) (i : Nat) : (flsB (l.take i)).length ≤ 10 * l.length := by
 have h1 : (flsB (l.take i)).length ≤ 10 * (l.take i).length := fm_len fun x _ => flB_len x
 rw [List.length_take] at h1
 omega
theorem stB_len {s : Sta} (hk : stateOk s) : (stB s).length ≤ 10 + 38 * s.items.length + 10 * s.floors.length := by
 have h1 := its_len hk s.items.length
 have h2 := fls_len s.floors s.floors.length
 rw [List.take_length] at h1 h2
 have h3 := putN_len (s.items.length : Int)
 have h4 := putN_len (s.floors.length : Int)
 rw [stB,List.length_append,List.length_append,List.length_append]
 omega
theorem cat_dis {st : St} {p q r : Option Addr} {A B : Prop} {m : Nat} (hd : Dis p r) (ho : Old st.next r) (h : (q = p ∧ A ∧ B) ∨ (0 < m ∧ New st.next q)) : Dis q r := by
 rcases h with ⟨h,_⟩ | ⟨_,h⟩
 ·rw [h]; exact hd
 ·exact (Dis.of ho h).symm
theorem ac_spec_l6Bytes (s : SV) (st : St) (hR : RdS st s) (hb : bigS s.x) (hk : stateOk s.x) : C 97 [.agg #[vS s.p s.x.items.length,vS s.q s.x.floors.length]] st (fun v s' => ∃ q,v = vS q (stB s.x).length ∧ OwnR s' 1 fB q (stB s.x) ∧ New st.next q ∧ Pres st s') := by
 have hs1 : s.x.items.length ≤ 1048576 := hb.1
 have hs2 : s.x.floors.length ≤ 1048576 := hb.2.1
 have hpl1 := putN_len (s.x.items.length : Int)
 have hpl2 := putN_len (s.x.floors.length : Int)
 refine AC.enterX (i := ⟨[1,5],[1,5,9,14,20,26,32,34,36,38,55,60,66,73,82],[0,1,2,3,4,5,6,7,8,17,44,69],[]⟩) [(6,[],[])] Try.func97 rfl rfl (by kernel_rfl) (by kernel_rfl) Try.ntmps97 (Nat.le_of_ble_eq_true rfl) rfl ?_
 refine ⟨_,rfl,?_⟩
 refine AW.cutM (1) st [(1,vL 1 0 (0)),(2,.slice none 0 0)] [(1,0,[vS s.p s.x.items.length,vS s.q s.x.floors.length])] ⟨rfl,rfl,trivial⟩ ⟨rfl,trivial⟩ rfl fun ρ0 ff => ?_
 refine ⟨_,rfl,?_⟩
 refine ⟨_,op_ldo rfl rfl rfl rfl,?_⟩
 refine ⟨_,rfl,?_⟩
 refine ⟨_,rfl,(ac_spec_PutNum (s.x.items.length : Int) st).mono ?_⟩
 rintro _ s12 ⟨q12,rfl,hO12,hN12,hP12⟩
 refine cxs ?_
 refine AW.cutM (1) s12 [(1,vL 1 0 (0)),(2,.slice none 0 0),(3,vS q12 (putN (s.x.items.length : Int)).length),(4,vI (0))] [(1,0,[vS s.p s.x.items.length,vS s.q s.x.floors.length])] ⟨rfl,rfl,rfl,rfl,trivial⟩ ⟨rfl,trivial⟩ rfl fun ρ0 ff => ?_
 refine AW.loopM (fun x : Nat × Option Addr × List Int => [(1,vL 1 0 (0)),(2,.slice none 0 0),(3,vS x.2.1 x.2.2.length),(4,vI (x.1 : Int))]) (fun x : Nat × Option Addr × List Int => [(1,0,[vS s.p s.x.items.length,vS s.q s.x.floors.length])]) (fun m (x : Nat × Option Addr × List Int) st' => m = s.x.items.length - x.1 ∧ x.1 ≤ s.x.items.length ∧ x.2.2 = putN (s.x.items.length : Int) ++ itsB (s.x.items.take x.1) ∧ OwnR st' 1 fB x.2.1 x.2.2 ∧ New st.next x.2.1 ∧ Pres st st') (0,q12,putN (s.x.items.length : Int)) _ ⟨rfl,rfl,rfl,rfl,trivial⟩ ⟨rfl,trivial⟩ ⟨rfl,Nat.zero_le _,(List.append_nil _).symm,hO12,hN12,hP12⟩ ?_
 rintro m ⟨i,q,b⟩ ρ0 ff gg st' ⟨rfl,hi,hv,hO,hN,hP⟩
 simp only at hi hv hO hN
 have hbl : b.length ≤ 5 + 38 * s.x.items.length := by rw [hv,List.length_append]; have := its_len hk i; omega
 refine ⟨_,rfl,?_⟩
 refine ⟨_,op_ldo rfl rfl rfl rfl,?_⟩
 iterate 2 refine ⟨_,rfl,?_⟩
 rintro (_|_) h17
 ·replace h17 : ¬ ((i : Int) < (s.x.items.length : Int)) := of_decide_eq_false h17
  refine AW.cutM (gg) st' [(1,vL 1 0 (0)),(2,.slice none 0 0),(3,vS q b.length),(4,vI (i : Int)),(17,vB false)] [(1,0,[vS s.p s.x.items.length,vS s.q s.x.floors.length])] ⟨rfl,rfl,rfl,rfl,rfl,trivial⟩ ⟨rfl,trivial⟩ rfl fun ρ0 ff => ?_
  have hv1 : b = putN (s.x.items.length : Int) ++ itsB s.x.items := by rw [hv,show i = s.x.items.length by omega,List.take_length]
  obtain ⟨s1,hs1'⟩ : ∃ s1,s1 = st' := ⟨_,rfl⟩
  subst hs1'
  refine cxs ?_
  refine ⟨_,rfl,?_⟩
  refine ⟨_,op_ldo rfl rfl rfl rfl,?_⟩
  refine ⟨_,rfl,?_⟩
  refine ⟨_,rfl,(ac_spec_PutNum (s.x.floors.length : Int) s1).mono ?_⟩
  rintro _ s63 ⟨q63,rfl,hO63,hN63,hP63⟩
  refine op_cat' (z := 1) (st := s63) (f := fB) (b := 1) (l := b) (l2 := putN (s.x.floors.length : Int)) rfl rfl rfl rfl rfl rfl rfl (by decide) fB_len rfl rfl rfl rfl (by first | omega | (simp only [List.length_nil]; omega)) (by unfold maxLen; first | omega | (simp only [List.length_nil]; omega)) (hP63.ownR hO) (hO63.rows fB_len) ?_
  intro q64 s64 hO64 hPr64 hN64
  refine cxs ?_
  have hN64' := cat_new (hP.trans hP63) hN hN64
  have hP64' := hPr64.pres (hP.trans hP63) hN
  refine AW.cutM (gg) s64 [(1,vL 1 0 (0)),(2,.slice none 0 0),(3,vS q64 (b ++ (putN (s.x.floors.length : Int))).length),(8,vI (0))] [(1,0,[vS s.p s.x.items.length,vS s.q s.x.floors.length])] ⟨rfl,rfl,rfl,rfl,trivial⟩ ⟨rfl,trivial⟩ rfl fun ρ0 ff => ?_
  refine AW.loopM (fun z : Nat × Option Addr × List Int => [(1,vL 1 0 (0)),(2,.slice none 0 0),(3,vS z.2.1 z.2.2.length),(8,vI (z.1 : Int))]) (fun z : Nat × Option Addr × List Int => [(1,0,[vS s.p s.x.items.length,vS s.q s.x.floors.length])]) (fun m (z : Nat × Option Addr × List Int) st' => m = s.x.floors.length - z.1 ∧ z.1 ≤ s.x.floors.length ∧ z.2.2 = b ++ putN (s.x.floors.length : Int) ++ flsB (s.x.floors.take z.1) ∧ OwnR st' 1 fB z.2.1 z.2.2 ∧ New st.next z.2.1 ∧ Pres st st') (0,q64,b ++ putN (s.x.floors.length : Int)) _ ⟨rfl,rfl,rfl,rfl,trivial⟩ ⟨rfl,trivial⟩ ⟨rfl,Nat.zero_le _,(List.append_nil _).symm,hO64,hN64',hP64'⟩ ?_
  rintro m ⟨j,r,f⟩ ρ0 ff gg st' ⟨rfl,hj,hw,hOf,hNf,hPf⟩
  simp only at hj hw hOf hNf
  have hfl : f.length ≤ 10 + 38 * s.x.items.length + 10 * s.x.floors.length := by rw [hw,List.length_append,List.length_append]; have := fls_len s.x.floors j; omega
  refine ⟨_,rfl,?_⟩
  refine ⟨_,op_ldo rfl rfl rfl rfl,?_⟩
  iterate 2 refine ⟨_,rfl,?_⟩
  rintro (_|_) h69
  ·replace h69 : ¬ ((j : Int) < (s.x.floors.length : Int)) := of_decide_eq_false h69
   refine AW.cutM (gg) st' [(1,vL 1 0 (0)),(2,.slice none 0 0),(3,vS r f.length),(8,vI (j : Int)),(69,vB false)] [(1,0,[vS s.p s.x.items.length,vS s.q s.x.floors.length])] ⟨rfl,rfl,rfl,rfl,rfl,trivial⟩ ⟨rfl,trivial⟩ rfl fun ρ0 ff => ?_
   have hw1 : f = stB s.x := by rw [hw,show j = s.x.floors.length by omega,List.take_length,hv1]; rfl
   refine cxs ?_
   refine cxs ?_
   refine ⟨.inl rfl,_,rfl,r,?_⟩
   rw [← hw1]
   exact ⟨rfl,hOf,hNf,hPf⟩
  ·replace h69 : (j : Int) < (s.x.floors.length : Int) := of_decide_eq_true h69
   refine AW.cutM (gg) st' [(1,vL 1 0 (0)),(2,.slice none 0 0),(3,vS r f.length),(8,vI (j : Int)),(69,vB true)] [(1,0,[vS s.p s.x.items.length,vS s.q s.x.floors.length])] ⟨rfl,rfl,rfl,rfl,rfl,trivial⟩ ⟨rfl,trivial⟩ rfl fun ρ0 ff => ?_
   refine cxs ?_
   refine ⟨_,rfl,?_⟩
   refine ⟨_,op_ldo rfl rfl rfl rfl,?_⟩
   refine op_at j (hPf.rows hR.2) (by omega) rfl rfl rfl rfl rfl rfl rfl ?_
   intro x76 b76 d76 k76 hy76 hb76 hm76 hc76 ho76
   refine ⟨_,rfl,?_⟩
   refine ⟨_,op_ldc (i := 0) rfl rfl rfl rfl hm76 hc76 rfl rfl,?_⟩
   have hpa := putN_len x76.id
   refine ⟨_,rfl,(ac_spec_PutNum x76.id st').mono ?_⟩
   rintro _ s79 ⟨q79,rfl,hO79,hN79,hP79⟩
   refine op_cat' (z := 1) (st := s79) (f := fB) (b := 1) (l := f) (l2 := putN x76.id) rfl rfl rfl rfl rfl rfl rfl (by decide) fB_len rfl rfl rfl rfl (by first | omega | (simp only [List.length_nil]; omega)) (by unfold maxLen; first | omega | (simp only [List.length_nil]; omega)) (hP79.ownR hOf) (hO79.rows fB_len) ?_
   intro q80 s80 hO80 hPr80 hN80
   refine AW.cutM (gg) s80 [(1,vL 1 0 (0)),(2,.slice none 0 0),(3,vS q80 (f ++ (putN x76.id)).length),(8,vI (j : Int)),(69,vB true)] [(1,0,[vS s.p s.x.items.length,vS s.q s.x.floors.length])] ⟨rfl,rfl,rfl,rfl,rfl,trivial⟩ ⟨rfl,trivial⟩ rfl fun ρ0 ff => ?_
   have hfa : (f ++ putN x76.id).length = f.length + (putN x76.id).length := List.length_append
   have hN80' := cat_new (hPf.trans hP79) hNf hN80
   have hP80' := hPr80.pres (hPf.trans hP79) hNf
   refine ⟨_,rfl,?_⟩
   refine ⟨_,op_ldo rfl rfl rfl rfl,?_⟩
   refine op_el j (hP80'.rows hR.2) hy76 rfl rfl rfl rfl rfl rfl rfl ?_
   intro b85 d85 k85 hb85 hm85 hc85 ho85
   refine ⟨_,rfl,?_⟩
   refine ⟨_,op_ldc (i := 1) rfl rfl rfl rfl hm85 hc85 rfl rfl,?_⟩
   have hpb := putN_len x76.inc
   refine ⟨_,rfl,(ac_spec_PutNum x76.inc s80).mono ?_⟩
   rintro _ s88 ⟨q88,rfl,hO88,hN88,hP88⟩
   refine op_cat' (z := 1) (st := s88) (f := fB) (b := 1) (l := (f ++ putN x76.id)) (l2 := putN x76.inc) rfl rfl rfl rfl rfl rfl rfl (by decide) fB_len rfl rfl rfl rfl (by first | omega | (simp only [List.length_nil]; omega)) (by unfold maxLen; first | omega | (simp only [List.length_nil]; omega)) (hP88.ownR hO80) (hO88.rows fB_len) ?_
   intro q89 s89 hO89 hPr89 hN89
   refine AW.cutM (gg) s89 [(1,vL 1 0 (0)),(2,.slice none 0 0),(3,vS q89 ((f ++ putN x76.id) ++ (putN x76.inc)).length),(8,vI (j : Int)),(69,vB true)] [(1,0,[vS s.p s.x.items.length,vS s.q s.x.floors.length])] ⟨rfl,rfl,rfl,rfl,rfl,trivial⟩ ⟨rfl,trivial⟩ rfl fun ρ0 ff => ?_
   have ew71 : IntKind.wrap .i64 ((j : Int) + (1)) = ((j + 1 : Nat) : Int) := (wrap_i64 (by omega) (by omega)).trans (by omega)
   refine ⟨_,rfl,?_⟩
   exact ⟨(j + 1,q89,f ++ putN x76.id ++ putN x76.inc),s.x.floors.length - (j + 1),by omega,⟨rfl,rfl,rfl,congrArg (Value.int .i64) ew71,trivial⟩,⟨rfl,trivial⟩,rfl,by first | omega | (simp only; omega),by rw [show flsB (s.x.floors.take (j + 1)) = flsB (s.x.floors.take j) ++ flB x76 from fm_succ hy76,← List.append_assoc,← hw,List.append_assoc]; rfl,hO89,cat_new (hP80'.trans hP88) hN80' hN89,hPr89.pres (hP80'.trans hP88) hN80'⟩
 ·replace h17 : (i : Int) < (s.x.items.length : Int) := of_decide_eq_true h17
  refine AW.cutM (gg) st' [(1,vL 1 0 (0)),(2,.slice none 0 0),(3,vS q b.length),(4,vI (i : Int)),(17,vB true)] [(1,0,[vS s.p s.x.items.length,vS s.q s.x.floors.length])] ⟨rfl,rfl,rfl,rfl,rfl,trivial⟩ ⟨rfl,trivial⟩ rfl fun ρ0 ff => ?_
  obtain ⟨s1,hs1'⟩ : ∃ s1,s1 = st' := ⟨_,rfl⟩
  subst hs1'
  refine cxs ?_
  refine ⟨_,rfl,?_⟩
  refine ⟨_,op_ldo rfl rfl rfl rfl,?_⟩
  refine op_at i (hP.rows hR.1) (by omega) rfl rfl rfl rfl rfl rfl rfl ?_
  intro x23 b23 d23 k23 hy23 hb23 hm23 hc23 ho23
  refine ⟨_,rfl,?_⟩
  refine ⟨_,op_lda rfl rfl rfl rfl rfl hm23 (sub_row 1 5 hc23 rfl (by decide)) rfl,?_⟩
  refine ⟨_,rfl,?_⟩
  refine ⟨_,op_sto rfl rfl rfl rfl rfl rfl rfl,?_⟩
  refine AW.cutM (gg + 1) s1 [(1,vL 1 0 (0)),(2,.slice none 0 0),(3,vS q b.length),(4,vI (i : Int)),(5,vL 5 0 (gg)),(17,vB true)] [(1,0,[vS s.p s.x.items.length,vS s.q s.x.floors.length]),(5,gg,[vI x23.e.inc,vI x23.e.rank,vI x23.e.beat,vI x23.e.ver,.string x23.e.data])] ⟨rfl,rfl,rfl,rfl,rfl,rfl,trivial⟩ ⟨rfl,rfl,trivial⟩ rfl fun ρ0 ff => ?_
  have hdz : x23.e.data.size ≤ 8 := okSize hk (List.mem_of_getElem? hy23)
  refine ⟨_,rfl,?_⟩
  refine ⟨_,op_ldo rfl rfl rfl rfl,?_⟩
  refine op_el i (hP.rows hR.1) hy23 rfl rfl rfl rfl rfl rfl rfl ?_
  intro b29 d29 k29 hb29 hm29 hc29 ho29
  refine ⟨_,rfl,?_⟩
  refine ⟨_,op_ldc (i := 0) rfl rfl rfl rfl hm29 hc29 rfl rfl,?_⟩
  refine ⟨_,rfl,?_⟩
  refine ⟨_,op_ldo rfl rfl rfl rfl,?_⟩
  refine ⟨_,rfl,?_⟩
  refine ⟨_,op_ldo rfl rfl rfl rfl,?_⟩
  refine ⟨_,rfl,?_⟩
  refine ⟨_,op_ldo rfl rfl rfl rfl,?_⟩
  refine ⟨_,rfl,?_⟩
  refine ⟨_,op_ldo rfl rfl rfl rfl,?_⟩
  refine op_litI (k := .i64) (l := itL x23) rfl rfl rfl rfl rfl rfl (by decide) ?_
  intro q40 s40 hO40 hP40 hN40
  refine cxs ?_
  have h5 : (itL x23).length = 5 := rfl
  have hO40 : OwnR s40 1 fI q40 (itL x23) := hO40
  refine AW.cutM (gg + 1) s40 [(1,vL 1 0 (0)),(2,.slice none 0 0),(3,vS q b.length),(4,vI (i : Int)),(5,vL 5 0 (gg)),(6,vS q40 (itL x23).length),(7,vI (0)),(17,vB true)] [(1,0,[vS s.p s.x.items.length,vS s.q s.x.floors.length]),(5,gg,[vI x23.e.inc,vI x23.e.rank,vI x23.e.beat,vI x23.e.ver,.string x23.e.data])] ⟨rfl,rfl,rfl,rfl,rfl,rfl,rfl,rfl,trivial⟩ ⟨rfl,rfl,trivial⟩ rfl fun ρ0 ff => ?_
  refine AW.loopM (fun y : Nat × Option Addr × List Int => [(1,vL 1 0 (0)),(2,.slice none 0 0),(3,vS y.2.1 y.2.2.length),(4,vI (i : Int)),(5,vL 5 0 (gg)),(6,vS q40 (itL x23).length),(7,vI (y.1 : Int)),(17,vB true)]) (fun y : Nat × Option Addr × List Int => [(1,0,[vS s.p s.x.items.length,vS s.q s.x.floors.length]),(5,gg,[vI x23.e.inc,vI x23.e.rank,vI x23.e.beat,vI x23.e.ver,.string x23.e.data])]) (fun m (y : Nat × Option Addr × List Int) st' => m = 5 - y.1 ∧ y.1 ≤ 5 ∧ y.2.2 = b ++ numsB ((itL x23).take y.1) ∧ OwnR st' 1 fB y.2.1 y.2.2 ∧ New st.next y.2.1 ∧ OwnR st' 1 fI q40 (itL x23) ∧ Dis y.2.1 q40 ∧ Pres st st') (0,q,b) _ ⟨rfl,rfl,rfl,rfl,rfl,rfl,rfl,rfl,trivial⟩ ⟨rfl,rfl,trivial⟩ ⟨rfl,Nat.zero_le _,(List.append_nil _).symm,hP40.ownR hO,hN,hO40,Dis.of hO.old hN40,hP.trans hP40⟩ ?_
  rintro m ⟨k,r,c⟩ ρ0 ff gg2 st' ⟨rfl,hk5,hc,hOc,hNc,hO5,hd5,hPc⟩
  simp only at hk5 hc hOc hNc hd5
  have hcl : c.length ≤ 30 + 38 * s.x.items.length := by rw [hc,List.length_append]; have := numsB_len ((itL x23).take k); rw [List.length_take] at this; omega
  iterate 2 refine ⟨_,rfl,?_⟩
  rintro (_|_) h44
  ·replace h44 : ¬ ((k : Int) < ((itL x23).length : Int)) := of_decide_eq_false h44
   refine AW.cutM (gg2) st' [(1,vL 1 0 (0)),(2,.slice none 0 0),(3,vS r c.length),(4,vI (i : Int)),(5,vL 5 0 (gg)),(6,vS q40 (itL x23).length),(7,vI (k : Int)),(17,vB true),(44,vB false)] [(1,0,[vS s.p s.x.items.length,vS s.q s.x.floors.length]),(5,gg,[vI x23.e.inc,vI x23.e.rank,vI x23.e.beat,vI x23.e.ver,.string x23.e.data])] ⟨rfl,rfl,rfl,rfl,rfl,rfl,rfl,rfl,rfl,trivial⟩ ⟨rfl,rfl,trivial⟩ rfl fun ρ0 ff => ?_
   have hc5 : c = b ++ numsB (itL x23) := by rw [hc,show k = 5 by omega]; rfl
   refine cxs ?_
   refine ⟨_,rfl,?_⟩
   refine ⟨_,op_ldo rfl rfl rfl rfl,?_⟩
   have hpt := putS_len x23.e.data
   refine ⟨_,rfl,(ac_spec_PutText x23.e.data st' (by first | assumption | omega)).mono ?_⟩
   rintro _ s57 ⟨q57,rfl,hO57,hN57,hP57⟩
   refine op_cat' (z := 1) (st := s57) (f := fB) (b := 1) (l := c) (l2 := putS x23.e.data) rfl rfl rfl rfl rfl rfl rfl (by decide) fB_len rfl rfl rfl rfl (by first | omega | (simp only [List.length_nil]; omega)) (by unfold maxLen; first | omega | (simp only [List.length_nil]; omega)) (hP57.ownR hOc) (hO57.rows fB_len) ?_
   intro q58 s58 hO58 hPr58 hN58
   refine AW.cutM (gg2) s58 [(1,vL 1 0 (0)),(2,.slice none 0 0),(3,vS q58 (c ++ (putS x23.e.data)).length),(4,vI (i : Int)),(5,vL 5 0 (gg)),(6,vS q40 (itL x23).length),(7,vI (k : Int)),(17,vB true),(44,vB false)] [(1,0,[vS s.p s.x.items.length,vS s.q s.x.floors.length]),(5,gg,[vI x23.e.inc,vI x23.e.rank,vI x23.e.beat,vI x23.e.ver,.string x23.e.data])] ⟨rfl,rfl,rfl,rfl,rfl,rfl,rfl,rfl,rfl,trivial⟩ ⟨rfl,rfl,trivial⟩ rfl fun ρ0 ff => ?_
   have ew19 : IntKind.wrap .i64 ((i : Int) + (1)) = ((i + 1 : Nat) : Int) := (wrap_i64 (by omega) (by omega)).trans (by omega)
   refine ⟨_,rfl,?_⟩
   exact ⟨(i + 1,q58,c ++ putS x23.e.data),s.x.items.length - (i + 1),by omega,⟨rfl,rfl,rfl,congrArg (Value.int .i64) ew19,trivial⟩,⟨rfl,trivial⟩,rfl,by first | omega | (simp only; omega),by rw [show itsB (s.x.items.take (i + 1)) = itsB (s.x.items.take i) ++ itB x23 from fm_succ hy23,← List.append_assoc,← hv,hc5,List.append_assoc]; rfl,hO58,cat_new (hPc.trans hP57) hNc hN58,hPr58.pres (hPc.trans hP57) hNc⟩
  ·replace h44 : (k : Int) < ((itL x23).length : Int) := of_decide_eq_true h44
   refine AW.cutM (gg2) st' [(1,vL 1 0 (0)),(2,.slice none 0 0),(3,vS r c.length),(4,vI (i : Int)),(5,vL 5 0 (gg)),(6,vS q40 (itL x23).length),(7,vI (k : Int)),(17,vB true),(44,vB true)] [(1,0,[vS s.p s.x.items.length,vS s.q s.x.floors.length]),(5,gg,[vI x23.e.inc,vI x23.e.rank,vI x23.e.beat,vI x23.e.ver,.string x23.e.data])] ⟨rfl,rfl,rfl,rfl,rfl,rfl,rfl,rfl,rfl,trivial⟩ ⟨rfl,rfl,trivial⟩ rfl fun ρ0 ff => ?_
   refine cxs ?_
   refine op_at k (hO5.rows fI_len) (by omega) rfl rfl rfl rfl rfl rfl rfl ?_
   intro x50 b50 d50 k50 hy50 hb50 hm50 hc50 ho50
   refine ⟨_,op_ldc (i := 0) rfl rfl rfl rfl hm50 hc50 rfl rfl,?_⟩
   have hpl := putN_len x50
   refine ⟨_,rfl,(ac_spec_PutNum x50 st').mono ?_⟩
   rintro _ s52 ⟨q52,rfl,hO52,hN52,hP52⟩
   refine op_cat' (z := 1) (st := s52) (f := fB) (b := 1) (l := c) (l2 := putN x50) rfl rfl rfl rfl rfl rfl rfl (by decide) fB_len rfl rfl rfl rfl (by first | omega | (simp only [List.length_nil]; omega)) (by unfold maxLen; first | omega | (simp only [List.length_nil]; omega)) (hP52.ownR hOc) (hO52.rows fB_len) ?_
   intro q53 s53 hO53 hPr53 hN53
   refine AW.cutM (gg2) s53 [(1,vL 1 0 (0)),(2,.slice none 0 0),(3,vS q53 (c ++ (putN x50)).length),(4,vI (i : Int)),(5,vL 5 0 (gg)),(6,vS q40 (itL x23).length),(7,vI (k : Int)),(17,vB true),(44,vB true)] [(1,0,[vS s.p s.x.items.length,vS s.q s.x.floors.length]),(5,gg,[vI x23.e.inc,vI x23.e.rank,vI x23.e.beat,vI x23.e.ver,.string x23.e.data])] ⟨rfl,rfl,rfl,rfl,rfl,rfl,rfl,rfl,rfl,trivial⟩ ⟨rfl,rfl,trivial⟩ rfl fun ρ0 ff => ?_
   have ew46 : IntKind.wrap .i64 ((k : Int) + (1)) = ((k + 1 : Nat) : Int) := (wrap_i64 (by omega) (by omega)).trans (by omega)
   refine ⟨_,rfl,?_⟩
   exact ⟨(k + 1,q53,c ++ putN x50),5 - (k + 1),by omega,⟨rfl,rfl,rfl,rfl,rfl,rfl,congrArg (Value.int .i64) ew46,rfl,trivial⟩,⟨rfl,rfl,trivial⟩,rfl,by first | omega | (simp only; omega),by rw [numsB_succ hy50,← List.append_assoc,← hc],hO53,cat_new (hPc.trans hP52) hNc hN53,hPr53.ownR hd5 (hP52.ownR hO5),cat_dis hd5 (hP52.ownR hO5).old hN53,hPr53.pres (hPc.trans hP52) hNc⟩
end Go.Proofs.Yteabadoaeadcgaa.AM
