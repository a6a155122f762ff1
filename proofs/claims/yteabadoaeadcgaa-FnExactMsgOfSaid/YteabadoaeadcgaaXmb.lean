/- Part 2 of the texts on which the law's proof rests. -/
import Derived.Test.YteabadoaeadcgaaXma
namespace Go.Proofs.Yteabadoaeadcgaa.AM
open Go Go.Proofs
set_option linter.unusedVariables false
set_option linter.unusedSimpArgs false
set_option maxRecDepth 100000
set_option maxHeartbeats 4000000
def mkFlr (k : Int) : Flr := ⟨k,k + 1⟩
def mkItm (k : Int) : Itm := ⟨k,⟨k + 1,k + 2,k + 3,k + 4,mText (k + 5)⟩⟩
def mkRow {α : Type} (mk : Int → α) (z n : Nat) (k : Int) : List α := (List.range n).map fun (j : Nat) => mk (k + (z : Int) * (j : Int))
theorem mkRow_len {α : Type} (mk : Int → α) (z n : Nat) (k : Int) : (mkRow mk z n k).length = n := by simp [mkRow]
theorem mkRow_get {α : Type} {mk : Int → α} {z n : Nat} {k : Int} {j : Nat} {x : α} (h : (mkRow mk z n k)[j]? = some x) : x = mk (k + (z : Int) * (j : Int)) := by
 have hj := (List.getElem?_eq_some_iff.1 h).1
 rw [mkRow_len] at hj
 simp [mkRow,List.getElem?_range hj] at h
 exact h.symm
theorem mkRow_set {α : Type} {mk : Int → α} {z : Nat} {l : List α} {k : Int} {i : Nat} (hi : i < l.length) : (mkRow mk z i k ++ l.drop i).set i (mk (k + (z : Int) * (i : Int))) = mkRow mk z (i + 1) k ++ l.drop (i + 1) := by
 have h1 : mkRow mk z (i + 1) k = mkRow mk z i k ++ [mk (k + (z : Int) * (i : Int))] := by simp [mkRow,List.range_succ]
 rw [List.set_append_right _ _ (by rw [mkRow_len]; exact Nat.le_refl _),mkRow_len,Nat.sub_self,List.drop_eq_getElem_cons hi,List.set_cons_zero,h1]
 simp
theorem set_set {α : Type} (l : List α) (i : Nat) (x y : α) : (l.set i x).set i y = l.set i y := List.set_set ..
theorem getElem?_set_same {α : Type} {l : List α} {i : Nat} {x : α} (h : i < l.length) : (l.set i x)[i]? = some x := List.getElem?_set_self h
theorem ac_laws_markFloorS (p : Option Addr) (l : List Flr) (k : Int) (st : St) (hO : OwnR st 2 cFlr p l) (hs : szOk l.length) (h0 : 0 ≤ k) (hk : k ≤ 549755813888) : C 105 [vS p l.length,vI k] st (fun v s => v = vI (k + 2 * (l.length : Int)) ∧ OwnR s 2 cFlr p (mkRow mkFlr 2 l.length k) ∧ Pr p st s) := by
 have hs : l.length ≤ 1048576 := hs
 refine AC.enterX (i := ⟨[],[],[0,1,4,5,9],[]⟩) [] Try.func105 rfl rfl (by kernel_rfl) (by kernel_rfl) Try.ntmps105 (Lb rfl) rfl ?_
 refine cxs ?_
 refine Cu lo0 st [(0,vS p l.length),(1,vI k),(4,vI 0),(5,vI 0)] fun _ => ?_
 refine AW.loop0 (fun i : Nat => [(0,vS p l.length),(1,vI (k + 2 * (i : Int))),(5,vI (i : Int))]) (fun m (i : Nat) st' => m = l.length - i ∧ i ≤ l.length ∧ OwnR st' 2 cFlr p (mkRow mkFlr 2 i k ++ l.drop i) ∧ Pr p st st') 0 _ ⟨rfl,congrArg (Value.int .i64) (show k = k + 2 * ((0 : Nat) : Int) by omega),rfl,trivial⟩ rfl ⟨rfl,Nat.zero_le _,by simpa [mkRow] using hO,Pr.refl _ _⟩ ?_
 rintro m i ρ0 st' ⟨rfl,hi,hO0,hP0⟩
 iterate 2 refine ⟨_,rfl,?_⟩
 rintro (_|_) h1
 ·replace h1 : ¬ ((i : Int) < (l.length : Int)) := of_decide_eq_false h1
  refine Cu lo0 st' [(0,vS p l.length),(1,vI (k + 2 * (i : Int))),(5,vI (i : Int)),(9,vB false)] fun _ => ?_
  refine cxs ?_
  refine cxs ?_
  have hil : i = l.length := by omega
  subst hil
  rw [List.drop_length,List.append_nil] at hO0
  exact Rt ⟨rfl,hO0,hP0⟩
 ·replace h1 : (i : Int) < (l.length : Int) := of_decide_eq_true h1
  refine Cu lo0 st' [(0,vS p l.length),(1,vI (k + 2 * (i : Int))),(5,vI (i : Int)),(9,vB true)] fun _ => ?_
  have h1' := Int.ofNat_lt.1 h1
  have hlen : i < (mkRow mkFlr 2 i k ++ l.drop i).length := by rw [List.length_append,mkRow_len,List.length_drop]; omega
  have ⟨a,ha⟩ := hO0.some (by omega)
  obtain ⟨w,hw⟩ : ∃ w,(mkRow mkFlr 2 i k ++ l.drop i)[i]? = some w := ⟨_,List.getElem?_eq_getElem hlen⟩
  have hset := mkRow_set (mk := mkFlr) (z := 2) (k := k) h1'
  refine cxs ?_
  refine ⟨_,op_idx (j := (i : Int)) (n := l.length) (q := ⟨a,0,none⟩) rfl (congrArg (fun u => vS u l.length) ha) rfl rfl rfl (Int.natCast_nonneg _) h1,?_⟩
  refine ⟨_,rfl,?_⟩
  refine op_putc (z := 2) (i := 0) (st := st') (f := cFlr) (j := i) (l := (mkRow mkFlr 2 i k ++ l.drop i)) (w := w) (y := ((⟨(k + 2 * (i : Int)),w.inc⟩ : Flr) : Flr)) (p := p) (d := 0 + i * 2 + 0) rfl rfl (by omega) rfl rfl len_cFlr rfl rfl hw (by decide) rfl hO0 ha ?_
  intro s1 hO1 hP1 hn1
  have hQ1 : Pr p st s1 := hP0.trans hP1
  refine Cu lo0 s1 [(0,vS p l.length),(1,vI (k + 2 * (i : Int))),(5,vI (i : Int)),(9,vB true)] fun _ => ?_
  have e18 : IntKind.wrap .i64 (k + 2 * (i : Int) + 1) = k + 2 * (i : Int) + 1 := (wrap_i64 (by omega) (by omega)).trans (by omega)
  refine ⟨_,rfl,?_⟩
  refine AW.cut lo0 s1 [(0,vS p l.length),(1,vI (k + 2 * (i : Int) + 1)),(5,vI (i : Int)),(9,vB true)] ⟨rfl,congrArg (Value.int .i64) e18,rfl,rfl,trivial⟩ fun _ => ?_
  refine ⟨_,op_idx (j := (i : Int)) (n := l.length) (q := ⟨a,0,none⟩) rfl (congrArg (fun u => vS u l.length) ha) rfl rfl rfl (Int.natCast_nonneg _) h1,?_⟩
  refine ⟨_,rfl,?_⟩
  refine op_putc (z := 2) (i := 1) (st := s1) (f := cFlr) (j := i) (l := ((mkRow mkFlr 2 i k ++ l.drop i).set i (⟨(k + 2 * (i : Int)),w.inc⟩ : Flr))) (w := (⟨(k + 2 * (i : Int)),w.inc⟩ : Flr)) (y := ((⟨(k + 2 * (i : Int)),(k + 2 * (i : Int)) + 1⟩ : Flr) : Flr)) (p := p) (d := 0 + i * 2 + 1) rfl rfl (by omega) rfl rfl len_cFlr rfl rfl (getElem?_set_same hlen) (by decide) rfl hO1 ha ?_
  intro s2 hO2 hP2 hn2
  rw [set_set] at hO2
  have hQ2 : Pr p st s2 := hQ1.trans hP2
  refine Cu lo0 s2 [(0,vS p l.length),(1,vI (k + 2 * (i : Int) + 1)),(5,vI (i : Int)),(9,vB true)] fun _ => ?_
  have e25 : IntKind.wrap .i64 (k + 2 * (i : Int) + 1 + 1) = k + 2 * ((i + 1 : Nat) : Int) := (wrap_i64 (by omega) (by omega)).trans (by omega)
  refine ⟨_,rfl,?_⟩
  refine AW.cut lo0 s2 [(0,vS p l.length),(1,vI (k + 2 * ((i + 1 : Nat) : Int))),(5,vI (i : Int)),(9,vB true)] ⟨rfl,congrArg (Value.int .i64) e25,rfl,rfl,trivial⟩ fun _ => ?_
  have e11 : IntKind.wrap .i64 ((i : Int) + 1) = ((i + 1 : Nat) : Int) := (wrap_i64 (by omega) (by omega)).trans (by omega)
  refine ⟨_,rfl,?_⟩
  exact ⟨i + 1,l.length - (i + 1),by omega,⟨rfl,rfl,congrArg (Value.int .i64) e11,trivial⟩,rfl,rfl,h1',(show OwnR s2 2 cFlr p (mkRow mkFlr 2 (i + 1) k ++ l.drop (i + 1)) by rw [← hset]; exact hO2),hQ2⟩
theorem ac_laws_markItemS (p : Option Addr) (l : List Itm) (k : Int) (st : St) (hO : OwnR st 6 cItm p l) (hs : szOk l.length) (h0 : 0 ≤ k) (hk : k ≤ 549755813888) : C 104 [vS p l.length,vI k] st (fun v s => v = vI (k + 6 * (l.length : Int)) ∧ OwnR s 6 cItm p (mkRow mkItm 6 l.length k) ∧ Pr p st s) := by
 have hs : l.length ≤ 1048576 := hs
 refine AC.enterX (i := ⟨[],[],[0,1,4,5,9],[]⟩) [] Try.func104 rfl rfl (by kernel_rfl) (by kernel_rfl) Try.ntmps104 (Lb rfl) rfl ?_
 refine cxs ?_
 refine Cu lo0 st [(0,vS p l.length),(1,vI k),(4,vI 0),(5,vI 0)] fun _ => ?_
 refine AW.loop0 (fun i : Nat => [(0,vS p l.length),(1,vI (k + 6 * (i : Int))),(5,vI (i : Int))]) (fun m (i : Nat) st' => m = l.length - i ∧ i ≤ l.length ∧ OwnR st' 6 cItm p (mkRow mkItm 6 i k ++ l.drop i) ∧ Pr p st st') 0 _ ⟨rfl,congrArg (Value.int .i64) (show k = k + 6 * ((0 : Nat) : Int) by omega),rfl,trivial⟩ rfl ⟨rfl,Nat.zero_le _,by simpa [mkRow] using hO,Pr.refl _ _⟩ ?_
 rintro m i ρ0 st' ⟨rfl,hi,hO0,hP0⟩
 iterate 2 refine ⟨_,rfl,?_⟩
 rintro (_|_) h1
 ·replace h1 : ¬ ((i : Int) < (l.length : Int)) := of_decide_eq_false h1
  refine Cu lo0 st' [(0,vS p l.length),(1,vI (k + 6 * (i : Int))),(5,vI (i : Int)),(9,vB false)] fun _ => ?_
  refine cxs ?_
  refine cxs ?_
  have hil : i = l.length := by omega
  subst hil
  rw [List.drop_length,List.append_nil] at hO0
  exact Rt ⟨rfl,hO0,hP0⟩
 ·replace h1 : (i : Int) < (l.length : Int) := of_decide_eq_true h1
  refine Cu lo0 st' [(0,vS p l.length),(1,vI (k + 6 * (i : Int))),(5,vI (i : Int)),(9,vB true)] fun _ => ?_
  have h1' := Int.ofNat_lt.1 h1
  have hlen : i < (mkRow mkItm 6 i k ++ l.drop i).length := by rw [List.length_append,mkRow_len,List.length_drop]; omega
  have ⟨a,ha⟩ := hO0.some (by omega)
  obtain ⟨w,hw⟩ : ∃ w,(mkRow mkItm 6 i k ++ l.drop i)[i]? = some w := ⟨_,List.getElem?_eq_getElem hlen⟩
  have hset := mkRow_set (mk := mkItm) (z := 6) (k := k) h1'
  refine cxs ?_
  refine ⟨_,op_idx (j := (i : Int)) (n := l.length) (q := ⟨a,0,none⟩) rfl (congrArg (fun u => vS u l.length) ha) rfl rfl rfl (Int.natCast_nonneg _) h1,?_⟩
  refine ⟨_,rfl,?_⟩
  refine op_putc (z := 6) (i := 0) (st := st') (f := cItm) (j := i) (l := (mkRow mkItm 6 i k ++ l.drop i)) (w := w) (y := ((⟨(k + 6 * (i : Int)),⟨w.e.inc,w.e.rank,w.e.beat,w.e.ver,w.e.data⟩⟩ : Itm) : Itm)) (p := p) (d := 0 + i * 6 + 0) rfl rfl (by omega) rfl rfl len_cItm rfl rfl hw (by decide) rfl hO0 ha ?_
  intro s1 hO1 hP1 hn1
  have hQ1 : Pr p st s1 := hP0.trans hP1
  refine Cu lo0 s1 [(0,vS p l.length),(1,vI (k + 6 * (i : Int))),(5,vI (i : Int)),(9,vB true)] fun _ => ?_
  have e18 : IntKind.wrap .i64 (k + 6 * (i : Int) + 1) = k + 6 * (i : Int) + 1 := (wrap_i64 (by omega) (by omega)).trans (by omega)
  refine ⟨_,rfl,?_⟩
  refine AW.cut lo0 s1 [(0,vS p l.length),(1,vI (k + 6 * (i : Int) + 1)),(5,vI (i : Int)),(9,vB true)] ⟨rfl,congrArg (Value.int .i64) e18,rfl,rfl,trivial⟩ fun _ => ?_
  refine ⟨_,op_idx (j := (i : Int)) (n := l.length) (q := ⟨a,0,none⟩) rfl (congrArg (fun u => vS u l.length) ha) rfl rfl rfl (Int.natCast_nonneg _) h1,?_⟩
  iterate 2 refine ⟨_,rfl,?_⟩
  refine op_putc (z := 6) (i := 1) (st := s1) (f := cItm) (j := i) (l := ((mkRow mkItm 6 i k ++ l.drop i).set i (⟨(k + 6 * (i : Int)),⟨w.e.inc,w.e.rank,w.e.beat,w.e.ver,w.e.data⟩⟩ : Itm))) (w := (⟨(k + 6 * (i : Int)),⟨w.e.inc,w.e.rank,w.e.beat,w.e.ver,w.e.data⟩⟩ : Itm)) (y := ((⟨(k + 6 * (i : Int)),⟨(k + 6 * (i : Int)) + 1,w.e.rank,w.e.beat,w.e.ver,w.e.data⟩⟩ : Itm) : Itm)) (p := p) (d := 0 + i * 6 + 1) rfl rfl (by omega) rfl rfl len_cItm rfl rfl (getElem?_set_same hlen) (by decide) rfl hO1 ha ?_
  intro s2 hO2 hP2 hn2
  rw [set_set] at hO2
  have hQ2 : Pr p st s2 := hQ1.trans hP2
  refine Cu lo0 s2 [(0,vS p l.length),(1,vI (k + 6 * (i : Int) + 1)),(5,vI (i : Int)),(9,vB true)] fun _ => ?_
  have e26 : IntKind.wrap .i64 (k + 6 * (i : Int) + 1 + 1) = k + 6 * (i : Int) + 2 := (wrap_i64 (by omega) (by omega)).trans (by omega)
  refine ⟨_,rfl,?_⟩
  refine AW.cut lo0 s2 [(0,vS p l.length),(1,vI (k + 6 * (i : Int) + 2)),(5,vI (i : Int)),(9,vB true)] ⟨rfl,congrArg (Value.int .i64) e26,rfl,rfl,trivial⟩ fun _ => ?_
  refine ⟨_,op_idx (j := (i : Int)) (n := l.length) (q := ⟨a,0,none⟩) rfl (congrArg (fun u => vS u l.length) ha) rfl rfl rfl (Int.natCast_nonneg _) h1,?_⟩
  iterate 2 refine ⟨_,rfl,?_⟩
  refine op_putc (z := 6) (i := 2) (st := s2) (f := cItm) (j := i) (l := ((mkRow mkItm 6 i k ++ l.drop i).set i (⟨(k + 6 * (i : Int)),⟨(k + 6 * (i : Int)) + 1,w.e.rank,w.e.beat,w.e.ver,w.e.data⟩⟩ : Itm))) (w := (⟨(k + 6 * (i : Int)),⟨(k + 6 * (i : Int)) + 1,w.e.rank,w.e.beat,w.e.ver,w.e.data⟩⟩ : Itm)) (y := ((⟨(k + 6 * (i : Int)),⟨(k + 6 * (i : Int)) + 1,(k + 6 * (i : Int)) + 2,w.e.beat,w.e.ver,w.e.data⟩⟩ : Itm) : Itm)) (p := p) (d := 0 + i * 6 + 2) rfl rfl (by omega) rfl rfl len_cItm rfl rfl (getElem?_set_same hlen) (by decide) rfl hO2 ha ?_
  intro s3 hO3 hP3 hn3
  rw [set_set] at hO3
  have hQ3 : Pr p st s3 := hQ2.trans hP3
  refine Cu lo0 s3 [(0,vS p l.length),(1,vI (k + 6 * (i : Int) + 2)),(5,vI (i : Int)),(9,vB true)] fun _ => ?_
  have e34 : IntKind.wrap .i64 (k + 6 * (i : Int) + 2 + 1) = k + 6 * (i : Int) + 3 := (wrap_i64 (by omega) (by omega)).trans (by omega)
  refine ⟨_,rfl,?_⟩
  refine AW.cut lo0 s3 [(0,vS p l.length),(1,vI (k + 6 * (i : Int) + 3)),(5,vI (i : Int)),(9,vB true)] ⟨rfl,congrArg (Value.int .i64) e34,rfl,rfl,trivial⟩ fun _ => ?_
  refine ⟨_,op_idx (j := (i : Int)) (n := l.length) (q := ⟨a,0,none⟩) rfl (congrArg (fun u => vS u l.length) ha) rfl rfl rfl (Int.natCast_nonneg _) h1,?_⟩
  iterate 2 refine ⟨_,rfl,?_⟩
  refine op_putc (z := 6) (i := 3) (st := s3) (f := cItm) (j := i) (l := ((mkRow mkItm 6 i k ++ l.drop i).set i (⟨(k + 6 * (i : Int)),⟨(k + 6 * (i : Int)) + 1,(k + 6 * (i : Int)) + 2,w.e.beat,w.e.ver,w.e.data⟩⟩ : Itm))) (w := (⟨(k + 6 * (i : Int)),⟨(k + 6 * (i : Int)) + 1,(k + 6 * (i : Int)) + 2,w.e.beat,w.e.ver,w.e.data⟩⟩ : Itm)) (y := ((⟨(k + 6 * (i : Int)),⟨(k + 6 * (i : Int)) + 1,(k + 6 * (i : Int)) + 2,(k + 6 * (i : Int)) + 3,w.e.ver,w.e.data⟩⟩ : Itm) : Itm)) (p := p) (d := 0 + i * 6 + 3) rfl rfl (by omega) rfl rfl len_cItm rfl rfl (getElem?_set_same hlen) (by decide) rfl hO3 ha ?_
  intro s4 hO4 hP4 hn4
  rw [set_set] at hO4
  have hQ4 : Pr p st s4 := hQ3.trans hP4
  refine Cu lo0 s4 [(0,vS p l.length),(1,vI (k + 6 * (i : Int) + 3)),(5,vI (i : Int)),(9,vB true)] fun _ => ?_
  have e42 : IntKind.wrap .i64 (k + 6 * (i : Int) + 3 + 1) = k + 6 * (i : Int) + 4 := (wrap_i64 (by omega) (by omega)).trans (by omega)
  refine ⟨_,rfl,?_⟩
  refine AW.cut lo0 s4 [(0,vS p l.length),(1,vI (k + 6 * (i : Int) + 4)),(5,vI (i : Int)),(9,vB true)] ⟨rfl,congrArg (Value.int .i64) e42,rfl,rfl,trivial⟩ fun _ => ?_
  refine ⟨_,op_idx (j := (i : Int)) (n := l.length) (q := ⟨a,0,none⟩) rfl (congrArg (fun u => vS u l.length) ha) rfl rfl rfl (Int.natCast_nonneg _) h1,?_⟩
  iterate 2 refine ⟨_,rfl,?_⟩
  refine op_putc (z := 6) (i := 4) (st := s4) (f := cItm) (j := i) (l := ((mkRow mkItm 6 i k ++ l.drop i).set i (⟨(k + 6 * (i : Int)),⟨(k + 6 * (i : Int)) + 1,(k + 6 * (i : Int)) + 2,(k + 6 * (i : Int)) + 3,w.e.ver,w.e.data⟩⟩ : Itm))) (w := (⟨(k + 6 * (i : Int)),⟨(k + 6 * (i : Int)) + 1,(k + 6 * (i : Int)) + 2,(k + 6 * (i : Int)) + 3,w.e.ver,w.e.data⟩⟩ : Itm)) (y := ((⟨(k + 6 * (i : Int)),⟨(k + 6 * (i : Int)) + 1,(k + 6 * (i : Int)) + 2,(k + 6 * (i : Int)) + 3,(k + 6 * (i : Int)) + 4,w.e.data⟩⟩ : Itm) : Itm)) (p := p) (d := 0 + i * 6 + 4) rfl rfl (by omega) rfl rfl len_cItm rfl rfl (getElem?_set_same hlen) (by decide) rfl hO4 ha ?_
  intro s5 hO5 hP5 hn5
  rw [set_set] at hO5
  have hQ5 : Pr p st s5 := hQ4.trans hP5
  refine Cu lo0 s5 [(0,vS p l.length),(1,vI (k + 6 * (i : Int) + 4)),(5,vI (i : Int)),(9,vB true)] fun _ => ?_
  have e50 : IntKind.wrap .i64 (k + 6 * (i : Int) + 4 + 1) = k + 6 * (i : Int) + 5 := (wrap_i64 (by omega) (by omega)).trans (by omega)
  refine ⟨_,rfl,?_⟩
  refine AW.cut lo0 s5 [(0,vS p l.length),(1,vI (k + 6 * (i : Int) + 5)),(5,vI (i : Int)),(9,vB true)] ⟨rfl,congrArg (Value.int .i64) e50,rfl,rfl,trivial⟩ fun _ => ?_
  refine ⟨_,rfl,(ac_laws_markText (k + 6 * (i : Int) + 5) s5 (by omega) (by omega)).mono ?_⟩
  rintro _ sT ⟨rfl,hPT⟩
  have hO5T := hPT.ownR hO5
  refine ⟨_,op_idx (j := (i : Int)) (n := l.length) (q := ⟨a,0,none⟩) rfl (congrArg (fun u => vS u l.length) ha) rfl rfl rfl (Int.natCast_nonneg _) h1,?_⟩
  iterate 2 refine ⟨_,rfl,?_⟩
  refine op_putc (z := 6) (i := 5) (st := sT) (f := cItm) (j := i) (l := ((mkRow mkItm 6 i k ++ l.drop i).set i (⟨(k + 6 * (i : Int)),⟨(k + 6 * (i : Int)) + 1,(k + 6 * (i : Int)) + 2,(k + 6 * (i : Int)) + 3,(k + 6 * (i : Int)) + 4,w.e.data⟩⟩ : Itm))) (w := (⟨(k + 6 * (i : Int)),⟨(k + 6 * (i : Int)) + 1,(k + 6 * (i : Int)) + 2,(k + 6 * (i : Int)) + 3,(k + 6 * (i : Int)) + 4,w.e.data⟩⟩ : Itm)) (y := ((⟨(k + 6 * (i : Int)),⟨(k + 6 * (i : Int)) + 1,(k + 6 * (i : Int)) + 2,(k + 6 * (i : Int)) + 3,(k + 6 * (i : Int)) + 4,mText ((k + 6 * (i : Int)) + 5)⟩⟩ : Itm) : Itm)) (p := p) (d := 0 + i * 6 + 5) rfl rfl (by omega) rfl rfl len_cItm rfl rfl (getElem?_set_same hlen) (by decide) rfl hO5T ha ?_
  intro s6 hO6 hP6 hn6
  rw [set_set] at hO6
  have hQ6 : Pr p st s6 := (hQ5.trans (Pres.pr hPT)).trans hP6
  refine Cu lo0 s6 [(0,vS p l.length),(1,vI (k + 6 * (i : Int) + 5)),(5,vI (i : Int)),(9,vB true)] fun _ => ?_
  have e59 : IntKind.wrap .i64 (k + 6 * (i : Int) + 5 + 1) = k + 6 * ((i + 1 : Nat) : Int) := (wrap_i64 (by omega) (by omega)).trans (by omega)
  refine ⟨_,rfl,?_⟩
  refine AW.cut lo0 s6 [(0,vS p l.length),(1,vI (k + 6 * ((i + 1 : Nat) : Int))),(5,vI (i : Int)),(9,vB true)] ⟨rfl,congrArg (Value.int .i64) e59,rfl,rfl,trivial⟩ fun _ => ?_
  have e11 : IntKind.wrap .i64 ((i : Int) + 1) = ((i + 1 : Nat) : Int) := (wrap_i64 (by omega) (by omega)).trans (by omega)
  refine ⟨_,rfl,?_⟩
  exact ⟨i + 1,l.length - (i + 1),by omega,⟨rfl,rfl,congrArg (Value.int .i64) e11,trivial⟩,rfl,rfl,h1',(show OwnR s6 6 cItm p (mkRow mkItm 6 (i + 1) k ++ l.drop (i + 1)) by rw [← hset]; exact hO6),hQ6⟩
theorem ac_laws_heldMarkS (p : Option Addr) (n : Nat) (k : Int) (st : St) (hR : Rows st 2 cFlr p (mkRow mkFlr 2 n k)) (hs : szOk n) (h0 : 0 ≤ k) (hk : k ≤ 549755813888) : C 142 [vS p n,vI k] st (fun v s => v = vI (k + 2 * (n : Int)) ∧ Pres st s) := by
 have hs : n ≤ 1048576 := hs
 refine AC.enterX (i := ⟨[],[],[0,1,4,5,9,18,27],[]⟩) [] Try.func142 rfl rfl (by kernel_rfl) (by kernel_rfl) Try.ntmps142 (Lb rfl) rfl ?_
 refine cxs ?_
 refine Cu lo0 st [(0,vS p n),(1,vI k),(4,vI 0),(5,vI 0)] fun _ => ?_
 refine AW.loop0 (fun i : Nat => [(0,vS p n),(1,vI (k + 2 * (i : Int))),(5,vI (i : Int))]) (fun m (i : Nat) st' => m = n - i ∧ i ≤ n ∧ Pres st st') 0 _ ⟨rfl,congrArg (Value.int .i64) (show k = k + 2 * ((0 : Nat) : Int) by omega),rfl,trivial⟩ rfl ⟨rfl,Nat.zero_le _,Pres.refl _⟩ ?_
 rintro m i ρ0 st' ⟨rfl,hi,hP⟩
 iterate 2 refine ⟨_,rfl,?_⟩
 rintro (_|_) h1
 ·replace h1 : ¬ ((i : Int) < (n : Int)) := of_decide_eq_false h1
  refine Cu lo0 st' [(0,vS p n),(1,vI (k + 2 * (i : Int))),(5,vI (i : Int)),(9,vB false)] fun _ => ?_
  refine cxs ?_
  refine cxs ?_
  have hil : i = n := by omega
  subst hil
  exact Rt ⟨rfl,hP⟩
 ·replace h1 : (i : Int) < (n : Int) := of_decide_eq_true h1
  refine Cu lo0 st' [(0,vS p n),(1,vI (k + 2 * (i : Int))),(5,vI (i : Int)),(9,vB true)] fun _ => ?_
  have h1' := Int.ofNat_lt.1 h1
  have ⟨b1,o1,k1,x,hpe,hx,hm1,hc1,hb1⟩ := (hP.rows hR).atB (j := i) (by rw [mkRow_len]; exact h1')
  have hx := mkRow_get hx
  have hc1 : (k1.cells.drop (o1 + i * 2)).take 2 = cFlr (mkFlr (k + 2 * (i : Int))) := by rw [hc1,hx]; rfl
  refine cxs ?_
  refine ⟨_,op_idx (j := (i : Int)) (n := n) (q := ⟨b1,o1,none⟩) rfl (congrArg (fun u => vS u n) hpe) rfl rfl rfl (Int.natCast_nonneg _) h1,?_⟩
  refine ⟨_,rfl,?_⟩
  refine ⟨_,op_ldc (i := 0) rfl rfl rfl rfl hm1 hc1 rfl rfl,?_⟩
  refine ⟨_,rfl,?_⟩
  rintro (_|_) h18
  rotate_left
  ·exact absurd (rfl) (bne_iff_ne.1 h18)
  refine Cu lo0 st' [(0,vS p n),(1,vI (k + 2 * (i : Int))),(5,vI (i : Int)),(9,vB true),(18,vB false)] fun _ => ?_
  refine cxs ?_
  have e20 : IntKind.wrap .i64 (k + 2 * (i : Int) + 1) = k + 2 * (i : Int) + 1 := (wrap_i64 (by omega) (by omega)).trans (by omega)
  refine ⟨_,rfl,?_⟩
  refine AW.cut lo0 st' [(0,vS p n),(1,vI (k + 2 * (i : Int) + 1)),(5,vI (i : Int)),(9,vB true),(18,vB false)] ⟨rfl,congrArg (Value.int .i64) e20,rfl,rfl,rfl,trivial⟩ fun _ => ?_
  refine ⟨_,op_idx (j := (i : Int)) (n := n) (q := ⟨b1,o1,none⟩) rfl (congrArg (fun u => vS u n) hpe) rfl rfl rfl (Int.natCast_nonneg _) h1,?_⟩
  refine ⟨_,rfl,?_⟩
  refine ⟨_,op_ldc (i := 1) rfl rfl rfl rfl hm1 hc1 rfl rfl,?_⟩
  refine ⟨_,rfl,?_⟩
  rintro (_|_) h27
  rotate_left
  ·exact absurd (rfl) (bne_iff_ne.1 h27)
  refine Cu lo0 st' [(0,vS p n),(1,vI (k + 2 * (i : Int) + 1)),(5,vI (i : Int)),(9,vB true),(18,vB false),(27,vB false)] fun _ => ?_
  refine cxs ?_
  have e29 : IntKind.wrap .i64 (k + 2 * (i : Int) + 1 + 1) = k + 2 * ((i + 1 : Nat) : Int) := (wrap_i64 (by omega) (by omega)).trans (by omega)
  refine ⟨_,rfl,?_⟩
  refine AW.cut lo0 st' [(0,vS p n),(1,vI (k + 2 * ((i + 1 : Nat) : Int))),(5,vI (i : Int)),(9,vB true),(18,vB false),(27,vB false)] ⟨rfl,congrArg (Value.int .i64) e29,rfl,rfl,rfl,rfl,trivial⟩ fun _ => ?_
  have e11 : IntKind.wrap .i64 ((i : Int) + 1) = ((i + 1 : Nat) : Int) := (wrap_i64 (by omega) (by omega)).trans (by omega)
  refine ⟨_,rfl,?_⟩
  exact ⟨i + 1,n - (i + 1),by omega,⟨rfl,rfl,congrArg (Value.int .i64) e11,trivial⟩,rfl,rfl,h1',hP⟩
theorem ac_laws_heldFloorS (p : Option Addr) (n : Nat) (k : Int) (st : St) (hR : Rows st 2 cFlr p (mkRow mkFlr 2 n k)) (hs : szOk n) (h0 : 0 ≤ k) (hk : k ≤ 549755813888) : C 107 [vS p n,vI k] st (fun v s => v = vI (k + 2 * (n : Int)) ∧ Pres st s) := by
 have hs : n ≤ 1048576 := hs
 refine AC.enterX (i := ⟨[],[],[0,1,4,5,9,18,27],[]⟩) [] Try.func107 rfl rfl (by kernel_rfl) (by kernel_rfl) Try.ntmps107 (Lb rfl) rfl ?_
 refine cxs ?_
 refine Cu lo0 st [(0,vS p n),(1,vI k),(4,vI 0),(5,vI 0)] fun _ => ?_
 refine AW.loop0 (fun i : Nat => [(0,vS p n),(1,vI (k + 2 * (i : Int))),(5,vI (i : Int))]) (fun m (i : Nat) st' => m = n - i ∧ i ≤ n ∧ Pres st st') 0 _ ⟨rfl,congrArg (Value.int .i64) (show k = k + 2 * ((0 : Nat) : Int) by omega),rfl,trivial⟩ rfl ⟨rfl,Nat.zero_le _,Pres.refl _⟩ ?_
 rintro m i ρ0 st' ⟨rfl,hi,hP⟩
 iterate 2 refine ⟨_,rfl,?_⟩
 rintro (_|_) h1
 ·replace h1 : ¬ ((i : Int) < (n : Int)) := of_decide_eq_false h1
  refine Cu lo0 st' [(0,vS p n),(1,vI (k + 2 * (i : Int))),(5,vI (i : Int)),(9,vB false)] fun _ => ?_
  refine cxs ?_
  refine cxs ?_
  have hil : i = n := by omega
  subst hil
  exact Rt ⟨rfl,hP⟩
 ·replace h1 : (i : Int) < (n : Int) := of_decide_eq_true h1
  refine Cu lo0 st' [(0,vS p n),(1,vI (k + 2 * (i : Int))),(5,vI (i : Int)),(9,vB true)] fun _ => ?_
  have h1' := Int.ofNat_lt.1 h1
  have ⟨b1,o1,k1,x,hpe,hx,hm1,hc1,hb1⟩ := (hP.rows hR).atB (j := i) (by rw [mkRow_len]; exact h1')
  have hx := mkRow_get hx
  have hc1 : (k1.cells.drop (o1 + i * 2)).take 2 = cFlr (mkFlr (k + 2 * (i : Int))) := by rw [hc1,hx]; rfl
  refine cxs ?_
  refine ⟨_,op_idx (j := (i : Int)) (n := n) (q := ⟨b1,o1,none⟩) rfl (congrArg (fun u => vS u n) hpe) rfl rfl rfl (Int.natCast_nonneg _) h1,?_⟩
  refine ⟨_,rfl,?_⟩
  refine ⟨_,op_ldc (i := 0) rfl rfl rfl rfl hm1 hc1 rfl rfl,?_⟩
  refine ⟨_,rfl,?_⟩
  rintro (_|_) h18
  rotate_left
  ·exact absurd (rfl) (bne_iff_ne.1 h18)
  refine Cu lo0 st' [(0,vS p n),(1,vI (k + 2 * (i : Int))),(5,vI (i : Int)),(9,vB true),(18,vB false)] fun _ => ?_
  refine cxs ?_
  have e20 : IntKind.wrap .i64 (k + 2 * (i : Int) + 1) = k + 2 * (i : Int) + 1 := (wrap_i64 (by omega) (by omega)).trans (by omega)
  refine ⟨_,rfl,?_⟩
  refine AW.cut lo0 st' [(0,vS p n),(1,vI (k + 2 * (i : Int) + 1)),(5,vI (i : Int)),(9,vB true),(18,vB false)] ⟨rfl,congrArg (Value.int .i64) e20,rfl,rfl,rfl,trivial⟩ fun _ => ?_
  refine ⟨_,op_idx (j := (i : Int)) (n := n) (q := ⟨b1,o1,none⟩) rfl (congrArg (fun u => vS u n) hpe) rfl rfl rfl (Int.natCast_nonneg _) h1,?_⟩
  refine ⟨_,rfl,?_⟩
  refine ⟨_,op_ldc (i := 1) rfl rfl rfl rfl hm1 hc1 rfl rfl,?_⟩
  refine ⟨_,rfl,?_⟩
  rintro (_|_) h27
  rotate_left
  ·exact absurd (rfl) (bne_iff_ne.1 h27)
  refine Cu lo0 st' [(0,vS p n),(1,vI (k + 2 * (i : Int) + 1)),(5,vI (i : Int)),(9,vB true),(18,vB false),(27,vB false)] fun _ => ?_
  refine cxs ?_
  have e29 : IntKind.wrap .i64 (k + 2 * (i : Int) + 1 + 1) = k + 2 * ((i + 1 : Nat) : Int) := (wrap_i64 (by omega) (by omega)).trans (by omega)
  refine ⟨_,rfl,?_⟩
  refine AW.cut lo0 st' [(0,vS p n),(1,vI (k + 2 * ((i + 1 : Nat) : Int))),(5,vI (i : Int)),(9,vB true),(18,vB false),(27,vB false)] ⟨rfl,congrArg (Value.int .i64) e29,rfl,rfl,rfl,rfl,trivial⟩ fun _ => ?_
  have e11 : IntKind.wrap .i64 ((i : Int) + 1) = ((i + 1 : Nat) : Int) := (wrap_i64 (by omega) (by omega)).trans (by omega)
  refine ⟨_,rfl,?_⟩
  exact ⟨i + 1,n - (i + 1),by omega,⟨rfl,rfl,congrArg (Value.int .i64) e11,trivial⟩,rfl,rfl,h1',hP⟩
theorem ac_laws_heldItemS (p : Option Addr) (n : Nat) (k : Int) (st : St) (hR : Rows st 6 cItm p (mkRow mkItm 6 n k)) (hs : szOk n) (h0 : 0 ≤ k) (hk : k ≤ 549755813888) : C 106 [vS p n,vI k] st (fun v s => v = vI (k + 6 * (n : Int)) ∧ Pres st s) := by
 have hs : n ≤ 1048576 := hs
 refine AC.enterX (i := ⟨[],[],[0,1,4,5,9,18,28,38,48,58,69],[]⟩) [(19,[7],[5])] Try.func106 rfl rfl (by kernel_rfl) (by kernel_rfl) Try.ntmps106 (Lb rfl) rfl ?_
 refine cxs ?_
 refine Cu lo0 st [(0,vS p n),(1,vI k),(4,vI 0),(5,vI 0)] fun _ => ?_
 refine AW.loop0 (fun i : Nat => [(0,vS p n),(1,vI (k + 6 * (i : Int))),(5,vI (i : Int))]) (fun m (i : Nat) st' => m = n - i ∧ i ≤ n ∧ Pres st st') 0 _ ⟨rfl,congrArg (Value.int .i64) (show k = k + 6 * ((0 : Nat) : Int) by omega),rfl,trivial⟩ rfl ⟨rfl,Nat.zero_le _,Pres.refl _⟩ ?_
 rintro m i ρ0 st' ⟨rfl,hi,hP⟩
 iterate 2 refine ⟨_,rfl,?_⟩
 rintro (_|_) h1
 ·replace h1 : ¬ ((i : Int) < (n : Int)) := of_decide_eq_false h1
  refine Cu lo0 st' [(0,vS p n),(1,vI (k + 6 * (i : Int))),(5,vI (i : Int)),(9,vB false)] fun _ => ?_
  refine cxs ?_
  refine cxs ?_
  have hil : i = n := by omega
  subst hil
  exact Rt ⟨rfl,hP⟩
 ·replace h1 : (i : Int) < (n : Int) := of_decide_eq_true h1
  refine Cu lo0 st' [(0,vS p n),(1,vI (k + 6 * (i : Int))),(5,vI (i : Int)),(9,vB true)] fun _ => ?_
  have h1' := Int.ofNat_lt.1 h1
  have ⟨b1,o1,k1,x,hpe,hx,hm1,hc1,hb1⟩ := (hP.rows hR).atB (j := i) (by rw [mkRow_len]; exact h1')
  have hx := mkRow_get hx
  have hc1 : (k1.cells.drop (o1 + i * 6)).take 6 = cItm (mkItm (k + 6 * (i : Int))) := by rw [hc1,hx]; rfl
  refine cxs ?_
  refine ⟨_,op_idx (j := (i : Int)) (n := n) (q := ⟨b1,o1,none⟩) rfl (congrArg (fun u => vS u n) hpe) rfl rfl rfl (Int.natCast_nonneg _) h1,?_⟩
  refine ⟨_,rfl,?_⟩
  refine ⟨_,op_ldc (i := 0) rfl rfl rfl rfl hm1 hc1 rfl rfl,?_⟩
  refine ⟨_,rfl,?_⟩
  rintro (_|_) h18
  rotate_left
  ·exact absurd (rfl) (bne_iff_ne.1 h18)
  refine Cu lo0 st' [(0,vS p n),(1,vI (k + 6 * (i : Int))),(5,vI (i : Int)),(9,vB true),(18,vB false)] fun _ => ?_
  refine cxs ?_
  have e20 : IntKind.wrap .i64 (k + 6 * (i : Int) + 1) = k + 6 * (i : Int) + 1 := (wrap_i64 (by omega) (by omega)).trans (by omega)
  refine ⟨_,rfl,?_⟩
  refine AW.cut lo0 st' [(0,vS p n),(1,vI (k + 6 * (i : Int) + 1)),(5,vI (i : Int)),(9,vB true),(18,vB false)] ⟨rfl,congrArg (Value.int .i64) e20,rfl,rfl,rfl,trivial⟩ fun _ => ?_
  refine ⟨_,op_idx (j := (i : Int)) (n := n) (q := ⟨b1,o1,none⟩) rfl (congrArg (fun u => vS u n) hpe) rfl rfl rfl (Int.natCast_nonneg _) h1,?_⟩
  iterate 2 refine ⟨_,rfl,?_⟩
  refine ⟨_,op_ldc (i := 1) rfl rfl rfl rfl hm1 hc1 rfl rfl,?_⟩
  refine ⟨_,rfl,?_⟩
  rintro (_|_) h28
  rotate_left
  ·exact absurd (rfl) (bne_iff_ne.1 h28)
  refine Cu lo0 st' [(0,vS p n),(1,vI (k + 6 * (i : Int) + 1)),(5,vI (i : Int)),(9,vB true),(18,vB false),(28,vB false)] fun _ => ?_
  refine cxs ?_
  have e30 : IntKind.wrap .i64 (k + 6 * (i : Int) + 1 + 1) = k + 6 * (i : Int) + 2 := (wrap_i64 (by omega) (by omega)).trans (by omega)
  refine ⟨_,rfl,?_⟩
  refine AW.cut lo0 st' [(0,vS p n),(1,vI (k + 6 * (i : Int) + 2)),(5,vI (i : Int)),(9,vB true),(18,vB false),(28,vB false)] ⟨rfl,congrArg (Value.int .i64) e30,rfl,rfl,rfl,rfl,trivial⟩ fun _ => ?_
  refine ⟨_,op_idx (j := (i : Int)) (n := n) (q := ⟨b1,o1,none⟩) rfl (congrArg (fun u => vS u n) hpe) rfl rfl rfl (Int.natCast_nonneg _) h1,?_⟩
  iterate 2 refine ⟨_,rfl,?_⟩
  refine ⟨_,op_ldc (i := 2) rfl rfl rfl rfl hm1 hc1 rfl rfl,?_⟩
  refine ⟨_,rfl,?_⟩
  rintro (_|_) h38
  rotate_left
  ·exact absurd (rfl) (bne_iff_ne.1 h38)
  refine Cu lo0 st' [(0,vS p n),(1,vI (k + 6 * (i : Int) + 2)),(5,vI (i : Int)),(9,vB true),(18,vB false),(28,vB false),(38,vB false)] fun _ => ?_
  refine cxs ?_
  have e40 : IntKind.wrap .i64 (k + 6 * (i : Int) + 2 + 1) = k + 6 * (i : Int) + 3 := (wrap_i64 (by omega) (by omega)).trans (by omega)
  refine ⟨_,rfl,?_⟩
  refine AW.cut lo0 st' [(0,vS p n),(1,vI (k + 6 * (i : Int) + 3)),(5,vI (i : Int)),(9,vB true),(18,vB false),(28,vB false),(38,vB false)] ⟨rfl,congrArg (Value.int .i64) e40,rfl,rfl,rfl,rfl,rfl,trivial⟩ fun _ => ?_
  refine ⟨_,op_idx (j := (i : Int)) (n := n) (q := ⟨b1,o1,none⟩) rfl (congrArg (fun u => vS u n) hpe) rfl rfl rfl (Int.natCast_nonneg _) h1,?_⟩
  iterate 2 refine ⟨_,rfl,?_⟩
  refine ⟨_,op_ldc (i := 3) rfl rfl rfl rfl hm1 hc1 rfl rfl,?_⟩
  refine ⟨_,rfl,?_⟩
  rintro (_|_) h48
  rotate_left
  ·exact absurd (rfl) (bne_iff_ne.1 h48)
  refine Cu lo0 st' [(0,vS p n),(1,vI (k + 6 * (i : Int) + 3)),(5,vI (i : Int)),(9,vB true),(18,vB false),(28,vB false),(38,vB false),(48,vB false)] fun _ => ?_
  refine cxs ?_
  have e50 : IntKind.wrap .i64 (k + 6 * (i : Int) + 3 + 1) = k + 6 * (i : Int) + 4 := (wrap_i64 (by omega) (by omega)).trans (by omega)
  refine ⟨_,rfl,?_⟩
  refine AW.cut lo0 st' [(0,vS p n),(1,vI (k + 6 * (i : Int) + 4)),(5,vI (i : Int)),(9,vB true),(18,vB false),(28,vB false),(38,vB false),(48,vB false)] ⟨rfl,congrArg (Value.int .i64) e50,rfl,rfl,rfl,rfl,rfl,rfl,trivial⟩ fun _ => ?_
  refine ⟨_,op_idx (j := (i : Int)) (n := n) (q := ⟨b1,o1,none⟩) rfl (congrArg (fun u => vS u n) hpe) rfl rfl rfl (Int.natCast_nonneg _) h1,?_⟩
  iterate 2 refine ⟨_,rfl,?_⟩
  refine ⟨_,op_ldc (i := 4) rfl rfl rfl rfl hm1 hc1 rfl rfl,?_⟩
  refine ⟨_,rfl,?_⟩
  rintro (_|_) h58
  rotate_left
  ·exact absurd (rfl) (bne_iff_ne.1 h58)
  refine Cu lo0 st' [(0,vS p n),(1,vI (k + 6 * (i : Int) + 4)),(5,vI (i : Int)),(9,vB true),(18,vB false),(28,vB false),(38,vB false),(48,vB false),(58,vB false)] fun _ => ?_
  refine cxs ?_
  have e60 : IntKind.wrap .i64 (k + 6 * (i : Int) + 4 + 1) = k + 6 * (i : Int) + 5 := (wrap_i64 (by omega) (by omega)).trans (by omega)
  refine ⟨_,rfl,?_⟩
  refine AW.cut lo0 st' [(0,vS p n),(1,vI (k + 6 * (i : Int) + 5)),(5,vI (i : Int)),(9,vB true),(18,vB false),(28,vB false),(38,vB false),(48,vB false),(58,vB false)] ⟨rfl,congrArg (Value.int .i64) e60,rfl,rfl,rfl,rfl,rfl,rfl,rfl,trivial⟩ fun _ => ?_
  refine ⟨_,op_idx (j := (i : Int)) (n := n) (q := ⟨b1,o1,none⟩) rfl (congrArg (fun u => vS u n) hpe) rfl rfl rfl (Int.natCast_nonneg _) h1,?_⟩
  iterate 2 refine ⟨_,rfl,?_⟩
  refine ⟨_,op_ldc (i := 5) rfl rfl rfl rfl hm1 hc1 rfl rfl,?_⟩
  refine ⟨ld_lt rfl rfl hb1,?_⟩
  refine ⟨_,rfl,(ac_laws_markText (k + 6 * (i : Int) + 5) st' (by omega) (by omega)).mono ?_⟩
  rintro _ sT ⟨rfl,hPT⟩
  refine ⟨hPT.2,?_⟩
  refine ⟨_,rfl,?_⟩
  rintro (_|_) h69
  rotate_left
  ·exact absurd (rfl) (str_ne h69)
  refine Cu lo0 sT [(0,vS p n),(1,vI (k + 6 * (i : Int) + 5)),(5,vI (i : Int)),(9,vB true),(18,vB false),(28,vB false),(38,vB false),(48,vB false),(58,vB false),(69,vB false)] fun _ => ?_
  refine cxs ?_
  have e71 : IntKind.wrap .i64 (k + 6 * (i : Int) + 5 + 1) = k + 6 * ((i + 1 : Nat) : Int) := (wrap_i64 (by omega) (by omega)).trans (by omega)
  refine ⟨_,rfl,?_⟩
  refine AW.cut lo0 sT [(0,vS p n),(1,vI (k + 6 * ((i + 1 : Nat) : Int))),(5,vI (i : Int)),(9,vB true),(18,vB false),(28,vB false),(38,vB false),(48,vB false),(58,vB false),(69,vB false)] ⟨rfl,congrArg (Value.int .i64) e71,rfl,rfl,rfl,rfl,rfl,rfl,rfl,rfl,trivial⟩ fun _ => ?_
  have e11 : IntKind.wrap .i64 ((i : Int) + 1) = ((i + 1 : Nat) : Int) := (wrap_i64 (by omega) (by omega)).trans (by omega)
  refine ⟨_,rfl,?_⟩
  exact ⟨i + 1,n - (i + 1),by omega,⟨rfl,rfl,congrArg (Value.int .i64) e11,trivial⟩,rfl,rfl,h1',hP.trans hPT⟩
theorem ac_laws_markMarkSx (p : Option Addr) (l : List Flr) (k : Int) (st : St) (hO : OwnR st 2 cFlr p l) (hs : szOk l.length) (h0 : 0 ≤ k) (hk : k ≤ 549755813888) : C 139 [vS p l.length,vI k] st (fun v s => v = vI (k + 2 * (l.length : Int)) ∧ OwnR s 2 cFlr p (mkRow mkFlr 2 l.length k) ∧ Pr p st s) := by
 have hs : l.length ≤ 1048576 := hs
 refine AC.enterX (i := ⟨[],[],[0,1,4,5,9],[]⟩) [] Try.func139 rfl rfl (by kernel_rfl) (by kernel_rfl) Try.ntmps139 (Lb rfl) rfl ?_
 refine cxs ?_
 refine Cu lo0 st [(0,vS p l.length),(1,vI k),(4,vI 0),(5,vI 0)] fun _ => ?_
 refine AW.loop0 (fun i : Nat => [(0,vS p l.length),(1,vI (k + 2 * (i : Int))),(5,vI (i : Int))]) (fun m (i : Nat) st' => m = l.length - i ∧ i ≤ l.length ∧ OwnR st' 2 cFlr p (mkRow mkFlr 2 i k ++ l.drop i) ∧ Pr p st st') 0 _ ⟨rfl,congrArg (Value.int .i64) (show k = k + 2 * ((0 : Nat) : Int) by omega),rfl,trivial⟩ rfl ⟨rfl,Nat.zero_le _,by simpa [mkRow] using hO,Pr.refl _ _⟩ ?_
 rintro m i ρ0 st' ⟨rfl,hi,hO0,hP0⟩
 iterate 2 refine ⟨_,rfl,?_⟩
 rintro (_|_) h1
 ·replace h1 : ¬ ((i : Int) < (l.length : Int)) := of_decide_eq_false h1
  refine Cu lo0 st' [(0,vS p l.length),(1,vI (k + 2 * (i : Int))),(5,vI (i : Int)),(9,vB false)] fun _ => ?_
  refine cxs ?_
  refine cxs ?_
  have hil : i = l.length := by omega
  subst hil
  rw [List.drop_length,List.append_nil] at hO0
  exact Rt ⟨rfl,hO0,hP0⟩
 ·replace h1 : (i : Int) < (l.length : Int) := of_decide_eq_true h1
  refine Cu lo0 st' [(0,vS p l.length),(1,vI (k + 2 * (i : Int))),(5,vI (i : Int)),(9,vB true)] fun _ => ?_
  have h1' := Int.ofNat_lt.1 h1
  have hlen : i < (mkRow mkFlr 2 i k ++ l.drop i).length := by rw [List.length_append,mkRow_len,List.length_drop]; omega
  have ⟨a,ha⟩ := hO0.some (by omega)
  obtain ⟨w,hw⟩ : ∃ w,(mkRow mkFlr 2 i k ++ l.drop i)[i]? = some w := ⟨_,List.getElem?_eq_getElem hlen⟩
  have hset := mkRow_set (mk := mkFlr) (z := 2) (k := k) h1'
  refine cxs ?_
  refine ⟨_,op_idx (j := (i : Int)) (n := l.length) (q := ⟨a,0,none⟩) rfl (congrArg (fun u => vS u l.length) ha) rfl rfl rfl (Int.natCast_nonneg _) h1,?_⟩
  refine ⟨_,rfl,?_⟩
  refine op_putc (z := 2) (i := 0) (st := st') (f := cFlr) (j := i) (l := (mkRow mkFlr 2 i k ++ l.drop i)) (w := w) (y := ((⟨(k + 2 * (i : Int)),w.inc⟩ : Flr) : Flr)) (p := p) (d := 0 + i * 2 + 0) rfl rfl (by omega) rfl rfl len_cFlr rfl rfl hw (by decide) rfl hO0 ha ?_
  intro s1 hO1 hP1 hn1
  have hQ1 : Pr p st s1 := hP0.trans hP1
  refine Cu lo0 s1 [(0,vS p l.length),(1,vI (k + 2 * (i : Int))),(5,vI (i : Int)),(9,vB true)] fun _ => ?_
  have e18 : IntKind.wrap .i64 (k + 2 * (i : Int) + 1) = k + 2 * (i : Int) + 1 := (wrap_i64 (by omega) (by omega)).trans (by omega)
  refine ⟨_,rfl,?_⟩
  refine AW.cut lo0 s1 [(0,vS p l.length),(1,vI (k + 2 * (i : Int) + 1)),(5,vI (i : Int)),(9,vB true)] ⟨rfl,congrArg (Value.int .i64) e18,rfl,rfl,trivial⟩ fun _ => ?_
  refine ⟨_,op_idx (j := (i : Int)) (n := l.length) (q := ⟨a,0,none⟩) rfl (congrArg (fun u => vS u l.length) ha) rfl rfl rfl (Int.natCast_nonneg _) h1,?_⟩
  refine ⟨_,rfl,?_⟩
  refine op_putc (z := 2) (i := 1) (st := s1) (f := cFlr) (j := i) (l := ((mkRow mkFlr 2 i k ++ l.drop i).set i (⟨(k + 2 * (i : Int)),w.inc⟩ : Flr))) (w := (⟨(k + 2 * (i : Int)),w.inc⟩ : Flr)) (y := ((⟨(k + 2 * (i : Int)),(k + 2 * (i : Int)) + 1⟩ : Flr) : Flr)) (p := p) (d := 0 + i * 2 + 1) rfl rfl (by omega) rfl rfl len_cFlr rfl rfl (getElem?_set_same hlen) (by decide) rfl hO1 ha ?_
  intro s2 hO2 hP2 hn2
  rw [set_set] at hO2
  have hQ2 : Pr p st s2 := hQ1.trans hP2
  refine Cu lo0 s2 [(0,vS p l.length),(1,vI (k + 2 * (i : Int) + 1)),(5,vI (i : Int)),(9,vB true)] fun _ => ?_
  have e25 : IntKind.wrap .i64 (k + 2 * (i : Int) + 1 + 1) = k + 2 * ((i + 1 : Nat) : Int) := (wrap_i64 (by omega) (by omega)).trans (by omega)
  refine ⟨_,rfl,?_⟩
  refine AW.cut lo0 s2 [(0,vS p l.length),(1,vI (k + 2 * ((i + 1 : Nat) : Int))),(5,vI (i : Int)),(9,vB true)] ⟨rfl,congrArg (Value.int .i64) e25,rfl,rfl,trivial⟩ fun _ => ?_
  have e11 : IntKind.wrap .i64 ((i : Int) + 1) = ((i + 1 : Nat) : Int) := (wrap_i64 (by omega) (by omega)).trans (by omega)
  refine ⟨_,rfl,?_⟩
  exact ⟨i + 1,l.length - (i + 1),by omega,⟨rfl,rfl,congrArg (Value.int .i64) e11,trivial⟩,rfl,rfl,h1',(show OwnR s2 2 cFlr p (mkRow mkFlr 2 (i + 1) k ++ l.drop (i + 1)) by rw [← hset]; exact hO2),hQ2⟩
theorem len_cSV (s : SV) : (cSV s).length = 2 := rfl
def RdL (st : St) (p : Option Addr) (l : List SV) : Prop := Rows st 2 cSV p l ∧ ∀ s ∈ l,RdS st s
abbrev pcL (p : Option Addr) (l : List SV) : List Pc := pcR 2 cSV p l :: l.flatMap pcS
theorem RdL.pres {st st' : St} {p : Option Addr} {l : List SV} (h : RdL st p l) (k : Pres st st') : RdL st' p l := ⟨k.rows h.1,fun s hs => (h.2 s hs).pres k⟩
theorem OwnP.louter {st : St} {p : Option Addr} {l : List SV} {m : List Pc} (h : OwnP st (pcR 2 cSV p l :: m)) : OwnR st 2 cSV p l := pc_own (by decide) len_cSV (h.1 _ (List.mem_cons_self ..))
theorem OwnP.sub {st : St} {l m : List Pc} (h : OwnP st l) (hs : m.Sublist l) : OwnP st m := ⟨fun c hc => h.1 c (hs.subset hc),h.2.sublist hs⟩
structure Lg where
 cap : Int
 frm : Int
 list : List Sta
structure LV where
 cap : Int
 frm : Int
 p : Option Addr
 l : List SV
abbrev LV.x (g : LV) : Lg := ⟨g.cap,g.frm,g.l.map (·.x)⟩
def mkS (s : Sta) (k : Int) : Sta := ⟨mkRow mkItm 6 s.items.length k,mkRow mkFlr 2 s.floors.length (k + 6 * (s.items.length : Int))⟩
theorem ac_laws_markState (s : SV) (k : Int) (st : St) (hO : OwnP st (pcS s)) (hb : bigS s.x) (h0 : 0 ≤ k) (hk : k ≤ 274877906944) : C 44 [.agg #[vS s.p s.x.items.length,vS s.q s.x.floors.length],vI k] st (fun v s' => v = vI (k + 6 * (s.x.items.length : Int) + 2 * (s.x.floors.length : Int)) ∧ OwnP s' (pcS ⟨s.p,s.q,mkS s.x k⟩) ∧ PrL [s.p,s.q] st s') := by
 have hs1 : s.x.items.length ≤ 1048576 := hb.1
 have hs2 : s.x.floors.length ≤ 1048576 := hb.2.1
 refine AC.enterX (i := ⟨[2],[2,5,9],[0,1,2,4],[]⟩) [] Try.func44 rfl rfl (by kernel_rfl) (by kernel_rfl) Try.ntmps44 (Lb rfl) rfl ?_
 refine ⟨_,rfl,?_⟩
 refine Cm 1 st [(1,vI k),Ml 2 0,(4,vI 0)] [(2,0,cSV s)] fun _ _ => ?_
 iterate 2 refine ⟨_,rfl,?_⟩
 refine ⟨_,rfl,(ac_laws_markItemS s.p s.x.items k st hO.items hb.1 h0 (by omega)).mono ?_⟩
 rintro _ s1 ⟨rfl,hO1,hP1⟩
 refine Cm 1 s1 [(1,vI (k + 6 * (s.x.items.length : Int))),Ml 2 0,(4,vI 0)] [(2,0,cSV s)] fun _ _ => ?_
 have hA := OwnP.update (l := []) (m := [pcR 2 cFlr s.q s.x.floors]) (c := pcR 6 cItm s.p s.x.items) (d := pcR 6 cItm s.p (mkRow mkItm 6 s.x.items.length k)) hO hP1 (own_pc hO1) rfl
 have hF : OwnR s1 2 cFlr s.q s.x.floors := pc_own (by decide) len_cFlr (hA.1 _ (List.mem_cons_of_mem _ (List.mem_cons_self ..)))
 iterate 2 refine ⟨_,rfl,?_⟩
 refine ⟨_,rfl,(ac_laws_markFloorS s.q s.x.floors (k + 6 * (s.x.items.length : Int)) s1 hF hb.2.1 (by omega) (by omega)).mono ?_⟩
 rintro _ s2 ⟨rfl,hO2,hP2⟩
 refine cxs ?_
 refine cxs ?_
 have hB := OwnP.update (l := [pcR 6 cItm s.p (mkRow mkItm 6 s.x.items.length k)]) (m := []) (c := pcR 2 cFlr s.q s.x.floors) (d := pcR 2 cFlr s.q (mkRow mkFlr 2 s.x.floors.length (k + 6 * (s.x.items.length : Int)))) hA hP2 (own_pc hO2) rfl
 exact Rt ⟨rfl,hB,(hP1.l (List.mem_cons_self ..)).trans (hP2.l (List.mem_cons_of_mem _ (List.mem_cons_self ..)))⟩
theorem PrL.ownR {α : Type} {st st' : St} {ps : List (Option Addr)} {z : Nat} {f : α → List Value} {q : Option Addr} {l : List α} (h0 : 0 < z) (hz : ∀ x,(f x).length = z) (h : PrL ps st st') (hO : OwnR st z f q l) (hd : ∀ p ∈ ps,Dis p q) : OwnR st' z f q l :=
 pc_own h0 hz ((OwnP.prl (OwnP.one (own_pc hO)) h fun c hc p hp => by rw [List.mem_singleton.1 hc]; exact hd p hp).1 _ (List.mem_singleton_self _))
def shO (p : Option Addr) (z i : Nat) : Option Addr := p.map fun q => ⟨q.block,q.off + i * z,q.spot⟩
theorem Rows.sh {α : Type} {st : St} {z : Nat} {f : α → List Value} {p : Option Addr} {l : List α} (h : Rows st z f p l) (i : Nat) : Rows st z f (shO p z i) (l.drop i) := by
 rcases h with rfl | ⟨b,off,blk,rfl,hm,hb,hc⟩
 ·exact .inl List.drop_nil
 ·exact Rows.drop (.inr ⟨b,off,blk,rfl,hm,hb,hc⟩) i
theorem Dis.sh {p q : Option Addr} {z i : Nat} (h : Dis p q) : Dis (shO p z i) q := fun a b ha hb => by
 cases p with
 | none => cases ha
 | some c => injection ha with ha; rw [← ha]; exact h c b rfl hb
theorem New.sh {n : Nat} {p : Option Addr} {z i : Nat} (h : New n p) : New n (shO p z i) := fun a ha => by
 cases p with
 | none => cases ha
 | some c => injection ha with ha; rw [← ha]; exact h c rfl
section
variable {P : Program} {ls : List Tmp} {call : ACallT} {o : Oper} {e : Operand → Value} {lo : Lo} {st : St}
theorem op_slc {t el : TypeId} {x y : Operand} {p : Option Addr} {n j z : Nat} {k : IntKind} {i : Int} (ho : o.op = .slice t x (some y) none none) (hx : e x = .slice p n n) (hy : e y = .int k i) (he : telem P t = some el) (hz : tsize P el = some z) (hi : i = (j : Int)) (hj : j ≤ n) : aoper P ls call o e lo st = some (.slice (shO p z j) (n - j) (n - j),lo,st) := by
 obtain ⟨d,op,tt,pos,after,gd⟩ := o
 simp only at ho
 subst ho hi
 simp [aoper,rop,aslice,abound,hx,hy,he,hz,hj,shO]
end
theorem op_drop {α : Type} {P : Program} {ls : List Tmp} {call : ACallT} {o : Oper} {e : Operand → Value} {lo : Lo} {st : St} {t el : TypeId} {x y : Operand} {p : Option Addr} {n z : Nat} {k : IntKind} {i : Int} (l : List α) (j : Nat) (ho : o.op = .slice t x (some y) none none) (hx : e x = .slice p n n) (hn : n = l.length) (hy : e y = .int k i) (he : telem P t = some el) (hz : tsize P el = some z) (hi : i = (j : Int)) (hj : j ≤ l.length) : aoper P ls call o e lo st = some (.slice (shO p z j) (l.drop j).length (l.drop j).length,lo,st) := by
 subst hn
 rw [List.length_drop]
 exact op_slc ho hx hy he hz hi hj
theorem PrL.rows {α : Type} {st st' : St} {ps : List (Option Addr)} {z : Nat} {f : α → List Value} {p : Option Addr} {l : List α} (h : PrL ps st st') (hR : Rows st z f p l) (hd : ∀ q ∈ ps,Dis p q) : Rows st' z f p l := by
 rcases hR with rfl | ⟨b,off,blk,rfl,hm,hb,hc⟩
 ·exact .inl rfl
 ·refine .inr ⟨b,off,blk,rfl,?_,Nat.lt_of_lt_of_le hb h.1,hc⟩
  rw [h.2 b hb fun q hq r hr => hd q hq _ r rfl hr]
  exact hm
theorem ac_laws_heldState (s : SV) (k : Int) (st : St) (hR : RdS st ⟨s.p,s.q,mkS s.x k⟩) (hb : bigS s.x) (h0 : 0 ≤ k) (hk : k ≤ 274877906944) : C 45 [.agg #[vS s.p s.x.items.length,vS s.q s.x.floors.length],vI k] st (fun v s' => v = vI (k + 6 * (s.x.items.length : Int) + 2 * (s.x.floors.length : Int)) ∧ Pres st s') := by
 have hs1 : s.x.items.length ≤ 1048576 := hb.1
 have hs2 : s.x.floors.length ≤ 1048576 := hb.2.1
 refine AC.enterX (i := ⟨[2],[2,5,11],[0,1,2,4,10,16],[]⟩) [] Try.func45 rfl rfl (by kernel_rfl) (by kernel_rfl) Try.ntmps45 (Lb rfl) rfl ?_
 refine ⟨_,rfl,?_⟩
 refine Cm 1 st [(1,vI k),Ml 2 0,(4,vI 0)] [(2,0,cSV s)] fun _ _ => ?_
 iterate 2 refine ⟨_,rfl,?_⟩
 refine ⟨_,rfl,(ac_laws_heldItemS s.p s.x.items.length k st hR.1 hb.1 h0 (by omega)).mono ?_⟩
 rintro _ s1 ⟨rfl,hP1⟩
 refine Cm 1 s1 [(1,vI (k + 6 * (s.x.items.length : Int))),Ml 2 0,(4,vI 0)] [(2,0,cSV s)] fun _ _ => ?_
 refine ⟨_,rfl,?_⟩
 rintro (_|_) h1
 rotate_left
 ·exact absurd (of_decide_eq_true h1) ((by omega))
 refine Cm 1 s1 [(1,vI (k + 6 * (s.x.items.length : Int))),Ml 2 0,(4,vI 0),(10,vB false)] [(2,0,cSV s)] fun _ _ => ?_
 refine cxs ?_
 iterate 2 refine ⟨_,rfl,?_⟩
 refine ⟨_,rfl,(ac_laws_heldFloorS s.q s.x.floors.length (k + 6 * (s.x.items.length : Int)) s1 (hP1.rows hR.2) hb.2.1 (by omega) (by omega)).mono ?_⟩
 rintro _ s2 ⟨rfl,hP2⟩
 refine Cm 1 s2 [(1,vI (k + 6 * (s.x.items.length : Int) + 2 * (s.x.floors.length : Int))),(4,vI 0)] [] fun _ _ => ?_
 refine ⟨_,rfl,?_⟩
 rintro (_|_) h2
 rotate_left
 ·exact absurd (of_decide_eq_true h2) ((by omega))
 refine Cm 1 s2 [(1,vI (k + 6 * (s.x.items.length : Int) + 2 * (s.x.floors.length : Int))),(4,vI 0),(16,vB false)] [] fun _ _ => ?_
 refine cxs ?_
 exact cxs (Rt ⟨rfl,hP1.trans hP2⟩)
abbrev cntS (s : Sta) : Nat := 6 * s.items.length + 2 * s.floors.length
def xr (a b : Int) : Int := bits .xor .i64 a b
theorem wrap_nat (n : Nat) (h : n < 9223372036854775808) : IntKind.wrap .i64 (n : Int) = (n : Int) := wrap_i64 (by omega) (by omega)
theorem xr_nat {a b : Nat} (ha : a < 4294967296) (hb : b < 4294967296) : xr a b = ((a ^^^ b : Nat) : Int) ∧ a ^^^ b < 4294967296 := by
 have h : a ^^^ b < 4294967296 := Nat.xor_lt_two_pow (n := 32) ha hb
 refine ⟨?_,h⟩
 have h1 : (BitVec.ofInt 64 (a : Int) ^^^ BitVec.ofInt 64 (b : Int)).toNat = a ^^^ b := by
  rw [BitVec.toNat_xor,BitVec.ofInt_natCast,BitVec.ofInt_natCast,BitVec.toNat_ofNat,BitVec.toNat_ofNat,Nat.mod_eq_of_lt (by omega),Nat.mod_eq_of_lt (by omega)]
 show IntKind.wrap .i64 (((BitVec.ofInt 64 (a : Int) ^^^ BitVec.ofInt 64 (b : Int)).toNat : Nat) : Int) = _
 rw [h1]
 exact wrap_nat _ (by omega)
def rng32 (x : Int) : Prop := 0 ≤ x ∧ x < 4294967296
theorem xr_rng {a b : Int} (ha : rng32 a) (hb : rng32 b) : rng32 (xr a b) := by
 obtain ⟨m,rfl⟩ := Int.eq_ofNat_of_zero_le ha.1
 obtain ⟨n,rfl⟩ := Int.eq_ofNat_of_zero_le hb.1
 have h := xr_nat (a := m) (b := n) (by have := ha.2; omega) (by have := hb.2; omega)
 rw [h.1]
 exact ⟨by omega,by omega⟩
def crc1 (x : Int) : Int := if x % 2 = 1 then xr (x / 2) 3988292384 else x / 2
def crcN : Nat → Int → Int
 | 0,x => x
 | n + 1,x => crc1 (crcN n x)
def crcS (x u : Int) : Int := crcN 8 (xr x u)
def crcP (l : List Int) (i : Nat) : Int := (l.take i).foldl crcS 4294967295
def crc (l : List Int) : Int := xr (crcP l l.length) 4294967295
def bytesOk (l : List Int) : Prop := ∀ x ∈ l,0 ≤ x ∧ x < 256
theorem crc1_rng {x : Int} (h : rng32 x) : rng32 (crc1 x) := by
 have hd : rng32 (x / 2) := ⟨by have := h.1; omega,by have := h.1; have := h.2; omega⟩
 unfold crc1
 split
 ·exact xr_rng hd ⟨by decide,by decide⟩
 ·exact hd
theorem crcN_rng {x : Int} (h : rng32 x) : ∀ n,rng32 (crcN n x)
 | 0 => h
 | n + 1 => crc1_rng (crcN_rng h n)
theorem crcP_succ {l : List Int} {i : Nat} {u : Int} (h : l[i]? = some u) : crcP l (i + 1) = crcS (crcP l i) u := by
 unfold crcP
 rw [List.take_add_one,h,List.foldl_append]
 rfl
theorem bytesOk.at {l : List Int} (hl : bytesOk l) {i : Nat} {u : Int} (h : l[i]? = some u) : rng32 u := by
 have := hl u (List.mem_of_getElem? h)
 exact ⟨this.1,by omega⟩
theorem crcP_rng {l : List Int} (hl : bytesOk l) : ∀ i,rng32 (crcP l i)
 | 0 => ⟨by show (0 : Int) ≤ 4294967295; decide,by show (4294967295 : Int) < 4294967296; decide⟩
 | i + 1 => by
  cases h : l[i]? with
  | none =>
   have : crcP l (i + 1) = crcP l i := by
    unfold crcP
    rw [List.take_add_one,h]
    simp
   rw [this]; exact crcP_rng hl i
  | some u =>
   rw [crcP_succ h]
   exact crcN_rng (xr_rng (crcP_rng hl i) (hl.at h)) 8
theorem crc_rng {l : List Int} (hl : bytesOk l) : rng32 (crc l) := xr_rng (crcP_rng hl _) ⟨by decide,by decide⟩
section
variable {P : Program} {ls : List Tmp} {call : ACallT} {o : Oper} {e : Operand → Value} {lo : Lo} {st : St}
theorem op_xr {t ty : TypeId} {x y : Operand} {a b : Int} (ho : o.op = .binOp .xor t x y ty) (hx : e x = vI a) (hy : e y = vI b) : aoper P ls call o e lo st = some (vI (xr a b),lo,st) := by
 obtain ⟨d,op,tt,pos,after,gd⟩ := o
 simp only at ho
 subst ho
 simp [aoper,rop,hx,hy,abin,aint,xr]
theorem op_rm {t ty : TypeId} {x y : Operand} {a b r : Int} (ho : o.op = .binOp .rem t x y ty) (hx : e x = vI a) (hy : e y = vI b) (hb : b ≠ 0) (hr : a.tmod b = r) : aoper P ls call o e lo st = some (vI r,lo,st) := by
 subst hr
 exact op_rem ho hx hy hb
theorem op_qo {t ty : TypeId} {x y : Operand} {a b r : Int} (ho : o.op = .binOp .quo t x y ty) (hx : e x = vI a) (hy : e y = vI b) (hb : b ≠ 0) (hr : a.tdiv b = r) (h1 : -9223372036854775808 ≤ r) (h2 : r < 9223372036854775808) : aoper P ls call o e lo st = some (vI r,lo,st) := by
 subst hr
 rw [op_quo ho hx hy hb,wrap_i64 h1 h2]
theorem op_ofB {src dst : TypeId} {x : Operand} {b : Int} (ho : o.op = .convert src dst x) (hx : e x = .int .u8 b) (hd : telem P dst = none) (h1 : tint P src = some .u8) (h2 : tint P dst = some .i64) (hb : rng32 b) : aoper P ls call o e lo st = some (vI b,lo,st) := by
 obtain ⟨d,op,tt,pos,after,gd⟩ := o
 simp only at ho
 subst ho
 simp only [aoper,hd,rop,hx,aconv,h1,h2,Option.bind_some,Option.map_some]
 rw [wrap_i64 (by have := hb.1; omega) (by have := hb.2; omega)]
theorem op_toB {src dst : TypeId} {x : Operand} {b r : Int} (ho : o.op = .convert src dst x) (hx : e x = vI b) (hd : telem P dst = none) (h1 : tint P src = some .i64) (h2 : tint P dst = some .u8) (hb : b = r) (h3 : 0 ≤ r) (h4 : r < 256) : aoper P ls call o e lo st = some (.int .u8 r,lo,st) := by
 obtain ⟨d,op,tt,pos,after,gd⟩ := o
 simp only at ho
 subst ho hb
 simp only [aoper,hd,rop,hx,aconv,h1,h2,Option.bind_some,Option.map_some]
 rw [wrap_u8 h3 h4]
end
theorem tm_emod {a : Int} (b : Int) (h : 0 ≤ a) : a.tmod b = a % b := Int.tmod_eq_emod_of_nonneg h
theorem td_ediv {a : Int} (b : Int) (h : 0 ≤ a) : a.tdiv b = a / b := Int.tdiv_eq_ediv_of_nonneg h
theorem ac_spec_Crc (p : Option Addr) (l : List Int) (st : St) (hR : Rows st 1 fB p l) (hl : bytesOk l) (hs : l.length ≤ 1099511627776) : C 172 [vS p l.length] st (fun v s => v = vI (crc l) ∧ s = st) := by
 refine AC.enterX (i := ⟨[],[],[0,2,3,4,5,6,10,21,29],[]⟩) [] Try.func172 rfl rfl (by kernel_rfl) (by kernel_rfl) Try.ntmps172 (Lb rfl) rfl ?_
 refine cxs ?_
 refine cxs ?_
 refine Cu lo0 st [(0,vS p l.length),(2,vI 0),(3,vI 4294967295),(4,vI 0)] fun _ => ?_
 refine AW.loop0 (fun x : Nat × Int => [(0,vS p l.length),(2,vI (0)),(3,vI x.2),(4,vI (x.1 : Int))]) (fun m (x : Nat × Int) st' => m = l.length - x.1 ∧ x.1 ≤ l.length ∧ x.2 = crcP l x.1 ∧ st = st') (0,4294967295) _ ⟨rfl,rfl,rfl,rfl,trivial⟩ rfl ⟨rfl,Nat.zero_le _,rfl,rfl⟩ ?_
 rintro m ⟨i,c⟩ ρ0 st' ⟨rfl,hi,hc,rfl⟩
 simp only at hi hc
 have hP : rng32 c := hc ▸ crcP_rng hl i
 iterate 2 refine ⟨_,rfl,?_⟩
 rintro (_|_) h10
 ·replace h10 : ¬ ((i : Int) < (l.length : Int)) := of_decide_eq_false h10
  refine Cu lo0 st [(0,vS p l.length),(2,vI 0),(3,vI c),(4,vI (i : Int)),(10,vB false)] fun _ => ?_
  refine cxs ?_
  refine ⟨_,op_xr rfl rfl rfl,?_⟩
  exact cxs (Rt ⟨congrArg vI (by rw [hc,crc,show l.length = i by omega]),rfl⟩)
 ·replace h10 : (i : Int) < (l.length : Int) := of_decide_eq_true h10
  refine Cu lo0 st [(0,vS p l.length),(2,vI 0),(3,vI c),(4,vI (i : Int)),(10,vB true)] fun _ => ?_
  refine cxs ?_
  refine op_at i hR (by omega) rfl rfl rfl rfl rfl rfl rfl ?_
  intro x16 b16 d16 k16 hy16 hb16 hm16 hc16 ho16
  refine ⟨_,op_ldc (i := 0) rfl rfl rfl rfl hm16 hc16 rfl rfl,?_⟩
  refine ⟨_,op_ofB rfl rfl rfl rfl rfl (hl.at hy16),?_⟩
  refine ⟨_,op_xr rfl rfl rfl,?_⟩
  refine cxs ?_
  refine Cu lo0 st [(0,vS p l.length),(2,vI 0),(3,vI (xr c x16)),(4,vI (i : Int)),(5,vI 0),(10,vB true)] fun _ => ?_
  refine AW.loop0 (fun y : Nat × Int => [(0,vS p l.length),(2,vI (0)),(3,vI y.2),(4,vI (i : Int)),(5,vI (y.1 : Int)),(10,vB true)]) (fun m (y : Nat × Int) st' => m = 8 - y.1 ∧ y.1 ≤ 8 ∧ y.2 = crcN y.1 (xr c x16) ∧ st = st') (0,xr c x16) _ ⟨rfl,rfl,rfl,rfl,rfl,rfl,trivial⟩ rfl ⟨rfl,Nat.zero_le _,rfl,rfl⟩ ?_
  rintro m ⟨k,d⟩ ρ0 st' ⟨rfl,hk,hd,rfl⟩
  simp only at hk hd
  have hX : rng32 d := hd ▸ crcN_rng (xr_rng hP (hl.at hy16)) k
  have hX0 := hX.1
  have hX1 := hX.2
  refine ⟨_,rfl,?_⟩
  rintro (_|_) h21
  ·replace h21 : ¬ ((k : Int) < (8)) := of_decide_eq_false h21
   refine Cu lo0 st [(0,vS p l.length),(2,vI 0),(3,vI d),(4,vI (i : Int)),(5,vI (k : Int)),(10,vB true),(21,vB false)] fun _ => ?_
   refine cxs ?_
   have ew12 : IntKind.wrap .i64 ((i : Int) + (1)) = ((i + 1 : Nat) : Int) := (wrap_i64 (by omega) (by omega)).trans (by omega)
   refine ⟨_,rfl,?_⟩
   refine ⟨(i + 1,d),l.length - (i + 1),by omega,⟨rfl,rfl,rfl,congrArg (Value.int .i64) ew12,trivial⟩,rfl,rfl,by omega,?_,rfl⟩
   rw [crcP_succ hy16,← hc,hd,show k = 8 by omega]
   rfl
  ·replace h21 : (k : Int) < (8) := of_decide_eq_true h21
   refine Cu lo0 st [(0,vS p l.length),(2,vI 0),(3,vI d),(4,vI (i : Int)),(5,vI (k : Int)),(10,vB true),(21,vB true)] fun _ => ?_
   refine cxs ?_
   refine ⟨_,op_rm (r := d % 2) rfl rfl rfl (by decide) (tm_emod 2 hX0),?_⟩
   refine ⟨_,rfl,?_⟩
   rintro (_|_) h26
   ·replace h26 : ¬ ((d % 2) = (1)) := beq_eq_false_iff_ne.1 h26
    refine Cu lo0 st [(0,vS p l.length),(2,vI 0),(3,vI d),(4,vI (i : Int)),(5,vI (k : Int)),(6,vB false),(10,vB true),(21,vB true)] fun _ => ?_
    refine ⟨_,op_qo (r := d / 2) rfl rfl rfl (by decide) (td_ediv 2 hX0) (by omega) (by omega),?_⟩
    refine cxs ?_
    refine Cu lo0 st [(0,vS p l.length),(2,vI 0),(3,vI (d / 2)),(4,vI (i : Int)),(5,vI (k : Int)),(6,vB false),(10,vB true),(21,vB true),(29,vB false)] fun _ => ?_
    refine cxs ?_
    have ew23 : IntKind.wrap .i64 ((k : Int) + (1)) = ((k + 1 : Nat) : Int) := (wrap_i64 (by omega) (by omega)).trans (by omega)
    refine ⟨_,rfl,?_⟩
    refine ⟨(k + 1,d / 2),8 - (k + 1),by omega,⟨rfl,rfl,rfl,rfl,congrArg (Value.int .i64) ew23,rfl,trivial⟩,rfl,rfl,by omega,?_,rfl⟩
    show d / 2 = crc1 _
    rw [← hd,crc1,if_neg h26]
   ·replace h26 : (d % 2) = (1) := beq_iff_eq.1 h26
    refine Cu lo0 st [(0,vS p l.length),(2,vI 0),(3,vI d),(4,vI (i : Int)),(5,vI (k : Int)),(6,vB true),(10,vB true),(21,vB true)] fun _ => ?_
    refine ⟨_,op_qo (r := d / 2) rfl rfl rfl (by decide) (td_ediv 2 hX0) (by omega) (by omega),?_⟩
    refine cxs ?_
    refine Cu lo0 st [(0,vS p l.length),(2,vI 0),(3,vI (d / 2)),(4,vI (i : Int)),(5,vI (k : Int)),(6,vB true),(10,vB true),(21,vB true),(29,vB true)] fun _ => ?_
    refine ⟨_,op_xr rfl rfl rfl,?_⟩
    refine Cu lo0 st [(0,vS p l.length),(2,vI 0),(3,vI (xr (d / 2) 3988292384)),(4,vI (i : Int)),(5,vI (k : Int)),(6,vB true),(10,vB true),(21,vB true),(29,vB true)] fun _ => ?_
    have ew23 : IntKind.wrap .i64 ((k : Int) + (1)) = ((k + 1 : Nat) : Int) := (wrap_i64 (by omega) (by omega)).trans (by omega)
    refine ⟨_,rfl,?_⟩
    refine ⟨(k + 1,xr (d / 2) 3988292384),8 - (k + 1),by omega,⟨rfl,rfl,rfl,rfl,congrArg (Value.int .i64) ew23,rfl,trivial⟩,rfl,rfl,by omega,?_,rfl⟩
    show xr (d / 2) 3988292384 = crc1 _
    rw [← hd,crc1,if_pos h26]
theorem ac_impl_Crc (p : Option Addr) (l : List Int) (st : St) (hR : Rows st 1 fB p l) (hl : bytesOk l) (hs : l.length ≤ 1099511627776) : C 168 [vS p l.length] st (fun v s => v = vI (crc l) ∧ s = st) := by
 refine AC.enterX (i := ⟨[],[],[0,2,3,5,6,7,8,9,10,17,18,24],[]⟩) [] Try.func168 rfl rfl (by kernel_rfl) (by kernel_rfl) Try.ntmps168 (Lb rfl) rfl ?_
 refine cxs ?_
 refine Cu lo0 st [(0,vS p l.length),(2,vI 0),(3,vI 4294967295)] fun _ => ?_
 refine ⟨_,rfl,?_⟩
 refine Cu lo0 st [(2,vI 0),(3,vI 4294967295),(7,vS p l.length),(8,vI (l.length : Int)),(9,vI 0)] fun _ => ?_
 refine AW.loop0 (fun x : Nat × Int => [(2,vI (0)),(3,vI x.2),(7,vS p l.length),(8,vI (l.length : Int)),(9,vI (x.1 : Int))]) (fun m (x : Nat × Int) st' => m = l.length - x.1 ∧ x.1 ≤ l.length ∧ x.2 = crcP l x.1 ∧ st = st') (0,4294967295) _ ⟨rfl,rfl,rfl,rfl,rfl,trivial⟩ rfl ⟨rfl,Nat.zero_le _,rfl,rfl⟩ ?_
 rintro m ⟨i,c⟩ ρ0 st' ⟨rfl,hi,hc,rfl⟩
 simp only at hi hc
 have hP : rng32 c := hc ▸ crcP_rng hl i
 refine ⟨_,rfl,?_⟩
 rintro (_|_) h10
 ·replace h10 : ¬ ((i : Int) < (l.length : Int)) := of_decide_eq_false h10
  refine Cu lo0 st [(2,vI 0),(3,vI c),(7,vS p l.length),(8,vI (l.length : Int)),(9,vI (i : Int)),(10,vB false)] fun _ => ?_
  refine cxs ?_
  refine ⟨_,op_xr rfl rfl rfl,?_⟩
  exact cxs (Rt ⟨congrArg vI (by rw [hc,crc,show l.length = i by omega]),rfl⟩)
 ·replace h10 : (i : Int) < (l.length : Int) := of_decide_eq_true h10
  refine Cu lo0 st [(2,vI 0),(3,vI c),(7,vS p l.length),(8,vI (l.length : Int)),(9,vI (i : Int)),(10,vB true)] fun _ => ?_
  refine cxs ?_
  refine op_at i hR (by omega) rfl rfl rfl rfl rfl rfl rfl ?_
  intro x11 b11 d11 k11 hy11 hb11 hm11 hc11 ho11
  refine ⟨_,op_ldc (i := 0) rfl rfl rfl rfl hm11 hc11 rfl rfl,?_⟩
  refine Cu lo0 st [(2,vI 0),(3,vI c),(5,.int .u8 x11),(7,vS p l.length),(8,vI (l.length : Int)),(9,vI (i : Int)),(10,vB true)] fun _ => ?_
  refine ⟨_,op_ofB rfl rfl rfl rfl rfl (hl.at hy11),?_⟩
  refine ⟨_,op_xr rfl rfl rfl,?_⟩
  refine cxs ?_
  refine Cu lo0 st [(2,vI 0),(3,vI (xr c x11)),(5,.int .u8 x11),(7,vS p l.length),(8,vI (l.length : Int)),(9,vI (i : Int)),(10,vB true),(17,vI 0)] fun _ => ?_
  refine AW.loop0 (fun y : Nat × Int => [(2,vI (0)),(3,vI y.2),(5,.int .u8 x11),(7,vS p l.length),(8,vI (l.length : Int)),(9,vI (i : Int)),(10,vB true),(17,vI (y.1 : Int))]) (fun m (y : Nat × Int) st' => m = 8 - y.1 ∧ y.1 ≤ 8 ∧ y.2 = crcN y.1 (xr c x11) ∧ st = st') (0,xr c x11) _ ⟨rfl,rfl,rfl,rfl,rfl,rfl,rfl,rfl,trivial⟩ rfl ⟨rfl,Nat.zero_le _,rfl,rfl⟩ ?_
  rintro m ⟨k,d⟩ ρ0 st' ⟨rfl,hk,hd,rfl⟩
  simp only at hk hd
  have hX : rng32 d := hd ▸ crcN_rng (xr_rng hP (hl.at hy11)) k
  have hX0 := hX.1
  have hX1 := hX.2
  refine ⟨_,rfl,?_⟩
  rintro (_|_) h18
  ·replace h18 : ¬ ((k : Int) < (8)) := of_decide_eq_false h18
   refine Cu lo0 st [(2,vI 0),(3,vI d),(5,.int .u8 x11),(7,vS p l.length),(8,vI (l.length : Int)),(9,vI (i : Int)),(10,vB true),(17,vI (k : Int)),(18,vB false)] fun _ => ?_
   refine cxs ?_
   have ew28 : IntKind.wrap .i64 ((i : Int) + (1)) = ((i + 1 : Nat) : Int) := (wrap_i64 (by omega) (by omega)).trans (by omega)
   refine ⟨_,rfl,?_⟩
   refine ⟨(i + 1,d),l.length - (i + 1),by omega,⟨rfl,rfl,rfl,rfl,congrArg (Value.int .i64) ew28,trivial⟩,rfl,rfl,by omega,?_,rfl⟩
   rw [crcP_succ hy11,← hc,hd,show k = 8 by omega]
   rfl
  ·replace h18 : (k : Int) < (8) := of_decide_eq_true h18
   refine Cu lo0 st [(2,vI 0),(3,vI d),(5,.int .u8 x11),(7,vS p l.length),(8,vI (l.length : Int)),(9,vI (i : Int)),(10,vB true),(17,vI (k : Int)),(18,vB true)] fun _ => ?_
   refine cxs ?_
   refine ⟨_,op_rm (r := d % 2) rfl rfl rfl (by decide) (tm_emod 2 hX0),?_⟩
   refine ⟨_,rfl,?_⟩
   rintro (_|_) h21
   ·replace h21 : ¬ ((d % 2) = (1)) := beq_eq_false_iff_ne.1 h21
    refine Cu lo0 st [(2,vI 0),(3,vI d),(5,.int .u8 x11),(6,vB false),(7,vS p l.length),(8,vI (l.length : Int)),(9,vI (i : Int)),(10,vB true),(17,vI (k : Int)),(18,vB true)] fun _ => ?_
    refine ⟨_,op_qo (r := d / 2) rfl rfl rfl (by decide) (td_ediv 2 hX0) (by omega) (by omega),?_⟩
    refine cxs ?_
    refine Cu lo0 st [(2,vI 0),(3,vI (d / 2)),(5,.int .u8 x11),(6,vB false),(7,vS p l.length),(8,vI (l.length : Int)),(9,vI (i : Int)),(10,vB true),(17,vI (k : Int)),(18,vB true),(24,vB false)] fun _ => ?_
    refine cxs ?_
    have ew27 : IntKind.wrap .i64 ((k : Int) + (1)) = ((k + 1 : Nat) : Int) := (wrap_i64 (by omega) (by omega)).trans (by omega)
    refine ⟨_,rfl,?_⟩
    refine ⟨(k + 1,d / 2),8 - (k + 1),by omega,⟨rfl,rfl,rfl,rfl,rfl,rfl,rfl,congrArg (Value.int .i64) ew27,trivial⟩,rfl,rfl,by omega,?_,rfl⟩
    show d / 2 = crc1 _
    rw [← hd,crc1,if_neg h21]
   ·replace h21 : (d % 2) = (1) := beq_iff_eq.1 h21
    refine Cu lo0 st [(2,vI 0),(3,vI d),(5,.int .u8 x11),(6,vB true),(7,vS p l.length),(8,vI (l.length : Int)),(9,vI (i : Int)),(10,vB true),(17,vI (k : Int)),(18,vB true)] fun _ => ?_
    refine ⟨_,op_qo (r := d / 2) rfl rfl rfl (by decide) (td_ediv 2 hX0) (by omega) (by omega),?_⟩
    refine cxs ?_
    refine Cu lo0 st [(2,vI 0),(3,vI (d / 2)),(5,.int .u8 x11),(6,vB true),(7,vS p l.length),(8,vI (l.length : Int)),(9,vI (i : Int)),(10,vB true),(17,vI (k : Int)),(18,vB true),(24,vB true)] fun _ => ?_
    refine ⟨_,op_xr rfl rfl rfl,?_⟩
    refine Cu lo0 st [(2,vI 0),(3,vI (xr (d / 2) 3988292384)),(5,.int .u8 x11),(6,vB true),(7,vS p l.length),(8,vI (l.length : Int)),(9,vI (i : Int)),(10,vB true),(17,vI (k : Int)),(18,vB true),(24,vB true)] fun _ => ?_
    have ew27 : IntKind.wrap .i64 ((k : Int) + (1)) = ((k + 1 : Nat) : Int) := (wrap_i64 (by omega) (by omega)).trans (by omega)
    refine ⟨_,rfl,?_⟩
    refine ⟨(k + 1,xr (d / 2) 3988292384),8 - (k + 1),by omega,⟨rfl,rfl,rfl,rfl,rfl,rfl,rfl,congrArg (Value.int .i64) ew27,trivial⟩,rfl,rfl,by omega,?_,rfl⟩
    show xr (d / 2) 3988292384 = crc1 _
    rw [← hd,crc1,if_pos h21]
def vlq (n : Nat) : List Int := if h : n < 128 then [(n : Int)] else ((n % 128 + 128 : Nat) : Int) :: vlq (n / 128)
termination_by n
decreasing_by omega
def putN (n : Int) : List Int := if 0 ≤ n ∧ n ≤ 2147483647 then vlq n.toNat else []
theorem vlq_lt {n : Nat} (h : n < 128) : vlq n = [(n : Int)] := by rw [vlq,dif_pos h]
theorem vlq_ge {n : Nat} (h : ¬ n < 128) : vlq n = ((n % 128 + 128 : Nat) : Int) :: vlq (n / 128) := by rw [vlq,dif_neg h]
theorem vlq_len : ∀ (f n : Nat),n < 128 ^ (f + 1) → (vlq n).length ≤ f + 1
 | 0,n,h => by rw [vlq_lt (by omega)]; exact Nat.le_refl _
 | f + 1,n,h => by
  by_cases h1 : n < 128
  ·rw [vlq_lt h1]; simp
  ·rw [vlq_ge h1,List.length_cons]
   have := vlq_len f (n / 128) (by rw [Nat.pow_succ] at h; omega)
   omega
theorem vlq_pos (n : Nat) : 0 < (vlq n).length := by
 by_cases h1 : n < 128
 ·rw [vlq_lt h1]; exact Nat.one_pos
 ·rw [vlq_ge h1,List.length_cons]; omega
theorem vlq_ok : ∀ (f n : Nat),n < 128 ^ (f + 1) → bytesOk (vlq n)
 | 0,n,h => by
  rw [vlq_lt (by omega)]
  intro x hx
  rw [List.mem_singleton.1 hx]
  omega
 | f + 1,n,h => by
  by_cases h1 : n < 128
  ·rw [vlq_lt h1]
   intro x hx
   rw [List.mem_singleton.1 hx]
   omega
  ·rw [vlq_ge h1]
   intro x hx
   rcases List.mem_cons.1 hx with rfl | hx
   ·omega
   ·exact vlq_ok f (n / 128) (by rw [Nat.pow_succ] at h; omega) x hx
theorem putN_len (n : Int) : (putN n).length ≤ 5 := by
 unfold putN
 split
 ·exact vlq_len 4 _ (by omega)
 ·exact Nat.zero_le _
theorem putN_ok (n : Int) : bytesOk (putN n) := by
 unfold putN
 split
 ·exact vlq_ok 4 _ (by omega)
 ·intro x hx; cases hx
theorem bytesOk.app {a b : List Int} (ha : bytesOk a) (hb : bytesOk b) : bytesOk (a ++ b) := fun x hx => by
 rcases List.mem_append.1 hx with h | h
 ·exact ha x h
 ·exact hb x h
theorem ac_spec_PutNum (n : Int) (st : St) : C 160 [vI n] st (fun v s => ∃ q,v = vS q (putN n).length ∧ OwnR s 1 fB q (putN n) ∧ New st.next q ∧ Pres st s) := by
 refine AC.enterX (i := ⟨[],[],[0,2,3,7,10],[]⟩) [] Try.func160 rfl rfl (by kernel_rfl) (by kernel_rfl) Try.ntmps160 (Lb rfl) rfl ?_
 refine Cu lo0 st [(0,vI n),(2,Sn)] fun _ => ?_
 refine op_nilK (z := 1) (f := fB) rfl rfl rfl rfl (by decide) rfl ?_
 intro q4 s4 hO4 hP4 hN4
 refine Cu lo0 s4 [(0,vI n),(2,Sn),(3,vS q4 0)] fun _ => ?_
 refine ⟨_,rfl,(ac_spec_l1In n 0 2147483647 s4).mono ?_⟩
 rintro _ s4 ⟨x6,rfl,h6,rfl⟩
 rcases x6 with _|_
 ·replace h6 := of_decide_eq_false h6.symm
  refine ⟨_,rfl,?_⟩
  refine Cu lo0 s4 [(0,vI n),(2,Sn),(3,vS q4 0),(7,vB true)] fun _ => ?_
  refine cxs ?_
  refine ⟨.inl rfl,_,rfl,?_⟩
  rw [show putN n = [] from if_neg h6]
  exact ⟨q4,rfl,hO4,hN4,hP4⟩
 ·replace h6 := of_decide_eq_true h6.symm
  refine ⟨_,rfl,?_⟩
  refine Cu lo0 s4 [(0,vI n),(2,Sn),(3,vS q4 0),(7,vB false)] fun _ => ?_
  obtain ⟨n,rfl⟩ := Int.eq_ofNat_of_zero_le h6.1
  have hpn : vlq n = putN n := (if_pos h6).symm
  have hpl := putN_len n
  refine cxs ?_
  refine AW.loop0 (fun x : Nat × Option Addr × List Int => [(0,vI (x.1 : Int)),(2,.slice none 0 0),(3,vS x.2.1 x.2.2.length)]) (fun m (x : Nat × Option Addr × List Int) st' => m = x.1 ∧ x.1 ≤ n ∧ x.2.2 ++ vlq x.1 = putN n ∧ OwnR st' 1 fB x.2.1 x.2.2 ∧ New st.next x.2.1 ∧ Pres st st') (n,q4,[]) _ ⟨rfl,rfl,rfl,trivial⟩ rfl ⟨rfl,Nat.le_refl _,hpn,hO4,hN4,hP4⟩ ?_
  rintro m ⟨k,q,l⟩ ρ0 st' ⟨hm,hk,hv,hO,hN,hP⟩
  simp only at hm hk hv hO hN
  have hvl := congrArg List.length hv
  rw [List.length_append] at hvl
  have hv1 := vlq_pos k
  refine ⟨_,rfl,?_⟩
  rintro (_|_) h10
  ·replace h10 : ¬ ((k : Int) > (127)) := of_decide_eq_false h10
   refine Cu lo0 st' [(0,vI (k : Int)),(2,Sn),(3,vS q l.length),(10,vB false)] fun _ => ?_
   refine cxs ?_
   refine ⟨_,op_toB (r := (k : Int)) rfl rfl rfl rfl rfl rfl (by omega) (by omega),?_⟩
   refine op_one (z := 1) (a := ((k : Int) : Int)) (f := fB) rfl rfl rfl rfl rfl (by decide) rfl (Lb rfl) rfl rfl rfl ?_
   refine op_snoc (z := 1) (st := st') (f := fB) (b := 1) (l := l) (x := (k : Int)) rfl rfl rfl rfl rfl rfl rfl (by decide) fB_len rfl rfl rfl (by omega) (by unfold maxLen; omega) hO ?_
   intro q24 s24 hO24 hP24 hN24
   refine cxs ?_
   refine ⟨.inl rfl,_,rfl,q24,?_⟩
   rw [← hv,vlq_lt (n := k) (by omega)]
   exact ⟨rfl,hO24,hN24.le hP.1,hP24.pres hP hN⟩
  ·replace h10 : (k : Int) > (127) := of_decide_eq_true h10
   refine Cu lo0 st' [(0,vI (k : Int)),(2,Sn),(3,vS q l.length),(10,vB true)] fun _ => ?_
   refine cxs ?_
   refine ⟨_,op_rm (r := ((k % 128 : Nat) : Int)) rfl rfl rfl (by decide) ((tm_emod 128 (by omega)).trans (by omega)),?_⟩
   have ew14 : IntKind.wrap .i64 (((k % 128 : Nat) : Int) + (128)) = ((k % 128 + 128 : Nat) : Int) := (wrap_i64 (by omega) (by omega)).trans (by omega)
   refine ⟨_,rfl,?_⟩
   refine ⟨_,op_toB (r := ((k % 128 + 128 : Nat) : Int)) rfl rfl rfl rfl rfl (ew14.trans (by omega)) (by omega) (by omega),?_⟩
   refine op_one (z := 1) (a := (((k % 128 + 128 : Nat) : Int) : Int)) (f := fB) rfl rfl rfl rfl rfl (by decide) rfl (Lb rfl) rfl rfl rfl ?_
   refine op_snoc (z := 1) (st := st') (f := fB) (b := 1) (l := l) (x := ((k % 128 + 128 : Nat) : Int)) rfl rfl rfl rfl rfl rfl rfl (by decide) fB_len rfl rfl rfl (by omega) (by unfold maxLen; omega) hO ?_
   intro q17 s17 hO17 hP17 hN17
   refine Cu lo0 s17 [(0,vI (k : Int)),(2,Sn),(3,vS q17 (l ++ [((k % 128 + 128 : Nat) : Int)]).length),(10,vB true)] fun _ => ?_
   refine ⟨_,op_qo (r := ((k / 128 : Nat) : Int)) rfl rfl rfl (by decide) ((td_ediv 128 (by omega)).trans (by omega)) (by omega) (by omega),?_⟩
   exact ⟨(k / 128,q17,l ++ [((k % 128 + 128 : Nat) : Int)]),k / 128,by omega,⟨rfl,rfl,rfl,trivial⟩,rfl,rfl,by simp only; omega,by rw [← hv,vlq_ge (n := k) (by omega),List.append_assoc]; rfl,hO17,hN17.le hP.1,hP17.pres hP hN⟩
theorem ac_impl_PutNum (n : Int) (st : St) : C 108 [vI n] st (fun v s => ∃ q,v = vS q (putN n).length ∧ OwnR s 1 fB q (putN n) ∧ New st.next q ∧ Pres st s) := by
 refine AC.enterX (i := ⟨[],[],[0,2,3,6,9],[]⟩) [] Try.func108 rfl rfl (by kernel_rfl) (by kernel_rfl) Try.ntmps108 (Lb rfl) rfl ?_
 refine Cu lo0 st [(0,vI n),(2,Sn)] fun _ => ?_
 refine ⟨_,rfl,(ac_impl_within n 0 2147483647 st).mono ?_⟩
 rintro _ st ⟨x5,rfl,h5,rfl⟩
 rcases x5 with _|_
 ·replace h5 := of_decide_eq_false h5.symm
  refine ⟨_,rfl,?_⟩
  refine Cu lo0 st [(0,vI n),(2,Sn),(6,vB true)] fun _ => ?_
  refine cxs ?_
  refine ⟨.inl rfl,_,rfl,?_⟩
  rw [show putN n = [] from if_neg h5]
  exact ⟨none,rfl,OwnR.nil,New.none,Pres.refl _⟩
 ·replace h5 := of_decide_eq_true h5.symm
  refine ⟨_,rfl,?_⟩
  refine Cu lo0 st [(0,vI n),(2,Sn),(6,vB false)] fun _ => ?_
  obtain ⟨n,rfl⟩ := Int.eq_ofNat_of_zero_le h5.1
  have hpn : vlq n = putN n := (if_pos h5).symm
  have hpl := putN_len n
  refine cxs ?_
  refine op_nilK (z := 1) (f := fB) rfl rfl rfl rfl (by decide) rfl ?_
  intro q7 s7 hO7 hP7 hN7
  refine Cu lo0 s7 [(0,vI n),(2,Sn),(3,vS q7 0)] fun _ => ?_
  refine AW.loop0 (fun x : Nat × Option Addr × List Int => [(0,vI (x.1 : Int)),(2,.slice none 0 0),(3,vS x.2.1 x.2.2.length)]) (fun m (x : Nat × Option Addr × List Int) st' => m = x.1 ∧ x.1 ≤ n ∧ x.2.2 ++ vlq x.1 = putN n ∧ OwnR st' 1 fB x.2.1 x.2.2 ∧ New st.next x.2.1 ∧ Pres st st') (n,q7,[]) _ ⟨rfl,rfl,rfl,trivial⟩ rfl ⟨rfl,Nat.le_refl _,hpn,hO7,hN7,hP7⟩ ?_
  rintro m ⟨k,q,l⟩ ρ0 st' ⟨hm,hk,hv,hO,hN,hP⟩
  simp only at hm hk hv hO hN
  have hvl := congrArg List.length hv
  rw [List.length_append] at hvl
  have hv1 := vlq_pos k
  refine ⟨_,rfl,?_⟩
  rintro (_|_) h9
  ·replace h9 : ¬ ((k : Int) ≥ (128)) := of_decide_eq_false h9
   refine Cu lo0 st' [(0,vI (k : Int)),(2,Sn),(3,vS q l.length),(9,vB false)] fun _ => ?_
   refine cxs ?_
   refine ⟨_,op_toB (r := (k : Int)) rfl rfl rfl rfl rfl rfl (by omega) (by omega),?_⟩
   refine op_one (z := 1) (a := ((k : Int) : Int)) (f := fB) rfl rfl rfl rfl rfl (by decide) rfl (Lb rfl) rfl rfl rfl ?_
   refine op_snoc (z := 1) (st := st') (f := fB) (b := 1) (l := l) (x := (k : Int)) rfl rfl rfl rfl rfl rfl rfl (by decide) fB_len rfl rfl rfl (by omega) (by unfold maxLen; omega) hO ?_
   intro q23 s23 hO23 hP23 hN23
   refine cxs ?_
   refine ⟨.inl rfl,_,rfl,q23,?_⟩
   rw [← hv,vlq_lt (n := k) (by omega)]
   exact ⟨rfl,hO23,hN23.le hP.1,hP23.pres hP hN⟩
  ·replace h9 : (k : Int) ≥ (128) := of_decide_eq_true h9
   refine Cu lo0 st' [(0,vI (k : Int)),(2,Sn),(3,vS q l.length),(9,vB true)] fun _ => ?_
   refine cxs ?_
   refine ⟨_,op_rm (r := ((k % 128 : Nat) : Int)) rfl rfl rfl (by decide) ((tm_emod 128 (by omega)).trans (by omega)),?_⟩
   have ew13 : IntKind.wrap .i64 (((k % 128 : Nat) : Int) + (128)) = ((k % 128 + 128 : Nat) : Int) := (wrap_i64 (by omega) (by omega)).trans (by omega)
   refine ⟨_,rfl,?_⟩
   refine ⟨_,op_toB (r := ((k % 128 + 128 : Nat) : Int)) rfl rfl rfl rfl rfl (ew13.trans (by omega)) (by omega) (by omega),?_⟩
   refine op_one (z := 1) (a := (((k % 128 + 128 : Nat) : Int) : Int)) (f := fB) rfl rfl rfl rfl rfl (by decide) rfl (Lb rfl) rfl rfl rfl ?_
   refine op_snoc (z := 1) (st := st') (f := fB) (b := 1) (l := l) (x := ((k % 128 + 128 : Nat) : Int)) rfl rfl rfl rfl rfl rfl rfl (by decide) fB_len rfl rfl rfl (by omega) (by unfold maxLen; omega) hO ?_
   intro q16 s16 hO16 hP16 hN16
   refine Cu lo0 s16 [(0,vI (k : Int)),(2,Sn),(3,vS q16 (l ++ [((k % 128 + 128 : Nat) : Int)]).length),(9,vB true)] fun _ => ?_
   refine ⟨_,op_qo (r := ((k / 128 : Nat) : Int)) rfl rfl rfl (by decide) ((td_ediv 128 (by omega)).trans (by omega)) (by omega) (by omega),?_⟩
   exact ⟨(k / 128,q16,l ++ [((k % 128 + 128 : Nat) : Int)]),k / 128,by omega,⟨rfl,rfl,rfl,trivial⟩,rfl,rfl,by simp only; omega,by rw [← hv,vlq_ge (n := k) (by omega),List.append_assoc]; rfl,hO16,hN16.le hP.1,hP16.pres hP hN⟩
def fl (t : List RV) : List Int := t.flatMap fun r => r.l
theorem fl_succ {t : List RV} {i : Nat} {r : RV} (h : t[i]? = some r) : fl (t.take (i + 1)) = fl (t.take i) ++ r.l := by
 unfold fl
 rw [List.take_add_one,h,List.flatMap_append]
 simp
theorem fl_le (t : List RV) (i : Nat) : (fl (t.take i)).length ≤ (fl t).length := by
 unfold fl
 conv => rhs; rw [← List.take_append_drop i t]
 rw [List.flatMap_append,List.length_append]
 omega
theorem ac_impl_joined (p : Option Addr) (t : List RV) (st : St) (hR : Rows st 1 cRV p t) (hB : ∀ r ∈ t,Rows st 1 fB r.p r.l) (hs : szOk t.length) (hl : (fl t).length ≤ 1073741824) : C 109 [vS p t.length] st (fun v s => ∃ q,v = vS q (fl t).length ∧ OwnR s 1 fB q (fl t) ∧ New st.next q ∧ Pres st s) := by
 have hs : t.length ≤ 1048576 := hs
 refine AC.enterX (i := ⟨[],[],[0,2,3,5,7,8,9,10],[]⟩) [] Try.func109 rfl rfl (by kernel_rfl) (by kernel_rfl) Try.ntmps109 (Lb rfl) rfl ?_
 refine Cu lo0 st [(0,vS p t.length),(2,Sn)] fun _ => ?_
 refine op_nilK (z := 1) (f := fB) rfl rfl rfl rfl (by decide) rfl ?_
 intro q6 s6 hO6 hP6 hN6
 refine Cu lo0 s6 [(0,vS p t.length),(2,Sn),(3,vS q6 0)] fun _ => ?_
 refine ⟨_,rfl,?_⟩
 refine Cu lo0 s6 [(2,Sn),(3,vS q6 0),(7,vS p t.length),(8,vI (t.length : Int)),(9,vI 0)] fun _ => ?_
 refine AW.loop0 (fun x : Nat × Option Addr × List Int => [(2,.slice none 0 0),(3,vS x.2.1 x.2.2.length),(7,vS p t.length),(8,vI (t.length : Int)),(9,vI (x.1 : Int))]) (fun m (x : Nat × Option Addr × List Int) st' => m = t.length - x.1 ∧ x.1 ≤ t.length ∧ x.2.2 = fl (t.take x.1) ∧ OwnR st' 1 fB x.2.1 x.2.2 ∧ New st.next x.2.1 ∧ Pres st st') (0,q6,[]) _ ⟨rfl,rfl,rfl,rfl,rfl,trivial⟩ rfl ⟨rfl,Nat.zero_le _,rfl,hO6,hN6,hP6⟩ ?_
 rintro m ⟨i,q,l⟩ ρ0 st' ⟨rfl,hi,hv,hO,hN,hP⟩
 simp only at hi hv hO hN
 refine ⟨_,rfl,?_⟩
 rintro (_|_) h10
 ·replace h10 : ¬ ((i : Int) < (t.length : Int)) := of_decide_eq_false h10
  refine Cu lo0 st' [(2,Sn),(3,vS q l.length),(7,vS p t.length),(8,vI (t.length : Int)),(9,vI (i : Int)),(10,vB false)] fun _ => ?_
  refine cxs ?_
  refine cxs ?_
  refine ⟨.inl rfl,_,rfl,q,?_⟩
  rw [show fl t = l by rw [hv,show i = t.length by omega,List.take_length]]
  exact ⟨rfl,hO,hN,hP⟩
 ·replace h10 : (i : Int) < (t.length : Int) := of_decide_eq_true h10
  refine Cu lo0 st' [(2,Sn),(3,vS q l.length),(7,vS p t.length),(8,vI (t.length : Int)),(9,vI (i : Int)),(10,vB true)] fun _ => ?_
  refine cxs ?_
  refine op_at i (hP.rows hR) (by omega) rfl rfl rfl rfl rfl rfl rfl ?_
  intro x11 b11 d11 k11 hy11 hb11 hm11 hc11 ho11
  refine ⟨_,op_ldc (i := 0) rfl rfl rfl rfl hm11 hc11 rfl rfl,?_⟩
  refine Cu lo0 st' [(2,Sn),(3,vS q l.length),(5,vS x11.p x11.l.length),(7,vS p t.length),(8,vI (t.length : Int)),(9,vI (i : Int)),(10,vB true)] fun _ => ?_
  have hsc := fl_succ hy11
  have hle := fl_le t (i + 1)
  have hll := congrArg List.length hsc
  rw [List.length_append,← hv] at hll
  have hrb := hB _ (List.mem_of_getElem? hy11)
  refine op_cat' (z := 1) (st := st') (f := fB) (b := 1) (l := l) (l2 := x11.l) rfl rfl rfl rfl rfl rfl rfl (by decide) fB_len rfl rfl rfl rfl (by first | omega | (simp only [List.length_nil]; omega)) (by unfold maxLen; first | omega | (simp only [List.length_nil]; omega)) hO (hP.rows hrb) ?_
  intro q15 s15 hO15 hPr15 hN15
  refine Cu lo0 s15 [(2,Sn),(3,vS q15 (l ++ x11.l).length),(5,vS x11.p x11.l.length),(7,vS p t.length),(8,vI (t.length : Int)),(9,vI (i : Int)),(10,vB true)] fun _ => ?_
  have ew16 : IntKind.wrap .i64 ((i : Int) + (1)) = ((i + 1 : Nat) : Int) := (wrap_i64 (by omega) (by omega)).trans (by omega)
  refine ⟨_,rfl,?_⟩
  refine ⟨(i + 1,q15,l ++ x11.l),t.length - (i + 1),by omega,⟨rfl,rfl,rfl,rfl,congrArg (Value.int .i64) ew16,trivial⟩,rfl,rfl,by omega,by rw [hsc,← hv],hO15,?_,hPr15.pres hP hN⟩
  rcases hN15 with ⟨h,_⟩ | ⟨_,h⟩
  ·rw [h]; exact hN
  ·exact h.le hP.1
theorem OwnP.perm {st : St} {l m : List Pc} (h : OwnP st l) (hp : l.Perm m) : OwnP st m := ⟨fun c hc => h.1 c (hp.mem_iff.2 hc),(hp.pairwise_iff fun hd => hd.symm).1 h.2⟩
theorem OwnP.front1 {st : St} {a b y : List Pc} (h : OwnP st (a ++ (b ++ y))) : OwnP st (b ++ (a ++ y)) := h.perm (by
 rw [← List.append_assoc,← List.append_assoc]
 exact List.perm_append_comm.append_right y)
theorem OwnP.front2 {st : St} {a b c y : List Pc} (h : OwnP st (a ++ (b ++ (c ++ y)))) : OwnP st (c ++ (a ++ (b ++ y))) := by
 have h1 : OwnP st ((a ++ b) ++ (c ++ y)) := by rw [List.append_assoc]; exact h
 have h2 := h1.front1
 rw [List.append_assoc] at h2
 exact h2
theorem OwnP.joinF {st st' : St} {l m : List Pc} (h : OwnP st l) (hp : Pres st st') (k : OwnP st' m) (hn : NewP st.next m) : OwnP st' (m ++ l) :=
 OwnP.app k (h.pres hp) fun a ha b hb => (Dis.of (h.1 b hb).old (hn a ha)).symm
theorem OwnP.markG {st st' : St} {m m' y : List Pc} (h : OwnP st (m ++ y)) (hM : OwnP st' m') (hp : m'.map (·.p) = m.map (·.p)) (hL : PrL (m.map (·.p)) st st') : OwnP st' (m' ++ y) := by
 have hd := (List.pairwise_append.1 h.2).2.2
 refine hM.app (h.right.prl hL fun c hc p hp' => ?_) fun a ha b hb => ?_
 ·obtain ⟨d,hd1,rfl⟩ := List.mem_map.1 hp'
  exact hd d hd1 c hc
 ·have : a.p ∈ m.map (·.p) := by rw [← hp]; exact List.mem_map_of_mem ha
  obtain ⟨d,hd1,he⟩ := List.mem_map.1 this
  rw [← he]; exact hd d hd1 b hb
theorem newPs {n : Nat} {l : List Pc} (h : NewP n l) : ∀ p ∈ l.map (·.p),New n p := fun p hp => by
 obtain ⟨c,hc,rfl⟩ := List.mem_map.1 hp
 exact h c hc
abbrev cntState (x : Sta) : Nat := cntS x
def mkState (u : SV) (k : Int) : SV := ⟨u.p,u.q,mkS u.x k⟩
theorem cnt_State {x : Sta} (h : bigS x) : cntState x ≤ 8388608 := by
 have h1 : x.items.length ≤ 1048576 := h.1
 have h2 : x.floors.length ≤ 1048576 := h.2.1
 unfold cntState cntS
 omega
theorem mkp_State (u : SV) (k : Int) : (pcS (mkState u k)).map (·.p) = (pcS u).map (·.p) := rfl
theorem uc_markState (u : SV) (k : Int) (st : St) (hO : OwnP st (pcS u)) (hb : bigS u.x) (h0 : 0 ≤ k) (hk : k ≤ 137438953472) : C 44 [.agg #[vS u.p u.x.items.length,vS u.q u.x.floors.length],vI k] st (fun v s => v = vI (k + (cntState u.x : Int)) ∧ OwnP s (pcS (mkState u k)) ∧ PrL ((pcS u).map (·.p)) st s) :=
 (ac_laws_markState u k st hO hb h0 (by omega)).mono fun v s ⟨h1,h2,h3⟩ => ⟨h1.trans (congrArg (Value.int .i64) (by unfold cntState cntS; omega)),h2,h3⟩
theorem uc_heldState (u : SV) (k : Int) (st : St) (hR : RdS st (mkState u k)) (hb : bigS u.x) (h0 : 0 ≤ k) (hk : k ≤ 137438953472) : C 45 [.agg #[vS u.p u.x.items.length,vS u.q u.x.floors.length],vI k] st (fun v s => v = vI (k + (cntState u.x : Int)) ∧ Pres st s) :=
 (ac_laws_heldState u k st hR hb h0 (by omega)).mono fun v s ⟨h1,h2⟩ => ⟨h1.trans (congrArg (Value.int .i64) (by unfold cntState cntS; omega)),h2⟩
structure LW where
 cap : Int
 frm : Int
 p : Option Addr
 l : List SV
 C : Pc
 ok : l = [] ∨ ∃ a o,C.p = some ⟨a,0,none⟩ ∧ p = some ⟨a,o,none⟩ ∧ ∀ (j : Nat) x,l[j]? = some x → (C.cs.drop (o + j * 2)).take 2 = cSV x
abbrev LW.v (g : LW) : LV := ⟨g.cap,g.frm,g.p,g.l⟩
abbrev LW.x (g : LW) : Lg := g.v.x
abbrev pcLog (g : LW) : List Pc := g.C :: g.l.flatMap pcS
theorem LW.rows {st : St} {g : LW} (h : g.C.own st) : Rows st 2 cSV g.p g.l := by
 rcases g.ok with h0 | ⟨a,o,h1,h2,h3⟩
 ·exact .inl h0
 ·rcases h with ⟨h4,_⟩ | ⟨b,h4,hb,hm⟩
  ·rw [h1] at h4; cases h4
  ·rw [h1] at h4
   injection h4 with h4
   injection h4 with h4
   subst h4
   exact .inr ⟨a,o,_,h2,hm,hb,h3⟩
theorem OwnP.lw {st : St} {u : LV} (h : OwnP st (pcL u.p u.l)) : ∃ g : LW,g.v = u ∧ OwnP st (pcLog g) ∧ g.C = pcR 2 cSV u.p u.l := by
 refine ⟨⟨u.cap,u.frm,u.p,u.l,pcR 2 cSV u.p u.l,?_⟩,rfl,h,rfl⟩
 rcases h.louter with ⟨_,h2⟩ | ⟨a,h1,_⟩
 ·exact .inl h2
 ·exact .inr ⟨a,0,h1,h1,fun j x hx => by rw [Nat.zero_add]; exact flat_at (l := u.l) len_cSV hx⟩
def mkInts (n : Nat) (k : Int) : List Int := (List.range n).map fun (j : Nat) => k + (j : Int)
theorem mkInts_len (n : Nat) (k : Int) : (mkInts n k).length = n := by simp [mkInts]
theorem mkInts_get {n : Nat} {k : Int} {j : Nat} {x : Int} (h : (mkInts n k)[j]? = some x) : x = k + (j : Int) := by
 have hj := (List.getElem?_eq_some_iff.1 h).1
 rw [mkInts_len] at hj
 simp [mkInts,List.getElem?_range hj] at h
 exact h.symm
theorem mark_set {l : List Int} {k : Int} {i : Nat} (hi : i < l.length) : (mkInts i k ++ l.drop i).set i (k + (i : Int)) = mkInts (i + 1) k ++ l.drop (i + 1) := by
 have h1 : mkInts (i + 1) k = mkInts i k ++ [k + (i : Int)] := by simp [mkInts,List.range_succ]
 rw [List.set_append_right _ _ (by rw [mkInts_len]; exact Nat.le_refl _),mkInts_len,Nat.sub_self,List.drop_eq_getElem_cons hi,List.set_cons_zero,h1]
 simp
theorem ac_laws_markIntS (p : Option Addr) (l : List Int) (k : Int) (st : St) (hO : OwnR st 1 fI p l) (hs : szOk l.length) (h0 : 0 ≤ k) (hk : k ≤ 1125899906842624) : C 138 [vS p l.length,vI k] st (fun v s => v = vI (k + (l.length : Int)) ∧ OwnR s 1 fI p (mkInts l.length k) ∧ Pr p st s) := by
 have hs : l.length ≤ 1048576 := hs
 refine AC.enterX (i := ⟨[],[],[0,1,4,5,9],[]⟩) [] Try.func138 rfl rfl (by kernel_rfl) (by kernel_rfl) Try.ntmps138 (Lb rfl) rfl ?_
 refine cxs ?_
 refine Cu lo0 st [(0,vS p l.length),(1,vI k),(4,vI 0),(5,vI 0)] fun _ => ?_
 refine AW.loop0 (fun i : Nat => [(0,vS p l.length),(1,vI (k + (i : Int))),(5,vI (i : Int))]) (fun m (i : Nat) st' => m = l.length - i ∧ i ≤ l.length ∧ OwnR st' 1 fI p (mkInts i k ++ l.drop i) ∧ Pr p st st') 0 _ ⟨rfl,congrArg (Value.int .i64) (Int.add_zero k).symm,rfl,trivial⟩ rfl ⟨rfl,Nat.zero_le _,by simpa [mkInts] using hO,Pr.refl _ _⟩ ?_
 rintro m i ρ0 st' ⟨rfl,hi,hO',hP'⟩
 iterate 2 refine ⟨_,rfl,?_⟩
 rintro (_|_) h1
 ·replace h1 : ¬ ((i : Int) < (l.length : Int)) := of_decide_eq_false h1
  refine Cu lo0 st' [(0,vS p l.length),(1,vI (k + (i : Int))),(5,vI (i : Int)),(9,vB false)] fun _ => ?_
  refine cxs ?_
  refine cxs ?_
  have hil : i = l.length := by omega
  subst hil
  rw [List.drop_length,List.append_nil] at hO'
  exact Rt ⟨rfl,hO',hP'⟩
 ·replace h1 : (i : Int) < (l.length : Int) := of_decide_eq_true h1
  refine Cu lo0 st' [(0,vS p l.length),(1,vI (k + (i : Int))),(5,vI (i : Int)),(9,vB true)] fun _ => ?_
  have h1' := Int.ofNat_lt.1 h1
  have hlen : i < (mkInts i k ++ l.drop i).length := by rw [List.length_append,mkInts_len,List.length_drop]; omega
  have ⟨a,ha⟩ := hO'.some (by omega)
  refine cxs ?_
  refine ⟨_,op_idx (j := (i : Int)) (n := l.length) (q := ⟨a,0,none⟩) rfl (congrArg (fun u => vS u l.length) ha) rfl rfl rfl (Int.natCast_nonneg _) h1,?_⟩
  refine op_put (st := st') (f := fI) (j := i) (l := mkInts i k ++ l.drop i) (y := k + (i : Int)) (p := p) (d := 0 + i * 1) rfl rfl ((Nat.zero_add _)) rfl rfl fI_len rfl rfl hlen hO' ha ?_
  intro s5 hO5 hP5 hn5
  rw [mark_set h1'] at hO5
  refine Cu lo0 s5 [(0,vS p l.length),(1,vI (k + (i : Int))),(5,vI (i : Int)),(9,vB true)] fun _ => ?_
  have e17 : IntKind.wrap .i64 (k + (i : Int) + 1) = k + ((i + 1 : Nat) : Int) := (wrap_i64 (by omega) (by omega)).trans (by omega)
  refine ⟨_,rfl,?_⟩
  refine AW.cut lo0 s5 [(0,vS p l.length),(1,vI (k + ((i + 1 : Nat) : Int))),(5,vI (i : Int)),(9,vB true)] ⟨rfl,congrArg (Value.int .i64) e17,rfl,rfl,trivial⟩ fun _ => ?_
  have e11 : IntKind.wrap .i64 ((i : Int) + 1) = ((i + 1 : Nat) : Int) := (wrap_i64 (by omega) (by omega)).trans (by omega)
  refine ⟨_,rfl,?_⟩
  exact ⟨i + 1,l.length - (i + 1),by omega,⟨rfl,rfl,congrArg (Value.int .i64) e11,trivial⟩,rfl,rfl,h1',hO5,hP'.trans hP5⟩
theorem ac_laws_heldIntS (p : Option Addr) (n : Nat) (k : Int) (st : St) (hR : Rows st 1 fI p (mkInts n k)) (hs : szOk n) (h0 : 0 ≤ k) (hk : k ≤ 1125899906842624) : C 141 [vS p n,vI k] st (fun v s => v = vI (k + (n : Int)) ∧ s = st) := by
 have hs : n ≤ 1048576 := hs
 refine AC.enterX (i := ⟨[],[],[0,1,4,5,9,17],[]⟩) [] Try.func141 rfl rfl (by kernel_rfl) (by kernel_rfl) Try.ntmps141 (Lb rfl) rfl ?_
 refine cxs ?_
 refine Cu lo0 st [(0,vS p n),(1,vI k),(4,vI 0),(5,vI 0)] fun _ => ?_
 refine AW.loop0 (fun i : Nat => [(0,vS p n),(1,vI (k + (i : Int))),(5,vI (i : Int))]) (fun m (i : Nat) st' => m = n - i ∧ i ≤ n ∧ st = st') 0 _ ⟨rfl,congrArg (Value.int .i64) (Int.add_zero k).symm,rfl,trivial⟩ rfl ⟨rfl,Nat.zero_le _,rfl⟩ ?_
 rintro m i ρ0 st' ⟨rfl,hi,rfl⟩
 iterate 2 refine ⟨_,rfl,?_⟩
 rintro (_|_) h1
 ·replace h1 : ¬ ((i : Int) < (n : Int)) := of_decide_eq_false h1
  refine Cu lo0 st [(0,vS p n),(1,vI (k + (i : Int))),(5,vI (i : Int)),(9,vB false)] fun _ => ?_
  refine cxs ?_
  refine cxs ?_
  have hil : i = n := by omega
  subst hil
  exact Rt ⟨rfl,rfl⟩
 ·replace h1 : (i : Int) < (n : Int) := of_decide_eq_true h1
  refine Cu lo0 st [(0,vS p n),(1,vI (k + (i : Int))),(5,vI (i : Int)),(9,vB true)] fun _ => ?_
  have h1' := Int.ofNat_lt.1 h1
  have ⟨b1,o1,k1,x,hpe,hx,hm1,hc1⟩ := hR.at (j := i) (by rw [mkInts_len]; exact h1')
  have hx := mkInts_get hx
  have hc1 : (k1.cells.drop (o1 + i * 1)).take 1 = fI (k + (i : Int)) := by rw [hc1,hx]
  refine cxs ?_
  refine ⟨_,op_idx (j := (i : Int)) (n := n) (q := ⟨b1,o1,none⟩) rfl (congrArg (fun u => vS u n) hpe) rfl rfl rfl (Int.natCast_nonneg _) h1,?_⟩
  refine ⟨_,op_ldc (i := 0) rfl rfl rfl rfl hm1 hc1 rfl rfl,?_⟩
  refine ⟨_,rfl,?_⟩
  rintro (_|_) h2
  rotate_left
  ·exact absurd (rfl) (bne_iff_ne.1 h2)
  refine Cu lo0 st [(0,vS p n),(1,vI (k + (i : Int))),(5,vI (i : Int)),(9,vB true),(17,vB false)] fun _ => ?_
  refine cxs ?_
  have e19 : IntKind.wrap .i64 (k + (i : Int) + 1) = k + ((i + 1 : Nat) : Int) := (wrap_i64 (by omega) (by omega)).trans (by omega)
  refine ⟨_,rfl,?_⟩
  refine AW.cut lo0 st [(0,vS p n),(1,vI (k + ((i + 1 : Nat) : Int))),(5,vI (i : Int)),(9,vB true),(17,vB false)] ⟨rfl,congrArg (Value.int .i64) e19,rfl,rfl,rfl,trivial⟩ fun _ => ?_
  have e11 : IntKind.wrap .i64 ((i : Int) + 1) = ((i + 1 : Nat) : Int) := (wrap_i64 (by omega) (by omega)).trans (by omega)
  refine ⟨_,rfl,?_⟩
  exact ⟨i + 1,n - (i + 1),by omega,⟨rfl,rfl,congrArg (Value.int .i64) e11,trivial⟩,rfl,rfl,h1',rfl⟩
theorem own_one {α : Type} {st : St} {z : Nat} {f : α → List Value} {p : Option Addr} {l : List α} (h0 : 0 < z) (hz : ∀ x,(f x).length = z) (h : OwnP st [pcR z f p l]) : OwnR st z f p l := pc_own h0 hz (h.1 _ (List.mem_singleton_self _))
abbrev pcIs (g : RV) : List Pc := [pcRV g]
theorem OwnP.rdIs {st : St} {g : RV} (h : OwnP st (pcIs g)) : Rows st 1 fI g.p g.l := (own_one Nat.one_pos fI_len h).rows fI_len
def mkIs (g : RV) (k : Int) : RV := ⟨g.p,mkInts g.l.length k⟩
theorem mkp_Is (g : RV) (k : Int) : (pcIs (mkIs g k)).map (·.p) = (pcIs g).map (·.p) := rfl
abbrev cntIs (l : List Int) : Nat := l.length
theorem uc_markIntS (u : RV) (k : Int) (st : St) (hO : OwnP st (pcIs u)) (hb : szOk u.l.length) (h0 : 0 ≤ k) (hk : k ≤ 137438953472) : C 138 [vS u.p u.l.length,vI k] st (fun v s => v = vI (k + (cntIs u.l : Int)) ∧ OwnP s (pcIs (mkIs u k)) ∧ PrL ((pcIs u).map (·.p)) st s) :=
 (ac_laws_markIntS u.p u.l k st (own_one Nat.one_pos fI_len hO) hb h0 (by omega)).mono fun v s ⟨h1,h2,h3⟩ => ⟨h1,OwnP.one (own_pc h2),h3.l (List.mem_singleton_self _)⟩
theorem uc_heldIntS (u : RV) (k : Int) (st : St) (hR : Rows st 1 fI (mkIs u k).p (mkIs u k).l) (hb : szOk u.l.length) (h0 : 0 ≤ k) (hk : k ≤ 137438953472) : C 141 [vS u.p u.l.length,vI k] st (fun v s => v = vI (k + (cntIs u.l : Int)) ∧ Pres st s) :=
 (ac_laws_heldIntS u.p u.l.length k st hR hb h0 (by omega)).mono fun v s ⟨h1,h2⟩ => ⟨h1,h2 ▸ Pres.refl _⟩
structure FV where
 p : Option Addr
 l : List Flr
abbrev pcFV (g : FV) : List Pc := [pcR 2 cFlr g.p g.l]
theorem OwnP.rdFV {st : St} {g : FV} (h : OwnP st (pcFV g)) : Rows st 2 cFlr g.p g.l := (own_one (by decide) len_cFlr h).rows len_cFlr
def mkFV (g : FV) (k : Int) : FV := ⟨g.p,mkRow mkFlr 2 g.l.length k⟩
theorem mkp_FV (g : FV) (k : Int) : (pcFV (mkFV g k)).map (·.p) = (pcFV g).map (·.p) := rfl
abbrev cntFV (l : List Flr) : Nat := 2 * l.length
theorem uc_markMarkS (u : FV) (k : Int) (st : St) (hO : OwnP st (pcFV u)) (hb : szOk u.l.length) (h0 : 0 ≤ k) (hk : k ≤ 137438953472) : C 139 [vS u.p u.l.length,vI k] st (fun v s => v = vI (k + (cntFV u.l : Int)) ∧ OwnP s (pcFV (mkFV u k)) ∧ PrL ((pcFV u).map (·.p)) st s) :=
 (ac_laws_markMarkSx u.p u.l k st (own_one (by decide) len_cFlr hO) hb h0 (by omega)).mono fun v s ⟨h1,h2,h3⟩ => ⟨h1.trans (congrArg (Value.int .i64) (by unfold cntFV; omega)),OwnP.one (own_pc h2),h3.l (List.mem_singleton_self _)⟩
theorem uc_heldMarkS (u : FV) (k : Int) (st : St) (hR : Rows st 2 cFlr (mkFV u k).p (mkFV u k).l) (hb : szOk u.l.length) (h0 : 0 ≤ k) (hk : k ≤ 137438953472) : C 142 [vS u.p u.l.length,vI k] st (fun v s => v = vI (k + (cntFV u.l : Int)) ∧ Pres st s) :=
 (ac_laws_heldMarkS u.p u.l.length k st hR hb h0 (by omega)).mono fun v s ⟨h1,h2⟩ => ⟨h1.trans (congrArg (Value.int .i64) (by unfold cntFV; omega)),h2⟩
structure TT where
 p : Option Addr
 t : List RV
abbrev TT.x (g : TT) : List (List Int) := rls g.t
end Go.Proofs.Yteabadoaeadcgaa.AM
namespace Go.Proofs.Yteabadoaeadcgaa.AM
open Go Go.Proofs
set_option linter.unusedVariables false
set_option linter.unusedSimpArgs false
def Frs (a b : St) (l : List Pc) : Prop := OwnP b l ∧ NewP a.next l ∧ Pres a b
theorem Frs.join {a b c : St} {l m : List Pc} (h : Frs a b l) (k : Frs b c m) : Frs a c (l ++ m) :=
 ⟨h.1.join k.2.2 k.1 k.2.1,h.2.1.app (k.2.1.le h.2.2.1),h.2.2.trans k.2.2⟩
theorem map_app2 {a a' b b' : List Pc} (h : a'.map (·.p) = a.map (·.p)) (k : b'.map (·.p) = b.map (·.p)) : (a' ++ b').map (·.p) = (a ++ b).map (·.p) := by rw [List.map_append,List.map_append,h,k]
theorem PrL.inl {a b : List Pc} {st st' : St} (h : PrL (a.map (·.p)) st st') : PrL ((a ++ b).map (·.p)) st st' := h.mono fun p hp => by rw [List.map_append]; exact List.mem_append_left _ hp
theorem PrL.inr {a b : List Pc} {st st' : St} (h : PrL (b.map (·.p)) st st') : PrL ((a ++ b).map (·.p)) st st' := h.mono fun p hp => by rw [List.map_append]; exact List.mem_append_right _ hp
structure Tr where
 leaves : List Int
 root : Int
structure TV extends RV where
 root : Int
abbrev TV.x (t : TV) : Tr := ⟨t.l,t.root⟩
structure Ses where
 peer : Int
 num : Int
 inn : Bool
 age : Int
structure Ris where
 inc : Int
 beat : Int
 tick : Int
abbrev cSess (x : Ses) : List Value := [vI x.peer,vI x.num,vB x.inn,vI x.age]
abbrev cRise (x : Ris) : List Value := [vI x.inc,vI x.beat,vI x.tick]
structure SesV where
 p : Option Addr
 l : List Ses
structure RisV where
 p : Option Addr
 l : List Ris
structure Mg where
 kind : Int
 frm : Int
 to : Int
 num : Int
 hi : Int
 tree : Tr
 vec : List Int
 leaves : List Int
 part : Sta
 marks : List Flr
structure MV where
 kind : Int
 frm : Int
 to : Int
 num : Int
 hi : Int
 tree : TV
 vec : RV
 leaves : RV
 part : SV
 marks : FV
abbrev MV.x (m : MV) : Mg := ⟨m.kind,m.frm,m.to,m.num,m.hi,m.tree.x,m.vec.l,m.leaves.l,m.part.x,m.marks.l⟩
abbrev cMV (m : MV) : List Value := [vI m.kind,vI m.frm,vI m.to,vI m.num,vI m.hi,vS m.tree.p m.tree.l.length,vI m.tree.root,vS m.vec.p m.vec.l.length,vS m.leaves.p m.leaves.l.length,vS m.part.p m.part.x.items.length,vS m.part.q m.part.x.floors.length,vS m.marks.p m.marks.l.length]
abbrev vMV (m : MV) : Value := .agg #[vI m.kind,vI m.frm,vI m.to,vI m.num,vI m.hi,vS m.tree.p m.tree.l.length,vI m.tree.root,vS m.vec.p m.vec.l.length,vS m.leaves.p m.leaves.l.length,vS m.part.p m.part.x.items.length,vS m.part.q m.part.x.floors.length,vS m.marks.p m.marks.l.length]
structure RdM (st : St) (m : MV) : Prop where
 tree : Rows st 1 fI m.tree.p m.tree.l
 vec : Rows st 1 fI m.vec.p m.vec.l
 leaves : Rows st 1 fI m.leaves.p m.leaves.l
 part : RdS st m.part
 marks : Rows st 2 cFlr m.marks.p m.marks.l
theorem RdM.pres {st st' : St} {m : MV} (h : RdM st m) (k : Pres st st') : RdM st' m := ⟨k.rows h.tree,k.rows h.vec,k.rows h.leaves,h.part.pres k,k.rows h.marks⟩
structure bigM (x : Mg) : Prop where
 tree : szOk x.tree.leaves.length
 vec : szOk x.vec.length
 leaves : szOk x.leaves.length
 part : bigS x.part
 marks : szOk x.marks.length
abbrev pcMV (m : MV) : List Pc := pcIs m.tree.toRV ++ (pcIs m.vec ++ (pcIs m.leaves ++ (pcS m.part ++ pcFV m.marks)))
theorem OwnP.rdM {st : St} {m : MV} (h : OwnP st (pcMV m)) : RdM st m :=
 ⟨h.left.rdIs,h.right.left.rdIs,h.right.right.left.rdIs,h.right.right.right.left.rdS,h.right.right.right.right.rdFV⟩
structure Nd where
 id : Int
 n : Int
 s : Sta
 t : Tr
 g : Lg
 got : List Int
 acked : List Int
 seen : List (List Int)
 num : Int
 slots : Int
 sess : List Ses
 wait : Int
 limit : Int
 clock : Int
 rises : List Ris
structure NV where
 id : Int
 n : Int
 s : SV
 t : TV
 g : LV
 got : RV
 acked : RV
 seen : TT
 num : Int
 slots : Int
 sess : SesV
 wait : Int
 limit : Int
 clock : Int
 rises : RisV
abbrev NV.x (v : NV) : Nd := ⟨v.id,v.n,v.s.x,v.t.x,v.g.x,v.got.l,v.acked.l,v.seen.x,v.num,v.slots,v.sess.l,v.wait,v.limit,v.clock,v.rises.l⟩
structure NW where
 id : Int
 n : Int
 s : SV
 t : TV
 g : LW
 got : RV
 acked : RV
 seen : TT
 num : Int
 slots : Int
 sess : SesV
 wait : Int
 limit : Int
 clock : Int
 rises : RisV
abbrev NW.v (v : NW) : NV := ⟨v.id,v.n,v.s,v.t,v.g.v,v.got,v.acked,v.seen,v.num,v.slots,v.sess,v.wait,v.limit,v.clock,v.rises⟩
abbrev NW.x (v : NW) : Nd := v.v.x
structure RdN (st : St) (v : NV) : Prop where
 s : RdS st v.s
 t : Rows st 1 fI v.t.p v.t.l
 g : RdL st v.g.p v.g.l
 got : Rows st 1 fI v.got.p v.got.l
 acked : Rows st 1 fI v.acked.p v.acked.l
 seen : RdT st v.seen.p v.seen.t
 sess : Rows st 4 cSess v.sess.p v.sess.l
 rises : Rows st 3 cRise v.rises.p v.rises.l
theorem RdN.pres {st st' : St} {v : NV} (h : RdN st v) (k : Pres st st') : RdN st' v := ⟨h.s.pres k,k.rows h.t,h.g.pres k,k.rows h.got,k.rows h.acked,h.seen.pres k,k.rows h.sess,k.rows h.rises⟩
def cntMsg (x : Mg) : Nat := x.tree.leaves.length + x.vec.length + x.leaves.length + cntS x.part + 2 * x.marks.length
end Go.Proofs.Yteabadoaeadcgaa.AM
namespace Go.Proofs.Yteabadoaeadcgaa.AM
open Go Go.Proofs
set_option linter.unusedVariables false
set_option linter.unusedSimpArgs false
set_option maxRecDepth 100000
set_option maxHeartbeats 4000000
def bsl (s : ByteArray) : List Int := s.data.toList.map fun b => (b.toNat : Int)
theorem bsl_len (s : ByteArray) : (bsl s).length = s.size := by rw [bsl,List.length_map,Array.length_toList]; rfl
theorem bsl_ok (s : ByteArray) : bytesOk (bsl s) := fun x hx => by
 obtain ⟨b,_,rfl⟩ := List.mem_map.1 hx
 have := b.toNat_lt
 omega
theorem fb_map : ∀ l : List UInt8,(l.map fun b => (b.toNat : Int)).flatMap fB = l.map fun b => Value.int .u8 b.toNat
 | [] => rfl
 | b :: l => by rw [List.map_cons,List.flatMap_cons,fb_map l]; rfl
section
variable {P : Program} {ls : List Tmp} {call : ACallT} {o : Oper} {e : Operand → Value} {lo : Lo} {st : St} {K : Value × Lo × St → Prop}
theorem op_bytes {src dst el : TypeId} {x : Operand} {s : ByteArray} (ho : o.op = .convert src dst x) (hx : e x = .string s) (hd : telem P dst = some el) (h1 : tint P el = some .u8) (h2 : tstr P src = true) (hs : s.size ≤ maxLen)
  (hK : ∀ q st',OwnR st' 1 fB q (bsl s) → Pres st st' → New st.next q → K (.slice q (bsl s).length (bsl s).length,lo,st')) : ∃ r,aoper P ls call o e lo st = some r ∧ K r := by
 obtain ⟨d,op,ty,pos,after,gd⟩ := o
 simp only at ho
 subst ho
 refine ⟨_,?_,hK (some ⟨st.next,0,none⟩) (st.push 1 ((bsl s).flatMap fB)) OwnR.push Pres.push New.self⟩
 simp only [aoper,hd,abytesOf,hx]
 rw [if_pos ⟨h1,h2,hs⟩,bsl_len,show (bsl s).flatMap fB = s.data.toList.map (fun b => Value.int .u8 b.toNat) from fb_map _]
theorem op_litR {t el : TypeId} {n : Nat} {ps : Array (Nat × Operand)} {u : Value} (l : List RV) (ho : o.op = .buildSlice t n ps) (hp : parts e ps = mkp 0 (l.map fun r => vS r.p r.l.length)) (hn : n = l.length) (h0 : 0 < n) (he : telem P t = some el) (hz : tsize P el = some 1) (hz0 : tzero P el = some [u]) (hsz : n ≤ 16777216)
  (hK : ∀ q st',OwnR st' 1 cRV q l → Pres st st' → New st.next q → K (.slice q n n,lo,st')) : ∃ r,aoper P ls call o e lo st = some r ∧ K r := by
 refine op_lit ho hp (by rw [hn,List.length_map]) h0 he hz hz0 Nat.one_pos rfl (by omega) (fun v hv => ?_) ?_
 ·obtain ⟨r,_,rfl⟩ := List.mem_map.1 hv
  exact ⟨rfl,rfl⟩
 ·rw [show (l.map fun r => vS r.p r.l.length).flatMap (fun v => v.cells.toList) = l.flatMap cRV by rw [List.flatMap_map]; rfl]
  exact hK _ _ OwnR.push Pres.push New.self
end
def putS (s : ByteArray) : List Int := putN s.size ++ bsl s
theorem putS_len (s : ByteArray) : (putS s).length ≤ 5 + s.size := by
 have := putN_len s.size
 rw [putS,List.length_append,bsl_len]
 omega
theorem putS_ok (s : ByteArray) : bytesOk (putS s) := (putN_ok _).app (bsl_ok s)
theorem cat_new {st0 st : St} {p q : Option Addr} {A B : Prop} {m : Nat} (hP : Pres st0 st) (hN : New st0.next p) (h : (q = p ∧ A ∧ B) ∨ (0 < m ∧ New st.next q)) : New st0.next q := by
 rcases h with ⟨h,_⟩ | ⟨_,h⟩
 ·rw [h]; exact hN
 ·exact h.le hP.1
theorem ac_spec_PutText (s : ByteArray) (st : St) (hs : s.size ≤ 1048576) : C 161 [.string s] st (fun v s' => ∃ q,v = vS q (putS s).length ∧ OwnR s' 1 fB q (putS s) ∧ New st.next q ∧ Pres st s') := by
 have hsl := bsl_len s
 have hpl := putN_len s.size
 refine AC.enterX (i := ⟨[],[],[0,2],[]⟩) [] Try.func161 rfl rfl (by kernel_rfl) (by kernel_rfl) Try.ntmps161 (Lb rfl) rfl ?_
 refine Cu lo0 st [(0,.string s),(2,Sn)] fun _ => ?_
 refine ⟨_,rfl,?_⟩
 refine ⟨_,rfl,(ac_spec_PutNum (s.size : Int) st).mono ?_⟩
 rintro _ s5 ⟨q5,rfl,hO5,hN5,hP5⟩
 refine op_bytes (s := s) rfl rfl rfl rfl rfl (by unfold maxLen; omega) ?_
 intro q7 s7 hO7 hP7 hN7
 refine op_cat' (z := 1) (st := s7) (f := fB) (b := 1) (l := putN (s.size : Int)) (l2 := bsl s) rfl rfl rfl rfl rfl rfl rfl (by decide) fB_len rfl rfl rfl rfl (by first | omega | (simp only [List.length_nil]; omega)) (by unfold maxLen; first | omega | (simp only [List.length_nil]; omega)) (hP7.ownR hO5) (hO7.rows fB_len) ?_
 intro q8 s8 hO8 hPr8 hN8
 exact cxs (Rt ⟨q8,rfl,hO8,cat_new (hP5.trans hP7) hN5 hN8,hPr8.pres (hP5.trans hP7) hN5⟩)
theorem ac_impl_PutText (s : ByteArray) (st : St) (hs : s.size ≤ 1048576) : C 110 [.string s] st (fun v s' => ∃ q,v = vS q (putS s).length ∧ OwnR s' 1 fB q (putS s) ∧ New st.next q ∧ Pres st s') := by
 have hsl := bsl_len s
 have hpl := putN_len s.size
 have hf : fl [⟨none,putN s.size⟩,⟨none,bsl s⟩] = putS s := by simp [fl,putS]
 refine AC.enterX (i := ⟨[],[],[0,2],[]⟩) [] Try.func110 rfl rfl (by kernel_rfl) (by kernel_rfl) Try.ntmps110 (Lb rfl) rfl ?_
 refine Cu lo0 st [(0,.string s),(2,Sn)] fun _ => ?_
 refine ⟨_,rfl,?_⟩
 refine ⟨_,rfl,(ac_impl_PutNum (s.size : Int) st).mono ?_⟩
 rintro _ s5 ⟨q5,rfl,hO5,hN5,hP5⟩
 refine op_bytes (s := s) rfl rfl rfl rfl rfl (by unfold maxLen; omega) ?_
 intro q7 s7 hO7 hP7 hN7
 refine op_litR [⟨q5,putN s.size⟩,⟨q7,bsl s⟩] rfl rfl rfl (by decide) rfl rfl rfl (by decide) ?_
 intro q8 s8 hO8 hP8 hN8
 refine ⟨_,rfl,(ac_impl_joined q8 [⟨q5,putN s.size⟩,⟨q7,bsl s⟩] s8 (hO8.rows cRV_len) (fun r hr => by
  rcases List.mem_cons.1 hr with rfl | hr
  ·exact (hP7.trans hP8).rows (hO5.rows fB_len)
  ·rw [List.mem_singleton.1 hr]; exact hP8.rows (hO7.rows fB_len)) (by show (2 : Nat) ≤ 1048576; omega) (by show (fl [⟨none,putN s.size⟩,⟨none,bsl s⟩]).length ≤ _; rw [hf]; have := putS_len s; omega)).mono ?_⟩
 rintro _ s9 ⟨q9,rfl,hO9,hN9,hP9⟩
 exact cxs (Rt ⟨q9,by first | rfl | exact congrArg (fun n => vS q9 n) (congrArg List.length hf),hf ▸ hO9,hN9.le ((hP5.trans hP7).trans hP8).1,((hP5.trans hP7).trans hP8).trans hP9⟩)
def numsB (l : List Int) : List Int := l.flatMap putN
theorem numsB_succ {l : List Int} {i : Nat} {x : Int} (h : l[i]? = some x) : numsB (l.take (i + 1)) = numsB (l.take i) ++ putN x := by
 unfold numsB
 rw [List.take_add_one,h,List.flatMap_append]
 simp
theorem numsB_len : ∀ l : List Int,(numsB l).length ≤ 5 * l.length
 | [] => Nat.le_refl _
 | x :: l => by
  have h1 := numsB_len l
  have h2 := putN_len x
  rw [show numsB (x :: l) = putN x ++ numsB l from List.flatMap_cons,List.length_append,List.length_cons]
  omega
theorem numsB_ok (l : List Int) : bytesOk (numsB l) := fun x hx => by
 obtain ⟨y,_,hy⟩ := List.mem_flatMap.1 hx
 exact putN_ok y x hy
def itL (x : Itm) : List Int := [x.id,x.e.inc,x.e.rank,x.e.beat,x.e.ver]
def itB (x : Itm) : List Int := numsB (itL x) ++ putS x.e.data
def flB (x : Flr) : List Int := putN x.id ++ putN x.inc
def itsB (l : List Itm) : List Int := l.flatMap itB
def flsB (l : List Flr) : List Int := l.flatMap flB
def stB (s : Sta) : List Int := putN (s.items.length : Int) ++ itsB s.items ++ putN (s.floors.length : Int) ++ flsB s.floors
theorem fm_succ {α : Type} {g : α → List Int} {l : List α} {i : Nat} {x : α} (h : l[i]? = some x) : (l.take (i + 1)).flatMap g = (l.take i).flatMap g ++ g x := by
 rw [List.take_add_one,h,List.flatMap_append]
 simp
theorem fm_len {α : Type} {g : α → List Int} {c : Nat} : ∀ {l : List α},(∀ x ∈ l,(g x).length ≤ c) → (l.flatMap g).length ≤ c * l.length
 | [],_ => Nat.zero_le _
 | x :: l,h => by
  have h1 := fm_len (l := l) fun y hy => h y (List.mem_cons_of_mem _ hy)
  have h2 := h x (List.mem_cons_self ..)
  rw [List.flatMap_cons,List.length_append,List.length_cons,Nat.mul_add,Nat.mul_one]
  omega
theorem fm_ok {α : Type} {g : α → List Int} {l : List α} (h : ∀ x,bytesOk (g x)) : bytesOk (l.flatMap g) := fun y hy => by
 obtain ⟨x,_,hx⟩ := List.mem_flatMap.1 hy
 exact h x y hx
theorem itB_len {x : Itm} (h : x.e.data.size ≤ 8) : (itB x).length ≤ 38 := by
 have h1 := numsB_len (itL x)
 have h2 := putS_len x.e.data
 rw [itB,List.length_append]
 have : (itL x).length = 5 := rfl
 omega
theorem flB_len (x : Flr) : (flB x).length ≤ 10 := by
 have h1 := putN_len x.id
 have h2 := putN_len x.inc
 rw [flB,List.length_append]
 omega
theorem stB_ok (s : Sta) : bytesOk (stB s) :=
 (((putN_ok _).app (fm_ok fun x => (numsB_ok _).app (putS_ok _))).app (putN_ok _)).app (fm_ok fun x => (putN_ok _).app (putN_ok _))
theorem okSize {s : Sta} (hk : stateOk s) {x : Itm} (hx : x ∈ s.items) : x.e.data.size ≤ 8 := by
 obtain ⟨j,hj⟩ := List.getElem?_of_mem hx
 exact (hk.1 j x hj).2.1.2.2.2.2
theorem its_len {s : Sta} (hk : stateOk s) (i : Nat) : (itsB (s.items.take i)).length ≤ 38 * s.items.length := by
 have h1 : (itsB (s.items.take i)).length ≤ 38 * (s.items.take i).length := fm_len fun x hx => itB_len (okSize hk (List.mem_of_mem_take hx))
 rw [List.length_take] at h1
 omega
theorem fls_len (l : List Flr) (i : Nat) : (flsB (l.take i)).length ≤ 10 * l.length := by
 have h1 : (flsB (l.take i)).length ≤ 10 * (l.take i).length := fm_len fun x _ => flB_len x
 rw [List.length_take] at h1
 omega
theorem stB_len {s : Sta} (hk : stateOk s) : (stB s).length ≤ 10 + 38 * s.items.length + 10 * s.floors.length := by
 have h1 := its_len hk s.items.length
 have h2 := fls_len s.floors s.floors.length
 rw [List.take_length] at h1 h2
 have h3 := putN_len (s.items.length : Int)
 have h4 := putN_len (s.floors.length : Int)
 rw [stB,List.length_append,List.length_append,List.length_append]
 omega
theorem cat_dis {st : St} {p q r : Option Addr} {A B : Prop} {m : Nat} (hd : Dis p r) (ho : Old st.next r) (h : (q = p ∧ A ∧ B) ∨ (0 < m ∧ New st.next q)) : Dis q r := by
 rcases h with ⟨h,_⟩ | ⟨_,h⟩
 ·rw [h]; exact hd
 ·exact (Dis.of ho h).symm
theorem ac_spec_l6Bytes (s : SV) (st : St) (hR : RdS st s) (hb : bigS s.x) (hk : stateOk s.x) : C 97 [.agg #[vS s.p s.x.items.length,vS s.q s.x.floors.length]] st (fun v s' => ∃ q,v = vS q (stB s.x).length ∧ OwnR s' 1 fB q (stB s.x) ∧ New st.next q ∧ Pres st s') := by
 have hs1 : s.x.items.length ≤ 1048576 := hb.1
 have hs2 : s.x.floors.length ≤ 1048576 := hb.2.1
 have hpl1 := putN_len (s.x.items.length : Int)
 have hpl2 := putN_len (s.x.floors.length : Int)
 refine AC.enterX (i := ⟨[1,5],[1,5,9,14,20,26,32,34,36,38,55,60,66,73,82],[0,1,2,3,4,5,6,7,8,17,44,69],[]⟩) [(6,[],[])] Try.func97 rfl rfl (by kernel_rfl) (by kernel_rfl) Try.ntmps97 (Lb rfl) rfl ?_
 refine ⟨_,rfl,?_⟩
 refine Cm 1 st [Ml 1 0,(2,Sn)] [(1,0,cSV s)] fun _ _ => ?_
 refine ⟨_,rfl,?_⟩
 refine ⟨_,Od rfl,?_⟩
 refine ⟨_,rfl,?_⟩
 refine ⟨_,rfl,(ac_spec_PutNum (s.x.items.length : Int) st).mono ?_⟩
 rintro _ s12 ⟨q12,rfl,hO12,hN12,hP12⟩
 refine cxs ?_
 refine Cm 1 s12 [Ml 1 0,(2,Sn),(3,vS q12 (putN (s.x.items.length : Int)).length),(4,vI 0)] [(1,0,cSV s)] fun _ _ => ?_
 refine AW.loopM (fun x : Nat × Option Addr × List Int => [(1,vL 1 0 (0)),(2,.slice none 0 0),(3,vS x.2.1 x.2.2.length),(4,vI (x.1 : Int))]) (fun x : Nat × Option Addr × List Int => [(1,0,[vS s.p s.x.items.length,vS s.q s.x.floors.length])]) (fun m (x : Nat × Option Addr × List Int) st' => m = s.x.items.length - x.1 ∧ x.1 ≤ s.x.items.length ∧ x.2.2 = putN (s.x.items.length : Int) ++ itsB (s.x.items.take x.1) ∧ OwnR st' 1 fB x.2.1 x.2.2 ∧ New st.next x.2.1 ∧ Pres st st') (0,q12,putN (s.x.items.length : Int)) _ ⟨rfl,rfl,rfl,rfl,trivial⟩ ⟨rfl,trivial⟩ ⟨rfl,Nat.zero_le _,(List.append_nil _).symm,hO12,hN12,hP12⟩ ?_
 rintro m ⟨i,q,b⟩ ρ0 ff gg st' ⟨rfl,hi,hv,hO,hN,hP⟩
 simp only at hi hv hO hN
 have hbl : b.length ≤ 5 + 38 * s.x.items.length := by rw [hv,List.length_append]; have := its_len hk i; omega
 refine ⟨_,rfl,?_⟩
 refine ⟨_,Od rfl,?_⟩
 iterate 2 refine ⟨_,rfl,?_⟩
 rintro (_|_) h17
 ·replace h17 : ¬ ((i : Int) < (s.x.items.length : Int)) := of_decide_eq_false h17
  refine Cm gg st' [Ml 1 0,(2,Sn),(3,vS q b.length),(4,vI (i : Int)),(17,vB false)] [(1,0,cSV s)] fun _ _ => ?_
  have hv1 : b = putN (s.x.items.length : Int) ++ itsB s.x.items := by rw [hv,show i = s.x.items.length by omega,List.take_length]
  obtain ⟨s1,hs1'⟩ : ∃ s1,s1 = st' := ⟨_,rfl⟩
  subst hs1'
  refine cxs ?_
  refine ⟨_,rfl,?_⟩
  refine ⟨_,Od rfl,?_⟩
  refine ⟨_,rfl,?_⟩
  refine ⟨_,rfl,(ac_spec_PutNum (s.x.floors.length : Int) s1).mono ?_⟩
  rintro _ s63 ⟨q63,rfl,hO63,hN63,hP63⟩
  refine op_cat' (z := 1) (st := s63) (f := fB) (b := 1) (l := b) (l2 := putN (s.x.floors.length : Int)) rfl rfl rfl rfl rfl rfl rfl (by decide) fB_len rfl rfl rfl rfl (by first | omega | (simp only [List.length_nil]; omega)) (by unfold maxLen; first | omega | (simp only [List.length_nil]; omega)) (hP63.ownR hO) (hO63.rows fB_len) ?_
  intro q64 s64 hO64 hPr64 hN64
  refine cxs ?_
  have hN64' := cat_new (hP.trans hP63) hN hN64
  have hP64' := hPr64.pres (hP.trans hP63) hN
  refine Cm gg s64 [Ml 1 0,(2,Sn),(3,vS q64 (b ++ (putN (s.x.floors.length : Int))).length),(8,vI 0)] [(1,0,cSV s)] fun _ _ => ?_
  refine AW.loopM (fun z : Nat × Option Addr × List Int => [(1,vL 1 0 (0)),(2,.slice none 0 0),(3,vS z.2.1 z.2.2.length),(8,vI (z.1 : Int))]) (fun z : Nat × Option Addr × List Int => [(1,0,[vS s.p s.x.items.length,vS s.q s.x.floors.length])]) (fun m (z : Nat × Option Addr × List Int) st' => m = s.x.floors.length - z.1 ∧ z.1 ≤ s.x.floors.length ∧ z.2.2 = b ++ putN (s.x.floors.length : Int) ++ flsB (s.x.floors.take z.1) ∧ OwnR st' 1 fB z.2.1 z.2.2 ∧ New st.next z.2.1 ∧ Pres st st') (0,q64,b ++ putN (s.x.floors.length : Int)) _ ⟨rfl,rfl,rfl,rfl,trivial⟩ ⟨rfl,trivial⟩ ⟨rfl,Nat.zero_le _,(List.append_nil _).symm,hO64,hN64',hP64'⟩ ?_
  rintro m ⟨j,r,f⟩ ρ0 ff gg st' ⟨rfl,hj,hw,hOf,hNf,hPf⟩
  simp only at hj hw hOf hNf
  have hfl : f.length ≤ 10 + 38 * s.x.items.length + 10 * s.x.floors.length := by rw [hw,List.length_append,List.length_append]; have := fls_len s.x.floors j; omega
  refine ⟨_,rfl,?_⟩
  refine ⟨_,Od rfl,?_⟩
  iterate 2 refine ⟨_,rfl,?_⟩
  rintro (_|_) h69
  ·replace h69 : ¬ ((j : Int) < (s.x.floors.length : Int)) := of_decide_eq_false h69
   refine Cm gg st' [Ml 1 0,(2,Sn),(3,vS r f.length),(8,vI (j : Int)),(69,vB false)] [(1,0,cSV s)] fun _ _ => ?_
   have hw1 : f = stB s.x := by rw [hw,show j = s.x.floors.length by omega,List.take_length,hv1]; rfl
   refine cxs ?_
   refine cxs ?_
   refine ⟨.inl rfl,_,rfl,r,?_⟩
   rw [← hw1]
   exact ⟨rfl,hOf,hNf,hPf⟩
  ·replace h69 : (j : Int) < (s.x.floors.length : Int) := of_decide_eq_true h69
   refine Cm gg st' [Ml 1 0,(2,Sn),(3,vS r f.length),(8,vI (j : Int)),(69,vB true)] [(1,0,cSV s)] fun _ _ => ?_
   refine cxs ?_
   refine ⟨_,rfl,?_⟩
   refine ⟨_,Od rfl,?_⟩
   refine op_at j (hPf.rows hR.2) (by omega) rfl rfl rfl rfl rfl rfl rfl ?_
   intro x76 b76 d76 k76 hy76 hb76 hm76 hc76 ho76
   refine ⟨_,rfl,?_⟩
   refine ⟨_,op_ldc (i := 0) rfl rfl rfl rfl hm76 hc76 rfl rfl,?_⟩
   have hpa := putN_len x76.id
   refine ⟨_,rfl,(ac_spec_PutNum x76.id st').mono ?_⟩
   rintro _ s79 ⟨q79,rfl,hO79,hN79,hP79⟩
   refine op_cat' (z := 1) (st := s79) (f := fB) (b := 1) (l := f) (l2 := putN x76.id) rfl rfl rfl rfl rfl rfl rfl (by decide) fB_len rfl rfl rfl rfl (by first | omega | (simp only [List.length_nil]; omega)) (by unfold maxLen; first | omega | (simp only [List.length_nil]; omega)) (hP79.ownR hOf) (hO79.rows fB_len) ?_
   intro q80 s80 hO80 hPr80 hN80
   refine Cm gg s80 [Ml 1 0,(2,Sn),(3,vS q80 (f ++ (putN x76.id)).length),(8,vI (j : Int)),(69,vB true)] [(1,0,cSV s)] fun _ _ => ?_
   have hfa : (f ++ putN x76.id).length = f.length + (putN x76.id).length := List.length_append
   have hN80' := cat_new (hPf.trans hP79) hNf hN80
   have hP80' := hPr80.pres (hPf.trans hP79) hNf
   refine ⟨_,rfl,?_⟩
   refine ⟨_,Od rfl,?_⟩
   refine op_el j (hP80'.rows hR.2) hy76 rfl rfl rfl rfl rfl rfl rfl ?_
   intro b85 d85 k85 hb85 hm85 hc85 ho85
   refine ⟨_,rfl,?_⟩
   refine ⟨_,op_ldc (i := 1) rfl rfl rfl rfl hm85 hc85 rfl rfl,?_⟩
   have hpb := putN_len x76.inc
   refine ⟨_,rfl,(ac_spec_PutNum x76.inc s80).mono ?_⟩
   rintro _ s88 ⟨q88,rfl,hO88,hN88,hP88⟩
   refine op_cat' (z := 1) (st := s88) (f := fB) (b := 1) (l := (f ++ putN x76.id)) (l2 := putN x76.inc) rfl rfl rfl rfl rfl rfl rfl (by decide) fB_len rfl rfl rfl rfl (by first | omega | (simp only [List.length_nil]; omega)) (by unfold maxLen; first | omega | (simp only [List.length_nil]; omega)) (hP88.ownR hO80) (hO88.rows fB_len) ?_
   intro q89 s89 hO89 hPr89 hN89
   refine Cm gg s89 [Ml 1 0,(2,Sn),(3,vS q89 ((f ++ putN x76.id) ++ (putN x76.inc)).length),(8,vI (j : Int)),(69,vB true)] [(1,0,cSV s)] fun _ _ => ?_
   have ew71 : IntKind.wrap .i64 ((j : Int) + (1)) = ((j + 1 : Nat) : Int) := (wrap_i64 (by omega) (by omega)).trans (by omega)
   refine ⟨_,rfl,?_⟩
   exact ⟨(j + 1,q89,f ++ putN x76.id ++ putN x76.inc),s.x.floors.length - (j + 1),by omega,⟨rfl,rfl,rfl,congrArg (Value.int .i64) ew71,trivial⟩,⟨rfl,trivial⟩,rfl,by first | omega | (simp only; omega),by rw [show flsB (s.x.floors.take (j + 1)) = flsB (s.x.floors.take j) ++ flB x76 from fm_succ hy76,← List.append_assoc,← hw,List.append_assoc]; rfl,hO89,cat_new (hP80'.trans hP88) hN80' hN89,hPr89.pres (hP80'.trans hP88) hN80'⟩
 ·replace h17 : (i : Int) < (s.x.items.length : Int) := of_decide_eq_true h17
  refine Cm gg st' [Ml 1 0,(2,Sn),(3,vS q b.length),(4,vI (i : Int)),(17,vB true)] [(1,0,cSV s)] fun _ _ => ?_
  obtain ⟨s1,hs1'⟩ : ∃ s1,s1 = st' := ⟨_,rfl⟩
  subst hs1'
  refine cxs ?_
  refine ⟨_,rfl,?_⟩
  refine ⟨_,Od rfl,?_⟩
  refine op_at i (hP.rows hR.1) (by omega) rfl rfl rfl rfl rfl rfl rfl ?_
  intro x23 b23 d23 k23 hy23 hb23 hm23 hc23 ho23
  refine ⟨_,rfl,?_⟩
  refine ⟨_,op_lda rfl rfl rfl rfl rfl hm23 (sub_row 1 5 hc23 rfl (by decide)) rfl,?_⟩
  refine ⟨_,rfl,?_⟩
  refine ⟨_,Os rfl,?_⟩
  refine Cm (gg + 1) s1 [Ml 1 0,(2,Sn),(3,vS q b.length),(4,vI (i : Int)),Ml 5 gg,(17,vB true)] [(1,0,cSV s),(5,gg,[vI x23.e.inc,vI x23.e.rank,vI x23.e.beat,vI x23.e.ver,.string x23.e.data])] fun _ _ => ?_
  have hdz : x23.e.data.size ≤ 8 := okSize hk (List.mem_of_getElem? hy23)
  refine ⟨_,rfl,?_⟩
  refine ⟨_,Od rfl,?_⟩
  refine op_el i (hP.rows hR.1) hy23 rfl rfl rfl rfl rfl rfl rfl ?_
  intro b29 d29 k29 hb29 hm29 hc29 ho29
  refine ⟨_,rfl,?_⟩
  refine ⟨_,op_ldc (i := 0) rfl rfl rfl rfl hm29 hc29 rfl rfl,?_⟩
  refine ⟨_,rfl,?_⟩
  refine ⟨_,Od rfl,?_⟩
  refine ⟨_,rfl,?_⟩
  refine ⟨_,Od rfl,?_⟩
  refine ⟨_,rfl,?_⟩
  refine ⟨_,Od rfl,?_⟩
  refine ⟨_,rfl,?_⟩
  refine ⟨_,Od rfl,?_⟩
  refine op_litI (k := .i64) (l := itL x23) rfl rfl rfl rfl rfl rfl (by decide) ?_
  intro q40 s40 hO40 hP40 hN40
  refine cxs ?_
  have h5 : (itL x23).length = 5 := rfl
  have hO40 : OwnR s40 1 fI q40 (itL x23) := hO40
  refine Cm (gg + 1) s40 [Ml 1 0,(2,Sn),(3,vS q b.length),(4,vI (i : Int)),Ml 5 gg,(6,vS q40 (itL x23).length),(7,vI 0),(17,vB true)] [(1,0,cSV s),(5,gg,[vI x23.e.inc,vI x23.e.rank,vI x23.e.beat,vI x23.e.ver,.string x23.e.data])] fun _ _ => ?_
  refine AW.loopM (fun y : Nat × Option Addr × List Int => [(1,vL 1 0 (0)),(2,.slice none 0 0),(3,vS y.2.1 y.2.2.length),(4,vI (i : Int)),(5,vL 5 0 (gg)),(6,vS q40 (itL x23).length),(7,vI (y.1 : Int)),(17,vB true)]) (fun y : Nat × Option Addr × List Int => [(1,0,[vS s.p s.x.items.length,vS s.q s.x.floors.length]),(5,gg,[vI x23.e.inc,vI x23.e.rank,vI x23.e.beat,vI x23.e.ver,.string x23.e.data])]) (fun m (y : Nat × Option Addr × List Int) st' => m = 5 - y.1 ∧ y.1 ≤ 5 ∧ y.2.2 = b ++ numsB ((itL x23).take y.1) ∧ OwnR st' 1 fB y.2.1 y.2.2 ∧ New st.next y.2.1 ∧ OwnR st' 1 fI q40 (itL x23) ∧ Dis y.2.1 q40 ∧ Pres st st') (0,q,b) _ ⟨rfl,rfl,rfl,rfl,rfl,rfl,rfl,rfl,trivial⟩ ⟨rfl,rfl,trivial⟩ ⟨rfl,Nat.zero_le _,(List.append_nil _).symm,hP40.ownR hO,hN,hO40,Dis.of hO.old hN40,hP.trans hP40⟩ ?_
  rintro m ⟨k,r,c⟩ ρ0 ff gg2 st' ⟨rfl,hk5,hc,hOc,hNc,hO5,hd5,hPc⟩
  simp only at hk5 hc hOc hNc hd5
  have hcl : c.length ≤ 30 + 38 * s.x.items.length := by rw [hc,List.length_append]; have := numsB_len ((itL x23).take k); rw [List.length_take] at this; omega
  iterate 2 refine ⟨_,rfl,?_⟩
  rintro (_|_) h44
  ·replace h44 : ¬ ((k : Int) < ((itL x23).length : Int)) := of_decide_eq_false h44
   refine Cm gg2 st' [Ml 1 0,(2,Sn),(3,vS r c.length),(4,vI (i : Int)),Ml 5 gg,(6,vS q40 (itL x23).length),(7,vI (k : Int)),(17,vB true),(44,vB false)] [(1,0,cSV s),(5,gg,[vI x23.e.inc,vI x23.e.rank,vI x23.e.beat,vI x23.e.ver,.string x23.e.data])] fun _ _ => ?_
   have hc5 : c = b ++ numsB (itL x23) := by rw [hc,show k = 5 by omega]; rfl
   refine cxs ?_
   refine ⟨_,rfl,?_⟩
   refine ⟨_,Od rfl,?_⟩
   have hpt := putS_len x23.e.data
   refine ⟨_,rfl,(ac_spec_PutText x23.e.data st' (by first | assumption | omega)).mono ?_⟩
   rintro _ s57 ⟨q57,rfl,hO57,hN57,hP57⟩
   refine op_cat' (z := 1) (st := s57) (f := fB) (b := 1) (l := c) (l2 := putS x23.e.data) rfl rfl rfl rfl rfl rfl rfl (by decide) fB_len rfl rfl rfl rfl (by first | omega | (simp only [List.length_nil]; omega)) (by unfold maxLen; first | omega | (simp only [List.length_nil]; omega)) (hP57.ownR hOc) (hO57.rows fB_len) ?_
   intro q58 s58 hO58 hPr58 hN58
   refine Cm gg2 s58 [Ml 1 0,(2,Sn),(3,vS q58 (c ++ (putS x23.e.data)).length),(4,vI (i : Int)),Ml 5 gg,(6,vS q40 (itL x23).length),(7,vI (k : Int)),(17,vB true),(44,vB false)] [(1,0,cSV s),(5,gg,[vI x23.e.inc,vI x23.e.rank,vI x23.e.beat,vI x23.e.ver,.string x23.e.data])] fun _ _ => ?_
   have ew19 : IntKind.wrap .i64 ((i : Int) + (1)) = ((i + 1 : Nat) : Int) := (wrap_i64 (by omega) (by omega)).trans (by omega)
   refine ⟨_,rfl,?_⟩
   exact ⟨(i + 1,q58,c ++ putS x23.e.data),s.x.items.length - (i + 1),by omega,⟨rfl,rfl,rfl,congrArg (Value.int .i64) ew19,trivial⟩,⟨rfl,trivial⟩,rfl,by first | omega | (simp only; omega),by rw [show itsB (s.x.items.take (i + 1)) = itsB (s.x.items.take i) ++ itB x23 from fm_succ hy23,← List.append_assoc,← hv,hc5,List.append_assoc]; rfl,hO58,cat_new (hPc.trans hP57) hNc hN58,hPr58.pres (hPc.trans hP57) hNc⟩
  ·replace h44 : (k : Int) < ((itL x23).length : Int) := of_decide_eq_true h44
   refine Cm gg2 st' [Ml 1 0,(2,Sn),(3,vS r c.length),(4,vI (i : Int)),Ml 5 gg,(6,vS q40 (itL x23).length),(7,vI (k : Int)),(17,vB true),(44,vB true)] [(1,0,cSV s),(5,gg,[vI x23.e.inc,vI x23.e.rank,vI x23.e.beat,vI x23.e.ver,.string x23.e.data])] fun _ _ => ?_
   refine cxs ?_
   refine op_at k (hO5.rows fI_len) (by omega) rfl rfl rfl rfl rfl rfl rfl ?_
   intro x50 b50 d50 k50 hy50 hb50 hm50 hc50 ho50
   refine ⟨_,op_ldc (i := 0) rfl rfl rfl rfl hm50 hc50 rfl rfl,?_⟩
   have hpl := putN_len x50
   refine ⟨_,rfl,(ac_spec_PutNum x50 st').mono ?_⟩
   rintro _ s52 ⟨q52,rfl,hO52,hN52,hP52⟩
   refine op_cat' (z := 1) (st := s52) (f := fB) (b := 1) (l := c) (l2 := putN x50) rfl rfl rfl rfl rfl rfl rfl (by decide) fB_len rfl rfl rfl rfl (by first | omega | (simp only [List.length_nil]; omega)) (by unfold maxLen; first | omega | (simp only [List.length_nil]; omega)) (hP52.ownR hOc) (hO52.rows fB_len) ?_
   intro q53 s53 hO53 hPr53 hN53
   refine Cm gg2 s53 [Ml 1 0,(2,Sn),(3,vS q53 (c ++ (putN x50)).length),(4,vI (i : Int)),Ml 5 gg,(6,vS q40 (itL x23).length),(7,vI (k : Int)),(17,vB true),(44,vB true)] [(1,0,cSV s),(5,gg,[vI x23.e.inc,vI x23.e.rank,vI x23.e.beat,vI x23.e.ver,.string x23.e.data])] fun _ _ => ?_
   have ew46 : IntKind.wrap .i64 ((k : Int) + (1)) = ((k + 1 : Nat) : Int) := (wrap_i64 (by omega) (by omega)).trans (by omega)
   refine ⟨_,rfl,?_⟩
   exact ⟨(k + 1,q53,c ++ putN x50),5 - (k + 1),by omega,⟨rfl,rfl,rfl,rfl,rfl,rfl,congrArg (Value.int .i64) ew46,rfl,trivial⟩,⟨rfl,rfl,trivial⟩,rfl,by first | omega | (simp only; omega),by rw [numsB_succ hy50,← List.append_assoc,← hc],hO53,cat_new (hPc.trans hP52) hNc hN53,hPr53.ownR hd5 (hP52.ownR hO5),cat_dis hd5 (hP52.ownR hO5).old hN53,hPr53.pres (hPc.trans hP52) hNc⟩
theorem ac_impl_StateBytes (s : SV) (st : St) (hR : RdS st s) (hb : bigS s.x) (hk : stateOk s.x) : C 47 [.agg #[vS s.p s.x.items.length,vS s.q s.x.floors.length]] st (fun v s' => ∃ q,v = vS q (stB s.x).length ∧ OwnR s' 1 fB q (stB s.x) ∧ New st.next q ∧ Pres st s') := by
 have hs1 : s.x.items.length ≤ 1048576 := hb.1
 have hs2 : s.x.floors.length ≤ 1048576 := hb.2.1
 have hpl1 := putN_len (s.x.items.length : Int)
 have hpl2 := putN_len (s.x.floors.length : Int)
 refine AC.enterX (i := ⟨[1,5,6,8],[1,5,6,8,12,16,23,26,29,32,35,38,41,48,54,62,65],[0,1,2,3,5,6,8,11,17,18,19,20,55,56,57,58],[]⟩) [(8,[3,6,9,12,15],[5,8,11,14,17]),(14,[3],[5])] Try.func47 rfl rfl (by kernel_rfl) (by kernel_rfl) Try.ntmps47 (Lb rfl) rfl ?_
 refine ⟨_,rfl,?_⟩
 refine Cm 1 st [Ml 1 0,(2,Sn)] [(1,0,cSV s)] fun _ _ => ?_
 refine ⟨_,Od rfl,?_⟩
 refine ⟨_,rfl,(AC.tru (ac_impl_StateOk s st hR hb) hk).mono ?_⟩
 rintro _ st ⟨rfl,rfl⟩
 refine ⟨_,rfl,?_⟩
 refine Cm 1 st [Ml 1 0,(2,Sn),(11,vB false)] [(1,0,cSV s)] fun _ _ => ?_
 refine cxs ?_
 refine ⟨_,rfl,?_⟩
 refine ⟨_,Od rfl,?_⟩
 refine ⟨_,rfl,?_⟩
 refine ⟨_,rfl,(ac_impl_PutNum (s.x.items.length : Int) st).mono ?_⟩
 rintro _ s15 ⟨q15,rfl,hO15,hN15,hP15⟩
 refine Cm 1 s15 [Ml 1 0,(2,Sn),(3,vS q15 (putN (s.x.items.length : Int)).length)] [(1,0,cSV s)] fun _ _ => ?_
 refine ⟨_,rfl,?_⟩
 refine ⟨_,Od rfl,?_⟩
 refine ⟨_,rfl,?_⟩
 refine Cm 1 s15 [Ml 1 0,(2,Sn),(3,vS q15 (putN (s.x.items.length : Int)).length),(17,vS s.p s.x.items.length),(18,vI (s.x.items.length : Int)),(19,vI 0)] [(1,0,cSV s)] fun _ _ => ?_
 refine AW.loopM (fun x : Nat × Option Addr × List Int => [(1,vL 1 0 (0)),(2,.slice none 0 0),(3,vS x.2.1 x.2.2.length),(17,vS s.p s.x.items.length),(18,vI (s.x.items.length : Int)),(19,vI (x.1 : Int))]) (fun x : Nat × Option Addr × List Int => [(1,0,[vS s.p s.x.items.length,vS s.q s.x.floors.length])]) (fun m (x : Nat × Option Addr × List Int) st' => m = s.x.items.length - x.1 ∧ x.1 ≤ s.x.items.length ∧ x.2.2 = putN (s.x.items.length : Int) ++ itsB (s.x.items.take x.1) ∧ OwnR st' 1 fB x.2.1 x.2.2 ∧ New st.next x.2.1 ∧ Pres st st') (0,q15,putN (s.x.items.length : Int)) _ ⟨rfl,rfl,rfl,rfl,rfl,rfl,trivial⟩ ⟨rfl,trivial⟩ ⟨rfl,Nat.zero_le _,(List.append_nil _).symm,hO15,hN15,hP15⟩ ?_
 rintro m ⟨i,q,b⟩ ρ0 ff gg st' ⟨rfl,hi,hv,hO,hN,hP⟩
 simp only at hi hv hO hN
 have hbl : b.length ≤ 5 + 38 * s.x.items.length := by rw [hv,List.length_append]; have := its_len hk i; omega
 refine ⟨_,rfl,?_⟩
 rintro (_|_) h20
 ·replace h20 : ¬ ((i : Int) < (s.x.items.length : Int)) := of_decide_eq_false h20
  refine Cm gg st' [Ml 1 0,(2,Sn),(3,vS q b.length),(17,vS s.p s.x.items.length),(18,vI (s.x.items.length : Int)),(19,vI (i : Int)),(20,vB false)] [(1,0,cSV s)] fun _ _ => ?_
  have hv1 : b = putN (s.x.items.length : Int) ++ itsB s.x.items := by rw [hv,show i = s.x.items.length by omega,List.take_length]
  obtain ⟨s1,hs1'⟩ : ∃ s1,s1 = st' := ⟨_,rfl⟩
  subst hs1'
  refine cxs ?_
  refine ⟨_,rfl,?_⟩
  refine ⟨_,Od rfl,?_⟩
  refine ⟨_,rfl,?_⟩
  refine ⟨_,rfl,(ac_impl_PutNum (s.x.floors.length : Int) s1).mono ?_⟩
  rintro _ s51 ⟨q51,rfl,hO51,hN51,hP51⟩
  have hfm : fl [⟨q,b⟩,⟨q51,putN (s.x.floors.length : Int)⟩] = b ++ putN (s.x.floors.length : Int) := by simp [fl]
  refine op_litR [⟨q,b⟩,⟨q51,putN (s.x.floors.length : Int)⟩] rfl rfl rfl (by decide) rfl rfl rfl (by decide) ?_
  intro q52 s52 hO52 hP52 hN52
  refine ⟨_,rfl,(ac_impl_joined q52 [⟨q,b⟩,⟨q51,putN (s.x.floors.length : Int)⟩] s52 (hO52.rows cRV_len) (fun r hr => by
  simp only [List.mem_cons,List.not_mem_nil,or_false] at hr
  rcases hr with rfl | rfl
  ·exact (hP51.trans hP52).rows (hO.rows fB_len)
  ·exact hP52.rows (hO51.rows fB_len)) (by show (2 : Nat) ≤ 1048576; omega) (by rw [hfm,List.length_append]; omega)).mono ?_⟩
  rintro _ s53 ⟨q53,rfl,hO53,hN53,hP53⟩
  refine Cm gg s53 [Ml 1 0,(2,Sn),(3,vS q53 (fl [⟨q,b⟩,⟨q51,putN (s.x.floors.length : Int)⟩]).length)] [(1,0,cSV s)] fun _ _ => ?_
  have hN53' : New st.next q53 := hN53.le ((hP.trans hP51).trans hP52).1
  have hP53' := ((hP.trans hP51).trans hP52).trans hP53
  refine ⟨_,rfl,?_⟩
  refine ⟨_,Od rfl,?_⟩
  refine ⟨_,rfl,?_⟩
  refine Cm gg s53 [(2,Sn),(3,vS q53 (fl [⟨q,b⟩,⟨q51,putN (s.x.floors.length : Int)⟩]).length),(55,vS s.q s.x.floors.length),(56,vI (s.x.floors.length : Int)),(57,vI 0)] [] fun _ _ => ?_
  refine AW.loopM (fun z : Nat × Option Addr × List Int => [(2,.slice none 0 0),(3,vS z.2.1 z.2.2.length),(55,vS s.q s.x.floors.length),(56,vI (s.x.floors.length : Int)),(57,vI (z.1 : Int))]) (fun z : Nat × Option Addr × List Int => []) (fun m (z : Nat × Option Addr × List Int) st' => m = s.x.floors.length - z.1 ∧ z.1 ≤ s.x.floors.length ∧ z.2.2 = b ++ putN (s.x.floors.length : Int) ++ flsB (s.x.floors.take z.1) ∧ OwnR st' 1 fB z.2.1 z.2.2 ∧ New st.next z.2.1 ∧ Pres st st') (0,q53,fl [⟨q,b⟩,⟨q51,putN (s.x.floors.length : Int)⟩]) _ ⟨rfl,rfl,rfl,rfl,rfl,trivial⟩ trivial ⟨rfl,Nat.zero_le _,hfm.trans (List.append_nil _).symm,hO53,hN53',hP53'⟩ ?_
  rintro m ⟨j,r,f⟩ ρ0 ff gg st' ⟨rfl,hj,hw,hOf,hNf,hPf⟩
  simp only at hj hw hOf hNf
  have hfl : f.length ≤ 10 + 38 * s.x.items.length + 10 * s.x.floors.length := by rw [hw,List.length_append,List.length_append]; have := fls_len s.x.floors j; omega
  refine ⟨_,rfl,?_⟩
  rintro (_|_) h58
  ·replace h58 : ¬ ((j : Int) < (s.x.floors.length : Int)) := of_decide_eq_false h58
   refine Cm gg st' [(2,Sn),(3,vS r f.length),(55,vS s.q s.x.floors.length),(56,vI (s.x.floors.length : Int)),(57,vI (j : Int)),(58,vB false)] [] fun _ _ => ?_
   have hw1 : f = stB s.x := by rw [hw,show j = s.x.floors.length by omega,List.take_length,hv1]; rfl
   refine cxs ?_
   refine cxs ?_
   refine ⟨.inl rfl,_,rfl,r,?_⟩
   rw [← hw1]
   exact ⟨rfl,hOf,hNf,hPf⟩
  ·replace h58 : (j : Int) < (s.x.floors.length : Int) := of_decide_eq_true h58
   refine Cm gg st' [(2,Sn),(3,vS r f.length),(55,vS s.q s.x.floors.length),(56,vI (s.x.floors.length : Int)),(57,vI (j : Int)),(58,vB true)] [] fun _ _ => ?_
   refine cxs ?_
   refine op_at j (hPf.rows hR.2) (by omega) rfl rfl rfl rfl rfl rfl rfl ?_
   intro x59 b59 d59 k59 hy59 hb59 hm59 hc59 ho59
   refine ⟨_,op_lda rfl rfl rfl rfl rfl hm59 hc59 rfl,?_⟩
   refine ⟨_,rfl,?_⟩
   refine ⟨_,Os rfl,?_⟩
   refine Cm (gg + 1) st' [(2,Sn),(3,vS r f.length),Ml 8 gg,(55,vS s.q s.x.floors.length),(56,vI (s.x.floors.length : Int)),(57,vI (j : Int)),(58,vB true)] [(8,gg,[vI x59.id,vI x59.inc])] fun _ _ => ?_
   refine ⟨_,rfl,?_⟩
   refine ⟨_,Od rfl,?_⟩
   refine ⟨_,rfl,(ac_impl_PutNum x59.id st').mono ?_⟩
   rintro _ s64 ⟨q64,rfl,hO64,hN64,hP64⟩
   refine ⟨hP64.2,?_⟩
   refine ⟨_,rfl,?_⟩
   refine ⟨_,Od rfl,?_⟩
   refine ⟨ld_own rfl rfl rfl,?_⟩
   refine ⟨_,rfl,(ac_impl_PutNum x59.inc s64).mono ?_⟩
   rintro _ s67 ⟨q67,rfl,hO67,hN67,hP67⟩
   have hpa := putN_len x59.id
   have hpb := putN_len x59.inc
   have g64 := hP64.trans hP67
   have hfn : fl [⟨r,f⟩,⟨q64,putN x59.id⟩,⟨q67,putN x59.inc⟩] = f ++ flB x59 := by simp [fl,flB]
   have hil := flB_len x59
   refine op_litR [⟨r,f⟩,⟨q64,putN x59.id⟩,⟨q67,putN x59.inc⟩] rfl rfl rfl (by decide) rfl rfl rfl (by decide) ?_
   intro q68 s68 hO68 hP68 hN68
   refine ⟨_,rfl,(ac_impl_joined q68 [⟨r,f⟩,⟨q64,putN x59.id⟩,⟨q67,putN x59.inc⟩] s68 (hO68.rows cRV_len) (fun r hr => by
  simp only [List.mem_cons,List.not_mem_nil,or_false] at hr
  rcases hr with rfl | rfl | rfl
  ·exact (g64.trans hP68).rows (hOf.rows fB_len)
  ·exact (hP67.trans hP68).rows (hO64.rows fB_len)
  ·exact hP68.rows (hO67.rows fB_len)) (by show (3 : Nat) ≤ 1048576; omega) (by rw [hfn,List.length_append]; omega)).mono ?_⟩
   rintro _ s69 ⟨q69,rfl,hO69,hN69,hP69⟩
   refine Cm (gg + 1) s69 [(2,Sn),(3,vS q69 (fl [⟨r,f⟩,⟨q64,putN x59.id⟩,⟨q67,putN x59.inc⟩]).length),Ml 8 gg,(55,vS s.q s.x.floors.length),(56,vI (s.x.floors.length : Int)),(57,vI (j : Int)),(58,vB true)] [(8,gg,[vI x59.id,vI x59.inc])] fun _ _ => ?_
   have ew70 : IntKind.wrap .i64 ((j : Int) + (1)) = ((j + 1 : Nat) : Int) := (wrap_i64 (by omega) (by omega)).trans (by omega)
   refine ⟨_,rfl,?_⟩
   exact ⟨(j + 1,q69,fl [⟨r,f⟩,⟨q64,putN x59.id⟩,⟨q67,putN x59.inc⟩]),s.x.floors.length - (j + 1),by omega,⟨rfl,rfl,rfl,rfl,congrArg (Value.int .i64) ew70,trivial⟩,trivial,rfl,by first | omega | (simp only; omega),by rw [show flsB (s.x.floors.take (j + 1)) = flsB (s.x.floors.take j) ++ flB x59 from fm_succ hy59,← List.append_assoc,← hw]; exact hfn,hO69,hN69.le ((hPf.trans g64).trans hP68).1,((hPf.trans g64).trans hP68).trans hP69⟩
 ·replace h20 : (i : Int) < (s.x.items.length : Int) := of_decide_eq_true h20
  refine Cm gg st' [Ml 1 0,(2,Sn),(3,vS q b.length),(17,vS s.p s.x.items.length),(18,vI (s.x.items.length : Int)),(19,vI (i : Int)),(20,vB true)] [(1,0,cSV s)] fun _ _ => ?_
  obtain ⟨s1,hs1'⟩ : ∃ s1,s1 = st' := ⟨_,rfl⟩
  subst hs1'
  refine cxs ?_
  refine op_at i (hP.rows hR.1) (by omega) rfl rfl rfl rfl rfl rfl rfl ?_
  intro x21 b21 d21 k21 hy21 hb21 hm21 hc21 ho21
  refine ⟨_,op_lda rfl rfl rfl rfl rfl hm21 hc21 rfl,?_⟩
  refine ⟨_,rfl,?_⟩
  refine ⟨_,Os rfl,?_⟩
  refine Cm (gg + 1) s1 [Ml 1 0,(2,Sn),(3,vS q b.length),Ml 5 gg,(17,vS s.p s.x.items.length),(18,vI (s.x.items.length : Int)),(19,vI (i : Int)),(20,vB true)] [(1,0,cSV s),(5,gg,[vI x21.id,vI x21.e.inc,vI x21.e.rank,vI x21.e.beat,vI x21.e.ver,.string x21.e.data])] fun _ _ => ?_
  refine ⟨_,rfl,?_⟩
  refine ⟨_,Od rfl,?_⟩
  refine ⟨_,rfl,?_⟩
  refine ⟨_,Os rfl,?_⟩
  refine Cm (gg + 2) s1 [Ml 1 0,(2,Sn),(3,vS q b.length),Ml 5 gg,(6,vL 6 0 (gg + 1)),(17,vS s.p s.x.items.length),(18,vI (s.x.items.length : Int)),(19,vI (i : Int)),(20,vB true)] [(1,0,cSV s),(5,gg,[vI x21.id,vI x21.e.inc,vI x21.e.rank,vI x21.e.beat,vI x21.e.ver,.string x21.e.data]),(6,gg + 1,[vI x21.e.inc,vI x21.e.rank,vI x21.e.beat,vI x21.e.ver,.string x21.e.data])] fun _ _ => ?_
  have hdz : x21.e.data.size ≤ 8 := okSize hk (List.mem_of_getElem? hy21)
  refine ⟨_,rfl,?_⟩
  refine ⟨_,Od rfl,?_⟩
  refine ⟨_,rfl,(ac_impl_PutNum x21.id s1).mono ?_⟩
  rintro _ s28 ⟨q28,rfl,hO28,hN28,hP28⟩
  refine ⟨hP28.2,?_⟩
  refine ⟨_,rfl,?_⟩
  refine ⟨_,Od rfl,?_⟩
  refine ⟨ld_own rfl rfl rfl,?_⟩
  refine ⟨_,rfl,(ac_impl_PutNum x21.e.inc s28).mono ?_⟩
  rintro _ s31 ⟨q31,rfl,hO31,hN31,hP31⟩
  refine ⟨hP31.low hP28,?_⟩
  refine ⟨_,rfl,?_⟩
  refine ⟨_,Od rfl,?_⟩
  refine ⟨ld_own rfl rfl rfl,?_⟩
  refine ⟨_,rfl,(ac_impl_PutNum x21.e.rank s31).mono ?_⟩
  rintro _ s34 ⟨q34,rfl,hO34,hN34,hP34⟩
  refine ⟨hP34.low (hP28.trans hP31),?_⟩
  refine ⟨_,rfl,?_⟩
  refine ⟨_,Od rfl,?_⟩
  refine ⟨ld_own rfl rfl rfl,?_⟩
  refine ⟨_,rfl,(ac_impl_PutNum x21.e.beat s34).mono ?_⟩
  rintro _ s37 ⟨q37,rfl,hO37,hN37,hP37⟩
  refine ⟨hP37.low ((hP28.trans hP31).trans hP34),?_⟩
  refine ⟨_,rfl,?_⟩
  refine ⟨_,Od rfl,?_⟩
  refine ⟨ld_own rfl rfl rfl,?_⟩
  refine ⟨_,rfl,(ac_impl_PutNum x21.e.ver s37).mono ?_⟩
  rintro _ s40 ⟨q40,rfl,hO40,hN40,hP40⟩
  refine ⟨hP40.low (((hP28.trans hP31).trans hP34).trans hP37),?_⟩
  refine ⟨_,rfl,?_⟩
  refine ⟨_,Od rfl,?_⟩
  refine ⟨ld_own rfl rfl rfl,?_⟩
  refine ⟨_,rfl,(ac_impl_PutText x21.e.data s40 (by first | assumption | omega)).mono ?_⟩
  rintro _ s43 ⟨q43,rfl,hO43,hN43,hP43⟩
  have g43 := hP43
  have g40 := hP40.trans g43
  have g37 := hP37.trans g40
  have g34 := hP34.trans g37
  have g31 := hP31.trans g34
  have g28 := hP28.trans g31
  have hfl : fl [⟨q,b⟩,⟨q28,putN x21.id⟩,⟨q31,putN x21.e.inc⟩,⟨q34,putN x21.e.rank⟩,⟨q37,putN x21.e.beat⟩,⟨q40,putN x21.e.ver⟩,⟨q43,putS x21.e.data⟩] = b ++ itB x21 := by simp [fl,itB,numsB,itL]
  have hil := itB_len hdz
  refine op_litR [⟨q,b⟩,⟨q28,putN x21.id⟩,⟨q31,putN x21.e.inc⟩,⟨q34,putN x21.e.rank⟩,⟨q37,putN x21.e.beat⟩,⟨q40,putN x21.e.ver⟩,⟨q43,putS x21.e.data⟩] rfl rfl rfl (by decide) rfl rfl rfl (by decide) ?_
  intro q44 s44 hO44 hP44 hN44
  refine ⟨_,rfl,(ac_impl_joined q44 [⟨q,b⟩,⟨q28,putN x21.id⟩,⟨q31,putN x21.e.inc⟩,⟨q34,putN x21.e.rank⟩,⟨q37,putN x21.e.beat⟩,⟨q40,putN x21.e.ver⟩,⟨q43,putS x21.e.data⟩] s44 (hO44.rows cRV_len) (fun r hr => by
  simp only [List.mem_cons,List.not_mem_nil,or_false] at hr
  rcases hr with rfl | rfl | rfl | rfl | rfl | rfl | rfl
  ·exact (g28.trans hP44).rows (hO.rows fB_len)
  ·exact (g31.trans hP44).rows (hO28.rows fB_len)
  ·exact (g34.trans hP44).rows (hO31.rows fB_len)
  ·exact (g37.trans hP44).rows (hO34.rows fB_len)
  ·exact (g40.trans hP44).rows (hO37.rows fB_len)
  ·exact (g43.trans hP44).rows (hO40.rows fB_len)
  ·exact hP44.rows (hO43.rows fB_len)) (by show (7 : Nat) ≤ 1048576; omega) (by rw [hfl,List.length_append]; omega)).mono ?_⟩
  rintro _ s45 ⟨q45,rfl,hO45,hN45,hP45⟩
  refine Cm (gg + 2) s45 [Ml 1 0,(2,Sn),(3,vS q45 (fl [⟨q,b⟩,⟨q28,putN x21.id⟩,⟨q31,putN x21.e.inc⟩,⟨q34,putN x21.e.rank⟩,⟨q37,putN x21.e.beat⟩,⟨q40,putN x21.e.ver⟩,⟨q43,putS x21.e.data⟩]).length),Ml 5 gg,(6,vL 6 0 (gg + 1)),(17,vS s.p s.x.items.length),(18,vI (s.x.items.length : Int)),(19,vI (i : Int)),(20,vB true)] [(1,0,cSV s),(5,gg,[vI x21.id,vI x21.e.inc,vI x21.e.rank,vI x21.e.beat,vI x21.e.ver,.string x21.e.data]),(6,gg + 1,[vI x21.e.inc,vI x21.e.rank,vI x21.e.beat,vI x21.e.ver,.string x21.e.data])] fun _ _ => ?_
  have ew46 : IntKind.wrap .i64 ((i : Int) + (1)) = ((i + 1 : Nat) : Int) := (wrap_i64 (by omega) (by omega)).trans (by omega)
  refine ⟨_,rfl,?_⟩
  exact ⟨(i + 1,q45,fl [⟨q,b⟩,⟨q28,putN x21.id⟩,⟨q31,putN x21.e.inc⟩,⟨q34,putN x21.e.rank⟩,⟨q37,putN x21.e.beat⟩,⟨q40,putN x21.e.ver⟩,⟨q43,putS x21.e.data⟩]),s.x.items.length - (i + 1),by omega,⟨rfl,rfl,rfl,rfl,rfl,congrArg (Value.int .i64) ew46,trivial⟩,⟨rfl,trivial⟩,rfl,by first | omega | (simp only; omega),by rw [show itsB (s.x.items.take (i + 1)) = itsB (s.x.items.take i) ++ itB x21 from fm_succ hy21,← List.append_assoc,← hv]; exact hfl,hO45,hN45.le ((hP.trans g28).trans hP44).1,((hP.trans g28).trans hP44).trans hP45⟩
theorem ac_laws_eqIntSR (p q : Option Addr) (a b : List Int) (st : St) (hA : Rows st 1 fI p a) (hB : Rows st 1 fI q b) (hs : szOk a.length) : C 135 [vS p a.length,vS q b.length] st (fun v s => ∃ x,v = .bool x ∧ (x = true ↔ a = b) ∧ s = st) := by
 have hs : a.length ≤ 1048576 := hs
 refine AC.enterX (i := ⟨[],[],[0,1,4,5,10,14,25],[]⟩) [(6,[],[])] Try.func135 rfl rfl (by kernel_rfl) (by kernel_rfl) Try.ntmps135 (Lb rfl) rfl ?_
 refine Cu lo0 st [(0,vS p a.length),(1,vS q b.length),(4,vB false)] fun _ => ?_
 iterate 3 refine ⟨_,rfl,?_⟩
 rintro (_|_) h10
 ·replace h10 : (a.length : Int) = (b.length : Int) := bne_eq_false_iff_eq.1 h10
  refine Cu lo0 st [(0,vS p a.length),(1,vS q b.length),(4,vB false),(10,vB false)] fun _ => ?_
  refine cxs ?_
  refine Cu lo0 st [(0,vS p a.length),(1,vS q b.length),(4,vB false),(5,vI 0)] fun _ => ?_
  refine AW.loop0 (fun i : Nat => [(0,vS p a.length),(1,vS q b.length),(5,vI (i : Int))]) (fun m (i : Nat) st' => m = a.length - i ∧ i ≤ a.length ∧ (∀ (j : Nat) x y,j < i → a[j]? = some x → b[j]? = some y → x = y) ∧ st = st') 0 _ ⟨rfl,rfl,rfl,trivial⟩ rfl ⟨rfl,Nat.zero_le _,fun j x y h => absurd h (Nat.not_lt_zero _),rfl⟩ ?_
  rintro m i ρ0 st' ⟨rfl,hi,heq,rfl⟩
  iterate 2 refine ⟨_,rfl,?_⟩
  rintro (_|_) h14
  ·replace h14 : ¬ ((i : Int) < (a.length : Int)) := of_decide_eq_false h14
   refine Cu lo0 st [(0,vS p a.length),(1,vS q b.length),(5,vI (i : Int)),(14,vB false)] fun _ => ?_
   refine cxs ?_
   exact cxs (Rt ⟨true,rfl,⟨fun _ => iff_lists (by omega) fun j x y hj hx hy => heq j x y (by omega) hx hy,fun _ => rfl⟩,rfl⟩)
  ·replace h14 : (i : Int) < (a.length : Int) := of_decide_eq_true h14
   refine Cu lo0 st [(0,vS p a.length),(1,vS q b.length),(5,vI (i : Int)),(14,vB true)] fun _ => ?_
   refine cxs ?_
   refine op_at i hA (by omega) rfl rfl rfl rfl rfl rfl rfl ?_
   intro x19 b19 d19 k19 hy19 hb19 hm19 hc19 ho19
   refine ⟨_,op_ldc (i := 0) rfl rfl rfl rfl hm19 hc19 rfl rfl,?_⟩
   refine op_at i hB (by omega) rfl rfl rfl rfl rfl rfl rfl ?_
   intro x23 b23 d23 k23 hy23 hb23 hm23 hc23 ho23
   refine ⟨_,op_ldc (i := 0) rfl rfl rfl rfl hm23 hc23 rfl rfl,?_⟩
   refine ⟨_,rfl,?_⟩
   rintro (_|_) h25
   ·replace h25 : x19 = x23 := bne_eq_false_iff_eq.1 h25
    refine Cu lo0 st [(0,vS p a.length),(1,vS q b.length),(5,vI (i : Int)),(14,vB true),(25,vB false)] fun _ => ?_
    refine cxs ?_
    have ew16 : IntKind.wrap .i64 ((i : Int) + (1)) = ((i + 1 : Nat) : Int) := (wrap_i64 (by omega) (by omega)).trans (by omega)
    refine ⟨_,rfl,?_⟩
    refine ⟨i + 1,a.length - (i + 1),by omega,⟨rfl,rfl,congrArg (Value.int .i64) ew16,trivial⟩,rfl,rfl,by omega,fun j u v hj hu hv => ?_,rfl⟩
    rcases Nat.lt_or_ge j i with h | h
    ·exact heq j u v h hu hv
    ·obtain rfl : j = i := by omega
     rw [hy19] at hu; rw [hy23] at hv
     injection hu with hu; injection hv with hv
     rw [← hu,← hv]; exact h25
   ·replace h25 : ¬ (x19 = x23) := bne_iff_ne.1 h25
    refine Cu lo0 st [(0,vS p a.length),(1,vS q b.length),(5,vI (i : Int)),(14,vB true),(25,vB true)] fun _ => ?_
    refine cxs ?_
    refine ⟨.inl rfl,_,rfl,false,rfl,⟨fun h => absurd h Bool.false_ne_true,fun h => absurd ?_ h25⟩,rfl⟩
    rw [h,hy23] at hy19
    injection hy19 with h
    exact h.symm
 ·replace h10 : ¬ ((a.length : Int) = (b.length : Int)) := bne_iff_ne.1 h10
  refine Cu lo0 st [(0,vS p a.length),(1,vS q b.length),(4,vB false),(10,vB true)] fun _ => ?_
  exact cxs (Rt ⟨false,rfl,⟨fun h => absurd h Bool.false_ne_true,fun h => absurd (congrArg (fun l : List Int => (l.length : Int)) h) h10⟩,rfl⟩)
theorem ac_laws_eqTree (a b : TV) (st : St) (hA : Rows st 1 fI a.p a.l) (hB : Rows st 1 fI b.p b.l) (hb : szOk a.l.length) : C 134 [.agg #[vS a.p a.l.length,vI a.root],.agg #[vS b.p b.l.length,vI b.root]] st (fun v s => ∃ x,v = .bool x ∧ (x = true ↔ a.x = b.x) ∧ s = st) := by
 refine AC.enterX (i := ⟨[2,3],[2,3,5,7,11,13],[0,1,2,3,4,10,15],[]⟩) [] Try.func134 rfl rfl (by kernel_rfl) (by kernel_rfl) Try.ntmps134 (Lb rfl) rfl ?_
 iterate 2 refine ⟨_,rfl,?_⟩
 refine Cm 2 st [Ml 2 0,Ml 3 1,(4,vB false)] [(2,0,[vS a.p a.l.length,vI a.root]),(3,1,[vS b.p b.l.length,vI b.root])] fun _ _ => ?_
 refine ⟨_,rfl,?_⟩
 refine ⟨_,Od rfl,?_⟩
 refine ⟨_,rfl,?_⟩
 refine ⟨_,Od rfl,?_⟩
 refine ⟨_,rfl,(ac_laws_eqIntSR a.p b.p a.l b.l st hA hB hb).mono ?_⟩
 rintro _ st ⟨x9,rfl,h9,rfl⟩
 rcases x9 with _|_
 ·replace h9 := fun k => Bool.false_ne_true (h9.2 k)
  refine ⟨_,rfl,?_⟩
  refine Cm 2 st [Ml 2 0,Ml 3 1,(4,vB false),(10,vB true)] [(2,0,[vS a.p a.l.length,vI a.root]),(3,1,[vS b.p b.l.length,vI b.root])] fun _ _ => ?_
  exact cxs (Rt ⟨false,rfl,⟨fun h => absurd h Bool.false_ne_true,fun h => (show False from (absurd (congrArg Tr.leaves h) h9)).elim⟩,rfl⟩)
 ·replace h9 := h9.1 rfl
  refine ⟨_,rfl,?_⟩
  refine Cm 2 st [Ml 2 0,Ml 3 1,(4,vB false),(10,vB false)] [(2,0,[vS a.p a.l.length,vI a.root]),(3,1,[vS b.p b.l.length,vI b.root])] fun _ _ => ?_
  refine cxs ?_
  refine ⟨_,rfl,?_⟩
  refine ⟨_,Od rfl,?_⟩
  refine ⟨_,rfl,?_⟩
  refine ⟨_,Od rfl,?_⟩
  refine ⟨_,rfl,?_⟩
  rintro (_|_) h15
  ·replace h15 : a.root = b.root := bne_eq_false_iff_eq.1 h15
   refine Cm 2 st [(4,vB false),(15,vB false)] [] fun _ _ => ?_
   refine cxs ?_
   exact cxs (Rt ⟨true,rfl,⟨fun _ => by simp only [TV.x,h9,h15],fun _ => rfl⟩,rfl⟩)
  ·replace h15 : ¬ (a.root = b.root) := bne_iff_ne.1 h15
   refine Cm 2 st [(4,vB false),(15,vB true)] [] fun _ _ => ?_
   exact cxs (Rt ⟨false,rfl,⟨fun h => absurd h Bool.false_ne_true,fun h => (show False from (absurd (congrArg Tr.root h) h15)).elim⟩,rfl⟩)
theorem ac_laws_eqMsg (a b : MV) (st : St) (hA : RdM st a) (hB : RdM st b) (hb : bigM a.x) : C 60 [.agg #[vI a.kind,vI a.frm,vI a.to,vI a.num,vI a.hi,vS a.tree.p a.tree.l.length,vI a.tree.root,vS a.vec.p a.vec.l.length,vS a.leaves.p a.leaves.l.length,vS a.part.p a.part.x.items.length,vS a.part.q a.part.x.floors.length,vS a.marks.p a.marks.l.length],.agg #[vI b.kind,vI b.frm,vI b.to,vI b.num,vI b.hi,vS b.tree.p b.tree.l.length,vI b.tree.root,vS b.vec.p b.vec.l.length,vS b.leaves.p b.leaves.l.length,vS b.part.p b.part.x.items.length,vS b.part.q b.part.x.floors.length,vS b.marks.p b.marks.l.length]] st (fun v s => ∃ x,v = .bool x ∧ (x = true ↔ a.x = b.x) ∧ s = st) := by
 refine AC.enterX (i := ⟨[2,3],[2,3,5,7,10,12,15,17,20,22,25,27,30,32,36,38,42,44,48,50,54,56],[0,1,2,3,4,9,14,19,24,29,35,41,47,53,59],[]⟩) [] Try.func60 rfl rfl (by kernel_rfl) (by kernel_rfl) Try.ntmps60 (Lb rfl) rfl ?_
 iterate 2 refine ⟨_,rfl,?_⟩
 refine Cm 2 st [Ml 2 0,Ml 3 1,(4,vB false)] [(2,0,cMV a),(3,1,cMV b)] fun _ _ => ?_
 refine ⟨_,rfl,?_⟩
 refine ⟨_,Od rfl,?_⟩
 refine ⟨_,rfl,?_⟩
 refine ⟨_,Od rfl,?_⟩
 refine ⟨_,rfl,?_⟩
 rintro (_|_) h9
 ·replace h9 : a.kind = b.kind := bne_eq_false_iff_eq.1 h9
  refine Cm 2 st [Ml 2 0,Ml 3 1,(4,vB false),(9,vB false)] [(2,0,cMV a),(3,1,cMV b)] fun _ _ => ?_
  refine cxs ?_
  refine ⟨_,rfl,?_⟩
  refine ⟨_,Od rfl,?_⟩
  refine ⟨_,rfl,?_⟩
  refine ⟨_,Od rfl,?_⟩
  refine ⟨_,rfl,?_⟩
  rintro (_|_) h14
  ·replace h14 : a.frm = b.frm := bne_eq_false_iff_eq.1 h14
   refine Cm 2 st [Ml 2 0,Ml 3 1,(4,vB false),(14,vB false)] [(2,0,cMV a),(3,1,cMV b)] fun _ _ => ?_
   refine cxs ?_
   refine ⟨_,rfl,?_⟩
   refine ⟨_,Od rfl,?_⟩
   refine ⟨_,rfl,?_⟩
   refine ⟨_,Od rfl,?_⟩
   refine ⟨_,rfl,?_⟩
   rintro (_|_) h19
   ·replace h19 : a.to = b.to := bne_eq_false_iff_eq.1 h19
    refine Cm 2 st [Ml 2 0,Ml 3 1,(4,vB false),(19,vB false)] [(2,0,cMV a),(3,1,cMV b)] fun _ _ => ?_
    refine cxs ?_
    refine ⟨_,rfl,?_⟩
    refine ⟨_,Od rfl,?_⟩
    refine ⟨_,rfl,?_⟩
    refine ⟨_,Od rfl,?_⟩
    refine ⟨_,rfl,?_⟩
    rintro (_|_) h24
    ·replace h24 : a.num = b.num := bne_eq_false_iff_eq.1 h24
     refine Cm 2 st [Ml 2 0,Ml 3 1,(4,vB false),(24,vB false)] [(2,0,cMV a),(3,1,cMV b)] fun _ _ => ?_
     refine cxs ?_
     refine ⟨_,rfl,?_⟩
     refine ⟨_,Od rfl,?_⟩
     refine ⟨_,rfl,?_⟩
     refine ⟨_,Od rfl,?_⟩
     refine ⟨_,rfl,?_⟩
     rintro (_|_) h29
     ·replace h29 : a.hi = b.hi := bne_eq_false_iff_eq.1 h29
      refine Cm 2 st [Ml 2 0,Ml 3 1,(4,vB false),(29,vB false)] [(2,0,cMV a),(3,1,cMV b)] fun _ _ => ?_
      refine cxs ?_
      refine ⟨_,rfl,?_⟩
      refine ⟨_,Od rfl,?_⟩
      refine ⟨_,rfl,?_⟩
      refine ⟨_,Od rfl,?_⟩
      refine ⟨_,rfl,(ac_laws_eqTree a.tree b.tree st hA.tree hB.tree hb.tree).mono ?_⟩
      rintro _ st ⟨x34,rfl,h34,rfl⟩
      rcases x34 with _|_
      ·replace h34 := fun k => Bool.false_ne_true (h34.2 k)
       refine ⟨_,rfl,?_⟩
       refine Cm 2 st [Ml 2 0,Ml 3 1,(4,vB false),(35,vB true)] [(2,0,cMV a),(3,1,cMV b)] fun _ _ => ?_
       exact cxs (Rt ⟨false,rfl,⟨fun h => absurd h Bool.false_ne_true,fun h => (show False from (absurd (congrArg Mg.tree h) h34)).elim⟩,rfl⟩)
      ·replace h34 := h34.1 rfl
       refine ⟨_,rfl,?_⟩
       refine Cm 2 st [Ml 2 0,Ml 3 1,(4,vB false),(35,vB false)] [(2,0,cMV a),(3,1,cMV b)] fun _ _ => ?_
       refine cxs ?_
       refine ⟨_,rfl,?_⟩
       refine ⟨_,Od rfl,?_⟩
       refine ⟨_,rfl,?_⟩
       refine ⟨_,Od rfl,?_⟩
       refine ⟨_,rfl,(ac_laws_eqIntSR a.vec.p b.vec.p a.vec.l b.vec.l st hA.vec hB.vec hb.vec).mono ?_⟩
       rintro _ st ⟨x40,rfl,h40,rfl⟩
       rcases x40 with _|_
       ·replace h40 := fun k => Bool.false_ne_true (h40.2 k)
        refine ⟨_,rfl,?_⟩
        refine Cm 2 st [Ml 2 0,Ml 3 1,(4,vB false),(41,vB true)] [(2,0,cMV a),(3,1,cMV b)] fun _ _ => ?_
        exact cxs (Rt ⟨false,rfl,⟨fun h => absurd h Bool.false_ne_true,fun h => (show False from (absurd (congrArg Mg.vec h) h40)).elim⟩,rfl⟩)
       ·replace h40 := h40.1 rfl
        refine ⟨_,rfl,?_⟩
        refine Cm 2 st [Ml 2 0,Ml 3 1,(4,vB false),(41,vB false)] [(2,0,cMV a),(3,1,cMV b)] fun _ _ => ?_
        refine cxs ?_
        refine ⟨_,rfl,?_⟩
        refine ⟨_,Od rfl,?_⟩
        refine ⟨_,rfl,?_⟩
        refine ⟨_,Od rfl,?_⟩
        refine ⟨_,rfl,(ac_laws_eqIntSR a.leaves.p b.leaves.p a.leaves.l b.leaves.l st hA.leaves hB.leaves hb.leaves).mono ?_⟩
        rintro _ st ⟨x46,rfl,h46,rfl⟩
        rcases x46 with _|_
        ·replace h46 := fun k => Bool.false_ne_true (h46.2 k)
         refine ⟨_,rfl,?_⟩
         refine Cm 2 st [Ml 2 0,Ml 3 1,(4,vB false),(47,vB true)] [(2,0,cMV a),(3,1,cMV b)] fun _ _ => ?_
         exact cxs (Rt ⟨false,rfl,⟨fun h => absurd h Bool.false_ne_true,fun h => (show False from (absurd (congrArg Mg.leaves h) h46)).elim⟩,rfl⟩)
        ·replace h46 := h46.1 rfl
         refine ⟨_,rfl,?_⟩
         refine Cm 2 st [Ml 2 0,Ml 3 1,(4,vB false),(47,vB false)] [(2,0,cMV a),(3,1,cMV b)] fun _ _ => ?_
         refine cxs ?_
         refine ⟨_,rfl,?_⟩
         refine ⟨_,Od rfl,?_⟩
         refine ⟨_,rfl,?_⟩
         refine ⟨_,Od rfl,?_⟩
         refine ⟨_,rfl,(ac_laws_eqState a.part b.part st hA.part hB.part hb.part).mono ?_⟩
         rintro _ st ⟨x52,rfl,h52,rfl⟩
         rcases x52 with _|_
         ·replace h52 := fun k => Bool.false_ne_true (h52.2 k)
          refine ⟨_,rfl,?_⟩
          refine Cm 2 st [Ml 2 0,Ml 3 1,(4,vB false),(53,vB true)] [(2,0,cMV a),(3,1,cMV b)] fun _ _ => ?_
          exact cxs (Rt ⟨false,rfl,⟨fun h => absurd h Bool.false_ne_true,fun h => (show False from (absurd (congrArg Mg.part h) h52)).elim⟩,rfl⟩)
         ·replace h52 := h52.1 rfl
          refine ⟨_,rfl,?_⟩
          refine Cm 2 st [Ml 2 0,Ml 3 1,(4,vB false),(53,vB false)] [(2,0,cMV a),(3,1,cMV b)] fun _ _ => ?_
          refine cxs ?_
          refine ⟨_,rfl,?_⟩
          refine ⟨_,Od rfl,?_⟩
          refine ⟨_,rfl,?_⟩
          refine ⟨_,Od rfl,?_⟩
          refine ⟨_,rfl,(ac_laws_eqMarkS a.marks.p b.marks.p a.marks.l b.marks.l st hA.marks hB.marks hb.marks).mono ?_⟩
          rintro _ st ⟨x58,rfl,h58,rfl⟩
          rcases x58 with _|_
          ·replace h58 := fun k => Bool.false_ne_true (h58.2 k)
           refine ⟨_,rfl,?_⟩
           refine Cm 2 st [(4,vB false),(59,vB true)] [] fun _ _ => ?_
           exact cxs (Rt ⟨false,rfl,⟨fun h => absurd h Bool.false_ne_true,fun h => (show False from (absurd (congrArg Mg.marks h) h58)).elim⟩,rfl⟩)
          ·replace h58 := h58.1 rfl
           refine ⟨_,rfl,?_⟩
           refine Cm 2 st [(4,vB false),(59,vB false)] [] fun _ _ => ?_
           refine cxs ?_
           exact cxs (Rt ⟨true,rfl,⟨fun _ => by simp only [MV.x,h9,h14,h19,h24,h29,h34,h40,h46,h52,h58],fun _ => rfl⟩,rfl⟩)
     ·replace h29 : ¬ (a.hi = b.hi) := bne_iff_ne.1 h29
      refine Cm 2 st [Ml 2 0,Ml 3 1,(4,vB false),(29,vB true)] [(2,0,cMV a),(3,1,cMV b)] fun _ _ => ?_
      exact cxs (Rt ⟨false,rfl,⟨fun h => absurd h Bool.false_ne_true,fun h => (show False from (absurd (congrArg Mg.hi h) h29)).elim⟩,rfl⟩)
    ·replace h24 : ¬ (a.num = b.num) := bne_iff_ne.1 h24
     refine Cm 2 st [Ml 2 0,Ml 3 1,(4,vB false),(24,vB true)] [(2,0,cMV a),(3,1,cMV b)] fun _ _ => ?_
     exact cxs (Rt ⟨false,rfl,⟨fun h => absurd h Bool.false_ne_true,fun h => (show False from (absurd (congrArg Mg.num h) h24)).elim⟩,rfl⟩)
   ·replace h19 : ¬ (a.to = b.to) := bne_iff_ne.1 h19
    refine Cm 2 st [Ml 2 0,Ml 3 1,(4,vB false),(19,vB true)] [(2,0,cMV a),(3,1,cMV b)] fun _ _ => ?_
    exact cxs (Rt ⟨false,rfl,⟨fun h => absurd h Bool.false_ne_true,fun h => (show False from (absurd (congrArg Mg.to h) h19)).elim⟩,rfl⟩)
  ·replace h14 : ¬ (a.frm = b.frm) := bne_iff_ne.1 h14
   refine Cm 2 st [Ml 2 0,Ml 3 1,(4,vB false),(14,vB true)] [(2,0,cMV a),(3,1,cMV b)] fun _ _ => ?_
   exact cxs (Rt ⟨false,rfl,⟨fun h => absurd h Bool.false_ne_true,fun h => (show False from (absurd (congrArg Mg.frm h) h14)).elim⟩,rfl⟩)
 ·replace h9 : ¬ (a.kind = b.kind) := bne_iff_ne.1 h9
  refine Cm 2 st [Ml 2 0,Ml 3 1,(4,vB false),(9,vB true)] [(2,0,cMV a),(3,1,cMV b)] fun _ _ => ?_
  exact cxs (Rt ⟨false,rfl,⟨fun h => absurd h Bool.false_ne_true,fun h => (show False from (absurd (congrArg Mg.kind h) h9)).elim⟩,rfl⟩)
end Go.Proofs.Yteabadoaeadcgaa.AM
