/- Part 5 of the texts on which the law's proof rests. -/
import Derived.Test.YtpnolkhfeliehaaGreatXsd
namespace Go.Proofs.YtpnolkhfeliehaaGreat.AM
open Go Go.Proofs
set_option linter.unusedVariables false
set_option linter.unusedSimpArgs false
set_option maxRecDepth 100000
set_option maxHeartbeats 4000000
theorem ac_laws_toSess (x : Ses) (st : St) : C 183 [.agg #[vI x.peer,vI x.num,vB x.inn,vI x.age]] st (fun v s => v = .agg #[vI x.peer,vI x.num,vB x.inn,vI x.age] ∧ s = st) := by
 refine AC.enterX (i := ⟨[1,2,3],[1,2,3,4,6,7,9,10,12,13,15],[0,1,2,3],[]⟩) [] Tryz.func183 rfl rfl (by kernel_rfl) (by kernel_rfl) Tryz.ntmps183 (Lb rfl) rfl ?_
 iterate 2 refine ⟨_,rfl,?_⟩
 refine Cm 2 st [Ml 1 0,Ml 2 1] [(1,0,[vI x.peer,vI x.num,vB x.inn,vI x.age]),(2,1,[vI 0,vI 0,vB false,vI 0])] fun _ _ => ?_
 refine ⟨_,rfl,?_⟩
 refine Cm 3 st [Ml 1 0,Ml 2 1,Ml 3 2] [(1,0,[vI x.peer,vI x.num,vB x.inn,vI x.age]),(2,1,[vI 0,vI 0,vB false,vI 0]),(3,2,[vI 0,vI 0,vB false,vI 0])] fun _ _ => ?_
 iterate 4 refine ⟨_,rfl,?_⟩
 refine Cm 3 st [Ml 1 0,Ml 2 1,Ml 3 2] [(1,0,[vI x.peer,vI x.num,vB x.inn,vI x.age]),(2,1,[vI 0,vI 0,vB false,vI 0]),(3,2,[vI x.peer,vI 0,vB false,vI 0])] fun _ _ => ?_
 iterate 4 refine ⟨_,rfl,?_⟩
 refine Cm 3 st [Ml 1 0,Ml 2 1,Ml 3 2] [(1,0,[vI x.peer,vI x.num,vB x.inn,vI x.age]),(2,1,[vI 0,vI 0,vB false,vI 0]),(3,2,[vI x.peer,vI x.num,vB false,vI 0])] fun _ _ => ?_
 iterate 4 refine ⟨_,rfl,?_⟩
 refine Cm 3 st [Ml 1 0,Ml 2 1,Ml 3 2] [(1,0,[vI x.peer,vI x.num,vB x.inn,vI x.age]),(2,1,[vI 0,vI 0,vB false,vI 0]),(3,2,[vI x.peer,vI x.num,vB x.inn,vI 0])] fun _ _ => ?_
 iterate 4 refine ⟨_,rfl,?_⟩
 refine Cm 3 st [Ml 2 1,Ml 3 2] [(2,1,[vI 0,vI 0,vB false,vI 0]),(3,2,[vI x.peer,vI x.num,vB x.inn,vI x.age])] fun _ _ => ?_
 iterate 2 refine ⟨_,rfl,?_⟩
 exact cxs (Rt ⟨rfl,rfl⟩)
theorem ac_laws_toRise (x : Ris) (st : St) : C 184 [.agg #[vI x.inc,vI x.beat,vI x.tick]] st (fun v s => v = .agg #[vI x.inc,vI x.beat,vI x.tick] ∧ s = st) := by
 refine AC.enterX (i := ⟨[1,2,3],[1,2,3,4,6,7,9,10,12],[0,1,2,3],[]⟩) [] Tryz.func184 rfl rfl (by kernel_rfl) (by kernel_rfl) Tryz.ntmps184 (Lb rfl) rfl ?_
 iterate 2 refine ⟨_,rfl,?_⟩
 refine Cm 2 st [Ml 1 0,Ml 2 1] [(1,0,[vI x.inc,vI x.beat,vI x.tick]),(2,1,[vI 0,vI 0,vI 0])] fun _ _ => ?_
 refine ⟨_,rfl,?_⟩
 refine Cm 3 st [Ml 1 0,Ml 2 1,Ml 3 2] [(1,0,[vI x.inc,vI x.beat,vI x.tick]),(2,1,[vI 0,vI 0,vI 0]),(3,2,[vI 0,vI 0,vI 0])] fun _ _ => ?_
 iterate 4 refine ⟨_,rfl,?_⟩
 refine Cm 3 st [Ml 1 0,Ml 2 1,Ml 3 2] [(1,0,[vI x.inc,vI x.beat,vI x.tick]),(2,1,[vI 0,vI 0,vI 0]),(3,2,[vI x.inc,vI 0,vI 0])] fun _ _ => ?_
 iterate 4 refine ⟨_,rfl,?_⟩
 refine Cm 3 st [Ml 1 0,Ml 2 1,Ml 3 2] [(1,0,[vI x.inc,vI x.beat,vI x.tick]),(2,1,[vI 0,vI 0,vI 0]),(3,2,[vI x.inc,vI x.beat,vI 0])] fun _ _ => ?_
 iterate 4 refine ⟨_,rfl,?_⟩
 refine Cm 3 st [Ml 2 1,Ml 3 2] [(2,1,[vI 0,vI 0,vI 0]),(3,2,[vI x.inc,vI x.beat,vI x.tick])] fun _ _ => ?_
 iterate 2 refine ⟨_,rfl,?_⟩
 exact cxs (Rt ⟨rfl,rfl⟩)
theorem ac_laws_eqSess (x y : Ses) (st : St) : C 186 [.agg #[vI x.peer,vI x.num,vB x.inn,vI x.age],.agg #[vI y.peer,vI y.num,vB y.inn,vI y.age]] st (fun v s => ∃ b,v = .bool b ∧ (b = true ↔ x = y) ∧ s = st) := by
 refine AC.enterX (i := ⟨[2,3],[2,3,5,7,10,12,15,17,20,22],[0,1,2,3,4,9,14,19,24],[]⟩) [] Tryz.func186 rfl rfl (by kernel_rfl) (by kernel_rfl) Tryz.ntmps186 (Lb rfl) rfl ?_
 iterate 2 refine ⟨_,rfl,?_⟩
 refine Cm 2 st [Ml 2 0,Ml 3 1,(4,vB false)] [(2,0,[vI x.peer,vI x.num,vB x.inn,vI x.age]),(3,1,[vI y.peer,vI y.num,vB y.inn,vI y.age])] fun _ _ => ?_
 refine ⟨_,rfl,?_⟩
 refine ⟨_,Od rfl,?_⟩
 refine ⟨_,rfl,?_⟩
 refine ⟨_,Od rfl,?_⟩
 refine ⟨_,rfl,?_⟩
 rintro (_|_) h9
 ·replace h9 : x.peer = y.peer := bne_eq_false_iff_eq.1 h9
  refine Cm 2 st [Ml 2 0,Ml 3 1,(4,vB false),(9,vB false)] [(2,0,[vI x.peer,vI x.num,vB x.inn,vI x.age]),(3,1,[vI y.peer,vI y.num,vB y.inn,vI y.age])] fun _ _ => ?_
  refine cxs ?_
  refine ⟨_,rfl,?_⟩
  refine ⟨_,Od rfl,?_⟩
  refine ⟨_,rfl,?_⟩
  refine ⟨_,Od rfl,?_⟩
  refine ⟨_,rfl,?_⟩
  rintro (_|_) h14
  ·replace h14 : x.num = y.num := bne_eq_false_iff_eq.1 h14
   refine Cm 2 st [Ml 2 0,Ml 3 1,(4,vB false),(14,vB false)] [(2,0,[vI x.peer,vI x.num,vB x.inn,vI x.age]),(3,1,[vI y.peer,vI y.num,vB y.inn,vI y.age])] fun _ _ => ?_
   refine cxs ?_
   refine ⟨_,rfl,?_⟩
   refine ⟨_,Od rfl,?_⟩
   refine ⟨_,rfl,?_⟩
   refine ⟨_,Od rfl,?_⟩
   refine ⟨_,rfl,?_⟩
   rintro (_|_) h19
   ·replace h19 : x.inn = y.inn := b_eq h19
    refine Cm 2 st [Ml 2 0,Ml 3 1,(4,vB false),(19,vB false)] [(2,0,[vI x.peer,vI x.num,vB x.inn,vI x.age]),(3,1,[vI y.peer,vI y.num,vB y.inn,vI y.age])] fun _ _ => ?_
    refine cxs ?_
    refine ⟨_,rfl,?_⟩
    refine ⟨_,Od rfl,?_⟩
    refine ⟨_,rfl,?_⟩
    refine ⟨_,Od rfl,?_⟩
    refine ⟨_,rfl,?_⟩
    rintro (_|_) h24
    ·replace h24 : x.age = y.age := bne_eq_false_iff_eq.1 h24
     refine Cm 2 st [(4,vB false),(24,vB false)] [] fun _ _ => ?_
     refine cxs ?_
     exact cxs (Rt ⟨true,rfl,⟨fun _ => by cases x; cases y; simp only at h9 h14 h19 h24; rw [h9,h14,h19,h24],fun _ => rfl⟩,rfl⟩)
    ·replace h24 : ¬ (x.age = y.age) := bne_iff_ne.1 h24
     refine Cm 2 st [(4,vB false),(24,vB true)] [] fun _ _ => ?_
     exact cxs (Rt ⟨false,rfl,⟨fun h => Bool.noConfusion h,fun h => absurd (by rw [h]) h24⟩,rfl⟩)
   ·replace h19 : ¬ (x.inn = y.inn) := b_ne h19
    refine Cm 2 st [Ml 2 0,Ml 3 1,(4,vB false),(19,vB true)] [(2,0,[vI x.peer,vI x.num,vB x.inn,vI x.age]),(3,1,[vI y.peer,vI y.num,vB y.inn,vI y.age])] fun _ _ => ?_
    exact cxs (Rt ⟨false,rfl,⟨fun h => Bool.noConfusion h,fun h => absurd (by rw [h]) h19⟩,rfl⟩)
  ·replace h14 : ¬ (x.num = y.num) := bne_iff_ne.1 h14
   refine Cm 2 st [Ml 2 0,Ml 3 1,(4,vB false),(14,vB true)] [(2,0,[vI x.peer,vI x.num,vB x.inn,vI x.age]),(3,1,[vI y.peer,vI y.num,vB y.inn,vI y.age])] fun _ _ => ?_
   exact cxs (Rt ⟨false,rfl,⟨fun h => Bool.noConfusion h,fun h => absurd (by rw [h]) h14⟩,rfl⟩)
 ·replace h9 : ¬ (x.peer = y.peer) := bne_iff_ne.1 h9
  refine Cm 2 st [Ml 2 0,Ml 3 1,(4,vB false),(9,vB true)] [(2,0,[vI x.peer,vI x.num,vB x.inn,vI x.age]),(3,1,[vI y.peer,vI y.num,vB y.inn,vI y.age])] fun _ _ => ?_
  exact cxs (Rt ⟨false,rfl,⟨fun h => Bool.noConfusion h,fun h => absurd (by rw [h]) h9⟩,rfl⟩)
theorem ac_laws_eqRise (x y : Ris) (st : St) : C 187 [.agg #[vI x.inc,vI x.beat,vI x.tick],.agg #[vI y.inc,vI y.beat,vI y.tick]] st (fun v s => ∃ b,v = .bool b ∧ (b = true ↔ x = y) ∧ s = st) := by
 refine AC.enterX (i := ⟨[2,3],[2,3,5,7,10,12,15,17],[0,1,2,3,4,9,14,19],[]⟩) [] Tryz.func187 rfl rfl (by kernel_rfl) (by kernel_rfl) Tryz.ntmps187 (Lb rfl) rfl ?_
 iterate 2 refine ⟨_,rfl,?_⟩
 refine Cm 2 st [Ml 2 0,Ml 3 1,(4,vB false)] [(2,0,[vI x.inc,vI x.beat,vI x.tick]),(3,1,[vI y.inc,vI y.beat,vI y.tick])] fun _ _ => ?_
 refine ⟨_,rfl,?_⟩
 refine ⟨_,Od rfl,?_⟩
 refine ⟨_,rfl,?_⟩
 refine ⟨_,Od rfl,?_⟩
 refine ⟨_,rfl,?_⟩
 rintro (_|_) h9
 ·replace h9 : x.inc = y.inc := bne_eq_false_iff_eq.1 h9
  refine Cm 2 st [Ml 2 0,Ml 3 1,(4,vB false),(9,vB false)] [(2,0,[vI x.inc,vI x.beat,vI x.tick]),(3,1,[vI y.inc,vI y.beat,vI y.tick])] fun _ _ => ?_
  refine cxs ?_
  refine ⟨_,rfl,?_⟩
  refine ⟨_,Od rfl,?_⟩
  refine ⟨_,rfl,?_⟩
  refine ⟨_,Od rfl,?_⟩
  refine ⟨_,rfl,?_⟩
  rintro (_|_) h14
  ·replace h14 : x.beat = y.beat := bne_eq_false_iff_eq.1 h14
   refine Cm 2 st [Ml 2 0,Ml 3 1,(4,vB false),(14,vB false)] [(2,0,[vI x.inc,vI x.beat,vI x.tick]),(3,1,[vI y.inc,vI y.beat,vI y.tick])] fun _ _ => ?_
   refine cxs ?_
   refine ⟨_,rfl,?_⟩
   refine ⟨_,Od rfl,?_⟩
   refine ⟨_,rfl,?_⟩
   refine ⟨_,Od rfl,?_⟩
   refine ⟨_,rfl,?_⟩
   rintro (_|_) h19
   ·replace h19 : x.tick = y.tick := bne_eq_false_iff_eq.1 h19
    refine Cm 2 st [(4,vB false),(19,vB false)] [] fun _ _ => ?_
    refine cxs ?_
    exact cxs (Rt ⟨true,rfl,⟨fun _ => by cases x; cases y; simp only at h9 h14 h19; rw [h9,h14,h19],fun _ => rfl⟩,rfl⟩)
   ·replace h19 : ¬ (x.tick = y.tick) := bne_iff_ne.1 h19
    refine Cm 2 st [(4,vB false),(19,vB true)] [] fun _ _ => ?_
    exact cxs (Rt ⟨false,rfl,⟨fun h => Bool.noConfusion h,fun h => absurd (by rw [h]) h19⟩,rfl⟩)
  ·replace h14 : ¬ (x.beat = y.beat) := bne_iff_ne.1 h14
   refine Cm 2 st [Ml 2 0,Ml 3 1,(4,vB false),(14,vB true)] [(2,0,[vI x.inc,vI x.beat,vI x.tick]),(3,1,[vI y.inc,vI y.beat,vI y.tick])] fun _ _ => ?_
   exact cxs (Rt ⟨false,rfl,⟨fun h => Bool.noConfusion h,fun h => absurd (by rw [h]) h14⟩,rfl⟩)
 ·replace h9 : ¬ (x.inc = y.inc) := bne_iff_ne.1 h9
  refine Cm 2 st [Ml 2 0,Ml 3 1,(4,vB false),(9,vB true)] [(2,0,[vI x.inc,vI x.beat,vI x.tick]),(3,1,[vI y.inc,vI y.beat,vI y.tick])] fun _ _ => ?_
  exact cxs (Rt ⟨false,rfl,⟨fun h => Bool.noConfusion h,fun h => absurd (by rw [h]) h9⟩,rfl⟩)
theorem ac_laws_toSessS (p : Option Addr) (l : List Ses) (st : St) (hR : Rows st 4 cSess p l) (hs : szOk l.length) : C 116 [vS p l.length] st (fun v s => ∃ q,v = vS q l.length ∧ OwnR s 4 cSess q l ∧ Pres st s ∧ New st.next q) := by
 have hs : l.length ≤ 1048576 := hs
 refine AC.enterX (i := ⟨[],[],[0,2,3,4,11],[]⟩) [] Tryz.func116 rfl rfl (by kernel_rfl) (by kernel_rfl) Tryz.ntmps116 (Lb rfl) rfl ?_
 refine Cu lo0 st [(0,vS p l.length),(2,Sn)] fun _ => ?_
 refine ⟨_,rfl,?_⟩
 refine op_mkK (z := 4) (f := cSess) (a := zSes) (b := 32) (i := l.length) rfl rfl rfl rfl rfl rfl rfl rfl rfl (Lb rfl) rfl rfl (by omega) (by omega) ?_
 intro q s1 hO hP hN
 refine cxs ?_
 refine Cu lo0 s1 [(0,vS p l.length),(2,Sn),(3,vS q l.length),(4,vI 0)] fun _ => ?_
 refine AW.loop0 (fun i : Nat => [(0,vS p l.length),(3,vS q l.length),(4,vI (i : Int))]) (fun m (i : Nat) st' => m = l.length - i ∧ i ≤ l.length ∧ OwnR st' 4 cSess q (l.take i ++ List.replicate (l.length - i) zSes) ∧ Pr q s1 st') 0 _ ⟨rfl,rfl,rfl,trivial⟩ rfl ⟨rfl,Nat.zero_le _,hO,Pr.refl _ _⟩ ?_
 rintro m i ρ0 st' ⟨rfl,hi,hO',hP'⟩
 have hP2 := hP'.pres hP hN
 iterate 2 refine ⟨_,rfl,?_⟩
 rintro (_|_) h1
 ·replace h1 : ¬ ((i : Int) < (l.length : Int)) := of_decide_eq_false h1
  refine Cu lo0 st' [(0,vS p l.length),(3,vS q l.length),(4,vI (i : Int)),(11,vB false)] fun _ => ?_
  refine cxs ?_
  refine cxs ?_
  have hil : i = l.length := by omega
  subst hil
  rw [List.take_length,Nat.sub_self,List.replicate_zero,List.append_nil] at hO'
  exact Rt ⟨q,rfl,hO',hP2,hN⟩
 ·replace h1 : (i : Int) < (l.length : Int) := of_decide_eq_true h1
  refine Cu lo0 st' [(0,vS p l.length),(3,vS q l.length),(4,vI (i : Int)),(11,vB true)] fun _ => ?_
  have ⟨b1,o1,k1,x,hpe,hx,hm1,hc1⟩ := (hP2.rows hR).at (Int.ofNat_lt.1 h1)
  have hlen : i < (l.take i ++ List.replicate (l.length - i) zSes).length := by have := Int.ofNat_lt.1 h1; simp; omega
  have ⟨a,ha⟩ := hO'.some (by omega)
  refine cxs ?_
  refine ⟨_,op_idx (j := (i : Int)) (n := l.length) (q := ⟨b1,o1,none⟩) rfl (congrArg (fun u => vS u l.length) hpe) rfl rfl rfl (Int.natCast_nonneg _) h1,?_⟩
  refine ⟨_,op_lda rfl rfl rfl rfl rfl hm1 hc1 rfl,?_⟩
  refine ⟨_,rfl,(ac_laws_toSess x st').mono ?_⟩
  rintro _ st' ⟨rfl,rfl⟩
  refine ⟨_,op_idx (j := (i : Int)) (n := l.length) (q := ⟨a,0,none⟩) rfl (congrArg (fun u => vS u l.length) ha) rfl rfl rfl (Int.natCast_nonneg _) h1,?_⟩
  refine op_put (st := st') (f := cSess) (j := i) (l := l.take i ++ List.replicate (l.length - i) zSes) (y := x) (p := q) (d := 0 + i * 4) rfl rfl (Nat.zero_add _) rfl rfl len_cSess rfl rfl hlen hO' ha ?_
  intro s5 hO5 hP5 hn5
  rw [fill_set hx] at hO5
  refine Cu lo0 s5 [(0,vS p l.length),(3,vS q l.length),(4,vI (i : Int)),(11,vB true)] fun _ => ?_
  have e1 : IntKind.wrap .i64 ((i : Int) + 1) = ((i + 1 : Nat) : Int) := wrap_i64 (by omega) (by omega)
  refine ⟨_,rfl,?_⟩
  exact ⟨i + 1,l.length - (i + 1),by have := Int.ofNat_lt.1 h1; omega,⟨rfl,rfl,congrArg (Value.int .i64) e1,trivial⟩,rfl,rfl,Int.ofNat_lt.1 h1,hO5,hP'.trans hP5⟩
theorem ac_laws_eqSessS (p q : Option Addr) (a b : List Ses) (st : St) (hA : Rows st 4 cSess p a) (hB : Rows st 4 cSess q b) (hs : szOk a.length) : C 122 [vS p a.length,vS q b.length] st (fun v s => ∃ x,v = .bool x ∧ (x = true ↔ a = b) ∧ s = st) := by
 have hs : a.length ≤ 1048576 := hs
 refine AC.enterX (i := ⟨[],[],[0,1,4,5,10,14,26],[]⟩) [(6,[],[])] Tryz.func122 rfl rfl (by kernel_rfl) (by kernel_rfl) Tryz.ntmps122 (Lb rfl) rfl ?_
 refine Cu lo0 st [(0,vS p a.length),(1,vS q b.length),(4,vB false)] fun _ => ?_
 iterate 3 refine ⟨_,rfl,?_⟩
 rintro (_|_) h1
 ·replace h1 : (a.length : Int) = (b.length : Int) := bne_eq_false_iff_eq.1 h1
  refine Cu lo0 st [(0,vS p a.length),(1,vS q b.length),(4,vB false),(10,vB false)] fun _ => ?_
  refine cxs ?_
  refine Cu lo0 st [(0,vS p a.length),(1,vS q b.length),(4,vB false),(5,vI 0)] fun _ => ?_
  refine AW.loop0 (fun i : Nat => [(0,vS p a.length),(1,vS q b.length),(4,vB false),(5,vI (i : Int))]) (fun m (i : Nat) st' => m = a.length - i ∧ i ≤ a.length ∧ (∀ (j : Nat) x y,j < i → a[j]? = some x → b[j]? = some y → x = y) ∧ st = st') 0 _ ⟨rfl,rfl,rfl,rfl,trivial⟩ rfl ⟨rfl,Nat.zero_le _,fun j x y h => absurd h (Nat.not_lt_zero _),rfl⟩ ?_
  rintro m i ρ0 st' ⟨rfl,hi,heq,rfl⟩
  iterate 2 refine ⟨_,rfl,?_⟩
  rintro (_|_) h2
  ·replace h2 : ¬ ((i : Int) < (a.length : Int)) := of_decide_eq_false h2
   refine Cu lo0 st [(0,vS p a.length),(1,vS q b.length),(4,vB false),(5,vI (i : Int)),(14,vB false)] fun _ => ?_
   refine cxs ?_
   exact cxs (Rt ⟨true,rfl,⟨fun _ => iff_lists (by omega) fun j x y hj hx hy => heq j x y (by omega) hx hy,fun _ => rfl⟩,rfl⟩)
  ·replace h2 : (i : Int) < (a.length : Int) := of_decide_eq_true h2
   refine Cu lo0 st [(0,vS p a.length),(1,vS q b.length),(4,vB false),(5,vI (i : Int)),(14,vB true)] fun _ => ?_
   have ⟨b1,o1,k1,x,hpe,hx,hm1,hc1⟩ := hA.at (Int.ofNat_lt.1 h2)
   have ⟨b2,o2,k2,y,hqe,hy,hm2,hc2⟩ := hB.at (j := i) (by have := Int.ofNat_lt.1 h2; omega)
   refine cxs ?_
   refine ⟨_,op_idx (j := (i : Int)) (n := a.length) (q := ⟨b1,o1,none⟩) rfl (congrArg (fun u => vS u a.length) hpe) rfl rfl rfl (Int.natCast_nonneg _) h2,?_⟩
   refine ⟨_,op_lda rfl rfl rfl rfl rfl hm1 hc1 rfl,?_⟩
   refine ⟨_,op_idx (j := (i : Int)) (n := b.length) (q := ⟨b2,o2,none⟩) rfl (congrArg (fun u => vS u b.length) hqe) rfl rfl rfl (Int.natCast_nonneg _) (h1 ▸ h2),?_⟩
   refine ⟨_,op_lda rfl rfl rfl rfl rfl hm2 hc2 rfl,?_⟩
   refine ⟨_,rfl,(ac_laws_eqSess x y st).mono ?_⟩
   rintro _ st ⟨c,rfl,h3,rfl⟩
   rcases c with _|_
   ·replace h3 := fun k => Bool.false_ne_true (h3.2 k)
    refine ⟨_,rfl,?_⟩
    refine Cu lo0 st [(0,vS p a.length),(1,vS q b.length),(4,vB false),(5,vI (i : Int)),(14,vB true),(26,vB true)] fun _ => ?_
    have e1 : IntKind.wrap .i64 ((i : Int) + 1) = ((i + 1 : Nat) : Int) := wrap_i64 (by omega) (by omega)
    exact cxs (Rt ⟨false,rfl,⟨fun h => Bool.noConfusion h,fun h => absurd (by rw [h,hy] at hx; injection hx with hx; exact hx.symm) h3⟩,rfl⟩)
   ·replace h3 := h3.1 rfl
    refine ⟨_,rfl,?_⟩
    refine Cu lo0 st [(0,vS p a.length),(1,vS q b.length),(4,vB false),(5,vI (i : Int)),(14,vB true),(26,vB false)] fun _ => ?_
    have e1 : IntKind.wrap .i64 ((i : Int) + 1) = ((i + 1 : Nat) : Int) := wrap_i64 (by omega) (by omega)
    refine cxs ?_
    refine ⟨_,rfl,?_⟩
    refine ⟨i + 1,a.length - (i + 1),by have := Int.ofNat_lt.1 h2; omega,⟨rfl,rfl,rfl,congrArg (Value.int .i64) e1,trivial⟩,rfl,rfl,Int.ofNat_lt.1 h2,fun j u v hj hu hv => ?_,rfl⟩
    rcases Nat.lt_or_ge j i with h | h
    ·exact heq j u v h hu hv
    ·obtain rfl : j = i := by omega
     rw [hx] at hu; rw [hy] at hv
     injection hu with hu; injection hv with hv
     rw [← hu,← hv]; exact h3
 ·replace h1 : ¬ ((a.length : Int) = (b.length : Int)) := bne_iff_ne.1 h1
  refine Cu lo0 st [(0,vS p a.length),(1,vS q b.length),(4,vB false),(10,vB true)] fun _ => ?_
  exact cxs (Rt ⟨false,rfl,⟨fun h => Bool.noConfusion h,fun h => absurd (congrArg (fun l => (List.length l : Int)) h) h1⟩,rfl⟩)
theorem ac_laws_toRiseS (p : Option Addr) (l : List Ris) (st : St) (hR : Rows st 3 cRise p l) (hs : szOk l.length) : C 117 [vS p l.length] st (fun v s => ∃ q,v = vS q l.length ∧ OwnR s 3 cRise q l ∧ Pres st s ∧ New st.next q) := by
 have hs : l.length ≤ 1048576 := hs
 refine AC.enterX (i := ⟨[],[],[0,2,3,4,11],[]⟩) [] Tryz.func117 rfl rfl (by kernel_rfl) (by kernel_rfl) Tryz.ntmps117 (Lb rfl) rfl ?_
 refine Cu lo0 st [(0,vS p l.length),(2,Sn)] fun _ => ?_
 refine ⟨_,rfl,?_⟩
 refine op_mkK (z := 3) (f := cRise) (a := zRis) (b := 24) (i := l.length) rfl rfl rfl rfl rfl rfl rfl rfl rfl (Lb rfl) rfl rfl (by omega) (by omega) ?_
 intro q s1 hO hP hN
 refine cxs ?_
 refine Cu lo0 s1 [(0,vS p l.length),(2,Sn),(3,vS q l.length),(4,vI 0)] fun _ => ?_
 refine AW.loop0 (fun i : Nat => [(0,vS p l.length),(3,vS q l.length),(4,vI (i : Int))]) (fun m (i : Nat) st' => m = l.length - i ∧ i ≤ l.length ∧ OwnR st' 3 cRise q (l.take i ++ List.replicate (l.length - i) zRis) ∧ Pr q s1 st') 0 _ ⟨rfl,rfl,rfl,trivial⟩ rfl ⟨rfl,Nat.zero_le _,hO,Pr.refl _ _⟩ ?_
 rintro m i ρ0 st' ⟨rfl,hi,hO',hP'⟩
 have hP2 := hP'.pres hP hN
 iterate 2 refine ⟨_,rfl,?_⟩
 rintro (_|_) h1
 ·replace h1 : ¬ ((i : Int) < (l.length : Int)) := of_decide_eq_false h1
  refine Cu lo0 st' [(0,vS p l.length),(3,vS q l.length),(4,vI (i : Int)),(11,vB false)] fun _ => ?_
  refine cxs ?_
  refine cxs ?_
  have hil : i = l.length := by omega
  subst hil
  rw [List.take_length,Nat.sub_self,List.replicate_zero,List.append_nil] at hO'
  exact Rt ⟨q,rfl,hO',hP2,hN⟩
 ·replace h1 : (i : Int) < (l.length : Int) := of_decide_eq_true h1
  refine Cu lo0 st' [(0,vS p l.length),(3,vS q l.length),(4,vI (i : Int)),(11,vB true)] fun _ => ?_
  have ⟨b1,o1,k1,x,hpe,hx,hm1,hc1⟩ := (hP2.rows hR).at (Int.ofNat_lt.1 h1)
  have hlen : i < (l.take i ++ List.replicate (l.length - i) zRis).length := by have := Int.ofNat_lt.1 h1; simp; omega
  have ⟨a,ha⟩ := hO'.some (by omega)
  refine cxs ?_
  refine ⟨_,op_idx (j := (i : Int)) (n := l.length) (q := ⟨b1,o1,none⟩) rfl (congrArg (fun u => vS u l.length) hpe) rfl rfl rfl (Int.natCast_nonneg _) h1,?_⟩
  refine ⟨_,op_lda rfl rfl rfl rfl rfl hm1 hc1 rfl,?_⟩
  refine ⟨_,rfl,(ac_laws_toRise x st').mono ?_⟩
  rintro _ st' ⟨rfl,rfl⟩
  refine ⟨_,op_idx (j := (i : Int)) (n := l.length) (q := ⟨a,0,none⟩) rfl (congrArg (fun u => vS u l.length) ha) rfl rfl rfl (Int.natCast_nonneg _) h1,?_⟩
  refine op_put (st := st') (f := cRise) (j := i) (l := l.take i ++ List.replicate (l.length - i) zRis) (y := x) (p := q) (d := 0 + i * 3) rfl rfl (Nat.zero_add _) rfl rfl len_cRise rfl rfl hlen hO' ha ?_
  intro s5 hO5 hP5 hn5
  rw [fill_set hx] at hO5
  refine Cu lo0 s5 [(0,vS p l.length),(3,vS q l.length),(4,vI (i : Int)),(11,vB true)] fun _ => ?_
  have e1 : IntKind.wrap .i64 ((i : Int) + 1) = ((i + 1 : Nat) : Int) := wrap_i64 (by omega) (by omega)
  refine ⟨_,rfl,?_⟩
  exact ⟨i + 1,l.length - (i + 1),by have := Int.ofNat_lt.1 h1; omega,⟨rfl,rfl,congrArg (Value.int .i64) e1,trivial⟩,rfl,rfl,Int.ofNat_lt.1 h1,hO5,hP'.trans hP5⟩
theorem ac_laws_eqRiseS (p q : Option Addr) (a b : List Ris) (st : St) (hA : Rows st 3 cRise p a) (hB : Rows st 3 cRise q b) (hs : szOk a.length) : C 123 [vS p a.length,vS q b.length] st (fun v s => ∃ x,v = .bool x ∧ (x = true ↔ a = b) ∧ s = st) := by
 have hs : a.length ≤ 1048576 := hs
 refine AC.enterX (i := ⟨[],[],[0,1,4,5,10,14,26],[]⟩) [(6,[],[])] Tryz.func123 rfl rfl (by kernel_rfl) (by kernel_rfl) Tryz.ntmps123 (Lb rfl) rfl ?_
 refine Cu lo0 st [(0,vS p a.length),(1,vS q b.length),(4,vB false)] fun _ => ?_
 iterate 3 refine ⟨_,rfl,?_⟩
 rintro (_|_) h1
 ·replace h1 : (a.length : Int) = (b.length : Int) := bne_eq_false_iff_eq.1 h1
  refine Cu lo0 st [(0,vS p a.length),(1,vS q b.length),(4,vB false),(10,vB false)] fun _ => ?_
  refine cxs ?_
  refine Cu lo0 st [(0,vS p a.length),(1,vS q b.length),(4,vB false),(5,vI 0)] fun _ => ?_
  refine AW.loop0 (fun i : Nat => [(0,vS p a.length),(1,vS q b.length),(4,vB false),(5,vI (i : Int))]) (fun m (i : Nat) st' => m = a.length - i ∧ i ≤ a.length ∧ (∀ (j : Nat) x y,j < i → a[j]? = some x → b[j]? = some y → x = y) ∧ st = st') 0 _ ⟨rfl,rfl,rfl,rfl,trivial⟩ rfl ⟨rfl,Nat.zero_le _,fun j x y h => absurd h (Nat.not_lt_zero _),rfl⟩ ?_
  rintro m i ρ0 st' ⟨rfl,hi,heq,rfl⟩
  iterate 2 refine ⟨_,rfl,?_⟩
  rintro (_|_) h2
  ·replace h2 : ¬ ((i : Int) < (a.length : Int)) := of_decide_eq_false h2
   refine Cu lo0 st [(0,vS p a.length),(1,vS q b.length),(4,vB false),(5,vI (i : Int)),(14,vB false)] fun _ => ?_
   refine cxs ?_
   exact cxs (Rt ⟨true,rfl,⟨fun _ => iff_lists (by omega) fun j x y hj hx hy => heq j x y (by omega) hx hy,fun _ => rfl⟩,rfl⟩)
  ·replace h2 : (i : Int) < (a.length : Int) := of_decide_eq_true h2
   refine Cu lo0 st [(0,vS p a.length),(1,vS q b.length),(4,vB false),(5,vI (i : Int)),(14,vB true)] fun _ => ?_
   have ⟨b1,o1,k1,x,hpe,hx,hm1,hc1⟩ := hA.at (Int.ofNat_lt.1 h2)
   have ⟨b2,o2,k2,y,hqe,hy,hm2,hc2⟩ := hB.at (j := i) (by have := Int.ofNat_lt.1 h2; omega)
   refine cxs ?_
   refine ⟨_,op_idx (j := (i : Int)) (n := a.length) (q := ⟨b1,o1,none⟩) rfl (congrArg (fun u => vS u a.length) hpe) rfl rfl rfl (Int.natCast_nonneg _) h2,?_⟩
   refine ⟨_,op_lda rfl rfl rfl rfl rfl hm1 hc1 rfl,?_⟩
   refine ⟨_,op_idx (j := (i : Int)) (n := b.length) (q := ⟨b2,o2,none⟩) rfl (congrArg (fun u => vS u b.length) hqe) rfl rfl rfl (Int.natCast_nonneg _) (h1 ▸ h2),?_⟩
   refine ⟨_,op_lda rfl rfl rfl rfl rfl hm2 hc2 rfl,?_⟩
   refine ⟨_,rfl,(ac_laws_eqRise x y st).mono ?_⟩
   rintro _ st ⟨c,rfl,h3,rfl⟩
   rcases c with _|_
   ·replace h3 := fun k => Bool.false_ne_true (h3.2 k)
    refine ⟨_,rfl,?_⟩
    refine Cu lo0 st [(0,vS p a.length),(1,vS q b.length),(4,vB false),(5,vI (i : Int)),(14,vB true),(26,vB true)] fun _ => ?_
    have e1 : IntKind.wrap .i64 ((i : Int) + 1) = ((i + 1 : Nat) : Int) := wrap_i64 (by omega) (by omega)
    exact cxs (Rt ⟨false,rfl,⟨fun h => Bool.noConfusion h,fun h => absurd (by rw [h,hy] at hx; injection hx with hx; exact hx.symm) h3⟩,rfl⟩)
   ·replace h3 := h3.1 rfl
    refine ⟨_,rfl,?_⟩
    refine Cu lo0 st [(0,vS p a.length),(1,vS q b.length),(4,vB false),(5,vI (i : Int)),(14,vB true),(26,vB false)] fun _ => ?_
    have e1 : IntKind.wrap .i64 ((i : Int) + 1) = ((i + 1 : Nat) : Int) := wrap_i64 (by omega) (by omega)
    refine cxs ?_
    refine ⟨_,rfl,?_⟩
    refine ⟨i + 1,a.length - (i + 1),by have := Int.ofNat_lt.1 h2; omega,⟨rfl,rfl,rfl,congrArg (Value.int .i64) e1,trivial⟩,rfl,rfl,Int.ofNat_lt.1 h2,fun j u v hj hu hv => ?_,rfl⟩
    rcases Nat.lt_or_ge j i with h | h
    ·exact heq j u v h hu hv
    ·obtain rfl : j = i := by omega
     rw [hx] at hu; rw [hy] at hv
     injection hu with hu; injection hv with hv
     rw [← hu,← hv]; exact h3
 ·replace h1 : ¬ ((a.length : Int) = (b.length : Int)) := bne_iff_ne.1 h1
  refine Cu lo0 st [(0,vS p a.length),(1,vS q b.length),(4,vB false),(10,vB true)] fun _ => ?_
  exact cxs (Rt ⟨false,rfl,⟨fun h => Bool.noConfusion h,fun h => absurd (congrArg (fun l => (List.length l : Int)) h) h1⟩,rfl⟩)
theorem ac_laws_szSessS (p : Option Addr) (l : List Ses) (n : Int) (st : St) (h0 : 0 ≤ n) (hn : n ≤ 1048576) (hm : l.length ≤ maxLen) : C 109 [vS p l.length,vI n] st (fun v s => ∃ r,v = vI r ∧ r ≤ n ∧ (0 ≤ r → r + (l.length : Int) = n) ∧ s = st) := by
 have hm : l.length ≤ 9223372036854775807 := hm
 refine AC.enterX (i := ⟨[],[],[0,1,4,10],[]⟩) [] Tryz.func109 rfl rfl (by kernel_rfl) (by kernel_rfl) Tryz.ntmps109 (Lb rfl) rfl ?_
 refine Cu lo0 st [(0,vS p l.length),(1,vI n),(4,vI 0)] fun _ => ?_
 refine ⟨_,rfl,?_⟩
 have ew8 : IntKind.wrap .i64 (n - (l.length : Int)) = n - (l.length : Int) := wrap_i64 (by omega) (by omega)
 refine ⟨_,rfl,?_⟩
 refine AW.cut lo0 st [(1,vI (n - (l.length : Int))),(4,vI 0)] ⟨congrArg (Value.int .i64) ew8,rfl,trivial⟩ fun _ => ?_
 refine ⟨_,rfl,?_⟩
 rintro (_|_) h10
 ·replace h10 : ¬ ((n - (l.length : Int)) < (0)) := of_decide_eq_false h10
  refine Cu lo0 st [(1,vI (n - (l.length : Int))),(4,vI 0),(10,vB false)] fun _ => ?_
  refine cxs ?_
  exact cxs (Rt ⟨_,rfl,by omega,fun _ => by omega,rfl⟩)
 ·replace h10 : (n - (l.length : Int)) < (0) := of_decide_eq_true h10
  refine Cu lo0 st [(1,vI (n - (l.length : Int))),(4,vI 0),(10,vB true)] fun _ => ?_
  exact cxs (Rt ⟨-1,rfl,by omega,fun h => absurd h (by omega),rfl⟩)
theorem ac_laws_szRiseS (p : Option Addr) (l : List Ris) (n : Int) (st : St) (h0 : 0 ≤ n) (hn : n ≤ 1048576) (hm : l.length ≤ maxLen) : C 110 [vS p l.length,vI n] st (fun v s => ∃ r,v = vI r ∧ r ≤ n ∧ (0 ≤ r → r + (l.length : Int) = n) ∧ s = st) := by
 have hm : l.length ≤ 9223372036854775807 := hm
 refine AC.enterX (i := ⟨[],[],[0,1,4,10],[]⟩) [] Tryz.func110 rfl rfl (by kernel_rfl) (by kernel_rfl) Tryz.ntmps110 (Lb rfl) rfl ?_
 refine Cu lo0 st [(0,vS p l.length),(1,vI n),(4,vI 0)] fun _ => ?_
 refine ⟨_,rfl,?_⟩
 have ew8 : IntKind.wrap .i64 (n - (l.length : Int)) = n - (l.length : Int) := wrap_i64 (by omega) (by omega)
 refine ⟨_,rfl,?_⟩
 refine AW.cut lo0 st [(1,vI (n - (l.length : Int))),(4,vI 0)] ⟨congrArg (Value.int .i64) ew8,rfl,trivial⟩ fun _ => ?_
 refine ⟨_,rfl,?_⟩
 rintro (_|_) h10
 ·replace h10 : ¬ ((n - (l.length : Int)) < (0)) := of_decide_eq_false h10
  refine Cu lo0 st [(1,vI (n - (l.length : Int))),(4,vI 0),(10,vB false)] fun _ => ?_
  refine cxs ?_
  exact cxs (Rt ⟨_,rfl,by omega,fun _ => by omega,rfl⟩)
 ·replace h10 : (n - (l.length : Int)) < (0) := of_decide_eq_true h10
  refine Cu lo0 st [(1,vI (n - (l.length : Int))),(4,vI 0),(10,vB true)] fun _ => ?_
  exact cxs (Rt ⟨-1,rfl,by omega,fun h => absurd h (by omega),rfl⟩)
theorem ac_laws_szNode (g : NV) (n : Int) (st : St) (hR : RdN st g) (h0 : 0 ≤ n) (hn : n ≤ 1048576) (hm : maxN g) : C 38 [(vNV g),vI n] st (fun v s => ∃ r,v = vI r ∧ r ≤ n ∧ (0 ≤ r → r + (szNd g : Int) = n) ∧ s = st) := by
 obtain ⟨m1,m2,m3,m4,m5,m6,m7,m8⟩ := hm
 have m9 := m6.1
 have m10 := m6.2
 refine AC.enterX (i := ⟨[2],[2,5,11,17,23,29,35,41,47],[0,1,2,4,10,16,22,28,34,40,46,52],[]⟩) [] Tryz.func38 rfl rfl (by kernel_rfl) (by kernel_rfl) Tryz.ntmps38 (Lb rfl) rfl ?_
 refine ⟨_,rfl,?_⟩
 refine Cm 1 st [(1,vI n),Ml 2 0,(4,vI 0)] [(2,0,cNV g)] fun _ _ => ?_
 refine ⟨_,rfl,?_⟩
 refine ⟨_,Od rfl,?_⟩
 refine ⟨_,rfl,(ac_laws_szState g.s n st hR.s (by first | assumption | omega) (by first | assumption | omega) (by first | assumption | omega)).mono ?_⟩
 rintro _ st ⟨r8,rfl,h8,h8',rfl⟩
 refine Cm 1 st [(1,vI r8),Ml 2 0,(4,vI 0)] [(2,0,cNV g)] fun _ _ => ?_
 refine ⟨_,rfl,?_⟩
 rintro (_|_) h10
 ·replace h10 : ¬ (r8 < (0)) := of_decide_eq_false h10
  refine Cm 1 st [(1,vI r8),Ml 2 0,(4,vI 0),(10,vB false)] [(2,0,cNV g)] fun _ _ => ?_
  refine cxs ?_
  refine ⟨_,rfl,?_⟩
  refine ⟨_,Od rfl,?_⟩
  refine ⟨_,rfl,(ac_laws_szTree g.t r8 st (by first | assumption | omega) (by first | assumption | omega) (by first | assumption | omega)).mono ?_⟩
  rintro _ st ⟨r14,rfl,h14,h14',rfl⟩
  refine Cm 1 st [(1,vI r14),Ml 2 0,(4,vI 0)] [(2,0,cNV g)] fun _ _ => ?_
  refine ⟨_,rfl,?_⟩
  rintro (_|_) h16
  ·replace h16 : ¬ (r14 < (0)) := of_decide_eq_false h16
   refine Cm 1 st [(1,vI r14),Ml 2 0,(4,vI 0),(16,vB false)] [(2,0,cNV g)] fun _ _ => ?_
   refine cxs ?_
   refine ⟨_,rfl,?_⟩
   refine ⟨_,Od rfl,?_⟩
   refine ⟨_,rfl,(ac_laws_szLog g.g r14 st hR.g (by first | assumption | omega) (by first | assumption | omega) (by first | assumption | omega)).mono ?_⟩
   rintro _ st ⟨r20,rfl,h20,h20',rfl⟩
   refine Cm 1 st [(1,vI r20),Ml 2 0,(4,vI 0)] [(2,0,cNV g)] fun _ _ => ?_
   refine ⟨_,rfl,?_⟩
   rintro (_|_) h22
   ·replace h22 : ¬ (r20 < (0)) := of_decide_eq_false h22
    refine Cm 1 st [(1,vI r20),Ml 2 0,(4,vI 0),(22,vB false)] [(2,0,cNV g)] fun _ _ => ?_
    refine cxs ?_
    refine ⟨_,rfl,?_⟩
    refine ⟨_,Od rfl,?_⟩
    refine ⟨_,rfl,(ac_laws_szIntS g.got.p g.got.l r20 st (by first | assumption | omega) (by first | assumption | omega) (by first | assumption | omega)).mono ?_⟩
    rintro _ st ⟨r26,rfl,h26,h26',rfl⟩
    refine Cm 1 st [(1,vI r26),Ml 2 0,(4,vI 0)] [(2,0,cNV g)] fun _ _ => ?_
    refine ⟨_,rfl,?_⟩
    rintro (_|_) h28
    ·replace h28 : ¬ (r26 < (0)) := of_decide_eq_false h28
     refine Cm 1 st [(1,vI r26),Ml 2 0,(4,vI 0),(28,vB false)] [(2,0,cNV g)] fun _ _ => ?_
     refine cxs ?_
     refine ⟨_,rfl,?_⟩
     refine ⟨_,Od rfl,?_⟩
     refine ⟨_,rfl,(ac_laws_szIntS g.acked.p g.acked.l r26 st (by first | assumption | omega) (by first | assumption | omega) (by first | assumption | omega)).mono ?_⟩
     rintro _ st ⟨r32,rfl,h32,h32',rfl⟩
     refine Cm 1 st [(1,vI r32),Ml 2 0,(4,vI 0)] [(2,0,cNV g)] fun _ _ => ?_
     refine ⟨_,rfl,?_⟩
     rintro (_|_) h34
     ·replace h34 : ¬ (r32 < (0)) := of_decide_eq_false h34
      refine Cm 1 st [(1,vI r32),Ml 2 0,(4,vI 0),(34,vB false)] [(2,0,cNV g)] fun _ _ => ?_
      refine cxs ?_
      refine ⟨_,rfl,?_⟩
      refine ⟨_,Od rfl,?_⟩
      refine ⟨_,rfl,(ac_laws_szIntSS g.seen.p g.seen.t r32 st hR.seen (by first | assumption | omega) (by first | assumption | omega) (by first | assumption | omega) (by first | assumption | omega)).mono ?_⟩
      rintro _ st ⟨r38,rfl,h38,h38',rfl⟩
      refine Cm 1 st [(1,vI r38),Ml 2 0,(4,vI 0)] [(2,0,cNV g)] fun _ _ => ?_
      refine ⟨_,rfl,?_⟩
      rintro (_|_) h40
      ·replace h40 : ¬ (r38 < (0)) := of_decide_eq_false h40
       refine Cm 1 st [(1,vI r38),Ml 2 0,(4,vI 0),(40,vB false)] [(2,0,cNV g)] fun _ _ => ?_
       refine cxs ?_
       refine ⟨_,rfl,?_⟩
       refine ⟨_,Od rfl,?_⟩
       refine ⟨_,rfl,(ac_laws_szSessS g.sess.p g.sess.l r38 st (by first | assumption | omega) (by first | assumption | omega) (by first | assumption | omega)).mono ?_⟩
       rintro _ st ⟨r44,rfl,h44,h44',rfl⟩
       refine Cm 1 st [(1,vI r44),Ml 2 0,(4,vI 0)] [(2,0,cNV g)] fun _ _ => ?_
       refine ⟨_,rfl,?_⟩
       rintro (_|_) h46
       ·replace h46 : ¬ (r44 < (0)) := of_decide_eq_false h46
        refine Cm 1 st [(1,vI r44),Ml 2 0,(4,vI 0),(46,vB false)] [(2,0,cNV g)] fun _ _ => ?_
        refine cxs ?_
        refine ⟨_,rfl,?_⟩
        refine ⟨_,Od rfl,?_⟩
        refine ⟨_,rfl,(ac_laws_szRiseS g.rises.p g.rises.l r44 st (by first | assumption | omega) (by first | assumption | omega) (by first | assumption | omega)).mono ?_⟩
        rintro _ st ⟨r50,rfl,h50,h50',rfl⟩
        refine Cm 1 st [(1,vI r50),(4,vI 0)] [] fun _ _ => ?_
        refine ⟨_,rfl,?_⟩
        rintro (_|_) h52
        ·replace h52 : ¬ (r50 < (0)) := of_decide_eq_false h52
         refine Cm 1 st [(1,vI r50),(4,vI 0),(52,vB false)] [] fun _ _ => ?_
         refine cxs ?_
         exact cxs (Rt ⟨r50,rfl,by omega,fun h => by have i8 := h8' (by omega); have i14 := h14' (by omega); have i20 := h20' (by omega); have i26 := h26' (by omega); have i32 := h32' (by omega); have i38 := h38' (by omega); have i44 := h44' (by omega); have i50 := h50' (by omega); show r50 + ((szSta g.s.x + g.t.l.length + szL g.g.l + g.got.l.length + g.acked.l.length + (g.seen.t.length + cntT g.seen.t) + g.sess.l.length + g.rises.l.length : Nat) : Int) = n; omega,rfl⟩)
        ·replace h52 : r50 < (0) := of_decide_eq_true h52
         refine Cm 1 st [(1,vI r50),(4,vI 0),(52,vB true)] [] fun _ _ => ?_
         exact cxs (Rt ⟨-1,rfl,by omega,fun h => absurd h (by omega),rfl⟩)
       ·replace h46 : r44 < (0) := of_decide_eq_true h46
        refine Cm 1 st [(1,vI r44),Ml 2 0,(4,vI 0),(46,vB true)] [(2,0,cNV g)] fun _ _ => ?_
        exact cxs (Rt ⟨-1,rfl,by omega,fun h => absurd h (by omega),rfl⟩)
      ·replace h40 : r38 < (0) := of_decide_eq_true h40
       refine Cm 1 st [(1,vI r38),Ml 2 0,(4,vI 0),(40,vB true)] [(2,0,cNV g)] fun _ _ => ?_
       exact cxs (Rt ⟨-1,rfl,by omega,fun h => absurd h (by omega),rfl⟩)
     ·replace h34 : r32 < (0) := of_decide_eq_true h34
      refine Cm 1 st [(1,vI r32),Ml 2 0,(4,vI 0),(34,vB true)] [(2,0,cNV g)] fun _ _ => ?_
      exact cxs (Rt ⟨-1,rfl,by omega,fun h => absurd h (by omega),rfl⟩)
    ·replace h28 : r26 < (0) := of_decide_eq_true h28
     refine Cm 1 st [(1,vI r26),Ml 2 0,(4,vI 0),(28,vB true)] [(2,0,cNV g)] fun _ _ => ?_
     exact cxs (Rt ⟨-1,rfl,by omega,fun h => absurd h (by omega),rfl⟩)
   ·replace h22 : r20 < (0) := of_decide_eq_true h22
    refine Cm 1 st [(1,vI r20),Ml 2 0,(4,vI 0),(22,vB true)] [(2,0,cNV g)] fun _ _ => ?_
    exact cxs (Rt ⟨-1,rfl,by omega,fun h => absurd h (by omega),rfl⟩)
  ·replace h16 : r14 < (0) := of_decide_eq_true h16
   refine Cm 1 st [(1,vI r14),Ml 2 0,(4,vI 0),(16,vB true)] [(2,0,cNV g)] fun _ _ => ?_
   exact cxs (Rt ⟨-1,rfl,by omega,fun h => absurd h (by omega),rfl⟩)
 ·replace h10 : r8 < (0) := of_decide_eq_true h10
  refine Cm 1 st [(1,vI r8),Ml 2 0,(4,vI 0),(10,vB true)] [(2,0,cNV g)] fun _ _ => ?_
  exact cxs (Rt ⟨-1,rfl,by omega,fun h => absurd h (by omega),rfl⟩)
theorem ac_laws_toSessSU (g : SesV) (st : St) (hR : Rows st 4 cSess g.p g.l) (hb : szOk g.l.length) : C 116 [vS g.p g.l.length] st (fun v s => ∃ u : SesV,v = vS u.p u.l.length ∧ u.l = g.l ∧ Frs st s (pcSes u)) :=
 (ac_laws_toSessS g.p g.l st hR hb).mono fun v s ⟨q,h1,h2,h3,h4⟩ => ⟨⟨q,g.l⟩,h1,rfl,OwnP.one (own_pc h2),NewP.cons h4 NewP.nil,h3⟩
theorem ac_laws_toRiseSU (g : RisV) (st : St) (hR : Rows st 3 cRise g.p g.l) (hb : szOk g.l.length) : C 117 [vS g.p g.l.length] st (fun v s => ∃ u : RisV,v = vS u.p u.l.length ∧ u.l = g.l ∧ Frs st s (pcRis u)) :=
 (ac_laws_toRiseS g.p g.l st hR hb).mono fun v s ⟨q,h1,h2,h3,h4⟩ => ⟨⟨q,g.l⟩,h1,rfl,OwnP.one (own_pc h2),NewP.cons h4 NewP.nil,h3⟩
theorem frs_toState (s : SV) (st : St) (hR : RdS st s) (hb : bigS s.x) : C 111 [.agg #[vS s.p s.x.items.length,vS s.q s.x.floors.length]] st (fun v s' => ∃ u : SV,v = .agg #[vS u.p u.x.items.length,vS u.q u.x.floors.length] ∧ u.x = s.x ∧ Frs st s' (pcS u)) := ac_laws_toState s st hR hb
theorem frs_toLog (g : LV) (st : St) (hR : RdL st g.p g.l) (hb : bigLog g.x) : C 113 [.agg #[vI g.cap,vI g.frm,vS g.p g.l.length]] st (fun v s => ∃ u : LW,v = .agg #[vI u.cap,vI u.frm,vS u.p u.l.length] ∧ u.v.x = g.x ∧ Frs st s (pcLog u)) := uc_toLog g st hR hb
theorem frs_toIntSS (g : TT) (st : St) (hR : RdT st g.p g.t) (hb : bigT g.x) : C 115 [vS g.p g.t.length] st (fun v s => ∃ u : TT,v = vS u.p u.t.length ∧ u.x = g.x ∧ Frs st s (pcTT u)) := uc_toIntSS g st hR hb
theorem ac_laws_toNode (g : NV) (st : St) (hR : RdN st g) (hb : bigN g.x) : C 39 [(vNV g)] st (fun v s => ∃ u : NW,v = (vNV u) ∧ u.x = g.x ∧ Frs st s (pcNW u)) := by
 refine AC.enterX (i := ⟨[1,2,3],[1,2,3,4,6,7,9,10,13,14,17,18,21,22,25,26,29,30,33,34,36,37,39,40,43,44,46,47,49,50,52,53,56],[0,1,2,3],[]⟩) [] Tryz.func39 rfl rfl (by kernel_rfl) (by kernel_rfl) Tryz.ntmps39 (Lb rfl) rfl ?_
 iterate 2 refine ⟨_,rfl,?_⟩
 refine Cm 2 st [Ml 1 0,Ml 2 1] [(1,0,cNV g),(2,1,Zn)] fun _ _ => ?_
 refine ⟨_,rfl,?_⟩
 refine Cm 3 st [Ml 1 0,Ml 2 1,Ml 3 2] [(1,0,cNV g),(2,1,Zn),(3,2,Zn)] fun _ _ => ?_
 refine ⟨_,rfl,?_⟩
 refine ⟨_,Od rfl,?_⟩
 refine ⟨_,rfl,?_⟩
 refine ⟨_,Os rfl,?_⟩
 refine Cm 3 st [Ml 1 0,Ml 2 1,Ml 3 2] [(1,0,cNV g),(2,1,Zn),(3,2,[vI g.id,vI 0,Sn,Sn,Sn,vI 0,vI 0,vI 0,Sn,Sn,Sn,Sn,vI 0,vI 0,Sn,vI 0,vI 0,vI 0,Sn])] fun _ _ => ?_
 refine ⟨_,rfl,?_⟩
 refine ⟨_,Od rfl,?_⟩
 refine ⟨_,rfl,?_⟩
 refine ⟨_,Os rfl,?_⟩
 refine Cm 3 st [Ml 1 0,Ml 2 1,Ml 3 2] [(1,0,cNV g),(2,1,Zn),(3,2,[vI g.id,vI g.n,Sn,Sn,Sn,vI 0,vI 0,vI 0,Sn,Sn,Sn,Sn,vI 0,vI 0,Sn,vI 0,vI 0,vI 0,Sn])] fun _ _ => ?_
 refine ⟨_,rfl,?_⟩
 refine ⟨_,Od rfl,?_⟩
 refine ⟨_,rfl,(frs_toState g.s st hR.s hb.s).mono ?_⟩
 rintro _ s12 ⟨u12,rfl,h12,hF12⟩
 refine ⟨_,rfl,?_⟩
 refine ⟨_,Os rfl,?_⟩
 refine Cm 3 s12 [Ml 1 0,Ml 2 1,Ml 3 2] [(1,0,cNV g),(2,1,Zn),(3,2,[vI g.id,vI g.n,vS u12.p u12.x.items.length,vS u12.q u12.x.floors.length,Sn,vI 0,vI 0,vI 0,Sn,Sn,Sn,Sn,vI 0,vI 0,Sn,vI 0,vI 0,vI 0,Sn])] fun _ _ => ?_
 have hQ12 : Pres st s12 := hF12.2.2
 refine ⟨_,rfl,?_⟩
 refine ⟨_,Od rfl,?_⟩
 refine ⟨_,rfl,(ac_laws_toTree g.t s12 (hQ12.rows hR.t) hb.t).mono ?_⟩
 rintro _ s16 ⟨u16,rfl,h16,hF16⟩
 refine ⟨_,rfl,?_⟩
 refine ⟨_,Os rfl,?_⟩
 refine Cm 3 s16 [Ml 1 0,Ml 2 1,Ml 3 2] [(1,0,cNV g),(2,1,Zn),(3,2,[vI g.id,vI g.n,vS u12.p u12.x.items.length,vS u12.q u12.x.floors.length,vS u16.p u16.l.length,vI u16.root,vI 0,vI 0,Sn,Sn,Sn,Sn,vI 0,vI 0,Sn,vI 0,vI 0,vI 0,Sn])] fun _ _ => ?_
 have hQ16 : Pres st s16 := hQ12.trans hF16.2.2
 refine ⟨_,rfl,?_⟩
 refine ⟨_,Od rfl,?_⟩
 refine ⟨_,rfl,(frs_toLog g.g s16 (hR.g.pres hQ16) hb.g).mono ?_⟩
 rintro _ s20 ⟨u20,rfl,h20,hF20⟩
 refine ⟨_,rfl,?_⟩
 refine ⟨_,Os rfl,?_⟩
 refine Cm 3 s20 [Ml 1 0,Ml 2 1,Ml 3 2] [(1,0,cNV g),(2,1,Zn),(3,2,[vI g.id,vI g.n,vS u12.p u12.x.items.length,vS u12.q u12.x.floors.length,vS u16.p u16.l.length,vI u16.root,vI u20.cap,vI u20.frm,vS u20.p u20.l.length,Sn,Sn,Sn,vI 0,vI 0,Sn,vI 0,vI 0,vI 0,Sn])] fun _ _ => ?_
 have hQ20 : Pres st s20 := hQ16.trans hF20.2.2
 refine ⟨_,rfl,?_⟩
 refine ⟨_,Od rfl,?_⟩
 refine ⟨_,rfl,(ac_laws_toIntSU g.got s20 (hQ20.rows hR.got) hb.got).mono ?_⟩
 rintro _ s24 ⟨u24,rfl,h24,hF24⟩
 refine ⟨_,rfl,?_⟩
 refine ⟨_,Os rfl,?_⟩
 refine Cm 3 s24 [Ml 1 0,Ml 2 1,Ml 3 2] [(1,0,cNV g),(2,1,Zn),(3,2,[vI g.id,vI g.n,vS u12.p u12.x.items.length,vS u12.q u12.x.floors.length,vS u16.p u16.l.length,vI u16.root,vI u20.cap,vI u20.frm,vS u20.p u20.l.length,vS u24.p u24.l.length,Sn,Sn,vI 0,vI 0,Sn,vI 0,vI 0,vI 0,Sn])] fun _ _ => ?_
 have hQ24 : Pres st s24 := hQ20.trans hF24.2.2
 refine ⟨_,rfl,?_⟩
 refine ⟨_,Od rfl,?_⟩
 refine ⟨_,rfl,(ac_laws_toIntSU g.acked s24 (hQ24.rows hR.acked) hb.acked).mono ?_⟩
 rintro _ s28 ⟨u28,rfl,h28,hF28⟩
 refine ⟨_,rfl,?_⟩
 refine ⟨_,Os rfl,?_⟩
 refine Cm 3 s28 [Ml 1 0,Ml 2 1,Ml 3 2] [(1,0,cNV g),(2,1,Zn),(3,2,[vI g.id,vI g.n,vS u12.p u12.x.items.length,vS u12.q u12.x.floors.length,vS u16.p u16.l.length,vI u16.root,vI u20.cap,vI u20.frm,vS u20.p u20.l.length,vS u24.p u24.l.length,vS u28.p u28.l.length,Sn,vI 0,vI 0,Sn,vI 0,vI 0,vI 0,Sn])] fun _ _ => ?_
 have hQ28 : Pres st s28 := hQ24.trans hF28.2.2
 refine ⟨_,rfl,?_⟩
 refine ⟨_,Od rfl,?_⟩
 refine ⟨_,rfl,(frs_toIntSS g.seen s28 (hR.seen.pres hQ28) hb.seen).mono ?_⟩
 rintro _ s32 ⟨u32,rfl,h32,hF32⟩
 refine ⟨_,rfl,?_⟩
 refine ⟨_,Os rfl,?_⟩
 refine Cm 3 s32 [Ml 1 0,Ml 2 1,Ml 3 2] [(1,0,cNV g),(2,1,Zn),(3,2,[vI g.id,vI g.n,vS u12.p u12.x.items.length,vS u12.q u12.x.floors.length,vS u16.p u16.l.length,vI u16.root,vI u20.cap,vI u20.frm,vS u20.p u20.l.length,vS u24.p u24.l.length,vS u28.p u28.l.length,vS u32.p u32.t.length,vI 0,vI 0,Sn,vI 0,vI 0,vI 0,Sn])] fun _ _ => ?_
 have hQ32 : Pres st s32 := hQ28.trans hF32.2.2
 refine ⟨_,rfl,?_⟩
 refine ⟨_,Od rfl,?_⟩
 refine ⟨_,rfl,?_⟩
 refine ⟨_,Os rfl,?_⟩
 refine Cm 3 s32 [Ml 1 0,Ml 2 1,Ml 3 2] [(1,0,cNV g),(2,1,Zn),(3,2,[vI g.id,vI g.n,vS u12.p u12.x.items.length,vS u12.q u12.x.floors.length,vS u16.p u16.l.length,vI u16.root,vI u20.cap,vI u20.frm,vS u20.p u20.l.length,vS u24.p u24.l.length,vS u28.p u28.l.length,vS u32.p u32.t.length,vI g.num,vI 0,Sn,vI 0,vI 0,vI 0,Sn])] fun _ _ => ?_
 refine ⟨_,rfl,?_⟩
 refine ⟨_,Od rfl,?_⟩
 refine ⟨_,rfl,?_⟩
 refine ⟨_,Os rfl,?_⟩
 refine Cm 3 s32 [Ml 1 0,Ml 2 1,Ml 3 2] [(1,0,cNV g),(2,1,Zn),(3,2,[vI g.id,vI g.n,vS u12.p u12.x.items.length,vS u12.q u12.x.floors.length,vS u16.p u16.l.length,vI u16.root,vI u20.cap,vI u20.frm,vS u20.p u20.l.length,vS u24.p u24.l.length,vS u28.p u28.l.length,vS u32.p u32.t.length,vI g.num,vI g.slots,Sn,vI 0,vI 0,vI 0,Sn])] fun _ _ => ?_
 refine ⟨_,rfl,?_⟩
 refine ⟨_,Od rfl,?_⟩
 refine ⟨_,rfl,(ac_laws_toSessSU g.sess s32 (hQ32.rows hR.sess) hb.sess).mono ?_⟩
 rintro _ s42 ⟨u42,rfl,h42,hF42⟩
 refine ⟨_,rfl,?_⟩
 refine ⟨_,Os rfl,?_⟩
 refine Cm 3 s42 [Ml 1 0,Ml 2 1,Ml 3 2] [(1,0,cNV g),(2,1,Zn),(3,2,[vI g.id,vI g.n,vS u12.p u12.x.items.length,vS u12.q u12.x.floors.length,vS u16.p u16.l.length,vI u16.root,vI u20.cap,vI u20.frm,vS u20.p u20.l.length,vS u24.p u24.l.length,vS u28.p u28.l.length,vS u32.p u32.t.length,vI g.num,vI g.slots,vS u42.p u42.l.length,vI 0,vI 0,vI 0,Sn])] fun _ _ => ?_
 have hQ42 : Pres st s42 := hQ32.trans hF42.2.2
 refine ⟨_,rfl,?_⟩
 refine ⟨_,Od rfl,?_⟩
 refine ⟨_,rfl,?_⟩
 refine ⟨_,Os rfl,?_⟩
 refine Cm 3 s42 [Ml 1 0,Ml 2 1,Ml 3 2] [(1,0,cNV g),(2,1,Zn),(3,2,[vI g.id,vI g.n,vS u12.p u12.x.items.length,vS u12.q u12.x.floors.length,vS u16.p u16.l.length,vI u16.root,vI u20.cap,vI u20.frm,vS u20.p u20.l.length,vS u24.p u24.l.length,vS u28.p u28.l.length,vS u32.p u32.t.length,vI g.num,vI g.slots,vS u42.p u42.l.length,vI g.wait,vI 0,vI 0,Sn])] fun _ _ => ?_
 refine ⟨_,rfl,?_⟩
 refine ⟨_,Od rfl,?_⟩
 refine ⟨_,rfl,?_⟩
 refine ⟨_,Os rfl,?_⟩
 refine Cm 3 s42 [Ml 1 0,Ml 2 1,Ml 3 2] [(1,0,cNV g),(2,1,Zn),(3,2,[vI g.id,vI g.n,vS u12.p u12.x.items.length,vS u12.q u12.x.floors.length,vS u16.p u16.l.length,vI u16.root,vI u20.cap,vI u20.frm,vS u20.p u20.l.length,vS u24.p u24.l.length,vS u28.p u28.l.length,vS u32.p u32.t.length,vI g.num,vI g.slots,vS u42.p u42.l.length,vI g.wait,vI g.limit,vI 0,Sn])] fun _ _ => ?_
 refine ⟨_,rfl,?_⟩
 refine ⟨_,Od rfl,?_⟩
 refine ⟨_,rfl,?_⟩
 refine ⟨_,Os rfl,?_⟩
 refine Cm 3 s42 [Ml 1 0,Ml 2 1,Ml 3 2] [(1,0,cNV g),(2,1,Zn),(3,2,[vI g.id,vI g.n,vS u12.p u12.x.items.length,vS u12.q u12.x.floors.length,vS u16.p u16.l.length,vI u16.root,vI u20.cap,vI u20.frm,vS u20.p u20.l.length,vS u24.p u24.l.length,vS u28.p u28.l.length,vS u32.p u32.t.length,vI g.num,vI g.slots,vS u42.p u42.l.length,vI g.wait,vI g.limit,vI g.clock,Sn])] fun _ _ => ?_
 refine ⟨_,rfl,?_⟩
 refine ⟨_,Od rfl,?_⟩
 refine ⟨_,rfl,(ac_laws_toRiseSU g.rises s42 (hQ42.rows hR.rises) hb.rises).mono ?_⟩
 rintro _ s55 ⟨u55,rfl,h55,hF55⟩
 refine ⟨_,rfl,?_⟩
 refine ⟨_,Os rfl,?_⟩
 refine Cm 3 s55 [Ml 2 1,Ml 3 2] [(2,1,Zn),(3,2,[vI g.id,vI g.n,vS u12.p u12.x.items.length,vS u12.q u12.x.floors.length,vS u16.p u16.l.length,vI u16.root,vI u20.cap,vI u20.frm,vS u20.p u20.l.length,vS u24.p u24.l.length,vS u28.p u28.l.length,vS u32.p u32.t.length,vI g.num,vI g.slots,vS u42.p u42.l.length,vI g.wait,vI g.limit,vI g.clock,vS u55.p u55.l.length])] fun _ _ => ?_
 have hQ55 : Pres st s55 := hQ42.trans hF55.2.2
 have hF : Frs st s55 (pcNW ⟨g.id,g.n,u12,u16,u20,u24,u28,u32,g.num,g.slots,u42,g.wait,g.limit,g.clock,u55⟩) := (hF12.join (hF16.join (hF20.join (hF24.join (hF28.join (hF32.join (hF42.join hF55)))))))
 have hx : (⟨g.id,g.n,u12,u16,u20,u24,u28,u32,g.num,g.slots,u42,g.wait,g.limit,g.clock,u55⟩ : NW).x = g.x := by simp only [NW.x,NW.v,NV.x,h12,h16,h20,h24,h28,h32,h42,h55]
 refine ⟨_,op_ldo (v := .agg #[vI g.id,vI g.n,vS u12.p u12.x.items.length,vS u12.q u12.x.floors.length,vS u16.p u16.l.length,vI u16.root,vI u20.cap,vI u20.frm,vS u20.p u20.l.length,vS u24.p u24.l.length,vS u28.p u28.l.length,vS u32.p u32.t.length,vI g.num,vI g.slots,vS u42.p u42.l.length,vI g.wait,vI g.limit,vI g.clock,vS u55.p u55.l.length]) rfl rfl rfl rfl,?_⟩
 refine ⟨_,op_stw (vs := [vI g.id,vI g.n,vS u12.p u12.x.items.length,vS u12.q u12.x.floors.length,vS u16.p u16.l.length,vI u16.root,vI u20.cap,vI u20.frm,vS u20.p u20.l.length,vS u24.p u24.l.length,vS u28.p u28.l.length,vS u32.p u32.t.length,vI g.num,vI g.slots,vS u42.p u42.l.length,vI g.wait,vI g.limit,vI g.clock,vS u55.p u55.l.length]) rfl rfl rfl rfl rfl rfl rfl rfl,?_⟩
 exact cxs (Rt ⟨⟨g.id,g.n,u12,u16,u20,u24,u28,u32,g.num,g.slots,u42,g.wait,g.limit,g.clock,u55⟩,rfl,hx,hF⟩)
theorem ac_laws_eqNode (a b : NV) (st : St) (hA : RdN st a) (hB : RdN st b) (hb : bigN a.x) : C 40 [(vNV a),(vNV b)] st (fun v s => ∃ x,v = .bool x ∧ (x = true ↔ a.x = b.x) ∧ s = st) := by
 refine AC.enterX (i := ⟨[2,3],[2,3,5,7,10,12,15,17,21,23,27,29,33,35,39,41,45,47,51,53,56,58,61,63,67,69,72,74,77,79,82,84],[0,1,2,3,4,9,14,20,26,32,38,44,50,55,60,66,71,76,81,87],[]⟩) [] Tryz.func40 rfl rfl (by kernel_rfl) (by kernel_rfl) Tryz.ntmps40 (Lb rfl) rfl ?_
 iterate 2 refine ⟨_,rfl,?_⟩
 refine Cm 2 st [Ml 2 0,Ml 3 1,(4,vB false)] [(2,0,cNV a),(3,1,cNV b)] fun _ _ => ?_
 refine ⟨_,rfl,?_⟩
 refine ⟨_,Od rfl,?_⟩
 refine ⟨_,rfl,?_⟩
 refine ⟨_,Od rfl,?_⟩
 refine ⟨_,rfl,?_⟩
 rintro (_|_) h9
 ·replace h9 : a.id = b.id := bne_eq_false_iff_eq.1 h9
  refine Cm 2 st [Ml 2 0,Ml 3 1,(4,vB false),(9,vB false)] [(2,0,cNV a),(3,1,cNV b)] fun _ _ => ?_
  refine cxs ?_
  refine ⟨_,rfl,?_⟩
  refine ⟨_,Od rfl,?_⟩
  refine ⟨_,rfl,?_⟩
  refine ⟨_,Od rfl,?_⟩
  refine ⟨_,rfl,?_⟩
  rintro (_|_) h14
  ·replace h14 : a.n = b.n := bne_eq_false_iff_eq.1 h14
   refine Cm 2 st [Ml 2 0,Ml 3 1,(4,vB false),(14,vB false)] [(2,0,cNV a),(3,1,cNV b)] fun _ _ => ?_
   refine cxs ?_
   refine ⟨_,rfl,?_⟩
   refine ⟨_,Od rfl,?_⟩
   refine ⟨_,rfl,?_⟩
   refine ⟨_,Od rfl,?_⟩
   refine ⟨_,rfl,(ac_laws_eqState a.s b.s st hA.s hB.s hb.s).mono ?_⟩
   rintro _ st ⟨x19,rfl,h19,rfl⟩
   rcases x19 with _|_
   ·replace h19 := fun k => Bool.false_ne_true (h19.2 k)
    refine ⟨_,rfl,?_⟩
    refine Cm 2 st [Ml 2 0,Ml 3 1,(4,vB false),(20,vB true)] [(2,0,cNV a),(3,1,cNV b)] fun _ _ => ?_
    exact cxs (Rt ⟨false,rfl,⟨fun h => absurd h Bool.false_ne_true,fun h => (show False from (absurd (congrArg Nd.s h) h19)).elim⟩,rfl⟩)
   ·replace h19 := h19.1 rfl
    refine ⟨_,rfl,?_⟩
    refine Cm 2 st [Ml 2 0,Ml 3 1,(4,vB false),(20,vB false)] [(2,0,cNV a),(3,1,cNV b)] fun _ _ => ?_
    refine cxs ?_
    refine ⟨_,rfl,?_⟩
    refine ⟨_,Od rfl,?_⟩
    refine ⟨_,rfl,?_⟩
    refine ⟨_,Od rfl,?_⟩
    refine ⟨_,rfl,(ac_laws_eqTree a.t b.t st hA.t hB.t hb.t).mono ?_⟩
    rintro _ st ⟨x25,rfl,h25,rfl⟩
    rcases x25 with _|_
    ·replace h25 := fun k => Bool.false_ne_true (h25.2 k)
     refine ⟨_,rfl,?_⟩
     refine Cm 2 st [Ml 2 0,Ml 3 1,(4,vB false),(26,vB true)] [(2,0,cNV a),(3,1,cNV b)] fun _ _ => ?_
     exact cxs (Rt ⟨false,rfl,⟨fun h => absurd h Bool.false_ne_true,fun h => (show False from (absurd (congrArg Nd.t h) h25)).elim⟩,rfl⟩)
    ·replace h25 := h25.1 rfl
     refine ⟨_,rfl,?_⟩
     refine Cm 2 st [Ml 2 0,Ml 3 1,(4,vB false),(26,vB false)] [(2,0,cNV a),(3,1,cNV b)] fun _ _ => ?_
     refine cxs ?_
     refine ⟨_,rfl,?_⟩
     refine ⟨_,Od rfl,?_⟩
     refine ⟨_,rfl,?_⟩
     refine ⟨_,Od rfl,?_⟩
     refine ⟨_,rfl,(ac_laws_eqLog a.g b.g st hA.g hB.g (bigLog_iff.1 hb.g)).mono ?_⟩
     rintro _ st ⟨x31,rfl,h31,rfl⟩
     rcases x31 with _|_
     ·replace h31 := fun k => Bool.false_ne_true (h31.2 k)
      refine ⟨_,rfl,?_⟩
      refine Cm 2 st [Ml 2 0,Ml 3 1,(4,vB false),(32,vB true)] [(2,0,cNV a),(3,1,cNV b)] fun _ _ => ?_
      exact cxs (Rt ⟨false,rfl,⟨fun h => absurd h Bool.false_ne_true,fun h => (show False from (absurd (congrArg Nd.g h) h31)).elim⟩,rfl⟩)
     ·replace h31 := h31.1 rfl
      refine ⟨_,rfl,?_⟩
      refine Cm 2 st [Ml 2 0,Ml 3 1,(4,vB false),(32,vB false)] [(2,0,cNV a),(3,1,cNV b)] fun _ _ => ?_
      refine cxs ?_
      refine ⟨_,rfl,?_⟩
      refine ⟨_,Od rfl,?_⟩
      refine ⟨_,rfl,?_⟩
      refine ⟨_,Od rfl,?_⟩
      refine ⟨_,rfl,(ac_laws_eqIntSR a.got.p b.got.p a.got.l b.got.l st hA.got hB.got hb.got).mono ?_⟩
      rintro _ st ⟨x37,rfl,h37,rfl⟩
      rcases x37 with _|_
      ·replace h37 := fun k => Bool.false_ne_true (h37.2 k)
       refine ⟨_,rfl,?_⟩
       refine Cm 2 st [Ml 2 0,Ml 3 1,(4,vB false),(38,vB true)] [(2,0,cNV a),(3,1,cNV b)] fun _ _ => ?_
       exact cxs (Rt ⟨false,rfl,⟨fun h => absurd h Bool.false_ne_true,fun h => (show False from (absurd (congrArg Nd.got h) h37)).elim⟩,rfl⟩)
      ·replace h37 := h37.1 rfl
       refine ⟨_,rfl,?_⟩
       refine Cm 2 st [Ml 2 0,Ml 3 1,(4,vB false),(38,vB false)] [(2,0,cNV a),(3,1,cNV b)] fun _ _ => ?_
       refine cxs ?_
       refine ⟨_,rfl,?_⟩
       refine ⟨_,Od rfl,?_⟩
       refine ⟨_,rfl,?_⟩
       refine ⟨_,Od rfl,?_⟩
       refine ⟨_,rfl,(ac_laws_eqIntSR a.acked.p b.acked.p a.acked.l b.acked.l st hA.acked hB.acked hb.acked).mono ?_⟩
       rintro _ st ⟨x43,rfl,h43,rfl⟩
       rcases x43 with _|_
       ·replace h43 := fun k => Bool.false_ne_true (h43.2 k)
        refine ⟨_,rfl,?_⟩
        refine Cm 2 st [Ml 2 0,Ml 3 1,(4,vB false),(44,vB true)] [(2,0,cNV a),(3,1,cNV b)] fun _ _ => ?_
        exact cxs (Rt ⟨false,rfl,⟨fun h => absurd h Bool.false_ne_true,fun h => (show False from (absurd (congrArg Nd.acked h) h43)).elim⟩,rfl⟩)
       ·replace h43 := h43.1 rfl
        refine ⟨_,rfl,?_⟩
        refine Cm 2 st [Ml 2 0,Ml 3 1,(4,vB false),(44,vB false)] [(2,0,cNV a),(3,1,cNV b)] fun _ _ => ?_
        refine cxs ?_
        refine ⟨_,rfl,?_⟩
        refine ⟨_,Od rfl,?_⟩
        refine ⟨_,rfl,?_⟩
        refine ⟨_,Od rfl,?_⟩
        refine ⟨_,rfl,(uc_eqIntSS a.seen b.seen st hA.seen hB.seen hb.seen).mono ?_⟩
        rintro _ st ⟨x49,rfl,h49,rfl⟩
        rcases x49 with _|_
        ·replace h49 := fun k => Bool.false_ne_true (h49.2 k)
         refine ⟨_,rfl,?_⟩
         refine Cm 2 st [Ml 2 0,Ml 3 1,(4,vB false),(50,vB true)] [(2,0,cNV a),(3,1,cNV b)] fun _ _ => ?_
         exact cxs (Rt ⟨false,rfl,⟨fun h => absurd h Bool.false_ne_true,fun h => (show False from (absurd (congrArg Nd.seen h) h49)).elim⟩,rfl⟩)
        ·replace h49 := h49.1 rfl
         refine ⟨_,rfl,?_⟩
         refine Cm 2 st [Ml 2 0,Ml 3 1,(4,vB false),(50,vB false)] [(2,0,cNV a),(3,1,cNV b)] fun _ _ => ?_
         refine cxs ?_
         refine ⟨_,rfl,?_⟩
         refine ⟨_,Od rfl,?_⟩
         refine ⟨_,rfl,?_⟩
         refine ⟨_,Od rfl,?_⟩
         refine ⟨_,rfl,?_⟩
         rintro (_|_) h55
         ·replace h55 : a.num = b.num := bne_eq_false_iff_eq.1 h55
          refine Cm 2 st [Ml 2 0,Ml 3 1,(4,vB false),(55,vB false)] [(2,0,cNV a),(3,1,cNV b)] fun _ _ => ?_
          refine cxs ?_
          refine ⟨_,rfl,?_⟩
          refine ⟨_,Od rfl,?_⟩
          refine ⟨_,rfl,?_⟩
          refine ⟨_,Od rfl,?_⟩
          refine ⟨_,rfl,?_⟩
          rintro (_|_) h60
          ·replace h60 : a.slots = b.slots := bne_eq_false_iff_eq.1 h60
           refine Cm 2 st [Ml 2 0,Ml 3 1,(4,vB false),(60,vB false)] [(2,0,cNV a),(3,1,cNV b)] fun _ _ => ?_
           refine cxs ?_
           refine ⟨_,rfl,?_⟩
           refine ⟨_,Od rfl,?_⟩
           refine ⟨_,rfl,?_⟩
           refine ⟨_,Od rfl,?_⟩
           refine ⟨_,rfl,(ac_laws_eqSessS a.sess.p b.sess.p a.sess.l b.sess.l st hA.sess hB.sess hb.sess).mono ?_⟩
           rintro _ st ⟨x65,rfl,h65,rfl⟩
           rcases x65 with _|_
           ·replace h65 := fun k => Bool.false_ne_true (h65.2 k)
            refine ⟨_,rfl,?_⟩
            refine Cm 2 st [Ml 2 0,Ml 3 1,(4,vB false),(66,vB true)] [(2,0,cNV a),(3,1,cNV b)] fun _ _ => ?_
            exact cxs (Rt ⟨false,rfl,⟨fun h => absurd h Bool.false_ne_true,fun h => (show False from (absurd (congrArg Nd.sess h) h65)).elim⟩,rfl⟩)
           ·replace h65 := h65.1 rfl
            refine ⟨_,rfl,?_⟩
            refine Cm 2 st [Ml 2 0,Ml 3 1,(4,vB false),(66,vB false)] [(2,0,cNV a),(3,1,cNV b)] fun _ _ => ?_
            refine cxs ?_
            refine ⟨_,rfl,?_⟩
            refine ⟨_,Od rfl,?_⟩
            refine ⟨_,rfl,?_⟩
            refine ⟨_,Od rfl,?_⟩
            refine ⟨_,rfl,?_⟩
            rintro (_|_) h71
            ·replace h71 : a.wait = b.wait := bne_eq_false_iff_eq.1 h71
             refine Cm 2 st [Ml 2 0,Ml 3 1,(4,vB false),(71,vB false)] [(2,0,cNV a),(3,1,cNV b)] fun _ _ => ?_
             refine cxs ?_
             refine ⟨_,rfl,?_⟩
             refine ⟨_,Od rfl,?_⟩
             refine ⟨_,rfl,?_⟩
             refine ⟨_,Od rfl,?_⟩
             refine ⟨_,rfl,?_⟩
             rintro (_|_) h76
             ·replace h76 : a.limit = b.limit := bne_eq_false_iff_eq.1 h76
              refine Cm 2 st [Ml 2 0,Ml 3 1,(4,vB false),(76,vB false)] [(2,0,cNV a),(3,1,cNV b)] fun _ _ => ?_
              refine cxs ?_
              refine ⟨_,rfl,?_⟩
              refine ⟨_,Od rfl,?_⟩
              refine ⟨_,rfl,?_⟩
              refine ⟨_,Od rfl,?_⟩
              refine ⟨_,rfl,?_⟩
              rintro (_|_) h81
              ·replace h81 : a.clock = b.clock := bne_eq_false_iff_eq.1 h81
               refine Cm 2 st [Ml 2 0,Ml 3 1,(4,vB false),(81,vB false)] [(2,0,cNV a),(3,1,cNV b)] fun _ _ => ?_
               refine cxs ?_
               refine ⟨_,rfl,?_⟩
               refine ⟨_,Od rfl,?_⟩
               refine ⟨_,rfl,?_⟩
               refine ⟨_,Od rfl,?_⟩
               refine ⟨_,rfl,(ac_laws_eqRiseS a.rises.p b.rises.p a.rises.l b.rises.l st hA.rises hB.rises hb.rises).mono ?_⟩
               rintro _ st ⟨x86,rfl,h86,rfl⟩
               rcases x86 with _|_
               ·replace h86 := fun k => Bool.false_ne_true (h86.2 k)
                refine ⟨_,rfl,?_⟩
                refine Cm 2 st [(4,vB false),(87,vB true)] [] fun _ _ => ?_
                exact cxs (Rt ⟨false,rfl,⟨fun h => absurd h Bool.false_ne_true,fun h => (show False from (absurd (congrArg Nd.rises h) h86)).elim⟩,rfl⟩)
               ·replace h86 := h86.1 rfl
                refine ⟨_,rfl,?_⟩
                refine Cm 2 st [(4,vB false),(87,vB false)] [] fun _ _ => ?_
                refine cxs ?_
                exact cxs (Rt ⟨true,rfl,⟨fun _ => by simp only [NV.x,h9,h14,h19,h25,h31,h37,h43,h49,h55,h60,h65,h71,h76,h81,h86],fun _ => rfl⟩,rfl⟩)
              ·replace h81 : ¬ (a.clock = b.clock) := bne_iff_ne.1 h81
               refine Cm 2 st [Ml 2 0,Ml 3 1,(4,vB false),(81,vB true)] [(2,0,cNV a),(3,1,cNV b)] fun _ _ => ?_
               exact cxs (Rt ⟨false,rfl,⟨fun h => absurd h Bool.false_ne_true,fun h => (show False from (absurd (congrArg Nd.clock h) h81)).elim⟩,rfl⟩)
             ·replace h76 : ¬ (a.limit = b.limit) := bne_iff_ne.1 h76
              refine Cm 2 st [Ml 2 0,Ml 3 1,(4,vB false),(76,vB true)] [(2,0,cNV a),(3,1,cNV b)] fun _ _ => ?_
              exact cxs (Rt ⟨false,rfl,⟨fun h => absurd h Bool.false_ne_true,fun h => (show False from (absurd (congrArg Nd.limit h) h76)).elim⟩,rfl⟩)
            ·replace h71 : ¬ (a.wait = b.wait) := bne_iff_ne.1 h71
             refine Cm 2 st [Ml 2 0,Ml 3 1,(4,vB false),(71,vB true)] [(2,0,cNV a),(3,1,cNV b)] fun _ _ => ?_
             exact cxs (Rt ⟨false,rfl,⟨fun h => absurd h Bool.false_ne_true,fun h => (show False from (absurd (congrArg Nd.wait h) h71)).elim⟩,rfl⟩)
          ·replace h60 : ¬ (a.slots = b.slots) := bne_iff_ne.1 h60
           refine Cm 2 st [Ml 2 0,Ml 3 1,(4,vB false),(60,vB true)] [(2,0,cNV a),(3,1,cNV b)] fun _ _ => ?_
           exact cxs (Rt ⟨false,rfl,⟨fun h => absurd h Bool.false_ne_true,fun h => (show False from (absurd (congrArg Nd.slots h) h60)).elim⟩,rfl⟩)
         ·replace h55 : ¬ (a.num = b.num) := bne_iff_ne.1 h55
          refine Cm 2 st [Ml 2 0,Ml 3 1,(4,vB false),(55,vB true)] [(2,0,cNV a),(3,1,cNV b)] fun _ _ => ?_
          exact cxs (Rt ⟨false,rfl,⟨fun h => absurd h Bool.false_ne_true,fun h => (show False from (absurd (congrArg Nd.num h) h55)).elim⟩,rfl⟩)
  ·replace h14 : ¬ (a.n = b.n) := bne_iff_ne.1 h14
   refine Cm 2 st [Ml 2 0,Ml 3 1,(4,vB false),(14,vB true)] [(2,0,cNV a),(3,1,cNV b)] fun _ _ => ?_
   exact cxs (Rt ⟨false,rfl,⟨fun h => absurd h Bool.false_ne_true,fun h => (show False from (absurd (congrArg Nd.n h) h14)).elim⟩,rfl⟩)
 ·replace h9 : ¬ (a.id = b.id) := bne_iff_ne.1 h9
  refine Cm 2 st [Ml 2 0,Ml 3 1,(4,vB false),(9,vB true)] [(2,0,cNV a),(3,1,cNV b)] fun _ _ => ?_
  exact cxs (Rt ⟨false,rfl,⟨fun h => absurd h Bool.false_ne_true,fun h => (show False from (absurd (congrArg Nd.id h) h9)).elim⟩,rfl⟩)
theorem same_next {α β : Type} {f : α → β} {a b : List α} {i : Nat} {x y : α} (hx : a[i]? = some x) (hy : b[i]? = some y) (h : f x = f y) (heq : ∀ (j : Nat) x y,j < i → a[j]? = some x → b[j]? = some y → f x = f y) : ∀ (j : Nat) x y,j < i + 1 → a[j]? = some x → b[j]? = some y → f x = f y := by
 intro j u v hj hu hv
 rcases Nat.lt_or_ge j i with h2 | h2
 ·exact heq j u v h2 hu hv
 ·obtain rfl : j = i := by omega
  rw [hx] at hu; rw [hy] at hv
  injection hu with hu; injection hv with hv
  rw [← hu,← hv]; exact h
theorem same_at {α : Type} {a b : List α} {i : Nat} {x y : α} (hx : a[i]? = some x) (hy : b[i]? = some y) (h : a = b) : x = y := by
 subst h; rw [hx] at hy; injection hy
theorem ac_slices_Equal_Int (p q : Option Addr) (a b : List Int) (st : St) (hA : Rows st 1 fI p a) (hB : Rows st 1 fI q b) (hs : szOk a.length) : C 164 [vS p a.length,vS q b.length] st (fun v s => ∃ x,v = .bool x ∧ (x = true ↔ a = b) ∧ s = st) := by
 have hs : a.length ≤ 1048576 := hs
 refine AC.enterX (i := ⟨[],[],[0,1,4,5,10,12,13,14,24],[]⟩) [(6,[],[])] Tryz.func164 rfl rfl (by kernel_rfl) (by kernel_rfl) Tryz.ntmps164 (Lb rfl) rfl ?_
 refine Cu lo0 st [(0,vS p a.length),(1,vS q b.length),(4,vB false)] fun _ => ?_
 iterate 3 refine ⟨_,rfl,?_⟩
 rintro (_|_) h10
 ·replace h10 : (a.length : Int) = (b.length : Int) := bne_eq_false_iff_eq.1 h10
  refine Cu lo0 st [(0,vS p a.length),(1,vS q b.length),(4,vB false),(10,vB false)] fun _ => ?_
  refine cxs ?_
  refine ⟨_,rfl,?_⟩
  refine Cu lo0 st [(0,vS p a.length),(1,vS q b.length),(4,vB false),(12,vI (a.length : Int)),(13,vI 0)] fun _ => ?_
  refine AW.loop0 (fun i : Nat => [(0,vS p a.length),(1,vS q b.length),(12,vI (a.length : Int)),(13,vI (i : Int))]) (fun m (i : Nat) st' => m = a.length - i ∧ i ≤ a.length ∧ (∀ (j : Nat) x y,j < i → a[j]? = some x → b[j]? = some y → x = y) ∧ st = st') 0 _ ⟨rfl,rfl,rfl,rfl,trivial⟩ rfl ⟨rfl,Nat.zero_le _,fun j x y h => absurd h (Nat.not_lt_zero _),rfl⟩ ?_
  rintro m i ρ0 st' ⟨rfl,hi,heq,rfl⟩
  refine ⟨_,rfl,?_⟩
  rintro (_|_) h14
  ·replace h14 : ¬ ((i : Int) < (a.length : Int)) := of_decide_eq_false h14
   refine Cu lo0 st [(0,vS p a.length),(1,vS q b.length),(12,vI (a.length : Int)),(13,vI (i : Int)),(14,vB false)] fun _ => ?_
   refine cxs ?_
   exact cxs (Rt ⟨true,rfl,⟨fun _ => iff_lists (by omega) fun j x y hj hx hy => heq j x y (by omega) hx hy,fun _ => rfl⟩,rfl⟩)
  ·replace h14 : (i : Int) < (a.length : Int) := of_decide_eq_true h14
   refine Cu lo0 st [(0,vS p a.length),(1,vS q b.length),(12,vI (a.length : Int)),(13,vI (i : Int)),(14,vB true)] fun _ => ?_
   refine cxs ?_
   refine Cu lo0 st [(0,vS p a.length),(1,vS q b.length),(5,vI (i : Int)),(12,vI (a.length : Int)),(13,vI (i : Int)),(14,vB true)] fun _ => ?_
   refine op_at i hA (by omega) rfl rfl rfl rfl rfl rfl rfl ?_
   intro x18 b18 d18 k18 hy18 hb18 hm18 hc18 ho18
   refine ⟨_,op_ldc (i := 0) rfl rfl rfl rfl hm18 hc18 rfl rfl,?_⟩
   refine op_at i hB (by omega) rfl rfl rfl rfl rfl rfl rfl ?_
   intro x22 b22 d22 k22 hy22 hb22 hm22 hc22 ho22
   refine ⟨_,op_ldc (i := 0) rfl rfl rfl rfl hm22 hc22 rfl rfl,?_⟩
   refine ⟨_,rfl,?_⟩
   rintro (_|_) h24
   ·replace h24 : x18 = x22 := bne_eq_false_iff_eq.1 h24
    refine Cu lo0 st [(0,vS p a.length),(1,vS q b.length),(5,vI (i : Int)),(12,vI (a.length : Int)),(13,vI (i : Int)),(14,vB true),(24,vB false)] fun _ => ?_
    refine cxs ?_
    have ew25 : IntKind.wrap .i64 ((i : Int) + (1)) = ((i + 1 : Nat) : Int) := (wrap_i64 (by omega) (by omega)).trans (by omega)
    refine ⟨_,rfl,?_⟩
    exact ⟨i + 1,a.length - (i + 1),by omega,⟨rfl,rfl,rfl,congrArg (Value.int .i64) ew25,trivial⟩,rfl,rfl,by omega,same_next (f := fun x => x) hy18 hy22 h24 heq,rfl⟩
   ·replace h24 : ¬ (x18 = x22) := bne_iff_ne.1 h24
    refine Cu lo0 st [(0,vS p a.length),(1,vS q b.length),(5,vI (i : Int)),(12,vI (a.length : Int)),(13,vI (i : Int)),(14,vB true),(24,vB true)] fun _ => ?_
    exact cxs (Rt ⟨false,rfl,⟨fun h => absurd h Bool.false_ne_true,fun h => (show False from (absurd (same_at hy18 hy22 h) h24)).elim⟩,rfl⟩)
 ·replace h10 : ¬ ((a.length : Int) = (b.length : Int)) := bne_iff_ne.1 h10
  refine Cu lo0 st [(0,vS p a.length),(1,vS q b.length),(4,vB false),(10,vB true)] fun _ => ?_
  exact cxs (Rt ⟨false,rfl,⟨fun h => absurd h Bool.false_ne_true,fun h => (show False from (absurd (congrArg (fun l : List Int => (l.length : Int)) h) h10)).elim⟩,rfl⟩)
theorem ac_spec_l1Same (p q : Option Addr) (a b : List Int) (st : St) (hA : Rows st 1 fI p a) (hB : Rows st 1 fI q b) (hs : szOk a.length) : C 87 [vS p a.length,vS q b.length] st (fun v s => ∃ x,v = .bool x ∧ (x = true ↔ a = b) ∧ s = st) := by
 have hs : a.length ≤ 1048576 := hs
 refine AC.enterX (i := ⟨[],[],[0,1,4,5,10,14,25],[]⟩) [(6,[],[])] Tryz.func87 rfl rfl (by kernel_rfl) (by kernel_rfl) Tryz.ntmps87 (Lb rfl) rfl ?_
 refine Cu lo0 st [(0,vS p a.length),(1,vS q b.length),(4,vB false)] fun _ => ?_
 iterate 3 refine ⟨_,rfl,?_⟩
 rintro (_|_) h10
 ·replace h10 : (a.length : Int) = (b.length : Int) := bne_eq_false_iff_eq.1 h10
  refine Cu lo0 st [(0,vS p a.length),(1,vS q b.length),(4,vB false),(10,vB false)] fun _ => ?_
  refine cxs ?_
  refine Cu lo0 st [(0,vS p a.length),(1,vS q b.length),(4,vB false),(5,vI 0)] fun _ => ?_
  refine AW.loop0 (fun i : Nat => [(0,vS p a.length),(1,vS q b.length),(5,vI (i : Int))]) (fun m (i : Nat) st' => m = a.length - i ∧ i ≤ a.length ∧ (∀ (j : Nat) x y,j < i → a[j]? = some x → b[j]? = some y → x = y) ∧ st = st') 0 _ ⟨rfl,rfl,rfl,trivial⟩ rfl ⟨rfl,Nat.zero_le _,fun j x y h => absurd h (Nat.not_lt_zero _),rfl⟩ ?_
  rintro m i ρ0 st' ⟨rfl,hi,heq,rfl⟩
  iterate 2 refine ⟨_,rfl,?_⟩
  rintro (_|_) h14
  ·replace h14 : ¬ ((i : Int) < (a.length : Int)) := of_decide_eq_false h14
   refine Cu lo0 st [(0,vS p a.length),(1,vS q b.length),(5,vI (i : Int)),(14,vB false)] fun _ => ?_
   refine cxs ?_
   exact cxs (Rt ⟨true,rfl,⟨fun _ => iff_lists (by omega) fun j x y hj hx hy => heq j x y (by omega) hx hy,fun _ => rfl⟩,rfl⟩)
  ·replace h14 : (i : Int) < (a.length : Int) := of_decide_eq_true h14
   refine Cu lo0 st [(0,vS p a.length),(1,vS q b.length),(5,vI (i : Int)),(14,vB true)] fun _ => ?_
   refine cxs ?_
   refine op_at i hA (by omega) rfl rfl rfl rfl rfl rfl rfl ?_
   intro x19 b19 d19 k19 hy19 hb19 hm19 hc19 ho19
   refine ⟨_,op_ldc (i := 0) rfl rfl rfl rfl hm19 hc19 rfl rfl,?_⟩
   refine op_at i hB (by omega) rfl rfl rfl rfl rfl rfl rfl ?_
   intro x23 b23 d23 k23 hy23 hb23 hm23 hc23 ho23
   refine ⟨_,op_ldc (i := 0) rfl rfl rfl rfl hm23 hc23 rfl rfl,?_⟩
   refine ⟨_,rfl,?_⟩
   rintro (_|_) h25
   ·replace h25 : x19 = x23 := bne_eq_false_iff_eq.1 h25
    refine Cu lo0 st [(0,vS p a.length),(1,vS q b.length),(5,vI (i : Int)),(14,vB true),(25,vB false)] fun _ => ?_
    refine cxs ?_
    have ew16 : IntKind.wrap .i64 ((i : Int) + (1)) = ((i + 1 : Nat) : Int) := (wrap_i64 (by omega) (by omega)).trans (by omega)
    refine ⟨_,rfl,?_⟩
    exact ⟨i + 1,a.length - (i + 1),by omega,⟨rfl,rfl,congrArg (Value.int .i64) ew16,trivial⟩,rfl,rfl,by omega,same_next (f := fun x => x) hy19 hy23 h25 heq,rfl⟩
   ·replace h25 : ¬ (x19 = x23) := bne_iff_ne.1 h25
    refine Cu lo0 st [(0,vS p a.length),(1,vS q b.length),(5,vI (i : Int)),(14,vB true),(25,vB true)] fun _ => ?_
    exact cxs (Rt ⟨false,rfl,⟨fun h => absurd h Bool.false_ne_true,fun h => (show False from (absurd (same_at hy19 hy23 h) h25)).elim⟩,rfl⟩)
 ·replace h10 : ¬ ((a.length : Int) = (b.length : Int)) := bne_iff_ne.1 h10
  refine Cu lo0 st [(0,vS p a.length),(1,vS q b.length),(4,vB false),(10,vB true)] fun _ => ?_
  exact cxs (Rt ⟨false,rfl,⟨fun h => absurd h Bool.false_ne_true,fun h => (show False from (absurd (congrArg (fun l : List Int => (l.length : Int)) h) h10)).elim⟩,rfl⟩)
theorem ac_impl_treeSame (a b : TV) (st : St) (hA : Rows st 1 fI a.p a.l) (hB : Rows st 1 fI b.p b.l) (hb : szOk a.l.length) : C 63 [.agg #[vS a.p a.l.length,vI a.root],.agg #[vS b.p b.l.length,vI b.root]] st (fun v s => ∃ x,v = .bool x ∧ (x = true ↔ a.x = b.x) ∧ s = st) := by
 refine AC.enterX (i := ⟨[2,3],[2,3,5,7,11,13],[0,1,2,3,4],[]⟩) [] Tryz.func63 rfl rfl (by kernel_rfl) (by kernel_rfl) Tryz.ntmps63 (Lb rfl) rfl ?_
 iterate 2 refine ⟨_,rfl,?_⟩
 refine Cm 2 st [Ml 2 0,Ml 3 1,(4,vB false)] [(2,0,[vS a.p a.l.length,vI a.root]),(3,1,[vS b.p b.l.length,vI b.root])] fun _ _ => ?_
 refine ⟨_,rfl,?_⟩
 refine ⟨_,Od rfl,?_⟩
 refine ⟨_,rfl,?_⟩
 refine ⟨_,Od rfl,?_⟩
 refine ⟨_,rfl,(ac_slices_Equal_Int a.p b.p a.l b.l st hA hB (by first | assumption | omega)).mono ?_⟩
 rintro _ st ⟨x9,rfl,h9,rfl⟩
 rcases x9 with _|_
 ·replace h9 := fun k => Bool.false_ne_true (h9.2 k)
  refine ⟨_,rfl,?_⟩
  exact cxs (Rt ⟨false,rfl,⟨fun h => absurd h Bool.false_ne_true,fun h => (show False from (absurd (congrArg Tr.leaves h) h9)).elim⟩,rfl⟩)
 ·replace h9 := h9.1 rfl
  refine ⟨_,rfl,?_⟩
  refine ⟨_,Od rfl,?_⟩
  refine ⟨_,rfl,?_⟩
  refine ⟨_,Od rfl,?_⟩
  refine ⟨_,rfl,?_⟩
  rintro (_|_) h15
  ·replace h15 : ¬ (a.root = b.root) := beq_eq_false_iff_ne.1 h15
   refine ⟨_,rfl,?_⟩
   exact cxs (Rt ⟨false,rfl,⟨fun h => absurd h Bool.false_ne_true,fun h => (show False from (absurd (congrArg Tr.root h) h15)).elim⟩,rfl⟩)
  ·replace h15 : a.root = b.root := beq_iff_eq.1 h15
   refine ⟨_,rfl,?_⟩
   exact cxs (Rt ⟨true,rfl,⟨fun _ => (by simp only [TV.x,h9,h15]),fun _ => rfl⟩,rfl⟩)
theorem ac_spec_l11Tree (a b : TV) (st : St) (hA : Rows st 1 fI a.p a.l) (hB : Rows st 1 fI b.p b.l) (hb : szOk a.l.length) : C 73 [.agg #[vS a.p a.l.length,vI a.root],.agg #[vS b.p b.l.length,vI b.root]] st (fun v s => ∃ x,v = .bool x ∧ (x = true ↔ a.x = b.x) ∧ s = st) := by
 refine AC.enterX (i := ⟨[2,3],[2,3,5,7,11,13],[0,1,2,3,4],[]⟩) [] Tryz.func73 rfl rfl (by kernel_rfl) (by kernel_rfl) Tryz.ntmps73 (Lb rfl) rfl ?_
 iterate 2 refine ⟨_,rfl,?_⟩
 refine Cm 2 st [Ml 2 0,Ml 3 1,(4,vB false)] [(2,0,[vS a.p a.l.length,vI a.root]),(3,1,[vS b.p b.l.length,vI b.root])] fun _ _ => ?_
 refine ⟨_,rfl,?_⟩
 refine ⟨_,Od rfl,?_⟩
 refine ⟨_,rfl,?_⟩
 refine ⟨_,Od rfl,?_⟩
 refine ⟨_,rfl,(ac_spec_l1Same a.p b.p a.l b.l st hA hB (by first | assumption | omega)).mono ?_⟩
 rintro _ st ⟨x9,rfl,h9,rfl⟩
 rcases x9 with _|_
 ·replace h9 := fun k => Bool.false_ne_true (h9.2 k)
  refine ⟨_,rfl,?_⟩
  exact cxs (Rt ⟨false,rfl,⟨fun h => absurd h Bool.false_ne_true,fun h => (show False from (absurd (congrArg Tr.leaves h) h9)).elim⟩,rfl⟩)
 ·replace h9 := h9.1 rfl
  refine ⟨_,rfl,?_⟩
  refine ⟨_,Od rfl,?_⟩
  refine ⟨_,rfl,?_⟩
  refine ⟨_,Od rfl,?_⟩
  refine ⟨_,rfl,?_⟩
  rintro (_|_) h15
  ·replace h15 : ¬ (a.root = b.root) := beq_eq_false_iff_ne.1 h15
   refine ⟨_,rfl,?_⟩
   exact cxs (Rt ⟨false,rfl,⟨fun h => absurd h Bool.false_ne_true,fun h => (show False from (absurd (congrArg Tr.root h) h15)).elim⟩,rfl⟩)
  ·replace h15 : a.root = b.root := beq_iff_eq.1 h15
   refine ⟨_,rfl,?_⟩
   exact cxs (Rt ⟨true,rfl,⟨fun _ => (by simp only [TV.x,h9,h15]),fun _ => rfl⟩,rfl⟩)
theorem uc_eqNode (a b : NW) (st : St) (hA : RdN st a.v) (hB : RdN st b.v) (hb : bigN a.x) : C 40 [(vNV a),(vNV b)] st (fun v s => ∃ x,v = .bool x ∧ (x = true ↔ a.x = b.x) ∧ s = st) := ac_laws_eqNode a.v b.v st hA hB hb
def slotF : List Ses → Int → Bool → Nat → Int
 | [],_,_,_ => -1
 | x :: l,p,b,k => if x.peer = p ∧ x.inn = b then (k : Int) else slotF l p b (k + 1)
theorem ac_impl_Slot (g : NV) (p : Int) (b : Bool) (st : St) (hR : RdN st g) (hb : bigN g.x) : C 33 [(vNV g),vI p,vB b] st (fun v s => v = vI (slotF g.sess.l p b 0) ∧ s = st) := by
 have hs : g.sess.l.length ≤ 1048576 := hb.sess
 refine AC.enterX (i := ⟨[3,8],[3,8,9,17,22],[0,1,2,3,6,7,8,10,11,12,13,26],[]⟩) [] Tryz.func33 rfl rfl (by kernel_rfl) (by kernel_rfl) Tryz.ntmps33 (Lb rfl) rfl ?_
 refine ⟨_,rfl,?_⟩
 refine Cm 1 st [(1,vI p),(2,vB b),Ml 3 0,(6,vI 0)] [(3,0,cNV g)] fun _ _ => ?_
 refine ⟨_,rfl,?_⟩
 refine ⟨_,Od rfl,?_⟩
 refine ⟨_,rfl,?_⟩
 refine Cm 1 st [(1,vI p),(2,vB b),(6,vI 0),(10,vS g.sess.p g.sess.l.length),(11,vI (g.sess.l.length : Int)),(12,vI 0)] [] fun _ _ => ?_
 refine AW.loopM (fun i : Nat => [(1,vI p),(2,vB b),(10,vS g.sess.p g.sess.l.length),(11,vI (g.sess.l.length : Int)),(12,vI (i : Int))]) (fun i : Nat => []) (fun m (i : Nat) st' => m = g.sess.l.length - i ∧ i ≤ g.sess.l.length ∧ slotF g.sess.l p b 0 = slotF (g.sess.l.drop i) p b i ∧ st = st') 0 _ ⟨rfl,rfl,rfl,rfl,rfl,trivial⟩ trivial ⟨rfl,Nat.zero_le _,rfl,rfl⟩ ?_
 rintro m i ρ0 ff gg st' ⟨rfl,hi,hf,rfl⟩
 refine ⟨_,rfl,?_⟩
 rintro (_|_) h13
 ·replace h13 : ¬ ((i : Int) < (g.sess.l.length : Int)) := of_decide_eq_false h13
  refine Cm gg st [(1,vI p),(2,vB b),(10,vS g.sess.p g.sess.l.length),(11,vI (g.sess.l.length : Int)),(12,vI (i : Int)),(13,vB false)] [] fun _ _ => ?_
  refine cxs ?_
  refine cxs ?_
  have hil : i = g.sess.l.length := by omega
  exact Rt ⟨congrArg vI (by rw [hf,hil,List.drop_length]; rfl),rfl⟩
 ·replace h13 : (i : Int) < (g.sess.l.length : Int) := of_decide_eq_true h13
  refine Cm gg st [(1,vI p),(2,vB b),(10,vS g.sess.p g.sess.l.length),(11,vI (g.sess.l.length : Int)),(12,vI (i : Int)),(13,vB true)] [] fun _ _ => ?_
  refine cxs ?_
  refine op_at i hR.sess (by omega) rfl rfl rfl rfl rfl rfl rfl ?_
  intro x15 b15 d15 k15 hy15 hb15 hm15 hc15 ho15
  refine ⟨_,op_lda rfl rfl rfl rfl rfl hm15 hc15 rfl,?_⟩
  refine ⟨_,rfl,?_⟩
  refine ⟨_,Os rfl,?_⟩
  refine Cm (gg + 1) st [(1,vI p),(2,vB b),(7,vI (i : Int)),Ml 8 gg,(10,vS g.sess.p g.sess.l.length),(11,vI (g.sess.l.length : Int)),(12,vI (i : Int)),(13,vB true)] [(8,gg,[vI x15.peer,vI x15.num,vB x15.inn,vI x15.age])] fun _ _ => ?_
  rw [(split_at' hy15).2.2,slotF] at hf
  refine ⟨_,rfl,?_⟩
  refine ⟨_,Od rfl,?_⟩
  refine ⟨_,rfl,?_⟩
  rintro (_|_) h20
  ·replace h20 : ¬ (x15.peer = p) := beq_eq_false_iff_ne.1 h20
   refine ⟨_,rfl,?_⟩
   refine Cm (gg + 1) st [(1,vI p),(2,vB b),(7,vI (i : Int)),Ml 8 gg,(10,vS g.sess.p g.sess.l.length),(11,vI (g.sess.l.length : Int)),(12,vI (i : Int)),(13,vB true),(26,vB false)] [(8,gg,[vI x15.peer,vI x15.num,vB x15.inn,vI x15.age])] fun _ _ => ?_
   have hno : ¬ (x15.peer = p ∧ x15.inn = b) := fun h => h20 h.1
   refine cxs ?_
   have ew28 : IntKind.wrap .i64 ((i : Int) + (1)) = ((i + 1 : Nat) : Int) := (wrap_i64 (by omega) (by omega)).trans (by omega)
   refine ⟨_,rfl,?_⟩
   exact ⟨i + 1,g.sess.l.length - (i + 1),by omega,⟨rfl,rfl,rfl,rfl,congrArg (Value.int .i64) ew28,trivial⟩,trivial,rfl,by omega,by rw [hf,if_neg hno],rfl⟩
  ·replace h20 : x15.peer = p := beq_iff_eq.1 h20
   refine ⟨_,rfl,?_⟩
   refine ⟨_,Od rfl,?_⟩
   refine ⟨_,rfl,?_⟩
   rintro (_|_) h25
   ·replace h25 : ¬ (x15.inn = b) := beq_eq_false_iff_ne.1 h25
    refine ⟨_,rfl,?_⟩
    refine Cm (gg + 1) st [(1,vI p),(2,vB b),(7,vI (i : Int)),Ml 8 gg,(10,vS g.sess.p g.sess.l.length),(11,vI (g.sess.l.length : Int)),(12,vI (i : Int)),(13,vB true),(26,vB false)] [(8,gg,[vI x15.peer,vI x15.num,vB x15.inn,vI x15.age])] fun _ _ => ?_
    have hno : ¬ (x15.peer = p ∧ x15.inn = b) := fun h => h25 h.2
    refine cxs ?_
    have ew28 : IntKind.wrap .i64 ((i : Int) + (1)) = ((i + 1 : Nat) : Int) := (wrap_i64 (by omega) (by omega)).trans (by omega)
    refine ⟨_,rfl,?_⟩
    exact ⟨i + 1,g.sess.l.length - (i + 1),by omega,⟨rfl,rfl,rfl,rfl,congrArg (Value.int .i64) ew28,trivial⟩,trivial,rfl,by omega,by rw [hf,if_neg hno],rfl⟩
   ·replace h25 : x15.inn = b := beq_iff_eq.1 h25
    refine ⟨_,rfl,?_⟩
    refine Cm (gg + 1) st [(1,vI p),(2,vB b),(7,vI (i : Int)),Ml 8 gg,(10,vS g.sess.p g.sess.l.length),(11,vI (g.sess.l.length : Int)),(12,vI (i : Int)),(13,vB true),(26,vB true)] [(8,gg,[vI x15.peer,vI x15.num,vB x15.inn,vI x15.age])] fun _ _ => ?_
    exact cxs (Rt ⟨congrArg vI (by rw [hf,if_pos ⟨h20,h25⟩]),rfl⟩)
def rowOk (l : List Int) : Prop := l.length = 5 ∧ ∀ (j : Nat) x,l[j]? = some x → 0 ≤ x ∧ x ≤ 1000
def tableOk (t : List (List Int)) (n : Int) : Prop := (1 ≤ n ∧ n ≤ 5) ∧ (t.length : Int) = n ∧ ∀ l ∈ t,rowOk l
theorem rows_of {t : List RV} {n : Int} (h : tableOk (t.map (·.l)) n) {i : Nat} {r : RV} (hr : t[i]? = some r) : rowOk r.l := h.2.2 _ (List.mem_map_of_mem (List.mem_of_getElem? hr))
theorem rows_to {t : List RV} (h : ∀ (j : Nat) r,t[j]? = some r → rowOk r.l) : ∀ l ∈ t.map (·.l),rowOk l := fun l hl => by
 obtain ⟨r,hr,rfl⟩ := List.mem_map.1 hl
 obtain ⟨i,hi⟩ := List.getElem?_of_mem hr
 exact h i r hi
theorem ac_spec_TableOk (p : Option Addr) (t : List RV) (n : Int) (st : St) (hR : RdT st p t) (hs : szOk t.length) (hr : ∀ r ∈ t,szOk r.l.length) : C 78 [vS p t.length,vI n] st (fun v s => ∃ x,v = .bool x ∧ (x = true ↔ tableOk (t.map (·.l)) n) ∧ s = st) := by
 have hs : t.length ≤ 1048576 := hs
 refine AC.enterX (i := ⟨[],[],[0,1,4,5,6,15,18,26,33,44],[]⟩) [] Tryz.func78 rfl rfl (by kernel_rfl) (by kernel_rfl) Tryz.ntmps78 (Lb rfl) rfl ?_
 refine Cu lo0 st [(0,vS p t.length),(1,vI n),(4,vB false)] fun _ => ?_
 refine ⟨_,rfl,(ac_spec_l1In n 1 5 st).mono ?_⟩
 rintro _ st ⟨y,rfl,hy,rfl⟩
 rcases y with _|_
 ·replace hy := of_decide_eq_false hy.symm
  iterate 2 refine ⟨_,rfl,?_⟩
  refine Cu lo0 st [(0,vS p t.length),(1,vI n),(4,vB false),(15,vB true)] fun _ => ?_
  exact cxs (Rt ⟨false,rfl,⟨fun h => absurd h Bool.false_ne_true,fun h => absurd h.1 hy⟩,rfl⟩)
 ·replace hy := of_decide_eq_true hy.symm
  iterate 3 refine ⟨_,rfl,?_⟩
  rintro (_|_) h0
  ·replace h0 : (t.length : Int) = n := bne_eq_false_iff_eq.1 h0
   refine ⟨_,rfl,?_⟩
   refine Cu lo0 st [(0,vS p t.length),(1,vI n),(4,vB false),(15,vB false)] fun _ => ?_
   refine cxs ?_
   refine Cu lo0 st [(0,vS p t.length),(1,vI n),(4,vB false),(5,vI 0)] fun _ => ?_
   refine AW.loop0 (fun i : Nat => [(0,vS p t.length),(1,vI n),(5,vI (i : Int))]) (fun m (i : Nat) st' => m = t.length - i ∧ i ≤ t.length ∧ (∀ (j : Nat) r,j < i → t[j]? = some r → rowOk r.l) ∧ st = st') 0 _ ⟨rfl,rfl,rfl,trivial⟩ rfl ⟨rfl,Nat.zero_le _,fun j r h => absurd h (Nat.not_lt_zero _),rfl⟩ ?_
   rintro m i ρ0 st' ⟨rfl,hi,hok,rfl⟩
   refine ⟨_,rfl,?_⟩
   rintro (_|_) h1
   ·replace h1 : ¬ ((i : Int) < n) := of_decide_eq_false h1
    refine Cu lo0 st [(0,vS p t.length),(1,vI n),(5,vI (i : Int)),(18,vB false)] fun _ => ?_
    refine cxs ?_
    exact cxs (Rt ⟨true,rfl,⟨fun _ => ⟨hy,by rw [List.length_map]; exact h0,rows_to fun j r hr => hok j r (by have := (List.getElem?_eq_some_iff.1 hr).1; omega) hr⟩,fun _ => rfl⟩,rfl⟩)
   ·replace h1 : (i : Int) < n := of_decide_eq_true h1
    refine Cu lo0 st [(0,vS p t.length),(1,vI n),(5,vI (i : Int)),(18,vB true)] fun _ => ?_
    have h1' : i < t.length := by omega
    have ⟨b1,o1,k1,r,hpe,hr1,hm1,hc1⟩ := hR.1.at h1'
    have hmem := List.mem_of_getElem? hr1
    have hrs : r.l.length ≤ 1048576 := hr r hmem
    refine cxs ?_
    refine ⟨_,op_idx (j := (i : Int)) (n := t.length) (q := ⟨b1,o1,none⟩) rfl (congrArg (fun u => vS u t.length) hpe) rfl rfl rfl (Int.natCast_nonneg _) (Int.ofNat_lt.2 h1'),?_⟩
    refine ⟨_,op_ldc (i := 0) (v := vS r.p r.l.length) rfl rfl rfl rfl hm1 hc1 rfl rfl,?_⟩
    iterate 2 refine ⟨_,rfl,?_⟩
    rintro (_|_) h2
    ·replace h2 : (r.l.length : Int) = 5 := bne_eq_false_iff_eq.1 h2
     refine Cu lo0 st [(0,vS p t.length),(1,vI n),(5,vI (i : Int)),(18,vB true),(26,vB false)] fun _ => ?_
     refine cxs ?_
     refine Cu lo0 st [(0,vS p t.length),(1,vI n),(5,vI (i : Int)),(6,vI 0),(18,vB true),(26,vB false)] fun _ => ?_
     refine AW.loop0 (fun j : Nat => [(0,vS p t.length),(1,vI n),(5,vI (i : Int)),(6,vI (j : Int))]) (fun m (j : Nat) st' => m = r.l.length - j ∧ j ≤ r.l.length ∧ (∀ (u : Nat) x,u < j → r.l[u]? = some x → 0 ≤ x ∧ x ≤ 1000) ∧ st = st') 0 _ ⟨rfl,rfl,rfl,rfl,trivial⟩ rfl ⟨rfl,Nat.zero_le _,fun u x h => absurd h (Nat.not_lt_zero _),rfl⟩ ?_
     rintro m j ρ0 st' ⟨rfl,hj,hel,rfl⟩
     refine ⟨_,op_idx (j := (i : Int)) (n := t.length) (q := ⟨b1,o1,none⟩) rfl (congrArg (fun u => vS u t.length) hpe) rfl rfl rfl (Int.natCast_nonneg _) (Int.ofNat_lt.2 h1'),?_⟩
     refine ⟨_,op_ldc (i := 0) (v := vS r.p r.l.length) rfl rfl rfl rfl hm1 hc1 rfl rfl,?_⟩
     iterate 2 refine ⟨_,rfl,?_⟩
     rintro (_|_) h3
     ·replace h3 : ¬ ((j : Int) < (r.l.length : Int)) := of_decide_eq_false h3
      refine Cu lo0 st [(0,vS p t.length),(1,vI n),(5,vI (i : Int)),(6,vI (j : Int)),(33,vB false)] fun _ => ?_
      refine cxs ?_
      have e20 : IntKind.wrap .i64 ((i : Int) + 1) = ((i + 1 : Nat) : Int) := (wrap_i64 (by omega) (by omega)).trans (by omega)
      refine ⟨_,rfl,?_⟩
      refine ⟨i + 1,t.length - (i + 1),by omega,⟨rfl,rfl,congrArg (Value.int .i64) e20,trivial⟩,rfl,rfl,h1',fun u x hu hx => ?_,rfl⟩
      rcases Nat.lt_or_ge u i with h | h
      ·exact hok u x h hx
      ·obtain rfl : u = i := by omega
       rw [hr1] at hx
       injection hx with hx
       rw [← hx]
       exact ⟨by omega,fun v y hy => hel v y (by have := (List.getElem?_eq_some_iff.1 hy).1; omega) hy⟩
     ·replace h3 : (j : Int) < (r.l.length : Int) := of_decide_eq_true h3
      refine Cu lo0 st [(0,vS p t.length),(1,vI n),(5,vI (i : Int)),(6,vI (j : Int)),(33,vB true)] fun _ => ?_
      have h3' := Int.ofNat_lt.1 h3
      have ⟨b2,o2,k2,z,hqe,hz,hm2,hc2⟩ := (hR.2 r hmem).at h3'
      refine cxs ?_
      refine ⟨_,op_idx (j := (i : Int)) (n := t.length) (q := ⟨b1,o1,none⟩) rfl (congrArg (fun u => vS u t.length) hpe) rfl rfl rfl (Int.natCast_nonneg _) (Int.ofNat_lt.2 h1'),?_⟩
      refine ⟨_,op_ldc (i := 0) (v := vS r.p r.l.length) rfl rfl rfl rfl hm1 hc1 rfl rfl,?_⟩
      refine ⟨_,op_idx (j := (j : Int)) (n := r.l.length) (q := ⟨b2,o2,none⟩) rfl (congrArg (fun u => vS u r.l.length) hqe) rfl rfl rfl (Int.natCast_nonneg _) h3,?_⟩
      refine ⟨_,op_ldc (i := 0) (v := vI z) rfl rfl rfl rfl hm2 hc2 rfl rfl,?_⟩
      refine ⟨_,rfl,(ac_spec_l1In z 0 1000 st).mono ?_⟩
      rintro _ st ⟨c,rfl,h4,rfl⟩
      rcases c with _|_
      ·replace h4 := of_decide_eq_false h4.symm
       refine ⟨_,rfl,?_⟩
       refine Cu lo0 st [(0,vS p t.length),(1,vI n),(5,vI (i : Int)),(6,vI (j : Int)),(33,vB true),(44,vB true)] fun _ => ?_
       exact cxs (Rt ⟨false,rfl,⟨fun h => absurd h Bool.false_ne_true,fun h => absurd ((rows_of h hr1).2 j z hz) h4⟩,rfl⟩)
      ·replace h4 := of_decide_eq_true h4.symm
       refine ⟨_,rfl,?_⟩
       refine Cu lo0 st [(0,vS p t.length),(1,vI n),(5,vI (i : Int)),(6,vI (j : Int)),(33,vB true),(44,vB false)] fun _ => ?_
       refine cxs ?_
       have e35 : IntKind.wrap .i64 ((j : Int) + 1) = ((j + 1 : Nat) : Int) := (wrap_i64 (by omega) (by omega)).trans (by omega)
       refine ⟨_,rfl,?_⟩
       refine ⟨j + 1,r.l.length - (j + 1),by omega,⟨rfl,rfl,rfl,congrArg (Value.int .i64) e35,trivial⟩,rfl,rfl,h3',fun u x hu hx => ?_,rfl⟩
       rcases Nat.lt_or_ge u j with h | h
       ·exact hel u x h hx
       ·obtain rfl : u = j := by omega
        rw [hz] at hx
        injection hx with hx
        rw [← hx]; exact h4
    ·replace h2 : ¬ ((r.l.length : Int) = 5) := bne_iff_ne.1 h2
     refine Cu lo0 st [(0,vS p t.length),(1,vI n),(5,vI (i : Int)),(18,vB true),(26,vB true)] fun _ => ?_
     exact cxs (Rt ⟨false,rfl,⟨fun h => absurd h Bool.false_ne_true,fun h => absurd (by have := (rows_of h hr1).1; omega) h2⟩,rfl⟩)
  ·replace h0 : ¬ ((t.length : Int) = n) := bne_iff_ne.1 h0
   refine ⟨_,rfl,?_⟩
   refine Cu lo0 st [(0,vS p t.length),(1,vI n),(4,vB false),(15,vB true)] fun _ => ?_
   exact cxs (Rt ⟨false,rfl,⟨fun h => absurd h Bool.false_ne_true,fun h => absurd (by have := h.2.1; rwa [List.length_map] at this) h0⟩,rfl⟩)
theorem ac_impl_TableOk (p : Option Addr) (t : List RV) (n : Int) (st : St) (hR : RdT st p t) (hs : szOk t.length) (hr : ∀ r ∈ t,szOk r.l.length) : C 67 [vS p t.length,vI n] st (fun v s => ∃ x,v = .bool x ∧ (x = true ↔ tableOk (t.map (·.l)) n) ∧ s = st) := by
 have hs : t.length ≤ 1048576 := hs
 refine AC.enterX (i := ⟨[],[],[0,1,4,6,8,9,10,11,12,15,16,17,18,23,27],[]⟩) [] Tryz.func67 rfl rfl (by kernel_rfl) (by kernel_rfl) Tryz.ntmps67 (Lb rfl) rfl ?_
 refine Cu lo0 st [(0,vS p t.length),(1,vI n),(4,vB false)] fun _ => ?_
 refine ⟨_,rfl,?_⟩
 refine Cu lo0 st [(0,vS p t.length),(1,vI n),(4,vB false),(9,vS p t.length),(10,vI (t.length)),(11,vI 0)] fun _ => ?_
 refine AW.loop0 (fun i : Nat => [(0,vS p t.length),(1,vI n),(9,vS p t.length),(10,vI (t.length : Int)),(11,vI (i : Int))]) (fun m (i : Nat) st' => m = t.length - i ∧ i ≤ t.length ∧ (∀ (j : Nat) r,j < i → t[j]? = some r → rowOk r.l) ∧ st = st') 0 _ ⟨rfl,rfl,rfl,rfl,rfl,trivial⟩ rfl ⟨rfl,Nat.zero_le _,fun j r h => absurd h (Nat.not_lt_zero _),rfl⟩ ?_
 rintro m i ρ0 st' ⟨rfl,hi,hok,rfl⟩
 refine ⟨_,rfl,?_⟩
 rintro (_|_) h1
 ·replace h1 : ¬ ((i : Int) < (t.length : Int)) := of_decide_eq_false h1
  refine Cu lo0 st [(0,vS p t.length),(1,vI n),(9,vS p t.length),(10,vI (t.length : Int)),(11,vI (i : Int)),(12,vB false)] fun _ => ?_
  refine cxs ?_
  refine ⟨_,rfl,(ac_impl_within n 1 5 st).mono ?_⟩
  rintro _ st ⟨y,rfl,hy,rfl⟩
  rcases y with _|_
  ·replace hy := of_decide_eq_false hy.symm
   refine ⟨_,rfl,?_⟩
   exact cxs (Rt ⟨false,rfl,⟨fun h => absurd h Bool.false_ne_true,fun h => absurd h.1 hy⟩,rfl⟩)
  ·replace hy := of_decide_eq_true hy.symm
   iterate 2 refine ⟨_,rfl,?_⟩
   rintro (_|_) h0
   ·replace h0 : ¬ ((t.length : Int) = n) := beq_eq_false_iff_ne.1 h0
    refine ⟨_,rfl,?_⟩
    exact cxs (Rt ⟨false,rfl,⟨fun h => absurd h Bool.false_ne_true,fun h => absurd (by have := h.2.1; rwa [List.length_map] at this) h0⟩,rfl⟩)
   ·replace h0 : (t.length : Int) = n := beq_iff_eq.1 h0
    refine ⟨_,rfl,?_⟩
    exact cxs (Rt ⟨true,rfl,⟨fun _ => ⟨hy,by rw [List.length_map]; exact h0,rows_to fun j r hr => hok j r (by have := (List.getElem?_eq_some_iff.1 hr).1; omega) hr⟩,fun _ => rfl⟩,rfl⟩)
 ·replace h1 : (i : Int) < (t.length : Int) := of_decide_eq_true h1
  refine Cu lo0 st [(0,vS p t.length),(1,vI n),(9,vS p t.length),(10,vI (t.length : Int)),(11,vI (i : Int)),(12,vB true)] fun _ => ?_
  have h1' : i < t.length := by omega
  have ⟨b1,o1,k1,r,hpe,hr1,hm1,hc1⟩ := hR.1.at h1'
  have hmem := List.mem_of_getElem? hr1
  have hrs : r.l.length ≤ 1048576 := hr r hmem
  refine cxs ?_
  refine ⟨_,op_idx (j := (i : Int)) (n := t.length) (q := ⟨b1,o1,none⟩) rfl (congrArg (fun u => vS u t.length) hpe) rfl rfl rfl (Int.natCast_nonneg _) (Int.ofNat_lt.2 h1'),?_⟩
  refine ⟨_,op_ldc (i := 0) (v := vS r.p r.l.length) rfl rfl rfl rfl hm1 hc1 rfl rfl,?_⟩
  refine Cu lo0 st [(0,vS p t.length),(1,vI n),(6,vS r.p r.l.length),(9,vS p t.length),(10,vI (t.length : Int)),(11,vI (i : Int)),(12,vB true)] fun _ => ?_
  refine ⟨_,rfl,?_⟩
  refine Cu lo0 st [(0,vS p t.length),(1,vI n),(6,vS r.p r.l.length),(9,vS p t.length),(10,vI (t.length : Int)),(11,vI (i : Int)),(12,vB true),(15,vS r.p r.l.length),(16,vI (r.l.length)),(17,vI 0)] fun _ => ?_
  refine AW.loop0 (fun j : Nat => [(0,vS p t.length),(1,vI n),(6,vS r.p r.l.length),(9,vS p t.length),(10,vI (t.length : Int)),(11,vI (i : Int)),(15,vS r.p r.l.length),(16,vI (r.l.length : Int)),(17,vI (j : Int))]) (fun m (j : Nat) st' => m = r.l.length - j ∧ j ≤ r.l.length ∧ (∀ (u : Nat) x,u < j → r.l[u]? = some x → 0 ≤ x ∧ x ≤ 1000) ∧ st = st') 0 _ ⟨rfl,rfl,rfl,rfl,rfl,rfl,rfl,rfl,rfl,trivial⟩ rfl ⟨rfl,Nat.zero_le _,fun u x h => absurd h (Nat.not_lt_zero _),rfl⟩ ?_
  rintro m j ρ0 st' ⟨rfl,hj,hel,rfl⟩
  refine ⟨_,rfl,?_⟩
  rintro (_|_) h3
  ·replace h3 : ¬ ((j : Int) < (r.l.length : Int)) := of_decide_eq_false h3
   refine Cu lo0 st [(0,vS p t.length),(1,vI n),(6,vS r.p r.l.length),(9,vS p t.length),(10,vI (t.length : Int)),(11,vI (i : Int)),(15,vS r.p r.l.length),(16,vI (r.l.length : Int)),(17,vI (j : Int)),(18,vB false)] fun _ => ?_
   refine cxs ?_
   iterate 2 refine ⟨_,rfl,?_⟩
   rintro (_|_) h2
   ·replace h2 : (r.l.length : Int) = 5 := bne_eq_false_iff_eq.1 h2
    refine Cu lo0 st [(0,vS p t.length),(1,vI n),(6,vS r.p r.l.length),(9,vS p t.length),(10,vI (t.length : Int)),(11,vI (i : Int)),(15,vS r.p r.l.length),(16,vI (r.l.length : Int)),(17,vI (j : Int)),(18,vB false),(27,vB false)] fun _ => ?_
    refine cxs ?_
    have e28 : IntKind.wrap .i64 ((i : Int) + 1) = ((i + 1 : Nat) : Int) := (wrap_i64 (by omega) (by omega)).trans (by omega)
    refine ⟨_,rfl,?_⟩
    refine ⟨i + 1,t.length - (i + 1),by omega,⟨rfl,rfl,rfl,rfl,congrArg (Value.int .i64) e28,trivial⟩,rfl,rfl,h1',fun u x hu hx => ?_,rfl⟩
    rcases Nat.lt_or_ge u i with h | h
    ·exact hok u x h hx
    ·obtain rfl : u = i := by omega
     rw [hr1] at hx
     injection hx with hx
     rw [← hx]
     exact ⟨by omega,fun v y hy => hel v y (by have := (List.getElem?_eq_some_iff.1 hy).1; omega) hy⟩
   ·replace h2 : ¬ ((r.l.length : Int) = 5) := bne_iff_ne.1 h2
    refine Cu lo0 st [(0,vS p t.length),(1,vI n),(6,vS r.p r.l.length),(9,vS p t.length),(10,vI (t.length : Int)),(11,vI (i : Int)),(15,vS r.p r.l.length),(16,vI (r.l.length : Int)),(17,vI (j : Int)),(18,vB false),(27,vB true)] fun _ => ?_
    exact cxs (Rt ⟨false,rfl,⟨fun h => absurd h Bool.false_ne_true,fun h => absurd (by have := (rows_of h hr1).1; omega) h2⟩,rfl⟩)
  ·replace h3 : (j : Int) < (r.l.length : Int) := of_decide_eq_true h3
   refine Cu lo0 st [(0,vS p t.length),(1,vI n),(6,vS r.p r.l.length),(9,vS p t.length),(10,vI (t.length : Int)),(11,vI (i : Int)),(15,vS r.p r.l.length),(16,vI (r.l.length : Int)),(17,vI (j : Int)),(18,vB true)] fun _ => ?_
   have h3' := Int.ofNat_lt.1 h3
   have ⟨b2,o2,k2,z,hqe,hz,hm2,hc2⟩ := (hR.2 r hmem).at h3'
   refine cxs ?_
   refine ⟨_,op_idx (j := (j : Int)) (n := r.l.length) (q := ⟨b2,o2,none⟩) rfl (congrArg (fun u => vS u r.l.length) hqe) rfl rfl rfl (Int.natCast_nonneg _) h3,?_⟩
   refine ⟨_,op_ldc (i := 0) (v := vI z) rfl rfl rfl rfl hm2 hc2 rfl rfl,?_⟩
   refine Cu lo0 st [(0,vS p t.length),(1,vI n),(6,vS r.p r.l.length),(8,vI z),(9,vS p t.length),(10,vI (t.length : Int)),(11,vI (i : Int)),(15,vS r.p r.l.length),(16,vI (r.l.length : Int)),(17,vI (j : Int)),(18,vB true)] fun _ => ?_
   refine ⟨_,rfl,(ac_impl_within z 0 1000 st).mono ?_⟩
   rintro _ st ⟨c,rfl,h4,rfl⟩
   rcases c with _|_
   ·replace h4 := of_decide_eq_false h4.symm
    refine ⟨_,rfl,?_⟩
    refine Cu lo0 st [(0,vS p t.length),(1,vI n),(6,vS r.p r.l.length),(8,vI z),(9,vS p t.length),(10,vI (t.length : Int)),(11,vI (i : Int)),(15,vS r.p r.l.length),(16,vI (r.l.length : Int)),(17,vI (j : Int)),(18,vB true),(23,vB true)] fun _ => ?_
    exact cxs (Rt ⟨false,rfl,⟨fun h => absurd h Bool.false_ne_true,fun h => absurd ((rows_of h hr1).2 j z hz) h4⟩,rfl⟩)
   ·replace h4 := of_decide_eq_true h4.symm
    refine ⟨_,rfl,?_⟩
    refine Cu lo0 st [(0,vS p t.length),(1,vI n),(6,vS r.p r.l.length),(8,vI z),(9,vS p t.length),(10,vI (t.length : Int)),(11,vI (i : Int)),(15,vS r.p r.l.length),(16,vI (r.l.length : Int)),(17,vI (j : Int)),(18,vB true),(23,vB false)] fun _ => ?_
    refine cxs ?_
    have e24 : IntKind.wrap .i64 ((j : Int) + 1) = ((j + 1 : Nat) : Int) := (wrap_i64 (by omega) (by omega)).trans (by omega)
    refine ⟨_,rfl,?_⟩
    refine ⟨j + 1,r.l.length - (j + 1),by omega,⟨rfl,rfl,rfl,rfl,rfl,rfl,rfl,rfl,congrArg (Value.int .i64) e24,trivial⟩,rfl,rfl,h3',fun u x hu hx => ?_,rfl⟩
    rcases Nat.lt_or_ge u j with h | h
    ·exact hel u x h hx
    ·obtain rfl : u = j := by omega
     rw [hz] at hx
     injection hx with hx
     rw [← hx]; exact h4
theorem map_len {t u : List RV} (h : u.map (·.l) = t.map (·.l)) (hr : ∀ r ∈ t,szOk r.l.length) : u.length = t.length ∧ ∀ r ∈ u,szOk r.l.length := by
 have hl := congrArg List.length h
 simp only [List.length_map] at hl
 refine ⟨hl,fun r hm => ?_⟩
 have h2 : r.l ∈ t.map (·.l) := by rw [← h]; exact List.mem_map_of_mem hm
 obtain ⟨x,hx,he⟩ := List.mem_map.1 h2
 rw [← he]; exact hr x hx
def vecOk (l : List Int) (n : Int) : Prop := (1 ≤ n ∧ n ≤ 5) ∧ (l.length : Int) = n ∧ ∀ (j : Nat) x,l[j]? = some x → 0 ≤ x ∧ x ≤ 100000
theorem upto {α : Type} {l : List α} {P : Nat → α → Prop} {i : Nat} {y : α} (h : ∀ (j : Nat) x,j < i → l[j]? = some x → P j x) (hy : l[i]? = some y) (hp : P i y) : ∀ (j : Nat) x,j < i + 1 → l[j]? = some x → P j x := fun j x hj hx => by
 rcases Nat.lt_or_ge j i with h1 | h1
 ·exact h j x h1 hx
 ·obtain rfl : j = i := by omega
  rw [hy] at hx
  injection hx with hx
  rw [← hx]; exact hp
theorem upall {α : Type} {l : List α} {P : Nat → α → Prop} {i : Nat} (h : ∀ (j : Nat) x,j < i → l[j]? = some x → P j x) (hi : l.length ≤ i) : ∀ (j : Nat) x,l[j]? = some x → P j x := fun j x hx => h j x (by have := (List.getElem?_eq_some_iff.1 hx).1; omega) hx
theorem ac_impl_VecOk (p : Option Addr) (l : List Int) (n : Int) (st : St) (hR : Rows st 1 fI p l) (hs : szOk l.length) : C 65 [vS p l.length,vI n] st (fun v s => ∃ x,v = .bool x ∧ (x = true ↔ vecOk l n) ∧ s = st) := by
 have hs : l.length ≤ 1048576 := hs
 refine AC.enterX (i := ⟨[],[],[0,1,4,6,7,8,9,10,15],[]⟩) [] Tryz.func65 rfl rfl (by kernel_rfl) (by kernel_rfl) Tryz.ntmps65 (Lb rfl) rfl ?_
 refine Cu lo0 st [(0,vS p l.length),(1,vI n),(4,vB false)] fun _ => ?_
 refine ⟨_,rfl,?_⟩
 refine Cu lo0 st [(0,vS p l.length),(1,vI n),(4,vB false),(7,vS p l.length),(8,vI (l.length : Int)),(9,vI 0)] fun _ => ?_
 refine AW.loop0 (fun i : Nat => [(0,vS p l.length),(1,vI n),(7,vS p l.length),(8,vI (l.length : Int)),(9,vI (i : Int))]) (fun m (i : Nat) st' => m = l.length - i ∧ i ≤ l.length ∧ (∀ (j : Nat) x,j < i → l[j]? = some x → 0 ≤ x ∧ x ≤ 100000) ∧ st = st') 0 _ ⟨rfl,rfl,rfl,rfl,rfl,trivial⟩ rfl ⟨rfl,Nat.zero_le _,fun j x h => absurd h (Nat.not_lt_zero _),rfl⟩ ?_
 rintro m i ρ0 st' ⟨rfl,hi,hok,rfl⟩
 refine ⟨_,rfl,?_⟩
 rintro (_|_) h10
 ·replace h10 : ¬ ((i : Int) < (l.length : Int)) := of_decide_eq_false h10
  refine Cu lo0 st [(0,vS p l.length),(1,vI n),(7,vS p l.length),(8,vI (l.length : Int)),(9,vI (i : Int)),(10,vB false)] fun _ => ?_
  refine cxs ?_
  refine ⟨_,rfl,(ac_impl_within n 1 5 st).mono ?_⟩
  rintro _ st ⟨x18,rfl,h18,rfl⟩
  rcases x18 with _|_
  ·replace h18 := of_decide_eq_false h18.symm
   refine ⟨_,rfl,?_⟩
   exact cxs (Rt ⟨false,rfl,⟨fun h => absurd h Bool.false_ne_true,fun h => (show False from (h18 h.1)).elim⟩,rfl⟩)
  ·replace h18 := of_decide_eq_true h18.symm
   iterate 2 refine ⟨_,rfl,?_⟩
   rintro (_|_) h23
   ·replace h23 : ¬ ((l.length : Int) = n) := beq_eq_false_iff_ne.1 h23
    refine ⟨_,rfl,?_⟩
    exact cxs (Rt ⟨false,rfl,⟨fun h => absurd h Bool.false_ne_true,fun h => (show False from (h23 h.2.1)).elim⟩,rfl⟩)
   ·replace h23 : (l.length : Int) = n := beq_iff_eq.1 h23
    refine ⟨_,rfl,?_⟩
    exact cxs (Rt ⟨true,rfl,⟨fun _ => ⟨h18,h23,upall (P := fun _ x => 0 ≤ x ∧ x ≤ 100000) hok (by omega)⟩,fun _ => rfl⟩,rfl⟩)
 ·replace h10 : (i : Int) < (l.length : Int) := of_decide_eq_true h10
  refine Cu lo0 st [(0,vS p l.length),(1,vI n),(7,vS p l.length),(8,vI (l.length : Int)),(9,vI (i : Int)),(10,vB true)] fun _ => ?_
  refine cxs ?_
  refine op_at i hR (by omega) rfl rfl rfl rfl rfl rfl rfl ?_
  intro x11 b11 d11 k11 hy11 hb11 hm11 hc11 ho11
  refine ⟨_,op_ldc (i := 0) rfl rfl rfl rfl hm11 hc11 rfl rfl,?_⟩
  refine Cu lo0 st [(0,vS p l.length),(1,vI n),(6,vI x11),(7,vS p l.length),(8,vI (l.length : Int)),(9,vI (i : Int)),(10,vB true)] fun _ => ?_
  refine ⟨_,rfl,(ac_impl_within x11 0 100000 st).mono ?_⟩
  rintro _ st ⟨x14,rfl,h14,rfl⟩
  rcases x14 with _|_
  ·replace h14 := of_decide_eq_false h14.symm
   refine ⟨_,rfl,?_⟩
   refine Cu lo0 st [(0,vS p l.length),(1,vI n),(6,vI x11),(7,vS p l.length),(8,vI (l.length : Int)),(9,vI (i : Int)),(10,vB true),(15,vB true)] fun _ => ?_
   exact cxs (Rt ⟨false,rfl,⟨fun h => absurd h Bool.false_ne_true,fun h => (show False from (absurd (h.2.2 i x11 hy11) h14)).elim⟩,rfl⟩)
  ·replace h14 := of_decide_eq_true h14.symm
   refine ⟨_,rfl,?_⟩
   refine Cu lo0 st [(0,vS p l.length),(1,vI n),(6,vI x11),(7,vS p l.length),(8,vI (l.length : Int)),(9,vI (i : Int)),(10,vB true),(15,vB false)] fun _ => ?_
   refine cxs ?_
   have ew16 : IntKind.wrap .i64 ((i : Int) + (1)) = ((i + 1 : Nat) : Int) := (wrap_i64 (by omega) (by omega)).trans (by omega)
   refine ⟨_,rfl,?_⟩
   exact ⟨i + 1,l.length - (i + 1),by omega,⟨rfl,rfl,rfl,rfl,congrArg (Value.int .i64) ew16,trivial⟩,rfl,rfl,by omega,upto (P := fun _ x => 0 ≤ x ∧ x ≤ 100000) hok hy11 h14,rfl⟩
theorem ac_spec_VecOk (p : Option Addr) (l : List Int) (n : Int) (st : St) (hR : Rows st 1 fI p l) (hs : szOk l.length) : C 76 [vS p l.length,vI n] st (fun v s => ∃ x,v = .bool x ∧ (x = true ↔ vecOk l n) ∧ s = st) := by
 have hs : l.length ≤ 1048576 := hs
 refine AC.enterX (i := ⟨[],[],[0,1,4,5,14,17,25],[]⟩) [] Tryz.func76 rfl rfl (by kernel_rfl) (by kernel_rfl) Tryz.ntmps76 (Lb rfl) rfl ?_
 refine Cu lo0 st [(0,vS p l.length),(1,vI n),(4,vB false)] fun _ => ?_
 refine ⟨_,rfl,(ac_spec_l1In n 1 5 st).mono ?_⟩
 rintro _ st ⟨x7,rfl,h7,rfl⟩
 rcases x7 with _|_
 ·replace h7 := of_decide_eq_false h7.symm
  iterate 2 refine ⟨_,rfl,?_⟩
  refine Cu lo0 st [(0,vS p l.length),(1,vI n),(4,vB false),(14,vB true)] fun _ => ?_
  exact cxs (Rt ⟨false,rfl,⟨fun h => absurd h Bool.false_ne_true,fun h => (show False from (h7 h.1)).elim⟩,rfl⟩)
 ·replace h7 := of_decide_eq_true h7.symm
  iterate 3 refine ⟨_,rfl,?_⟩
  rintro (_|_) h13
  ·replace h13 : (l.length : Int) = n := bne_eq_false_iff_eq.1 h13
   refine ⟨_,rfl,?_⟩
   refine Cu lo0 st [(0,vS p l.length),(1,vI n),(4,vB false),(14,vB false)] fun _ => ?_
   refine cxs ?_
   refine Cu lo0 st [(0,vS p l.length),(1,vI n),(4,vB false),(5,vI 0)] fun _ => ?_
   refine AW.loop0 (fun i : Nat => [(0,vS p l.length),(1,vI n),(5,vI (i : Int))]) (fun m (i : Nat) st' => m = l.length - i ∧ i ≤ l.length ∧ (∀ (j : Nat) x,j < i → l[j]? = some x → 0 ≤ x ∧ x ≤ 100000) ∧ st = st') 0 _ ⟨rfl,rfl,rfl,trivial⟩ rfl ⟨rfl,Nat.zero_le _,fun j x h => absurd h (Nat.not_lt_zero _),rfl⟩ ?_
   rintro m i ρ0 st' ⟨rfl,hi,hok,rfl⟩
   refine ⟨_,rfl,?_⟩
   rintro (_|_) h17
   ·replace h17 : ¬ ((i : Int) < n) := of_decide_eq_false h17
    refine Cu lo0 st [(0,vS p l.length),(1,vI n),(5,vI (i : Int)),(17,vB false)] fun _ => ?_
    refine cxs ?_
    exact cxs (Rt ⟨true,rfl,⟨fun _ => ⟨h7,h13,upall (P := fun _ x => 0 ≤ x ∧ x ≤ 100000) hok (by omega)⟩,fun _ => rfl⟩,rfl⟩)
   ·replace h17 : (i : Int) < n := of_decide_eq_true h17
    refine Cu lo0 st [(0,vS p l.length),(1,vI n),(5,vI (i : Int)),(17,vB true)] fun _ => ?_
    refine cxs ?_
    refine op_at i hR (by omega) rfl rfl rfl rfl rfl rfl rfl ?_
    intro x22 b22 d22 k22 hy22 hb22 hm22 hc22 ho22
    refine ⟨_,op_ldc (i := 0) rfl rfl rfl rfl hm22 hc22 rfl rfl,?_⟩
    refine ⟨_,rfl,(ac_spec_l1In x22 0 100000 st).mono ?_⟩
    rintro _ st ⟨x24,rfl,h24,rfl⟩
    rcases x24 with _|_
    ·replace h24 := of_decide_eq_false h24.symm
     refine ⟨_,rfl,?_⟩
     refine Cu lo0 st [(0,vS p l.length),(1,vI n),(5,vI (i : Int)),(17,vB true),(25,vB true)] fun _ => ?_
     exact cxs (Rt ⟨false,rfl,⟨fun h => absurd h Bool.false_ne_true,fun h => (show False from (absurd (h.2.2 i x22 hy22) h24)).elim⟩,rfl⟩)
    ·replace h24 := of_decide_eq_true h24.symm
     refine ⟨_,rfl,?_⟩
     refine Cu lo0 st [(0,vS p l.length),(1,vI n),(5,vI (i : Int)),(17,vB true),(25,vB false)] fun _ => ?_
     refine cxs ?_
     have ew19 : IntKind.wrap .i64 ((i : Int) + (1)) = ((i + 1 : Nat) : Int) := (wrap_i64 (by omega) (by omega)).trans (by omega)
     refine ⟨_,rfl,?_⟩
     exact ⟨i + 1,l.length - (i + 1),by omega,⟨rfl,rfl,congrArg (Value.int .i64) ew19,trivial⟩,rfl,rfl,by omega,upto (P := fun _ x => 0 ≤ x ∧ x ≤ 100000) hok hy22 h24,rfl⟩
  ·replace h13 : ¬ ((l.length : Int) = n) := bne_iff_ne.1 h13
   refine ⟨_,rfl,?_⟩
   refine Cu lo0 st [(0,vS p l.length),(1,vI n),(4,vB false),(14,vB true)] fun _ => ?_
   exact cxs (Rt ⟨false,rfl,⟨fun h => absurd h Bool.false_ne_true,fun h => (show False from (h13 h.2.1)).elim⟩,rfl⟩)
theorem ac_slices_Max (p : Option Addr) (l : List Int) (st : St) (hR : Rows st 1 fI p l) (hs : szOk l.length) (h0 : 0 < l.length) : C 66 [vS p l.length] st (fun v s => ∃ x,v = vI x ∧ (∀ (c : Int),x ≤ c ↔ ∀ (j : Nat) y,l[j]? = some y → y ≤ c) ∧ s = st) := by
 have hs : l.length ≤ 1048576 := hs
 refine AC.enterX (i := ⟨[],[],[0,2,3,4,7,15],[]⟩) [] Tryz.func66 rfl rfl (by kernel_rfl) (by kernel_rfl) Tryz.ntmps66 (Lb rfl) rfl ?_
 refine Cu lo0 st [(0,vS p l.length),(2,vI 0)] fun _ => ?_
 iterate 2 refine ⟨_,rfl,?_⟩
 rintro (_|_) h7
 rotate_left
 ·exact absurd (of_decide_eq_true h7) ((by omega))
 refine Cu lo0 st [(0,vS p l.length),(2,vI 0),(7,vB false)] fun _ => ?_
 refine cxs ?_
 refine op_at 0 hR (by omega) rfl rfl rfl rfl rfl rfl rfl ?_
 intro x10 b10 d10 k10 hy10 hb10 hm10 hc10 ho10
 refine ⟨_,op_ldc (i := 0) rfl rfl rfl rfl hm10 hc10 rfl rfl,?_⟩
 refine cxs ?_
 refine Cu lo0 st [(0,vS p l.length),(2,vI 0),(3,vI x10),(4,vI 1)] fun _ => ?_
 refine AW.loop0 (fun x : Nat × Int => [(0,vS p l.length),(2,vI (0)),(3,vI x.2),(4,vI (x.1 : Int))]) (fun m (x : Nat × Int) st' => m = l.length - x.1 ∧ x.1 ≤ l.length ∧ (∀ (c : Int),x.2 ≤ c ↔ ∀ (j : Nat) y,j < x.1 → l[j]? = some y → y ≤ c) ∧ st = st') (1,x10) _ ⟨rfl,rfl,rfl,rfl,trivial⟩ rfl ⟨rfl,h0,fun c => ⟨fun h j y hj hy => by obtain rfl : j = 0 := (by omega : j = 0); rw [hy10] at hy; injection hy with hy; rw [← hy]; exact h,fun h => h 0 x10 Nat.one_pos hy10⟩,rfl⟩ ?_
 rintro m ⟨i,w⟩ ρ0 st' ⟨rfl,hi,hok,rfl⟩
 simp only at hi hok
 iterate 2 refine ⟨_,rfl,?_⟩
 rintro (_|_) h15
 ·replace h15 : ¬ ((i : Int) < (l.length : Int)) := of_decide_eq_false h15
  refine Cu lo0 st [(0,vS p l.length),(2,vI 0),(3,vI w),(4,vI (i : Int)),(15,vB false)] fun _ => ?_
  refine cxs ?_
  exact cxs (Rt ⟨w,rfl,fun c => (hok c).trans ⟨fun h => upall (P := fun _ x => x ≤ c) h (by omega),fun h j y _ hy => h j y hy⟩,rfl⟩)
 ·replace h15 : (i : Int) < (l.length : Int) := of_decide_eq_true h15
  refine Cu lo0 st [(0,vS p l.length),(2,vI 0),(3,vI w),(4,vI (i : Int)),(15,vB true)] fun _ => ?_
  refine cxs ?_
  refine op_at i hR (by omega) rfl rfl rfl rfl rfl rfl rfl ?_
  intro x21 b21 d21 k21 hy21 hb21 hm21 hc21 ho21
  refine ⟨_,op_ldc (i := 0) rfl rfl rfl rfl hm21 hc21 rfl rfl,?_⟩
  refine ⟨.int .i64 (max w x21),ammL_max _ _,?_⟩
  refine Cu lo0 st [(0,vS p l.length),(2,vI 0),(3,vI (max w x21)),(4,vI (i : Int)),(15,vB true)] fun _ => ?_
  have ew17 : IntKind.wrap .i64 ((i : Int) + (1)) = ((i + 1 : Nat) : Int) := (wrap_i64 (by omega) (by omega)).trans (by omega)
  refine ⟨_,rfl,?_⟩
  refine ⟨(i + 1,max w x21),l.length - (i + 1),by omega,⟨rfl,rfl,rfl,congrArg (Value.int .i64) ew17,trivial⟩,rfl,rfl,by simp only; omega,fun c => ⟨fun h => ?_,fun h => ?_⟩,rfl⟩
  ·simp only at h
   exact upto (P := fun _ x => x ≤ c) ((hok c).1 (by omega)) hy21 (by omega)
  ·have h1 := (hok c).2 fun j y hj hy => h j y (Nat.lt_succ_of_lt hj) hy
   have h2 := h i x21 (Nat.lt_succ_self i) hy21
   show max w x21 ≤ c
   omega
theorem ac_impl_isPeer (g : NV) (k : Int) (st : St) (hn : 1 ≤ g.n ∧ g.n ≤ 5) : C 89 [(vNV g),vI k] st (fun v s => ∃ x,v = .bool x ∧ (x = true ↔ (0 ≤ k ∧ k ≤ g.n - 1) ∧ ¬ k = g.id) ∧ s = st) := by
 refine AC.enterX (i := ⟨[2],[2,6,12],[0,1,2,4],[]⟩) [] Tryz.func89 rfl rfl (by kernel_rfl) (by kernel_rfl) Tryz.ntmps89 (Lb rfl) rfl ?_
 refine ⟨_,rfl,?_⟩
 refine Cm 1 st [(1,vI k),Ml 2 0,(4,vB false)] [(2,0,cNV g)] fun _ _ => ?_
 refine ⟨_,rfl,?_⟩
 refine ⟨_,Od rfl,?_⟩
 have ew8 : IntKind.wrap .i64 (g.n - (1)) = g.n - (1) := wrap_i64 (by omega) (by omega)
 refine ⟨_,rfl,?_⟩
 refine ⟨_,rfl,(ac_impl_within k 0 (IntKind.wrap .i64 (g.n - (1))) st).mono ?_⟩
 rintro _ st ⟨x9,rfl,h9,rfl⟩
 rcases x9 with _|_
 ·replace h9 := of_decide_eq_false h9.symm
  rw [ew8] at h9
  refine ⟨_,rfl,?_⟩
  exact cxs (Rt ⟨false,rfl,⟨fun h => absurd h Bool.false_ne_true,fun h => (show False from (h9 h.1)).elim⟩,rfl⟩)
 ·replace h9 := of_decide_eq_true h9.symm
  rw [ew8] at h9
  refine ⟨_,rfl,?_⟩
  refine ⟨_,Od rfl,?_⟩
  refine ⟨_,rfl,?_⟩
  rintro (_|_) h14
  ·replace h14 : k = g.id := bne_eq_false_iff_eq.1 h14
   refine ⟨_,rfl,?_⟩
   exact cxs (Rt ⟨false,rfl,⟨fun h => absurd h Bool.false_ne_true,fun h => (show False from (h.2 h14)).elim⟩,rfl⟩)
  ·replace h14 : ¬ (k = g.id) := bne_iff_ne.1 h14
   refine ⟨_,rfl,?_⟩
   exact cxs (Rt ⟨true,rfl,⟨fun _ => ⟨h9,h14⟩,fun _ => rfl⟩,rfl⟩)
def sesOk (x : Nd) (j : Nat) (y : Ses) : Prop := ((0 ≤ y.peer ∧ y.peer ≤ x.n - 1) ∧ ¬ y.peer = x.id) ∧ (0 ≤ y.num ∧ y.num ≤ 100000) ∧ (0 ≤ y.age ∧ y.age ≤ x.wait) ∧ ∀ (k : Nat) z,k < j → x.sess[k]? = some z → ¬ (z.peer = y.peer ∧ z.inn = y.inn)
def sessOk (x : Nd) : Prop := (x.sess.length : Int) ≤ x.slots ∧ ∀ (j : Nat) y,x.sess[j]? = some y → sesOk x j y
def risOk (x : Nd) (r : Ris) : Prop := (0 ≤ r.inc ∧ r.inc ≤ 1000) ∧ (0 ≤ r.beat ∧ r.beat ≤ 100000) ∧ (0 ≤ r.tick ∧ r.tick ≤ x.clock)
def risesOk (x : Nd) : Prop := x.rises.length = 5 ∧ ∀ (j : Nat) r,x.rises[j]? = some r → risOk x r
theorem slot_first : ∀ (l : List Ses) (p : Int) (b : Bool) (k j : Nat) (y : Ses),l[j]? = some y → y.peer = p → y.inn = b → (slotF l p b k = ((k + j : Nat) : Int) ↔ ∀ (i : Nat) z,i < j → l[i]? = some z → ¬ (z.peer = p ∧ z.inn = b))
 | [],_,_,_,_,_,h,_,_ => by cases h
 | x :: l,p,b,k,0,y,h,h1,h2 => by
  rw [List.getElem?_cons_zero] at h
  injection h with h
  subst h
  rw [slotF,if_pos ⟨h1,h2⟩]
  exact ⟨fun _ i z hi => absurd hi (Nat.not_lt_zero _),fun _ => rfl⟩
 | x :: l,p,b,k,j + 1,y,h,h1,h2 => by
  rw [List.getElem?_cons_succ] at h
  have ih := slot_first l p b (k + 1) j y h h1 h2
  rw [slotF]
  by_cases hx : x.peer = p ∧ x.inn = b
  ·rw [if_pos hx]
   exact ⟨fun h => by omega,fun h => absurd hx (h 0 x (Nat.succ_pos _) List.getElem?_cons_zero)⟩
  ·rw [if_neg hx,show k + (j + 1) = k + 1 + j by omega,ih]
   refine ⟨fun h i z hi hz => ?_,fun h i z hi hz => h (i + 1) z (by omega) (by rw [List.getElem?_cons_succ]; exact hz)⟩
   cases i with
   | zero =>
    rw [List.getElem?_cons_zero] at hz
    injection hz with hz
    rw [← hz]; exact hx
   | succ i =>
    rw [List.getElem?_cons_succ] at hz
    exact h i z (by omega) hz
theorem slot_at {l : List Ses} {j : Nat} {y : Ses} (h : l[j]? = some y) : slotF l y.peer y.inn 0 = (j : Int) ↔ ∀ (i : Nat) z,i < j → l[i]? = some z → ¬ (z.peer = y.peer ∧ z.inn = y.inn) := by
 have := slot_first l y.peer y.inn 0 j y h rfl rfl
 rwa [Nat.zero_add] at this
theorem ac_impl_sessOk (g : NV) (st : St) (hR : RdN st g) (hb : bigN g.x) (hn : 1 ≤ g.n ∧ g.n ≤ 5) : C 68 [(vNV g)] st (fun v s => ∃ x,v = .bool x ∧ (x = true ↔ (1 ≤ g.slots ∧ g.slots ≤ 4) ∧ sessOk g.x) ∧ s = st) := by
 have hs : g.sess.l.length ≤ 1048576 := hb.sess
 refine AC.enterX (i := ⟨[1,4],[1,4,5,14,19,25,27,34,36,43,47,50],[0,1,2,3,4,6,7,8,9,41],[]⟩) [] Tryz.func68 rfl rfl (by kernel_rfl) (by kernel_rfl) Tryz.ntmps68 (Lb rfl) rfl ?_
 refine ⟨_,rfl,?_⟩
 refine Cm 1 st [Ml 1 0,(2,vB false)] [(1,0,cNV g)] fun _ _ => ?_
 refine ⟨_,rfl,?_⟩
 refine ⟨_,Od rfl,?_⟩
 refine ⟨_,rfl,?_⟩
 refine Cm 1 st [Ml 1 0,(2,vB false),(6,vS g.sess.p g.sess.l.length),(7,vI (g.sess.l.length : Int)),(8,vI 0)] [(1,0,cNV g)] fun _ _ => ?_
 refine AW.loopM (fun i : Nat => [(1,vL 1 0 (0)),(6,vS g.sess.p g.sess.l.length),(7,vI (g.sess.l.length : Int)),(8,vI (i : Int))]) (fun i : Nat => [(1,0,cNV g)]) (fun m (i : Nat) st' => m = g.sess.l.length - i ∧ i ≤ g.sess.l.length ∧ (∀ (j : Nat) x,j < i → g.sess.l[j]? = some x → sesOk g.x j x) ∧ st = st') 0 _ ⟨rfl,rfl,rfl,rfl,trivial⟩ ⟨rfl,trivial⟩ ⟨rfl,Nat.zero_le _,fun j x h => absurd h (Nat.not_lt_zero _),rfl⟩ ?_
 rintro m i ρ0 ff gg st' ⟨rfl,hi,hok,rfl⟩
 refine ⟨_,rfl,?_⟩
 rintro (_|_) h9
 ·replace h9 : ¬ ((i : Int) < (g.sess.l.length : Int)) := of_decide_eq_false h9
  refine Cm gg st [Ml 1 0,(6,vS g.sess.p g.sess.l.length),(7,vI (g.sess.l.length : Int)),(8,vI (i : Int)),(9,vB false)] [(1,0,cNV g)] fun _ _ => ?_
  refine cxs ?_
  refine ⟨_,rfl,?_⟩
  refine ⟨_,Od rfl,?_⟩
  refine ⟨_,rfl,(ac_impl_within g.slots 1 4 st).mono ?_⟩
  rintro _ st ⟨x45,rfl,h45,rfl⟩
  rcases x45 with _|_
  ·replace h45 := of_decide_eq_false h45.symm
   refine ⟨_,rfl,?_⟩
   exact cxs (Rt ⟨false,rfl,⟨fun h => absurd h Bool.false_ne_true,fun h => (show False from (h45 h.1)).elim⟩,rfl⟩)
  ·replace h45 := of_decide_eq_true h45.symm
   refine ⟨_,rfl,?_⟩
   refine ⟨_,Od rfl,?_⟩
   iterate 2 refine ⟨_,rfl,?_⟩
   refine ⟨_,Od rfl,?_⟩
   refine ⟨_,rfl,?_⟩
   rintro (_|_) h52
   ·replace h52 : ¬ ((g.sess.l.length : Int) ≤ g.slots) := of_decide_eq_false h52
    refine ⟨_,rfl,?_⟩
    exact cxs (Rt ⟨false,rfl,⟨fun h => absurd h Bool.false_ne_true,fun h => (show False from (h52 h.2.1)).elim⟩,rfl⟩)
   ·replace h52 : (g.sess.l.length : Int) ≤ g.slots := of_decide_eq_true h52
    refine ⟨_,rfl,?_⟩
    exact cxs (Rt ⟨true,rfl,⟨fun _ => ⟨h45,h52,upall (P := sesOk g.x) hok (by show g.sess.l.length ≤ i; omega)⟩,fun _ => rfl⟩,rfl⟩)
 ·replace h9 : (i : Int) < (g.sess.l.length : Int) := of_decide_eq_true h9
  refine Cm gg st [Ml 1 0,(6,vS g.sess.p g.sess.l.length),(7,vI (g.sess.l.length : Int)),(8,vI (i : Int)),(9,vB true)] [(1,0,cNV g)] fun _ _ => ?_
  refine cxs ?_
  refine op_at i hR.sess (by omega) rfl rfl rfl rfl rfl rfl rfl ?_
  intro x11 b11 d11 k11 hy11 hb11 hm11 hc11 ho11
  refine ⟨_,op_lda rfl rfl rfl rfl rfl hm11 hc11 rfl,?_⟩
  refine ⟨_,rfl,?_⟩
  refine ⟨_,Os rfl,?_⟩
  refine Cm (gg + 1) st [Ml 1 0,(3,vI (i : Int)),Ml 4 gg,(6,vS g.sess.p g.sess.l.length),(7,vI (g.sess.l.length : Int)),(8,vI (i : Int)),(9,vB true)] [(1,0,cNV g),(4,gg,[vI x11.peer,vI x11.num,vB x11.inn,vI x11.age])] fun _ _ => ?_
  refine ⟨_,op_ldo (v := (vNV g)) rfl rfl rfl rfl,?_⟩
  refine ⟨_,rfl,?_⟩
  refine ⟨_,Od rfl,?_⟩
  refine ⟨_,rfl,(ac_impl_isPeer g x11.peer st (by first | assumption | omega)).mono ?_⟩
  rintro _ st ⟨x16,rfl,h16,rfl⟩
  rcases x16 with _|_
  ·replace h16 := fun k => Bool.false_ne_true (h16.2 k)
   iterate 3 refine ⟨_,rfl,?_⟩
   refine ow_cut [(1,vL 1 0 (0)),(3,vI (i : Int)),(4,vL 4 0 (gg)),(6,vS g.sess.p g.sess.l.length),(7,vI (g.sess.l.length : Int)),(8,vI (i : Int)),(9,vB true),(31,vB true)] ⟨rfl,rfl,rfl,rfl,rfl,rfl,rfl,rfl,trivial⟩ fun _ => ?_
   refine ⟨_,rfl,?_⟩
   refine Cm (gg + 1) st [Ml 1 0,(3,vI (i : Int)),Ml 4 gg,(6,vS g.sess.p g.sess.l.length),(7,vI (g.sess.l.length : Int)),(8,vI (i : Int)),(9,vB true),(41,vB true)] [(1,0,cNV g),(4,gg,[vI x11.peer,vI x11.num,vB x11.inn,vI x11.age])] fun _ _ => ?_
   exact cxs (Rt ⟨false,rfl,⟨fun h => absurd h Bool.false_ne_true,fun h => (show False from (h16 (h.2.2 i x11 hy11).1)).elim⟩,rfl⟩)
  ·replace h16 := h16.1 rfl
   iterate 2 refine ⟨_,rfl,?_⟩
   refine ⟨_,Od rfl,?_⟩
   refine ⟨_,rfl,(ac_impl_within x11.num 0 100000 st).mono ?_⟩
   rintro _ st ⟨x21,rfl,h21,rfl⟩
   rcases x21 with _|_
   ·replace h21 := of_decide_eq_false h21.symm
    iterate 3 refine ⟨_,rfl,?_⟩
    refine ow_cut [(1,vL 1 0 (0)),(3,vI (i : Int)),(4,vL 4 0 (gg)),(6,vS g.sess.p g.sess.l.length),(7,vI (g.sess.l.length : Int)),(8,vI (i : Int)),(9,vB true),(31,vB true)] ⟨rfl,rfl,rfl,rfl,rfl,rfl,rfl,rfl,trivial⟩ fun _ => ?_
    refine ⟨_,rfl,?_⟩
    refine Cm (gg + 1) st [Ml 1 0,(3,vI (i : Int)),Ml 4 gg,(6,vS g.sess.p g.sess.l.length),(7,vI (g.sess.l.length : Int)),(8,vI (i : Int)),(9,vB true),(41,vB true)] [(1,0,cNV g),(4,gg,[vI x11.peer,vI x11.num,vB x11.inn,vI x11.age])] fun _ _ => ?_
    exact cxs (Rt ⟨false,rfl,⟨fun h => absurd h Bool.false_ne_true,fun h => (show False from (h21 (h.2.2 i x11 hy11).2.1)).elim⟩,rfl⟩)
   ·replace h21 := of_decide_eq_true h21.symm
    iterate 3 refine ⟨_,rfl,?_⟩
    refine ⟨_,Od rfl,?_⟩
    refine ⟨_,rfl,?_⟩
    refine ⟨_,Od rfl,?_⟩
    refine ⟨_,rfl,(ac_impl_within x11.age 0 g.wait st).mono ?_⟩
    rintro _ st ⟨x29,rfl,h29,rfl⟩
    rcases x29 with _|_
    ·replace h29 := of_decide_eq_false h29.symm
     refine ⟨_,rfl,?_⟩
     refine ow_cut [(1,vL 1 0 (0)),(3,vI (i : Int)),(4,vL 4 0 (gg)),(6,vS g.sess.p g.sess.l.length),(7,vI (g.sess.l.length : Int)),(8,vI (i : Int)),(9,vB true),(24,vB false),(30,vB true)] ⟨rfl,rfl,rfl,rfl,rfl,rfl,rfl,rfl,rfl,trivial⟩ fun _ => ?_
     iterate 2 refine ⟨_,rfl,?_⟩
     refine Cm (gg + 1) st [Ml 1 0,(3,vI (i : Int)),Ml 4 gg,(6,vS g.sess.p g.sess.l.length),(7,vI (g.sess.l.length : Int)),(8,vI (i : Int)),(9,vB true),(41,vB true)] [(1,0,cNV g),(4,gg,[vI x11.peer,vI x11.num,vB x11.inn,vI x11.age])] fun _ _ => ?_
     exact cxs (Rt ⟨false,rfl,⟨fun h => absurd h Bool.false_ne_true,fun h => (show False from (h29 (h.2.2 i x11 hy11).2.2.1)).elim⟩,rfl⟩)
    ·replace h29 := of_decide_eq_true h29.symm
     refine ⟨_,rfl,?_⟩
     refine ow_cut [(1,vL 1 0 (0)),(3,vI (i : Int)),(4,vL 4 0 (gg)),(6,vS g.sess.p g.sess.l.length),(7,vI (g.sess.l.length : Int)),(8,vI (i : Int)),(9,vB true),(24,vB false),(30,vB false)] ⟨rfl,rfl,rfl,rfl,rfl,rfl,rfl,rfl,rfl,trivial⟩ fun _ => ?_
     refine ⟨_,rfl,?_⟩
     refine ⟨_,op_ldo (v := (vNV g)) rfl rfl rfl rfl,?_⟩
     refine ⟨_,rfl,?_⟩
     refine ⟨_,Od rfl,?_⟩
     refine ⟨_,rfl,?_⟩
     refine ⟨_,Od rfl,?_⟩
     refine ⟨_,rfl,(ac_impl_Slot g x11.peer x11.inn st hR (by first | assumption | omega)).mono ?_⟩
     rintro _ st ⟨rfl,rfl⟩
     refine ⟨_,rfl,?_⟩
     rintro (_|_) h40
     ·replace h40 : (slotF g.sess.l x11.peer x11.inn 0) = (i : Int) := bne_eq_false_iff_eq.1 h40
      refine ⟨_,rfl,?_⟩
      refine Cm (gg + 1) st [Ml 1 0,(3,vI (i : Int)),Ml 4 gg,(6,vS g.sess.p g.sess.l.length),(7,vI (g.sess.l.length : Int)),(8,vI (i : Int)),(9,vB true),(41,vB false)] [(1,0,cNV g),(4,gg,[vI x11.peer,vI x11.num,vB x11.inn,vI x11.age])] fun _ _ => ?_
      refine cxs ?_
      have ew42 : IntKind.wrap .i64 ((i : Int) + (1)) = ((i + 1 : Nat) : Int) := (wrap_i64 (by omega) (by omega)).trans (by omega)
      refine ⟨_,rfl,?_⟩
      exact ⟨i + 1,g.sess.l.length - (i + 1),by omega,⟨rfl,rfl,rfl,congrArg (Value.int .i64) ew42,trivial⟩,⟨rfl,trivial⟩,rfl,by omega,upto (P := sesOk g.x) hok hy11 ⟨h16,h21,h29,(slot_at hy11).1 h40⟩,rfl⟩
     ·replace h40 : ¬ ((slotF g.sess.l x11.peer x11.inn 0) = (i : Int)) := bne_iff_ne.1 h40
      refine ⟨_,rfl,?_⟩
      refine Cm (gg + 1) st [Ml 1 0,(3,vI (i : Int)),Ml 4 gg,(6,vS g.sess.p g.sess.l.length),(7,vI (g.sess.l.length : Int)),(8,vI (i : Int)),(9,vB true),(41,vB true)] [(1,0,cNV g),(4,gg,[vI x11.peer,vI x11.num,vB x11.inn,vI x11.age])] fun _ _ => ?_
      exact cxs (Rt ⟨false,rfl,⟨fun h => absurd h Bool.false_ne_true,fun h => (show False from (h40 ((slot_at hy11).2 (h.2.2 i x11 hy11).2.2.2))).elim⟩,rfl⟩)
theorem ac_spec_l11Sess (g : NV) (st : St) (hR : RdN st g) (hb : bigN g.x) (hn : 1 ≤ g.n ∧ g.n ≤ 5) : C 79 [(vNV g)] st (fun v s => ∃ x,v = .bool x ∧ (x = true ↔ sessOk g.x) ∧ s = st) := by
 have hs : g.sess.l.length ≤ 1048576 := hb.sess
 refine AC.enterX (i := ⟨[1,4],[1,4,6,9,13,19,24,26,32,34,39,45,47,57,63,67,73],[0,1,2,3,4,5,11,16,51,54,76],[]⟩) [(12,[],[])] Tryz.func79 rfl rfl (by kernel_rfl) (by kernel_rfl) Tryz.ntmps79 (Lb rfl) rfl ?_
 refine ⟨_,rfl,?_⟩
 refine Cm 1 st [Ml 1 0,(2,vB false)] [(1,0,cNV g)] fun _ _ => ?_
 refine ⟨_,rfl,?_⟩
 refine ⟨_,Od rfl,?_⟩
 iterate 2 refine ⟨_,rfl,?_⟩
 refine ⟨_,Od rfl,?_⟩
 refine ⟨_,rfl,?_⟩
 rintro (_|_) h11
 ·replace h11 : ¬ ((g.sess.l.length : Int) > g.slots) := of_decide_eq_false h11
  refine Cm 1 st [Ml 1 0,(2,vB false),(11,vB false)] [(1,0,cNV g)] fun _ _ => ?_
  refine cxs ?_
  refine Cm 1 st [Ml 1 0,(2,vB false),(3,vI 0)] [(1,0,cNV g)] fun _ _ => ?_
  refine AW.loopM (fun i : Nat => [(1,vL 1 0 (0)),(3,vI (i : Int))]) (fun i : Nat => [(1,0,cNV g)]) (fun m (i : Nat) st' => m = g.sess.l.length - i ∧ i ≤ g.sess.l.length ∧ (∀ (j : Nat) x,j < i → g.sess.l[j]? = some x → sesOk g.x j x) ∧ st = st') 0 _ ⟨rfl,rfl,trivial⟩ ⟨rfl,trivial⟩ ⟨rfl,Nat.zero_le _,fun j x h => absurd h (Nat.not_lt_zero _),rfl⟩ ?_
  rintro m i ρ0 ff gg st' ⟨rfl,hi,hok,rfl⟩
  refine ⟨_,rfl,?_⟩
  refine ⟨_,Od rfl,?_⟩
  iterate 2 refine ⟨_,rfl,?_⟩
  rintro (_|_) h16
  ·replace h16 : ¬ ((i : Int) < (g.sess.l.length : Int)) := of_decide_eq_false h16
   refine Cm gg st [Ml 1 0,(3,vI (i : Int)),(16,vB false)] [(1,0,cNV g)] fun _ _ => ?_
   refine cxs ?_
   exact cxs (Rt ⟨true,rfl,⟨fun _ => ⟨by show (g.sess.l.length : Int) ≤ g.slots; omega,upall (P := sesOk g.x) hok (by show g.sess.l.length ≤ i; omega)⟩,fun _ => rfl⟩,rfl⟩)
  ·replace h16 : (i : Int) < (g.sess.l.length : Int) := of_decide_eq_true h16
   refine Cm gg st [Ml 1 0,(3,vI (i : Int)),(16,vB true)] [(1,0,cNV g)] fun _ _ => ?_
   refine cxs ?_
   refine ⟨_,rfl,?_⟩
   refine ⟨_,Od rfl,?_⟩
   refine op_at i hR.sess (by omega) rfl rfl rfl rfl rfl rfl rfl ?_
   intro x22 b22 d22 k22 hy22 hb22 hm22 hc22 ho22
   refine ⟨_,op_lda rfl rfl rfl rfl rfl hm22 hc22 rfl,?_⟩
   refine ⟨_,rfl,?_⟩
   refine ⟨_,Os rfl,?_⟩
   refine Cm (gg + 1) st [Ml 1 0,(3,vI (i : Int)),Ml 4 gg,(16,vB true)] [(1,0,cNV g),(4,gg,[vI x22.peer,vI x22.num,vB x22.inn,vI x22.age])] fun _ _ => ?_
   refine ⟨_,rfl,?_⟩
   refine ⟨_,Od rfl,?_⟩
   refine ⟨_,rfl,?_⟩
   refine ⟨_,Od rfl,?_⟩
   have ew28 : IntKind.wrap .i64 (g.n - (1)) = g.n - (1) := wrap_i64 (by omega) (by omega)
   refine ⟨_,rfl,?_⟩
   refine ⟨_,rfl,(ac_spec_l1In x22.peer 0 (IntKind.wrap .i64 (g.n - (1))) st).mono ?_⟩
   rintro _ st ⟨x29,rfl,h29,rfl⟩
   rcases x29 with _|_
   ·replace h29 := of_decide_eq_false h29.symm
    rw [ew28] at h29
    iterate 3 refine ⟨_,rfl,?_⟩
    refine ow_cut [(1,vL 1 0 (0)),(3,vI (i : Int)),(4,vL 4 0 (gg)),(16,vB true),(43,vB true)] ⟨rfl,rfl,rfl,rfl,rfl,trivial⟩ fun _ => ?_
    refine ⟨_,rfl,?_⟩
    refine Cm (gg + 1) st [Ml 1 0,(3,vI (i : Int)),Ml 4 gg,(16,vB true),(51,vB true)] [(1,0,cNV g),(4,gg,[vI x22.peer,vI x22.num,vB x22.inn,vI x22.age])] fun _ _ => ?_
    exact cxs (Rt ⟨false,rfl,⟨fun h => absurd h Bool.false_ne_true,fun h => (show False from (h29 (h.2 i x22 hy22).1.1)).elim⟩,rfl⟩)
   ·replace h29 := of_decide_eq_true h29.symm
    rw [ew28] at h29
    iterate 2 refine ⟨_,rfl,?_⟩
    refine ⟨_,Od rfl,?_⟩
    refine ⟨_,rfl,?_⟩
    refine ⟨_,Od rfl,?_⟩
    refine ⟨_,rfl,?_⟩
    rintro (_|_) h36
    ·replace h36 : ¬ (x22.peer = g.id) := beq_eq_false_iff_ne.1 h36
     iterate 2 refine ⟨_,rfl,?_⟩
     refine ⟨_,Od rfl,?_⟩
     refine ⟨_,rfl,(ac_spec_l1In x22.num 0 100000 st).mono ?_⟩
     rintro _ st ⟨x41,rfl,h41,rfl⟩
     rcases x41 with _|_
     ·replace h41 := of_decide_eq_false h41.symm
      refine ow_cut [(1,vL 1 0 (0)),(3,vI (i : Int)),(4,vL 4 0 (gg)),(16,vB true),(38,vB false),(41,vB false)] ⟨rfl,rfl,rfl,rfl,rfl,rfl,trivial⟩ fun _ => ?_
      iterate 3 refine ⟨_,rfl,?_⟩
      refine Cm (gg + 1) st [Ml 1 0,(3,vI (i : Int)),Ml 4 gg,(16,vB true),(51,vB true)] [(1,0,cNV g),(4,gg,[vI x22.peer,vI x22.num,vB x22.inn,vI x22.age])] fun _ _ => ?_
      exact cxs (Rt ⟨false,rfl,⟨fun h => absurd h Bool.false_ne_true,fun h => (show False from (h41 (h.2 i x22 hy22).2.1)).elim⟩,rfl⟩)
     ·replace h41 := of_decide_eq_true h41.symm
      refine ow_cut [(1,vL 1 0 (0)),(3,vI (i : Int)),(4,vL 4 0 (gg)),(16,vB true),(38,vB false),(41,vB true)] ⟨rfl,rfl,rfl,rfl,rfl,rfl,trivial⟩ fun _ => ?_
      iterate 3 refine ⟨_,rfl,?_⟩
      refine ⟨_,Od rfl,?_⟩
      refine ⟨_,rfl,?_⟩
      refine ⟨_,Od rfl,?_⟩
      refine ⟨_,rfl,(ac_spec_l1In x22.age 0 g.wait st).mono ?_⟩
      rintro _ st ⟨x49,rfl,h49,rfl⟩
      rcases x49 with _|_
      ·replace h49 := of_decide_eq_false h49.symm
       iterate 2 refine ⟨_,rfl,?_⟩
       refine Cm (gg + 1) st [Ml 1 0,(3,vI (i : Int)),Ml 4 gg,(16,vB true),(51,vB true)] [(1,0,cNV g),(4,gg,[vI x22.peer,vI x22.num,vB x22.inn,vI x22.age])] fun _ _ => ?_
       exact cxs (Rt ⟨false,rfl,⟨fun h => absurd h Bool.false_ne_true,fun h => (show False from (h49 (h.2 i x22 hy22).2.2.1)).elim⟩,rfl⟩)
      ·replace h49 := of_decide_eq_true h49.symm
       iterate 2 refine ⟨_,rfl,?_⟩
       refine Cm (gg + 1) st [Ml 1 0,(3,vI (i : Int)),Ml 4 gg,(16,vB true),(51,vB false)] [(1,0,cNV g),(4,gg,[vI x22.peer,vI x22.num,vB x22.inn,vI x22.age])] fun _ _ => ?_
       refine cxs ?_
       refine Cm (gg + 1) st [Ml 1 0,(3,vI (i : Int)),Ml 4 gg,(5,vI 0),(16,vB true),(51,vB false)] [(1,0,cNV g),(4,gg,[vI x22.peer,vI x22.num,vB x22.inn,vI x22.age])] fun _ _ => ?_
       refine AW.loopM (fun k : Nat => [(1,vL 1 0 (0)),(3,vI (i : Int)),(4,vL 4 0 (gg)),(5,vI (k : Int)),(16,vB true),(51,vB false)]) (fun k : Nat => [(1,0,cNV g),(4,gg,[vI x22.peer,vI x22.num,vB x22.inn,vI x22.age])]) (fun m (k : Nat) st' => m = i - k ∧ k ≤ i ∧ (∀ (j : Nat) z,j < k → g.sess.l[j]? = some z → ¬ (z.peer = x22.peer ∧ z.inn = x22.inn)) ∧ st = st') 0 _ ⟨rfl,rfl,rfl,rfl,rfl,rfl,trivial⟩ ⟨rfl,rfl,trivial⟩ ⟨rfl,Nat.zero_le _,fun j x h => absurd h (Nat.not_lt_zero _),rfl⟩ ?_
       rintro m k ρ0 ff gg2 st' ⟨rfl,hk,hno,rfl⟩
       refine ⟨_,rfl,?_⟩
       rintro (_|_) h54
       ·replace h54 : ¬ ((k : Int) < (i : Int)) := of_decide_eq_false h54
        refine Cm gg2 st [Ml 1 0,(3,vI (i : Int)),Ml 4 gg,(5,vI (k : Int)),(16,vB true),(51,vB false),(54,vB false)] [(1,0,cNV g),(4,gg,[vI x22.peer,vI x22.num,vB x22.inn,vI x22.age])] fun _ _ => ?_
        refine cxs ?_
        have ew18 : IntKind.wrap .i64 ((i : Int) + (1)) = ((i + 1 : Nat) : Int) := (wrap_i64 (by omega) (by omega)).trans (by omega)
        refine ⟨_,rfl,?_⟩
        exact ⟨i + 1,g.sess.l.length - (i + 1),by omega,⟨rfl,congrArg (Value.int .i64) ew18,trivial⟩,⟨rfl,trivial⟩,rfl,by omega,upto (P := sesOk g.x) hok hy22 ⟨⟨h29,h36⟩,h41,h49,fun j z hj hz => hno j z (by omega) hz⟩,rfl⟩
       ·replace h54 : (k : Int) < (i : Int) := of_decide_eq_true h54
        refine Cm gg2 st [Ml 1 0,(3,vI (i : Int)),Ml 4 gg,(5,vI (k : Int)),(16,vB true),(51,vB false),(54,vB true)] [(1,0,cNV g),(4,gg,[vI x22.peer,vI x22.num,vB x22.inn,vI x22.age])] fun _ _ => ?_
        refine cxs ?_
        refine ⟨_,rfl,?_⟩
        refine ⟨_,Od rfl,?_⟩
        refine op_at k hR.sess (by omega) rfl rfl rfl rfl rfl rfl rfl ?_
        intro x60 b60 d60 k60 hy60 hb60 hm60 hc60 ho60
        refine ⟨_,rfl,?_⟩
        refine ⟨_,op_ldc (i := 0) rfl rfl rfl rfl hm60 hc60 rfl rfl,?_⟩
        refine ⟨_,rfl,?_⟩
        refine ⟨_,Od rfl,?_⟩
        refine ⟨_,rfl,?_⟩
        rintro (_|_) h65
        ·replace h65 : ¬ (x60.peer = x22.peer) := beq_eq_false_iff_ne.1 h65
         refine ⟨_,rfl,?_⟩
         refine Cm gg2 st [Ml 1 0,(3,vI (i : Int)),Ml 4 gg,(5,vI (k : Int)),(16,vB true),(51,vB false),(54,vB true),(76,vB false)] [(1,0,cNV g),(4,gg,[vI x22.peer,vI x22.num,vB x22.inn,vI x22.age])] fun _ _ => ?_
         refine cxs ?_
         have ew56 : IntKind.wrap .i64 ((k : Int) + (1)) = ((k + 1 : Nat) : Int) := (wrap_i64 (by omega) (by omega)).trans (by omega)
         refine ⟨_,rfl,?_⟩
         exact ⟨k + 1,i - (k + 1),by omega,⟨rfl,rfl,rfl,congrArg (Value.int .i64) ew56,rfl,rfl,trivial⟩,⟨rfl,rfl,trivial⟩,rfl,by omega,upto (P := fun _ (z : Ses) => ¬ (z.peer = x22.peer ∧ z.inn = x22.inn)) hno hy60 (fun q => h65 q.1),rfl⟩
        ·replace h65 : x60.peer = x22.peer := beq_iff_eq.1 h65
         refine ⟨_,rfl,?_⟩
         refine ⟨_,Od rfl,?_⟩
         refine op_el k hR.sess hy60 rfl rfl rfl rfl rfl rfl rfl ?_
         intro b70 d70 k70 hb70 hm70 hc70 ho70
         refine ⟨_,rfl,?_⟩
         refine ⟨_,op_ldc (i := 2) rfl rfl rfl rfl hm70 hc70 rfl rfl,?_⟩
         refine ⟨_,rfl,?_⟩
         refine ⟨_,Od rfl,?_⟩
         refine ⟨_,rfl,?_⟩
         rintro (_|_) h75
         ·replace h75 : ¬ (x60.inn = x22.inn) := beq_eq_false_iff_ne.1 h75
          refine ⟨_,rfl,?_⟩
          refine Cm gg2 st [Ml 1 0,(3,vI (i : Int)),Ml 4 gg,(5,vI (k : Int)),(16,vB true),(51,vB false),(54,vB true),(76,vB false)] [(1,0,cNV g),(4,gg,[vI x22.peer,vI x22.num,vB x22.inn,vI x22.age])] fun _ _ => ?_
          refine cxs ?_
          have ew56 : IntKind.wrap .i64 ((k : Int) + (1)) = ((k + 1 : Nat) : Int) := (wrap_i64 (by omega) (by omega)).trans (by omega)
          refine ⟨_,rfl,?_⟩
          exact ⟨k + 1,i - (k + 1),by omega,⟨rfl,rfl,rfl,congrArg (Value.int .i64) ew56,rfl,rfl,trivial⟩,⟨rfl,rfl,trivial⟩,rfl,by omega,upto (P := fun _ (z : Ses) => ¬ (z.peer = x22.peer ∧ z.inn = x22.inn)) hno hy60 (fun q => h75 q.2),rfl⟩
         ·replace h75 : x60.inn = x22.inn := beq_iff_eq.1 h75
          refine ⟨_,rfl,?_⟩
          refine Cm gg2 st [Ml 1 0,(3,vI (i : Int)),Ml 4 gg,(5,vI (k : Int)),(16,vB true),(51,vB false),(54,vB true),(76,vB true)] [(1,0,cNV g),(4,gg,[vI x22.peer,vI x22.num,vB x22.inn,vI x22.age])] fun _ _ => ?_
          exact cxs (Rt ⟨false,rfl,⟨fun h => absurd h Bool.false_ne_true,fun h => (show False from ((h.2 i x22 hy22).2.2.2 k x60 (by omega) hy60 ⟨h65,h75⟩)).elim⟩,rfl⟩)
    ·replace h36 : x22.peer = g.id := beq_iff_eq.1 h36
     iterate 2 refine ⟨_,rfl,?_⟩
     refine ow_cut [(1,vL 1 0 (0)),(3,vI (i : Int)),(4,vL 4 0 (gg)),(16,vB true),(43,vB true)] ⟨rfl,rfl,rfl,rfl,rfl,trivial⟩ fun _ => ?_
     refine ⟨_,rfl,?_⟩
     refine Cm (gg + 1) st [Ml 1 0,(3,vI (i : Int)),Ml 4 gg,(16,vB true),(51,vB true)] [(1,0,cNV g),(4,gg,[vI x22.peer,vI x22.num,vB x22.inn,vI x22.age])] fun _ _ => ?_
     exact cxs (Rt ⟨false,rfl,⟨fun h => absurd h Bool.false_ne_true,fun h => (show False from ((h.2 i x22 hy22).1.2 h36)).elim⟩,rfl⟩)
 ·replace h11 : (g.sess.l.length : Int) > g.slots := of_decide_eq_true h11
  refine Cm 1 st [Ml 1 0,(2,vB false),(11,vB true)] [(1,0,cNV g)] fun _ _ => ?_
  exact cxs (Rt ⟨false,rfl,⟨fun h => absurd h Bool.false_ne_true,fun h => (show False from (absurd h.1 (by show ¬ (g.sess.l.length : Int) ≤ g.slots; omega))).elim⟩,rfl⟩)
theorem ac_impl_risesOk (g : NV) (st : St) (hR : RdN st g) (hb : bigN g.x) : C 69 [(vNV g)] st (fun v s => ∃ x,v = .bool x ∧ (x = true ↔ risesOk g.x) ∧ s = st) := by
 have hs : g.rises.l.length ≤ 1048576 := hb.rises
 refine AC.enterX (i := ⟨[1,4],[1,4,5,12,17,23,25,31],[0,1,2,4,6,7,8,9,29],[]⟩) [] Tryz.func69 rfl rfl (by kernel_rfl) (by kernel_rfl) Tryz.ntmps69 (Lb rfl) rfl ?_
 refine ⟨_,rfl,?_⟩
 refine Cm 1 st [Ml 1 0,(2,vB false)] [(1,0,cNV g)] fun _ _ => ?_
 refine ⟨_,rfl,?_⟩
 refine ⟨_,Od rfl,?_⟩
 refine ⟨_,rfl,?_⟩
 refine Cm 1 st [Ml 1 0,(2,vB false),(6,vS g.rises.p g.rises.l.length),(7,vI (g.rises.l.length : Int)),(8,vI 0)] [(1,0,cNV g)] fun _ _ => ?_
 refine AW.loopM (fun i : Nat => [(1,vL 1 0 (0)),(6,vS g.rises.p g.rises.l.length),(7,vI (g.rises.l.length : Int)),(8,vI (i : Int))]) (fun i : Nat => [(1,0,cNV g)]) (fun m (i : Nat) st' => m = g.rises.l.length - i ∧ i ≤ g.rises.l.length ∧ (∀ (j : Nat) x,j < i → g.rises.l[j]? = some x → risOk g.x x) ∧ st = st') 0 _ ⟨rfl,rfl,rfl,rfl,trivial⟩ ⟨rfl,trivial⟩ ⟨rfl,Nat.zero_le _,fun j x h => absurd h (Nat.not_lt_zero _),rfl⟩ ?_
 rintro m i ρ0 ff gg st' ⟨rfl,hi,hok,rfl⟩
 refine ⟨_,rfl,?_⟩
 rintro (_|_) h9
 ·replace h9 : ¬ ((i : Int) < (g.rises.l.length : Int)) := of_decide_eq_false h9
  refine Cm gg st [Ml 1 0,(6,vS g.rises.p g.rises.l.length),(7,vI (g.rises.l.length : Int)),(8,vI (i : Int)),(9,vB false)] [(1,0,cNV g)] fun _ _ => ?_
  refine cxs ?_
  refine ⟨_,rfl,?_⟩
  refine ⟨_,Od rfl,?_⟩
  iterate 2 refine ⟨_,rfl,?_⟩
  rintro (_|_) h34
  ·replace h34 : ¬ ((g.rises.l.length : Int) = (5)) := beq_eq_false_iff_ne.1 h34
   exact cxs (Rt ⟨false,rfl,⟨fun h => absurd h Bool.false_ne_true,fun h => (show False from (h34 (by have h1 : g.rises.l.length = 5 := h.1; omega))).elim⟩,rfl⟩)
  ·replace h34 : (g.rises.l.length : Int) = (5) := beq_iff_eq.1 h34
   exact cxs (Rt ⟨true,rfl,⟨fun _ => ⟨by show g.rises.l.length = 5; omega,upall (P := fun _ => risOk g.x) hok (by show g.rises.l.length ≤ i; omega)⟩,fun _ => rfl⟩,rfl⟩)
 ·replace h9 : (i : Int) < (g.rises.l.length : Int) := of_decide_eq_true h9
  refine Cm gg st [Ml 1 0,(6,vS g.rises.p g.rises.l.length),(7,vI (g.rises.l.length : Int)),(8,vI (i : Int)),(9,vB true)] [(1,0,cNV g)] fun _ _ => ?_
  refine cxs ?_
  refine op_at i hR.rises (by omega) rfl rfl rfl rfl rfl rfl rfl ?_
  intro x10 b10 d10 k10 hy10 hb10 hm10 hc10 ho10
  refine ⟨_,op_lda rfl rfl rfl rfl rfl hm10 hc10 rfl,?_⟩
  refine ⟨_,rfl,?_⟩
  refine ⟨_,Os rfl,?_⟩
  refine Cm (gg + 1) st [Ml 1 0,Ml 4 gg,(6,vS g.rises.p g.rises.l.length),(7,vI (g.rises.l.length : Int)),(8,vI (i : Int)),(9,vB true)] [(1,0,cNV g),(4,gg,[vI x10.inc,vI x10.beat,vI x10.tick])] fun _ _ => ?_
  refine ⟨_,rfl,?_⟩
  refine ⟨_,Od rfl,?_⟩
  refine ⟨_,rfl,(ac_impl_within x10.inc 0 1000 st).mono ?_⟩
  rintro _ st ⟨x14,rfl,h14,rfl⟩
  rcases x14 with _|_
  ·replace h14 := of_decide_eq_false h14.symm
   iterate 3 refine ⟨_,rfl,?_⟩
   refine Cm (gg + 1) st [Ml 1 0,Ml 4 gg,(6,vS g.rises.p g.rises.l.length),(7,vI (g.rises.l.length : Int)),(8,vI (i : Int)),(9,vB true),(29,vB true)] [(1,0,cNV g),(4,gg,[vI x10.inc,vI x10.beat,vI x10.tick])] fun _ _ => ?_
   exact cxs (Rt ⟨false,rfl,⟨fun h => absurd h Bool.false_ne_true,fun h => (show False from (h14 (h.2 i x10 hy10).1)).elim⟩,rfl⟩)
  ·replace h14 := of_decide_eq_true h14.symm
   iterate 2 refine ⟨_,rfl,?_⟩
   refine ⟨_,Od rfl,?_⟩
   refine ⟨_,rfl,(ac_impl_within x10.beat 0 100000 st).mono ?_⟩
   rintro _ st ⟨x19,rfl,h19,rfl⟩
   rcases x19 with _|_
   ·replace h19 := of_decide_eq_false h19.symm
    iterate 3 refine ⟨_,rfl,?_⟩
    refine Cm (gg + 1) st [Ml 1 0,Ml 4 gg,(6,vS g.rises.p g.rises.l.length),(7,vI (g.rises.l.length : Int)),(8,vI (i : Int)),(9,vB true),(29,vB true)] [(1,0,cNV g),(4,gg,[vI x10.inc,vI x10.beat,vI x10.tick])] fun _ _ => ?_
    exact cxs (Rt ⟨false,rfl,⟨fun h => absurd h Bool.false_ne_true,fun h => (show False from (h19 (h.2 i x10 hy10).2.1)).elim⟩,rfl⟩)
   ·replace h19 := of_decide_eq_true h19.symm
    iterate 3 refine ⟨_,rfl,?_⟩
    refine ⟨_,Od rfl,?_⟩
    refine ⟨_,rfl,?_⟩
    refine ⟨_,Od rfl,?_⟩
    refine ⟨_,rfl,(ac_impl_within x10.tick 0 g.clock st).mono ?_⟩
    rintro _ st ⟨x27,rfl,h27,rfl⟩
    rcases x27 with _|_
    ·replace h27 := of_decide_eq_false h27.symm
     iterate 2 refine ⟨_,rfl,?_⟩
     refine Cm (gg + 1) st [Ml 1 0,Ml 4 gg,(6,vS g.rises.p g.rises.l.length),(7,vI (g.rises.l.length : Int)),(8,vI (i : Int)),(9,vB true),(29,vB true)] [(1,0,cNV g),(4,gg,[vI x10.inc,vI x10.beat,vI x10.tick])] fun _ _ => ?_
     exact cxs (Rt ⟨false,rfl,⟨fun h => absurd h Bool.false_ne_true,fun h => (show False from (h27 (h.2 i x10 hy10).2.2)).elim⟩,rfl⟩)
    ·replace h27 := of_decide_eq_true h27.symm
     iterate 2 refine ⟨_,rfl,?_⟩
     refine Cm (gg + 1) st [Ml 1 0,Ml 4 gg,(6,vS g.rises.p g.rises.l.length),(7,vI (g.rises.l.length : Int)),(8,vI (i : Int)),(9,vB true),(29,vB false)] [(1,0,cNV g),(4,gg,[vI x10.inc,vI x10.beat,vI x10.tick])] fun _ _ => ?_
     refine cxs ?_
     have ew30 : IntKind.wrap .i64 ((i : Int) + (1)) = ((i + 1 : Nat) : Int) := (wrap_i64 (by omega) (by omega)).trans (by omega)
     refine ⟨_,rfl,?_⟩
     exact ⟨i + 1,g.rises.l.length - (i + 1),by omega,⟨rfl,rfl,rfl,congrArg (Value.int .i64) ew30,trivial⟩,⟨rfl,trivial⟩,rfl,by omega,upto (P := fun _ => risOk g.x) hok hy10 ⟨h14,h19,h27⟩,rfl⟩
end Go.Proofs.YtpnolkhfeliehaaGreat.AM
