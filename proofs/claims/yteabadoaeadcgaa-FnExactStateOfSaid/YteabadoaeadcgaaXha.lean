/- Part 1 of the texts on which the law's proof rests. -/
import Derived.Test.YteabadoaeadcgaaXfd
namespace Go.Proofs.Yteabadoaeadcgaa.AM
open Go Go.Proofs
set_option linter.unusedVariables false
set_option linter.unusedSimpArgs false
set_option maxRecDepth 100000
set_option maxHeartbeats 4000000
structure BV where
 p : Option Addr
 l : List Int
 ok : bytesOk l
abbrev pcBs (g : BV) : List Pc := [pcR 1 fB g.p g.l]
theorem OwnP.rdBs {st : St} {g : BV} (h : OwnP st (pcBs g)) : Rows st 1 fB g.p g.l := (own_one Nat.one_pos fB_len h).rows fB_len
abbrev cntBs (l : List Int) : Nat := l.length
def mkB (n : Nat) (k : Int) : List Int := (List.range n).map fun (j : Nat) => IntKind.wrap .u8 (k + (j : Int))
theorem wrap8 (x : Int) : 0 ≤ IntKind.wrap .u8 x ∧ IntKind.wrap .u8 x < 256 := by
 simp only [IntKind.wrap]
 exact ⟨Int.emod_nonneg _ (by decide),Int.emod_lt_of_pos _ (by decide)⟩
theorem mkB_ok (n : Nat) (k : Int) : bytesOk (mkB n k) := fun x hx => by
 obtain ⟨j,_,rfl⟩ := List.mem_map.1 hx
 exact wrap8 _
theorem mkB_len (n : Nat) (k : Int) : (mkB n k).length = n := by simp [mkB]
def mkBs (g : BV) (k : Int) : BV := ⟨g.p,mkB g.l.length k,mkB_ok _ _⟩
theorem mkp_Bs (g : BV) (k : Int) : (pcBs (mkBs g k)).map (·.p) = (pcBs g).map (·.p) := rfl
theorem markB_set {l : List Int} {k : Int} {i : Nat} (hi : i < l.length) : (mkB i k ++ l.drop i).set i (IntKind.wrap .u8 (k + (i : Int))) = mkB (i + 1) k ++ l.drop (i + 1) := by
 rw [List.set_append_right _ _ (by rw [mkB_len]; exact Nat.le_refl _),mkB_len,Nat.sub_self,List.drop_eq_getElem_cons hi,List.set_cons_zero,mkB,mkB,List.range_succ,List.map_append,List.append_assoc]
 rfl
theorem uc_toByteS (g : BV) (st : St) (hR : Rows st 1 fB g.p g.l) (hb : szOk g.l.length) : C 39 [vS g.p g.l.length] st (fun v s => ∃ u : BV,v = vS u.p u.l.length ∧ u.l = g.l ∧ OwnP s (pcBs u) ∧ NewP st.next (pcBs u) ∧ Pres st s) := by
 have hs : g.l.length ≤ 1048576 := hb
 refine AC.enterX (i := ⟨[],[],[0,2,3,4,11],[]⟩) [] Try.func39 rfl rfl (by kernel_rfl) (by kernel_rfl) Try.ntmps39 (Nat.le_of_ble_eq_true rfl) rfl ?_
 refine AW.cut lo0 st [(0,vS g.p g.l.length),(2,.slice none 0 0)] ⟨rfl,rfl,trivial⟩ fun ρ0 => ?_
 refine ⟨_,rfl,?_⟩
 refine op_mkK (z := 1) (f := fB) (a := (0 : Int)) (b := 1) (i := g.l.length) rfl rfl rfl rfl rfl rfl rfl rfl rfl Nat.one_pos rfl rfl (by omega) (by omega) ?_
 intro q s1 hO1 hP1 hN1
 refine cxs ?_
 refine AW.cut lo0 s1 [(0,vS g.p g.l.length),(2,.slice none 0 0),(3,vS q g.l.length),(4,vI (0))] ⟨rfl,rfl,rfl,rfl,trivial⟩ fun ρ0 => ?_
 refine AW.loop0 (fun x : Nat × List Int => [(0,vS g.p g.l.length),(2,.slice none 0 0),(3,vS q g.l.length),(4,vI (x.1 : Int))]) (fun m (x : Nat × List Int) st' => m = g.l.length - x.1 ∧ x.1 ≤ g.l.length ∧ x.2 = g.l.take x.1 ++ List.replicate (g.l.length - x.1) 0 ∧ OwnR st' 1 fB q x.2 ∧ Pr q s1 st') (0,List.replicate g.l.length 0) _ ⟨rfl,rfl,rfl,rfl,trivial⟩ rfl ⟨rfl,Nat.zero_le _,rfl,hO1,Pr.refl _ _⟩ ?_
 rintro m ⟨i,L⟩ ρ0 st' ⟨rfl,hi,hL,hO,hP⟩
 simp only at hi hL hO
 have hRs : Rows st' 1 fB g.p g.l := (hP.pres hP1 hN1).rows hR
 iterate 2 refine ⟨_,rfl,?_⟩
 rintro (_|_) h11
 ·replace h11 : ¬ ((i : Int) < (g.l.length : Int)) := of_decide_eq_false h11
  refine AW.cut lo0 st' [(0,vS g.p g.l.length),(2,.slice none 0 0),(3,vS q g.l.length),(4,vI (i : Int)),(11,vB false)] ⟨rfl,rfl,rfl,rfl,rfl,trivial⟩ fun ρ0 => ?_
  refine cxs ?_
  refine cxs ?_
  have hfull : L = g.l := by rw [hL,show i = g.l.length by omega,List.take_length,Nat.sub_self]; exact List.append_nil _
  rw [hfull] at hO
  exact ⟨.inl rfl,_,rfl,⟨q,g.l,g.ok⟩,rfl,rfl,OwnP.one (own_pc hO),NewP.cons hN1 NewP.nil,hP.pres hP1 hN1⟩
 ·replace h11 : (i : Int) < (g.l.length : Int) := of_decide_eq_true h11
  refine AW.cut lo0 st' [(0,vS g.p g.l.length),(2,.slice none 0 0),(3,vS q g.l.length),(4,vI (i : Int)),(11,vB true)] ⟨rfl,rfl,rfl,rfl,rfl,trivial⟩ fun ρ0 => ?_
  refine cxs ?_
  have hlen : L.length = g.l.length := by rw [hL,List.length_append,List.length_take,List.length_replicate]; omega
  refine op_at i hRs (by omega) rfl rfl rfl rfl rfl rfl rfl ?_
  intro x18 b18 d18 k18 hy18 hb18 hm18 hc18 ho18
  refine ⟨_,op_ldc (i := 0) rfl rfl rfl rfl hm18 hc18 rfl rfl,?_⟩
  obtain ⟨a,ha⟩ := hO.some (by omega)
  refine ⟨_,op_idx (j := (i : Int)) (n := g.l.length) (q := ⟨a,0,none⟩) rfl (congrArg (fun v => vS v g.l.length) ha) rfl rfl rfl (Int.natCast_nonneg _) h11,?_⟩
  refine op_put (st := st') (f := fB) (j := i) (l := L) (y := x18) (p := q) (d := 0 + i * 1) rfl rfl (Nat.zero_add _) rfl rfl fB_len rfl rfl (by omega) hO ha ?_
  intro s20 hO20 hP20 hn20
  refine AW.cut lo0 s20 [(0,vS g.p g.l.length),(2,.slice none 0 0),(3,vS q g.l.length),(4,vI (i : Int)),(11,vB true)] ⟨rfl,rfl,rfl,rfl,rfl,trivial⟩ fun ρ0 => ?_
  have ew13 : IntKind.wrap .i64 ((i : Int) + (1)) = ((i + 1 : Nat) : Int) := (wrap_i64 (by omega) (by omega)).trans (by omega)
  refine ⟨_,rfl,?_⟩
  exact ⟨(i + 1,L.set i x18),g.l.length - (i + 1),by omega,⟨rfl,rfl,rfl,congrArg (Value.int .i64) ew13,trivial⟩,rfl,rfl,by simp only; omega,by simp only; rw [hL]; exact fill_set hy18,hO20,hP.trans hP20⟩
theorem uc_eqByteS (a b : BV) (st : St) (hA : Rows st 1 fB a.p a.l) (hB : Rows st 1 fB b.p b.l) (hb : szOk a.l.length) : C 42 [vS a.p a.l.length,vS b.p b.l.length] st (fun v s => ∃ x,v = .bool x ∧ (x = true ↔ a.l = b.l) ∧ s = st) := by
 have hs : a.l.length ≤ 1048576 := hb
 refine AC.enterX (i := ⟨[],[],[0,1,4,5,10,14,25],[]⟩) [(6,[],[])] Try.func42 rfl rfl (by kernel_rfl) (by kernel_rfl) Try.ntmps42 (Nat.le_of_ble_eq_true rfl) rfl ?_
 refine AW.cut lo0 st [(0,vS a.p a.l.length),(1,vS b.p b.l.length),(4,vB false)] ⟨rfl,rfl,rfl,trivial⟩ fun ρ0 => ?_
 iterate 3 refine ⟨_,rfl,?_⟩
 rintro (_|_) h10
 ·replace h10 : (a.l.length : Int) = (b.l.length : Int) := bne_eq_false_iff_eq.1 h10
  refine AW.cut lo0 st [(0,vS a.p a.l.length),(1,vS b.p b.l.length),(4,vB false),(10,vB false)] ⟨rfl,rfl,rfl,rfl,trivial⟩ fun ρ0 => ?_
  refine cxs ?_
  refine AW.cut lo0 st [(0,vS a.p a.l.length),(1,vS b.p b.l.length),(4,vB false),(5,vI (0))] ⟨rfl,rfl,rfl,rfl,trivial⟩ fun ρ0 => ?_
  refine AW.loop0 (fun i : Nat => [(0,vS a.p a.l.length),(1,vS b.p b.l.length),(5,vI (i : Int))]) (fun m (i : Nat) st' => m = a.l.length - i ∧ i ≤ a.l.length ∧ (∀ (j : Nat) x y,j < i → a.l[j]? = some x → b.l[j]? = some y → x = y) ∧ st = st') 0 _ ⟨rfl,rfl,rfl,trivial⟩ rfl ⟨rfl,Nat.zero_le _,fun j x y h => absurd h (Nat.not_lt_zero _),rfl⟩ ?_
  rintro m i ρ0 st' ⟨rfl,hi,heq,rfl⟩
  iterate 2 refine ⟨_,rfl,?_⟩
  rintro (_|_) h14
  ·replace h14 : ¬ ((i : Int) < (a.l.length : Int)) := of_decide_eq_false h14
   refine AW.cut lo0 st [(0,vS a.p a.l.length),(1,vS b.p b.l.length),(5,vI (i : Int)),(14,vB false)] ⟨rfl,rfl,rfl,rfl,trivial⟩ fun ρ0 => ?_
   refine cxs ?_
   refine cxs ?_
   exact ⟨.inl rfl,_,rfl,true,rfl,⟨fun _ => iff_lists (by omega) (fun j u v hj hu hv => heq j u v (by omega) hu hv),fun _ => rfl⟩,rfl⟩
  ·replace h14 : (i : Int) < (a.l.length : Int) := of_decide_eq_true h14
   refine AW.cut lo0 st [(0,vS a.p a.l.length),(1,vS b.p b.l.length),(5,vI (i : Int)),(14,vB true)] ⟨rfl,rfl,rfl,rfl,trivial⟩ fun ρ0 => ?_
   refine cxs ?_
   refine op_at i hA (by omega) rfl rfl rfl rfl rfl rfl rfl ?_
   intro x19 b19 d19 k19 hy19 hb19 hm19 hc19 ho19
   refine ⟨_,op_ldc (i := 0) rfl rfl rfl rfl hm19 hc19 rfl rfl,?_⟩
   refine op_at i hB (by omega) rfl rfl rfl rfl rfl rfl rfl ?_
   intro x23 b23 d23 k23 hy23 hb23 hm23 hc23 ho23
   refine ⟨_,op_ldc (i := 0) rfl rfl rfl rfl hm23 hc23 rfl rfl,?_⟩
   refine ⟨_,rfl,?_⟩
   rintro (_|_) h25
   ·replace h25 : x19 = x23 := bne_eq_false_iff_eq.1 h25
    refine AW.cut lo0 st [(0,vS a.p a.l.length),(1,vS b.p b.l.length),(5,vI (i : Int)),(14,vB true),(25,vB false)] ⟨rfl,rfl,rfl,rfl,rfl,trivial⟩ fun ρ0 => ?_
    refine cxs ?_
    have ew16 : IntKind.wrap .i64 ((i : Int) + (1)) = ((i + 1 : Nat) : Int) := (wrap_i64 (by omega) (by omega)).trans (by omega)
    refine ⟨_,rfl,?_⟩
    refine ⟨i + 1,a.l.length - (i + 1),by omega,⟨rfl,rfl,congrArg (Value.int .i64) ew16,trivial⟩,rfl,rfl,by omega,fun j u v hj hu hv => ?_,rfl⟩
    rcases Nat.lt_or_ge j i with h | h
    ·exact heq j u v h hu hv
    ·obtain rfl : j = i := by omega
     rw [hy19] at hu
     rw [hy23] at hv
     injection hu with hu
     injection hv with hv
     rw [← hu,← hv]; exact h25
   ·replace h25 : ¬ (x19 = x23) := bne_iff_ne.1 h25
    refine AW.cut lo0 st [(0,vS a.p a.l.length),(1,vS b.p b.l.length),(5,vI (i : Int)),(14,vB true),(25,vB true)] ⟨rfl,rfl,rfl,rfl,rfl,trivial⟩ fun ρ0 => ?_
    refine cxs ?_
    exact ⟨.inl rfl,_,rfl,false,rfl,⟨fun h => absurd h Bool.false_ne_true,fun h => (show False from (h25 (by rw [h] at hy19; rw [hy19] at hy23; injection hy23))).elim⟩,rfl⟩
 ·replace h10 : ¬ ((a.l.length : Int) = (b.l.length : Int)) := bne_iff_ne.1 h10
  refine AW.cut lo0 st [(0,vS a.p a.l.length),(1,vS b.p b.l.length),(4,vB false),(10,vB true)] ⟨rfl,rfl,rfl,rfl,trivial⟩ fun ρ0 => ?_
  refine cxs ?_
  exact ⟨.inl rfl,_,rfl,false,rfl,⟨fun h => absurd h Bool.false_ne_true,fun h => (show False from (h10 (by rw [h]))).elim⟩,rfl⟩
theorem uc_markByteS (u : BV) (k : Int) (st : St) (hO : OwnP st (pcBs u)) (hb : szOk u.l.length) (h0 : 0 ≤ k) (hk : k ≤ 137438953472) : C 43 [vS u.p u.l.length,vI k] st (fun v s => v = vI (k + (cntBs u.l : Int)) ∧ OwnP s (pcBs (mkBs u k)) ∧ PrL ((pcBs u).map (·.p)) st s) := by
 have hs : u.l.length ≤ 1048576 := hb
 have hO0 : OwnR st 1 fB u.p u.l := own_one Nat.one_pos fB_len hO
 refine AC.enterX (i := ⟨[],[],[0,1,4,5,9],[]⟩) [] Try.func43 rfl rfl (by kernel_rfl) (by kernel_rfl) Try.ntmps43 (Nat.le_of_ble_eq_true rfl) rfl ?_
 refine cxs ?_
 refine AW.cut lo0 st [(0,vS u.p u.l.length),(1,vI k),(4,vI (0)),(5,vI (0))] ⟨rfl,rfl,rfl,rfl,trivial⟩ fun ρ0 => ?_
 refine AW.loop0 (fun i : Nat => [(0,vS u.p u.l.length),(1,vI (k + (i : Int))),(5,vI (i : Int))]) (fun m (i : Nat) st' => m = u.l.length - i ∧ i ≤ u.l.length ∧ OwnR st' 1 fB u.p (mkB i k ++ u.l.drop i) ∧ Pr u.p st st') 0 _ ⟨rfl,congrArg (Value.int .i64) (Int.add_zero k).symm,rfl,trivial⟩ rfl ⟨rfl,Nat.zero_le _,by simpa [mkB] using hO0,Pr.refl _ _⟩ ?_
 rintro m i ρ0 st' ⟨rfl,hi,hO',hP'⟩
 iterate 2 refine ⟨_,rfl,?_⟩
 rintro (_|_) h1
 ·replace h1 : ¬ ((i : Int) < (u.l.length : Int)) := of_decide_eq_false h1
  refine AW.cut lo0 st' [(0,vS u.p u.l.length),(1,vI (k + (i : Int))),(5,vI (i : Int)),(9,vB false)] ⟨rfl,rfl,rfl,rfl,trivial⟩ fun ρ0 => ?_
  refine cxs ?_
  refine cxs ?_
  have hil : i = u.l.length := by omega
  rw [hil,List.drop_length,List.append_nil] at hO'
  exact ⟨.inl rfl,_,rfl,(by rw [hil]; rfl),OwnP.one (own_pc (f := fB) (l := (mkBs u k).l) hO'),hP'.l (List.mem_singleton_self _)⟩
 ·replace h1 : (i : Int) < (u.l.length : Int) := of_decide_eq_true h1
  refine AW.cut lo0 st' [(0,vS u.p u.l.length),(1,vI (k + (i : Int))),(5,vI (i : Int)),(9,vB true)] ⟨rfl,rfl,rfl,rfl,trivial⟩ fun ρ0 => ?_
  have h1' := Int.ofNat_lt.1 h1
  have hlen : i < (mkB i k ++ u.l.drop i).length := by rw [List.length_append,mkB_len,List.length_drop]; omega
  have ⟨a,ha⟩ := hO'.some (by omega)
  refine cxs ?_
  refine ⟨_,rfl,?_⟩
  refine ⟨_,op_idx (j := (i : Int)) (n := u.l.length) (q := ⟨a,0,none⟩) rfl (congrArg (fun v => vS v u.l.length) ha) rfl rfl rfl (Int.natCast_nonneg _) h1,?_⟩
  refine op_put (st := st') (f := fB) (j := i) (l := mkB i k ++ u.l.drop i) (y := IntKind.wrap .u8 (k + (i : Int))) (p := u.p) (d := 0 + i * 1) rfl rfl ((Nat.zero_add _)) rfl rfl fB_len rfl rfl hlen hO' ha ?_
  intro s5 hO5 hP5 hn5
  rw [markB_set h1'] at hO5
  refine AW.cut lo0 s5 [(0,vS u.p u.l.length),(1,vI (k + (i : Int))),(5,vI (i : Int)),(9,vB true)] ⟨rfl,rfl,rfl,rfl,trivial⟩ fun ρ0 => ?_
  have e18 : IntKind.wrap .i64 (k + (i : Int) + 1) = k + ((i + 1 : Nat) : Int) := (wrap_i64 (by omega) (by omega)).trans (by omega)
  refine ⟨_,rfl,?_⟩
  refine AW.cut lo0 s5 [(0,vS u.p u.l.length),(1,vI (k + ((i + 1 : Nat) : Int))),(5,vI (i : Int)),(9,vB true)] ⟨rfl,congrArg (Value.int .i64) e18,rfl,rfl,trivial⟩ fun ρ0 => ?_
  have e11 : IntKind.wrap .i64 ((i : Int) + 1) = ((i + 1 : Nat) : Int) := (wrap_i64 (by omega) (by omega)).trans (by omega)
  refine ⟨_,rfl,?_⟩
  exact ⟨i + 1,u.l.length - (i + 1),by omega,⟨rfl,rfl,congrArg (Value.int .i64) e11,trivial⟩,rfl,rfl,h1',hO5,hP'.trans hP5⟩
theorem wt_bytesB {L : LL} {us : List Value} (h : WT Try.prog Try.prog.globals.size 12 22 L us) : ∃ p l,us = [vS p l.length] ∧ Rows (stL Try.prog.globals.size L) 1 fB p l ∧ l.length ≤ maxLen ∧ bytesOk l := by
 obtain ⟨p,l,h1,h2,h3,h4⟩ := WT.rows (f := fB) (Q := fun x => 0 ≤ x ∧ x < 256) Try.underlying22 (z := 1) (by kernel_rfl) (fun us h => by
  obtain ⟨n,h,hw⟩ := WT.int Try.underlying5 h
  refine ⟨n,h,?_⟩
  have e1 : IntKind.u8.min = 0 := by decide
  have e2 : IntKind.u8.max = 255 := by decide
  simp only [Lit.wf,Bool.and_eq_true,decide_eq_true_eq,e1,e2] at hw
  omega) h
 exact ⟨p,l,h1,h2,h3,h4⟩
theorem Rows.pres {α : Type} {st st' : St} {z : Nat} {f : α → List Value} {p : Option Addr} {l : List α} (h : Rows st z f p l) (k : Pres st st') : Rows st' z f p l := k.rows h
theorem parse_big {u : Sta} {b : Bool} {l : List Int} (h : (u,b) = parseS l) : bigS u := by
 cases b with
 | true => exact big_ok (parse_yes h).1
 | false =>
  unfold parseS at h
  split at h
  ·injection h with _ h; cases h
  ·injection h with h _; rw [h]; exact bigS_nil
theorem ac_laws_FnExactStateOf (b : BV) (st : St) (hR_b : Rows st 1 fB b.p b.l ∧ b.l.length ≤ maxLen) : C 7 [vS b.p b.l.length] st (fun v s => v = vB true) := by
 refine AC.enterX (i := ⟨[3,6,11],[3,6,11],[0,2,3,4,5,6,7,8,9,10,11,12,15,37,42,58,66,69,84,89,92],[]⟩) [] Try.func7 rfl rfl (by kernel_rfl) (by kernel_rfl) Try.ntmps7 (Nat.le_of_ble_eq_true rfl) rfl ?_
 refine AW.cutM (0) st [(0,vS b.p b.l.length),(2,vB false)] [] ⟨rfl,rfl,trivial⟩ trivial rfl fun ρ0 ff => ?_
 iterate 2 refine ⟨_,rfl,?_⟩
 rintro (_|_) hn_b
 ·replace hn_b : ¬ ((b.l.length : Int) > 1048576) := of_decide_eq_false hn_b
  refine AW.cutM (0) st [(0,vS b.p b.l.length),(2,vB false),(15,vB false)] [] ⟨rfl,rfl,rfl,trivial⟩ trivial rfl fun ρ0 ff => ?_
  have hb_b := (show szOk b.l.length by unfold szOk; omega)
  have hc_b : cntBs b.l ≤ 8388608 := (show cntBs b.l ≤ 8388608 by have hsz : b.l.length ≤ 1048576 := hb_b; unfold cntBs; omega)
  refine cxs ?_
  refine ⟨_,rfl,(uc_toByteS b st hR_b.1 hb_b).mono ?_⟩
  rintro _ s1 ⟨u1,rfl,hu1,hO1,hN1,hP1⟩
  refine ⟨_,rfl,(ac_spec_StateOf u1.p u1.l s1 (OwnP.rdBs (OwnP.left (OwnP.joinF OwnP.nil hP1 hO1 hN1))) u1.ok (hu1 ▸ hb_b)).mono ?_⟩
  rintro _ s2 ⟨r2,b2,rfl,hr2,hO2,hN2,hP2⟩
  iterate 4 refine ⟨_,rfl,?_⟩
  refine AW.cutM (1) s2 [(0,vS b.p b.l.length),(2,vB false),(3,vL 3 0 (0)),(4,vB b2)] [(3,0,[vS r2.p r2.x.items.length,vS r2.q r2.x.floors.length])] ⟨rfl,rfl,rfl,rfl,trivial⟩ ⟨rfl,trivial⟩ rfl fun ρ0 ff => ?_
  have hA3 : OwnP s2 (pcS r2 ++ (pcBs u1 ++ [])) := (OwnP.joinF (OwnP.joinF OwnP.nil hP1 hO1 hN1) hP2 hO2 hN2)
  have hQ3 : Pres st s2 := (hP1.trans hP2)
  refine ⟨_,rfl,(uc_toByteS b s2 (hR_b.1.pres hQ3) hb_b).mono ?_⟩
  rintro _ s3 ⟨u3,rfl,hu3,hO3,hN3,hP3⟩
  refine AW.cutM (1) s3 [(0,vS b.p b.l.length),(2,vB false),(3,vL 3 0 (0)),(4,vB b2),(5,vS u3.p u3.l.length)] [(3,0,[vS r2.p r2.x.items.length,vS r2.q r2.x.floors.length])] ⟨rfl,rfl,rfl,rfl,rfl,trivial⟩ ⟨rfl,trivial⟩ rfl fun ρ0 ff => ?_
  have hA4 : OwnP s3 (pcBs u3 ++ (pcS r2 ++ (pcBs u1 ++ []))) := (OwnP.joinF hA3 hP3 hO3 hN3)
  have hQ4 : Pres st s3 := (hQ3.trans hP3)
  refine ⟨_,rfl,(ac_impl_StateOf u3.p u3.l s3 (OwnP.rdBs (OwnP.left hA4)) u3.ok (hu3 ▸ hb_b)).mono ?_⟩
  rintro _ s4 ⟨r4,b4,rfl,hr4,hO4,hN4,hP4⟩
  iterate 4 refine ⟨_,rfl,?_⟩
  refine AW.cutM (2) s4 [(0,vS b.p b.l.length),(2,vB false),(3,vL 3 0 (0)),(4,vB b2),(5,vS u3.p u3.l.length),(6,vL 6 0 (1)),(7,vB b4)] [(3,0,[vS r2.p r2.x.items.length,vS r2.q r2.x.floors.length]),(6,1,[vS r4.p r4.x.items.length,vS r4.q r4.x.floors.length])] ⟨rfl,rfl,rfl,rfl,rfl,rfl,rfl,trivial⟩ ⟨rfl,rfl,trivial⟩ rfl fun ρ0 ff => ?_
  have hA5 : OwnP s4 (pcS r4 ++ (pcBs u3 ++ (pcS r2 ++ (pcBs u1 ++ [])))) := (OwnP.joinF hA4 hP4 hO4 hN4)
  have hQ5 : Pres st s4 := (hQ4.trans hP4)
  have hE1 : (r4.x,b4) = (r2.x,b2) := by rw [hr4,hr2,hu3,hu1]
  iterate 2 refine ⟨_,rfl,?_⟩
  refine ⟨_,rfl,(AC.tru (ac_laws_eqState r4 r2 s4 (OwnP.rdS (OwnP.left hA5)) (OwnP.rdS (OwnP.left (OwnP.right (OwnP.right hA5)))) (parse_big hr4)) ((Prod.mk.inj hE1).1)).mono ?_⟩
  rintro _ s4 ⟨rfl,rfl⟩
  iterate 2 refine ⟨_,rfl,?_⟩
  rintro (_|_) he5
  rotate_left
  ·exact absurd (((Prod.mk.inj hE1).2)) (b_ne he5)
  refine ⟨_,rfl,?_⟩
  refine AW.cutM (2) s4 [(0,vS b.p b.l.length),(2,vB false),(3,vL 3 0 (0)),(4,vB b2),(5,vS u3.p u3.l.length),(6,vL 6 0 (1)),(7,vB b4),(37,vB false)] [(3,0,[vS r2.p r2.x.items.length,vS r2.q r2.x.floors.length]),(6,1,[vS r4.p r4.x.items.length,vS r4.q r4.x.floors.length])] ⟨rfl,rfl,rfl,rfl,rfl,rfl,rfl,rfl,trivial⟩ ⟨rfl,rfl,trivial⟩ rfl fun ρ0 ff => ?_
  refine cxs ?_
  refine ⟨_,rfl,(uc_toByteS b s4 (hR_b.1.pres hQ5) hb_b).mono ?_⟩
  rintro _ s6 ⟨u6,rfl,hu6,hO6,hN6,hP6⟩
  refine ⟨_,rfl,(AC.tru (uc_eqByteS u3 u6 s6 (OwnP.rdBs (OwnP.left (OwnP.right (OwnP.right (OwnP.joinF hA5 hP6 hO6 hN6))))) (OwnP.rdBs (OwnP.left (OwnP.joinF hA5 hP6 hO6 hN6))) (hu3 ▸ hb_b)) (hu3.trans hu6.symm)).mono ?_⟩
  rintro _ s6 ⟨rfl,rfl⟩
  refine ⟨_,rfl,?_⟩
  refine AW.cutM (2) s6 [(0,vS b.p b.l.length),(2,vB false),(3,vL 3 0 (0)),(4,vB b2),(5,vS u3.p u3.l.length),(6,vL 6 0 (1)),(7,vB b4),(42,vB false)] [(3,0,[vS r2.p r2.x.items.length,vS r2.q r2.x.floors.length]),(6,1,[vS r4.p r4.x.items.length,vS r4.q r4.x.floors.length])] ⟨rfl,rfl,rfl,rfl,rfl,rfl,rfl,rfl,trivial⟩ ⟨rfl,rfl,trivial⟩ rfl fun ρ0 ff => ?_
  have hA8 : OwnP s6 (pcBs u6 ++ (pcS r4 ++ (pcBs u3 ++ (pcS r2 ++ (pcBs u1 ++ []))))) := (OwnP.joinF hA5 hP6 hO6 hN6)
  have hQ8 : Pres st s6 := (hQ5.trans hP6)
  refine cxs ?_
  refine AW.cutM (2) s6 [(0,vS b.p b.l.length),(2,vB false),(3,vL 3 0 (0)),(4,vB b2),(5,vS u3.p u3.l.length),(6,vL 6 0 (1)),(7,vB b4),(8,vI (1))] [(3,0,[vS r2.p r2.x.items.length,vS r2.q r2.x.floors.length]),(6,1,[vS r4.p r4.x.items.length,vS r4.q r4.x.floors.length])] ⟨rfl,rfl,rfl,rfl,rfl,rfl,rfl,rfl,trivial⟩ ⟨rfl,rfl,trivial⟩ rfl fun ρ0 ff => ?_
  have hM7 := (OwnP.front2 hA8)
  have hNw7 := newPs (hN3.le ((hP1.trans hP2)).1)
  have hcm7 : cntBs u3.l ≤ 8388608 := by rw [hu3]; exact hc_b
  refine ⟨_,rfl,(uc_markByteS u3 1 s6 (OwnP.left hM7) (hu3 ▸ hb_b) (by omega) (by omega)).mono ?_⟩
  rintro _ s7 ⟨rfl,hO7,hL7⟩
  refine AW.cutM (2) s7 [(0,vS b.p b.l.length),(2,vB false),(3,vL 3 0 (0)),(4,vB b2),(6,vL 6 0 (1)),(7,vB b4),(8,vI (1 + (cntBs u3.l : Int)))] [(3,0,[vS r2.p r2.x.items.length,vS r2.q r2.x.floors.length]),(6,1,[vS r4.p r4.x.items.length,vS r4.q r4.x.floors.length])] ⟨rfl,rfl,rfl,rfl,rfl,rfl,rfl,trivial⟩ ⟨rfl,rfl,trivial⟩ rfl fun ρ0 ff => ?_
  have hA11 : OwnP s7 (pcBs (mkBs u3 1) ++ _) := OwnP.markG hM7 hO7 (mkp_Bs _ _) hL7
  have hQ11 : Pres st s7 := hL7.pres hQ8 hNw7
  refine ⟨_,rfl,?_⟩
  rintro (_|_) hg8
  rotate_left
  ·exact absurd (of_decide_eq_true hg8) ((by omega))
  iterate 2 refine ⟨_,rfl,?_⟩
  refine ⟨_,rfl,(AC.tru (ac_laws_eqState r4 r2 s7 (OwnP.rdS (OwnP.left (OwnP.right (OwnP.right hA11)))) (OwnP.rdS (OwnP.left (OwnP.right (OwnP.right (OwnP.right hA11))))) (parse_big hr4)) ((Prod.mk.inj hE1).1)).mono ?_⟩
  rintro _ s7 ⟨rfl,rfl⟩
  iterate 3 refine ⟨_,rfl,?_⟩
  rintro (_|_) he9
  rotate_left
  ·exact absurd (((Prod.mk.inj hE1).2)) (b_ne he9)
  refine ⟨_,rfl,?_⟩
  refine AW.cutM (2) s7 [(0,vS b.p b.l.length),(2,vB false),(3,vL 3 0 (0)),(4,vB b2),(6,vL 6 0 (1)),(58,vB false)] [(3,0,[vS r2.p r2.x.items.length,vS r2.q r2.x.floors.length]),(6,1,[vS r4.p r4.x.items.length,vS r4.q r4.x.floors.length])] ⟨rfl,rfl,rfl,rfl,rfl,rfl,trivial⟩ ⟨rfl,rfl,trivial⟩ rfl fun ρ0 ff => ?_
  refine cxs ?_
  refine AW.cutM (2) s7 [(0,vS b.p b.l.length),(2,vB false),(3,vL 3 0 (0)),(4,vB b2),(6,vL 6 0 (1)),(9,vI (1))] [(3,0,[vS r2.p r2.x.items.length,vS r2.q r2.x.floors.length]),(6,1,[vS r4.p r4.x.items.length,vS r4.q r4.x.floors.length])] ⟨rfl,rfl,rfl,rfl,rfl,rfl,trivial⟩ ⟨rfl,rfl,trivial⟩ rfl fun ρ0 ff => ?_
  refine ⟨_,rfl,?_⟩
  have hM10 := (OwnP.front2 hA11)
  have hNw10 := newPs (hN4.le (((hP1.trans hP2).trans hP3)).1)
  have hcm10 : cntState r4.x ≤ 8388608 := cnt_State (parse_big hr4)
  refine ⟨_,rfl,(uc_markState r4 1 s7 (OwnP.left hM10) (parse_big hr4) (by omega) (by omega)).mono ?_⟩
  rintro _ s10 ⟨rfl,hO10,hL10⟩
  refine cxs ?_
  have hA15 : OwnP s10 (pcS (mkState r4 1) ++ _) := OwnP.markG hM10 hO10 (mkp_State _ _) hL10
  have hQ15 : Pres st s10 := hL10.pres hQ11 hNw10
  refine AW.cutM (2) s10 [(0,vS b.p b.l.length),(2,vB false),(3,vL 3 0 (0)),(4,vB b2),(6,vL 6 0 (1)),(9,vI (1 + (cntState r4.x : Int))),(10,vI (1))] [(3,0,[vS r2.p r2.x.items.length,vS r2.q r2.x.floors.length]),(6,1,[vS r4.p r4.x.items.length,vS r4.q r4.x.floors.length])] ⟨rfl,rfl,rfl,rfl,rfl,rfl,rfl,trivial⟩ ⟨rfl,rfl,trivial⟩ rfl fun ρ0 ff => ?_
  refine ⟨_,rfl,?_⟩
  refine ⟨_,rfl,(uc_heldState r4 1 s10 (OwnP.rdS (OwnP.left hA15)) (parse_big hr4) (by decide) (by omega)).mono ?_⟩
  rintro _ s11 ⟨rfl,hP11⟩
  refine AW.cutM (2) s11 [(0,vS b.p b.l.length),(2,vB false),(3,vL 3 0 (0)),(4,vB b2),(6,vL 6 0 (1)),(9,vI (1 + (cntState r4.x : Int))),(10,vI (1 + (cntState r4.x : Int)))] [(3,0,[vS r2.p r2.x.items.length,vS r2.q r2.x.floors.length]),(6,1,[vS r4.p r4.x.items.length,vS r4.q r4.x.floors.length])] ⟨rfl,rfl,rfl,rfl,rfl,rfl,rfl,trivial⟩ ⟨rfl,rfl,trivial⟩ rfl fun ρ0 ff => ?_
  have hA17 : OwnP s11 (pcS (mkState r4 1) ++ (pcBs (mkBs u3 1) ++ (pcBs u6 ++ (pcS r2 ++ (pcBs u1 ++ []))))) := (OwnP.pres hA15 hP11)
  have hQ17 : Pres st s11 := (hQ15.trans hP11)
  refine ⟨_,rfl,?_⟩
  rintro (_|_) hg12
  rotate_left
  ·exact absurd (of_decide_eq_true hg12) ((by omega))
  refine AW.cutM (2) s11 [(0,vS b.p b.l.length),(2,vB false),(3,vL 3 0 (0)),(4,vB b2),(6,vL 6 0 (1)),(9,vI (1 + (cntState r4.x : Int))),(10,vI (1 + (cntState r4.x : Int))),(66,vB false)] [(3,0,[vS r2.p r2.x.items.length,vS r2.q r2.x.floors.length]),(6,1,[vS r4.p r4.x.items.length,vS r4.q r4.x.floors.length])] ⟨rfl,rfl,rfl,rfl,rfl,rfl,rfl,rfl,trivial⟩ ⟨rfl,rfl,trivial⟩ rfl fun ρ0 ff => ?_
  refine cxs ?_
  refine ⟨_,rfl,?_⟩
  rintro (_|_) hg13
  rotate_left
  ·exact absurd (rfl) (bne_iff_ne.1 hg13)
  refine AW.cutM (2) s11 [(0,vS b.p b.l.length),(2,vB false),(3,vL 3 0 (0)),(4,vB b2),(6,vL 6 0 (1)),(9,vI (1 + (cntState r4.x : Int))),(10,vI (1 + (cntState r4.x : Int))),(69,vB false)] [(3,0,[vS r2.p r2.x.items.length,vS r2.q r2.x.floors.length]),(6,1,[vS r4.p r4.x.items.length,vS r4.q r4.x.floors.length])] ⟨rfl,rfl,rfl,rfl,rfl,rfl,rfl,rfl,trivial⟩ ⟨rfl,rfl,trivial⟩ rfl fun ρ0 ff => ?_
  refine cxs ?_
  refine ⟨_,rfl,(uc_toByteS b s11 (hR_b.1.pres hQ17) hb_b).mono ?_⟩
  rintro _ s14 ⟨u14,rfl,hu14,hO14,hN14,hP14⟩
  refine ⟨_,rfl,(ac_impl_StateOf u14.p u14.l s14 (OwnP.rdBs (OwnP.left (OwnP.joinF hA17 hP14 hO14 hN14))) u14.ok (hu14 ▸ hb_b)).mono ?_⟩
  rintro _ s15 ⟨r15,b15,rfl,hr15,hO15,hN15,hP15⟩
  iterate 4 refine ⟨_,rfl,?_⟩
  refine AW.cutM (3) s15 [(2,vB false),(3,vL 3 0 (0)),(4,vB b2),(6,vL 6 0 (1)),(9,vI (1 + (cntState r4.x : Int))),(10,vI (1 + (cntState r4.x : Int))),(11,vL 11 0 (2)),(12,vB b15)] [(3,0,[vS r2.p r2.x.items.length,vS r2.q r2.x.floors.length]),(6,1,[vS r4.p r4.x.items.length,vS r4.q r4.x.floors.length]),(11,2,[vS r15.p r15.x.items.length,vS r15.q r15.x.floors.length])] ⟨rfl,rfl,rfl,rfl,rfl,rfl,rfl,rfl,trivial⟩ ⟨rfl,rfl,rfl,trivial⟩ rfl fun ρ0 ff => ?_
  have hA22 : OwnP s15 (pcS r15 ++ (pcBs u14 ++ (pcS (mkState r4 1) ++ (pcBs (mkBs u3 1) ++ (pcBs u6 ++ (pcS r2 ++ (pcBs u1 ++ []))))))) := (OwnP.joinF (OwnP.joinF hA17 hP14 hO14 hN14) hP15 hO15 hN15)
  have hQ22 : Pres st s15 := ((hQ17.trans hP14).trans hP15)
  have hE2 : (r15.x,b15) = (r2.x,b2) := by rw [hr15,hr2,hu14,hu1]
  iterate 2 refine ⟨_,rfl,?_⟩
  refine ⟨_,rfl,(AC.tru (ac_laws_eqState r15 r2 s15 (OwnP.rdS (OwnP.left hA22)) (OwnP.rdS (OwnP.left (OwnP.right (OwnP.right (OwnP.right (OwnP.right (OwnP.right hA22))))))) (parse_big hr15)) ((Prod.mk.inj hE2).1)).mono ?_⟩
  rintro _ s15 ⟨rfl,rfl⟩
  iterate 2 refine ⟨_,rfl,?_⟩
  rintro (_|_) he16
  rotate_left
  ·exact absurd (((Prod.mk.inj hE2).2)) (b_ne he16)
  refine ⟨_,rfl,?_⟩
  refine AW.cutM (3) s15 [(2,vB false),(6,vL 6 0 (1)),(9,vI (1 + (cntState r4.x : Int))),(10,vI (1 + (cntState r4.x : Int))),(84,vB false)] [(6,1,[vS r4.p r4.x.items.length,vS r4.q r4.x.floors.length])] ⟨rfl,rfl,rfl,rfl,rfl,trivial⟩ ⟨rfl,trivial⟩ rfl fun ρ0 ff => ?_
  refine cxs ?_
  refine AW.cutM (3) s15 [(2,vB false),(6,vL 6 0 (1)),(9,vI (1 + (cntState r4.x : Int))),(10,vI (1))] [(6,1,[vS r4.p r4.x.items.length,vS r4.q r4.x.floors.length])] ⟨rfl,rfl,rfl,rfl,trivial⟩ ⟨rfl,trivial⟩ rfl fun ρ0 ff => ?_
  refine ⟨_,rfl,?_⟩
  refine ⟨_,rfl,(uc_heldState r4 1 s15 (OwnP.rdS (OwnP.left (OwnP.right (OwnP.right hA22)))) (parse_big hr4) (by decide) (by omega)).mono ?_⟩
  rintro _ s17 ⟨rfl,hP17⟩
  refine AW.cutM (3) s17 [(2,vB false),(9,vI (1 + (cntState r4.x : Int))),(10,vI (1 + (cntState r4.x : Int)))] [] ⟨rfl,rfl,rfl,trivial⟩ trivial rfl fun ρ0 ff => ?_
  have hA26 : OwnP s17 (pcS r15 ++ (pcBs u14 ++ (pcS (mkState r4 1) ++ (pcBs (mkBs u3 1) ++ (pcBs u6 ++ (pcS r2 ++ (pcBs u1 ++ []))))))) := (OwnP.pres hA22 hP17)
  have hQ26 : Pres st s17 := (hQ22.trans hP17)
  refine ⟨_,rfl,?_⟩
  rintro (_|_) hg18
  rotate_left
  ·exact absurd (of_decide_eq_true hg18) ((by omega))
  refine AW.cutM (3) s17 [(2,vB false),(9,vI (1 + (cntState r4.x : Int))),(10,vI (1 + (cntState r4.x : Int))),(89,vB false)] [] ⟨rfl,rfl,rfl,rfl,trivial⟩ trivial rfl fun ρ0 ff => ?_
  refine cxs ?_
  refine ⟨_,rfl,?_⟩
  rintro (_|_) hg19
  rotate_left
  ·exact absurd (rfl) (bne_iff_ne.1 hg19)
  refine AW.cutM (3) s17 [(2,vB false),(92,vB false)] [] ⟨rfl,rfl,trivial⟩ trivial rfl fun ρ0 ff => ?_
  refine cxs ?_
  refine cxs ?_
  exact ⟨.inl rfl,_,rfl,rfl⟩
 ·replace hn_b : (b.l.length : Int) > 1048576 := of_decide_eq_true hn_b
  refine AW.cutM (0) st [(0,vS b.p b.l.length),(2,vB false),(15,vB true)] [] ⟨rfl,rfl,rfl,trivial⟩ trivial rfl fun ρ0 ff => ?_
  refine cxs ?_
  exact ⟨.inl rfl,_,rfl,rfl⟩
end Go.Proofs.Yteabadoaeadcgaa.AM
