/- Part 3 of the texts on which the law's proof rests. -/
import Derived.Test.YteabadoaeadcgaaDoorXmb
namespace Go.Proofs.YteabadoaeadcgaaDoor.AM
open Go Go.Proofs
set_option linter.unusedVariables false
set_option linter.unusedSimpArgs false
set_option maxRecDepth 100000
set_option maxHeartbeats 4000000
theorem tableAdd_pos {t : List RV} {k : Int} {ms : List Flr} {r : RV} (h : t[k.toNat]? = some r) (hk : 0 ≤ k ∧ k ≤ (t.length : Int) - 1) (hm : marksOk ms) (h5 : 5 ≤ r.l.length) : tableAdd (t.map (·.l)) k ms = putT (t.map (·.l)) k.toNat (addMarks r.l ms) := by
 have hg : (t.map (·.l)).getD k.toNat [] = r.l := by rw [List.getD_eq_getElem?_getD,List.getElem?_map,h]; rfl
 rw [tableAdd,hg,if_pos ⟨by rw [List.length_map]; exact hk,hm,h5⟩]
theorem tableAdd_neg {t : List RV} {k : Int} {ms : List Flr} (h : ¬ (0 ≤ k ∧ k ≤ (t.length : Int) - 1) ∨ ¬ marksOk ms ∨ ∃ r,t[k.toNat]? = some r ∧ r.l.length < 5) : tableAdd (t.map (·.l)) k ms = t.map (·.l) := by
 rw [tableAdd,if_neg]
 rintro ⟨h1,h2,h3⟩
 rw [List.length_map] at h1
 rcases h with h | h | ⟨r,hr,h⟩
 ·exact h h1
 ·exact h h2
 ·rw [List.getD_eq_getElem?_getD,List.getElem?_map,hr] at h3
  exact absurd h3 (Nat.not_le.2 h)
theorem row_l {t u : List RV} {i : Nat} {r : RV} (h : u.map (·.l) = t.map (·.l)) (hr : t[i]? = some r) : ∃ a,u[i]? = some ⟨a,r.l⟩ := by
 have h1 : (u.map (·.l))[i]? = some r.l := by rw [h,List.getElem?_map,hr]; rfl
 rw [List.getElem?_map] at h1
 obtain ⟨y,hy,he⟩ := Option.map_eq_some_iff.1 h1
 exact ⟨y.p,by rw [hy,← he]⟩
theorem ac_spec_TableAdd (p pm : Option Addr) (t : List RV) (k : Int) (ms : List Flr) (st : St) (hR : RdT st p t) (hM : Rows st 2 cFlr pm ms) (hs : szOk t.length) (hr : ∀ r ∈ t,szOk r.l.length) (hms : szOk ms.length) : C 37 [vS p t.length,vI k,vS pm ms.length] st (fun v s => ∃ q u,v = vS q t.length ∧ u.length = t.length ∧ u.map (·.l) = tableAdd (t.map (·.l)) k ms ∧ OwnP s (pcT q u) ∧ NewP st.next (pcT q u) ∧ Pres st s) := by
 have hs : t.length ≤ 1048576 := hs
 have hms' : ms.length ≤ 1048576 := hms
 refine AC.enterX (i := ⟨[],[],[0,1,2,6,7,8,29,34],[]⟩) [(7,[25],[3,8])] Tryd.func37 rfl rfl (by kernel_rfl) (by kernel_rfl) Tryd.ntmps37 (Lb rfl) rfl ?_
 refine Cu lo0 st [(0,vS p t.length),(1,vI k),(2,vS pm ms.length),(6,Sn)] fun _ => ?_
 refine ⟨_,rfl,(ac_spec_l9Copy p t st hR hs hr).mono ?_⟩
 rintro _ s1 ⟨q,u0,rfl,hu,hO,hN,hP⟩
 refine Cu lo0 s1 [(0,vS p t.length),(1,vI k),(2,vS pm ms.length),(6,Sn),(7,vS q t.length)] fun _ => ?_
 have e14 : IntKind.wrap .i64 ((t.length : Int) - 1) = (t.length : Int) - 1 := wrap_i64 (by omega) (by omega)
 have hul : u0.length = t.length := (map_len hu hr).1
 iterate 2 refine ⟨_,rfl,?_⟩
 refine ⟨_,rfl,(ac_spec_l1In k 0 _ s1).mono ?_⟩
 rintro _ s1 ⟨y,rfl,hk,rfl⟩
 rcases y with _|_
 ·replace hk := of_decide_eq_false hk.symm
  iterate 3 refine ⟨_,rfl,?_⟩
  refine Cu lo0 s1 [(1,vI k),(2,vS pm ms.length),(6,Sn),(7,vS q t.length),(29,vB true)] fun _ => ?_
  exact cxs (Rt ⟨q,u0,rfl,hul,by rw [tableAdd_neg (.inl fun h => hk (by rw [e14]; exact h))]; exact hu,hO,hN,hP⟩)
 ·replace hk := of_decide_eq_true hk.symm
  refine ⟨_,rfl,?_⟩
  replace hk : 0 ≤ k ∧ k ≤ IntKind.wrap .i64 ((t.length : Int) - 1) := hk
  rw [e14] at hk
  refine ⟨_,rfl,(ac_spec_MarksOk pm ms s1 (hP.rows hM) hms).mono ?_⟩
  rintro _ s1 ⟨y2,rfl,hmk,rfl⟩
  rcases y2 with _|_
  ·replace hmk := fun k => Bool.false_ne_true (hmk.2 k)
   iterate 3 refine ⟨_,rfl,?_⟩
   refine Cu lo0 s1 [(1,vI k),(2,vS pm ms.length),(6,Sn),(7,vS q t.length),(29,vB true)] fun _ => ?_
   exact cxs (Rt ⟨q,u0,rfl,hul,by rw [tableAdd_neg (.inr (.inl hmk))]; exact hu,hO,hN,hP⟩)
  ·replace hmk := hmk.1 rfl
   iterate 2 refine ⟨_,rfl,?_⟩
   have ⟨b1,o1,k1,r,hpe,hr1,hm1,hc1,hb1⟩ := (hR.pres hP).1.atB (j := k.toNat) (by omega)
   refine ⟨_,op_idx (j := k) (n := t.length) (q := ⟨b1,o1,none⟩) rfl (congrArg (fun u => vS u t.length) hpe) rfl rfl rfl hk.1 (by omega),?_⟩
   refine ⟨_,op_ldc (i := 0) (v := vS r.p r.l.length) rfl rfl rfl rfl hm1 hc1 rfl rfl,?_⟩
   iterate 2 refine ⟨_,rfl,?_⟩
   rintro (_|_) h5
   ·replace h5 : ¬ ((r.l.length : Int) < 5) := of_decide_eq_false h5
    refine ⟨_,rfl,?_⟩
    refine Cu lo0 s1 [(1,vI k),(2,vS pm ms.length),(6,Sn),(7,vS q t.length),(29,vB false)] fun _ => ?_
    have ⟨qK,hqK⟩ := row_l hu hr1
    have hKu : k.toNat < u0.length := (List.getElem?_eq_some_iff.1 hqK).1
    have hself := putT_self hqK
    have hrs : r.l.length ≤ 1048576 := hr r (List.mem_of_getElem? hr1)
    refine cxs ?_
    refine Cu lo0 s1 [(1,vI k),(2,vS pm ms.length),(6,Sn),(7,vS q t.length),(8,vI 0)] fun _ => ?_
    refine AW.loop0 (fun i : Nat => [(1,vI k),(2,vS pm ms.length),(7,vS q t.length),(8,vI (i : Int))]) (fun m (i : Nat) st' => m = ms.length - i ∧ i ≤ ms.length ∧ OwnP st' (pcT q (putT u0 k.toNat ⟨qK,addMarks r.l (ms.take i)⟩)) ∧ NewP st.next (pcT q (putT u0 k.toNat ⟨qK,addMarks r.l (ms.take i)⟩)) ∧ Pres st st') 0 _ ⟨rfl,rfl,rfl,rfl,trivial⟩ rfl ⟨rfl,Nat.zero_le _,(show OwnP s1 (pcT q (putT u0 k.toNat ⟨qK,r.l⟩)) by rw [hself]; exact hO),(show NewP st.next (pcT q (putT u0 k.toNat ⟨qK,r.l⟩)) by rw [hself]; exact hN),hP⟩ ?_
    rintro m i ρ0 st' ⟨rfl,hi,hO',hN',hP'⟩
    iterate 2 refine ⟨_,rfl,?_⟩
    rintro (_|_) h6
    ·replace h6 : ¬ ((i : Int) < (ms.length : Int)) := of_decide_eq_false h6
     refine Cu lo0 st' [(1,vI k),(2,vS pm ms.length),(7,vS q t.length),(8,vI (i : Int)),(34,vB false)] fun _ => ?_
     refine cxs ?_
     refine cxs ?_
     have hil : i = ms.length := by omega
     rw [hil,List.take_length] at hO' hN'
     exact Rt ⟨q,_,rfl,by rw [putT_len hKu]; exact hul,by rw [putT_map,hu,tableAdd_pos hr1 hk hmk (by omega)],hO',hN',hP'⟩
    ·replace h6 : (i : Int) < (ms.length : Int) := of_decide_eq_true h6
     refine Cu lo0 st' [(1,vI k),(2,vS pm ms.length),(7,vS q t.length),(8,vI (i : Int)),(34,vB true)] fun _ => ?_
     have h6' := Int.ofNat_lt.1 h6
     have hcl := addMarks_len (ms.take i) r.l
     have hKt : k.toNat < (putT u0 k.toNat (⟨qK,addMarks r.l (ms.take i)⟩ : RV)).length := by rw [putT_len hKu]; exact hKu
     have hgt := putT_get (x := (⟨qK,addMarks r.l (ms.take i)⟩ : RV)) hKu
     have ⟨b2,o2,k2,x,hpe2,hx,hm2,hc2,hb2⟩ := (hO'.outer.rows cRV_len).atB hKt
     have hxe : x = ⟨qK,addMarks r.l (ms.take i)⟩ := by rw [hgt] at hx; injection hx with hx; exact hx.symm
     have hc2 : (k2.cells.drop (o2 + k.toNat * 1)).take 1 = cRV ⟨qK,addMarks r.l (ms.take i)⟩ := by rw [hc2,hxe]
     have hrow := hO'.row (List.mem_of_getElem? hgt)
     have ⟨b3,o3,k3,mk,hpe3,hmk3,hm3,hc3,hb3⟩ := (hP'.rows hM).atB h6'
     have hid := (hmk i mk hmk3).1
     have ⟨b4,o4,k4,z,hpe4,hz,hm4,hc4,hb4⟩ := (hrow.rows fI_len).atB (j := mk.id.toNat) (by simp only; omega)
     have ⟨a,ha⟩ := hrow.some (by simp only; omega)
     simp only at hpe4 ha
     refine cxs ?_
     refine ⟨_,op_idx (j := k) (n := t.length) (q := ⟨b2,o2,none⟩) rfl (congrArg (fun u => vS u t.length) hpe2) rfl rfl rfl hk.1 (by omega),?_⟩
     refine ⟨_,op_ldc (i := 0) rfl rfl rfl rfl hm2 hc2 rfl rfl,?_⟩
     refine ⟨ld_lt rfl rfl hb2,?_⟩
     refine ⟨_,op_idx (j := (i : Int)) (n := ms.length) (q := ⟨b3,o3,none⟩) rfl (congrArg (fun u => vS u ms.length) hpe3) rfl rfl rfl (Int.natCast_nonneg _) h6,?_⟩
     refine ⟨_,rfl,?_⟩
     refine ⟨_,op_ldc (i := 0) rfl rfl rfl rfl hm3 hc3 rfl rfl,?_⟩
     refine ⟨ld_lt rfl rfl hb3,?_⟩
     refine ⟨_,op_idx (j := k) (n := t.length) (q := ⟨b2,o2,none⟩) rfl (congrArg (fun u => vS u t.length) hpe2) rfl rfl rfl hk.1 (by omega),?_⟩
     refine ⟨_,op_ldc (i := 0) rfl rfl rfl rfl hm2 hc2 rfl rfl,?_⟩
     refine ⟨_,op_idx (j := (i : Int)) (n := ms.length) (q := ⟨b3,o3,none⟩) rfl (congrArg (fun u => vS u ms.length) hpe3) rfl rfl rfl (Int.natCast_nonneg _) h6,?_⟩
     refine ⟨_,rfl,?_⟩
     refine ⟨_,op_ldc (i := 0) rfl rfl rfl rfl hm3 hc3 rfl rfl,?_⟩
     refine ⟨_,op_idx (j := mk.id) (n := (addMarks r.l (ms.take i)).length) (q := ⟨b4,o4,none⟩) rfl (congrArg (fun u => vS u (addMarks r.l (ms.take i)).length) hpe4) rfl rfl rfl hid.1 (by omega),?_⟩
     refine ⟨_,op_ldc (i := 0) rfl rfl rfl rfl hm4 hc4 rfl rfl,?_⟩
     refine ⟨_,op_idx (j := (i : Int)) (n := ms.length) (q := ⟨b3,o3,none⟩) rfl (congrArg (fun u => vS u ms.length) hpe3) rfl rfl rfl (Int.natCast_nonneg _) h6,?_⟩
     refine ⟨_,rfl,?_⟩
     refine ⟨_,op_ldc (i := 1) rfl rfl rfl rfl hm3 hc3 rfl rfl,?_⟩
     refine ⟨_,rfl,(ac_spec_l1Max z mk.inc st').mono ?_⟩
     rintro _ st' ⟨rfl,rfl⟩
     refine ⟨fun _ _ => rfl,?_⟩
     refine ⟨_,op_idx (j := mk.id) (n := (addMarks r.l (ms.take i)).length) (q := ⟨a,0,none⟩) rfl (congrArg (fun u => vS u (addMarks r.l (ms.take i)).length) ha) rfl rfl rfl hid.1 (by omega),?_⟩
     refine op_put (z := 1) (st := st') (f := fI) (j := mk.id.toNat) (l := addMarks r.l (ms.take i)) (y := max z mk.inc) (p := qK) (d := 0 + mk.id.toNat * 1) rfl rfl (Nat.zero_add _) rfl rfl fI_len rfl rfl (by omega) hrow ha ?_
     intro s5 hO5 hP5 hn5
     refine Cu lo0 s5 [(1,vI k),(2,vS pm ms.length),(7,vS q t.length),(8,vI (i : Int)),(34,vB true)] fun _ => ?_
     have hstep : (addMarks r.l (ms.take i)).set mk.id.toNat (max z mk.inc) = addMarks r.l (ms.take (i + 1)) := by rw [(split_at hmk3).2.1,addMarks_snoc,getD_of hz]
     rw [hstep] at hO5
     have hN5 : New st.next qK := hN' (pcRV ⟨qK,addMarks r.l (ms.take i)⟩) (List.mem_cons_of_mem _ (List.mem_map_of_mem (List.mem_of_getElem? hgt)))
     have hOP := hO'.put hP5 hO5 (by rw [addMarks_len,addMarks_len])
     have e36 : IntKind.wrap .i64 ((i : Int) + 1) = ((i + 1 : Nat) : Int) := (wrap_i64 (by omega) (by omega)).trans (by omega)
     refine ⟨_,rfl,?_⟩
     refine ⟨i + 1,ms.length - (i + 1),by omega,⟨rfl,rfl,rfl,congrArg (Value.int .i64) e36,trivial⟩,rfl,rfl,h6',hOP,fun c hc => ?_,hP5.pres hP' hN5⟩
     rcases List.mem_cons.1 hc with rfl | hc
     ·exact (hN' (pcR 1 cRV q (putT u0 k.toNat ⟨qK,addMarks r.l (ms.take i)⟩)) (List.mem_cons_self ..) : New st.next q)
     ·obtain ⟨y,hy,rfl⟩ := List.mem_map.1 hc
      rcases List.mem_append.1 hy with hy | hy
      ·exact hN' (pcRV y) (List.mem_cons_of_mem _ (List.mem_map_of_mem (List.mem_append_left _ hy)))
      ·rcases List.mem_cons.1 hy with rfl | hy
       ·exact hN5
       ·exact hN' (pcRV y) (List.mem_cons_of_mem _ (List.mem_map_of_mem (List.mem_append_right _ (List.mem_cons_of_mem _ hy))))
   ·replace h5 : (r.l.length : Int) < 5 := of_decide_eq_true h5
    refine ⟨_,rfl,?_⟩
    refine Cu lo0 s1 [(1,vI k),(2,vS pm ms.length),(6,Sn),(7,vS q t.length),(29,vB true)] fun _ => ?_
    exact cxs (Rt ⟨q,u0,rfl,hul,by rw [tableAdd_neg (.inr (.inr ⟨r,hr1,by omega⟩))]; exact hu,hO,hN,hP⟩)
theorem ok_prune {s x : Sta} {t : List (List Int)} (h : x = pruneF s t) (hk : stateOk s) : stateOk x := by
 rw [h,pruneF,if_pos hk]
 exact stateOk_join hk (stateOk_floors (marksOk_F fun i => Int.le_trans (Int.min_le_right _ _) (goneAt_le hk i).2))
theorem Frs.st0 {a : St} : Frs a a (pcS ⟨none,none,nilS⟩) := ⟨pcS_nil,newS_nil,Pres.refl _⟩
theorem Frs.renew {s0 st st' : St} {a b : List Pc} {c d : Pc} (h : Frs s0 st (a ++ c :: b)) (hp : Pr c.p st st') (hd : d.own st') (hn : New st.next d.p) : Frs s0 st' (a ++ d :: b) :=
 ⟨h.1.renew hp hd hn,h.2.1.left.app (NewP.cons (hn.le h.2.2.1) (NewP.right (a := [c]) h.2.1.right)),hp.pres h.2.2 (h.2.1.right c (List.mem_cons_self ..))⟩
theorem Frs.update {s0 st st' : St} {a b : List Pc} {c d : Pc} (h : Frs s0 st (a ++ c :: b)) (hp : Pr c.p st st') (hd : d.own st') (he : d.p = c.p) : Frs s0 st' (a ++ d :: b) :=
 ⟨h.1.update hp hd he,h.2.1.left.app (NewP.cons (he ▸ h.2.1.right c (List.mem_cons_self ..)) (NewP.right (a := [c]) h.2.1.right)),hp.pres h.2.2 (h.2.1.right c (List.mem_cons_self ..))⟩
theorem Frs.part {s0 st st' : St} {v : MV} {u : SV} (h : Frs s0 st (pcMV v)) (hF : Frs st st' (pcS u)) : Frs s0 st' (pcMV { v with part := u }) := by
 have e : ∀ x : SV,pcMV { v with part := x } = (pcIs v.tree.toRV ++ (pcIs v.vec ++ pcIs v.leaves)) ++ (pcS x ++ pcFV v.marks) := fun x => by simp only [List.append_assoc]
 rw [e]
 exact Frs.swap (c := pcS v.part) (by rw [← e]; exact h) hF
theorem Frs.tree {s0 st st' : St} {v : MV} {u : TV} (h : Frs s0 st (pcMV v)) (hF : Frs st st' (pcIs u.toRV)) : Frs s0 st' (pcMV { v with tree := u }) :=
 Frs.swap (a := []) (c := pcIs v.tree.toRV) h hF
end Go.Proofs.YteabadoaeadcgaaDoor.AM
namespace Go.Proofs.YteabadoaeadcgaaDoor.AM
open Go Go.Proofs
set_option linter.unusedVariables false
set_option linter.unusedSimpArgs false
theorem cb_eq : ∀ {a b : List UInt8},Lib.compareBytes a b = 0 → a = b
 | [],[],_ => rfl
 | [],b :: bs,h => by simp [Lib.compareBytes] at h
 | a :: l,[],h => by simp [Lib.compareBytes] at h
 | a :: l,b :: bs,h => by
  unfold Lib.compareBytes at h
  by_cases h1 : a < b
  ·simp [h1] at h
  ·by_cases h2 : b < a
   ·simp [h1,h2] at h
   ·simp [h1,h2] at h
    rw [UInt8.le_antisymm (UInt8.not_lt.1 h2) (UInt8.not_lt.1 h1),cb_eq h]
theorem cb_trans : ∀ {a b c : List UInt8},Lib.compareBytes a b ≤ 0 → Lib.compareBytes b c ≤ 0 → Lib.compareBytes a c ≤ 0
 | [],b,[],_,_ => by simp [Lib.compareBytes]
 | [],b,c :: cs,_,_ => by simp [Lib.compareBytes]
 | a :: l,[],c,h,_ => by simp [Lib.compareBytes] at h
 | a :: l,b :: bs,[],_,h => by simp [Lib.compareBytes] at h
 | a :: l,b :: bs,c :: cs,h,k => by
  have ih := @cb_trans l bs cs
  unfold Lib.compareBytes at h k ⊢
  by_cases h1 : a < b
  ·by_cases k1 : b < c
   ·simp [UInt8.lt_trans h1 k1]
   ·by_cases k2 : c < b
    ·simp [k1,k2] at k
    ·have he : b = c := UInt8.le_antisymm (UInt8.not_lt.1 k2) (UInt8.not_lt.1 k1)
     subst he
     simp [h1]
  ·by_cases h2 : b < a
   ·simp [h1,h2] at h
   ·have he : a = b := UInt8.le_antisymm (UInt8.not_lt.1 h2) (UInt8.not_lt.1 h1)
    subst he
    by_cases k1 : a < c
    ·simp [k1]
    ·by_cases k2 : c < a
     ·simp [k1,k2] at k
     ·simp [h1] at h
      simp [k1,k2] at k ⊢
      exact ih h k
theorem entCmp_le (a b : Ent) : entCmp a b ≤ 0 ↔ (a.inc < b.inc ∨ (a.inc = b.inc ∧ (a.rank < b.rank ∨ (a.rank = b.rank ∧ (a.beat < b.beat ∨ (a.beat = b.beat ∧ (a.ver < b.ver ∨ (a.ver = b.ver ∧ cmpB a.data b.data ≤ 0)))))))) := by
 unfold entCmp firstNZ firstNZ firstNZ firstNZ firstNZ firstNZ cmpI
 repeat' split
 all_goals omega
theorem entCmp_eq {a b : Ent} (h : entCmp a b = 0) : a = b := by
 have h1 := (entCmp_le a b).1 (by omega)
 have h2 := (entCmp_le b a).1 (by rw [entCmp_neg]; omega)
 have hn : cmpB b.data a.data = - cmpB a.data b.data := compareBytes_neg _ _
 have hd : a.data = b.data := by
  have : cmpB a.data b.data = 0 := by omega
  have := cb_eq this
  obtain ⟨_,_,_,_,⟨⟨x⟩⟩⟩ := a
  obtain ⟨_,_,_,_,⟨⟨y⟩⟩⟩ := b
  simp only at this
  rw [this]
 obtain ⟨i,r,be,v,d⟩ := a
 obtain ⟨i2,r2,be2,v2,d2⟩ := b
 simp only at h1 h2 hn hd
 subst hd
 obtain ⟨rfl,rfl,rfl,rfl⟩ : i = i2 ∧ r = r2 ∧ be = be2 ∧ v = v2 := by omega
 rfl
theorem entLe_trans {a b c : Ent} (h : entCmp a b ≤ 0) (k : entCmp b c ≤ 0) : entCmp a c ≤ 0 := by
 rw [entCmp_le] at h k ⊢
 have ht : cmpB a.data b.data ≤ 0 → cmpB b.data c.data ≤ 0 → cmpB a.data c.data ≤ 0 := cb_trans
 omega
theorem entMax_le {a b : Ent} (h : entCmp a b ≤ 0) : entMax a b = b := by
 unfold entMax
 split
 ·rfl
 ·exact entCmp_eq (by omega)
theorem entMax_ge {a b : Ent} (h : 0 ≤ entCmp a b) : entMax a b = a := by
 unfold entMax
 rw [if_neg (by omega)]
theorem entMax_comm (a b : Ent) : entMax a b = entMax b a := by
 rcases Int.le_total (entCmp a b) 0 with h | h
 ·rw [entMax_le h,entMax_ge (by rw [entCmp_neg]; omega)]
 ·rw [entMax_ge h,entMax_le (by rw [entCmp_neg]; omega)]
theorem entMax_self (a : Ent) : entMax a a = a := by unfold entMax; split <;> rfl
theorem entLe_max (a b : Ent) : entCmp a (entMax a b) ≤ 0 ∧ entCmp b (entMax a b) ≤ 0 := by
 have hs : ∀ x : Ent,entCmp x x ≤ 0 := fun x => by have := entCmp_neg x x; omega
 rcases Int.le_total (entCmp a b) 0 with h | h
 ·rw [entMax_le h]; exact ⟨h,hs b⟩
 ·rw [entMax_ge h]; exact ⟨hs a,by rw [entCmp_neg]; omega⟩
theorem entMax_lub {a b c : Ent} (h : entCmp a c ≤ 0) (k : entCmp b c ≤ 0) : entCmp (entMax a b) c ≤ 0 := by
 rcases Int.le_total (entCmp a b) 0 with h1 | h1
 ·rw [entMax_le h1]; exact k
 ·rw [entMax_ge h1]; exact h
theorem ent_antisymm {a b : Ent} (h : entCmp a b ≤ 0) (k : entCmp b a ≤ 0) : a = b := entCmp_eq (by have := entCmp_neg a b; omega)
theorem entMax_assoc (a b c : Ent) : entMax (entMax a b) c = entMax a (entMax b c) :=
 ent_antisymm (entMax_lub (entMax_lub (entLe_max _ _).1 (entLe_trans (entLe_max b c).1 (entLe_max _ _).2)) (entLe_trans (entLe_max b c).2 (entLe_max _ _).2))
  (entMax_lub (entLe_trans (entLe_max a b).1 (entLe_max _ _).1) (entMax_lub (entLe_trans (entLe_max a b).2 (entLe_max _ _).1) (entLe_max _ _).2))
theorem entMax_or (a b : Ent) : entMax a b = a ∨ entMax a b = b := by unfold entMax; split; exact .inr rfl; exact .inl rfl
theorem entMax_inc (a b : Ent) : (entMax a b).inc = max a.inc b.inc := by
 rcases Int.le_total (entCmp a b) 0 with h | h
 ·have := (entCmp_le a b).1 h
  rw [entMax_le h]; omega
 ·have := (entCmp_le b a).1 (by rw [entCmp_neg]; omega)
  rw [entMax_ge h]; omega
def vE (e : Ent) : Prop := e = zEnt ∨ entOk e
theorem vE.max {a b : Ent} (h : vE a) (k : vE b) : vE (entMax a b) := by
 rcases entMax_or a b with e | e <;> rw [e] <;> assumption
theorem vE.inc {a : Ent} (h : vE a) : 0 ≤ a.inc := by
 rcases h with rfl | h
 ·exact Int.le_refl _
 ·have := h.1.1; omega
theorem vE.zero {a : Ent} (h : vE a) (h0 : a.inc ≤ 0) : a = zEnt := by
 rcases h with h | h
 ·exact h
 ·have := h.1.1; omega
theorem entMax_zl {a : Ent} (h : vE a) : entMax zEnt a = a := by
 rcases h with rfl | h
 ·exact entMax_zz
 ·exact (entMax_zero h.1.1).2
def cut (f : Int) (e : Ent) : Ent := if e.inc > f then e else zEnt
theorem cut_z {f : Int} : cut f zEnt = zEnt := by unfold cut; split <;> rfl
theorem cut_inc {f : Int} {e : Ent} (h : cut f e ≠ zEnt) : cut f e = e ∧ e.inc > f := by
 unfold cut at h ⊢
 split
 ·rename_i h1; exact ⟨rfl,h1⟩
 ·rename_i h1; rw [if_neg h1] at h; exact absurd rfl h
theorem cut_max {f g : Int} {m e : Ent} (hm : vE m) (he : vE e) (hf : f ≤ g) : cut g (entMax (cut f m) e) = cut g (entMax m e) := by
 by_cases h : m.inc > f
 ·rw [show cut f m = m by unfold cut; rw [if_pos h]]
 ·rw [show cut f m = zEnt by unfold cut; rw [if_neg h],entMax_zl he]
  have hi := entMax_inc m e
  unfold cut
  rcases entMax_or m e with k | k
  ·rw [k] at hi ⊢
   rw [if_neg (by omega),if_neg (by omega)]
  ·rw [k]
theorem fmap_congr {α β : Type} {f g : α → Option β} {l : List α} (h : ∀ x ∈ l,f x = g x) : l.filterMap f = l.filterMap g := by
 induction l with
 | nil => rfl
 | cons a l ih => rw [List.filterMap_cons,List.filterMap_cons,h a (List.mem_cons_self ..),ih fun x hx => h x (List.mem_cons_of_mem _ hx)]
theorem sorted_of {α : Type} {id : α → Int} {l : List α} (h : ∀ (j : Nat) x,l[j]? = some x → ∀ y,0 < j → l[j - 1]? = some y → id y < id x) : l.Pairwise fun a b => id a < id b := by
 rw [List.pairwise_iff_getElem]
 intro i j hi hj hij
 induction j with
 | zero => omega
 | succ j ih =>
  have h1 := h (j + 1) l[j + 1] (List.getElem?_eq_getElem hj) l[j] (Nat.succ_pos j) (List.getElem?_eq_getElem (by omega))
  rcases Nat.lt_or_ge i j with h2 | h2
  ·have := ih (by omega) h2; omega
  ·have : i = j := by omega
   subst this; exact h1
theorem canon {α : Type} (id : α → Int) : ∀ (m k : Nat) (l : List α),(l.Pairwise fun a b => id a < id b) → (∀ x ∈ l,(k : Int) ≤ id x ∧ id x < ((k + m : Nat) : Int)) → l = (List.range' k m).filterMap fun (j : Nat) => l.find? fun x => decide (id x = (j : Int))
 | 0,k,l,_,h => by
  cases l with
  | nil => rfl
  | cons x l => have := h x (List.mem_cons_self ..); omega
 | m + 1,k,[],_,_ => by simp
 | m + 1,k,x :: l,hp,h => by
  have hx := h x (List.mem_cons_self ..)
  obtain ⟨h1,h2⟩ := List.pairwise_cons.1 hp
  rw [List.range'_succ,List.filterMap_cons]
  by_cases hk : id x = (k : Int)
  ·have hf : (x :: l).find? (fun x => decide (id x = (k : Int))) = some x := by rw [List.find?_cons,decide_eq_true hk]
   rw [hf]
   simp only
   have ih := canon id m (k + 1) l h2 fun y hy => by have := h1 y hy; have := h y (List.mem_cons_of_mem _ hy); omega
   congr 1
   rw [ih]
   refine fmap_congr fun j hj => ?_
   have hj := List.mem_range'_1.1 hj
   rw [← ih,List.find?_cons,decide_eq_false (by omega)]
  ·have ih := canon id m (k + 1) (x :: l) hp fun y hy => by
    have h3 := h y hy
    rcases List.mem_cons.1 hy with rfl | hy
    ·omega
    ·have := h1 y hy; omega
   have hf : (x :: l).find? (fun x => decide (id x = (k : Int))) = none := by
    rw [List.find?_eq_none]
    intro y hy
    simp only [decide_eq_true_eq]
    rcases List.mem_cons.1 hy with rfl | hy
    ·exact hk
    ·have := h1 y hy; omega
   rw [hf]
   exact ih
theorem find_item (l : List Itm) (j : Int) : (l.find? fun x => decide (x.id = j)) = if (entP l j).2 = true then some ⟨j,(entP l j).1⟩ else none := by
 induction l with
 | nil => rfl
 | cons x l ih =>
  rw [List.find?_cons,entP]
  by_cases h : x.id = j
  ·rw [decide_eq_true h,if_pos h]
   obtain ⟨i,e⟩ := x
   simp only at h
   subst h; rfl
  ·rw [decide_eq_false h,if_neg h]; exact ih
theorem find_floor (l : List Flr) (j : Int) (hl : ∀ x ∈ l,1 ≤ x.inc) : (l.find? fun x => decide (x.id = j)) = if floorOf l j > 0 then some ⟨j,floorOf l j⟩ else none := by
 induction l with
 | nil => rfl
 | cons x l ih =>
  rw [List.find?_cons,floorOf]
  by_cases h : x.id = j
  ·rw [decide_eq_true h,if_pos h]
   have := hl x (List.mem_cons_self ..)
   rw [if_pos (by omega)]
   obtain ⟨i,e⟩ := x
   simp only at h
   subst h; rfl
  ·rw [decide_eq_false h,if_neg h]; exact ih fun y hy => hl y (List.mem_cons_of_mem _ hy)
theorem items_canon {s : Sta} (h : stateOk s) : s.items = (List.range 5).filterMap fun (j : Nat) => if (entP s.items (j : Int)).2 = true then some (⟨(j : Int),(entP s.items (j : Int)).1⟩ : Itm) else none := by
 have := canon (fun x : Itm => x.id) 5 0 s.items (sorted_of fun j x hx => (h.1 j x hx).2.2.2) fun x hx => by
  obtain ⟨j,hj⟩ := List.getElem?_of_mem hx
  have := (h.1 j x hj).1
  omega
 rw [List.range_eq_range',this]
 refine fmap_congr fun j _ => ?_
 rw [← this]
 exact find_item _ _
theorem floors_canon {l : List Flr} (h : marksOk l) : l = (List.range 5).filterMap fun (j : Nat) => if floorOf l (j : Int) > 0 then some (⟨(j : Int),floorOf l (j : Int)⟩ : Flr) else none := by
 have := canon (fun x : Flr => x.id) 5 0 l (sorted_of fun j x hx => (h j x hx).2.2) fun x hx => by
  obtain ⟨j,hj⟩ := List.getElem?_of_mem hx
  have := (h j x hj).1
  omega
 rw [List.range_eq_range']
 conv => lhs; rw [this]
 refine fmap_congr fun j _ => ?_
 exact find_floor _ _ fun x hx => by
  obtain ⟨j,hj⟩ := List.getElem?_of_mem hx
  exact (h j x hj).2.1.1
def gE (s : Sta) (i : Int) : Ent := (entP s.items i).1
def gF (s : Sta) (i : Int) : Int := floorOf s.floors i
theorem gE_v {s : Sta} (h : stateOk s) (i : Int) : vE (gE s i) := entP_cases h.1 i
theorem gF_pos {s : Sta} (h : stateOk s) (i : Int) : 0 ≤ gF s i ∧ gF s i ≤ 1000 := floorOf_pos h.2 i
theorem gE_in {s : Sta} (h : stateOk s) (i : Int) : (entP s.items i).2 = true ↔ 1 ≤ (gE s i).inc := by
 unfold gE
 rcases hb : entP s.items i with ⟨e,b⟩
 cases b with
 | false => rw [entP_none (e := e) (id := i) hb.symm]; simp [zEnt]
 | true =>
  have := (ent_ok h (e := e) (id := i) hb.symm).1.1
  simp only [true_iff]; exact this
theorem gE_cut {s : Sta} (h : stateOk s) (i : Int) : cut (gF s i) (gE s i) = gE s i := by
 unfold gE gF
 rcases hb : entP s.items i with ⟨e,b⟩
 cases b with
 | false => rw [entP_none (e := e) (id := i) hb.symm]; exact cut_z
 | true =>
  obtain ⟨j,x,h1,h2,h3⟩ := entP_mem (e := e) (id := i) hb.symm
  have := (h.1 j x h1).2.2.1
  rw [h3,h2] at this
  unfold cut
  rw [if_pos this]
theorem sta_eq {a b : Sta} (ha : stateOk a) (hb : stateOk b) (h : ∀ j : Nat,j < 5 → gE a (j : Int) = gE b (j : Int) ∧ gF a (j : Int) = gF b (j : Int)) : a = b := by
 have h1 : a.items = b.items := by
  rw [items_canon ha,items_canon hb]
  refine fmap_congr fun j hj => ?_
  have hj := (h j (List.mem_range.1 hj)).1
  have e1 : (entP a.items (j : Int)).2 = (entP b.items (j : Int)).2 := by
   rw [Bool.eq_iff_iff,gE_in ha,gE_in hb,hj]
  rw [e1]
  unfold gE at hj
  rw [hj]
 have h2 : a.floors = b.floors := by
  rw [floors_canon ha.2,floors_canon hb.2]
  refine fmap_congr fun j hj => ?_
  have hj := (h j (List.mem_range.1 hj)).2
  unfold gF at hj
  rw [hj]
 obtain ⟨ai,af⟩ := a
 obtain ⟨bi,bf⟩ := b
 simp only at h1 h2
 rw [h1,h2]
theorem entP_app (l m : List Itm) (i : Int) : entP (l ++ m) i = if (entP l i).2 = true then entP l i else entP m i := by
 induction l with
 | nil => rfl
 | cons x l ih =>
  rw [List.cons_append,entP,entP]
  by_cases h : x.id = i
  ·rw [if_pos h,if_pos h]; rfl
  ·rw [if_neg h,if_neg h]; exact ih
theorem entP_pick (c : Int → Prop) [DecidablePred c] (g : Int → Ent) (id : Nat) : ∀ n,entP ((List.range n).filterMap fun (j : Nat) => if c (j : Int) then some (⟨(j : Int),g (j : Int)⟩ : Itm) else none) (id : Int) = if id < n ∧ c (id : Int) then (g (id : Int),true) else (zEnt,false)
 | 0 => by simp [entP]
 | n + 1 => by
  rw [List.range_succ,List.filterMap_append,entP_app,entP_pick c g id n]
  by_cases h1 : id < n ∧ c (id : Int)
  ·rw [if_pos h1,if_pos rfl,if_pos ⟨by omega,h1.2⟩]
  ·rw [if_neg h1,if_neg (by simp)]
   by_cases hn : c (n : Int)
   ·simp only [List.filterMap_cons,List.filterMap_nil,hn,if_true,entP]
    by_cases h2 : n = id
    ·subst h2; rw [if_pos rfl,if_pos ⟨Nat.lt_succ_self _,hn⟩]
    ·rw [if_neg (by omega),if_neg (fun h => h1 ⟨by omega,h.2⟩)]
   ·simp only [List.filterMap_cons,List.filterMap_nil,hn,if_false,entP]
    rw [if_neg]
    rintro ⟨h3,h4⟩
    rcases Nat.lt_or_ge id n with h5 | h5
    ·exact h1 ⟨h5,h4⟩
    ·have : id = n := by omega
     subst this; exact hn h4
theorem gF_join {a b : Sta} (ha : stateOk a) (hb : stateOk b) {j : Nat} (h : j < 5) : gF (joinF a b 5) (j : Int) = max (gF a (j : Int)) (gF b (j : Int)) := floorOf_join ha.2 hb.2 h
theorem gE_join (a b : Sta) {j : Nat} (h : j < 5) : gE (joinF a b 5) (j : Int) = cut (max (gF a (j : Int)) (gF b (j : Int))) (entMax (gE a (j : Int)) (gE b (j : Int))) := by
 show (entP ((List.range 5).filterMap fun (j : Nat) => if (topE a b (j : Int)).inc > topF a b (j : Int) then some (⟨(j : Int),topE a b (j : Int)⟩ : Itm) else none) (j : Int)).1 = _
 rw [entP_pick (fun i => (topE a b i).inc > topF a b i) (fun i => topE a b i) j 5]
 unfold cut
 by_cases h1 : (topE a b (j : Int)).inc > topF a b (j : Int)
 ·rw [if_pos ⟨h,h1⟩]; exact (if_pos h1).symm
 ·rw [if_neg (fun k => h1 k.2)]; exact (if_neg h1).symm
theorem join_assoc {a b c : Sta} (ha : stateOk a) (hb : stateOk b) (hc : stateOk c) : joinF (joinF a b 5) c 5 = joinF a (joinF b c 5) 5 :=
 sta_eq (stateOk_join (stateOk_join ha hb) hc) (stateOk_join ha (stateOk_join hb hc)) fun j hj => by
  have va := gE_v ha (j : Int)
  have vb := gE_v hb (j : Int)
  have vc := gE_v hc (j : Int)
  rw [gE_join _ _ hj,gE_join _ _ hj,gE_join _ _ hj,gE_join _ _ hj,gF_join (stateOk_join ha hb) hc hj,gF_join ha (stateOk_join hb hc) hj,gF_join ha hb hj,gF_join hb hc hj]
  refine ⟨?_,Int.max_assoc ..⟩
  rw [cut_max (va.max vb) vc (Int.le_max_left ..),entMax_comm (gE a (j : Int)) (cut _ _),cut_max (vb.max vc) va (Int.le_max_right ..),entMax_comm (entMax (gE b (j : Int)) (gE c (j : Int))) (gE a (j : Int)),entMax_assoc,Int.max_assoc]
theorem join_self {a : Sta} (ha : stateOk a) : joinF a a 5 = a :=
 sta_eq (stateOk_join ha ha) ha fun j hj => by
  rw [gE_join _ _ hj,gF_join ha ha hj,entMax_self,Int.max_self,gE_cut ha]
  exact ⟨rfl,rfl⟩
theorem goneAt_eq {s : Sta} (h : stateOk s) (i : Int) : goneAt s i = if 1 ≤ (gE s i).inc then (if (gE s i).rank = 1 then (gE s i).inc else (gE s i).inc - 1) else gF s i := by
 unfold goneAt
 rw [if_pos h]
 by_cases h1 : (entP s.items i).2 = true
 ·rw [if_pos h1,if_pos ((gE_in h i).1 h1)]; rfl
 ·rw [if_neg h1,if_neg (fun k => h1 ((gE_in h i).2 k))]; rfl
end Go.Proofs.YteabadoaeadcgaaDoor.AM
namespace Go.Proofs.YteabadoaeadcgaaDoor.AM
open Go Go.Proofs
set_option linter.unusedVariables false
set_option linter.unusedSimpArgs false
set_option maxRecDepth 100000
set_option maxHeartbeats 4000000
theorem mem_ps {q : Option Addr} {t : List RV} {p : Option Addr} (h : p ∈ t.map (·.p)) : ∃ c ∈ pcT q t,c.p = p := by
 obtain ⟨r,hr,rfl⟩ := List.mem_map.1 h
 exact ⟨pcRV r,List.mem_cons_of_mem _ (List.mem_map_of_mem hr),rfl⟩
theorem OwnP.after {st0 s s' : St} {l : List Pc} {q : Option Addr} {t : List RV} {n : Nat} (h : OwnP s l) (h0 : OwnP st0 l) (hn : st0.next ≤ n) (hN : NewP n (pcT q t)) (hL : PrL (t.map (·.p)) s s') : OwnP s' l :=
 h.prl hL fun c hc p hp => by
  obtain ⟨d,hd,rfl⟩ := mem_ps (q := q) hp
  exact (Dis.of (((h0.1 c hc).old).le hn) (hN d hd)).symm
theorem OwnP.before {st0 s s' : St} {l : List Pc} {q : Option Addr} {t : List RV} {n : Nat} (h : OwnP s l) (hN : NewP n l) (h0 : OwnP st0 (pcT q t)) (hn : st0.next ≤ n) (hL : PrL (t.map (·.p)) s s') : OwnP s' l :=
 h.prl hL fun c hc p hp => by
  obtain ⟨d,hd,rfl⟩ := mem_ps (q := q) hp
  exact Dis.of (((h0.1 d hd).old).le hn) (hN c hc)
theorem tableAdd_lens (T : List (List Int)) (k : Int) (ms : List Flr) : (tableAdd T k ms).map List.length = T.map List.length := by
 unfold tableAdd
 split
 ·rename_i h
  have hK : k.toNat < T.length := by omega
  have hg : T.getD k.toNat [] = T[k.toNat] := by rw [List.getD_eq_getElem?_getD,List.getElem?_eq_getElem hK]; rfl
  conv => rhs; rw [(split_at (List.getElem?_eq_getElem hK)).1]
  rw [putT,hg,List.map_append,List.map_append,List.map_cons,List.map_cons,addMarks_len]
 ·rfl
theorem rows_lens {t u : List RV} (h : (u.map (·.l)).map List.length = (t.map (·.l)).map List.length) (hr : ∀ r ∈ t,szOk r.l.length) : ∀ r ∈ u,szOk r.l.length := fun r hm => by
 have h2 : r.l.length ∈ (u.map (·.l)).map List.length := List.mem_map_of_mem (List.mem_map_of_mem hm)
 rw [h] at h2
 obtain ⟨l,hl,he⟩ := List.mem_map.1 h2
 obtain ⟨x,hx,rfl⟩ := List.mem_map.1 hl
 rw [← he]; exact hr x hx
end Go.Proofs.YteabadoaeadcgaaDoor.AM
namespace Go.Proofs.YteabadoaeadcgaaDoor.AM
open Go Go.Proofs
set_option linter.unusedVariables false
set_option linter.unusedSimpArgs false
def gon (f : Int) (e : Ent) : Int := if 1 ≤ e.inc then (if e.rank = 1 then e.inc else e.inc - 1) else f
theorem goneAt_gon {s : Sta} (h : stateOk s) (i : Int) : goneAt s i = gon (gF s i) (gE s i) := goneAt_eq h i
theorem vE.rank {e : Ent} (h : vE e) (h1 : 1 ≤ e.inc) : 0 ≤ e.rank ∧ e.rank ≤ 1 := by
 rcases h with rfl | h
 ·simp [zEnt] at h1
 ·exact h.2.1
theorem gon_rng {f : Int} {e : Ent} (hf : 0 ≤ f) (he : vE e) (hc : cut f e = e) : f ≤ gon f e ∧ gon f e ≤ max f e.inc ∧ (1 ≤ e.inc → e.inc - 1 ≤ gon f e ∧ f < e.inc) := by
 have h0 := he.inc
 by_cases h1 : 1 ≤ e.inc
 ·have hi : e.inc > f := (cut_inc (f := f) (e := e) (by rw [hc]; rintro rfl; simp [zEnt] at h1)).2
  unfold gon
  rw [if_pos h1]
  split <;> omega
 ·unfold gon
  rw [if_neg h1]
  omega
theorem gon_join {f g : Int} {a b : Ent} (hf : 0 ≤ f) (hg : 0 ≤ g) (va : vE a) (vb : vE b) (ca : cut f a = a) (cb : cut g b = b) : gon (max f g) (cut (max f g) (entMax a b)) = max (gon f a) (gon g b) := by
 obtain ⟨a1,a2,a3⟩ := gon_rng hf va ca
 obtain ⟨b1,b2,b3⟩ := gon_rng hg vb cb
 have hm := entMax_inc a b
 have ha0 := va.inc
 have hb0 := vb.inc
 by_cases h : (entMax a b).inc > max f g
 ·have hcut : cut (max f g) (entMax a b) = entMax a b := if_pos h
  rw [hcut]
  have key : ∀ (f g : Int) (a b : Ent),vE a → vE b → entCmp b a ≤ 0 → f < a.inc → g < a.inc → 0 ≤ f → 0 ≤ g → cut g b = b → gon g b ≤ gon f a := by
   intro f g a b va vb hle h1 h2 h3 h4 cb
   have hk := (entCmp_le b a).1 hle
   obtain ⟨b1,b2,b3⟩ := gon_rng h4 vb cb
   have ra := va.rank (by omega)
   unfold gon
   rw [if_pos (show 1 ≤ a.inc by omega)]
   by_cases hb : 1 ≤ b.inc
   ·have rb := vb.rank hb
    rw [if_pos hb]
    split <;> split <;> omega
   ·rw [if_neg hb]
    split <;> omega
  have e1 : ∀ (f' : Int) (e : Ent),1 ≤ e.inc → gon f' e = gon (max f g) e := fun f' e he => by unfold gon; rw [if_pos he,if_pos he]
  rcases Int.le_total (entCmp a b) 0 with hle | hle
  ·rw [entMax_le hle] at h ⊢
   have := key g f b a vb va hle (by omega) (by omega) hg hf ca
   rw [← e1 g b (by omega)]
   omega
  ·rw [entMax_ge hle] at h ⊢
   have := key f g a b va vb (by rw [entCmp_neg]; omega) (by omega) (by omega) hf hg cb
   rw [← e1 f a (by omega)]
   omega
 ·have hcut : cut (max f g) (entMax a b) = zEnt := if_neg h
  rw [hcut]
  have e0 : gon (max f g) zEnt = max f g := by unfold gon; rw [if_neg (by simp [zEnt])]
  rw [e0]
  omega
theorem gone_join {a b : Sta} (ha : stateOk a) (hb : stateOk b) {j : Nat} (h : j < 5) : goneAt (joinF a b 5) (j : Int) = max (goneAt a (j : Int)) (goneAt b (j : Int)) := by
 rw [goneAt_gon (stateOk_join ha hb),goneAt_gon ha,goneAt_gon hb,gE_join a b h,gF_join ha hb h]
 exact gon_join (gF_pos ha _).1 (gF_pos hb _).1 (gE_v ha _) (gE_v hb _) (gE_cut ha _) (gE_cut hb _)
theorem marks_ok {s : Sta} (h : stateOk s) : marksOk (marksF (goneAt s) 5) := marksOk_F fun i => (goneAt_le h i).2
end Go.Proofs.YteabadoaeadcgaaDoor.AM
namespace Go.Proofs.YteabadoaeadcgaaDoor.AM
open Go Go.Proofs
set_option linter.unusedVariables false
set_option linter.unusedSimpArgs false
set_option maxRecDepth 100000
set_option maxHeartbeats 4000000
theorem and255 (x : Int) : 0 ≤ bits .and .i64 x 255 ∧ bits .and .i64 x 255 < 256 := by
 simp only [bits,BitVec.toNat_and]
 have h : (BitVec.ofInt IntKind.i64.bits 255).toNat = 255 := by decide
 rw [h]
 have h2 : (BitVec.ofInt IntKind.i64.bits x).toNat &&& 255 ≤ 255 := Nat.and_le_right
 rw [wrap_i64 (by omega) (by omega)]
 omega
theorem op_and255 {P : Program} {ls : List Tmp} {call : ACallT} {o : Oper} {e : Operand → Value} {lo : Lo} {st : St} {K : Value × Lo × St → Prop} {t ty : TypeId} {x y : Operand} {a : Int} (ho : o.op = .binOp .and t x y ty) (hx : e x = .int .i64 a) (hy : e y = .int .i64 255)
  (hK : ∀ r,0 ≤ r → r < 256 → K (.int .i64 r,lo,st)) : ∃ r,aoper P ls call o e lo st = some r ∧ K r := by
 refine ⟨_,?_,hK (bits .and .i64 a 255) (and255 a).1 (and255 a).2⟩
 obtain ⟨d,op,ty,pos,after,gd⟩ := o
 simp only at ho
 subst ho
 simp [aoper,rop,hx,hy,abin,aint]
def Cur (st : St) (c : Nat) (p : Option Addr) (bs : List Int) : Prop := c < st.next ∧ ∃ (z : Nat) (i : Nat) (h : Int),st.mem c = some ⟨true,z,[.slice p bs.length bs.length,.int .i64 i,.int .i64 h]⟩ ∧ Ints st .u8 p bs ∧ (bs.length = 0 ∨ ∀ q,p = some q → q.block ≠ c) ∧ i ≤ bs.length
def PresC (c : Nat) (st st' : St) : Prop := st.next ≤ st'.next ∧ ∀ a,a < st.next → a ≠ c → st'.mem a = st.mem a
theorem PresC.refl (c : Nat) (st : St) : PresC c st st := ⟨Nat.le_refl _,fun _ _ _ => rfl⟩
theorem PresC.trans {c : Nat} {x y z : St} (h : PresC c x y) (k : PresC c y z) : PresC c x z := ⟨Nat.le_trans h.1 k.1,fun a ha hc => (k.2 a (Nat.lt_of_lt_of_le ha h.1) hc).trans (h.2 a ha hc)⟩
theorem PresC.ints {c : Nat} {st st' : St} {k : IntKind} {p : Option Addr} {l : List Int} (h : PresC c st st') (hi : Ints st k p l) (hp : l.length = 0 ∨ ∀ q,p = some q → q.block ≠ c) : Ints st' k p l := by
 rcases hi with hi | ⟨b,off,blk,rfl,hm,hb,hc⟩
 ·exact .inl hi
 rcases hp with h0 | hp
 ·exact .inl h0
 ·exact .inr ⟨b,off,blk,rfl,(h.2 b hb (hp _ rfl)).trans hm,Nat.lt_of_lt_of_le hb h.1,hc⟩
theorem PresC.own {c : Nat} {st st' : St} {k : IntKind} {p : Option Addr} {l : List Int} (h : PresC c st st') (hi : Own st k p l) (hp : ∀ q,p = some q → q.block ≠ c) : Own st' k p l := by
 rcases hi with ⟨rfl,rfl⟩ | ⟨a,rfl,ha,hm⟩
 ·exact .inl ⟨rfl,rfl⟩
 ·exact .inr ⟨a,rfl,Nat.lt_of_lt_of_le ha h.1,(h.2 a ha (hp _ rfl)).trans hm⟩
theorem Pres.c {c : Nat} {st st' : St} (h : Pres st st') : PresC c st st' := ⟨h.1,fun a ha _ => h.2 a ha⟩
theorem Cur.pres {c : Nat} {st st' : St} {bs : List Int} {p : Option Addr} (h : Pres st st') (hc : Cur st c p bs) : Cur st' c p bs := by
 obtain ⟨h1,z,i,x,hm,hI,hp,hi⟩ := hc
 exact ⟨Nat.lt_of_lt_of_le h1 h.1,z,i,x,(h.2 c h1).trans hm,h.ints hI,hp,hi⟩
theorem Cur.grow {c : Nat} {p q : Option Addr} {st0 st1 st2 : St} {bs : List Int} (h0 : Cur st0 c p bs) (h1 : PresC c st0 st1) (hc : Cur st1 c p bs) (h2 : ∀ a,a < st1.next → (∀ r,q = some r → a ≠ r.block) → st2.mem a = st1.mem a) (hn : st1.next ≤ st2.next) (hq : ∀ r,q = some r → st0.next ≤ r.block) : Cur st2 c p bs := by
 obtain ⟨hlt,_,_,_,_,hI,hp,_⟩ := h0
 obtain ⟨hl,z,i,h,hm,_,_,hi⟩ := hc
 have hP : PresC c st0 st2 := ⟨Nat.le_trans h1.1 hn,fun a ha hne => (h2 a (Nat.lt_of_lt_of_le ha h1.1) fun r hr he => by have := hq r hr; omega).trans (h1.2 a ha hne)⟩
 exact ⟨Nat.lt_of_lt_of_le hl hn,z,i,h,(h2 c hl fun r hr he => by have := hq r hr; omega).trans hm,hP.ints hI hp,hp,hi⟩
theorem ac_l1Byte (c : Nat) (p : Option Addr) (bs : List Int) (st : St) (hc : Cur st c p bs) (hs : bs.length < 1099511627776) : C 67 [.pointer (some ⟨c,0,none⟩)] st (fun v s => ∃ r,v = .int .i64 r ∧ 0 ≤ r ∧ r < 256 ∧ Cur s c p bs ∧ PresC c st s) := by
 obtain ⟨hlt,z,i,h,hm,hI,hp,hi⟩ := hc
 refine AC.enterX (i := ⟨[],[],[0,2,3,34],[]⟩) [(2,[],[]),(3,[],[]),(4,[],[])] Tryd.func67 rfl rfl (by kernel_rfl) (by kernel_rfl) Tryd.ntmps67 (Lb rfl) rfl ?_
 refine Cu lo0 st [(0,vP c 0)] fun _ => ?_
 refine ⟨_,rfl,?_⟩
 refine ⟨_,rfl,?_⟩
 refine ⟨_,op_ld rfl rfl rfl rfl hm rfl,?_⟩
 refine ⟨_,rfl,?_⟩
 refine ⟨_,rfl,?_⟩
 refine ⟨_,rfl,?_⟩
 refine ⟨_,rfl,?_⟩
 refine op_stc rfl rfl rfl rfl rfl rfl rfl hm rfl (Lb rfl) ?_
 intro st1 hm1 hn1 hk1
 obtain ⟨h1,hm1⟩ : ∃ h1,st1.mem c = some ⟨true,z,[.slice p bs.length bs.length,.int .i64 i,.int .i64 h1]⟩ := ⟨_,hm1⟩
 have hP1 : PresC c st st1 := ⟨Nat.le_of_eq hn1.symm,fun a _ hne => hk1 a hne⟩
 have hI1 := hP1.ints hI hp
 have hlt1 : c < st1.next := by rw [hn1]; exact hlt
 have hC1 : Cur st1 c p bs := ⟨hlt1,z,i,h1,hm1,hI1,hp,hi⟩
 refine Cu lo0 st1 [(0,vP c 0)] fun _ => ?_
 refine ⟨_,rfl,?_⟩
 refine ⟨_,rfl,?_⟩
 refine ⟨_,op_ld rfl rfl rfl rfl hm1 rfl,?_⟩
 refine ⟨_,rfl,?_⟩
 refine ⟨_,rfl,?_⟩
 refine ⟨_,rfl,?_⟩
 refine ⟨_,op_ld rfl rfl rfl rfl hm1 rfl,?_⟩
 refine ⟨_,rfl,?_⟩
 refine ⟨_,rfl,?_⟩
 refine op_and255 rfl rfl rfl ?_
 intro r1 hr1 hr1'
 refine Cu lo0 st1 [(0,vP c 0),(3,vI r1)] fun _ => ?_
 refine ⟨_,rfl,?_⟩
 refine ⟨_,rfl,?_⟩
 refine ⟨_,op_ld rfl rfl rfl rfl hm1 rfl,?_⟩
 refine ⟨_,rfl,?_⟩
 refine ⟨_,rfl,?_⟩
 refine ⟨_,op_ld rfl rfl rfl rfl hm1 rfl,?_⟩
 refine ⟨_,rfl,?_⟩
 refine ⟨_,rfl,?_⟩
 rintro (_|_) hd
 ·refine Cu lo0 st1 [(0,vP c 0),(3,vI r1),(34,vB false)] fun _ => ?_
  refine Cu lo0 st1 [(0,vP c 0),(3,vI r1)] fun _ => ?_
  repeat refine cxs ?_
  exact Rt ⟨r1,rfl,hr1,hr1',hC1,hP1⟩
 ·refine Cu lo0 st1 [(0,vP c 0),(3,vI r1),(34,vB true)] fun _ => ?_
  have hd : i < bs.length := Int.ofNat_lt.1 (of_decide_eq_true (show decide ((i : Int) < (bs.length : Int)) = true from hd))
  obtain ⟨b1,o1,k1,hpe,hb1,hc1⟩ := hI1.at hd
  refine ⟨_,rfl,?_⟩
  refine ⟨_,rfl,?_⟩
  refine ⟨_,op_ld rfl rfl rfl rfl hm1 rfl,?_⟩
  refine ⟨_,rfl,?_⟩
  refine ⟨_,rfl,?_⟩
  refine ⟨_,op_ld rfl rfl rfl rfl hm1 rfl,?_⟩
  refine ⟨_,op_idx (j := (i : Int)) (n := bs.length) (q := ⟨b1,o1,none⟩) rfl (congrArg (fun u => Value.slice u bs.length bs.length) hpe) rfl rfl rfl (Int.natCast_nonneg i) (Int.ofNat_lt.2 hd),?_⟩
  refine ⟨_,op_ld rfl rfl rfl rfl hb1 hc1,?_⟩
  refine ⟨_,rfl,?_⟩
  refine ⟨_,rfl,?_⟩
  refine op_and255 rfl rfl rfl ?_
  intro r2 hr2 hr2'
  refine Cu lo0 st1 [(0,vP c 0),(3,vI r2)] fun _ => ?_
  refine ⟨_,rfl,?_⟩
  refine ⟨_,rfl,?_⟩
  refine ⟨_,op_ld rfl rfl rfl rfl hm1 rfl,?_⟩
  refine ⟨_,rfl,?_⟩
  refine ⟨_,rfl,?_⟩
  refine ⟨_,rfl,?_⟩
  refine op_stc rfl rfl rfl rfl rfl rfl rfl hm1 rfl (Lb rfl) ?_
  intro st2 hm2 hn2 hk2
  have hm2 : st2.mem c = some ⟨true,z,[.slice p bs.length bs.length,.int .i64 (IntKind.wrap .i64 ((i : Int) + 1)),.int .i64 h1]⟩ := hm2
  rw [wrap_i64 (by omega) (by omega)] at hm2
  have hP2 : PresC c st1 st2 := ⟨Nat.le_of_eq hn2.symm,fun a _ hne => hk2 a hne⟩
  have hlt2 : c < st2.next := by rw [hn2]; exact hlt1
  have hC : Cur st2 c p bs := ⟨hlt2,z,i + 1,h1,hm2,hP2.ints hI1 hp,hp,hd⟩
  refine Cu lo0 st2 [(0,vP c 0),(3,vI r2)] fun _ => ?_
  repeat refine cxs ?_
  exact Rt ⟨r2,rfl,hr2,hr2',hC,hP1.trans hP2⟩
theorem tmod_lt {x n : Int} (hx : 0 ≤ x) (hn : 0 < n) : 0 ≤ x.tmod n ∧ x.tmod n < n := ⟨Int.tmod_nonneg _ hx,Int.tmod_lt_of_pos _ hn⟩
theorem ac_l1Below (c : Nat) (p : Option Addr) (bs : List Int) (n : Int) (st : St) (hc : Cur st c p bs) (hs : bs.length < 1099511627776) : C 49 [.pointer (some ⟨c,0,none⟩),.int .i64 n] st (fun v s => ∃ r,v = .int .i64 r ∧ 0 ≤ r ∧ (0 < n → r < n) ∧ (n ≤ 0 → r = 0) ∧ Cur s c p bs ∧ PresC c st s) := by
 refine AC.enter' (i := ⟨[],[],[0,1,4,5,6,7,8,10,12],[]⟩) Tryd.func49 rfl rfl (by kernel_rfl) Tryd.ntmps49 (Lb rfl) rfl (cw_sound _ _ _ _ _ ?_)
 refine ⟨_,rfl,?_⟩
 rintro (_|_) h0
 ·have h0 : 0 < n := by simpa using h0
  refine ⟨_,rfl,?_⟩
  rintro (_|_) h1
  ·refine ⟨_,rfl,(ac_l1Byte c p bs st hc hs).mono ?_⟩
   rintro _ s1 ⟨r1,rfl,hr1,hr1',hc1,hp1⟩
   refine ⟨_,rfl,(ac_l1Byte c p bs s1 hc1 hs).mono ?_⟩
   rintro _ s2 ⟨r2,rfl,hr2,hr2',hc2,hp2⟩
   refine ⟨_,rfl,(ac_l1Byte c p bs s2 hc2 hs).mono ?_⟩
   rintro _ s3 ⟨r3,rfl,hr3,hr3',hc3,hp3⟩
   refine ⟨_,rfl,(ac_l1Byte c p bs s3 hc3 hs).mono ?_⟩
   rintro _ s4 ⟨r4,rfl,hr4,hr4',hc4,hp4⟩
   refine ⟨_,rfl,?_⟩
   refine ⟨_,rfl,?_⟩
   refine ⟨_,rfl,?_⟩
   refine ⟨_,rfl,?_⟩
   refine ⟨_,rfl,?_⟩
   refine ⟨_,rfl,?_⟩
   refine ⟨_,op_rem rfl rfl rfl (by omega),?_⟩
   have e1 : IntKind.wrap .i64 (r1 * 16777216) = r1 * 16777216 := wrap_i64 (by omega) (by omega)
   have e2 : IntKind.wrap .i64 (r2 * 65536) = r2 * 65536 := wrap_i64 (by omega) (by omega)
   have e3 : IntKind.wrap .i64 (r3 * 256) = r3 * 256 := wrap_i64 (by omega) (by omega)
   have e4 : IntKind.wrap .i64 (r1 * 16777216 + r2 * 65536) = r1 * 16777216 + r2 * 65536 := wrap_i64 (by omega) (by omega)
   have e5 : IntKind.wrap .i64 (r1 * 16777216 + r2 * 65536 + r3 * 256) = r1 * 16777216 + r2 * 65536 + r3 * 256 := wrap_i64 (by omega) (by omega)
   have e6 : IntKind.wrap .i64 (r1 * 16777216 + r2 * 65536 + r3 * 256 + r4) = r1 * 16777216 + r2 * 65536 + r3 * 256 + r4 := wrap_i64 (by omega) (by omega)
   have hX : 0 ≤ IntKind.wrap .i64 (IntKind.wrap .i64 (IntKind.wrap .i64 (IntKind.wrap .i64 (r1 * 16777216) + IntKind.wrap .i64 (r2 * 65536)) + IntKind.wrap .i64 (r3 * 256)) + r4) := by
    rw [e1,e2,e4,e3,e5,e6]; omega
   refine ⟨.inl rfl,_,rfl,_,rfl,(tmod_lt hX h0).1,fun _ => (tmod_lt hX h0).2,fun h => by omega,hc4,((hp1.trans hp2).trans hp3).trans hp4⟩
  ·refine ⟨_,rfl,(ac_l1Byte c p bs st hc hs).mono ?_⟩
   rintro _ s1 ⟨r1,rfl,hr1,hr1',hc1,hp1⟩
   refine ⟨_,op_rem rfl rfl rfl (by omega),?_⟩
   refine ⟨.inl rfl,_,rfl,_,rfl,(tmod_lt hr1 h0).1,fun _ => (tmod_lt hr1 h0).2,fun h => by omega,hc1,hp1⟩
 ·have h0 : n ≤ 0 := by simpa using h0
  exact Rt ⟨0,rfl,Int.le_refl _,fun h => by omega,fun _ => rfl,hc,PresC.refl _ _⟩
theorem ac_l1Once (c : Nat) (p : Option Addr) (bs : List Int) (n : Int) (st : St) (hc : Cur st c p bs) (hs : bs.length < 1099511627776) : C 36 [.pointer (some ⟨c,0,none⟩),.int .i64 n] st (fun v s => ∃ b,v = .bool b ∧ Cur s c p bs ∧ PresC c st s) := by
 refine AC.enter' (i := ⟨[],[],[0,1,4],[]⟩) Tryd.func36 rfl rfl (by kernel_rfl) Tryd.ntmps36 (Lb rfl) rfl (cw_sound _ _ _ _ _ ?_)
 refine ⟨_,rfl,(ac_l1Below c p bs n st hc hs).mono ?_⟩
 rintro _ s1 ⟨r1,rfl,_,_,_,hc1,hp1⟩
 refine ⟨_,rfl,?_⟩
 intro b hb
 exact Rt ⟨b,rfl,hc1,hp1⟩
theorem Ints.ap {st : St} {k : IntKind} {p : Option Addr} {l : List Int} (h : Ints st k p l) : l.length = 0 ∨ ∀ q,p = some q → q.block ≠ st.next := by
 rcases h with h | ⟨b,off,blk,rfl,_,hb,_⟩
 ·exact .inl h
 ·exact .inr fun q hq => by injection hq with hq; subst hq; exact Nat.ne_of_lt hb
theorem PresC.of {c : Nat} {st st' : St} : PresC c st st' ↔ Pr (some ⟨c,0,none⟩) st st' :=
 ⟨fun h => ⟨h.1,fun a ha hn => h.2 a ha (hn _ rfl)⟩,fun h => ⟨h.1,fun a ha hn => h.2 a ha fun q hq => by injection hq with hq; subst hq; exact hn⟩⟩
theorem ac_spec_l1New (p : Option Addr) (l : List Int) (st : St) (hI : Ints st .u8 p l) (hs : l.length < 1099511627776) : C 33 [vS p l.length] st (fun v s => v = vP st.next 0 ∧ Cur s st.next p l ∧ Pres st s ∧ s.next = st.next + 1) := by
 refine AC.enterX (i := ⟨[],[],[0,2,3,4,15],[]⟩) [] Tryd.func33 rfl rfl (by kernel_rfl) (by kernel_rfl) Tryd.ntmps33 (Lb rfl) rfl ?_
 refine Cu lo0 st [(0,vS p l.length),(2,_)] fun _ => ?_
 iterate 2 refine ⟨_,rfl,?_⟩
 refine cxs ?_
 refine Cu lo0 st [(0,vS p l.length),(2,_),(3,_),(4,vI 0)] fun _ => ?_
 refine AW.loop0 (fun x : Int × Nat => [(0,vS p l.length),(2,.pointer none),(3,vI x.1),(4,vI x.2)]) (fun m (x : Int × Nat) st' => m = l.length - x.2 ∧ x.2 ≤ l.length ∧ st' = st) (_,0) _ ⟨rfl,rfl,rfl,rfl,trivial⟩ rfl ⟨rfl,Nat.zero_le _,rfl⟩ ?_
 rintro m x ρ0 st' ⟨rfl,hi,rfl⟩
 iterate 2 refine ⟨_,rfl,?_⟩
 rintro (_|_) h1
 ·replace h1 : ¬ ((x.2 : Int) < (l.length : Int)) := of_decide_eq_false h1
  refine ⟨_,rfl,?_⟩
  refine Cu lo0 st' [(0,vS p l.length),(2,.pointer none),(3,vI x.1),(4,vI x.2),(15,vB false)] fun _ => ?_
  refine cxs ?_
  iterate 2 refine ⟨_,rfl,?_⟩
  refine cxs ?_
  refine ⟨.inl rfl,_,rfl,rfl,⟨Nat.lt_succ_self _,0,0,_,if_pos rfl,Pres.push.ints hI,hI.ap,Nat.zero_le _⟩,Pres.push,rfl⟩
 ·replace h1 : (x.2 : Int) < (l.length : Int) := of_decide_eq_true h1
  refine ⟨_,rfl,?_⟩
  rintro (_|_) h2
  ·refine ⟨_,rfl,?_⟩
   refine Cu lo0 st' [(0,vS p l.length),(2,.pointer none),(3,vI x.1),(4,vI x.2),(15,vB false)] fun _ => ?_
   refine cxs ?_
   iterate 2 refine ⟨_,rfl,?_⟩
   refine cxs ?_
   refine ⟨.inl rfl,_,rfl,rfl,⟨Nat.lt_succ_self _,0,0,_,if_pos rfl,Pres.push.ints hI,hI.ap,Nat.zero_le _⟩,Pres.push,rfl⟩
  ·refine ⟨_,rfl,?_⟩
   refine Cu lo0 st' [(0,vS p l.length),(2,.pointer none),(3,vI x.1),(4,vI x.2),(15,vB true)] fun _ => ?_
   obtain ⟨b1,o1,k1,hpe,hb1,hc1⟩ := hI.at (Int.ofNat_lt.1 h1)
   refine cxs ?_
   refine ⟨_,rfl,?_⟩
   refine ⟨_,op_idx (j := (x.2 : Int)) (n := l.length) rfl (congrArg (fun u => vS u l.length) hpe) rfl rfl rfl (Int.natCast_nonneg _) h1,?_⟩
   refine ⟨_,op_ld rfl rfl rfl rfl hb1 hc1,?_⟩
   iterate 4 refine ⟨_,rfl,?_⟩
   refine Cu lo0 st' [(0,vS p l.length),(2,.pointer none),(3,_),(4,vI x.2),(15,vB true)] fun _ => ?_
   have e1 : IntKind.wrap .i64 ((x.2 : Int) + 1) = ((x.2 + 1 : Nat) : Int) := wrap_i64 (by omega) (by omega)
   refine ⟨_,rfl,?_⟩
   refine ⟨(_,x.2 + 1),l.length - (x.2 + 1),?_,⟨rfl,rfl,rfl,congrArg (Value.int .i64) e1,trivial⟩,rfl,rfl,?_,rfl⟩
   ·omega
   ·omega
theorem PresC.pres {c : Nat} {st st1 st2 : St} (h : Pres st st1) (k : PresC c st1 st2) (hc : st.next ≤ c) : Pres st st2 := ⟨Nat.le_trans h.1 k.1,fun a ha => (k.2 a (Nat.lt_of_lt_of_le ha h.1) (by omega)).trans (h.2 a ha)⟩
def NC (c : Nat) (q : Option Addr) : Prop := ∀ a,q = some a → a.block ≠ c
theorem NC.new {c n : Nat} {q : Option Addr} (hN : New n q) (h : c < n) : NC c q := fun a ha => Nat.ne_of_gt (Nat.lt_of_lt_of_le h (hN a ha))
theorem Cur.lt {st : St} {c : Nat} {p : Option Addr} {bs : List Int} (h : Cur st c p bs) : c < st.next := h.1
def FrC (c : Nat) (a b : St) (l : List Pc) : Prop := OwnP b l ∧ NewP a.next l ∧ PresC c a b ∧ c < a.next
theorem FrC.nil {c : Nat} {a : St} (h : c < a.next) : FrC c a a [] := ⟨OwnP.nil,NewP.nil,PresC.refl _ _,h⟩
theorem Frs.toC {c : Nat} {a b : St} {l : List Pc} (h : Frs a b l) (hc : c < a.next) : FrC c a b l := ⟨h.1,h.2.1,h.2.2.c,hc⟩
theorem OwnP.presC {c n : Nat} {st st' : St} {l : List Pc} (h : OwnP st l) (hP : PresC c st st') (hN : NewP n l) (hn : c < n) : OwnP st' l :=
 h.keep hP.1 fun x hx q hq => hP.2 _ ((h.1 x hx).old q hq) (Nat.ne_of_gt (Nat.lt_of_lt_of_le hn (hN x hx q hq)))
theorem FrC.later {c : Nat} {a b d : St} {l : List Pc} (h : FrC c a b l) (k : PresC c b d) : FrC c a d l := ⟨h.1.presC k h.2.1 h.2.2.2,h.2.1,h.2.2.1.trans k,h.2.2.2⟩
theorem FrC.step {c : Nat} {a b d : St} {l : List Pc} (h : FrC c a b l) (k : Pres b d) : FrC c a d l := h.later k.c
theorem FrC.sooner {c : Nat} {a b d : St} {l : List Pc} (h : FrC c b d l) (k : PresC c a b) (hc : c < a.next) : FrC c a d l := ⟨h.1,h.2.1.le k.1,k.trans h.2.2.1,hc⟩
theorem FrC.join {c : Nat} {a b d : St} {l m : List Pc} (h : FrC c a b l) (k : FrC c b d m) : FrC c a d (l ++ m) :=
 ⟨(h.later k.2.2.1).1.app k.1 fun x hx y hy => Dis.of (h.1.1 x hx).old (k.2.1 y hy),h.2.1.app (k.2.1.le h.2.2.1.1),h.2.2.1.trans k.2.2.1,h.2.2.2⟩
theorem FrC.lt {c : Nat} {a b : St} {l : List Pc} (h : FrC c a b l) : c < b.next := Nat.lt_of_lt_of_le h.2.2.2 h.2.2.1.1
theorem FrC.add {c : Nat} {a b d : St} {l m : List Pc} (h : FrC c a b l) (k : Frs b d m) : FrC c a d (l ++ m) := h.join (k.toC h.lt)
theorem FrC.left {c : Nat} {a b : St} {l m : List Pc} (h : FrC c a b (l ++ m)) : FrC c a b l := ⟨h.1.left,fun x hx => h.2.1 x (List.mem_append_left _ hx),h.2.2⟩
theorem FrC.right {c : Nat} {a b : St} {l m : List Pc} (h : FrC c a b (l ++ m)) : FrC c a b m := ⟨h.1.right,fun x hx => h.2.1 x (List.mem_append_right _ hx),h.2.2⟩
theorem FrC.out {st s1 s2 : St} {l : List Pc} (hF : FrC st.next s1 s2 l) (hP : Pres st s1) : Frs st s2 l := ⟨hF.1,hF.2.1.le hP.1,PresC.pres hP hF.2.2.1 (Nat.le_refl _)⟩
theorem PresC.thenNew {c : Nat} {q : Option Addr} {a b d : St} (h : PresC c a b) (k : Pr q b d) (hn : New a.next q) : PresC c a d :=
 ⟨Nat.le_trans h.1 k.1,fun x hx hc => (k.2 x (Nat.lt_of_lt_of_le hx h.1) fun r hr he => by have := hn r hr; omega).trans (h.2 x hx hc)⟩
theorem Cur.thenNew {c : Nat} {p q : Option Addr} {bs : List Int} {s0 s1 s2 : St} (h1 : Cur s1 c p bs) (h0 : Cur s0 c p bs) (h : PresC c s0 s1) (k : Pr q s1 s2) (hn : New s0.next q) : Cur s2 c p bs := Cur.grow h0 h h1 k.2 k.1 hn
theorem FrC.items {c : Nat} {a b d : St} {u : SV} {q : Option Addr} {l : List Itm} (h : FrC c a b (pcS u)) (hp : Pr u.p b d) (ho : OwnR d 6 cItm q l) (hn : New b.next q) : FrC c a d (pcS ⟨q,u.q,⟨l,u.x.floors⟩⟩) ∧ PresC c a d :=
 have hP := PresC.thenNew h.2.2.1 hp (h.2.1 _ (List.mem_cons_self ..))
 ⟨⟨pcS_items h.1 hp ho hn,NewP.cons (hn.le h.2.2.1.1) (NewP.cons (h.2.1 _ (List.mem_cons_of_mem _ (List.mem_cons_self ..))) NewP.nil),hP,h.2.2.2⟩,hP⟩
theorem FrC.floors {c : Nat} {a b d : St} {u : SV} {q : Option Addr} {l : List Flr} (h : FrC c a b (pcS u)) (hp : Pr u.q b d) (ho : OwnR d 2 cFlr q l) (hn : New b.next q) : FrC c a d (pcS ⟨u.p,q,⟨u.x.items,l⟩⟩) ∧ PresC c a d :=
 have hP := PresC.thenNew h.2.2.1 hp (h.2.1 _ (List.mem_cons_of_mem _ (List.mem_cons_self ..)))
 ⟨⟨pcS_floors h.1 hp ho hn,NewP.cons (h.2.1 _ (List.mem_cons_self ..)) (NewP.cons (hn.le h.2.2.1.1) NewP.nil),hP,h.2.2.2⟩,hP⟩
theorem FrC.setItems {c : Nat} {a b d : St} {u : SV} {l : List Itm} (h : FrC c a b (pcS u)) (hp : Pr u.p b d) (ho : OwnR d 6 cItm u.p l) : FrC c a d (pcS ⟨u.p,u.q,⟨l,u.x.floors⟩⟩) ∧ PresC c a d :=
 have hP := PresC.thenNew h.2.2.1 hp (h.2.1 _ (List.mem_cons_self ..))
 ⟨⟨OwnP.update (l := []) (m := [pcR 2 cFlr u.q u.x.floors]) (d := pcR 6 cItm u.p l) h.1 hp (own_pc ho) rfl,NewP.cons (h.2.1 (pcR 6 cItm u.p u.x.items) (List.mem_cons_self ..)) (NewP.cons (h.2.1 _ (List.mem_cons_of_mem _ (List.mem_cons_self ..))) NewP.nil),hP,h.2.2.2⟩,hP⟩
theorem Frs.nlS {a : St} : Frs a a (pcS ⟨none,none,nilS⟩) := ⟨pcS_nil,newS_nil,Pres.refl _⟩
structure smS (n : Nat) (x : Sta) : Prop where
 i : x.items.length ≤ n
 f : x.floors.length ≤ n
 d : ∀ y ∈ x.items,y.e.data.size ≤ 9
theorem smS.big {n : Nat} {x : Sta} (h : smS n x) (hn : n ≤ 1048576) : bigS x := ⟨Nat.le_trans h.i hn,Nat.le_trans h.f hn,fun y hy => Nat.le_trans (h.d y hy) (by decide)⟩
theorem smS.le {n m : Nat} {x : Sta} (h : smS n x) (k : n ≤ m) : smS m x := ⟨Nat.le_trans h.i k,Nat.le_trans h.f k,h.d⟩
theorem ids_len {α : Type} {id : α → Int} {l : List α} (h : ∀ (j : Nat) x,l[j]? = some x → (0 ≤ id x ∧ id x ≤ 4) ∧ ∀ y,0 < j → l[j - 1]? = some y → id y < id x) : l.length ≤ 5 := by
 have key : ∀ (j : Nat) x,l[j]? = some x → (j : Int) ≤ id x := by
  intro j
  induction j with
  | zero => intro x hx; exact (h 0 x hx).1.1
  | succ j ih =>
   intro x hx
   obtain ⟨hj,_⟩ := List.getElem?_eq_some_iff.1 hx
   have hy : l[j]? = some l[j] := List.getElem?_eq_getElem (by omega)
   have := ih _ hy
   have := (h _ _ hx).2 l[j] (Nat.succ_pos j) hy
   omega
 rcases Nat.lt_or_ge 5 l.length with h5 | h5
 ·have hx : l[5]? = some l[5] := List.getElem?_eq_getElem h5
  have := key 5 _ hx
  have := (h 5 _ hx).1.2
  omega
 ·exact h5
theorem marks_len {l : List Flr} (h : marksOk l) : l.length ≤ 5 := ids_len (id := fun x => x.id) fun j x hx => ⟨(h j x hx).1,(h j x hx).2.2⟩
theorem items_len {s : Sta} (h : stateOk s) : s.items.length ≤ 5 := ids_len (id := fun x => x.id) fun j x hx => ⟨(h.1 j x hx).1,(h.1 j x hx).2.2.2⟩
theorem sm_ok {s : Sta} (h : stateOk s) : smS 5 s := ⟨items_len h,marks_len h.2,fun y hy => by
 obtain ⟨j,hj⟩ := List.getElem?_of_mem hy
 have := (h.1 j y hj).2.1.2.2.2.2
 omega⟩
theorem big_ok {s : Sta} (h : stateOk s) : bigS s := (sm_ok h).big (by decide)
theorem szm (g : Int → Int) : szOk (marksF g 5).length := Nat.le_trans (marksF_len g 5) (by decide)
abbrev cStr : ByteArray → List Value := fun s => [.string s]
theorem cStr_len (x : ByteArray) : (cStr x).length = 1 := rfl
theorem ent_mk {i r b v : Int} {d : ByteArray} (h1 : 1 ≤ i ∧ i ≤ 1000) (h2 : 0 ≤ r ∧ r ≤ 1) (h3 : 0 ≤ b ∧ b ≤ 100000) (h4 : 0 ≤ v ∧ v ≤ 1000) (h5 : d.size ≤ 8) : entOk ⟨i,r,b,v,d⟩ := ⟨h1,h2,h3,h4,h5⟩
section
variable {P : Program} {ls : List Tmp} {call : ACallT} {o : Oper} {e : Operand → Value} {lo : Lo} {st : St} {K : Value × Lo × St → Prop}
theorem op_litS {t el : TypeId} {n : Nat} {ps : Array (Nat × Operand)} {u : Value} {l : List ByteArray} (ho : o.op = .buildSlice t n ps) (hp : parts e ps = mkp 0 (l.map Value.string)) (hn : n = l.length) (h0 : 0 < n) (he : telem P t = some el) (hz : tsize P el = some 1) (hz0 : tzero P el = some [u]) (hsz : n ≤ 16777216)
  (hK : ∀ q st',OwnR st' 1 cStr q l → Pres st st' → New st.next q → K (.slice q n n,lo,st')) : ∃ r,aoper P ls call o e lo st = some r ∧ K r := by
 refine op_lit ho hp (by rw [hn,List.length_map]) h0 he hz hz0 Nat.one_pos rfl (by omega) (fun v hv => ?_) ?_
 ·obtain ⟨r,_,rfl⟩ := List.mem_map.1 hv
  exact ⟨rfl,rfl⟩
 ·rw [show (l.map Value.string).flatMap (fun v => v.cells.toList) = l.flatMap cStr by rw [List.flatMap_map]; rfl]
  exact hK _ _ OwnR.push Pres.push New.self
theorem op_putw {α : Type} {f : α → List Value} {z : Nat} {t : TypeId} {x u : Operand} {p : Option Addr} {a d i : Nat} {l : List α} {j : Nat} {w y : α} {ws : List Value} {v : Value} (ho : o.op = .store t x u) (hx : e x = .pointer (some ⟨a,d,none⟩)) (hd : d = j * z + i) (hu : e u = v) (ht : tsize P t = some ws.length) (hz : ∀ x,(f x).length = z) (hv : v.cells.toList = ws) (hi : ws.all isCell = true) (hw : l[j]? = some w) (hf : ∃ A M B,f w = A ++ (M ++ B) ∧ f y = A ++ (ws ++ B) ∧ A.length = i ∧ M.length = ws.length)
  (hown : OwnR st z f p l) (hp : p = some ⟨a,0,none⟩)
  (hK : ∀ st',OwnR st' z f p (l.set j y) → Pr p st st' → st'.next = st.next → K (undef,lo,st')) : ∃ r,aoper P ls call o e lo st = some r ∧ K r := by
 subst hp hd
 rcases hown with ⟨h,_⟩ | ⟨a',h,ha,hm⟩
 ·cases h
 injection h with h
 injection h with h _ _
 subst h
 obtain ⟨hj,_⟩ := List.getElem?_eq_some_iff.1 hw
 obtain ⟨pre,cs,suf,h1,h2,h3,h4⟩ := flat_set hz (l := l) (j := j) (x := y) hj
 rw [hw] at h3
 injection h3 with h3
 obtain ⟨A,M,B,e1,e2,e3,e4⟩ := hf
 have hlen : j * z + i + ws.length ≤ (l.flatMap f).length := by
  rw [h1,← h3,e1]
  simp only [List.length_append]
  omega
 refine op_sta (z := ws.length) ho hx hu rfl ht (by rw [hv]) (by rw [hv]; exact hi) hm rfl hlen fun st' k1 k2 k3 => hK st' (.inr ⟨a,rfl,by omega,?_⟩) ⟨Nat.le_of_eq k2.symm,fun b _ hne => k3 b (fun hb => hne _ rfl hb)⟩ k2
 rw [k1]
 show some (Blk.mk true z (splice (l.flatMap f) (j * z + i) v.cells.toList)) = _
 rw [hv,h4,h1,← h3,e1,e2,← h2,← e3]
 have := splice_mid ws (pre ++ A) M (B ++ suf) e4
 simp only [List.append_assoc,List.length_append] at this ⊢
 rw [this]
end
theorem ac_d_l1Below {p : Option Addr} {bs : List Int} (c : Nat) (n : Int) (st : St) (hc : Cur st c p bs) (hs : bs.length < 1099511627776) : C 49 [vP c 0,vI n] st (fun v s => ∃ r,v = vI r ∧ 0 ≤ r ∧ (0 < n → r < n) ∧ (n ≤ 0 → r = 0) ∧ Cur s c p bs ∧ PresC c st s) := ac_l1Below c p bs n st hc hs
theorem ac_d_l1Once {p : Option Addr} {bs : List Int} (c : Nat) (n : Int) (st : St) (hc : Cur st c p bs) (hs : bs.length < 1099511627776) : C 36 [vP c 0,vI n] st (fun v s => ∃ b,v = .bool b ∧ Cur s c p bs ∧ PresC c st s) := ac_l1Once c p bs n st hc hs
theorem ac_d_l1PickInt {p : Option Addr} {bs : List Int} (c : Nat) (q : Option Addr) (l : List Int) (st : St) (hc : Cur st c p bs) (hs : bs.length < 1099511627776) (hl : 0 < l.length) (hO : OwnR st 1 fI q l) (hp : NC c q) : C 61 [vP c 0,vS q l.length] st (fun v s => ∃ r,v = vI r ∧ r ∈ l ∧ Cur s c p bs ∧ PresC c st s) := by
 refine AC.enter' (i := ⟨[],[],[0,1,4],[]⟩) Tryd.func61 rfl rfl (by kernel_rfl) Tryd.ntmps61 (Lb rfl) rfl (cw_sound _ _ _ _ _ ?_)
 refine ⟨_,rfl,?_⟩
 refine ⟨_,rfl,(ac_l1Below c p bs l.length st hc hs).mono ?_⟩
 rintro _ s1 ⟨r1,rfl,h0,h1,_,hc1,hp1⟩
 have h1 := h1 (by omega)
 obtain ⟨j,rfl⟩ : ∃ j : Nat,r1 = j := ⟨r1.toNat,by omega⟩
 have hO1 : OwnR s1 1 fI q l := by
  rcases hO with h | ⟨a,rfl,ha,hm⟩
  ·exact .inl h
  ·exact .inr ⟨a,rfl,Nat.lt_of_lt_of_le ha hp1.1,(hp1.2 a ha (hp _ rfl)).trans hm⟩
 obtain ⟨b1,o1,k1,x,rfl,hx,hb1,hcc,_⟩ := (hO1.rows fI_len).atB (j := j) (by omega)
 refine ⟨_,op_idx rfl rfl rfl rfl rfl (by omega) (by omega),?_⟩
 refine ⟨_,op_ldc (i := 0) rfl rfl rfl rfl hb1 hcc rfl rfl,?_⟩
 exact Rt ⟨x,rfl,List.mem_of_getElem? hx,hc1,hp1⟩
theorem ac_d_l1Pick {p : Option Addr} {bs : List Int} (c : Nat) (q : Option Addr) (l : List ByteArray) (st : St) (hc : Cur st c p bs) (hs : bs.length < 1099511627776) (hl : 0 < l.length) (hO : OwnR st 1 cStr q l) (hp : NC c q) : C 84 [vP c 0,vS q l.length] st (fun v s => ∃ r : ByteArray,v = .string r ∧ r ∈ l ∧ Cur s c p bs ∧ PresC c st s) := by
 refine AC.enter' (i := ⟨[],[],[0,1,4],[]⟩) Tryd.func84 rfl rfl (by kernel_rfl) Tryd.ntmps84 (Lb rfl) rfl (cw_sound _ _ _ _ _ ?_)
 refine ⟨_,rfl,?_⟩
 refine ⟨_,rfl,(ac_l1Below c p bs l.length st hc hs).mono ?_⟩
 rintro _ s1 ⟨r1,rfl,h0,h1,_,hc1,hp1⟩
 have h1 := h1 (by omega)
 obtain ⟨j,rfl⟩ : ∃ j : Nat,r1 = j := ⟨r1.toNat,by omega⟩
 have hO1 : OwnR s1 1 cStr q l := by
  rcases hO with h | ⟨a,rfl,ha,hm⟩
  ·exact .inl h
  ·exact .inr ⟨a,rfl,Nat.lt_of_lt_of_le ha hp1.1,(hp1.2 a ha (hp _ rfl)).trans hm⟩
 obtain ⟨b1,o1,k1,x,rfl,hx,hb1,hcc,_⟩ := (hO1.rows cStr_len).atB (j := j) (by omega)
 refine ⟨_,op_idx rfl rfl rfl rfl rfl (by omega) (by omega),?_⟩
 refine ⟨_,op_ldc (i := 0) rfl rfl rfl rfl hb1 hcc rfl rfl,?_⟩
 exact Rt ⟨x,rfl,List.mem_of_getElem? hx,hc1,hp1⟩
theorem texts_8 {x : ByteArray} (h : x ∈ [⟨#[]⟩,⟨#[97]⟩,⟨#[98]⟩,⟨#[97,98]⟩,⟨#[49,50,51,52,53,54,55,56]⟩]) : x.size ≤ 8 := by
 simp only [List.mem_cons,List.not_mem_nil,or_false] at h
 rcases h with rfl | rfl | rfl | rfl | rfl <;> decide
theorem ac_d_l2Right {p : Option Addr} {bs : List Int} (c : Nat) (st : St) (hc : Cur st c p bs) (hs : bs.length < 1099511627776) : C 76 [vP c 0] st (fun v s => ∃ e : Ent,v = .agg #[vI e.inc,vI e.rank,vI e.beat,vI e.ver,.string e.data] ∧ entOk e ∧ Cur s c p bs ∧ PresC c st s) := by
 refine AC.enterX (i := ⟨[2],[2],[0,2],[]⟩) [] Tryd.func76 rfl rfl (by kernel_rfl) (by kernel_rfl) Tryd.ntmps76 (Lb rfl) rfl ?_
 refine ⟨_,rfl,?_⟩
 refine Cm 1 st [(0,vP c 0),Ml 2 0] [(2,0,[vI 0,vI 0,vI 0,vI 0,.string ⟨#[]⟩])] fun _ _ => ?_
 refine ⟨_,rfl,(ac_d_l1Below c 3 st hc (by first | assumption | omega)).mono ?_⟩
 rintro _ s4 ⟨r4,rfl,h4,h4',h4'',hC4,hL4⟩
 have ew5 : IntKind.wrap .i64 ((1) + r4) = (1) + r4 := wrap_i64 (by omega) (by omega)
 refine ⟨_,rfl,?_⟩
 refine ⟨_,rfl,(ac_d_l1Below c 2 s4 hC4 (by first | assumption | omega)).mono ?_⟩
 rintro _ s7 ⟨r7,rfl,h7,h7',h7'',hC7,hL7⟩
 refine ⟨_,rfl,(ac_d_l1Below c 3 s7 hC7 (by first | assumption | omega)).mono ?_⟩
 rintro _ s9 ⟨r9,rfl,h9,h9',h9'',hC9,hL9⟩
 refine ⟨_,rfl,(ac_d_l1Below c 3 s9 hC9 (by first | assumption | omega)).mono ?_⟩
 rintro _ s11 ⟨r11,rfl,h11,h11',h11'',hC11,hL11⟩
 refine op_litS (l := [⟨#[]⟩,⟨#[97]⟩,⟨#[98]⟩,⟨#[97,98]⟩,⟨#[49,50,51,52,53,54,55,56]⟩]) rfl rfl rfl (Lb rfl) rfl rfl rfl (Lb rfl) ?_
 intro q13 s13 hO13 hP13 hN13
 refine ⟨_,rfl,(ac_d_l1Pick c q13 ([⟨#[]⟩,⟨#[97]⟩,⟨#[98]⟩,⟨#[97,98]⟩,⟨#[49,50,51,52,53,54,55,56]⟩]) s13 (hC11.pres hP13) (by first | assumption | omega) (by first | assumption | omega | decide) (by first | assumption | omega) (by first | assumption | exact NC.new (by assumption) (Cur.lt (by assumption)))).mono ?_⟩
 rintro _ s14 ⟨r14,rfl,h14,hC14,hL14⟩
 refine ⟨_,rfl,?_⟩
 refine ⟨_,Os rfl,?_⟩
 exact cxs (Rt ⟨⟨IntKind.wrap .i64 (1 + r4),r7,r9,r11,r14⟩,rfl,ent_mk (by omega) (by omega) (by omega) (by omega) (texts_8 h14),hC14,((((hL4.trans hL7).trans hL9).trans hL11).trans hP13.c).trans hL14⟩)
end Go.Proofs.YteabadoaeadcgaaDoor.AM
namespace Go.Proofs.YteabadoaeadcgaaDoor.AM
open Go Go.Proofs
set_option linter.unusedVariables false
set_option linter.unusedSimpArgs false
abbrev FS (g : Int → Int) : Sta := ⟨[],marksF g 5⟩
theorem FS_ok {g : Int → Int} (h : ∀ i,g i ≤ 1000) : stateOk (FS g) := stateOk_floors (marksOk_F h)
theorem FS_gF (g : Int → Int) {j : Nat} (hj : j < 5) : gF (FS g) (j : Int) = max (g (j : Int)) 0 := by
 show floorOf ((List.range 5).filterMap fun (j : Nat) => if g (j : Int) > 0 then some (⟨(j : Int),g (j : Int)⟩ : Flr) else none) (j : Int) = _
 rw [floorOf_pick g j 5]
 split
 ·omega
 ·rename_i h
  have : ¬ g (j : Int) > 0 := fun k => h ⟨hj,k⟩
  omega
theorem FS_gE (g : Int → Int) (j : Int) : gE (FS g) j = zEnt := rfl
theorem gone_FS {g : Int → Int} (hg : ∀ i,g i ≤ 1000) {j : Nat} (hj : j < 5) : goneAt (FS g) (j : Int) = max (g (j : Int)) 0 := by
 rw [goneAt_gon (FS_ok hg),FS_gE,FS_gF g hj]
 unfold gon
 rw [if_neg (by simp [zEnt])]
theorem pruneG_le {s : Sta} (h : stateOk s) (t : List (List Int)) : ∀ i,pruneG s t i ≤ 1000 := fun i => Int.le_trans (Int.min_le_right _ _) (goneAt_le h i).2
theorem prune_eq {s : Sta} (h : stateOk s) (t : List (List Int)) : pruneF s t = joinF s (FS (pruneG s t)) 5 := if_pos h
theorem prune_ok {s : Sta} (h : stateOk s) (t : List (List Int)) : stateOk (pruneF s t) := ok_prune rfl h
theorem prune_gone {s : Sta} (h : stateOk s) (t : List (List Int)) {j : Nat} (hj : j < 5) : goneAt (pruneF s t) (j : Int) = goneAt s (j : Int) := by
 rw [prune_eq h,gone_join h (FS_ok (pruneG_le h t)) hj,gone_FS (pruneG_le h t) hj]
 have := (goneAt_le h (j : Int)).1
 have : pruneG s t (j : Int) ≤ goneAt s (j : Int) := Int.min_le_right _ _
 omega
theorem marksF_congr {g h : Int → Int} (e : ∀ j : Nat,j < 5 → g (j : Int) = h (j : Int)) : marksF g 5 = marksF h 5 :=
 fmap_congr fun j hj => by rw [e j (List.mem_range.1 hj)]
theorem FS_congr {g h : Int → Int} (e : ∀ j : Nat,j < 5 → g (j : Int) = h (j : Int)) : FS g = FS h := by show (⟨[],marksF g 5⟩ : Sta) = ⟨[],marksF h 5⟩; rw [marksF_congr e]
def leS (a b : Sta) : Prop := joinF a b 5 = b
theorem leS_left {a b : Sta} (ha : stateOk a) (hb : stateOk b) : leS a (joinF a b 5) := by
 show joinF a (joinF a b 5) 5 = joinF a b 5
 rw [← join_assoc ha ha hb,join_self ha]
theorem leS_prune {s : Sta} (h : stateOk s) (t : List (List Int)) : leS s (pruneF s t) := by rw [prune_eq h]; exact leS_left h (FS_ok (pruneG_le h t))
theorem prune_again {s : Sta} (h : stateOk s) (t : List (List Int)) : pruneF (pruneF s t) t = pruneF s t := by
 have e : FS (pruneG (pruneF s t) t) = FS (pruneG s t) := FS_congr fun j hj => by unfold pruneG; rw [prune_gone h t hj]
 rw [prune_eq (prune_ok h t),e,prune_eq h,join_assoc h (FS_ok (pruneG_le h t)) (FS_ok (pruneG_le h t)),join_self (FS_ok (pruneG_le h t))]
end Go.Proofs.YteabadoaeadcgaaDoor.AM
namespace Go.Proofs.YteabadoaeadcgaaDoor.AM
open Go Go.Proofs
set_option linter.unusedVariables false
set_option linter.unusedSimpArgs false
set_option maxRecDepth 100000
set_option maxHeartbeats 4000000
def rankT (r : Int) : ByteArray := if r = 0 then ⟨#[117]⟩ else ⟨#[103]⟩
def entT (e : Ent) : ByteArray := itoaB e.inc ++ rankT e.rank ++ itoaB e.beat ++ ⟨#[46]⟩ ++ itoaB e.ver ++ ⟨#[58]⟩ ++ e.data
def itmT (x : Itm) : ByteArray := itoaB x.id ++ ⟨#[61]⟩ ++ entT x.e
def txtI (l : List Itm) : ByteArray := joinB (l.map itmT) ⟨#[32]⟩
theorem i64_of {n : Int} (h : -1000000 ≤ n ∧ n ≤ 1000000) : i64 n := ⟨by omega,by omega⟩
theorem rankT_size (r : Int) : (rankT r).size = 1 := by unfold rankT; split <;> rfl
theorem entT_size {e : Ent} (h : entOk e) : (entT e).size ≤ 71 := by
 obtain ⟨h1,h2,h3,h4,h5⟩ := h
 have a := itoaB_size (n := e.inc) (i64_of (by omega))
 have b := itoaB_size (n := e.beat) (i64_of (by omega))
 have c := itoaB_size (n := e.ver) (i64_of (by omega))
 have d := rankT_size e.rank
 have e1 : (⟨#[46]⟩ : ByteArray).size = 1 := rfl
 have e2 : (⟨#[58]⟩ : ByteArray).size = 1 := rfl
 unfold entT
 simp only [ByteArray.size_append]
 omega
theorem itmT_size {x : Itm} (hi : i64 x.id) (h : entOk x.e) : (itmT x).size ≤ 92 := by
 have a := itoaB_size hi
 have b := entT_size h
 have e1 : (⟨#[61]⟩ : ByteArray).size = 1 := rfl
 unfold itmT
 simp only [ByteArray.size_append]
 omega
theorem ac_impl_EntryText (e : Ent) (st : St) (h : entOk e) (hT : Tab st) : C 57 [.agg #[vI e.inc,vI e.rank,vI e.beat,vI e.ver,.string e.data]] st (fun v s => v = .string (entT e) ∧ s = st) := by
 obtain ⟨h1,h2,h3,h4,h5⟩ := h
 have i1 : i64 e.inc := i64_of (by omega)
 have i2 : i64 e.beat := i64_of (by omega)
 have i3 : i64 e.ver := i64_of (by omega)
 have z1 := itoaB_size i1
 have z2 := itoaB_size i2
 have z3 := itoaB_size i3
 have z4 := rankT_size e.rank
 have y1 : (⟨#[46]⟩ : ByteArray).size = 1 := rfl
 have y2 : (⟨#[58]⟩ : ByteArray).size = 1 := rfl
 refine AC.enterX (i := ⟨[1],[1,4,10,15,20,25],[0,1,2,3,5,6,8],[]⟩) [(7,[2,7,12],[6,11,16])] Tryd.func57 rfl rfl (by kernel_rfl) (by kernel_rfl) Tryd.ntmps57 (Lb rfl) rfl ?_
 refine ⟨_,rfl,?_⟩
 refine cxs ?_
 refine Cm 1 st [Ml 1 0,(2,.string ⟨#[]⟩),(3,.string ⟨#[63]⟩)] [(1,0,[vI e.inc,vI e.rank,vI e.beat,vI e.ver,.string e.data])] fun _ _ => ?_
 refine ⟨_,rfl,?_⟩
 refine ⟨_,Od rfl,?_⟩
 refine Cm 1 st [Ml 1 0,(2,.string ⟨#[]⟩),(3,.string ⟨#[63]⟩),(5,vI e.rank)] [(1,0,[vI e.inc,vI e.rank,vI e.beat,vI e.ver,.string e.data])] fun _ _ => ?_
 refine ⟨_,rfl,?_⟩
 rintro (_|_) h7
 ·replace h7 : ¬ (e.rank = 0) := beq_eq_false_iff_ne.1 h7
  refine Cm 1 st [Ml 1 0,(2,.string ⟨#[]⟩),(3,.string ⟨#[63]⟩),(5,vI e.rank),(6,vB false)] [(1,0,[vI e.inc,vI e.rank,vI e.beat,vI e.ver,.string e.data])] fun _ _ => ?_
  have hr : (⟨#[103]⟩ : ByteArray) = rankT e.rank := (if_neg h7).symm
  refine ⟨_,rfl,?_⟩
  rintro (_|_) h9
  ·exact absurd ((by omega)) (beq_eq_false_iff_ne.1 h9)
  refine Cm 1 st [Ml 1 0,(2,.string ⟨#[]⟩),(3,.string ⟨#[63]⟩),(8,vB true)] [(1,0,[vI e.inc,vI e.rank,vI e.beat,vI e.ver,.string e.data])] fun _ _ => ?_
  refine Cm 1 st [Ml 1 0,(2,.string ⟨#[]⟩),(3,.string ⟨#[103]⟩)] [(1,0,[vI e.inc,vI e.rank,vI e.beat,vI e.ver,.string e.data])] fun _ _ => ?_
  refine ⟨_,rfl,?_⟩
  refine ⟨_,Od rfl,?_⟩
  refine ⟨_,rfl,(ac_impl_Digits e.inc st i1 hT).mono ?_⟩
  rintro _ st ⟨rfl,rfl⟩
  refine ⟨fun _ _ => rfl,?_⟩
  refine ⟨_,op_cat (a := itoaB e.inc) (b := rankT e.rank) rfl rfl (congrArg Value.string (if_neg h7).symm) (by omega),?_⟩
  refine ⟨_,rfl,?_⟩
  refine ⟨_,Od rfl,?_⟩
  refine ⟨ld_own rfl rfl rfl,?_⟩
  refine ⟨_,rfl,(ac_impl_Digits e.beat st i2 hT).mono ?_⟩
  rintro _ st ⟨rfl,rfl⟩
  refine ⟨fun _ _ => rfl,?_⟩
  refine ⟨_,op_cat (a := itoaB e.inc ++ rankT e.rank) (b := itoaB e.beat) rfl rfl rfl (by simp only [ByteArray.size_append]; omega),?_⟩
  refine ⟨_,op_cat (a := itoaB e.inc ++ rankT e.rank ++ itoaB e.beat) (b := ⟨#[46]⟩) rfl rfl rfl (by simp only [ByteArray.size_append]; omega),?_⟩
  refine ⟨_,rfl,?_⟩
  refine ⟨_,Od rfl,?_⟩
  refine ⟨ld_own rfl rfl rfl,?_⟩
  refine ⟨_,rfl,(ac_impl_Digits e.ver st i3 hT).mono ?_⟩
  rintro _ st ⟨rfl,rfl⟩
  refine ⟨fun _ _ => rfl,?_⟩
  refine ⟨_,op_cat (a := itoaB e.inc ++ rankT e.rank ++ itoaB e.beat ++ ⟨#[46]⟩) (b := itoaB e.ver) rfl rfl rfl (by simp only [ByteArray.size_append]; omega),?_⟩
  refine ⟨_,op_cat (a := itoaB e.inc ++ rankT e.rank ++ itoaB e.beat ++ ⟨#[46]⟩ ++ itoaB e.ver) (b := ⟨#[58]⟩) rfl rfl rfl (by simp only [ByteArray.size_append]; omega),?_⟩
  refine ⟨_,rfl,?_⟩
  refine ⟨_,Od rfl,?_⟩
  refine ⟨ld_own rfl rfl rfl,?_⟩
  refine ⟨_,op_cat (a := itoaB e.inc ++ rankT e.rank ++ itoaB e.beat ++ ⟨#[46]⟩ ++ itoaB e.ver ++ ⟨#[58]⟩) (b := e.data) rfl rfl rfl (by simp only [ByteArray.size_append]; omega),?_⟩
  exact cxs (Rt ⟨rfl,rfl⟩)
 ·replace h7 : e.rank = 0 := beq_iff_eq.1 h7
  refine Cm 1 st [Ml 1 0,(2,.string ⟨#[]⟩),(3,.string ⟨#[63]⟩),(5,vI e.rank),(6,vB true)] [(1,0,[vI e.inc,vI e.rank,vI e.beat,vI e.ver,.string e.data])] fun _ _ => ?_
  have hr : (⟨#[117]⟩ : ByteArray) = rankT e.rank := (if_pos h7).symm
  refine Cm 1 st [Ml 1 0,(2,.string ⟨#[]⟩),(3,.string ⟨#[117]⟩)] [(1,0,[vI e.inc,vI e.rank,vI e.beat,vI e.ver,.string e.data])] fun _ _ => ?_
  refine ⟨_,rfl,?_⟩
  refine ⟨_,Od rfl,?_⟩
  refine ⟨_,rfl,(ac_impl_Digits e.inc st i1 hT).mono ?_⟩
  rintro _ st ⟨rfl,rfl⟩
  refine ⟨fun _ _ => rfl,?_⟩
  refine ⟨_,op_cat (a := itoaB e.inc) (b := rankT e.rank) rfl rfl (congrArg Value.string (if_pos h7).symm) (by omega),?_⟩
  refine ⟨_,rfl,?_⟩
  refine ⟨_,Od rfl,?_⟩
  refine ⟨ld_own rfl rfl rfl,?_⟩
  refine ⟨_,rfl,(ac_impl_Digits e.beat st i2 hT).mono ?_⟩
  rintro _ st ⟨rfl,rfl⟩
  refine ⟨fun _ _ => rfl,?_⟩
  refine ⟨_,op_cat (a := itoaB e.inc ++ rankT e.rank) (b := itoaB e.beat) rfl rfl rfl (by simp only [ByteArray.size_append]; omega),?_⟩
  refine ⟨_,op_cat (a := itoaB e.inc ++ rankT e.rank ++ itoaB e.beat) (b := ⟨#[46]⟩) rfl rfl rfl (by simp only [ByteArray.size_append]; omega),?_⟩
  refine ⟨_,rfl,?_⟩
  refine ⟨_,Od rfl,?_⟩
  refine ⟨ld_own rfl rfl rfl,?_⟩
  refine ⟨_,rfl,(ac_impl_Digits e.ver st i3 hT).mono ?_⟩
  rintro _ st ⟨rfl,rfl⟩
  refine ⟨fun _ _ => rfl,?_⟩
  refine ⟨_,op_cat (a := itoaB e.inc ++ rankT e.rank ++ itoaB e.beat ++ ⟨#[46]⟩) (b := itoaB e.ver) rfl rfl rfl (by simp only [ByteArray.size_append]; omega),?_⟩
  refine ⟨_,op_cat (a := itoaB e.inc ++ rankT e.rank ++ itoaB e.beat ++ ⟨#[46]⟩ ++ itoaB e.ver) (b := ⟨#[58]⟩) rfl rfl rfl (by simp only [ByteArray.size_append]; omega),?_⟩
  refine ⟨_,rfl,?_⟩
  refine ⟨_,Od rfl,?_⟩
  refine ⟨ld_own rfl rfl rfl,?_⟩
  refine ⟨_,op_cat (a := itoaB e.inc ++ rankT e.rank ++ itoaB e.beat ++ ⟨#[46]⟩ ++ itoaB e.ver ++ ⟨#[58]⟩) (b := e.data) rfl rfl rfl (by simp only [ByteArray.size_append]; omega),?_⟩
  exact cxs (Rt ⟨rfl,rfl⟩)
theorem ac_impl_StateText (p : Option Addr) (l : List Itm) (st : St) (hR : Rows st 6 cItm p l) (hs : szOk l.length) (hl : ∀ x ∈ l,i64 x.id ∧ entOk x.e) (hT : Tab st) : C 31 [.agg #[vS p l.length,.slice none 0 0]] st (fun v s => v = .string (txtI l) ∧ Pres st s) := by
 have hs1 : l.length ≤ 1048576 := hs
 refine AC.enterX (i := ⟨[1,5,7],[1,5,7,9,17,21,28,36,41],[0,1,2,3,5,7,10,11,12,13,29,30,31,32],[]⟩) [(5,[3],[6]),(10,[3],[7])] Tryd.func31 rfl rfl (by kernel_rfl) (by kernel_rfl) Tryd.ntmps31 (Lb rfl) rfl ?_
 refine ⟨_,rfl,?_⟩
 refine Cm 1 st [Ml 1 0,(2,.string ⟨#[]⟩)] [(1,0,[vS p l.length,Sn])] fun _ _ => ?_
 refine op_nilK (z := 1) (f := fT) rfl rfl rfl rfl (by decide) rfl ?_
 intro q8 s8 hO8 hP8 hN8
 refine Cm 1 s8 [Ml 1 0,(2,.string ⟨#[]⟩),(3,vS q8 0)] [(1,0,[vS p l.length,Sn])] fun _ _ => ?_
 refine ⟨_,rfl,?_⟩
 refine ⟨_,Od rfl,?_⟩
 refine ⟨_,rfl,?_⟩
 refine Cm 1 s8 [Ml 1 0,(2,.string ⟨#[]⟩),(3,vS q8 0),(10,vS p l.length),(11,vI (l.length : Int)),(12,vI 0)] [(1,0,[vS p l.length,Sn])] fun _ _ => ?_
 refine AW.loopM (fun x : Nat × Option Addr × List ByteArray => [(1,vL 1 0 (0)),(2,.string ⟨#[]⟩),(3,vS x.2.1 x.2.2.length),(10,vS p l.length),(11,vI (l.length : Int)),(12,vI (x.1 : Int))]) (fun x : Nat × Option Addr × List ByteArray => [(1,0,[vS p l.length,.slice none 0 0])]) (fun m (x : Nat × Option Addr × List ByteArray) st' => m = l.length - x.1 ∧ x.1 ≤ l.length ∧ x.2.2 = (l.take x.1).map itmT ∧ OwnR st' 1 fT x.2.1 x.2.2 ∧ New st.next x.2.1 ∧ Pres st st') (0,q8,[]) _ ⟨rfl,rfl,rfl,rfl,rfl,rfl,trivial⟩ ⟨rfl,trivial⟩ ⟨rfl,Nat.zero_le _,rfl,hO8,hN8,hP8⟩ ?_
 rintro m ⟨i,q,b⟩ ρ0 ff gg st' ⟨rfl,hi,hv,hO,hN,hP⟩
 simp only at hi hv hO hN
 have hbl : b.length ≤ l.length := by rw [hv,List.length_map,List.length_take]; omega
 have hT' := hT.pres hP
 refine ⟨_,rfl,?_⟩
 rintro (_|_) h13
 ·replace h13 : ¬ ((i : Int) < (l.length : Int)) := of_decide_eq_false h13
  refine Cm gg st' [Ml 1 0,(2,.string ⟨#[]⟩),(3,vS q b.length),(10,vS p l.length),(11,vI (l.length : Int)),(12,vI (i : Int)),(13,vB false)] [(1,0,[vS p l.length,Sn])] fun _ _ => ?_
  refine cxs ?_
  refine ⟨_,rfl,?_⟩
  refine ⟨_,Od rfl,?_⟩
  refine ⟨_,rfl,?_⟩
  refine Cm gg st' [(2,.string ⟨#[]⟩),(3,vS q b.length),(29,Sn),(30,_),(31,vI 0)] [] fun _ _ => ?_
  refine AW.loopM (fun j : Nat => [(2,.string ⟨#[]⟩),(3,vS q b.length),(29,.slice none 0 0),(30,vI 0),(31,vI (j : Int))]) (fun j : Nat => []) (fun m (j : Nat) st' => m = 0 ∧ j = 0 ∧ OwnR st' 1 fT q b ∧ Pres st st') 0 _ ⟨rfl,rfl,rfl,rfl,rfl,trivial⟩ trivial ⟨rfl,rfl,hO,hP⟩ ?_
  rintro m j ρ0 ff gg st' ⟨rfl,hj,hO,hP⟩
  refine ⟨_,rfl,?_⟩
  rintro (_|_) h32
  rotate_left
  ·exact absurd (of_decide_eq_true h32) ((by omega))
  refine Cm gg st' [(2,.string ⟨#[]⟩),(3,vS q b.length),(29,Sn),(30,vI 0),(31,vI (j : Int)),(32,vB false)] [] fun _ _ => ?_
  refine cxs ?_
  have hbe : b = l.map itmT := by rw [hv,show i = l.length by omega,List.take_length]
  refine ⟨_,rfl,(ac_strings_Join q b ⟨#[32]⟩ st' (hO.rows fT_len) (by omega) (by
  have := joinB_le (m := 92) (l := b) (sep := ⟨#[32]⟩) (Nat.le_refl 1) fun x hx => by
   rw [hbe] at hx
   obtain ⟨y,hy,rfl⟩ := List.mem_map.1 hx
   exact itmT_size (hl y hy).1 (hl y hy).2
  omega)).mono ?_⟩
  rintro _ st' ⟨rfl,rfl⟩
  exact cxs (Rt ⟨congrArg Value.string (by rw [hbe]; rfl),hP⟩)
 ·replace h13 : (i : Int) < (l.length : Int) := of_decide_eq_true h13
  refine Cm gg st' [Ml 1 0,(2,.string ⟨#[]⟩),(3,vS q b.length),(10,vS p l.length),(11,vI (l.length : Int)),(12,vI (i : Int)),(13,vB true)] [(1,0,[vS p l.length,Sn])] fun _ _ => ?_
  refine cxs ?_
  refine op_at i (hP.rows hR) (by omega) rfl rfl rfl rfl rfl rfl rfl ?_
  intro x14 b14 d14 k14 hy14 hb14 hm14 hc14 ho14
  refine ⟨_,op_lda rfl rfl rfl rfl rfl hm14 hc14 rfl,?_⟩
  refine ⟨_,rfl,?_⟩
  refine ⟨_,Os rfl,?_⟩
  refine Cm (gg + 1) st' [Ml 1 0,(2,.string ⟨#[]⟩),(3,vS q b.length),Ml 5 gg,(10,vS p l.length),(11,vI (l.length : Int)),(12,vI (i : Int)),(13,vB true)] [(1,0,[vS p l.length,Sn]),(5,gg,[vI x14.id,vI x14.e.inc,vI x14.e.rank,vI x14.e.beat,vI x14.e.ver,.string x14.e.data])] fun _ _ => ?_
  refine ⟨_,rfl,?_⟩
  refine ⟨_,Od rfl,?_⟩
  obtain ⟨hx1,hx2⟩ := hl _ (List.mem_of_getElem? hy14)
  have z1 := itoaB_size hx1
  have z2 := entT_size hx2
  refine ⟨_,rfl,(ac_impl_Digits x14.id st' hx1 hT').mono ?_⟩
  rintro _ st' ⟨rfl,rfl⟩
  refine ⟨fun _ _ => rfl,?_⟩
  refine ⟨_,op_cat (a := itoaB x14.id) (b := ⟨#[61]⟩) rfl rfl rfl (by show _ + 1 ≤ _; omega),?_⟩
  refine ⟨_,rfl,?_⟩
  refine ⟨_,Od rfl,?_⟩
  refine ⟨ld_own rfl rfl rfl,?_⟩
  refine ⟨_,rfl,(ac_impl_EntryText x14.e st' hx2 hT').mono ?_⟩
  rintro _ st' ⟨rfl,rfl⟩
  refine ⟨_,op_cat (a := itoaB x14.id ++ ⟨#[61]⟩) (b := entT x14.e) rfl rfl rfl (by rw [ByteArray.size_append]; show _ + 1 + _ ≤ _; omega),?_⟩
  refine op_one (z := 1) (a := ((itmT x14) : ByteArray)) (f := fT) rfl rfl rfl rfl rfl (by decide) rfl (Lb rfl) rfl rfl rfl ?_
  refine op_snoc (z := 1) (st := st') (f := fT) (b := 16) (l := b) (x := (itmT x14)) rfl rfl rfl rfl rfl rfl rfl (by decide) fT_len rfl rfl rfl (by omega) (by unfold maxLen; omega) hO ?_
  intro q26 s26 hO26 hP26 hN26
  refine Cm (gg + 1) s26 [Ml 1 0,(2,.string ⟨#[]⟩),(3,vS q26 (b ++ [(itmT x14)]).length),Ml 5 gg,(10,vS p l.length),(11,vI (l.length : Int)),(12,vI (i : Int)),(13,vB true)] [(1,0,[vS p l.length,Sn]),(5,gg,[vI x14.id,vI x14.e.inc,vI x14.e.rank,vI x14.e.beat,vI x14.e.ver,.string x14.e.data])] fun _ _ => ?_
  have ew27 : IntKind.wrap .i64 ((i : Int) + (1)) = ((i + 1 : Nat) : Int) := (wrap_i64 (by omega) (by omega)).trans (by omega)
  refine ⟨_,rfl,?_⟩
  exact ⟨(i + 1,q26,b ++ [itmT x14]),l.length - (i + 1),by omega,⟨rfl,rfl,rfl,rfl,rfl,congrArg (Value.int .i64) ew27,trivial⟩,⟨rfl,trivial⟩,rfl,by simp only; omega,by simp only; rw [take_snoc hy14,List.map_append,← hv]; rfl,hO26,hN26.le hP.1,hP26.pres hP hN⟩
theorem view_ok {s : Sta} : ∀ x ∈ viewF s,i64 x.id ∧ entOk x.e := by
 unfold viewF
 split
 ·rename_i h
  intro x hx
  obtain ⟨j,hj⟩ := List.getElem?_of_mem (List.mem_filter.1 hx).1
  obtain ⟨h1,h2,_⟩ := h.1 j x hj
  exact ⟨i64_of (by omega),h2⟩
 ·intro x hx; cases hx
theorem ac_impl_ViewText (s : SV) (st : St) (hR : RdS st s) (hb : bigS s.x) (hT : Tab st) : C 14 [.agg #[vS s.p s.x.items.length,vS s.q s.x.floors.length]] st (fun v s' => v = .string (txtI (viewF s.x)) ∧ Pres st s') := by
 refine AC.enterX (i := ⟨[1],[1],[0,1,2],[]⟩) [] Tryd.func14 rfl rfl (by kernel_rfl) (by kernel_rfl) Tryd.ntmps14 (Lb rfl) rfl ?_
 refine ⟨_,rfl,?_⟩
 refine Cm 1 st [Ml 1 0,(2,.string ⟨#[]⟩)] [(1,0,cSV s)] fun _ _ => ?_
 refine ⟨_,Od rfl,?_⟩
 refine ⟨_,rfl,(ac_impl_View s st hR (by first | assumption | omega)).mono ?_⟩
 rintro _ s4 ⟨q4,rfl,hO4,hN4,hP4⟩
 refine ⟨_,rfl,?_⟩
 refine ⟨_,rfl,(ac_impl_StateText q4 (viewF s.x) s4 (hO4.rows len_cItm) (view_big hb).1 view_ok (hT.pres hP4)).mono ?_⟩
 rintro _ s6 ⟨rfl,hP6⟩
 exact cxs (Rt ⟨rfl,hP4.trans hP6⟩)
theorem filter_fmap {α : Type} (p : Itm → Bool) (f : α → Option Itm) (l : List α) : (l.filterMap f).filter p = l.filterMap fun x => (f x).filter p := by
 induction l with
 | nil => rfl
 | cons x l ih =>
  rw [List.filterMap_cons,List.filterMap_cons]
  cases f x with
  | none => simpa using ih
  | some y =>
   by_cases hp : p y = true
   ·simp [hp,ih,Option.filter]
   ·simp [hp,ih,Option.filter]
theorem view_eq {s : Sta} (h : stateOk s) : viewF s = (List.range 5).filterMap fun (j : Nat) => if 1 ≤ (gE s (j : Int)).inc ∧ (gE s (j : Int)).rank = 0 then some (⟨(j : Int),gE s (j : Int)⟩ : Itm) else none := by
 unfold viewF
 rw [if_pos h]
 show s.items.filter _ = _
 conv => lhs; rw [items_canon h]
 rw [filter_fmap]
 refine fmap_congr fun j _ => ?_
 have hin := gE_in h (j : Int)
 by_cases h1 : (entP s.items (j : Int)).2 = true
 ·rw [if_pos h1]
  by_cases h2 : (gE s (j : Int)).rank = 0
  ·rw [if_pos ⟨hin.1 h1,h2⟩]
   have h3 : (entP s.items (j : Int)).1.rank = 0 := h2
   simp [Option.filter,h3]; rfl
  ·rw [if_neg (fun k => h2 k.2)]
   have h3 : ¬ (entP s.items (j : Int)).1.rank = 0 := h2
   simp [Option.filter,h3]
 ·rw [if_neg h1,if_neg (fun k => h1 (hin.2 k.1))]
  rfl
theorem prune_gE {s : Sta} (h : stateOk s) (t : List (List Int)) {j : Nat} (hj : j < 5) : gE (pruneF s t) (j : Int) = cut (max (gF s (j : Int)) (max (pruneG s t (j : Int)) 0)) (gE s (j : Int)) := by
 rw [prune_eq h,gE_join _ _ hj,FS_gF _ hj,FS_gE,entMax_comm,entMax_zl (gE_v h _)]
theorem prune_gF {s : Sta} (h : stateOk s) (t : List (List Int)) {j : Nat} (hj : j < 5) : gF (pruneF s t) (j : Int) = max (gF s (j : Int)) (max (pruneG s t (j : Int)) 0) := by
 rw [prune_eq h,gF_join h (FS_ok (pruneG_le h t)) hj,FS_gF _ hj]
theorem pruneG_eq (s : Sta) (t : List (List Int)) (i : Int) : pruneG s t i = min (common t i) (goneAt s i) := rfl
theorem view_prune {s : Sta} (h : stateOk s) (t : List (List Int)) : viewF (pruneF s t) = viewF s := by
 rw [view_eq h,view_eq (prune_ok h t)]
 refine fmap_congr fun j hj => ?_
 have hj := List.mem_range.1 hj
 rw [prune_gE h t hj]
 have hv := gE_v h (j : Int)
 have hc := gE_cut h (j : Int)
 have hgo := goneAt_eq h (j : Int)
 have hF := gF_pos h (j : Int)
 by_cases h1 : 1 ≤ (gE s (j : Int)).inc ∧ (gE s (j : Int)).rank = 0
 ·have hlt : gF s (j : Int) < (gE s (j : Int)).inc := ((gon_rng hF.1 hv hc).2.2 h1.1).2
  rw [if_pos h1.1,if_neg (by omega)] at hgo
  have hp : pruneG s t (j : Int) ≤ (gE s (j : Int)).inc - 1 := by rw [pruneG_eq,hgo]; exact Int.min_le_right _ _
  have hcut : cut (max (gF s (j : Int)) (max (pruneG s t (j : Int)) 0)) (gE s (j : Int)) = gE s (j : Int) := by
   unfold cut
   rw [if_pos (by omega)]
  rw [hcut]
 ·rw [if_neg h1]
  by_cases h2 : (gE s (j : Int)).inc > max (gF s (j : Int)) (max (pruneG s t (j : Int)) 0)
  ·rw [show cut (max (gF s (j : Int)) (max (pruneG s t (j : Int)) 0)) (gE s (j : Int)) = gE s (j : Int) from if_pos h2,if_neg h1]
  ·rw [show cut (max (gF s (j : Int)) (max (pruneG s t (j : Int)) 0)) (gE s (j : Int)) = zEnt from if_neg h2,if_neg (fun k => absurd k.1 (by decide))]
theorem Frs.t0 {a : St} : Frs a a (pcTT ⟨none,[]⟩) := ⟨OwnP.one (.inl ⟨rfl,rfl⟩),NewP.cons New.none NewP.nil,Pres.refl _⟩
theorem Frs.r0 {a : St} : Frs a a (pcRis ⟨none,[]⟩) := ⟨OwnP.one (.inl ⟨rfl,rfl⟩),NewP.cons New.none NewP.nil,Pres.refl _⟩
theorem Frs.s0 {a : St} : Frs a a (pcS ⟨none,none,nilS⟩) := ⟨pcS_nil,newS_nil,Pres.refl _⟩
theorem Frs.got {s0 st st' : St} {v : NW} {q : RV} (h : Frs s0 st (pcNW v)) (hF : Frs st st' (pcIs q)) : Frs s0 st' (pcNW { v with got := q }) := by
 have e : ∀ x : RV,pcNW { v with got := x } = (pcS v.s ++ (pcIs v.t.toRV ++ pcLog v.g)) ++ (pcIs x ++ (pcIs v.acked ++ (pcTT v.seen ++ (pcSes v.sess ++ pcRis v.rises)))) := fun x => by simp only [List.append_assoc]
 rw [e]
 exact Frs.swap (c := pcIs v.got) (by rw [← e]; exact h) hF
theorem Frs.acked {s0 st st' : St} {v : NW} {q : RV} (h : Frs s0 st (pcNW v)) (hF : Frs st st' (pcIs q)) : Frs s0 st' (pcNW { v with acked := q }) := by
 have e : ∀ x : RV,pcNW { v with acked := x } = (pcS v.s ++ (pcIs v.t.toRV ++ (pcLog v.g ++ pcIs v.got))) ++ (pcIs x ++ (pcTT v.seen ++ (pcSes v.sess ++ pcRis v.rises))) := fun x => by simp only [List.append_assoc]
 rw [e]
 exact Frs.swap (c := pcIs v.acked) (by rw [← e]; exact h) hF
theorem ac_d_l2Draw {p : Option Addr} {bs : List Int} (c : Nat) (st : St) (hc : Cur st c p bs) (hs : bs.length < 1099511627776) : C 60 [vP c 0] st (fun v s => ∃ e : Ent,v = .agg #[vI e.inc,vI e.rank,vI e.beat,vI e.ver,.string e.data] ∧ e.data.size ≤ 9 ∧ Cur s c p bs ∧ PresC c st s) := by
 refine AC.enterX (i := ⟨[2,3],[2,3,13,19,25,31,34],[0,2,3,7,8,14,20,26,32],[]⟩) [] Tryd.func60 rfl rfl (by kernel_rfl) (by kernel_rfl) Tryd.ntmps60 (Lb rfl) rfl ?_
 refine ⟨_,rfl,?_⟩
 refine Cm 1 st [(0,vP c 0),Ml 2 0] [(2,0,[vI 0,vI 0,vI 0,vI 0,.string ⟨#[]⟩])] fun _ _ => ?_
 refine ⟨_,rfl,(ac_d_l2Right c st hc (by first | assumption | omega)).mono ?_⟩
 rintro _ s5 ⟨e5,rfl,h5,hC5,hL5⟩
 refine ⟨_,rfl,?_⟩
 refine ⟨_,Os rfl,?_⟩
 refine Cm 2 s5 [(0,vP c 0),Ml 2 0,Ml 3 1] [(2,0,[vI 0,vI 0,vI 0,vI 0,.string ⟨#[]⟩]),(3,1,[vI e5.inc,vI e5.rank,vI e5.beat,vI e5.ver,.string e5.data])] fun _ _ => ?_
 have hd : e5.data.size ≤ 9 := Nat.le_trans h5.2.2.2.2 (by decide)
 refine ⟨_,rfl,(ac_d_l1Below c 14 s5 hC5 (by first | assumption | omega)).mono ?_⟩
 rintro _ s7 ⟨r7,rfl,h7,h7',h7'',hC7,hL7⟩
 refine Cm 2 s7 [(0,vP c 0),Ml 2 0,Ml 3 1,(7,vI r7)] [(2,0,[vI 0,vI 0,vI 0,vI 0,.string ⟨#[]⟩]),(3,1,[vI e5.inc,vI e5.rank,vI e5.beat,vI e5.ver,.string e5.data])] fun _ _ => ?_
 refine ⟨_,rfl,?_⟩
 rintro (_|_) h9
 ·replace h9 : ¬ (r7 = (0)) := beq_eq_false_iff_ne.1 h9
  refine Cm 2 s7 [(0,vP c 0),Ml 2 0,Ml 3 1,(7,vI r7),(8,vB false)] [(2,0,[vI 0,vI 0,vI 0,vI 0,.string ⟨#[]⟩]),(3,1,[vI e5.inc,vI e5.rank,vI e5.beat,vI e5.ver,.string e5.data])] fun _ _ => ?_
  refine ⟨_,rfl,?_⟩
  rintro (_|_) h15
  ·replace h15 : ¬ (r7 = (1)) := beq_eq_false_iff_ne.1 h15
   refine Cm 2 s7 [(0,vP c 0),Ml 2 0,Ml 3 1,(7,vI r7),(14,vB false)] [(2,0,[vI 0,vI 0,vI 0,vI 0,.string ⟨#[]⟩]),(3,1,[vI e5.inc,vI e5.rank,vI e5.beat,vI e5.ver,.string e5.data])] fun _ _ => ?_
   refine ⟨_,rfl,?_⟩
   rintro (_|_) h21
   ·replace h21 : ¬ (r7 = (2)) := beq_eq_false_iff_ne.1 h21
    refine Cm 2 s7 [(0,vP c 0),Ml 2 0,Ml 3 1,(7,vI r7),(20,vB false)] [(2,0,[vI 0,vI 0,vI 0,vI 0,.string ⟨#[]⟩]),(3,1,[vI e5.inc,vI e5.rank,vI e5.beat,vI e5.ver,.string e5.data])] fun _ _ => ?_
    refine ⟨_,rfl,?_⟩
    rintro (_|_) h27
    ·replace h27 : ¬ (r7 = (3)) := beq_eq_false_iff_ne.1 h27
     refine Cm 2 s7 [(0,vP c 0),Ml 2 0,Ml 3 1,(7,vI r7),(26,vB false)] [(2,0,[vI 0,vI 0,vI 0,vI 0,.string ⟨#[]⟩]),(3,1,[vI e5.inc,vI e5.rank,vI e5.beat,vI e5.ver,.string e5.data])] fun _ _ => ?_
     refine ⟨_,rfl,?_⟩
     rintro (_|_) h33
     ·replace h33 : ¬ (r7 = (4)) := beq_eq_false_iff_ne.1 h33
      refine Cm 2 s7 [Ml 2 0,Ml 3 1,(32,vB false)] [(2,0,[vI 0,vI 0,vI 0,vI 0,.string ⟨#[]⟩]),(3,1,[vI e5.inc,vI e5.rank,vI e5.beat,vI e5.ver,.string e5.data])] fun _ _ => ?_
      refine cxs ?_
      refine ⟨_,Od rfl,?_⟩
      refine ⟨_,Os rfl,?_⟩
      exact cxs (Rt ⟨e5,rfl,hd,hC7,hL5.trans hL7⟩)
     ·replace h33 : r7 = (4) := beq_iff_eq.1 h33
      refine Cm 2 s7 [Ml 2 0,Ml 3 1,(32,vB true)] [(2,0,[vI 0,vI 0,vI 0,vI 0,.string ⟨#[]⟩]),(3,1,[vI e5.inc,vI e5.rank,vI e5.beat,vI e5.ver,.string e5.data])] fun _ _ => ?_
      refine ⟨_,rfl,?_⟩
      refine ⟨_,Os rfl,?_⟩
      refine Cm 2 s7 [Ml 2 0,Ml 3 1] [(2,0,[vI 0,vI 0,vI 0,vI 0,.string ⟨#[]⟩]),(3,1,[vI e5.inc,vI e5.rank,vI e5.beat,vI e5.ver,.string ⟨#[49,50,51,52,53,54,55,56,57]⟩])] fun _ _ => ?_
      refine ⟨_,Od rfl,?_⟩
      refine ⟨_,Os rfl,?_⟩
      exact cxs (Rt ⟨⟨e5.inc,e5.rank,e5.beat,e5.ver,⟨#[49,50,51,52,53,54,55,56,57]⟩⟩,rfl,by show 9 ≤ 9; exact Nat.le_refl 9,hC7,hL5.trans hL7⟩)
    ·replace h27 : r7 = (3) := beq_iff_eq.1 h27
     refine Cm 2 s7 [(0,vP c 0),Ml 2 0,Ml 3 1,(7,vI r7),(26,vB true)] [(2,0,[vI 0,vI 0,vI 0,vI 0,.string ⟨#[]⟩]),(3,1,[vI e5.inc,vI e5.rank,vI e5.beat,vI e5.ver,.string e5.data])] fun _ _ => ?_
     refine op_litI (k := .i64) (l := [-1,1000,1001]) rfl rfl rfl rfl rfl rfl (Lb rfl) ?_
     intro q29 s29 hO29 hP29 hN29
     refine ⟨_,rfl,(ac_d_l1PickInt c q29 ([-1,1000,1001]) s29 (hC7.pres hP29) (by first | assumption | omega) (by first | assumption | omega | decide) (by first | assumption | omega) (by first | assumption | exact NC.new (by assumption) (Cur.lt (by assumption)))).mono ?_⟩
     rintro _ s30 ⟨r30,rfl,h30,hC30,hL30⟩
     refine ⟨_,rfl,?_⟩
     refine ⟨_,Os rfl,?_⟩
     refine Cm 2 s30 [Ml 2 0,Ml 3 1] [(2,0,[vI 0,vI 0,vI 0,vI 0,.string ⟨#[]⟩]),(3,1,[vI e5.inc,vI e5.rank,vI e5.beat,vI r30,.string e5.data])] fun _ _ => ?_
     refine ⟨_,Od rfl,?_⟩
     refine ⟨_,Os rfl,?_⟩
     exact cxs (Rt ⟨⟨e5.inc,e5.rank,e5.beat,r30,e5.data⟩,rfl,hd,hC30,((hL5.trans hL7).trans hP29.c).trans hL30⟩)
   ·replace h21 : r7 = (2) := beq_iff_eq.1 h21
    refine Cm 2 s7 [(0,vP c 0),Ml 2 0,Ml 3 1,(7,vI r7),(20,vB true)] [(2,0,[vI 0,vI 0,vI 0,vI 0,.string ⟨#[]⟩]),(3,1,[vI e5.inc,vI e5.rank,vI e5.beat,vI e5.ver,.string e5.data])] fun _ _ => ?_
    refine op_litI (k := .i64) (l := [-1,100000,100001]) rfl rfl rfl rfl rfl rfl (Lb rfl) ?_
    intro q23 s23 hO23 hP23 hN23
    refine ⟨_,rfl,(ac_d_l1PickInt c q23 ([-1,100000,100001]) s23 (hC7.pres hP23) (by first | assumption | omega) (by first | assumption | omega | decide) (by first | assumption | omega) (by first | assumption | exact NC.new (by assumption) (Cur.lt (by assumption)))).mono ?_⟩
    rintro _ s24 ⟨r24,rfl,h24,hC24,hL24⟩
    refine ⟨_,rfl,?_⟩
    refine ⟨_,Os rfl,?_⟩
    refine Cm 2 s24 [Ml 2 0,Ml 3 1] [(2,0,[vI 0,vI 0,vI 0,vI 0,.string ⟨#[]⟩]),(3,1,[vI e5.inc,vI e5.rank,vI r24,vI e5.ver,.string e5.data])] fun _ _ => ?_
    refine ⟨_,Od rfl,?_⟩
    refine ⟨_,Os rfl,?_⟩
    exact cxs (Rt ⟨⟨e5.inc,e5.rank,r24,e5.ver,e5.data⟩,rfl,hd,hC24,((hL5.trans hL7).trans hP23.c).trans hL24⟩)
  ·replace h15 : r7 = (1) := beq_iff_eq.1 h15
   refine Cm 2 s7 [(0,vP c 0),Ml 2 0,Ml 3 1,(7,vI r7),(14,vB true)] [(2,0,[vI 0,vI 0,vI 0,vI 0,.string ⟨#[]⟩]),(3,1,[vI e5.inc,vI e5.rank,vI e5.beat,vI e5.ver,.string e5.data])] fun _ _ => ?_
   refine op_litI (k := .i64) (l := [-1,2]) rfl rfl rfl rfl rfl rfl (Lb rfl) ?_
   intro q17 s17 hO17 hP17 hN17
   refine ⟨_,rfl,(ac_d_l1PickInt c q17 ([-1,2]) s17 (hC7.pres hP17) (by first | assumption | omega) (by first | assumption | omega | decide) (by first | assumption | omega) (by first | assumption | exact NC.new (by assumption) (Cur.lt (by assumption)))).mono ?_⟩
   rintro _ s18 ⟨r18,rfl,h18,hC18,hL18⟩
   refine ⟨_,rfl,?_⟩
   refine ⟨_,Os rfl,?_⟩
   refine Cm 2 s18 [Ml 2 0,Ml 3 1] [(2,0,[vI 0,vI 0,vI 0,vI 0,.string ⟨#[]⟩]),(3,1,[vI e5.inc,vI r18,vI e5.beat,vI e5.ver,.string e5.data])] fun _ _ => ?_
   refine ⟨_,Od rfl,?_⟩
   refine ⟨_,Os rfl,?_⟩
   exact cxs (Rt ⟨⟨e5.inc,r18,e5.beat,e5.ver,e5.data⟩,rfl,hd,hC18,((hL5.trans hL7).trans hP17.c).trans hL18⟩)
 ·replace h9 : r7 = (0) := beq_iff_eq.1 h9
  refine Cm 2 s7 [(0,vP c 0),Ml 2 0,Ml 3 1,(7,vI r7),(8,vB true)] [(2,0,[vI 0,vI 0,vI 0,vI 0,.string ⟨#[]⟩]),(3,1,[vI e5.inc,vI e5.rank,vI e5.beat,vI e5.ver,.string e5.data])] fun _ _ => ?_
  refine op_litI (k := .i64) (l := [0,1000,1001,-1]) rfl rfl rfl rfl rfl rfl (Lb rfl) ?_
  intro q11 s11 hO11 hP11 hN11
  refine ⟨_,rfl,(ac_d_l1PickInt c q11 ([0,1000,1001,-1]) s11 (hC7.pres hP11) (by first | assumption | omega) (by first | assumption | omega | decide) (by first | assumption | omega) (by first | assumption | exact NC.new (by assumption) (Cur.lt (by assumption)))).mono ?_⟩
  rintro _ s12 ⟨r12,rfl,h12,hC12,hL12⟩
  refine ⟨_,rfl,?_⟩
  refine ⟨_,Os rfl,?_⟩
  refine Cm 2 s12 [Ml 2 0,Ml 3 1] [(2,0,[vI 0,vI 0,vI 0,vI 0,.string ⟨#[]⟩]),(3,1,[vI r12,vI e5.rank,vI e5.beat,vI e5.ver,.string e5.data])] fun _ _ => ?_
  refine ⟨_,Od rfl,?_⟩
  refine ⟨_,Os rfl,?_⟩
  exact cxs (Rt ⟨⟨r12,e5.rank,e5.beat,e5.ver,e5.data⟩,rfl,hd,hC12,((hL5.trans hL7).trans hP11.c).trans hL12⟩)
open Classical in
noncomputable def singF (id : Int) (e : Ent) : Sta × Bool := if stateOk ⟨[⟨id,e⟩],[]⟩ then (⟨[⟨id,e⟩],[]⟩,true) else (nilS,false)
theorem sing_ok {id : Int} {e : Ent} {x : Sta} {b : Bool} (h : (x,b) = singF id e) : stateOk x := by
 unfold singF at h
 split at h
 ·injection h with h _; rw [h]; assumption
 ·injection h with h _; rw [h]; exact stateOk_nil
theorem ac_spec_Single (id : Int) (e : Ent) (st : St) (hz : e.data.size ≤ 1048576) : C 75 [vI id,.agg #[vI e.inc,vI e.rank,vI e.beat,vI e.ver,.string e.data]] st (fun v s => ∃ (u : SV) (b : Bool),v = .tuple #[.agg #[vS u.p u.x.items.length,vS u.q u.x.floors.length],vB b] ∧ (u.x,b) = singF id e ∧ OwnP s (pcS u) ∧ NewP st.next (pcS u) ∧ Pres st s) := by
 refine AC.enterX (i := ⟨[3,4,6],[3,4,6],[0,1,3,4,5,6,14],[]⟩) [] Tryd.func75 rfl rfl (by kernel_rfl) (by kernel_rfl) Tryd.ntmps75 (Lb rfl) rfl ?_
 iterate 2 refine ⟨_,rfl,?_⟩
 refine Cm 2 st [(0,vI id),Ml 3 0,Ml 4 1,(5,vB false)] [(3,0,[vI e.inc,vI e.rank,vI e.beat,vI e.ver,.string e.data]),(4,1,[Sn,Sn])] fun _ _ => ?_
 refine ⟨_,Od rfl,?_⟩
 refine ⟨_,rfl,?_⟩
 refine op_one (z := 6) (a := (⟨id,e⟩ : Itm)) (f := cItm) rfl rfl rfl rfl rfl (by decide) rfl (Lb rfl) rfl rfl rfl ?_
 iterate 2 refine ⟨_,rfl,?_⟩
 refine ⟨_,Os rfl,?_⟩
 refine Cm 3 (st.push 6 ([(⟨id,e⟩ : Itm)].flatMap cItm)) [Ml 4 1,(5,vB false),Ml 6 2] [(4,1,[Sn,Sn]),(6,2,[vS (some ⟨st.next,0,none⟩) 1,Sn])] fun _ _ => ?_
 have hO : OwnR (st.push 6 ([(⟨id,e⟩ : Itm)].flatMap cItm)) 6 cItm (some ⟨st.next,0,none⟩) [(⟨id,e⟩ : Itm)] := OwnR.push
 obtain ⟨s1,hs1⟩ : ∃ s,s = st.push 6 ([(⟨id,e⟩ : Itm)].flatMap cItm) := ⟨_,rfl⟩
 have hP1 : Pres st (st.push 6 ([(⟨id,e⟩ : Itm)].flatMap cItm)) := Pres.push
 rw [← hs1] at hO hP1 ⊢
 have hF : Frs st s1 (pcS ⟨some ⟨st.next,0,none⟩,none,⟨[⟨id,e⟩],[]⟩⟩) := ⟨⟨fun d hd => by
  rcases List.mem_cons.1 hd with rfl | hd
  ·exact own_pc hO
  ·rw [List.mem_singleton.1 hd]; exact .inl ⟨rfl,rfl⟩,List.pairwise_pair.2 (Dis.symm Dis.none)⟩,NewP.cons (by intro r hr; injection hr with hr; rw [← hr]; exact Nat.le_refl _) (NewP.cons New.none NewP.nil),hP1⟩
 have hb : bigS ⟨[⟨id,e⟩],[]⟩ := ⟨show 1 ≤ 1048576 by decide,Nat.zero_le _,fun y hy => by rw [List.mem_singleton.1 hy]; exact hz⟩
 refine ⟨_,Od rfl,?_⟩
 refine ⟨_,rfl,(ac_spec_StateOk ⟨some ⟨st.next,0,none⟩,none,⟨[⟨id,e⟩],[]⟩⟩ s1 hF.1.rdS hb).mono ?_⟩
 rintro _ s1 ⟨x13,rfl,h13,rfl⟩
 rcases x13 with _|_
 ·replace h13 := fun k => Bool.false_ne_true (h13.2 k)
  refine ⟨_,rfl,?_⟩
  refine Cm 3 s1 [Ml 4 1,(5,vB false),Ml 6 2,(14,vB true)] [(4,1,[Sn,Sn]),(6,2,[vS (some ⟨st.next,0,none⟩) 1,Sn])] fun _ _ => ?_
  refine ⟨_,rfl,?_⟩
  refine ⟨_,Os rfl,?_⟩
  exact cxs (Rt ⟨⟨none,none,nilS⟩,false,rfl,(if_neg h13).symm,pcS_nil,newS_nil,hP1⟩)
 ·replace h13 := h13.1 rfl
  refine ⟨_,rfl,?_⟩
  refine Cm 3 s1 [Ml 4 1,(5,vB false),Ml 6 2,(14,vB false)] [(4,1,[Sn,Sn]),(6,2,[vS (some ⟨st.next,0,none⟩) 1,Sn])] fun _ _ => ?_
  refine cxs ?_
  refine ⟨_,Od rfl,?_⟩
  refine ⟨_,Os rfl,?_⟩
  exact cxs (Rt ⟨⟨some ⟨st.next,0,none⟩,none,⟨[⟨id,e⟩],[]⟩⟩,true,rfl,(if_pos h13).symm,hF.1,hF.2.1,hP1⟩)
theorem frs_floor1 {a : St} {x : Flr} : Frs a (a.push 2 ([x].flatMap cFlr)) (pcS ⟨none,some ⟨a.next,0,none⟩,⟨[],[x]⟩⟩) := ⟨⟨fun d hd => by
  rcases List.mem_cons.1 hd with rfl | hd
  ·exact .inl ⟨rfl,rfl⟩
  ·rw [List.mem_singleton.1 hd]; exact own_pc OwnR.push,List.pairwise_pair.2 Dis.none⟩,NewP.cons New.none (NewP.cons (by intro r hr; injection hr with hr; rw [← hr]; exact Nat.le_refl _) NewP.nil),Pres.push⟩
theorem ok_floor1 {id inc : Int} (h : 0 ≤ id ∧ id ≤ 4) (k : 1 ≤ inc ∧ inc ≤ 1000) : stateOk ⟨[],[⟨id,inc⟩]⟩ := stateOk_floors fun j x hx => by
 cases j with
 | zero => injection hx with hx; rw [← hx]; exact ⟨h,k,fun y hy => by omega⟩
 | succ j => simp at hx
theorem ac_d_l3Right {p : Option Addr} {bs : List Int} (c : Nat) (st : St) (hc : Cur st c p bs) (hs : bs.length < 1099511627776) : C 59 [vP c 0] st (fun v s => ∃ u : SV,v = .agg #[vS u.p u.x.items.length,vS u.q u.x.floors.length] ∧ stateOk u.x ∧ FrC c st s (pcS u) ∧ Cur s c p bs) := by
 refine AC.enterX (i := ⟨[2,3,6],[2,3,6],[0,2,3,4,5,6,8,9,15,33],[]⟩) [(2012,[],[1]),(12,[2,4,7],[0])] Tryd.func59 rfl rfl (by kernel_rfl) (by kernel_rfl) Tryd.ntmps59 (Lb rfl) rfl ?_
 refine ⟨_,rfl,?_⟩
 refine Cm 1 st [(0,vP c 0),Ml 2 0] [(2,0,[Sn,Sn])] fun _ _ => ?_
 iterate 2 refine ⟨_,rfl,?_⟩
 refine ⟨_,Os rfl,?_⟩
 refine Cm 2 st [(0,vP c 0),Ml 2 0,Ml 3 1] [(2,0,[Sn,Sn]),(3,1,[Sn,Sn])] fun _ _ => ?_
 refine ⟨_,rfl,(ac_d_l1Below c 7 st hc (by first | assumption | omega)).mono ?_⟩
 rintro _ s12 ⟨r12,rfl,h12,h12',h12'',hC12,hL12⟩
 refine cxs ?_
 refine Cm 2 s12 [(0,vP c 0),Ml 2 0,Ml 3 1,(4,vI r12),(5,vI 0)] [(2,0,[Sn,Sn]),(3,1,[Sn,Sn])] fun _ _ => ?_
 refine AW.loopM (fun x : Nat × SV => [(0,vP c 0),(2,vL 2 0 (0)),(3,vL 3 0 (1)),(4,vI r12),(5,vI (x.1 : Int))]) (fun x : Nat × SV => [(2,0,[.slice none 0 0,.slice none 0 0]),(3,1,[vS x.2.p x.2.x.items.length,vS x.2.q x.2.x.floors.length])]) (fun m (x : Nat × SV) st' => m = r12.toNat - x.1 ∧ (x.1 : Int) ≤ r12 ∧ stateOk x.2.x ∧ FrC c st st' (pcS x.2) ∧ Cur st' c p bs) (0,⟨none,none,nilS⟩) _ ⟨rfl,rfl,rfl,rfl,rfl,trivial⟩ ⟨rfl,rfl,trivial⟩ ⟨rfl,h12,stateOk_nil,(Frs.nlS.toC hC12.lt).sooner hL12 hc.lt,hC12⟩ ?_
 rintro m ⟨i,u⟩ ρ0 ff gg st' ⟨rfl,hi,hk,hF,hC⟩
 simp only at hi hk hF
 refine ⟨_,rfl,?_⟩
 rintro (_|_) h15
 ·replace h15 : ¬ ((i : Int) < r12) := of_decide_eq_false h15
  refine Cm gg st' [(0,vP c 0),Ml 2 0,Ml 3 1,(4,vI r12),(5,vI (i : Int)),(15,vB false)] [(2,0,[Sn,Sn]),(3,1,cSV u)] fun _ _ => ?_
  refine cxs ?_
  refine ⟨_,rfl,(ac_d_l1Below c 3 st' hC (by first | assumption | omega)).mono ?_⟩
  rintro _ s30 ⟨r30,rfl,h30,h30',h30'',hC30,hL30⟩
  refine cxs ?_
  have hF30 := hF.later hL30
  refine Cm gg s30 [(0,vP c 0),Ml 2 0,Ml 3 1,(8,vI r30),(9,vI 0)] [(2,0,[Sn,Sn]),(3,1,cSV u)] fun _ _ => ?_
  refine AW.loopM (fun x : Nat × SV => [(0,vP c 0),(2,vL 2 0 (0)),(3,vL 3 0 (1)),(8,vI r30),(9,vI (x.1 : Int))]) (fun x : Nat × SV => [(2,0,[.slice none 0 0,.slice none 0 0]),(3,1,[vS x.2.p x.2.x.items.length,vS x.2.q x.2.x.floors.length])]) (fun m (x : Nat × SV) st' => m = r30.toNat - x.1 ∧ (x.1 : Int) ≤ r30 ∧ stateOk x.2.x ∧ FrC c st st' (pcS x.2) ∧ Cur st' c p bs) (0,u) _ ⟨rfl,rfl,rfl,rfl,rfl,trivial⟩ ⟨rfl,rfl,trivial⟩ ⟨rfl,h30,hk,hF30,hC30⟩ ?_
  rintro m ⟨i,u⟩ ρ0 ff gg st' ⟨rfl,hi,hk,hF,hC⟩
  simp only at hi hk hF
  refine ⟨_,rfl,?_⟩
  rintro (_|_) h33
  ·replace h33 : ¬ ((i : Int) < r30) := of_decide_eq_false h33
   refine Cm gg st' [(0,vP c 0),Ml 2 0,Ml 3 1,(8,vI r30),(9,vI (i : Int)),(33,vB false)] [(2,0,[Sn,Sn]),(3,1,cSV u)] fun _ _ => ?_
   refine cxs ?_
   refine ⟨_,Od rfl,?_⟩
   refine ⟨_,Os rfl,?_⟩
   exact cxs (Rt ⟨u,rfl,hk,hF,hC⟩)
  ·replace h33 : (i : Int) < r30 := of_decide_eq_true h33
   refine Cm gg st' [(0,vP c 0),Ml 2 0,Ml 3 1,(8,vI r30),(9,vI (i : Int)),(33,vB true)] [(2,0,[Sn,Sn]),(3,1,cSV u)] fun _ _ => ?_
   refine cxs ?_
   refine ⟨fun _ => False,?_⟩
   refine ⟨_,Od rfl,?_⟩
   refine ⟨ld_own rfl rfl rfl,?_⟩
   refine ⟨_,rfl,(ac_d_l1Below c 5 st' hC (by first | assumption | omega)).mono ?_⟩
   rintro _ s38 ⟨r38,rfl,h38,h38',h38'',hC38,hL38⟩
   refine ⟨fun _ h => h.elim,?_⟩
   refine ⟨_,rfl,(ac_d_l1Below c 2 s38 hC38 (by first | assumption | omega)).mono ?_⟩
   rintro _ s40 ⟨r40,rfl,h40,h40',h40'',hC40,hL40⟩
   refine ⟨fun _ h => h.elim,?_⟩
   have ew41 : IntKind.wrap .i64 ((1) + r40) = (1) + r40 := wrap_i64 (by omega) (by omega)
   iterate 2 refine ⟨_,rfl,?_⟩
   refine op_one (z := 2) (a := ((⟨r38,IntKind.wrap .i64 (1 + r40)⟩ : Flr) : Flr)) (f := cFlr) rfl rfl rfl rfl rfl (by decide) rfl (Lb rfl) rfl rfl rfl ?_
   refine ⟨fun _ h => h.elim,?_⟩
   refine ⟨_,rfl,?_⟩
   have hF40 := (hF.later hL38).later hL40
   have hP43 : Pres s40 (s40.push 2 ([(⟨r38,IntKind.wrap .i64 (1 + r40)⟩ : Flr)].flatMap cFlr)) := Pres.push
   have hF43 : Frs s40 (s40.push 2 ([(⟨r38,IntKind.wrap .i64 (1 + r40)⟩ : Flr)].flatMap cFlr)) (pcS ⟨none,some ⟨s40.next,0,none⟩,⟨[],[⟨r38,IntKind.wrap .i64 (1 + r40)⟩]⟩⟩) := frs_floor1
   have hR43 := (hF40.step hP43).1.rdS
   have hC43 := hC40.pres hP43
   have hk43 : stateOk ⟨[],[⟨r38,IntKind.wrap .i64 (1 + r40)⟩]⟩ := ok_floor1 (by omega) (by omega)
   refine ⟨_,rfl,(ac_spec_l3Join u ⟨none,some ⟨s40.next,0,none⟩,⟨[],[⟨r38,IntKind.wrap .i64 (1 + r40)⟩]⟩⟩ (s40.push 2 ([(⟨r38,IntKind.wrap .i64 (1 + r40)⟩ : Flr)].flatMap cFlr)) hR43 hF43.1.rdS (big_ok hk) (big_ok hk43) hk hk43).mono ?_⟩
   rintro _ s45 ⟨u45,rfl,h45,hO45,hN45,hP45⟩
   refine ⟨_,Os rfl,?_⟩
   refine Cm gg s45 [(0,vP c 0),Ml 2 0,Ml 3 1,(8,vI r30),(9,vI (i : Int)),(33,vB true)] [(2,0,[Sn,Sn]),(3,1,cSV u45)] fun _ _ => ?_
   have hF45 : FrC c st s45 (pcS u45) := (Frs.toC ⟨hO45,hN45,hP45⟩ (hF40.step hP43).lt).sooner (hF40.step hP43).2.2.1 hc.lt
   have ew35 : IntKind.wrap .i64 ((i : Int) + (1)) = ((i + 1 : Nat) : Int) := (wrap_i64 (by omega) (by omega)).trans (by omega)
   refine ⟨_,rfl,?_⟩
   exact ⟨(i + 1,u45),r30.toNat - (i + 1),by omega,⟨rfl,rfl,rfl,rfl,congrArg (Value.int .i64) ew35,trivial⟩,⟨rfl,rfl,trivial⟩,rfl,by simp only; omega,by rw [h45]; exact stateOk_join hk hk43,hF45,hC43.pres hP45⟩
 ·replace h15 : (i : Int) < r12 := of_decide_eq_true h15
  refine Cm gg st' [(0,vP c 0),Ml 2 0,Ml 3 1,(4,vI r12),(5,vI (i : Int)),(15,vB true)] [(2,0,[Sn,Sn]),(3,1,cSV u)] fun _ _ => ?_
  refine cxs ?_
  refine ⟨_,rfl,(ac_d_l1Below c 5 st' hC (by first | assumption | omega)).mono ?_⟩
  rintro _ s20 ⟨r20,rfl,h20,h20',h20'',hC20,hL20⟩
  refine ⟨_,rfl,(ac_d_l2Right c s20 hC20 (by first | assumption | omega)).mono ?_⟩
  rintro _ s22 ⟨e22,rfl,h22,hC22,hL22⟩
  refine ⟨_,rfl,(ac_spec_Single r20 e22 s22 (Nat.le_trans h22.2.2.2.2 (by decide))).mono ?_⟩
  rintro _ s23 ⟨u23,b23,rfl,h23,hO23,hN23,hP23⟩
  iterate 3 refine ⟨_,rfl,?_⟩
  refine ⟨_,Os rfl,?_⟩
  refine Cm (gg + 1) s23 [(0,vP c 0),Ml 2 0,Ml 3 1,(4,vI r12),(5,vI (i : Int)),Ml 6 gg,(15,vB true)] [(2,0,[Sn,Sn]),(3,1,cSV u),(6,gg,cSV u23)] fun _ _ => ?_
  have hF22 := (hF.later hL20).later hL22
  have hF23 : FrC c st s23 (pcS u23) := (Frs.toC ⟨hO23,hN23,hP23⟩ hF22.lt).sooner hF22.2.2.1 hc.lt
  have hR23 : RdS s23 u := (hF22.step hP23).1.rdS
  have hC23 := hC22.pres hP23
  have hk23 := sing_ok h23
  have hbu := big_ok hk
  have hbv := big_ok hk23
  refine ⟨_,Od rfl,?_⟩
  refine ⟨_,Od rfl,?_⟩
  refine ⟨_,rfl,(ac_spec_l3Join u u23 s23 hR23 hF23.1.rdS (by first | assumption | omega) (by first | assumption | omega) (by first | assumption | omega) (by first | assumption | omega)).mono ?_⟩
  rintro _ s28 ⟨u28,rfl,h28,hO28,hN28,hP28⟩
  refine ⟨_,Os rfl,?_⟩
  refine Cm (gg + 1) s28 [(0,vP c 0),Ml 2 0,Ml 3 1,(4,vI r12),(5,vI (i : Int)),Ml 6 gg,(15,vB true)] [(2,0,[Sn,Sn]),(3,1,cSV u28),(6,gg,cSV u23)] fun _ _ => ?_
  have ew17 : IntKind.wrap .i64 ((i : Int) + (1)) = ((i + 1 : Nat) : Int) := (wrap_i64 (by omega) (by omega)).trans (by omega)
  refine ⟨_,rfl,?_⟩
  exact ⟨(i + 1,u28),r12.toNat - (i + 1),by omega,⟨rfl,rfl,rfl,rfl,congrArg (Value.int .i64) ew17,trivial⟩,⟨rfl,rfl,trivial⟩,rfl,by simp only; omega,by rw [h28]; exact stateOk_join hk hk23,(Frs.toC ⟨hO28,hN28,hP28⟩ hF23.lt).sooner hF23.2.2.1 hc.lt,hC23.pres hP28⟩
theorem smS.snocI {n : Nat} {x : Sta} {y : Itm} (h : smS n x) (hy : y.e.data.size ≤ 9) : smS (n + 1) ⟨x.items ++ [y],x.floors⟩ := ⟨by rw [List.length_append]; exact Nat.succ_le_succ h.i,Nat.le_succ_of_le h.f,fun z hz => by
 rcases List.mem_append.1 hz with hz | hz
 ·exact h.d z hz
 ·rw [List.mem_singleton.1 hz]; exact hy⟩
theorem smS.snocF {n : Nat} {x : Sta} {y : Flr} (h : smS n x) : smS (n + 1) ⟨x.items,x.floors ++ [y]⟩ := ⟨Nat.le_succ_of_le h.i,by rw [List.length_append]; exact Nat.succ_le_succ h.f,h.d⟩
theorem smS.setI {n i : Nat} {x : Sta} {y : Itm} (h : smS n x) (hy : y.e.data.size ≤ 9) : smS (n + 1) ⟨x.items.set i y,x.floors⟩ := ⟨by rw [List.length_set]; exact Nat.le_succ_of_le h.i,Nat.le_succ_of_le h.f,fun z hz => by
 rcases List.mem_or_eq_of_mem_set hz with hz | rfl
 ·exact h.d z hz
 ·exact hy⟩
theorem ac_d_l3Draw {p : Option Addr} {bs : List Int} (c : Nat) (st : St) (hc : Cur st c p bs) (hs : bs.length < 1099511627776) : C 34 [vP c 0] st (fun v s => ∃ u : SV,v = .agg #[vS u.p u.x.items.length,vS u.q u.x.floors.length] ∧ smS 6 u.x ∧ FrC c st s (pcS u) ∧ Cur s c p bs) := by
 refine AC.enterX (i := ⟨[2,3],[2,3,10,20,23,34,37,41,44,54,58,60],[0,2,3,7,8,21,35,40,52,57],[]⟩) [(2004,[],[1]),(2006,[],[1]),(2009,[],[1]),(4,[3,6,8],[1]),(6,[3,6,7,9],[1]),(9,[6,8],[1]),(12,[],[])] Tryd.func34 rfl rfl (by kernel_rfl) (by kernel_rfl) Tryd.ntmps34 (Lb rfl) rfl ?_
 refine ⟨_,rfl,?_⟩
 refine Cm 1 st [(0,vP c 0),Ml 2 0] [(2,0,[Sn,Sn])] fun _ _ => ?_
 refine ⟨_,rfl,(ac_d_l3Right c st hc (by first | assumption | omega)).mono ?_⟩
 rintro _ s5 ⟨u5,rfl,h5,hF5,hC5⟩
 refine ⟨_,rfl,?_⟩
 refine ⟨_,Os rfl,?_⟩
 refine Cm 2 s5 [(0,vP c 0),Ml 2 0,Ml 3 1] [(2,0,[Sn,Sn]),(3,1,cSV u5)] fun _ _ => ?_
 have hsm := sm_ok h5
 have hNi : New st.next u5.p := hF5.2.1 _ (List.mem_cons_self ..)
 have hNf : New st.next u5.q := hF5.2.1 _ (List.mem_cons_of_mem _ (List.mem_cons_self ..))
 refine ⟨_,rfl,(ac_d_l1Below c 14 s5 hC5 (by first | assumption | omega)).mono ?_⟩
 rintro _ s7 ⟨r7,rfl,h7,h7',h7'',hC7,hL7⟩
 refine Cm 2 s7 [(0,vP c 0),Ml 2 0,Ml 3 1,(7,vI r7)] [(2,0,[Sn,Sn]),(3,1,cSV u5)] fun _ _ => ?_
 have hF7 := hF5.later hL7
 have hR7 := hF7.1.rdS
 refine ⟨_,rfl,?_⟩
 rintro (_|_) h9
 ·replace h9 : ¬ (r7 = (0)) := beq_eq_false_iff_ne.1 h9
  refine Cm 2 s7 [(0,vP c 0),Ml 2 0,Ml 3 1,(7,vI r7),(8,vB false)] [(2,0,[Sn,Sn]),(3,1,cSV u5)] fun _ _ => ?_
  refine ⟨_,rfl,?_⟩
  rintro (_|_) h22
  ·replace h22 : ¬ (r7 = (1)) := beq_eq_false_iff_ne.1 h22
   refine Cm 2 s7 [(0,vP c 0),Ml 2 0,Ml 3 1,(7,vI r7),(21,vB false)] [(2,0,[Sn,Sn]),(3,1,cSV u5)] fun _ _ => ?_
   refine ⟨_,rfl,?_⟩
   rintro (_|_) h36
   ·replace h36 : ¬ (r7 = (2)) := beq_eq_false_iff_ne.1 h36
    refine Cm 2 s7 [(0,vP c 0),Ml 2 0,Ml 3 1,(7,vI r7),(35,vB false)] [(2,0,[Sn,Sn]),(3,1,cSV u5)] fun _ _ => ?_
    refine ⟨_,rfl,?_⟩
    rintro (_|_) h53
    ·replace h53 : ¬ (r7 = (3)) := beq_eq_false_iff_ne.1 h53
     refine Cm 2 s7 [Ml 2 0,Ml 3 1,(52,vB false)] [(2,0,[Sn,Sn]),(3,1,cSV u5)] fun _ _ => ?_
     refine cxs ?_
     refine ⟨_,Od rfl,?_⟩
     refine ⟨_,Os rfl,?_⟩
     exact cxs (Rt ⟨u5,rfl,hsm.le (by decide),hF7,hC7⟩)
    ·replace h53 : r7 = (3) := beq_iff_eq.1 h53
     refine Cm 2 s7 [Ml 2 0,Ml 3 1,(52,vB true)] [(2,0,[Sn,Sn]),(3,1,cSV u5)] fun _ _ => ?_
     refine ⟨_,rfl,?_⟩
     refine ⟨_,Od rfl,?_⟩
     iterate 2 refine ⟨_,rfl,?_⟩
     rintro (_|_) h57
     ·replace h57 : ¬ ((u5.x.items.length : Int) > (1)) := of_decide_eq_false h57
      refine Cm 2 s7 [Ml 2 0,Ml 3 1,(57,vB false)] [(2,0,[Sn,Sn]),(3,1,cSV u5)] fun _ _ => ?_
      refine cxs ?_
      refine ⟨_,Od rfl,?_⟩
      refine ⟨_,Os rfl,?_⟩
      exact cxs (Rt ⟨u5,rfl,hsm.le (by decide),hF7,hC7⟩)
     ·replace h57 : (u5.x.items.length : Int) > (1) := of_decide_eq_true h57
      refine Cm 2 s7 [Ml 2 0,Ml 3 1,(57,vB true)] [(2,0,[Sn,Sn]),(3,1,cSV u5)] fun _ _ => ?_
      refine ⟨_,rfl,?_⟩
      refine ⟨_,Od rfl,?_⟩
      refine ⟨_,rfl,?_⟩
      refine ⟨_,Od rfl,?_⟩
      refine op_at 1 hR7.1 (by omega) rfl rfl rfl rfl rfl rfl rfl ?_
      intro x62 b62 d62 k62 hy62 hb62 hm62 hc62 ho62
      refine ⟨_,op_lda rfl rfl rfl rfl rfl hm62 hc62 rfl,?_⟩
      have hO7 : OwnR s7 6 cItm u5.p u5.x.items := hF7.1.items
      obtain ⟨a,ha⟩ := hO7.some (by omega)
      have hd62 : x62.e.data.size ≤ 9 := hsm.d _ (List.mem_of_getElem? hy62)
      refine ⟨_,op_idx (j := 0) (n := u5.x.items.length) (q := ⟨a,0,none⟩) rfl (congrArg (fun v => vS v u5.x.items.length) ha) rfl rfl rfl (Int.le_refl 0) (by omega),?_⟩
      refine op_put (st := s7) (f := cItm) (j := 0) (l := u5.x.items) (y := x62) (p := u5.p) (d := 0 + (0 : Int).toNat * 6) rfl rfl rfl rfl rfl len_cItm rfl rfl (by omega) hO7 ha ?_
      intro s64 hO64 hP64 hn64
      refine Cm 2 s64 [Ml 2 0,Ml 3 1] [(2,0,[Sn,Sn]),(3,1,cSV u5)] fun _ _ => ?_
      refine ⟨_,Od rfl,?_⟩
      refine ⟨_,Os rfl,?_⟩
      refine cxs ?_
      have hF64 := hF7.setItems hP64 hO64
      exact Rt ⟨⟨u5.p,u5.q,⟨u5.x.items.set 0 x62,u5.x.floors⟩⟩,congrArg (fun n => Value.agg #[vS u5.p n,vS u5.q u5.x.floors.length]) List.length_set.symm,hsm.setI hd62,hF64.1,hC7.thenNew hc hF7.2.2.1 hP64 hNi⟩
   ·replace h36 : r7 = (2) := beq_iff_eq.1 h36
    refine Cm 2 s7 [(0,vP c 0),Ml 2 0,Ml 3 1,(7,vI r7),(35,vB true)] [(2,0,[Sn,Sn]),(3,1,cSV u5)] fun _ _ => ?_
    refine ⟨_,rfl,?_⟩
    refine ⟨_,Od rfl,?_⟩
    iterate 2 refine ⟨_,rfl,?_⟩
    rintro (_|_) h40
    ·replace h40 : ¬ ((u5.x.items.length : Int) > (0)) := of_decide_eq_false h40
     refine Cm 2 s7 [(0,vP c 0),Ml 2 0,Ml 3 1,(40,vB false)] [(2,0,[Sn,Sn]),(3,1,cSV u5)] fun _ _ => ?_
     refine cxs ?_
     refine ⟨_,Od rfl,?_⟩
     refine ⟨_,Os rfl,?_⟩
     exact cxs (Rt ⟨u5,rfl,hsm.le (by decide),hF7,hC7⟩)
    ·replace h40 : (u5.x.items.length : Int) > (0) := of_decide_eq_true h40
     refine Cm 2 s7 [(0,vP c 0),Ml 2 0,Ml 3 1,(40,vB true)] [(2,0,[Sn,Sn]),(3,1,cSV u5)] fun _ _ => ?_
     refine ⟨fun _ => False,?_⟩
     refine ⟨_,rfl,?_⟩
     refine ⟨_,Od rfl,?_⟩
     refine ⟨ld_own rfl rfl rfl,?_⟩
     refine ⟨_,rfl,?_⟩
     refine ⟨_,Od rfl,?_⟩
     refine ⟨_,rfl,?_⟩
     refine ⟨_,rfl,(ac_d_l1Below c (u5.x.items.length : Int) s7 hC7 (by first | assumption | omega)).mono ?_⟩
     rintro _ s47 ⟨r47,rfl,h47,h47',h47'',hC47,hL47⟩
     refine ⟨fun _ h => h.elim,?_⟩
     refine ⟨_,rfl,(ac_d_l2Draw c s47 hC47 (by first | assumption | omega)).mono ?_⟩
     rintro _ s49 ⟨e49,rfl,h49,hC49,hL49⟩
     refine ⟨fun _ h => h.elim,?_⟩
     have hF49 := (hF7.later hL47).later hL49
     have hO49 : OwnR s49 6 cItm u5.p u5.x.items := hF49.1.items
     have h47l := h47' (by omega)
     obtain ⟨a,ha⟩ := hO49.some (by omega)
     obtain ⟨w,hw⟩ : ∃ w,u5.x.items[r47.toNat]? = some w := ⟨_,List.getElem?_eq_getElem (by omega)⟩
     refine ⟨_,op_idx (j := r47) (n := u5.x.items.length) (q := ⟨a,0,none⟩) rfl (congrArg (fun v => vS v u5.x.items.length) ha) rfl rfl rfl h47 (by omega),?_⟩
     refine ⟨_,rfl,?_⟩
     refine op_putw (st := s49) (f := cItm) (z := 6) (i := 1) (j := r47.toNat) (l := u5.x.items) (w := w) (y := (⟨w.id,e49⟩ : Itm)) (ws := cEnt e49) (p := u5.p) (d := 0 + r47.toNat * 6 + 1) rfl rfl (congrArg (· + 1) (Nat.zero_add _)) rfl rfl len_cItm rfl rfl hw ⟨[vI w.id],cEnt w.e,[],rfl,rfl,rfl,rfl⟩ hO49 ha ?_
     intro s51 hO51 hP51 hn51
     refine Cm 2 s51 [Ml 2 0,Ml 3 1] [(2,0,[Sn,Sn]),(3,1,cSV u5)] fun _ _ => ?_
     refine ⟨_,Od rfl,?_⟩
     refine ⟨_,Os rfl,?_⟩
     refine cxs ?_
     have hF51 := hF49.setItems hP51 hO51
     exact Rt ⟨⟨u5.p,u5.q,⟨u5.x.items.set r47.toNat ⟨w.id,e49⟩,u5.x.floors⟩⟩,congrArg (fun n => Value.agg #[vS u5.p n,vS u5.q u5.x.floors.length]) List.length_set.symm,hsm.setI h49,hF51.1,hC49.thenNew hc hF49.2.2.1 hP51 hNi⟩
  ·replace h22 : r7 = (1) := beq_iff_eq.1 h22
   refine Cm 2 s7 [(0,vP c 0),Ml 2 0,Ml 3 1,(7,vI r7),(21,vB true)] [(2,0,[Sn,Sn]),(3,1,cSV u5)] fun _ _ => ?_
   refine ⟨fun _ => False,?_⟩
   refine ⟨_,rfl,?_⟩
   refine ⟨_,Od rfl,?_⟩
   refine ⟨ld_own rfl rfl rfl,?_⟩
   refine ⟨_,rfl,(ac_d_l1Below c 7 s7 hC7 (by first | assumption | omega)).mono ?_⟩
   rintro _ s26 ⟨r26,rfl,h26,h26',h26'',hC26,hL26⟩
   refine ⟨fun _ h => h.elim,?_⟩
   have ew27 : IntKind.wrap .i64 (r26 - (1)) = r26 - (1) := wrap_i64 (by omega) (by omega)
   refine ⟨_,rfl,?_⟩
   refine op_litI (k := .i64) (l := [0,1,5,1001]) rfl rfl rfl rfl rfl rfl (Lb rfl) ?_
   intro q29 s29 hO29 hP29 hN29
   refine ⟨fun _ h => h.elim,?_⟩
   refine ⟨_,rfl,(ac_d_l1PickInt c q29 ([0,1,5,1001]) s29 (hC26.pres hP29) (by first | assumption | omega) (by first | assumption | omega | decide) (by first | assumption | omega) (by first | assumption | exact NC.new (by assumption) (Cur.lt (by assumption)))).mono ?_⟩
   rintro _ s30 ⟨r30,rfl,h30,hC30,hL30⟩
   refine ⟨fun _ h => h.elim,?_⟩
   refine ⟨_,rfl,?_⟩
   refine op_one (z := 2) (a := ((⟨IntKind.wrap .i64 (r26 - 1),r30⟩ : Flr) : Flr)) (f := cFlr) rfl rfl rfl rfl rfl (by decide) rfl (Lb rfl) rfl rfl rfl ?_
   refine ⟨fun _ h => h.elim,?_⟩
   have hF30 := ((hF7.later hL26).step hP29).later hL30
   have hO30 : OwnR s30 2 cFlr u5.q u5.x.floors := hF30.1.floors
   have hfl : u5.x.floors.length ≤ 5 := hsm.f
   refine op_snoc (z := 2) (st := s30) (f := cFlr) (b := 16) (l := u5.x.floors) (x := (⟨IntKind.wrap .i64 (r26 - 1),r30⟩ : Flr)) rfl rfl rfl rfl rfl rfl rfl (by decide) len_cFlr rfl rfl rfl (by omega) (by unfold maxLen; omega) hO30 ?_
   intro q33 s33 hO33 hP33 hN33
   refine ⟨_,rfl,?_⟩
   refine ⟨_,Os rfl,?_⟩
   refine Cm 2 s33 [Ml 2 0,Ml 3 1] [(2,0,[Sn,Sn]),(3,1,[vS u5.p u5.x.items.length,vS q33 (u5.x.floors ++ [(⟨IntKind.wrap .i64 (r26 - 1),r30⟩ : Flr)]).length])] fun _ _ => ?_
   refine ⟨_,Od rfl,?_⟩
   refine ⟨_,Os rfl,?_⟩
   refine cxs ?_
   have hF33 := hF30.floors hP33 hO33 hN33
   exact Rt ⟨_,rfl,hsm.snocF,hF33.1,hC30.thenNew hc hF30.2.2.1 hP33 hNf⟩
 ·replace h9 : r7 = (0) := beq_iff_eq.1 h9
  refine Cm 2 s7 [(0,vP c 0),Ml 2 0,Ml 3 1,(7,vI r7),(8,vB true)] [(2,0,[Sn,Sn]),(3,1,cSV u5)] fun _ _ => ?_
  refine ⟨fun _ => False,?_⟩
  refine ⟨_,rfl,?_⟩
  refine ⟨_,Od rfl,?_⟩
  refine ⟨ld_own rfl rfl rfl,?_⟩
  refine ⟨_,rfl,(ac_d_l1Below c 7 s7 hC7 (by first | assumption | omega)).mono ?_⟩
  rintro _ s13 ⟨r13,rfl,h13,h13',h13'',hC13,hL13⟩
  refine ⟨fun _ h => h.elim,?_⟩
  have ew14 : IntKind.wrap .i64 (r13 - (1)) = r13 - (1) := wrap_i64 (by omega) (by omega)
  refine ⟨_,rfl,?_⟩
  refine ⟨_,rfl,(ac_d_l2Draw c s13 hC13 (by first | assumption | omega)).mono ?_⟩
  rintro _ s16 ⟨e16,rfl,h16,hC16,hL16⟩
  refine ⟨fun _ h => h.elim,?_⟩
  refine ⟨_,rfl,?_⟩
  refine op_one (z := 6) (a := ((⟨IntKind.wrap .i64 (r13 - 1),e16⟩ : Itm) : Itm)) (f := cItm) rfl rfl rfl rfl rfl (by decide) rfl (Lb rfl) rfl rfl rfl ?_
  refine ⟨fun _ h => h.elim,?_⟩
  have hF16 := (hF7.later hL13).later hL16
  have hO16 : OwnR s16 6 cItm u5.p u5.x.items := hF16.1.items
  have hil : u5.x.items.length ≤ 5 := hsm.i
  refine op_snoc (z := 6) (st := s16) (f := cItm) (b := 56) (l := u5.x.items) (x := (⟨IntKind.wrap .i64 (r13 - 1),e16⟩ : Itm)) rfl rfl rfl rfl rfl rfl rfl (by decide) len_cItm rfl rfl rfl (by omega) (by unfold maxLen; omega) hO16 ?_
  intro q19 s19 hO19 hP19 hN19
  refine ⟨_,rfl,?_⟩
  refine ⟨_,Os rfl,?_⟩
  refine Cm 2 s19 [Ml 2 0,Ml 3 1] [(2,0,[Sn,Sn]),(3,1,[vS q19 (u5.x.items ++ [(⟨IntKind.wrap .i64 (r13 - 1),e16⟩ : Itm)]).length,vS u5.q u5.x.floors.length])] fun _ _ => ?_
  refine ⟨_,Od rfl,?_⟩
  refine ⟨_,Os rfl,?_⟩
  refine cxs ?_
  have hF19 := hF16.items hP19 hO19 hN19
  exact Rt ⟨_,rfl,hsm.snocI h16,hF19.1,hC16.thenNew hc hF16.2.2.1 hP19 hNi⟩
open Classical in
noncomputable def joinP (a b : Sta) : Sta × Bool := if stateOk a ∧ stateOk b then (joinF a b 5,true) else (nilS,false)
theorem ac_impl_StateJoin (A B : SV) (st : St) (hA : RdS st A) (hB : RdS st B) (ha : bigS A.x) (hb : bigS B.x) : C 7 [.agg #[vS A.p A.x.items.length,vS A.q A.x.floors.length],.agg #[vS B.p B.x.items.length,vS B.q B.x.floors.length]] st (fun v s => ∃ (u : SV) (b : Bool),v = .tuple #[.agg #[vS u.p u.x.items.length,vS u.q u.x.floors.length],vB b] ∧ (u.x,b) = joinP A.x B.x ∧ OwnP s (pcS u) ∧ NewP st.next (pcS u) ∧ Pres st s) := by
 refine AC.enterX (i := ⟨[2,3,4],[2,3,4],[0,1,2,3,4,5,13],[]⟩) [] Tryd.func7 rfl rfl (by kernel_rfl) (by kernel_rfl) Tryd.ntmps7 (Lb rfl) rfl ?_
 iterate 3 refine ⟨_,rfl,?_⟩
 refine Cm 3 st [Ml 2 0,Ml 3 1,Ml 4 2,(5,vB false)] [(2,0,cSV A),(3,1,cSV B),(4,2,[Sn,Sn])] fun _ _ => ?_
 refine ⟨_,Od rfl,?_⟩
 refine ⟨_,rfl,(ac_impl_StateOk A st hA (by first | assumption | omega)).mono ?_⟩
 rintro _ st ⟨x7,rfl,h7,rfl⟩
 rcases x7 with _|_
 ·replace h7 := fun k => Bool.false_ne_true (h7.2 k)
  iterate 2 refine ⟨_,rfl,?_⟩
  refine Cm 3 st [Ml 2 0,Ml 3 1,Ml 4 2,(5,vB false),(13,vB true)] [(2,0,cSV A),(3,1,cSV B),(4,2,[Sn,Sn])] fun _ _ => ?_
  refine ⟨_,rfl,?_⟩
  refine ⟨_,Os rfl,?_⟩
  exact cxs (Rt ⟨⟨none,none,nilS⟩,false,rfl,(if_neg (fun k => h7 k.1)).symm,pcS_nil,newS_nil,Pres.refl _⟩)
 ·replace h7 := h7.1 rfl
  refine ⟨_,rfl,?_⟩
  refine ⟨_,Od rfl,?_⟩
  refine ⟨_,rfl,(ac_impl_StateOk B st hB (by first | assumption | omega)).mono ?_⟩
  rintro _ st ⟨x11,rfl,h11,rfl⟩
  rcases x11 with _|_
  ·replace h11 := fun k => Bool.false_ne_true (h11.2 k)
   iterate 2 refine ⟨_,rfl,?_⟩
   refine Cm 3 st [Ml 2 0,Ml 3 1,Ml 4 2,(5,vB false),(13,vB true)] [(2,0,cSV A),(3,1,cSV B),(4,2,[Sn,Sn])] fun _ _ => ?_
   refine ⟨_,rfl,?_⟩
   refine ⟨_,Os rfl,?_⟩
   exact cxs (Rt ⟨⟨none,none,nilS⟩,false,rfl,(if_neg (fun k => h11 k.2)).symm,pcS_nil,newS_nil,Pres.refl _⟩)
  ·replace h11 := h11.1 rfl
   iterate 2 refine ⟨_,rfl,?_⟩
   refine Cm 3 st [Ml 2 0,Ml 3 1,Ml 4 2,(5,vB false),(13,vB false)] [(2,0,cSV A),(3,1,cSV B),(4,2,[Sn,Sn])] fun _ _ => ?_
   refine cxs ?_
   refine ⟨_,Od rfl,?_⟩
   refine ⟨_,Od rfl,?_⟩
   refine ⟨_,rfl,(ac_impl_stateJoin A B st hA hB (by first | assumption | omega) (by first | assumption | omega)).mono ?_⟩
   rintro _ s17 ⟨u17,rfl,h17,hO17,hN17,hP17⟩
   refine ⟨_,Os rfl,?_⟩
   exact cxs (Rt ⟨u17,true,rfl,(by rw [h17]; exact (if_pos ⟨h7,h11⟩).symm),hO17,hN17,hP17⟩)
structure smL (n : Nat) (g : Lg) : Prop where
 l : g.list.length ≤ n
 s : ∀ x ∈ g.list,smS 6 x
 f : -1 ≤ g.frm ∧ g.frm ≤ 9223372036854775807
theorem smL.big {n : Nat} {g : LV} (h : smL n g.x) (hn : n ≤ 1000) : bigL g.l := ⟨by have := h.l; simp only [List.length_map] at this; unfold szOk; omega,fun s hs => (h.s _ (List.mem_map_of_mem hs)).big (by decide)⟩
theorem smL.add {n : Nat} {g : Lg} {d : Sta} (h : smL n g) (hd : smS 6 d) : smL (n + 1) (addL g d).1 := by
 unfold addL
 split
 ·rename_i hk
  have h3 : 0 ≤ g.frm ∧ g.frm ≤ 100000 := hk.1.2.2.1
  have hs : ∀ x ∈ g.list ++ [d],smS 6 x := fun x hx => by
   rcases List.mem_append.1 hx with hx | hx
   ·exact h.s x hx
   ·rw [List.mem_singleton.1 hx]; exact hd
  have hl : (g.list ++ [d]).length ≤ n + 1 := by rw [List.length_append]; exact Nat.succ_le_succ h.l
  split
  ·exact ⟨by show ((g.list ++ [d]).drop 1).length ≤ n + 1; rw [List.length_drop]; omega,fun x hx => hs x (List.mem_of_mem_drop hx),by show -1 ≤ g.frm + 1 ∧ _; simp only; omega⟩
  ·exact ⟨hl,hs,h.f⟩
 ·exact ⟨Nat.le_succ_of_le h.l,h.s,h.f⟩
theorem smL.of {n : Nat} {g x : Lg} {d : Sta} {b : Bool} (he : (x,b) = addL g d) (h : smL n g) (hd : smS 6 d) : smL (n + 1) x := by
 have := h.add hd
 rw [← he] at this
 exact this
theorem NW.gotAt (v : NW) (x : RV) : pcNW { v with got := x } = (pcS v.s ++ (pcIs v.t.toRV ++ pcLog v.g)) ++ pcR 1 fI x.p x.l :: (pcIs v.acked ++ (pcTT v.seen ++ (pcSes v.sess ++ pcRis v.rises))) := by simp [List.append_assoc]
theorem NW.ackedAt (v : NW) (x : RV) : pcNW { v with acked := x } = (pcS v.s ++ (pcIs v.t.toRV ++ (pcLog v.g ++ pcIs v.got))) ++ pcR 1 fI x.p x.l :: (pcTT v.seen ++ (pcSes v.sess ++ pcRis v.rises)) := by simp [List.append_assoc]
theorem lens_all {t u : List RV} (h : (u.map (·.l)).map List.length = (t.map (·.l)).map List.length) (k : ∀ r ∈ t,r.l.length = 5) : ∀ r ∈ u,r.l.length = 5 := fun r hr => by
 have h1 : r.l.length ∈ (u.map (·.l)).map List.length := List.mem_map_of_mem (List.mem_map_of_mem hr)
 rw [h] at h1
 obtain ⟨l,hl,h2⟩ := List.mem_map.1 h1
 obtain ⟨r',hr',rfl⟩ := List.mem_map.1 hl
 rw [← h2]; exact k r' hr'
theorem Frs.toT {a b : St} {q : Option Addr} {t : List RV} (hO : OwnP b (pcT q t)) (hN : NewP a.next (pcT q t)) (hP : Pres a b) : Frs a b (pcT q t) := ⟨hO,hN,hP⟩
theorem ac_d_l9Right {p : Option Addr} {bs : List Int} (c : Nat) (st : St) (hc : Cur st c p bs) (hs : bs.length < 1099511627776) : C 62 [vP c 0] st (fun v s => ∃ (q : Option Addr) (t : List RV),v = vS q t.length ∧ (0 < t.length ∧ t.length ≤ 4) ∧ (∀ r ∈ t,r.l.length = 5) ∧ FrC c st s (pcT q t) ∧ Cur s c p bs) := by
 refine AC.enterX (i := ⟨[],[],[0,2,3,4,5,13],[]⟩) [] Tryd.func62 rfl rfl (by kernel_rfl) (by kernel_rfl) Tryd.ntmps62 (Lb rfl) rfl ?_
 refine Cu lo0 st [(0,vP c 0),(2,Sn)] fun _ => ?_
 refine ⟨_,rfl,(ac_d_l1Below c 4 st hc (by first | assumption | omega)).mono ?_⟩
 rintro _ s7 ⟨r7,rfl,h7,h7',h7'',hC7,hL7⟩
 have ew8 : IntKind.wrap .i64 ((1) + r7) = (1) + r7 := wrap_i64 (by omega) (by omega)
 refine ⟨_,rfl,?_⟩
 refine AW.cut lo0 s7 [(0,vP c 0),(2,Sn),(3,vI ((1) + r7))] ⟨rfl,rfl,congrArg (Value.int .i64) ew8,trivial⟩ fun _ => ?_
 refine ⟨_,rfl,(ac_spec_TableNew ((1) + r7) s7).mono ?_⟩
 rintro _ s10 ⟨p10,t10,rfl,hO10,hN10,hP10,h10⟩
 refine cxs ?_
 have hF10 : FrC c st s10 (pcT p10 t10) := ((Frs.toT hO10 hN10 hP10).toC hC7.lt).sooner hL7 hc.lt
 have hC10 := hC7.pres hP10
 have hr10 := (tnew_rows h10).2.1
 have hl10 : (t10.length : Int) = 1 + r7 := by
  have := congrArg List.length h10
  rw [List.length_map,tnew,if_pos (by omega),List.length_replicate] at this
  omega
 refine Cu lo0 s10 [(0,vP c 0),(2,Sn),(3,vI ((1) + r7)),(4,vS p10 t10.length),(5,vI 0)] fun _ => ?_
 refine AW.loop0 (fun x : Nat × Option Addr × List RV => [(0,vP c 0),(2,.slice none 0 0),(3,vI ((1) + r7)),(4,vS x.2.1 x.2.2.length),(5,vI (x.1 : Int))]) (fun m (x : Nat × Option Addr × List RV) st' => m = (1 + r7).toNat - x.1 ∧ (x.1 : Int) ≤ 1 + r7 ∧ (x.2.2.length : Int) = 1 + r7 ∧ (∀ r ∈ x.2.2,r.l.length = 5) ∧ FrC c st st' (pcT x.2.1 x.2.2) ∧ Cur st' c p bs) (0,p10,t10) _ ⟨rfl,rfl,rfl,rfl,rfl,trivial⟩ rfl ⟨rfl,by simp only; omega,hl10,hr10,hF10,hC10⟩ ?_
 rintro m ⟨i,q,t⟩ ρ0 st' ⟨rfl,hi,hl,hr,hF,hC⟩
 simp only at hi hl hr hF
 refine ⟨_,rfl,?_⟩
 rintro (_|_) h13
 ·replace h13 : ¬ ((i : Int) < ((1) + r7)) := of_decide_eq_false h13
  refine Cu lo0 st' [(0,vP c 0),(2,Sn),(3,vI ((1) + r7)),(4,vS q t.length),(5,vI (i : Int)),(13,vB false)] fun _ => ?_
  refine cxs ?_
  exact cxs (Rt ⟨q,t,rfl,⟨by omega,by omega⟩,hr,hF,hC⟩)
 ·replace h13 : (i : Int) < ((1) + r7) := of_decide_eq_true h13
  refine Cu lo0 st' [(0,vP c 0),(2,Sn),(3,vI ((1) + r7)),(4,vS q t.length),(5,vI (i : Int)),(13,vB true)] fun _ => ?_
  refine cxs ?_
  refine ⟨_,rfl,(ac_d_l3Right c st' hC (by first | assumption | omega)).mono ?_⟩
  rintro _ s19 ⟨u19,rfl,h19,hF19,hC19⟩
  have hb19 := big_ok h19
  refine ⟨_,rfl,(ac_spec_MarksOf u19 s19 (hF19.1.rdS) (by first | assumption | omega)).mono ?_⟩
  rintro _ s20 ⟨q20,rfl,hO20,hP20,hN20⟩
  have hF20 := (hF.join hF19).step hP20
  have hst : szOk t.length := by unfold szOk; omega
  have hsr : ∀ r ∈ t,szOk r.l.length := fun r hr' => by rw [hr r hr']; unfold szOk; omega
  refine ⟨_,rfl,(ac_spec_TableAdd q q20 t (i : Int) (marksF (goneAt u19.x) 5) s20 hF20.left.1.rdT (hO20.rows len_cFlr) hst hsr (szm _)).mono ?_⟩
  rintro _ s21 ⟨q21,u21,rfl,h21,h21',hO21,hN21,hP21⟩
  refine AW.cut lo0 s21 [(0,vP c 0),(2,Sn),(3,vI ((1) + r7)),(4,vS q21 u21.length),(5,vI (i : Int)),(13,vB true)] ⟨rfl,rfl,rfl,congrArg (vS q21) h21.symm,rfl,rfl,trivial⟩ fun _ => ?_
  have hF21 : FrC c st s21 (pcT q21 u21) := ((Frs.toT hO21 hN21 hP21).toC hF20.lt).sooner hF20.2.2.1 hc.lt
  have hC21 := (hC19.pres hP20).pres hP21
  have ew15 : IntKind.wrap .i64 ((i : Int) + (1)) = ((i + 1 : Nat) : Int) := (wrap_i64 (by omega) (by omega)).trans (by omega)
  refine ⟨_,rfl,?_⟩
  exact ⟨(i + 1,q21,u21),(1 + r7).toNat - (i + 1),by omega,⟨rfl,rfl,rfl,rfl,congrArg (Value.int .i64) ew15,trivial⟩,rfl,rfl,by simp only; omega,by simp only; rw [h21]; exact hl,lens_all (by rw [h21']; exact tableAdd_lens _ _ _) hr,hF21,hC21⟩
abbrev Hold (L : List Pc) (R : St → Prop) : Prop := ∀ s,OwnP s L → R s
section
variable {P : Program} {ls : List Tmp} {call : ACallT} {o : Oper} {e : Operand → Value} {lo : Lo} {st : St}
theorem op_slH {t el : TypeId} {x w : Operand} {p : Option Addr} {n j z : Nat} {b : Int} (ho : o.op = .slice t x none (some w) none) (hx : e x = .slice p n n) (hw : e w = vI b) (hb : b = (j : Int)) (he : telem P t = some el) (hz : tsize P el = some z) (h1 : j ≤ n) : aoper P ls call o e lo st = some (.slice p j j,lo,st) := by
 obtain ⟨d,op,ty,pos,after,gd⟩ := o
 simp only at ho
 subst ho hb
 have hp : (p.map fun q => (⟨q.block,q.off + 0 * z,q.spot⟩ : Addr)) = p := by cases p <;> simp
 simp only [aoper,rop,hx,hw,aslice,he,hz,Option.bind_some,Option.map_none,Option.map_some,abound,Option.bind]
 rw [if_pos (Int.natCast_nonneg j)]
 simp only [Int.toNat_natCast]
 rw [if_pos ⟨Nat.zero_le _,h1⟩,hp]
 rfl
end
theorem hold_cut {q : Option Addr} {t : List RV} {r : RV} (h0 : t[0]? = some r) (k : Nat) : Hold (pcR 1 cRV q (t.set 0 ⟨r.p,r.l.take k⟩) :: t.map pcRV) fun s => RdT s q (t.set 0 ⟨r.p,r.l.take k⟩) := fun s h => by
 have hrow : ∀ x ∈ t,Rows s 1 fI x.p x.l := fun x hx => (pc_own (f := fI) Nat.one_pos fI_len (h.1 (pcRV x) (List.mem_cons_of_mem _ (List.mem_map_of_mem hx)))).rows fI_len
 refine ⟨(pc_own (f := cRV) Nat.one_pos cRV_len (h.1 _ (List.mem_cons_self ..))).rows cRV_len,fun x hx => ?_⟩
 rcases List.mem_or_eq_of_mem_set hx with hx | rfl
 ·exact hrow x hx
 ·exact (hrow r (List.mem_of_getElem? h0)).take k
theorem ac_d_l9Draw {p : Option Addr} {bs : List Int} (c : Nat) (st : St) (hc : Cur st c p bs) (hs : bs.length < 1099511627776) : C 35 [vP c 0] st (fun v s => ∃ (q : Option Addr) (t : List RV) (L : List Pc),v = vS q t.length ∧ (t.length ≤ 4 ∧ ∀ r ∈ t,r.l.length ≤ 5) ∧ FrC c st s L ∧ Hold L (fun s' => RdT s' q t) ∧ Cur s c p bs) := by
 refine AC.enterX (i := ⟨[],[],[0,2,3,7,8,16,25],[]⟩) [(2006,[],[1]),(6,[4,5],[2])] Tryd.func35 rfl rfl (by kernel_rfl) (by kernel_rfl) Tryd.ntmps35 (Lb rfl) rfl ?_
 refine Cu lo0 st [(0,vP c 0),(2,Sn)] fun _ => ?_
 refine ⟨_,rfl,(ac_d_l9Right c st hc (by first | assumption | omega)).mono ?_⟩
 rintro _ s5 ⟨q5,t5,rfl,h5,h5',hF5,hC5⟩
 refine Cu lo0 s5 [(0,vP c 0),(2,Sn),(3,vS q5 t5.length)] fun _ => ?_
 refine ⟨_,rfl,(ac_d_l1Below c 12 s5 hC5 (by first | assumption | omega)).mono ?_⟩
 rintro _ s7 ⟨r7,rfl,h7,h7',h7'',hC7,hL7⟩
 refine Cu lo0 s7 [(0,vP c 0),(2,Sn),(3,vS q5 t5.length),(7,vI r7)] fun _ => ?_
 have hF7 := hF5.later hL7
 have hR7 := hF7.1.rdT
 have hsz : t5.length ≤ 4 ∧ ∀ r ∈ t5,r.l.length ≤ 5 := ⟨h5.2,fun r hr => Nat.le_of_eq (h5' r hr)⟩
 have hl0 : 0 < t5.length := h5.1
 refine ⟨_,rfl,?_⟩
 rintro (_|_) h9
 ·replace h9 : ¬ (r7 = (0)) := beq_eq_false_iff_ne.1 h9
  refine Cu lo0 s7 [(0,vP c 0),(2,Sn),(3,vS q5 t5.length),(7,vI r7),(8,vB false)] fun _ => ?_
  refine ⟨_,rfl,?_⟩
  rintro (_|_) h17
  ·replace h17 : ¬ (r7 = (1)) := beq_eq_false_iff_ne.1 h17
   refine Cu lo0 s7 [(0,vP c 0),(2,Sn),(3,vS q5 t5.length),(7,vI r7),(16,vB false)] fun _ => ?_
   refine ⟨_,rfl,?_⟩
   rintro (_|_) h26
   ·replace h26 : ¬ (r7 = (2)) := beq_eq_false_iff_ne.1 h26
    refine Cu lo0 s7 [(2,Sn),(3,vS q5 t5.length),(25,vB false)] fun _ => ?_
    refine cxs ?_
    exact cxs (Rt ⟨q5,t5,_,rfl,hsz,hF7,fun s' hO => hO.rdT,hC7⟩)
   ·replace h26 : r7 = (2) := beq_iff_eq.1 h26
    refine Cu lo0 s7 [(2,Sn),(3,vS q5 t5.length),(25,vB true)] fun _ => ?_
    refine cxs ?_
    exact cxs (Rt ⟨none,[],[],rfl,⟨Nat.zero_le _,fun r hr => (nomatch hr)⟩,⟨OwnP.nil,NewP.nil,hF7.2.2⟩,fun s' _ => ⟨Rows.nil,fun r hr => (nomatch hr)⟩,hC7⟩)
  ·replace h17 : r7 = (1) := beq_iff_eq.1 h17
   refine Cu lo0 s7 [(0,vP c 0),(2,Sn),(3,vS q5 t5.length),(7,vI r7),(16,vB true)] fun _ => ?_
   refine ⟨(fun a => a < s7.next ∧ a ≠ c),?_⟩
   refine op_at 0 hR7.1 (by omega) rfl rfl rfl rfl rfl rfl rfl ?_
   intro x19 b19 d19 k19 hy19 hb19 hm19 hc19 ho19
   have hm20 : x19 ∈ t5 := List.mem_of_getElem? hy19
   have hx5 : x19.l.length = 5 := h5' _ hm20
   have hne : b19 ≠ c := by
    obtain ⟨a,ha⟩ := (hF7.1.outer).some hl0
    obtain ⟨o,ho⟩ := ho19
    have := hF7.2.1 _ (List.mem_cons_self ..) ⟨b19,o,none⟩ ho
    exact Nat.ne_of_gt (Nat.lt_of_lt_of_le hc.lt this)
   refine ⟨_,op_ldc (i := 0) rfl rfl rfl rfl hm19 hc19 rfl rfl,?_⟩
   refine ⟨ld_lt rfl rfl ⟨hb19,hne⟩,?_⟩
   refine op_litI (k := .i64) (l := [-1,1001]) rfl rfl rfl rfl rfl rfl (Lb rfl) ?_
   intro q22 s22 hO22 hP22 hN22
   refine ⟨fun a ha => hP22.2 a ha.1,?_⟩
   refine ⟨_,rfl,(ac_d_l1PickInt c q22 [-1,1001] s22 (hC7.pres hP22) hs (by decide) hO22 (NC.new hN22 hC7.lt)).mono ?_⟩
   rintro _ s23 ⟨r23,rfl,h23,hC23,hL23⟩
   refine ⟨fun a ha => hL23.2 a (Nat.lt_of_lt_of_le ha.1 hP22.1) ha.2,?_⟩
   have hF23 := (hF7.step hP22).later hL23
   have hO23 : OwnR s23 1 fI x19.p x19.l := hF23.1.row hm20
   obtain ⟨a,ha⟩ := hO23.some (by omega)
   refine ⟨_,op_idx (j := 0) (n := x19.l.length) (q := ⟨a,0,none⟩) rfl (congrArg (fun v => vS v x19.l.length) ha) rfl rfl rfl (Int.le_refl 0) (by omega),?_⟩
   refine op_put (st := s23) (f := fI) (j := 0) (l := x19.l) (y := r23) (p := x19.p) (d := 0 + (0 : Int).toNat * 1) rfl rfl rfl rfl rfl fI_len rfl rfl (by omega) hO23 ha ?_
   intro s24 hO24 hP24 hn24
   refine cxs ?_
   refine cxs ?_
   have hNq : New st.next x19.p := hF23.2.1 (pcRV x19) (List.mem_cons_of_mem _ (List.mem_map_of_mem hm20))
   have hPC := PresC.thenNew hF23.2.2.1 hP24 hNq
   have hput : OwnP s24 (pcT q5 (putT t5 0 ⟨x19.p,x19.l.set 0 r23⟩)) := OwnP.put (l := x19.l) (by rw [show (⟨x19.p,x19.l⟩ : RV) = x19 from rfl,putT_self hy19]; exact hF23.1) hP24 hO24 List.length_set
   have hlen := putT_len (x := (⟨x19.p,x19.l.set 0 r23⟩ : RV)) hl0
   refine ⟨.inl rfl,_,rfl,q5,_,_,congrArg (vS q5) hlen.symm,⟨by rw [hlen]; exact h5.2,fun r hr => ?_⟩,⟨hput,fun x hx => ?_,hPC,hc.lt⟩,fun s' hO => hO.rdT,hC23.thenNew hc hF23.2.2.1 hP24 hNq⟩
   ·rcases List.mem_append.1 hr with hr | hr
    ·exact hsz.2 r (List.mem_of_mem_take hr)
    ·rcases List.mem_cons.1 hr with rfl | hr
     ·simp only [List.length_set]; omega
     ·exact hsz.2 r (List.mem_of_mem_drop hr)
   ·rcases List.mem_cons.1 hx with rfl | hx
    ·exact hF23.2.1 (pcR 1 cRV q5 t5) (List.mem_cons_self ..)
    ·obtain ⟨r,hr,rfl⟩ := List.mem_map.1 hx
     rcases List.mem_append.1 hr with hr | hr
     ·exact hF23.2.1 _ (List.mem_cons_of_mem _ (List.mem_map_of_mem (List.mem_of_mem_take hr)))
     ·rcases List.mem_cons.1 hr with rfl | hr
      ·exact hNq
      ·exact hF23.2.1 _ (List.mem_cons_of_mem _ (List.mem_map_of_mem (List.mem_of_mem_drop hr)))
 ·replace h9 : r7 = (0) := beq_iff_eq.1 h9
  refine Cu lo0 s7 [(0,vP c 0),(2,Sn),(3,vS q5 t5.length),(7,vI r7),(8,vB true)] fun _ => ?_
  refine op_at 0 hR7.1 (by omega) rfl rfl rfl rfl rfl rfl rfl ?_
  intro x12 b12 d12 k12 hy12 hb12 hm12 hc12 ho12
  refine ⟨_,op_ldc (i := 0) rfl rfl rfl rfl hm12 hc12 rfl rfl,?_⟩
  have hx5 : x12.l.length = 5 := h5' _ (List.mem_of_getElem? hy12)
  refine ⟨_,op_slH (p := x12.p) (n := x12.l.length) (j := 3) rfl rfl rfl rfl rfl rfl (by omega),?_⟩
  have hO7 : OwnR s7 1 cRV q5 t5 := hF7.1.outer
  obtain ⟨a,ha⟩ := hO7.some hl0
  refine ⟨_,op_idx (j := 0) (n := t5.length) (q := ⟨a,0,none⟩) rfl (congrArg (fun v => vS v t5.length) ha) rfl rfl rfl (Int.le_refl 0) (by omega),?_⟩
  refine op_put (st := s7) (f := cRV) (j := 0) (l := t5) (y := (⟨x12.p,x12.l.take 3⟩ : RV)) (p := q5) (d := 0 + (0 : Int).toNat * 1) rfl rfl rfl rfl rfl cRV_len (congrArg (fun n => [vS x12.p n]) (show 3 = (x12.l.take 3).length by rw [List.length_take]; omega)) rfl hl0 hO7 ha ?_
  intro s15 hO15 hP15 hn15
  refine cxs ?_
  refine cxs ?_
  have hNq : New st.next q5 := hF7.2.1 _ (List.mem_cons_self ..)
  have hPC := PresC.thenNew hF7.2.2.1 hP15 hNq
  refine ⟨.inl rfl,_,rfl,q5,_,_,congrArg (vS q5) List.length_set.symm,⟨by rw [List.length_set]; exact h5.2,fun r hr => ?_⟩,⟨OwnP.update (l := []) (d := pcR 1 cRV q5 (t5.set 0 ⟨x12.p,x12.l.take 3⟩)) hF7.1 hP15 (own_pc hO15) rfl,NewP.cons hNq (fun x hx => hF7.2.1 x (List.mem_cons_of_mem _ hx)),hPC,hc.lt⟩,hold_cut hy12 3,hC7.thenNew hc hF7.2.2.1 hP15 hNq⟩
  rcases List.mem_or_eq_of_mem_set hr with hr | rfl
  ·exact hsz.2 r hr
  ·simp only [List.length_take]; omega
theorem FrC.perm {c : Nat} {a b : St} {l m : List Pc} (h : FrC c a b l) (hp : l.Perm m) : FrC c a b m := ⟨h.1.perm hp,fun x hx => h.2.1 x (hp.mem_iff.2 hx),h.2.2⟩
theorem FrC.swap {c : Nat} {a b d : St} {A C D B : List Pc} (h : FrC c a b (A ++ (C ++ B))) (hF : FrC c b d D) : FrC c a d (A ++ (D ++ B)) :=
 ((h.join hF).perm (m := C ++ (A ++ (D ++ B))) (by
  classical
  exact List.perm_iff_count.2 fun x => by simp only [List.count_append]; omega)).right
theorem NewP.got {n : Nat} {v : NW} (h : NewP n (pcNW v)) : New n v.got.p := by
 have h : NewP n (pcNW { v with got := v.got }) := h
 rw [NW.gotAt] at h
 exact h _ (List.mem_append_right _ (List.mem_cons_self ..))
theorem NewP.acked {n : Nat} {v : NW} (h : NewP n (pcNW v)) : New n v.acked.p := by
 have h : NewP n (pcNW { v with acked := v.acked }) := h
 rw [NW.ackedAt] at h
 exact h _ (List.mem_append_right _ (List.mem_cons_self ..))
structure leqS (a b : Sta) : Prop where
 ka : stateOk a
 kb : stateOk b
 le : joinF a b 5 = b
theorem leqS_no {a b x : Sta} (h : (x,false) = joinP a b) (k : leqS a b) : False := by
 unfold joinP at h
 rw [if_pos ⟨k.ka,k.kb⟩] at h
 injection h with _ h; cases h
theorem joinP_big {a b x : Sta} {c : Bool} (h : (x,c) = joinP a b) (ha : bigS a) (hb : bigS b) : bigS x := by
 unfold joinP at h
 split at h
 ·injection h with h _; rw [h]; exact bigS_join ha hb
 ·injection h with h _; rw [h]; exact bigS_nil
theorem joinP_is {a b x : Sta} (h : (x,true) = joinP a b) (k : joinF a b 5 = b) : x = b := by
 unfold joinP at h
 split at h
 ·injection h with h _; rw [h]; exact k
 ·injection h with _ h; cases h
theorem joinP_leq {a b x : Sta} (h : (x,true) = joinP a b) (k : x = b) : leqS a b := by
 unfold joinP at h
 split at h
 ·rename_i hk; injection h with h _; exact ⟨hk.1,hk.2,h.symm.trans k⟩
 ·injection h with _ h; cases h
theorem ac_impl_StateLeq (A B : SV) (st : St) (hA : RdS st A) (hB : RdS st B) (ha : bigS A.x) (hb : bigS B.x) : C 23 [.agg #[vS A.p A.x.items.length,vS A.q A.x.floors.length],.agg #[vS B.p B.x.items.length,vS B.q B.x.floors.length]] st (fun v s => ∃ x,v = .bool x ∧ (x = true ↔ leqS A.x B.x) ∧ Pres st s) := by
 refine AC.enterX (i := ⟨[2,3,5],[2,3,5],[0,1,2,3,4,5,6],[]⟩) [] Tryd.func23 rfl rfl (by kernel_rfl) (by kernel_rfl) Tryd.ntmps23 (Lb rfl) rfl ?_
 iterate 2 refine ⟨_,rfl,?_⟩
 refine Cm 2 st [Ml 2 0,Ml 3 1,(4,vB false)] [(2,0,cSV A),(3,1,cSV B)] fun _ _ => ?_
 refine ⟨_,Od rfl,?_⟩
 refine ⟨_,Od rfl,?_⟩
 refine ⟨_,rfl,(ac_impl_StateJoin A B st hA hB (by first | assumption | omega) (by first | assumption | omega)).mono ?_⟩
 rintro _ s10 ⟨u10,b10,rfl,h10,hO10,hN10,hP10⟩
 rcases b10 with _|_
 ·iterate 3 refine ⟨_,rfl,?_⟩
  refine ⟨_,Os rfl,?_⟩
  refine Cm 3 s10 [Ml 3 1,(4,vB false),Ml 5 2,(6,vB false)] [(3,1,cSV B),(5,2,cSV u10)] fun _ _ => ?_
  refine ⟨_,rfl,?_⟩
  exact cxs (Rt ⟨false,rfl,⟨fun h => absurd h Bool.false_ne_true,fun h => (show False from (leqS_no h10 h)).elim⟩,hP10⟩)
 ·iterate 3 refine ⟨_,rfl,?_⟩
  refine ⟨_,Os rfl,?_⟩
  refine Cm 3 s10 [Ml 3 1,(4,vB false),Ml 5 2,(6,vB true)] [(3,1,cSV B),(5,2,cSV u10)] fun _ _ => ?_
  refine ⟨_,Od rfl,?_⟩
  refine ⟨_,Od rfl,?_⟩
  refine ⟨_,rfl,(ac_impl_StateSame u10 B s10 hO10.rdS (hB.pres hP10) (joinP_big h10 ha hb)).mono ?_⟩
  rintro _ s10 ⟨x17,rfl,h17,rfl⟩
  rcases x17 with _|_
  ·replace h17 := fun k => Bool.false_ne_true (h17.2 k)
   refine ⟨_,rfl,?_⟩
   exact cxs (Rt ⟨false,rfl,⟨fun h => absurd h Bool.false_ne_true,fun h => (show False from (absurd (joinP_is h10 h.le) h17)).elim⟩,hP10⟩)
  ·replace h17 := h17.1 rfl
   refine ⟨_,rfl,?_⟩
   exact cxs (Rt ⟨true,rfl,⟨fun _ => joinP_leq h10 h17,fun _ => rfl⟩,hP10⟩)
end Go.Proofs.YteabadoaeadcgaaDoor.AM
