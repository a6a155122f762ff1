/- Part 7 of the texts on which the law's proof rests. -/
import Derived.Test.YtpnolkhfeliehaaGreatXbf
namespace Go.Proofs.YtpnolkhfeliehaaGreat.AM
open Go Go.Proofs
set_option linter.unusedVariables false
set_option linter.unusedSimpArgs false
set_option maxRecDepth 100000
set_option maxHeartbeats 4000000
def oneS (id : Int) (e : Ent) : Sta := ⟨[⟨id,e⟩],[]⟩
def idOk (id : Int) : Prop := 0 ≤ id ∧ id ≤ 4
theorem one_ok {id : Int} {e : Ent} (h : idOk id) (he : entOk e) : stateOk (oneS id e) :=
 ⟨fun j x hx => by
  cases j with
  | zero => injection hx with hx; rw [← hx]; exact ⟨h,he,Int.lt_of_lt_of_le (show (0 : Int) < 1 by decide) he.1.1,fun y hy => by omega⟩
  | succ j => simp [oneS] at hx,fun j x hx => (nomatch hx)⟩
open Classical in
noncomputable def upF (s : Sta) (id : Int) : Ent × Int := if stateOk s ∧ idOk id then (if (lookF s id).2 = true then ((lookF s id).1,0) else (zEnt,3)) else (zEnt,1)
theorem up_bad {s : Sta} {id : Int} (h : ¬ (stateOk s ∧ idOk id)) : (zEnt,1) = upF s id := (if_neg h).symm
theorem up_no {s : Sta} {id : Int} {e : Ent} (h : stateOk s ∧ idOk id) (he : (e,false) = lookF s id) : (zEnt,3) = upF s id := by
 unfold upF
 rw [if_pos h,← he,if_neg Bool.false_ne_true]
theorem up_yes {s : Sta} {id : Int} {e : Ent} (h : stateOk s ∧ idOk id) (he : (e,true) = lookF s id) : (e,0) = upF s id := by
 unfold upF
 rw [if_pos h,← he,if_pos rfl]
theorem up_cases {s : Sta} {id : Int} {e : Ent} {c : Int} (h : (e,c) = upF s id) : (c = 1 ∧ e = zEnt ∧ ¬ (stateOk s ∧ idOk id)) ∨ ((stateOk s ∧ idOk id) ∧ ((c = 3 ∧ e = zEnt ∧ ∃ x,(x,false) = lookF s id) ∨ (c = 0 ∧ (e,true) = lookF s id))) := by
 unfold upF at h
 split at h
 ·rename_i hk
  split at h
  ·rename_i hl
   injection h with h1 h2
   exact .inr ⟨hk,.inr ⟨h2,by rw [h1,← hl]⟩⟩
  ·rename_i hl
   injection h with h1 h2
   exact .inr ⟨hk,.inl ⟨h2,h1,(lookF s id).1,by rw [← (Bool.not_eq_true _).mp hl]⟩⟩
 ·rename_i hk
  injection h with h1 h2
  exact .inl ⟨h2,h1,hk⟩
theorem look_ent {s : Sta} {id : Int} {e : Ent} (h : stateOk s) (he : (e,true) = lookF s id) : entOk e := by
 obtain ⟨j,x,hx,h1,h2⟩ := entP_mem he
 have hm := List.mem_of_getElem? hx
 unfold viewF at hm
 rw [if_pos h] at hm
 rw [← h1]
 exact items_ent h x ((List.mem_filter.1 hm).1)
theorem up_ent {s : Sta} {id : Int} {e : Ent} (h : (e,0) = upF s id) : entOk e ∧ idOk id := by
 rcases up_cases h with h | ⟨hk,h | h⟩
 ·cases h.1
 ·cases h.1
 ·exact ⟨look_ent hk.1 h.2,hk.2⟩
def sGone (e : Ent) : Ent := { e with rank := 1 }
def sBeat (e : Ent) : Ent := { e with beat := e.beat + 1 }
def sSet (e : Ent) (d : ByteArray) : Ent := { e with ver := e.ver + 1,data := d }
def sJoin (i : Int) : Ent := ⟨i + 1,0,0,0,⟨#[]⟩⟩
noncomputable def incF (s : Sta) (id : Int) : Int := if (entP s.items id).2 = true then (entP s.items id).1.inc else floorOf s.floors id
noncomputable def joinS (s : Sta) (id : Int) : Sta × Int := if (upF s id).2 = 1 then (nilS,1) else if (upF s id).2 = 0 then (nilS,2) else if incF s id = 1000 then (nilS,4) else (oneS id (sJoin (incF s id)),0)
noncomputable def beatS (s : Sta) (id : Int) : Sta × Int := if ¬ (upF s id).2 = 0 then (nilS,(upF s id).2) else if (upF s id).1.beat = 100000 then (nilS,4) else (oneS id (sBeat (upF s id).1),0)
noncomputable def setS (s : Sta) (id : Int) (d : ByteArray) : Sta × Int := if ¬ (upF s id).2 = 0 then (nilS,(upF s id).2) else if (upF s id).1.ver = 1000 ∨ d.size > 8 then (nilS,4) else (oneS id (sSet (upF s id).1 d),0)
noncomputable def goneS (s : Sta) (id : Int) : Sta × Int := if ¬ (upF s id).2 = 0 then (nilS,(upF s id).2) else (oneS id (sGone (upF s id).1),0)
noncomputable def sayS (s : Sta) (kind id : Int) (d : ByteArray) : Sta × Int := if kind = 0 then joinS s id else if kind = 1 then beatS s id else if kind = 2 then setS s id d else goneS s id
theorem inc_in {s : Sta} {id : Int} {e : Ent} (h : (e,true) = entP s.items id) : incF s id = e.inc := by unfold incF; rw [← h,if_pos rfl]
theorem inc_out {s : Sta} {id : Int} {e : Ent} (h : (e,false) = entP s.items id) : incF s id = floorOf s.floors id := by unfold incF; rw [← h,if_neg Bool.false_ne_true]
theorem inc_max {s : Sta} {id : Int} {e : Ent} {b : Bool} (hk : stateOk s) (h : (e,b) = entP s.items id) : max e.inc (floorOf s.floors id) = incF s id := by
 have hp := floorOf_pos hk.2 id
 cases b with
 | false => rw [inc_out h,entP_none h]; show max (0 : Int) _ = _; omega
 | true =>
  rw [inc_in h]
  obtain ⟨j,x,hx,h1,h2⟩ := entP_mem h
  have := (hk.1 j x hx).2.2.1
  rw [h1,h2] at this
  omega
theorem inc_rng {s : Sta} {id : Int} (hk : stateOk s) : 0 ≤ incF s id ∧ incF s id ≤ 1000 := by
 have hp := floorOf_pos hk.2 id
 unfold incF
 split
 ·rename_i hb
  have := ent_ok hk (id := id) (e := (entP s.items id).1) (by rw [← hb])
  have := this.1
  omega
 ·exact hp
theorem join_ent {i : Int} (h : 0 ≤ i ∧ i ≤ 1000) (hn : ¬ i = 1000) : entOk (sJoin i) := ⟨by show 1 ≤ i + 1 ∧ i + 1 ≤ 1000; omega,show (0 : Int) ≤ 0 ∧ (0 : Int) ≤ 1 by decide,show (0 : Int) ≤ 0 ∧ (0 : Int) ≤ 100000 by decide,show (0 : Int) ≤ 0 ∧ (0 : Int) ≤ 1000 by decide,show 0 ≤ 8 by decide⟩
theorem beat_ent {e : Ent} (h : entOk e) (hn : ¬ e.beat = 100000) : entOk (sBeat e) := ⟨h.1,h.2.1,by have := h.2.2.1; show 0 ≤ e.beat + 1 ∧ e.beat + 1 ≤ 100000; omega,h.2.2.2.1,h.2.2.2.2⟩
theorem set_ent {e : Ent} {d : ByteArray} (h : entOk e) (hn : ¬ (e.ver = 1000 ∨ d.size > 8)) : entOk (sSet e d) := ⟨h.1,h.2.1,h.2.2.1,by have := h.2.2.2.1; have : ¬ e.ver = 1000 := fun k => hn (.inl k); show 0 ≤ e.ver + 1 ∧ e.ver + 1 ≤ 1000; omega,Nat.not_lt.1 fun k => hn (.inr k)⟩
theorem gone_ent {e : Ent} (h : entOk e) : entOk (sGone e) := ⟨h.1,show (0 : Int) ≤ 1 ∧ (1 : Int) ≤ 1 by decide,h.2.2.1,h.2.2.2.1,h.2.2.2.2⟩
theorem say_ok {s d : Sta} {kind id : Int} {data : ByteArray} (h : (d,0) = sayS s kind id data) : stateOk d := by
 unfold sayS at h
 split at h
 ·unfold joinS at h
  split at h
  ·injection h with _ h; cases h
  ·split at h
   ·injection h with _ h; cases h
   ·split at h
    ·injection h with _ h; cases h
    ·rename_i h1 h2 h3
     injection h with h _
     rcases up_cases (s := s) (id := id) (e := (upF s id).1) (c := (upF s id).2) rfl with k | ⟨hk,_⟩
     ·exact absurd k.1 h1
     ·rw [h]; exact one_ok hk.2 (join_ent (inc_rng hk.1) h3)
 ·split at h
  ·unfold beatS at h
   split at h
   ·rename_i h1; injection h with _ h; exact absurd h.symm h1
   ·split at h
    ·injection h with _ h; cases h
    ·rename_i h1 h2
     injection h with h _
     have hu := up_ent (s := s) (id := id) (e := (upF s id).1) (by rw [← Classical.not_not.1 h1])
     rw [h]; exact one_ok hu.2 (beat_ent hu.1 h2)
  ·split at h
   ·unfold setS at h
    split at h
    ·rename_i h1; injection h with _ h; exact absurd h.symm h1
    ·split at h
     ·injection h with _ h; cases h
     ·rename_i h1 h2
      injection h with h _
      have hu := up_ent (s := s) (id := id) (e := (upF s id).1) (by rw [← Classical.not_not.1 h1])
      rw [h]; exact one_ok hu.2 (set_ent hu.1 h2)
   ·unfold goneS at h
    split at h
    ·rename_i h1; injection h with _ h; exact absurd h.symm h1
    ·rename_i h1
     injection h with h _
     have hu := up_ent (s := s) (id := id) (e := (upF s id).1) (by rw [← Classical.not_not.1 h1])
     rw [h]; exact one_ok hu.2 (gone_ent hu.1)
theorem ac_spec_l5Up (s : SV) (id : Int) (st : St) (hR : RdS st s) (hb : bigS s.x) : C 220 [.agg #[vS s.p s.x.items.length,vS s.q s.x.floors.length],vI id] st (fun v s' => ∃ e c,v = .tuple #[.agg #[vI e.inc,vI e.rank,vI e.beat,vI e.ver,.string e.data],vI c] ∧ (e,c) = upF s.x id ∧ Pres st s') := by
 refine AC.enterX (i := ⟨[2,4,6],[2,4,6],[0,1,2,4,5,6,7,15,24],[]⟩) [] Tryz.func220 rfl rfl (by kernel_rfl) (by kernel_rfl) Tryz.ntmps220 (Lb rfl) rfl ?_
 iterate 2 refine ⟨_,rfl,?_⟩
 refine Cm 2 st [(1,vI id),Ml 2 0,Ml 4 1,(5,vI 0)] [(2,0,cSV s),(4,1,[vI 0,vI 0,vI 0,vI 0,.string ⟨#[]⟩])] fun _ _ => ?_
 refine ⟨_,Od rfl,?_⟩
 refine ⟨_,rfl,(ac_spec_StateOk s st hR (by first | assumption | omega)).mono ?_⟩
 rintro _ st ⟨x9,rfl,h9,rfl⟩
 rcases x9 with _|_
 ·replace h9 := fun k => Bool.false_ne_true (h9.2 k)
  iterate 2 refine ⟨_,rfl,?_⟩
  refine Cm 2 st [(1,vI id),Ml 2 0,Ml 4 1,(5,vI 0),(15,vB true)] [(2,0,cSV s),(4,1,[vI 0,vI 0,vI 0,vI 0,.string ⟨#[]⟩])] fun _ _ => ?_
  refine ⟨_,rfl,?_⟩
  refine ⟨_,Os rfl,?_⟩
  exact cxs (Rt ⟨zEnt,1,rfl,up_bad (fun k => h9 k.1),Pres.refl _⟩)
 ·replace h9 := h9.1 rfl
  refine ⟨_,rfl,?_⟩
  refine ⟨_,rfl,(ac_spec_l3Node id st).mono ?_⟩
  rintro _ st ⟨x13,rfl,h13,rfl⟩
  rcases x13 with _|_
  ·replace h13 := of_decide_eq_false h13.symm
   iterate 2 refine ⟨_,rfl,?_⟩
   refine Cm 2 st [(1,vI id),Ml 2 0,Ml 4 1,(5,vI 0),(15,vB true)] [(2,0,cSV s),(4,1,[vI 0,vI 0,vI 0,vI 0,.string ⟨#[]⟩])] fun _ _ => ?_
   refine ⟨_,rfl,?_⟩
   refine ⟨_,Os rfl,?_⟩
   exact cxs (Rt ⟨zEnt,1,rfl,up_bad (fun k => h13 k.2),Pres.refl _⟩)
  ·replace h13 := of_decide_eq_true h13.symm
   iterate 2 refine ⟨_,rfl,?_⟩
   refine Cm 2 st [(1,vI id),Ml 2 0,Ml 4 1,(5,vI 0),(15,vB false)] [(2,0,cSV s),(4,1,[vI 0,vI 0,vI 0,vI 0,.string ⟨#[]⟩])] fun _ _ => ?_
   refine cxs ?_
   refine ⟨_,Od rfl,?_⟩
   refine ⟨_,rfl,(ac_spec_Lookup s id st hR (by first | assumption | omega)).mono ?_⟩
   rintro _ s20 ⟨e20,b20,rfl,h20,hP20⟩
   rcases b20 with _|_
   ·iterate 3 refine ⟨_,rfl,?_⟩
    refine ⟨_,Os rfl,?_⟩
    refine Cm 3 s20 [Ml 4 1,(5,vI 0),Ml 6 2,(7,vB false)] [(4,1,[vI 0,vI 0,vI 0,vI 0,.string ⟨#[]⟩]),(6,2,[vI e20.inc,vI e20.rank,vI e20.beat,vI e20.ver,.string e20.data])] fun _ _ => ?_
    refine ⟨_,rfl,?_⟩
    refine Cm 3 s20 [Ml 4 1,(5,vI 0),Ml 6 2,(24,vB true)] [(4,1,[vI 0,vI 0,vI 0,vI 0,.string ⟨#[]⟩]),(6,2,[vI e20.inc,vI e20.rank,vI e20.beat,vI e20.ver,.string e20.data])] fun _ _ => ?_
    refine ⟨_,rfl,?_⟩
    refine ⟨_,Os rfl,?_⟩
    exact cxs (Rt ⟨zEnt,3,rfl,up_no ⟨h9,h13⟩ h20,hP20⟩)
   ·iterate 3 refine ⟨_,rfl,?_⟩
    refine ⟨_,Os rfl,?_⟩
    refine Cm 3 s20 [Ml 4 1,(5,vI 0),Ml 6 2,(7,vB true)] [(4,1,[vI 0,vI 0,vI 0,vI 0,.string ⟨#[]⟩]),(6,2,[vI e20.inc,vI e20.rank,vI e20.beat,vI e20.ver,.string e20.data])] fun _ _ => ?_
    refine ⟨_,rfl,?_⟩
    refine Cm 3 s20 [Ml 4 1,(5,vI 0),Ml 6 2,(24,vB false)] [(4,1,[vI 0,vI 0,vI 0,vI 0,.string ⟨#[]⟩]),(6,2,[vI e20.inc,vI e20.rank,vI e20.beat,vI e20.ver,.string e20.data])] fun _ _ => ?_
    refine cxs ?_
    refine ⟨_,Od rfl,?_⟩
    refine ⟨_,Os rfl,?_⟩
    exact cxs (Rt ⟨e20,0,rfl,up_yes ⟨h9,h13⟩ h20,hP20⟩)
theorem ac_spec_l5One (id : Int) (e : Ent) (st : St) (hk : stateOk (oneS id e)) : C 219 [vI id,.agg #[vI e.inc,vI e.rank,vI e.beat,vI e.ver,.string e.data]] st (fun v s => ∃ u : SV,v = .tuple #[.agg #[vS u.p u.x.items.length,vS u.q u.x.floors.length],vI 0] ∧ u.x = oneS id e ∧ OwnP s (pcS u) ∧ NewP st.next (pcS u) ∧ Pres st s) := by
 have hz : e.data.size ≤ 1048576 := Nat.le_trans (hk.1 0 ⟨id,e⟩ rfl).2.1.2.2.2.2 (by decide)
 refine AC.enterX (i := ⟨[3,4,6],[3,4,6],[0,1,3,4,5,6],[]⟩) [] Tryz.func219 rfl rfl (by kernel_rfl) (by kernel_rfl) Tryz.ntmps219 (Lb rfl) rfl ?_
 iterate 2 refine ⟨_,rfl,?_⟩
 refine Cm 2 st [(0,vI id),Ml 3 0,Ml 4 1,(5,vI 0)] [(3,0,[vI e.inc,vI e.rank,vI e.beat,vI e.ver,.string e.data]),(4,1,[Sn,Sn])] fun _ _ => ?_
 refine ⟨_,Od rfl,?_⟩
 refine ⟨_,rfl,(ac_spec_Single id e st (by first | assumption | omega)).mono ?_⟩
 rintro _ s11 ⟨u11,b11,rfl,h11,hO11,hN11,hP11⟩
 iterate 3 refine ⟨_,rfl,?_⟩
 refine ⟨_,Os rfl,?_⟩
 refine Cm 3 s11 [Ml 4 1,(5,vI 0),Ml 6 2] [(4,1,[Sn,Sn]),(6,2,cSV u11)] fun _ _ => ?_
 refine ⟨_,Od rfl,?_⟩
 refine ⟨_,Os rfl,?_⟩
 exact cxs (Rt ⟨u11,rfl,by have := h11; unfold singF at this; rw [if_pos (show stateOk ⟨[⟨id,e⟩],[]⟩ from hk)] at this; injection this,hO11,hN11,hP11⟩)
theorem joinS_bad {s : Sta} {id c : Int} {e : Ent} (h : (e,c) = upF s id) (hc : c = 1) : (nilS,1) = joinS s id := by
 unfold joinS; rw [← h,if_pos hc]
theorem joinS_there {s : Sta} {id c : Int} {e : Ent} (h : (e,c) = upF s id) (hc : c = 0) : (nilS,2) = joinS s id := by
 unfold joinS; rw [← h,if_neg (by show ¬ c = 1; omega),if_pos hc]
theorem joinS_most {s : Sta} {id c i : Int} {e : Ent} (h : (e,c) = upF s id) (h1 : ¬ c = 1) (h0 : ¬ c = 0) (hi : i = incF s id) (hm : i = 1000) : (nilS,4) = joinS s id := by
 unfold joinS; rw [← h,if_neg h1,if_neg h0,if_pos (by omega)]
theorem joinS_yes {s u : Sta} {id c i : Int} {e : Ent} (h : (e,c) = upF s id) (h1 : ¬ c = 1) (h0 : ¬ c = 0) (hi : i = incF s id) (hm : ¬ i = 1000) (hu : u = oneS id (sJoin i)) : (u,0) = joinS s id := by
 unfold joinS; rw [← h,if_neg h1,if_neg h0,if_neg (by omega),hu,hi]
theorem beatS_no {s : Sta} {id c : Int} {e : Ent} (h : (e,c) = upF s id) (hc : ¬ c = 0) : (nilS,c) = beatS s id := by
 unfold beatS; rw [← h,if_pos hc]
theorem beatS_most {s : Sta} {id c : Int} {e : Ent} (h : (e,c) = upF s id) (hc : c = 0) (hm : e.beat = 100000) : (nilS,4) = beatS s id := by
 unfold beatS; rw [← h,if_neg (fun k => k hc),if_pos hm]
theorem beatS_yes {s u : Sta} {id c : Int} {e : Ent} (h : (e,c) = upF s id) (hc : c = 0) (hm : ¬ e.beat = 100000) (hu : u = oneS id (sBeat e)) : (u,0) = beatS s id := by
 unfold beatS; rw [← h,if_neg (fun k => k hc),if_neg hm,hu]
theorem setS_no {s : Sta} {id c : Int} {e : Ent} {d : ByteArray} (h : (e,c) = upF s id) (hc : ¬ c = 0) : (nilS,c) = setS s id d := by
 unfold setS; rw [← h,if_pos hc]
theorem setS_most {s : Sta} {id c : Int} {e : Ent} {d : ByteArray} (h : (e,c) = upF s id) (hc : c = 0) (hm : e.ver = 1000 ∨ d.size > 8) : (nilS,4) = setS s id d := by
 unfold setS; rw [← h,if_neg (fun k => k hc),if_pos hm]
theorem setS_yes {s u : Sta} {id c : Int} {e : Ent} {d : ByteArray} (h : (e,c) = upF s id) (hc : c = 0) (hm : ¬ (e.ver = 1000 ∨ d.size > 8)) (hu : u = oneS id (sSet e d)) : (u,0) = setS s id d := by
 unfold setS; rw [← h,if_neg (fun k => k hc),if_neg hm,hu]
theorem goneS_no {s : Sta} {id c : Int} {e : Ent} (h : (e,c) = upF s id) (hc : ¬ c = 0) : (nilS,c) = goneS s id := by
 unfold goneS; rw [← h,if_pos hc]
theorem goneS_yes {s u : Sta} {id c : Int} {e : Ent} (h : (e,c) = upF s id) (hc : c = 0) (hu : u = oneS id (sGone e)) : (u,0) = goneS s id := by
 unfold goneS; rw [← h,if_neg (fun k => k hc),hu]
theorem ac_spec_SayJoin (s : SV) (id : Int) (st : St) (hR : RdS st s) (hb : bigS s.x) : C 173 [.agg #[vS s.p s.x.items.length,vS s.q s.x.floors.length],vI id] st (fun v s' => ∃ (u : SV) (c : Int),v = .tuple #[.agg #[vS u.p u.x.items.length,vS u.q u.x.floors.length],vI c] ∧ (u.x,c) = joinS s.x id ∧ OwnP s' (pcS u) ∧ NewP st.next (pcS u) ∧ Pres st s') := by
 refine AC.enterX (i := ⟨[2,4,6,8],[2,4,6,8,34],[0,1,2,4,5,7,8,10,18,26,41],[]⟩) [(7,[4],[1])] Tryz.func173 rfl rfl (by kernel_rfl) (by kernel_rfl) Tryz.ntmps173 (Lb rfl) rfl ?_
 iterate 2 refine ⟨_,rfl,?_⟩
 refine Cm 2 st [(1,vI id),Ml 2 0,Ml 4 1,(5,vI 0)] [(2,0,cSV s),(4,1,[Sn,Sn])] fun _ _ => ?_
 refine ⟨_,Od rfl,?_⟩
 refine ⟨_,rfl,(ac_spec_StateOk s st hR (by first | assumption | omega)).mono ?_⟩
 rintro _ st ⟨x12,rfl,h12,rfl⟩
 rcases x12 with _|_
 ·replace h12 := fun k => Bool.false_ne_true (h12.2 k)
  iterate 2 refine ⟨_,rfl,?_⟩
  refine Cm 2 st [(1,vI id),Ml 2 0,Ml 4 1,(5,vI 0),(18,vB true)] [(2,0,cSV s),(4,1,[Sn,Sn])] fun _ _ => ?_
  refine ⟨_,rfl,?_⟩
  refine ⟨_,Os rfl,?_⟩
  exact cxs (Rt ⟨⟨none,none,nilS⟩,1,rfl,joinS_bad (up_bad fun k => h12 k.1) rfl,pcS_nil,newS_nil,Pres.refl _⟩)
 ·replace h12 := h12.1 rfl
  refine ⟨_,rfl,?_⟩
  refine ⟨_,rfl,(ac_spec_l3Node id st).mono ?_⟩
  rintro _ st ⟨x16,rfl,h16,rfl⟩
  rcases x16 with _|_
  ·replace h16 := of_decide_eq_false h16.symm
   iterate 2 refine ⟨_,rfl,?_⟩
   refine Cm 2 st [(1,vI id),Ml 2 0,Ml 4 1,(5,vI 0),(18,vB true)] [(2,0,cSV s),(4,1,[Sn,Sn])] fun _ _ => ?_
   refine ⟨_,rfl,?_⟩
   refine ⟨_,Os rfl,?_⟩
   exact cxs (Rt ⟨⟨none,none,nilS⟩,1,rfl,joinS_bad (up_bad fun k => h16 k.2) rfl,pcS_nil,newS_nil,Pres.refl _⟩)
  ·replace h16 := of_decide_eq_true h16.symm
   iterate 2 refine ⟨_,rfl,?_⟩
   refine Cm 2 st [(1,vI id),Ml 2 0,Ml 4 1,(5,vI 0),(18,vB false)] [(2,0,cSV s),(4,1,[Sn,Sn])] fun _ _ => ?_
   refine cxs ?_
   refine ⟨_,Od rfl,?_⟩
   refine ⟨_,rfl,(ac_spec_Lookup s id st hR (by first | assumption | omega)).mono ?_⟩
   rintro _ s23 ⟨e23,b23,rfl,h23,hP23⟩
   rcases b23 with _|_
   ·iterate 3 refine ⟨_,rfl,?_⟩
    refine ⟨_,Os rfl,?_⟩
    refine cxs ?_
    refine Cm 3 s23 [(1,vI id),Ml 2 0,Ml 4 1,(5,vI 0),(26,vB false)] [(2,0,cSV s),(4,1,[Sn,Sn])] fun _ _ => ?_
    refine cxs ?_
    refine ⟨_,Od rfl,?_⟩
    refine ⟨_,rfl,(ac_spec_EntryOf s id s23 (hR.pres hP23) (by first | assumption | omega)).mono ?_⟩
    rintro _ s23 ⟨e31,b31,rfl,h31,rfl⟩
    iterate 3 refine ⟨_,rfl,?_⟩
    refine ⟨_,Os rfl,?_⟩
    refine Cm 4 s23 [(1,vI id),Ml 2 0,Ml 4 1,(5,vI 0),Ml 8 3] [(2,0,cSV s),(4,1,[Sn,Sn]),(8,3,[vI e31.inc,vI e31.rank,vI e31.beat,vI e31.ver,.string e31.data])] fun _ _ => ?_
    have hu := up_no ⟨h12,h16⟩ h23
    refine ⟨_,rfl,?_⟩
    refine ⟨_,Od rfl,?_⟩
    refine ⟨ld_own rfl rfl rfl,?_⟩
    refine ⟨_,Od rfl,?_⟩
    refine ⟨_,rfl,(ac_spec_FloorOf s id s23 (hR.pres hP23) (by first | assumption | omega)).mono ?_⟩
    rintro _ s23 ⟨rfl,rfl⟩
    refine ⟨fun _ _ => rfl,?_⟩
    refine ⟨_,rfl,(ac_spec_l1Max e31.inc (floorOf s.x.floors id) s23).mono ?_⟩
    rintro _ s23 ⟨rfl,rfl⟩
    refine Cm 4 s23 [(1,vI id),Ml 4 1,(5,vI 0),(10,vI (max e31.inc (floorOf s.x.floors id)))] [(4,1,[Sn,Sn])] fun _ _ => ?_
    refine ⟨_,rfl,?_⟩
    rintro (_|_) h41
    ·replace h41 : ¬ ((max e31.inc (floorOf s.x.floors id)) = (1000)) := beq_eq_false_iff_ne.1 h41
     refine Cm 4 s23 [(1,vI id),Ml 4 1,(5,vI 0),(10,vI (max e31.inc (floorOf s.x.floors id))),(41,vB false)] [(4,1,[Sn,Sn])] fun _ _ => ?_
     refine cxs ?_
     have hi := inc_rng (id := id) h12
     have hm := inc_max h12 h31
     rw [hm] at h41
     have e45 : IntKind.wrap .i64 ((max e31.inc (floorOf s.x.floors id)) + 1) = (max e31.inc (floorOf s.x.floors id)) + 1 := wrap_i64 (by omega) (by omega)
     iterate 2 refine ⟨_,rfl,?_⟩
     refine ⟨_,rfl,(ac_spec_l5One id (⟨IntKind.wrap .i64 (max e31.inc (floorOf s.x.floors id) + 1),0,0,0,⟨#[]⟩⟩ : Ent) s23 (by rw [e45,hm]; exact one_ok h16 (join_ent hi h41))).mono ?_⟩
     rintro _ s47 ⟨u47,rfl,h47,hO47,hN47,hP47⟩
     iterate 2 refine ⟨_,rfl,?_⟩
     refine ⟨_,Os rfl,?_⟩
     exact cxs (Rt ⟨u47,0,rfl,joinS_yes hu (by decide) (by decide) rfl h41 (h47.trans (by rw [e45,hm]; rfl)),hO47,hN47.le hP23.1,hP23.trans hP47⟩)
    ·replace h41 : (max e31.inc (floorOf s.x.floors id)) = (1000) := beq_iff_eq.1 h41
     refine Cm 4 s23 [(1,vI id),Ml 4 1,(5,vI 0),(10,vI (max e31.inc (floorOf s.x.floors id))),(41,vB true)] [(4,1,[Sn,Sn])] fun _ _ => ?_
     refine ⟨_,rfl,?_⟩
     refine ⟨_,Os rfl,?_⟩
     exact cxs (Rt ⟨⟨none,none,nilS⟩,4,rfl,joinS_most hu (by decide) (by decide) (inc_max h12 h31) h41,pcS_nil,newS_nil,hP23⟩)
   ·iterate 3 refine ⟨_,rfl,?_⟩
    refine ⟨_,Os rfl,?_⟩
    refine cxs ?_
    refine Cm 3 s23 [(1,vI id),Ml 2 0,Ml 4 1,(5,vI 0),(26,vB true)] [(2,0,cSV s),(4,1,[Sn,Sn])] fun _ _ => ?_
    refine ⟨_,rfl,?_⟩
    refine ⟨_,Os rfl,?_⟩
    exact cxs (Rt ⟨⟨none,none,nilS⟩,2,rfl,joinS_there (up_yes ⟨h12,h16⟩ h23) rfl,pcS_nil,newS_nil,hP23⟩)
theorem ac_spec_SayBeat (s : SV) (id : Int) (st : St) (hR : RdS st s) (hb : bigS s.x) : C 174 [.agg #[vS s.p s.x.items.length,vS s.q s.x.floors.length],vI id] st (fun v s' => ∃ (u : SV) (c : Int),v = .tuple #[.agg #[vS u.p u.x.items.length,vS u.q u.x.floors.length],vI c] ∧ (u.x,c) = beatS s.x id ∧ OwnP s' (pcS u) ∧ NewP st.next (pcS u) ∧ Pres st s') := by
 refine AC.enterX (i := ⟨[2,4,6],[2,4,6,18,22,25],[0,1,2,4,5,6,7,15,20],[]⟩) [] Tryz.func174 rfl rfl (by kernel_rfl) (by kernel_rfl) Tryz.ntmps174 (Lb rfl) rfl ?_
 iterate 2 refine ⟨_,rfl,?_⟩
 refine Cm 2 st [(1,vI id),Ml 2 0,Ml 4 1,(5,vI 0)] [(2,0,cSV s),(4,1,[Sn,Sn])] fun _ _ => ?_
 refine ⟨_,Od rfl,?_⟩
 refine ⟨_,rfl,(ac_spec_l5Up s id st hR (by first | assumption | omega)).mono ?_⟩
 rintro _ s11 ⟨e11,c11,rfl,h11,hP11⟩
 iterate 3 refine ⟨_,rfl,?_⟩
 refine ⟨_,Os rfl,?_⟩
 refine Cm 3 s11 [(1,vI id),Ml 4 1,(5,vI 0),Ml 6 2,(7,vI c11)] [(4,1,[Sn,Sn]),(6,2,[vI e11.inc,vI e11.rank,vI e11.beat,vI e11.ver,.string e11.data])] fun _ _ => ?_
 refine ⟨_,rfl,?_⟩
 rintro (_|_) h15
 ·replace h15 : c11 = (0) := bne_eq_false_iff_eq.1 h15
  refine Cm 3 s11 [(1,vI id),Ml 4 1,(5,vI 0),Ml 6 2,(7,vI c11),(15,vB false)] [(4,1,[Sn,Sn]),(6,2,[vI e11.inc,vI e11.rank,vI e11.beat,vI e11.ver,.string e11.data])] fun _ _ => ?_
  refine cxs ?_
  refine ⟨_,rfl,?_⟩
  refine ⟨_,Od rfl,?_⟩
  refine ⟨_,rfl,?_⟩
  rintro (_|_) h20
  ·replace h20 : ¬ (e11.beat = (100000)) := beq_eq_false_iff_ne.1 h20
   refine Cm 3 s11 [(1,vI id),Ml 4 1,(5,vI 0),Ml 6 2,(20,vB false)] [(4,1,[Sn,Sn]),(6,2,[vI e11.inc,vI e11.rank,vI e11.beat,vI e11.ver,.string e11.data])] fun _ _ => ?_
   refine cxs ?_
   refine ⟨_,rfl,?_⟩
   refine ⟨_,Od rfl,?_⟩
   have hu := up_ent (show (e11,0) = upF s.x id by rw [← h11,h15])
   have hu1 := hu.1.2.2.1
   have ew24 : IntKind.wrap .i64 (e11.beat + (1)) = e11.beat + (1) := wrap_i64 (by omega) (by omega)
   iterate 2 refine ⟨_,rfl,?_⟩
   refine ⟨_,Os rfl,?_⟩
   refine AW.cutM (3) s11 [(1,vI id),Ml 4 1,(5,vI 0),Ml 6 2] [(4,1,[Sn,Sn]),(6,2,[vI e11.inc,vI e11.rank,vI (e11.beat + (1)),vI e11.ver,.string e11.data])] ⟨rfl,rfl,rfl,rfl,trivial⟩ ⟨rfl,(show some (2,[vI e11.inc,vI e11.rank,vI (IntKind.wrap .i64 (e11.beat + (1))),vI e11.ver,.string e11.data]) = some (2,[vI e11.inc,vI e11.rank,vI (e11.beat + (1)),vI e11.ver,.string e11.data]) by rw [ew24]),trivial⟩ rfl fun _ _ => ?_
   refine ⟨_,Od rfl,?_⟩
   refine ⟨_,rfl,(ac_spec_l5One id (sBeat e11) s11 (one_ok hu.2 (beat_ent hu.1 h20))).mono ?_⟩
   rintro _ s28 ⟨u28,rfl,h28,hO28,hN28,hP28⟩
   iterate 2 refine ⟨_,rfl,?_⟩
   refine ⟨_,Os rfl,?_⟩
   exact cxs (Rt ⟨u28,0,rfl,beatS_yes h11 h15 h20 h28,hO28,hN28.le hP11.1,hP11.trans hP28⟩)
  ·replace h20 : e11.beat = (100000) := beq_iff_eq.1 h20
   refine Cm 3 s11 [(1,vI id),Ml 4 1,(5,vI 0),Ml 6 2,(20,vB true)] [(4,1,[Sn,Sn]),(6,2,[vI e11.inc,vI e11.rank,vI e11.beat,vI e11.ver,.string e11.data])] fun _ _ => ?_
   refine ⟨_,rfl,?_⟩
   refine ⟨_,Os rfl,?_⟩
   exact cxs (Rt ⟨⟨none,none,nilS⟩,4,rfl,beatS_most h11 h15 h20,pcS_nil,newS_nil,hP11⟩)
 ·replace h15 : ¬ (c11 = (0)) := bne_iff_ne.1 h15
  refine Cm 3 s11 [(1,vI id),Ml 4 1,(5,vI 0),Ml 6 2,(7,vI c11),(15,vB true)] [(4,1,[Sn,Sn]),(6,2,[vI e11.inc,vI e11.rank,vI e11.beat,vI e11.ver,.string e11.data])] fun _ _ => ?_
  refine ⟨_,rfl,?_⟩
  refine ⟨_,Os rfl,?_⟩
  exact cxs (Rt ⟨⟨none,none,nilS⟩,c11,rfl,beatS_no h11 h15,pcS_nil,newS_nil,hP11⟩)
theorem ac_spec_SayGone (s : SV) (id : Int) (st : St) (hR : RdS st s) (hb : bigS s.x) : C 176 [.agg #[vS s.p s.x.items.length,vS s.q s.x.floors.length],vI id] st (fun v s' => ∃ (u : SV) (c : Int),v = .tuple #[.agg #[vS u.p u.x.items.length,vS u.q u.x.floors.length],vI c] ∧ (u.x,c) = goneS s.x id ∧ OwnP s' (pcS u) ∧ NewP st.next (pcS u) ∧ Pres st s') := by
 refine AC.enterX (i := ⟨[2,4,6],[2,4,6,18],[0,1,2,4,5,6,7,15],[]⟩) [] Tryz.func176 rfl rfl (by kernel_rfl) (by kernel_rfl) Tryz.ntmps176 (Lb rfl) rfl ?_
 iterate 2 refine ⟨_,rfl,?_⟩
 refine Cm 2 st [(1,vI id),Ml 2 0,Ml 4 1,(5,vI 0)] [(2,0,cSV s),(4,1,[Sn,Sn])] fun _ _ => ?_
 refine ⟨_,Od rfl,?_⟩
 refine ⟨_,rfl,(ac_spec_l5Up s id st hR (by first | assumption | omega)).mono ?_⟩
 rintro _ s11 ⟨e11,c11,rfl,h11,hP11⟩
 iterate 3 refine ⟨_,rfl,?_⟩
 refine ⟨_,Os rfl,?_⟩
 refine Cm 3 s11 [(1,vI id),Ml 4 1,(5,vI 0),Ml 6 2,(7,vI c11)] [(4,1,[Sn,Sn]),(6,2,[vI e11.inc,vI e11.rank,vI e11.beat,vI e11.ver,.string e11.data])] fun _ _ => ?_
 refine ⟨_,rfl,?_⟩
 rintro (_|_) h15
 ·replace h15 : c11 = (0) := bne_eq_false_iff_eq.1 h15
  refine Cm 3 s11 [(1,vI id),Ml 4 1,(5,vI 0),Ml 6 2,(7,vI c11),(15,vB false)] [(4,1,[Sn,Sn]),(6,2,[vI e11.inc,vI e11.rank,vI e11.beat,vI e11.ver,.string e11.data])] fun _ _ => ?_
  refine cxs ?_
  refine ⟨_,rfl,?_⟩
  refine ⟨_,Os rfl,?_⟩
  refine Cm 3 s11 [(1,vI id),Ml 4 1,(5,vI 0),Ml 6 2] [(4,1,[Sn,Sn]),(6,2,[vI e11.inc,vI 1,vI e11.beat,vI e11.ver,.string e11.data])] fun _ _ => ?_
  have hu := up_ent (show (e11,0) = upF s.x id by rw [← h11,h15])
  refine ⟨_,Od rfl,?_⟩
  refine ⟨_,rfl,(ac_spec_l5One id (sGone e11) s11 (one_ok hu.2 (gone_ent hu.1))).mono ?_⟩
  rintro _ s21 ⟨u21,rfl,h21,hO21,hN21,hP21⟩
  iterate 2 refine ⟨_,rfl,?_⟩
  refine ⟨_,Os rfl,?_⟩
  exact cxs (Rt ⟨u21,0,rfl,goneS_yes h11 h15 h21,hO21,hN21.le hP11.1,hP11.trans hP21⟩)
 ·replace h15 : ¬ (c11 = (0)) := bne_iff_ne.1 h15
  refine Cm 3 s11 [(1,vI id),Ml 4 1,(5,vI 0),Ml 6 2,(7,vI c11),(15,vB true)] [(4,1,[Sn,Sn]),(6,2,[vI e11.inc,vI e11.rank,vI e11.beat,vI e11.ver,.string e11.data])] fun _ _ => ?_
  refine ⟨_,rfl,?_⟩
  refine ⟨_,Os rfl,?_⟩
  exact cxs (Rt ⟨⟨none,none,nilS⟩,c11,rfl,goneS_no h11 h15,pcS_nil,newS_nil,hP11⟩)
theorem ac_spec_SaySet (s : SV) (id : Int) (d : ByteArray) (st : St) (hR : RdS st s) (hb : bigS s.x) : C 175 [.agg #[vS s.p s.x.items.length,vS s.q s.x.floors.length],vI id,.string d] st (fun v s' => ∃ (u : SV) (c : Int),v = .tuple #[.agg #[vS u.p u.x.items.length,vS u.q u.x.floors.length],vI c] ∧ (u.x,c) = setS s.x id d ∧ OwnP s' (pcS u) ∧ NewP st.next (pcS u) ∧ Pres st s') := by
 refine AC.enterX (i := ⟨[3,6,8],[3,6,8,20,29,32,34],[0,1,2,3,6,7,8,9,17,27],[]⟩) [] Tryz.func175 rfl rfl (by kernel_rfl) (by kernel_rfl) Tryz.ntmps175 (Lb rfl) rfl ?_
 iterate 2 refine ⟨_,rfl,?_⟩
 refine Cm 2 st [(1,vI id),(2,.string d),Ml 3 0,Ml 6 1,(7,vI 0)] [(3,0,cSV s),(6,1,[Sn,Sn])] fun _ _ => ?_
 refine ⟨_,Od rfl,?_⟩
 refine ⟨_,rfl,(ac_spec_l5Up s id st hR (by first | assumption | omega)).mono ?_⟩
 rintro _ s13 ⟨e13,c13,rfl,h13,hP13⟩
 iterate 3 refine ⟨_,rfl,?_⟩
 refine ⟨_,Os rfl,?_⟩
 refine Cm 3 s13 [(1,vI id),(2,.string d),Ml 6 1,(7,vI 0),Ml 8 2,(9,vI c13)] [(6,1,[Sn,Sn]),(8,2,[vI e13.inc,vI e13.rank,vI e13.beat,vI e13.ver,.string e13.data])] fun _ _ => ?_
 refine ⟨_,rfl,?_⟩
 rintro (_|_) h17
 ·replace h17 : c13 = (0) := bne_eq_false_iff_eq.1 h17
  refine Cm 3 s13 [(1,vI id),(2,.string d),Ml 6 1,(7,vI 0),Ml 8 2,(9,vI c13),(17,vB false)] [(6,1,[Sn,Sn]),(8,2,[vI e13.inc,vI e13.rank,vI e13.beat,vI e13.ver,.string e13.data])] fun _ _ => ?_
  refine cxs ?_
  refine ⟨_,rfl,?_⟩
  refine ⟨_,Od rfl,?_⟩
  refine ⟨_,rfl,?_⟩
  rintro (_|_) h22
  ·replace h22 : ¬ (e13.ver = (1000)) := beq_eq_false_iff_ne.1 h22
   iterate 2 refine ⟨_,rfl,?_⟩
   rintro (_|_) h26
   ·replace h26 : ¬ ((d.size : Int) > (8)) := of_decide_eq_false h26
    refine ⟨_,rfl,?_⟩
    refine Cm 3 s13 [(1,vI id),(2,.string d),Ml 6 1,(7,vI 0),Ml 8 2,(27,vB false)] [(6,1,[Sn,Sn]),(8,2,[vI e13.inc,vI e13.rank,vI e13.beat,vI e13.ver,.string e13.data])] fun _ _ => ?_
    refine cxs ?_
    refine ⟨_,rfl,?_⟩
    refine ⟨_,Od rfl,?_⟩
    have hu := up_ent (show (e13,0) = upF s.x id by rw [← h13,h17])
    have hu1 := hu.1.2.2.2.1
    have ew31 : IntKind.wrap .i64 (e13.ver + (1)) = e13.ver + (1) := wrap_i64 (by omega) (by omega)
    iterate 2 refine ⟨_,rfl,?_⟩
    refine ⟨_,Os rfl,?_⟩
    refine AW.cutM (3) s13 [(1,vI id),(2,.string d),Ml 6 1,(7,vI 0),Ml 8 2] [(6,1,[Sn,Sn]),(8,2,[vI e13.inc,vI e13.rank,vI e13.beat,vI (e13.ver + (1)),.string e13.data])] ⟨rfl,rfl,rfl,rfl,rfl,trivial⟩ ⟨rfl,(show some (2,[vI e13.inc,vI e13.rank,vI e13.beat,vI (IntKind.wrap .i64 (e13.ver + (1))),.string e13.data]) = some (2,[vI e13.inc,vI e13.rank,vI e13.beat,vI (e13.ver + (1)),.string e13.data]) by rw [ew31]),trivial⟩ rfl fun _ _ => ?_
    refine ⟨_,rfl,?_⟩
    refine ⟨_,Os rfl,?_⟩
    refine Cm 3 s13 [(1,vI id),Ml 6 1,(7,vI 0),Ml 8 2] [(6,1,[Sn,Sn]),(8,2,[vI e13.inc,vI e13.rank,vI e13.beat,vI (e13.ver + (1)),.string d])] fun _ _ => ?_
    refine ⟨_,Od rfl,?_⟩
    refine ⟨_,rfl,(ac_spec_l5One id (sSet e13 d) s13 (one_ok hu.2 (set_ent hu.1 (fun k => k.elim h22 fun k => h26 (Int.ofNat_lt.2 k))))).mono ?_⟩
    rintro _ s37 ⟨u37,rfl,h37,hO37,hN37,hP37⟩
    iterate 2 refine ⟨_,rfl,?_⟩
    refine ⟨_,Os rfl,?_⟩
    exact cxs (Rt ⟨u37,0,rfl,setS_yes h13 h17 (fun k => k.elim h22 fun k => h26 (Int.ofNat_lt.2 k)) h37,hO37,hN37.le hP13.1,hP13.trans hP37⟩)
   ·replace h26 : (d.size : Int) > (8) := of_decide_eq_true h26
    refine ⟨_,rfl,?_⟩
    refine Cm 3 s13 [(1,vI id),(2,.string d),Ml 6 1,(7,vI 0),Ml 8 2,(27,vB true)] [(6,1,[Sn,Sn]),(8,2,[vI e13.inc,vI e13.rank,vI e13.beat,vI e13.ver,.string e13.data])] fun _ _ => ?_
    refine ⟨_,rfl,?_⟩
    refine ⟨_,Os rfl,?_⟩
    exact cxs (Rt ⟨⟨none,none,nilS⟩,4,rfl,setS_most h13 h17 (.inr (Int.ofNat_lt.1 h26)),pcS_nil,newS_nil,hP13⟩)
  ·replace h22 : e13.ver = (1000) := beq_iff_eq.1 h22
   refine ⟨_,rfl,?_⟩
   refine Cm 3 s13 [(1,vI id),(2,.string d),Ml 6 1,(7,vI 0),Ml 8 2,(27,vB true)] [(6,1,[Sn,Sn]),(8,2,[vI e13.inc,vI e13.rank,vI e13.beat,vI e13.ver,.string e13.data])] fun _ _ => ?_
   refine ⟨_,rfl,?_⟩
   refine ⟨_,Os rfl,?_⟩
   exact cxs (Rt ⟨⟨none,none,nilS⟩,4,rfl,setS_most h13 h17 (.inl h22),pcS_nil,newS_nil,hP13⟩)
 ·replace h17 : ¬ (c13 = (0)) := bne_iff_ne.1 h17
  refine Cm 3 s13 [(1,vI id),(2,.string d),Ml 6 1,(7,vI 0),Ml 8 2,(9,vI c13),(17,vB true)] [(6,1,[Sn,Sn]),(8,2,[vI e13.inc,vI e13.rank,vI e13.beat,vI e13.ver,.string e13.data])] fun _ _ => ?_
  refine ⟨_,rfl,?_⟩
  refine ⟨_,Os rfl,?_⟩
  exact cxs (Rt ⟨⟨none,none,nilS⟩,c13,rfl,setS_no h13 h17,pcS_nil,newS_nil,hP13⟩)
theorem ac_spec_l12Said (s : SV) (kind id : Int) (d : ByteArray) (st : St) (hR : RdS st s) (hb : bigS s.x) : C 102 [.agg #[vS s.p s.x.items.length,vS s.q s.x.floors.length],vI kind,vI id,.string d] st (fun v s' => ∃ (u : SV) (c : Int),v = .tuple #[.agg #[vS u.p u.x.items.length,vS u.q u.x.floors.length],vI c] ∧ (u.x,c) = sayS s.x kind id d ∧ OwnP s' (pcS u) ∧ NewP st.next (pcS u) ∧ Pres st s') := by
 refine AC.enterX (i := ⟨[4,8],[4,8],[0,1,2,3,4,8,9,10,11,18,25],[]⟩) [] Tryz.func102 rfl rfl (by kernel_rfl) (by kernel_rfl) Tryz.ntmps102 (Lb rfl) rfl ?_
 iterate 2 refine ⟨_,rfl,?_⟩
 refine cxs ?_
 refine Cm 2 st [(2,vI id),(3,.string d),Ml 4 0,Ml 8 1,(9,vI 0),(10,vI kind)] [(4,0,cSV s),(8,1,[Sn,Sn])] fun _ _ => ?_
 refine ⟨_,rfl,?_⟩
 rintro (_|_) h12
 ·replace h12 : ¬ (kind = (0)) := beq_eq_false_iff_ne.1 h12
  refine Cm 2 st [(2,vI id),(3,.string d),Ml 4 0,Ml 8 1,(9,vI 0),(10,vI kind),(11,vB false)] [(4,0,cSV s),(8,1,[Sn,Sn])] fun _ _ => ?_
  refine ⟨_,rfl,?_⟩
  rintro (_|_) h19
  ·replace h19 : ¬ (kind = (1)) := beq_eq_false_iff_ne.1 h19
   refine Cm 2 st [(2,vI id),(3,.string d),Ml 4 0,Ml 8 1,(9,vI 0),(10,vI kind),(18,vB false)] [(4,0,cSV s),(8,1,[Sn,Sn])] fun _ _ => ?_
   refine ⟨_,rfl,?_⟩
   rintro (_|_) h26
   ·replace h26 : ¬ (kind = (2)) := beq_eq_false_iff_ne.1 h26
    refine Cm 2 st [(2,vI id),(3,.string d),Ml 4 0,Ml 8 1,(9,vI 0),(25,vB false)] [(4,0,cSV s),(8,1,[Sn,Sn])] fun _ _ => ?_
    refine cxs ?_
    refine ⟨_,Od rfl,?_⟩
    refine ⟨_,rfl,(ac_spec_SayGone s id st hR (by first | assumption | omega)).mono ?_⟩
    rintro _ s35 ⟨u35,c35,rfl,h35,hO35,hN35,hP35⟩
    iterate 2 refine ⟨_,rfl,?_⟩
    refine ⟨_,Os rfl,?_⟩
    exact cxs (Rt ⟨u35,c35,rfl,by rw [h35,sayS,if_neg h12,if_neg h19,if_neg h26],hO35,hN35,hP35⟩)
   ·replace h26 : kind = (2) := beq_iff_eq.1 h26
    refine Cm 2 st [(2,vI id),(3,.string d),Ml 4 0,Ml 8 1,(9,vI 0),(25,vB true)] [(4,0,cSV s),(8,1,[Sn,Sn])] fun _ _ => ?_
    refine ⟨_,Od rfl,?_⟩
    refine ⟨_,rfl,(ac_spec_SaySet s id d st hR (by first | assumption | omega)).mono ?_⟩
    rintro _ s30 ⟨u30,c30,rfl,h30,hO30,hN30,hP30⟩
    iterate 2 refine ⟨_,rfl,?_⟩
    refine ⟨_,Os rfl,?_⟩
    exact cxs (Rt ⟨u30,c30,rfl,by rw [h30,sayS,if_neg h12,if_neg h19,if_pos h26],hO30,hN30,hP30⟩)
  ·replace h19 : kind = (1) := beq_iff_eq.1 h19
   refine Cm 2 st [(2,vI id),(3,.string d),Ml 4 0,Ml 8 1,(9,vI 0),(10,vI kind),(18,vB true)] [(4,0,cSV s),(8,1,[Sn,Sn])] fun _ _ => ?_
   refine ⟨_,Od rfl,?_⟩
   refine ⟨_,rfl,(ac_spec_SayBeat s id st hR (by first | assumption | omega)).mono ?_⟩
   rintro _ s22 ⟨u22,c22,rfl,h22,hO22,hN22,hP22⟩
   iterate 2 refine ⟨_,rfl,?_⟩
   refine ⟨_,Os rfl,?_⟩
   exact cxs (Rt ⟨u22,c22,rfl,by rw [h22,sayS,if_neg h12,if_pos h19],hO22,hN22,hP22⟩)
 ·replace h12 : kind = (0) := beq_iff_eq.1 h12
  refine Cm 2 st [(2,vI id),(3,.string d),Ml 4 0,Ml 8 1,(9,vI 0),(10,vI kind),(11,vB true)] [(4,0,cSV s),(8,1,[Sn,Sn])] fun _ _ => ?_
  refine ⟨_,Od rfl,?_⟩
  refine ⟨_,rfl,(ac_spec_SayJoin s id st hR (by first | assumption | omega)).mono ?_⟩
  rintro _ s15 ⟨u15,c15,rfl,h15,hO15,hN15,hP15⟩
  iterate 2 refine ⟨_,rfl,?_⟩
  refine ⟨_,Os rfl,?_⟩
  exact cxs (Rt ⟨u15,c15,rfl,by rw [h15,sayS,if_pos h12],hO15,hN15,hP15⟩)
theorem big_add {g x : Lg} {d : Sta} {b : Bool} (h : (x,b) = addL g d) (hb : bigLog g) (hd : bigS d) : bigLog x := by
 have hx : x = (addL g d).1 := congrArg Prod.fst h
 have hall : ∀ s ∈ g.list ++ [d],bigS s := fun s hs => by
  rcases List.mem_append.1 hs with h | h
  ·exact hb.2 s h
  ·rw [List.mem_singleton.1 h]; exact hd
 rw [hx,addL]
 split
 ·rename_i hk
  have h1 := hk.1.2.1
  have h2 := hk.1.1.2
  split
  ·refine ⟨?_,fun s hs => hall s (List.mem_of_mem_drop hs)⟩
   unfold szOk
   simp only [List.length_drop,List.length_append,List.length_singleton]
   omega
  ·refine ⟨?_,hall⟩
   unfold szOk
   simp only [List.length_append,List.length_singleton]
   omega
 ·exact hb
theorem NW.gotAt (v : NW) (x : RV) : pcNW { v with got := x } = (pcS v.s ++ (pcIs v.t.toRV ++ pcLog v.g)) ++ pcR 1 fI x.p x.l :: (pcIs v.acked ++ (pcTT v.seen ++ (pcSes v.sess ++ pcRis v.rises))) := by simp [List.append_assoc]
theorem NW.ackedAt (v : NW) (x : RV) : pcNW { v with acked := x } = (pcS v.s ++ (pcIs v.t.toRV ++ (pcLog v.g ++ pcIs v.got))) ++ pcR 1 fI x.p x.l :: (pcTT v.seen ++ (pcSes v.sess ++ pcRis v.rises)) := by simp [List.append_assoc]
theorem OwnP.mid {st : St} {c : Pc} {a b : List Pc} (h : OwnP st (a ++ c :: b)) : c.own st := h.1 c (List.mem_append_right _ (List.mem_cons_self ..))
theorem OwnP.ownGot {st : St} {v : NW} (h : OwnP st (pcNW v)) : OwnR st 1 fI v.got.p v.got.l := by
 have h : OwnP st (pcNW { v with got := v.got }) := h
 rw [NW.gotAt] at h
 exact own_one (by decide) fI_len (OwnP.one h.mid)
theorem OwnP.ownAcked {st : St} {v : NW} (h : OwnP st (pcNW v)) : OwnR st 1 fI v.acked.p v.acked.l := by
 have h : OwnP st (pcNW { v with acked := v.acked }) := h
 rw [NW.ackedAt] at h
 exact own_one (by decide) fI_len (OwnP.one h.mid)
theorem Frs.gotSet {s0 st st' : St} {v : NW} {l' : List Int} {T : List Pc} (h : Frs s0 st (pcNW v ++ T)) (hp : Pr v.got.p st st') (hO : OwnR st' 1 fI v.got.p l') : Frs s0 st' (pcNW { v with got := ⟨v.got.p,l'⟩ } ++ T) := by
 have h : Frs s0 st (pcNW { v with got := v.got } ++ T) := h
 rw [NW.gotAt,List.append_assoc,List.cons_append] at h ⊢
 exact Frs.upd (c := pcR 1 fI v.got.p v.got.l) h hp (own_pc hO) rfl
theorem Frs.comm {a b : St} {l m : List Pc} (h : Frs a b (l ++ m)) : Frs a b (m ++ l) := ⟨h.1.perm List.perm_append_comm,fun c hc => h.2.1 c (List.mem_append.2 (List.mem_append.1 hc).symm),h.2.2⟩
theorem Frs.ndGin {s0 st : St} {v : NW} {u : LW} {T : List Pc} (h : Frs s0 st (pcNW v ++ (pcLog u ++ T))) : Frs s0 st (pcNW { v with g := u } ++ T) := by
 have e : pcNW v ++ (pcLog u ++ T) = (pcS v.s ++ pcIs v.t.toRV) ++ (pcLog v.g ++ ((pcIs v.got ++ (pcIs v.acked ++ (pcTT v.seen ++ (pcSes v.sess ++ pcRis v.rises)))) ++ (pcLog u ++ T))) := by simp only [List.append_assoc]
 rw [e] at h
 have h1 : Frs s0 st ((pcS v.s ++ pcIs v.t.toRV) ++ ((pcIs v.got ++ (pcIs v.acked ++ (pcTT v.seen ++ (pcSes v.sess ++ pcRis v.rises)))) ++ (pcLog u ++ T))) := ⟨OwnP.right (OwnP.front1 h.1),NewP.left h.2.1 |>.app (h.2.1.right.right),h.2.2⟩
 have e2 : pcNW { v with g := u } ++ T = (pcS v.s ++ pcIs v.t.toRV) ++ (pcLog u ++ ((pcIs v.got ++ (pcIs v.acked ++ (pcTT v.seen ++ (pcSes v.sess ++ pcRis v.rises)))) ++ T)) := by simp only [List.append_assoc]
 rw [e2]
 have hp : List.Perm ((pcS v.s ++ pcIs v.t.toRV) ++ ((pcIs v.got ++ (pcIs v.acked ++ (pcTT v.seen ++ (pcSes v.sess ++ pcRis v.rises)))) ++ (pcLog u ++ T))) ((pcS v.s ++ pcIs v.t.toRV) ++ (pcLog u ++ ((pcIs v.got ++ (pcIs v.acked ++ (pcTT v.seen ++ (pcSes v.sess ++ pcRis v.rises)))) ++ T))) := List.Perm.append_left _ (List.perm_append_comm_assoc _ _ _)
 exact ⟨h1.1.perm hp,fun c hc => h1.2.1 c (hp.mem_iff.2 hc),h1.2.2⟩
structure sayOk (x : Nd) (kind id : Int) : Prop where
 ok : nodeOk x
 kd : 0 ≤ kind ∧ kind ≤ 4
 ix : 0 ≤ id ∧ id ≤ x.n - 1
 ne : ¬ (id = x.id ↔ kind = 4)
noncomputable def ownF (x : Nd) (g : Lg) : Nd := { x with g := g,got := x.got.set x.id.toNat (logSeq g) }
open Classical in
noncomputable def sayF (x : Nd) (kind id : Int) (d : ByteArray) : Nd × Sta × Int :=
 if sayOk x kind id then
  if (sayS x.s kind id d).2 = 0 then
   if (addL x.g (sayS x.s kind id d).1).2 = true then (takeF (ownF x (addL x.g (sayS x.s kind id d).1).1) (sayS x.s kind id d).1,(sayS x.s kind id d).1,0) else (x,nilS,4)
  else (x,nilS,(sayS x.s kind id d).2)
 else (x,nilS,1)
theorem say_bad {g x : Nd} {kind id : Int} {d : ByteArray} (h : ¬ sayOk g kind id) (hx : x = g) : (x,nilS,1) = sayF g kind id d := by rw [hx]; exact (if_neg h).symm
theorem say_how {g x : Nd} {kind id c : Int} {d : ByteArray} {u : Sta} (h : sayOk g kind id) (hx : x = g) (hu : (u,c) = sayS g.s kind id d) (hc : ¬ c = 0) : (x,nilS,c) = sayF g kind id d := by
 unfold sayF; rw [hx,if_pos h,← hu,if_neg hc]
theorem say_most {g x : Nd} {kind id c : Int} {d : ByteArray} {u : Sta} {w : Lg} (h : sayOk g kind id) (hx : x = g) (hu : (u,c) = sayS g.s kind id d) (hc : c = 0) (hw : (w,false) = addL g.g u) : (x,nilS,4) = sayF g kind id d := by
 unfold sayF; rw [hx,if_pos h,← hu,if_pos hc,← hw,if_neg Bool.false_ne_true]
theorem say_yes {g x : Nd} {kind id c : Int} {d : ByteArray} {u : Sta} {w : Lg} (h : sayOk g kind id) (hu : (u,c) = sayS g.s kind id d) (hc : c = 0) (hw : (w,true) = addL g.g u) (hx : x = takeF (ownF g w) u) : (x,u,0) = sayF g kind id d := by
 unfold sayF; rw [hx,if_pos h,← hu,if_pos hc,← hw,if_pos rfl]
theorem say_eq {kind id i : Int} (q : id = i ↔ kind = 4) : (id == i) = (kind == 4) := by
 by_cases h : id = i
 ·rw [beq_iff_eq.2 h,beq_iff_eq.2 (q.1 h)]
 ·rw [beq_eq_false_iff_ne.2 h,beq_eq_false_iff_ne.2 fun k => h (q.2 k)]
theorem eq_say {kind id i : Int} (h : (id == i) = (kind == 4)) : id = i ↔ kind = 4 := by
 rw [← beq_iff_eq (a := id) (b := i),← beq_iff_eq (a := kind) (b := (4 : Int)),h]
theorem say_new {x : Nd} {kind id : Int} (h1 : nodeOk x) (h2 : 0 ≤ kind ∧ kind ≤ 4) (h3 : 0 ≤ id ∧ id ≤ x.n - 1) (h : ¬ (id = x.id ↔ kind = 4)) : sayOk x kind id := ⟨h1,h2,h3,h⟩
theorem say_ok0 {s d : Sta} {kind id c : Int} {data : ByteArray} (h : (d,c) = sayS s kind id data) (hc : c = 0) : stateOk d := by subst hc; exact say_ok h
theorem ac_spec_Say (g : NV) (kind id : Int) (d : ByteArray) (st : St) (hR : RdN st g) (hb : bigN g.x) : C 36 [(vNV g),vI kind,vI id,.string d] st (fun v s => ∃ (u : NW) (w : SV) (c : Int),v = .tuple #[(vNV u),.agg #[vS w.p w.x.items.length,vS w.q w.x.floors.length],vI c] ∧ (u.x,w.x,c) = sayF g.x kind id d ∧ OwnP s (pcNW u ++ pcS w) ∧ NewP st.next (pcNW u ++ pcS w) ∧ Pres st s) := by
 refine AC.enterX (i := ⟨[4,8,9,11,12,14,16],[4,8,9,11,12,14,16,29,39,47,61,74,75,77,79,81],[0,1,2,3,4,8,9,10,11,12,13,14,15,16,43,56,68],[]⟩) [(12,[],[]),(13,[2,4],[3]),(1013,[],[12])] Tryz.func36 rfl rfl (by kernel_rfl) (by kernel_rfl) Tryz.ntmps36 (Lb rfl) rfl ?_
 iterate 3 refine ⟨_,rfl,?_⟩
 refine Cm 3 st [(1,vI kind),(2,vI id),(3,.string d),Ml 4 0,Ml 8 1,Ml 9 2,(10,vI 0)] [(4,0,cNV g),(8,1,Zn),(9,2,[Sn,Sn])] fun _ _ => ?_
 refine ⟨_,op_ldo (v := (vNV g)) rfl rfl rfl rfl,?_⟩
 refine ⟨_,rfl,(ac_spec_l11Copy g st hR (by first | assumption | omega)).mono ?_⟩
 rintro _ s18 ⟨u18,rfl,h18,hO18,hN18,hP18⟩
 refine ⟨_,rfl,?_⟩
 refine ⟨_,op_stw (vs := cNV u18.v) rfl rfl rfl rfl rfl rfl rfl rfl,?_⟩
 refine Cm 4 s18 [(1,vI kind),(2,vI id),(3,.string d),Ml 4 0,Ml 8 1,Ml 9 2,(10,vI 0),Ml 11 3] [(4,0,cNV g),(8,1,Zn),(9,2,[Sn,Sn]),(11,3,cNV u18.v)] fun _ _ => ?_
 refine ⟨_,op_ldo (v := (vNV g)) rfl rfl rfl rfl,?_⟩
 refine ⟨_,rfl,(ac_spec_NodeOk g s18 (hR.pres hP18) (by first | assumption | omega)).mono ?_⟩
 rintro _ s20 ⟨x20,rfl,h20,hP20⟩
 rcases x20 with _|_
 ·replace h20 := fun k => Bool.false_ne_true (h20.2 k)
  iterate 4 refine ⟨_,rfl,?_⟩
  refine Cm 4 s20 [(1,vI kind),(2,vI id),(3,.string d),Ml 4 0,Ml 8 1,Ml 9 2,(10,vI 0),Ml 11 3,(43,vB true)] [(4,0,cNV g),(8,1,Zn),(9,2,[Sn,Sn]),(11,3,cNV u18.v)] fun _ _ => ?_
  have hF20 : Frs st s20 (pcNW u18) := ⟨hO18.pres hP20,hN18,hP18.trans hP20⟩
  have hFn := hF20.join Frs.s0
  refine ⟨_,op_ldo (v := (vNV u18.v)) rfl rfl rfl rfl,?_⟩
  refine ⟨_,rfl,?_⟩
  refine ⟨_,op_stw (vs := cNV u18.v) rfl rfl rfl rfl rfl rfl rfl rfl,?_⟩
  refine ⟨_,Os rfl,?_⟩
  exact cxs (Rt ⟨u18,⟨none,none,nilS⟩,1,rfl,say_bad (fun k => h20 k.ok) h18,hFn.1,hFn.2.1,hFn.2.2⟩)
 ·replace h20 := h20.1 rfl
  refine ⟨_,rfl,?_⟩
  refine ⟨_,rfl,(ac_spec_l1In kind 0 4 s20).mono ?_⟩
  rintro _ s20 ⟨x24,rfl,h24,rfl⟩
  rcases x24 with _|_
  ·replace h24 := of_decide_eq_false h24.symm
   iterate 4 refine ⟨_,rfl,?_⟩
   refine Cm 4 s20 [(1,vI kind),(2,vI id),(3,.string d),Ml 4 0,Ml 8 1,Ml 9 2,(10,vI 0),Ml 11 3,(43,vB true)] [(4,0,cNV g),(8,1,Zn),(9,2,[Sn,Sn]),(11,3,cNV u18.v)] fun _ _ => ?_
   have hF20 : Frs st s20 (pcNW u18) := ⟨hO18.pres hP20,hN18,hP18.trans hP20⟩
   have hFn := hF20.join Frs.s0
   refine ⟨_,op_ldo (v := (vNV u18.v)) rfl rfl rfl rfl,?_⟩
   refine ⟨_,rfl,?_⟩
   refine ⟨_,op_stw (vs := cNV u18.v) rfl rfl rfl rfl rfl rfl rfl rfl,?_⟩
   refine ⟨_,Os rfl,?_⟩
   exact cxs (Rt ⟨u18,⟨none,none,nilS⟩,1,rfl,say_bad (fun k => h24 k.kd) h18,hFn.1,hFn.2.1,hFn.2.2⟩)
  ·replace h24 := of_decide_eq_true h24.symm
   iterate 3 refine ⟨_,rfl,?_⟩
   refine ⟨_,Od rfl,?_⟩
   have hnn : 1 ≤ g.n ∧ g.n ≤ 5 := h20.n
   have ew31 : IntKind.wrap .i64 (g.n - (1)) = g.n - (1) := wrap_i64 (by omega) (by omega)
   refine ⟨_,rfl,?_⟩
   refine ⟨_,rfl,(ac_spec_l1In id 0 (IntKind.wrap .i64 (g.n - (1))) s20).mono ?_⟩
   rintro _ s20 ⟨x32,rfl,h32,rfl⟩
   rcases x32 with _|_
   ·replace h32 := of_decide_eq_false h32.symm
    rw [ew31] at h32
    iterate 3 refine ⟨_,rfl,?_⟩
    refine Cm 4 s20 [(1,vI kind),(2,vI id),(3,.string d),Ml 4 0,Ml 8 1,Ml 9 2,(10,vI 0),Ml 11 3,(43,vB true)] [(4,0,cNV g),(8,1,Zn),(9,2,[Sn,Sn]),(11,3,cNV u18.v)] fun _ _ => ?_
    have hF20 : Frs st s20 (pcNW u18) := ⟨hO18.pres hP20,hN18,hP18.trans hP20⟩
    have hFn := hF20.join Frs.s0
    refine ⟨_,op_ldo (v := (vNV u18.v)) rfl rfl rfl rfl,?_⟩
    refine ⟨_,rfl,?_⟩
    refine ⟨_,op_stw (vs := cNV u18.v) rfl rfl rfl rfl rfl rfl rfl rfl,?_⟩
    refine ⟨_,Os rfl,?_⟩
    exact cxs (Rt ⟨u18,⟨none,none,nilS⟩,1,rfl,say_bad (fun k => h32 k.ix) h18,hFn.1,hFn.2.1,hFn.2.2⟩)
   ·replace h32 := of_decide_eq_true h32.symm
    rw [ew31] at h32
    iterate 2 refine ⟨_,rfl,?_⟩
    refine ⟨_,rfl,fun c37 hc37 => ?_⟩
    refine ⟨_,rfl,?_⟩
    refine ⟨_,Od rfl,?_⟩
    refine ⟨_,rfl,fun c41 hc41 => ?_⟩
    refine ⟨_,rfl,?_⟩
    rintro (_|_) h42
    ·replace h42 : ¬ (c37 = c41) := beq_eq_false_iff_ne.1 h42
     refine ⟨_,rfl,?_⟩
     refine Cm 4 s20 [(1,vI kind),(2,vI id),(3,.string d),Ml 4 0,Ml 8 1,Ml 9 2,(10,vI 0),Ml 11 3,(43,vB false)] [(4,0,cNV g),(8,1,Zn),(9,2,[Sn,Sn]),(11,3,cNV u18.v)] fun _ _ => ?_
     have hF20 : Frs st s20 (pcNW u18) := ⟨hO18.pres hP20,hN18,hP18.trans hP20⟩
     have hFn := hF20.join Frs.s0
     refine cxs ?_
     refine ⟨_,rfl,?_⟩
     refine ⟨_,Od rfl,?_⟩
     refine ⟨_,rfl,(ac_spec_l12Said g.s kind id d s20 (hR.s.pres (hP18.trans hP20)) (hb.s)).mono ?_⟩
     rintro _ s52 ⟨u52,c52,rfl,h52,hO52,hN52,hP52⟩
     iterate 3 refine ⟨_,rfl,?_⟩
     refine ⟨_,Os rfl,?_⟩
     refine Cm 5 s52 [Ml 4 0,Ml 8 1,Ml 9 2,(10,vI 0),Ml 11 3,Ml 12 4,(13,vI c52)] [(4,0,cNV g),(8,1,Zn),(9,2,[Sn,Sn]),(11,3,cNV u18.v),(12,4,cSV u52)] fun _ _ => ?_
     have hok : sayOk g.x kind id := say_new h20 h24 h32 (fun q => h42 (hc37.symm.trans ((say_eq q).symm.trans hc41)))
     refine ⟨_,rfl,?_⟩
     rintro (_|_) h56
     ·replace h56 : c52 = (0) := bne_eq_false_iff_eq.1 h56
      refine Cm 5 s52 [Ml 4 0,Ml 8 1,Ml 9 2,(10,vI 0),Ml 11 3,Ml 12 4,(13,vI c52),(56,vB false)] [(4,0,cNV g),(8,1,Zn),(9,2,[Sn,Sn]),(11,3,cNV u18.v),(12,4,cSV u52)] fun _ _ => ?_
      have hJ52 : Frs st s52 (pcNW u18 ++ pcS u52) := hF20.join ⟨hO52,hN52,hP52⟩
      have hFn := (hF20.later hP52).join Frs.s0
      refine cxs ?_
      refine ⟨_,rfl,?_⟩
      refine ⟨_,Od rfl,?_⟩
      refine ⟨_,Od rfl,?_⟩
      have hk52 : stateOk u52.x := say_ok0 h52 h56
      have hb52 := big_ok hk52
      refine ⟨_,rfl,(ac_spec_LogAdd g.g u52 s52 (hR.g.pres ((hP18.trans hP20).trans hP52)) hO52.rdS (bigLog_iff.1 hb.g) hb52).mono ?_⟩
      rintro _ s64 ⟨u64,b64,rfl,h64,hO64,hN64,hP64⟩
      rcases b64 with _|_
      ·iterate 3 refine ⟨_,rfl,?_⟩
       refine ⟨_,Os rfl,?_⟩
       refine Cm 6 s64 [Ml 4 0,Ml 8 1,Ml 9 2,(10,vI 0),Ml 11 3,Ml 12 4,Ml 14 5,(15,vB false)] [(4,0,cNV g),(8,1,Zn),(9,2,[Sn,Sn]),(11,3,cNV u18.v),(12,4,cSV u52),(14,5,[vI u64.cap,vI u64.frm,vS u64.p u64.l.length])] fun _ _ => ?_
       refine ⟨_,rfl,?_⟩
       refine Cm 6 s64 [Ml 4 0,Ml 8 1,Ml 9 2,(10,vI 0),Ml 11 3,Ml 12 4,Ml 14 5,(68,vB true)] [(4,0,cNV g),(8,1,Zn),(9,2,[Sn,Sn]),(11,3,cNV u18.v),(12,4,cSV u52),(14,5,[vI u64.cap,vI u64.frm,vS u64.p u64.l.length])] fun _ _ => ?_
       have hFn2 := (hF20.later (hP52.trans hP64)).join Frs.s0
       refine ⟨_,op_ldo (v := (vNV u18.v)) rfl rfl rfl rfl,?_⟩
       refine ⟨_,rfl,?_⟩
       refine ⟨_,op_stw (vs := cNV u18.v) rfl rfl rfl rfl rfl rfl rfl rfl,?_⟩
       refine ⟨_,Os rfl,?_⟩
       exact cxs (Rt ⟨u18,⟨none,none,nilS⟩,4,rfl,say_most hok h18 h52 h56 h64,hFn2.1,hFn2.2.1,hFn2.2.2⟩)
      ·iterate 3 refine ⟨_,rfl,?_⟩
       refine ⟨_,Os rfl,?_⟩
       refine Cm 6 s64 [Ml 4 0,Ml 8 1,Ml 9 2,(10,vI 0),Ml 11 3,Ml 12 4,Ml 14 5,(15,vB true)] [(4,0,cNV g),(8,1,Zn),(9,2,[Sn,Sn]),(11,3,cNV u18.v),(12,4,cSV u52),(14,5,[vI u64.cap,vI u64.frm,vS u64.p u64.l.length])] fun _ _ => ?_
       refine ⟨_,rfl,?_⟩
       refine Cm 6 s64 [Ml 4 0,Ml 8 1,Ml 9 2,(10,vI 0),Ml 11 3,Ml 12 4,Ml 14 5,(68,vB false)] [(4,0,cNV g),(8,1,Zn),(9,2,[Sn,Sn]),(11,3,cNV u18.v),(12,4,cSV u52),(14,5,[vI u64.cap,vI u64.frm,vS u64.p u64.l.length])] fun _ _ => ?_
       have hFn2 := (hF20.later (hP52.trans hP64)).join Frs.s0
       refine cxs ?_
       refine ⟨_,op_ldo (v := (vNV g)) rfl rfl rfl rfl,?_⟩
       refine ⟨_,rfl,(ac_spec_l11Copy g s64 (hR.pres (((hP18.trans hP20).trans hP52).trans hP64)) (by first | assumption | omega)).mono ?_⟩
       rintro _ s72 ⟨u72,rfl,h72,hO72,hN72,hP72⟩
       refine ⟨_,rfl,?_⟩
       refine ⟨_,op_stw (vs := cNV u72.v) rfl rfl rfl rfl rfl rfl rfl rfl,?_⟩
       refine Cm 7 s72 [Ml 4 0,Ml 8 1,Ml 9 2,(10,vI 0),Ml 12 4,Ml 14 5,Ml 16 6] [(4,0,cNV g),(8,1,Zn),(9,2,[Sn,Sn]),(12,4,cSV u52),(14,5,[vI u64.cap,vI u64.frm,vS u64.p u64.l.length]),(16,6,cNV u72.v)] fun _ _ => ?_
       refine ⟨_,Od rfl,?_⟩
       refine ⟨_,rfl,?_⟩
       refine ⟨_,Os rfl,?_⟩
       refine Cm 7 s72 [Ml 4 0,Ml 8 1,Ml 9 2,(10,vI 0),Ml 12 4,Ml 16 6] [(4,0,cNV g),(8,1,Zn),(9,2,[Sn,Sn]),(12,4,cSV u52),(16,6,Nv u72 [(6,vI u64.cap),(7,vI u64.frm),(8,vS u64.p u64.l.length)])] fun _ _ => ?_
       have hJ : Frs st s72 (pcNW { u72 with g := u64 } ++ pcS u52) := by
        have h1 : Frs st s64 (pcLog u64 ++ pcS u52) := (Frs.join (b := s52) ⟨hJ52.1.right,fun c hc => hJ52.2.1 c (List.mem_append_right _ hc),hJ52.2.2⟩ ⟨hO64,hN64,hP64⟩).comm
        have h2 : Frs st s72 (pcNW u72 ++ (pcLog u64 ++ pcS u52)) := (h1.join ⟨hO72,hN72,hP72⟩).comm
        exact h2.ndGin
       have hA := addL_yes h64
       obtain ⟨e1,hk2⟩ := said_ok h20 hA
       have e3 : logSeq u64.v.x = logSeq g.g.x + 1 := e1
       have hgl : u72.got.l = g.got.l := congrArg Nd.got h72
       have hrng := logSeq_rng u64.v.x
       have hlen : g.id.toNat < u72.got.l.length := by have := h20.id; have := h20.got.2.1; rw [hgl]; show g.id.toNat < g.x.got.length; have e : g.x.id = g.id := rfl; omega
       have hid : 0 ≤ g.id := h20.id.1
       have hO : OwnR s72 1 fI u72.got.p u72.got.l := hJ.1.left.ownGot
       obtain ⟨a,ha⟩ := hO.some (by omega)
       obtain ⟨b1,o1,k1,r,hpe,hr,hm1,hc1,hb1⟩ := (hO.rows fI_len).atB (j := g.id.toNat) hlen
       obtain ⟨rfl,rfl⟩ : a = b1 ∧ 0 = o1 := by rw [ha] at hpe; injection hpe with hpe; injection hpe with e1 e2; exact ⟨e1,e2⟩
       have hrv : r = logSeq g.g.x := by rw [hgl] at hr; exact Option.some.inj (hr.symm.trans h20.seq)
       refine ⟨_,rfl,?_⟩
       refine ⟨_,Od rfl,?_⟩
       refine ⟨_,rfl,?_⟩
       refine ⟨_,Od rfl,?_⟩
       refine ⟨_,rfl,?_⟩
       refine ⟨_,Od rfl,?_⟩
       refine ⟨_,rfl,?_⟩
       refine ⟨_,Od rfl,?_⟩
       refine ⟨_,op_idx (j := g.id) (n := u72.got.l.length) (q := ⟨a,0,none⟩) rfl (congrArg (fun v => vS v u72.got.l.length) ha) rfl rfl rfl hid (by omega),?_⟩
       refine ⟨_,op_ldc (i := 0) rfl rfl rfl rfl hm1 hc1 rfl rfl,?_⟩
       have e85 : IntKind.wrap .i64 (r + 1) = r + 1 := wrap_i64 (by omega) (by omega)
       refine ⟨_,rfl,?_⟩
       refine ⟨_,op_idx (j := g.id) (n := u72.got.l.length) (q := ⟨a,0,none⟩) rfl (congrArg (fun v => vS v u72.got.l.length) ha) rfl rfl rfl hid (by omega),?_⟩
       refine op_put (z := 1) (st := s72) (f := fI) (j := g.id.toNat) (l := u72.got.l) (y := IntKind.wrap .i64 (r + 1)) (p := u72.got.p) (d := 0 + g.id.toNat * 1) rfl rfl (Nat.zero_add _) rfl rfl fI_len rfl rfl hlen hO ha ?_
       intro s9 hO9 hP9 hn9
       refine Cm 7 s9 [Ml 8 1,Ml 9 2,(10,vI 0),Ml 12 4,Ml 16 6] [(8,1,Zn),(9,2,[Sn,Sn]),(12,4,cSV u52),(16,6,Nv u72 [(6,vI u64.cap),(7,vI u64.frm),(8,vS u64.p u64.l.length)])] fun _ _ => ?_
       rw [e85] at hO9
       have hJ9 := hJ.gotSet hP9 hO9
       have hx9 : (NW.x { u72 with g := u64,got := ⟨u72.got.p,u72.got.l.set g.id.toNat (r + 1)⟩ } : Nd) = ownF g.x u64.v.x := by
        have e : r + 1 = logSeq u64.v.x := by omega
        rw [e,hgl]
        have e2 : ({ u72.x with g := u64.v.x,got := g.got.l.set g.id.toNat (logSeq u64.v.x) } : Nd) = ownF g.x u64.v.x := by rw [h72]; rfl
        exact e2
       have hR9 : RdN s9 (NW.v { u72 with g := u64,got := ⟨u72.got.p,u72.got.l.set g.id.toNat (r + 1)⟩ }) := OwnP.rdN hJ9.1.left
       have hD9 : RdS s9 u52 := hJ9.1.right.rdS
       have hb9 : bigN (ownF g.x u64.v.x) := ⟨hb.s,hb.t,big_add h64 hb.g hb52,by show (List.set _ _ _).length ≤ 1048576; rw [List.length_set]; exact hb.got,hb.acked,hb.seen,hb.sess,hb.rises⟩
       have hT : C 56 [.agg #[vI u72.id,vI u72.n,vS u72.s.p u72.s.x.items.length,vS u72.s.q u72.s.x.floors.length,vS u72.t.p u72.t.l.length,vI u72.t.root,vI u64.cap,vI u64.frm,vS u64.p u64.l.length,vS u72.got.p (u72.got.l.set g.id.toNat (r + 1)).length,vS u72.acked.p u72.acked.l.length,vS u72.seen.p u72.seen.t.length,vI u72.num,vI u72.slots,vS u72.sess.p u72.sess.l.length,vI u72.wait,vI u72.limit,vI u72.clock,vS u72.rises.p u72.rises.l.length],.agg #[vS u52.p u52.x.items.length,vS u52.q u52.x.floors.length]] s9 _ := (ac_spec_l11Take (NW.v { u72 with g := u64,got := ⟨u72.got.p,u72.got.l.set g.id.toNat (r + 1)⟩ }) u52 s9 hR9 hD9 (show bigN (NW.x { u72 with g := u64,got := ⟨u72.got.p,u72.got.l.set g.id.toNat (r + 1)⟩ }) from hx9 ▸ hb9) hb52 (show stateOk (NW.x { u72 with g := u64,got := ⟨u72.got.p,u72.got.l.set g.id.toNat (r + 1)⟩ }).s from hx9 ▸ h20.s) hk52 (show (NW.x { u72 with g := u64,got := ⟨u72.got.p,u72.got.l.set g.id.toNat (r + 1)⟩ }).rises.length = 5 from hx9 ▸ h20.rises.1))
       rw [List.length_set] at hT
       refine ⟨_,op_ldo (v := .agg #[vI u72.id,vI u72.n,vS u72.s.p u72.s.x.items.length,vS u72.s.q u72.s.x.floors.length,vS u72.t.p u72.t.l.length,vI u72.t.root,vI u64.cap,vI u64.frm,vS u64.p u64.l.length,vS u72.got.p u72.got.l.length,vS u72.acked.p u72.acked.l.length,vS u72.seen.p u72.seen.t.length,vI u72.num,vI u72.slots,vS u72.sess.p u72.sess.l.length,vI u72.wait,vI u72.limit,vI u72.clock,vS u72.rises.p u72.rises.l.length]) rfl rfl rfl rfl,?_⟩
       refine ⟨_,Od rfl,?_⟩
       refine ⟨_,rfl,hT.mono ?_⟩
       rintro _ s89 ⟨u89,rfl,h89,hO89,hN89,hP89⟩
       refine ⟨hP89.2,?_⟩
       refine ⟨_,Od rfl,?_⟩
       refine ⟨ld_own rfl rfl rfl,?_⟩
       refine ⟨_,op_stw (vs := cNV u89.v) rfl rfl rfl rfl rfl rfl rfl rfl,?_⟩
       refine ⟨sx_cons ⟨_,_,_,rfl,rfl,rfl,by decide⟩ (sx_nil),?_⟩
       refine ⟨_,Os rfl,?_⟩
       refine cxs ?_
       have hF89 := (Frs.join (b := s9) ⟨hJ9.1.right,fun c hc => hJ9.2.1 c (List.mem_append_right _ hc),hJ9.2.2⟩ ⟨hO89,hN89,hP89⟩ : Frs st s89 (pcS u52 ++ pcNW u89)).comm
       have h89 : u89.x = takeF (NW.x { u72 with g := u64,got := ⟨u72.got.p,u72.got.l.set g.id.toNat (r + 1)⟩ }) u52.x := h89
       rw [hx9] at h89
       exact Rt ⟨u89,u52,0,rfl,say_yes hok h52 h56 h64 h89,hF89.1,hF89.2.1,hF89.2.2⟩
     ·replace h56 : ¬ (c52 = (0)) := bne_iff_ne.1 h56
      refine Cm 5 s52 [Ml 4 0,Ml 8 1,Ml 9 2,(10,vI 0),Ml 11 3,Ml 12 4,(13,vI c52),(56,vB true)] [(4,0,cNV g),(8,1,Zn),(9,2,[Sn,Sn]),(11,3,cNV u18.v),(12,4,cSV u52)] fun _ _ => ?_
      have hJ52 : Frs st s52 (pcNW u18 ++ pcS u52) := hF20.join ⟨hO52,hN52,hP52⟩
      have hFn := (hF20.later hP52).join Frs.s0
      refine ⟨_,op_ldo (v := (vNV u18.v)) rfl rfl rfl rfl,?_⟩
      refine ⟨_,rfl,?_⟩
      refine ⟨_,op_stw (vs := cNV u18.v) rfl rfl rfl rfl rfl rfl rfl rfl,?_⟩
      refine ⟨_,Os rfl,?_⟩
      exact cxs (Rt ⟨u18,⟨none,none,nilS⟩,c52,rfl,say_how hok h18 h52 h56,hFn.1,hFn.2.1,hFn.2.2⟩)
    ·replace h42 : c37 = c41 := beq_iff_eq.1 h42
     refine ⟨_,rfl,?_⟩
     refine Cm 4 s20 [(1,vI kind),(2,vI id),(3,.string d),Ml 4 0,Ml 8 1,Ml 9 2,(10,vI 0),Ml 11 3,(43,vB true)] [(4,0,cNV g),(8,1,Zn),(9,2,[Sn,Sn]),(11,3,cNV u18.v)] fun _ _ => ?_
     have hF20 : Frs st s20 (pcNW u18) := ⟨hO18.pres hP20,hN18,hP18.trans hP20⟩
     have hFn := hF20.join Frs.s0
     refine ⟨_,op_ldo (v := (vNV u18.v)) rfl rfl rfl rfl,?_⟩
     refine ⟨_,rfl,?_⟩
     refine ⟨_,op_stw (vs := cNV u18.v) rfl rfl rfl rfl rfl rfl rfl rfl,?_⟩
     refine ⟨_,Os rfl,?_⟩
     exact cxs (Rt ⟨u18,⟨none,none,nilS⟩,1,rfl,say_bad (fun k => k.ne (eq_say (hc41.trans (h42.symm.trans hc37.symm)))) h18,hFn.1,hFn.2.1,hFn.2.2⟩)
theorem lens_all {t u : List RV} (h : (u.map (·.l)).map List.length = (t.map (·.l)).map List.length) (k : ∀ r ∈ t,r.l.length = 5) : ∀ r ∈ u,r.l.length = 5 := fun r hr => by
 have h1 : r.l.length ∈ (u.map (·.l)).map List.length := List.mem_map_of_mem (List.mem_map_of_mem hr)
 rw [h] at h1
 obtain ⟨l,hl,h2⟩ := List.mem_map.1 h1
 obtain ⟨r',hr',rfl⟩ := List.mem_map.1 hl
 rw [← h2]; exact k r' hr'
theorem Frs.toT {a b : St} {q : Option Addr} {t : List RV} (hO : OwnP b (pcT q t)) (hN : NewP a.next (pcT q t)) (hP : Pres a b) : Frs a b (pcT q t) := ⟨hO,hN,hP⟩
theorem ac_d_l9Right {p : Option Addr} {bs : List Int} (c : Nat) (st : St) (hc : Cur st c p bs) (hs : bs.length < 1099511627776) : C 195 [vP c 0] st (fun v s => ∃ (q : Option Addr) (t : List RV),v = vS q t.length ∧ (0 < t.length ∧ t.length ≤ 4) ∧ (∀ r ∈ t,r.l.length = 5) ∧ FrC c st s (pcT q t) ∧ Cur s c p bs) := by
 refine AC.enterX (i := ⟨[],[],[0,2,3,4,5,13],[]⟩) [] Tryz.func195 rfl rfl (by kernel_rfl) (by kernel_rfl) Tryz.ntmps195 (Lb rfl) rfl ?_
 refine Cu lo0 st [(0,vP c 0),(2,Sn)] fun _ => ?_
 refine ⟨_,rfl,(ac_d_l1Below c 4 st hc (by first | assumption | omega)).mono ?_⟩
 rintro _ s7 ⟨r7,rfl,h7,h7',h7'',hC7,hL7⟩
 have ew8 : IntKind.wrap .i64 ((1) + r7) = (1) + r7 := wrap_i64 (by omega) (by omega)
 refine ⟨_,rfl,?_⟩
 refine AW.cut lo0 s7 [(0,vP c 0),(2,Sn),(3,vI ((1) + r7))] ⟨rfl,rfl,congrArg (Value.int .i64) ew8,trivial⟩ fun _ => ?_
 refine ⟨_,rfl,(ac_spec_TableNew ((1) + r7) s7).mono ?_⟩
 rintro _ s10 ⟨p10,t10,rfl,hO10,hN10,hP10,h10⟩
 refine cxs ?_
 have hF10 : FrC c st s10 (pcT p10 t10) := ((Frs.toT hO10 hN10 hP10).toC hC7.lt).sooner hL7 hc.lt
 have hC10 := hC7.pres hP10
 have hr10 := (tnew_rows h10).2.1
 have hl10 : (t10.length : Int) = 1 + r7 := by
  have := congrArg List.length h10
  rw [List.length_map,tnew,if_pos (by omega),List.length_replicate] at this
  omega
 refine Cu lo0 s10 [(0,vP c 0),(2,Sn),(3,vI ((1) + r7)),(4,vS p10 t10.length),(5,vI 0)] fun _ => ?_
 refine AW.loop0 (fun x : Nat × Option Addr × List RV => [(0,vP c 0),(2,.slice none 0 0),(3,vI ((1) + r7)),(4,vS x.2.1 x.2.2.length),(5,vI (x.1 : Int))]) (fun m (x : Nat × Option Addr × List RV) st' => m = (1 + r7).toNat - x.1 ∧ (x.1 : Int) ≤ 1 + r7 ∧ (x.2.2.length : Int) = 1 + r7 ∧ (∀ r ∈ x.2.2,r.l.length = 5) ∧ FrC c st st' (pcT x.2.1 x.2.2) ∧ Cur st' c p bs) (0,p10,t10) _ ⟨rfl,rfl,rfl,rfl,rfl,trivial⟩ rfl ⟨rfl,by simp only; omega,hl10,hr10,hF10,hC10⟩ ?_
 rintro m ⟨i,q,t⟩ ρ0 st' ⟨rfl,hi,hl,hr,hF,hC⟩
 simp only at hi hl hr hF
 refine ⟨_,rfl,?_⟩
 rintro (_|_) h13
 ·replace h13 : ¬ ((i : Int) < ((1) + r7)) := of_decide_eq_false h13
  refine Cu lo0 st' [(0,vP c 0),(2,Sn),(3,vI ((1) + r7)),(4,vS q t.length),(5,vI (i : Int)),(13,vB false)] fun _ => ?_
  refine cxs ?_
  exact cxs (Rt ⟨q,t,rfl,⟨by omega,by omega⟩,hr,hF,hC⟩)
 ·replace h13 : (i : Int) < ((1) + r7) := of_decide_eq_true h13
  refine Cu lo0 st' [(0,vP c 0),(2,Sn),(3,vI ((1) + r7)),(4,vS q t.length),(5,vI (i : Int)),(13,vB true)] fun _ => ?_
  refine cxs ?_
  refine ⟨_,rfl,(ac_d_l3Right c st' hC (by first | assumption | omega)).mono ?_⟩
  rintro _ s19 ⟨u19,rfl,h19,hF19,hC19⟩
  have hb19 := big_ok h19
  refine ⟨_,rfl,(ac_spec_MarksOf u19 s19 (hF19.1.rdS) (by first | assumption | omega)).mono ?_⟩
  rintro _ s20 ⟨q20,rfl,hO20,hP20,hN20⟩
  have hF20 := (hF.join hF19).step hP20
  have hst : szOk t.length := by unfold szOk; omega
  have hsr : ∀ r ∈ t,szOk r.l.length := fun r hr' => by rw [hr r hr']; unfold szOk; omega
  refine ⟨_,rfl,(ac_spec_TableAdd q q20 t (i : Int) (marksF (goneAt u19.x) 5) s20 hF20.left.1.rdT (hO20.rows len_cFlr) hst hsr (szm _)).mono ?_⟩
  rintro _ s21 ⟨q21,u21,rfl,h21,h21',hO21,hN21,hP21⟩
  refine AW.cut lo0 s21 [(0,vP c 0),(2,Sn),(3,vI ((1) + r7)),(4,vS q21 u21.length),(5,vI (i : Int)),(13,vB true)] ⟨rfl,rfl,rfl,congrArg (vS q21) h21.symm,rfl,rfl,trivial⟩ fun _ => ?_
  have hF21 : FrC c st s21 (pcT q21 u21) := ((Frs.toT hO21 hN21 hP21).toC hF20.lt).sooner hF20.2.2.1 hc.lt
  have hC21 := (hC19.pres hP20).pres hP21
  have ew15 : IntKind.wrap .i64 ((i : Int) + (1)) = ((i + 1 : Nat) : Int) := (wrap_i64 (by omega) (by omega)).trans (by omega)
  refine ⟨_,rfl,?_⟩
  exact ⟨(i + 1,q21,u21),(1 + r7).toNat - (i + 1),by omega,⟨rfl,rfl,rfl,rfl,congrArg (Value.int .i64) ew15,trivial⟩,rfl,rfl,by simp only; omega,by simp only; rw [h21]; exact hl,lens_all (by rw [h21']; exact tableAdd_lens _ _ _) hr,hF21,hC21⟩
abbrev Hold (L : List Pc) (R : St → Prop) : Prop := ∀ s,OwnP s L → R s
section
variable {P : Program} {ls : List Tmp} {call : ACallT} {o : Oper} {e : Operand → Value} {lo : Lo} {st : St}
theorem op_slH {t el : TypeId} {x w : Operand} {p : Option Addr} {n j z : Nat} {b : Int} (ho : o.op = .slice t x none (some w) none) (hx : e x = .slice p n n) (hw : e w = vI b) (hb : b = (j : Int)) (he : telem P t = some el) (hz : tsize P el = some z) (h1 : j ≤ n) : aoper P ls call o e lo st = some (.slice p j j,lo,st) := by
 obtain ⟨d,op,ty,pos,after,gd⟩ := o
 simp only at ho
 subst ho hb
 have hp : (p.map fun q => (⟨q.block,q.off + 0 * z,q.spot⟩ : Addr)) = p := by cases p <;> simp
 simp only [aoper,rop,hx,hw,aslice,he,hz,Option.bind_some,Option.map_none,Option.map_some,abound,Option.bind]
 rw [if_pos (Int.natCast_nonneg j)]
 simp only [Int.toNat_natCast]
 rw [if_pos ⟨Nat.zero_le _,h1⟩,hp]
 rfl
end
theorem hold_cut {q : Option Addr} {t : List RV} {r : RV} (h0 : t[0]? = some r) (k : Nat) : Hold (pcR 1 cRV q (t.set 0 ⟨r.p,r.l.take k⟩) :: t.map pcRV) fun s => RdT s q (t.set 0 ⟨r.p,r.l.take k⟩) := fun s h => by
 have hrow : ∀ x ∈ t,Rows s 1 fI x.p x.l := fun x hx => (pc_own (f := fI) Nat.one_pos fI_len (h.1 (pcRV x) (List.mem_cons_of_mem _ (List.mem_map_of_mem hx)))).rows fI_len
 refine ⟨(pc_own (f := cRV) Nat.one_pos cRV_len (h.1 _ (List.mem_cons_self ..))).rows cRV_len,fun x hx => ?_⟩
 rcases List.mem_or_eq_of_mem_set hx with hx | rfl
 ·exact hrow x hx
 ·exact (hrow r (List.mem_of_getElem? h0)).take k
theorem ac_d_l9Draw {p : Option Addr} {bs : List Int} (c : Nat) (st : St) (hc : Cur st c p bs) (hs : bs.length < 1099511627776) : C 144 [vP c 0] st (fun v s => ∃ (q : Option Addr) (t : List RV) (L : List Pc),v = vS q t.length ∧ (t.length ≤ 4 ∧ ∀ r ∈ t,r.l.length ≤ 5) ∧ FrC c st s L ∧ Hold L (fun s' => RdT s' q t) ∧ Cur s c p bs) := by
 refine AC.enterX (i := ⟨[],[],[0,2,3,7,8,16,25],[]⟩) [(2006,[],[1]),(6,[4,5],[2])] Tryz.func144 rfl rfl (by kernel_rfl) (by kernel_rfl) Tryz.ntmps144 (Lb rfl) rfl ?_
 refine Cu lo0 st [(0,vP c 0),(2,Sn)] fun _ => ?_
 refine ⟨_,rfl,(ac_d_l9Right c st hc (by first | assumption | omega)).mono ?_⟩
 rintro _ s5 ⟨q5,t5,rfl,h5,h5',hF5,hC5⟩
 refine Cu lo0 s5 [(0,vP c 0),(2,Sn),(3,vS q5 t5.length)] fun _ => ?_
 refine ⟨_,rfl,(ac_d_l1Below c 12 s5 hC5 (by first | assumption | omega)).mono ?_⟩
 rintro _ s7 ⟨r7,rfl,h7,h7',h7'',hC7,hL7⟩
 refine Cu lo0 s7 [(0,vP c 0),(2,Sn),(3,vS q5 t5.length),(7,vI r7)] fun _ => ?_
 have hF7 := hF5.later hL7
 have hR7 := hF7.1.rdT
 have hsz : t5.length ≤ 4 ∧ ∀ r ∈ t5,r.l.length ≤ 5 := ⟨h5.2,fun r hr => Nat.le_of_eq (h5' r hr)⟩
 have hl0 : 0 < t5.length := h5.1
 refine ⟨_,rfl,?_⟩
 rintro (_|_) h9
 ·replace h9 : ¬ (r7 = (0)) := beq_eq_false_iff_ne.1 h9
  refine Cu lo0 s7 [(0,vP c 0),(2,Sn),(3,vS q5 t5.length),(7,vI r7),(8,vB false)] fun _ => ?_
  refine ⟨_,rfl,?_⟩
  rintro (_|_) h17
  ·replace h17 : ¬ (r7 = (1)) := beq_eq_false_iff_ne.1 h17
   refine Cu lo0 s7 [(0,vP c 0),(2,Sn),(3,vS q5 t5.length),(7,vI r7),(16,vB false)] fun _ => ?_
   refine ⟨_,rfl,?_⟩
   rintro (_|_) h26
   ·replace h26 : ¬ (r7 = (2)) := beq_eq_false_iff_ne.1 h26
    refine Cu lo0 s7 [(2,Sn),(3,vS q5 t5.length),(25,vB false)] fun _ => ?_
    refine cxs ?_
    exact cxs (Rt ⟨q5,t5,_,rfl,hsz,hF7,fun s' hO => hO.rdT,hC7⟩)
   ·replace h26 : r7 = (2) := beq_iff_eq.1 h26
    refine Cu lo0 s7 [(2,Sn),(3,vS q5 t5.length),(25,vB true)] fun _ => ?_
    refine cxs ?_
    exact cxs (Rt ⟨none,[],[],rfl,⟨Nat.zero_le _,fun r hr => (nomatch hr)⟩,⟨OwnP.nil,NewP.nil,hF7.2.2⟩,fun s' _ => ⟨Rows.nil,fun r hr => (nomatch hr)⟩,hC7⟩)
  ·replace h17 : r7 = (1) := beq_iff_eq.1 h17
   refine Cu lo0 s7 [(0,vP c 0),(2,Sn),(3,vS q5 t5.length),(7,vI r7),(16,vB true)] fun _ => ?_
   refine ⟨(fun a => a < s7.next ∧ a ≠ c),?_⟩
   refine op_at 0 hR7.1 (by omega) rfl rfl rfl rfl rfl rfl rfl ?_
   intro x19 b19 d19 k19 hy19 hb19 hm19 hc19 ho19
   have hm20 : x19 ∈ t5 := List.mem_of_getElem? hy19
   have hx5 : x19.l.length = 5 := h5' _ hm20
   have hne : b19 ≠ c := by
    obtain ⟨a,ha⟩ := (hF7.1.outer).some hl0
    obtain ⟨o,ho⟩ := ho19
    have := hF7.2.1 _ (List.mem_cons_self ..) ⟨b19,o,none⟩ ho
    exact Nat.ne_of_gt (Nat.lt_of_lt_of_le hc.lt this)
   refine ⟨_,op_ldc (i := 0) rfl rfl rfl rfl hm19 hc19 rfl rfl,?_⟩
   refine ⟨ld_lt rfl rfl ⟨hb19,hne⟩,?_⟩
   refine op_litI (k := .i64) (l := [-1,1001]) rfl rfl rfl rfl rfl rfl (Lb rfl) ?_
   intro q22 s22 hO22 hP22 hN22
   refine ⟨fun a ha => hP22.2 a ha.1,?_⟩
   refine ⟨_,rfl,(ac_d_l1PickInt c q22 [-1,1001] s22 (hC7.pres hP22) hs (by decide) hO22 (NC.new hN22 hC7.lt)).mono ?_⟩
   rintro _ s23 ⟨r23,rfl,h23,hC23,hL23⟩
   refine ⟨fun a ha => hL23.2 a (Nat.lt_of_lt_of_le ha.1 hP22.1) ha.2,?_⟩
   have hF23 := (hF7.step hP22).later hL23
   have hO23 : OwnR s23 1 fI x19.p x19.l := hF23.1.row hm20
   obtain ⟨a,ha⟩ := hO23.some (by omega)
   refine ⟨_,op_idx (j := 0) (n := x19.l.length) (q := ⟨a,0,none⟩) rfl (congrArg (fun v => vS v x19.l.length) ha) rfl rfl rfl (Int.le_refl 0) (by omega),?_⟩
   refine op_put (st := s23) (f := fI) (j := 0) (l := x19.l) (y := r23) (p := x19.p) (d := 0 + (0 : Int).toNat * 1) rfl rfl rfl rfl rfl fI_len rfl rfl (by omega) hO23 ha ?_
   intro s24 hO24 hP24 hn24
   refine cxs ?_
   refine cxs ?_
   have hNq : New st.next x19.p := hF23.2.1 (pcRV x19) (List.mem_cons_of_mem _ (List.mem_map_of_mem hm20))
   have hPC := PresC.thenNew hF23.2.2.1 hP24 hNq
   have hput : OwnP s24 (pcT q5 (putT t5 0 ⟨x19.p,x19.l.set 0 r23⟩)) := OwnP.put (l := x19.l) (by rw [show (⟨x19.p,x19.l⟩ : RV) = x19 from rfl,putT_self hy19]; exact hF23.1) hP24 hO24 List.length_set
   have hlen := putT_len (x := (⟨x19.p,x19.l.set 0 r23⟩ : RV)) hl0
   refine ⟨.inl rfl,_,rfl,q5,_,_,congrArg (vS q5) hlen.symm,⟨by rw [hlen]; exact h5.2,fun r hr => ?_⟩,⟨hput,fun x hx => ?_,hPC,hc.lt⟩,fun s' hO => hO.rdT,hC23.thenNew hc hF23.2.2.1 hP24 hNq⟩
   ·rcases List.mem_append.1 hr with hr | hr
    ·exact hsz.2 r (List.mem_of_mem_take hr)
    ·rcases List.mem_cons.1 hr with rfl | hr
     ·simp only [List.length_set]; omega
     ·exact hsz.2 r (List.mem_of_mem_drop hr)
   ·rcases List.mem_cons.1 hx with rfl | hx
    ·exact hF23.2.1 (pcR 1 cRV q5 t5) (List.mem_cons_self ..)
    ·obtain ⟨r,hr,rfl⟩ := List.mem_map.1 hx
     rcases List.mem_append.1 hr with hr | hr
     ·exact hF23.2.1 _ (List.mem_cons_of_mem _ (List.mem_map_of_mem (List.mem_of_mem_take hr)))
     ·rcases List.mem_cons.1 hr with rfl | hr
      ·exact hNq
      ·exact hF23.2.1 _ (List.mem_cons_of_mem _ (List.mem_map_of_mem (List.mem_of_mem_drop hr)))
 ·replace h9 : r7 = (0) := beq_iff_eq.1 h9
  refine Cu lo0 s7 [(0,vP c 0),(2,Sn),(3,vS q5 t5.length),(7,vI r7),(8,vB true)] fun _ => ?_
  refine op_at 0 hR7.1 (by omega) rfl rfl rfl rfl rfl rfl rfl ?_
  intro x12 b12 d12 k12 hy12 hb12 hm12 hc12 ho12
  refine ⟨_,op_ldc (i := 0) rfl rfl rfl rfl hm12 hc12 rfl rfl,?_⟩
  have hx5 : x12.l.length = 5 := h5' _ (List.mem_of_getElem? hy12)
  refine ⟨_,op_slH (p := x12.p) (n := x12.l.length) (j := 3) rfl rfl rfl rfl rfl rfl (by omega),?_⟩
  have hO7 : OwnR s7 1 cRV q5 t5 := hF7.1.outer
  obtain ⟨a,ha⟩ := hO7.some hl0
  refine ⟨_,op_idx (j := 0) (n := t5.length) (q := ⟨a,0,none⟩) rfl (congrArg (fun v => vS v t5.length) ha) rfl rfl rfl (Int.le_refl 0) (by omega),?_⟩
  refine op_put (st := s7) (f := cRV) (j := 0) (l := t5) (y := (⟨x12.p,x12.l.take 3⟩ : RV)) (p := q5) (d := 0 + (0 : Int).toNat * 1) rfl rfl rfl rfl rfl cRV_len (congrArg (fun n => [vS x12.p n]) (show 3 = (x12.l.take 3).length by rw [List.length_take]; omega)) rfl hl0 hO7 ha ?_
  intro s15 hO15 hP15 hn15
  refine cxs ?_
  refine cxs ?_
  have hNq : New st.next q5 := hF7.2.1 _ (List.mem_cons_self ..)
  have hPC := PresC.thenNew hF7.2.2.1 hP15 hNq
  refine ⟨.inl rfl,_,rfl,q5,_,_,congrArg (vS q5) List.length_set.symm,⟨by rw [List.length_set]; exact h5.2,fun r hr => ?_⟩,⟨OwnP.update (l := []) (d := pcR 1 cRV q5 (t5.set 0 ⟨x12.p,x12.l.take 3⟩)) hF7.1 hP15 (own_pc hO15) rfl,NewP.cons hNq (fun x hx => hF7.2.1 x (List.mem_cons_of_mem _ hx)),hPC,hc.lt⟩,hold_cut hy12 3,hC7.thenNew hc hF7.2.2.1 hP15 hNq⟩
  rcases List.mem_or_eq_of_mem_set hr with hr | rfl
  ·exact hsz.2 r hr
  ·simp only [List.length_take]; omega
theorem FrC.perm {c : Nat} {a b : St} {l m : List Pc} (h : FrC c a b l) (hp : l.Perm m) : FrC c a b m := ⟨h.1.perm hp,fun x hx => h.2.1 x (hp.mem_iff.2 hx),h.2.2⟩
theorem FrC.swap {c : Nat} {a b d : St} {A C D B : List Pc} (h : FrC c a b (A ++ (C ++ B))) (hF : FrC c b d D) : FrC c a d (A ++ (D ++ B)) :=
 ((h.join hF).perm (m := C ++ (A ++ (D ++ B))) (by
  classical
  exact List.perm_iff_count.2 fun x => by simp only [List.count_append]; omega)).right
theorem FrC.setMid {c : Nat} {a b d : St} {A B : List Pc} {x y : Pc} (h : FrC c a b (A ++ x :: B)) (hp : Pr x.p b d) (hd : y.own d) (he : y.p = x.p) : FrC c a d (A ++ y :: B) ∧ PresC c a d :=
 have hm : New a.next x.p := h.2.1 x (List.mem_append_right _ (List.mem_cons_self ..))
 have hP := PresC.thenNew h.2.2.1 hp hm
 ⟨⟨h.1.update hp hd he,fun z hz => by
  rcases List.mem_append.1 hz with hz | hz
  ·exact h.2.1 z (List.mem_append_left _ hz)
  ·rcases List.mem_cons.1 hz with rfl | hz
   ·rw [he]; exact hm
   ·exact h.2.1 z (List.mem_append_right _ (List.mem_cons_of_mem _ hz)),hP,h.2.2.2⟩,hP⟩
theorem FrC.ndE {c : Nat} {a b d : St} {v : NW} {u : TT} (h : FrC c a b (pcNW v)) (hF : FrC c b d (pcTT u)) : FrC c a d (pcNW { v with seen := u }) := by
 have e : ∀ x : TT,pcNW { v with seen := x } = (pcS v.s ++ (pcIs v.t.toRV ++ (pcLog v.g ++ (pcIs v.got ++ pcIs v.acked)))) ++ (pcTT x ++ (pcSes v.sess ++ pcRis v.rises)) := fun x => by simp only [List.append_assoc]
 rw [e]
 exact FrC.swap (C := pcTT v.seen) (by rw [← e]; exact h) hF
theorem FrC.gotSet {c : Nat} {a b d : St} {v : NW} {l : List Int} (h : FrC c a b (pcNW v)) (hp : Pr v.got.p b d) (hO : OwnR d 1 fI v.got.p l) : FrC c a d (pcNW { v with got := ⟨v.got.p,l⟩ }) ∧ PresC c a d := by
 have h : FrC c a b (pcNW { v with got := v.got }) := h
 rw [NW.gotAt] at h ⊢
 exact FrC.setMid (x := pcR 1 fI v.got.p v.got.l) h hp (own_pc hO) rfl
theorem FrC.ackedSet {c : Nat} {a b d : St} {v : NW} {l : List Int} (h : FrC c a b (pcNW v)) (hp : Pr v.acked.p b d) (hO : OwnR d 1 fI v.acked.p l) : FrC c a d (pcNW { v with acked := ⟨v.acked.p,l⟩ }) ∧ PresC c a d := by
 have h : FrC c a b (pcNW { v with acked := v.acked }) := h
 rw [NW.ackedAt] at h ⊢
 exact FrC.setMid (x := pcR 1 fI v.acked.p v.acked.l) h hp (own_pc hO) rfl
theorem NewP.got {n : Nat} {v : NW} (h : NewP n (pcNW v)) : New n v.got.p := by
 have h : NewP n (pcNW { v with got := v.got }) := h
 rw [NW.gotAt] at h
 exact h _ (List.mem_append_right _ (List.mem_cons_self ..))
theorem NewP.acked {n : Nat} {v : NW} (h : NewP n (pcNW v)) : New n v.acked.p := by
 have h : NewP n (pcNW { v with acked := v.acked }) := h
 rw [NW.ackedAt] at h
 exact h _ (List.mem_append_right _ (List.mem_cons_self ..))
theorem node_big {x : Nd} (h : nodeOk x) : bigN x := by
 have h1 := tree_len x.s
 have h2 := h.g.2.1
 have h3 := h.g.1.2
 have h4 := h.got.2.1
 have h5 := h.acked.2.1
 have h6 := h.n.2
 have h7 := h.seen.2.1
 have h8 := h.sess.1
 have h9 := h.slots.2
 have h10 := h.rises.1
 refine ⟨big_ok h.s,by rw [h.t]; unfold szOk; omega,⟨by unfold szOk; omega,fun s hs => big_ok (h.g.2.2.2.2 s hs)⟩,by unfold szOk; omega,by unfold szOk; omega,⟨by unfold szOk; omega,fun l hl => by have := (h.seen.2.2 l hl).1; unfold szOk; omega⟩,by unfold szOk; omega,by unfold szOk; omega⟩
theorem say_node {x : Nd} {kind id : Int} {d : ByteArray} (h : nodeOk x) : nodeOk (sayF x kind id d).1 ∧ (sayF x kind id d).1.n = x.n := by
 unfold sayF
 split
 ·split
  ·rename_i hk h0
   obtain ⟨gl,bl,hA⟩ : ∃ gl bl,(gl,bl) = addL x.g (sayS x.s kind id d).1 := ⟨_,_,rfl⟩
   rw [← hA]
   have hs : stateOk (sayS x.s kind id d).1 := say_ok (s := x.s) (kind := kind) (id := id) (data := d) (by rw [← h0])
   cases bl with
   | true => rw [if_pos rfl]; exact ⟨take_ok (said_ok h (addL_yes hA)).2 hs,rfl⟩
   | false => rw [if_neg Bool.false_ne_true]; exact ⟨h,rfl⟩
  ·exact ⟨h,rfl⟩
 ·exact ⟨h,rfl⟩
theorem syn_n {x : Nd} {to : Int} : (synF x to).1.n = x.n := by
 unfold synF
 split <;> rfl
theorem tick_n {x : Nd} : (tickF x).n = x.n := by
 unfold tickF
 split <;> rfl
theorem ac_d_l11Right {p : Option Addr} {bs : List Int} (c : Nat) (st : St) (hc : Cur st c p bs) (hs : bs.length < 1099511627776) : C 142 [vP c 0] st (fun v s => ∃ u : NW,v = (vNV u) ∧ nodeOk u.x ∧ FrC c st s (pcNW u) ∧ Cur s c p bs) := by
 refine AC.enterX (i := ⟨[2,4],[2,4,67,76,94,97,103,107],[0,2,3,4,6,7,8,36,40,55,61,65,77,90,96],[]⟩) [(2010,[],[1]),(2014,[],[1]),(2016,[],[1]),(2021,[],[1]),(2022,[],[1]),(2008,[],[1]),(10,[2],[0]),(14,[4,6,7],[1]),(16,[3],[0]),(8,[2,5,7,8],[0]),(21,[4],[1]),(22,[6,8],[1])] Tryz.func142 rfl rfl (by kernel_rfl) (by kernel_rfl) Tryz.ntmps142 (Lb rfl) rfl ?_
 refine ⟨_,rfl,?_⟩
 refine Cm 1 st [(0,vP c 0),Ml 2 0] [(2,0,Zn)] fun _ _ => ?_
 refine ⟨_,rfl,(ac_d_l1Below c 4 st hc (by first | assumption | omega)).mono ?_⟩
 rintro _ s10 ⟨r10,rfl,h10,h10',h10'',hC10,hL10⟩
 have ew11 : IntKind.wrap .i64 ((1) + r10) = (1) + r10 := wrap_i64 (by omega) (by omega)
 refine ⟨_,rfl,?_⟩
 refine AW.cutM (1) s10 [(0,vP c 0),Ml 2 0,(3,vI ((1) + r10))] [(2,0,Zn)] ⟨rfl,rfl,congrArg (Value.int .i64) ew11,trivial⟩ ⟨rfl,trivial⟩ rfl fun _ _ => ?_
 refine ⟨_,rfl,(ac_d_l1Below c ((1) + r10) s10 hC10 (by first | assumption | omega)).mono ?_⟩
 rintro _ s15 ⟨r15,rfl,h15,h15',h15'',hC15,hL15⟩
 refine op_litI (k := .i64) (l := [1,2,8]) rfl rfl rfl rfl rfl rfl (Lb rfl) ?_
 intro q18 s18 hO18 hP18 hN18
 refine ⟨_,rfl,(ac_d_l1PickInt c q18 ([1,2,8]) s18 (hC15.pres hP18) (by first | assumption | omega) (by first | assumption | omega | decide) (by first | assumption | omega) (by first | assumption | exact NC.new (by assumption) (Cur.lt (by assumption)))).mono ?_⟩
 rintro _ s19 ⟨r19,rfl,h19,hC19,hL19⟩
 refine ⟨_,rfl,(ac_d_l1Below c 3 s19 hC19 (by first | assumption | omega)).mono ?_⟩
 rintro _ s21 ⟨r21,rfl,h21,h21',h21'',hC21,hL21⟩
 have ew22 : IntKind.wrap .i64 ((1) + r21) = (1) + r21 := wrap_i64 (by omega) (by omega)
 refine ⟨_,rfl,?_⟩
 refine ⟨_,rfl,(ac_d_l1Below c 5 s21 hC21 (by first | assumption | omega)).mono ?_⟩
 rintro _ s24 ⟨r24,rfl,h24,h24',h24'',hC24,hL24⟩
 have ew25 : IntKind.wrap .i64 ((1) + r24) = (1) + r24 := wrap_i64 (by omega) (by omega)
 refine ⟨_,rfl,?_⟩
 refine ⟨_,rfl,(ac_d_l1Below c 6 s24 hC24 (by first | assumption | omega)).mono ?_⟩
 rintro _ s27 ⟨r27,rfl,h27,h27',h27'',hC27,hL27⟩
 have ew28 : IntKind.wrap .i64 ((1) + r27) = (1) + r27 := wrap_i64 (by omega) (by omega)
 refine ⟨_,rfl,?_⟩
 refine ⟨_,rfl,(ac_spec_NodeNew r15 ((1) + r10) r19 (IntKind.wrap .i64 ((1) + r21)) (IntKind.wrap .i64 ((1) + r24)) (IntKind.wrap .i64 ((1) + r27)) s27).mono ?_⟩
 rintro _ s29 ⟨u29,b29,rfl,h29,hO29,hN29,hP29⟩
 rw [ew22,ew25,ew28] at h29
 iterate 3 refine ⟨_,rfl,?_⟩
 refine ⟨_,op_stw (vs := cNV u29.v) rfl rfl rfl rfl rfl rfl rfl rfl,?_⟩
 refine Cm 2 s29 [(0,vP c 0),Ml 2 0,(3,vI ((1) + r10)),Ml 4 1] [(2,0,Zn),(4,1,cNV u29.v)] fun _ _ => ?_
 have hcap : 1 ≤ r19 ∧ r19 ≤ 8 := by simp only [List.mem_cons,List.not_mem_nil,or_false] at h19; omega
 have hPP := (((((hL10.trans hL15).trans hP18.c).trans hL19).trans hL21).trans hL24).trans hL27
 have hF29 : FrC c st s29 (pcNW u29) := ((Frs.toC ⟨hO29,hN29,hP29⟩ hC27.lt).sooner hPP hc.lt)
 have hC29 := hC27.pres hP29
 obtain ⟨hk29,he29⟩ := newF_ok h29 (by omega) (by omega) hcap (by omega) (by omega) (by omega)
 have hn29 : u29.n = 1 + r10 := congrArg Nd.n he29
 refine ⟨_,rfl,(ac_d_l1Below c 8 s29 hC29 (by first | assumption | omega)).mono ?_⟩
 rintro _ s33 ⟨r33,rfl,h33,h33',h33'',hC33,hL33⟩
 refine cxs ?_
 have hF33 := hF29.later hL33
 refine Cm 2 s33 [(0,vP c 0),Ml 2 0,(3,vI ((1) + r10)),Ml 4 1,(6,vI r33),(7,vI 0)] [(2,0,Zn),(4,1,cNV u29.v)] fun _ _ => ?_
 refine AW.loopM (fun x : Nat × NW => [(0,vP c 0),(2,vL 2 0 (0)),(3,vI ((1) + r10)),(4,vL 4 0 (1)),(6,vI r33),(7,vI (x.1 : Int))]) (fun x : Nat × NW => [(2,0,[vI 0,vI 0,.slice none 0 0,.slice none 0 0,.slice none 0 0,vI 0,vI 0,vI 0,.slice none 0 0,.slice none 0 0,.slice none 0 0,.slice none 0 0,vI 0,vI 0,.slice none 0 0,vI 0,vI 0,vI 0,.slice none 0 0]),(4,1,[vI x.2.id,vI x.2.n,vS x.2.s.p x.2.s.x.items.length,vS x.2.s.q x.2.s.x.floors.length,vS x.2.t.p x.2.t.l.length,vI x.2.t.root,vI x.2.g.cap,vI x.2.g.frm,vS x.2.g.p x.2.g.l.length,vS x.2.got.p x.2.got.l.length,vS x.2.acked.p x.2.acked.l.length,vS x.2.seen.p x.2.seen.t.length,vI x.2.num,vI x.2.slots,vS x.2.sess.p x.2.sess.l.length,vI x.2.wait,vI x.2.limit,vI x.2.clock,vS x.2.rises.p x.2.rises.l.length])]) (fun m (x : Nat × NW) st' => m = r33.toNat - x.1 ∧ (x.1 : Int) ≤ r33 ∧ nodeOk x.2.x ∧ x.2.n = 1 + r10 ∧ FrC c st st' (pcNW x.2) ∧ Cur st' c p bs) (0,u29) _ ⟨rfl,rfl,rfl,rfl,rfl,rfl,trivial⟩ ⟨rfl,rfl,trivial⟩ ⟨rfl,by simp only; omega,hk29,hn29,hF33,hC33⟩ ?_
 rintro m ⟨i,u⟩ ρ0 ff gg st' ⟨rfl,hi,hk,hsz,hF,hC⟩
 simp only at hi hk hsz hF
 refine ⟨_,rfl,?_⟩
 rintro (_|_) h36
 ·replace h36 : ¬ ((i : Int) < r33) := of_decide_eq_false h36
  refine Cm gg st' [(0,vP c 0),Ml 2 0,(3,vI ((1) + r10)),Ml 4 1,(6,vI r33),(7,vI (i : Int)),(36,vB false)] [(2,0,Zn),(4,1,cNV u.v)] fun _ _ => ?_
  have hb := node_big hk
  refine cxs ?_
  refine Cm gg st' [(0,vP c 0),Ml 2 0,(3,vI ((1) + r10)),Ml 4 1,(8,vI 0)] [(2,0,Zn),(4,1,cNV u.v)] fun _ _ => ?_
  refine AW.loopM (fun x : Nat × NW => [(0,vP c 0),(2,vL 2 0 (0)),(3,vI ((1) + r10)),(4,vL 4 0 (1)),(8,vI (x.1 : Int))]) (fun x : Nat × NW => [(2,0,[vI 0,vI 0,.slice none 0 0,.slice none 0 0,.slice none 0 0,vI 0,vI 0,vI 0,.slice none 0 0,.slice none 0 0,.slice none 0 0,.slice none 0 0,vI 0,vI 0,.slice none 0 0,vI 0,vI 0,vI 0,.slice none 0 0]),(4,1,[vI x.2.id,vI x.2.n,vS x.2.s.p x.2.s.x.items.length,vS x.2.s.q x.2.s.x.floors.length,vS x.2.t.p x.2.t.l.length,vI x.2.t.root,vI x.2.g.cap,vI x.2.g.frm,vS x.2.g.p x.2.g.l.length,vS x.2.got.p x.2.got.l.length,vS x.2.acked.p x.2.acked.l.length,vS x.2.seen.p x.2.seen.t.length,vI x.2.num,vI x.2.slots,vS x.2.sess.p x.2.sess.l.length,vI x.2.wait,vI x.2.limit,vI x.2.clock,vS x.2.rises.p x.2.rises.l.length])]) (fun m (x : Nat × NW) st' => m = (1 + r10).toNat - x.1 ∧ (x.1 : Int) ≤ 1 + r10 ∧ nodeOk x.2.x ∧ x.2.n = 1 + r10 ∧ FrC c st st' (pcNW x.2) ∧ Cur st' c p bs) (0,u) _ ⟨rfl,rfl,rfl,rfl,rfl,trivial⟩ ⟨rfl,rfl,trivial⟩ ⟨rfl,by simp only; omega,hk,hsz,hF,hC⟩ ?_
  rintro m ⟨j,w⟩ ρ0 ff gg st' ⟨rfl,hi2,hk2,hsz2,hF2,hC2⟩
  simp only at hi2 hk2 hsz2 hF2
  refine ⟨_,rfl,?_⟩
  rintro (_|_) h90
  ·replace h90 : ¬ ((j : Int) < ((1) + r10)) := of_decide_eq_false h90
   refine Cm gg st' [(0,vP c 0),Ml 2 0,(3,vI ((1) + r10)),Ml 4 1,(8,vI (j : Int)),(90,vB false)] [(2,0,Zn),(4,1,cNV w.v)] fun _ _ => ?_
   refine cxs ?_
   refine ⟨_,op_ldo (v := (vNV w.v)) rfl rfl rfl rfl,?_⟩
   refine ⟨_,op_stw (vs := cNV w.v) rfl rfl rfl rfl rfl rfl rfl rfl,?_⟩
   exact cxs (Rt ⟨w,rfl,hk2,hF2,hC2⟩)
  ·replace h90 : (j : Int) < ((1) + r10) := of_decide_eq_true h90
   refine Cm gg st' [(0,vP c 0),Ml 2 0,(3,vI ((1) + r10)),Ml 4 1,(8,vI (j : Int)),(90,vB true)] [(2,0,Zn),(4,1,cNV w.v)] fun _ _ => ?_
   have hgl : j < w.got.l.length := by have h := hk2.got.2.1; have h' : (w.got.l.length : Int) = w.n := h; omega
   have hal : j < w.acked.l.length := by have h := hk2.acked.2.1; have h' : (w.acked.l.length : Int) = w.n := h; omega
   refine cxs ?_
   refine ⟨_,rfl,?_⟩
   refine ⟨_,Od rfl,?_⟩
   refine ⟨_,rfl,?_⟩
   rintro (_|_) h96
   ·replace h96 : (j : Int) = w.id := bne_eq_false_iff_eq.1 h96
    refine Cm gg st' [(0,vP c 0),Ml 2 0,(3,vI ((1) + r10)),Ml 4 1,(8,vI (j : Int)),(90,vB true),(96,vB false)] [(2,0,Zn),(4,1,cNV w.v)] fun _ _ => ?_
    refine cxs ?_
    refine ⟨fun _ => False,?_⟩
    refine ⟨_,rfl,?_⟩
    refine ⟨_,Od rfl,?_⟩
    refine ⟨ld_own rfl rfl rfl,?_⟩
    refine ⟨_,rfl,?_⟩
    refine ⟨_,Od rfl,?_⟩
    refine ⟨_,rfl,(ac_spec_LogSeq w.g.v st' hF2.1.rdN.g (bigLog_iff.1 (node_big hk2).g)).mono ?_⟩
    rintro _ st' ⟨rfl,rfl⟩
    refine ⟨fun _ h => h.elim,?_⟩
    have hq := logSeq_rng w.g.v.x
    have ew110 : IntKind.wrap .i64 ((logSeq w.g.v.x) + (1)) = (logSeq w.g.v.x) + (1) := wrap_i64 (by omega) (by omega)
    refine ⟨_,rfl,?_⟩
    refine ⟨_,rfl,(ac_d_l1Below c (IntKind.wrap .i64 ((logSeq w.g.v.x) + (1))) st' hC2 (by first | assumption | omega)).mono ?_⟩
    rintro _ s111 ⟨r111,rfl,h111,h111',h111'',hC111,hL111⟩
    refine ⟨fun _ h => h.elim,?_⟩
    rw [ew110] at h111'
    rw [ew110] at h111''
    have hF111 := hF2.later hL111
    have hO2 : OwnR s111 1 fI w.acked.p w.acked.l := hF111.1.ownAcked
    obtain ⟨a2,ha2⟩ := hO2.some (by omega)
    refine ⟨_,op_idx (j := (j : Int)) (n := w.acked.l.length) (q := ⟨a2,0,none⟩) rfl (congrArg (fun v => vS v w.acked.l.length) ha2) rfl rfl rfl (Int.natCast_nonneg _) (by omega),?_⟩
    refine op_put (z := 1) (st := s111) (f := fI) (j := j) (l := w.acked.l) (y := r111) (p := w.acked.p) (d := 0 + j * 1) rfl rfl (Nat.zero_add _) rfl rfl fI_len rfl rfl hal hO2 ha2 ?_
    intro s10 hO10 hP10 hn10
    refine Cm gg s10 [(0,vP c 0),Ml 2 0,(3,vI ((1) + r10)),Ml 4 1,(8,vI (j : Int)),(90,vB true),(96,vB false)] [(2,0,Zn),(4,1,cNV w.v)] fun _ _ => ?_
    have hF10 := (hF111.ackedSet hP10 hO10).1
    have hC10 := hC111.thenNew hc hF111.2.2.1 hP10 hF111.2.1.acked
    have hk10 := acked_ok (i := j) (v := r111) hk2 (show 0 ≤ r111 ∧ r111 ≤ logSeq w.g.v.x by omega)
    have ew92 : IntKind.wrap .i64 ((j : Int) + (1)) = ((j + 1 : Nat) : Int) := (wrap_i64 (by omega) (by omega)).trans (by omega)
    refine ⟨_,rfl,?_⟩
    exact ⟨(j + 1,{ w with acked := ⟨w.acked.p,w.acked.l.set j r111⟩ }),(1 + r10).toNat - (j + 1),by omega,⟨rfl,rfl,rfl,rfl,congrArg (Value.int .i64) ew92,trivial⟩,⟨rfl,(show some (1,cNV w.v) = _ by rw [List.length_set]),trivial⟩,rfl,by simp only; omega,hk10,hsz2,hF10,hC10⟩
   ·replace h96 : ¬ ((j : Int) = w.id) := bne_iff_ne.1 h96
    refine Cm gg st' [(0,vP c 0),Ml 2 0,(3,vI ((1) + r10)),Ml 4 1,(8,vI (j : Int)),(90,vB true),(96,vB true)] [(2,0,Zn),(4,1,cNV w.v)] fun _ _ => ?_
    refine ⟨fun _ => False,?_⟩
    refine ⟨_,rfl,?_⟩
    refine ⟨_,Od rfl,?_⟩
    refine ⟨ld_own rfl rfl rfl,?_⟩
    refine ⟨_,rfl,(ac_d_l1Below c 4 st' hC2 (by first | assumption | omega)).mono ?_⟩
    rintro _ s101 ⟨r101,rfl,h101,h101',h101'',hC101,hL101⟩
    refine ⟨fun _ h => h.elim,?_⟩
    have hF101 := hF2.later hL101
    have hO : OwnR s101 1 fI w.got.p w.got.l := hF101.1.ownGot
    obtain ⟨a,ha⟩ := hO.some (by omega)
    refine ⟨_,op_idx (j := (j : Int)) (n := w.got.l.length) (q := ⟨a,0,none⟩) rfl (congrArg (fun v => vS v w.got.l.length) ha) rfl rfl rfl (Int.natCast_nonneg _) (by omega),?_⟩
    refine op_put (z := 1) (st := s101) (f := fI) (j := j) (l := w.got.l) (y := r101) (p := w.got.p) (d := 0 + j * 1) rfl rfl (Nat.zero_add _) rfl rfl fI_len rfl rfl hgl hO ha ?_
    intro s9 hO9 hP9 hn9
    refine Cm gg s9 [(0,vP c 0),Ml 2 0,(3,vI ((1) + r10)),Ml 4 1,(8,vI (j : Int)),(90,vB true),(96,vB true)] [(2,0,Zn),(4,1,cNV w.v)] fun _ _ => ?_
    have hF9 := (hF101.gotSet hP9 hO9).1
    have hC9 := hC101.thenNew hc hF101.2.2.1 hP9 hF101.2.1.got
    have hk9 : nodeOk { w.x with got := w.x.got.set j r101 } := got_ok hk2 h96 (by omega)
    refine ⟨fun _ => False,?_⟩
    refine ⟨_,rfl,?_⟩
    refine ⟨_,Od rfl,?_⟩
    refine ⟨ld_own rfl rfl rfl,?_⟩
    refine ⟨_,rfl,?_⟩
    refine ⟨_,Od rfl,?_⟩
    refine ⟨_,rfl,(ac_spec_LogSeq w.g.v s9 hF9.1.rdN.g (bigLog_iff.1 (node_big hk2).g)).mono ?_⟩
    rintro _ s9 ⟨rfl,rfl⟩
    refine ⟨fun _ h => h.elim,?_⟩
    have hq := logSeq_rng w.g.v.x
    have ew110 : IntKind.wrap .i64 ((logSeq w.g.v.x) + (1)) = (logSeq w.g.v.x) + (1) := wrap_i64 (by omega) (by omega)
    refine ⟨_,rfl,?_⟩
    refine ⟨_,rfl,(ac_d_l1Below c (IntKind.wrap .i64 ((logSeq w.g.v.x) + (1))) s9 hC9 (by first | assumption | omega)).mono ?_⟩
    rintro _ s111 ⟨r111,rfl,h111,h111',h111'',hC111,hL111⟩
    refine ⟨fun _ h => h.elim,?_⟩
    rw [ew110] at h111'
    rw [ew110] at h111''
    have hF111 := hF9.later hL111
    have hO2 : OwnR s111 1 fI w.acked.p w.acked.l := hF111.1.ownAcked
    obtain ⟨a2,ha2⟩ := hO2.some (by omega)
    refine ⟨_,op_idx (j := (j : Int)) (n := w.acked.l.length) (q := ⟨a2,0,none⟩) rfl (congrArg (fun v => vS v w.acked.l.length) ha2) rfl rfl rfl (Int.natCast_nonneg _) (by omega),?_⟩
    refine op_put (z := 1) (st := s111) (f := fI) (j := j) (l := w.acked.l) (y := r111) (p := w.acked.p) (d := 0 + j * 1) rfl rfl (Nat.zero_add _) rfl rfl fI_len rfl rfl hal hO2 ha2 ?_
    intro s10 hO10 hP10 hn10
    refine Cm gg s10 [(0,vP c 0),Ml 2 0,(3,vI ((1) + r10)),Ml 4 1,(8,vI (j : Int)),(90,vB true),(96,vB true)] [(2,0,Zn),(4,1,cNV w.v)] fun _ _ => ?_
    have hF10 := (hF111.ackedSet hP10 hO10).1
    have hC10 := hC111.thenNew hc hF111.2.2.1 hP10 hF111.2.1.acked
    have hk10 := acked_ok (i := j) (v := r111) hk9 (show 0 ≤ r111 ∧ r111 ≤ logSeq w.g.v.x by omega)
    have ew92 : IntKind.wrap .i64 ((j : Int) + (1)) = ((j + 1 : Nat) : Int) := (wrap_i64 (by omega) (by omega)).trans (by omega)
    refine ⟨_,rfl,?_⟩
    exact ⟨(j + 1,{ w with got := ⟨w.got.p,w.got.l.set j r101⟩,acked := ⟨w.acked.p,w.acked.l.set j r111⟩ }),(1 + r10).toNat - (j + 1),by omega,⟨rfl,rfl,rfl,rfl,congrArg (Value.int .i64) ew92,trivial⟩,⟨rfl,(show some (1,cNV w.v) = _ by rw [List.length_set,List.length_set]),trivial⟩,rfl,by simp only; omega,hk10,hsz2,hF10,hC10⟩
 ·replace h36 : (i : Int) < r33 := of_decide_eq_true h36
  refine Cm gg st' [(0,vP c 0),Ml 2 0,(3,vI ((1) + r10)),Ml 4 1,(6,vI r33),(7,vI (i : Int)),(36,vB true)] [(2,0,Zn),(4,1,cNV u.v)] fun _ _ => ?_
  have hb := node_big hk
  refine cxs ?_
  refine ⟨_,rfl,(ac_d_l1Below c 6 st' hC (by first | assumption | omega)).mono ?_⟩
  rintro _ s40 ⟨r40,rfl,h40,h40',h40'',hC40,hL40⟩
  refine Cm gg s40 [(0,vP c 0),Ml 2 0,(3,vI ((1) + r10)),Ml 4 1,(6,vI r33),(7,vI (i : Int)),(36,vB true),(40,vI r40)] [(2,0,Zn),(4,1,cNV u.v)] fun _ _ => ?_
  have hF40 := hF.later hL40
  refine ⟨_,rfl,?_⟩
  rintro (_|_) h56
  ·replace h56 : ¬ (r40 = (0)) := beq_eq_false_iff_ne.1 h56
   refine Cm gg s40 [(0,vP c 0),Ml 2 0,(3,vI ((1) + r10)),Ml 4 1,(6,vI r33),(7,vI (i : Int)),(36,vB true),(40,vI r40),(55,vB false)] [(2,0,Zn),(4,1,cNV u.v)] fun _ _ => ?_
   refine ⟨_,rfl,?_⟩
   rintro (_|_) h62
   ·replace h62 : ¬ (r40 = (1)) := beq_eq_false_iff_ne.1 h62
    refine Cm gg s40 [(0,vP c 0),Ml 2 0,(3,vI ((1) + r10)),Ml 4 1,(6,vI r33),(7,vI (i : Int)),(36,vB true),(40,vI r40),(55,vB false),(61,vB false)] [(2,0,Zn),(4,1,cNV u.v)] fun _ _ => ?_
    refine ⟨_,rfl,?_⟩
    rintro (_|_) h66
    ·replace h66 : ¬ (r40 = (2)) := beq_eq_false_iff_ne.1 h66
     refine Cm gg s40 [(0,vP c 0),Ml 2 0,(3,vI ((1) + r10)),Ml 4 1,(6,vI r33),(7,vI (i : Int)),(36,vB true),(40,vI r40),(55,vB false),(61,vB false),(65,vB false)] [(2,0,Zn),(4,1,cNV u.v)] fun _ _ => ?_
     refine ⟨_,rfl,?_⟩
     rintro (_|_) h78
     ·replace h78 : ¬ (r40 = (3)) := beq_eq_false_iff_ne.1 h78
      refine Cm gg s40 [(0,vP c 0),Ml 2 0,(3,vI ((1) + r10)),Ml 4 1,(6,vI r33),(7,vI (i : Int)),(36,vB true),(40,vI r40),(55,vB false),(61,vB false),(65,vB false),(77,vB false)] [(2,0,Zn),(4,1,cNV u.v)] fun _ _ => ?_
      refine ⟨fun _ => False,?_⟩
      refine ⟨_,op_ldo (v := (vNV u.v)) rfl rfl rfl rfl,?_⟩
      refine ⟨ld_own rfl rfl rfl,?_⟩
      refine ⟨_,rfl,(ac_d_l1Below c 5 s40 hC40 (by first | assumption | omega)).mono ?_⟩
      rintro _ s44 ⟨r44,rfl,h44,h44',h44'',hC44,hL44⟩
      refine ⟨fun _ h => h.elim,?_⟩
      refine ⟨_,rfl,(ac_d_l1Below c ((1) + r10) s44 hC44 (by first | assumption | omega)).mono ?_⟩
      rintro _ s47 ⟨r47,rfl,h47,h47',h47'',hC47,hL47⟩
      refine ⟨fun _ h => h.elim,?_⟩
      refine op_litS (l := [⟨#[]⟩,⟨#[120]⟩,⟨#[121,122]⟩]) rfl rfl rfl (Lb rfl) rfl rfl rfl (Lb rfl) ?_
      intro q49 s49 hO49 hP49 hN49
      refine ⟨fun _ h => h.elim,?_⟩
      refine ⟨_,rfl,(ac_d_l1Pick c q49 ([⟨#[]⟩,⟨#[120]⟩,⟨#[121,122]⟩]) s49 (hC47.pres hP49) (by first | assumption | omega) (by first | assumption | omega | decide) (by first | assumption | omega) (by first | assumption | exact NC.new (by assumption) (Cur.lt (by assumption)))).mono ?_⟩
      rintro _ s50 ⟨r50,rfl,h50,hC50,hL50⟩
      refine ⟨fun _ h => h.elim,?_⟩
      have hP50 := (((hF40.2.2.1.trans hL44).trans hL47).trans hP49.c).trans hL50
      refine ⟨_,rfl,(ac_spec_Say u.v r44 r47 r50 s50 ((((((hF40.later hL44).later hL47).step hP49).later hL50)).1.rdN) hb).mono ?_⟩
      rintro _ s51 ⟨u51,w51,c51,rfl,h51,hO51,hN51,hP51⟩
      iterate 3 refine ⟨_,rfl,?_⟩
      refine ⟨_,op_stw (vs := cNV u51.v) rfl rfl rfl rfl rfl rfl rfl rfl,?_⟩
      refine Cm gg s51 [(0,vP c 0),Ml 2 0,(3,vI ((1) + r10)),Ml 4 1,(6,vI r33),(7,vI (i : Int)),(36,vB true),(40,vI r40),(55,vB false),(61,vB false),(65,vB false),(77,vB false)] [(2,0,Zn),(4,1,cNV u51.v)] fun _ _ => ?_
      have hF51 : FrC c st s51 (pcNW u51) := ((Frs.toC (l := pcNW u51 ++ pcS w51) ⟨hO51,hN51,hP51⟩ hC50.lt).left).sooner hP50 hc.lt
      have he51 : u51.x = (sayF u.x r44 r47 r50).1 := congrArg Prod.fst h51
      have hk51 : nodeOk u51.x := by rw [he51]; exact (say_node hk).1
      have hn51 : u51.n = 1 + r10 := ((congrArg Nd.n he51).trans (say_node hk).2).trans hsz
      have hC51 := hC50.pres hP51
      have ew38 : IntKind.wrap .i64 ((i : Int) + (1)) = ((i + 1 : Nat) : Int) := (wrap_i64 (by omega) (by omega)).trans (by omega)
      refine ⟨_,rfl,?_⟩
      exact ⟨(i + 1,u51),r33.toNat - (i + 1),by omega,⟨rfl,rfl,rfl,rfl,rfl,congrArg (Value.int .i64) ew38,trivial⟩,⟨rfl,rfl,trivial⟩,rfl,by simp only; omega,hk51,hn51,hF51,hC51⟩
     ·replace h78 : r40 = (3) := beq_iff_eq.1 h78
      refine Cm gg s40 [(0,vP c 0),Ml 2 0,(3,vI ((1) + r10)),Ml 4 1,(6,vI r33),(7,vI (i : Int)),(36,vB true),(40,vI r40),(55,vB false),(61,vB false),(65,vB false),(77,vB true)] [(2,0,Zn),(4,1,cNV u.v)] fun _ _ => ?_
      refine ⟨fun _ => False,?_⟩
      refine ⟨_,op_ldo (v := (vNV u.v)) rfl rfl rfl rfl,?_⟩
      refine ⟨ld_own rfl rfl rfl,?_⟩
      refine ⟨_,rfl,(ac_d_l1Below c ((1) + r10) s40 hC40 (by first | assumption | omega)).mono ?_⟩
      rintro _ s83 ⟨r83,rfl,h83,h83',h83'',hC83,hL83⟩
      refine ⟨fun _ h => h.elim,?_⟩
      refine ⟨_,rfl,(ac_spec_Syn u.v r83 s83 ((hF40.later hL83).1.rdN) hb).mono ?_⟩
      rintro _ s84 ⟨u84,m84,b84,rfl,h84,hO84,hN84,hP84⟩
      iterate 3 refine ⟨_,rfl,?_⟩
      refine ⟨_,op_stw (vs := cNV u84.v) rfl rfl rfl rfl rfl rfl rfl rfl,?_⟩
      refine Cm gg s84 [(0,vP c 0),Ml 2 0,(3,vI ((1) + r10)),Ml 4 1,(6,vI r33),(7,vI (i : Int)),(36,vB true),(40,vI r40),(55,vB false),(61,vB false),(65,vB false),(77,vB true)] [(2,0,Zn),(4,1,cNV u84.v)] fun _ _ => ?_
      have hF84 : FrC c st s84 (pcNW u84) := ((Frs.toC (l := pcNW u84 ++ pcMV m84) ⟨hO84,hN84,hP84⟩ hC83.lt).left).sooner (hF40.2.2.1.trans hL83) hc.lt
      have he84 : u84.x = (synF u.x r83).1 := congrArg Prod.fst h84
      have hk84 : nodeOk u84.x := by rw [he84]; exact syn_ok hk
      have hn84 : u84.n = 1 + r10 := ((congrArg Nd.n he84).trans syn_n).trans hsz
      have hC84 := hC83.pres hP84
      have ew38 : IntKind.wrap .i64 ((i : Int) + (1)) = ((i + 1 : Nat) : Int) := (wrap_i64 (by omega) (by omega)).trans (by omega)
      refine ⟨_,rfl,?_⟩
      exact ⟨(i + 1,u84),r33.toNat - (i + 1),by omega,⟨rfl,rfl,rfl,rfl,rfl,congrArg (Value.int .i64) ew38,trivial⟩,⟨rfl,rfl,trivial⟩,rfl,by simp only; omega,hk84,hn84,hF84,hC84⟩
    ·replace h66 : r40 = (2) := beq_iff_eq.1 h66
     refine Cm gg s40 [(0,vP c 0),Ml 2 0,(3,vI ((1) + r10)),Ml 4 1,(6,vI r33),(7,vI (i : Int)),(36,vB true),(40,vI r40),(55,vB false),(61,vB false),(65,vB true)] [(2,0,Zn),(4,1,cNV u.v)] fun _ _ => ?_
     refine ⟨fun _ => False,?_⟩
     refine ⟨_,rfl,?_⟩
     refine ⟨_,Od rfl,?_⟩
     refine ⟨ld_own rfl rfl rfl,?_⟩
     refine ⟨_,rfl,(ac_d_l1Below c ((1) + r10) s40 hC40 (by first | assumption | omega)).mono ?_⟩
     rintro _ s71 ⟨r71,rfl,h71,h71',h71'',hC71,hL71⟩
     refine ⟨fun _ h => h.elim,?_⟩
     refine ⟨_,rfl,(ac_d_l3Right c s71 hC71 (by first | assumption | omega)).mono ?_⟩
     rintro _ s73 ⟨u73,rfl,h73,hF73,hC73⟩
     refine ⟨fun _ h => h.elim,?_⟩
     have hb73 := big_ok h73
     refine ⟨_,rfl,(ac_spec_MarksOf u73 s73 (hF73.1.rdS) (by first | assumption | omega)).mono ?_⟩
     rintro _ s74 ⟨q74,rfl,hO74,hP74,hN74⟩
     refine ⟨fun _ h => h.elim,?_⟩
     have hF74 := ((hF40.later hL71).later hF73.2.2.1).step hP74
     refine ⟨_,rfl,(uc_spec_TableAdd u.seen r71 q74 (marksF (goneAt u73.x) 5) s74 hF74.1.rdN.seen (hO74.rows len_cFlr) hb.seen (szm _)).mono ?_⟩
     rintro _ s75 ⟨u75,rfl,h75,h75',hO75,hN75,hP75⟩
     refine ⟨_,rfl,?_⟩
     refine ⟨_,Os rfl,?_⟩
     refine Cm gg s75 [(0,vP c 0),Ml 2 0,(3,vI ((1) + r10)),Ml 4 1,(6,vI r33),(7,vI (i : Int)),(36,vB true),(40,vI r40),(55,vB false),(61,vB false),(65,vB true)] [(2,0,Zn),(4,1,Nv u [(11,vS u75.p u75.t.length)])] fun _ _ => ?_
     have hF75 : FrC c st s75 (pcNW { u with seen := u75 }) := hF74.ndE (Frs.toC ⟨hO75,hN75,hP75⟩ hF74.lt)
     have hk75 : nodeOk (NW.x { u with seen := u75 }) := by
      have h := seen_ok (k := r71) (ms := marksF (goneAt u73.x) 5) hk
      have h2 : u75.x = tableAdd u.x.seen r71 (marksF (goneAt u73.x) 5) := h75
      rw [← h2] at h
      exact h
     have hC75 := (hC73.pres hP74).pres hP75
     have ew38 : IntKind.wrap .i64 ((i : Int) + (1)) = ((i + 1 : Nat) : Int) := (wrap_i64 (by omega) (by omega)).trans (by omega)
     refine ⟨_,rfl,?_⟩
     exact ⟨(i + 1,{ u with seen := u75 }),r33.toNat - (i + 1),by omega,⟨rfl,rfl,rfl,rfl,rfl,congrArg (Value.int .i64) ew38,trivial⟩,⟨rfl,rfl,trivial⟩,rfl,by simp only; omega,hk75,hsz,hF75,hC75⟩
   ·replace h62 : r40 = (1) := beq_iff_eq.1 h62
    refine Cm gg s40 [(0,vP c 0),Ml 2 0,(3,vI ((1) + r10)),Ml 4 1,(6,vI r33),(7,vI (i : Int)),(36,vB true),(40,vI r40),(55,vB false),(61,vB true)] [(2,0,Zn),(4,1,cNV u.v)] fun _ _ => ?_
    refine ⟨_,op_ldo (v := (vNV u.v)) rfl rfl rfl rfl,?_⟩
    refine ⟨_,rfl,(ac_spec_Tick u.v s40 hF40.1.rdN hb).mono ?_⟩
    rintro _ s64 ⟨u64,rfl,h64,hO64,hN64,hP64⟩
    refine ⟨_,op_stw (vs := cNV u64.v) rfl rfl rfl rfl rfl rfl rfl rfl,?_⟩
    refine Cm gg s64 [(0,vP c 0),Ml 2 0,(3,vI ((1) + r10)),Ml 4 1,(6,vI r33),(7,vI (i : Int)),(36,vB true),(40,vI r40),(55,vB false),(61,vB true)] [(2,0,Zn),(4,1,cNV u64.v)] fun _ _ => ?_
    have hF64 : FrC c st s64 (pcNW u64) := ((Frs.toC ⟨hO64,hN64,hP64⟩ hC40.lt).sooner hF40.2.2.1 hc.lt)
    have hk64 : nodeOk u64.x := by rw [h64]; exact tick_ok hk
    have hn64 : u64.n = 1 + r10 := ((congrArg Nd.n h64).trans tick_n).trans hsz
    have hC64 := hC40.pres hP64
    have ew38 : IntKind.wrap .i64 ((i : Int) + (1)) = ((i + 1 : Nat) : Int) := (wrap_i64 (by omega) (by omega)).trans (by omega)
    refine ⟨_,rfl,?_⟩
    exact ⟨(i + 1,u64),r33.toNat - (i + 1),by omega,⟨rfl,rfl,rfl,rfl,rfl,congrArg (Value.int .i64) ew38,trivial⟩,⟨rfl,rfl,trivial⟩,rfl,by simp only; omega,hk64,hn64,hF64,hC64⟩
  ·replace h56 : r40 = (0) := beq_iff_eq.1 h56
   refine Cm gg s40 [(0,vP c 0),Ml 2 0,(3,vI ((1) + r10)),Ml 4 1,(6,vI r33),(7,vI (i : Int)),(36,vB true),(40,vI r40),(55,vB true)] [(2,0,Zn),(4,1,cNV u.v)] fun _ _ => ?_
   refine ⟨fun _ => False,?_⟩
   refine ⟨_,op_ldo (v := (vNV u.v)) rfl rfl rfl rfl,?_⟩
   refine ⟨ld_own rfl rfl rfl,?_⟩
   refine ⟨_,rfl,(ac_d_l3Right c s40 hC40 (by first | assumption | omega)).mono ?_⟩
   rintro _ s59 ⟨u59,rfl,h59,hF59,hC59⟩
   refine ⟨fun _ h => h.elim,?_⟩
   refine ⟨_,rfl,(ac_spec_l11Take u.v u59 s59 ((hF40.later hF59.2.2.1).1.rdN) hF59.1.rdS hb (big_ok h59) hk.s h59 hk.rises.1).mono ?_⟩
   rintro _ s60 ⟨u60,rfl,h60,hO60,hN60,hP60⟩
   refine ⟨_,op_stw (vs := cNV u60.v) rfl rfl rfl rfl rfl rfl rfl rfl,?_⟩
   refine Cm gg s60 [(0,vP c 0),Ml 2 0,(3,vI ((1) + r10)),Ml 4 1,(6,vI r33),(7,vI (i : Int)),(36,vB true),(40,vI r40),(55,vB true)] [(2,0,Zn),(4,1,cNV u60.v)] fun _ _ => ?_
   have hF60 : FrC c st s60 (pcNW u60) := ((Frs.toC ⟨hO60,hN60,hP60⟩ hC59.lt).sooner (hF40.2.2.1.trans hF59.2.2.1) hc.lt)
   have hk60 : nodeOk u60.x := by rw [h60]; exact take_ok hk h59
   have hn60 : u60.n = 1 + r10 := (congrArg Nd.n h60).trans hsz
   have hC60 := hC59.pres hP60
   have ew38 : IntKind.wrap .i64 ((i : Int) + (1)) = ((i + 1 : Nat) : Int) := (wrap_i64 (by omega) (by omega)).trans (by omega)
   refine ⟨_,rfl,?_⟩
   exact ⟨(i + 1,u60),r33.toNat - (i + 1),by omega,⟨rfl,rfl,rfl,rfl,rfl,congrArg (Value.int .i64) ew38,trivial⟩,⟨rfl,rfl,trivial⟩,rfl,by simp only; omega,hk60,hn60,hF60,hC60⟩
theorem FrC.renewMid {c : Nat} {a b d : St} {A B : List Pc} {x y : Pc} (h : FrC c a b (A ++ x :: B)) (hp : Pr x.p b d) (hd : y.own d) (hn : New b.next y.p) : FrC c a d (A ++ y :: B) ∧ PresC c a d :=
 have hm : New a.next x.p := h.2.1 x (List.mem_append_right _ (List.mem_cons_self ..))
 have hP := PresC.thenNew h.2.2.1 hp hm
 ⟨⟨OwnP.renew h.1 hp hd hn,fun z hz => by
  rcases List.mem_append.1 hz with hz | hz
  ·exact h.2.1 z (List.mem_append_left _ hz)
  ·rcases List.mem_cons.1 hz with rfl | hz
   ·exact hn.le h.2.2.1.1
   ·exact h.2.1 z (List.mem_append_right _ (List.mem_cons_of_mem _ hz)),hP,h.2.2.2⟩,hP⟩
theorem NW.sesAt (v : NW) (x : SesV) : pcNW { v with sess := x } = (pcS v.s ++ (pcIs v.t.toRV ++ (pcLog v.g ++ (pcIs v.got ++ (pcIs v.acked ++ pcTT v.seen))))) ++ pcR 4 cSess x.p x.l :: pcRis v.rises := by simp [List.append_assoc]
theorem FrC.sesPush {c : Nat} {a b d : St} {v : NW} {q : Option Addr} {l : List Ses} (h : FrC c a b (pcNW v)) (hp : Pr v.sess.p b d) (hO : OwnR d 4 cSess q l) (hn : New b.next q) : FrC c a d (pcNW { v with sess := ⟨q,l⟩ }) ∧ PresC c a d := by
 have h : FrC c a b (pcNW { v with sess := v.sess }) := h
 rw [NW.sesAt] at h ⊢
 exact FrC.renewMid (x := pcR 4 cSess v.sess.p v.sess.l) h hp (own_pc hO) hn
theorem FrC.risSet {c : Nat} {a b d : St} {v : NW} {l : List Ris} (h : FrC c a b (pcNW v)) (hp : Pr v.rises.p b d) (hO : OwnR d 3 cRise v.rises.p l) : FrC c a d (pcNW { v with rises := ⟨v.rises.p,l⟩ }) ∧ PresC c a d := by
 have h : FrC c a b (pcNW { v with rises := v.rises }) := h
 rw [NW.risAt] at h ⊢
 exact FrC.setMid (x := pcR 3 cRise v.rises.p v.rises.l) h hp (own_pc hO) rfl
theorem NewP.ses {n : Nat} {v : NW} (h : NewP n (pcNW v)) : New n v.sess.p := by
 have h : NewP n (pcNW { v with sess := v.sess }) := h
 rw [NW.sesAt] at h
 exact h _ (List.mem_append_right _ (List.mem_cons_self ..))
theorem NewP.ris {n : Nat} {v : NW} (h : NewP n (pcNW v)) : New n v.rises.p := by
 have h : NewP n (pcNW { v with rises := v.rises }) := h
 rw [NW.risAt] at h
 exact h _ (List.mem_append_right _ (List.mem_cons_self ..))
theorem OwnP.ownRis {st : St} {v : NW} (h : OwnP st (pcNW v)) : OwnR st 3 cRise v.rises.p v.rises.l := own_one (by decide) len_cRise h.right.right.right.right.right.right.right
theorem tt_big {q : Option Addr} {t : List RV} (h : t.length ≤ 4 ∧ ∀ r ∈ t,r.l.length ≤ 5) : bigT (TT.x ⟨q,t⟩) := ⟨by show (t.map _).length ≤ 1048576; rw [List.length_map]; omega,fun l hl => by
 obtain ⟨r,hr,rfl⟩ := List.mem_map.1 hl
 have := h.2 r hr
 show r.l.length ≤ 1048576
 omega⟩
theorem ac_d_l11Draw {p : Option Addr} {bs : List Int} (c : Nat) (st : St) (hc : Cur st c p bs) (hs : bs.length < 1099511627776) : C 47 [vP c 0] st (fun v s => ∃ (g : NV) (L : List Pc),v = (vNV g) ∧ bigN g.x ∧ FrC c st s L ∧ Hold L (fun s' => RdN s' g) ∧ Cur s c p bs) := by
 refine AC.enterX (i := ⟨[2,3],[2,3,11,15,18,19,22,23,26,28,30,32,42,48,51,63,68,71,73,82],[0,2,3,7,8,16,24,38,43,49,64,69,78],[]⟩) [(2014,[],[1]),(8,[],[]),(14,[3,6,8,10],[1])] Tryz.func47 rfl rfl (by kernel_rfl) (by kernel_rfl) Tryz.ntmps47 (Lb rfl) rfl ?_
 refine ⟨_,rfl,?_⟩
 refine Cm 1 st [(0,vP c 0),Ml 2 0] [(2,0,Zn)] fun _ _ => ?_
 refine ⟨_,rfl,(ac_d_l11Right c st hc (by first | assumption | omega)).mono ?_⟩
 rintro _ s5 ⟨u5,rfl,h5,hF5,hC5⟩
 refine ⟨_,rfl,?_⟩
 refine ⟨_,op_stw (vs := cNV u5.v) rfl rfl rfl rfl rfl rfl rfl rfl,?_⟩
 refine Cm 2 s5 [(0,vP c 0),Ml 2 0,Ml 3 1] [(2,0,Zn),(3,1,cNV u5.v)] fun _ _ => ?_
 refine ⟨_,rfl,(ac_d_l1Below c 18 s5 hC5 (by first | assumption | omega)).mono ?_⟩
 rintro _ s7 ⟨r7,rfl,h7,h7',h7'',hC7,hL7⟩
 refine Cm 2 s7 [(0,vP c 0),Ml 2 0,Ml 3 1,(7,vI r7)] [(2,0,Zn),(3,1,cNV u5.v)] fun _ _ => ?_
 have hF7 := hF5.later hL7
 have hb := node_big h5
 have hid : 0 ≤ u5.id ∧ u5.id ≤ u5.n - 1 := h5.id
 have hgl : (u5.got.l.length : Int) = u5.n := h5.got.2.1
 have hrl : u5.rises.l.length = 5 := h5.rises.1
 have hsl : u5.sess.l.length ≤ 4 := by have h1 := h5.sess.1; have h2 := h5.slots.2; have h3 : (u5.sess.l.length : Int) ≤ u5.slots := h1; have h4 : u5.slots ≤ 4 := h2; omega
 refine ⟨_,rfl,?_⟩
 rintro (_|_) h9
 ·replace h9 : ¬ (r7 = (0)) := beq_eq_false_iff_ne.1 h9
  refine Cm 2 s7 [(0,vP c 0),Ml 2 0,Ml 3 1,(7,vI r7),(8,vB false)] [(2,0,Zn),(3,1,cNV u5.v)] fun _ _ => ?_
  refine ⟨_,rfl,?_⟩
  rintro (_|_) h17
  ·replace h17 : ¬ (r7 = (1)) := beq_eq_false_iff_ne.1 h17
   refine Cm 2 s7 [(0,vP c 0),Ml 2 0,Ml 3 1,(7,vI r7),(16,vB false)] [(2,0,Zn),(3,1,cNV u5.v)] fun _ _ => ?_
   refine ⟨_,rfl,?_⟩
   rintro (_|_) h25
   ·replace h25 : ¬ (r7 = (2)) := beq_eq_false_iff_ne.1 h25
    refine Cm 2 s7 [(0,vP c 0),Ml 2 0,Ml 3 1,(7,vI r7),(24,vB false)] [(2,0,Zn),(3,1,cNV u5.v)] fun _ _ => ?_
    refine ⟨_,rfl,?_⟩
    rintro (_|_) h39
    ·replace h39 : ¬ (r7 = (3)) := beq_eq_false_iff_ne.1 h39
     refine Cm 2 s7 [(0,vP c 0),Ml 2 0,Ml 3 1,(7,vI r7),(38,vB false)] [(2,0,Zn),(3,1,cNV u5.v)] fun _ _ => ?_
     refine ⟨_,rfl,?_⟩
     rintro (_|_) h44
     ·replace h44 : ¬ (r7 = (4)) := beq_eq_false_iff_ne.1 h44
      refine Cm 2 s7 [(0,vP c 0),Ml 2 0,Ml 3 1,(7,vI r7),(43,vB false)] [(2,0,Zn),(3,1,cNV u5.v)] fun _ _ => ?_
      refine ⟨_,rfl,?_⟩
      rintro (_|_) h50
      ·replace h50 : ¬ (r7 = (5)) := beq_eq_false_iff_ne.1 h50
       refine Cm 2 s7 [(0,vP c 0),Ml 2 0,Ml 3 1,(7,vI r7),(49,vB false)] [(2,0,Zn),(3,1,cNV u5.v)] fun _ _ => ?_
       refine ⟨_,rfl,?_⟩
       rintro (_|_) h65
       ·replace h65 : ¬ (r7 = (6)) := beq_eq_false_iff_ne.1 h65
        refine Cm 2 s7 [(0,vP c 0),Ml 2 0,Ml 3 1,(7,vI r7),(64,vB false)] [(2,0,Zn),(3,1,cNV u5.v)] fun _ _ => ?_
        refine ⟨_,rfl,?_⟩
        rintro (_|_) h70
        ·replace h70 : ¬ (r7 = (7)) := beq_eq_false_iff_ne.1 h70
         refine Cm 2 s7 [(0,vP c 0),Ml 2 0,Ml 3 1,(7,vI r7),(69,vB false)] [(2,0,Zn),(3,1,cNV u5.v)] fun _ _ => ?_
         refine ⟨_,rfl,?_⟩
         rintro (_|_) h79
         ·replace h79 : ¬ (r7 = (8)) := beq_eq_false_iff_ne.1 h79
          refine Cm 2 s7 [(0,vP c 0),Ml 2 0,Ml 3 1,(78,vB false)] [(2,0,Zn),(3,1,cNV u5.v)] fun _ _ => ?_
          refine cxs ?_
          refine ⟨_,op_ldo (v := (vNV u5.v)) rfl rfl rfl rfl,?_⟩
          refine ⟨_,op_stw (vs := cNV u5.v) rfl rfl rfl rfl rfl rfl rfl rfl,?_⟩
          exact cxs (Rt ⟨u5.v,pcNW u5,rfl,hb,hF7,fun s hO => hO.rdN,hC7⟩)
         ·replace h79 : r7 = (8) := beq_iff_eq.1 h79
          refine Cm 2 s7 [(0,vP c 0),Ml 2 0,Ml 3 1,(78,vB true)] [(2,0,Zn),(3,1,cNV u5.v)] fun _ _ => ?_
          refine ⟨_,rfl,(ac_d_l7Draw c s7 hC7 (by first | assumption | omega)).mono ?_⟩
          rintro _ s81 ⟨u81,rfl,h81,hF81,hC81⟩
          refine ⟨_,rfl,?_⟩
          refine ⟨_,Os rfl,?_⟩
          refine Cm 2 s81 [Ml 2 0,Ml 3 1] [(2,0,Zn),(3,1,Nv u5 [(6,vI u81.cap),(7,vI u81.frm),(8,vS u81.p u81.l.length)])] fun _ _ => ?_
          refine ⟨_,op_ldo (v := .agg #[vI u5.id,vI u5.n,vS u5.s.p u5.s.x.items.length,vS u5.s.q u5.s.x.floors.length,vS u5.t.p u5.t.l.length,vI u5.t.root,vI u81.cap,vI u81.frm,vS u81.p u81.l.length,vS u5.got.p u5.got.l.length,vS u5.acked.p u5.acked.l.length,vS u5.seen.p u5.seen.t.length,vI u5.num,vI u5.slots,vS u5.sess.p u5.sess.l.length,vI u5.wait,vI u5.limit,vI u5.clock,vS u5.rises.p u5.rises.l.length]) rfl rfl rfl rfl,?_⟩
          refine ⟨_,op_stw (vs := [vI u5.id,vI u5.n,vS u5.s.p u5.s.x.items.length,vS u5.s.q u5.s.x.floors.length,vS u5.t.p u5.t.l.length,vI u5.t.root,vI u81.cap,vI u81.frm,vS u81.p u81.l.length,vS u5.got.p u5.got.l.length,vS u5.acked.p u5.acked.l.length,vS u5.seen.p u5.seen.t.length,vI u5.num,vI u5.slots,vS u5.sess.p u5.sess.l.length,vI u5.wait,vI u5.limit,vI u5.clock,vS u5.rises.p u5.rises.l.length]) rfl rfl rfl rfl rfl rfl rfl rfl,?_⟩
          exact cxs (Rt ⟨{ u5.v with g := u81 },pcNW u5 ++ pcL u81.p u81.l,rfl,⟨hb.s,hb.t,bigLog_iff.2 (h81.big (by decide)),hb.got,hb.acked,hb.seen,hb.sess,hb.rises⟩,hF7.join hF81,fun s hO => have h := hO.left.rdN; ⟨h.s,h.t,hO.right.rdL,h.got,h.acked,h.seen,h.sess,h.rises⟩,hC81⟩)
        ·replace h70 : r7 = (7) := beq_iff_eq.1 h70
         refine Cm 2 s7 [(0,vP c 0),Ml 2 0,Ml 3 1,(7,vI r7),(69,vB true)] [(2,0,Zn),(3,1,cNV u5.v)] fun _ _ => ?_
         have hO : OwnR s7 3 cRise u5.rises.p u5.rises.l := hF7.1.ownRis
         obtain ⟨a,ha⟩ := hO.some (by omega)
         obtain ⟨w0,hw⟩ : ∃ w,u5.rises.l[0]? = some w := ⟨u5.rises.l[0]'(by omega),List.getElem?_eq_getElem (by omega)⟩
         refine ⟨_,rfl,?_⟩
         refine ⟨_,Od rfl,?_⟩
         refine ⟨_,rfl,?_⟩
         refine ⟨_,Od rfl,?_⟩
         refine ⟨_,rfl,?_⟩
         refine ⟨_,op_idx (j := 0) (n := u5.rises.l.length) (q := ⟨a,0,none⟩) rfl (congrArg (fun v => vS v u5.rises.l.length) ha) rfl rfl rfl (Int.le_refl 0) (by omega),?_⟩
         refine ⟨_,rfl,?_⟩
         refine op_putc (z := 3) (i := 2) (st := s7) (f := cRise) (j := 0) (l := u5.rises.l) (w := w0) (y := (⟨w0.inc,w0.beat,IntKind.wrap .i64 (u5.clock + 1)⟩ : Ris)) (p := u5.rises.p) (d := 0 + 0 * 3 + 2) rfl rfl rfl rfl rfl len_cRise rfl rfl hw (by decide) rfl hO ha ?_
         intro s9 hO9 hP9 hn9
         refine Cm 2 s9 [Ml 2 0,Ml 3 1] [(2,0,Zn),(3,1,cNV u5.v)] fun _ _ => ?_
         refine ⟨_,op_ldo (v := (vNV u5.v)) rfl rfl rfl rfl,?_⟩
         refine ⟨_,op_stw (vs := cNV u5.v) rfl rfl rfl rfl rfl rfl rfl rfl,?_⟩
         refine cxs ?_
         have hF9 := hF7.risSet hP9 hO9
         exact Rt ⟨NW.v { u5 with rises := ⟨u5.rises.p,u5.rises.l.set 0 ⟨w0.inc,w0.beat,IntKind.wrap .i64 (u5.clock + 1)⟩⟩ },pcNW { u5 with rises := ⟨u5.rises.p,u5.rises.l.set 0 ⟨w0.inc,w0.beat,IntKind.wrap .i64 (u5.clock + 1)⟩⟩ },by simp only [vNV,List.length_set]; rfl,⟨hb.s,hb.t,hb.g,hb.got,hb.acked,hb.seen,hb.sess,by show (List.set _ _ _).length ≤ 1048576; rw [List.length_set]; exact hb.rises⟩,hF9.1,fun s hO => hO.rdN,hC7.thenNew hc hF7.2.2.1 hP9 hF7.2.1.ris⟩
       ·replace h65 : r7 = (6) := beq_iff_eq.1 h65
        refine Cm 2 s7 [(0,vP c 0),Ml 2 0,Ml 3 1,(7,vI r7),(64,vB true)] [(2,0,Zn),(3,1,cNV u5.v)] fun _ _ => ?_
        refine ⟨_,rfl,(ac_d_l3Draw c s7 hC7 (by first | assumption | omega)).mono ?_⟩
        rintro _ s67 ⟨u67,rfl,h67,hF67,hC67⟩
        refine ⟨_,rfl,?_⟩
        refine ⟨_,Os rfl,?_⟩
        refine Cm 2 s67 [Ml 2 0,Ml 3 1] [(2,0,Zn),(3,1,Nv u5 [(2,vS u67.p u67.x.items.length),(3,vS u67.q u67.x.floors.length)])] fun _ _ => ?_
        refine ⟨_,op_ldo (v := .agg #[vI u5.id,vI u5.n,vS u67.p u67.x.items.length,vS u67.q u67.x.floors.length,vS u5.t.p u5.t.l.length,vI u5.t.root,vI u5.g.cap,vI u5.g.frm,vS u5.g.p u5.g.l.length,vS u5.got.p u5.got.l.length,vS u5.acked.p u5.acked.l.length,vS u5.seen.p u5.seen.t.length,vI u5.num,vI u5.slots,vS u5.sess.p u5.sess.l.length,vI u5.wait,vI u5.limit,vI u5.clock,vS u5.rises.p u5.rises.l.length]) rfl rfl rfl rfl,?_⟩
        refine ⟨_,op_stw (vs := [vI u5.id,vI u5.n,vS u67.p u67.x.items.length,vS u67.q u67.x.floors.length,vS u5.t.p u5.t.l.length,vI u5.t.root,vI u5.g.cap,vI u5.g.frm,vS u5.g.p u5.g.l.length,vS u5.got.p u5.got.l.length,vS u5.acked.p u5.acked.l.length,vS u5.seen.p u5.seen.t.length,vI u5.num,vI u5.slots,vS u5.sess.p u5.sess.l.length,vI u5.wait,vI u5.limit,vI u5.clock,vS u5.rises.p u5.rises.l.length]) rfl rfl rfl rfl rfl rfl rfl rfl,?_⟩
        exact cxs (Rt ⟨{ u5.v with s := u67 },pcNW u5 ++ pcS u67,rfl,⟨h67.big (by decide),hb.t,hb.g,hb.got,hb.acked,hb.seen,hb.sess,hb.rises⟩,hF7.join hF67,fun s hO => have h := hO.left.rdN; ⟨hO.right.rdS,h.t,h.g,h.got,h.acked,h.seen,h.sess,h.rises⟩,hC67⟩)
      ·replace h50 : r7 = (5) := beq_iff_eq.1 h50
       refine Cm 2 s7 [(0,vP c 0),Ml 2 0,Ml 3 1,(7,vI r7),(49,vB true)] [(2,0,Zn),(3,1,cNV u5.v)] fun _ _ => ?_
       refine ⟨fun _ => False,?_⟩
       refine ⟨_,rfl,?_⟩
       refine ⟨_,Od rfl,?_⟩
       refine ⟨ld_own rfl rfl rfl,?_⟩
       refine ⟨_,rfl,(ac_d_l1Below c 6 s7 hC7 (by first | assumption | omega)).mono ?_⟩
       rintro _ s54 ⟨r54,rfl,h54,h54',h54'',hC54,hL54⟩
       refine ⟨fun _ h => h.elim,?_⟩
       refine ⟨_,rfl,?_⟩
       refine ⟨_,rfl,(ac_d_l1Once c 2 s54 hC54 (by first | assumption | omega)).mono ?_⟩
       rintro _ s57 ⟨b57,rfl,hC57,hL57⟩
       refine ⟨fun _ h => h.elim,?_⟩
       refine ⟨_,rfl,(ac_d_l1Below c 9 s57 hC57 (by first | assumption | omega)).mono ?_⟩
       rintro _ s59 ⟨r59,rfl,h59,h59',h59'',hC59,hL59⟩
       refine ⟨fun _ h => h.elim,?_⟩
       refine ⟨_,rfl,?_⟩
       refine op_one (z := 4) (a := ((⟨IntKind.wrap .i64 (r54 - 1),1,b57,r59⟩ : Ses) : Ses)) (f := cSess) rfl rfl rfl rfl rfl (by decide) rfl (Lb rfl) rfl rfl rfl ?_
       refine ⟨fun _ h => h.elim,?_⟩
       have hF59 := ((hF7.later hL54).later hL57).later hL59
       have hO59 : OwnR s59 4 cSess u5.sess.p u5.sess.l := hF59.1.ses
       refine op_snoc (z := 4) (st := s59) (f := cSess) (b := 32) (l := u5.sess.l) (x := (⟨IntKind.wrap .i64 (r54 - 1),1,b57,r59⟩ : Ses)) rfl rfl rfl rfl rfl rfl rfl (by decide) len_cSess rfl rfl rfl (by omega) (by unfold maxLen; omega) hO59 ?_
       intro q62 s62 hO62 hP62 hN62
       refine ⟨_,rfl,?_⟩
       refine ⟨_,Os rfl,?_⟩
       refine Cm 2 s62 [Ml 2 0,Ml 3 1] [(2,0,Zn),(3,1,[vI u5.id,vI u5.n,vS u5.s.p u5.s.x.items.length,vS u5.s.q u5.s.x.floors.length,vS u5.t.p u5.t.l.length,vI u5.t.root,vI u5.g.cap,vI u5.g.frm,vS u5.g.p u5.g.l.length,vS u5.got.p u5.got.l.length,vS u5.acked.p u5.acked.l.length,vS u5.seen.p u5.seen.t.length,vI u5.num,vI u5.slots,vS q62 (u5.sess.l ++ [(⟨IntKind.wrap .i64 (r54 - 1),1,b57,r59⟩ : Ses)]).length,vI u5.wait,vI u5.limit,vI u5.clock,vS u5.rises.p u5.rises.l.length])] fun _ _ => ?_
       refine ⟨_,op_ldo (v := .agg #[vI u5.id,vI u5.n,vS u5.s.p u5.s.x.items.length,vS u5.s.q u5.s.x.floors.length,vS u5.t.p u5.t.l.length,vI u5.t.root,vI u5.g.cap,vI u5.g.frm,vS u5.g.p u5.g.l.length,vS u5.got.p u5.got.l.length,vS u5.acked.p u5.acked.l.length,vS u5.seen.p u5.seen.t.length,vI u5.num,vI u5.slots,vS q62 (u5.sess.l ++ [(⟨IntKind.wrap .i64 (r54 - 1),1,b57,r59⟩ : Ses)]).length,vI u5.wait,vI u5.limit,vI u5.clock,vS u5.rises.p u5.rises.l.length]) rfl rfl rfl rfl,?_⟩
       refine ⟨_,op_stw (vs := [vI u5.id,vI u5.n,vS u5.s.p u5.s.x.items.length,vS u5.s.q u5.s.x.floors.length,vS u5.t.p u5.t.l.length,vI u5.t.root,vI u5.g.cap,vI u5.g.frm,vS u5.g.p u5.g.l.length,vS u5.got.p u5.got.l.length,vS u5.acked.p u5.acked.l.length,vS u5.seen.p u5.seen.t.length,vI u5.num,vI u5.slots,vS q62 (u5.sess.l ++ [(⟨IntKind.wrap .i64 (r54 - 1),1,b57,r59⟩ : Ses)]).length,vI u5.wait,vI u5.limit,vI u5.clock,vS u5.rises.p u5.rises.l.length]) rfl rfl rfl rfl rfl rfl rfl rfl,?_⟩
       refine cxs ?_
       have hF62 := hF59.sesPush hP62 hO62 hN62
       exact Rt ⟨NW.v { u5 with sess := ⟨q62,u5.sess.l ++ [⟨IntKind.wrap .i64 (r54 - 1),1,b57,r59⟩]⟩ },pcNW { u5 with sess := ⟨q62,u5.sess.l ++ [⟨IntKind.wrap .i64 (r54 - 1),1,b57,r59⟩]⟩ },rfl,⟨hb.s,hb.t,hb.g,hb.got,hb.acked,hb.seen,by show (u5.sess.l ++ [_]).length ≤ 1048576; rw [List.length_append,List.length_singleton]; omega,hb.rises⟩,hF62.1,fun s hO => hO.rdN,hC59.thenNew hc hF59.2.2.1 hP62 hF59.2.1.ses⟩
     ·replace h44 : r7 = (4) := beq_iff_eq.1 h44
      refine Cm 2 s7 [(0,vP c 0),Ml 2 0,Ml 3 1,(7,vI r7),(43,vB true)] [(2,0,Zn),(3,1,cNV u5.v)] fun _ _ => ?_
      refine op_litI (k := .i64) (l := [0,5]) rfl rfl rfl rfl rfl rfl (Lb rfl) ?_
      intro q46 s46 hO46 hP46 hN46
      refine ⟨_,rfl,(ac_d_l1PickInt c q46 ([0,5]) s46 (hC7.pres hP46) (by first | assumption | omega) (by first | assumption | omega | decide) (by first | assumption | omega) (by first | assumption | exact NC.new (by assumption) (Cur.lt (by assumption)))).mono ?_⟩
      rintro _ s47 ⟨r47,rfl,h47,hC47,hL47⟩
      refine ⟨_,rfl,?_⟩
      refine ⟨_,Os rfl,?_⟩
      refine Cm 2 s47 [Ml 2 0,Ml 3 1] [(2,0,Zn),(3,1,Nv u5 [(13,vI r47)])] fun _ _ => ?_
      refine ⟨_,op_ldo (v := .agg #[vI u5.id,vI u5.n,vS u5.s.p u5.s.x.items.length,vS u5.s.q u5.s.x.floors.length,vS u5.t.p u5.t.l.length,vI u5.t.root,vI u5.g.cap,vI u5.g.frm,vS u5.g.p u5.g.l.length,vS u5.got.p u5.got.l.length,vS u5.acked.p u5.acked.l.length,vS u5.seen.p u5.seen.t.length,vI u5.num,vI r47,vS u5.sess.p u5.sess.l.length,vI u5.wait,vI u5.limit,vI u5.clock,vS u5.rises.p u5.rises.l.length]) rfl rfl rfl rfl,?_⟩
      refine ⟨_,op_stw (vs := [vI u5.id,vI u5.n,vS u5.s.p u5.s.x.items.length,vS u5.s.q u5.s.x.floors.length,vS u5.t.p u5.t.l.length,vI u5.t.root,vI u5.g.cap,vI u5.g.frm,vS u5.g.p u5.g.l.length,vS u5.got.p u5.got.l.length,vS u5.acked.p u5.acked.l.length,vS u5.seen.p u5.seen.t.length,vI u5.num,vI r47,vS u5.sess.p u5.sess.l.length,vI u5.wait,vI u5.limit,vI u5.clock,vS u5.rises.p u5.rises.l.length]) rfl rfl rfl rfl rfl rfl rfl rfl,?_⟩
      exact cxs (Rt ⟨{ u5.v with slots := r47 },pcNW u5,rfl,⟨hb.s,hb.t,hb.g,hb.got,hb.acked,hb.seen,hb.sess,hb.rises⟩,(hF7.step hP46).later hL47,fun s hO => have h := hO.rdN; ⟨h.s,h.t,h.g,h.got,h.acked,h.seen,h.sess,h.rises⟩,hC47⟩)
    ·replace h39 : r7 = (3) := beq_iff_eq.1 h39
     refine Cm 2 s7 [(0,vP c 0),Ml 2 0,Ml 3 1,(7,vI r7),(38,vB true)] [(2,0,Zn),(3,1,cNV u5.v)] fun _ _ => ?_
     refine ⟨_,rfl,(ac_d_l9Draw c s7 hC7 hs).mono ?_⟩
     rintro _ s41 ⟨q41,t41,L41,rfl,h41,hF41,hH41,hC41⟩
     refine ⟨_,rfl,?_⟩
     refine ⟨_,Os rfl,?_⟩
     refine Cm 2 s41 [Ml 2 0,Ml 3 1] [(2,0,Zn),(3,1,Nv u5 [(11,vS q41 t41.length)])] fun _ _ => ?_
     refine ⟨_,op_ldo (v := .agg #[vI u5.id,vI u5.n,vS u5.s.p u5.s.x.items.length,vS u5.s.q u5.s.x.floors.length,vS u5.t.p u5.t.l.length,vI u5.t.root,vI u5.g.cap,vI u5.g.frm,vS u5.g.p u5.g.l.length,vS u5.got.p u5.got.l.length,vS u5.acked.p u5.acked.l.length,vS q41 t41.length,vI u5.num,vI u5.slots,vS u5.sess.p u5.sess.l.length,vI u5.wait,vI u5.limit,vI u5.clock,vS u5.rises.p u5.rises.l.length]) rfl rfl rfl rfl,?_⟩
     refine ⟨_,op_stw (vs := [vI u5.id,vI u5.n,vS u5.s.p u5.s.x.items.length,vS u5.s.q u5.s.x.floors.length,vS u5.t.p u5.t.l.length,vI u5.t.root,vI u5.g.cap,vI u5.g.frm,vS u5.g.p u5.g.l.length,vS u5.got.p u5.got.l.length,vS u5.acked.p u5.acked.l.length,vS q41 t41.length,vI u5.num,vI u5.slots,vS u5.sess.p u5.sess.l.length,vI u5.wait,vI u5.limit,vI u5.clock,vS u5.rises.p u5.rises.l.length]) rfl rfl rfl rfl rfl rfl rfl rfl,?_⟩
     exact cxs (Rt ⟨{ u5.v with seen := ⟨q41,t41⟩ },pcNW u5 ++ L41,rfl,⟨hb.s,hb.t,hb.g,hb.got,hb.acked,tt_big h41,hb.sess,hb.rises⟩,hF7.join hF41,fun s hO => have h := hO.left.rdN; ⟨h.s,h.t,h.g,h.got,h.acked,hH41 s hO.right,h.sess,h.rises⟩,hC41⟩)
   ·replace h25 : r7 = (2) := beq_iff_eq.1 h25
    refine Cm 2 s7 [(0,vP c 0),Ml 2 0,Ml 3 1,(7,vI r7),(24,vB true)] [(2,0,Zn),(3,1,cNV u5.v)] fun _ _ => ?_
    have hlen : u5.id.toNat < u5.got.l.length := by omega
    have hO : OwnR s7 1 fI u5.got.p u5.got.l := hF7.1.ownGot
    obtain ⟨a,ha⟩ := hO.some (by omega)
    obtain ⟨b1,o1,k1,r,hpe,hr,hm1,hc1,hb1⟩ := (hO.rows fI_len).atB (j := u5.id.toNat) hlen
    obtain ⟨rfl,rfl⟩ : a = b1 ∧ 0 = o1 := by rw [ha] at hpe; injection hpe with hpe; injection hpe with e1 e2; exact ⟨e1,e2⟩
    refine ⟨_,rfl,?_⟩
    refine ⟨_,Od rfl,?_⟩
    refine ⟨_,rfl,?_⟩
    refine ⟨_,Od rfl,?_⟩
    refine ⟨_,rfl,?_⟩
    refine ⟨_,Od rfl,?_⟩
    refine ⟨_,rfl,?_⟩
    refine ⟨_,Od rfl,?_⟩
    refine ⟨_,op_idx (j := u5.id) (n := u5.got.l.length) (q := ⟨a,0,none⟩) rfl (congrArg (fun v => vS v u5.got.l.length) ha) rfl rfl rfl hid.1 (by omega),?_⟩
    refine ⟨_,op_ldc (i := 0) rfl rfl rfl rfl hm1 hc1 rfl rfl,?_⟩
    refine ⟨_,rfl,?_⟩
    refine ⟨_,op_idx (j := u5.id) (n := u5.got.l.length) (q := ⟨a,0,none⟩) rfl (congrArg (fun v => vS v u5.got.l.length) ha) rfl rfl rfl hid.1 (by omega),?_⟩
    refine op_put (z := 1) (st := s7) (f := fI) (j := u5.id.toNat) (l := u5.got.l) (y := IntKind.wrap .i64 (r + 1)) (p := u5.got.p) (d := 0 + u5.id.toNat * 1) rfl rfl (Nat.zero_add _) rfl rfl fI_len rfl rfl hlen hO ha ?_
    intro s9 hO9 hP9 hn9
    refine Cm 2 s9 [Ml 2 0,Ml 3 1] [(2,0,Zn),(3,1,cNV u5.v)] fun _ _ => ?_
    refine ⟨_,op_ldo (v := (vNV u5.v)) rfl rfl rfl rfl,?_⟩
    refine ⟨_,op_stw (vs := cNV u5.v) rfl rfl rfl rfl rfl rfl rfl rfl,?_⟩
    refine cxs ?_
    have hF9 := hF7.gotSet hP9 hO9
    exact Rt ⟨NW.v { u5 with got := ⟨u5.got.p,u5.got.l.set u5.id.toNat (IntKind.wrap .i64 (r + 1))⟩ },pcNW { u5 with got := ⟨u5.got.p,u5.got.l.set u5.id.toNat (IntKind.wrap .i64 (r + 1))⟩ },by simp only [vNV,List.length_set]; rfl,⟨hb.s,hb.t,hb.g,by show (List.set _ _ _).length ≤ 1048576; rw [List.length_set]; exact hb.got,hb.acked,hb.seen,hb.sess,hb.rises⟩,hF9.1,fun s hO => hO.rdN,hC7.thenNew hc hF7.2.2.1 hP9 hF7.2.1.got⟩
  ·replace h17 : r7 = (1) := beq_iff_eq.1 h17
   refine Cm 2 s7 [(0,vP c 0),Ml 2 0,Ml 3 1,(7,vI r7),(16,vB true)] [(2,0,Zn),(3,1,cNV u5.v)] fun _ _ => ?_
   iterate 2 refine ⟨_,rfl,?_⟩
   refine ⟨_,Od rfl,?_⟩
   iterate 3 refine ⟨_,rfl,?_⟩
   refine ⟨_,Os rfl,?_⟩
   refine Cm 2 s7 [Ml 2 0,Ml 3 1] [(2,0,Zn),(3,1,Nv u5 [(5,vI (IntKind.wrap .i64 (u5.t.root + 1)))])] fun _ _ => ?_
   refine ⟨_,op_ldo (v := .agg #[vI u5.id,vI u5.n,vS u5.s.p u5.s.x.items.length,vS u5.s.q u5.s.x.floors.length,vS u5.t.p u5.t.l.length,vI (IntKind.wrap .i64 (u5.t.root + 1)),vI u5.g.cap,vI u5.g.frm,vS u5.g.p u5.g.l.length,vS u5.got.p u5.got.l.length,vS u5.acked.p u5.acked.l.length,vS u5.seen.p u5.seen.t.length,vI u5.num,vI u5.slots,vS u5.sess.p u5.sess.l.length,vI u5.wait,vI u5.limit,vI u5.clock,vS u5.rises.p u5.rises.l.length]) rfl rfl rfl rfl,?_⟩
   refine ⟨_,op_stw (vs := [vI u5.id,vI u5.n,vS u5.s.p u5.s.x.items.length,vS u5.s.q u5.s.x.floors.length,vS u5.t.p u5.t.l.length,vI (IntKind.wrap .i64 (u5.t.root + 1)),vI u5.g.cap,vI u5.g.frm,vS u5.g.p u5.g.l.length,vS u5.got.p u5.got.l.length,vS u5.acked.p u5.acked.l.length,vS u5.seen.p u5.seen.t.length,vI u5.num,vI u5.slots,vS u5.sess.p u5.sess.l.length,vI u5.wait,vI u5.limit,vI u5.clock,vS u5.rises.p u5.rises.l.length]) rfl rfl rfl rfl rfl rfl rfl rfl,?_⟩
   exact cxs (Rt ⟨{ u5.v with t := { u5.t with root := IntKind.wrap .i64 (u5.t.root + 1) } },pcNW u5,rfl,⟨hb.s,hb.t,hb.g,hb.got,hb.acked,hb.seen,hb.sess,hb.rises⟩,hF7,fun s hO => have h := hO.rdN; ⟨h.s,h.t,h.g,h.got,h.acked,h.seen,h.sess,h.rises⟩,hC7⟩)
 ·replace h9 : r7 = (0) := beq_iff_eq.1 h9
  refine Cm 2 s7 [(0,vP c 0),Ml 2 0,Ml 3 1,(7,vI r7),(8,vB true)] [(2,0,Zn),(3,1,cNV u5.v)] fun _ _ => ?_
  refine ⟨_,rfl,?_⟩
  refine ⟨_,Od rfl,?_⟩
  refine op_litI (k := .i64) (l := [-1,u5.n]) rfl rfl rfl rfl rfl rfl (Lb rfl) ?_
  intro q13 s13 hO13 hP13 hN13
  refine ⟨_,rfl,(ac_d_l1PickInt c q13 [-1,u5.n] s13 (hC7.pres hP13) hs (Nat.succ_pos _) hO13 (NC.new hN13 hC7.lt)).mono ?_⟩
  rintro _ s14 ⟨r14,rfl,h14,hC14,hL14⟩
  refine ⟨_,rfl,?_⟩
  refine ⟨_,Os rfl,?_⟩
  refine Cm 2 s14 [Ml 2 0,Ml 3 1] [(2,0,Zn),(3,1,Nv u5 [(0,vI r14)])] fun _ _ => ?_
  refine ⟨_,op_ldo (v := .agg #[vI r14,vI u5.n,vS u5.s.p u5.s.x.items.length,vS u5.s.q u5.s.x.floors.length,vS u5.t.p u5.t.l.length,vI u5.t.root,vI u5.g.cap,vI u5.g.frm,vS u5.g.p u5.g.l.length,vS u5.got.p u5.got.l.length,vS u5.acked.p u5.acked.l.length,vS u5.seen.p u5.seen.t.length,vI u5.num,vI u5.slots,vS u5.sess.p u5.sess.l.length,vI u5.wait,vI u5.limit,vI u5.clock,vS u5.rises.p u5.rises.l.length]) rfl rfl rfl rfl,?_⟩
  refine ⟨_,op_stw (vs := [vI r14,vI u5.n,vS u5.s.p u5.s.x.items.length,vS u5.s.q u5.s.x.floors.length,vS u5.t.p u5.t.l.length,vI u5.t.root,vI u5.g.cap,vI u5.g.frm,vS u5.g.p u5.g.l.length,vS u5.got.p u5.got.l.length,vS u5.acked.p u5.acked.l.length,vS u5.seen.p u5.seen.t.length,vI u5.num,vI u5.slots,vS u5.sess.p u5.sess.l.length,vI u5.wait,vI u5.limit,vI u5.clock,vS u5.rises.p u5.rises.l.length]) rfl rfl rfl rfl rfl rfl rfl rfl,?_⟩
  exact cxs (Rt ⟨{ u5.v with id := r14 },pcNW u5,rfl,⟨hb.s,hb.t,hb.g,hb.got,hb.acked,hb.seen,hb.sess,hb.rises⟩,(hF7.step hP13).later hL14,fun s hO => have h := hO.rdN; ⟨h.s,h.t,h.g,h.got,h.acked,h.seen,h.sess,h.rises⟩,hC14⟩)
theorem ac_spec_DrawPush (p : Option Addr) (bs : List Int) (st : St) (hI : Ints st .u8 p bs) (hs : bs.length < 1099511627776) : C 88 [vS p bs.length] st (fun v s => ∃ (g : NV) (n : Int),v = .tuple #[(vNV g),vI n] ∧ bigN g.x ∧ RdN s g ∧ Pres st s) := by
 refine AC.enterX (i := ⟨[2,5],[2,5],[0,2,3,4,5],[]⟩) [(2003,[],[1]),(3,[2],[0])] Tryz.func88 rfl rfl (by kernel_rfl) (by kernel_rfl) Tryz.ntmps88 (Lb rfl) rfl ?_
 refine ⟨_,rfl,?_⟩
 refine Cm 1 st [(0,vS p bs.length),Ml 2 0,(3,vI 0)] [(2,0,Zn)] fun _ _ => ?_
 refine ⟨_,rfl,(ac_spec_l1New p bs st hI (by first | assumption | omega)).mono ?_⟩
 rintro _ s7 ⟨rfl,hC7,hP7,h7⟩
 refine Cm 1 s7 [Ml 2 0,(3,vI 0),(4,vP st.next 0)] [(2,0,Zn)] fun _ _ => ?_
 refine ⟨_,rfl,(ac_d_l11Draw st.next s7 hC7 (by first | assumption | omega)).mono ?_⟩
 rintro _ s9 ⟨g9,L9,rfl,h9,hF9,h9',hC9⟩
 refine ⟨_,rfl,?_⟩
 refine ⟨_,op_stw (vs := cNV g9) rfl rfl rfl rfl rfl rfl rfl rfl,?_⟩
 refine Cm 2 s9 [Ml 2 0,(3,vI 0),(4,vP st.next 0),Ml 5 1] [(2,0,Zn),(5,1,cNV g9)] fun _ _ => ?_
 refine ⟨fun _ => False,?_⟩
 refine ⟨_,op_ldo (v := (vNV g9)) rfl rfl rfl rfl,?_⟩
 refine ⟨ld_own rfl rfl rfl,?_⟩
 refine ⟨_,rfl,(ac_d_l1Below st.next 6 s9 hC9 (by first | assumption | omega)).mono ?_⟩
 rintro _ s12 ⟨r12,rfl,h12,h12',h12'',hC12,hL12⟩
 refine ⟨fun _ h => h.elim,?_⟩
 have ew13 : IntKind.wrap .i64 (r12 - (1)) = r12 - (1) := wrap_i64 (by omega) (by omega)
 refine ⟨_,rfl,?_⟩
 refine ⟨_,op_stw (vs := cNV g9) rfl rfl rfl rfl rfl rfl rfl rfl,?_⟩
 refine cxs ?_
 have hF := hF9.later hL12
 exact Rt ⟨g9,_,rfl,h9,h9' _ hF.1,(hF.out hP7).2.2⟩
theorem ac_spec_DrawSyn (p : Option Addr) (bs : List Int) (st : St) (hI : Ints st .u8 p bs) (hs : bs.length < 1099511627776) : C 26 [vS p bs.length] st (fun v s => ∃ (g : NV) (n : Int),v = .tuple #[(vNV g),vI n] ∧ bigN g.x ∧ RdN s g ∧ Pres st s) := by
 refine AC.enterX (i := ⟨[2],[2],[0,2,3],[]⟩) [] Tryz.func26 rfl rfl (by kernel_rfl) (by kernel_rfl) Tryz.ntmps26 (Lb rfl) rfl ?_
 refine ⟨_,rfl,?_⟩
 refine Cm 1 st [(0,vS p bs.length),Ml 2 0,(3,vI 0)] [(2,0,Zn)] fun _ _ => ?_
 refine ⟨_,rfl,(ac_spec_DrawPush p bs st hI hs).mono ?_⟩
 rintro _ s5 ⟨g5,n5,rfl,hb5,hR5,hP5⟩
 iterate 2 refine ⟨_,rfl,?_⟩
 refine ⟨_,op_stw (vs := cNV g5) rfl rfl rfl rfl rfl rfl rfl rfl,?_⟩
 exact cxs (Rt ⟨g5,n5,rfl,hb5,hR5,hP5⟩)
theorem AC.truP {f : FuncId} {args : List Value} {st : St} {P : Prop} (h : C f args st (fun v s => ∃ x,v = .bool x ∧ (x = true ↔ P) ∧ Pres st s)) (hp : P) : C f args st (fun v s => v = vB true ∧ Pres st s) :=
 AC.mono h fun v s ⟨x,h1,h2,h3⟩ => ⟨by rw [h1,h2.2 hp],h3⟩
theorem fold_join : ∀ (l : List Sta) (x : Sta),stateOk x → (∀ s ∈ l,stateOk s) → stateOk (joinL l) ∧ l.foldl (fun a s => joinF a s 5) x = joinF x (joinL l) 5
 | [],x,hx,_ => ⟨stateOk_nil,(join_nil hx).symm⟩
 | b :: l,x,hx,h => by
  have hb := h b (List.mem_cons_self ..)
  have hl := fun s hs => h s (List.mem_cons_of_mem _ hs)
  have h1 := fold_join l (joinF x b 5) (stateOk_join hx hb) hl
  have h2 := fold_join l (joinF nilS b 5) (stateOk_join stateOk_nil hb) hl
  have e : joinL (b :: l) = joinF b (joinL l) 5 := by
   show l.foldl _ (joinF nilS b 5) = _
   rw [h2.2,show joinF nilS b 5 = b from nil_join hb]
  refine ⟨by rw [e]; exact stateOk_join hb h1.1,?_⟩
  show l.foldl _ (joinF x b 5) = _
  rw [h1.2,e,join_assoc hx hb h1.1]
theorem joinL_ok {l : List Sta} (h : ∀ s ∈ l,stateOk s) : stateOk (joinL l) := (fold_join l nilS stateOk_nil h).1
theorem since_yes {g : Lg} {n : Int} {x : Sta} (h : (x,true) = sinceF g n) : (logOk g ∧ g.frm ≤ n ∧ n ≤ g.frm + (g.list.length : Int)) ∧ x = joinL (g.list.drop (n - g.frm).toNat) := by
 unfold sinceF at h
 split at h
 ·rename_i hk; injection h with h _; exact ⟨hk,h⟩
 ·injection h with _ h; cases h
theorem ship_st {x : Nd} {n : Int} {u : Sta} {b : Bool} (h : (u,b) = ship1 x n) (hk : nodeOk x) : stateOk u ∧ (b = false → u = x.s) := by
 unfold ship1 at h
 split at h
 ·rename_i hb
  injection h with h hb2
  obtain ⟨_,hu⟩ := since_yes (g := x.g) (n := n) (x := (sinceF x.g n).1) (by rw [← hb])
  rw [← h] at hu
  exact ⟨by rw [hu]; exact joinL_ok fun s hs => hk.g.2.2.2.2 s (List.mem_of_mem_drop hs),fun k => by rw [hb2] at k; cases k⟩
 ·injection h with h _
  exact ⟨by rw [h]; exact hk.s,fun _ => h⟩
def numsOk (l : List Int) (most top : Int) : Prop := (l.length : Int) ≤ most ∧ ∀ (j : Nat) x,l[j]? = some x → 0 ≤ x ∧ x ≤ top
def trOk (t : Tr) : Prop := if t.leaves.length = 0 then t.root = 0 else t.leaves.length = 4 ∧ (∀ (j : Nat) x,t.leaves[j]? = some x → 0 ≤ x ∧ x ≤ 1023) ∧ (0 ≤ t.root ∧ t.root ≤ 1023)
def incOk (l : List Int) : Prop := ∀ (j : Nat) x,l[j]? = some x → (0 ≤ x ∧ x ≤ 3) ∧ ∀ y,0 < j → l[j - 1]? = some y → y < x
def msgOk (m : Mg) : Prop := ((0 ≤ m.kind ∧ m.kind ≤ 5) ∧ (0 ≤ m.frm ∧ m.frm ≤ 4) ∧ (0 ≤ m.to ∧ m.to ≤ 4) ∧ ¬ m.frm = m.to) ∧ ((0 ≤ m.num ∧ m.num ≤ 100000) ∧ (0 ≤ m.hi ∧ m.hi ≤ 100000)) ∧ trOk m.tree ∧ numsOk m.vec 5 100000 ∧ incOk m.leaves ∧ stateOk m.part ∧ marksOk m.marks
theorem ac_impl_treeOk (t : TV) (st : St) (hR : Rows st 1 fI t.p t.l) (hs : szOk t.l.length) : C 96 [.agg #[vS t.p t.l.length,vI t.root]] st (fun v s => ∃ x,v = .bool x ∧ (x = true ↔ trOk t.x) ∧ s = st) := by
 have hs : t.l.length ≤ 1048576 := hs
 refine AC.enterX (i := ⟨[1],[1,5,9,12,23,28],[0,1,2,4,8,13,14,15,16,21],[]⟩) [] Tryz.func96 rfl rfl (by kernel_rfl) (by kernel_rfl) Tryz.ntmps96 (Lb rfl) rfl ?_
 refine ⟨_,rfl,?_⟩
 refine Cm 1 st [Ml 1 0,(2,vB false)] [(1,0,[vS t.p t.l.length,vI t.root])] fun _ _ => ?_
 refine ⟨_,rfl,?_⟩
 refine ⟨_,Od rfl,?_⟩
 iterate 2 refine ⟨_,rfl,?_⟩
 rintro (_|_) h8
 ·replace h8 : ¬ ((t.l.length : Int) = (0)) := beq_eq_false_iff_ne.1 h8
  refine Cm 1 st [Ml 1 0,(2,vB false),(8,vB false)] [(1,0,[vS t.p t.l.length,vI t.root])] fun _ _ => ?_
  have h0 : ¬ t.l.length = 0 := by omega
  refine cxs ?_
  refine ⟨_,rfl,?_⟩
  refine ⟨_,Od rfl,?_⟩
  refine ⟨_,rfl,?_⟩
  refine Cm 1 st [Ml 1 0,(2,vB false),(13,vS t.p t.l.length),(14,vI (t.l.length : Int)),(15,vI 0)] [(1,0,[vS t.p t.l.length,vI t.root])] fun _ _ => ?_
  refine AW.loopM (fun i : Nat => [(1,vL 1 0 (0)),(13,vS t.p t.l.length),(14,vI (t.l.length : Int)),(15,vI (i : Int))]) (fun i : Nat => [(1,0,[vS t.p t.l.length,vI t.root])]) (fun m (i : Nat) st' => m = t.l.length - i ∧ i ≤ t.l.length ∧ (∀ (j : Nat) x,j < i → t.l[j]? = some x → 0 ≤ x ∧ x ≤ 1023) ∧ st = st') 0 _ ⟨rfl,rfl,rfl,rfl,trivial⟩ ⟨rfl,trivial⟩ ⟨rfl,Nat.zero_le _,fun j x h => absurd h (Nat.not_lt_zero _),rfl⟩ ?_
  rintro m i ρ0 ff gg st' ⟨rfl,hi,hok,rfl⟩
  refine ⟨_,rfl,?_⟩
  rintro (_|_) h16
  ·replace h16 : ¬ ((i : Int) < (t.l.length : Int)) := of_decide_eq_false h16
   refine Cm gg st [Ml 1 0,(13,vS t.p t.l.length),(14,vI (t.l.length : Int)),(15,vI (i : Int)),(16,vB false)] [(1,0,[vS t.p t.l.length,vI t.root])] fun _ _ => ?_
   refine cxs ?_
   refine ⟨_,rfl,?_⟩
   refine ⟨_,Od rfl,?_⟩
   iterate 2 refine ⟨_,rfl,?_⟩
   rintro (_|_) h26
   ·replace h26 : ¬ ((t.l.length : Int) = (4)) := beq_eq_false_iff_ne.1 h26
    refine ⟨_,rfl,?_⟩
    exact cxs (Rt ⟨false,rfl,⟨fun h => absurd h Bool.false_ne_true,fun h => (show False from (by rw [trOk,if_neg h0] at h; have h1 : t.l.length = 4 := h.1; omega)).elim⟩,rfl⟩)
   ·replace h26 : (t.l.length : Int) = (4) := beq_iff_eq.1 h26
    refine ⟨_,rfl,?_⟩
    refine ⟨_,Od rfl,?_⟩
    refine ⟨_,rfl,(ac_impl_within t.root 0 1023 st).mono ?_⟩
    rintro _ st ⟨x30,rfl,h30,rfl⟩
    rcases x30 with _|_
    ·replace h30 := of_decide_eq_false h30.symm
     refine ⟨_,rfl,?_⟩
     exact cxs (Rt ⟨false,rfl,⟨fun h => absurd h Bool.false_ne_true,fun h => (show False from (by rw [trOk,if_neg h0] at h; exact h30 h.2.2)).elim⟩,rfl⟩)
    ·replace h30 := of_decide_eq_true h30.symm
     refine ⟨_,rfl,?_⟩
     exact cxs (Rt ⟨true,rfl,⟨fun _ => by rw [trOk,if_neg h0]; exact ⟨by show t.l.length = 4; omega,fun j x hx => hok j x (by have := (List.getElem?_eq_some_iff.1 hx).1; simp only [TV.x] at this; omega) hx,h30⟩,fun _ => rfl⟩,rfl⟩)
  ·replace h16 : (i : Int) < (t.l.length : Int) := of_decide_eq_true h16
   refine Cm gg st [Ml 1 0,(13,vS t.p t.l.length),(14,vI (t.l.length : Int)),(15,vI (i : Int)),(16,vB true)] [(1,0,[vS t.p t.l.length,vI t.root])] fun _ _ => ?_
   refine cxs ?_
   refine op_at i hR (by omega) rfl rfl rfl rfl rfl rfl rfl ?_
   intro x17 b17 d17 k17 hy17 hb17 hm17 hc17 ho17
   refine ⟨_,op_ldc (i := 0) rfl rfl rfl rfl hm17 hc17 rfl rfl,?_⟩
   refine Cm gg st [Ml 1 0,(4,vI x17),(13,vS t.p t.l.length),(14,vI (t.l.length : Int)),(15,vI (i : Int)),(16,vB true)] [(1,0,[vS t.p t.l.length,vI t.root])] fun _ _ => ?_
   refine ⟨_,rfl,(ac_impl_within x17 0 1023 st).mono ?_⟩
   rintro _ st ⟨x20,rfl,h20,rfl⟩
   rcases x20 with _|_
   ·replace h20 := of_decide_eq_false h20.symm
    refine ⟨_,rfl,?_⟩
    refine Cm gg st [Ml 1 0,(4,vI x17),(13,vS t.p t.l.length),(14,vI (t.l.length : Int)),(15,vI (i : Int)),(16,vB true),(21,vB true)] [(1,0,[vS t.p t.l.length,vI t.root])] fun _ _ => ?_
    exact cxs (Rt ⟨false,rfl,⟨fun h => absurd h Bool.false_ne_true,fun h => (show False from (by rw [trOk,if_neg h0] at h; exact h20 (h.2.1 i x17 hy17))).elim⟩,rfl⟩)
   ·replace h20 := of_decide_eq_true h20.symm
    refine ⟨_,rfl,?_⟩
    refine Cm gg st [Ml 1 0,(4,vI x17),(13,vS t.p t.l.length),(14,vI (t.l.length : Int)),(15,vI (i : Int)),(16,vB true),(21,vB false)] [(1,0,[vS t.p t.l.length,vI t.root])] fun _ _ => ?_
    refine cxs ?_
    have ew22 : IntKind.wrap .i64 ((i : Int) + (1)) = ((i + 1 : Nat) : Int) := (wrap_i64 (by omega) (by omega)).trans (by omega)
    refine ⟨_,rfl,?_⟩
    refine ⟨i + 1,t.l.length - (i + 1),by omega,⟨rfl,rfl,rfl,congrArg (Value.int .i64) ew22,trivial⟩,⟨rfl,trivial⟩,rfl,by omega,fun j x hj hx => ?_,rfl⟩
    rcases Nat.lt_or_ge j i with h | h
    ·exact hok j x h hx
    ·obtain rfl : j = i := by omega
     rw [hy17] at hx; injection hx with hx; rw [← hx]; exact h20
 ·replace h8 : (t.l.length : Int) = (0) := beq_iff_eq.1 h8
  refine Cm 1 st [Ml 1 0,(2,vB false),(8,vB true)] [(1,0,[vS t.p t.l.length,vI t.root])] fun _ _ => ?_
  have h0 : t.l.length = 0 := by omega
  refine ⟨_,rfl,?_⟩
  refine ⟨_,Od rfl,?_⟩
  refine ⟨_,rfl,?_⟩
  rintro (_|_) h11
  ·replace h11 : ¬ (t.root = (0)) := beq_eq_false_iff_ne.1 h11
   exact cxs (Rt ⟨false,rfl,⟨fun h => absurd h Bool.false_ne_true,fun h => (show False from (by rw [trOk,if_pos h0] at h; exact h11 h)).elim⟩,rfl⟩)
  ·replace h11 : t.root = (0) := beq_iff_eq.1 h11
   exact cxs (Rt ⟨true,rfl,⟨fun _ => by rw [trOk,if_pos h0]; exact h11,fun _ => rfl⟩,rfl⟩)
theorem ac_impl_MsgOk (g : MV) (st : St) (hR : RdM st g) (hb : bigM g.x) : C 31 [.agg #[vI g.kind,vI g.frm,vI g.to,vI g.num,vI g.hi,vS g.tree.p g.tree.l.length,vI g.tree.root,vS g.vec.p g.vec.l.length,vS g.leaves.p g.leaves.l.length,vS g.part.p g.part.x.items.length,vS g.part.q g.part.x.floors.length,vS g.marks.p g.marks.l.length]] st (fun v s => ∃ x,v = .bool x ∧ (x = true ↔ msgOk g.x) ∧ s = st) := by
 have hs1 : g.leaves.l.length ≤ 1048576 := hb.leaves
 have hs2 : g.vec.l.length ≤ 1048576 := hb.vec
 refine AC.enterX (i := ⟨[1],[1,7,12,18,24,26,30,45,56,67,71,76,81,87,92],[0,1,2,3,4,6,29,31,32,33,34,54,57,58,59,60,65],[]⟩) [] Tryz.func31 rfl rfl (by kernel_rfl) (by kernel_rfl) Tryz.ntmps31 (Lb rfl) rfl ?_
 refine ⟨_,rfl,?_⟩
 refine Cm 1 st [Ml 1 0,(2,vB false)] [(1,0,cMV g)] fun _ _ => ?_
 refine ⟨_,rfl,?_⟩
 refine ⟨_,Od rfl,?_⟩
 refine ⟨_,rfl,(ac_impl_within g.kind 0 5 st).mono ?_⟩
 rintro _ st ⟨x9,rfl,h9,rfl⟩
 rcases x9 with _|_
 ·replace h9 := of_decide_eq_false h9.symm
  iterate 4 refine ⟨_,rfl,?_⟩
  refine Cm 1 st [Ml 1 0,(2,vB false),(29,vB true)] [(1,0,cMV g)] fun _ _ => ?_
  exact cxs (Rt ⟨false,rfl,⟨fun h => absurd h Bool.false_ne_true,fun h => (show False from (h9 h.1.1)).elim⟩,rfl⟩)
 ·replace h9 := of_decide_eq_true h9.symm
  iterate 2 refine ⟨_,rfl,?_⟩
  refine ⟨_,Od rfl,?_⟩
  refine ⟨_,rfl,(ac_impl_isNode g.frm st).mono ?_⟩
  rintro _ st ⟨x14,rfl,h14,rfl⟩
  rcases x14 with _|_
  ·replace h14 := of_decide_eq_false h14.symm
   iterate 4 refine ⟨_,rfl,?_⟩
   refine Cm 1 st [Ml 1 0,(2,vB false),(29,vB true)] [(1,0,cMV g)] fun _ _ => ?_
   exact cxs (Rt ⟨false,rfl,⟨fun h => absurd h Bool.false_ne_true,fun h => (show False from (h14 h.1.2.1)).elim⟩,rfl⟩)
  ·replace h14 := of_decide_eq_true h14.symm
   iterate 3 refine ⟨_,rfl,?_⟩
   refine ⟨_,Od rfl,?_⟩
   refine ⟨_,rfl,(ac_impl_isNode g.to st).mono ?_⟩
   rintro _ st ⟨x20,rfl,h20,rfl⟩
   rcases x20 with _|_
   ·replace h20 := of_decide_eq_false h20.symm
    iterate 3 refine ⟨_,rfl,?_⟩
    refine Cm 1 st [Ml 1 0,(2,vB false),(29,vB true)] [(1,0,cMV g)] fun _ _ => ?_
    exact cxs (Rt ⟨false,rfl,⟨fun h => absurd h Bool.false_ne_true,fun h => (show False from (h20 h.1.2.2.1)).elim⟩,rfl⟩)
   ·replace h20 := of_decide_eq_true h20.symm
    iterate 3 refine ⟨_,rfl,?_⟩
    refine ⟨_,Od rfl,?_⟩
    refine ⟨_,rfl,?_⟩
    refine ⟨_,Od rfl,?_⟩
    refine ⟨_,rfl,?_⟩
    rintro (_|_) h28
    ·replace h28 : ¬ (g.frm = g.to) := beq_eq_false_iff_ne.1 h28
     refine ⟨_,rfl,?_⟩
     refine Cm 1 st [Ml 1 0,(2,vB false),(29,vB false)] [(1,0,cMV g)] fun _ _ => ?_
     refine cxs ?_
     refine ⟨_,rfl,?_⟩
     refine ⟨_,Od rfl,?_⟩
     refine ⟨_,rfl,?_⟩
     refine Cm 1 st [Ml 1 0,(2,vB false),(31,vS g.leaves.p g.leaves.l.length),(32,vI (g.leaves.l.length : Int)),(33,vI 0)] [(1,0,cMV g)] fun _ _ => ?_
     refine AW.loopM (fun i : Nat => [(1,vL 1 0 (0)),(31,vS g.leaves.p g.leaves.l.length),(32,vI (g.leaves.l.length : Int)),(33,vI (i : Int))]) (fun i : Nat => [(1,0,cMV g)]) (fun m (i : Nat) st' => m = g.leaves.l.length - i ∧ i ≤ g.leaves.l.length ∧ (∀ (j : Nat) x,j < i → g.leaves.l[j]? = some x → (0 ≤ x ∧ x ≤ 3) ∧ ∀ y,0 < j → g.leaves.l[j - 1]? = some y → y < x) ∧ st = st') 0 _ ⟨rfl,rfl,rfl,rfl,trivial⟩ ⟨rfl,trivial⟩ ⟨rfl,Nat.zero_le _,fun j x h => absurd h (Nat.not_lt_zero _),rfl⟩ ?_
     rintro m i ρ0 ff gg st' ⟨rfl,hi,hok,rfl⟩
     refine ⟨_,rfl,?_⟩
     rintro (_|_) h34
     ·replace h34 : ¬ ((i : Int) < (g.leaves.l.length : Int)) := of_decide_eq_false h34
      refine Cm gg st [Ml 1 0,(31,vS g.leaves.p g.leaves.l.length),(32,vI (g.leaves.l.length : Int)),(33,vI (i : Int)),(34,vB false)] [(1,0,cMV g)] fun _ _ => ?_
      have hL : incOk g.leaves.l := fun j x hx => hok j x (by have := (List.getElem?_eq_some_iff.1 hx).1; omega) hx
      clear hok
      refine cxs ?_
      refine ⟨_,rfl,?_⟩
      refine ⟨_,Od rfl,?_⟩
      refine ⟨_,rfl,?_⟩
      refine Cm gg st [Ml 1 0,(57,vS g.vec.p g.vec.l.length),(58,vI (g.vec.l.length : Int)),(59,vI 0)] [(1,0,cMV g)] fun _ _ => ?_
      refine AW.loopM (fun i : Nat => [(1,vL 1 0 (0)),(57,vS g.vec.p g.vec.l.length),(58,vI (g.vec.l.length : Int)),(59,vI (i : Int))]) (fun i : Nat => [(1,0,cMV g)]) (fun m (i : Nat) st' => m = g.vec.l.length - i ∧ i ≤ g.vec.l.length ∧ (∀ (j : Nat) x,j < i → g.vec.l[j]? = some x → 0 ≤ x ∧ x ≤ 100000) ∧ st = st') 0 _ ⟨rfl,rfl,rfl,rfl,trivial⟩ ⟨rfl,trivial⟩ ⟨rfl,Nat.zero_le _,fun j x h => absurd h (Nat.not_lt_zero _),rfl⟩ ?_
      rintro m i ρ0 ff gg st' ⟨rfl,hi,hok,rfl⟩
      refine ⟨_,rfl,?_⟩
      rintro (_|_) h60
      ·replace h60 : ¬ ((i : Int) < (g.vec.l.length : Int)) := of_decide_eq_false h60
       refine Cm gg st [Ml 1 0,(57,vS g.vec.p g.vec.l.length),(58,vI (g.vec.l.length : Int)),(59,vI (i : Int)),(60,vB false)] [(1,0,cMV g)] fun _ _ => ?_
       have hV : ∀ (j : Nat) x,g.vec.l[j]? = some x → 0 ≤ x ∧ x ≤ 100000 := fun j x hx => hok j x (by have := (List.getElem?_eq_some_iff.1 hx).1; omega) hx
       clear hok
       refine cxs ?_
       refine ⟨_,rfl,?_⟩
       refine ⟨_,Od rfl,?_⟩
       refine ⟨_,rfl,(ac_impl_within g.num 0 100000 st).mono ?_⟩
       rintro _ st ⟨x69,rfl,h69,rfl⟩
       rcases x69 with _|_
       ·replace h69 := of_decide_eq_false h69.symm
        iterate 3 refine ⟨_,rfl,?_⟩
        refine ow_cut [(1,vL 1 0 (0)),(85,vB false)] ⟨rfl,rfl,trivial⟩ fun _ => ?_
        iterate 2 refine ⟨_,rfl,?_⟩
        exact cxs (Rt ⟨false,rfl,⟨fun h => absurd h Bool.false_ne_true,fun h => (show False from (h69 h.2.1.1)).elim⟩,rfl⟩)
       ·replace h69 := of_decide_eq_true h69.symm
        refine ⟨_,rfl,?_⟩
        refine ⟨_,Od rfl,?_⟩
        refine ⟨_,rfl,(ac_impl_within g.hi 0 100000 st).mono ?_⟩
        rintro _ st ⟨x73,rfl,h73,rfl⟩
        rcases x73 with _|_
        ·replace h73 := of_decide_eq_false h73.symm
         iterate 3 refine ⟨_,rfl,?_⟩
         refine ow_cut [(1,vL 1 0 (0)),(85,vB false)] ⟨rfl,rfl,trivial⟩ fun _ => ?_
         iterate 2 refine ⟨_,rfl,?_⟩
         exact cxs (Rt ⟨false,rfl,⟨fun h => absurd h Bool.false_ne_true,fun h => (show False from (h73 h.2.1.2)).elim⟩,rfl⟩)
        ·replace h73 := of_decide_eq_true h73.symm
         iterate 2 refine ⟨_,rfl,?_⟩
         refine ⟨_,Od rfl,?_⟩
         refine ⟨_,rfl,(ac_impl_treeOk g.tree st hR.tree (hb.tree)).mono ?_⟩
         rintro _ st ⟨x78,rfl,h78,rfl⟩
         rcases x78 with _|_
         ·replace h78 := fun k => Bool.false_ne_true (h78.2 k)
          iterate 2 refine ⟨_,rfl,?_⟩
          refine ow_cut [(1,vL 1 0 (0)),(85,vB false)] ⟨rfl,rfl,trivial⟩ fun _ => ?_
          iterate 2 refine ⟨_,rfl,?_⟩
          exact cxs (Rt ⟨false,rfl,⟨fun h => absurd h Bool.false_ne_true,fun h => (show False from (h78 h.2.2.1)).elim⟩,rfl⟩)
         ·replace h78 := h78.1 rfl
          iterate 2 refine ⟨_,rfl,?_⟩
          refine ⟨_,Od rfl,?_⟩
          iterate 2 refine ⟨_,rfl,?_⟩
          rintro (_|_) h84
          ·replace h84 : ¬ ((g.vec.l.length : Int) ≤ (5)) := of_decide_eq_false h84
           refine ow_cut [(1,vL 1 0 (0)),(80,vB true),(84,vB false)] ⟨rfl,rfl,rfl,trivial⟩ fun _ => ?_
           iterate 3 refine ⟨_,rfl,?_⟩
           exact cxs (Rt ⟨false,rfl,⟨fun h => absurd h Bool.false_ne_true,fun h => (show False from (absurd h.2.2.2.1.1 h84)).elim⟩,rfl⟩)
          ·replace h84 : (g.vec.l.length : Int) ≤ (5) := of_decide_eq_true h84
           refine ow_cut [(1,vL 1 0 (0)),(80,vB true),(84,vB true)] ⟨rfl,rfl,rfl,trivial⟩ fun _ => ?_
           iterate 2 refine ⟨_,rfl,?_⟩
           refine ⟨_,Od rfl,?_⟩
           refine ⟨_,rfl,(ac_impl_StateOk g.part st hR.part (hb.part)).mono ?_⟩
           rintro _ st ⟨x89,rfl,h89,rfl⟩
           rcases x89 with _|_
           ·replace h89 := fun k => Bool.false_ne_true (h89.2 k)
            iterate 2 refine ⟨_,rfl,?_⟩
            exact cxs (Rt ⟨false,rfl,⟨fun h => absurd h Bool.false_ne_true,fun h => (show False from (h89 h.2.2.2.2.2.1)).elim⟩,rfl⟩)
           ·replace h89 := h89.1 rfl
            iterate 2 refine ⟨_,rfl,?_⟩
            refine ⟨_,Od rfl,?_⟩
            refine ⟨_,rfl,(ac_impl_MarksOk g.marks.p g.marks.l st hR.marks (hb.marks)).mono ?_⟩
            rintro _ st ⟨x94,rfl,h94,rfl⟩
            rcases x94 with _|_
            ·replace h94 := fun k => Bool.false_ne_true (h94.2 k)
             refine ⟨_,rfl,?_⟩
             exact cxs (Rt ⟨false,rfl,⟨fun h => absurd h Bool.false_ne_true,fun h => (show False from (h94 h.2.2.2.2.2.2)).elim⟩,rfl⟩)
            ·replace h94 := h94.1 rfl
             refine ⟨_,rfl,?_⟩
             exact cxs (Rt ⟨true,rfl,⟨fun _ => ⟨⟨h9,h14,h20,h28⟩,⟨h69,h73⟩,h78,⟨h84,hV⟩,hL,h89,h94⟩,fun _ => rfl⟩,rfl⟩)
      ·replace h60 : (i : Int) < (g.vec.l.length : Int) := of_decide_eq_true h60
       refine Cm gg st [Ml 1 0,(57,vS g.vec.p g.vec.l.length),(58,vI (g.vec.l.length : Int)),(59,vI (i : Int)),(60,vB true)] [(1,0,cMV g)] fun _ _ => ?_
       refine cxs ?_
       refine op_at i hR.vec (by omega) rfl rfl rfl rfl rfl rfl rfl ?_
       intro x61 b61 d61 k61 hy61 hb61 hm61 hc61 ho61
       refine ⟨_,op_ldc (i := 0) rfl rfl rfl rfl hm61 hc61 rfl rfl,?_⟩
       refine Cm gg st [Ml 1 0,(6,vI x61),(57,vS g.vec.p g.vec.l.length),(58,vI (g.vec.l.length : Int)),(59,vI (i : Int)),(60,vB true)] [(1,0,cMV g)] fun _ _ => ?_
       refine ⟨_,rfl,(ac_impl_within x61 0 100000 st).mono ?_⟩
       rintro _ st ⟨x64,rfl,h64,rfl⟩
       rcases x64 with _|_
       ·replace h64 := of_decide_eq_false h64.symm
        refine ⟨_,rfl,?_⟩
        refine Cm gg st [Ml 1 0,(6,vI x61),(57,vS g.vec.p g.vec.l.length),(58,vI (g.vec.l.length : Int)),(59,vI (i : Int)),(60,vB true),(65,vB true)] [(1,0,cMV g)] fun _ _ => ?_
        exact cxs (Rt ⟨false,rfl,⟨fun h => absurd h Bool.false_ne_true,fun h => (show False from (h64 (h.2.2.2.1.2 i x61 hy61))).elim⟩,rfl⟩)
       ·replace h64 := of_decide_eq_true h64.symm
        refine ⟨_,rfl,?_⟩
        refine Cm gg st [Ml 1 0,(6,vI x61),(57,vS g.vec.p g.vec.l.length),(58,vI (g.vec.l.length : Int)),(59,vI (i : Int)),(60,vB true),(65,vB false)] [(1,0,cMV g)] fun _ _ => ?_
        refine cxs ?_
        have ew66 : IntKind.wrap .i64 ((i : Int) + (1)) = ((i + 1 : Nat) : Int) := (wrap_i64 (by omega) (by omega)).trans (by omega)
        refine ⟨_,rfl,?_⟩
        refine ⟨i + 1,g.vec.l.length - (i + 1),by omega,⟨rfl,rfl,rfl,congrArg (Value.int .i64) ew66,trivial⟩,⟨rfl,trivial⟩,rfl,by omega,fun j x hj hx => ?_,rfl⟩
        rcases Nat.lt_or_ge j i with h | h
        ·exact hok j x h hx
        ·obtain rfl : j = i := by omega
         rw [hy61] at hx; injection hx with hx; rw [← hx]; exact h64
     ·replace h34 : (i : Int) < (g.leaves.l.length : Int) := of_decide_eq_true h34
      refine Cm gg st [Ml 1 0,(31,vS g.leaves.p g.leaves.l.length),(32,vI (g.leaves.l.length : Int)),(33,vI (i : Int)),(34,vB true)] [(1,0,cMV g)] fun _ _ => ?_
      refine cxs ?_
      refine op_at i hR.leaves (by omega) rfl rfl rfl rfl rfl rfl rfl ?_
      intro x36 b36 d36 k36 hy36 hb36 hm36 hc36 ho36
      refine ⟨_,op_ldc (i := 0) rfl rfl rfl rfl hm36 hc36 rfl rfl,?_⟩
      refine Cm gg st [Ml 1 0,(3,vI (i : Int)),(4,vI x36),(31,vS g.leaves.p g.leaves.l.length),(32,vI (g.leaves.l.length : Int)),(33,vI (i : Int)),(34,vB true)] [(1,0,cMV g)] fun _ _ => ?_
      refine ⟨_,rfl,(ac_impl_within x36 0 3 st).mono ?_⟩
      rintro _ st ⟨x39,rfl,h39,rfl⟩
      rcases x39 with _|_
      ·replace h39 := of_decide_eq_false h39.symm
       iterate 2 refine ⟨_,rfl,?_⟩
       refine Cm gg st [Ml 1 0,(3,vI (i : Int)),(4,vI x36),(31,vS g.leaves.p g.leaves.l.length),(32,vI (g.leaves.l.length : Int)),(33,vI (i : Int)),(34,vB true),(54,vB true)] [(1,0,cMV g)] fun _ _ => ?_
       exact cxs (Rt ⟨false,rfl,⟨fun h => absurd h Bool.false_ne_true,fun h => (show False from (h39 (h.2.2.2.2.1 i x36 hy36).1)).elim⟩,rfl⟩)
      ·replace h39 := of_decide_eq_true h39.symm
       iterate 2 refine ⟨_,rfl,?_⟩
       rintro (_|_) h43
       ·replace h43 : ¬ ((i : Int) > (0)) := of_decide_eq_false h43
        iterate 2 refine ⟨_,rfl,?_⟩
        refine Cm gg st [Ml 1 0,(3,vI (i : Int)),(4,vI x36),(31,vS g.leaves.p g.leaves.l.length),(32,vI (g.leaves.l.length : Int)),(33,vI (i : Int)),(34,vB true),(54,vB false)] [(1,0,cMV g)] fun _ _ => ?_
        have hnew : (0 ≤ x36 ∧ x36 ≤ 3) ∧ ∀ y,0 < i → g.leaves.l[i - 1]? = some y → y < x36 := ⟨h39,fun y h0 _ => by omega⟩
        refine cxs ?_
        have ew55 : IntKind.wrap .i64 ((i : Int) + (1)) = ((i + 1 : Nat) : Int) := (wrap_i64 (by omega) (by omega)).trans (by omega)
        refine ⟨_,rfl,?_⟩
        refine ⟨i + 1,g.leaves.l.length - (i + 1),by omega,⟨rfl,rfl,rfl,congrArg (Value.int .i64) ew55,trivial⟩,⟨rfl,trivial⟩,rfl,by omega,fun j x hj hx => ?_,rfl⟩
        rcases Nat.lt_or_ge j i with h | h
        ·exact hok j x h hx
        ·obtain rfl : j = i := by omega
         rw [hy36] at hx; injection hx with hx; rw [← hx]; exact hnew
       ·replace h43 : (i : Int) > (0) := of_decide_eq_true h43
        refine ⟨_,rfl,?_⟩
        refine ⟨_,Od rfl,?_⟩
        have ew48 : IntKind.wrap .i64 ((i : Int) - (1)) = (i : Int) - (1) := wrap_i64 (by omega) (by omega)
        refine ⟨_,rfl,?_⟩
        refine op_at (i - 1) hR.leaves (by omega) rfl rfl rfl rfl (by rw [ew48]; omega) rfl rfl ?_
        intro x49 b49 d49 k49 hy49 hb49 hm49 hc49 ho49
        refine ⟨_,op_ldc (i := 0) rfl rfl rfl rfl hm49 hc49 rfl rfl,?_⟩
        refine ⟨_,rfl,?_⟩
        rintro (_|_) h52
        ·replace h52 : ¬ (x49 ≥ x36) := of_decide_eq_false h52
         iterate 2 refine ⟨_,rfl,?_⟩
         refine Cm gg st [Ml 1 0,(3,vI (i : Int)),(4,vI x36),(31,vS g.leaves.p g.leaves.l.length),(32,vI (g.leaves.l.length : Int)),(33,vI (i : Int)),(34,vB true),(54,vB false)] [(1,0,cMV g)] fun _ _ => ?_
         have hnew : (0 ≤ x36 ∧ x36 ≤ 3) ∧ ∀ y,0 < i → g.leaves.l[i - 1]? = some y → y < x36 := ⟨h39,fun y h0 hy => by rw [hy49] at hy; injection hy with hy; omega⟩
         refine cxs ?_
         have ew55 : IntKind.wrap .i64 ((i : Int) + (1)) = ((i + 1 : Nat) : Int) := (wrap_i64 (by omega) (by omega)).trans (by omega)
         refine ⟨_,rfl,?_⟩
         refine ⟨i + 1,g.leaves.l.length - (i + 1),by omega,⟨rfl,rfl,rfl,congrArg (Value.int .i64) ew55,trivial⟩,⟨rfl,trivial⟩,rfl,by omega,fun j x hj hx => ?_,rfl⟩
         rcases Nat.lt_or_ge j i with h | h
         ·exact hok j x h hx
         ·obtain rfl : j = i := by omega
          rw [hy36] at hx; injection hx with hx; rw [← hx]; exact hnew
        ·replace h52 : x49 ≥ x36 := of_decide_eq_true h52
         iterate 2 refine ⟨_,rfl,?_⟩
         refine Cm gg st [Ml 1 0,(3,vI (i : Int)),(4,vI x36),(31,vS g.leaves.p g.leaves.l.length),(32,vI (g.leaves.l.length : Int)),(33,vI (i : Int)),(34,vB true),(54,vB true)] [(1,0,cMV g)] fun _ _ => ?_
         exact cxs (Rt ⟨false,rfl,⟨fun h => absurd h Bool.false_ne_true,fun h => (show False from (absurd ((h.2.2.2.2.1 i x36 hy36).2 x49 (by omega) hy49) (by omega))).elim⟩,rfl⟩)
    ·replace h28 : g.frm = g.to := beq_iff_eq.1 h28
     refine ⟨_,rfl,?_⟩
     refine Cm 1 st [Ml 1 0,(2,vB false),(29,vB true)] [(1,0,cMV g)] fun _ _ => ?_
     exact cxs (Rt ⟨false,rfl,⟨fun h => absurd h Bool.false_ne_true,fun h => (show False from (h.1.2.2.2 h28)).elim⟩,rfl⟩)
end Go.Proofs.YtpnolkhfeliehaaGreat.AM
