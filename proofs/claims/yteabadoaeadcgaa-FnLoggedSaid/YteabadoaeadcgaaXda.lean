/- Part 1 of the texts on which the law's proof rests. -/
import Derived.Test.YteabadoaeadcgaaXad
namespace Go.Proofs.Yteabadoaeadcgaa.AM
open Go Go.Proofs
set_option linter.unusedVariables false
set_option linter.unusedSimpArgs false
set_option maxRecDepth 100000
set_option maxHeartbeats 4000000
theorem ad_spec_LogAdd (g : LV) (d : SV) (st : St) (hR : RdL st g.p g.l) (hD : RdS st d) (hb : bigL g.l) (hbd : bigS d.x) : C 30 [.agg #[vI g.cap,vI g.frm,vS g.p g.l.length],.agg #[vS d.p d.x.items.length,vS d.q d.x.floors.length]] st (fun v s => ∃ (u : LV) (b : Bool),v = .tuple #[.agg #[vI u.cap,vI u.frm,vS u.p u.l.length],vB b] ∧ (u.x,b) = addL g.x d.x ∧ Frs st s (pcL u.p u.l)) := by
 have hs : g.l.length ≤ 1048576 := hb.1
 have hgl : g.x.list.length = g.l.length := List.length_map _
 refine AC.enterX (i := ⟨[2,3,4,6],[2,3,4,6,18,20,27,33,34,37,41,45,46,49],[0,1,2,3,4,5,6,25,39],[]⟩) [(4,[3,4],[1])] Try.func30 rfl rfl (by kernel_rfl) (by kernel_rfl) Try.ntmps30 (Nat.le_of_ble_eq_true rfl) rfl ?_
 iterate 3 refine ⟨_,rfl,?_⟩
 refine AW.cutM (3) st [(2,vL 2 0 (0)),(3,vL 3 0 (1)),(4,vL 4 0 (2)),(5,vB false)] [(2,0,[vI g.cap,vI g.frm,vS g.p g.l.length]),(3,1,[vS d.p d.x.items.length,vS d.q d.x.floors.length]),(4,2,[vI 0,vI 0,.slice none 0 0])] ⟨rfl,rfl,rfl,rfl,trivial⟩ ⟨rfl,rfl,rfl,trivial⟩ rfl fun ρ0 ff => ?_
 refine ⟨_,op_ldo rfl rfl rfl rfl,?_⟩
 refine ⟨_,rfl,(ac_spec_l7Copy g st hR (by first | assumption | omega)).mono ?_⟩
 rintro _ s8 ⟨u8,rfl,h8,hO8,hN8,hP8⟩
 refine ⟨_,rfl,?_⟩
 refine ⟨_,op_sto rfl rfl rfl rfl rfl rfl rfl,?_⟩
 refine AW.cutM (4) s8 [(2,vL 2 0 (0)),(3,vL 3 0 (1)),(4,vL 4 0 (2)),(5,vB false),(6,vL 6 0 (3))] [(2,0,[vI g.cap,vI g.frm,vS g.p g.l.length]),(3,1,[vS d.p d.x.items.length,vS d.q d.x.floors.length]),(4,2,[vI 0,vI 0,.slice none 0 0]),(6,3,[vI u8.cap,vI u8.frm,vS u8.p u8.l.length])] ⟨rfl,rfl,rfl,rfl,rfl,trivial⟩ ⟨rfl,rfl,rfl,rfl,trivial⟩ rfl fun ρ0 ff => ?_
 have hx8 : u8.cap = g.cap ∧ u8.frm = g.frm ∧ u8.l.map (·.x) = g.l.map (·.x) := ⟨congrArg Lg.cap h8,congrArg Lg.frm h8,congrArg Lg.list h8⟩
 have hl8 : u8.l.length = g.l.length := by have := congrArg List.length hx8.2.2; simpa using this
 refine ⟨_,op_ldo rfl rfl rfl rfl,?_⟩
 refine ⟨_,rfl,(ac_spec_LogOk g s8 (hR.pres hP8) (by first | assumption | omega)).mono ?_⟩
 rintro _ s8 ⟨x10,rfl,h10,rfl⟩
 rcases x10 with _|_
 ·replace h10 := fun k => Bool.false_ne_true (h10.2 k)
  iterate 3 refine ⟨_,rfl,?_⟩
  refine AW.cutM (4) s8 [(3,vL 3 0 (1)),(4,vL 4 0 (2)),(5,vB false),(6,vL 6 0 (3)),(25,vB true)] [(3,1,[vS d.p d.x.items.length,vS d.q d.x.floors.length]),(4,2,[vI 0,vI 0,.slice none 0 0]),(6,3,[vI u8.cap,vI u8.frm,vS u8.p u8.l.length])] ⟨rfl,rfl,rfl,rfl,rfl,trivial⟩ ⟨rfl,rfl,rfl,trivial⟩ rfl fun ρ0 ff => ?_
  refine ⟨_,op_ldo rfl rfl rfl rfl,?_⟩
  refine ⟨_,op_sto rfl rfl rfl rfl rfl rfl rfl,?_⟩
  refine cxs ?_
  exact ⟨.inl rfl,_,rfl,u8,false,rfl,by rw [addL,if_neg (fun h => h10 h.1)]; exact congrArg (·,false) h8,hO8,hN8,hP8⟩
 ·replace h10 := h10.1 rfl
  refine ⟨_,rfl,?_⟩
  refine ⟨_,op_ldo rfl rfl rfl rfl,?_⟩
  refine ⟨_,rfl,(ac_spec_StateOk d s8 (hD.pres hP8) (by first | assumption | omega)).mono ?_⟩
  rintro _ s8 ⟨x14,rfl,h14,rfl⟩
  rcases x14 with _|_
  ·replace h14 := fun k => Bool.false_ne_true (h14.2 k)
   iterate 3 refine ⟨_,rfl,?_⟩
   refine AW.cutM (4) s8 [(3,vL 3 0 (1)),(4,vL 4 0 (2)),(5,vB false),(6,vL 6 0 (3)),(25,vB true)] [(3,1,[vS d.p d.x.items.length,vS d.q d.x.floors.length]),(4,2,[vI 0,vI 0,.slice none 0 0]),(6,3,[vI u8.cap,vI u8.frm,vS u8.p u8.l.length])] ⟨rfl,rfl,rfl,rfl,rfl,trivial⟩ ⟨rfl,rfl,rfl,trivial⟩ rfl fun ρ0 ff => ?_
   refine ⟨_,op_ldo rfl rfl rfl rfl,?_⟩
   refine ⟨_,op_sto rfl rfl rfl rfl rfl rfl rfl,?_⟩
   refine cxs ?_
   exact ⟨.inl rfl,_,rfl,u8,false,rfl,by rw [addL,if_neg (fun h => h14 h.2.1)]; exact congrArg (·,false) h8,hO8,hN8,hP8⟩
  ·replace h14 := h14.1 rfl
   iterate 2 refine ⟨_,rfl,?_⟩
   have hk3 : 0 ≤ g.frm ∧ g.frm ≤ 100000 := h10.2.2.1
   have hk4 : g.frm + (g.l.length : Int) ≤ 100000 := by have := h10.2.2.2.1; rw [hgl] at this; exact this
   have hk5 : (g.l.length : Int) ≤ g.cap ∧ g.cap ≤ 8 := ⟨by have := h10.2.1; rw [hgl] at this; exact this,h10.1.2⟩
   refine ⟨_,rfl,?_⟩
   refine ⟨_,op_ldo rfl rfl rfl rfl,?_⟩
   refine ⟨_,rfl,?_⟩
   refine ⟨_,op_ldo rfl rfl rfl rfl,?_⟩
   refine ⟨_,rfl,?_⟩
   have ew23 : IntKind.wrap .i64 (g.frm + (g.l.length : Int)) = g.frm + (g.l.length : Int) := wrap_i64 (by omega) (by omega)
   iterate 2 refine ⟨_,rfl,?_⟩
   rintro (_|_) h24
   ·replace h24 : ¬ ((IntKind.wrap .i64 (g.frm + (g.l.length : Int))) = (100000)) := beq_eq_false_iff_ne.1 h24
    rw [ew23] at h24
    refine ⟨_,rfl,?_⟩
    refine AW.cutM (4) s8 [(3,vL 3 0 (1)),(4,vL 4 0 (2)),(5,vB false),(6,vL 6 0 (3)),(25,vB false)] [(3,1,[vS d.p d.x.items.length,vS d.q d.x.floors.length]),(4,2,[vI 0,vI 0,.slice none 0 0]),(6,3,[vI u8.cap,vI u8.frm,vS u8.p u8.l.length])] ⟨rfl,rfl,rfl,rfl,rfl,trivial⟩ ⟨rfl,rfl,rfl,trivial⟩ rfl fun ρ0 ff => ?_
    refine cxs ?_
    refine ⟨_,rfl,?_⟩
    refine ⟨_,op_ldo rfl rfl rfl rfl,?_⟩
    refine ⟨ld_own rfl rfl rfl,?_⟩
    refine ⟨_,op_ldo rfl rfl rfl rfl,?_⟩
    refine ⟨_,rfl,(ac_spec_l3Copy d s8 (hD.pres hP8) (by first | assumption | omega)).mono ?_⟩
    rintro _ s30 ⟨u30,rfl,h30,hO30,hN30,hP30⟩
    refine ⟨hP30.2,?_⟩
    refine op_one (z := 2) (a := (u30 : SV)) (f := cSV) rfl rfl rfl rfl rfl (by decide) rfl (Nat.le_of_ble_eq_true rfl) rfl rfl rfl ?_
    refine ⟨Pres.push.low hP30,?_⟩
    refine op_snoc (z := 2) (st := s30) (f := cSV) (b := 48) (l := u8.l) (x := u30) rfl rfl rfl rfl rfl rfl rfl (by decide) len_cSV rfl rfl rfl (by omega) (by unfold maxLen; omega) ((hO8.pres hP30).louter) ?_
    intro q32 s32 hO32 hP32 hN32
    refine ⟨_,rfl,?_⟩
    refine ⟨_,op_sto rfl rfl rfl rfl rfl rfl rfl,?_⟩
    refine AW.cutM (4) s32 [(4,vL 4 0 (2)),(5,vB false),(6,vL 6 0 (3))] [(4,2,[vI 0,vI 0,.slice none 0 0]),(6,3,[vI u8.cap,vI u8.frm,vS q32 (u8.l ++ [u30]).length])] ⟨rfl,rfl,rfl,trivial⟩ ⟨rfl,rfl,trivial⟩ rfl fun ρ0 ff => ?_
    have hO4 := pcL_snoc hO8 hP30 hO30 hN30 hP32 hO32 hN32
    have hN4 := newL_snoc hN8 (hN30.le hP8.1) (hN32.le (hP8.trans hP30).1)
    have hP4 := hP32.pres (hP8.trans hP30) (newL_p hN8)
    have hln : ((u8.l ++ [u30]).length : Int) = (g.l.length : Int) + 1 := by rw [List.length_append,List.length_singleton,hl8]; omega
    have hmx : (u8.l ++ [u30]).map (·.x) = g.l.map (·.x) ++ [d.x] := by rw [List.map_append,hx8.2.2,List.map_singleton,h30]
    have hdl : (List.drop 1 (u8.l ++ [u30])).length ≤ (u8.l ++ [u30]).length := by rw [List.length_drop]; omega
    have hlt : g.x.frm + (g.x.list.length : Int) < 100000 := by rw [hgl]; show g.frm + (g.l.length : Int) < 100000; omega
    refine ⟨_,rfl,?_⟩
    refine ⟨_,op_ldo rfl rfl rfl rfl,?_⟩
    iterate 2 refine ⟨_,rfl,?_⟩
    refine ⟨_,op_ldo rfl rfl rfl rfl,?_⟩
    refine ⟨_,rfl,?_⟩
    rintro (_|_) h39
    ·replace h39 : ¬ (((u8.l ++ [u30]).length : Int) > u8.cap) := of_decide_eq_false h39
     refine AW.cutM (4) s32 [(4,vL 4 0 (2)),(5,vB false),(6,vL 6 0 (3)),(39,vB false)] [(4,2,[vI 0,vI 0,.slice none 0 0]),(6,3,[vI u8.cap,vI u8.frm,vS q32 (u8.l ++ [u30]).length])] ⟨rfl,rfl,rfl,rfl,trivial⟩ ⟨rfl,rfl,trivial⟩ rfl fun ρ0 ff => ?_
     have hwx : (LV.mk u8.cap u8.frm q32 (u8.l ++ [u30])).x = ⟨g.x.cap,g.x.frm,g.x.list ++ [d.x]⟩ := by simp only [LV.x,hmx,hx8.1,hx8.2.1]
     refine cxs ?_
     refine ⟨_,op_ldo rfl rfl rfl rfl,?_⟩
     refine ⟨_,op_sto rfl rfl rfl rfl rfl rfl rfl,?_⟩
     refine cxs ?_
     have hc : ¬ (g.x.list.length : Int) + 1 > g.x.cap := by rw [hgl]; show ¬ (g.l.length : Int) + 1 > g.cap; omega
     exact ⟨.inl rfl,_,rfl,⟨u8.cap,u8.frm,q32,u8.l ++ [u30]⟩,true,rfl,by rw [hwx,addL,if_pos ⟨h10,h14,hlt⟩,if_neg hc],hO4,hN4,hP4⟩
    ·replace h39 : ((u8.l ++ [u30]).length : Int) > u8.cap := of_decide_eq_true h39
     refine AW.cutM (4) s32 [(4,vL 4 0 (2)),(5,vB false),(6,vL 6 0 (3)),(39,vB true)] [(4,2,[vI 0,vI 0,.slice none 0 0]),(6,3,[vI u8.cap,vI u8.frm,vS q32 (u8.l ++ [u30]).length])] ⟨rfl,rfl,rfl,rfl,trivial⟩ ⟨rfl,rfl,trivial⟩ rfl fun ρ0 ff => ?_
     refine op_nilK (z := 2) (f := cSV) rfl rfl rfl rfl (by decide) rfl ?_
     intro q40 s40 hO40 hP40 hN40
     refine ⟨_,rfl,?_⟩
     refine ⟨_,op_ldo rfl rfl rfl rfl,?_⟩
     refine ⟨_,op_drop (u8.l ++ [u30]) 1 rfl rfl rfl rfl rfl rfl (by omega) (by omega),?_⟩
     refine op_cat' (z := 2) (st := s40) (f := cSV) (b := 48) (l := []) (l2 := List.drop 1 (u8.l ++ [u30])) rfl rfl rfl rfl rfl rfl rfl (by decide) len_cSV rfl rfl rfl rfl (by first | omega | (simp only [List.length_nil]; omega)) (by unfold maxLen; first | omega | (simp only [List.length_nil]; omega)) hO40 ((hP40.rows (hO4.rdL.1)).sh _) ?_
     intro q44 s44 hO44 hPr44 hN44
     refine ⟨_,rfl,?_⟩
     refine ⟨_,op_sto rfl rfl rfl rfl rfl rfl rfl,?_⟩
     refine AW.cutM (4) s44 [(4,vL 4 0 (2)),(5,vB false),(6,vL 6 0 (3))] [(4,2,[vI 0,vI 0,.slice none 0 0]),(6,3,[vI u8.cap,vI u8.frm,vS q44 (List.drop 1 (u8.l ++ [u30])).length])] ⟨rfl,rfl,rfl,trivial⟩ ⟨rfl,rfl,trivial⟩ rfl fun ρ0 ff => ?_
     have ⟨hP9,hN9⟩ := copy_facts hP40 hN40 hPr44 hN44
     have hO9 := pcL_move hO4 (List.drop_sublist _ _) hP9 hO44 hN9
     have hN8 := newL_move hN4 (List.drop_sublist 1 _) (hN9.le hP4.1)
     have hP5 := hP4.trans hP9
     have hwx : (LV.mk u8.cap (u8.frm + 1) q44 (List.drop 1 (u8.l ++ [u30]))).x = ⟨g.x.cap,g.x.frm + 1,(g.x.list ++ [d.x]).drop 1⟩ := by simp only [LV.x,List.map_drop,hmx,hx8.1,hx8.2.1]
     refine ⟨_,rfl,?_⟩
     refine ⟨_,op_ldo rfl rfl rfl rfl,?_⟩
     have ew48 : IntKind.wrap .i64 (u8.frm + (1)) = u8.frm + (1) := wrap_i64 (by omega) (by omega)
     iterate 2 refine ⟨_,rfl,?_⟩
     refine ⟨_,op_sto rfl rfl rfl rfl rfl rfl rfl,?_⟩
     refine AW.cutM (4) s44 [(4,vL 4 0 (2)),(5,vB false),(6,vL 6 0 (3))] [(4,2,[vI 0,vI 0,.slice none 0 0]),(6,3,[vI u8.cap,vI (u8.frm + (1)),vS q44 (List.drop 1 (u8.l ++ [u30])).length])] ⟨rfl,rfl,rfl,trivial⟩ ⟨rfl,(show some (3,[vI u8.cap,vI (IntKind.wrap .i64 (u8.frm + (1))),vS q44 (List.drop 1 (u8.l ++ [u30])).length]) = some (3,[vI u8.cap,vI (u8.frm + (1)),vS q44 (List.drop 1 (u8.l ++ [u30])).length]) by rw [ew48]),trivial⟩ rfl fun ρ0 ff => ?_
     refine ⟨_,op_ldo rfl rfl rfl rfl,?_⟩
     refine ⟨_,op_sto rfl rfl rfl rfl rfl rfl rfl,?_⟩
     refine cxs ?_
     have hc : (g.x.list.length : Int) + 1 > g.x.cap := by rw [hgl]; show (g.l.length : Int) + 1 > g.cap; omega
     exact ⟨.inl rfl,_,rfl,⟨u8.cap,u8.frm + 1,q44,List.drop 1 (u8.l ++ [u30])⟩,true,rfl,by rw [hwx,addL,if_pos ⟨h10,h14,hlt⟩,if_pos hc],hO9,hN8,hP5⟩
   ·replace h24 : (IntKind.wrap .i64 (g.frm + (g.l.length : Int))) = (100000) := beq_iff_eq.1 h24
    rw [ew23] at h24
    refine ⟨_,rfl,?_⟩
    refine AW.cutM (4) s8 [(3,vL 3 0 (1)),(4,vL 4 0 (2)),(5,vB false),(6,vL 6 0 (3)),(25,vB true)] [(3,1,[vS d.p d.x.items.length,vS d.q d.x.floors.length]),(4,2,[vI 0,vI 0,.slice none 0 0]),(6,3,[vI u8.cap,vI u8.frm,vS u8.p u8.l.length])] ⟨rfl,rfl,rfl,rfl,rfl,trivial⟩ ⟨rfl,rfl,rfl,trivial⟩ rfl fun ρ0 ff => ?_
    refine ⟨_,op_ldo rfl rfl rfl rfl,?_⟩
    refine ⟨_,op_sto rfl rfl rfl rfl rfl rfl rfl,?_⟩
    refine cxs ?_
    exact ⟨.inl rfl,_,rfl,u8,false,rfl,by rw [addL,if_neg (fun h => by have h2 := h.2.2; rw [hgl] at h2; have h3 : g.frm + (g.l.length : Int) < 100000 := h2; omega)]; exact congrArg (·,false) h8,hO8,hN8,hP8⟩
structure smL (n : Nat) (g : Lg) : Prop where
 l : g.list.length ≤ n
 s : ∀ x ∈ g.list,smS 6 x
 f : -1 ≤ g.frm ∧ g.frm ≤ 9223372036854775807
theorem smL.big {n : Nat} {g : LV} (h : smL n g.x) (hn : n ≤ 1000) : bigL g.l := ⟨by have := h.l; simp only [List.length_map] at this; unfold szOk; omega,fun s hs => (h.s _ (List.mem_map_of_mem hs)).big (by decide)⟩
theorem smL.add {n : Nat} {g : Lg} {d : Sta} (h : smL n g) (hd : smS 6 d) : smL (n + 1) (addL g d).1 := by
 unfold addL
 split
 ·rename_i hk
  have h3 : 0 ≤ g.frm ∧ g.frm ≤ 100000 := hk.1.2.2.1
  have hs : ∀ x ∈ g.list ++ [d],smS 6 x := fun x hx => by
   rcases List.mem_append.1 hx with hx | hx
   ·exact h.s x hx
   ·rw [List.mem_singleton.1 hx]; exact hd
  have hl : (g.list ++ [d]).length ≤ n + 1 := by rw [List.length_append]; exact Nat.succ_le_succ h.l
  split
  ·exact ⟨by show ((g.list ++ [d]).drop 1).length ≤ n + 1; rw [List.length_drop]; omega,fun x hx => hs x (List.mem_of_mem_drop hx),by show -1 ≤ g.frm + 1 ∧ _; simp only; omega⟩
  ·exact ⟨hl,hs,h.f⟩
 ·exact ⟨Nat.le_succ_of_le h.l,h.s,h.f⟩
theorem smL.of {n : Nat} {g x : Lg} {d : Sta} {b : Bool} (he : (x,b) = addL g d) (h : smL n g) (hd : smS 6 d) : smL (n + 1) x := by
 have := h.add hd
 rw [← he] at this
 exact this
theorem Frs.nilL {a : St} : Frs a a (pcL none []) := ⟨pcL_nil,newL_nil,Pres.refl _⟩
theorem ac_d_l7Right {p : Option Addr} {bs : List Int} (c : Nat) (st : St) (hc : Cur st c p bs) (hs : bs.length < 1099511627776) : C 156 [vP c 0] st (fun v s => ∃ u : LV,v = .agg #[vI u.cap,vI u.frm,vS u.p u.l.length] ∧ smL 5 u.x ∧ FrC c st s (pcL u.p u.l) ∧ Cur s c p bs) := by
 refine AC.enterX (i := ⟨[2,3,6],[2,3,6],[0,2,3,4,5,6,19],[]⟩) [] Try.func156 rfl rfl (by kernel_rfl) (by kernel_rfl) Try.ntmps156 (Nat.le_of_ble_eq_true rfl) rfl ?_
 refine ⟨_,rfl,?_⟩
 refine AW.cutM (1) st [(0,vP c 0),(2,vL 2 0 (0))] [(2,0,[vI 0,vI 0,.slice none 0 0])] ⟨rfl,rfl,trivial⟩ ⟨rfl,trivial⟩ rfl fun ρ0 ff => ?_
 refine op_litI (k := .i64) (l := [1,2,4,8]) rfl rfl rfl rfl rfl rfl (Nat.le_of_ble_eq_true rfl) ?_
 intro q9 s9 hO9 hP9 hN9
 refine ⟨_,rfl,(ac_d_l1PickInt c q9 ([1,2,4,8]) s9 (hc.pres hP9) (by first | assumption | omega) (by first | assumption | omega | decide) (by first | assumption | omega) (by first | assumption | exact NC.new (by assumption) (Cur.lt (by assumption)))).mono ?_⟩
 rintro _ s10 ⟨r10,rfl,h10,hC10,hL10⟩
 refine op_litI (k := .i64) (l := [0,0,5,99990]) rfl rfl rfl rfl rfl rfl (Nat.le_of_ble_eq_true rfl) ?_
 intro q12 s12 hO12 hP12 hN12
 refine ⟨_,rfl,(ac_d_l1PickInt c q12 ([0,0,5,99990]) s12 (hC10.pres hP12) (by first | assumption | omega) (by first | assumption | omega | decide) (by first | assumption | omega) (by first | assumption | exact NC.new (by assumption) (Cur.lt (by assumption)))).mono ?_⟩
 rintro _ s13 ⟨r13,rfl,h13,hC13,hL13⟩
 iterate 2 refine ⟨_,rfl,?_⟩
 refine ⟨_,op_sto rfl rfl rfl rfl rfl rfl rfl,?_⟩
 refine AW.cutM (2) s13 [(0,vP c 0),(2,vL 2 0 (0)),(3,vL 3 0 (1))] [(2,0,[vI 0,vI 0,.slice none 0 0]),(3,1,[vI r10,vI r13,.slice none 0 0])] ⟨rfl,rfl,rfl,trivial⟩ ⟨rfl,rfl,trivial⟩ rfl fun ρ0 ff => ?_
 have hf13 : -1 ≤ r13 ∧ r13 ≤ 9223372036854775807 := by simp only [List.mem_cons,List.not_mem_nil,or_false] at h13; omega
 have hP13 : PresC c st s13 := ((hP9.c.trans hL10).trans hP12.c).trans hL13
 refine ⟨_,rfl,(ac_d_l1Below c 6 s13 hC13 (by first | assumption | omega)).mono ?_⟩
 rintro _ s16 ⟨r16,rfl,h16,h16',h16'',hC16,hL16⟩
 refine cxs ?_
 have hP16 : PresC c st s16 := hP13.trans hL16
 refine AW.cutM (2) s16 [(0,vP c 0),(2,vL 2 0 (0)),(3,vL 3 0 (1)),(4,vI r16),(5,vI (0))] [(2,0,[vI 0,vI 0,.slice none 0 0]),(3,1,[vI r10,vI r13,.slice none 0 0])] ⟨rfl,rfl,rfl,rfl,rfl,trivial⟩ ⟨rfl,rfl,trivial⟩ rfl fun ρ0 ff => ?_
 refine AW.loopM (fun x : Nat × LV => [(0,vP c 0),(2,vL 2 0 (0)),(3,vL 3 0 (1)),(4,vI r16),(5,vI (x.1 : Int))]) (fun x : Nat × LV => [(2,0,[vI 0,vI 0,.slice none 0 0]),(3,1,[vI x.2.cap,vI x.2.frm,vS x.2.p x.2.l.length])]) (fun m (x : Nat × LV) st' => m = r16.toNat - x.1 ∧ (x.1 : Int) ≤ r16 ∧ smL x.1 x.2.x ∧ FrC c st st' (pcL x.2.p x.2.l) ∧ Cur st' c p bs) (0,⟨r10,r13,none,[]⟩) _ ⟨rfl,rfl,rfl,rfl,rfl,trivial⟩ ⟨rfl,rfl,trivial⟩ ⟨rfl,h16,⟨Nat.le_refl _,fun x hx => (nomatch hx),hf13⟩,(Frs.nilL.toC hC16.lt).sooner hP16 hc.lt,hC16⟩ ?_
 rintro m ⟨i,u⟩ ρ0 ff gg st' ⟨rfl,hi,hk,hF,hC⟩
 simp only at hi hk hF
 refine ⟨_,rfl,?_⟩
 rintro (_|_) h19
 ·replace h19 : ¬ ((i : Int) < r16) := of_decide_eq_false h19
  refine AW.cutM (gg) st' [(0,vP c 0),(2,vL 2 0 (0)),(3,vL 3 0 (1)),(4,vI r16),(5,vI (i : Int)),(19,vB false)] [(2,0,[vI 0,vI 0,.slice none 0 0]),(3,1,[vI u.cap,vI u.frm,vS u.p u.l.length])] ⟨rfl,rfl,rfl,rfl,rfl,rfl,trivial⟩ ⟨rfl,rfl,trivial⟩ rfl fun ρ0 ff => ?_
  refine cxs ?_
  refine ⟨_,op_ldo rfl rfl rfl rfl,?_⟩
  refine ⟨_,op_sto rfl rfl rfl rfl rfl rfl rfl,?_⟩
  refine cxs ?_
  exact ⟨.inl rfl,_,rfl,u,rfl,⟨by have := hk.l; omega,hk.s,hk.f⟩,hF,hC⟩
 ·replace h19 : (i : Int) < r16 := of_decide_eq_true h19
  refine AW.cutM (gg) st' [(0,vP c 0),(2,vL 2 0 (0)),(3,vL 3 0 (1)),(4,vI r16),(5,vI (i : Int)),(19,vB true)] [(2,0,[vI 0,vI 0,.slice none 0 0]),(3,1,[vI u.cap,vI u.frm,vS u.p u.l.length])] ⟨rfl,rfl,rfl,rfl,rfl,rfl,trivial⟩ ⟨rfl,rfl,trivial⟩ rfl fun ρ0 ff => ?_
  refine cxs ?_
  refine ⟨_,rfl,(ac_d_l1Below c 5 st' hC (by first | assumption | omega)).mono ?_⟩
  rintro _ s24 ⟨r24,rfl,h24,h24',h24'',hC24,hL24⟩
  refine ⟨_,rfl,(ac_d_l2Right c s24 hC24 (by first | assumption | omega)).mono ?_⟩
  rintro _ s26 ⟨e26,rfl,h26,hC26,hL26⟩
  refine ⟨_,rfl,(ac_spec_Single r24 e26 s26 (Nat.le_trans h26.2.2.2.2 (by decide))).mono ?_⟩
  rintro _ s27 ⟨u27,b27,rfl,h27,hO27,hN27,hP27⟩
  iterate 3 refine ⟨_,rfl,?_⟩
  refine ⟨_,op_sto rfl rfl rfl rfl rfl rfl rfl,?_⟩
  refine AW.cutM (gg + 1) s27 [(0,vP c 0),(2,vL 2 0 (0)),(3,vL 3 0 (1)),(4,vI r16),(5,vI (i : Int)),(6,vL 6 0 (gg)),(19,vB true)] [(2,0,[vI 0,vI 0,.slice none 0 0]),(3,1,[vI u.cap,vI u.frm,vS u.p u.l.length]),(6,gg,[vS u27.p u27.x.items.length,vS u27.q u27.x.floors.length])] ⟨rfl,rfl,rfl,rfl,rfl,rfl,rfl,trivial⟩ ⟨rfl,rfl,rfl,trivial⟩ rfl fun ρ0 ff => ?_
  have hF26 := (hF.later hL24).later hL26
  have hF27 : FrC c st s27 (pcS u27) := (Frs.toC ⟨hO27,hN27,hP27⟩ hF26.lt).sooner hF26.2.2.1 hc.lt
  have hR27 : RdL s27 u.p u.l := (hF26.step hP27).1.rdL
  have hC27 := hC26.pres hP27
  have hsm27 : smS 6 u27.x := (sm_ok (sing_ok h27)).le (by decide)
  have hbg : bigL u.l := hk.big (by omega)
  refine ⟨_,op_ldo rfl rfl rfl rfl,?_⟩
  refine ⟨_,op_ldo rfl rfl rfl rfl,?_⟩
  refine ⟨_,rfl,(ad_spec_LogAdd u u27 s27 hR27 hF27.1.rdS hbg (hsm27.big (by decide))).mono ?_⟩
  rintro _ s33 ⟨u33,b33,rfl,h33,hF33⟩
  iterate 2 refine ⟨_,rfl,?_⟩
  refine ⟨_,op_sto rfl rfl rfl rfl rfl rfl rfl,?_⟩
  refine AW.cutM (gg + 1) s33 [(0,vP c 0),(2,vL 2 0 (0)),(3,vL 3 0 (1)),(4,vI r16),(5,vI (i : Int)),(6,vL 6 0 (gg)),(19,vB true)] [(2,0,[vI 0,vI 0,.slice none 0 0]),(3,1,[vI u33.cap,vI u33.frm,vS u33.p u33.l.length]),(6,gg,[vS u27.p u27.x.items.length,vS u27.q u27.x.floors.length])] ⟨rfl,rfl,rfl,rfl,rfl,rfl,rfl,trivial⟩ ⟨rfl,rfl,rfl,trivial⟩ rfl fun ρ0 ff => ?_
  have ew21 : IntKind.wrap .i64 ((i : Int) + (1)) = ((i + 1 : Nat) : Int) := (wrap_i64 (by omega) (by omega)).trans (by omega)
  refine ⟨_,rfl,?_⟩
  exact ⟨(i + 1,u33),r16.toNat - (i + 1),by omega,⟨rfl,rfl,rfl,rfl,congrArg (Value.int .i64) ew21,trivial⟩,⟨rfl,rfl,trivial⟩,rfl,by simp only; omega,hk.of h33 hsm27,(hF33.toC hF27.lt).sooner hF27.2.2.1 hc.lt,hC27.pres hF33.2.2⟩
theorem FrC.snocL {c : Nat} {a b s1 s2 : St} {u : LV} {w : SV} {q : Option Addr} (h : FrC c a b (pcL u.p u.l)) (hw : FrC c b s1 (pcS w)) (hP : Pr u.p s1 s2) (ho : OwnR s2 2 cSV q (u.l ++ [w])) (hn : New s1.next q) : FrC c a s2 (pcL q (u.l ++ [w])) ∧ PresC c a s2 :=
 have h1 := h.join hw
 have hP2 := PresC.thenNew h1.2.2.1 hP (newL_p h.2.1)
 ⟨⟨by
  have h2 : OwnP s2 (pcR 2 cSV q (u.l ++ [w]) :: (u.l.flatMap pcS ++ pcS w)) := OwnP.renew (l := []) h1.1 hP (own_pc ho) hn
  show OwnP s2 (pcR 2 cSV q (u.l ++ [w]) :: (u.l ++ [w]).flatMap pcS)
  rw [List.flatMap_append,List.flatMap_singleton]
  exact h2,newL_snoc h.2.1 (hw.2.1.le h.2.2.1.1) (hn.le h1.2.2.1.1),hP2,h.2.2.2⟩,hP2⟩
theorem ac_d_l7Draw {p : Option Addr} {bs : List Int} (c : Nat) (st : St) (hc : Cur st c p bs) (hs : bs.length < 1099511627776) : C 84 [vP c 0] st (fun v s => ∃ u : LV,v = .agg #[vI u.cap,vI u.frm,vS u.p u.l.length] ∧ smL 6 u.x ∧ FrC c st s (pcL u.p u.l) ∧ Cur s c p bs) := by
 refine AC.enterX (i := ⟨[2,3],[2,3,13,19,22,28],[0,2,3,7,8,14,20],[]⟩) [(2008,[],[1]),(8,[3,4],[1])] Try.func84 rfl rfl (by kernel_rfl) (by kernel_rfl) Try.ntmps84 (Nat.le_of_ble_eq_true rfl) rfl ?_
 refine ⟨_,rfl,?_⟩
 refine AW.cutM (1) st [(0,vP c 0),(2,vL 2 0 (0))] [(2,0,[vI 0,vI 0,.slice none 0 0])] ⟨rfl,rfl,trivial⟩ ⟨rfl,trivial⟩ rfl fun ρ0 ff => ?_
 refine ⟨_,rfl,(ac_d_l7Right c st hc (by first | assumption | omega)).mono ?_⟩
 rintro _ s5 ⟨u5,rfl,h5,hF5,hC5⟩
 refine ⟨_,rfl,?_⟩
 refine ⟨_,op_sto rfl rfl rfl rfl rfl rfl rfl,?_⟩
 refine AW.cutM (2) s5 [(0,vP c 0),(2,vL 2 0 (0)),(3,vL 3 0 (1))] [(2,0,[vI 0,vI 0,.slice none 0 0]),(3,1,[vI u5.cap,vI u5.frm,vS u5.p u5.l.length])] ⟨rfl,rfl,rfl,trivial⟩ ⟨rfl,rfl,trivial⟩ rfl fun ρ0 ff => ?_
 refine ⟨_,rfl,(ac_d_l1Below c 12 s5 hC5 (by first | assumption | omega)).mono ?_⟩
 rintro _ s7 ⟨r7,rfl,h7,h7',h7'',hC7,hL7⟩
 refine AW.cutM (2) s7 [(0,vP c 0),(2,vL 2 0 (0)),(3,vL 3 0 (1)),(7,vI r7)] [(2,0,[vI 0,vI 0,.slice none 0 0]),(3,1,[vI u5.cap,vI u5.frm,vS u5.p u5.l.length])] ⟨rfl,rfl,rfl,rfl,trivial⟩ ⟨rfl,rfl,trivial⟩ rfl fun ρ0 ff => ?_
 have hF7 := hF5.later hL7
 have hll : u5.l.length ≤ 5 := by have := h5.l; simp only [List.length_map] at this; exact this
 refine ⟨_,rfl,?_⟩
 rintro (_|_) h9
 ·replace h9 : ¬ (r7 = (0)) := beq_eq_false_iff_ne.1 h9
  refine AW.cutM (2) s7 [(0,vP c 0),(2,vL 2 0 (0)),(3,vL 3 0 (1)),(7,vI r7),(8,vB false)] [(2,0,[vI 0,vI 0,.slice none 0 0]),(3,1,[vI u5.cap,vI u5.frm,vS u5.p u5.l.length])] ⟨rfl,rfl,rfl,rfl,rfl,trivial⟩ ⟨rfl,rfl,trivial⟩ rfl fun ρ0 ff => ?_
  refine ⟨_,rfl,?_⟩
  rintro (_|_) h15
  ·replace h15 : ¬ (r7 = (1)) := beq_eq_false_iff_ne.1 h15
   refine AW.cutM (2) s7 [(0,vP c 0),(2,vL 2 0 (0)),(3,vL 3 0 (1)),(7,vI r7),(14,vB false)] [(2,0,[vI 0,vI 0,.slice none 0 0]),(3,1,[vI u5.cap,vI u5.frm,vS u5.p u5.l.length])] ⟨rfl,rfl,rfl,rfl,rfl,trivial⟩ ⟨rfl,rfl,trivial⟩ rfl fun ρ0 ff => ?_
   refine ⟨_,rfl,?_⟩
   rintro (_|_) h21
   ·replace h21 : ¬ (r7 = (2)) := beq_eq_false_iff_ne.1 h21
    refine AW.cutM (2) s7 [(0,vP c 0),(2,vL 2 0 (0)),(3,vL 3 0 (1)),(20,vB false)] [(2,0,[vI 0,vI 0,.slice none 0 0]),(3,1,[vI u5.cap,vI u5.frm,vS u5.p u5.l.length])] ⟨rfl,rfl,rfl,rfl,trivial⟩ ⟨rfl,rfl,trivial⟩ rfl fun ρ0 ff => ?_
    refine cxs ?_
    refine ⟨_,op_ldo rfl rfl rfl rfl,?_⟩
    refine ⟨_,op_sto rfl rfl rfl rfl rfl rfl rfl,?_⟩
    refine cxs ?_
    exact ⟨.inl rfl,_,rfl,u5,rfl,⟨Nat.le_succ_of_le h5.l,h5.s,h5.f⟩,hF7,hC7⟩
   ·replace h21 : r7 = (2) := beq_iff_eq.1 h21
    refine AW.cutM (2) s7 [(0,vP c 0),(2,vL 2 0 (0)),(3,vL 3 0 (1)),(20,vB true)] [(2,0,[vI 0,vI 0,.slice none 0 0]),(3,1,[vI u5.cap,vI u5.frm,vS u5.p u5.l.length])] ⟨rfl,rfl,rfl,rfl,trivial⟩ ⟨rfl,rfl,trivial⟩ rfl fun ρ0 ff => ?_
    refine ⟨fun _ => False,?_⟩
    refine ⟨_,rfl,?_⟩
    refine ⟨_,op_ldo rfl rfl rfl rfl,?_⟩
    refine ⟨ld_own rfl rfl rfl,?_⟩
    refine ⟨_,rfl,(ac_d_l3Draw c s7 hC7 (by first | assumption | omega)).mono ?_⟩
    rintro _ s25 ⟨u25,rfl,h25,hF25,hC25⟩
    refine ⟨fun _ h => h.elim,?_⟩
    refine op_one (z := 2) (a := (u25 : SV)) (f := cSV) rfl rfl rfl rfl rfl (by decide) rfl (Nat.le_of_ble_eq_true rfl) rfl rfl rfl ?_
    refine ⟨fun _ h => h.elim,?_⟩
    have hO25 : OwnR s25 2 cSV u5.p u5.l := (hF7.join hF25).left.1.louter
    refine op_snoc (z := 2) (st := s25) (f := cSV) (b := 48) (l := u5.l) (x := u25) rfl rfl rfl rfl rfl rfl rfl (by decide) len_cSV rfl rfl rfl (by omega) (by unfold maxLen; omega) hO25 ?_
    intro q27 s27 hO27 hP27 hN27
    refine ⟨_,rfl,?_⟩
    refine ⟨_,op_sto rfl rfl rfl rfl rfl rfl rfl,?_⟩
    refine AW.cutM (2) s27 [(2,vL 2 0 (0)),(3,vL 3 0 (1))] [(2,0,[vI 0,vI 0,.slice none 0 0]),(3,1,[vI u5.cap,vI u5.frm,vS q27 (u5.l ++ [u25]).length])] ⟨rfl,rfl,trivial⟩ ⟨rfl,rfl,trivial⟩ rfl fun ρ0 ff => ?_
    refine ⟨_,op_ldo rfl rfl rfl rfl,?_⟩
    refine ⟨_,op_sto rfl rfl rfl rfl rfl rfl rfl,?_⟩
    refine cxs ?_
    have hF27 := hF7.snocL hF25 hP27 hO27 hN27
    exact ⟨.inl rfl,_,rfl,⟨u5.cap,u5.frm,q27,u5.l ++ [u25]⟩,rfl,⟨by simp only [List.length_map,List.length_append,List.length_singleton]; omega,fun x hx => by
     simp only [List.map_append,List.mem_append,List.map_cons,List.map_nil,List.mem_singleton] at hx
     rcases hx with hx | rfl
     ·exact h5.s x hx
     ·exact h25,h5.f⟩,hF27.1,hC25.thenNew hc (hF7.2.2.1.trans hF25.2.2.1) hP27 (newL_p hF7.2.1)⟩
  ·replace h15 : r7 = (1) := beq_iff_eq.1 h15
   refine AW.cutM (2) s7 [(0,vP c 0),(2,vL 2 0 (0)),(3,vL 3 0 (1)),(7,vI r7),(14,vB true)] [(2,0,[vI 0,vI 0,.slice none 0 0]),(3,1,[vI u5.cap,vI u5.frm,vS u5.p u5.l.length])] ⟨rfl,rfl,rfl,rfl,rfl,trivial⟩ ⟨rfl,rfl,trivial⟩ rfl fun ρ0 ff => ?_
   refine op_litI (k := .i64) (l := [-1,100000,9223372036854775807]) rfl rfl rfl rfl rfl rfl (Nat.le_of_ble_eq_true rfl) ?_
   intro q17 s17 hO17 hP17 hN17
   refine ⟨_,rfl,(ac_d_l1PickInt c q17 ([-1,100000,9223372036854775807]) s17 (hC7.pres hP17) (by first | assumption | omega) (by first | assumption | omega | decide) (by first | assumption | omega) (by first | assumption | exact NC.new (by assumption) (Cur.lt (by assumption)))).mono ?_⟩
   rintro _ s18 ⟨r18,rfl,h18,hC18,hL18⟩
   refine ⟨_,rfl,?_⟩
   refine ⟨_,op_sto rfl rfl rfl rfl rfl rfl rfl,?_⟩
   refine AW.cutM (2) s18 [(2,vL 2 0 (0)),(3,vL 3 0 (1))] [(2,0,[vI 0,vI 0,.slice none 0 0]),(3,1,[vI u5.cap,vI r18,vS u5.p u5.l.length])] ⟨rfl,rfl,trivial⟩ ⟨rfl,rfl,trivial⟩ rfl fun ρ0 ff => ?_
   refine ⟨_,op_ldo rfl rfl rfl rfl,?_⟩
   refine ⟨_,op_sto rfl rfl rfl rfl rfl rfl rfl,?_⟩
   refine cxs ?_
   exact ⟨.inl rfl,_,rfl,⟨u5.cap,r18,u5.p,u5.l⟩,rfl,⟨Nat.le_succ_of_le h5.l,h5.s,by show -1 ≤ r18 ∧ r18 ≤ 9223372036854775807; simp only [List.mem_cons,List.not_mem_nil,or_false] at h18; omega⟩,(hF7.step hP17).later hL18,hC18⟩
 ·replace h9 : r7 = (0) := beq_iff_eq.1 h9
  refine AW.cutM (2) s7 [(0,vP c 0),(2,vL 2 0 (0)),(3,vL 3 0 (1)),(7,vI r7),(8,vB true)] [(2,0,[vI 0,vI 0,.slice none 0 0]),(3,1,[vI u5.cap,vI u5.frm,vS u5.p u5.l.length])] ⟨rfl,rfl,rfl,rfl,rfl,trivial⟩ ⟨rfl,rfl,trivial⟩ rfl fun ρ0 ff => ?_
  refine op_litI (k := .i64) (l := [0,9,1]) rfl rfl rfl rfl rfl rfl (Nat.le_of_ble_eq_true rfl) ?_
  intro q11 s11 hO11 hP11 hN11
  refine ⟨_,rfl,(ac_d_l1PickInt c q11 ([0,9,1]) s11 (hC7.pres hP11) (by first | assumption | omega) (by first | assumption | omega | decide) (by first | assumption | omega) (by first | assumption | exact NC.new (by assumption) (Cur.lt (by assumption)))).mono ?_⟩
  rintro _ s12 ⟨r12,rfl,h12,hC12,hL12⟩
  refine ⟨_,rfl,?_⟩
  refine ⟨_,op_sto rfl rfl rfl rfl rfl rfl rfl,?_⟩
  refine AW.cutM (2) s12 [(2,vL 2 0 (0)),(3,vL 3 0 (1))] [(2,0,[vI 0,vI 0,.slice none 0 0]),(3,1,[vI r12,vI u5.frm,vS u5.p u5.l.length])] ⟨rfl,rfl,trivial⟩ ⟨rfl,rfl,trivial⟩ rfl fun ρ0 ff => ?_
  refine ⟨_,op_ldo rfl rfl rfl rfl,?_⟩
  refine ⟨_,op_sto rfl rfl rfl rfl rfl rfl rfl,?_⟩
  refine cxs ?_
  exact ⟨.inl rfl,_,rfl,⟨r12,u5.frm,u5.p,u5.l⟩,rfl,⟨Nat.le_succ_of_le h5.l,h5.s,h5.f⟩,(hF7.step hP11).later hL12,hC12⟩
theorem ac_spec_l1In0 (a : Int) (st : St) : C 158 [vI a] st (fun v s => v = vI (min a 1000000) ∧ s = st) := by
 refine AC.enterX (i := ⟨[],[],[0,2],[]⟩) [] Try.func158 rfl rfl (by kernel_rfl) (by kernel_rfl) Try.ntmps158 (Nat.le_of_ble_eq_true rfl) rfl ?_
 refine AW.cut lo0 st [(0,vI a),(2,vI (0))] ⟨rfl,rfl,trivial⟩ fun ρ0 => ?_
 refine ⟨_,rfl,(ac_spec_l1Min a 1000000 st).mono ?_⟩
 rintro _ st ⟨rfl,rfl⟩
 refine cxs ?_
 exact ⟨.inl rfl,_,rfl,rfl,rfl⟩
theorem ac_spec_l7Two (p : Option Addr) (bs : List Int) (st : St) (hI : Ints st .u8 p bs) (hs : bs.length < 1099511627776) : C 93 [vS p bs.length] st (fun v s => ∃ (u : LV) (n : Int),v = .tuple #[.agg #[vI u.cap,vI u.frm,vS u.p u.l.length],vI n] ∧ smL 6 u.x ∧ Frs st s (pcL u.p u.l)) := by
 refine AC.enterX (i := ⟨[2,5],[2,5,17,21],[0,2,3,4,5,11],[]⟩) [(2004,[],[1]),(2005,[],[1]),(4,[2,3],[0]),(5,[3,9],[0,6])] Try.func93 rfl rfl (by kernel_rfl) (by kernel_rfl) Try.ntmps93 (Nat.le_of_ble_eq_true rfl) rfl ?_
 refine ⟨_,rfl,?_⟩
 refine AW.cutM (1) st [(0,vS p bs.length),(2,vL 2 0 (0)),(3,vI (0))] [(2,0,[vI 0,vI 0,.slice none 0 0])] ⟨rfl,rfl,rfl,trivial⟩ ⟨rfl,trivial⟩ rfl fun ρ0 ff => ?_
 refine ⟨_,rfl,(ac_spec_l1New p bs st hI (by first | assumption | omega)).mono ?_⟩
 rintro _ s7 ⟨rfl,hC7,hP7,h7⟩
 refine AW.cutM (1) s7 [(2,vL 2 0 (0)),(3,vI (0)),(4,vP st.next 0)] [(2,0,[vI 0,vI 0,.slice none 0 0])] ⟨rfl,rfl,rfl,trivial⟩ ⟨rfl,trivial⟩ rfl fun ρ0 ff => ?_
 refine ⟨_,rfl,(ac_d_l7Draw st.next s7 hC7 (by first | assumption | omega)).mono ?_⟩
 rintro _ s9 ⟨u9,rfl,h9,hF9,hC9⟩
 refine ⟨_,rfl,?_⟩
 refine ⟨_,op_sto rfl rfl rfl rfl rfl rfl rfl,?_⟩
 refine AW.cutM (2) s9 [(2,vL 2 0 (0)),(3,vI (0)),(4,vP st.next 0),(5,vL 5 0 (1))] [(2,0,[vI 0,vI 0,.slice none 0 0]),(5,1,[vI u9.cap,vI u9.frm,vS u9.p u9.l.length])] ⟨rfl,rfl,rfl,rfl,trivial⟩ ⟨rfl,rfl,trivial⟩ rfl fun ρ0 ff => ?_
 refine ⟨_,rfl,(ac_d_l1Once st.next 8 s9 hC9 (by first | assumption | omega)).mono ?_⟩
 rintro _ s11 ⟨b11,rfl,hC11,hL11⟩
 rcases b11 with _|_
 ·refine AW.cutM (2) s11 [(2,vL 2 0 (0)),(3,vI (0)),(4,vP st.next 0),(5,vL 5 0 (1)),(11,vB false)] [(2,0,[vI 0,vI 0,.slice none 0 0]),(5,1,[vI u9.cap,vI u9.frm,vS u9.p u9.l.length])] ⟨rfl,rfl,rfl,rfl,rfl,trivial⟩ ⟨rfl,rfl,trivial⟩ rfl fun ρ0 ff => ?_
  refine cxs ?_
  refine ⟨fun _ => False,?_⟩
  refine ⟨_,op_ldo rfl rfl rfl rfl,?_⟩
  refine ⟨ld_own rfl rfl rfl,?_⟩
  refine ⟨_,rfl,?_⟩
  refine ⟨_,op_ldo rfl rfl rfl rfl,?_⟩
  refine ⟨_,rfl,(ac_spec_l1In0 u9.frm s11).mono ?_⟩
  rintro _ s11 ⟨rfl,rfl⟩
  refine ⟨fun _ h => h.elim,?_⟩
  refine ⟨_,rfl,?_⟩
  refine ⟨_,op_ldo rfl rfl rfl rfl,?_⟩
  refine ⟨ld_own rfl rfl rfl,?_⟩
  refine ⟨_,rfl,?_⟩
  have hll : u9.l.length ≤ 6 := by have := h9.l; simp only [List.length_map] at this; exact this
  have hff : -1 ≤ u9.frm ∧ u9.frm ≤ 9223372036854775807 := h9.f
  have ew24 : IntKind.wrap .i64 ((u9.l.length : Int) + (3)) = ((u9.l.length + 3 : Nat) : Int) := (wrap_i64 (by omega) (by omega)).trans (by omega)
  refine ⟨_,rfl,?_⟩
  refine ⟨_,rfl,(ac_d_l1Below st.next (IntKind.wrap .i64 ((u9.l.length : Int) + (3))) s11 hC11 (by first | assumption | omega)).mono ?_⟩
  rintro _ s25 ⟨r25,rfl,h25,h25',h25'',hC25,hL25⟩
  refine ⟨fun _ h => h.elim,?_⟩
  rw [ew24] at h25'
  rw [ew24] at h25''
  have ew26 : IntKind.wrap .i64 ((min u9.frm 1000000) + r25) = (min u9.frm 1000000) + r25 := wrap_i64 (by omega) (by omega)
  refine ⟨_,rfl,?_⟩
  have ew27 : IntKind.wrap .i64 ((IntKind.wrap .i64 ((min u9.frm 1000000) + r25)) - (1)) = ((min u9.frm 1000000) + r25) - (1) := by rw [ew26]; exact wrap_i64 (by omega) (by omega)
  refine ⟨_,rfl,?_⟩
  refine ⟨_,op_sto rfl rfl rfl rfl rfl rfl rfl,?_⟩
  refine cxs ?_
  exact ⟨.inl rfl,_,rfl,u9,_,rfl,h9,((hF9.later hL11).later hL25).out hP7⟩
 ·refine AW.cutM (2) s11 [(2,vL 2 0 (0)),(3,vI (0)),(4,vP st.next 0),(5,vL 5 0 (1)),(11,vB true)] [(2,0,[vI 0,vI 0,.slice none 0 0]),(5,1,[vI u9.cap,vI u9.frm,vS u9.p u9.l.length])] ⟨rfl,rfl,rfl,rfl,rfl,trivial⟩ ⟨rfl,rfl,trivial⟩ rfl fun ρ0 ff => ?_
  refine ⟨fun _ => False,?_⟩
  refine ⟨_,op_ldo rfl rfl rfl rfl,?_⟩
  refine ⟨ld_own rfl rfl rfl,?_⟩
  refine op_litI (k := .i64) (l := [-1,9223372036854775807,0]) rfl rfl rfl rfl rfl rfl (Nat.le_of_ble_eq_true rfl) ?_
  intro q14 s14 hO14 hP14 hN14
  refine ⟨fun _ h => h.elim,?_⟩
  refine ⟨_,rfl,(ac_d_l1PickInt st.next q14 ([-1,9223372036854775807,0]) s14 (hC11.pres hP14) (by first | assumption | omega) (by first | assumption | omega | decide) (by first | assumption | omega) (by first | assumption | exact NC.new (by assumption) (Cur.lt (by assumption)))).mono ?_⟩
  rintro _ s15 ⟨r15,rfl,h15,hC15,hL15⟩
  refine ⟨fun _ h => h.elim,?_⟩
  refine ⟨_,op_sto rfl rfl rfl rfl rfl rfl rfl,?_⟩
  refine cxs ?_
  exact ⟨.inl rfl,_,rfl,u9,r15,rfl,h9,(((hF9.later hL11).step hP14).later hL15).out hP7⟩
theorem ac_spec_DrawLogSince (p : Option Addr) (bs : List Int) (st : St) (hI : Ints st .u8 p bs) (hs : bs.length < 1099511627776) : C 35 [vS p bs.length] st (fun v s => ∃ (u : LV) (n : Int),v = .tuple #[.agg #[vI u.cap,vI u.frm,vS u.p u.l.length],vI n] ∧ smL 6 u.x ∧ Frs st s (pcL u.p u.l)) := by
 refine AC.enterX (i := ⟨[2],[2],[0,2,3],[]⟩) [] Try.func35 rfl rfl (by kernel_rfl) (by kernel_rfl) Try.ntmps35 (Nat.le_of_ble_eq_true rfl) rfl ?_
 refine ⟨_,rfl,?_⟩
 refine AW.cutM (1) st [(0,vS p bs.length),(2,vL 2 0 (0)),(3,vI (0))] [(2,0,[vI 0,vI 0,.slice none 0 0])] ⟨rfl,rfl,rfl,trivial⟩ ⟨rfl,trivial⟩ rfl fun ρ0 ff => ?_
 refine ⟨_,rfl,(ac_spec_l7Two p bs st hI (by first | assumption | omega)).mono ?_⟩
 rintro _ s5 ⟨u5,n5,rfl,h5,hF5⟩
 iterate 2 refine ⟨_,rfl,?_⟩
 refine ⟨_,op_sto rfl rfl rfl rfl rfl rfl rfl,?_⟩
 refine cxs ?_
 exact ⟨.inl rfl,_,rfl,u5,n5,rfl,h5,hF5⟩
end Go.Proofs.Yteabadoaeadcgaa.AM
namespace Go.Proofs.Yteabadoaeadcgaa.AM
open Go Go.Proofs
set_option linter.unusedVariables false
set_option linter.unusedSimpArgs false
theorem cb_eq : ∀ {a b : List UInt8},Lib.compareBytes a b = 0 → a = b
 | [],[],_ => rfl
 | [],b :: bs,h => by simp [Lib.compareBytes] at h
 | a :: l,[],h => by simp [Lib.compareBytes] at h
 | a :: l,b :: bs,h => by
  unfold Lib.compareBytes at h
  by_cases h1 : a < b
  ·simp [h1] at h
  ·by_cases h2 : b < a
   ·simp [h1,h2] at h
   ·simp [h1,h2] at h
    rw [UInt8.le_antisymm (UInt8.not_lt.1 h2) (UInt8.not_lt.1 h1),cb_eq h]
theorem cb_trans : ∀ {a b c : List UInt8},Lib.compareBytes a b ≤ 0 → Lib.compareBytes b c ≤ 0 → Lib.compareBytes a c ≤ 0
 | [],b,[],_,_ => by simp [Lib.compareBytes]
 | [],b,c :: cs,_,_ => by simp [Lib.compareBytes]
 | a :: l,[],c,h,_ => by simp [Lib.compareBytes] at h
 | a :: l,b :: bs,[],_,h => by simp [Lib.compareBytes] at h
 | a :: l,b :: bs,c :: cs,h,k => by
  have ih := @cb_trans l bs cs
  unfold Lib.compareBytes at h k ⊢
  by_cases h1 : a < b
  ·by_cases k1 : b < c
   ·simp [UInt8.lt_trans h1 k1]
   ·by_cases k2 : c < b
    ·simp [k1,k2] at k
    ·have he : b = c := UInt8.le_antisymm (UInt8.not_lt.1 k2) (UInt8.not_lt.1 k1)
     subst he
     simp [h1]
  ·by_cases h2 : b < a
   ·simp [h1,h2] at h
   ·have he : a = b := UInt8.le_antisymm (UInt8.not_lt.1 h2) (UInt8.not_lt.1 h1)
    subst he
    by_cases k1 : a < c
    ·simp [k1]
    ·by_cases k2 : c < a
     ·simp [k1,k2] at k
     ·simp [h1] at h
      simp [k1,k2] at k ⊢
      exact ih h k
theorem entCmp_le (a b : Ent) : entCmp a b ≤ 0 ↔ (a.inc < b.inc ∨ (a.inc = b.inc ∧ (a.rank < b.rank ∨ (a.rank = b.rank ∧ (a.beat < b.beat ∨ (a.beat = b.beat ∧ (a.ver < b.ver ∨ (a.ver = b.ver ∧ cmpB a.data b.data ≤ 0)))))))) := by
 unfold entCmp firstNZ firstNZ firstNZ firstNZ firstNZ firstNZ cmpI
 repeat' split
 all_goals omega
theorem entCmp_eq {a b : Ent} (h : entCmp a b = 0) : a = b := by
 have h1 := (entCmp_le a b).1 (by omega)
 have h2 := (entCmp_le b a).1 (by rw [entCmp_neg]; omega)
 have hn : cmpB b.data a.data = - cmpB a.data b.data := compareBytes_neg _ _
 have hd : a.data = b.data := by
  have : cmpB a.data b.data = 0 := by omega
  have := cb_eq this
  obtain ⟨_,_,_,_,⟨⟨x⟩⟩⟩ := a
  obtain ⟨_,_,_,_,⟨⟨y⟩⟩⟩ := b
  simp only at this
  rw [this]
 obtain ⟨i,r,be,v,d⟩ := a
 obtain ⟨i2,r2,be2,v2,d2⟩ := b
 simp only at h1 h2 hn hd
 subst hd
 obtain ⟨rfl,rfl,rfl,rfl⟩ : i = i2 ∧ r = r2 ∧ be = be2 ∧ v = v2 := by omega
 rfl
theorem entLe_trans {a b c : Ent} (h : entCmp a b ≤ 0) (k : entCmp b c ≤ 0) : entCmp a c ≤ 0 := by
 rw [entCmp_le] at h k ⊢
 have ht : cmpB a.data b.data ≤ 0 → cmpB b.data c.data ≤ 0 → cmpB a.data c.data ≤ 0 := cb_trans
 omega
theorem entMax_le {a b : Ent} (h : entCmp a b ≤ 0) : entMax a b = b := by
 unfold entMax
 split
 ·rfl
 ·exact entCmp_eq (by omega)
theorem entMax_ge {a b : Ent} (h : 0 ≤ entCmp a b) : entMax a b = a := by
 unfold entMax
 rw [if_neg (by omega)]
theorem entMax_comm (a b : Ent) : entMax a b = entMax b a := by
 rcases Int.le_total (entCmp a b) 0 with h | h
 ·rw [entMax_le h,entMax_ge (by rw [entCmp_neg]; omega)]
 ·rw [entMax_ge h,entMax_le (by rw [entCmp_neg]; omega)]
theorem entLe_max (a b : Ent) : entCmp a (entMax a b) ≤ 0 ∧ entCmp b (entMax a b) ≤ 0 := by
 have hs : ∀ x : Ent,entCmp x x ≤ 0 := fun x => by have := entCmp_neg x x; omega
 rcases Int.le_total (entCmp a b) 0 with h | h
 ·rw [entMax_le h]; exact ⟨h,hs b⟩
 ·rw [entMax_ge h]; exact ⟨hs a,by rw [entCmp_neg]; omega⟩
theorem entMax_lub {a b c : Ent} (h : entCmp a c ≤ 0) (k : entCmp b c ≤ 0) : entCmp (entMax a b) c ≤ 0 := by
 rcases Int.le_total (entCmp a b) 0 with h1 | h1
 ·rw [entMax_le h1]; exact k
 ·rw [entMax_ge h1]; exact h
theorem ent_antisymm {a b : Ent} (h : entCmp a b ≤ 0) (k : entCmp b a ≤ 0) : a = b := entCmp_eq (by have := entCmp_neg a b; omega)
theorem entMax_assoc (a b c : Ent) : entMax (entMax a b) c = entMax a (entMax b c) :=
 ent_antisymm (entMax_lub (entMax_lub (entLe_max _ _).1 (entLe_trans (entLe_max b c).1 (entLe_max _ _).2)) (entLe_trans (entLe_max b c).2 (entLe_max _ _).2))
  (entMax_lub (entLe_trans (entLe_max a b).1 (entLe_max _ _).1) (entMax_lub (entLe_trans (entLe_max a b).2 (entLe_max _ _).1) (entLe_max _ _).2))
theorem entMax_or (a b : Ent) : entMax a b = a ∨ entMax a b = b := by unfold entMax; split; exact .inr rfl; exact .inl rfl
theorem entMax_inc (a b : Ent) : (entMax a b).inc = max a.inc b.inc := by
 rcases Int.le_total (entCmp a b) 0 with h | h
 ·have := (entCmp_le a b).1 h
  rw [entMax_le h]; omega
 ·have := (entCmp_le b a).1 (by rw [entCmp_neg]; omega)
  rw [entMax_ge h]; omega
def vE (e : Ent) : Prop := e = zEnt ∨ entOk e
theorem vE.max {a b : Ent} (h : vE a) (k : vE b) : vE (entMax a b) := by
 rcases entMax_or a b with e | e <;> rw [e] <;> assumption
theorem vE.inc {a : Ent} (h : vE a) : 0 ≤ a.inc := by
 rcases h with rfl | h
 ·exact Int.le_refl _
 ·have := h.1.1; omega
theorem vE.zero {a : Ent} (h : vE a) (h0 : a.inc ≤ 0) : a = zEnt := by
 rcases h with h | h
 ·exact h
 ·have := h.1.1; omega
theorem entMax_zl {a : Ent} (h : vE a) : entMax zEnt a = a := by
 rcases h with rfl | h
 ·exact entMax_zz
 ·exact (entMax_zero h.1.1).2
def cut (f : Int) (e : Ent) : Ent := if e.inc > f then e else zEnt
theorem cut_z {f : Int} : cut f zEnt = zEnt := by unfold cut; split <;> rfl
theorem cut_max {f g : Int} {m e : Ent} (hm : vE m) (he : vE e) (hf : f ≤ g) : cut g (entMax (cut f m) e) = cut g (entMax m e) := by
 by_cases h : m.inc > f
 ·rw [show cut f m = m by unfold cut; rw [if_pos h]]
 ·rw [show cut f m = zEnt by unfold cut; rw [if_neg h],entMax_zl he]
  have hi := entMax_inc m e
  unfold cut
  rcases entMax_or m e with k | k
  ·rw [k] at hi ⊢
   rw [if_neg (by omega),if_neg (by omega)]
  ·rw [k]
theorem fmap_congr {α β : Type} {f g : α → Option β} {l : List α} (h : ∀ x ∈ l,f x = g x) : l.filterMap f = l.filterMap g := by
 induction l with
 | nil => rfl
 | cons a l ih => rw [List.filterMap_cons,List.filterMap_cons,h a (List.mem_cons_self ..),ih fun x hx => h x (List.mem_cons_of_mem _ hx)]
theorem sorted_of {α : Type} {id : α → Int} {l : List α} (h : ∀ (j : Nat) x,l[j]? = some x → ∀ y,0 < j → l[j - 1]? = some y → id y < id x) : l.Pairwise fun a b => id a < id b := by
 rw [List.pairwise_iff_getElem]
 intro i j hi hj hij
 induction j with
 | zero => omega
 | succ j ih =>
  have h1 := h (j + 1) l[j + 1] (List.getElem?_eq_getElem hj) l[j] (Nat.succ_pos j) (List.getElem?_eq_getElem (by omega))
  rcases Nat.lt_or_ge i j with h2 | h2
  ·have := ih (by omega) h2; omega
  ·have : i = j := by omega
   subst this; exact h1
theorem canon {α : Type} (id : α → Int) : ∀ (m k : Nat) (l : List α),(l.Pairwise fun a b => id a < id b) → (∀ x ∈ l,(k : Int) ≤ id x ∧ id x < ((k + m : Nat) : Int)) → l = (List.range' k m).filterMap fun (j : Nat) => l.find? fun x => decide (id x = (j : Int))
 | 0,k,l,_,h => by
  cases l with
  | nil => rfl
  | cons x l => have := h x (List.mem_cons_self ..); omega
 | m + 1,k,[],_,_ => by simp
 | m + 1,k,x :: l,hp,h => by
  have hx := h x (List.mem_cons_self ..)
  obtain ⟨h1,h2⟩ := List.pairwise_cons.1 hp
  rw [List.range'_succ,List.filterMap_cons]
  by_cases hk : id x = (k : Int)
  ·have hf : (x :: l).find? (fun x => decide (id x = (k : Int))) = some x := by rw [List.find?_cons,decide_eq_true hk]
   rw [hf]
   simp only
   have ih := canon id m (k + 1) l h2 fun y hy => by have := h1 y hy; have := h y (List.mem_cons_of_mem _ hy); omega
   congr 1
   rw [ih]
   refine fmap_congr fun j hj => ?_
   have hj := List.mem_range'_1.1 hj
   rw [← ih,List.find?_cons,decide_eq_false (by omega)]
  ·have ih := canon id m (k + 1) (x :: l) hp fun y hy => by
    have h3 := h y hy
    rcases List.mem_cons.1 hy with rfl | hy
    ·omega
    ·have := h1 y hy; omega
   have hf : (x :: l).find? (fun x => decide (id x = (k : Int))) = none := by
    rw [List.find?_eq_none]
    intro y hy
    simp only [decide_eq_true_eq]
    rcases List.mem_cons.1 hy with rfl | hy
    ·exact hk
    ·have := h1 y hy; omega
   rw [hf]
   exact ih
theorem find_item (l : List Itm) (j : Int) : (l.find? fun x => decide (x.id = j)) = if (entP l j).2 = true then some ⟨j,(entP l j).1⟩ else none := by
 induction l with
 | nil => rfl
 | cons x l ih =>
  rw [List.find?_cons,entP]
  by_cases h : x.id = j
  ·rw [decide_eq_true h,if_pos h]
   obtain ⟨i,e⟩ := x
   simp only at h
   subst h; rfl
  ·rw [decide_eq_false h,if_neg h]; exact ih
theorem find_floor (l : List Flr) (j : Int) (hl : ∀ x ∈ l,1 ≤ x.inc) : (l.find? fun x => decide (x.id = j)) = if floorOf l j > 0 then some ⟨j,floorOf l j⟩ else none := by
 induction l with
 | nil => rfl
 | cons x l ih =>
  rw [List.find?_cons,floorOf]
  by_cases h : x.id = j
  ·rw [decide_eq_true h,if_pos h]
   have := hl x (List.mem_cons_self ..)
   rw [if_pos (by omega)]
   obtain ⟨i,e⟩ := x
   simp only at h
   subst h; rfl
  ·rw [decide_eq_false h,if_neg h]; exact ih fun y hy => hl y (List.mem_cons_of_mem _ hy)
theorem items_canon {s : Sta} (h : stateOk s) : s.items = (List.range 5).filterMap fun (j : Nat) => if (entP s.items (j : Int)).2 = true then some (⟨(j : Int),(entP s.items (j : Int)).1⟩ : Itm) else none := by
 have := canon (fun x : Itm => x.id) 5 0 s.items (sorted_of fun j x hx => (h.1 j x hx).2.2.2) fun x hx => by
  obtain ⟨j,hj⟩ := List.getElem?_of_mem hx
  have := (h.1 j x hj).1
  omega
 rw [List.range_eq_range',this]
 refine fmap_congr fun j _ => ?_
 rw [← this]
 exact find_item _ _
theorem floors_canon {l : List Flr} (h : marksOk l) : l = (List.range 5).filterMap fun (j : Nat) => if floorOf l (j : Int) > 0 then some (⟨(j : Int),floorOf l (j : Int)⟩ : Flr) else none := by
 have := canon (fun x : Flr => x.id) 5 0 l (sorted_of fun j x hx => (h j x hx).2.2) fun x hx => by
  obtain ⟨j,hj⟩ := List.getElem?_of_mem hx
  have := (h j x hj).1
  omega
 rw [List.range_eq_range']
 conv => lhs; rw [this]
 refine fmap_congr fun j _ => ?_
 exact find_floor _ _ fun x hx => by
  obtain ⟨j,hj⟩ := List.getElem?_of_mem hx
  exact (h j x hj).2.1.1
def gE (s : Sta) (i : Int) : Ent := (entP s.items i).1
def gF (s : Sta) (i : Int) : Int := floorOf s.floors i
theorem gE_v {s : Sta} (h : stateOk s) (i : Int) : vE (gE s i) := entP_cases h.1 i
theorem gF_pos {s : Sta} (h : stateOk s) (i : Int) : 0 ≤ gF s i ∧ gF s i ≤ 1000 := floorOf_pos h.2 i
theorem gE_in {s : Sta} (h : stateOk s) (i : Int) : (entP s.items i).2 = true ↔ 1 ≤ (gE s i).inc := by
 unfold gE
 rcases hb : entP s.items i with ⟨e,b⟩
 cases b with
 | false => rw [entP_none (e := e) (id := i) hb.symm]; simp [zEnt]
 | true =>
  have := (ent_ok h (e := e) (id := i) hb.symm).1.1
  simp only [true_iff]; exact this
theorem gE_cut {s : Sta} (h : stateOk s) (i : Int) : cut (gF s i) (gE s i) = gE s i := by
 unfold gE gF
 rcases hb : entP s.items i with ⟨e,b⟩
 cases b with
 | false => rw [entP_none (e := e) (id := i) hb.symm]; exact cut_z
 | true =>
  obtain ⟨j,x,h1,h2,h3⟩ := entP_mem (e := e) (id := i) hb.symm
  have := (h.1 j x h1).2.2.1
  rw [h3,h2] at this
  unfold cut
  rw [if_pos this]
theorem sta_eq {a b : Sta} (ha : stateOk a) (hb : stateOk b) (h : ∀ j : Nat,j < 5 → gE a (j : Int) = gE b (j : Int) ∧ gF a (j : Int) = gF b (j : Int)) : a = b := by
 have h1 : a.items = b.items := by
  rw [items_canon ha,items_canon hb]
  refine fmap_congr fun j hj => ?_
  have hj := (h j (List.mem_range.1 hj)).1
  have e1 : (entP a.items (j : Int)).2 = (entP b.items (j : Int)).2 := by
   rw [Bool.eq_iff_iff,gE_in ha,gE_in hb,hj]
  rw [e1]
  unfold gE at hj
  rw [hj]
 have h2 : a.floors = b.floors := by
  rw [floors_canon ha.2,floors_canon hb.2]
  refine fmap_congr fun j hj => ?_
  have hj := (h j (List.mem_range.1 hj)).2
  unfold gF at hj
  rw [hj]
 obtain ⟨ai,af⟩ := a
 obtain ⟨bi,bf⟩ := b
 simp only at h1 h2
 rw [h1,h2]
theorem entP_app (l m : List Itm) (i : Int) : entP (l ++ m) i = if (entP l i).2 = true then entP l i else entP m i := by
 induction l with
 | nil => rfl
 | cons x l ih =>
  rw [List.cons_append,entP,entP]
  by_cases h : x.id = i
  ·rw [if_pos h,if_pos h]; rfl
  ·rw [if_neg h,if_neg h]; exact ih
theorem entP_pick (c : Int → Prop) [DecidablePred c] (g : Int → Ent) (id : Nat) : ∀ n,entP ((List.range n).filterMap fun (j : Nat) => if c (j : Int) then some (⟨(j : Int),g (j : Int)⟩ : Itm) else none) (id : Int) = if id < n ∧ c (id : Int) then (g (id : Int),true) else (zEnt,false)
 | 0 => by simp [entP]
 | n + 1 => by
  rw [List.range_succ,List.filterMap_append,entP_app,entP_pick c g id n]
  by_cases h1 : id < n ∧ c (id : Int)
  ·rw [if_pos h1,if_pos rfl,if_pos ⟨by omega,h1.2⟩]
  ·rw [if_neg h1,if_neg (by simp)]
   by_cases hn : c (n : Int)
   ·simp only [List.filterMap_cons,List.filterMap_nil,hn,if_true,entP]
    by_cases h2 : n = id
    ·subst h2; rw [if_pos rfl,if_pos ⟨Nat.lt_succ_self _,hn⟩]
    ·rw [if_neg (by omega),if_neg (fun h => h1 ⟨by omega,h.2⟩)]
   ·simp only [List.filterMap_cons,List.filterMap_nil,hn,if_false,entP]
    rw [if_neg]
    rintro ⟨h3,h4⟩
    rcases Nat.lt_or_ge id n with h5 | h5
    ·exact h1 ⟨h5,h4⟩
    ·have : id = n := by omega
     subst this; exact hn h4
theorem gF_join {a b : Sta} (ha : stateOk a) (hb : stateOk b) {j : Nat} (h : j < 5) : gF (joinF a b 5) (j : Int) = max (gF a (j : Int)) (gF b (j : Int)) := floorOf_join ha.2 hb.2 h
theorem gE_join (a b : Sta) {j : Nat} (h : j < 5) : gE (joinF a b 5) (j : Int) = cut (max (gF a (j : Int)) (gF b (j : Int))) (entMax (gE a (j : Int)) (gE b (j : Int))) := by
 show (entP ((List.range 5).filterMap fun (j : Nat) => if (topE a b (j : Int)).inc > topF a b (j : Int) then some (⟨(j : Int),topE a b (j : Int)⟩ : Itm) else none) (j : Int)).1 = _
 rw [entP_pick (fun i => (topE a b i).inc > topF a b i) (fun i => topE a b i) j 5]
 unfold cut
 by_cases h1 : (topE a b (j : Int)).inc > topF a b (j : Int)
 ·rw [if_pos ⟨h,h1⟩]; exact (if_pos h1).symm
 ·rw [if_neg (fun k => h1 k.2)]; exact (if_neg h1).symm
theorem join_comm {a b : Sta} (ha : stateOk a) (hb : stateOk b) : joinF a b 5 = joinF b a 5 :=
 sta_eq (stateOk_join ha hb) (stateOk_join hb ha) fun j hj => by
  rw [gE_join a b hj,gE_join b a hj,gF_join ha hb hj,gF_join hb ha hj,entMax_comm,Int.max_comm]
  exact ⟨rfl,rfl⟩
theorem join_assoc {a b c : Sta} (ha : stateOk a) (hb : stateOk b) (hc : stateOk c) : joinF (joinF a b 5) c 5 = joinF a (joinF b c 5) 5 :=
 sta_eq (stateOk_join (stateOk_join ha hb) hc) (stateOk_join ha (stateOk_join hb hc)) fun j hj => by
  have va := gE_v ha (j : Int)
  have vb := gE_v hb (j : Int)
  have vc := gE_v hc (j : Int)
  rw [gE_join _ _ hj,gE_join _ _ hj,gE_join _ _ hj,gE_join _ _ hj,gF_join (stateOk_join ha hb) hc hj,gF_join ha (stateOk_join hb hc) hj,gF_join ha hb hj,gF_join hb hc hj]
  refine ⟨?_,Int.max_assoc ..⟩
  rw [cut_max (va.max vb) vc (Int.le_max_left ..),entMax_comm (gE a (j : Int)) (cut _ _),cut_max (vb.max vc) va (Int.le_max_right ..),entMax_comm (entMax (gE b (j : Int)) (gE c (j : Int))) (gE a (j : Int)),entMax_assoc,Int.max_assoc]
theorem gE_nil (j : Int) : gE ⟨[],[]⟩ j = zEnt := rfl
theorem gF_nil (j : Int) : gF ⟨[],[]⟩ j = 0 := rfl
theorem join_nil {a : Sta} (ha : stateOk a) : joinF a ⟨[],[]⟩ 5 = a :=
 sta_eq (stateOk_join ha stateOk_nil) ha fun j hj => by
  have h0 := gF_pos ha (j : Int)
  rw [gE_join _ _ hj,gF_join ha stateOk_nil hj,gE_nil,gF_nil,entMax_comm,entMax_zl (gE_v ha _),Int.max_eq_left h0.1,gE_cut ha]
  exact ⟨rfl,rfl⟩
theorem nil_join {a : Sta} (ha : stateOk a) : joinF ⟨[],[]⟩ a 5 = a := by rw [join_comm stateOk_nil ha,join_nil ha]
end Go.Proofs.Yteabadoaeadcgaa.AM
namespace Go.Proofs.Yteabadoaeadcgaa.AM
open Go Go.Proofs
set_option linter.unusedVariables false
set_option linter.unusedSimpArgs false
set_option maxRecDepth 100000
set_option maxHeartbeats 4000000
theorem entP_sz {l : List Itm} (h : ∀ x ∈ l,szOk x.e.data.size) (id : Int) : szOk (entP l id).1.data.size := by
 induction l with
 | nil => exact Nat.zero_le _
 | cons x l ih =>
  rw [entP]
  split
  ·exact h x (List.mem_cons_self ..)
  ·exact ih fun y hy => h y (List.mem_cons_of_mem _ hy)
theorem bigS_join {a b : Sta} (ha : bigS a) (hb : bigS b) : bigS (joinF a b 5) := by
 have hl := joinF_len a b 5
 refine ⟨by unfold szOk; omega,by unfold szOk; omega,fun x hx => ?_⟩
 have hx : x ∈ (List.range 5).filterMap fun (j : Nat) => if (topE a b (j : Int)).inc > topF a b (j : Int) then some (⟨(j : Int),topE a b (j : Int)⟩ : Itm) else none := hx
 obtain ⟨j,_,hj⟩ := List.mem_filterMap.1 hx
 split at hj
 ·injection hj with hj
  rw [← hj]
  show szOk (entMax (entP a.items j).1 (entP b.items j).1).data.size
  unfold entMax
  split
  ·exact entP_sz hb.2.2 _
  ·exact entP_sz ha.2.2 _
 ·cases hj
def joinL (l : List Sta) : Sta := l.foldl (fun a s => joinF a s 5) nilS
theorem joinL_snoc (l : List Sta) (s : Sta) : joinL (l ++ [s]) = joinF (joinL l) s 5 := by simp [joinL]
open Classical in
noncomputable def sinceF (g : Lg) (n : Int) : Sta × Bool := if logOk g ∧ g.frm ≤ n ∧ n ≤ g.frm + (g.list.length : Int) then (joinL (g.list.drop (n - g.frm).toNat),true) else (nilS,false)
theorem ac_impl_LogSince (g : LV) (n : Int) (st : St) (hR : RdL st g.p g.l) (hb : bigL g.l) : C 31 [.agg #[vI g.cap,vI g.frm,vS g.p g.l.length],vI n] st (fun v s => ∃ (u : SV) (b : Bool),v = .tuple #[.agg #[vS u.p u.x.items.length,vS u.q u.x.floors.length],vB b] ∧ (u.x,b) = sinceF g.x n ∧ OwnP s (pcS u) ∧ NewP st.next (pcS u) ∧ Pres st s) := by
 have hs : g.l.length ≤ 1048576 := hb.1
 have hgl : g.x.list.length = g.l.length := List.length_map _
 refine AC.enterX (i := ⟨[2,4,6,8],[2,4,6,8,14,23,26],[0,1,2,4,5,6,8,20,29,30,31,32],[]⟩) [(1,[8],[6])] Try.func31 rfl rfl (by kernel_rfl) (by kernel_rfl) Try.ntmps31 (Nat.le_of_ble_eq_true rfl) rfl ?_
 iterate 2 refine ⟨_,rfl,?_⟩
 refine AW.cutM (2) st [(1,vI n),(2,vL 2 0 (0)),(4,vL 4 0 (1)),(5,vB false)] [(2,0,[vI g.cap,vI g.frm,vS g.p g.l.length]),(4,1,[.slice none 0 0,.slice none 0 0])] ⟨rfl,rfl,rfl,rfl,trivial⟩ ⟨rfl,rfl,trivial⟩ rfl fun ρ0 ff => ?_
 refine ⟨_,rfl,?_⟩
 refine ⟨_,rfl,(ac_impl_LogOk g st hR hb).mono ?_⟩
 rintro _ st ⟨a,rfl,hk,rfl⟩
 rcases a with _|_
 ·replace hk := fun k => Bool.false_ne_true (hk.2 k)
  iterate 2 refine ⟨_,rfl,?_⟩
  refine AW.cutM (2) st [(1,vI n),(2,vL 2 0 (0)),(4,vL 4 0 (1)),(5,vB false),(20,vB true)] [(2,0,[vI g.cap,vI g.frm,vS g.p g.l.length]),(4,1,[.slice none 0 0,.slice none 0 0])] ⟨rfl,rfl,rfl,rfl,rfl,trivial⟩ ⟨rfl,rfl,trivial⟩ rfl fun ρ0 ff => ?_
  iterate 2 refine ⟨_,rfl,?_⟩
  refine cxs ?_
  exact ⟨.inl rfl,_,rfl,⟨none,none,nilS⟩,false,rfl,by rw [sinceF,if_neg (fun h => hk h.1)],pcS_nil,newS_nil,Pres.refl _⟩
 ·replace hk := hk.1 rfl
  iterate 3 refine ⟨_,rfl,?_⟩
  refine ⟨ld_own rfl rfl rfl,?_⟩
  refine ⟨_,rfl,?_⟩
  refine ⟨_,rfl,(ac_impl_LogSeq g st hR hb).mono ?_⟩
  rintro _ st ⟨rfl,rfl⟩
  refine ⟨fun _ _ => rfl,?_⟩
  refine ⟨_,rfl,(ac_impl_within n g.frm (logSeq g.x) st).mono ?_⟩
  rintro _ st ⟨b,rfl,hw,rfl⟩
  rcases b with _|_
  ·replace hw := of_decide_eq_false hw.symm
   iterate 2 refine ⟨_,rfl,?_⟩
   refine AW.cutM (2) st [(1,vI n),(2,vL 2 0 (0)),(4,vL 4 0 (1)),(5,vB false),(20,vB true)] [(2,0,[vI g.cap,vI g.frm,vS g.p g.l.length]),(4,1,[.slice none 0 0,.slice none 0 0])] ⟨rfl,rfl,rfl,rfl,rfl,trivial⟩ ⟨rfl,rfl,trivial⟩ rfl fun ρ0 ff => ?_
   iterate 2 refine ⟨_,rfl,?_⟩
   refine cxs ?_
   rw [logSeq,if_pos hk] at hw
   exact ⟨.inl rfl,_,rfl,⟨none,none,nilS⟩,false,rfl,by rw [sinceF,if_neg (fun h => hw h.2)],pcS_nil,newS_nil,Pres.refl _⟩
  ·replace hw := of_decide_eq_true hw.symm
   iterate 2 refine ⟨_,rfl,?_⟩
   refine AW.cutM (2) st [(1,vI n),(2,vL 2 0 (0)),(4,vL 4 0 (1)),(5,vB false),(20,vB false)] [(2,0,[vI g.cap,vI g.frm,vS g.p g.l.length]),(4,1,[.slice none 0 0,.slice none 0 0])] ⟨rfl,rfl,rfl,rfl,rfl,trivial⟩ ⟨rfl,rfl,trivial⟩ rfl fun ρ0 ff => ?_
   rw [logSeq,if_pos hk] at hw
   have hok : logOk g.x ∧ g.x.frm ≤ n ∧ n ≤ g.x.frm + (g.x.list.length : Int) := ⟨hk,hw⟩
   have hw1 : g.frm ≤ n := hw.1
   have hw2 : n ≤ g.frm + (g.l.length : Int) := by have h := hw.2; rw [hgl] at h; exact h
   have hk3 : 0 ≤ g.frm ∧ g.frm ≤ 100000 := hk.2.2.1
   have hdl : (g.l.drop (n - g.frm).toNat).length = g.l.length - (n - g.frm).toNat := List.length_drop
   have hfin : sinceF g.x n = (joinL ((g.l.drop (n - g.frm).toNat).map (·.x)),true) := by rw [sinceF,if_pos hok,List.map_drop]
   refine cxs ?_
   iterate 3 refine ⟨_,rfl,?_⟩
   refine AW.cutM (3) st [(1,vI n),(2,vL 2 0 (0)),(4,vL 4 0 (1)),(5,vB false),(6,vL 6 0 (2))] [(2,0,[vI g.cap,vI g.frm,vS g.p g.l.length]),(4,1,[.slice none 0 0,.slice none 0 0]),(6,2,[.slice none 0 0,.slice none 0 0])] ⟨rfl,rfl,rfl,rfl,rfl,trivial⟩ ⟨rfl,rfl,rfl,trivial⟩ rfl fun ρ0 ff => ?_
   iterate 4 refine ⟨_,rfl,?_⟩
   have e28 : IntKind.wrap .i64 (n - g.frm) = n - g.frm := wrap_i64 (by omega) (by omega)
   refine ⟨_,rfl,?_⟩
   refine ⟨_,op_slc (j := (n - g.frm).toNat) (n := g.l.length) rfl rfl (congrArg (Value.int .i64) e28) rfl rfl (by omega) (by omega),?_⟩
   refine ⟨_,rfl,?_⟩
   refine AW.cutM (3) st [(4,vL 4 0 (1)),(5,vB false),(6,vL 6 0 (2)),(29,.slice (shO g.p 2 (n - g.frm).toNat) (g.l.length - (n - g.frm).toNat) (g.l.length - (n - g.frm).toNat)),(30,vI ((g.l.length - (n - g.frm).toNat : Nat) : Int)),(31,vI (0))] [(4,1,[.slice none 0 0,.slice none 0 0]),(6,2,[.slice none 0 0,.slice none 0 0])] ⟨rfl,rfl,rfl,rfl,rfl,rfl,trivial⟩ ⟨rfl,rfl,trivial⟩ rfl fun ρ0 ff => ?_
   refine AW.loopM (fun x : Nat × SV => [(4,vL 4 0 (1)),(6,vL 6 0 (2)),(29,.slice (shO g.p 2 (n - g.frm).toNat) (g.l.length - (n - g.frm).toNat) (g.l.length - (n - g.frm).toNat)),(30,vI ((g.l.length - (n - g.frm).toNat : Nat) : Int)),(31,vI (x.1 : Int))]) (fun x : Nat × SV => [(4,1,[.slice none 0 0,.slice none 0 0]),(6,2,[vS x.2.p x.2.x.items.length,vS x.2.q x.2.x.floors.length])]) (fun m (x : Nat × SV) st' => m = (g.l.length - (n - g.frm).toNat) - x.1 ∧ x.1 ≤ g.l.length - (n - g.frm).toNat ∧ x.2.x = joinL (((g.l.drop (n - g.frm).toNat).take x.1).map (·.x)) ∧ OwnP st' (pcS x.2) ∧ NewP st.next (pcS x.2) ∧ bigS x.2.x ∧ Pres st st') (0,⟨none,none,nilS⟩) _ ⟨rfl,rfl,rfl,rfl,rfl,trivial⟩ ⟨rfl,rfl,trivial⟩ ⟨rfl,Nat.zero_le _,rfl,pcS_nil,newS_nil,bigS_nil,Pres.refl _⟩ ?_
   rintro m ⟨i,c⟩ ρ0 ff gg st' ⟨rfl,hi,hx,hO,hN,hB,hP⟩
   simp only at hi hx hO hN hB
   refine ⟨_,rfl,?_⟩
   rintro (_|_) h1
   ·replace h1 : ¬ ((i : Int) < ((g.l.length - (n - g.frm).toNat : Nat) : Int)) := of_decide_eq_false h1
    refine AW.cutM (gg) st' [(4,vL 4 0 (1)),(6,vL 6 0 (2)),(29,.slice (shO g.p 2 (n - g.frm).toNat) (g.l.length - (n - g.frm).toNat) (g.l.length - (n - g.frm).toNat)),(30,vI ((g.l.length - (n - g.frm).toNat : Nat) : Int)),(31,vI (i : Int)),(32,vB false)] [(4,1,[.slice none 0 0,.slice none 0 0]),(6,2,[vS c.p c.x.items.length,vS c.q c.x.floors.length])] ⟨rfl,rfl,rfl,rfl,rfl,rfl,trivial⟩ ⟨rfl,rfl,trivial⟩ rfl fun ρ0 ff => ?_
    refine cxs ?_
    refine ⟨_,op_ldo rfl rfl rfl rfl,?_⟩
    refine ⟨_,op_sto rfl rfl rfl rfl rfl rfl rfl,?_⟩
    refine cxs ?_
    have hil : i = g.l.length - (n - g.frm).toNat := by omega
    have hx' : c.x = joinL ((g.l.drop (n - g.frm).toNat).map (·.x)) := by rw [hx,hil,← hdl,List.take_length]
    exact ⟨.inl rfl,_,rfl,c,true,rfl,by rw [hfin,hx'],hO,hN,hP⟩
   ·replace h1 : (i : Int) < ((g.l.length - (n - g.frm).toNat : Nat) : Int) := of_decide_eq_true h1
    refine AW.cutM (gg) st' [(4,vL 4 0 (1)),(6,vL 6 0 (2)),(29,.slice (shO g.p 2 (n - g.frm).toNat) (g.l.length - (n - g.frm).toNat) (g.l.length - (n - g.frm).toNat)),(30,vI ((g.l.length - (n - g.frm).toNat : Nat) : Int)),(31,vI (i : Int)),(32,vB true)] [(4,1,[.slice none 0 0,.slice none 0 0]),(6,2,[vS c.p c.x.items.length,vS c.q c.x.floors.length])] ⟨rfl,rfl,rfl,rfl,rfl,rfl,trivial⟩ ⟨rfl,rfl,trivial⟩ rfl fun ρ0 ff => ?_
    have h1' := Int.ofNat_lt.1 h1
    have ⟨b1,o1,k1,r,hpe,hr1,hm1,hc1,hb1⟩ := ((hP.rows hR.1).sh (n - g.frm).toNat).atB (j := i) (by rw [hdl]; exact h1')
    have hmem : r ∈ g.l := List.mem_of_mem_drop (List.mem_of_getElem? hr1)
    have hsn : ((g.l.drop (n - g.frm).toNat).take (i + 1)).map (·.x) = ((g.l.drop (n - g.frm).toNat).take i).map (·.x) ++ [r.x] := by rw [(split_at' hr1).2.1,List.map_append]; rfl
    refine cxs ?_
    refine ⟨_,op_idx (j := (i : Int)) (n := g.l.length - (n - g.frm).toNat) (q := ⟨b1,o1,none⟩) rfl (congrArg (fun u => vS u (g.l.length - (n - g.frm).toNat)) hpe) rfl rfl rfl (Int.natCast_nonneg _) h1,?_⟩
    refine ⟨_,op_lda rfl rfl rfl rfl rfl hm1 hc1 rfl,?_⟩
    refine ⟨_,rfl,?_⟩
    refine ⟨_,op_sto rfl rfl rfl rfl rfl rfl rfl,?_⟩
    refine AW.cutM (gg + 1) st' [(4,vL 4 0 (1)),(6,vL 6 0 (2)),(8,vL 8 0 (gg)),(29,.slice (shO g.p 2 (n - g.frm).toNat) (g.l.length - (n - g.frm).toNat) (g.l.length - (n - g.frm).toNat)),(30,vI ((g.l.length - (n - g.frm).toNat : Nat) : Int)),(31,vI (i : Int)),(32,vB true)] [(4,1,[.slice none 0 0,.slice none 0 0]),(6,2,[vS c.p c.x.items.length,vS c.q c.x.floors.length]),(8,gg,[vS r.p r.x.items.length,vS r.q r.x.floors.length])] ⟨rfl,rfl,rfl,rfl,rfl,rfl,rfl,trivial⟩ ⟨rfl,rfl,rfl,trivial⟩ rfl fun ρ0 ff => ?_
    refine ⟨_,op_ldo rfl rfl rfl rfl,?_⟩
    refine ⟨_,op_ldo rfl rfl rfl rfl,?_⟩
    refine ⟨_,rfl,(ac_impl_stateJoin c r st' hO.rdS ((hR.2 r hmem).pres hP) hB (hb.2 r hmem)).mono ?_⟩
    rintro _ s2 ⟨u,rfl,hu,hO2,hN2,hP2⟩
    refine ⟨_,op_sto rfl rfl rfl rfl rfl rfl rfl,?_⟩
    refine AW.cutM (gg + 1) s2 [(4,vL 4 0 (1)),(6,vL 6 0 (2)),(8,vL 8 0 (gg)),(29,.slice (shO g.p 2 (n - g.frm).toNat) (g.l.length - (n - g.frm).toNat) (g.l.length - (n - g.frm).toNat)),(30,vI ((g.l.length - (n - g.frm).toNat : Nat) : Int)),(31,vI (i : Int)),(32,vB true)] [(4,1,[.slice none 0 0,.slice none 0 0]),(6,2,[vS u.p u.x.items.length,vS u.q u.x.floors.length]),(8,gg,[vS r.p r.x.items.length,vS r.q r.x.floors.length])] ⟨rfl,rfl,rfl,rfl,rfl,rfl,rfl,trivial⟩ ⟨rfl,rfl,rfl,trivial⟩ rfl fun ρ0 ff => ?_
    have e38 : IntKind.wrap .i64 ((i : Int) + 1) = ((i + 1 : Nat) : Int) := (wrap_i64 (by omega) (by omega)).trans (by omega)
    refine ⟨_,rfl,?_⟩
    exact ⟨(i + 1,u),(g.l.length - (n - g.frm).toNat) - (i + 1),by omega,⟨rfl,rfl,rfl,rfl,congrArg (Value.int .i64) e38,trivial⟩,⟨rfl,rfl,trivial⟩,rfl,h1',by rw [hsn,joinL_snoc,← hx]; exact hu,hO2,hN2.le hP.1,by rw [hu]; exact bigS_join hB (hb.2 r hmem),hP.trans hP2⟩
theorem ac_spec_LogSince (g : LV) (n : Int) (st : St) (hR : RdL st g.p g.l) (hb : bigL g.l) : C 36 [.agg #[vI g.cap,vI g.frm,vS g.p g.l.length],vI n] st (fun v s => ∃ (u : SV) (b : Bool),v = .tuple #[.agg #[vS u.p u.x.items.length,vS u.q u.x.floors.length],vB b] ∧ (u.x,b) = sinceF g.x n ∧ OwnP s (pcS u) ∧ NewP st.next (pcS u) ∧ Pres st s) := by
 have hs : g.l.length ≤ 1048576 := hb.1
 have hgl : g.x.list.length = g.l.length := List.length_map _
 refine AC.enterX (i := ⟨[2,4,6],[2,4,6,14,16,18,27,31,38],[0,1,2,4,5,6,7,24,34],[]⟩) [(7,[],[])] Try.func36 rfl rfl (by kernel_rfl) (by kernel_rfl) Try.ntmps36 (Nat.le_of_ble_eq_true rfl) rfl ?_
 iterate 2 refine ⟨_,rfl,?_⟩
 refine AW.cutM (2) st [(1,vI n),(2,vL 2 0 (0)),(4,vL 4 0 (1)),(5,vB false)] [(2,0,[vI g.cap,vI g.frm,vS g.p g.l.length]),(4,1,[.slice none 0 0,.slice none 0 0])] ⟨rfl,rfl,rfl,rfl,trivial⟩ ⟨rfl,rfl,trivial⟩ rfl fun ρ0 ff => ?_
 iterate 3 refine ⟨_,rfl,?_⟩
 refine AW.cutM (3) st [(1,vI n),(2,vL 2 0 (0)),(4,vL 4 0 (1)),(5,vB false),(6,vL 6 0 (2))] [(2,0,[vI g.cap,vI g.frm,vS g.p g.l.length]),(4,1,[.slice none 0 0,.slice none 0 0]),(6,2,[.slice none 0 0,.slice none 0 0])] ⟨rfl,rfl,rfl,rfl,rfl,trivial⟩ ⟨rfl,rfl,rfl,trivial⟩ rfl fun ρ0 ff => ?_
 refine ⟨_,rfl,?_⟩
 refine ⟨_,rfl,(ac_spec_LogOk g st hR hb).mono ?_⟩
 rintro _ st ⟨a,rfl,hk,rfl⟩
 rcases a with _|_
 ·replace hk := fun k => Bool.false_ne_true (hk.2 k)
  iterate 2 refine ⟨_,rfl,?_⟩
  refine AW.cutM (3) st [(1,vI n),(2,vL 2 0 (0)),(4,vL 4 0 (1)),(5,vB false),(6,vL 6 0 (2)),(24,vB true)] [(2,0,[vI g.cap,vI g.frm,vS g.p g.l.length]),(4,1,[.slice none 0 0,.slice none 0 0]),(6,2,[.slice none 0 0,.slice none 0 0])] ⟨rfl,rfl,rfl,rfl,rfl,rfl,trivial⟩ ⟨rfl,rfl,rfl,trivial⟩ rfl fun ρ0 ff => ?_
  iterate 2 refine ⟨_,rfl,?_⟩
  refine cxs ?_
  exact ⟨.inl rfl,_,rfl,⟨none,none,nilS⟩,false,rfl,by rw [sinceF,if_neg (fun h => hk h.1)],pcS_nil,newS_nil,Pres.refl _⟩
 ·replace hk := hk.1 rfl
  iterate 8 refine ⟨_,rfl,?_⟩
  have hk3' : 0 ≤ g.frm ∧ g.frm ≤ 100000 := hk.2.2.1
  have e21 : IntKind.wrap .i64 (g.frm + (g.l.length : Int)) = g.frm + (g.l.length : Int) := wrap_i64 (by omega) (by omega)
  refine ⟨_,rfl,?_⟩
  refine ⟨_,rfl,(ac_spec_l1In n g.frm (IntKind.wrap .i64 (g.frm + (g.l.length : Int))) st).mono ?_⟩
  rintro _ st ⟨b,rfl,hw,rfl⟩
  rcases b with _|_
  ·replace hw := of_decide_eq_false hw.symm
   iterate 2 refine ⟨_,rfl,?_⟩
   refine AW.cutM (3) st [(1,vI n),(2,vL 2 0 (0)),(4,vL 4 0 (1)),(5,vB false),(6,vL 6 0 (2)),(24,vB true)] [(2,0,[vI g.cap,vI g.frm,vS g.p g.l.length]),(4,1,[.slice none 0 0,.slice none 0 0]),(6,2,[.slice none 0 0,.slice none 0 0])] ⟨rfl,rfl,rfl,rfl,rfl,rfl,trivial⟩ ⟨rfl,rfl,rfl,trivial⟩ rfl fun ρ0 ff => ?_
   iterate 2 refine ⟨_,rfl,?_⟩
   refine cxs ?_
   rw [e21] at hw
   exact ⟨.inl rfl,_,rfl,⟨none,none,nilS⟩,false,rfl,by rw [sinceF,if_neg (fun h => hw (by have h2 := h.2; rw [hgl] at h2; exact h2))],pcS_nil,newS_nil,Pres.refl _⟩
  ·replace hw := of_decide_eq_true hw.symm
   iterate 2 refine ⟨_,rfl,?_⟩
   refine AW.cutM (3) st [(1,vI n),(2,vL 2 0 (0)),(4,vL 4 0 (1)),(5,vB false),(6,vL 6 0 (2)),(24,vB false)] [(2,0,[vI g.cap,vI g.frm,vS g.p g.l.length]),(4,1,[.slice none 0 0,.slice none 0 0]),(6,2,[.slice none 0 0,.slice none 0 0])] ⟨rfl,rfl,rfl,rfl,rfl,rfl,trivial⟩ ⟨rfl,rfl,rfl,trivial⟩ rfl fun ρ0 ff => ?_
   rw [e21] at hw
   have hw1 : g.frm ≤ n := hw.1
   have hw2 : n ≤ g.frm + (g.l.length : Int) := hw.2
   have hok : logOk g.x ∧ g.x.frm ≤ n ∧ n ≤ g.x.frm + (g.x.list.length : Int) := ⟨hk,hw1,by rw [hgl]; exact hw2⟩
   have hk3 : 0 ≤ g.frm ∧ g.frm ≤ 100000 := hk.2.2.1
   obtain ⟨d,hd⟩ : ∃ d : Nat,n - g.frm = (d : Int) := ⟨(n - g.frm).toNat,by omega⟩
   have hdl : (g.l.drop d).length = g.l.length - d := List.length_drop
   have hfin : sinceF g.x n = (joinL ((g.l.drop d).map (·.x)),true) := by rw [sinceF,if_pos hok,List.map_drop,show (n - g.x.frm).toNat = d by show (n - g.frm).toNat = d; omega]
   refine cxs ?_
   iterate 2 refine ⟨_,rfl,?_⟩
   have e29 : IntKind.wrap .i64 (n - g.frm) = ((d + 0 : Nat) : Int) := (wrap_i64 (by omega) (by omega)).trans (by omega)
   refine ⟨_,rfl,?_⟩
   refine AW.cutM (3) st [(2,vL 2 0 (0)),(4,vL 4 0 (1)),(5,vB false),(6,vL 6 0 (2)),(7,vI (((d + 0 : Nat) : Int)))] [(2,0,[vI g.cap,vI g.frm,vS g.p g.l.length]),(4,1,[.slice none 0 0,.slice none 0 0]),(6,2,[.slice none 0 0,.slice none 0 0])] ⟨rfl,rfl,rfl,rfl,congrArg (Value.int .i64) e29,trivial⟩ ⟨rfl,rfl,rfl,trivial⟩ rfl fun ρ0 ff => ?_
   refine AW.loopM (fun x : Nat × SV => [(2,vL 2 0 (0)),(4,vL 4 0 (1)),(6,vL 6 0 (2)),(7,vI ((d + x.1 : Nat) : Int))]) (fun x : Nat × SV => [(2,0,[vI g.cap,vI g.frm,vS g.p g.l.length]),(4,1,[.slice none 0 0,.slice none 0 0]),(6,2,[vS x.2.p x.2.x.items.length,vS x.2.q x.2.x.floors.length])]) (fun m (x : Nat × SV) st' => m = (g.l.length - d) - x.1 ∧ x.1 ≤ g.l.length - d ∧ x.2.x = joinL (((g.l.drop d).take x.1).map (·.x)) ∧ OwnP st' (pcS x.2) ∧ NewP st.next (pcS x.2) ∧ (bigS x.2.x ∧ stateOk x.2.x) ∧ Pres st st') (0,⟨none,none,nilS⟩) _ ⟨rfl,rfl,rfl,rfl,trivial⟩ ⟨rfl,rfl,rfl,trivial⟩ ⟨rfl,Nat.zero_le _,rfl,pcS_nil,newS_nil,⟨bigS_nil,stateOk_nil⟩,Pres.refl _⟩ ?_
   rintro m ⟨i,c⟩ ρ0 ff gg st' ⟨rfl,hi,hx,hO,hN,⟨hB,hS⟩,hP⟩
   simp only at hi hx hO hN hB
   refine ⟨_,rfl,?_⟩
   refine ⟨_,op_ldo rfl rfl rfl rfl,?_⟩
   iterate 2 refine ⟨_,rfl,?_⟩
   rintro (_|_) h1
   ·replace h1 : ¬ (((d + i : Nat) : Int) < (g.l.length : Int)) := of_decide_eq_false h1
    refine AW.cutM (gg) st' [(2,vL 2 0 (0)),(4,vL 4 0 (1)),(6,vL 6 0 (2)),(7,vI ((d + i : Nat) : Int)),(34,vB false)] [(2,0,[vI g.cap,vI g.frm,vS g.p g.l.length]),(4,1,[.slice none 0 0,.slice none 0 0]),(6,2,[vS c.p c.x.items.length,vS c.q c.x.floors.length])] ⟨rfl,rfl,rfl,rfl,rfl,trivial⟩ ⟨rfl,rfl,rfl,trivial⟩ rfl fun ρ0 ff => ?_
    refine cxs ?_
    refine ⟨_,op_ldo rfl rfl rfl rfl,?_⟩
    refine ⟨_,op_sto rfl rfl rfl rfl rfl rfl rfl,?_⟩
    refine cxs ?_
    have hil : i = g.l.length - d := by omega
    have hx' : c.x = joinL ((g.l.drop d).map (·.x)) := by rw [hx,hil,← hdl,List.take_length]
    exact ⟨.inl rfl,_,rfl,c,true,rfl,by rw [hfin,hx'],hO,hN,hP⟩
   ·replace h1 : ((d + i : Nat) : Int) < (g.l.length : Int) := of_decide_eq_true h1
    refine AW.cutM (gg) st' [(2,vL 2 0 (0)),(4,vL 4 0 (1)),(6,vL 6 0 (2)),(7,vI ((d + i : Nat) : Int)),(34,vB true)] [(2,0,[vI g.cap,vI g.frm,vS g.p g.l.length]),(4,1,[.slice none 0 0,.slice none 0 0]),(6,2,[vS c.p c.x.items.length,vS c.q c.x.floors.length])] ⟨rfl,rfl,rfl,rfl,rfl,trivial⟩ ⟨rfl,rfl,rfl,trivial⟩ rfl fun ρ0 ff => ?_
    have h1' : d + i < g.l.length := Int.ofNat_lt.1 h1
    have ⟨b1,o1,k1,r,hpe,hr1,hm1,hc1,hb1⟩ := (hP.rows hR.1).atB h1'
    have hmem : r ∈ g.l := List.mem_of_getElem? hr1
    have hrok : stateOk r.x := hk.2.2.2.2 _ (List.mem_map_of_mem hmem)
    have hr2 : (g.l.drop d)[i]? = some r := by rw [List.getElem?_drop]; exact hr1
    have hsn : ((g.l.drop d).take (i + 1)).map (·.x) = ((g.l.drop d).take i).map (·.x) ++ [r.x] := by rw [(split_at' hr2).2.1,List.map_append]; rfl
    refine cxs ?_
    refine ⟨_,op_ldo rfl rfl rfl rfl,?_⟩
    refine ⟨_,rfl,?_⟩
    refine ⟨_,op_ldo rfl rfl rfl rfl,?_⟩
    refine ⟨_,op_idx (j := ((d + i : Nat) : Int)) (n := g.l.length) (q := ⟨b1,o1,none⟩) rfl (congrArg (fun u => vS u g.l.length) hpe) rfl rfl rfl (Int.natCast_nonneg _) h1,?_⟩
    refine ⟨_,op_lda rfl rfl rfl rfl rfl hm1 hc1 rfl,?_⟩
    refine ⟨_,rfl,(ac_spec_l3Join c r st' hO.rdS ((hR.2 r hmem).pres hP) hB (hb.2 r hmem) hS hrok).mono ?_⟩
    rintro _ s2 ⟨u,rfl,hu,hO2,hN2,hP2⟩
    refine ⟨_,op_sto rfl rfl rfl rfl rfl rfl rfl,?_⟩
    refine AW.cutM (gg) s2 [(2,vL 2 0 (0)),(4,vL 4 0 (1)),(6,vL 6 0 (2)),(7,vI ((d + i : Nat) : Int)),(34,vB true)] [(2,0,[vI g.cap,vI g.frm,vS g.p g.l.length]),(4,1,[.slice none 0 0,.slice none 0 0]),(6,2,[vS u.p u.x.items.length,vS u.q u.x.floors.length])] ⟨rfl,rfl,rfl,rfl,rfl,trivial⟩ ⟨rfl,rfl,rfl,trivial⟩ rfl fun ρ0 ff => ?_
    have e36 : IntKind.wrap .i64 (((d + i : Nat) : Int) + 1) = ((d + (i + 1) : Nat) : Int) := (wrap_i64 (by omega) (by omega)).trans (by omega)
    refine ⟨_,rfl,?_⟩
    exact ⟨(i + 1,u),(g.l.length - d) - (i + 1),by omega,⟨rfl,rfl,rfl,congrArg (Value.int .i64) e36,trivial⟩,⟨rfl,rfl,rfl,trivial⟩,rfl,by omega,by rw [hsn,joinL_snoc,← hx]; exact hu,hO2,hN2.le hP.1,by rw [hu]; exact ⟨bigS_join hB (hb.2 r hmem),stateOk_join hS hrok⟩,hP.trans hP2⟩
structure Added (g x : Lg) (d : Sta) : Prop where
 og : logOk g
 od : stateOk d
 ox : logOk x
 seq : x.frm + (x.list.length : Int) = g.frm + (g.list.length : Int) + 1
 frm : g.frm ≤ x.frm
 last : x.list.drop (x.list.length - 1) = [d]
 pos : 1 ≤ x.list.length
theorem logSeq_ok {g : Lg} (h : logOk g) : logSeq g = g.frm + (g.list.length : Int) := if_pos h
theorem Added.since {g x : Lg} {d : Sta} (h : Added g x d) : sinceF x (logSeq x - 1) = (d,true) := by
 rw [logSeq_ok h.ox]
 have hp := h.pos
 have h3 := h.ox.2.2.1
 unfold sinceF
 rw [if_pos ⟨h.ox,by omega,by omega⟩,show (x.frm + (x.list.length : Int) - 1 - x.frm).toNat = x.list.length - 1 by omega,h.last]
 show (joinF nilS d 5,true) = _
 rw [show nilS = ⟨[],[]⟩ from rfl,nil_join h.od]
theorem OwnP.rdLW {st : St} {u : LW} (h : OwnP st (pcLog u)) : RdL st u.p u.l := ⟨LW.rows (h.1 _ (List.mem_cons_self ..)),fun s hs => (h.tail.state hs).rdS⟩
theorem fold_join : ∀ (l : List Sta) (x : Sta),stateOk x → (∀ s ∈ l,stateOk s) → stateOk (joinL l) ∧ l.foldl (fun a s => joinF a s 5) x = joinF x (joinL l) 5
 | [],x,hx,_ => ⟨stateOk_nil,(join_nil hx).symm⟩
 | b :: l,x,hx,h => by
  have hb := h b (List.mem_cons_self ..)
  have hl := fun s hs => h s (List.mem_cons_of_mem _ hs)
  have h1 := fold_join l (joinF x b 5) (stateOk_join hx hb) hl
  have h2 := fold_join l (joinF nilS b 5) (stateOk_join stateOk_nil hb) hl
  have e : joinL (b :: l) = joinF b (joinL l) 5 := by
   show l.foldl _ (joinF nilS b 5) = _
   rw [h2.2,show joinF nilS b 5 = b from nil_join hb]
  refine ⟨by rw [e]; exact stateOk_join hb h1.1,?_⟩
  show l.foldl _ (joinF x b 5) = _
  rw [h1.2,e,join_assoc hx hb h1.1]
theorem joinL_ok {l : List Sta} (h : ∀ s ∈ l,stateOk s) : stateOk (joinL l) := (fold_join l nilS stateOk_nil h).1
theorem joinL_app {a b : List Sta} (ha : ∀ s ∈ a,stateOk s) (hb : ∀ s ∈ b,stateOk s) : joinF (joinL a) (joinL b) 5 = joinL (a ++ b) := by
 rw [← (fold_join b (joinL a) (joinL_ok ha) hb).2,joinL,joinL,List.foldl_append]
theorem since_no {g : Lg} {n : Int} {x : Sta} (h : (x,false) = sinceF g n) : x = nilS := by
 unfold sinceF at h
 split at h
 ·injection h with _ h; cases h
 ·injection h
theorem since_yes {g : Lg} {n : Int} {x : Sta} (h : (x,true) = sinceF g n) : (logOk g ∧ g.frm ≤ n ∧ n ≤ g.frm + (g.list.length : Int)) ∧ x = joinL (g.list.drop (n - g.frm).toNat) := by
 unfold sinceF at h
 split at h
 ·rename_i hk; injection h with h _; exact ⟨hk,h⟩
 ·injection h with _ h; cases h
structure Dropped (g : Lg) (n : Int) : Prop where
 ok : logOk (dropL g n)
 seq : logSeq (dropL g n) = logSeq g
 since : sinceF (dropL g n) n = (joinL (g.list.drop (n - g.frm).toNat),true)
theorem dropped {g : Lg} {n : Int} (h : logOk g ∧ g.frm ≤ n ∧ n ≤ g.frm + (g.list.length : Int)) : Dropped g n := by
 have he : dropL g n = ⟨g.cap,n,g.list.drop (n - g.frm).toNat⟩ := if_pos h
 obtain ⟨hg,h1,h2⟩ := h
 obtain ⟨g1,g2,g3,g4,g5⟩ := hg
 have hl : (g.list.drop (n - g.frm).toNat).length = g.list.length - (n - g.frm).toNat := List.length_drop
 have hok : logOk ⟨g.cap,n,g.list.drop (n - g.frm).toNat⟩ := ⟨g1,by simp only [hl]; omega,by simp only; omega,by simp only [hl]; omega,fun s hs => g5 s (List.mem_of_mem_drop hs)⟩
 have hgok : logOk g := ⟨g1,g2,g3,g4,g5⟩
 refine ⟨by rw [he]; exact hok,?_,?_⟩
 ·rw [he,logSeq_ok hok,logSeq_ok hgok]; simp only [hl]; omega
 ·rw [he]
  unfold sinceF
  rw [if_pos ⟨hok,Int.le_refl _,by simp only; omega⟩]
  simp only [Int.sub_self,Int.toNat_zero,List.drop_zero]
theorem since_frm {g : Lg} (h : logOk g) : sinceF g g.frm = (joinL g.list,true) := by
 unfold sinceF
 rw [if_pos ⟨h,Int.le_refl _,by omega⟩,Int.sub_self]; rfl
theorem joinP_yes {a b x : Sta} {c : Bool} (h : (x,c) = joinP a b) (ha : stateOk a) (hb : stateOk b) : x = joinF a b 5 := by
 unfold joinP at h
 rw [if_pos ⟨ha,hb⟩] at h
 injection h
theorem ac_laws_FnLogged (p : Option Addr) (bs : List Int) (st : St) (hI : Ints st .u8 p bs) : C 6 [vS p bs.length] st (fun v s => v = vB true) := by
 refine AC.enterX (i := ⟨[3,5,7,9,11,13,15,16],[3,5,7,9,11,13,15,16,42,48,56,64],[0,2,3,4,5,6,8,9,10,11,12,13,15,16,17,19,39,41,59],[]⟩) [(15,[],[]),(19,[16],[17])] Try.func6 rfl rfl (by kernel_rfl) (by kernel_rfl) Try.ntmps6 (Nat.le_of_ble_eq_true rfl) rfl ?_
 refine AW.cutM (0) st [(0,vS p bs.length),(2,vB false)] [] ⟨rfl,rfl,trivial⟩ trivial rfl fun ρ0 ff => ?_
 refine ⟨_,rfl,(ac_laws_big p bs.length st).mono ?_⟩
 rintro _ st ⟨x19,rfl,h19,rfl⟩
 rcases x19 with _|_
 ·replace h19 := of_decide_eq_false h19.symm
  refine AW.cutM (0) st [(0,vS p bs.length),(2,vB false),(19,vB false)] [] ⟨rfl,rfl,rfl,trivial⟩ trivial rfl fun ρ0 ff => ?_
  refine cxs ?_
  refine ⟨_,rfl,(ac_spec_DrawLogSince p bs st hI (by first | assumption | omega)).mono ?_⟩
  rintro _ s22 ⟨u22,n22,rfl,h22,hF22⟩
  iterate 3 refine ⟨_,rfl,?_⟩
  refine ⟨_,op_sto rfl rfl rfl rfl rfl rfl rfl,?_⟩
  refine AW.cutM (1) s22 [(2,vB false),(3,vL 3 0 (0)),(4,vI n22)] [(3,0,[vI u22.cap,vI u22.frm,vS u22.p u22.l.length])] ⟨rfl,rfl,rfl,trivial⟩ ⟨rfl,trivial⟩ rfl fun ρ0 ff => ?_
  have hbl := h22.big (by decide)
  refine ⟨_,op_ldo rfl rfl rfl rfl,?_⟩
  refine ⟨_,rfl,(ac_impl_LogSince u22 n22 s22 (hF22.1.rdL) (by first | assumption | omega)).mono ?_⟩
  rintro _ s28 ⟨u28,b28,rfl,h28,hO28,hN28,hP28⟩
  rcases b28 with _|_
  ·iterate 3 refine ⟨_,rfl,?_⟩
   refine ⟨_,op_sto rfl rfl rfl rfl rfl rfl rfl,?_⟩
   refine AW.cutM (2) s28 [(2,vB false),(3,vL 3 0 (0)),(4,vI n22),(5,vL 5 0 (1)),(6,vB false)] [(3,0,[vI u22.cap,vI u22.frm,vS u22.p u22.l.length]),(5,1,[vS u28.p u28.x.items.length,vS u28.q u28.x.floors.length])] ⟨rfl,rfl,rfl,rfl,rfl,trivial⟩ ⟨rfl,rfl,trivial⟩ rfl fun ρ0 ff => ?_
   refine ⟨_,op_ldo rfl rfl rfl rfl,?_⟩
   refine ⟨_,rfl,(ac_spec_LogSince u22 n22 s28 (hF22.1.rdL.pres hP28) hbl).mono ?_⟩
   rintro _ s34 ⟨u34,b34,rfl,h34,hO34,hN34,hP34⟩
   iterate 3 refine ⟨_,rfl,?_⟩
   refine ⟨_,op_sto rfl rfl rfl rfl rfl rfl rfl,?_⟩
   refine AW.cutM (3) s34 [(2,vB false),(3,vL 3 0 (0)),(4,vI n22),(5,vL 5 0 (1)),(6,vB false),(8,vB b34)] [(3,0,[vI u22.cap,vI u22.frm,vS u22.p u22.l.length]),(5,1,[vS u28.p u28.x.items.length,vS u28.q u28.x.floors.length])] ⟨rfl,rfl,rfl,rfl,rfl,rfl,trivial⟩ ⟨rfl,rfl,trivial⟩ rfl fun ρ0 ff => ?_
   refine ⟨_,rfl,?_⟩
   rintro (_|_) h39
   rotate_left
   ·exact absurd ((congrArg Prod.snd (h28.trans h34.symm))) (b_ne h39)
   refine AW.cutM (3) s34 [(2,vB false),(3,vL 3 0 (0)),(4,vI n22),(5,vL 5 0 (1)),(6,vB false),(39,vB false)] [(3,0,[vI u22.cap,vI u22.frm,vS u22.p u22.l.length]),(5,1,[vS u28.p u28.x.items.length,vS u28.q u28.x.floors.length])] ⟨rfl,rfl,rfl,rfl,rfl,rfl,trivial⟩ ⟨rfl,rfl,trivial⟩ rfl fun ρ0 ff => ?_
   refine cxs ?_
   refine ⟨_,rfl,?_⟩
   refine AW.cutM (3) s34 [(2,vB false),(3,vL 3 0 (0)),(4,vI n22),(5,vL 5 0 (1)),(41,vB true)] [(3,0,[vI u22.cap,vI u22.frm,vS u22.p u22.l.length]),(5,1,[vS u28.p u28.x.items.length,vS u28.q u28.x.floors.length])] ⟨rfl,rfl,rfl,rfl,rfl,trivial⟩ ⟨rfl,rfl,trivial⟩ rfl fun ρ0 ff => ?_
   refine ⟨_,rfl,?_⟩
   refine ⟨_,op_ldo rfl rfl rfl rfl,?_⟩
   iterate 2 refine ⟨_,rfl,?_⟩
   rintro (_|_) h45
   ·exact absurd ((by rw [since_no h28]; rfl)) (beq_eq_false_iff_ne.1 h45)
   refine cxs ?_
   exact ⟨.inl rfl,_,rfl,rfl⟩
  ·iterate 3 refine ⟨_,rfl,?_⟩
   refine ⟨_,op_sto rfl rfl rfl rfl rfl rfl rfl,?_⟩
   refine AW.cutM (2) s28 [(2,vB false),(3,vL 3 0 (0)),(4,vI n22),(5,vL 5 0 (1)),(6,vB true)] [(3,0,[vI u22.cap,vI u22.frm,vS u22.p u22.l.length]),(5,1,[vS u28.p u28.x.items.length,vS u28.q u28.x.floors.length])] ⟨rfl,rfl,rfl,rfl,rfl,trivial⟩ ⟨rfl,rfl,trivial⟩ rfl fun ρ0 ff => ?_
   refine ⟨_,op_ldo rfl rfl rfl rfl,?_⟩
   refine ⟨_,rfl,(ac_spec_LogSince u22 n22 s28 (hF22.1.rdL.pres hP28) hbl).mono ?_⟩
   rintro _ s34 ⟨u34,b34,rfl,h34,hO34,hN34,hP34⟩
   iterate 3 refine ⟨_,rfl,?_⟩
   refine ⟨_,op_sto rfl rfl rfl rfl rfl rfl rfl,?_⟩
   refine AW.cutM (3) s34 [(2,vB false),(3,vL 3 0 (0)),(4,vI n22),(5,vL 5 0 (1)),(6,vB true),(8,vB b34)] [(3,0,[vI u22.cap,vI u22.frm,vS u22.p u22.l.length]),(5,1,[vS u28.p u28.x.items.length,vS u28.q u28.x.floors.length])] ⟨rfl,rfl,rfl,rfl,rfl,rfl,trivial⟩ ⟨rfl,rfl,trivial⟩ rfl fun ρ0 ff => ?_
   refine ⟨_,rfl,?_⟩
   rintro (_|_) h39
   rotate_left
   ·exact absurd ((congrArg Prod.snd (h28.trans h34.symm))) (b_ne h39)
   refine AW.cutM (3) s34 [(2,vB false),(3,vL 3 0 (0)),(4,vI n22),(5,vL 5 0 (1)),(6,vB true),(39,vB false)] [(3,0,[vI u22.cap,vI u22.frm,vS u22.p u22.l.length]),(5,1,[vS u28.p u28.x.items.length,vS u28.q u28.x.floors.length])] ⟨rfl,rfl,rfl,rfl,rfl,rfl,trivial⟩ ⟨rfl,rfl,trivial⟩ rfl fun ρ0 ff => ?_
   refine cxs ?_
   refine ⟨_,rfl,?_⟩
   refine AW.cutM (3) s34 [(2,vB false),(3,vL 3 0 (0)),(4,vI n22),(5,vL 5 0 (1)),(41,vB false)] [(3,0,[vI u22.cap,vI u22.frm,vS u22.p u22.l.length]),(5,1,[vS u28.p u28.x.items.length,vS u28.q u28.x.floors.length])] ⟨rfl,rfl,rfl,rfl,rfl,trivial⟩ ⟨rfl,rfl,trivial⟩ rfl fun ρ0 ff => ?_
   have ⟨hk,hx28⟩ := since_yes h28
   have hk1 : u22.frm ≤ n22 := hk.2.1
   have hk2 : n22 ≤ u22.frm + (u22.l.length : Int) := by have := hk.2.2; simp only [List.length_map] at this; exact this
   have hk3 : 0 ≤ u22.frm ∧ u22.frm ≤ 100000 := hk.1.2.2.1
   have hlb : u22.l.length ≤ 6 := by have := h22.l; simp only [List.length_map] at this; exact this
   have hso : ∀ s ∈ u22.x.list,stateOk s := hk.1.2.2.2.2
   have hRl : RdL s34 u22.p u22.l := (hF22.1.rdL.pres hP28).pres hP34
   have hR28 : RdS s34 u28 := hO28.rdS.pres hP34
   refine cxs ?_
   refine ⟨_,op_ldo rfl rfl rfl rfl,?_⟩
   refine ⟨_,rfl,?_⟩
   refine ⟨_,op_ldo rfl rfl rfl rfl,?_⟩
   refine ⟨_,rfl,(ac_impl_LogSince u22 u22.frm s34 hRl hbl).mono ?_⟩
   rintro _ s50 ⟨u50,b50,rfl,h50,hO50,hN50,hP50⟩
   iterate 3 refine ⟨_,rfl,?_⟩
   refine ⟨_,op_sto rfl rfl rfl rfl rfl rfl rfl,?_⟩
   refine AW.cutM (4) s50 [(2,vB false),(3,vL 3 0 (0)),(4,vI n22),(5,vL 5 0 (1)),(9,vL 9 0 (3)),(10,vB b50)] [(3,0,[vI u22.cap,vI u22.frm,vS u22.p u22.l.length]),(5,1,[vS u28.p u28.x.items.length,vS u28.q u28.x.floors.length]),(9,3,[vS u50.p u50.x.items.length,vS u50.q u50.x.floors.length])] ⟨rfl,rfl,rfl,rfl,rfl,rfl,trivial⟩ ⟨rfl,rfl,rfl,trivial⟩ rfl fun ρ0 ff => ?_
   have h50 : (u50.x,b50) = (joinL u22.x.list,true) := by rw [h50]; exact since_frm hk.1
   injection h50 with hx50 hy50
   subst hy50
   have hRl := hRl.pres hP50
   have hR28 := hR28.pres hP50
   have hR50 := hO50.rdS
   have hb28 : bigS u28.x := by rw [hx28]; exact big_ok (joinL_ok fun s hs => hso s (List.mem_of_mem_drop hs))
   have hb50 : bigS u50.x := by rw [hx50]; exact big_ok (joinL_ok hso)
   iterate 2 refine ⟨_,rfl,?_⟩
   refine ⟨_,op_sto rfl rfl rfl rfl rfl rfl rfl,?_⟩
   refine cxs ?_
   refine AW.cutM (5) s50 [(2,vB false),(3,vL 3 0 (0)),(4,vI n22),(5,vL 5 0 (1)),(9,vL 9 0 (3)),(10,vB true),(11,vL 11 0 (4)),(12,vI (0))] [(3,0,[vI u22.cap,vI u22.frm,vS u22.p u22.l.length]),(5,1,[vS u28.p u28.x.items.length,vS u28.q u28.x.floors.length]),(9,3,[vS u50.p u50.x.items.length,vS u50.q u50.x.floors.length]),(11,4,[.slice none 0 0,.slice none 0 0])] ⟨rfl,rfl,rfl,rfl,rfl,rfl,rfl,rfl,trivial⟩ ⟨rfl,rfl,rfl,rfl,trivial⟩ rfl fun ρ0 ff => ?_
   refine AW.loopM (fun x : Nat × SV => [(2,vB false),(3,vL 3 0 (0)),(4,vI n22),(5,vL 5 0 (1)),(9,vL 9 0 (3)),(10,vB true),(11,vL 11 0 (4)),(12,vI (x.1 : Int))]) (fun x : Nat × SV => [(3,0,[vI u22.cap,vI u22.frm,vS u22.p u22.l.length]),(5,1,[vS u28.p u28.x.items.length,vS u28.q u28.x.floors.length]),(9,3,[vS u50.p u50.x.items.length,vS u50.q u50.x.floors.length]),(11,4,[vS x.2.p x.2.x.items.length,vS x.2.q x.2.x.floors.length])]) (fun m (x : Nat × SV) st' => m = (n22 - u22.frm).toNat - x.1 ∧ (x.1 : Int) ≤ n22 - u22.frm ∧ x.2.x = joinL (u22.x.list.take x.1) ∧ RdS st' x.2 ∧ Pres s50 st') (0,⟨none,none,nilS⟩) _ ⟨rfl,rfl,rfl,rfl,rfl,rfl,rfl,rfl,trivial⟩ ⟨rfl,rfl,rfl,rfl,trivial⟩ ⟨rfl,by simp only; omega,rfl,pcS_nil.rdS,Pres.refl _⟩ ?_
   rintro m ⟨i,u⟩ ρ0 ff gg st' ⟨rfl,hi,hx,hR,hP⟩
   simp only at hi hx hR
   refine ⟨_,rfl,?_⟩
   refine ⟨_,op_ldo rfl rfl rfl rfl,?_⟩
   have ew58 : IntKind.wrap .i64 (n22 - u22.frm) = n22 - u22.frm := wrap_i64 (by omega) (by omega)
   iterate 2 refine ⟨_,rfl,?_⟩
   rintro (_|_) h59
   ·replace h59 : ¬ ((i : Int) < (IntKind.wrap .i64 (n22 - u22.frm))) := of_decide_eq_false h59
    rw [ew58] at h59
    refine AW.cutM (gg) st' [(2,vB false),(3,vL 3 0 (0)),(4,vI n22),(5,vL 5 0 (1)),(9,vL 9 0 (3)),(10,vB true),(11,vL 11 0 (4)),(12,vI (i : Int)),(59,vB false)] [(3,0,[vI u22.cap,vI u22.frm,vS u22.p u22.l.length]),(5,1,[vS u28.p u28.x.items.length,vS u28.q u28.x.floors.length]),(9,3,[vS u50.p u50.x.items.length,vS u50.q u50.x.floors.length]),(11,4,[vS u.p u.x.items.length,vS u.q u.x.floors.length])] ⟨rfl,rfl,rfl,rfl,rfl,rfl,rfl,rfl,rfl,trivial⟩ ⟨rfl,rfl,rfl,rfl,trivial⟩ rfl fun ρ0 ff => ?_
    have hRl := hRl.pres hP
    have hko : stateOk u.x := by rw [hx]; exact joinL_ok fun s hs => hso s (List.mem_of_mem_take hs)
    have hbu := big_ok hko
    refine cxs ?_
    refine ⟨_,op_ldo rfl rfl rfl rfl,?_⟩
    refine ⟨_,op_ldo rfl rfl rfl rfl,?_⟩
    refine ⟨_,rfl,(ac_impl_StateJoin u u28 st' hR (hR28.pres hP) hbu hb28).mono ?_⟩
    rintro _ s75 ⟨u75,b75,rfl,h75,hO75,hN75,hP75⟩
    iterate 3 refine ⟨_,rfl,?_⟩
    refine ⟨_,op_sto rfl rfl rfl rfl rfl rfl rfl,?_⟩
    refine AW.cutM (gg + 1) s75 [(2,vB false),(3,vL 3 0 (0)),(4,vI n22),(5,vL 5 0 (1)),(9,vL 9 0 (3)),(10,vB true),(13,vL 13 0 (gg))] [(3,0,[vI u22.cap,vI u22.frm,vS u22.p u22.l.length]),(5,1,[vS u28.p u28.x.items.length,vS u28.q u28.x.floors.length]),(9,3,[vS u50.p u50.x.items.length,vS u50.q u50.x.floors.length]),(13,gg,[vS u75.p u75.x.items.length,vS u75.q u75.x.floors.length])] ⟨rfl,rfl,rfl,rfl,rfl,rfl,rfl,trivial⟩ ⟨rfl,rfl,rfl,rfl,trivial⟩ rfl fun ρ0 ff => ?_
    have hx75 : u75.x = u50.x := by
     have e1 : u.x = joinL (u22.x.list.take (n22 - u22.frm).toNat) := by rw [hx]; congr 2; omega
     have e2 : u28.x = joinL (u22.x.list.drop (n22 - u22.frm).toNat) := hx28
     have hk28 : stateOk u28.x := by rw [e2]; exact joinL_ok fun s hs => hso s (List.mem_of_mem_drop hs)
     rw [joinP_yes h75 hko hk28,e1,e2,joinL_app (fun s hs => hso s (List.mem_of_mem_take hs)) (fun s hs => hso s (List.mem_of_mem_drop hs)),List.take_append_drop,hx50]
    refine ⟨_,op_ldo rfl rfl rfl rfl,?_⟩
    refine ⟨_,rfl,(ac_impl_LogDrop u22 n22 s75 ((hRl.pres hP75)) hbl).mono ?_⟩
    rintro _ s80 ⟨u80,rfl,h80,hO80,hN80,hP80⟩
    refine ⟨_,rfl,?_⟩
    refine ⟨_,op_sto rfl rfl rfl rfl rfl rfl rfl,?_⟩
    refine AW.cutM (gg + 2) s80 [(2,vB false),(3,vL 3 0 (0)),(4,vI n22),(5,vL 5 0 (1)),(9,vL 9 0 (3)),(10,vB true),(13,vL 13 0 (gg)),(15,vL 15 0 (gg + 1))] [(3,0,[vI u22.cap,vI u22.frm,vS u22.p u22.l.length]),(5,1,[vS u28.p u28.x.items.length,vS u28.q u28.x.floors.length]),(9,3,[vS u50.p u50.x.items.length,vS u50.q u50.x.floors.length]),(13,gg,[vS u75.p u75.x.items.length,vS u75.q u75.x.floors.length]),(15,gg + 1,[vI u80.cap,vI u80.frm,vS u80.p u80.l.length])] ⟨rfl,rfl,rfl,rfl,rfl,rfl,rfl,rfl,trivial⟩ ⟨rfl,rfl,rfl,rfl,rfl,trivial⟩ rfl fun ρ0 ff => ?_
    have hD := dropped hk
    have hR80 : RdL s80 u80.p u80.l := hO80.rdLW
    have hb80 : bigL u80.l := by
     have e : u80.v.x = ⟨u22.cap,n22,u22.x.list.drop (n22 - u22.frm).toNat⟩ := h80.trans (if_pos hk)
     have el : u80.l.map (·.x) = u22.x.list.drop (n22 - u22.frm).toNat := congrArg Lg.list e
     refine bigL_few ?_ fun s hs => ?_
     ·have := congrArg List.length el
      rw [List.length_map,List.length_drop,List.length_map] at this
      omega
     ·exact (h22.s s.x (List.mem_of_mem_drop (by rw [← el]; exact List.mem_map_of_mem hs))).big (by decide)
    refine ⟨_,op_ldo rfl rfl rfl rfl,?_⟩
    refine ⟨_,rfl,(ac_impl_LogSince u80.v n22 s80 hR80 hb80).mono ?_⟩
    rintro _ s84 ⟨u84,b84,rfl,h84,hO84,hN84,hP84⟩
    iterate 3 refine ⟨_,rfl,?_⟩
    refine ⟨_,op_sto rfl rfl rfl rfl rfl rfl rfl,?_⟩
    refine AW.cutM (gg + 3) s84 [(2,vB false),(3,vL 3 0 (0)),(5,vL 5 0 (1)),(9,vL 9 0 (3)),(10,vB true),(13,vL 13 0 (gg)),(15,vL 15 0 (gg + 1)),(16,vL 16 0 (gg + 2)),(17,vB b84)] [(3,0,[vI u22.cap,vI u22.frm,vS u22.p u22.l.length]),(5,1,[vS u28.p u28.x.items.length,vS u28.q u28.x.floors.length]),(9,3,[vS u50.p u50.x.items.length,vS u50.q u50.x.floors.length]),(13,gg,[vS u75.p u75.x.items.length,vS u75.q u75.x.floors.length]),(15,gg + 1,[vI u80.cap,vI u80.frm,vS u80.p u80.l.length]),(16,gg + 2,[vS u84.p u84.x.items.length,vS u84.q u84.x.floors.length])] ⟨rfl,rfl,rfl,rfl,rfl,rfl,rfl,rfl,rfl,trivial⟩ ⟨rfl,rfl,rfl,rfl,rfl,rfl,trivial⟩ rfl fun ρ0 ff => ?_
    have h84 : (u84.x,b84) = (u28.x,true) := by rw [h84,h80,hD.since,hx28]
    injection h84 with hx84 hy84
    subst hy84
    refine ⟨_,rfl,?_⟩
    refine ⟨_,op_ldo rfl rfl rfl rfl,?_⟩
    refine ⟨_,op_ldo rfl rfl rfl rfl,?_⟩
    refine ⟨_,rfl,(AC.tru (ac_impl_StateSame u75 u50 s84 ((hO75.rdS.pres hP80).pres hP84) ((((hR50.pres hP).pres hP75).pres hP80).pres hP84) (by rw [hx75]; exact hb50)) hx75).mono ?_⟩
    rintro _ s84 ⟨rfl,rfl⟩
    refine ⟨_,rfl,?_⟩
    refine ⟨_,op_ldo rfl rfl rfl rfl,?_⟩
    refine ⟨_,op_ldo rfl rfl rfl rfl,?_⟩
    refine ⟨_,rfl,(AC.tru (ac_impl_StateSame u84 u28 s84 hO84.rdS ((((hR28.pres hP).pres hP75).pres hP80).pres hP84) (by rw [hx84]; exact hb28)) hx84).mono ?_⟩
    rintro _ s84 ⟨rfl,rfl⟩
    refine ⟨_,rfl,?_⟩
    refine ⟨_,op_ldo rfl rfl rfl rfl,?_⟩
    refine ⟨_,rfl,(ac_impl_LogSeq u80.v s84 (hR80.pres hP84) hb80).mono ?_⟩
    rintro _ s84 ⟨rfl,rfl⟩
    refine ⟨fun _ _ => rfl,?_⟩
    refine ⟨_,op_ldo rfl rfl rfl rfl,?_⟩
    refine ⟨ld_own rfl rfl rfl,?_⟩
    refine owE_cut [(2,vB false),(15,vL 15 0 (gg + 1)),(101,vB true),(103,vI (logSeq u80.v.x)),(104,.agg #[vI u22.cap,vI u22.frm,vS u22.p u22.l.length])] ⟨rfl,rfl,rfl,rfl,rfl,trivial⟩ fun ρ0 => ?_
    refine ⟨_,rfl,(ac_impl_LogSeq u22 s84 (((hRl.pres hP75).pres hP80).pres hP84) hbl).mono ?_⟩
    rintro _ s84 ⟨rfl,rfl⟩
    refine ⟨_,rfl,?_⟩
    rintro (_|_) h106
    ·exact absurd ((by rw [h80]; exact hD.seq)) (beq_eq_false_iff_ne.1 h106)
    refine ⟨_,rfl,?_⟩
    refine ⟨_,op_ldo rfl rfl rfl rfl,?_⟩
    refine ⟨_,rfl,(AC.tru (ac_impl_LogOk u80.v s84 (hR80.pres hP84) hb80) (by rw [h80]; exact hD.ok)).mono ?_⟩
    rintro _ s84 ⟨rfl,rfl⟩
    refine ⟨_,rfl,?_⟩
    refine cxs ?_
    exact ⟨.inl rfl,_,rfl,rfl⟩
   ·replace h59 : (i : Int) < (IntKind.wrap .i64 (n22 - u22.frm)) := of_decide_eq_true h59
    rw [ew58] at h59
    refine AW.cutM (gg) st' [(2,vB false),(3,vL 3 0 (0)),(4,vI n22),(5,vL 5 0 (1)),(9,vL 9 0 (3)),(10,vB true),(11,vL 11 0 (4)),(12,vI (i : Int)),(59,vB true)] [(3,0,[vI u22.cap,vI u22.frm,vS u22.p u22.l.length]),(5,1,[vS u28.p u28.x.items.length,vS u28.q u28.x.floors.length]),(9,3,[vS u50.p u50.x.items.length,vS u50.q u50.x.floors.length]),(11,4,[vS u.p u.x.items.length,vS u.q u.x.floors.length])] ⟨rfl,rfl,rfl,rfl,rfl,rfl,rfl,rfl,rfl,trivial⟩ ⟨rfl,rfl,rfl,rfl,trivial⟩ rfl fun ρ0 ff => ?_
    have hRl := hRl.pres hP
    have hko : stateOk u.x := by rw [hx]; exact joinL_ok fun s hs => hso s (List.mem_of_mem_take hs)
    have hbu := big_ok hko
    refine cxs ?_
    refine ⟨_,op_ldo rfl rfl rfl rfl,?_⟩
    refine ⟨_,rfl,?_⟩
    refine ⟨_,op_ldo rfl rfl rfl rfl,?_⟩
    refine op_at i hRl.1 (by omega) rfl rfl rfl rfl rfl rfl rfl ?_
    intro x67 b67 d67 k67 hy67 hb67 hm67 hc67 ho67
    refine ⟨_,op_lda rfl rfl rfl rfl rfl hm67 hc67 rfl,?_⟩
    refine ⟨_,rfl,(ac_impl_StateJoin u x67 st' hR (hRl.2 x67 (List.mem_of_getElem? hy67)) hbu (hbl.2 x67 (List.mem_of_getElem? hy67))).mono ?_⟩
    rintro _ s69 ⟨u69,b69,rfl,h69,hO69,hN69,hP69⟩
    iterate 2 refine ⟨_,rfl,?_⟩
    refine ⟨_,op_sto rfl rfl rfl rfl rfl rfl rfl,?_⟩
    refine AW.cutM (gg) s69 [(2,vB false),(3,vL 3 0 (0)),(4,vI n22),(5,vL 5 0 (1)),(9,vL 9 0 (3)),(10,vB true),(11,vL 11 0 (4)),(12,vI (i : Int)),(59,vB true)] [(3,0,[vI u22.cap,vI u22.frm,vS u22.p u22.l.length]),(5,1,[vS u28.p u28.x.items.length,vS u28.q u28.x.floors.length]),(9,3,[vS u50.p u50.x.items.length,vS u50.q u50.x.floors.length]),(11,4,[vS u69.p u69.x.items.length,vS u69.q u69.x.floors.length])] ⟨rfl,rfl,rfl,rfl,rfl,rfl,rfl,rfl,rfl,trivial⟩ ⟨rfl,rfl,rfl,rfl,trivial⟩ rfl fun ρ0 ff => ?_
    have ew61 : IntKind.wrap .i64 ((i : Int) + (1)) = ((i + 1 : Nat) : Int) := (wrap_i64 (by omega) (by omega)).trans (by omega)
    refine ⟨_,rfl,?_⟩
    have hg : u22.x.list[i]? = some x67.x := by rw [show u22.x.list = u22.l.map (·.x) from rfl,List.getElem?_map,hy67]; rfl
    exact ⟨(i + 1,u69),(n22 - u22.frm).toNat - (i + 1),by omega,⟨rfl,rfl,rfl,rfl,rfl,rfl,rfl,congrArg (Value.int .i64) ew61,trivial⟩,⟨rfl,rfl,rfl,rfl,trivial⟩,rfl,by simp only; omega,by rw [joinP_yes h69 hko (hso _ (List.mem_of_getElem? hg)),(split_at' hg).2.1,joinL_snoc,← hx],hO69.rdS,hP.trans hP69⟩
 ·replace h19 := of_decide_eq_true h19.symm
  refine AW.cutM (0) st [(0,vS p bs.length),(2,vB false),(19,vB true)] [] ⟨rfl,rfl,rfl,trivial⟩ trivial rfl fun ρ0 ff => ?_
  refine cxs ?_
  exact ⟨.inl rfl,_,rfl,rfl⟩
end Go.Proofs.Yteabadoaeadcgaa.AM
