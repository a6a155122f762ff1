/- Part 1 of the texts on which the law's proof rests. -/
import Derived.Test.YtbogbnjnjjhnbaaGreatXcf
import Derived.Lib.Bytealg
namespace Go.Proofs.YtbogbnjnjjhnbaaGreat.AM
open Go Go.Proofs
set_option linter.unusedVariables false
set_option linter.unusedSimpArgs false
set_option maxRecDepth 100000
set_option maxHeartbeats 4000000
def putT {α : Type} (t : List α) (K : Nat) (x : α) : List α := t.take K ++ x :: t.drop (K + 1)
theorem OwnP.put {st st' : St} {q : Option Addr} {u : List RV} {K : Nat} {a : Option Addr} {l l' : List Int} (h : OwnP st (pcT q (putT u K ⟨a, l⟩))) (hp : Pr a st st') (ho : OwnR st' 1 fI a l') (hl : l'.length = l.length) : OwnP st' (pcT q (putT u K ⟨a, l'⟩)) := by
 have h1 : pcT q (putT u K ⟨a, l⟩) = (pcR 1 cRV q (putT u K ⟨a, l⟩) :: (u.take K).map pcRV) ++ pcRV ⟨a, l⟩ :: (u.drop (K + 1)).map pcRV := by simp [pcT, putT]
 have h2 : pcT q (putT u K ⟨a, l'⟩) = (pcR 1 cRV q (putT u K ⟨a, l⟩) :: (u.take K).map pcRV) ++ pcRV ⟨a, l'⟩ :: (u.drop (K + 1)).map pcRV := by simp [pcT, putT, pcR, hl]
 rw [h1] at h
 rw [h2]
 exact OwnP.update h hp (own_pc ho) rfl
theorem Frs.lw {a b : St} {u : LV} (h : Frs a b (pcL u.p u.l)) : ∃ w : LW, w.v = u ∧ Frs a b (pcLog w) := by
 obtain ⟨w, hw, hO, hC⟩ := h.1.lw
 refine ⟨w, hw, hO, ?_, h.2.2⟩
 subst hw
 show NewP a.next (w.C :: w.l.flatMap pcS)
 rw [hC]; exact h.2.1
theorem Frs.one {α : Type} {a b : St} {z : Nat} {f : α → List Value} {p : Option Addr} {l : List α} (hO : OwnR b z f p l) (hN : New a.next p) (hP : Pres a b) : Frs a b [pcR z f p l] := ⟨OwnP.one (own_pc hO), NewP.cons hN NewP.nil, hP⟩
theorem Frs.nil (a : St) : Frs a a [] := ⟨OwnP.nil, NewP.nil, Pres.refl _⟩
theorem Frs.sooner {a b c : St} {l : List Pc} (h : Frs b c l) (k : Pres a b) : Frs a c l := ⟨h.1, h.2.1.le k.1, k.trans h.2.2⟩
theorem OwnP.swap {st st' : St} {a c d b : List Pc} (h : OwnP st (a ++ (c ++ b))) (hF : Frs st st' d) : OwnP st' (a ++ (d ++ b)) :=
 (OwnP.joinF (OwnP.right (OwnP.front1 h)) hF.2.2 hF.1 hF.2.1).front1
theorem NewP.left {n : Nat} {a b : List Pc} (h : NewP n (a ++ b)) : NewP n a := fun c hc => h c (List.mem_append_left _ hc)
theorem NewP.right {n : Nat} {a b : List Pc} (h : NewP n (a ++ b)) : NewP n b := fun c hc => h c (List.mem_append_right _ hc)
theorem Frs.swap {s0 st st' : St} {a c d b : List Pc} (h : Frs s0 st (a ++ (c ++ b))) (hF : Frs st st' d) : Frs s0 st' (a ++ (d ++ b)) :=
 ⟨h.1.swap hF, h.2.1.left.app ((hF.2.1.le h.2.2.1).app h.2.1.right.right), h.2.2.trans hF.2.2⟩
theorem Frs.sess {s0 st st' : St} {v : NW} {q : SesV} (h : Frs s0 st (pcNW v)) (hF : Frs st st' (pcSes q)) : Frs s0 st' (pcNW { v with sess := q }) := by
 have e : ∀ x : SesV, pcNW { v with sess := x } = (pcS v.s ++ (pcIs v.t.toRV ++ (pcLog v.g ++ (pcIs v.got ++ (pcIs v.acked ++ pcTT v.seen))))) ++ (pcSes x ++ pcRis v.rises) := fun x => by simp only [List.append_assoc]
 rw [e]
 exact Frs.swap (c := pcSes v.sess) (by rw [← e]; exact h) hF
def cmpI (a b : Int) : Int := if a < b then -1 else if a > b then 1 else 0
def firstNZ : List Int → Int
 | [] => 0
 | x :: l => if x = 0 then firstNZ l else x
def cmpB (a b : ByteArray) : Int := Lib.compareBytes a.data.toList b.data.toList
def entCmp (a b : Ent) : Int := firstNZ [cmpI a.inc b.inc, cmpI a.rank b.rank, cmpI a.beat b.beat, cmpI a.ver b.ver, cmpB a.data b.data]
def entMax (a b : Ent) : Ent := if entCmp a b < 0 then b else a
theorem compareBytes_less : ∀ (a b : List UInt8), Lib.compareBytes a b = if Op.bytesLess a b = true then -1 else if (a == b) = true then 0 else 1
 | [], [] => by simp [Lib.compareBytes, Op.bytesLess]
 | [], b :: bs => by simp [Lib.compareBytes, Op.bytesLess]
 | a :: l, [] => by simp [Lib.compareBytes, Op.bytesLess]
 | a :: l, b :: bs => by
  have ih := compareBytes_less l bs
  unfold Lib.compareBytes
  by_cases h1 : a < b
  ·simp [Op.bytesLess, h1]
  ·by_cases h2 : b < a
   ·have hne : ¬ a = b := fun h => by rw [h] at h2; exact UInt8.lt_irrefl _ h2
    simp [Op.bytesLess, h1, h2, hne]
   ·have he : a = b := UInt8.le_antisymm (UInt8.not_lt.1 h2) (UInt8.not_lt.1 h1)
    subst he
    simp only [h1, if_false, ih, Op.bytesLess, beq_self_eq_true, Bool.true_and, Bool.false_or, decide_false]
    simp
theorem ac_cmpstring (a b : ByteArray) (st : St) : C 202 [.string a, .string b] st (fun v s => v = vI (cmpB a b) ∧ s = st) :=
 AC.ext Tryz.func202 rfl rfl ⟨rfl, rfl⟩
theorem ac_bytealg_CompareString (a b : ByteArray) (st : St) : C 200 [.string a, .string b] st (fun v s => v = vI (cmpB a b) ∧ s = st) := by
 refine AC.enterX (i := ⟨[], [], [0, 1, 4]⟩) [] Tryz.func200 rfl rfl (by kernel_rfl) (by kernel_rfl) Tryz.ntmps200 (Nat.le_of_ble_eq_true rfl) rfl ?_
 refine AW.cut lo0 st [(0, .string a), (1, .string b), (4, vI (0))] ⟨rfl, rfl, rfl, trivial⟩ fun ρ0 => ?_
 refine ⟨_, rfl, (ac_cmpstring a b st).mono ?_⟩
 rintro _ st ⟨rfl, rfl⟩
 refine cxs ?_
 exact ⟨.inl rfl, _, rfl, rfl, rfl⟩
theorem ac_strings_Compare (a b : ByteArray) (st : St) : C 192 [.string a, .string b] st (fun v s => v = vI (cmpB a b) ∧ s = st) := by
 refine AC.enterX (i := ⟨[], [], [0, 1, 4]⟩) [] Tryz.func192 rfl rfl (by kernel_rfl) (by kernel_rfl) Tryz.ntmps192 (Nat.le_of_ble_eq_true rfl) rfl ?_
 refine AW.cut lo0 st [(0, .string a), (1, .string b), (4, vI (0))] ⟨rfl, rfl, rfl, trivial⟩ fun ρ0 => ?_
 refine ⟨_, rfl, (ac_bytealg_CompareString a b st).mono ?_⟩
 rintro _ st ⟨rfl, rfl⟩
 refine cxs ?_
 exact ⟨.inl rfl, _, rfl, rfl, rfl⟩
theorem ac_cmp_isNaN (a : Int) (st : St) : C 199 [vI a] st (fun v s => v = vB false ∧ s = st) := by
 refine AC.enterX (i := ⟨[], [], [0, 2]⟩) [] Tryz.func199 rfl rfl (by kernel_rfl) (by kernel_rfl) Tryz.ntmps199 (Nat.le_of_ble_eq_true rfl) rfl ?_
 refine AW.cut lo0 st [(0, vI a), (2, vB false)] ⟨rfl, rfl, trivial⟩ fun ρ0 => ?_
 refine ⟨_, rfl, ?_⟩
 rintro (_|_) h
 rotate_left
 ·exact absurd (rfl) (bne_iff_ne.1 h)
 refine cxs ?_
 exact ⟨.inl rfl, _, rfl, rfl, rfl⟩
theorem ac_cmp_Compare (a b : Int) (st : St) : C 191 [vI a, vI b] st (fun v s => v = vI (cmpI a b) ∧ s = st) := by
 refine AC.enterX (i := ⟨[], [], [0, 1, 4, 5, 6, 11, 12, 13, 16, 19]⟩) [] Tryz.func191 rfl rfl (by kernel_rfl) (by kernel_rfl) Tryz.ntmps191 (Nat.le_of_ble_eq_true rfl) rfl ?_
 refine AW.cut lo0 st [(0, vI a), (1, vI b), (4, vI (0))] ⟨rfl, rfl, rfl, trivial⟩ fun ρ0 => ?_
 refine ⟨_, rfl, (ac_cmp_isNaN a st).mono ?_⟩
 rintro _ st ⟨rfl, rfl⟩
 refine AW.cut lo0 st [(0, vI a), (1, vI b), (4, vI (0)), (5, vB false)] ⟨rfl, rfl, rfl, rfl, trivial⟩ fun ρ0 => ?_
 refine ⟨_, rfl, (ac_cmp_isNaN b st).mono ?_⟩
 rintro _ st ⟨rfl, rfl⟩
 refine cxs ?_
 refine AW.cut lo0 st [(0, vI a), (1, vI b), (4, vI (0)), (6, vB false), (11, vB false)] ⟨rfl, rfl, rfl, rfl, rfl, trivial⟩ fun ρ0 => ?_
 refine cxs ?_
 refine AW.cut lo0 st [(0, vI a), (1, vI b), (4, vI (0)), (13, vB false)] ⟨rfl, rfl, rfl, rfl, trivial⟩ fun ρ0 => ?_
 refine cxs ?_
 refine ⟨_, rfl, ?_⟩
 rintro (_|_) h1
 ·replace h1 : ¬ (a < b) := of_decide_eq_false h1
  refine AW.cut lo0 st [(0, vI a), (1, vI b), (4, vI (0)), (16, vB false)] ⟨rfl, rfl, rfl, rfl, trivial⟩ fun ρ0 => ?_
  refine cxs ?_
  refine ⟨_, rfl, ?_⟩
  rintro (_|_) h2
  ·replace h2 : ¬ (a > b) := of_decide_eq_false h2
   refine AW.cut lo0 st [(4, vI (0)), (19, vB false)] ⟨rfl, rfl, trivial⟩ fun ρ0 => ?_
   refine cxs ?_
   refine cxs ?_
   exact ⟨.inl rfl, _, rfl, congrArg vI (by rw [cmpI, if_neg h1, if_neg h2]), rfl⟩
  ·replace h2 : a > b := of_decide_eq_true h2
   refine AW.cut lo0 st [(4, vI (0)), (19, vB true)] ⟨rfl, rfl, trivial⟩ fun ρ0 => ?_
   refine cxs ?_
   exact ⟨.inl rfl, _, rfl, congrArg vI (by rw [cmpI, if_neg h1, if_pos h2]), rfl⟩
 ·replace h1 : a < b := of_decide_eq_true h1
  refine AW.cut lo0 st [(0, vI a), (1, vI b), (4, vI (0)), (16, vB true)] ⟨rfl, rfl, rfl, rfl, trivial⟩ fun ρ0 => ?_
  refine cxs ?_
  exact ⟨.inl rfl, _, rfl, congrArg vI (by rw [cmpI, if_pos h1]), rfl⟩
theorem ac_cmp_Or (p : Option Addr) (l : List Int) (st : St) (hR : Rows st 1 fI p l) (hs : szOk l.length) : C 190 [vS p l.length] st (fun v s => v = vI (firstNZ l) ∧ s = st) := by
 have hs : l.length ≤ 1048576 := hs
 refine AC.enterX (i := ⟨[], [], [0, 2, 3, 5, 6, 7, 8, 9, 14]⟩) [] Tryz.func190 rfl rfl (by kernel_rfl) (by kernel_rfl) Tryz.ntmps190 (Nat.le_of_ble_eq_true rfl) rfl ?_
 refine cxs ?_
 refine AW.cut lo0 st [(0, vS p l.length), (2, vI (0)), (3, vI (0))] ⟨rfl, rfl, rfl, trivial⟩ fun ρ0 => ?_
 refine ⟨_, rfl, ?_⟩
 refine AW.cut lo0 st [(2, vI (0)), (3, vI (0)), (6, vS p l.length), (7, vI (l.length)), (8, vI (0))] ⟨rfl, rfl, rfl, rfl, rfl, trivial⟩ fun ρ0 => ?_
 refine AW.loop0 (fun i : Nat => [(3, vI 0), (6, vS p l.length), (7, vI (l.length : Int)), (8, vI (i : Int))]) (fun m (i : Nat) st' => m = l.length - i ∧ i ≤ l.length ∧ firstNZ l = firstNZ (l.drop i) ∧ st = st') 0 _ ⟨rfl, rfl, rfl, rfl, trivial⟩ rfl ⟨rfl, Nat.zero_le _, rfl, rfl⟩ ?_
 rintro m i ρ0 st' ⟨rfl, hi, hf, rfl⟩
 refine ⟨_, rfl, ?_⟩
 rintro (_|_) h1
 ·replace h1 : ¬ ((i : Int) < (l.length : Int)) := of_decide_eq_false h1
  refine AW.cut lo0 st [(3, vI 0), (6, vS p l.length), (7, vI (l.length : Int)), (8, vI (i : Int)), (9, vB false)] ⟨rfl, rfl, rfl, rfl, rfl, trivial⟩ fun ρ0 => ?_
  refine cxs ?_
  refine cxs ?_
  have hil : i = l.length := by omega
  exact ⟨.inl rfl, _, rfl, congrArg vI (by rw [hf, hil, List.drop_length]; rfl), rfl⟩
 ·replace h1 : (i : Int) < (l.length : Int) := of_decide_eq_true h1
  refine AW.cut lo0 st [(3, vI 0), (6, vS p l.length), (7, vI (l.length : Int)), (8, vI (i : Int)), (9, vB true)] ⟨rfl, rfl, rfl, rfl, rfl, trivial⟩ fun ρ0 => ?_
  have h1' := Int.ofNat_lt.1 h1
  have ⟨b1, o1, k1, x, hpe, hx, hm1, hc1, hb1⟩ := hR.atB h1'
  rw [(split_at' hx).2.2, firstNZ] at hf
  refine cxs ?_
  refine ⟨_, op_idx (j := (i : Int)) (n := l.length) (q := ⟨b1, o1, none⟩) rfl (congrArg (fun u => vS u l.length) hpe) rfl rfl rfl (Int.natCast_nonneg _) h1, ?_⟩
  refine ⟨_, op_ldc (i := 0) rfl rfl rfl rfl hm1 hc1 rfl rfl, ?_⟩
  refine AW.cut lo0 st [(3, vI 0), (5, vI x), (6, vS p l.length), (7, vI (l.length : Int)), (8, vI (i : Int)), (9, vB true)] ⟨rfl, rfl, rfl, rfl, rfl, rfl, trivial⟩ fun ρ0 => ?_
  refine ⟨_, rfl, ?_⟩
  rintro (_|_) h2
  ·replace h2 : x = 0 := bne_eq_false_iff_eq.1 h2
   refine AW.cut lo0 st [(3, vI 0), (5, vI x), (6, vS p l.length), (7, vI (l.length : Int)), (8, vI (i : Int)), (9, vB true), (14, vB false)] ⟨rfl, rfl, rfl, rfl, rfl, rfl, rfl, trivial⟩ fun ρ0 => ?_
   refine cxs ?_
   have e16 : IntKind.wrap .i64 ((i : Int) + 1) = ((i + 1 : Nat) : Int) := (wrap_i64 (by omega) (by omega)).trans (by omega)
   refine ⟨_, rfl, ?_⟩
   exact ⟨i + 1, l.length - (i + 1), by omega, ⟨rfl, rfl, rfl, congrArg (Value.int .i64) e16, trivial⟩, rfl, rfl, h1', by rw [hf, if_pos h2], rfl⟩
  ·replace h2 : ¬ (x = 0) := bne_iff_ne.1 h2
   refine AW.cut lo0 st [(3, vI 0), (5, vI x), (6, vS p l.length), (7, vI (l.length : Int)), (8, vI (i : Int)), (9, vB true), (14, vB true)] ⟨rfl, rfl, rfl, rfl, rfl, rfl, rfl, trivial⟩ fun ρ0 => ?_
   refine cxs ?_
   exact ⟨.inl rfl, _, rfl, congrArg vI (by rw [hf, if_neg h2]), rfl⟩
theorem ac_impl_EntryCmp (a b : Ent) (st : St) : C 178 [.agg #[vI a.inc, vI a.rank, vI a.beat, vI a.ver, .string a.data], .agg #[vI b.inc, vI b.rank, vI b.beat, vI b.ver, .string b.data]] st (fun v s => v = vI (entCmp a b) ∧ Pres st s) := by
 refine AC.enterX (i := ⟨[2, 3], [2, 3, 5, 7, 10, 12, 15, 17, 20, 22, 25, 27], [0, 1, 2, 3, 4]⟩) [(1, [4, 9, 14, 19], [6, 8, 11, 13, 16, 18, 21, 23])] Tryz.func178 rfl rfl (by kernel_rfl) (by kernel_rfl) Tryz.ntmps178 (Nat.le_of_ble_eq_true rfl) rfl ?_
 iterate 2 refine ⟨_, rfl, ?_⟩
 refine AW.cutM (2) st [(2, vL 2 0 (0)), (3, vL 3 0 (1)), (4, vI (0))] [(2, 0, [vI a.inc, vI a.rank, vI a.beat, vI a.ver, .string a.data]), (3, 1, [vI b.inc, vI b.rank, vI b.beat, vI b.ver, .string b.data])] ⟨rfl, rfl, rfl, trivial⟩ ⟨rfl, rfl, trivial⟩ rfl fun ρ0 ff => ?_
 iterate 4 refine ⟨_, rfl, ?_⟩
 refine ⟨_, rfl, (ac_cmp_Compare a.inc b.inc st).mono ?_⟩
 rintro _ st ⟨rfl, rfl⟩
 refine ⟨fun _ _ => rfl, ?_⟩
 iterate 2 refine ⟨_, rfl, ?_⟩
 refine ⟨ld_own rfl rfl rfl, ?_⟩
 iterate 2 refine ⟨_, rfl, ?_⟩
 refine ⟨ld_own rfl rfl rfl, ?_⟩
 refine ⟨_, rfl, (ac_cmp_Compare a.rank b.rank st).mono ?_⟩
 rintro _ st ⟨rfl, rfl⟩
 refine ⟨fun _ _ => rfl, ?_⟩
 iterate 2 refine ⟨_, rfl, ?_⟩
 refine ⟨ld_own rfl rfl rfl, ?_⟩
 iterate 2 refine ⟨_, rfl, ?_⟩
 refine ⟨ld_own rfl rfl rfl, ?_⟩
 refine ⟨_, rfl, (ac_cmp_Compare a.beat b.beat st).mono ?_⟩
 rintro _ st ⟨rfl, rfl⟩
 refine ⟨fun _ _ => rfl, ?_⟩
 iterate 2 refine ⟨_, rfl, ?_⟩
 refine ⟨ld_own rfl rfl rfl, ?_⟩
 iterate 2 refine ⟨_, rfl, ?_⟩
 refine ⟨ld_own rfl rfl rfl, ?_⟩
 refine ⟨_, rfl, (ac_cmp_Compare a.ver b.ver st).mono ?_⟩
 rintro _ st ⟨rfl, rfl⟩
 refine ⟨fun _ _ => rfl, ?_⟩
 iterate 2 refine ⟨_, rfl, ?_⟩
 refine ⟨ld_own rfl rfl rfl, ?_⟩
 iterate 2 refine ⟨_, rfl, ?_⟩
 refine ⟨ld_own rfl rfl rfl, ?_⟩
 refine ⟨_, rfl, (ac_strings_Compare a.data b.data st).mono ?_⟩
 rintro _ st ⟨rfl, rfl⟩
 refine op_litI (k := .i64) (l := [cmpI a.inc b.inc, cmpI a.rank b.rank, cmpI a.beat b.beat, cmpI a.ver b.ver, cmpB a.data b.data]) rfl rfl rfl rfl rfl rfl (Nat.le_of_ble_eq_true rfl) ?_
 intro q s1 hO1 hP1 hN1
 refine ⟨_, rfl, (ac_cmp_Or q [cmpI a.inc b.inc, cmpI a.rank b.rank, cmpI a.beat b.beat, cmpI a.ver b.ver, cmpB a.data b.data] s1 (hO1.rows fI_len) (show 5 ≤ 1048576 by decide)).mono ?_⟩
 rintro _ s1 ⟨rfl, rfl⟩
 refine cxs ?_
 exact ⟨.inl rfl, _, rfl, rfl, hP1⟩
theorem ac_impl_EntryMax (a b : Ent) (st : St) : C 159 [.agg #[vI a.inc, vI a.rank, vI a.beat, vI a.ver, .string a.data], .agg #[vI b.inc, vI b.rank, vI b.beat, vI b.ver, .string b.data]] st (fun v s => ∃ e, v = .agg #[vI e.inc, vI e.rank, vI e.beat, vI e.ver, .string e.data] ∧ e = entMax a b ∧ Pres st s) := by
 refine AC.enterX (i := ⟨[2, 3, 4], [2, 3, 4], [0, 1, 2, 3, 4, 8]⟩) [] Tryz.func159 rfl rfl (by kernel_rfl) (by kernel_rfl) Tryz.ntmps159 (Nat.le_of_ble_eq_true rfl) rfl ?_
 iterate 3 refine ⟨_, rfl, ?_⟩
 refine AW.cutM (3) st [(2, vL 2 0 (0)), (3, vL 3 0 (1)), (4, vL 4 0 (2))] [(2, 0, [vI a.inc, vI a.rank, vI a.beat, vI a.ver, .string a.data]), (3, 1, [vI b.inc, vI b.rank, vI b.beat, vI b.ver, .string b.data]), (4, 2, [vI 0, vI 0, vI 0, vI 0, .string ⟨#[]⟩])] ⟨rfl, rfl, rfl, trivial⟩ ⟨rfl, rfl, rfl, trivial⟩ rfl fun ρ0 ff => ?_
 iterate 2 refine ⟨_, rfl, ?_⟩
 refine ⟨_, rfl, (ac_impl_EntryCmp a b st).mono ?_⟩
 rintro _ s1 ⟨rfl, hP1⟩
 refine ⟨_, rfl, ?_⟩
 rintro (_|_) h1
 ·replace h1 : ¬ (entCmp a b < 0) := of_decide_eq_false h1
  refine AW.cutM (3) s1 [(2, vL 2 0 (0)), (3, vL 3 0 (1)), (4, vL 4 0 (2)), (8, vB false)] [(2, 0, [vI a.inc, vI a.rank, vI a.beat, vI a.ver, .string a.data]), (3, 1, [vI b.inc, vI b.rank, vI b.beat, vI b.ver, .string b.data]), (4, 2, [vI 0, vI 0, vI 0, vI 0, .string ⟨#[]⟩])] ⟨rfl, rfl, rfl, rfl, trivial⟩ ⟨rfl, rfl, rfl, trivial⟩ rfl fun ρ0 ff => ?_
  refine cxs ?_
  iterate 2 refine ⟨_, rfl, ?_⟩
  refine cxs ?_
  exact ⟨.inl rfl, _, rfl, a, rfl, by rw [entMax, if_neg h1], hP1⟩
 ·replace h1 : entCmp a b < 0 := of_decide_eq_true h1
  refine AW.cutM (3) s1 [(2, vL 2 0 (0)), (3, vL 3 0 (1)), (4, vL 4 0 (2)), (8, vB true)] [(2, 0, [vI a.inc, vI a.rank, vI a.beat, vI a.ver, .string a.data]), (3, 1, [vI b.inc, vI b.rank, vI b.beat, vI b.ver, .string b.data]), (4, 2, [vI 0, vI 0, vI 0, vI 0, .string ⟨#[]⟩])] ⟨rfl, rfl, rfl, rfl, trivial⟩ ⟨rfl, rfl, rfl, trivial⟩ rfl fun ρ0 ff => ?_
  iterate 2 refine ⟨_, rfl, ?_⟩
  refine cxs ?_
  exact ⟨.inl rfl, _, rfl, b, rfl, by rw [entMax, if_pos h1], hP1⟩
theorem ac_spec_l1BitT (st : St) : C 189 [vB true] st (fun v s => v = vI 1 ∧ s = st) := by
 refine AC.enterX (i := ⟨[], [], [0, 2, 3]⟩) [] Tryz.func189 rfl rfl (by kernel_rfl) (by kernel_rfl) Tryz.ntmps189 (Nat.le_of_ble_eq_true rfl) rfl ?_
 refine cxs ?_
 refine AW.cut lo0 st [(2, vI (0)), (3, vB true)] ⟨rfl, rfl, trivial⟩ fun ρ0 => ?_
 refine cxs ?_
 exact ⟨.inl rfl, _, rfl, rfl, rfl⟩
theorem ac_spec_l1BitF (st : St) : C 189 [vB false] st (fun v s => v = vI 0 ∧ s = st) := by
 refine AC.enterX (i := ⟨[], [], [0, 2, 3]⟩) [] Tryz.func189 rfl rfl (by kernel_rfl) (by kernel_rfl) Tryz.ntmps189 (Nat.le_of_ble_eq_true rfl) rfl ?_
 refine cxs ?_
 refine AW.cut lo0 st [(2, vI (0)), (3, vB false)] ⟨rfl, rfl, trivial⟩ fun ρ0 => ?_
 refine cxs ?_
 refine cxs ?_
 exact ⟨.inl rfl, _, rfl, rfl, rfl⟩
theorem ac_spec_l2Cmp (a b : Int) (st : St) : C 188 [vI a, vI b] st (fun v s => v = vI (cmpI a b) ∧ s = st) := by
 refine AC.enterX (i := ⟨[], [], [0, 1, 4, 7]⟩) [] Tryz.func188 rfl rfl (by kernel_rfl) (by kernel_rfl) Tryz.ntmps188 (Nat.le_of_ble_eq_true rfl) rfl ?_
 refine AW.cut lo0 st [(0, vI a), (1, vI b), (4, vI (0))] ⟨rfl, rfl, rfl, trivial⟩ fun ρ0 => ?_
 refine ⟨_, rfl, ?_⟩
 rintro (_|_) h1
 ·replace h1 : ¬ (a < b) := of_decide_eq_false h1
  refine AW.cut lo0 st [(0, vI a), (1, vI b), (4, vI (0)), (7, vB false)] ⟨rfl, rfl, rfl, rfl, trivial⟩ fun ρ0 => ?_
  refine cxs ?_
  refine ⟨_, rfl, ?_⟩
  rintro (_|_) h2
  ·replace h2 : ¬ (a > b) := of_decide_eq_false h2
   refine ⟨_, rfl, (ac_spec_l1BitF st).mono ?_⟩
   rintro _ st ⟨rfl, rfl⟩
   refine cxs ?_
   exact ⟨.inl rfl, _, rfl, congrArg vI (by rw [cmpI, if_neg h1, if_neg h2]), rfl⟩
  ·replace h2 : a > b := of_decide_eq_true h2
   refine ⟨_, rfl, (ac_spec_l1BitT st).mono ?_⟩
   rintro _ st ⟨rfl, rfl⟩
   refine cxs ?_
   exact ⟨.inl rfl, _, rfl, congrArg vI (by rw [cmpI, if_neg h1, if_pos h2]), rfl⟩
 ·replace h1 : a < b := of_decide_eq_true h1
  refine AW.cut lo0 st [(0, vI a), (1, vI b), (4, vI (0)), (7, vB true)] ⟨rfl, rfl, rfl, rfl, trivial⟩ fun ρ0 => ?_
  refine cxs ?_
  exact ⟨.inl rfl, _, rfl, congrArg vI (by rw [cmpI, if_pos h1]), rfl⟩
abbrev four (a b : Ent) : List Int := [cmpI a.inc b.inc, cmpI a.rank b.rank, cmpI a.beat b.beat, cmpI a.ver b.ver]
theorem ac_spec_EntryCmp (a b : Ent) (st : St) : C 173 [.agg #[vI a.inc, vI a.rank, vI a.beat, vI a.ver, .string a.data], .agg #[vI b.inc, vI b.rank, vI b.beat, vI b.ver, .string b.data]] st (fun v s => v = vI (entCmp a b) ∧ Pres st s) := by
 refine AC.enterX (i := ⟨[2, 3], [2, 3, 7, 9, 12, 14, 17, 19, 22, 24, 43, 45, 48, 50], [0, 1, 2, 3, 4, 5, 6, 31, 38, 47]⟩) [(1, [4, 9, 14], [6, 8, 11, 13, 16, 18])] Tryz.func173 rfl rfl (by kernel_rfl) (by kernel_rfl) Tryz.ntmps173 (Nat.le_of_ble_eq_true rfl) rfl ?_
 iterate 2 refine ⟨_, rfl, ?_⟩
 refine AW.cutM (2) st [(2, vL 2 0 (0)), (3, vL 3 0 (1)), (4, vI (0))] [(2, 0, [vI a.inc, vI a.rank, vI a.beat, vI a.ver, .string a.data]), (3, 1, [vI b.inc, vI b.rank, vI b.beat, vI b.ver, .string b.data])] ⟨rfl, rfl, rfl, trivial⟩ ⟨rfl, rfl, trivial⟩ rfl fun ρ0 ff => ?_
 iterate 4 refine ⟨_, rfl, ?_⟩
 refine ⟨_, rfl, (ac_spec_l2Cmp a.inc b.inc st).mono ?_⟩
 rintro _ st ⟨rfl, rfl⟩
 refine ⟨fun _ _ => rfl, ?_⟩
 iterate 2 refine ⟨_, rfl, ?_⟩
 refine ⟨ld_own rfl rfl rfl, ?_⟩
 iterate 2 refine ⟨_, rfl, ?_⟩
 refine ⟨ld_own rfl rfl rfl, ?_⟩
 refine ⟨_, rfl, (ac_spec_l2Cmp a.rank b.rank st).mono ?_⟩
 rintro _ st ⟨rfl, rfl⟩
 refine ⟨fun _ _ => rfl, ?_⟩
 iterate 2 refine ⟨_, rfl, ?_⟩
 refine ⟨ld_own rfl rfl rfl, ?_⟩
 iterate 2 refine ⟨_, rfl, ?_⟩
 refine ⟨ld_own rfl rfl rfl, ?_⟩
 refine ⟨_, rfl, (ac_spec_l2Cmp a.beat b.beat st).mono ?_⟩
 rintro _ st ⟨rfl, rfl⟩
 refine ⟨fun _ _ => rfl, ?_⟩
 iterate 2 refine ⟨_, rfl, ?_⟩
 refine ⟨ld_own rfl rfl rfl, ?_⟩
 iterate 2 refine ⟨_, rfl, ?_⟩
 refine ⟨ld_own rfl rfl rfl, ?_⟩
 refine ⟨_, rfl, (ac_spec_l2Cmp a.ver b.ver st).mono ?_⟩
 rintro _ st ⟨rfl, rfl⟩
 refine op_litI (k := .i64) (l := four a b) rfl rfl rfl rfl rfl rfl (Nat.le_of_ble_eq_true rfl) ?_
 intro q s1 hO1 hP1 hN1
 refine cxs ?_
 refine AW.cutM (2) s1 [(2, vL 2 0 (0)), (3, vL 3 0 (1)), (4, vI (0)), (5, vS q 4), (6, vI (0))] [(2, 0, [vI a.inc, vI a.rank, vI a.beat, vI a.ver, .string a.data]), (3, 1, [vI b.inc, vI b.rank, vI b.beat, vI b.ver, .string b.data])] ⟨rfl, rfl, rfl, rfl, rfl, trivial⟩ ⟨rfl, rfl, trivial⟩ rfl fun ρ0 ff => ?_
 refine AW.loopM (fun i : Nat => [(2, vL 2 0 (0)), (3, vL 3 0 (1)), (5, vS q 4), (6, vI (i : Int))]) (fun i : Nat => [(2, 0, [vI a.inc, vI a.rank, vI a.beat, vI a.ver, .string a.data]), (3, 1, [vI b.inc, vI b.rank, vI b.beat, vI b.ver, .string b.data])]) (fun m (i : Nat) st' => m = 4 - i ∧ i ≤ 4 ∧ entCmp a b = firstNZ ((four a b).drop i ++ [cmpB a.data b.data]) ∧ s1 = st') 0 _ ⟨rfl, rfl, rfl, rfl, trivial⟩ ⟨rfl, rfl, trivial⟩ ⟨rfl, Nat.zero_le _, rfl, rfl⟩ ?_
 rintro m i ρ0 ff gg st' ⟨rfl, hi, hf, rfl⟩
 iterate 2 refine ⟨_, rfl, ?_⟩
 rintro (_|_) h1
 ·replace h1 : ¬ ((i : Int) < 4) := of_decide_eq_false h1
  refine AW.cutM (gg) s1 [(2, vL 2 0 (0)), (3, vL 3 0 (1)), (5, vS q 4), (6, vI (i : Int)), (31, vB false)] [(2, 0, [vI a.inc, vI a.rank, vI a.beat, vI a.ver, .string a.data]), (3, 1, [vI b.inc, vI b.rank, vI b.beat, vI b.ver, .string b.data])] ⟨rfl, rfl, rfl, rfl, rfl, trivial⟩ ⟨rfl, rfl, trivial⟩ rfl fun ρ0 ff => ?_
  have hil : i = 4 := by omega
  have hf : entCmp a b = firstNZ [cmpB a.data b.data] := by rw [hf, hil]; rfl
  have hf : entCmp a b = cmpB a.data b.data := by rw [hf, firstNZ, firstNZ]; split <;> simp [*]
  have hcb := compareBytes_less a.data.data.toList b.data.data.toList
  have hcb : cmpB a.data b.data = if Op.bytesLess a.data.toList b.data.toList = true then -1 else if (a.data.toList == b.data.toList) = true then 0 else 1 := by rw [ByteArray.toList_eq, ByteArray.toList_eq]; exact hcb
  refine cxs ?_
  refine ⟨_, rfl, ?_⟩
  refine ⟨_, op_ldo rfl rfl rfl rfl, ?_⟩
  refine ⟨_, rfl, ?_⟩
  refine ⟨_, op_ldo rfl rfl rfl rfl, ?_⟩
  refine ⟨_, rfl, ?_⟩
  rintro (_|_) h3
  ·refine AW.cutM (gg) s1 [(2, vL 2 0 (0)), (3, vL 3 0 (1)), (47, vB false)] [(2, 0, [vI a.inc, vI a.rank, vI a.beat, vI a.ver, .string a.data]), (3, 1, [vI b.inc, vI b.rank, vI b.beat, vI b.ver, .string b.data])] ⟨rfl, rfl, rfl, trivial⟩ ⟨rfl, rfl, trivial⟩ rfl fun ρ0 ff => ?_
   refine cxs ?_
   refine ⟨_, rfl, ?_⟩
   refine ⟨_, op_ldo rfl rfl rfl rfl, ?_⟩
   refine ⟨_, rfl, ?_⟩
   refine ⟨_, op_ldo rfl rfl rfl rfl, ?_⟩
   refine ⟨_, rfl, ?_⟩
   rintro (_|_) h4
   ·refine ⟨_, rfl, (ac_spec_l1BitF s1).mono ?_⟩
    rintro _ s1 ⟨rfl, rfl⟩
    refine cxs ?_
    have h3 : Op.bytesLess a.data.toList b.data.toList = false := h3
    have h4 : (!(Op.bytesLess a.data.toList b.data.toList || a.data.toList == b.data.toList)) = false := h4
    have h5 : (a.data.toList == b.data.toList) = true := by rw [h3, Bool.false_or] at h4; simpa using h4
    exact ⟨.inl rfl, _, rfl, congrArg vI (by rw [hf, hcb, h3, h5]; rfl), hP1⟩
   ·refine ⟨_, rfl, (ac_spec_l1BitT s1).mono ?_⟩
    rintro _ s1 ⟨rfl, rfl⟩
    refine cxs ?_
    have h3 : Op.bytesLess a.data.toList b.data.toList = false := h3
    have h4 : (!(Op.bytesLess a.data.toList b.data.toList || a.data.toList == b.data.toList)) = true := h4
    have h5 : (a.data.toList == b.data.toList) = false := by rw [h3, Bool.false_or] at h4; simpa using h4
    exact ⟨.inl rfl, _, rfl, congrArg vI (by rw [hf, hcb, h3, h5]; rfl), hP1⟩
  ·refine AW.cutM (gg) s1 [(2, vL 2 0 (0)), (3, vL 3 0 (1)), (47, vB true)] [(2, 0, [vI a.inc, vI a.rank, vI a.beat, vI a.ver, .string a.data]), (3, 1, [vI b.inc, vI b.rank, vI b.beat, vI b.ver, .string b.data])] ⟨rfl, rfl, rfl, trivial⟩ ⟨rfl, rfl, trivial⟩ rfl fun ρ0 ff => ?_
   refine cxs ?_
   have h3 : Op.bytesLess a.data.toList b.data.toList = true := h3
   exact ⟨.inl rfl, _, rfl, congrArg vI (by rw [hf, hcb, if_pos h3]), hP1⟩
 ·replace h1 : (i : Int) < 4 := of_decide_eq_true h1
  refine AW.cutM (gg) s1 [(2, vL 2 0 (0)), (3, vL 3 0 (1)), (5, vS q 4), (6, vI (i : Int)), (31, vB true)] [(2, 0, [vI a.inc, vI a.rank, vI a.beat, vI a.ver, .string a.data]), (3, 1, [vI b.inc, vI b.rank, vI b.beat, vI b.ver, .string b.data])] ⟨rfl, rfl, rfl, rfl, rfl, trivial⟩ ⟨rfl, rfl, trivial⟩ rfl fun ρ0 ff => ?_
  have h1' : i < (four a b).length := by simp only [List.length_cons, List.length_nil]; omega
  have ⟨b1, o1, k1, x, hpe, hx, hm1, hc1, hb1⟩ := (hO1.rows fI_len).atB h1'
  rw [(split_at' hx).2.2, List.cons_append, firstNZ] at hf
  refine cxs ?_
  refine ⟨_, op_idx (j := (i : Int)) (n := 4) (q := ⟨b1, o1, none⟩) rfl (congrArg (fun u => vS u 4) hpe) rfl rfl rfl (Int.natCast_nonneg _) h1, ?_⟩
  refine ⟨_, op_ldc (i := 0) rfl rfl rfl rfl hm1 hc1 rfl rfl, ?_⟩
  refine ⟨_, rfl, ?_⟩
  rintro (_|_) h2
  ·replace h2 : x = 0 := bne_eq_false_iff_eq.1 h2
   refine AW.cutM (gg) s1 [(2, vL 2 0 (0)), (3, vL 3 0 (1)), (5, vS q 4), (6, vI (i : Int)), (31, vB true), (38, vB false)] [(2, 0, [vI a.inc, vI a.rank, vI a.beat, vI a.ver, .string a.data]), (3, 1, [vI b.inc, vI b.rank, vI b.beat, vI b.ver, .string b.data])] ⟨rfl, rfl, rfl, rfl, rfl, rfl, trivial⟩ ⟨rfl, rfl, trivial⟩ rfl fun ρ0 ff => ?_
   refine cxs ?_
   have e33 : IntKind.wrap .i64 ((i : Int) + 1) = ((i + 1 : Nat) : Int) := (wrap_i64 (by omega) (by omega)).trans (by omega)
   refine ⟨_, rfl, ?_⟩
   exact ⟨i + 1, 4 - (i + 1), by omega, ⟨rfl, rfl, rfl, congrArg (Value.int .i64) e33, trivial⟩, ⟨rfl, rfl, trivial⟩, rfl, by omega, by rw [hf, if_pos h2], rfl⟩
  ·replace h2 : ¬ (x = 0) := bne_iff_ne.1 h2
   refine AW.cutM (gg) s1 [(2, vL 2 0 (0)), (3, vL 3 0 (1)), (5, vS q 4), (6, vI (i : Int)), (31, vB true), (38, vB true)] [(2, 0, [vI a.inc, vI a.rank, vI a.beat, vI a.ver, .string a.data]), (3, 1, [vI b.inc, vI b.rank, vI b.beat, vI b.ver, .string b.data])] ⟨rfl, rfl, rfl, rfl, rfl, rfl, trivial⟩ ⟨rfl, rfl, trivial⟩ rfl fun ρ0 ff => ?_
   refine ⟨_, op_idx (j := (i : Int)) (n := 4) (q := ⟨b1, o1, none⟩) rfl (congrArg (fun u => vS u 4) hpe) rfl rfl rfl (Int.natCast_nonneg _) h1, ?_⟩
   refine ⟨_, op_ldc (i := 0) rfl rfl rfl rfl hm1 hc1 rfl rfl, ?_⟩
   refine cxs ?_
   exact ⟨.inl rfl, _, rfl, congrArg vI (by rw [hf, if_neg h2]), hP1⟩
abbrev topF (a b : Sta) (id : Int) : Int := max (floorOf a.floors id) (floorOf b.floors id)
abbrev topE (a b : Sta) (id : Int) : Ent := entMax (entP a.items id).1 (entP b.items id).1
def joinF (a b : Sta) (n : Nat) : Sta := ⟨(List.range n).filterMap fun (j : Nat) => if (topE a b (j : Int)).inc > topF a b (j : Int) then some ⟨(j : Int), topE a b (j : Int)⟩ else none,
 (List.range n).filterMap fun (j : Nat) => if topF a b (j : Int) > 0 then some ⟨(j : Int), topF a b (j : Int)⟩ else none⟩
theorem joinF_items (a b : Sta) (n : Nat) : (joinF a b (n + 1)).items = if (topE a b (n : Int)).inc > topF a b (n : Int) then (joinF a b n).items ++ [⟨(n : Int), topE a b (n : Int)⟩] else (joinF a b n).items := by
 unfold joinF
 simp only [List.range_succ, List.filterMap_append]
 split <;> simp [*]
theorem joinF_floors (a b : Sta) (n : Nat) : (joinF a b (n + 1)).floors = if topF a b (n : Int) > 0 then (joinF a b n).floors ++ [⟨(n : Int), topF a b (n : Int)⟩] else (joinF a b n).floors := by
 unfold joinF
 simp only [List.range_succ, List.filterMap_append]
 split <;> simp [*]
theorem joinF_len (a b : Sta) : ∀ n, (joinF a b n).items.length ≤ n ∧ (joinF a b n).floors.length ≤ n
 | 0 => by simp [joinF]
 | n + 1 => by
  have := joinF_len a b n
  rw [joinF_items, joinF_floors]
  refine ⟨?_, ?_⟩ <;> split <;> (try rw [List.length_append, List.length_singleton]) <;> omega
theorem pcS_items {st st' : St} {q1 q2 q : Option Addr} {l1 l1' : List Itm} {l2 : List Flr} (h : OwnP st [pcR 6 cItm q1 l1, pcR 2 cFlr q2 l2]) (hp : Pr q1 st st') (ho : OwnR st' 6 cItm q l1') (hn : New st.next q) : OwnP st' [pcR 6 cItm q l1', pcR 2 cFlr q2 l2] :=
 OwnP.renew (l := []) (m := [pcR 2 cFlr q2 l2]) h hp (own_pc ho) hn
theorem pcS_floors {st st' : St} {q1 q2 q : Option Addr} {l1 : List Itm} {l2 l2' : List Flr} (h : OwnP st [pcR 6 cItm q1 l1, pcR 2 cFlr q2 l2]) (hp : Pr q2 st st') (ho : OwnR st' 2 cFlr q l2') (hn : New st.next q) : OwnP st' [pcR 6 cItm q1 l1, pcR 2 cFlr q l2'] :=
 OwnP.renew (l := [pcR 6 cItm q1 l1]) (m := []) h hp (own_pc ho) hn
theorem pcS_i {st : St} {q1 q2 : Option Addr} {l1 : List Itm} {l2 : List Flr} (h : OwnP st [pcR 6 cItm q1 l1, pcR 2 cFlr q2 l2]) : OwnR st 6 cItm q1 l1 := pc_own (by decide) len_cItm (h.1 _ (List.mem_cons_self ..))
theorem pcS_f {st : St} {q1 q2 : Option Addr} {l1 : List Itm} {l2 : List Flr} (h : OwnP st [pcR 6 cItm q1 l1, pcR 2 cFlr q2 l2]) : OwnR st 2 cFlr q2 l2 := pc_own (by decide) len_cFlr (h.1 _ (List.mem_cons_of_mem _ (List.mem_cons_self ..)))
theorem ac_impl_stateJoin (A B : SV) (st : St) (hA : RdS st A) (hB : RdS st B) (ha : bigS A.x) (hb : bigS B.x) : C 102 [.agg #[vS A.p A.x.items.length, vS A.q A.x.floors.length], .agg #[vS B.p B.x.items.length, vS B.q B.x.floors.length]] st (fun v s => ∃ u : SV, v = .agg #[vS u.p u.x.items.length, vS u.q u.x.floors.length] ∧ u.x = joinF A.x B.x 5 ∧ OwnP s (pcS u) ∧ NewP st.next (pcS u) ∧ Pres st s) := by
 refine AC.enterX (i := ⟨[2, 3, 4, 5, 7, 9, 11], [2, 3, 4, 5, 7, 9, 11, 40, 44, 51, 54, 61], [0, 1, 2, 3, 4, 5, 6, 7, 9, 11, 12, 15, 43, 53]⟩) [(8, [2], [3])] Tryz.func102 rfl rfl (by kernel_rfl) (by kernel_rfl) Tryz.ntmps102 (Nat.le_of_ble_eq_true rfl) rfl ?_
 iterate 3 refine ⟨_, rfl, ?_⟩
 refine AW.cutM (3) st [(2, vL 2 0 (0)), (3, vL 3 0 (1)), (4, vL 4 0 (2))] [(2, 0, [vS A.p A.x.items.length, vS A.q A.x.floors.length]), (3, 1, [vS B.p B.x.items.length, vS B.q B.x.floors.length]), (4, 2, [.slice none 0 0, .slice none 0 0])] ⟨rfl, rfl, rfl, trivial⟩ ⟨rfl, rfl, rfl, trivial⟩ rfl fun ρ0 ff => ?_
 iterate 3 refine ⟨_, rfl, ?_⟩
 refine cxs ?_
 refine AW.cutM (4) st [(2, vL 2 0 (0)), (3, vL 3 0 (1)), (4, vL 4 0 (2)), (5, vL 5 0 (3)), (6, vI (0))] [(2, 0, [vS A.p A.x.items.length, vS A.q A.x.floors.length]), (3, 1, [vS B.p B.x.items.length, vS B.q B.x.floors.length]), (4, 2, [.slice none 0 0, .slice none 0 0]), (5, 3, [.slice none 0 0, .slice none 0 0])] ⟨rfl, rfl, rfl, rfl, rfl, trivial⟩ ⟨rfl, rfl, rfl, rfl, trivial⟩ rfl fun ρ0 ff => ?_
 refine AW.loopM (fun x : Nat × Option Addr × Option Addr => [(2, vL 2 0 (0)), (3, vL 3 0 (1)), (4, vL 4 0 (2)), (5, vL 5 0 (3)), (6, vI (x.1 : Int))]) (fun x : Nat × Option Addr × Option Addr => [(2, 0, [vS A.p A.x.items.length, vS A.q A.x.floors.length]), (3, 1, [vS B.p B.x.items.length, vS B.q B.x.floors.length]), (4, 2, [.slice none 0 0, .slice none 0 0]), (5, 3, [vS x.2.1 (joinF A.x B.x x.1).items.length, vS x.2.2 (joinF A.x B.x x.1).floors.length])]) (fun m (x : Nat × Option Addr × Option Addr) st' => m = 5 - x.1 ∧ x.1 ≤ 5 ∧ OwnP st' [pcR 6 cItm x.2.1 (joinF A.x B.x x.1).items, pcR 2 cFlr x.2.2 (joinF A.x B.x x.1).floors] ∧ New st.next x.2.1 ∧ New st.next x.2.2 ∧ Pres st st') (0, none, none) _ ⟨rfl, rfl, rfl, rfl, rfl, trivial⟩ ⟨rfl, rfl, rfl, rfl, trivial⟩ ⟨rfl, Nat.zero_le _, pcS_nil, New.none, New.none, Pres.refl _⟩ ?_
 rintro m ⟨i, q1, q2⟩ ρ0 ff gg st' ⟨rfl, hi, hO, hN1, hN2, hP⟩
 simp only at hi hO hN1 hN2
 have hJ := joinF_len A.x B.x i
 have hJi := joinF_items A.x B.x i
 have hJf := joinF_floors A.x B.x i
 refine ⟨_, rfl, ?_⟩
 rintro (_|_) h1
 ·replace h1 : ¬ ((i : Int) < 5) := of_decide_eq_false h1
  refine AW.cutM (gg) st' [(2, vL 2 0 (0)), (3, vL 3 0 (1)), (4, vL 4 0 (2)), (5, vL 5 0 (3)), (6, vI (i : Int)), (15, vB false)] [(2, 0, [vS A.p A.x.items.length, vS A.q A.x.floors.length]), (3, 1, [vS B.p B.x.items.length, vS B.q B.x.floors.length]), (4, 2, [.slice none 0 0, .slice none 0 0]), (5, 3, [vS q1 (joinF A.x B.x i).items.length, vS q2 (joinF A.x B.x i).floors.length])] ⟨rfl, rfl, rfl, rfl, rfl, rfl, trivial⟩ ⟨rfl, rfl, rfl, rfl, trivial⟩ rfl fun ρ0 ff => ?_
  refine cxs ?_
  refine ⟨_, op_ldo rfl rfl rfl rfl, ?_⟩
  refine ⟨_, op_sto rfl rfl rfl rfl rfl rfl rfl, ?_⟩
  refine cxs ?_
  have hil : i = 5 := by omega
  subst hil
  exact ⟨.inl rfl, _, rfl, ⟨q1, q2, joinF A.x B.x 5⟩, rfl, rfl, hO, NewP.cons hN1 (NewP.cons hN2 NewP.nil), hP⟩
 ·replace h1 : (i : Int) < 5 := of_decide_eq_true h1
  refine AW.cutM (gg) st' [(2, vL 2 0 (0)), (3, vL 3 0 (1)), (4, vL 4 0 (2)), (5, vL 5 0 (3)), (6, vI (i : Int)), (15, vB true)] [(2, 0, [vS A.p A.x.items.length, vS A.q A.x.floors.length]), (3, 1, [vS B.p B.x.items.length, vS B.q B.x.floors.length]), (4, 2, [.slice none 0 0, .slice none 0 0]), (5, 3, [vS q1 (joinF A.x B.x i).items.length, vS q2 (joinF A.x B.x i).floors.length])] ⟨rfl, rfl, rfl, rfl, rfl, rfl, trivial⟩ ⟨rfl, rfl, rfl, rfl, trivial⟩ rfl fun ρ0 ff => ?_
  refine cxs ?_
  refine ⟨_, op_ldo rfl rfl rfl rfl, ?_⟩
  refine ⟨_, rfl, (ac_impl_EntryOf A i st' (hA.pres hP) ha).mono ?_⟩
  rintro _ st' ⟨e1, b1, rfl, he1, rfl⟩
  iterate 3 refine ⟨_, rfl, ?_⟩
  refine ⟨_, op_sto rfl rfl rfl rfl rfl rfl rfl, ?_⟩
  refine AW.cutM (gg + 1) st' [(2, vL 2 0 (0)), (3, vL 3 0 (1)), (4, vL 4 0 (2)), (5, vL 5 0 (3)), (6, vI (i : Int)), (7, vL 7 0 (gg)), (15, vB true)] [(2, 0, [vS A.p A.x.items.length, vS A.q A.x.floors.length]), (3, 1, [vS B.p B.x.items.length, vS B.q B.x.floors.length]), (4, 2, [.slice none 0 0, .slice none 0 0]), (5, 3, [vS q1 (joinF A.x B.x i).items.length, vS q2 (joinF A.x B.x i).floors.length]), (7, gg, [vI e1.inc, vI e1.rank, vI e1.beat, vI e1.ver, .string e1.data])] ⟨rfl, rfl, rfl, rfl, rfl, rfl, rfl, trivial⟩ ⟨rfl, rfl, rfl, rfl, rfl, trivial⟩ rfl fun ρ0 ff => ?_
  refine ⟨_, op_ldo rfl rfl rfl rfl, ?_⟩
  refine ⟨_, rfl, (ac_impl_EntryOf B i st' (hB.pres hP) hb).mono ?_⟩
  rintro _ st' ⟨e2, b2, rfl, he2, rfl⟩
  iterate 3 refine ⟨_, rfl, ?_⟩
  refine ⟨_, op_sto rfl rfl rfl rfl rfl rfl rfl, ?_⟩
  refine AW.cutM (gg + 2) st' [(2, vL 2 0 (0)), (3, vL 3 0 (1)), (4, vL 4 0 (2)), (5, vL 5 0 (3)), (6, vI (i : Int)), (7, vL 7 0 (gg)), (9, vL 9 0 (gg + 1)), (15, vB true)] [(2, 0, [vS A.p A.x.items.length, vS A.q A.x.floors.length]), (3, 1, [vS B.p B.x.items.length, vS B.q B.x.floors.length]), (4, 2, [.slice none 0 0, .slice none 0 0]), (5, 3, [vS q1 (joinF A.x B.x i).items.length, vS q2 (joinF A.x B.x i).floors.length]), (7, gg, [vI e1.inc, vI e1.rank, vI e1.beat, vI e1.ver, .string e1.data]), (9, gg + 1, [vI e2.inc, vI e2.rank, vI e2.beat, vI e2.ver, .string e2.data])] ⟨rfl, rfl, rfl, rfl, rfl, rfl, rfl, rfl, trivial⟩ ⟨rfl, rfl, rfl, rfl, rfl, rfl, trivial⟩ rfl fun ρ0 ff => ?_
  refine ⟨_, op_ldo rfl rfl rfl rfl, ?_⟩
  refine ⟨_, op_ldo rfl rfl rfl rfl, ?_⟩
  refine ⟨_, rfl, (ac_impl_EntryMax e1 e2 st').mono ?_⟩
  rintro _ s1 ⟨e, rfl, hem, hP1⟩
  refine ⟨_, rfl, ?_⟩
  refine ⟨_, op_sto rfl rfl rfl rfl rfl rfl rfl, ?_⟩
  refine AW.cutM (gg + 3) s1 [(2, vL 2 0 (0)), (3, vL 3 0 (1)), (4, vL 4 0 (2)), (5, vL 5 0 (3)), (6, vI (i : Int)), (7, vL 7 0 (gg)), (9, vL 9 0 (gg + 1)), (11, vL 11 0 (gg + 2)), (15, vB true)] [(2, 0, [vS A.p A.x.items.length, vS A.q A.x.floors.length]), (3, 1, [vS B.p B.x.items.length, vS B.q B.x.floors.length]), (4, 2, [.slice none 0 0, .slice none 0 0]), (5, 3, [vS q1 (joinF A.x B.x i).items.length, vS q2 (joinF A.x B.x i).floors.length]), (7, gg, [vI e1.inc, vI e1.rank, vI e1.beat, vI e1.ver, .string e1.data]), (9, gg + 1, [vI e2.inc, vI e2.rank, vI e2.beat, vI e2.ver, .string e2.data]), (11, gg + 2, [vI e.inc, vI e.rank, vI e.beat, vI e.ver, .string e.data])] ⟨rfl, rfl, rfl, rfl, rfl, rfl, rfl, rfl, rfl, trivial⟩ ⟨rfl, rfl, rfl, rfl, rfl, rfl, rfl, trivial⟩ rfl fun ρ0 ff => ?_
  have hE : topE A.x B.x (i : Int) = e := by rw [topE, ← he1, ← he2, hem]
  have hO1 := hO.pres hP1
  have hP' := hP.trans hP1
  rw [hE] at hJi
  refine ⟨_, op_ldo rfl rfl rfl rfl, ?_⟩
  refine ⟨_, rfl, (ac_impl_FloorOf A i s1 (hA.pres hP') ha).mono ?_⟩
  rintro _ s1 ⟨rfl, rfl⟩
  refine ⟨fun _ _ => rfl, ?_⟩
  refine ⟨_, op_ldo rfl rfl rfl rfl, ?_⟩
  refine ⟨ld_own rfl rfl rfl, ?_⟩
  refine ⟨_, rfl, (ac_impl_FloorOf B i s1 (hB.pres hP') hb).mono ?_⟩
  rintro _ s1 ⟨rfl, rfl⟩
  refine ⟨.int .i64 (max (floorOf A.x.floors (i : Int)) (floorOf B.x.floors (i : Int))), ammL_max _ _, ?_⟩
  refine AW.cutM (gg + 3) s1 [(2, vL 2 0 (0)), (3, vL 3 0 (1)), (4, vL 4 0 (2)), (5, vL 5 0 (3)), (6, vI (i : Int)), (7, vL 7 0 (gg)), (9, vL 9 0 (gg + 1)), (11, vL 11 0 (gg + 2)), (12, vI (topF A.x B.x (i : Int))), (15, vB true)] [(2, 0, [vS A.p A.x.items.length, vS A.q A.x.floors.length]), (3, 1, [vS B.p B.x.items.length, vS B.q B.x.floors.length]), (4, 2, [.slice none 0 0, .slice none 0 0]), (5, 3, [vS q1 (joinF A.x B.x i).items.length, vS q2 (joinF A.x B.x i).floors.length]), (7, gg, [vI e1.inc, vI e1.rank, vI e1.beat, vI e1.ver, .string e1.data]), (9, gg + 1, [vI e2.inc, vI e2.rank, vI e2.beat, vI e2.ver, .string e2.data]), (11, gg + 2, [vI e.inc, vI e.rank, vI e.beat, vI e.ver, .string e.data])] ⟨rfl, rfl, rfl, rfl, rfl, rfl, rfl, rfl, rfl, rfl, trivial⟩ ⟨rfl, rfl, rfl, rfl, rfl, rfl, rfl, trivial⟩ rfl fun ρ0 ff => ?_
  refine ⟨_, rfl, ?_⟩
  refine ⟨_, op_ldo rfl rfl rfl rfl, ?_⟩
  refine ⟨_, rfl, ?_⟩
  rintro (_|_) h2
  ·replace h2 : ¬ (e.inc > topF A.x B.x (i : Int)) := of_decide_eq_false h2
   refine AW.cutM (gg + 3) s1 [(2, vL 2 0 (0)), (3, vL 3 0 (1)), (4, vL 4 0 (2)), (5, vL 5 0 (3)), (6, vI (i : Int)), (7, vL 7 0 (gg)), (9, vL 9 0 (gg + 1)), (11, vL 11 0 (gg + 2)), (12, vI (topF A.x B.x (i : Int))), (15, vB true), (43, vB false)] [(2, 0, [vS A.p A.x.items.length, vS A.q A.x.floors.length]), (3, 1, [vS B.p B.x.items.length, vS B.q B.x.floors.length]), (4, 2, [.slice none 0 0, .slice none 0 0]), (5, 3, [vS q1 (joinF A.x B.x i).items.length, vS q2 (joinF A.x B.x i).floors.length]), (7, gg, [vI e1.inc, vI e1.rank, vI e1.beat, vI e1.ver, .string e1.data]), (9, gg + 1, [vI e2.inc, vI e2.rank, vI e2.beat, vI e2.ver, .string e2.data]), (11, gg + 2, [vI e.inc, vI e.rank, vI e.beat, vI e.ver, .string e.data])] ⟨rfl, rfl, rfl, rfl, rfl, rfl, rfl, rfl, rfl, rfl, rfl, trivial⟩ ⟨rfl, rfl, rfl, rfl, rfl, rfl, rfl, trivial⟩ rfl fun ρ0 ff => ?_
   refine cxs ?_
   refine ⟨_, rfl, ?_⟩
   rintro (_|_) h3
   ·replace h3 : ¬ (topF A.x B.x (i : Int) > 0) := of_decide_eq_false h3
    refine AW.cutM (gg + 3) s1 [(2, vL 2 0 (0)), (3, vL 3 0 (1)), (4, vL 4 0 (2)), (5, vL 5 0 (3)), (6, vI (i : Int)), (7, vL 7 0 (gg)), (9, vL 9 0 (gg + 1)), (11, vL 11 0 (gg + 2)), (12, vI (topF A.x B.x (i : Int))), (15, vB true), (43, vB false), (53, vB false)] [(2, 0, [vS A.p A.x.items.length, vS A.q A.x.floors.length]), (3, 1, [vS B.p B.x.items.length, vS B.q B.x.floors.length]), (4, 2, [.slice none 0 0, .slice none 0 0]), (5, 3, [vS q1 (joinF A.x B.x i).items.length, vS q2 (joinF A.x B.x i).floors.length]), (7, gg, [vI e1.inc, vI e1.rank, vI e1.beat, vI e1.ver, .string e1.data]), (9, gg + 1, [vI e2.inc, vI e2.rank, vI e2.beat, vI e2.ver, .string e2.data]), (11, gg + 2, [vI e.inc, vI e.rank, vI e.beat, vI e.ver, .string e.data])] ⟨rfl, rfl, rfl, rfl, rfl, rfl, rfl, rfl, rfl, rfl, rfl, rfl, trivial⟩ ⟨rfl, rfl, rfl, rfl, rfl, rfl, rfl, trivial⟩ rfl fun ρ0 ff => ?_
    refine cxs ?_
    have e17 : IntKind.wrap .i64 ((i : Int) + 1) = ((i + 1 : Nat) : Int) := (wrap_i64 (by omega) (by omega)).trans (by omega)
    refine ⟨_, rfl, ?_⟩
    rw [if_neg h2] at hJi
    rw [if_neg h3] at hJf
    exact ⟨(i + 1, q1, q2), 5 - (i + 1), by omega, ⟨rfl, rfl, rfl, rfl, congrArg (Value.int .i64) e17, trivial⟩, ⟨rfl, rfl, rfl, (show some (3, [vS q1 (joinF A.x B.x i).items.length, vS q2 (joinF A.x B.x i).floors.length]) = some (3, [vS q1 (joinF A.x B.x (i + 1)).items.length, vS q2 (joinF A.x B.x (i + 1)).floors.length]) by rw [hJi, hJf]), trivial⟩, rfl, by omega, by rw [hJi, hJf]; exact hO1, hN1, hN2, hP'⟩
   ·replace h3 : topF A.x B.x (i : Int) > 0 := of_decide_eq_true h3
    refine AW.cutM (gg + 3) s1 [(2, vL 2 0 (0)), (3, vL 3 0 (1)), (4, vL 4 0 (2)), (5, vL 5 0 (3)), (6, vI (i : Int)), (7, vL 7 0 (gg)), (9, vL 9 0 (gg + 1)), (11, vL 11 0 (gg + 2)), (12, vI (topF A.x B.x (i : Int))), (15, vB true), (43, vB false), (53, vB true)] [(2, 0, [vS A.p A.x.items.length, vS A.q A.x.floors.length]), (3, 1, [vS B.p B.x.items.length, vS B.q B.x.floors.length]), (4, 2, [.slice none 0 0, .slice none 0 0]), (5, 3, [vS q1 (joinF A.x B.x i).items.length, vS q2 (joinF A.x B.x i).floors.length]), (7, gg, [vI e1.inc, vI e1.rank, vI e1.beat, vI e1.ver, .string e1.data]), (9, gg + 1, [vI e2.inc, vI e2.rank, vI e2.beat, vI e2.ver, .string e2.data]), (11, gg + 2, [vI e.inc, vI e.rank, vI e.beat, vI e.ver, .string e.data])] ⟨rfl, rfl, rfl, rfl, rfl, rfl, rfl, rfl, rfl, rfl, rfl, rfl, trivial⟩ ⟨rfl, rfl, rfl, rfl, rfl, rfl, rfl, trivial⟩ rfl fun ρ0 ff => ?_
    refine ⟨_, rfl, ?_⟩
    refine ⟨_, op_ldo rfl rfl rfl rfl, ?_⟩
    refine ⟨_, rfl, ?_⟩
    refine op_one (z := 2) (a := (⟨(i : Int), topF A.x B.x (i : Int)⟩ : Flr)) (f := cFlr) rfl rfl rfl rfl rfl (by decide) rfl (Nat.le_of_ble_eq_true rfl) rfl rfl rfl ?_
    refine op_add (z := 2) (st := s1) (f := cFlr) (b := 16) (l := (joinF A.x B.x i).floors) rfl rfl rfl rfl rfl rfl rfl (by decide) len_cFlr rfl rfl rfl (by omega) (by unfold maxLen; omega) (pcS_f hO1) ?_
    intro q6 s6 hO6 hP6 hN6
    refine ⟨_, rfl, ?_⟩
    refine ⟨_, op_sto rfl rfl rfl rfl rfl rfl rfl, ?_⟩
    refine AW.cutM (gg + 3) s6 [(2, vL 2 0 (0)), (3, vL 3 0 (1)), (4, vL 4 0 (2)), (5, vL 5 0 (3)), (6, vI (i : Int)), (7, vL 7 0 (gg)), (9, vL 9 0 (gg + 1)), (11, vL 11 0 (gg + 2)), (12, vI (topF A.x B.x (i : Int))), (15, vB true), (43, vB false), (53, vB true)] [(2, 0, [vS A.p A.x.items.length, vS A.q A.x.floors.length]), (3, 1, [vS B.p B.x.items.length, vS B.q B.x.floors.length]), (4, 2, [.slice none 0 0, .slice none 0 0]), (5, 3, [vS q1 (joinF A.x B.x i).items.length, vS q6 ((joinF A.x B.x i).floors.length + 1)]), (7, gg, [vI e1.inc, vI e1.rank, vI e1.beat, vI e1.ver, .string e1.data]), (9, gg + 1, [vI e2.inc, vI e2.rank, vI e2.beat, vI e2.ver, .string e2.data]), (11, gg + 2, [vI e.inc, vI e.rank, vI e.beat, vI e.ver, .string e.data])] ⟨rfl, rfl, rfl, rfl, rfl, rfl, rfl, rfl, rfl, rfl, rfl, rfl, trivial⟩ ⟨rfl, rfl, rfl, rfl, rfl, rfl, rfl, trivial⟩ rfl fun ρ0 ff => ?_
    have e17 : IntKind.wrap .i64 ((i : Int) + 1) = ((i + 1 : Nat) : Int) := (wrap_i64 (by omega) (by omega)).trans (by omega)
    refine ⟨_, rfl, ?_⟩
    rw [if_neg h2] at hJi
    rw [if_pos h3] at hJf
    exact ⟨(i + 1, q1, q6), 5 - (i + 1), by omega, ⟨rfl, rfl, rfl, rfl, congrArg (Value.int .i64) e17, trivial⟩, ⟨rfl, rfl, rfl, (show some (3, [vS q1 (joinF A.x B.x i).items.length, vS q6 ((joinF A.x B.x i).floors.length + 1)]) = some (3, [vS q1 (joinF A.x B.x (i + 1)).items.length, vS q6 (joinF A.x B.x (i + 1)).floors.length]) by rw [hJi, hJf, List.length_append]; rfl), trivial⟩, rfl, by omega, by rw [hJi, hJf]; exact pcS_floors hO1 hP6 hO6 hN6, hN1, hN6.le hP'.1, hP6.pres hP' hN2⟩
  ·replace h2 : e.inc > topF A.x B.x (i : Int) := of_decide_eq_true h2
   refine AW.cutM (gg + 3) s1 [(2, vL 2 0 (0)), (3, vL 3 0 (1)), (4, vL 4 0 (2)), (5, vL 5 0 (3)), (6, vI (i : Int)), (7, vL 7 0 (gg)), (9, vL 9 0 (gg + 1)), (11, vL 11 0 (gg + 2)), (12, vI (topF A.x B.x (i : Int))), (15, vB true), (43, vB true)] [(2, 0, [vS A.p A.x.items.length, vS A.q A.x.floors.length]), (3, 1, [vS B.p B.x.items.length, vS B.q B.x.floors.length]), (4, 2, [.slice none 0 0, .slice none 0 0]), (5, 3, [vS q1 (joinF A.x B.x i).items.length, vS q2 (joinF A.x B.x i).floors.length]), (7, gg, [vI e1.inc, vI e1.rank, vI e1.beat, vI e1.ver, .string e1.data]), (9, gg + 1, [vI e2.inc, vI e2.rank, vI e2.beat, vI e2.ver, .string e2.data]), (11, gg + 2, [vI e.inc, vI e.rank, vI e.beat, vI e.ver, .string e.data])] ⟨rfl, rfl, rfl, rfl, rfl, rfl, rfl, rfl, rfl, rfl, rfl, trivial⟩ ⟨rfl, rfl, rfl, rfl, rfl, rfl, rfl, trivial⟩ rfl fun ρ0 ff => ?_
   refine ⟨_, rfl, ?_⟩
   refine ⟨_, op_ldo rfl rfl rfl rfl, ?_⟩
   refine ⟨_, op_ldo rfl rfl rfl rfl, ?_⟩
   refine ⟨_, rfl, ?_⟩
   refine op_one (z := 6) (a := (⟨(i : Int), e⟩ : Itm)) (f := cItm) rfl rfl rfl rfl rfl (by decide) rfl (Nat.le_of_ble_eq_true rfl) rfl rfl rfl ?_
   refine op_add (z := 6) (st := s1) (f := cItm) (b := 56) (l := (joinF A.x B.x i).items) rfl rfl rfl rfl rfl rfl rfl (by decide) len_cItm rfl rfl rfl (by omega) (by unfold maxLen; omega) (pcS_i hO1) ?_
   intro q4 s4 hO4 hP4 hN4
   refine ⟨_, rfl, ?_⟩
   refine ⟨_, op_sto rfl rfl rfl rfl rfl rfl rfl, ?_⟩
   refine AW.cutM (gg + 3) s4 [(2, vL 2 0 (0)), (3, vL 3 0 (1)), (4, vL 4 0 (2)), (5, vL 5 0 (3)), (6, vI (i : Int)), (7, vL 7 0 (gg)), (9, vL 9 0 (gg + 1)), (11, vL 11 0 (gg + 2)), (12, vI (topF A.x B.x (i : Int))), (15, vB true), (43, vB true)] [(2, 0, [vS A.p A.x.items.length, vS A.q A.x.floors.length]), (3, 1, [vS B.p B.x.items.length, vS B.q B.x.floors.length]), (4, 2, [.slice none 0 0, .slice none 0 0]), (5, 3, [vS q4 ((joinF A.x B.x i).items.length + 1), vS q2 (joinF A.x B.x i).floors.length]), (7, gg, [vI e1.inc, vI e1.rank, vI e1.beat, vI e1.ver, .string e1.data]), (9, gg + 1, [vI e2.inc, vI e2.rank, vI e2.beat, vI e2.ver, .string e2.data]), (11, gg + 2, [vI e.inc, vI e.rank, vI e.beat, vI e.ver, .string e.data])] ⟨rfl, rfl, rfl, rfl, rfl, rfl, rfl, rfl, rfl, rfl, rfl, trivial⟩ ⟨rfl, rfl, rfl, rfl, rfl, rfl, rfl, trivial⟩ rfl fun ρ0 ff => ?_
   have hO5 := pcS_items hO1 hP4 hO4 hN4
   have hP5 := hP4.pres hP' hN1
   refine ⟨_, rfl, ?_⟩
   rintro (_|_) h3
   ·replace h3 : ¬ (topF A.x B.x (i : Int) > 0) := of_decide_eq_false h3
    refine AW.cutM (gg + 3) s4 [(2, vL 2 0 (0)), (3, vL 3 0 (1)), (4, vL 4 0 (2)), (5, vL 5 0 (3)), (6, vI (i : Int)), (7, vL 7 0 (gg)), (9, vL 9 0 (gg + 1)), (11, vL 11 0 (gg + 2)), (12, vI (topF A.x B.x (i : Int))), (15, vB true), (43, vB true), (53, vB false)] [(2, 0, [vS A.p A.x.items.length, vS A.q A.x.floors.length]), (3, 1, [vS B.p B.x.items.length, vS B.q B.x.floors.length]), (4, 2, [.slice none 0 0, .slice none 0 0]), (5, 3, [vS q4 ((joinF A.x B.x i).items.length + 1), vS q2 (joinF A.x B.x i).floors.length]), (7, gg, [vI e1.inc, vI e1.rank, vI e1.beat, vI e1.ver, .string e1.data]), (9, gg + 1, [vI e2.inc, vI e2.rank, vI e2.beat, vI e2.ver, .string e2.data]), (11, gg + 2, [vI e.inc, vI e.rank, vI e.beat, vI e.ver, .string e.data])] ⟨rfl, rfl, rfl, rfl, rfl, rfl, rfl, rfl, rfl, rfl, rfl, rfl, trivial⟩ ⟨rfl, rfl, rfl, rfl, rfl, rfl, rfl, trivial⟩ rfl fun ρ0 ff => ?_
    refine cxs ?_
    have e17 : IntKind.wrap .i64 ((i : Int) + 1) = ((i + 1 : Nat) : Int) := (wrap_i64 (by omega) (by omega)).trans (by omega)
    refine ⟨_, rfl, ?_⟩
    rw [if_pos h2] at hJi
    rw [if_neg h3] at hJf
    exact ⟨(i + 1, q4, q2), 5 - (i + 1), by omega, ⟨rfl, rfl, rfl, rfl, congrArg (Value.int .i64) e17, trivial⟩, ⟨rfl, rfl, rfl, (show some (3, [vS q4 ((joinF A.x B.x i).items.length + 1), vS q2 (joinF A.x B.x i).floors.length]) = some (3, [vS q4 (joinF A.x B.x (i + 1)).items.length, vS q2 (joinF A.x B.x (i + 1)).floors.length]) by rw [hJi, hJf, List.length_append]; rfl), trivial⟩, rfl, by omega, by rw [hJi, hJf]; exact hO5, hN4.le hP'.1, hN2, hP5⟩
   ·replace h3 : topF A.x B.x (i : Int) > 0 := of_decide_eq_true h3
    refine AW.cutM (gg + 3) s4 [(2, vL 2 0 (0)), (3, vL 3 0 (1)), (4, vL 4 0 (2)), (5, vL 5 0 (3)), (6, vI (i : Int)), (7, vL 7 0 (gg)), (9, vL 9 0 (gg + 1)), (11, vL 11 0 (gg + 2)), (12, vI (topF A.x B.x (i : Int))), (15, vB true), (43, vB true), (53, vB true)] [(2, 0, [vS A.p A.x.items.length, vS A.q A.x.floors.length]), (3, 1, [vS B.p B.x.items.length, vS B.q B.x.floors.length]), (4, 2, [.slice none 0 0, .slice none 0 0]), (5, 3, [vS q4 ((joinF A.x B.x i).items.length + 1), vS q2 (joinF A.x B.x i).floors.length]), (7, gg, [vI e1.inc, vI e1.rank, vI e1.beat, vI e1.ver, .string e1.data]), (9, gg + 1, [vI e2.inc, vI e2.rank, vI e2.beat, vI e2.ver, .string e2.data]), (11, gg + 2, [vI e.inc, vI e.rank, vI e.beat, vI e.ver, .string e.data])] ⟨rfl, rfl, rfl, rfl, rfl, rfl, rfl, rfl, rfl, rfl, rfl, rfl, trivial⟩ ⟨rfl, rfl, rfl, rfl, rfl, rfl, rfl, trivial⟩ rfl fun ρ0 ff => ?_
    refine ⟨_, rfl, ?_⟩
    refine ⟨_, op_ldo rfl rfl rfl rfl, ?_⟩
    refine ⟨_, rfl, ?_⟩
    refine op_one (z := 2) (a := (⟨(i : Int), topF A.x B.x (i : Int)⟩ : Flr)) (f := cFlr) rfl rfl rfl rfl rfl (by decide) rfl (Nat.le_of_ble_eq_true rfl) rfl rfl rfl ?_
    refine op_add (z := 2) (st := s4) (f := cFlr) (b := 16) (l := (joinF A.x B.x i).floors) rfl rfl rfl rfl rfl rfl rfl (by decide) len_cFlr rfl rfl rfl (by omega) (by unfold maxLen; omega) (pcS_f hO5) ?_
    intro q6 s6 hO6 hP6 hN6
    refine ⟨_, rfl, ?_⟩
    refine ⟨_, op_sto rfl rfl rfl rfl rfl rfl rfl, ?_⟩
    refine AW.cutM (gg + 3) s6 [(2, vL 2 0 (0)), (3, vL 3 0 (1)), (4, vL 4 0 (2)), (5, vL 5 0 (3)), (6, vI (i : Int)), (7, vL 7 0 (gg)), (9, vL 9 0 (gg + 1)), (11, vL 11 0 (gg + 2)), (12, vI (topF A.x B.x (i : Int))), (15, vB true), (43, vB true), (53, vB true)] [(2, 0, [vS A.p A.x.items.length, vS A.q A.x.floors.length]), (3, 1, [vS B.p B.x.items.length, vS B.q B.x.floors.length]), (4, 2, [.slice none 0 0, .slice none 0 0]), (5, 3, [vS q4 ((joinF A.x B.x i).items.length + 1), vS q6 ((joinF A.x B.x i).floors.length + 1)]), (7, gg, [vI e1.inc, vI e1.rank, vI e1.beat, vI e1.ver, .string e1.data]), (9, gg + 1, [vI e2.inc, vI e2.rank, vI e2.beat, vI e2.ver, .string e2.data]), (11, gg + 2, [vI e.inc, vI e.rank, vI e.beat, vI e.ver, .string e.data])] ⟨rfl, rfl, rfl, rfl, rfl, rfl, rfl, rfl, rfl, rfl, rfl, rfl, trivial⟩ ⟨rfl, rfl, rfl, rfl, rfl, rfl, rfl, trivial⟩ rfl fun ρ0 ff => ?_
    have e17 : IntKind.wrap .i64 ((i : Int) + 1) = ((i + 1 : Nat) : Int) := (wrap_i64 (by omega) (by omega)).trans (by omega)
    refine ⟨_, rfl, ?_⟩
    rw [if_pos h2] at hJi
    rw [if_pos h3] at hJf
    exact ⟨(i + 1, q4, q6), 5 - (i + 1), by omega, ⟨rfl, rfl, rfl, rfl, congrArg (Value.int .i64) e17, trivial⟩, ⟨rfl, rfl, rfl, (show some (3, [vS q4 ((joinF A.x B.x i).items.length + 1), vS q6 ((joinF A.x B.x i).floors.length + 1)]) = some (3, [vS q4 (joinF A.x B.x (i + 1)).items.length, vS q6 (joinF A.x B.x (i + 1)).floors.length]) by rw [hJi, hJf, List.length_append, List.length_append]; rfl), trivial⟩, rfl, by omega, by rw [hJi, hJf]; exact pcS_floors hO5 hP6 hO6 hN6, hN4.le hP'.1, hN6.le hP5.1, hP6.pres hP5 hN2⟩
theorem firstNZ_neg : ∀ l : List Int, firstNZ (l.map fun x => -x) = - firstNZ l
 | [] => rfl
 | x :: l => by
  have ih := firstNZ_neg l
  rw [List.map_cons, firstNZ, firstNZ]
  by_cases h : x = 0
  ·rw [if_pos h, if_pos (by omega), ih]
  ·rw [if_neg h, if_neg (by omega)]
theorem cmpI_neg (a b : Int) : cmpI b a = - cmpI a b := by
 unfold cmpI
 split <;> split <;> (try split) <;> omega
theorem compareBytes_neg : ∀ a b : List UInt8, Lib.compareBytes b a = - Lib.compareBytes a b
 | [], [] => by simp [Lib.compareBytes]
 | [], b :: bs => by simp [Lib.compareBytes]
 | a :: l, [] => by simp [Lib.compareBytes]
 | a :: l, b :: bs => by
  have ih := compareBytes_neg l bs
  unfold Lib.compareBytes
  by_cases h1 : a < b
  ·have h2 : ¬ b < a := fun h => UInt8.lt_irrefl _ (UInt8.lt_trans h h1)
   simp [h1, h2]
  ·by_cases h2 : b < a
   ·simp [h1, h2]
   ·simp [h1, h2, ih]
theorem entCmp_neg (a b : Ent) : entCmp b a = - entCmp a b := by
 unfold entCmp
 rw [← firstNZ_neg]
 simp only [List.map_cons, List.map_nil, cmpB, cmpI_neg a.inc b.inc, cmpI_neg a.rank b.rank, cmpI_neg a.beat b.beat, cmpI_neg a.ver b.ver, compareBytes_neg a.data.data.toList b.data.data.toList]
theorem entMax_zero {a : Ent} (h : 1 ≤ a.inc) : entMax a zEnt = a ∧ entMax zEnt a = a := by
 have h1 : entCmp a zEnt = 1 := by
  unfold entCmp firstNZ
  have : cmpI a.inc zEnt.inc = 1 := by unfold cmpI zEnt; simp only; rw [if_neg (by omega), if_pos (by omega)]
  rw [this]; rfl
 have h2 : entCmp zEnt a = -1 := by rw [entCmp_neg, h1]
 exact ⟨by rw [entMax, h1]; rfl, by rw [entMax, h2]; rfl⟩
theorem entMax_zz : entMax zEnt zEnt = zEnt := by unfold entMax; split <;> rfl
theorem floorOf_pos {l : List Flr} (h : marksOk l) (id : Int) : 0 ≤ floorOf l id ∧ floorOf l id ≤ 1000 := by
 have key : ∀ m : List Flr, (∀ x ∈ m, 1 ≤ x.inc ∧ x.inc ≤ 1000) → 0 ≤ floorOf m id ∧ floorOf m id ≤ 1000 := by
  intro m
  induction m with
  | nil => intro _; simp [floorOf]
  | cons x m ih =>
   intro h
   have hx := h x (List.mem_cons_self ..)
   rw [floorOf]
   split
   ·omega
   ·exact ih fun y hy => h y (List.mem_cons_of_mem _ hy)
 refine key l fun x hx => ?_
 obtain ⟨i, hi⟩ := List.getElem?_of_mem hx
 exact (h i x hi).2.1
theorem entP_none {l : List Itm} {id : Int} {e : Ent} (h : (e, false) = entP l id) : e = zEnt := by
 induction l with
 | nil => rw [entP] at h; injection h
 | cons x l ih =>
  rw [entP] at h
  split at h
  ·injection h with _ h; cases h
  ·exact ih h
theorem ac_spec_l3Join (A B : SV) (st : St) (hA : RdS st A) (hB : RdS st B) (ha : bigS A.x) (hb : bigS B.x) (oa : stateOk A.x) (ob : stateOk B.x) : C 152 [.agg #[vS A.p A.x.items.length, vS A.q A.x.floors.length], .agg #[vS B.p B.x.items.length, vS B.q B.x.floors.length]] st (fun v s => ∃ u : SV, v = .agg #[vS u.p u.x.items.length, vS u.q u.x.floors.length] ∧ u.x = joinF A.x B.x 5 ∧ OwnP s (pcS u) ∧ NewP st.next (pcS u) ∧ Pres st s) := by
 refine AC.enterX (i := ⟨[2, 3, 4, 5, 8, 10, 12], [2, 3, 4, 5, 8, 10, 12, 27, 34, 66, 70, 77], [0, 1, 2, 3, 4, 5, 6, 7, 8, 9, 10, 11, 12, 15, 26, 52, 64, 69]⟩) [(5, [2], [3])] Tryz.func152 rfl rfl (by kernel_rfl) (by kernel_rfl) Tryz.ntmps152 (Nat.le_of_ble_eq_true rfl) rfl ?_
 iterate 3 refine ⟨_, rfl, ?_⟩
 refine AW.cutM (3) st [(2, vL 2 0 (0)), (3, vL 3 0 (1)), (4, vL 4 0 (2))] [(2, 0, [vS A.p A.x.items.length, vS A.q A.x.floors.length]), (3, 1, [vS B.p B.x.items.length, vS B.q B.x.floors.length]), (4, 2, [.slice none 0 0, .slice none 0 0])] ⟨rfl, rfl, rfl, trivial⟩ ⟨rfl, rfl, rfl, trivial⟩ rfl fun ρ0 ff => ?_
 iterate 3 refine ⟨_, rfl, ?_⟩
 refine cxs ?_
 refine AW.cutM (4) st [(2, vL 2 0 (0)), (3, vL 3 0 (1)), (4, vL 4 0 (2)), (5, vL 5 0 (3)), (6, vI (0))] [(2, 0, [vS A.p A.x.items.length, vS A.q A.x.floors.length]), (3, 1, [vS B.p B.x.items.length, vS B.q B.x.floors.length]), (4, 2, [.slice none 0 0, .slice none 0 0]), (5, 3, [.slice none 0 0, .slice none 0 0])] ⟨rfl, rfl, rfl, rfl, rfl, trivial⟩ ⟨rfl, rfl, rfl, rfl, trivial⟩ rfl fun ρ0 ff => ?_
 refine AW.loopM (fun x : Nat × Option Addr × Option Addr => [(2, vL 2 0 (0)), (3, vL 3 0 (1)), (4, vL 4 0 (2)), (5, vL 5 0 (3)), (6, vI (x.1 : Int))]) (fun x : Nat × Option Addr × Option Addr => [(2, 0, [vS A.p A.x.items.length, vS A.q A.x.floors.length]), (3, 1, [vS B.p B.x.items.length, vS B.q B.x.floors.length]), (4, 2, [.slice none 0 0, .slice none 0 0]), (5, 3, [vS x.2.1 (joinF A.x B.x x.1).items.length, vS x.2.2 (joinF A.x B.x x.1).floors.length])]) (fun m (x : Nat × Option Addr × Option Addr) st' => m = 5 - x.1 ∧ x.1 ≤ 5 ∧ OwnP st' [pcR 6 cItm x.2.1 (joinF A.x B.x x.1).items, pcR 2 cFlr x.2.2 (joinF A.x B.x x.1).floors] ∧ New st.next x.2.1 ∧ New st.next x.2.2 ∧ Pres st st') (0, none, none) _ ⟨rfl, rfl, rfl, rfl, rfl, trivial⟩ ⟨rfl, rfl, rfl, rfl, trivial⟩ ⟨rfl, Nat.zero_le _, pcS_nil, New.none, New.none, Pres.refl _⟩ ?_
 rintro m ⟨i, q1, q2⟩ ρ0 ff gg st' ⟨rfl, hi, hO, hN1, hN2, hP⟩
 simp only at hi hO hN1 hN2
 have hJ := joinF_len A.x B.x i
 have hJi := joinF_items A.x B.x i
 have hJf := joinF_floors A.x B.x i
 refine ⟨_, rfl, ?_⟩
 rintro (_|_) h1
 ·replace h1 : ¬ ((i : Int) < 5) := of_decide_eq_false h1
  refine AW.cutM (gg) st' [(2, vL 2 0 (0)), (3, vL 3 0 (1)), (4, vL 4 0 (2)), (5, vL 5 0 (3)), (6, vI (i : Int)), (15, vB false)] [(2, 0, [vS A.p A.x.items.length, vS A.q A.x.floors.length]), (3, 1, [vS B.p B.x.items.length, vS B.q B.x.floors.length]), (4, 2, [.slice none 0 0, .slice none 0 0]), (5, 3, [vS q1 (joinF A.x B.x i).items.length, vS q2 (joinF A.x B.x i).floors.length])] ⟨rfl, rfl, rfl, rfl, rfl, rfl, trivial⟩ ⟨rfl, rfl, rfl, rfl, trivial⟩ rfl fun ρ0 ff => ?_
  refine cxs ?_
  refine ⟨_, op_ldo rfl rfl rfl rfl, ?_⟩
  refine ⟨_, op_sto rfl rfl rfl rfl rfl rfl rfl, ?_⟩
  refine cxs ?_
  have hil : i = 5 := by omega
  subst hil
  exact ⟨.inl rfl, _, rfl, ⟨q1, q2, joinF A.x B.x 5⟩, rfl, rfl, hO, NewP.cons hN1 (NewP.cons hN2 NewP.nil), hP⟩
 ·replace h1 : (i : Int) < 5 := of_decide_eq_true h1
  refine AW.cutM (gg) st' [(2, vL 2 0 (0)), (3, vL 3 0 (1)), (4, vL 4 0 (2)), (5, vL 5 0 (3)), (6, vI (i : Int)), (15, vB true)] [(2, 0, [vS A.p A.x.items.length, vS A.q A.x.floors.length]), (3, 1, [vS B.p B.x.items.length, vS B.q B.x.floors.length]), (4, 2, [.slice none 0 0, .slice none 0 0]), (5, 3, [vS q1 (joinF A.x B.x i).items.length, vS q2 (joinF A.x B.x i).floors.length])] ⟨rfl, rfl, rfl, rfl, rfl, rfl, trivial⟩ ⟨rfl, rfl, rfl, rfl, trivial⟩ rfl fun ρ0 ff => ?_
  refine cxs ?_
  refine ⟨_, op_ldo rfl rfl rfl rfl, ?_⟩
  refine ⟨_, rfl, (ac_spec_FloorOf A i st' (hA.pres hP) ha).mono ?_⟩
  rintro _ st' ⟨rfl, rfl⟩
  refine ⟨fun _ _ => rfl, ?_⟩
  refine ⟨_, op_ldo rfl rfl rfl rfl, ?_⟩
  refine ⟨ld_own rfl rfl rfl, ?_⟩
  refine ⟨_, rfl, (ac_spec_FloorOf B i st' (hB.pres hP) hb).mono ?_⟩
  rintro _ st' ⟨rfl, rfl⟩
  refine ⟨_, rfl, (ac_spec_l1Max (floorOf A.x.floors (i : Int)) (floorOf B.x.floors (i : Int)) st').mono ?_⟩
  rintro _ st' ⟨rfl, rfl⟩
  refine AW.cutM (gg) st' [(2, vL 2 0 (0)), (3, vL 3 0 (1)), (4, vL 4 0 (2)), (5, vL 5 0 (3)), (6, vI (i : Int)), (7, vI (topF A.x B.x (i : Int))), (15, vB true)] [(2, 0, [vS A.p A.x.items.length, vS A.q A.x.floors.length]), (3, 1, [vS B.p B.x.items.length, vS B.q B.x.floors.length]), (4, 2, [.slice none 0 0, .slice none 0 0]), (5, 3, [vS q1 (joinF A.x B.x i).items.length, vS q2 (joinF A.x B.x i).floors.length])] ⟨rfl, rfl, rfl, rfl, rfl, rfl, rfl, trivial⟩ ⟨rfl, rfl, rfl, rfl, trivial⟩ rfl fun ρ0 ff => ?_
  refine ⟨_, rfl, ?_⟩
  rintro (_|_) h2
  ·replace h2 : ¬ (topF A.x B.x (i : Int) > 0) := of_decide_eq_false h2
   refine AW.cutM (gg) st' [(2, vL 2 0 (0)), (3, vL 3 0 (1)), (4, vL 4 0 (2)), (5, vL 5 0 (3)), (6, vI (i : Int)), (7, vI (topF A.x B.x (i : Int))), (15, vB true), (26, vB false)] [(2, 0, [vS A.p A.x.items.length, vS A.q A.x.floors.length]), (3, 1, [vS B.p B.x.items.length, vS B.q B.x.floors.length]), (4, 2, [.slice none 0 0, .slice none 0 0]), (5, 3, [vS q1 (joinF A.x B.x i).items.length, vS q2 (joinF A.x B.x i).floors.length])] ⟨rfl, rfl, rfl, rfl, rfl, rfl, rfl, rfl, trivial⟩ ⟨rfl, rfl, rfl, rfl, trivial⟩ rfl fun ρ0 ff => ?_
   have hO6 : OwnP st' [pcR 6 cItm q1 (joinF A.x B.x i).items, pcR 2 cFlr q2 (joinF A.x B.x (i + 1)).floors] := by rw [hJf, if_neg h2]; exact hO
   have hlf : (joinF A.x B.x (i + 1)).floors.length = (joinF A.x B.x i).floors.length := by rw [hJf, if_neg h2]
   have hP6 := hP
   have hN6 := hN2
   refine cxs ?_
   refine ⟨_, op_ldo rfl rfl rfl rfl, ?_⟩
   refine ⟨_, rfl, (ac_spec_EntryOf A i st' (hA.pres hP6) ha).mono ?_⟩
   rintro _ st' ⟨e1, b1, rfl, he1, rfl⟩
   rcases b1 with _|_
   ·iterate 3 refine ⟨_, rfl, ?_⟩
    refine ⟨_, op_sto rfl rfl rfl rfl rfl rfl rfl, ?_⟩
    refine AW.cutM (gg + 1) st' [(2, vL 2 0 (0)), (3, vL 3 0 (1)), (4, vL 4 0 (2)), (5, vL 5 0 (3)), (6, vI (i : Int)), (7, vI (topF A.x B.x (i : Int))), (8, vL 8 0 (gg)), (9, vB false), (15, vB true), (26, vB false)] [(2, 0, [vS A.p A.x.items.length, vS A.q A.x.floors.length]), (3, 1, [vS B.p B.x.items.length, vS B.q B.x.floors.length]), (4, 2, [.slice none 0 0, .slice none 0 0]), (5, 3, [vS q1 (joinF A.x B.x i).items.length, vS q2 (joinF A.x B.x i).floors.length]), (8, gg, [vI e1.inc, vI e1.rank, vI e1.beat, vI e1.ver, .string e1.data])] ⟨rfl, rfl, rfl, rfl, rfl, rfl, rfl, rfl, rfl, rfl, trivial⟩ ⟨rfl, rfl, rfl, rfl, rfl, trivial⟩ rfl fun ρ0 ff => ?_
    refine ⟨_, op_ldo rfl rfl rfl rfl, ?_⟩
    refine ⟨_, rfl, (ac_spec_EntryOf B i st' (hB.pres hP6) hb).mono ?_⟩
    rintro _ st' ⟨e2, b2, rfl, he2, rfl⟩
    rcases b2 with _|_
    ·iterate 3 refine ⟨_, rfl, ?_⟩
     refine ⟨_, op_sto rfl rfl rfl rfl rfl rfl rfl, ?_⟩
     refine AW.cutM (gg + 2) st' [(2, vL 2 0 (0)), (3, vL 3 0 (1)), (4, vL 4 0 (2)), (5, vL 5 0 (3)), (6, vI (i : Int)), (7, vI (topF A.x B.x (i : Int))), (8, vL 8 0 (gg)), (9, vB false), (10, vL 10 0 (gg + 1)), (11, vB false), (15, vB true), (26, vB false)] [(2, 0, [vS A.p A.x.items.length, vS A.q A.x.floors.length]), (3, 1, [vS B.p B.x.items.length, vS B.q B.x.floors.length]), (4, 2, [.slice none 0 0, .slice none 0 0]), (5, 3, [vS q1 (joinF A.x B.x i).items.length, vS q2 (joinF A.x B.x i).floors.length]), (8, gg, [vI e1.inc, vI e1.rank, vI e1.beat, vI e1.ver, .string e1.data]), (10, gg + 1, [vI e2.inc, vI e2.rank, vI e2.beat, vI e2.ver, .string e2.data])] ⟨rfl, rfl, rfl, rfl, rfl, rfl, rfl, rfl, rfl, rfl, rfl, rfl, trivial⟩ ⟨rfl, rfl, rfl, rfl, rfl, rfl, trivial⟩ rfl fun ρ0 ff => ?_
     have hE : topE A.x B.x (i : Int) = zEnt := by rw [topE, ← he1, ← he2, entP_none he1, entP_none he2]; exact entMax_zz
     have hfa := (floorOf_pos oa.2 (i : Int)).1
     have hle : ¬ (topE A.x B.x (i : Int)).inc > topF A.x B.x (i : Int) := by rw [hE]; unfold topF zEnt; simp only; omega
     rw [if_neg hle] at hJi
     iterate 3 refine ⟨_, rfl, ?_⟩
     refine AW.cutM (gg + 2) st' [(2, vL 2 0 (0)), (3, vL 3 0 (1)), (4, vL 4 0 (2)), (5, vL 5 0 (3)), (6, vI (i : Int)), (7, vI (topF A.x B.x (i : Int))), (8, vL 8 0 (gg)), (9, vB false), (10, vL 10 0 (gg + 1)), (11, vB false), (15, vB true), (26, vB false), (52, vB true)] [(2, 0, [vS A.p A.x.items.length, vS A.q A.x.floors.length]), (3, 1, [vS B.p B.x.items.length, vS B.q B.x.floors.length]), (4, 2, [.slice none 0 0, .slice none 0 0]), (5, 3, [vS q1 (joinF A.x B.x i).items.length, vS q2 (joinF A.x B.x i).floors.length]), (8, gg, [vI e1.inc, vI e1.rank, vI e1.beat, vI e1.ver, .string e1.data]), (10, gg + 1, [vI e2.inc, vI e2.rank, vI e2.beat, vI e2.ver, .string e2.data])] ⟨rfl, rfl, rfl, rfl, rfl, rfl, rfl, rfl, rfl, rfl, rfl, rfl, rfl, trivial⟩ ⟨rfl, rfl, rfl, rfl, rfl, rfl, trivial⟩ rfl fun ρ0 ff => ?_
     refine cxs ?_
     have e17 : IntKind.wrap .i64 ((i : Int) + 1) = ((i + 1 : Nat) : Int) := (wrap_i64 (by omega) (by omega)).trans (by omega)
     refine ⟨_, rfl, ?_⟩
     rw [← hJi] at hO6
     exact ⟨(i + 1, q1, q2), 5 - (i + 1), by omega, ⟨rfl, rfl, rfl, rfl, congrArg (Value.int .i64) e17, trivial⟩, ⟨rfl, rfl, rfl, (show some (3, [vS q1 (joinF A.x B.x i).items.length, vS q2 (joinF A.x B.x i).floors.length]) = some (3, [vS q1 (joinF A.x B.x (i + 1)).items.length, vS q2 (joinF A.x B.x (i + 1)).floors.length]) by rw [hlf, hJi]), trivial⟩, rfl, by omega, hO6, hN1, hN6, hP6⟩
    ·iterate 3 refine ⟨_, rfl, ?_⟩
     refine ⟨_, op_sto rfl rfl rfl rfl rfl rfl rfl, ?_⟩
     refine AW.cutM (gg + 2) st' [(2, vL 2 0 (0)), (3, vL 3 0 (1)), (4, vL 4 0 (2)), (5, vL 5 0 (3)), (6, vI (i : Int)), (7, vI (topF A.x B.x (i : Int))), (8, vL 8 0 (gg)), (9, vB false), (10, vL 10 0 (gg + 1)), (11, vB true), (15, vB true), (26, vB false)] [(2, 0, [vS A.p A.x.items.length, vS A.q A.x.floors.length]), (3, 1, [vS B.p B.x.items.length, vS B.q B.x.floors.length]), (4, 2, [.slice none 0 0, .slice none 0 0]), (5, 3, [vS q1 (joinF A.x B.x i).items.length, vS q2 (joinF A.x B.x i).floors.length]), (8, gg, [vI e1.inc, vI e1.rank, vI e1.beat, vI e1.ver, .string e1.data]), (10, gg + 1, [vI e2.inc, vI e2.rank, vI e2.beat, vI e2.ver, .string e2.data])] ⟨rfl, rfl, rfl, rfl, rfl, rfl, rfl, rfl, rfl, rfl, rfl, rfl, trivial⟩ ⟨rfl, rfl, rfl, rfl, rfl, rfl, trivial⟩ rfl fun ρ0 ff => ?_
     have hE : topE A.x B.x (i : Int) = entMax e1 e2 := by rw [topE, ← he1, ← he2]
     have hfa := (floorOf_pos oa.2 (i : Int)).1
     rw [hE] at hJi
     iterate 3 refine ⟨_, rfl, ?_⟩
     refine AW.cutM (gg + 2) st' [(2, vL 2 0 (0)), (3, vL 3 0 (1)), (4, vL 4 0 (2)), (5, vL 5 0 (3)), (6, vI (i : Int)), (7, vI (topF A.x B.x (i : Int))), (8, vL 8 0 (gg)), (9, vB false), (10, vL 10 0 (gg + 1)), (11, vB true), (15, vB true), (26, vB false), (52, vB false)] [(2, 0, [vS A.p A.x.items.length, vS A.q A.x.floors.length]), (3, 1, [vS B.p B.x.items.length, vS B.q B.x.floors.length]), (4, 2, [.slice none 0 0, .slice none 0 0]), (5, 3, [vS q1 (joinF A.x B.x i).items.length, vS q2 (joinF A.x B.x i).floors.length]), (8, gg, [vI e1.inc, vI e1.rank, vI e1.beat, vI e1.ver, .string e1.data]), (10, gg + 1, [vI e2.inc, vI e2.rank, vI e2.beat, vI e2.ver, .string e2.data])] ⟨rfl, rfl, rfl, rfl, rfl, rfl, rfl, rfl, rfl, rfl, rfl, rfl, rfl, trivial⟩ ⟨rfl, rfl, rfl, rfl, rfl, rfl, trivial⟩ rfl fun ρ0 ff => ?_
     refine cxs ?_
     refine ⟨_, op_ldo rfl rfl rfl rfl, ?_⟩
     refine ⟨_, rfl, ?_⟩
     refine ⟨_, op_sto rfl rfl rfl rfl rfl rfl rfl, ?_⟩
     refine AW.cutM (gg + 3) st' [(2, vL 2 0 (0)), (3, vL 3 0 (1)), (4, vL 4 0 (2)), (5, vL 5 0 (3)), (6, vI (i : Int)), (7, vI (topF A.x B.x (i : Int))), (8, vL 8 0 (gg)), (9, vB false), (10, vL 10 0 (gg + 1)), (11, vB true), (12, vL 12 0 (gg + 2)), (15, vB true), (26, vB false), (52, vB false)] [(2, 0, [vS A.p A.x.items.length, vS A.q A.x.floors.length]), (3, 1, [vS B.p B.x.items.length, vS B.q B.x.floors.length]), (4, 2, [.slice none 0 0, .slice none 0 0]), (5, 3, [vS q1 (joinF A.x B.x i).items.length, vS q2 (joinF A.x B.x i).floors.length]), (8, gg, [vI e1.inc, vI e1.rank, vI e1.beat, vI e1.ver, .string e1.data]), (10, gg + 1, [vI e2.inc, vI e2.rank, vI e2.beat, vI e2.ver, .string e2.data]), (12, gg + 2, [vI e1.inc, vI e1.rank, vI e1.beat, vI e1.ver, .string e1.data])] ⟨rfl, rfl, rfl, rfl, rfl, rfl, rfl, rfl, rfl, rfl, rfl, rfl, rfl, rfl, trivial⟩ ⟨rfl, rfl, rfl, rfl, rfl, rfl, rfl, trivial⟩ rfl fun ρ0 ff => ?_
     iterate 2 refine ⟨_, rfl, ?_⟩
     refine AW.cutM (gg + 3) st' [(2, vL 2 0 (0)), (3, vL 3 0 (1)), (4, vL 4 0 (2)), (5, vL 5 0 (3)), (6, vI (i : Int)), (7, vI (topF A.x B.x (i : Int))), (8, vL 8 0 (gg)), (9, vB false), (10, vL 10 0 (gg + 1)), (11, vB true), (12, vL 12 0 (gg + 2)), (15, vB true), (26, vB false), (52, vB false), (64, vB true)] [(2, 0, [vS A.p A.x.items.length, vS A.q A.x.floors.length]), (3, 1, [vS B.p B.x.items.length, vS B.q B.x.floors.length]), (4, 2, [.slice none 0 0, .slice none 0 0]), (5, 3, [vS q1 (joinF A.x B.x i).items.length, vS q2 (joinF A.x B.x i).floors.length]), (8, gg, [vI e1.inc, vI e1.rank, vI e1.beat, vI e1.ver, .string e1.data]), (10, gg + 1, [vI e2.inc, vI e2.rank, vI e2.beat, vI e2.ver, .string e2.data]), (12, gg + 2, [vI e1.inc, vI e1.rank, vI e1.beat, vI e1.ver, .string e1.data])] ⟨rfl, rfl, rfl, rfl, rfl, rfl, rfl, rfl, rfl, rfl, rfl, rfl, rfl, rfl, rfl, trivial⟩ ⟨rfl, rfl, rfl, rfl, rfl, rfl, rfl, trivial⟩ rfl fun ρ0 ff => ?_
     have hm : entMax e1 e2 = e2 := by rw [entP_none he1]; exact (entMax_zero (ent_ok ob he2).1.1).2
     rw [hm] at hJi
     have hO7 := hO6
     have hP8 := hP6
     refine ⟨_, op_ldo rfl rfl rfl rfl, ?_⟩
     refine ⟨_, op_sto rfl rfl rfl rfl rfl rfl rfl, ?_⟩
     refine AW.cutM (gg + 3) st' [(2, vL 2 0 (0)), (3, vL 3 0 (1)), (4, vL 4 0 (2)), (5, vL 5 0 (3)), (6, vI (i : Int)), (7, vI (topF A.x B.x (i : Int))), (8, vL 8 0 (gg)), (9, vB false), (10, vL 10 0 (gg + 1)), (11, vB true), (12, vL 12 0 (gg + 2)), (15, vB true), (26, vB false), (52, vB false), (64, vB true)] [(2, 0, [vS A.p A.x.items.length, vS A.q A.x.floors.length]), (3, 1, [vS B.p B.x.items.length, vS B.q B.x.floors.length]), (4, 2, [.slice none 0 0, .slice none 0 0]), (5, 3, [vS q1 (joinF A.x B.x i).items.length, vS q2 (joinF A.x B.x i).floors.length]), (8, gg, [vI e1.inc, vI e1.rank, vI e1.beat, vI e1.ver, .string e1.data]), (10, gg + 1, [vI e2.inc, vI e2.rank, vI e2.beat, vI e2.ver, .string e2.data]), (12, gg + 2, [vI e2.inc, vI e2.rank, vI e2.beat, vI e2.ver, .string e2.data])] ⟨rfl, rfl, rfl, rfl, rfl, rfl, rfl, rfl, rfl, rfl, rfl, rfl, rfl, rfl, rfl, trivial⟩ ⟨rfl, rfl, rfl, rfl, rfl, rfl, rfl, trivial⟩ rfl fun ρ0 ff => ?_
     refine ⟨_, rfl, ?_⟩
     refine ⟨_, op_ldo rfl rfl rfl rfl, ?_⟩
     refine ⟨_, rfl, ?_⟩
     rintro (_|_) h4
     ·replace h4 : ¬ (e2.inc > topF A.x B.x (i : Int)) := of_decide_eq_false h4
      refine AW.cutM (gg + 3) st' [(2, vL 2 0 (0)), (3, vL 3 0 (1)), (4, vL 4 0 (2)), (5, vL 5 0 (3)), (6, vI (i : Int)), (7, vI (topF A.x B.x (i : Int))), (8, vL 8 0 (gg)), (9, vB false), (10, vL 10 0 (gg + 1)), (11, vB true), (12, vL 12 0 (gg + 2)), (15, vB true), (26, vB false), (52, vB false), (64, vB true), (69, vB false)] [(2, 0, [vS A.p A.x.items.length, vS A.q A.x.floors.length]), (3, 1, [vS B.p B.x.items.length, vS B.q B.x.floors.length]), (4, 2, [.slice none 0 0, .slice none 0 0]), (5, 3, [vS q1 (joinF A.x B.x i).items.length, vS q2 (joinF A.x B.x i).floors.length]), (8, gg, [vI e1.inc, vI e1.rank, vI e1.beat, vI e1.ver, .string e1.data]), (10, gg + 1, [vI e2.inc, vI e2.rank, vI e2.beat, vI e2.ver, .string e2.data]), (12, gg + 2, [vI e2.inc, vI e2.rank, vI e2.beat, vI e2.ver, .string e2.data])] ⟨rfl, rfl, rfl, rfl, rfl, rfl, rfl, rfl, rfl, rfl, rfl, rfl, rfl, rfl, rfl, rfl, trivial⟩ ⟨rfl, rfl, rfl, rfl, rfl, rfl, rfl, trivial⟩ rfl fun ρ0 ff => ?_
      refine cxs ?_
      have e17 : IntKind.wrap .i64 ((i : Int) + 1) = ((i + 1 : Nat) : Int) := (wrap_i64 (by omega) (by omega)).trans (by omega)
      refine ⟨_, rfl, ?_⟩
      rw [if_neg h4] at hJi
      rw [← hJi] at hO7
      exact ⟨(i + 1, q1, q2), 5 - (i + 1), by omega, ⟨rfl, rfl, rfl, rfl, congrArg (Value.int .i64) e17, trivial⟩, ⟨rfl, rfl, rfl, (show some (3, [vS q1 (joinF A.x B.x i).items.length, vS q2 (joinF A.x B.x i).floors.length]) = some (3, [vS q1 (joinF A.x B.x (i + 1)).items.length, vS q2 (joinF A.x B.x (i + 1)).floors.length]) by rw [hlf, hJi]), trivial⟩, rfl, by omega, hO7, hN1, hN6, hP8⟩
     ·replace h4 : e2.inc > topF A.x B.x (i : Int) := of_decide_eq_true h4
      refine AW.cutM (gg + 3) st' [(2, vL 2 0 (0)), (3, vL 3 0 (1)), (4, vL 4 0 (2)), (5, vL 5 0 (3)), (6, vI (i : Int)), (7, vI (topF A.x B.x (i : Int))), (8, vL 8 0 (gg)), (9, vB false), (10, vL 10 0 (gg + 1)), (11, vB true), (12, vL 12 0 (gg + 2)), (15, vB true), (26, vB false), (52, vB false), (64, vB true), (69, vB true)] [(2, 0, [vS A.p A.x.items.length, vS A.q A.x.floors.length]), (3, 1, [vS B.p B.x.items.length, vS B.q B.x.floors.length]), (4, 2, [.slice none 0 0, .slice none 0 0]), (5, 3, [vS q1 (joinF A.x B.x i).items.length, vS q2 (joinF A.x B.x i).floors.length]), (8, gg, [vI e1.inc, vI e1.rank, vI e1.beat, vI e1.ver, .string e1.data]), (10, gg + 1, [vI e2.inc, vI e2.rank, vI e2.beat, vI e2.ver, .string e2.data]), (12, gg + 2, [vI e2.inc, vI e2.rank, vI e2.beat, vI e2.ver, .string e2.data])] ⟨rfl, rfl, rfl, rfl, rfl, rfl, rfl, rfl, rfl, rfl, rfl, rfl, rfl, rfl, rfl, rfl, trivial⟩ ⟨rfl, rfl, rfl, rfl, rfl, rfl, rfl, trivial⟩ rfl fun ρ0 ff => ?_
      refine ⟨_, rfl, ?_⟩
      refine ⟨_, op_ldo rfl rfl rfl rfl, ?_⟩
      refine ⟨_, op_ldo rfl rfl rfl rfl, ?_⟩
      refine ⟨_, rfl, ?_⟩
      refine op_one (z := 6) (a := (⟨(i : Int), e2⟩ : Itm)) (f := cItm) rfl rfl rfl rfl rfl (by decide) rfl (Nat.le_of_ble_eq_true rfl) rfl rfl rfl ?_
      refine op_add (z := 6) (st := st') (f := cItm) (b := 56) (l := (joinF A.x B.x i).items) rfl rfl rfl rfl rfl rfl rfl (by decide) len_cItm rfl rfl rfl (by omega) (by unfold maxLen; omega) (pcS_i hO7) ?_
      intro q8 s8 hO8 hP9 hN8
      refine ⟨_, rfl, ?_⟩
      refine ⟨_, op_sto rfl rfl rfl rfl rfl rfl rfl, ?_⟩
      refine AW.cutM (gg + 3) s8 [(2, vL 2 0 (0)), (3, vL 3 0 (1)), (4, vL 4 0 (2)), (5, vL 5 0 (3)), (6, vI (i : Int)), (7, vI (topF A.x B.x (i : Int))), (8, vL 8 0 (gg)), (9, vB false), (10, vL 10 0 (gg + 1)), (11, vB true), (12, vL 12 0 (gg + 2)), (15, vB true), (26, vB false), (52, vB false), (64, vB true), (69, vB true)] [(2, 0, [vS A.p A.x.items.length, vS A.q A.x.floors.length]), (3, 1, [vS B.p B.x.items.length, vS B.q B.x.floors.length]), (4, 2, [.slice none 0 0, .slice none 0 0]), (5, 3, [vS q8 ((joinF A.x B.x i).items.length + 1), vS q2 (joinF A.x B.x i).floors.length]), (8, gg, [vI e1.inc, vI e1.rank, vI e1.beat, vI e1.ver, .string e1.data]), (10, gg + 1, [vI e2.inc, vI e2.rank, vI e2.beat, vI e2.ver, .string e2.data]), (12, gg + 2, [vI e2.inc, vI e2.rank, vI e2.beat, vI e2.ver, .string e2.data])] ⟨rfl, rfl, rfl, rfl, rfl, rfl, rfl, rfl, rfl, rfl, rfl, rfl, rfl, rfl, rfl, rfl, trivial⟩ ⟨rfl, rfl, rfl, rfl, rfl, rfl, rfl, trivial⟩ rfl fun ρ0 ff => ?_
      have e17 : IntKind.wrap .i64 ((i : Int) + 1) = ((i + 1 : Nat) : Int) := (wrap_i64 (by omega) (by omega)).trans (by omega)
      refine ⟨_, rfl, ?_⟩
      rw [if_pos h4] at hJi
      have hl : (joinF A.x B.x (i + 1)).items.length = (joinF A.x B.x i).items.length + 1 := by rw [hJi, List.length_append]; rfl
      have hO9 := pcS_items hO7 hP9 hO8 hN8
      rw [← hJi] at hO9
      have hP10 := hP9.pres hP8 hN1
      have hN8 := hN8.le hP8.1
      exact ⟨(i + 1, q8, q2), 5 - (i + 1), by omega, ⟨rfl, rfl, rfl, rfl, congrArg (Value.int .i64) e17, trivial⟩, ⟨rfl, rfl, rfl, (show some (3, [vS q8 ((joinF A.x B.x i).items.length + 1), vS q2 (joinF A.x B.x i).floors.length]) = some (3, [vS q8 (joinF A.x B.x (i + 1)).items.length, vS q2 (joinF A.x B.x (i + 1)).floors.length]) by rw [hlf, hl]), trivial⟩, rfl, by omega, hO9, hN8, hN6, hP10⟩
   ·iterate 3 refine ⟨_, rfl, ?_⟩
    refine ⟨_, op_sto rfl rfl rfl rfl rfl rfl rfl, ?_⟩
    refine AW.cutM (gg + 1) st' [(2, vL 2 0 (0)), (3, vL 3 0 (1)), (4, vL 4 0 (2)), (5, vL 5 0 (3)), (6, vI (i : Int)), (7, vI (topF A.x B.x (i : Int))), (8, vL 8 0 (gg)), (9, vB true), (15, vB true), (26, vB false)] [(2, 0, [vS A.p A.x.items.length, vS A.q A.x.floors.length]), (3, 1, [vS B.p B.x.items.length, vS B.q B.x.floors.length]), (4, 2, [.slice none 0 0, .slice none 0 0]), (5, 3, [vS q1 (joinF A.x B.x i).items.length, vS q2 (joinF A.x B.x i).floors.length]), (8, gg, [vI e1.inc, vI e1.rank, vI e1.beat, vI e1.ver, .string e1.data])] ⟨rfl, rfl, rfl, rfl, rfl, rfl, rfl, rfl, rfl, rfl, trivial⟩ ⟨rfl, rfl, rfl, rfl, rfl, trivial⟩ rfl fun ρ0 ff => ?_
    refine ⟨_, op_ldo rfl rfl rfl rfl, ?_⟩
    refine ⟨_, rfl, (ac_spec_EntryOf B i st' (hB.pres hP6) hb).mono ?_⟩
    rintro _ st' ⟨e2, b2, rfl, he2, rfl⟩
    rcases b2 with _|_
    ·iterate 3 refine ⟨_, rfl, ?_⟩
     refine ⟨_, op_sto rfl rfl rfl rfl rfl rfl rfl, ?_⟩
     refine AW.cutM (gg + 2) st' [(2, vL 2 0 (0)), (3, vL 3 0 (1)), (4, vL 4 0 (2)), (5, vL 5 0 (3)), (6, vI (i : Int)), (7, vI (topF A.x B.x (i : Int))), (8, vL 8 0 (gg)), (9, vB true), (10, vL 10 0 (gg + 1)), (11, vB false), (15, vB true), (26, vB false)] [(2, 0, [vS A.p A.x.items.length, vS A.q A.x.floors.length]), (3, 1, [vS B.p B.x.items.length, vS B.q B.x.floors.length]), (4, 2, [.slice none 0 0, .slice none 0 0]), (5, 3, [vS q1 (joinF A.x B.x i).items.length, vS q2 (joinF A.x B.x i).floors.length]), (8, gg, [vI e1.inc, vI e1.rank, vI e1.beat, vI e1.ver, .string e1.data]), (10, gg + 1, [vI e2.inc, vI e2.rank, vI e2.beat, vI e2.ver, .string e2.data])] ⟨rfl, rfl, rfl, rfl, rfl, rfl, rfl, rfl, rfl, rfl, rfl, rfl, trivial⟩ ⟨rfl, rfl, rfl, rfl, rfl, rfl, trivial⟩ rfl fun ρ0 ff => ?_
     have hE : topE A.x B.x (i : Int) = entMax e1 e2 := by rw [topE, ← he1, ← he2]
     have hfa := (floorOf_pos oa.2 (i : Int)).1
     rw [hE] at hJi
     iterate 2 refine ⟨_, rfl, ?_⟩
     refine AW.cutM (gg + 2) st' [(2, vL 2 0 (0)), (3, vL 3 0 (1)), (4, vL 4 0 (2)), (5, vL 5 0 (3)), (6, vI (i : Int)), (7, vI (topF A.x B.x (i : Int))), (8, vL 8 0 (gg)), (9, vB true), (10, vL 10 0 (gg + 1)), (11, vB false), (15, vB true), (26, vB false), (52, vB false)] [(2, 0, [vS A.p A.x.items.length, vS A.q A.x.floors.length]), (3, 1, [vS B.p B.x.items.length, vS B.q B.x.floors.length]), (4, 2, [.slice none 0 0, .slice none 0 0]), (5, 3, [vS q1 (joinF A.x B.x i).items.length, vS q2 (joinF A.x B.x i).floors.length]), (8, gg, [vI e1.inc, vI e1.rank, vI e1.beat, vI e1.ver, .string e1.data]), (10, gg + 1, [vI e2.inc, vI e2.rank, vI e2.beat, vI e2.ver, .string e2.data])] ⟨rfl, rfl, rfl, rfl, rfl, rfl, rfl, rfl, rfl, rfl, rfl, rfl, rfl, trivial⟩ ⟨rfl, rfl, rfl, rfl, rfl, rfl, trivial⟩ rfl fun ρ0 ff => ?_
     refine cxs ?_
     refine ⟨_, op_ldo rfl rfl rfl rfl, ?_⟩
     refine ⟨_, rfl, ?_⟩
     refine ⟨_, op_sto rfl rfl rfl rfl rfl rfl rfl, ?_⟩
     refine AW.cutM (gg + 3) st' [(2, vL 2 0 (0)), (3, vL 3 0 (1)), (4, vL 4 0 (2)), (5, vL 5 0 (3)), (6, vI (i : Int)), (7, vI (topF A.x B.x (i : Int))), (8, vL 8 0 (gg)), (9, vB true), (10, vL 10 0 (gg + 1)), (11, vB false), (12, vL 12 0 (gg + 2)), (15, vB true), (26, vB false), (52, vB false)] [(2, 0, [vS A.p A.x.items.length, vS A.q A.x.floors.length]), (3, 1, [vS B.p B.x.items.length, vS B.q B.x.floors.length]), (4, 2, [.slice none 0 0, .slice none 0 0]), (5, 3, [vS q1 (joinF A.x B.x i).items.length, vS q2 (joinF A.x B.x i).floors.length]), (8, gg, [vI e1.inc, vI e1.rank, vI e1.beat, vI e1.ver, .string e1.data]), (10, gg + 1, [vI e2.inc, vI e2.rank, vI e2.beat, vI e2.ver, .string e2.data]), (12, gg + 2, [vI e1.inc, vI e1.rank, vI e1.beat, vI e1.ver, .string e1.data])] ⟨rfl, rfl, rfl, rfl, rfl, rfl, rfl, rfl, rfl, rfl, rfl, rfl, rfl, rfl, trivial⟩ ⟨rfl, rfl, rfl, rfl, rfl, rfl, rfl, trivial⟩ rfl fun ρ0 ff => ?_
     iterate 3 refine ⟨_, rfl, ?_⟩
     refine AW.cutM (gg + 3) st' [(2, vL 2 0 (0)), (3, vL 3 0 (1)), (4, vL 4 0 (2)), (5, vL 5 0 (3)), (6, vI (i : Int)), (7, vI (topF A.x B.x (i : Int))), (8, vL 8 0 (gg)), (9, vB true), (10, vL 10 0 (gg + 1)), (11, vB false), (12, vL 12 0 (gg + 2)), (15, vB true), (26, vB false), (52, vB false), (64, vB false)] [(2, 0, [vS A.p A.x.items.length, vS A.q A.x.floors.length]), (3, 1, [vS B.p B.x.items.length, vS B.q B.x.floors.length]), (4, 2, [.slice none 0 0, .slice none 0 0]), (5, 3, [vS q1 (joinF A.x B.x i).items.length, vS q2 (joinF A.x B.x i).floors.length]), (8, gg, [vI e1.inc, vI e1.rank, vI e1.beat, vI e1.ver, .string e1.data]), (10, gg + 1, [vI e2.inc, vI e2.rank, vI e2.beat, vI e2.ver, .string e2.data]), (12, gg + 2, [vI e1.inc, vI e1.rank, vI e1.beat, vI e1.ver, .string e1.data])] ⟨rfl, rfl, rfl, rfl, rfl, rfl, rfl, rfl, rfl, rfl, rfl, rfl, rfl, rfl, rfl, trivial⟩ ⟨rfl, rfl, rfl, rfl, rfl, rfl, rfl, trivial⟩ rfl fun ρ0 ff => ?_
     have hm : entMax e1 e2 = e1 := by rw [entP_none he2]; exact (entMax_zero (ent_ok oa he1).1.1).1
     rw [hm] at hJi
     have hO7 := hO6
     have hP8 := hP6
     refine cxs ?_
     refine ⟨_, rfl, ?_⟩
     refine ⟨_, op_ldo rfl rfl rfl rfl, ?_⟩
     refine ⟨_, rfl, ?_⟩
     rintro (_|_) h4
     ·replace h4 : ¬ (e1.inc > topF A.x B.x (i : Int)) := of_decide_eq_false h4
      refine AW.cutM (gg + 3) st' [(2, vL 2 0 (0)), (3, vL 3 0 (1)), (4, vL 4 0 (2)), (5, vL 5 0 (3)), (6, vI (i : Int)), (7, vI (topF A.x B.x (i : Int))), (8, vL 8 0 (gg)), (9, vB true), (10, vL 10 0 (gg + 1)), (11, vB false), (12, vL 12 0 (gg + 2)), (15, vB true), (26, vB false), (52, vB false), (64, vB false), (69, vB false)] [(2, 0, [vS A.p A.x.items.length, vS A.q A.x.floors.length]), (3, 1, [vS B.p B.x.items.length, vS B.q B.x.floors.length]), (4, 2, [.slice none 0 0, .slice none 0 0]), (5, 3, [vS q1 (joinF A.x B.x i).items.length, vS q2 (joinF A.x B.x i).floors.length]), (8, gg, [vI e1.inc, vI e1.rank, vI e1.beat, vI e1.ver, .string e1.data]), (10, gg + 1, [vI e2.inc, vI e2.rank, vI e2.beat, vI e2.ver, .string e2.data]), (12, gg + 2, [vI e1.inc, vI e1.rank, vI e1.beat, vI e1.ver, .string e1.data])] ⟨rfl, rfl, rfl, rfl, rfl, rfl, rfl, rfl, rfl, rfl, rfl, rfl, rfl, rfl, rfl, rfl, trivial⟩ ⟨rfl, rfl, rfl, rfl, rfl, rfl, rfl, trivial⟩ rfl fun ρ0 ff => ?_
      refine cxs ?_
      have e17 : IntKind.wrap .i64 ((i : Int) + 1) = ((i + 1 : Nat) : Int) := (wrap_i64 (by omega) (by omega)).trans (by omega)
      refine ⟨_, rfl, ?_⟩
      rw [if_neg h4] at hJi
      rw [← hJi] at hO7
      exact ⟨(i + 1, q1, q2), 5 - (i + 1), by omega, ⟨rfl, rfl, rfl, rfl, congrArg (Value.int .i64) e17, trivial⟩, ⟨rfl, rfl, rfl, (show some (3, [vS q1 (joinF A.x B.x i).items.length, vS q2 (joinF A.x B.x i).floors.length]) = some (3, [vS q1 (joinF A.x B.x (i + 1)).items.length, vS q2 (joinF A.x B.x (i + 1)).floors.length]) by rw [hlf, hJi]), trivial⟩, rfl, by omega, hO7, hN1, hN6, hP8⟩
     ·replace h4 : e1.inc > topF A.x B.x (i : Int) := of_decide_eq_true h4
      refine AW.cutM (gg + 3) st' [(2, vL 2 0 (0)), (3, vL 3 0 (1)), (4, vL 4 0 (2)), (5, vL 5 0 (3)), (6, vI (i : Int)), (7, vI (topF A.x B.x (i : Int))), (8, vL 8 0 (gg)), (9, vB true), (10, vL 10 0 (gg + 1)), (11, vB false), (12, vL 12 0 (gg + 2)), (15, vB true), (26, vB false), (52, vB false), (64, vB false), (69, vB true)] [(2, 0, [vS A.p A.x.items.length, vS A.q A.x.floors.length]), (3, 1, [vS B.p B.x.items.length, vS B.q B.x.floors.length]), (4, 2, [.slice none 0 0, .slice none 0 0]), (5, 3, [vS q1 (joinF A.x B.x i).items.length, vS q2 (joinF A.x B.x i).floors.length]), (8, gg, [vI e1.inc, vI e1.rank, vI e1.beat, vI e1.ver, .string e1.data]), (10, gg + 1, [vI e2.inc, vI e2.rank, vI e2.beat, vI e2.ver, .string e2.data]), (12, gg + 2, [vI e1.inc, vI e1.rank, vI e1.beat, vI e1.ver, .string e1.data])] ⟨rfl, rfl, rfl, rfl, rfl, rfl, rfl, rfl, rfl, rfl, rfl, rfl, rfl, rfl, rfl, rfl, trivial⟩ ⟨rfl, rfl, rfl, rfl, rfl, rfl, rfl, trivial⟩ rfl fun ρ0 ff => ?_
      refine ⟨_, rfl, ?_⟩
      refine ⟨_, op_ldo rfl rfl rfl rfl, ?_⟩
      refine ⟨_, op_ldo rfl rfl rfl rfl, ?_⟩
      refine ⟨_, rfl, ?_⟩
      refine op_one (z := 6) (a := (⟨(i : Int), e1⟩ : Itm)) (f := cItm) rfl rfl rfl rfl rfl (by decide) rfl (Nat.le_of_ble_eq_true rfl) rfl rfl rfl ?_
      refine op_add (z := 6) (st := st') (f := cItm) (b := 56) (l := (joinF A.x B.x i).items) rfl rfl rfl rfl rfl rfl rfl (by decide) len_cItm rfl rfl rfl (by omega) (by unfold maxLen; omega) (pcS_i hO7) ?_
      intro q8 s8 hO8 hP9 hN8
      refine ⟨_, rfl, ?_⟩
      refine ⟨_, op_sto rfl rfl rfl rfl rfl rfl rfl, ?_⟩
      refine AW.cutM (gg + 3) s8 [(2, vL 2 0 (0)), (3, vL 3 0 (1)), (4, vL 4 0 (2)), (5, vL 5 0 (3)), (6, vI (i : Int)), (7, vI (topF A.x B.x (i : Int))), (8, vL 8 0 (gg)), (9, vB true), (10, vL 10 0 (gg + 1)), (11, vB false), (12, vL 12 0 (gg + 2)), (15, vB true), (26, vB false), (52, vB false), (64, vB false), (69, vB true)] [(2, 0, [vS A.p A.x.items.length, vS A.q A.x.floors.length]), (3, 1, [vS B.p B.x.items.length, vS B.q B.x.floors.length]), (4, 2, [.slice none 0 0, .slice none 0 0]), (5, 3, [vS q8 ((joinF A.x B.x i).items.length + 1), vS q2 (joinF A.x B.x i).floors.length]), (8, gg, [vI e1.inc, vI e1.rank, vI e1.beat, vI e1.ver, .string e1.data]), (10, gg + 1, [vI e2.inc, vI e2.rank, vI e2.beat, vI e2.ver, .string e2.data]), (12, gg + 2, [vI e1.inc, vI e1.rank, vI e1.beat, vI e1.ver, .string e1.data])] ⟨rfl, rfl, rfl, rfl, rfl, rfl, rfl, rfl, rfl, rfl, rfl, rfl, rfl, rfl, rfl, rfl, trivial⟩ ⟨rfl, rfl, rfl, rfl, rfl, rfl, rfl, trivial⟩ rfl fun ρ0 ff => ?_
      have e17 : IntKind.wrap .i64 ((i : Int) + 1) = ((i + 1 : Nat) : Int) := (wrap_i64 (by omega) (by omega)).trans (by omega)
      refine ⟨_, rfl, ?_⟩
      rw [if_pos h4] at hJi
      have hl : (joinF A.x B.x (i + 1)).items.length = (joinF A.x B.x i).items.length + 1 := by rw [hJi, List.length_append]; rfl
      have hO9 := pcS_items hO7 hP9 hO8 hN8
      rw [← hJi] at hO9
      have hP10 := hP9.pres hP8 hN1
      have hN8 := hN8.le hP8.1
      exact ⟨(i + 1, q8, q2), 5 - (i + 1), by omega, ⟨rfl, rfl, rfl, rfl, congrArg (Value.int .i64) e17, trivial⟩, ⟨rfl, rfl, rfl, (show some (3, [vS q8 ((joinF A.x B.x i).items.length + 1), vS q2 (joinF A.x B.x i).floors.length]) = some (3, [vS q8 (joinF A.x B.x (i + 1)).items.length, vS q2 (joinF A.x B.x (i + 1)).floors.length]) by rw [hlf, hl]), trivial⟩, rfl, by omega, hO9, hN8, hN6, hP10⟩
    ·iterate 3 refine ⟨_, rfl, ?_⟩
     refine ⟨_, op_sto rfl rfl rfl rfl rfl rfl rfl, ?_⟩
     refine AW.cutM (gg + 2) st' [(2, vL 2 0 (0)), (3, vL 3 0 (1)), (4, vL 4 0 (2)), (5, vL 5 0 (3)), (6, vI (i : Int)), (7, vI (topF A.x B.x (i : Int))), (8, vL 8 0 (gg)), (9, vB true), (10, vL 10 0 (gg + 1)), (11, vB true), (15, vB true), (26, vB false)] [(2, 0, [vS A.p A.x.items.length, vS A.q A.x.floors.length]), (3, 1, [vS B.p B.x.items.length, vS B.q B.x.floors.length]), (4, 2, [.slice none 0 0, .slice none 0 0]), (5, 3, [vS q1 (joinF A.x B.x i).items.length, vS q2 (joinF A.x B.x i).floors.length]), (8, gg, [vI e1.inc, vI e1.rank, vI e1.beat, vI e1.ver, .string e1.data]), (10, gg + 1, [vI e2.inc, vI e2.rank, vI e2.beat, vI e2.ver, .string e2.data])] ⟨rfl, rfl, rfl, rfl, rfl, rfl, rfl, rfl, rfl, rfl, rfl, rfl, trivial⟩ ⟨rfl, rfl, rfl, rfl, rfl, rfl, trivial⟩ rfl fun ρ0 ff => ?_
     have hE : topE A.x B.x (i : Int) = entMax e1 e2 := by rw [topE, ← he1, ← he2]
     have hfa := (floorOf_pos oa.2 (i : Int)).1
     rw [hE] at hJi
     iterate 2 refine ⟨_, rfl, ?_⟩
     refine AW.cutM (gg + 2) st' [(2, vL 2 0 (0)), (3, vL 3 0 (1)), (4, vL 4 0 (2)), (5, vL 5 0 (3)), (6, vI (i : Int)), (7, vI (topF A.x B.x (i : Int))), (8, vL 8 0 (gg)), (9, vB true), (10, vL 10 0 (gg + 1)), (11, vB true), (15, vB true), (26, vB false), (52, vB false)] [(2, 0, [vS A.p A.x.items.length, vS A.q A.x.floors.length]), (3, 1, [vS B.p B.x.items.length, vS B.q B.x.floors.length]), (4, 2, [.slice none 0 0, .slice none 0 0]), (5, 3, [vS q1 (joinF A.x B.x i).items.length, vS q2 (joinF A.x B.x i).floors.length]), (8, gg, [vI e1.inc, vI e1.rank, vI e1.beat, vI e1.ver, .string e1.data]), (10, gg + 1, [vI e2.inc, vI e2.rank, vI e2.beat, vI e2.ver, .string e2.data])] ⟨rfl, rfl, rfl, rfl, rfl, rfl, rfl, rfl, rfl, rfl, rfl, rfl, rfl, trivial⟩ ⟨rfl, rfl, rfl, rfl, rfl, rfl, trivial⟩ rfl fun ρ0 ff => ?_
     refine cxs ?_
     refine ⟨_, op_ldo rfl rfl rfl rfl, ?_⟩
     refine ⟨_, rfl, ?_⟩
     refine ⟨_, op_sto rfl rfl rfl rfl rfl rfl rfl, ?_⟩
     refine AW.cutM (gg + 3) st' [(2, vL 2 0 (0)), (3, vL 3 0 (1)), (4, vL 4 0 (2)), (5, vL 5 0 (3)), (6, vI (i : Int)), (7, vI (topF A.x B.x (i : Int))), (8, vL 8 0 (gg)), (9, vB true), (10, vL 10 0 (gg + 1)), (11, vB true), (12, vL 12 0 (gg + 2)), (15, vB true), (26, vB false), (52, vB false)] [(2, 0, [vS A.p A.x.items.length, vS A.q A.x.floors.length]), (3, 1, [vS B.p B.x.items.length, vS B.q B.x.floors.length]), (4, 2, [.slice none 0 0, .slice none 0 0]), (5, 3, [vS q1 (joinF A.x B.x i).items.length, vS q2 (joinF A.x B.x i).floors.length]), (8, gg, [vI e1.inc, vI e1.rank, vI e1.beat, vI e1.ver, .string e1.data]), (10, gg + 1, [vI e2.inc, vI e2.rank, vI e2.beat, vI e2.ver, .string e2.data]), (12, gg + 2, [vI e1.inc, vI e1.rank, vI e1.beat, vI e1.ver, .string e1.data])] ⟨rfl, rfl, rfl, rfl, rfl, rfl, rfl, rfl, rfl, rfl, rfl, rfl, rfl, rfl, trivial⟩ ⟨rfl, rfl, rfl, rfl, rfl, rfl, rfl, trivial⟩ rfl fun ρ0 ff => ?_
     refine ⟨_, rfl, ?_⟩
     refine ⟨_, op_ldo rfl rfl rfl rfl, ?_⟩
     refine ⟨_, op_ldo rfl rfl rfl rfl, ?_⟩
     refine ⟨_, rfl, (ac_spec_EntryCmp e2 e1 st').mono ?_⟩
     rintro _ s7 ⟨rfl, hP7⟩
     refine ⟨_, rfl, ?_⟩
     rintro (_|_) h3
     ·replace h3 : ¬ (entCmp e2 e1 > 0) := of_decide_eq_false h3
      iterate 2 refine ⟨_, rfl, ?_⟩
      refine AW.cutM (gg + 3) s7 [(2, vL 2 0 (0)), (3, vL 3 0 (1)), (4, vL 4 0 (2)), (5, vL 5 0 (3)), (6, vI (i : Int)), (7, vI (topF A.x B.x (i : Int))), (8, vL 8 0 (gg)), (9, vB true), (10, vL 10 0 (gg + 1)), (11, vB true), (12, vL 12 0 (gg + 2)), (15, vB true), (26, vB false), (52, vB false), (64, vB false)] [(2, 0, [vS A.p A.x.items.length, vS A.q A.x.floors.length]), (3, 1, [vS B.p B.x.items.length, vS B.q B.x.floors.length]), (4, 2, [.slice none 0 0, .slice none 0 0]), (5, 3, [vS q1 (joinF A.x B.x i).items.length, vS q2 (joinF A.x B.x i).floors.length]), (8, gg, [vI e1.inc, vI e1.rank, vI e1.beat, vI e1.ver, .string e1.data]), (10, gg + 1, [vI e2.inc, vI e2.rank, vI e2.beat, vI e2.ver, .string e2.data]), (12, gg + 2, [vI e1.inc, vI e1.rank, vI e1.beat, vI e1.ver, .string e1.data])] ⟨rfl, rfl, rfl, rfl, rfl, rfl, rfl, rfl, rfl, rfl, rfl, rfl, rfl, rfl, rfl, trivial⟩ ⟨rfl, rfl, rfl, rfl, rfl, rfl, rfl, trivial⟩ rfl fun ρ0 ff => ?_
      have hm : entMax e1 e2 = e1 := by rw [entMax, if_neg (by have := entCmp_neg e1 e2; omega)]
      rw [hm] at hJi
      have hO7 := hO6.pres hP7
      have hP8 := hP6.trans hP7
      refine cxs ?_
      refine ⟨_, rfl, ?_⟩
      refine ⟨_, op_ldo rfl rfl rfl rfl, ?_⟩
      refine ⟨_, rfl, ?_⟩
      rintro (_|_) h4
      ·replace h4 : ¬ (e1.inc > topF A.x B.x (i : Int)) := of_decide_eq_false h4
       refine AW.cutM (gg + 3) s7 [(2, vL 2 0 (0)), (3, vL 3 0 (1)), (4, vL 4 0 (2)), (5, vL 5 0 (3)), (6, vI (i : Int)), (7, vI (topF A.x B.x (i : Int))), (8, vL 8 0 (gg)), (9, vB true), (10, vL 10 0 (gg + 1)), (11, vB true), (12, vL 12 0 (gg + 2)), (15, vB true), (26, vB false), (52, vB false), (64, vB false), (69, vB false)] [(2, 0, [vS A.p A.x.items.length, vS A.q A.x.floors.length]), (3, 1, [vS B.p B.x.items.length, vS B.q B.x.floors.length]), (4, 2, [.slice none 0 0, .slice none 0 0]), (5, 3, [vS q1 (joinF A.x B.x i).items.length, vS q2 (joinF A.x B.x i).floors.length]), (8, gg, [vI e1.inc, vI e1.rank, vI e1.beat, vI e1.ver, .string e1.data]), (10, gg + 1, [vI e2.inc, vI e2.rank, vI e2.beat, vI e2.ver, .string e2.data]), (12, gg + 2, [vI e1.inc, vI e1.rank, vI e1.beat, vI e1.ver, .string e1.data])] ⟨rfl, rfl, rfl, rfl, rfl, rfl, rfl, rfl, rfl, rfl, rfl, rfl, rfl, rfl, rfl, rfl, trivial⟩ ⟨rfl, rfl, rfl, rfl, rfl, rfl, rfl, trivial⟩ rfl fun ρ0 ff => ?_
       refine cxs ?_
       have e17 : IntKind.wrap .i64 ((i : Int) + 1) = ((i + 1 : Nat) : Int) := (wrap_i64 (by omega) (by omega)).trans (by omega)
       refine ⟨_, rfl, ?_⟩
       rw [if_neg h4] at hJi
       rw [← hJi] at hO7
       exact ⟨(i + 1, q1, q2), 5 - (i + 1), by omega, ⟨rfl, rfl, rfl, rfl, congrArg (Value.int .i64) e17, trivial⟩, ⟨rfl, rfl, rfl, (show some (3, [vS q1 (joinF A.x B.x i).items.length, vS q2 (joinF A.x B.x i).floors.length]) = some (3, [vS q1 (joinF A.x B.x (i + 1)).items.length, vS q2 (joinF A.x B.x (i + 1)).floors.length]) by rw [hlf, hJi]), trivial⟩, rfl, by omega, hO7, hN1, hN6, hP8⟩
      ·replace h4 : e1.inc > topF A.x B.x (i : Int) := of_decide_eq_true h4
       refine AW.cutM (gg + 3) s7 [(2, vL 2 0 (0)), (3, vL 3 0 (1)), (4, vL 4 0 (2)), (5, vL 5 0 (3)), (6, vI (i : Int)), (7, vI (topF A.x B.x (i : Int))), (8, vL 8 0 (gg)), (9, vB true), (10, vL 10 0 (gg + 1)), (11, vB true), (12, vL 12 0 (gg + 2)), (15, vB true), (26, vB false), (52, vB false), (64, vB false), (69, vB true)] [(2, 0, [vS A.p A.x.items.length, vS A.q A.x.floors.length]), (3, 1, [vS B.p B.x.items.length, vS B.q B.x.floors.length]), (4, 2, [.slice none 0 0, .slice none 0 0]), (5, 3, [vS q1 (joinF A.x B.x i).items.length, vS q2 (joinF A.x B.x i).floors.length]), (8, gg, [vI e1.inc, vI e1.rank, vI e1.beat, vI e1.ver, .string e1.data]), (10, gg + 1, [vI e2.inc, vI e2.rank, vI e2.beat, vI e2.ver, .string e2.data]), (12, gg + 2, [vI e1.inc, vI e1.rank, vI e1.beat, vI e1.ver, .string e1.data])] ⟨rfl, rfl, rfl, rfl, rfl, rfl, rfl, rfl, rfl, rfl, rfl, rfl, rfl, rfl, rfl, rfl, trivial⟩ ⟨rfl, rfl, rfl, rfl, rfl, rfl, rfl, trivial⟩ rfl fun ρ0 ff => ?_
       refine ⟨_, rfl, ?_⟩
       refine ⟨_, op_ldo rfl rfl rfl rfl, ?_⟩
       refine ⟨_, op_ldo rfl rfl rfl rfl, ?_⟩
       refine ⟨_, rfl, ?_⟩
       refine op_one (z := 6) (a := (⟨(i : Int), e1⟩ : Itm)) (f := cItm) rfl rfl rfl rfl rfl (by decide) rfl (Nat.le_of_ble_eq_true rfl) rfl rfl rfl ?_
       refine op_add (z := 6) (st := s7) (f := cItm) (b := 56) (l := (joinF A.x B.x i).items) rfl rfl rfl rfl rfl rfl rfl (by decide) len_cItm rfl rfl rfl (by omega) (by unfold maxLen; omega) (pcS_i hO7) ?_
       intro q8 s8 hO8 hP9 hN8
       refine ⟨_, rfl, ?_⟩
       refine ⟨_, op_sto rfl rfl rfl rfl rfl rfl rfl, ?_⟩
       refine AW.cutM (gg + 3) s8 [(2, vL 2 0 (0)), (3, vL 3 0 (1)), (4, vL 4 0 (2)), (5, vL 5 0 (3)), (6, vI (i : Int)), (7, vI (topF A.x B.x (i : Int))), (8, vL 8 0 (gg)), (9, vB true), (10, vL 10 0 (gg + 1)), (11, vB true), (12, vL 12 0 (gg + 2)), (15, vB true), (26, vB false), (52, vB false), (64, vB false), (69, vB true)] [(2, 0, [vS A.p A.x.items.length, vS A.q A.x.floors.length]), (3, 1, [vS B.p B.x.items.length, vS B.q B.x.floors.length]), (4, 2, [.slice none 0 0, .slice none 0 0]), (5, 3, [vS q8 ((joinF A.x B.x i).items.length + 1), vS q2 (joinF A.x B.x i).floors.length]), (8, gg, [vI e1.inc, vI e1.rank, vI e1.beat, vI e1.ver, .string e1.data]), (10, gg + 1, [vI e2.inc, vI e2.rank, vI e2.beat, vI e2.ver, .string e2.data]), (12, gg + 2, [vI e1.inc, vI e1.rank, vI e1.beat, vI e1.ver, .string e1.data])] ⟨rfl, rfl, rfl, rfl, rfl, rfl, rfl, rfl, rfl, rfl, rfl, rfl, rfl, rfl, rfl, rfl, trivial⟩ ⟨rfl, rfl, rfl, rfl, rfl, rfl, rfl, trivial⟩ rfl fun ρ0 ff => ?_
       have e17 : IntKind.wrap .i64 ((i : Int) + 1) = ((i + 1 : Nat) : Int) := (wrap_i64 (by omega) (by omega)).trans (by omega)
       refine ⟨_, rfl, ?_⟩
       rw [if_pos h4] at hJi
       have hl : (joinF A.x B.x (i + 1)).items.length = (joinF A.x B.x i).items.length + 1 := by rw [hJi, List.length_append]; rfl
       have hO9 := pcS_items hO7 hP9 hO8 hN8
       rw [← hJi] at hO9
       have hP10 := hP9.pres hP8 hN1
       have hN8 := hN8.le hP8.1
       exact ⟨(i + 1, q8, q2), 5 - (i + 1), by omega, ⟨rfl, rfl, rfl, rfl, congrArg (Value.int .i64) e17, trivial⟩, ⟨rfl, rfl, rfl, (show some (3, [vS q8 ((joinF A.x B.x i).items.length + 1), vS q2 (joinF A.x B.x i).floors.length]) = some (3, [vS q8 (joinF A.x B.x (i + 1)).items.length, vS q2 (joinF A.x B.x (i + 1)).floors.length]) by rw [hlf, hl]), trivial⟩, rfl, by omega, hO9, hN8, hN6, hP10⟩
     ·replace h3 : entCmp e2 e1 > 0 := of_decide_eq_true h3
      iterate 2 refine ⟨_, rfl, ?_⟩
      refine AW.cutM (gg + 3) s7 [(2, vL 2 0 (0)), (3, vL 3 0 (1)), (4, vL 4 0 (2)), (5, vL 5 0 (3)), (6, vI (i : Int)), (7, vI (topF A.x B.x (i : Int))), (8, vL 8 0 (gg)), (9, vB true), (10, vL 10 0 (gg + 1)), (11, vB true), (12, vL 12 0 (gg + 2)), (15, vB true), (26, vB false), (52, vB false), (64, vB true)] [(2, 0, [vS A.p A.x.items.length, vS A.q A.x.floors.length]), (3, 1, [vS B.p B.x.items.length, vS B.q B.x.floors.length]), (4, 2, [.slice none 0 0, .slice none 0 0]), (5, 3, [vS q1 (joinF A.x B.x i).items.length, vS q2 (joinF A.x B.x i).floors.length]), (8, gg, [vI e1.inc, vI e1.rank, vI e1.beat, vI e1.ver, .string e1.data]), (10, gg + 1, [vI e2.inc, vI e2.rank, vI e2.beat, vI e2.ver, .string e2.data]), (12, gg + 2, [vI e1.inc, vI e1.rank, vI e1.beat, vI e1.ver, .string e1.data])] ⟨rfl, rfl, rfl, rfl, rfl, rfl, rfl, rfl, rfl, rfl, rfl, rfl, rfl, rfl, rfl, trivial⟩ ⟨rfl, rfl, rfl, rfl, rfl, rfl, rfl, trivial⟩ rfl fun ρ0 ff => ?_
      have hm : entMax e1 e2 = e2 := by rw [entMax, if_pos (by have := entCmp_neg e1 e2; omega)]
      rw [hm] at hJi
      have hO7 := hO6.pres hP7
      have hP8 := hP6.trans hP7
      refine ⟨_, op_ldo rfl rfl rfl rfl, ?_⟩
      refine ⟨_, op_sto rfl rfl rfl rfl rfl rfl rfl, ?_⟩
      refine AW.cutM (gg + 3) s7 [(2, vL 2 0 (0)), (3, vL 3 0 (1)), (4, vL 4 0 (2)), (5, vL 5 0 (3)), (6, vI (i : Int)), (7, vI (topF A.x B.x (i : Int))), (8, vL 8 0 (gg)), (9, vB true), (10, vL 10 0 (gg + 1)), (11, vB true), (12, vL 12 0 (gg + 2)), (15, vB true), (26, vB false), (52, vB false), (64, vB true)] [(2, 0, [vS A.p A.x.items.length, vS A.q A.x.floors.length]), (3, 1, [vS B.p B.x.items.length, vS B.q B.x.floors.length]), (4, 2, [.slice none 0 0, .slice none 0 0]), (5, 3, [vS q1 (joinF A.x B.x i).items.length, vS q2 (joinF A.x B.x i).floors.length]), (8, gg, [vI e1.inc, vI e1.rank, vI e1.beat, vI e1.ver, .string e1.data]), (10, gg + 1, [vI e2.inc, vI e2.rank, vI e2.beat, vI e2.ver, .string e2.data]), (12, gg + 2, [vI e2.inc, vI e2.rank, vI e2.beat, vI e2.ver, .string e2.data])] ⟨rfl, rfl, rfl, rfl, rfl, rfl, rfl, rfl, rfl, rfl, rfl, rfl, rfl, rfl, rfl, trivial⟩ ⟨rfl, rfl, rfl, rfl, rfl, rfl, rfl, trivial⟩ rfl fun ρ0 ff => ?_
      refine ⟨_, rfl, ?_⟩
      refine ⟨_, op_ldo rfl rfl rfl rfl, ?_⟩
      refine ⟨_, rfl, ?_⟩
      rintro (_|_) h4
      ·replace h4 : ¬ (e2.inc > topF A.x B.x (i : Int)) := of_decide_eq_false h4
       refine AW.cutM (gg + 3) s7 [(2, vL 2 0 (0)), (3, vL 3 0 (1)), (4, vL 4 0 (2)), (5, vL 5 0 (3)), (6, vI (i : Int)), (7, vI (topF A.x B.x (i : Int))), (8, vL 8 0 (gg)), (9, vB true), (10, vL 10 0 (gg + 1)), (11, vB true), (12, vL 12 0 (gg + 2)), (15, vB true), (26, vB false), (52, vB false), (64, vB true), (69, vB false)] [(2, 0, [vS A.p A.x.items.length, vS A.q A.x.floors.length]), (3, 1, [vS B.p B.x.items.length, vS B.q B.x.floors.length]), (4, 2, [.slice none 0 0, .slice none 0 0]), (5, 3, [vS q1 (joinF A.x B.x i).items.length, vS q2 (joinF A.x B.x i).floors.length]), (8, gg, [vI e1.inc, vI e1.rank, vI e1.beat, vI e1.ver, .string e1.data]), (10, gg + 1, [vI e2.inc, vI e2.rank, vI e2.beat, vI e2.ver, .string e2.data]), (12, gg + 2, [vI e2.inc, vI e2.rank, vI e2.beat, vI e2.ver, .string e2.data])] ⟨rfl, rfl, rfl, rfl, rfl, rfl, rfl, rfl, rfl, rfl, rfl, rfl, rfl, rfl, rfl, rfl, trivial⟩ ⟨rfl, rfl, rfl, rfl, rfl, rfl, rfl, trivial⟩ rfl fun ρ0 ff => ?_
       refine cxs ?_
       have e17 : IntKind.wrap .i64 ((i : Int) + 1) = ((i + 1 : Nat) : Int) := (wrap_i64 (by omega) (by omega)).trans (by omega)
       refine ⟨_, rfl, ?_⟩
       rw [if_neg h4] at hJi
       rw [← hJi] at hO7
       exact ⟨(i + 1, q1, q2), 5 - (i + 1), by omega, ⟨rfl, rfl, rfl, rfl, congrArg (Value.int .i64) e17, trivial⟩, ⟨rfl, rfl, rfl, (show some (3, [vS q1 (joinF A.x B.x i).items.length, vS q2 (joinF A.x B.x i).floors.length]) = some (3, [vS q1 (joinF A.x B.x (i + 1)).items.length, vS q2 (joinF A.x B.x (i + 1)).floors.length]) by rw [hlf, hJi]), trivial⟩, rfl, by omega, hO7, hN1, hN6, hP8⟩
      ·replace h4 : e2.inc > topF A.x B.x (i : Int) := of_decide_eq_true h4
       refine AW.cutM (gg + 3) s7 [(2, vL 2 0 (0)), (3, vL 3 0 (1)), (4, vL 4 0 (2)), (5, vL 5 0 (3)), (6, vI (i : Int)), (7, vI (topF A.x B.x (i : Int))), (8, vL 8 0 (gg)), (9, vB true), (10, vL 10 0 (gg + 1)), (11, vB true), (12, vL 12 0 (gg + 2)), (15, vB true), (26, vB false), (52, vB false), (64, vB true), (69, vB true)] [(2, 0, [vS A.p A.x.items.length, vS A.q A.x.floors.length]), (3, 1, [vS B.p B.x.items.length, vS B.q B.x.floors.length]), (4, 2, [.slice none 0 0, .slice none 0 0]), (5, 3, [vS q1 (joinF A.x B.x i).items.length, vS q2 (joinF A.x B.x i).floors.length]), (8, gg, [vI e1.inc, vI e1.rank, vI e1.beat, vI e1.ver, .string e1.data]), (10, gg + 1, [vI e2.inc, vI e2.rank, vI e2.beat, vI e2.ver, .string e2.data]), (12, gg + 2, [vI e2.inc, vI e2.rank, vI e2.beat, vI e2.ver, .string e2.data])] ⟨rfl, rfl, rfl, rfl, rfl, rfl, rfl, rfl, rfl, rfl, rfl, rfl, rfl, rfl, rfl, rfl, trivial⟩ ⟨rfl, rfl, rfl, rfl, rfl, rfl, rfl, trivial⟩ rfl fun ρ0 ff => ?_
       refine ⟨_, rfl, ?_⟩
       refine ⟨_, op_ldo rfl rfl rfl rfl, ?_⟩
       refine ⟨_, op_ldo rfl rfl rfl rfl, ?_⟩
       refine ⟨_, rfl, ?_⟩
       refine op_one (z := 6) (a := (⟨(i : Int), e2⟩ : Itm)) (f := cItm) rfl rfl rfl rfl rfl (by decide) rfl (Nat.le_of_ble_eq_true rfl) rfl rfl rfl ?_
       refine op_add (z := 6) (st := s7) (f := cItm) (b := 56) (l := (joinF A.x B.x i).items) rfl rfl rfl rfl rfl rfl rfl (by decide) len_cItm rfl rfl rfl (by omega) (by unfold maxLen; omega) (pcS_i hO7) ?_
       intro q8 s8 hO8 hP9 hN8
       refine ⟨_, rfl, ?_⟩
       refine ⟨_, op_sto rfl rfl rfl rfl rfl rfl rfl, ?_⟩
       refine AW.cutM (gg + 3) s8 [(2, vL 2 0 (0)), (3, vL 3 0 (1)), (4, vL 4 0 (2)), (5, vL 5 0 (3)), (6, vI (i : Int)), (7, vI (topF A.x B.x (i : Int))), (8, vL 8 0 (gg)), (9, vB true), (10, vL 10 0 (gg + 1)), (11, vB true), (12, vL 12 0 (gg + 2)), (15, vB true), (26, vB false), (52, vB false), (64, vB true), (69, vB true)] [(2, 0, [vS A.p A.x.items.length, vS A.q A.x.floors.length]), (3, 1, [vS B.p B.x.items.length, vS B.q B.x.floors.length]), (4, 2, [.slice none 0 0, .slice none 0 0]), (5, 3, [vS q8 ((joinF A.x B.x i).items.length + 1), vS q2 (joinF A.x B.x i).floors.length]), (8, gg, [vI e1.inc, vI e1.rank, vI e1.beat, vI e1.ver, .string e1.data]), (10, gg + 1, [vI e2.inc, vI e2.rank, vI e2.beat, vI e2.ver, .string e2.data]), (12, gg + 2, [vI e2.inc, vI e2.rank, vI e2.beat, vI e2.ver, .string e2.data])] ⟨rfl, rfl, rfl, rfl, rfl, rfl, rfl, rfl, rfl, rfl, rfl, rfl, rfl, rfl, rfl, rfl, trivial⟩ ⟨rfl, rfl, rfl, rfl, rfl, rfl, rfl, trivial⟩ rfl fun ρ0 ff => ?_
       have e17 : IntKind.wrap .i64 ((i : Int) + 1) = ((i + 1 : Nat) : Int) := (wrap_i64 (by omega) (by omega)).trans (by omega)
       refine ⟨_, rfl, ?_⟩
       rw [if_pos h4] at hJi
       have hl : (joinF A.x B.x (i + 1)).items.length = (joinF A.x B.x i).items.length + 1 := by rw [hJi, List.length_append]; rfl
       have hO9 := pcS_items hO7 hP9 hO8 hN8
       rw [← hJi] at hO9
       have hP10 := hP9.pres hP8 hN1
       have hN8 := hN8.le hP8.1
       exact ⟨(i + 1, q8, q2), 5 - (i + 1), by omega, ⟨rfl, rfl, rfl, rfl, congrArg (Value.int .i64) e17, trivial⟩, ⟨rfl, rfl, rfl, (show some (3, [vS q8 ((joinF A.x B.x i).items.length + 1), vS q2 (joinF A.x B.x i).floors.length]) = some (3, [vS q8 (joinF A.x B.x (i + 1)).items.length, vS q2 (joinF A.x B.x (i + 1)).floors.length]) by rw [hlf, hl]), trivial⟩, rfl, by omega, hO9, hN8, hN6, hP10⟩
  ·replace h2 : topF A.x B.x (i : Int) > 0 := of_decide_eq_true h2
   refine AW.cutM (gg) st' [(2, vL 2 0 (0)), (3, vL 3 0 (1)), (4, vL 4 0 (2)), (5, vL 5 0 (3)), (6, vI (i : Int)), (7, vI (topF A.x B.x (i : Int))), (15, vB true), (26, vB true)] [(2, 0, [vS A.p A.x.items.length, vS A.q A.x.floors.length]), (3, 1, [vS B.p B.x.items.length, vS B.q B.x.floors.length]), (4, 2, [.slice none 0 0, .slice none 0 0]), (5, 3, [vS q1 (joinF A.x B.x i).items.length, vS q2 (joinF A.x B.x i).floors.length])] ⟨rfl, rfl, rfl, rfl, rfl, rfl, rfl, rfl, trivial⟩ ⟨rfl, rfl, rfl, rfl, trivial⟩ rfl fun ρ0 ff => ?_
   refine ⟨_, rfl, ?_⟩
   refine ⟨_, op_ldo rfl rfl rfl rfl, ?_⟩
   refine ⟨_, rfl, ?_⟩
   refine op_one (z := 2) (a := (⟨(i : Int), topF A.x B.x (i : Int)⟩ : Flr)) (f := cFlr) rfl rfl rfl rfl rfl (by decide) rfl (Nat.le_of_ble_eq_true rfl) rfl rfl rfl ?_
   refine op_add (z := 2) (st := st') (f := cFlr) (b := 16) (l := (joinF A.x B.x i).floors) rfl rfl rfl rfl rfl rfl rfl (by decide) len_cFlr rfl rfl rfl (by omega) (by unfold maxLen; omega) (pcS_f hO) ?_
   intro q6 s6 hO6 hP6 hN6
   refine ⟨_, rfl, ?_⟩
   refine ⟨_, op_sto rfl rfl rfl rfl rfl rfl rfl, ?_⟩
   refine AW.cutM (gg) s6 [(2, vL 2 0 (0)), (3, vL 3 0 (1)), (4, vL 4 0 (2)), (5, vL 5 0 (3)), (6, vI (i : Int)), (7, vI (topF A.x B.x (i : Int))), (15, vB true), (26, vB true)] [(2, 0, [vS A.p A.x.items.length, vS A.q A.x.floors.length]), (3, 1, [vS B.p B.x.items.length, vS B.q B.x.floors.length]), (4, 2, [.slice none 0 0, .slice none 0 0]), (5, 3, [vS q1 (joinF A.x B.x i).items.length, vS q6 ((joinF A.x B.x i).floors.length + 1)])] ⟨rfl, rfl, rfl, rfl, rfl, rfl, rfl, rfl, trivial⟩ ⟨rfl, rfl, rfl, rfl, trivial⟩ rfl fun ρ0 ff => ?_
   have hO6 : OwnP s6 [pcR 6 cItm q1 (joinF A.x B.x i).items, pcR 2 cFlr q6 (joinF A.x B.x (i + 1)).floors] := by rw [hJf, if_pos h2]; exact pcS_floors hO hP6 hO6 hN6
   have hlf : (joinF A.x B.x (i + 1)).floors.length = (joinF A.x B.x i).floors.length + 1 := by rw [hJf, if_pos h2, List.length_append]; rfl
   have hP6 := hP6.pres hP hN2
   have hN6 := hN6.le hP.1
   refine ⟨_, op_ldo rfl rfl rfl rfl, ?_⟩
   refine ⟨_, rfl, (ac_spec_EntryOf A i s6 (hA.pres hP6) ha).mono ?_⟩
   rintro _ s6 ⟨e1, b1, rfl, he1, rfl⟩
   rcases b1 with _|_
   ·iterate 3 refine ⟨_, rfl, ?_⟩
    refine ⟨_, op_sto rfl rfl rfl rfl rfl rfl rfl, ?_⟩
    refine AW.cutM (gg + 1) s6 [(2, vL 2 0 (0)), (3, vL 3 0 (1)), (4, vL 4 0 (2)), (5, vL 5 0 (3)), (6, vI (i : Int)), (7, vI (topF A.x B.x (i : Int))), (8, vL 8 0 (gg)), (9, vB false), (15, vB true), (26, vB true)] [(2, 0, [vS A.p A.x.items.length, vS A.q A.x.floors.length]), (3, 1, [vS B.p B.x.items.length, vS B.q B.x.floors.length]), (4, 2, [.slice none 0 0, .slice none 0 0]), (5, 3, [vS q1 (joinF A.x B.x i).items.length, vS q6 ((joinF A.x B.x i).floors.length + 1)]), (8, gg, [vI e1.inc, vI e1.rank, vI e1.beat, vI e1.ver, .string e1.data])] ⟨rfl, rfl, rfl, rfl, rfl, rfl, rfl, rfl, rfl, rfl, trivial⟩ ⟨rfl, rfl, rfl, rfl, rfl, trivial⟩ rfl fun ρ0 ff => ?_
    refine ⟨_, op_ldo rfl rfl rfl rfl, ?_⟩
    refine ⟨_, rfl, (ac_spec_EntryOf B i s6 (hB.pres hP6) hb).mono ?_⟩
    rintro _ s6 ⟨e2, b2, rfl, he2, rfl⟩
    rcases b2 with _|_
    ·iterate 3 refine ⟨_, rfl, ?_⟩
     refine ⟨_, op_sto rfl rfl rfl rfl rfl rfl rfl, ?_⟩
     refine AW.cutM (gg + 2) s6 [(2, vL 2 0 (0)), (3, vL 3 0 (1)), (4, vL 4 0 (2)), (5, vL 5 0 (3)), (6, vI (i : Int)), (7, vI (topF A.x B.x (i : Int))), (8, vL 8 0 (gg)), (9, vB false), (10, vL 10 0 (gg + 1)), (11, vB false), (15, vB true), (26, vB true)] [(2, 0, [vS A.p A.x.items.length, vS A.q A.x.floors.length]), (3, 1, [vS B.p B.x.items.length, vS B.q B.x.floors.length]), (4, 2, [.slice none 0 0, .slice none 0 0]), (5, 3, [vS q1 (joinF A.x B.x i).items.length, vS q6 ((joinF A.x B.x i).floors.length + 1)]), (8, gg, [vI e1.inc, vI e1.rank, vI e1.beat, vI e1.ver, .string e1.data]), (10, gg + 1, [vI e2.inc, vI e2.rank, vI e2.beat, vI e2.ver, .string e2.data])] ⟨rfl, rfl, rfl, rfl, rfl, rfl, rfl, rfl, rfl, rfl, rfl, rfl, trivial⟩ ⟨rfl, rfl, rfl, rfl, rfl, rfl, trivial⟩ rfl fun ρ0 ff => ?_
     have hE : topE A.x B.x (i : Int) = zEnt := by rw [topE, ← he1, ← he2, entP_none he1, entP_none he2]; exact entMax_zz
     have hfa := (floorOf_pos oa.2 (i : Int)).1
     have hle : ¬ (topE A.x B.x (i : Int)).inc > topF A.x B.x (i : Int) := by rw [hE]; unfold topF zEnt; simp only; omega
     rw [if_neg hle] at hJi
     iterate 3 refine ⟨_, rfl, ?_⟩
     refine AW.cutM (gg + 2) s6 [(2, vL 2 0 (0)), (3, vL 3 0 (1)), (4, vL 4 0 (2)), (5, vL 5 0 (3)), (6, vI (i : Int)), (7, vI (topF A.x B.x (i : Int))), (8, vL 8 0 (gg)), (9, vB false), (10, vL 10 0 (gg + 1)), (11, vB false), (15, vB true), (26, vB true), (52, vB true)] [(2, 0, [vS A.p A.x.items.length, vS A.q A.x.floors.length]), (3, 1, [vS B.p B.x.items.length, vS B.q B.x.floors.length]), (4, 2, [.slice none 0 0, .slice none 0 0]), (5, 3, [vS q1 (joinF A.x B.x i).items.length, vS q6 ((joinF A.x B.x i).floors.length + 1)]), (8, gg, [vI e1.inc, vI e1.rank, vI e1.beat, vI e1.ver, .string e1.data]), (10, gg + 1, [vI e2.inc, vI e2.rank, vI e2.beat, vI e2.ver, .string e2.data])] ⟨rfl, rfl, rfl, rfl, rfl, rfl, rfl, rfl, rfl, rfl, rfl, rfl, rfl, trivial⟩ ⟨rfl, rfl, rfl, rfl, rfl, rfl, trivial⟩ rfl fun ρ0 ff => ?_
     refine cxs ?_
     have e17 : IntKind.wrap .i64 ((i : Int) + 1) = ((i + 1 : Nat) : Int) := (wrap_i64 (by omega) (by omega)).trans (by omega)
     refine ⟨_, rfl, ?_⟩
     rw [← hJi] at hO6
     exact ⟨(i + 1, q1, q6), 5 - (i + 1), by omega, ⟨rfl, rfl, rfl, rfl, congrArg (Value.int .i64) e17, trivial⟩, ⟨rfl, rfl, rfl, (show some (3, [vS q1 (joinF A.x B.x i).items.length, vS q6 ((joinF A.x B.x i).floors.length + 1)]) = some (3, [vS q1 (joinF A.x B.x (i + 1)).items.length, vS q6 (joinF A.x B.x (i + 1)).floors.length]) by rw [hlf, hJi]), trivial⟩, rfl, by omega, hO6, hN1, hN6, hP6⟩
    ·iterate 3 refine ⟨_, rfl, ?_⟩
     refine ⟨_, op_sto rfl rfl rfl rfl rfl rfl rfl, ?_⟩
     refine AW.cutM (gg + 2) s6 [(2, vL 2 0 (0)), (3, vL 3 0 (1)), (4, vL 4 0 (2)), (5, vL 5 0 (3)), (6, vI (i : Int)), (7, vI (topF A.x B.x (i : Int))), (8, vL 8 0 (gg)), (9, vB false), (10, vL 10 0 (gg + 1)), (11, vB true), (15, vB true), (26, vB true)] [(2, 0, [vS A.p A.x.items.length, vS A.q A.x.floors.length]), (3, 1, [vS B.p B.x.items.length, vS B.q B.x.floors.length]), (4, 2, [.slice none 0 0, .slice none 0 0]), (5, 3, [vS q1 (joinF A.x B.x i).items.length, vS q6 ((joinF A.x B.x i).floors.length + 1)]), (8, gg, [vI e1.inc, vI e1.rank, vI e1.beat, vI e1.ver, .string e1.data]), (10, gg + 1, [vI e2.inc, vI e2.rank, vI e2.beat, vI e2.ver, .string e2.data])] ⟨rfl, rfl, rfl, rfl, rfl, rfl, rfl, rfl, rfl, rfl, rfl, rfl, trivial⟩ ⟨rfl, rfl, rfl, rfl, rfl, rfl, trivial⟩ rfl fun ρ0 ff => ?_
     have hE : topE A.x B.x (i : Int) = entMax e1 e2 := by rw [topE, ← he1, ← he2]
     have hfa := (floorOf_pos oa.2 (i : Int)).1
     rw [hE] at hJi
     iterate 3 refine ⟨_, rfl, ?_⟩
     refine AW.cutM (gg + 2) s6 [(2, vL 2 0 (0)), (3, vL 3 0 (1)), (4, vL 4 0 (2)), (5, vL 5 0 (3)), (6, vI (i : Int)), (7, vI (topF A.x B.x (i : Int))), (8, vL 8 0 (gg)), (9, vB false), (10, vL 10 0 (gg + 1)), (11, vB true), (15, vB true), (26, vB true), (52, vB false)] [(2, 0, [vS A.p A.x.items.length, vS A.q A.x.floors.length]), (3, 1, [vS B.p B.x.items.length, vS B.q B.x.floors.length]), (4, 2, [.slice none 0 0, .slice none 0 0]), (5, 3, [vS q1 (joinF A.x B.x i).items.length, vS q6 ((joinF A.x B.x i).floors.length + 1)]), (8, gg, [vI e1.inc, vI e1.rank, vI e1.beat, vI e1.ver, .string e1.data]), (10, gg + 1, [vI e2.inc, vI e2.rank, vI e2.beat, vI e2.ver, .string e2.data])] ⟨rfl, rfl, rfl, rfl, rfl, rfl, rfl, rfl, rfl, rfl, rfl, rfl, rfl, trivial⟩ ⟨rfl, rfl, rfl, rfl, rfl, rfl, trivial⟩ rfl fun ρ0 ff => ?_
     refine cxs ?_
     refine ⟨_, op_ldo rfl rfl rfl rfl, ?_⟩
     refine ⟨_, rfl, ?_⟩
     refine ⟨_, op_sto rfl rfl rfl rfl rfl rfl rfl, ?_⟩
     refine AW.cutM (gg + 3) s6 [(2, vL 2 0 (0)), (3, vL 3 0 (1)), (4, vL 4 0 (2)), (5, vL 5 0 (3)), (6, vI (i : Int)), (7, vI (topF A.x B.x (i : Int))), (8, vL 8 0 (gg)), (9, vB false), (10, vL 10 0 (gg + 1)), (11, vB true), (12, vL 12 0 (gg + 2)), (15, vB true), (26, vB true), (52, vB false)] [(2, 0, [vS A.p A.x.items.length, vS A.q A.x.floors.length]), (3, 1, [vS B.p B.x.items.length, vS B.q B.x.floors.length]), (4, 2, [.slice none 0 0, .slice none 0 0]), (5, 3, [vS q1 (joinF A.x B.x i).items.length, vS q6 ((joinF A.x B.x i).floors.length + 1)]), (8, gg, [vI e1.inc, vI e1.rank, vI e1.beat, vI e1.ver, .string e1.data]), (10, gg + 1, [vI e2.inc, vI e2.rank, vI e2.beat, vI e2.ver, .string e2.data]), (12, gg + 2, [vI e1.inc, vI e1.rank, vI e1.beat, vI e1.ver, .string e1.data])] ⟨rfl, rfl, rfl, rfl, rfl, rfl, rfl, rfl, rfl, rfl, rfl, rfl, rfl, rfl, trivial⟩ ⟨rfl, rfl, rfl, rfl, rfl, rfl, rfl, trivial⟩ rfl fun ρ0 ff => ?_
     iterate 2 refine ⟨_, rfl, ?_⟩
     refine AW.cutM (gg + 3) s6 [(2, vL 2 0 (0)), (3, vL 3 0 (1)), (4, vL 4 0 (2)), (5, vL 5 0 (3)), (6, vI (i : Int)), (7, vI (topF A.x B.x (i : Int))), (8, vL 8 0 (gg)), (9, vB false), (10, vL 10 0 (gg + 1)), (11, vB true), (12, vL 12 0 (gg + 2)), (15, vB true), (26, vB true), (52, vB false), (64, vB true)] [(2, 0, [vS A.p A.x.items.length, vS A.q A.x.floors.length]), (3, 1, [vS B.p B.x.items.length, vS B.q B.x.floors.length]), (4, 2, [.slice none 0 0, .slice none 0 0]), (5, 3, [vS q1 (joinF A.x B.x i).items.length, vS q6 ((joinF A.x B.x i).floors.length + 1)]), (8, gg, [vI e1.inc, vI e1.rank, vI e1.beat, vI e1.ver, .string e1.data]), (10, gg + 1, [vI e2.inc, vI e2.rank, vI e2.beat, vI e2.ver, .string e2.data]), (12, gg + 2, [vI e1.inc, vI e1.rank, vI e1.beat, vI e1.ver, .string e1.data])] ⟨rfl, rfl, rfl, rfl, rfl, rfl, rfl, rfl, rfl, rfl, rfl, rfl, rfl, rfl, rfl, trivial⟩ ⟨rfl, rfl, rfl, rfl, rfl, rfl, rfl, trivial⟩ rfl fun ρ0 ff => ?_
     have hm : entMax e1 e2 = e2 := by rw [entP_none he1]; exact (entMax_zero (ent_ok ob he2).1.1).2
     rw [hm] at hJi
     have hO7 := hO6
     have hP8 := hP6
     refine ⟨_, op_ldo rfl rfl rfl rfl, ?_⟩
     refine ⟨_, op_sto rfl rfl rfl rfl rfl rfl rfl, ?_⟩
     refine AW.cutM (gg + 3) s6 [(2, vL 2 0 (0)), (3, vL 3 0 (1)), (4, vL 4 0 (2)), (5, vL 5 0 (3)), (6, vI (i : Int)), (7, vI (topF A.x B.x (i : Int))), (8, vL 8 0 (gg)), (9, vB false), (10, vL 10 0 (gg + 1)), (11, vB true), (12, vL 12 0 (gg + 2)), (15, vB true), (26, vB true), (52, vB false), (64, vB true)] [(2, 0, [vS A.p A.x.items.length, vS A.q A.x.floors.length]), (3, 1, [vS B.p B.x.items.length, vS B.q B.x.floors.length]), (4, 2, [.slice none 0 0, .slice none 0 0]), (5, 3, [vS q1 (joinF A.x B.x i).items.length, vS q6 ((joinF A.x B.x i).floors.length + 1)]), (8, gg, [vI e1.inc, vI e1.rank, vI e1.beat, vI e1.ver, .string e1.data]), (10, gg + 1, [vI e2.inc, vI e2.rank, vI e2.beat, vI e2.ver, .string e2.data]), (12, gg + 2, [vI e2.inc, vI e2.rank, vI e2.beat, vI e2.ver, .string e2.data])] ⟨rfl, rfl, rfl, rfl, rfl, rfl, rfl, rfl, rfl, rfl, rfl, rfl, rfl, rfl, rfl, trivial⟩ ⟨rfl, rfl, rfl, rfl, rfl, rfl, rfl, trivial⟩ rfl fun ρ0 ff => ?_
     refine ⟨_, rfl, ?_⟩
     refine ⟨_, op_ldo rfl rfl rfl rfl, ?_⟩
     refine ⟨_, rfl, ?_⟩
     rintro (_|_) h4
     ·replace h4 : ¬ (e2.inc > topF A.x B.x (i : Int)) := of_decide_eq_false h4
      refine AW.cutM (gg + 3) s6 [(2, vL 2 0 (0)), (3, vL 3 0 (1)), (4, vL 4 0 (2)), (5, vL 5 0 (3)), (6, vI (i : Int)), (7, vI (topF A.x B.x (i : Int))), (8, vL 8 0 (gg)), (9, vB false), (10, vL 10 0 (gg + 1)), (11, vB true), (12, vL 12 0 (gg + 2)), (15, vB true), (26, vB true), (52, vB false), (64, vB true), (69, vB false)] [(2, 0, [vS A.p A.x.items.length, vS A.q A.x.floors.length]), (3, 1, [vS B.p B.x.items.length, vS B.q B.x.floors.length]), (4, 2, [.slice none 0 0, .slice none 0 0]), (5, 3, [vS q1 (joinF A.x B.x i).items.length, vS q6 ((joinF A.x B.x i).floors.length + 1)]), (8, gg, [vI e1.inc, vI e1.rank, vI e1.beat, vI e1.ver, .string e1.data]), (10, gg + 1, [vI e2.inc, vI e2.rank, vI e2.beat, vI e2.ver, .string e2.data]), (12, gg + 2, [vI e2.inc, vI e2.rank, vI e2.beat, vI e2.ver, .string e2.data])] ⟨rfl, rfl, rfl, rfl, rfl, rfl, rfl, rfl, rfl, rfl, rfl, rfl, rfl, rfl, rfl, rfl, trivial⟩ ⟨rfl, rfl, rfl, rfl, rfl, rfl, rfl, trivial⟩ rfl fun ρ0 ff => ?_
      refine cxs ?_
      have e17 : IntKind.wrap .i64 ((i : Int) + 1) = ((i + 1 : Nat) : Int) := (wrap_i64 (by omega) (by omega)).trans (by omega)
      refine ⟨_, rfl, ?_⟩
      rw [if_neg h4] at hJi
      rw [← hJi] at hO7
      exact ⟨(i + 1, q1, q6), 5 - (i + 1), by omega, ⟨rfl, rfl, rfl, rfl, congrArg (Value.int .i64) e17, trivial⟩, ⟨rfl, rfl, rfl, (show some (3, [vS q1 (joinF A.x B.x i).items.length, vS q6 ((joinF A.x B.x i).floors.length + 1)]) = some (3, [vS q1 (joinF A.x B.x (i + 1)).items.length, vS q6 (joinF A.x B.x (i + 1)).floors.length]) by rw [hlf, hJi]), trivial⟩, rfl, by omega, hO7, hN1, hN6, hP8⟩
     ·replace h4 : e2.inc > topF A.x B.x (i : Int) := of_decide_eq_true h4
      refine AW.cutM (gg + 3) s6 [(2, vL 2 0 (0)), (3, vL 3 0 (1)), (4, vL 4 0 (2)), (5, vL 5 0 (3)), (6, vI (i : Int)), (7, vI (topF A.x B.x (i : Int))), (8, vL 8 0 (gg)), (9, vB false), (10, vL 10 0 (gg + 1)), (11, vB true), (12, vL 12 0 (gg + 2)), (15, vB true), (26, vB true), (52, vB false), (64, vB true), (69, vB true)] [(2, 0, [vS A.p A.x.items.length, vS A.q A.x.floors.length]), (3, 1, [vS B.p B.x.items.length, vS B.q B.x.floors.length]), (4, 2, [.slice none 0 0, .slice none 0 0]), (5, 3, [vS q1 (joinF A.x B.x i).items.length, vS q6 ((joinF A.x B.x i).floors.length + 1)]), (8, gg, [vI e1.inc, vI e1.rank, vI e1.beat, vI e1.ver, .string e1.data]), (10, gg + 1, [vI e2.inc, vI e2.rank, vI e2.beat, vI e2.ver, .string e2.data]), (12, gg + 2, [vI e2.inc, vI e2.rank, vI e2.beat, vI e2.ver, .string e2.data])] ⟨rfl, rfl, rfl, rfl, rfl, rfl, rfl, rfl, rfl, rfl, rfl, rfl, rfl, rfl, rfl, rfl, trivial⟩ ⟨rfl, rfl, rfl, rfl, rfl, rfl, rfl, trivial⟩ rfl fun ρ0 ff => ?_
      refine ⟨_, rfl, ?_⟩
      refine ⟨_, op_ldo rfl rfl rfl rfl, ?_⟩
      refine ⟨_, op_ldo rfl rfl rfl rfl, ?_⟩
      refine ⟨_, rfl, ?_⟩
      refine op_one (z := 6) (a := (⟨(i : Int), e2⟩ : Itm)) (f := cItm) rfl rfl rfl rfl rfl (by decide) rfl (Nat.le_of_ble_eq_true rfl) rfl rfl rfl ?_
      refine op_add (z := 6) (st := s6) (f := cItm) (b := 56) (l := (joinF A.x B.x i).items) rfl rfl rfl rfl rfl rfl rfl (by decide) len_cItm rfl rfl rfl (by omega) (by unfold maxLen; omega) (pcS_i hO7) ?_
      intro q8 s8 hO8 hP9 hN8
      refine ⟨_, rfl, ?_⟩
      refine ⟨_, op_sto rfl rfl rfl rfl rfl rfl rfl, ?_⟩
      refine AW.cutM (gg + 3) s8 [(2, vL 2 0 (0)), (3, vL 3 0 (1)), (4, vL 4 0 (2)), (5, vL 5 0 (3)), (6, vI (i : Int)), (7, vI (topF A.x B.x (i : Int))), (8, vL 8 0 (gg)), (9, vB false), (10, vL 10 0 (gg + 1)), (11, vB true), (12, vL 12 0 (gg + 2)), (15, vB true), (26, vB true), (52, vB false), (64, vB true), (69, vB true)] [(2, 0, [vS A.p A.x.items.length, vS A.q A.x.floors.length]), (3, 1, [vS B.p B.x.items.length, vS B.q B.x.floors.length]), (4, 2, [.slice none 0 0, .slice none 0 0]), (5, 3, [vS q8 ((joinF A.x B.x i).items.length + 1), vS q6 ((joinF A.x B.x i).floors.length + 1)]), (8, gg, [vI e1.inc, vI e1.rank, vI e1.beat, vI e1.ver, .string e1.data]), (10, gg + 1, [vI e2.inc, vI e2.rank, vI e2.beat, vI e2.ver, .string e2.data]), (12, gg + 2, [vI e2.inc, vI e2.rank, vI e2.beat, vI e2.ver, .string e2.data])] ⟨rfl, rfl, rfl, rfl, rfl, rfl, rfl, rfl, rfl, rfl, rfl, rfl, rfl, rfl, rfl, rfl, trivial⟩ ⟨rfl, rfl, rfl, rfl, rfl, rfl, rfl, trivial⟩ rfl fun ρ0 ff => ?_
      have e17 : IntKind.wrap .i64 ((i : Int) + 1) = ((i + 1 : Nat) : Int) := (wrap_i64 (by omega) (by omega)).trans (by omega)
      refine ⟨_, rfl, ?_⟩
      rw [if_pos h4] at hJi
      have hl : (joinF A.x B.x (i + 1)).items.length = (joinF A.x B.x i).items.length + 1 := by rw [hJi, List.length_append]; rfl
      have hO9 := pcS_items hO7 hP9 hO8 hN8
      rw [← hJi] at hO9
      have hP10 := hP9.pres hP8 hN1
      have hN8 := hN8.le hP8.1
      exact ⟨(i + 1, q8, q6), 5 - (i + 1), by omega, ⟨rfl, rfl, rfl, rfl, congrArg (Value.int .i64) e17, trivial⟩, ⟨rfl, rfl, rfl, (show some (3, [vS q8 ((joinF A.x B.x i).items.length + 1), vS q6 ((joinF A.x B.x i).floors.length + 1)]) = some (3, [vS q8 (joinF A.x B.x (i + 1)).items.length, vS q6 (joinF A.x B.x (i + 1)).floors.length]) by rw [hlf, hl]), trivial⟩, rfl, by omega, hO9, hN8, hN6, hP10⟩
   ·iterate 3 refine ⟨_, rfl, ?_⟩
    refine ⟨_, op_sto rfl rfl rfl rfl rfl rfl rfl, ?_⟩
    refine AW.cutM (gg + 1) s6 [(2, vL 2 0 (0)), (3, vL 3 0 (1)), (4, vL 4 0 (2)), (5, vL 5 0 (3)), (6, vI (i : Int)), (7, vI (topF A.x B.x (i : Int))), (8, vL 8 0 (gg)), (9, vB true), (15, vB true), (26, vB true)] [(2, 0, [vS A.p A.x.items.length, vS A.q A.x.floors.length]), (3, 1, [vS B.p B.x.items.length, vS B.q B.x.floors.length]), (4, 2, [.slice none 0 0, .slice none 0 0]), (5, 3, [vS q1 (joinF A.x B.x i).items.length, vS q6 ((joinF A.x B.x i).floors.length + 1)]), (8, gg, [vI e1.inc, vI e1.rank, vI e1.beat, vI e1.ver, .string e1.data])] ⟨rfl, rfl, rfl, rfl, rfl, rfl, rfl, rfl, rfl, rfl, trivial⟩ ⟨rfl, rfl, rfl, rfl, rfl, trivial⟩ rfl fun ρ0 ff => ?_
    refine ⟨_, op_ldo rfl rfl rfl rfl, ?_⟩
    refine ⟨_, rfl, (ac_spec_EntryOf B i s6 (hB.pres hP6) hb).mono ?_⟩
    rintro _ s6 ⟨e2, b2, rfl, he2, rfl⟩
    rcases b2 with _|_
    ·iterate 3 refine ⟨_, rfl, ?_⟩
     refine ⟨_, op_sto rfl rfl rfl rfl rfl rfl rfl, ?_⟩
     refine AW.cutM (gg + 2) s6 [(2, vL 2 0 (0)), (3, vL 3 0 (1)), (4, vL 4 0 (2)), (5, vL 5 0 (3)), (6, vI (i : Int)), (7, vI (topF A.x B.x (i : Int))), (8, vL 8 0 (gg)), (9, vB true), (10, vL 10 0 (gg + 1)), (11, vB false), (15, vB true), (26, vB true)] [(2, 0, [vS A.p A.x.items.length, vS A.q A.x.floors.length]), (3, 1, [vS B.p B.x.items.length, vS B.q B.x.floors.length]), (4, 2, [.slice none 0 0, .slice none 0 0]), (5, 3, [vS q1 (joinF A.x B.x i).items.length, vS q6 ((joinF A.x B.x i).floors.length + 1)]), (8, gg, [vI e1.inc, vI e1.rank, vI e1.beat, vI e1.ver, .string e1.data]), (10, gg + 1, [vI e2.inc, vI e2.rank, vI e2.beat, vI e2.ver, .string e2.data])] ⟨rfl, rfl, rfl, rfl, rfl, rfl, rfl, rfl, rfl, rfl, rfl, rfl, trivial⟩ ⟨rfl, rfl, rfl, rfl, rfl, rfl, trivial⟩ rfl fun ρ0 ff => ?_
     have hE : topE A.x B.x (i : Int) = entMax e1 e2 := by rw [topE, ← he1, ← he2]
     have hfa := (floorOf_pos oa.2 (i : Int)).1
     rw [hE] at hJi
     iterate 2 refine ⟨_, rfl, ?_⟩
     refine AW.cutM (gg + 2) s6 [(2, vL 2 0 (0)), (3, vL 3 0 (1)), (4, vL 4 0 (2)), (5, vL 5 0 (3)), (6, vI (i : Int)), (7, vI (topF A.x B.x (i : Int))), (8, vL 8 0 (gg)), (9, vB true), (10, vL 10 0 (gg + 1)), (11, vB false), (15, vB true), (26, vB true), (52, vB false)] [(2, 0, [vS A.p A.x.items.length, vS A.q A.x.floors.length]), (3, 1, [vS B.p B.x.items.length, vS B.q B.x.floors.length]), (4, 2, [.slice none 0 0, .slice none 0 0]), (5, 3, [vS q1 (joinF A.x B.x i).items.length, vS q6 ((joinF A.x B.x i).floors.length + 1)]), (8, gg, [vI e1.inc, vI e1.rank, vI e1.beat, vI e1.ver, .string e1.data]), (10, gg + 1, [vI e2.inc, vI e2.rank, vI e2.beat, vI e2.ver, .string e2.data])] ⟨rfl, rfl, rfl, rfl, rfl, rfl, rfl, rfl, rfl, rfl, rfl, rfl, rfl, trivial⟩ ⟨rfl, rfl, rfl, rfl, rfl, rfl, trivial⟩ rfl fun ρ0 ff => ?_
     refine cxs ?_
     refine ⟨_, op_ldo rfl rfl rfl rfl, ?_⟩
     refine ⟨_, rfl, ?_⟩
     refine ⟨_, op_sto rfl rfl rfl rfl rfl rfl rfl, ?_⟩
     refine AW.cutM (gg + 3) s6 [(2, vL 2 0 (0)), (3, vL 3 0 (1)), (4, vL 4 0 (2)), (5, vL 5 0 (3)), (6, vI (i : Int)), (7, vI (topF A.x B.x (i : Int))), (8, vL 8 0 (gg)), (9, vB true), (10, vL 10 0 (gg + 1)), (11, vB false), (12, vL 12 0 (gg + 2)), (15, vB true), (26, vB true), (52, vB false)] [(2, 0, [vS A.p A.x.items.length, vS A.q A.x.floors.length]), (3, 1, [vS B.p B.x.items.length, vS B.q B.x.floors.length]), (4, 2, [.slice none 0 0, .slice none 0 0]), (5, 3, [vS q1 (joinF A.x B.x i).items.length, vS q6 ((joinF A.x B.x i).floors.length + 1)]), (8, gg, [vI e1.inc, vI e1.rank, vI e1.beat, vI e1.ver, .string e1.data]), (10, gg + 1, [vI e2.inc, vI e2.rank, vI e2.beat, vI e2.ver, .string e2.data]), (12, gg + 2, [vI e1.inc, vI e1.rank, vI e1.beat, vI e1.ver, .string e1.data])] ⟨rfl, rfl, rfl, rfl, rfl, rfl, rfl, rfl, rfl, rfl, rfl, rfl, rfl, rfl, trivial⟩ ⟨rfl, rfl, rfl, rfl, rfl, rfl, rfl, trivial⟩ rfl fun ρ0 ff => ?_
     iterate 3 refine ⟨_, rfl, ?_⟩
     refine AW.cutM (gg + 3) s6 [(2, vL 2 0 (0)), (3, vL 3 0 (1)), (4, vL 4 0 (2)), (5, vL 5 0 (3)), (6, vI (i : Int)), (7, vI (topF A.x B.x (i : Int))), (8, vL 8 0 (gg)), (9, vB true), (10, vL 10 0 (gg + 1)), (11, vB false), (12, vL 12 0 (gg + 2)), (15, vB true), (26, vB true), (52, vB false), (64, vB false)] [(2, 0, [vS A.p A.x.items.length, vS A.q A.x.floors.length]), (3, 1, [vS B.p B.x.items.length, vS B.q B.x.floors.length]), (4, 2, [.slice none 0 0, .slice none 0 0]), (5, 3, [vS q1 (joinF A.x B.x i).items.length, vS q6 ((joinF A.x B.x i).floors.length + 1)]), (8, gg, [vI e1.inc, vI e1.rank, vI e1.beat, vI e1.ver, .string e1.data]), (10, gg + 1, [vI e2.inc, vI e2.rank, vI e2.beat, vI e2.ver, .string e2.data]), (12, gg + 2, [vI e1.inc, vI e1.rank, vI e1.beat, vI e1.ver, .string e1.data])] ⟨rfl, rfl, rfl, rfl, rfl, rfl, rfl, rfl, rfl, rfl, rfl, rfl, rfl, rfl, rfl, trivial⟩ ⟨rfl, rfl, rfl, rfl, rfl, rfl, rfl, trivial⟩ rfl fun ρ0 ff => ?_
     have hm : entMax e1 e2 = e1 := by rw [entP_none he2]; exact (entMax_zero (ent_ok oa he1).1.1).1
     rw [hm] at hJi
     have hO7 := hO6
     have hP8 := hP6
     refine cxs ?_
     refine ⟨_, rfl, ?_⟩
     refine ⟨_, op_ldo rfl rfl rfl rfl, ?_⟩
     refine ⟨_, rfl, ?_⟩
     rintro (_|_) h4
     ·replace h4 : ¬ (e1.inc > topF A.x B.x (i : Int)) := of_decide_eq_false h4
      refine AW.cutM (gg + 3) s6 [(2, vL 2 0 (0)), (3, vL 3 0 (1)), (4, vL 4 0 (2)), (5, vL 5 0 (3)), (6, vI (i : Int)), (7, vI (topF A.x B.x (i : Int))), (8, vL 8 0 (gg)), (9, vB true), (10, vL 10 0 (gg + 1)), (11, vB false), (12, vL 12 0 (gg + 2)), (15, vB true), (26, vB true), (52, vB false), (64, vB false), (69, vB false)] [(2, 0, [vS A.p A.x.items.length, vS A.q A.x.floors.length]), (3, 1, [vS B.p B.x.items.length, vS B.q B.x.floors.length]), (4, 2, [.slice none 0 0, .slice none 0 0]), (5, 3, [vS q1 (joinF A.x B.x i).items.length, vS q6 ((joinF A.x B.x i).floors.length + 1)]), (8, gg, [vI e1.inc, vI e1.rank, vI e1.beat, vI e1.ver, .string e1.data]), (10, gg + 1, [vI e2.inc, vI e2.rank, vI e2.beat, vI e2.ver, .string e2.data]), (12, gg + 2, [vI e1.inc, vI e1.rank, vI e1.beat, vI e1.ver, .string e1.data])] ⟨rfl, rfl, rfl, rfl, rfl, rfl, rfl, rfl, rfl, rfl, rfl, rfl, rfl, rfl, rfl, rfl, trivial⟩ ⟨rfl, rfl, rfl, rfl, rfl, rfl, rfl, trivial⟩ rfl fun ρ0 ff => ?_
      refine cxs ?_
      have e17 : IntKind.wrap .i64 ((i : Int) + 1) = ((i + 1 : Nat) : Int) := (wrap_i64 (by omega) (by omega)).trans (by omega)
      refine ⟨_, rfl, ?_⟩
      rw [if_neg h4] at hJi
      rw [← hJi] at hO7
      exact ⟨(i + 1, q1, q6), 5 - (i + 1), by omega, ⟨rfl, rfl, rfl, rfl, congrArg (Value.int .i64) e17, trivial⟩, ⟨rfl, rfl, rfl, (show some (3, [vS q1 (joinF A.x B.x i).items.length, vS q6 ((joinF A.x B.x i).floors.length + 1)]) = some (3, [vS q1 (joinF A.x B.x (i + 1)).items.length, vS q6 (joinF A.x B.x (i + 1)).floors.length]) by rw [hlf, hJi]), trivial⟩, rfl, by omega, hO7, hN1, hN6, hP8⟩
     ·replace h4 : e1.inc > topF A.x B.x (i : Int) := of_decide_eq_true h4
      refine AW.cutM (gg + 3) s6 [(2, vL 2 0 (0)), (3, vL 3 0 (1)), (4, vL 4 0 (2)), (5, vL 5 0 (3)), (6, vI (i : Int)), (7, vI (topF A.x B.x (i : Int))), (8, vL 8 0 (gg)), (9, vB true), (10, vL 10 0 (gg + 1)), (11, vB false), (12, vL 12 0 (gg + 2)), (15, vB true), (26, vB true), (52, vB false), (64, vB false), (69, vB true)] [(2, 0, [vS A.p A.x.items.length, vS A.q A.x.floors.length]), (3, 1, [vS B.p B.x.items.length, vS B.q B.x.floors.length]), (4, 2, [.slice none 0 0, .slice none 0 0]), (5, 3, [vS q1 (joinF A.x B.x i).items.length, vS q6 ((joinF A.x B.x i).floors.length + 1)]), (8, gg, [vI e1.inc, vI e1.rank, vI e1.beat, vI e1.ver, .string e1.data]), (10, gg + 1, [vI e2.inc, vI e2.rank, vI e2.beat, vI e2.ver, .string e2.data]), (12, gg + 2, [vI e1.inc, vI e1.rank, vI e1.beat, vI e1.ver, .string e1.data])] ⟨rfl, rfl, rfl, rfl, rfl, rfl, rfl, rfl, rfl, rfl, rfl, rfl, rfl, rfl, rfl, rfl, trivial⟩ ⟨rfl, rfl, rfl, rfl, rfl, rfl, rfl, trivial⟩ rfl fun ρ0 ff => ?_
      refine ⟨_, rfl, ?_⟩
      refine ⟨_, op_ldo rfl rfl rfl rfl, ?_⟩
      refine ⟨_, op_ldo rfl rfl rfl rfl, ?_⟩
      refine ⟨_, rfl, ?_⟩
      refine op_one (z := 6) (a := (⟨(i : Int), e1⟩ : Itm)) (f := cItm) rfl rfl rfl rfl rfl (by decide) rfl (Nat.le_of_ble_eq_true rfl) rfl rfl rfl ?_
      refine op_add (z := 6) (st := s6) (f := cItm) (b := 56) (l := (joinF A.x B.x i).items) rfl rfl rfl rfl rfl rfl rfl (by decide) len_cItm rfl rfl rfl (by omega) (by unfold maxLen; omega) (pcS_i hO7) ?_
      intro q8 s8 hO8 hP9 hN8
      refine ⟨_, rfl, ?_⟩
      refine ⟨_, op_sto rfl rfl rfl rfl rfl rfl rfl, ?_⟩
      refine AW.cutM (gg + 3) s8 [(2, vL 2 0 (0)), (3, vL 3 0 (1)), (4, vL 4 0 (2)), (5, vL 5 0 (3)), (6, vI (i : Int)), (7, vI (topF A.x B.x (i : Int))), (8, vL 8 0 (gg)), (9, vB true), (10, vL 10 0 (gg + 1)), (11, vB false), (12, vL 12 0 (gg + 2)), (15, vB true), (26, vB true), (52, vB false), (64, vB false), (69, vB true)] [(2, 0, [vS A.p A.x.items.length, vS A.q A.x.floors.length]), (3, 1, [vS B.p B.x.items.length, vS B.q B.x.floors.length]), (4, 2, [.slice none 0 0, .slice none 0 0]), (5, 3, [vS q8 ((joinF A.x B.x i).items.length + 1), vS q6 ((joinF A.x B.x i).floors.length + 1)]), (8, gg, [vI e1.inc, vI e1.rank, vI e1.beat, vI e1.ver, .string e1.data]), (10, gg + 1, [vI e2.inc, vI e2.rank, vI e2.beat, vI e2.ver, .string e2.data]), (12, gg + 2, [vI e1.inc, vI e1.rank, vI e1.beat, vI e1.ver, .string e1.data])] ⟨rfl, rfl, rfl, rfl, rfl, rfl, rfl, rfl, rfl, rfl, rfl, rfl, rfl, rfl, rfl, rfl, trivial⟩ ⟨rfl, rfl, rfl, rfl, rfl, rfl, rfl, trivial⟩ rfl fun ρ0 ff => ?_
      have e17 : IntKind.wrap .i64 ((i : Int) + 1) = ((i + 1 : Nat) : Int) := (wrap_i64 (by omega) (by omega)).trans (by omega)
      refine ⟨_, rfl, ?_⟩
      rw [if_pos h4] at hJi
      have hl : (joinF A.x B.x (i + 1)).items.length = (joinF A.x B.x i).items.length + 1 := by rw [hJi, List.length_append]; rfl
      have hO9 := pcS_items hO7 hP9 hO8 hN8
      rw [← hJi] at hO9
      have hP10 := hP9.pres hP8 hN1
      have hN8 := hN8.le hP8.1
      exact ⟨(i + 1, q8, q6), 5 - (i + 1), by omega, ⟨rfl, rfl, rfl, rfl, congrArg (Value.int .i64) e17, trivial⟩, ⟨rfl, rfl, rfl, (show some (3, [vS q8 ((joinF A.x B.x i).items.length + 1), vS q6 ((joinF A.x B.x i).floors.length + 1)]) = some (3, [vS q8 (joinF A.x B.x (i + 1)).items.length, vS q6 (joinF A.x B.x (i + 1)).floors.length]) by rw [hlf, hl]), trivial⟩, rfl, by omega, hO9, hN8, hN6, hP10⟩
    ·iterate 3 refine ⟨_, rfl, ?_⟩
     refine ⟨_, op_sto rfl rfl rfl rfl rfl rfl rfl, ?_⟩
     refine AW.cutM (gg + 2) s6 [(2, vL 2 0 (0)), (3, vL 3 0 (1)), (4, vL 4 0 (2)), (5, vL 5 0 (3)), (6, vI (i : Int)), (7, vI (topF A.x B.x (i : Int))), (8, vL 8 0 (gg)), (9, vB true), (10, vL 10 0 (gg + 1)), (11, vB true), (15, vB true), (26, vB true)] [(2, 0, [vS A.p A.x.items.length, vS A.q A.x.floors.length]), (3, 1, [vS B.p B.x.items.length, vS B.q B.x.floors.length]), (4, 2, [.slice none 0 0, .slice none 0 0]), (5, 3, [vS q1 (joinF A.x B.x i).items.length, vS q6 ((joinF A.x B.x i).floors.length + 1)]), (8, gg, [vI e1.inc, vI e1.rank, vI e1.beat, vI e1.ver, .string e1.data]), (10, gg + 1, [vI e2.inc, vI e2.rank, vI e2.beat, vI e2.ver, .string e2.data])] ⟨rfl, rfl, rfl, rfl, rfl, rfl, rfl, rfl, rfl, rfl, rfl, rfl, trivial⟩ ⟨rfl, rfl, rfl, rfl, rfl, rfl, trivial⟩ rfl fun ρ0 ff => ?_
     have hE : topE A.x B.x (i : Int) = entMax e1 e2 := by rw [topE, ← he1, ← he2]
     have hfa := (floorOf_pos oa.2 (i : Int)).1
     rw [hE] at hJi
     iterate 2 refine ⟨_, rfl, ?_⟩
     refine AW.cutM (gg + 2) s6 [(2, vL 2 0 (0)), (3, vL 3 0 (1)), (4, vL 4 0 (2)), (5, vL 5 0 (3)), (6, vI (i : Int)), (7, vI (topF A.x B.x (i : Int))), (8, vL 8 0 (gg)), (9, vB true), (10, vL 10 0 (gg + 1)), (11, vB true), (15, vB true), (26, vB true), (52, vB false)] [(2, 0, [vS A.p A.x.items.length, vS A.q A.x.floors.length]), (3, 1, [vS B.p B.x.items.length, vS B.q B.x.floors.length]), (4, 2, [.slice none 0 0, .slice none 0 0]), (5, 3, [vS q1 (joinF A.x B.x i).items.length, vS q6 ((joinF A.x B.x i).floors.length + 1)]), (8, gg, [vI e1.inc, vI e1.rank, vI e1.beat, vI e1.ver, .string e1.data]), (10, gg + 1, [vI e2.inc, vI e2.rank, vI e2.beat, vI e2.ver, .string e2.data])] ⟨rfl, rfl, rfl, rfl, rfl, rfl, rfl, rfl, rfl, rfl, rfl, rfl, rfl, trivial⟩ ⟨rfl, rfl, rfl, rfl, rfl, rfl, trivial⟩ rfl fun ρ0 ff => ?_
     refine cxs ?_
     refine ⟨_, op_ldo rfl rfl rfl rfl, ?_⟩
     refine ⟨_, rfl, ?_⟩
     refine ⟨_, op_sto rfl rfl rfl rfl rfl rfl rfl, ?_⟩
     refine AW.cutM (gg + 3) s6 [(2, vL 2 0 (0)), (3, vL 3 0 (1)), (4, vL 4 0 (2)), (5, vL 5 0 (3)), (6, vI (i : Int)), (7, vI (topF A.x B.x (i : Int))), (8, vL 8 0 (gg)), (9, vB true), (10, vL 10 0 (gg + 1)), (11, vB true), (12, vL 12 0 (gg + 2)), (15, vB true), (26, vB true), (52, vB false)] [(2, 0, [vS A.p A.x.items.length, vS A.q A.x.floors.length]), (3, 1, [vS B.p B.x.items.length, vS B.q B.x.floors.length]), (4, 2, [.slice none 0 0, .slice none 0 0]), (5, 3, [vS q1 (joinF A.x B.x i).items.length, vS q6 ((joinF A.x B.x i).floors.length + 1)]), (8, gg, [vI e1.inc, vI e1.rank, vI e1.beat, vI e1.ver, .string e1.data]), (10, gg + 1, [vI e2.inc, vI e2.rank, vI e2.beat, vI e2.ver, .string e2.data]), (12, gg + 2, [vI e1.inc, vI e1.rank, vI e1.beat, vI e1.ver, .string e1.data])] ⟨rfl, rfl, rfl, rfl, rfl, rfl, rfl, rfl, rfl, rfl, rfl, rfl, rfl, rfl, trivial⟩ ⟨rfl, rfl, rfl, rfl, rfl, rfl, rfl, trivial⟩ rfl fun ρ0 ff => ?_
     refine ⟨_, rfl, ?_⟩
     refine ⟨_, op_ldo rfl rfl rfl rfl, ?_⟩
     refine ⟨_, op_ldo rfl rfl rfl rfl, ?_⟩
     refine ⟨_, rfl, (ac_spec_EntryCmp e2 e1 s6).mono ?_⟩
     rintro _ s7 ⟨rfl, hP7⟩
     refine ⟨_, rfl, ?_⟩
     rintro (_|_) h3
     ·replace h3 : ¬ (entCmp e2 e1 > 0) := of_decide_eq_false h3
      iterate 2 refine ⟨_, rfl, ?_⟩
      refine AW.cutM (gg + 3) s7 [(2, vL 2 0 (0)), (3, vL 3 0 (1)), (4, vL 4 0 (2)), (5, vL 5 0 (3)), (6, vI (i : Int)), (7, vI (topF A.x B.x (i : Int))), (8, vL 8 0 (gg)), (9, vB true), (10, vL 10 0 (gg + 1)), (11, vB true), (12, vL 12 0 (gg + 2)), (15, vB true), (26, vB true), (52, vB false), (64, vB false)] [(2, 0, [vS A.p A.x.items.length, vS A.q A.x.floors.length]), (3, 1, [vS B.p B.x.items.length, vS B.q B.x.floors.length]), (4, 2, [.slice none 0 0, .slice none 0 0]), (5, 3, [vS q1 (joinF A.x B.x i).items.length, vS q6 ((joinF A.x B.x i).floors.length + 1)]), (8, gg, [vI e1.inc, vI e1.rank, vI e1.beat, vI e1.ver, .string e1.data]), (10, gg + 1, [vI e2.inc, vI e2.rank, vI e2.beat, vI e2.ver, .string e2.data]), (12, gg + 2, [vI e1.inc, vI e1.rank, vI e1.beat, vI e1.ver, .string e1.data])] ⟨rfl, rfl, rfl, rfl, rfl, rfl, rfl, rfl, rfl, rfl, rfl, rfl, rfl, rfl, rfl, trivial⟩ ⟨rfl, rfl, rfl, rfl, rfl, rfl, rfl, trivial⟩ rfl fun ρ0 ff => ?_
      have hm : entMax e1 e2 = e1 := by rw [entMax, if_neg (by have := entCmp_neg e1 e2; omega)]
      rw [hm] at hJi
      have hO7 := hO6.pres hP7
      have hP8 := hP6.trans hP7
      refine cxs ?_
      refine ⟨_, rfl, ?_⟩
      refine ⟨_, op_ldo rfl rfl rfl rfl, ?_⟩
      refine ⟨_, rfl, ?_⟩
      rintro (_|_) h4
      ·replace h4 : ¬ (e1.inc > topF A.x B.x (i : Int)) := of_decide_eq_false h4
       refine AW.cutM (gg + 3) s7 [(2, vL 2 0 (0)), (3, vL 3 0 (1)), (4, vL 4 0 (2)), (5, vL 5 0 (3)), (6, vI (i : Int)), (7, vI (topF A.x B.x (i : Int))), (8, vL 8 0 (gg)), (9, vB true), (10, vL 10 0 (gg + 1)), (11, vB true), (12, vL 12 0 (gg + 2)), (15, vB true), (26, vB true), (52, vB false), (64, vB false), (69, vB false)] [(2, 0, [vS A.p A.x.items.length, vS A.q A.x.floors.length]), (3, 1, [vS B.p B.x.items.length, vS B.q B.x.floors.length]), (4, 2, [.slice none 0 0, .slice none 0 0]), (5, 3, [vS q1 (joinF A.x B.x i).items.length, vS q6 ((joinF A.x B.x i).floors.length + 1)]), (8, gg, [vI e1.inc, vI e1.rank, vI e1.beat, vI e1.ver, .string e1.data]), (10, gg + 1, [vI e2.inc, vI e2.rank, vI e2.beat, vI e2.ver, .string e2.data]), (12, gg + 2, [vI e1.inc, vI e1.rank, vI e1.beat, vI e1.ver, .string e1.data])] ⟨rfl, rfl, rfl, rfl, rfl, rfl, rfl, rfl, rfl, rfl, rfl, rfl, rfl, rfl, rfl, rfl, trivial⟩ ⟨rfl, rfl, rfl, rfl, rfl, rfl, rfl, trivial⟩ rfl fun ρ0 ff => ?_
       refine cxs ?_
       have e17 : IntKind.wrap .i64 ((i : Int) + 1) = ((i + 1 : Nat) : Int) := (wrap_i64 (by omega) (by omega)).trans (by omega)
       refine ⟨_, rfl, ?_⟩
       rw [if_neg h4] at hJi
       rw [← hJi] at hO7
       exact ⟨(i + 1, q1, q6), 5 - (i + 1), by omega, ⟨rfl, rfl, rfl, rfl, congrArg (Value.int .i64) e17, trivial⟩, ⟨rfl, rfl, rfl, (show some (3, [vS q1 (joinF A.x B.x i).items.length, vS q6 ((joinF A.x B.x i).floors.length + 1)]) = some (3, [vS q1 (joinF A.x B.x (i + 1)).items.length, vS q6 (joinF A.x B.x (i + 1)).floors.length]) by rw [hlf, hJi]), trivial⟩, rfl, by omega, hO7, hN1, hN6, hP8⟩
      ·replace h4 : e1.inc > topF A.x B.x (i : Int) := of_decide_eq_true h4
       refine AW.cutM (gg + 3) s7 [(2, vL 2 0 (0)), (3, vL 3 0 (1)), (4, vL 4 0 (2)), (5, vL 5 0 (3)), (6, vI (i : Int)), (7, vI (topF A.x B.x (i : Int))), (8, vL 8 0 (gg)), (9, vB true), (10, vL 10 0 (gg + 1)), (11, vB true), (12, vL 12 0 (gg + 2)), (15, vB true), (26, vB true), (52, vB false), (64, vB false), (69, vB true)] [(2, 0, [vS A.p A.x.items.length, vS A.q A.x.floors.length]), (3, 1, [vS B.p B.x.items.length, vS B.q B.x.floors.length]), (4, 2, [.slice none 0 0, .slice none 0 0]), (5, 3, [vS q1 (joinF A.x B.x i).items.length, vS q6 ((joinF A.x B.x i).floors.length + 1)]), (8, gg, [vI e1.inc, vI e1.rank, vI e1.beat, vI e1.ver, .string e1.data]), (10, gg + 1, [vI e2.inc, vI e2.rank, vI e2.beat, vI e2.ver, .string e2.data]), (12, gg + 2, [vI e1.inc, vI e1.rank, vI e1.beat, vI e1.ver, .string e1.data])] ⟨rfl, rfl, rfl, rfl, rfl, rfl, rfl, rfl, rfl, rfl, rfl, rfl, rfl, rfl, rfl, rfl, trivial⟩ ⟨rfl, rfl, rfl, rfl, rfl, rfl, rfl, trivial⟩ rfl fun ρ0 ff => ?_
       refine ⟨_, rfl, ?_⟩
       refine ⟨_, op_ldo rfl rfl rfl rfl, ?_⟩
       refine ⟨_, op_ldo rfl rfl rfl rfl, ?_⟩
       refine ⟨_, rfl, ?_⟩
       refine op_one (z := 6) (a := (⟨(i : Int), e1⟩ : Itm)) (f := cItm) rfl rfl rfl rfl rfl (by decide) rfl (Nat.le_of_ble_eq_true rfl) rfl rfl rfl ?_
       refine op_add (z := 6) (st := s7) (f := cItm) (b := 56) (l := (joinF A.x B.x i).items) rfl rfl rfl rfl rfl rfl rfl (by decide) len_cItm rfl rfl rfl (by omega) (by unfold maxLen; omega) (pcS_i hO7) ?_
       intro q8 s8 hO8 hP9 hN8
       refine ⟨_, rfl, ?_⟩
       refine ⟨_, op_sto rfl rfl rfl rfl rfl rfl rfl, ?_⟩
       refine AW.cutM (gg + 3) s8 [(2, vL 2 0 (0)), (3, vL 3 0 (1)), (4, vL 4 0 (2)), (5, vL 5 0 (3)), (6, vI (i : Int)), (7, vI (topF A.x B.x (i : Int))), (8, vL 8 0 (gg)), (9, vB true), (10, vL 10 0 (gg + 1)), (11, vB true), (12, vL 12 0 (gg + 2)), (15, vB true), (26, vB true), (52, vB false), (64, vB false), (69, vB true)] [(2, 0, [vS A.p A.x.items.length, vS A.q A.x.floors.length]), (3, 1, [vS B.p B.x.items.length, vS B.q B.x.floors.length]), (4, 2, [.slice none 0 0, .slice none 0 0]), (5, 3, [vS q8 ((joinF A.x B.x i).items.length + 1), vS q6 ((joinF A.x B.x i).floors.length + 1)]), (8, gg, [vI e1.inc, vI e1.rank, vI e1.beat, vI e1.ver, .string e1.data]), (10, gg + 1, [vI e2.inc, vI e2.rank, vI e2.beat, vI e2.ver, .string e2.data]), (12, gg + 2, [vI e1.inc, vI e1.rank, vI e1.beat, vI e1.ver, .string e1.data])] ⟨rfl, rfl, rfl, rfl, rfl, rfl, rfl, rfl, rfl, rfl, rfl, rfl, rfl, rfl, rfl, rfl, trivial⟩ ⟨rfl, rfl, rfl, rfl, rfl, rfl, rfl, trivial⟩ rfl fun ρ0 ff => ?_
       have e17 : IntKind.wrap .i64 ((i : Int) + 1) = ((i + 1 : Nat) : Int) := (wrap_i64 (by omega) (by omega)).trans (by omega)
       refine ⟨_, rfl, ?_⟩
       rw [if_pos h4] at hJi
       have hl : (joinF A.x B.x (i + 1)).items.length = (joinF A.x B.x i).items.length + 1 := by rw [hJi, List.length_append]; rfl
       have hO9 := pcS_items hO7 hP9 hO8 hN8
       rw [← hJi] at hO9
       have hP10 := hP9.pres hP8 hN1
       have hN8 := hN8.le hP8.1
       exact ⟨(i + 1, q8, q6), 5 - (i + 1), by omega, ⟨rfl, rfl, rfl, rfl, congrArg (Value.int .i64) e17, trivial⟩, ⟨rfl, rfl, rfl, (show some (3, [vS q8 ((joinF A.x B.x i).items.length + 1), vS q6 ((joinF A.x B.x i).floors.length + 1)]) = some (3, [vS q8 (joinF A.x B.x (i + 1)).items.length, vS q6 (joinF A.x B.x (i + 1)).floors.length]) by rw [hlf, hl]), trivial⟩, rfl, by omega, hO9, hN8, hN6, hP10⟩
     ·replace h3 : entCmp e2 e1 > 0 := of_decide_eq_true h3
      iterate 2 refine ⟨_, rfl, ?_⟩
      refine AW.cutM (gg + 3) s7 [(2, vL 2 0 (0)), (3, vL 3 0 (1)), (4, vL 4 0 (2)), (5, vL 5 0 (3)), (6, vI (i : Int)), (7, vI (topF A.x B.x (i : Int))), (8, vL 8 0 (gg)), (9, vB true), (10, vL 10 0 (gg + 1)), (11, vB true), (12, vL 12 0 (gg + 2)), (15, vB true), (26, vB true), (52, vB false), (64, vB true)] [(2, 0, [vS A.p A.x.items.length, vS A.q A.x.floors.length]), (3, 1, [vS B.p B.x.items.length, vS B.q B.x.floors.length]), (4, 2, [.slice none 0 0, .slice none 0 0]), (5, 3, [vS q1 (joinF A.x B.x i).items.length, vS q6 ((joinF A.x B.x i).floors.length + 1)]), (8, gg, [vI e1.inc, vI e1.rank, vI e1.beat, vI e1.ver, .string e1.data]), (10, gg + 1, [vI e2.inc, vI e2.rank, vI e2.beat, vI e2.ver, .string e2.data]), (12, gg + 2, [vI e1.inc, vI e1.rank, vI e1.beat, vI e1.ver, .string e1.data])] ⟨rfl, rfl, rfl, rfl, rfl, rfl, rfl, rfl, rfl, rfl, rfl, rfl, rfl, rfl, rfl, trivial⟩ ⟨rfl, rfl, rfl, rfl, rfl, rfl, rfl, trivial⟩ rfl fun ρ0 ff => ?_
      have hm : entMax e1 e2 = e2 := by rw [entMax, if_pos (by have := entCmp_neg e1 e2; omega)]
      rw [hm] at hJi
      have hO7 := hO6.pres hP7
      have hP8 := hP6.trans hP7
      refine ⟨_, op_ldo rfl rfl rfl rfl, ?_⟩
      refine ⟨_, op_sto rfl rfl rfl rfl rfl rfl rfl, ?_⟩
      refine AW.cutM (gg + 3) s7 [(2, vL 2 0 (0)), (3, vL 3 0 (1)), (4, vL 4 0 (2)), (5, vL 5 0 (3)), (6, vI (i : Int)), (7, vI (topF A.x B.x (i : Int))), (8, vL 8 0 (gg)), (9, vB true), (10, vL 10 0 (gg + 1)), (11, vB true), (12, vL 12 0 (gg + 2)), (15, vB true), (26, vB true), (52, vB false), (64, vB true)] [(2, 0, [vS A.p A.x.items.length, vS A.q A.x.floors.length]), (3, 1, [vS B.p B.x.items.length, vS B.q B.x.floors.length]), (4, 2, [.slice none 0 0, .slice none 0 0]), (5, 3, [vS q1 (joinF A.x B.x i).items.length, vS q6 ((joinF A.x B.x i).floors.length + 1)]), (8, gg, [vI e1.inc, vI e1.rank, vI e1.beat, vI e1.ver, .string e1.data]), (10, gg + 1, [vI e2.inc, vI e2.rank, vI e2.beat, vI e2.ver, .string e2.data]), (12, gg + 2, [vI e2.inc, vI e2.rank, vI e2.beat, vI e2.ver, .string e2.data])] ⟨rfl, rfl, rfl, rfl, rfl, rfl, rfl, rfl, rfl, rfl, rfl, rfl, rfl, rfl, rfl, trivial⟩ ⟨rfl, rfl, rfl, rfl, rfl, rfl, rfl, trivial⟩ rfl fun ρ0 ff => ?_
      refine ⟨_, rfl, ?_⟩
      refine ⟨_, op_ldo rfl rfl rfl rfl, ?_⟩
      refine ⟨_, rfl, ?_⟩
      rintro (_|_) h4
      ·replace h4 : ¬ (e2.inc > topF A.x B.x (i : Int)) := of_decide_eq_false h4
       refine AW.cutM (gg + 3) s7 [(2, vL 2 0 (0)), (3, vL 3 0 (1)), (4, vL 4 0 (2)), (5, vL 5 0 (3)), (6, vI (i : Int)), (7, vI (topF A.x B.x (i : Int))), (8, vL 8 0 (gg)), (9, vB true), (10, vL 10 0 (gg + 1)), (11, vB true), (12, vL 12 0 (gg + 2)), (15, vB true), (26, vB true), (52, vB false), (64, vB true), (69, vB false)] [(2, 0, [vS A.p A.x.items.length, vS A.q A.x.floors.length]), (3, 1, [vS B.p B.x.items.length, vS B.q B.x.floors.length]), (4, 2, [.slice none 0 0, .slice none 0 0]), (5, 3, [vS q1 (joinF A.x B.x i).items.length, vS q6 ((joinF A.x B.x i).floors.length + 1)]), (8, gg, [vI e1.inc, vI e1.rank, vI e1.beat, vI e1.ver, .string e1.data]), (10, gg + 1, [vI e2.inc, vI e2.rank, vI e2.beat, vI e2.ver, .string e2.data]), (12, gg + 2, [vI e2.inc, vI e2.rank, vI e2.beat, vI e2.ver, .string e2.data])] ⟨rfl, rfl, rfl, rfl, rfl, rfl, rfl, rfl, rfl, rfl, rfl, rfl, rfl, rfl, rfl, rfl, trivial⟩ ⟨rfl, rfl, rfl, rfl, rfl, rfl, rfl, trivial⟩ rfl fun ρ0 ff => ?_
       refine cxs ?_
       have e17 : IntKind.wrap .i64 ((i : Int) + 1) = ((i + 1 : Nat) : Int) := (wrap_i64 (by omega) (by omega)).trans (by omega)
       refine ⟨_, rfl, ?_⟩
       rw [if_neg h4] at hJi
       rw [← hJi] at hO7
       exact ⟨(i + 1, q1, q6), 5 - (i + 1), by omega, ⟨rfl, rfl, rfl, rfl, congrArg (Value.int .i64) e17, trivial⟩, ⟨rfl, rfl, rfl, (show some (3, [vS q1 (joinF A.x B.x i).items.length, vS q6 ((joinF A.x B.x i).floors.length + 1)]) = some (3, [vS q1 (joinF A.x B.x (i + 1)).items.length, vS q6 (joinF A.x B.x (i + 1)).floors.length]) by rw [hlf, hJi]), trivial⟩, rfl, by omega, hO7, hN1, hN6, hP8⟩
      ·replace h4 : e2.inc > topF A.x B.x (i : Int) := of_decide_eq_true h4
       refine AW.cutM (gg + 3) s7 [(2, vL 2 0 (0)), (3, vL 3 0 (1)), (4, vL 4 0 (2)), (5, vL 5 0 (3)), (6, vI (i : Int)), (7, vI (topF A.x B.x (i : Int))), (8, vL 8 0 (gg)), (9, vB true), (10, vL 10 0 (gg + 1)), (11, vB true), (12, vL 12 0 (gg + 2)), (15, vB true), (26, vB true), (52, vB false), (64, vB true), (69, vB true)] [(2, 0, [vS A.p A.x.items.length, vS A.q A.x.floors.length]), (3, 1, [vS B.p B.x.items.length, vS B.q B.x.floors.length]), (4, 2, [.slice none 0 0, .slice none 0 0]), (5, 3, [vS q1 (joinF A.x B.x i).items.length, vS q6 ((joinF A.x B.x i).floors.length + 1)]), (8, gg, [vI e1.inc, vI e1.rank, vI e1.beat, vI e1.ver, .string e1.data]), (10, gg + 1, [vI e2.inc, vI e2.rank, vI e2.beat, vI e2.ver, .string e2.data]), (12, gg + 2, [vI e2.inc, vI e2.rank, vI e2.beat, vI e2.ver, .string e2.data])] ⟨rfl, rfl, rfl, rfl, rfl, rfl, rfl, rfl, rfl, rfl, rfl, rfl, rfl, rfl, rfl, rfl, trivial⟩ ⟨rfl, rfl, rfl, rfl, rfl, rfl, rfl, trivial⟩ rfl fun ρ0 ff => ?_
       refine ⟨_, rfl, ?_⟩
       refine ⟨_, op_ldo rfl rfl rfl rfl, ?_⟩
       refine ⟨_, op_ldo rfl rfl rfl rfl, ?_⟩
       refine ⟨_, rfl, ?_⟩
       refine op_one (z := 6) (a := (⟨(i : Int), e2⟩ : Itm)) (f := cItm) rfl rfl rfl rfl rfl (by decide) rfl (Nat.le_of_ble_eq_true rfl) rfl rfl rfl ?_
       refine op_add (z := 6) (st := s7) (f := cItm) (b := 56) (l := (joinF A.x B.x i).items) rfl rfl rfl rfl rfl rfl rfl (by decide) len_cItm rfl rfl rfl (by omega) (by unfold maxLen; omega) (pcS_i hO7) ?_
       intro q8 s8 hO8 hP9 hN8
       refine ⟨_, rfl, ?_⟩
       refine ⟨_, op_sto rfl rfl rfl rfl rfl rfl rfl, ?_⟩
       refine AW.cutM (gg + 3) s8 [(2, vL 2 0 (0)), (3, vL 3 0 (1)), (4, vL 4 0 (2)), (5, vL 5 0 (3)), (6, vI (i : Int)), (7, vI (topF A.x B.x (i : Int))), (8, vL 8 0 (gg)), (9, vB true), (10, vL 10 0 (gg + 1)), (11, vB true), (12, vL 12 0 (gg + 2)), (15, vB true), (26, vB true), (52, vB false), (64, vB true), (69, vB true)] [(2, 0, [vS A.p A.x.items.length, vS A.q A.x.floors.length]), (3, 1, [vS B.p B.x.items.length, vS B.q B.x.floors.length]), (4, 2, [.slice none 0 0, .slice none 0 0]), (5, 3, [vS q8 ((joinF A.x B.x i).items.length + 1), vS q6 ((joinF A.x B.x i).floors.length + 1)]), (8, gg, [vI e1.inc, vI e1.rank, vI e1.beat, vI e1.ver, .string e1.data]), (10, gg + 1, [vI e2.inc, vI e2.rank, vI e2.beat, vI e2.ver, .string e2.data]), (12, gg + 2, [vI e2.inc, vI e2.rank, vI e2.beat, vI e2.ver, .string e2.data])] ⟨rfl, rfl, rfl, rfl, rfl, rfl, rfl, rfl, rfl, rfl, rfl, rfl, rfl, rfl, rfl, rfl, trivial⟩ ⟨rfl, rfl, rfl, rfl, rfl, rfl, rfl, trivial⟩ rfl fun ρ0 ff => ?_
       have e17 : IntKind.wrap .i64 ((i : Int) + 1) = ((i + 1 : Nat) : Int) := (wrap_i64 (by omega) (by omega)).trans (by omega)
       refine ⟨_, rfl, ?_⟩
       rw [if_pos h4] at hJi
       have hl : (joinF A.x B.x (i + 1)).items.length = (joinF A.x B.x i).items.length + 1 := by rw [hJi, List.length_append]; rfl
       have hO9 := pcS_items hO7 hP9 hO8 hN8
       rw [← hJi] at hO9
       have hP10 := hP9.pres hP8 hN1
       have hN8 := hN8.le hP8.1
       exact ⟨(i + 1, q8, q6), 5 - (i + 1), by omega, ⟨rfl, rfl, rfl, rfl, congrArg (Value.int .i64) e17, trivial⟩, ⟨rfl, rfl, rfl, (show some (3, [vS q8 ((joinF A.x B.x i).items.length + 1), vS q6 ((joinF A.x B.x i).floors.length + 1)]) = some (3, [vS q8 (joinF A.x B.x (i + 1)).items.length, vS q6 (joinF A.x B.x (i + 1)).floors.length]) by rw [hlf, hl]), trivial⟩, rfl, by omega, hO9, hN8, hN6, hP10⟩
end Go.Proofs.YtbogbnjnjjhnbaaGreat.AM
