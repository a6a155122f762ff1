/- Part 2 of the texts on which the law's proof rests. -/
import Derived.Test.YtpnolkhfeliehaaGreatXka
namespace Go.Proofs.YtpnolkhfeliehaaGreat.AM
open Go Go.Proofs
set_option linter.unusedVariables false
set_option linter.unusedSimpArgs false
set_option maxRecDepth 100000
set_option maxHeartbeats 4000000
def shO (p : Option Addr) (z i : Nat) : Option Addr := p.map fun q => ⟨q.block,q.off + i * z,q.spot⟩
theorem Rows.sh {α : Type} {st : St} {z : Nat} {f : α → List Value} {p : Option Addr} {l : List α} (h : Rows st z f p l) (i : Nat) : Rows st z f (shO p z i) (l.drop i) := by
 rcases h with rfl | ⟨b,off,blk,rfl,hm,hb,hc⟩
 ·exact .inl List.drop_nil
 ·exact Rows.drop (.inr ⟨b,off,blk,rfl,hm,hb,hc⟩) i
theorem Dis.sh {p q : Option Addr} {z i : Nat} (h : Dis p q) : Dis (shO p z i) q := fun a b ha hb => by
 cases p with
 | none => cases ha
 | some c => injection ha with ha; rw [← ha]; exact h c b rfl hb
theorem New.sh {n : Nat} {p : Option Addr} {z i : Nat} (h : New n p) : New n (shO p z i) := fun a ha => by
 cases p with
 | none => cases ha
 | some c => injection ha with ha; rw [← ha]; exact h c rfl
section
variable {P : Program} {ls : List Tmp} {call : ACallT} {o : Oper} {e : Operand → Value} {lo : Lo} {st : St}
theorem op_slc {t el : TypeId} {x y : Operand} {p : Option Addr} {n j z : Nat} {k : IntKind} {i : Int} (ho : o.op = .slice t x (some y) none none) (hx : e x = .slice p n n) (hy : e y = .int k i) (he : telem P t = some el) (hz : tsize P el = some z) (hi : i = (j : Int)) (hj : j ≤ n) : aoper P ls call o e lo st = some (.slice (shO p z j) (n - j) (n - j),lo,st) := by
 obtain ⟨d,op,tt,pos,after,gd⟩ := o
 simp only at ho
 subst ho hi
 simp [aoper,rop,aslice,abound,hx,hy,he,hz,hj,shO]
end
theorem op_drop {α : Type} {P : Program} {ls : List Tmp} {call : ACallT} {o : Oper} {e : Operand → Value} {lo : Lo} {st : St} {t el : TypeId} {x y : Operand} {p : Option Addr} {n z : Nat} {k : IntKind} {i : Int} (l : List α) (j : Nat) (ho : o.op = .slice t x (some y) none none) (hx : e x = .slice p n n) (hn : n = l.length) (hy : e y = .int k i) (he : telem P t = some el) (hz : tsize P el = some z) (hi : i = (j : Int)) (hj : j ≤ l.length) : aoper P ls call o e lo st = some (.slice (shO p z j) (l.drop j).length (l.drop j).length,lo,st) := by
 subst hn
 rw [List.length_drop]
 exact op_slc ho hx hy he hz hi hj
theorem PrL.rows {α : Type} {st st' : St} {ps : List (Option Addr)} {z : Nat} {f : α → List Value} {p : Option Addr} {l : List α} (h : PrL ps st st') (hR : Rows st z f p l) (hd : ∀ q ∈ ps,Dis p q) : Rows st' z f p l := by
 rcases hR with rfl | ⟨b,off,blk,rfl,hm,hb,hc⟩
 ·exact .inl rfl
 ·refine .inr ⟨b,off,blk,rfl,?_,Nat.lt_of_lt_of_le hb h.1,hc⟩
  rw [h.2 b hb fun q hq r hr => hd q hq _ r rfl hr]
  exact hm
def xr (a b : Int) : Int := bits .xor .i64 a b
theorem wrap_nat (n : Nat) (h : n < 9223372036854775808) : IntKind.wrap .i64 (n : Int) = (n : Int) := wrap_i64 (by omega) (by omega)
theorem xr_nat {a b : Nat} (ha : a < 4294967296) (hb : b < 4294967296) : xr a b = ((a ^^^ b : Nat) : Int) ∧ a ^^^ b < 4294967296 := by
 have h : a ^^^ b < 4294967296 := Nat.xor_lt_two_pow (n := 32) ha hb
 refine ⟨?_,h⟩
 have h1 : (BitVec.ofInt 64 (a : Int) ^^^ BitVec.ofInt 64 (b : Int)).toNat = a ^^^ b := by
  rw [BitVec.toNat_xor,BitVec.ofInt_natCast,BitVec.ofInt_natCast,BitVec.toNat_ofNat,BitVec.toNat_ofNat,Nat.mod_eq_of_lt (by omega),Nat.mod_eq_of_lt (by omega)]
 show IntKind.wrap .i64 (((BitVec.ofInt 64 (a : Int) ^^^ BitVec.ofInt 64 (b : Int)).toNat : Nat) : Int) = _
 rw [h1]
 exact wrap_nat _ (by omega)
def rng32 (x : Int) : Prop := 0 ≤ x ∧ x < 4294967296
theorem xr_rng {a b : Int} (ha : rng32 a) (hb : rng32 b) : rng32 (xr a b) := by
 obtain ⟨m,rfl⟩ := Int.eq_ofNat_of_zero_le ha.1
 obtain ⟨n,rfl⟩ := Int.eq_ofNat_of_zero_le hb.1
 have h := xr_nat (a := m) (b := n) (by have := ha.2; omega) (by have := hb.2; omega)
 rw [h.1]
 exact ⟨by omega,by omega⟩
def crc1 (x : Int) : Int := if x % 2 = 1 then xr (x / 2) 3988292384 else x / 2
def crcN : Nat → Int → Int
 | 0,x => x
 | n + 1,x => crc1 (crcN n x)
def crcS (x u : Int) : Int := crcN 8 (xr x u)
def crcP (l : List Int) (i : Nat) : Int := (l.take i).foldl crcS 4294967295
def crc (l : List Int) : Int := xr (crcP l l.length) 4294967295
def bytesOk (l : List Int) : Prop := ∀ x ∈ l,0 ≤ x ∧ x < 256
theorem crc1_rng {x : Int} (h : rng32 x) : rng32 (crc1 x) := by
 have hd : rng32 (x / 2) := ⟨by have := h.1; omega,by have := h.1; have := h.2; omega⟩
 unfold crc1
 split
 ·exact xr_rng hd ⟨by decide,by decide⟩
 ·exact hd
theorem crcN_rng {x : Int} (h : rng32 x) : ∀ n,rng32 (crcN n x)
 | 0 => h
 | n + 1 => crc1_rng (crcN_rng h n)
theorem crcP_succ {l : List Int} {i : Nat} {u : Int} (h : l[i]? = some u) : crcP l (i + 1) = crcS (crcP l i) u := by
 unfold crcP
 rw [List.take_add_one,h,List.foldl_append]
 rfl
theorem bytesOk.at {l : List Int} (hl : bytesOk l) {i : Nat} {u : Int} (h : l[i]? = some u) : rng32 u := by
 have := hl u (List.mem_of_getElem? h)
 exact ⟨this.1,by omega⟩
theorem crcP_rng {l : List Int} (hl : bytesOk l) : ∀ i,rng32 (crcP l i)
 | 0 => ⟨by show (0 : Int) ≤ 4294967295; decide,by show (4294967295 : Int) < 4294967296; decide⟩
 | i + 1 => by
  cases h : l[i]? with
  | none =>
   have : crcP l (i + 1) = crcP l i := by
    unfold crcP
    rw [List.take_add_one,h]
    simp
   rw [this]; exact crcP_rng hl i
  | some u =>
   rw [crcP_succ h]
   exact crcN_rng (xr_rng (crcP_rng hl i) (hl.at h)) 8
theorem crc_rng {l : List Int} (hl : bytesOk l) : rng32 (crc l) := xr_rng (crcP_rng hl _) ⟨by decide,by decide⟩
section
variable {P : Program} {ls : List Tmp} {call : ACallT} {o : Oper} {e : Operand → Value} {lo : Lo} {st : St}
theorem op_xr {t ty : TypeId} {x y : Operand} {a b : Int} (ho : o.op = .binOp .xor t x y ty) (hx : e x = vI a) (hy : e y = vI b) : aoper P ls call o e lo st = some (vI (xr a b),lo,st) := by
 obtain ⟨d,op,tt,pos,after,gd⟩ := o
 simp only at ho
 subst ho
 simp [aoper,rop,hx,hy,abin,aint,xr]
theorem op_rm {t ty : TypeId} {x y : Operand} {a b r : Int} (ho : o.op = .binOp .rem t x y ty) (hx : e x = vI a) (hy : e y = vI b) (hb : b ≠ 0) (hr : a.tmod b = r) : aoper P ls call o e lo st = some (vI r,lo,st) := by
 subst hr
 exact op_rem ho hx hy hb
theorem op_qo {t ty : TypeId} {x y : Operand} {a b r : Int} (ho : o.op = .binOp .quo t x y ty) (hx : e x = vI a) (hy : e y = vI b) (hb : b ≠ 0) (hr : a.tdiv b = r) (h1 : -9223372036854775808 ≤ r) (h2 : r < 9223372036854775808) : aoper P ls call o e lo st = some (vI r,lo,st) := by
 subst hr
 rw [op_quo ho hx hy hb,wrap_i64 h1 h2]
theorem op_ofB {src dst : TypeId} {x : Operand} {b : Int} (ho : o.op = .convert src dst x) (hx : e x = .int .u8 b) (hd : telem P dst = none) (h1 : tint P src = some .u8) (h2 : tint P dst = some .i64) (hb : rng32 b) : aoper P ls call o e lo st = some (vI b,lo,st) := by
 obtain ⟨d,op,tt,pos,after,gd⟩ := o
 simp only at ho
 subst ho
 simp only [aoper,hd,rop,hx,aconv,h1,h2,Option.bind_some,Option.map_some]
 rw [wrap_i64 (by have := hb.1; omega) (by have := hb.2; omega)]
theorem op_toB {src dst : TypeId} {x : Operand} {b r : Int} (ho : o.op = .convert src dst x) (hx : e x = vI b) (hd : telem P dst = none) (h1 : tint P src = some .i64) (h2 : tint P dst = some .u8) (hb : b = r) (h3 : 0 ≤ r) (h4 : r < 256) : aoper P ls call o e lo st = some (.int .u8 r,lo,st) := by
 obtain ⟨d,op,tt,pos,after,gd⟩ := o
 simp only at ho
 subst ho hb
 simp only [aoper,hd,rop,hx,aconv,h1,h2,Option.bind_some,Option.map_some]
 rw [wrap_u8 h3 h4]
end
theorem tm_emod {a : Int} (b : Int) (h : 0 ≤ a) : a.tmod b = a % b := Int.tmod_eq_emod_of_nonneg h
theorem td_ediv {a : Int} (b : Int) (h : 0 ≤ a) : a.tdiv b = a / b := Int.tdiv_eq_ediv_of_nonneg h
theorem ac_spec_Crc (p : Option Addr) (l : List Int) (st : St) (hR : Rows st 1 fB p l) (hl : bytesOk l) (hs : l.length ≤ 1099511627776) : C 212 [vS p l.length] st (fun v s => v = vI (crc l) ∧ s = st) := by
 refine AC.enterX (i := ⟨[],[],[0,2,3,4,5,6,10,21,29],[]⟩) [] Tryz.func212 rfl rfl (by kernel_rfl) (by kernel_rfl) Tryz.ntmps212 (Lb rfl) rfl ?_
 refine cxs ?_
 refine cxs ?_
 refine Cu lo0 st [(0,vS p l.length),(2,vI 0),(3,vI 4294967295),(4,vI 0)] fun _ => ?_
 refine AW.loop0 (fun x : Nat × Int => [(0,vS p l.length),(2,vI (0)),(3,vI x.2),(4,vI (x.1 : Int))]) (fun m (x : Nat × Int) st' => m = l.length - x.1 ∧ x.1 ≤ l.length ∧ x.2 = crcP l x.1 ∧ st = st') (0,4294967295) _ ⟨rfl,rfl,rfl,rfl,trivial⟩ rfl ⟨rfl,Nat.zero_le _,rfl,rfl⟩ ?_
 rintro m ⟨i,c⟩ ρ0 st' ⟨rfl,hi,hc,rfl⟩
 simp only at hi hc
 have hP : rng32 c := hc ▸ crcP_rng hl i
 iterate 2 refine ⟨_,rfl,?_⟩
 rintro (_|_) h10
 ·replace h10 : ¬ ((i : Int) < (l.length : Int)) := of_decide_eq_false h10
  refine Cu lo0 st [(0,vS p l.length),(2,vI 0),(3,vI c),(4,vI (i : Int)),(10,vB false)] fun _ => ?_
  refine cxs ?_
  refine ⟨_,op_xr rfl rfl rfl,?_⟩
  exact cxs (Rt ⟨congrArg vI (by rw [hc,crc,show l.length = i by omega]),rfl⟩)
 ·replace h10 : (i : Int) < (l.length : Int) := of_decide_eq_true h10
  refine Cu lo0 st [(0,vS p l.length),(2,vI 0),(3,vI c),(4,vI (i : Int)),(10,vB true)] fun _ => ?_
  refine cxs ?_
  refine op_at i hR (by omega) rfl rfl rfl rfl rfl rfl rfl ?_
  intro x16 b16 d16 k16 hy16 hb16 hm16 hc16 ho16
  refine ⟨_,op_ldc (i := 0) rfl rfl rfl rfl hm16 hc16 rfl rfl,?_⟩
  refine ⟨_,op_ofB rfl rfl rfl rfl rfl (hl.at hy16),?_⟩
  refine ⟨_,op_xr rfl rfl rfl,?_⟩
  refine cxs ?_
  refine Cu lo0 st [(0,vS p l.length),(2,vI 0),(3,vI (xr c x16)),(4,vI (i : Int)),(5,vI 0),(10,vB true)] fun _ => ?_
  refine AW.loop0 (fun y : Nat × Int => [(0,vS p l.length),(2,vI (0)),(3,vI y.2),(4,vI (i : Int)),(5,vI (y.1 : Int)),(10,vB true)]) (fun m (y : Nat × Int) st' => m = 8 - y.1 ∧ y.1 ≤ 8 ∧ y.2 = crcN y.1 (xr c x16) ∧ st = st') (0,xr c x16) _ ⟨rfl,rfl,rfl,rfl,rfl,rfl,trivial⟩ rfl ⟨rfl,Nat.zero_le _,rfl,rfl⟩ ?_
  rintro m ⟨k,d⟩ ρ0 st' ⟨rfl,hk,hd,rfl⟩
  simp only at hk hd
  have hX : rng32 d := hd ▸ crcN_rng (xr_rng hP (hl.at hy16)) k
  have hX0 := hX.1
  have hX1 := hX.2
  refine ⟨_,rfl,?_⟩
  rintro (_|_) h21
  ·replace h21 : ¬ ((k : Int) < (8)) := of_decide_eq_false h21
   refine Cu lo0 st [(0,vS p l.length),(2,vI 0),(3,vI d),(4,vI (i : Int)),(5,vI (k : Int)),(10,vB true),(21,vB false)] fun _ => ?_
   refine cxs ?_
   have ew12 : IntKind.wrap .i64 ((i : Int) + (1)) = ((i + 1 : Nat) : Int) := (wrap_i64 (by omega) (by omega)).trans (by omega)
   refine ⟨_,rfl,?_⟩
   refine ⟨(i + 1,d),l.length - (i + 1),by omega,⟨rfl,rfl,rfl,congrArg (Value.int .i64) ew12,trivial⟩,rfl,rfl,by omega,?_,rfl⟩
   rw [crcP_succ hy16,← hc,hd,show k = 8 by omega]
   rfl
  ·replace h21 : (k : Int) < (8) := of_decide_eq_true h21
   refine Cu lo0 st [(0,vS p l.length),(2,vI 0),(3,vI d),(4,vI (i : Int)),(5,vI (k : Int)),(10,vB true),(21,vB true)] fun _ => ?_
   refine cxs ?_
   refine ⟨_,op_rm (r := d % 2) rfl rfl rfl (by decide) (tm_emod 2 hX0),?_⟩
   refine ⟨_,rfl,?_⟩
   rintro (_|_) h26
   ·replace h26 : ¬ ((d % 2) = (1)) := beq_eq_false_iff_ne.1 h26
    refine Cu lo0 st [(0,vS p l.length),(2,vI 0),(3,vI d),(4,vI (i : Int)),(5,vI (k : Int)),(6,vB false),(10,vB true),(21,vB true)] fun _ => ?_
    refine ⟨_,op_qo (r := d / 2) rfl rfl rfl (by decide) (td_ediv 2 hX0) (by omega) (by omega),?_⟩
    refine cxs ?_
    refine Cu lo0 st [(0,vS p l.length),(2,vI 0),(3,vI (d / 2)),(4,vI (i : Int)),(5,vI (k : Int)),(6,vB false),(10,vB true),(21,vB true),(29,vB false)] fun _ => ?_
    refine cxs ?_
    have ew23 : IntKind.wrap .i64 ((k : Int) + (1)) = ((k + 1 : Nat) : Int) := (wrap_i64 (by omega) (by omega)).trans (by omega)
    refine ⟨_,rfl,?_⟩
    refine ⟨(k + 1,d / 2),8 - (k + 1),by omega,⟨rfl,rfl,rfl,rfl,congrArg (Value.int .i64) ew23,rfl,trivial⟩,rfl,rfl,by omega,?_,rfl⟩
    show d / 2 = crc1 _
    rw [← hd,crc1,if_neg h26]
   ·replace h26 : (d % 2) = (1) := beq_iff_eq.1 h26
    refine Cu lo0 st [(0,vS p l.length),(2,vI 0),(3,vI d),(4,vI (i : Int)),(5,vI (k : Int)),(6,vB true),(10,vB true),(21,vB true)] fun _ => ?_
    refine ⟨_,op_qo (r := d / 2) rfl rfl rfl (by decide) (td_ediv 2 hX0) (by omega) (by omega),?_⟩
    refine cxs ?_
    refine Cu lo0 st [(0,vS p l.length),(2,vI 0),(3,vI (d / 2)),(4,vI (i : Int)),(5,vI (k : Int)),(6,vB true),(10,vB true),(21,vB true),(29,vB true)] fun _ => ?_
    refine ⟨_,op_xr rfl rfl rfl,?_⟩
    refine Cu lo0 st [(0,vS p l.length),(2,vI 0),(3,vI (xr (d / 2) 3988292384)),(4,vI (i : Int)),(5,vI (k : Int)),(6,vB true),(10,vB true),(21,vB true),(29,vB true)] fun _ => ?_
    have ew23 : IntKind.wrap .i64 ((k : Int) + (1)) = ((k + 1 : Nat) : Int) := (wrap_i64 (by omega) (by omega)).trans (by omega)
    refine ⟨_,rfl,?_⟩
    refine ⟨(k + 1,xr (d / 2) 3988292384),8 - (k + 1),by omega,⟨rfl,rfl,rfl,rfl,congrArg (Value.int .i64) ew23,rfl,trivial⟩,rfl,rfl,by omega,?_,rfl⟩
    show xr (d / 2) 3988292384 = crc1 _
    rw [← hd,crc1,if_pos h26]
theorem ac_impl_Crc (p : Option Addr) (l : List Int) (st : St) (hR : Rows st 1 fB p l) (hl : bytesOk l) (hs : l.length ≤ 1099511627776) : C 200 [vS p l.length] st (fun v s => v = vI (crc l) ∧ s = st) := by
 refine AC.enterX (i := ⟨[],[],[0,2,3,5,6,7,8,9,10,17,18,24],[]⟩) [] Tryz.func200 rfl rfl (by kernel_rfl) (by kernel_rfl) Tryz.ntmps200 (Lb rfl) rfl ?_
 refine cxs ?_
 refine Cu lo0 st [(0,vS p l.length),(2,vI 0),(3,vI 4294967295)] fun _ => ?_
 refine ⟨_,rfl,?_⟩
 refine Cu lo0 st [(2,vI 0),(3,vI 4294967295),(7,vS p l.length),(8,vI (l.length : Int)),(9,vI 0)] fun _ => ?_
 refine AW.loop0 (fun x : Nat × Int => [(2,vI (0)),(3,vI x.2),(7,vS p l.length),(8,vI (l.length : Int)),(9,vI (x.1 : Int))]) (fun m (x : Nat × Int) st' => m = l.length - x.1 ∧ x.1 ≤ l.length ∧ x.2 = crcP l x.1 ∧ st = st') (0,4294967295) _ ⟨rfl,rfl,rfl,rfl,rfl,trivial⟩ rfl ⟨rfl,Nat.zero_le _,rfl,rfl⟩ ?_
 rintro m ⟨i,c⟩ ρ0 st' ⟨rfl,hi,hc,rfl⟩
 simp only at hi hc
 have hP : rng32 c := hc ▸ crcP_rng hl i
 refine ⟨_,rfl,?_⟩
 rintro (_|_) h10
 ·replace h10 : ¬ ((i : Int) < (l.length : Int)) := of_decide_eq_false h10
  refine Cu lo0 st [(2,vI 0),(3,vI c),(7,vS p l.length),(8,vI (l.length : Int)),(9,vI (i : Int)),(10,vB false)] fun _ => ?_
  refine cxs ?_
  refine ⟨_,op_xr rfl rfl rfl,?_⟩
  exact cxs (Rt ⟨congrArg vI (by rw [hc,crc,show l.length = i by omega]),rfl⟩)
 ·replace h10 : (i : Int) < (l.length : Int) := of_decide_eq_true h10
  refine Cu lo0 st [(2,vI 0),(3,vI c),(7,vS p l.length),(8,vI (l.length : Int)),(9,vI (i : Int)),(10,vB true)] fun _ => ?_
  refine cxs ?_
  refine op_at i hR (by omega) rfl rfl rfl rfl rfl rfl rfl ?_
  intro x11 b11 d11 k11 hy11 hb11 hm11 hc11 ho11
  refine ⟨_,op_ldc (i := 0) rfl rfl rfl rfl hm11 hc11 rfl rfl,?_⟩
  refine Cu lo0 st [(2,vI 0),(3,vI c),(5,.int .u8 x11),(7,vS p l.length),(8,vI (l.length : Int)),(9,vI (i : Int)),(10,vB true)] fun _ => ?_
  refine ⟨_,op_ofB rfl rfl rfl rfl rfl (hl.at hy11),?_⟩
  refine ⟨_,op_xr rfl rfl rfl,?_⟩
  refine cxs ?_
  refine Cu lo0 st [(2,vI 0),(3,vI (xr c x11)),(5,.int .u8 x11),(7,vS p l.length),(8,vI (l.length : Int)),(9,vI (i : Int)),(10,vB true),(17,vI 0)] fun _ => ?_
  refine AW.loop0 (fun y : Nat × Int => [(2,vI (0)),(3,vI y.2),(5,.int .u8 x11),(7,vS p l.length),(8,vI (l.length : Int)),(9,vI (i : Int)),(10,vB true),(17,vI (y.1 : Int))]) (fun m (y : Nat × Int) st' => m = 8 - y.1 ∧ y.1 ≤ 8 ∧ y.2 = crcN y.1 (xr c x11) ∧ st = st') (0,xr c x11) _ ⟨rfl,rfl,rfl,rfl,rfl,rfl,rfl,rfl,trivial⟩ rfl ⟨rfl,Nat.zero_le _,rfl,rfl⟩ ?_
  rintro m ⟨k,d⟩ ρ0 st' ⟨rfl,hk,hd,rfl⟩
  simp only at hk hd
  have hX : rng32 d := hd ▸ crcN_rng (xr_rng hP (hl.at hy11)) k
  have hX0 := hX.1
  have hX1 := hX.2
  refine ⟨_,rfl,?_⟩
  rintro (_|_) h18
  ·replace h18 : ¬ ((k : Int) < (8)) := of_decide_eq_false h18
   refine Cu lo0 st [(2,vI 0),(3,vI d),(5,.int .u8 x11),(7,vS p l.length),(8,vI (l.length : Int)),(9,vI (i : Int)),(10,vB true),(17,vI (k : Int)),(18,vB false)] fun _ => ?_
   refine cxs ?_
   have ew28 : IntKind.wrap .i64 ((i : Int) + (1)) = ((i + 1 : Nat) : Int) := (wrap_i64 (by omega) (by omega)).trans (by omega)
   refine ⟨_,rfl,?_⟩
   refine ⟨(i + 1,d),l.length - (i + 1),by omega,⟨rfl,rfl,rfl,rfl,congrArg (Value.int .i64) ew28,trivial⟩,rfl,rfl,by omega,?_,rfl⟩
   rw [crcP_succ hy11,← hc,hd,show k = 8 by omega]
   rfl
  ·replace h18 : (k : Int) < (8) := of_decide_eq_true h18
   refine Cu lo0 st [(2,vI 0),(3,vI d),(5,.int .u8 x11),(7,vS p l.length),(8,vI (l.length : Int)),(9,vI (i : Int)),(10,vB true),(17,vI (k : Int)),(18,vB true)] fun _ => ?_
   refine cxs ?_
   refine ⟨_,op_rm (r := d % 2) rfl rfl rfl (by decide) (tm_emod 2 hX0),?_⟩
   refine ⟨_,rfl,?_⟩
   rintro (_|_) h21
   ·replace h21 : ¬ ((d % 2) = (1)) := beq_eq_false_iff_ne.1 h21
    refine Cu lo0 st [(2,vI 0),(3,vI d),(5,.int .u8 x11),(6,vB false),(7,vS p l.length),(8,vI (l.length : Int)),(9,vI (i : Int)),(10,vB true),(17,vI (k : Int)),(18,vB true)] fun _ => ?_
    refine ⟨_,op_qo (r := d / 2) rfl rfl rfl (by decide) (td_ediv 2 hX0) (by omega) (by omega),?_⟩
    refine cxs ?_
    refine Cu lo0 st [(2,vI 0),(3,vI (d / 2)),(5,.int .u8 x11),(6,vB false),(7,vS p l.length),(8,vI (l.length : Int)),(9,vI (i : Int)),(10,vB true),(17,vI (k : Int)),(18,vB true),(24,vB false)] fun _ => ?_
    refine cxs ?_
    have ew27 : IntKind.wrap .i64 ((k : Int) + (1)) = ((k + 1 : Nat) : Int) := (wrap_i64 (by omega) (by omega)).trans (by omega)
    refine ⟨_,rfl,?_⟩
    refine ⟨(k + 1,d / 2),8 - (k + 1),by omega,⟨rfl,rfl,rfl,rfl,rfl,rfl,rfl,congrArg (Value.int .i64) ew27,trivial⟩,rfl,rfl,by omega,?_,rfl⟩
    show d / 2 = crc1 _
    rw [← hd,crc1,if_neg h21]
   ·replace h21 : (d % 2) = (1) := beq_iff_eq.1 h21
    refine Cu lo0 st [(2,vI 0),(3,vI d),(5,.int .u8 x11),(6,vB true),(7,vS p l.length),(8,vI (l.length : Int)),(9,vI (i : Int)),(10,vB true),(17,vI (k : Int)),(18,vB true)] fun _ => ?_
    refine ⟨_,op_qo (r := d / 2) rfl rfl rfl (by decide) (td_ediv 2 hX0) (by omega) (by omega),?_⟩
    refine cxs ?_
    refine Cu lo0 st [(2,vI 0),(3,vI (d / 2)),(5,.int .u8 x11),(6,vB true),(7,vS p l.length),(8,vI (l.length : Int)),(9,vI (i : Int)),(10,vB true),(17,vI (k : Int)),(18,vB true),(24,vB true)] fun _ => ?_
    refine ⟨_,op_xr rfl rfl rfl,?_⟩
    refine Cu lo0 st [(2,vI 0),(3,vI (xr (d / 2) 3988292384)),(5,.int .u8 x11),(6,vB true),(7,vS p l.length),(8,vI (l.length : Int)),(9,vI (i : Int)),(10,vB true),(17,vI (k : Int)),(18,vB true),(24,vB true)] fun _ => ?_
    have ew27 : IntKind.wrap .i64 ((k : Int) + (1)) = ((k + 1 : Nat) : Int) := (wrap_i64 (by omega) (by omega)).trans (by omega)
    refine ⟨_,rfl,?_⟩
    refine ⟨(k + 1,xr (d / 2) 3988292384),8 - (k + 1),by omega,⟨rfl,rfl,rfl,rfl,rfl,rfl,rfl,congrArg (Value.int .i64) ew27,trivial⟩,rfl,rfl,by omega,?_,rfl⟩
    show xr (d / 2) 3988292384 = crc1 _
    rw [← hd,crc1,if_pos h21]
def vlq (n : Nat) : List Int := if h : n < 128 then [(n : Int)] else ((n % 128 + 128 : Nat) : Int) :: vlq (n / 128)
termination_by n
decreasing_by omega
def putN (n : Int) : List Int := if 0 ≤ n ∧ n ≤ 2147483647 then vlq n.toNat else []
theorem vlq_lt {n : Nat} (h : n < 128) : vlq n = [(n : Int)] := by rw [vlq,dif_pos h]
theorem vlq_ge {n : Nat} (h : ¬ n < 128) : vlq n = ((n % 128 + 128 : Nat) : Int) :: vlq (n / 128) := by rw [vlq,dif_neg h]
theorem vlq_len : ∀ (f n : Nat),n < 128 ^ (f + 1) → (vlq n).length ≤ f + 1
 | 0,n,h => by rw [vlq_lt (by omega)]; exact Nat.le_refl _
 | f + 1,n,h => by
  by_cases h1 : n < 128
  ·rw [vlq_lt h1]; simp
  ·rw [vlq_ge h1,List.length_cons]
   have := vlq_len f (n / 128) (by rw [Nat.pow_succ] at h; omega)
   omega
theorem vlq_pos (n : Nat) : 0 < (vlq n).length := by
 by_cases h1 : n < 128
 ·rw [vlq_lt h1]; exact Nat.one_pos
 ·rw [vlq_ge h1,List.length_cons]; omega
theorem vlq_ok : ∀ (f n : Nat),n < 128 ^ (f + 1) → bytesOk (vlq n)
 | 0,n,h => by
  rw [vlq_lt (by omega)]
  intro x hx
  rw [List.mem_singleton.1 hx]
  omega
 | f + 1,n,h => by
  by_cases h1 : n < 128
  ·rw [vlq_lt h1]
   intro x hx
   rw [List.mem_singleton.1 hx]
   omega
  ·rw [vlq_ge h1]
   intro x hx
   rcases List.mem_cons.1 hx with rfl | hx
   ·omega
   ·exact vlq_ok f (n / 128) (by rw [Nat.pow_succ] at h; omega) x hx
theorem putN_len (n : Int) : (putN n).length ≤ 5 := by
 unfold putN
 split
 ·exact vlq_len 4 _ (by omega)
 ·exact Nat.zero_le _
theorem putN_ok (n : Int) : bytesOk (putN n) := by
 unfold putN
 split
 ·exact vlq_ok 4 _ (by omega)
 ·intro x hx; cases hx
theorem bytesOk.app {a b : List Int} (ha : bytesOk a) (hb : bytesOk b) : bytesOk (a ++ b) := fun x hx => by
 rcases List.mem_append.1 hx with h | h
 ·exact ha x h
 ·exact hb x h
theorem ac_spec_PutNum (n : Int) (st : St) : C 215 [vI n] st (fun v s => ∃ q,v = vS q (putN n).length ∧ OwnR s 1 fB q (putN n) ∧ New st.next q ∧ Pres st s) := by
 refine AC.enterX (i := ⟨[],[],[0,2,3,7,10],[]⟩) [] Tryz.func215 rfl rfl (by kernel_rfl) (by kernel_rfl) Tryz.ntmps215 (Lb rfl) rfl ?_
 refine Cu lo0 st [(0,vI n),(2,Sn)] fun _ => ?_
 refine op_nilK (z := 1) (f := fB) rfl rfl rfl rfl (by decide) rfl ?_
 intro q4 s4 hO4 hP4 hN4
 refine Cu lo0 s4 [(0,vI n),(2,Sn),(3,vS q4 0)] fun _ => ?_
 refine ⟨_,rfl,(ac_spec_l1In n 0 2147483647 s4).mono ?_⟩
 rintro _ s4 ⟨x6,rfl,h6,rfl⟩
 rcases x6 with _|_
 ·replace h6 := of_decide_eq_false h6.symm
  refine ⟨_,rfl,?_⟩
  refine Cu lo0 s4 [(0,vI n),(2,Sn),(3,vS q4 0),(7,vB true)] fun _ => ?_
  refine cxs ?_
  refine ⟨.inl rfl,_,rfl,?_⟩
  rw [show putN n = [] from if_neg h6]
  exact ⟨q4,rfl,hO4,hN4,hP4⟩
 ·replace h6 := of_decide_eq_true h6.symm
  refine ⟨_,rfl,?_⟩
  refine Cu lo0 s4 [(0,vI n),(2,Sn),(3,vS q4 0),(7,vB false)] fun _ => ?_
  obtain ⟨n,rfl⟩ := Int.eq_ofNat_of_zero_le h6.1
  have hpn : vlq n = putN n := (if_pos h6).symm
  have hpl := putN_len n
  refine cxs ?_
  refine AW.loop0 (fun x : Nat × Option Addr × List Int => [(0,vI (x.1 : Int)),(2,.slice none 0 0),(3,vS x.2.1 x.2.2.length)]) (fun m (x : Nat × Option Addr × List Int) st' => m = x.1 ∧ x.1 ≤ n ∧ x.2.2 ++ vlq x.1 = putN n ∧ OwnR st' 1 fB x.2.1 x.2.2 ∧ New st.next x.2.1 ∧ Pres st st') (n,q4,[]) _ ⟨rfl,rfl,rfl,trivial⟩ rfl ⟨rfl,Nat.le_refl _,hpn,hO4,hN4,hP4⟩ ?_
  rintro m ⟨k,q,l⟩ ρ0 st' ⟨hm,hk,hv,hO,hN,hP⟩
  simp only at hm hk hv hO hN
  have hvl := congrArg List.length hv
  rw [List.length_append] at hvl
  have hv1 := vlq_pos k
  refine ⟨_,rfl,?_⟩
  rintro (_|_) h10
  ·replace h10 : ¬ ((k : Int) > (127)) := of_decide_eq_false h10
   refine Cu lo0 st' [(0,vI (k : Int)),(2,Sn),(3,vS q l.length),(10,vB false)] fun _ => ?_
   refine cxs ?_
   refine ⟨_,op_toB (r := (k : Int)) rfl rfl rfl rfl rfl rfl (by omega) (by omega),?_⟩
   refine op_one (z := 1) (a := ((k : Int) : Int)) (f := fB) rfl rfl rfl rfl rfl (by decide) rfl (Lb rfl) rfl rfl rfl ?_
   refine op_snoc (z := 1) (st := st') (f := fB) (b := 1) (l := l) (x := (k : Int)) rfl rfl rfl rfl rfl rfl rfl (by decide) fB_len rfl rfl rfl (by omega) (by unfold maxLen; omega) hO ?_
   intro q24 s24 hO24 hP24 hN24
   refine cxs ?_
   refine ⟨.inl rfl,_,rfl,q24,?_⟩
   rw [← hv,vlq_lt (n := k) (by omega)]
   exact ⟨rfl,hO24,hN24.le hP.1,hP24.pres hP hN⟩
  ·replace h10 : (k : Int) > (127) := of_decide_eq_true h10
   refine Cu lo0 st' [(0,vI (k : Int)),(2,Sn),(3,vS q l.length),(10,vB true)] fun _ => ?_
   refine cxs ?_
   refine ⟨_,op_rm (r := ((k % 128 : Nat) : Int)) rfl rfl rfl (by decide) ((tm_emod 128 (by omega)).trans (by omega)),?_⟩
   have ew14 : IntKind.wrap .i64 (((k % 128 : Nat) : Int) + (128)) = ((k % 128 + 128 : Nat) : Int) := (wrap_i64 (by omega) (by omega)).trans (by omega)
   refine ⟨_,rfl,?_⟩
   refine ⟨_,op_toB (r := ((k % 128 + 128 : Nat) : Int)) rfl rfl rfl rfl rfl (ew14.trans (by omega)) (by omega) (by omega),?_⟩
   refine op_one (z := 1) (a := (((k % 128 + 128 : Nat) : Int) : Int)) (f := fB) rfl rfl rfl rfl rfl (by decide) rfl (Lb rfl) rfl rfl rfl ?_
   refine op_snoc (z := 1) (st := st') (f := fB) (b := 1) (l := l) (x := ((k % 128 + 128 : Nat) : Int)) rfl rfl rfl rfl rfl rfl rfl (by decide) fB_len rfl rfl rfl (by omega) (by unfold maxLen; omega) hO ?_
   intro q17 s17 hO17 hP17 hN17
   refine Cu lo0 s17 [(0,vI (k : Int)),(2,Sn),(3,vS q17 (l ++ [((k % 128 + 128 : Nat) : Int)]).length),(10,vB true)] fun _ => ?_
   refine ⟨_,op_qo (r := ((k / 128 : Nat) : Int)) rfl rfl rfl (by decide) ((td_ediv 128 (by omega)).trans (by omega)) (by omega) (by omega),?_⟩
   exact ⟨(k / 128,q17,l ++ [((k % 128 + 128 : Nat) : Int)]),k / 128,by omega,⟨rfl,rfl,rfl,trivial⟩,rfl,rfl,by simp only; omega,by rw [← hv,vlq_ge (n := k) (by omega),List.append_assoc]; rfl,hO17,hN17.le hP.1,hP17.pres hP hN⟩
theorem ac_impl_PutNum (n : Int) (st : St) : C 204 [vI n] st (fun v s => ∃ q,v = vS q (putN n).length ∧ OwnR s 1 fB q (putN n) ∧ New st.next q ∧ Pres st s) := by
 refine AC.enterX (i := ⟨[],[],[0,2,3,6,9],[]⟩) [] Tryz.func204 rfl rfl (by kernel_rfl) (by kernel_rfl) Tryz.ntmps204 (Lb rfl) rfl ?_
 refine Cu lo0 st [(0,vI n),(2,Sn)] fun _ => ?_
 refine ⟨_,rfl,(ac_impl_within n 0 2147483647 st).mono ?_⟩
 rintro _ st ⟨x5,rfl,h5,rfl⟩
 rcases x5 with _|_
 ·replace h5 := of_decide_eq_false h5.symm
  refine ⟨_,rfl,?_⟩
  refine Cu lo0 st [(0,vI n),(2,Sn),(6,vB true)] fun _ => ?_
  refine cxs ?_
  refine ⟨.inl rfl,_,rfl,?_⟩
  rw [show putN n = [] from if_neg h5]
  exact ⟨none,rfl,OwnR.nil,New.none,Pres.refl _⟩
 ·replace h5 := of_decide_eq_true h5.symm
  refine ⟨_,rfl,?_⟩
  refine Cu lo0 st [(0,vI n),(2,Sn),(6,vB false)] fun _ => ?_
  obtain ⟨n,rfl⟩ := Int.eq_ofNat_of_zero_le h5.1
  have hpn : vlq n = putN n := (if_pos h5).symm
  have hpl := putN_len n
  refine cxs ?_
  refine op_nilK (z := 1) (f := fB) rfl rfl rfl rfl (by decide) rfl ?_
  intro q7 s7 hO7 hP7 hN7
  refine Cu lo0 s7 [(0,vI n),(2,Sn),(3,vS q7 0)] fun _ => ?_
  refine AW.loop0 (fun x : Nat × Option Addr × List Int => [(0,vI (x.1 : Int)),(2,.slice none 0 0),(3,vS x.2.1 x.2.2.length)]) (fun m (x : Nat × Option Addr × List Int) st' => m = x.1 ∧ x.1 ≤ n ∧ x.2.2 ++ vlq x.1 = putN n ∧ OwnR st' 1 fB x.2.1 x.2.2 ∧ New st.next x.2.1 ∧ Pres st st') (n,q7,[]) _ ⟨rfl,rfl,rfl,trivial⟩ rfl ⟨rfl,Nat.le_refl _,hpn,hO7,hN7,hP7⟩ ?_
  rintro m ⟨k,q,l⟩ ρ0 st' ⟨hm,hk,hv,hO,hN,hP⟩
  simp only at hm hk hv hO hN
  have hvl := congrArg List.length hv
  rw [List.length_append] at hvl
  have hv1 := vlq_pos k
  refine ⟨_,rfl,?_⟩
  rintro (_|_) h9
  ·replace h9 : ¬ ((k : Int) ≥ (128)) := of_decide_eq_false h9
   refine Cu lo0 st' [(0,vI (k : Int)),(2,Sn),(3,vS q l.length),(9,vB false)] fun _ => ?_
   refine cxs ?_
   refine ⟨_,op_toB (r := (k : Int)) rfl rfl rfl rfl rfl rfl (by omega) (by omega),?_⟩
   refine op_one (z := 1) (a := ((k : Int) : Int)) (f := fB) rfl rfl rfl rfl rfl (by decide) rfl (Lb rfl) rfl rfl rfl ?_
   refine op_snoc (z := 1) (st := st') (f := fB) (b := 1) (l := l) (x := (k : Int)) rfl rfl rfl rfl rfl rfl rfl (by decide) fB_len rfl rfl rfl (by omega) (by unfold maxLen; omega) hO ?_
   intro q23 s23 hO23 hP23 hN23
   refine cxs ?_
   refine ⟨.inl rfl,_,rfl,q23,?_⟩
   rw [← hv,vlq_lt (n := k) (by omega)]
   exact ⟨rfl,hO23,hN23.le hP.1,hP23.pres hP hN⟩
  ·replace h9 : (k : Int) ≥ (128) := of_decide_eq_true h9
   refine Cu lo0 st' [(0,vI (k : Int)),(2,Sn),(3,vS q l.length),(9,vB true)] fun _ => ?_
   refine cxs ?_
   refine ⟨_,op_rm (r := ((k % 128 : Nat) : Int)) rfl rfl rfl (by decide) ((tm_emod 128 (by omega)).trans (by omega)),?_⟩
   have ew13 : IntKind.wrap .i64 (((k % 128 : Nat) : Int) + (128)) = ((k % 128 + 128 : Nat) : Int) := (wrap_i64 (by omega) (by omega)).trans (by omega)
   refine ⟨_,rfl,?_⟩
   refine ⟨_,op_toB (r := ((k % 128 + 128 : Nat) : Int)) rfl rfl rfl rfl rfl (ew13.trans (by omega)) (by omega) (by omega),?_⟩
   refine op_one (z := 1) (a := (((k % 128 + 128 : Nat) : Int) : Int)) (f := fB) rfl rfl rfl rfl rfl (by decide) rfl (Lb rfl) rfl rfl rfl ?_
   refine op_snoc (z := 1) (st := st') (f := fB) (b := 1) (l := l) (x := ((k % 128 + 128 : Nat) : Int)) rfl rfl rfl rfl rfl rfl rfl (by decide) fB_len rfl rfl rfl (by omega) (by unfold maxLen; omega) hO ?_
   intro q16 s16 hO16 hP16 hN16
   refine Cu lo0 s16 [(0,vI (k : Int)),(2,Sn),(3,vS q16 (l ++ [((k % 128 + 128 : Nat) : Int)]).length),(9,vB true)] fun _ => ?_
   refine ⟨_,op_qo (r := ((k / 128 : Nat) : Int)) rfl rfl rfl (by decide) ((td_ediv 128 (by omega)).trans (by omega)) (by omega) (by omega),?_⟩
   exact ⟨(k / 128,q16,l ++ [((k % 128 + 128 : Nat) : Int)]),k / 128,by omega,⟨rfl,rfl,rfl,trivial⟩,rfl,rfl,by simp only; omega,by rw [← hv,vlq_ge (n := k) (by omega),List.append_assoc]; rfl,hO16,hN16.le hP.1,hP16.pres hP hN⟩
def fl (t : List RV) : List Int := t.flatMap fun r => r.l
theorem fl_succ {t : List RV} {i : Nat} {r : RV} (h : t[i]? = some r) : fl (t.take (i + 1)) = fl (t.take i) ++ r.l := by
 unfold fl
 rw [List.take_add_one,h,List.flatMap_append]
 simp
theorem fl_le (t : List RV) (i : Nat) : (fl (t.take i)).length ≤ (fl t).length := by
 unfold fl
 conv => rhs; rw [← List.take_append_drop i t]
 rw [List.flatMap_append,List.length_append]
 omega
theorem ac_impl_joined (p : Option Addr) (t : List RV) (st : St) (hR : Rows st 1 cRV p t) (hB : ∀ r ∈ t,Rows st 1 fB r.p r.l) (hs : szOk t.length) (hl : (fl t).length ≤ 1073741824) : C 203 [vS p t.length] st (fun v s => ∃ q,v = vS q (fl t).length ∧ OwnR s 1 fB q (fl t) ∧ New st.next q ∧ Pres st s) := by
 have hs : t.length ≤ 1048576 := hs
 refine AC.enterX (i := ⟨[],[],[0,2,3,5,7,8,9,10],[]⟩) [] Tryz.func203 rfl rfl (by kernel_rfl) (by kernel_rfl) Tryz.ntmps203 (Lb rfl) rfl ?_
 refine Cu lo0 st [(0,vS p t.length),(2,Sn)] fun _ => ?_
 refine op_nilK (z := 1) (f := fB) rfl rfl rfl rfl (by decide) rfl ?_
 intro q6 s6 hO6 hP6 hN6
 refine Cu lo0 s6 [(0,vS p t.length),(2,Sn),(3,vS q6 0)] fun _ => ?_
 refine ⟨_,rfl,?_⟩
 refine Cu lo0 s6 [(2,Sn),(3,vS q6 0),(7,vS p t.length),(8,vI (t.length : Int)),(9,vI 0)] fun _ => ?_
 refine AW.loop0 (fun x : Nat × Option Addr × List Int => [(2,.slice none 0 0),(3,vS x.2.1 x.2.2.length),(7,vS p t.length),(8,vI (t.length : Int)),(9,vI (x.1 : Int))]) (fun m (x : Nat × Option Addr × List Int) st' => m = t.length - x.1 ∧ x.1 ≤ t.length ∧ x.2.2 = fl (t.take x.1) ∧ OwnR st' 1 fB x.2.1 x.2.2 ∧ New st.next x.2.1 ∧ Pres st st') (0,q6,[]) _ ⟨rfl,rfl,rfl,rfl,rfl,trivial⟩ rfl ⟨rfl,Nat.zero_le _,rfl,hO6,hN6,hP6⟩ ?_
 rintro m ⟨i,q,l⟩ ρ0 st' ⟨rfl,hi,hv,hO,hN,hP⟩
 simp only at hi hv hO hN
 refine ⟨_,rfl,?_⟩
 rintro (_|_) h10
 ·replace h10 : ¬ ((i : Int) < (t.length : Int)) := of_decide_eq_false h10
  refine Cu lo0 st' [(2,Sn),(3,vS q l.length),(7,vS p t.length),(8,vI (t.length : Int)),(9,vI (i : Int)),(10,vB false)] fun _ => ?_
  refine cxs ?_
  refine cxs ?_
  refine ⟨.inl rfl,_,rfl,q,?_⟩
  rw [show fl t = l by rw [hv,show i = t.length by omega,List.take_length]]
  exact ⟨rfl,hO,hN,hP⟩
 ·replace h10 : (i : Int) < (t.length : Int) := of_decide_eq_true h10
  refine Cu lo0 st' [(2,Sn),(3,vS q l.length),(7,vS p t.length),(8,vI (t.length : Int)),(9,vI (i : Int)),(10,vB true)] fun _ => ?_
  refine cxs ?_
  refine op_at i (hP.rows hR) (by omega) rfl rfl rfl rfl rfl rfl rfl ?_
  intro x11 b11 d11 k11 hy11 hb11 hm11 hc11 ho11
  refine ⟨_,op_ldc (i := 0) rfl rfl rfl rfl hm11 hc11 rfl rfl,?_⟩
  refine Cu lo0 st' [(2,Sn),(3,vS q l.length),(5,vS x11.p x11.l.length),(7,vS p t.length),(8,vI (t.length : Int)),(9,vI (i : Int)),(10,vB true)] fun _ => ?_
  have hsc := fl_succ hy11
  have hle := fl_le t (i + 1)
  have hll := congrArg List.length hsc
  rw [List.length_append,← hv] at hll
  have hrb := hB _ (List.mem_of_getElem? hy11)
  refine op_cat' (z := 1) (st := st') (f := fB) (b := 1) (l := l) (l2 := x11.l) rfl rfl rfl rfl rfl rfl rfl (by decide) fB_len rfl rfl rfl rfl (by first | omega | (simp only [List.length_nil]; omega)) (by unfold maxLen; first | omega | (simp only [List.length_nil]; omega)) hO (hP.rows hrb) ?_
  intro q15 s15 hO15 hPr15 hN15
  refine Cu lo0 s15 [(2,Sn),(3,vS q15 (l ++ x11.l).length),(5,vS x11.p x11.l.length),(7,vS p t.length),(8,vI (t.length : Int)),(9,vI (i : Int)),(10,vB true)] fun _ => ?_
  have ew16 : IntKind.wrap .i64 ((i : Int) + (1)) = ((i + 1 : Nat) : Int) := (wrap_i64 (by omega) (by omega)).trans (by omega)
  refine ⟨_,rfl,?_⟩
  refine ⟨(i + 1,q15,l ++ x11.l),t.length - (i + 1),by omega,⟨rfl,rfl,rfl,rfl,congrArg (Value.int .i64) ew16,trivial⟩,rfl,rfl,by omega,by rw [hsc,← hv],hO15,?_,hPr15.pres hP hN⟩
  rcases hN15 with ⟨h,_⟩ | ⟨_,h⟩
  ·rw [h]; exact hN
  ·exact h.le hP.1
theorem OwnP.perm {st : St} {l m : List Pc} (h : OwnP st l) (hp : l.Perm m) : OwnP st m := ⟨fun c hc => h.1 c (hp.mem_iff.2 hc),(hp.pairwise_iff fun hd => hd.symm).1 h.2⟩
theorem OwnP.front1 {st : St} {a b y : List Pc} (h : OwnP st (a ++ (b ++ y))) : OwnP st (b ++ (a ++ y)) := h.perm (by
 rw [← List.append_assoc,← List.append_assoc]
 exact List.perm_append_comm.append_right y)
theorem OwnP.joinF {st st' : St} {l m : List Pc} (h : OwnP st l) (hp : Pres st st') (k : OwnP st' m) (hn : NewP st.next m) : OwnP st' (m ++ l) :=
 OwnP.app k (h.pres hp) fun a ha b hb => (Dis.of (h.1 b hb).old (hn a ha)).symm
structure LW where
 cap : Int
 frm : Int
 p : Option Addr
 l : List SV
 C : Pc
 ok : l = [] ∨ ∃ a o,C.p = some ⟨a,0,none⟩ ∧ p = some ⟨a,o,none⟩ ∧ ∀ (j : Nat) x,l[j]? = some x → (C.cs.drop (o + j * 2)).take 2 = cSV x
abbrev LW.v (g : LW) : LV := ⟨g.cap,g.frm,g.p,g.l⟩
abbrev LW.x (g : LW) : Lg := g.v.x
abbrev pcLog (g : LW) : List Pc := g.C :: g.l.flatMap pcS
theorem LW.rows {st : St} {g : LW} (h : g.C.own st) : Rows st 2 cSV g.p g.l := by
 rcases g.ok with h0 | ⟨a,o,h1,h2,h3⟩
 ·exact .inl h0
 ·rcases h with ⟨h4,_⟩ | ⟨b,h4,hb,hm⟩
  ·rw [h1] at h4; cases h4
  ·rw [h1] at h4
   injection h4 with h4
   injection h4 with h4
   subst h4
   exact .inr ⟨a,o,_,h2,hm,hb,h3⟩
theorem OwnP.rdLog {st : St} {g : LW} (h : OwnP st (pcLog g)) : RdL st g.p g.l := ⟨LW.rows (h.1 _ (List.mem_cons_self ..)),fun s hs => (h.tail.state hs).rdS⟩
theorem OwnP.lw {st : St} {u : LV} (h : OwnP st (pcL u.p u.l)) : ∃ g : LW,g.v = u ∧ OwnP st (pcLog g) ∧ g.C = pcR 2 cSV u.p u.l := by
 refine ⟨⟨u.cap,u.frm,u.p,u.l,pcR 2 cSV u.p u.l,?_⟩,rfl,h,rfl⟩
 rcases h.louter with ⟨_,h2⟩ | ⟨a,h1,_⟩
 ·exact .inl h2
 ·exact .inr ⟨a,0,h1,h1,fun j x hx => by rw [Nat.zero_add]; exact flat_at (l := u.l) len_cSV hx⟩
def bigLog (g : Lg) : Prop := szOk g.list.length ∧ ∀ s ∈ g.list,bigS s
theorem bigLog_iff {g : LV} : bigLog g.x ↔ bigL g.l := by
 refine ⟨fun h => ⟨by have := h.1; simpa [LV.x] using this,fun s hs => h.2 s.x (List.mem_map_of_mem hs)⟩,fun h => ⟨by have := h.1; simpa [LV.x] using this,fun s hs => ?_⟩⟩
 obtain ⟨r,hr,rfl⟩ := List.mem_map.1 hs
 exact h.2 r hr
def tnew (n : Int) : List (List Int) := if 1 ≤ n ∧ n ≤ 5 then List.replicate n.toNat [0,0,0,0,0] else []
abbrev zRow : List Int := List.replicate 5 0
theorem ac_spec_TableNew (n : Int) (st : St) : C 225 [vI n] st (fun v s => ∃ p t,v = vS p t.length ∧ OwnP s (pcT p t) ∧ NewP st.next (pcT p t) ∧ Pres st s ∧ t.map (·.l) = tnew n) := by
 refine AC.enterX (i := ⟨[],[],[0,2,3,4,8,12],[]⟩) [] Tryz.func225 rfl rfl (by kernel_rfl) (by kernel_rfl) Tryz.ntmps225 (Lb rfl) rfl ?_
 refine Cu lo0 st [(0,vI n),(2,Sn)] fun _ => ?_
 refine op_nilK (z := 1) (f := cRV) rfl rfl rfl rfl Nat.one_pos rfl ?_
 intro q0 s0 hO0 hP0 hN0
 refine Cu lo0 s0 [(0,vI n),(2,Sn),(3,vS q0 0)] fun _ => ?_
 refine ⟨_,rfl,(ac_spec_l1In n 1 5 s0).mono ?_⟩
 rintro _ s0 ⟨x,rfl,hx,rfl⟩
 rcases x with _|_
 ·replace hx := of_decide_eq_false hx.symm
  refine ⟨_,rfl,?_⟩
  refine Cu lo0 s0 [(0,vI n),(2,Sn),(3,vS q0 0),(8,vB true)] fun _ => ?_
  exact cxs (Rt ⟨q0,[],rfl,OwnP.one (own_pc hO0),NewP.cons hN0 NewP.nil,hP0,by rw [tnew,if_neg hx]; rfl⟩)
 ·replace hx := of_decide_eq_true hx.symm
  refine ⟨_,rfl,?_⟩
  refine Cu lo0 s0 [(0,vI n),(2,Sn),(3,vS q0 0),(8,vB false)] fun _ => ?_
  obtain ⟨N,rfl⟩ : ∃ N : Nat,n = N := ⟨n.toNat,by omega⟩
  refine cxs ?_
  refine Cu lo0 s0 [(0,vI (N : Int)),(2,Sn),(3,vS q0 0),(4,vI 0)] fun _ => ?_
  refine AW.loop0 (fun x : List RV × Option Addr => [(0,vI (N : Int)),(3,vS x.2 x.1.length),(4,vI (x.1.length : Int))]) (fun m (x : List RV × Option Addr) st' => m = N - x.1.length ∧ x.1.length ≤ N ∧ OwnP st' (pcT x.2 x.1) ∧ NewP st.next (pcT x.2 x.1) ∧ Pres st st' ∧ x.1.map (·.l) = List.replicate x.1.length zRow) ([],q0) _ ⟨rfl,rfl,rfl,trivial⟩ rfl ⟨rfl,Nat.zero_le _,OwnP.one (own_pc hO0),NewP.cons hN0 NewP.nil,hP0,rfl⟩ ?_
  rintro m x ρ0 st' ⟨rfl,hi,hO,hN,hP,hl⟩
  refine ⟨_,rfl,?_⟩
  rintro (_|_) h1
  ·replace h1 : ¬ ((x.1.length : Int) < (N : Int)) := of_decide_eq_false h1
   refine Cu lo0 st' [(0,vI (N : Int)),(3,vS x.2 x.1.length),(4,vI (x.1.length : Int)),(12,vB false)] fun _ => ?_
   refine cxs ?_
   refine cxs ?_
   have hil : x.1.length = N := by omega
   exact Rt ⟨x.2,x.1,rfl,hO,hN,hP,by rw [hl,hil,tnew,if_pos hx,Int.toNat_natCast]; rfl⟩
  ·replace h1 : (x.1.length : Int) < (N : Int) := of_decide_eq_true h1
   refine Cu lo0 st' [(0,vI (N : Int)),(3,vS x.2 x.1.length),(4,vI (x.1.length : Int)),(12,vB true)] fun _ => ?_
   have h1' := Int.ofNat_lt.1 h1
   refine cxs ?_
   refine op_mkK (z := 1) (f := fI) (a := (0 : Int)) (b := 8) (i := 5) rfl rfl rfl rfl rfl rfl rfl rfl rfl Nat.one_pos rfl rfl (Lb rfl) (Lb rfl) ?_
   intro q1 s1 hO1 hP1 hN1
   refine op_one (z := 1) (a := (⟨q1,zRow⟩ : RV)) (f := cRV) rfl rfl rfl rfl rfl Nat.one_pos rfl (Lb rfl) rfl rfl rfl ?_
   refine op_add (z := 1) (st := s1) (f := cRV) (b := 24) (l := x.1) rfl rfl rfl rfl rfl rfl rfl Nat.one_pos cRV_len rfl rfl rfl (by omega) (by unfold maxLen; omega) (hP1.ownR hO.outer) ?_
   intro q4 s4 hO4 hP4 hN4
   refine Cu lo0 s4 [(0,vI (N : Int)),(3,vS q4 (x.1.length + 1)),(4,vI (x.1.length : Int)),(12,vB true)] fun _ => ?_
   have hA := OwnP.renew (l := []) (m := x.1.map pcRV ++ [pcRV ⟨q1,zRow⟩]) (c := pcR 1 cRV x.2 x.1) (OwnP.join (l := pcT x.2 x.1) (m := [pcRV ⟨q1,zRow⟩]) hO hP1 (OwnP.one (own_pc hO1)) (NewP.cons hN1 NewP.nil)) hP4 (own_pc hO4) hN4
   have hA : OwnP s4 (pcT q4 (x.1 ++ [⟨q1,zRow⟩])) := by simpa [pcT] using hA
   have e14 : IntKind.wrap .i64 ((x.1.length : Int) + 1) = ((x.1.length + 1 : Nat) : Int) := (wrap_i64 (by omega) (by omega)).trans (by omega)
   refine ⟨_,rfl,?_⟩
   refine ⟨(x.1 ++ [⟨q1,zRow⟩],q4),N - (x.1.length + 1),by omega,⟨rfl,?_,?_,trivial⟩,rfl,?_,?_,hA,?_,?_,?_⟩
   ·rw [List.length_append]; rfl
   ·rw [List.length_append]; exact congrArg (Value.int .i64) e14
   ·rw [List.length_append]; rfl
   ·rw [List.length_append]; exact h1'
   ·refine NewP.cons (hN4.le (Nat.le_trans hP.1 hP1.1)) ?_
    rw [List.map_append]
    exact NewP.app (fun c hc => hN c (List.mem_cons_of_mem _ hc)) (NewP.cons (hN1.le hP.1) NewP.nil)
   ·exact hP4.pres (hP.trans hP1) (hN _ (List.mem_cons_self ..))
   ·rw [List.map_append,hl,List.length_append,List.length_singleton,List.replicate_succ']; rfl
def cntT (t : List RV) : Nat := (t.map fun r => r.l.length).sum
theorem split_at {α : Type} {l : List α} {i : Nat} {x : α} (h : l[i]? = some x) : l = l.take i ++ x :: l.drop (i + 1) ∧ l.take (i + 1) = l.take i ++ [x] ∧ l.drop i = x :: l.drop (i + 1) := by
 obtain ⟨hi,hx⟩ := List.getElem?_eq_some_iff.1 h
 have h3 : l.drop i = x :: l.drop (i + 1) := by rw [List.drop_eq_getElem_cons hi,hx]
 refine ⟨?_,?_,h3⟩
 ·rw [← h3,List.take_append_drop]
 ·rw [List.take_add_one,h]; rfl
theorem tnew_len (n : Int) : (tnew n).length ≤ 5 ∧ ∀ l ∈ tnew n,l.length = 5 := by
 unfold tnew
 split
 ·refine ⟨by rw [List.length_replicate]; omega,fun l hl => ?_⟩
  rw [(List.mem_replicate.1 hl).2]; rfl
 ·exact ⟨by simp,fun l hl => by cases hl⟩
theorem tnew_rows {t : List RV} {n : Int} (h : t.map (·.l) = tnew n) : t.length ≤ 5 ∧ (∀ r ∈ t,r.l.length = 5) ∧ cntT t ≤ 25 := by
 obtain ⟨h1,h2⟩ := tnew_len n
 have h3 : t.length ≤ 5 := by rw [← h,List.length_map] at h1; exact h1
 have h4 : ∀ r ∈ t,r.l.length = 5 := fun r hr => h2 r.l (by rw [← h]; exact List.mem_map_of_mem hr)
 refine ⟨h3,h4,?_⟩
 have : ∀ t : List RV,(∀ r ∈ t,r.l.length = 5) → cntT t = 5 * t.length := by
  intro t
  induction t with
  | nil => intro _; rfl
  | cons r t ih =>
   intro h
   have h5 := ih fun r hr => h r (List.mem_cons_of_mem _ hr)
   have h6 := h r (List.mem_cons_self ..)
   simp [cntT] at h5 ⊢
   omega
 have := this t h4
 omega
def commonGo (id : Int) : List (List Int) → Bool → Int → Int
 | [],_,v => v
 | r :: t,b,v => if 0 ≤ id ∧ id ≤ (r.length : Int) - 1 then (if b = true ∨ r.getD id.toNat 0 < v then commonGo id t false (r.getD id.toNat 0) else commonGo id t false v) else 0
def common (t : List (List Int)) (id : Int) : Int := commonGo id t true 0
theorem getD_of {l : List Int} {i : Nat} {x : Int} (h : l[i]? = some x) : l.getD i 0 = x := by rw [List.getD_eq_getElem?_getD,h]; rfl
theorem ac_spec_Common (p : Option Addr) (t : List RV) (id : Int) (st : St) (hR : RdT st p t) (hs : szOk t.length) (hr : ∀ r ∈ t,szOk r.l.length) : C 211 [vS p t.length,vI id] st (fun v s => v = vI (common (t.map (·.l)) id) ∧ s = st) := by
 have hs : t.length ≤ 1048576 := hs
 refine AC.enterX (i := ⟨[],[],[0,1,4,5,6,9,13,24,37],[]⟩) [] Tryz.func211 rfl rfl (by kernel_rfl) (by kernel_rfl) Tryz.ntmps211 (Lb rfl) rfl ?_
 refine Cu lo0 st [(0,vS p t.length),(1,vI id),(4,vI 0)] fun _ => ?_
 iterate 2 refine ⟨_,rfl,?_⟩
 rintro (_|_) h0
 ·replace h0 : ¬ ((t.length : Int) = 0) := beq_eq_false_iff_ne.1 h0
  refine Cu lo0 st [(0,vS p t.length),(1,vI id),(4,vI 0),(9,vB false)] fun _ => ?_
  refine cxs ?_
  refine cxs ?_
  refine Cu lo0 st [(0,vS p t.length),(1,vI id),(4,vI 0),(5,vI 0),(6,vI 0)] fun _ => ?_
  refine AW.loop0 (fun x : Nat × Int => [(0,vS p t.length),(1,vI id),(5,vI x.2),(6,vI (x.1 : Int))]) (fun m (x : Nat × Int) st' => m = t.length - x.1 ∧ x.1 ≤ t.length ∧ common (t.map (·.l)) id = commonGo id ((t.drop x.1).map (·.l)) (decide (x.1 = 0)) x.2 ∧ st = st') (0,0) _ ⟨rfl,rfl,rfl,rfl,trivial⟩ rfl ⟨rfl,Nat.zero_le _,rfl,rfl⟩ ?_
  rintro m x ρ0 st' ⟨rfl,hi,hc,rfl⟩
  iterate 2 refine ⟨_,rfl,?_⟩
  rintro (_|_) h1
  ·replace h1 : ¬ ((x.1 : Int) < (t.length : Int)) := of_decide_eq_false h1
   refine Cu lo0 st [(0,vS p t.length),(1,vI id),(5,vI x.2),(6,vI (x.1 : Int)),(13,vB false)] fun _ => ?_
   refine cxs ?_
   refine cxs ?_
   have hil : x.1 = t.length := by omega
   rw [hil,List.drop_length] at hc
   exact Rt ⟨congrArg vI hc.symm,rfl⟩
  ·replace h1 : (x.1 : Int) < (t.length : Int) := of_decide_eq_true h1
   refine Cu lo0 st [(0,vS p t.length),(1,vI id),(5,vI x.2),(6,vI (x.1 : Int)),(13,vB true)] fun _ => ?_
   have h1' := Int.ofNat_lt.1 h1
   have ⟨b1,o1,k1,r,hpe,hr1,hm1,hc1,hb1⟩ := hR.1.atB h1'
   have hmem := List.mem_of_getElem? hr1
   have hrs : r.l.length ≤ 1048576 := hr r hmem
   obtain ⟨d1,d2,d3⟩ := split_at hr1
   rw [d3,List.map_cons,commonGo] at hc
   have e22 : IntKind.wrap .i64 ((r.l.length : Int) - 1) = (r.l.length : Int) - 1 := wrap_i64 (by omega) (by omega)
   refine cxs ?_
   refine ⟨_,op_idx (j := (x.1 : Int)) (n := t.length) (q := ⟨b1,o1,none⟩) rfl (congrArg (fun u => vS u t.length) hpe) rfl rfl rfl (Int.natCast_nonneg _) h1,?_⟩
   refine ⟨_,op_ldc (i := 0) (v := vS r.p r.l.length) rfl rfl rfl rfl hm1 hc1 rfl rfl,?_⟩
   iterate 2 refine ⟨_,rfl,?_⟩
   refine ⟨_,rfl,(ac_spec_l1In id 0 _ st).mono ?_⟩
   rintro _ st ⟨y,rfl,hy,rfl⟩
   rcases y with _|_
   ·replace hy := of_decide_eq_false hy.symm
    refine ⟨_,rfl,?_⟩
    refine Cu lo0 st [(0,vS p t.length),(1,vI id),(5,vI x.2),(6,vI (x.1 : Int)),(13,vB true),(24,vB true)] fun _ => ?_
    replace hy : ¬ (0 ≤ id ∧ id ≤ (r.l.length : Int) - 1) := fun h => hy (by rw [e22]; exact h)
    rw [if_neg hy] at hc
    exact cxs (Rt ⟨congrArg vI hc.symm,rfl⟩)
   ·replace hy := of_decide_eq_true hy.symm
    refine ⟨_,rfl,?_⟩
    refine Cu lo0 st [(0,vS p t.length),(1,vI id),(5,vI x.2),(6,vI (x.1 : Int)),(13,vB true),(24,vB false)] fun _ => ?_
    replace hy : 0 ≤ id ∧ id ≤ IntKind.wrap .i64 ((r.l.length : Int) - 1) := hy
    rw [e22] at hy
    rw [if_pos hy] at hc
    have ⟨b2,o2,k2,z,hqe,hz,hm2,hc2,hb2⟩ := (hR.2 r hmem).atB (j := id.toNat) (by omega)
    rw [getD_of hz] at hc
    refine cxs ?_
    refine ⟨_,rfl,?_⟩
    rintro (_|_) h2
    ·replace h2 : ¬ ((x.1 : Int) = 0) := beq_eq_false_iff_ne.1 h2
     refine ⟨_,op_idx (j := (x.1 : Int)) (n := t.length) (q := ⟨b1,o1,none⟩) rfl (congrArg (fun u => vS u t.length) hpe) rfl rfl rfl (Int.natCast_nonneg _) h1,?_⟩
     refine ⟨_,op_ldc (i := 0) (v := vS r.p r.l.length) rfl rfl rfl rfl hm1 hc1 rfl rfl,?_⟩
     refine ⟨_,op_idx (j := id) (n := r.l.length) (q := ⟨b2,o2,none⟩) rfl (congrArg (fun u => vS u r.l.length) hqe) rfl rfl rfl hy.1 (by omega),?_⟩
     refine ⟨_,op_ldc (i := 0) (v := vI z) rfl rfl rfl rfl hm2 hc2 rfl rfl,?_⟩
     refine ⟨_,rfl,?_⟩
     rintro (_|_) h3
     ·replace h3 : ¬ (z < x.2) := of_decide_eq_false h3
      refine ⟨_,rfl,?_⟩
      refine Cu lo0 st [(0,vS p t.length),(1,vI id),(5,vI x.2),(6,vI (x.1 : Int)),(13,vB true),(24,vB false),(37,vB false)] fun _ => ?_
      refine cxs ?_
      have e15 : IntKind.wrap .i64 ((x.1 : Int) + 1) = ((x.1 + 1 : Nat) : Int) := (wrap_i64 (by omega) (by omega)).trans (by omega)
      refine ⟨_,rfl,?_⟩
      exact ⟨(x.1 + 1,x.2),t.length - (x.1 + 1),by omega,⟨rfl,rfl,rfl,congrArg (Value.int .i64) e15,trivial⟩,rfl,rfl,h1',by rw [if_neg (fun h => by rcases h with h | h; exact absurd (of_decide_eq_true h) (by omega); exact h3 h)] at hc; exact hc,rfl⟩
     ·replace h3 : z < x.2 := of_decide_eq_true h3
      refine ⟨_,rfl,?_⟩
      refine Cu lo0 st [(0,vS p t.length),(1,vI id),(5,vI x.2),(6,vI (x.1 : Int)),(13,vB true),(24,vB false),(37,vB true)] fun _ => ?_
      refine ⟨_,op_idx (j := (x.1 : Int)) (n := t.length) (q := ⟨b1,o1,none⟩) rfl (congrArg (fun u => vS u t.length) hpe) rfl rfl rfl (Int.natCast_nonneg _) h1,?_⟩
      refine ⟨_,op_ldc (i := 0) (v := vS r.p r.l.length) rfl rfl rfl rfl hm1 hc1 rfl rfl,?_⟩
      refine ⟨_,op_idx (j := id) (n := r.l.length) (q := ⟨b2,o2,none⟩) rfl (congrArg (fun u => vS u r.l.length) hqe) rfl rfl rfl hy.1 (by omega),?_⟩
      refine ⟨_,op_ldc (i := 0) (v := vI z) rfl rfl rfl rfl hm2 hc2 rfl rfl,?_⟩
      refine Cu lo0 st [(0,vS p t.length),(1,vI id),(5,vI z),(6,vI (x.1 : Int)),(13,vB true),(24,vB false),(37,vB true)] fun _ => ?_
      have e15 : IntKind.wrap .i64 ((x.1 : Int) + 1) = ((x.1 + 1 : Nat) : Int) := (wrap_i64 (by omega) (by omega)).trans (by omega)
      refine ⟨_,rfl,?_⟩
      exact ⟨(x.1 + 1,z),t.length - (x.1 + 1),by omega,⟨rfl,rfl,rfl,congrArg (Value.int .i64) e15,trivial⟩,rfl,rfl,h1',by rw [if_pos (.inr h3)] at hc; exact hc,rfl⟩
    ·replace h2 : (x.1 : Int) = 0 := beq_iff_eq.1 h2
     refine ⟨_,rfl,?_⟩
     refine Cu lo0 st [(0,vS p t.length),(1,vI id),(5,vI x.2),(6,vI (x.1 : Int)),(13,vB true),(24,vB false),(37,vB true)] fun _ => ?_
     refine ⟨_,op_idx (j := (x.1 : Int)) (n := t.length) (q := ⟨b1,o1,none⟩) rfl (congrArg (fun u => vS u t.length) hpe) rfl rfl rfl (Int.natCast_nonneg _) h1,?_⟩
     refine ⟨_,op_ldc (i := 0) (v := vS r.p r.l.length) rfl rfl rfl rfl hm1 hc1 rfl rfl,?_⟩
     refine ⟨_,op_idx (j := id) (n := r.l.length) (q := ⟨b2,o2,none⟩) rfl (congrArg (fun u => vS u r.l.length) hqe) rfl rfl rfl hy.1 (by omega),?_⟩
     refine ⟨_,op_ldc (i := 0) (v := vI z) rfl rfl rfl rfl hm2 hc2 rfl rfl,?_⟩
     refine Cu lo0 st [(0,vS p t.length),(1,vI id),(5,vI z),(6,vI (x.1 : Int)),(13,vB true),(24,vB false),(37,vB true)] fun _ => ?_
     have e15 : IntKind.wrap .i64 ((x.1 : Int) + 1) = ((x.1 + 1 : Nat) : Int) := (wrap_i64 (by omega) (by omega)).trans (by omega)
     refine ⟨_,rfl,?_⟩
     exact ⟨(x.1 + 1,z),t.length - (x.1 + 1),by omega,⟨rfl,rfl,rfl,congrArg (Value.int .i64) e15,trivial⟩,rfl,rfl,h1',by rw [if_pos (.inl (decide_eq_true (by omega)))] at hc; exact hc,rfl⟩
 ·replace h0 : (t.length : Int) = 0 := beq_iff_eq.1 h0
  refine Cu lo0 st [(0,vS p t.length),(1,vI id),(4,vI 0),(9,vB true)] fun _ => ?_
  refine cxs ?_
  have : t = [] := List.length_eq_zero_iff.1 (by omega)
  exact Rt ⟨by rw [this]; rfl,rfl⟩
theorem ac_impl_Common (p : Option Addr) (t : List RV) (id : Int) (st : St) (hR : RdT st p t) (hs : szOk t.length) (hr : ∀ r ∈ t,szOk r.l.length) : C 154 [vS p t.length,vI id] st (fun v s => v = vI (common (t.map (·.l)) id) ∧ s = st) := by
 have hs : t.length ≤ 1048576 := hs
 refine AC.enterX (i := ⟨[],[],[0,1,4,5,6,7,8,9,10,11,20,30],[]⟩) [] Tryz.func154 rfl rfl (by kernel_rfl) (by kernel_rfl) Tryz.ntmps154 (Lb rfl) rfl ?_
 refine cxs ?_
 refine Cu lo0 st [(0,vS p t.length),(1,vI id),(4,vI 0),(5,vI 0)] fun _ => ?_
 refine ⟨_,rfl,?_⟩
 refine Cu lo0 st [(0,vS p t.length),(1,vI id),(4,vI 0),(5,vI 0),(8,vS p t.length),(9,vI (t.length)),(10,vI 0)] fun _ => ?_
 refine AW.loop0 (fun x : Nat × Int => [(0,vS p t.length),(1,vI id),(5,vI x.2),(8,vS p t.length),(9,vI (t.length : Int)),(10,vI (x.1 : Int))]) (fun m (x : Nat × Int) st' => m = t.length - x.1 ∧ x.1 ≤ t.length ∧ common (t.map (·.l)) id = commonGo id ((t.drop x.1).map (·.l)) (decide (x.1 = 0)) x.2 ∧ st = st') (0,0) _ ⟨rfl,rfl,rfl,rfl,rfl,rfl,trivial⟩ rfl ⟨rfl,Nat.zero_le _,rfl,rfl⟩ ?_
 rintro m x ρ0 st' ⟨rfl,hi,hc,rfl⟩
 refine ⟨_,rfl,?_⟩
 rintro (_|_) h1
 ·replace h1 : ¬ ((x.1 : Int) < (t.length : Int)) := of_decide_eq_false h1
  refine Cu lo0 st [(0,vS p t.length),(1,vI id),(5,vI x.2),(8,vS p t.length),(9,vI (t.length : Int)),(10,vI (x.1 : Int)),(11,vB false)] fun _ => ?_
  refine cxs ?_
  refine cxs ?_
  have hil : x.1 = t.length := by omega
  rw [hil,List.drop_length] at hc
  exact Rt ⟨congrArg vI hc.symm,rfl⟩
 ·replace h1 : (x.1 : Int) < (t.length : Int) := of_decide_eq_true h1
  refine Cu lo0 st [(0,vS p t.length),(1,vI id),(5,vI x.2),(8,vS p t.length),(9,vI (t.length : Int)),(10,vI (x.1 : Int)),(11,vB true)] fun _ => ?_
  have h1' := Int.ofNat_lt.1 h1
  have ⟨b1,o1,k1,r,hpe,hr1,hm1,hc1,hb1⟩ := hR.1.atB h1'
  have hmem := List.mem_of_getElem? hr1
  have hrs : r.l.length ≤ 1048576 := hr r hmem
  obtain ⟨d1,d2,d3⟩ := split_at hr1
  rw [d3,List.map_cons,commonGo] at hc
  have e18 : IntKind.wrap .i64 ((r.l.length : Int) - 1) = (r.l.length : Int) - 1 := wrap_i64 (by omega) (by omega)
  refine cxs ?_
  refine ⟨_,op_idx (j := (x.1 : Int)) (n := t.length) (q := ⟨b1,o1,none⟩) rfl (congrArg (fun u => vS u t.length) hpe) rfl rfl rfl (Int.natCast_nonneg _) h1,?_⟩
  refine ⟨_,op_ldc (i := 0) (v := vS r.p r.l.length) rfl rfl rfl rfl hm1 hc1 rfl rfl,?_⟩
  refine Cu lo0 st [(0,vS p t.length),(1,vI id),(5,vI x.2),(6,vI (x.1 : Int)),(7,vS r.p r.l.length),(8,vS p t.length),(9,vI (t.length : Int)),(10,vI (x.1 : Int)),(11,vB true)] fun _ => ?_
  iterate 2 refine ⟨_,rfl,?_⟩
  refine ⟨_,rfl,(ac_impl_within id 0 _ st).mono ?_⟩
  rintro _ st ⟨y,rfl,hy,rfl⟩
  rcases y with _|_
  ·replace hy := of_decide_eq_false hy.symm
   refine ⟨_,rfl,?_⟩
   refine Cu lo0 st [(0,vS p t.length),(1,vI id),(5,vI x.2),(6,vI (x.1 : Int)),(7,vS r.p r.l.length),(8,vS p t.length),(9,vI (t.length : Int)),(10,vI (x.1 : Int)),(11,vB true),(20,vB true)] fun _ => ?_
   replace hy : ¬ (0 ≤ id ∧ id ≤ (r.l.length : Int) - 1) := fun h => hy (by rw [e18]; exact h)
   rw [if_neg hy] at hc
   exact cxs (Rt ⟨congrArg vI hc.symm,rfl⟩)
  ·replace hy := of_decide_eq_true hy.symm
   refine ⟨_,rfl,?_⟩
   refine Cu lo0 st [(0,vS p t.length),(1,vI id),(5,vI x.2),(6,vI (x.1 : Int)),(7,vS r.p r.l.length),(8,vS p t.length),(9,vI (t.length : Int)),(10,vI (x.1 : Int)),(11,vB true),(20,vB false)] fun _ => ?_
   replace hy : 0 ≤ id ∧ id ≤ IntKind.wrap .i64 ((r.l.length : Int) - 1) := hy
   rw [e18] at hy
   rw [if_pos hy] at hc
   have ⟨b2,o2,k2,z,hqe,hz,hm2,hc2,hb2⟩ := (hR.2 r hmem).atB (j := id.toNat) (by omega)
   rw [getD_of hz] at hc
   refine cxs ?_
   refine ⟨_,rfl,?_⟩
   rintro (_|_) h2
   ·replace h2 : ¬ ((x.1 : Int) = 0) := beq_eq_false_iff_ne.1 h2
    refine ⟨_,op_idx (j := id) (n := r.l.length) (q := ⟨b2,o2,none⟩) rfl (congrArg (fun u => vS u r.l.length) hqe) rfl rfl rfl hy.1 (by omega),?_⟩
    refine ⟨_,op_ldc (i := 0) (v := vI z) rfl rfl rfl rfl hm2 hc2 rfl rfl,?_⟩
    refine ⟨_,rfl,?_⟩
    rintro (_|_) h3
    ·replace h3 : ¬ (z < x.2) := of_decide_eq_false h3
     refine ⟨_,rfl,?_⟩
     refine Cu lo0 st [(0,vS p t.length),(1,vI id),(5,vI x.2),(6,vI (x.1 : Int)),(7,vS r.p r.l.length),(8,vS p t.length),(9,vI (t.length : Int)),(10,vI (x.1 : Int)),(11,vB true),(20,vB false),(30,vB false)] fun _ => ?_
     refine cxs ?_
     have e35 : IntKind.wrap .i64 ((x.1 : Int) + 1) = ((x.1 + 1 : Nat) : Int) := (wrap_i64 (by omega) (by omega)).trans (by omega)
     refine ⟨_,rfl,?_⟩
     exact ⟨(x.1 + 1,x.2),t.length - (x.1 + 1),by omega,⟨rfl,rfl,rfl,rfl,rfl,congrArg (Value.int .i64) e35,trivial⟩,rfl,rfl,h1',by rw [if_neg (fun h => by rcases h with h | h; exact absurd (of_decide_eq_true h) (by omega); exact h3 h)] at hc; exact hc,rfl⟩
    ·replace h3 : z < x.2 := of_decide_eq_true h3
     refine ⟨_,rfl,?_⟩
     refine Cu lo0 st [(0,vS p t.length),(1,vI id),(5,vI x.2),(6,vI (x.1 : Int)),(7,vS r.p r.l.length),(8,vS p t.length),(9,vI (t.length : Int)),(10,vI (x.1 : Int)),(11,vB true),(20,vB false),(30,vB true)] fun _ => ?_
     refine ⟨_,op_idx (j := id) (n := r.l.length) (q := ⟨b2,o2,none⟩) rfl (congrArg (fun u => vS u r.l.length) hqe) rfl rfl rfl hy.1 (by omega),?_⟩
     refine ⟨_,op_ldc (i := 0) (v := vI z) rfl rfl rfl rfl hm2 hc2 rfl rfl,?_⟩
     refine Cu lo0 st [(0,vS p t.length),(1,vI id),(5,vI z),(6,vI (x.1 : Int)),(7,vS r.p r.l.length),(8,vS p t.length),(9,vI (t.length : Int)),(10,vI (x.1 : Int)),(11,vB true),(20,vB false),(30,vB true)] fun _ => ?_
     have e35 : IntKind.wrap .i64 ((x.1 : Int) + 1) = ((x.1 + 1 : Nat) : Int) := (wrap_i64 (by omega) (by omega)).trans (by omega)
     refine ⟨_,rfl,?_⟩
     exact ⟨(x.1 + 1,z),t.length - (x.1 + 1),by omega,⟨rfl,rfl,rfl,rfl,rfl,congrArg (Value.int .i64) e35,trivial⟩,rfl,rfl,h1',by rw [if_pos (.inr h3)] at hc; exact hc,rfl⟩
   ·replace h2 : (x.1 : Int) = 0 := beq_iff_eq.1 h2
    refine ⟨_,rfl,?_⟩
    refine Cu lo0 st [(0,vS p t.length),(1,vI id),(5,vI x.2),(6,vI (x.1 : Int)),(7,vS r.p r.l.length),(8,vS p t.length),(9,vI (t.length : Int)),(10,vI (x.1 : Int)),(11,vB true),(20,vB false),(30,vB true)] fun _ => ?_
    refine ⟨_,op_idx (j := id) (n := r.l.length) (q := ⟨b2,o2,none⟩) rfl (congrArg (fun u => vS u r.l.length) hqe) rfl rfl rfl hy.1 (by omega),?_⟩
    refine ⟨_,op_ldc (i := 0) (v := vI z) rfl rfl rfl rfl hm2 hc2 rfl rfl,?_⟩
    refine Cu lo0 st [(0,vS p t.length),(1,vI id),(5,vI z),(6,vI (x.1 : Int)),(7,vS r.p r.l.length),(8,vS p t.length),(9,vI (t.length : Int)),(10,vI (x.1 : Int)),(11,vB true),(20,vB false),(30,vB true)] fun _ => ?_
    have e35 : IntKind.wrap .i64 ((x.1 : Int) + 1) = ((x.1 + 1 : Nat) : Int) := (wrap_i64 (by omega) (by omega)).trans (by omega)
    refine ⟨_,rfl,?_⟩
    exact ⟨(x.1 + 1,z),t.length - (x.1 + 1),by omega,⟨rfl,rfl,rfl,rfl,rfl,congrArg (Value.int .i64) e35,trivial⟩,rfl,rfl,h1',by rw [if_pos (.inl (decide_eq_true (by omega)))] at hc; exact hc,rfl⟩
theorem own_one {α : Type} {st : St} {z : Nat} {f : α → List Value} {p : Option Addr} {l : List α} (h0 : 0 < z) (hz : ∀ x,(f x).length = z) (h : OwnP st [pcR z f p l]) : OwnR st z f p l := pc_own h0 hz (h.1 _ (List.mem_singleton_self _))
abbrev pcIs (g : RV) : List Pc := [pcRV g]
theorem OwnP.rdIs {st : St} {g : RV} (h : OwnP st (pcIs g)) : Rows st 1 fI g.p g.l := (own_one Nat.one_pos fI_len h).rows fI_len
structure FV where
 p : Option Addr
 l : List Flr
abbrev pcFV (g : FV) : List Pc := [pcR 2 cFlr g.p g.l]
structure TT where
 p : Option Addr
 t : List RV
abbrev TT.x (g : TT) : List (List Int) := rls g.t
abbrev pcTT (g : TT) : List Pc := pcT g.p g.t
def bigT (x : List (List Int)) : Prop := szOk x.length ∧ ∀ l ∈ x,szOk l.length
theorem bigT_iff {t : List RV} : bigT (rls t) ↔ szOk t.length ∧ ∀ r ∈ t,szOk r.l.length := by
 refine ⟨fun h => ⟨by have := h.1; rwa [List.length_map] at this,fun r hr => h.2 r.l (List.mem_map_of_mem hr)⟩,fun h => ⟨by rw [List.length_map]; exact h.1,fun l hl => ?_⟩⟩
 obtain ⟨r,hr,rfl⟩ := List.mem_map.1 hl
 exact h.2 r hr
end Go.Proofs.YtpnolkhfeliehaaGreat.AM
namespace Go.Proofs.YtpnolkhfeliehaaGreat.AM
open Go Go.Proofs
set_option linter.unusedVariables false
set_option linter.unusedSimpArgs false
def Frs (a b : St) (l : List Pc) : Prop := OwnP b l ∧ NewP a.next l ∧ Pres a b
theorem Frs.join {a b c : St} {l m : List Pc} (h : Frs a b l) (k : Frs b c m) : Frs a c (l ++ m) :=
 ⟨h.1.join k.2.2 k.1 k.2.1,h.2.1.app (k.2.1.le h.2.2.1),h.2.2.trans k.2.2⟩
theorem PrL.inl {a b : List Pc} {st st' : St} (h : PrL (a.map (·.p)) st st') : PrL ((a ++ b).map (·.p)) st st' := h.mono fun p hp => by rw [List.map_append]; exact List.mem_append_left _ hp
theorem PrL.inr {a b : List Pc} {st st' : St} (h : PrL (b.map (·.p)) st st') : PrL ((a ++ b).map (·.p)) st st' := h.mono fun p hp => by rw [List.map_append]; exact List.mem_append_right _ hp
structure Tr where
 leaves : List Int
 root : Int
structure TV extends RV where
 root : Int
abbrev TV.x (t : TV) : Tr := ⟨t.l,t.root⟩
structure Ses where
 peer : Int
 num : Int
 inn : Bool
 age : Int
structure Ris where
 inc : Int
 beat : Int
 tick : Int
abbrev cSess (x : Ses) : List Value := [vI x.peer,vI x.num,vB x.inn,vI x.age]
abbrev cRise (x : Ris) : List Value := [vI x.inc,vI x.beat,vI x.tick]
theorem len_cSess (x : Ses) : (cSess x).length = 4 := rfl
theorem len_cRise (x : Ris) : (cRise x).length = 3 := rfl
def zRis : Ris := ⟨0,0,0⟩
structure SesV where
 p : Option Addr
 l : List Ses
structure RisV where
 p : Option Addr
 l : List Ris
abbrev pcSes (g : SesV) : List Pc := [pcR 4 cSess g.p g.l]
abbrev pcRis (g : RisV) : List Pc := [pcR 3 cRise g.p g.l]
theorem OwnP.rdSes {st : St} {g : SesV} (h : OwnP st (pcSes g)) : Rows st 4 cSess g.p g.l := (own_one (by decide) len_cSess h).rows len_cSess
theorem OwnP.rdRis {st : St} {g : RisV} (h : OwnP st (pcRis g)) : Rows st 3 cRise g.p g.l := (own_one (by decide) len_cRise h).rows len_cRise
structure Mg where
 kind : Int
 frm : Int
 to : Int
 num : Int
 hi : Int
 tree : Tr
 vec : List Int
 leaves : List Int
 part : Sta
 marks : List Flr
structure MV where
 kind : Int
 frm : Int
 to : Int
 num : Int
 hi : Int
 tree : TV
 vec : RV
 leaves : RV
 part : SV
 marks : FV
abbrev MV.x (m : MV) : Mg := ⟨m.kind,m.frm,m.to,m.num,m.hi,m.tree.x,m.vec.l,m.leaves.l,m.part.x,m.marks.l⟩
abbrev cMV (m : MV) : List Value := [vI m.kind,vI m.frm,vI m.to,vI m.num,vI m.hi,vS m.tree.p m.tree.l.length,vI m.tree.root,vS m.vec.p m.vec.l.length,vS m.leaves.p m.leaves.l.length,vS m.part.p m.part.x.items.length,vS m.part.q m.part.x.floors.length,vS m.marks.p m.marks.l.length]
structure RdM (st : St) (m : MV) : Prop where
 tree : Rows st 1 fI m.tree.p m.tree.l
 vec : Rows st 1 fI m.vec.p m.vec.l
 leaves : Rows st 1 fI m.leaves.p m.leaves.l
 part : RdS st m.part
 marks : Rows st 2 cFlr m.marks.p m.marks.l
theorem RdM.pres {st st' : St} {m : MV} (h : RdM st m) (k : Pres st st') : RdM st' m := ⟨k.rows h.tree,k.rows h.vec,k.rows h.leaves,h.part.pres k,k.rows h.marks⟩
abbrev pcMV (m : MV) : List Pc := pcIs m.tree.toRV ++ (pcIs m.vec ++ (pcIs m.leaves ++ (pcS m.part ++ pcFV m.marks)))
structure Nd where
 id : Int
 n : Int
 s : Sta
 t : Tr
 g : Lg
 got : List Int
 acked : List Int
 seen : List (List Int)
 num : Int
 slots : Int
 sess : List Ses
 wait : Int
 limit : Int
 clock : Int
 rises : List Ris
structure NV where
 id : Int
 n : Int
 s : SV
 t : TV
 g : LV
 got : RV
 acked : RV
 seen : TT
 num : Int
 slots : Int
 sess : SesV
 wait : Int
 limit : Int
 clock : Int
 rises : RisV
abbrev NV.x (v : NV) : Nd := ⟨v.id,v.n,v.s.x,v.t.x,v.g.x,v.got.l,v.acked.l,v.seen.x,v.num,v.slots,v.sess.l,v.wait,v.limit,v.clock,v.rises.l⟩
abbrev cNV (v : NV) : List Value := [vI v.id,vI v.n,vS v.s.p v.s.x.items.length,vS v.s.q v.s.x.floors.length,vS v.t.p v.t.l.length,vI v.t.root,vI v.g.cap,vI v.g.frm,vS v.g.p v.g.l.length,vS v.got.p v.got.l.length,vS v.acked.p v.acked.l.length,vS v.seen.p v.seen.t.length,vI v.num,vI v.slots,vS v.sess.p v.sess.l.length,vI v.wait,vI v.limit,vI v.clock,vS v.rises.p v.rises.l.length]
abbrev vNV (v : NV) : Value := .agg #[vI v.id,vI v.n,vS v.s.p v.s.x.items.length,vS v.s.q v.s.x.floors.length,vS v.t.p v.t.l.length,vI v.t.root,vI v.g.cap,vI v.g.frm,vS v.g.p v.g.l.length,vS v.got.p v.got.l.length,vS v.acked.p v.acked.l.length,vS v.seen.p v.seen.t.length,vI v.num,vI v.slots,vS v.sess.p v.sess.l.length,vI v.wait,vI v.limit,vI v.clock,vS v.rises.p v.rises.l.length]
structure NW where
 id : Int
 n : Int
 s : SV
 t : TV
 g : LW
 got : RV
 acked : RV
 seen : TT
 num : Int
 slots : Int
 sess : SesV
 wait : Int
 limit : Int
 clock : Int
 rises : RisV
abbrev NW.v (v : NW) : NV := ⟨v.id,v.n,v.s,v.t,v.g.v,v.got,v.acked,v.seen,v.num,v.slots,v.sess,v.wait,v.limit,v.clock,v.rises⟩
abbrev NW.x (v : NW) : Nd := v.v.x
structure RdN (st : St) (v : NV) : Prop where
 s : RdS st v.s
 t : Rows st 1 fI v.t.p v.t.l
 g : RdL st v.g.p v.g.l
 got : Rows st 1 fI v.got.p v.got.l
 acked : Rows st 1 fI v.acked.p v.acked.l
 seen : RdT st v.seen.p v.seen.t
 sess : Rows st 4 cSess v.sess.p v.sess.l
 rises : Rows st 3 cRise v.rises.p v.rises.l
theorem RdN.pres {st st' : St} {v : NV} (h : RdN st v) (k : Pres st st') : RdN st' v := ⟨h.s.pres k,k.rows h.t,h.g.pres k,k.rows h.got,k.rows h.acked,h.seen.pres k,k.rows h.sess,k.rows h.rises⟩
structure bigN (x : Nd) : Prop where
 s : bigS x.s
 t : szOk x.t.leaves.length
 g : bigLog x.g
 got : szOk x.got.length
 acked : szOk x.acked.length
 seen : bigT x.seen
 sess : szOk x.sess.length
 rises : szOk x.rises.length
abbrev pcNW (v : NW) : List Pc := pcS v.s ++ (pcIs v.t.toRV ++ (pcLog v.g ++ (pcIs v.got ++ (pcIs v.acked ++ (pcTT v.seen ++ (pcSes v.sess ++ pcRis v.rises))))))
theorem OwnP.rdN {st : St} {v : NW} (h : OwnP st (pcNW v)) : RdN st v.v :=
 ⟨h.left.rdS,h.right.left.rdIs,h.right.right.left.rdLog,h.right.right.right.left.rdIs,h.right.right.right.right.left.rdIs,h.right.right.right.right.right.left.rdT,h.right.right.right.right.right.right.left.rdSes,h.right.right.right.right.right.right.right.rdRis⟩
instance : Coe NW NV := ⟨NW.v⟩
abbrev Nv (v : NV) (l : List (Nat × Value)) : List Value := l.foldl (fun a p => a.set p.1 p.2) (cNV v)
end Go.Proofs.YtpnolkhfeliehaaGreat.AM
namespace Go.Proofs.YtpnolkhfeliehaaGreat.AM
open Go Go.Proofs
set_option linter.unusedVariables false
set_option linter.unusedSimpArgs false
set_option maxRecDepth 100000
set_option maxHeartbeats 4000000
def bsl (s : ByteArray) : List Int := s.data.toList.map fun b => (b.toNat : Int)
theorem bsl_len (s : ByteArray) : (bsl s).length = s.size := by rw [bsl,List.length_map,Array.length_toList]; rfl
theorem bsl_ok (s : ByteArray) : bytesOk (bsl s) := fun x hx => by
 obtain ⟨b,_,rfl⟩ := List.mem_map.1 hx
 have := b.toNat_lt
 omega
theorem fb_map : ∀ l : List UInt8,(l.map fun b => (b.toNat : Int)).flatMap fB = l.map fun b => Value.int .u8 b.toNat
 | [] => rfl
 | b :: l => by rw [List.map_cons,List.flatMap_cons,fb_map l]; rfl
section
variable {P : Program} {ls : List Tmp} {call : ACallT} {o : Oper} {e : Operand → Value} {lo : Lo} {st : St} {K : Value × Lo × St → Prop}
theorem op_bytes {src dst el : TypeId} {x : Operand} {s : ByteArray} (ho : o.op = .convert src dst x) (hx : e x = .string s) (hd : telem P dst = some el) (h1 : tint P el = some .u8) (h2 : tstr P src = true) (hs : s.size ≤ maxLen)
  (hK : ∀ q st',OwnR st' 1 fB q (bsl s) → Pres st st' → New st.next q → K (.slice q (bsl s).length (bsl s).length,lo,st')) : ∃ r,aoper P ls call o e lo st = some r ∧ K r := by
 obtain ⟨d,op,ty,pos,after,gd⟩ := o
 simp only at ho
 subst ho
 refine ⟨_,?_,hK (some ⟨st.next,0,none⟩) (st.push 1 ((bsl s).flatMap fB)) OwnR.push Pres.push New.self⟩
 simp only [aoper,hd,abytesOf,hx]
 rw [if_pos ⟨h1,h2,hs⟩,bsl_len,show (bsl s).flatMap fB = s.data.toList.map (fun b => Value.int .u8 b.toNat) from fb_map _]
theorem op_litR {t el : TypeId} {n : Nat} {ps : Array (Nat × Operand)} {u : Value} (l : List RV) (ho : o.op = .buildSlice t n ps) (hp : parts e ps = mkp 0 (l.map fun r => vS r.p r.l.length)) (hn : n = l.length) (h0 : 0 < n) (he : telem P t = some el) (hz : tsize P el = some 1) (hz0 : tzero P el = some [u]) (hsz : n ≤ 16777216)
  (hK : ∀ q st',OwnR st' 1 cRV q l → Pres st st' → New st.next q → K (.slice q n n,lo,st')) : ∃ r,aoper P ls call o e lo st = some r ∧ K r := by
 refine op_lit ho hp (by rw [hn,List.length_map]) h0 he hz hz0 Nat.one_pos rfl (by omega) (fun v hv => ?_) ?_
 ·obtain ⟨r,_,rfl⟩ := List.mem_map.1 hv
  exact ⟨rfl,rfl⟩
 ·rw [show (l.map fun r => vS r.p r.l.length).flatMap (fun v => v.cells.toList) = l.flatMap cRV by rw [List.flatMap_map]; rfl]
  exact hK _ _ OwnR.push Pres.push New.self
end
def putS (s : ByteArray) : List Int := putN s.size ++ bsl s
theorem putS_len (s : ByteArray) : (putS s).length ≤ 5 + s.size := by
 have := putN_len s.size
 rw [putS,List.length_append,bsl_len]
 omega
theorem putS_ok (s : ByteArray) : bytesOk (putS s) := (putN_ok _).app (bsl_ok s)
theorem cat_new {st0 st : St} {p q : Option Addr} {A B : Prop} {m : Nat} (hP : Pres st0 st) (hN : New st0.next p) (h : (q = p ∧ A ∧ B) ∨ (0 < m ∧ New st.next q)) : New st0.next q := by
 rcases h with ⟨h,_⟩ | ⟨_,h⟩
 ·rw [h]; exact hN
 ·exact h.le hP.1
theorem ac_spec_PutText (s : ByteArray) (st : St) (hs : s.size ≤ 1048576) : C 234 [.string s] st (fun v s' => ∃ q,v = vS q (putS s).length ∧ OwnR s' 1 fB q (putS s) ∧ New st.next q ∧ Pres st s') := by
 have hsl := bsl_len s
 have hpl := putN_len s.size
 refine AC.enterX (i := ⟨[],[],[0,2],[]⟩) [] Tryz.func234 rfl rfl (by kernel_rfl) (by kernel_rfl) Tryz.ntmps234 (Lb rfl) rfl ?_
 refine Cu lo0 st [(0,.string s),(2,Sn)] fun _ => ?_
 refine ⟨_,rfl,?_⟩
 refine ⟨_,rfl,(ac_spec_PutNum (s.size : Int) st).mono ?_⟩
 rintro _ s5 ⟨q5,rfl,hO5,hN5,hP5⟩
 refine op_bytes (s := s) rfl rfl rfl rfl rfl (by unfold maxLen; omega) ?_
 intro q7 s7 hO7 hP7 hN7
 refine op_cat' (z := 1) (st := s7) (f := fB) (b := 1) (l := putN (s.size : Int)) (l2 := bsl s) rfl rfl rfl rfl rfl rfl rfl (by decide) fB_len rfl rfl rfl rfl (by first | omega | (simp only [List.length_nil]; omega)) (by unfold maxLen; first | omega | (simp only [List.length_nil]; omega)) (hP7.ownR hO5) (hO7.rows fB_len) ?_
 intro q8 s8 hO8 hPr8 hN8
 exact cxs (Rt ⟨q8,rfl,hO8,cat_new (hP5.trans hP7) hN5 hN8,hPr8.pres (hP5.trans hP7) hN5⟩)
theorem ac_impl_PutText (s : ByteArray) (st : St) (hs : s.size ≤ 1048576) : C 229 [.string s] st (fun v s' => ∃ q,v = vS q (putS s).length ∧ OwnR s' 1 fB q (putS s) ∧ New st.next q ∧ Pres st s') := by
 have hsl := bsl_len s
 have hpl := putN_len s.size
 have hf : fl [⟨none,putN s.size⟩,⟨none,bsl s⟩] = putS s := by simp [fl,putS]
 refine AC.enterX (i := ⟨[],[],[0,2],[]⟩) [] Tryz.func229 rfl rfl (by kernel_rfl) (by kernel_rfl) Tryz.ntmps229 (Lb rfl) rfl ?_
 refine Cu lo0 st [(0,.string s),(2,Sn)] fun _ => ?_
 refine ⟨_,rfl,?_⟩
 refine ⟨_,rfl,(ac_impl_PutNum (s.size : Int) st).mono ?_⟩
 rintro _ s5 ⟨q5,rfl,hO5,hN5,hP5⟩
 refine op_bytes (s := s) rfl rfl rfl rfl rfl (by unfold maxLen; omega) ?_
 intro q7 s7 hO7 hP7 hN7
 refine op_litR [⟨q5,putN s.size⟩,⟨q7,bsl s⟩] rfl rfl rfl (by decide) rfl rfl rfl (by decide) ?_
 intro q8 s8 hO8 hP8 hN8
 refine ⟨_,rfl,(ac_impl_joined q8 [⟨q5,putN s.size⟩,⟨q7,bsl s⟩] s8 (hO8.rows cRV_len) (fun r hr => by
  rcases List.mem_cons.1 hr with rfl | hr
  ·exact (hP7.trans hP8).rows (hO5.rows fB_len)
  ·rw [List.mem_singleton.1 hr]; exact hP8.rows (hO7.rows fB_len)) (by show (2 : Nat) ≤ 1048576; omega) (by show (fl [⟨none,putN s.size⟩,⟨none,bsl s⟩]).length ≤ _; rw [hf]; have := putS_len s; omega)).mono ?_⟩
 rintro _ s9 ⟨q9,rfl,hO9,hN9,hP9⟩
 exact cxs (Rt ⟨q9,by first | rfl | exact congrArg (fun n => vS q9 n) (congrArg List.length hf),hf ▸ hO9,hN9.le ((hP5.trans hP7).trans hP8).1,((hP5.trans hP7).trans hP8).trans hP9⟩)
def leafOf (id : Int) : Int := if 0 ≤ id ∧ id ≤ 4 then crc (putN id) % 4 else -1
theorem ac_spec_LeafOf (id : Int) (st : St) : C 236 [vI id] st (fun v s => v = vI (leafOf id) ∧ Pres st s) := by
 refine AC.enterX (i := ⟨[],[],[0,2,5],[]⟩) [] Tryz.func236 rfl rfl (by kernel_rfl) (by kernel_rfl) Tryz.ntmps236 (Lb rfl) rfl ?_
 refine Cu lo0 st [(0,vI id),(2,vI 0)] fun _ => ?_
 refine ⟨_,rfl,(ac_spec_l3Node id st).mono ?_⟩
 rintro _ st ⟨x4,rfl,h4,rfl⟩
 rcases x4 with _|_
 ·replace h4 := of_decide_eq_false h4.symm
  refine ⟨_,rfl,?_⟩
  refine Cu lo0 st [(0,vI id),(2,vI 0),(5,vB true)] fun _ => ?_
  exact cxs (Rt ⟨congrArg vI (by rw [leafOf,if_neg h4]),Pres.refl _⟩)
 ·replace h4 := of_decide_eq_true h4.symm
  refine ⟨_,rfl,?_⟩
  refine Cu lo0 st [(0,vI id),(2,vI 0),(5,vB false)] fun _ => ?_
  refine cxs ?_
  refine ⟨_,rfl,(ac_spec_PutNum id st).mono ?_⟩
  rintro _ s7 ⟨q7,rfl,hO7,hN7,hP7⟩
  have hpl := putN_len id
  have hc0 := (crc_rng (putN_ok id)).1
  refine ⟨_,rfl,(ac_spec_Crc q7 (putN id) s7 (hO7.rows fB_len) (putN_ok id) (by omega)).mono ?_⟩
  rintro _ s7 ⟨rfl,rfl⟩
  refine ⟨_,op_rm (r := crc (putN id) % 4) rfl rfl rfl (by decide) (tm_emod 4 hc0),?_⟩
  exact cxs (Rt ⟨congrArg vI (by rw [leafOf,if_pos h4]),hP7⟩)
theorem ac_impl_LeafOf (id : Int) (st : St) : C 231 [vI id] st (fun v s => v = vI (leafOf id) ∧ Pres st s) := by
 refine AC.enterX (i := ⟨[],[],[0,2,5],[]⟩) [] Tryz.func231 rfl rfl (by kernel_rfl) (by kernel_rfl) Tryz.ntmps231 (Lb rfl) rfl ?_
 refine Cu lo0 st [(0,vI id),(2,vI 0)] fun _ => ?_
 refine ⟨_,rfl,(ac_impl_isNode id st).mono ?_⟩
 rintro _ st ⟨x4,rfl,h4,rfl⟩
 rcases x4 with _|_
 ·replace h4 := of_decide_eq_false h4.symm
  refine ⟨_,rfl,?_⟩
  refine Cu lo0 st [(0,vI id),(2,vI 0),(5,vB true)] fun _ => ?_
  exact cxs (Rt ⟨congrArg vI (by rw [leafOf,if_neg h4]),Pres.refl _⟩)
 ·replace h4 := of_decide_eq_true h4.symm
  refine ⟨_,rfl,?_⟩
  refine Cu lo0 st [(0,vI id),(2,vI 0),(5,vB false)] fun _ => ?_
  refine cxs ?_
  refine ⟨_,rfl,(ac_impl_PutNum id st).mono ?_⟩
  rintro _ s7 ⟨q7,rfl,hO7,hN7,hP7⟩
  have hpl := putN_len id
  have hc0 := (crc_rng (putN_ok id)).1
  refine ⟨_,rfl,(ac_impl_Crc q7 (putN id) s7 (hO7.rows fB_len) (putN_ok id) (by omega)).mono ?_⟩
  rintro _ s7 ⟨rfl,rfl⟩
  refine ⟨_,op_rm (r := crc (putN id) % 4) rfl rfl rfl (by decide) (tm_emod 4 hc0),?_⟩
  exact cxs (Rt ⟨congrArg vI (by rw [leafOf,if_pos h4]),hP7⟩)
theorem ac_spec_l1Has (p : Option Addr) (l : List Int) (y : Int) (st : St) (hR : Rows st 1 fI p l) (hs : szOk l.length) : C 235 [vS p l.length,vI y] st (fun v s => ∃ x,v = .bool x ∧ (x = true ↔ y ∈ l) ∧ s = st) := by
 have hs : l.length ≤ 1048576 := hs
 refine AC.enterX (i := ⟨[],[],[0,1,4,5,9,17],[]⟩) [] Tryz.func235 rfl rfl (by kernel_rfl) (by kernel_rfl) Tryz.ntmps235 (Lb rfl) rfl ?_
 refine cxs ?_
 refine Cu lo0 st [(0,vS p l.length),(1,vI y),(4,vB false),(5,vI 0)] fun _ => ?_
 refine AW.loop0 (fun i : Nat => [(0,vS p l.length),(1,vI y),(5,vI (i : Int))]) (fun m (i : Nat) st' => m = l.length - i ∧ i ≤ l.length ∧ (∀ (j : Nat) x,j < i → l[j]? = some x → ¬ x = y) ∧ st = st') 0 _ ⟨rfl,rfl,rfl,trivial⟩ rfl ⟨rfl,Nat.zero_le _,fun j x h => absurd h (Nat.not_lt_zero _),rfl⟩ ?_
 rintro m i ρ0 st' ⟨rfl,hi,hok,rfl⟩
 iterate 2 refine ⟨_,rfl,?_⟩
 rintro (_|_) h9
 ·replace h9 : ¬ ((i : Int) < (l.length : Int)) := of_decide_eq_false h9
  refine Cu lo0 st [(0,vS p l.length),(1,vI y),(5,vI (i : Int)),(9,vB false)] fun _ => ?_
  refine cxs ?_
  exact cxs (Rt ⟨false,rfl,⟨fun h => absurd h Bool.false_ne_true,fun h => (show False from (by obtain ⟨j,hj⟩ := List.getElem?_of_mem h; exact hok j y (by have := (List.getElem?_eq_some_iff.1 hj).1; omega) hj rfl)).elim⟩,rfl⟩)
 ·replace h9 : (i : Int) < (l.length : Int) := of_decide_eq_true h9
  refine Cu lo0 st [(0,vS p l.length),(1,vI y),(5,vI (i : Int)),(9,vB true)] fun _ => ?_
  refine cxs ?_
  refine op_at i hR (by omega) rfl rfl rfl rfl rfl rfl rfl ?_
  intro x14 b14 d14 k14 hy14 hb14 hm14 hc14 ho14
  refine ⟨_,op_ldc (i := 0) rfl rfl rfl rfl hm14 hc14 rfl rfl,?_⟩
  refine ⟨_,rfl,?_⟩
  rintro (_|_) h17
  ·replace h17 : ¬ (x14 = y) := beq_eq_false_iff_ne.1 h17
   refine Cu lo0 st [(0,vS p l.length),(1,vI y),(5,vI (i : Int)),(9,vB true),(17,vB false)] fun _ => ?_
   refine cxs ?_
   have ew11 : IntKind.wrap .i64 ((i : Int) + (1)) = ((i + 1 : Nat) : Int) := (wrap_i64 (by omega) (by omega)).trans (by omega)
   refine ⟨_,rfl,?_⟩
   refine ⟨i + 1,l.length - (i + 1),by omega,⟨rfl,rfl,congrArg (Value.int .i64) ew11,trivial⟩,rfl,rfl,by omega,fun j x hj hx => ?_,rfl⟩
   rcases Nat.lt_or_ge j i with h | h
   ·exact hok j x h hx
   ·obtain rfl : j = i := by omega
    rw [hy14] at hx; injection hx with hx; rw [← hx]; exact h17
  ·replace h17 : x14 = y := beq_iff_eq.1 h17
   refine Cu lo0 st [(0,vS p l.length),(1,vI y),(5,vI (i : Int)),(9,vB true),(17,vB true)] fun _ => ?_
   exact cxs (Rt ⟨true,rfl,⟨fun _ => h17 ▸ List.mem_of_getElem? hy14,fun _ => rfl⟩,rfl⟩)
theorem ac_slices_Index_Int (p : Option Addr) (l : List Int) (y : Int) (st : St) (hR : Rows st 1 fI p l) (hs : szOk l.length) : C 243 [vS p l.length,vI y] st (fun v s => ∃ i,v = vI i ∧ (0 ≤ i ↔ y ∈ l) ∧ s = st) := by
 have hs : l.length ≤ 1048576 := hs
 refine AC.enterX (i := ⟨[],[],[0,1,4,5,7,8,9,16],[]⟩) [] Tryz.func243 rfl rfl (by kernel_rfl) (by kernel_rfl) Tryz.ntmps243 (Lb rfl) rfl ?_
 refine Cu lo0 st [(0,vS p l.length),(1,vI y),(4,vI 0)] fun _ => ?_
 refine ⟨_,rfl,?_⟩
 refine Cu lo0 st [(0,vS p l.length),(1,vI y),(4,vI 0),(7,vI (l.length : Int)),(8,vI 0)] fun _ => ?_
 refine AW.loop0 (fun i : Nat => [(0,vS p l.length),(1,vI y),(7,vI (l.length : Int)),(8,vI (i : Int))]) (fun m (i : Nat) st' => m = l.length - i ∧ i ≤ l.length ∧ (∀ (j : Nat) x,j < i → l[j]? = some x → ¬ y = x) ∧ st = st') 0 _ ⟨rfl,rfl,rfl,rfl,trivial⟩ rfl ⟨rfl,Nat.zero_le _,fun j x h => absurd h (Nat.not_lt_zero _),rfl⟩ ?_
 rintro m i ρ0 st' ⟨rfl,hi,hok,rfl⟩
 refine ⟨_,rfl,?_⟩
 rintro (_|_) h9
 ·replace h9 : ¬ ((i : Int) < (l.length : Int)) := of_decide_eq_false h9
  refine Cu lo0 st [(0,vS p l.length),(1,vI y),(7,vI (l.length : Int)),(8,vI (i : Int)),(9,vB false)] fun _ => ?_
  refine cxs ?_
  exact cxs (Rt ⟨-1,rfl,⟨fun h => absurd h (by decide),fun h => by obtain ⟨j,hj⟩ := List.getElem?_of_mem h; exact absurd rfl (hok j y (by have := (List.getElem?_eq_some_iff.1 hj).1; omega) hj)⟩,rfl⟩)
 ·replace h9 : (i : Int) < (l.length : Int) := of_decide_eq_true h9
  refine Cu lo0 st [(0,vS p l.length),(1,vI y),(7,vI (l.length : Int)),(8,vI (i : Int)),(9,vB true)] fun _ => ?_
  refine cxs ?_
  refine Cu lo0 st [(0,vS p l.length),(1,vI y),(5,vI (i : Int)),(7,vI (l.length : Int)),(8,vI (i : Int)),(9,vB true)] fun _ => ?_
  refine op_at i hR (by omega) rfl rfl rfl rfl rfl rfl rfl ?_
  intro x14 b14 d14 k14 hy14 hb14 hm14 hc14 ho14
  refine ⟨_,op_ldc (i := 0) rfl rfl rfl rfl hm14 hc14 rfl rfl,?_⟩
  refine ⟨_,rfl,?_⟩
  rintro (_|_) h16
  ·replace h16 : ¬ (y = x14) := beq_eq_false_iff_ne.1 h16
   refine Cu lo0 st [(0,vS p l.length),(1,vI y),(5,vI (i : Int)),(7,vI (l.length : Int)),(8,vI (i : Int)),(9,vB true),(16,vB false)] fun _ => ?_
   refine cxs ?_
   have ew18 : IntKind.wrap .i64 ((i : Int) + (1)) = ((i + 1 : Nat) : Int) := (wrap_i64 (by omega) (by omega)).trans (by omega)
   refine ⟨_,rfl,?_⟩
   refine ⟨i + 1,l.length - (i + 1),by omega,⟨rfl,rfl,rfl,congrArg (Value.int .i64) ew18,trivial⟩,rfl,rfl,by omega,fun j x hj hx => ?_,rfl⟩
   rcases Nat.lt_or_ge j i with h | h
   ·exact hok j x h hx
   ·obtain rfl : j = i := by omega
    rw [hy14] at hx; injection hx with hx; rw [← hx]; exact h16
  ·replace h16 : y = x14 := beq_iff_eq.1 h16
   refine Cu lo0 st [(0,vS p l.length),(1,vI y),(5,vI (i : Int)),(7,vI (l.length : Int)),(8,vI (i : Int)),(9,vB true),(16,vB true)] fun _ => ?_
   exact cxs (Rt ⟨(i : Int),rfl,⟨fun _ => h16 ▸ List.mem_of_getElem? hy14,fun _ => by omega⟩,rfl⟩)
theorem ac_slices_Contains_Int (p : Option Addr) (l : List Int) (y : Int) (st : St) (hR : Rows st 1 fI p l) (hs : szOk l.length) : C 230 [vS p l.length,vI y] st (fun v s => ∃ x,v = .bool x ∧ (x = true ↔ y ∈ l) ∧ s = st) := by
 refine AC.enterX (i := ⟨[],[],[0,1,4],[]⟩) [] Tryz.func230 rfl rfl (by kernel_rfl) (by kernel_rfl) Tryz.ntmps230 (Lb rfl) rfl ?_
 refine Cu lo0 st [(0,vS p l.length),(1,vI y),(4,vB false)] fun _ => ?_
 refine ⟨_,rfl,(ac_slices_Index_Int p l y st hR hs).mono ?_⟩
 rintro _ st ⟨i,rfl,hi,rfl⟩
 refine ⟨_,rfl,?_⟩
 rintro (_|_) h8
 ·replace h8 : ¬ (i ≥ (0)) := of_decide_eq_false h8
  exact cxs (Rt ⟨false,rfl,⟨fun h => absurd h Bool.false_ne_true,fun h => (show False from (h8 (hi.2 h))).elim⟩,rfl⟩)
 ·replace h8 : i ≥ (0) := of_decide_eq_true h8
  exact cxs (Rt ⟨true,rfl,⟨fun _ => hi.1 h8,fun _ => rfl⟩,rfl⟩)
def numsB (l : List Int) : List Int := l.flatMap putN
theorem numsB_succ {l : List Int} {i : Nat} {x : Int} (h : l[i]? = some x) : numsB (l.take (i + 1)) = numsB (l.take i) ++ putN x := by
 unfold numsB
 rw [List.take_add_one,h,List.flatMap_append]
 simp
theorem numsB_len : ∀ l : List Int,(numsB l).length ≤ 5 * l.length
 | [] => Nat.le_refl _
 | x :: l => by
  have h1 := numsB_len l
  have h2 := putN_len x
  rw [show numsB (x :: l) = putN x ++ numsB l from List.flatMap_cons,List.length_append,List.length_cons]
  omega
theorem numsB_ok (l : List Int) : bytesOk (numsB l) := fun x hx => by
 obtain ⟨y,_,hy⟩ := List.mem_flatMap.1 hx
 exact putN_ok y x hy
def rootF (l : List Int) : Int := crc (numsB l) % 1024
theorem ac_spec_l6Root (p : Option Addr) (l : List Int) (st : St) (hR : Rows st 1 fI p l) (hs : szOk l.length) : C 168 [vS p l.length] st (fun v s => v = vI (rootF l) ∧ Pres st s) := by
 have hs : l.length ≤ 1048576 := hs
 refine AC.enterX (i := ⟨[],[],[0,2,3,4,9],[]⟩) [] Tryz.func168 rfl rfl (by kernel_rfl) (by kernel_rfl) Tryz.ntmps168 (Lb rfl) rfl ?_
 refine Cu lo0 st [(0,vS p l.length),(2,vI 0)] fun _ => ?_
 refine op_nilK (z := 1) (f := fB) rfl rfl rfl rfl (by decide) rfl ?_
 intro q5 s5 hO5 hP5 hN5
 refine cxs ?_
 refine Cu lo0 s5 [(0,vS p l.length),(2,vI 0),(3,vS q5 0),(4,vI 0)] fun _ => ?_
 refine AW.loop0 (fun x : Nat × Option Addr × List Int => [(0,vS p l.length),(2,vI (0)),(3,vS x.2.1 x.2.2.length),(4,vI (x.1 : Int))]) (fun m (x : Nat × Option Addr × List Int) st' => m = l.length - x.1 ∧ x.1 ≤ l.length ∧ x.2.2 = numsB (l.take x.1) ∧ OwnR st' 1 fB x.2.1 x.2.2 ∧ New st.next x.2.1 ∧ Pres st st') (0,q5,[]) _ ⟨rfl,rfl,rfl,rfl,trivial⟩ rfl ⟨rfl,Nat.zero_le _,rfl,hO5,hN5,hP5⟩ ?_
 rintro m ⟨i,q,b⟩ ρ0 st' ⟨rfl,hi,hv,hO,hN,hP⟩
 simp only at hi hv hO hN
 have hbl : b.length ≤ 5 * l.length := by rw [hv]; have := numsB_len (l.take i); rw [List.length_take] at this; omega
 iterate 2 refine ⟨_,rfl,?_⟩
 rintro (_|_) h9
 ·replace h9 : ¬ ((i : Int) < (l.length : Int)) := of_decide_eq_false h9
  refine Cu lo0 st' [(0,vS p l.length),(2,vI 0),(3,vS q b.length),(4,vI (i : Int)),(9,vB false)] fun _ => ?_
  have hbe : b = numsB l := by rw [hv,show i = l.length by omega,List.take_length]
  refine cxs ?_
  refine ⟨_,rfl,(ac_spec_Crc q b st' (hO.rows fB_len) (hbe ▸ numsB_ok l) (by omega)).mono ?_⟩
  rintro _ st' ⟨rfl,rfl⟩
  have hc0 : 0 ≤ crc b := (crc_rng (hbe ▸ numsB_ok l)).1
  refine ⟨_,op_rm (r := crc b % 1024) rfl rfl rfl (by decide) (tm_emod 1024 hc0),?_⟩
  exact cxs (Rt ⟨congrArg vI (by rw [rootF,hbe]),hP⟩)
 ·replace h9 : (i : Int) < (l.length : Int) := of_decide_eq_true h9
  refine Cu lo0 st' [(0,vS p l.length),(2,vI 0),(3,vS q b.length),(4,vI (i : Int)),(9,vB true)] fun _ => ?_
  refine cxs ?_
  refine op_at i (hP.rows hR) (by omega) rfl rfl rfl rfl rfl rfl rfl ?_
  intro x15 b15 d15 k15 hy15 hb15 hm15 hc15 ho15
  have hRs := hP.rows hR
  refine ⟨_,op_ldc (i := 0) rfl rfl rfl rfl hm15 hc15 rfl rfl,?_⟩
  have hpl := putN_len x15
  refine ⟨_,rfl,(ac_spec_PutNum x15 st').mono ?_⟩
  rintro _ s17 ⟨q17,rfl,hO17,hN17,hP17⟩
  refine op_cat' (z := 1) (st := s17) (f := fB) (b := 1) (l := b) (l2 := putN x15) rfl rfl rfl rfl rfl rfl rfl (by decide) fB_len rfl rfl rfl rfl (by first | omega | (simp only [List.length_nil]; omega)) (by unfold maxLen; first | omega | (simp only [List.length_nil]; omega)) (hP17.ownR hO) (hO17.rows fB_len) ?_
  intro q18 s18 hO18 hPr18 hN18
  refine Cu lo0 s18 [(0,vS p l.length),(2,vI 0),(3,vS q18 (b ++ (putN x15)).length),(4,vI (i : Int)),(9,vB true)] fun _ => ?_
  have ew11 : IntKind.wrap .i64 ((i : Int) + (1)) = ((i + 1 : Nat) : Int) := (wrap_i64 (by omega) (by omega)).trans (by omega)
  refine ⟨_,rfl,?_⟩
  exact ⟨(i + 1,q18,b ++ putN x15),l.length - (i + 1),by omega,⟨rfl,rfl,rfl,congrArg (Value.int .i64) ew11,trivial⟩,rfl,rfl,by simp only; omega,by rw [numsB_succ hy15,← hv],hO18,cat_new (hP.trans hP17) hN hN18,hPr18.pres (hP.trans hP17) hN⟩
theorem ac_impl_rootOf (p : Option Addr) (l : List Int) (st : St) (hR : Rows st 1 fI p l) (hs : szOk l.length) : C 156 [vS p l.length] st (fun v s => v = vI (rootF l) ∧ Pres st s) := by
 have hs : l.length ≤ 1048576 := hs
 refine AC.enterX (i := ⟨[],[],[0,2,3,5,7,8,9,10],[]⟩) [] Tryz.func156 rfl rfl (by kernel_rfl) (by kernel_rfl) Tryz.ntmps156 (Lb rfl) rfl ?_
 refine Cu lo0 st [(0,vS p l.length),(2,vI 0)] fun _ => ?_
 refine op_nilK (z := 1) (f := fB) rfl rfl rfl rfl (by decide) rfl ?_
 intro q6 s6 hO6 hP6 hN6
 refine Cu lo0 s6 [(0,vS p l.length),(2,vI 0),(3,vS q6 0)] fun _ => ?_
 refine ⟨_,rfl,?_⟩
 refine Cu lo0 s6 [(2,vI 0),(3,vS q6 0),(7,vS p l.length),(8,vI (l.length : Int)),(9,vI 0)] fun _ => ?_
 refine AW.loop0 (fun x : Nat × Option Addr × List Int => [(2,vI (0)),(3,vS x.2.1 x.2.2.length),(7,vS p l.length),(8,vI (l.length : Int)),(9,vI (x.1 : Int))]) (fun m (x : Nat × Option Addr × List Int) st' => m = l.length - x.1 ∧ x.1 ≤ l.length ∧ x.2.2 = numsB (l.take x.1) ∧ OwnR st' 1 fB x.2.1 x.2.2 ∧ New st.next x.2.1 ∧ Pres st st') (0,q6,[]) _ ⟨rfl,rfl,rfl,rfl,rfl,trivial⟩ rfl ⟨rfl,Nat.zero_le _,rfl,hO6,hN6,hP6⟩ ?_
 rintro m ⟨i,q,b⟩ ρ0 st' ⟨rfl,hi,hv,hO,hN,hP⟩
 simp only at hi hv hO hN
 have hbl : b.length ≤ 5 * l.length := by rw [hv]; have := numsB_len (l.take i); rw [List.length_take] at this; omega
 refine ⟨_,rfl,?_⟩
 rintro (_|_) h10
 ·replace h10 : ¬ ((i : Int) < (l.length : Int)) := of_decide_eq_false h10
  refine Cu lo0 st' [(2,vI 0),(3,vS q b.length),(7,vS p l.length),(8,vI (l.length : Int)),(9,vI (i : Int)),(10,vB false)] fun _ => ?_
  have hbe : b = numsB l := by rw [hv,show i = l.length by omega,List.take_length]
  refine cxs ?_
  refine ⟨_,rfl,(ac_impl_Crc q b st' (hO.rows fB_len) (hbe ▸ numsB_ok l) (by omega)).mono ?_⟩
  rintro _ st' ⟨rfl,rfl⟩
  have hc0 : 0 ≤ crc b := (crc_rng (hbe ▸ numsB_ok l)).1
  refine ⟨_,op_rm (r := crc b % 1024) rfl rfl rfl (by decide) (tm_emod 1024 hc0),?_⟩
  exact cxs (Rt ⟨congrArg vI (by rw [rootF,hbe]),hP⟩)
 ·replace h10 : (i : Int) < (l.length : Int) := of_decide_eq_true h10
  refine Cu lo0 st' [(2,vI 0),(3,vS q b.length),(7,vS p l.length),(8,vI (l.length : Int)),(9,vI (i : Int)),(10,vB true)] fun _ => ?_
  refine cxs ?_
  have hRs := hP.rows hR
  refine op_at i hRs (by omega) rfl rfl rfl rfl rfl rfl rfl ?_
  intro x11 b11 d11 k11 hy11 hb11 hm11 hc11 ho11
  refine ⟨_,op_ldc (i := 0) rfl rfl rfl rfl hm11 hc11 rfl rfl,?_⟩
  refine Cu lo0 st' [(2,vI 0),(3,vS q b.length),(5,vI x11),(7,vS p l.length),(8,vI (l.length : Int)),(9,vI (i : Int)),(10,vB true)] fun _ => ?_
  have hpl := putN_len x11
  have hfl : fl [⟨q,b⟩,⟨none,putN x11⟩] = b ++ putN x11 := by simp [fl]
  refine ⟨_,rfl,(ac_impl_PutNum x11 st').mono ?_⟩
  rintro _ s15 ⟨q15,rfl,hO15,hN15,hP15⟩
  refine op_litR [⟨q,b⟩,⟨q15,putN x11⟩] rfl rfl rfl (by decide) rfl rfl rfl (by decide) ?_
  intro q16 s16 hO16 hP16 hN16
  refine ⟨_,rfl,(ac_impl_joined q16 [⟨q,b⟩,⟨q15,putN x11⟩] s16 (hO16.rows cRV_len) (fun r hr => by
  rcases List.mem_cons.1 hr with rfl | hr
  ·exact (hP15.trans hP16).rows (hO.rows fB_len)
  ·rw [List.mem_singleton.1 hr]; exact hP16.rows (hO15.rows fB_len)) (by show (2 : Nat) ≤ 1048576; omega) (by show (fl [⟨q,b⟩,⟨none,putN x11⟩]).length ≤ _; rw [hfl,List.length_append]; omega)).mono ?_⟩
  rintro _ s17 ⟨q17,rfl,hO17,hN17,hP17⟩
  refine Cu lo0 s17 [(2,vI 0),(3,vS q17 (fl [⟨q,b⟩,⟨q15,putN x11⟩]).length),(5,vI x11),(7,vS p l.length),(8,vI (l.length : Int)),(9,vI (i : Int)),(10,vB true)] fun _ => ?_
  have ew18 : IntKind.wrap .i64 ((i : Int) + (1)) = ((i + 1 : Nat) : Int) := (wrap_i64 (by omega) (by omega)).trans (by omega)
  refine ⟨_,rfl,?_⟩
  exact ⟨(i + 1,q17,fl [⟨q,b⟩,⟨q15,putN x11⟩]),l.length - (i + 1),by omega,⟨rfl,rfl,rfl,rfl,congrArg (Value.int .i64) ew18,trivial⟩,rfl,rfl,by simp only; omega,by rw [numsB_succ hy11,← hv]; exact hfl,hO17,hN17.le (((hP.trans hP15).trans hP16)).1,((hP.trans hP15).trans hP16).trans hP17⟩
theorem ac_copyInts (p : Option Addr) (l : List Int) (st : St) (hR : Rows st 1 fI p l) (hs : szOk l.length) : C 149 [vS p l.length] st (fun v s => ∃ q,v = vS q l.length ∧ OwnR s 1 fI q l ∧ New st.next q ∧ Pres st s) := by
 refine (ac_impl_copyInts p l st hR.ints (Nat.lt_of_le_of_lt hs (by decide))).mono ?_
 rintro _ s ⟨q,rfl,hO,hP,hN⟩
 exact ⟨q,rfl,Own.r.1 hO,hN,hP⟩
theorem ac_impl_copyTree (t : TV) (st : St) (hR : Rows st 1 fI t.p t.l) (hs : szOk t.l.length) : C 91 [.agg #[vS t.p t.l.length,vI t.root]] st (fun v s' => ∃ u : TV,v = .agg #[vS u.p u.l.length,vI u.root] ∧ u.l = t.l ∧ u.root = t.root ∧ OwnR s' 1 fI u.p u.l ∧ New st.next u.p ∧ Pres st s') := by
 refine AC.enterX (i := ⟨[1,2],[1,2,3,6],[0,1,2],[]⟩) [(1,[2],[4])] Tryz.func91 rfl rfl (by kernel_rfl) (by kernel_rfl) Tryz.ntmps91 (Lb rfl) rfl ?_
 iterate 2 refine ⟨_,rfl,?_⟩
 refine Cm 2 st [Ml 1 0,Ml 2 1] [(1,0,[vS t.p t.l.length,vI t.root]),(2,1,[Sn,vI 0])] fun _ _ => ?_
 refine ⟨_,rfl,?_⟩
 refine ⟨_,Od rfl,?_⟩
 refine ⟨_,rfl,(ac_copyInts t.p t.l st hR hs).mono ?_⟩
 rintro _ s5 ⟨q5,rfl,hO5,hN5,hP5⟩
 refine ⟨hP5.2,?_⟩
 refine ⟨_,rfl,?_⟩
 refine ⟨_,Od rfl,?_⟩
 refine ⟨ld_own rfl rfl rfl,?_⟩
 refine ⟨_,rfl,?_⟩
 refine ⟨_,Os rfl,?_⟩
 exact cxs (Rt ⟨⟨⟨q5,t.l⟩,t.root⟩,rfl,rfl,rfl,hO5,hN5,hP5⟩)
theorem ac_spec_l6Copy (t : TV) (st : St) (hR : Rows st 1 fI t.p t.l) (hs : szOk t.l.length) : C 95 [.agg #[vS t.p t.l.length,vI t.root]] st (fun v s' => ∃ u : TV,v = .agg #[vS u.p u.l.length,vI u.root] ∧ u.l = t.l ∧ u.root = t.root ∧ OwnR s' 1 fI u.p u.l ∧ New st.next u.p ∧ Pres st s') := by
 have hs : t.l.length ≤ 1048576 := hs
 refine AC.enterX (i := ⟨[1,2],[1,2,4,7],[0,1,2],[]⟩) [(1,[3],[5])] Tryz.func95 rfl rfl (by kernel_rfl) (by kernel_rfl) Tryz.ntmps95 (Lb rfl) rfl ?_
 iterate 2 refine ⟨_,rfl,?_⟩
 refine Cm 2 st [Ml 1 0,Ml 2 1] [(1,0,[vS t.p t.l.length,vI t.root]),(2,1,[Sn,vI 0])] fun _ _ => ?_
 refine op_nilK (z := 1) (f := fI) rfl rfl rfl rfl (by decide) rfl ?_
 intro q3 s3 hO3 hP3 hN3
 refine ⟨_,rfl,?_⟩
 refine ⟨_,Od rfl,?_⟩
 refine op_cat' (z := 1) (st := s3) (f := fI) (b := 8) (l := []) (l2 := t.l) rfl rfl rfl rfl rfl rfl rfl (by decide) fI_len rfl rfl rfl rfl (by first | omega | (simp only [List.length_nil]; omega)) (by unfold maxLen; first | omega | (simp only [List.length_nil]; omega)) hO3 (hP3.rows hR) ?_
 intro q6 s6 hO6 hPr6 hN6
 refine ⟨hPr6.low hP3 hN3,?_⟩
 refine ⟨_,rfl,?_⟩
 refine ⟨_,Od rfl,?_⟩
 refine ⟨ld_own rfl rfl rfl,?_⟩
 refine ⟨_,rfl,?_⟩
 refine ⟨_,Os rfl,?_⟩
 exact cxs (Rt ⟨⟨⟨q6,t.l⟩,t.root⟩,rfl,rfl,rfl,hO6,cat_new hP3 hN3 hN6,hPr6.pres hP3 hN3⟩)
def inL (L : List Int) (id : Int) : Bool := decide (leafOf id ∈ L)
def itS (L : List Int) (l : List Itm) : List Itm := l.filter fun x => inL L x.id
def flS (L : List Int) (l : List Flr) : List Flr := l.filter fun x => inL L x.id
def sliceF (s : Sta) (L : List Int) : Sta := ⟨itS L s.items,flS L s.floors⟩
theorem filt_in {α : Type} {p : α → Bool} {l : List α} {i : Nat} {x : α} (h : l[i]? = some x) (hx : p x = true) : (l.take (i + 1)).filter p = (l.take i).filter p ++ [x] := by
 rw [List.take_add_one,h,List.filter_append]
 simp [hx]
theorem filt_out {α : Type} {p : α → Bool} {l : List α} {i : Nat} {x : α} (h : l[i]? = some x) (hx : p x = false) : (l.take (i + 1)).filter p = (l.take i).filter p := by
 rw [List.take_add_one,h,List.filter_append]
 simp [hx]
theorem filt_len {α : Type} {p : α → Bool} (l : List α) (i : Nat) : ((l.take i).filter p).length ≤ l.length := by
 have h1 := List.length_filter_le p (l.take i)
 rw [List.length_take] at h1
 omega
theorem itS_in {L : List Int} {l : List Itm} {i : Nat} {x : Itm} (h : l[i]? = some x) (hx : leafOf x.id ∈ L) : itS L (l.take (i + 1)) = itS L (l.take i) ++ [x] := filt_in h (decide_eq_true hx)
theorem itS_out {L : List Int} {l : List Itm} {i : Nat} {x : Itm} (h : l[i]? = some x) (hx : ¬ leafOf x.id ∈ L) : itS L (l.take (i + 1)) = itS L (l.take i) := filt_out h (decide_eq_false hx)
theorem flS_in {L : List Int} {l : List Flr} {i : Nat} {x : Flr} (h : l[i]? = some x) (hx : leafOf x.id ∈ L) : flS L (l.take (i + 1)) = flS L (l.take i) ++ [x] := filt_in h (decide_eq_true hx)
theorem flS_out {L : List Int} {l : List Flr} {i : Nat} {x : Flr} (h : l[i]? = some x) (hx : ¬ leafOf x.id ∈ L) : flS L (l.take (i + 1)) = flS L (l.take i) := filt_out h (decide_eq_false hx)
theorem ac_spec_l6Slice (s : SV) (p : Option Addr) (L : List Int) (st : St) (hR : RdS st s) (hb : bigS s.x) (hL : Rows st 1 fI p L) (hs : szOk L.length) : C 214 [.agg #[vS s.p s.x.items.length,vS s.q s.x.floors.length],vS p L.length] st (fun v s' => ∃ u : SV,v = .agg #[vS u.p u.x.items.length,vS u.q u.x.floors.length] ∧ u.x = sliceF s.x L ∧ OwnP s' (pcS u) ∧ NewP st.next (pcS u) ∧ Pres st s') := by
 have hs : L.length ≤ 1048576 := hs
 have hs1 : s.x.items.length ≤ 1048576 := hb.1
 have hs2 : s.x.floors.length ≤ 1048576 := hb.2.1
 refine AC.enterX (i := ⟨[2,4,5],[2,4,5,10,17,25,27,34,36,43,51,53,60],[0,1,2,4,5,6,7,13,24,39,50],[]⟩) [(6,[7],[1]),(11,[7],[1])] Tryz.func214 rfl rfl (by kernel_rfl) (by kernel_rfl) Tryz.ntmps214 (Lb rfl) rfl ?_
 iterate 2 refine ⟨_,rfl,?_⟩
 refine Cm 2 st [(1,vS p L.length),Ml 2 0,Ml 4 1] [(2,0,cSV s),(4,1,[Sn,Sn])] fun _ _ => ?_
 iterate 2 refine ⟨_,rfl,?_⟩
 refine ⟨_,Os rfl,?_⟩
 refine cxs ?_
 refine Cm 3 st [(1,vS p L.length),Ml 2 0,Ml 4 1,Ml 5 2,(6,vI 0)] [(2,0,cSV s),(4,1,[Sn,Sn]),(5,2,[Sn,Sn])] fun _ _ => ?_
 refine AW.loopM (fun x : Nat × Option Addr × List Itm => [(1,vS p L.length),(2,vL 2 0 (0)),(4,vL 4 0 (1)),(5,vL 5 0 (2)),(6,vI (x.1 : Int))]) (fun x : Nat × Option Addr × List Itm => [(2,0,[vS s.p s.x.items.length,vS s.q s.x.floors.length]),(4,1,[.slice none 0 0,.slice none 0 0]),(5,2,[vS x.2.1 x.2.2.length,.slice none 0 0])]) (fun m (x : Nat × Option Addr × List Itm) st' => m = s.x.items.length - x.1 ∧ x.1 ≤ s.x.items.length ∧ x.2.2 = itS L (s.x.items.take x.1) ∧ OwnR st' 6 cItm x.2.1 x.2.2 ∧ New st.next x.2.1 ∧ Pres st st') (0,none,[]) _ ⟨rfl,rfl,rfl,rfl,rfl,trivial⟩ ⟨rfl,rfl,rfl,trivial⟩ ⟨rfl,Nat.zero_le _,rfl,OwnR.nil,New.none,Pres.refl _⟩ ?_
 rintro m ⟨i,q,l⟩ ρ0 ff gg st' ⟨rfl,hi,hv,hO,hN,hP⟩
 simp only at hi hv hO hN
 have hll : l.length ≤ s.x.items.length := by rw [hv]; exact filt_len _ _
 refine ⟨_,rfl,?_⟩
 refine ⟨_,Od rfl,?_⟩
 iterate 2 refine ⟨_,rfl,?_⟩
 rintro (_|_) h13
 ·replace h13 : ¬ ((i : Int) < (s.x.items.length : Int)) := of_decide_eq_false h13
  refine Cm gg st' [(1,vS p L.length),Ml 2 0,Ml 4 1,Ml 5 2,(6,vI (i : Int)),(13,vB false)] [(2,0,cSV s),(4,1,[Sn,Sn]),(5,2,[vS q l.length,Sn])] fun _ _ => ?_
  have hv1 : l = itS L s.x.items := by rw [hv,show i = s.x.items.length by omega,List.take_length]
  obtain ⟨s1,hs1⟩ : ∃ s1,s1 = st' := ⟨_,rfl⟩
  subst hs1
  refine cxs ?_
  refine Cm gg s1 [(1,vS p L.length),Ml 2 0,Ml 4 1,Ml 5 2,(7,vI 0)] [(2,0,cSV s),(4,1,[Sn,Sn]),(5,2,[vS q l.length,Sn])] fun _ _ => ?_
  refine AW.loopM (fun x : Nat × Option Addr × List Flr => [(1,vS p L.length),(2,vL 2 0 (0)),(4,vL 4 0 (1)),(5,vL 5 0 (2)),(7,vI (x.1 : Int))]) (fun x : Nat × Option Addr × List Flr => [(2,0,[vS s.p s.x.items.length,vS s.q s.x.floors.length]),(4,1,[.slice none 0 0,.slice none 0 0]),(5,2,[vS q l.length,vS x.2.1 x.2.2.length])]) (fun m (x : Nat × Option Addr × List Flr) st' => m = s.x.floors.length - x.1 ∧ x.1 ≤ s.x.floors.length ∧ x.2.2 = flS L (s.x.floors.take x.1) ∧ OwnR st' 2 cFlr x.2.1 x.2.2 ∧ New s1.next x.2.1 ∧ Pres s1 st') (0,none,[]) _ ⟨rfl,rfl,rfl,rfl,rfl,trivial⟩ ⟨rfl,rfl,rfl,trivial⟩ ⟨rfl,Nat.zero_le _,rfl,OwnR.nil,New.none,Pres.refl _⟩ ?_
  rintro m ⟨j,r,f⟩ ρ0 ff gg st' ⟨rfl,hj,hw,hOj,hNj,hPj⟩
  simp only at hj hw hOj hNj
  have hfl : f.length ≤ s.x.floors.length := by rw [hw]; exact filt_len _ _
  refine ⟨_,rfl,?_⟩
  refine ⟨_,Od rfl,?_⟩
  iterate 2 refine ⟨_,rfl,?_⟩
  rintro (_|_) h39
  ·replace h39 : ¬ ((j : Int) < (s.x.floors.length : Int)) := of_decide_eq_false h39
   refine Cm gg st' [(1,vS p L.length),Ml 2 0,Ml 4 1,Ml 5 2,(7,vI (j : Int)),(39,vB false)] [(2,0,cSV s),(4,1,[Sn,Sn]),(5,2,[vS q l.length,vS r f.length])] fun _ _ => ?_
   have hw1 : f = flS L s.x.floors := by rw [hw,show j = s.x.floors.length by omega,List.take_length]
   refine cxs ?_
   refine ⟨_,Od rfl,?_⟩
   refine ⟨_,Os rfl,?_⟩
   exact cxs (Rt ⟨⟨q,r,⟨l,f⟩⟩,rfl,by rw [hv1,hw1]; rfl,OwnP.join (l := [pcR 6 cItm q l]) (OwnP.one (own_pc hO)) hPj (OwnP.one (own_pc hOj)) (NewP.cons hNj NewP.nil),NewP.cons hN (NewP.cons (hNj.le hP.1) NewP.nil),hP.trans hPj⟩)
  ·replace h39 : (j : Int) < (s.x.floors.length : Int) := of_decide_eq_true h39
   refine Cm gg st' [(1,vS p L.length),Ml 2 0,Ml 4 1,Ml 5 2,(7,vI (j : Int)),(39,vB true)] [(2,0,cSV s),(4,1,[Sn,Sn]),(5,2,[vS q l.length,vS r f.length])] fun _ _ => ?_
   refine cxs ?_
   refine ⟨_,rfl,?_⟩
   refine ⟨_,Od rfl,?_⟩
   refine op_at j ((hP.trans hPj).rows hR.2) (by omega) rfl rfl rfl rfl rfl rfl rfl ?_
   intro x46 b46 d46 k46 hy46 hb46 hm46 hc46 ho46
   refine ⟨_,rfl,?_⟩
   refine ⟨_,op_ldc (i := 0) rfl rfl rfl rfl hm46 hc46 rfl rfl,?_⟩
   refine ⟨_,rfl,(ac_spec_LeafOf x46.id st').mono ?_⟩
   rintro _ s49 ⟨rfl,hP49⟩
   refine ⟨_,rfl,(ac_spec_l1Has p L (leafOf x46.id) s49 (((hP.trans hPj).trans hP49).rows hL) (by first | assumption | omega)).mono ?_⟩
   rintro _ s49 ⟨x50,rfl,h50,rfl⟩
   rcases x50 with _|_
   ·replace h50 := fun k => Bool.false_ne_true (h50.2 k)
    refine Cm gg s49 [(1,vS p L.length),Ml 2 0,Ml 4 1,Ml 5 2,(7,vI (j : Int)),(39,vB true),(50,vB false)] [(2,0,cSV s),(4,1,[Sn,Sn]),(5,2,[vS q l.length,vS r f.length])] fun _ _ => ?_
    refine cxs ?_
    have ew41 : IntKind.wrap .i64 ((j : Int) + (1)) = ((j + 1 : Nat) : Int) := (wrap_i64 (by omega) (by omega)).trans (by omega)
    refine ⟨_,rfl,?_⟩
    exact ⟨(j + 1,r,f),s.x.floors.length - (j + 1),by omega,⟨rfl,rfl,rfl,rfl,congrArg (Value.int .i64) ew41,trivial⟩,⟨rfl,rfl,rfl,trivial⟩,rfl,by simp only; omega,by rw [flS_out hy46 h50]; exact hw,hP49.ownR hOj,hNj,hPj.trans hP49⟩
   ·replace h50 := h50.1 rfl
    refine Cm gg s49 [(1,vS p L.length),Ml 2 0,Ml 4 1,Ml 5 2,(7,vI (j : Int)),(39,vB true),(50,vB true)] [(2,0,cSV s),(4,1,[Sn,Sn]),(5,2,[vS q l.length,vS r f.length])] fun _ _ => ?_
    refine ⟨_,rfl,?_⟩
    refine ⟨_,Od rfl,?_⟩
    refine ⟨ld_own rfl rfl rfl,?_⟩
    refine ⟨_,rfl,?_⟩
    refine ⟨_,Od rfl,?_⟩
    refine op_el j (((hP.trans hPj).trans hP49).rows hR.2) hy46 rfl rfl rfl rfl rfl rfl rfl ?_
    intro b56 d56 k56 hb56 hm56 hc56 ho56
    refine ⟨_,op_lda rfl rfl rfl rfl rfl hm56 hc56 rfl,?_⟩
    refine op_one (z := 2) (a := (x46 : Flr)) (f := cFlr) rfl rfl rfl rfl rfl (by decide) rfl (Lb rfl) rfl rfl rfl ?_
    refine ⟨Pres.push.2,?_⟩
    refine op_snoc (z := 2) (st := s49) (f := cFlr) (b := 16) (l := f) (x := x46) rfl rfl rfl rfl rfl rfl rfl (by decide) len_cFlr rfl rfl rfl (by omega) (by unfold maxLen; omega) (hP49.ownR hOj) ?_
    intro q59 s59 hO59 hP59 hN59
    refine ⟨_,rfl,?_⟩
    refine ⟨_,Os rfl,?_⟩
    refine Cm gg s59 [(1,vS p L.length),Ml 2 0,Ml 4 1,Ml 5 2,(7,vI (j : Int)),(39,vB true),(50,vB true)] [(2,0,cSV s),(4,1,[Sn,Sn]),(5,2,[vS q l.length,vS q59 (f ++ [x46]).length])] fun _ _ => ?_
    have ew41 : IntKind.wrap .i64 ((j : Int) + (1)) = ((j + 1 : Nat) : Int) := (wrap_i64 (by omega) (by omega)).trans (by omega)
    refine ⟨_,rfl,?_⟩
    exact ⟨(j + 1,q59,f ++ [x46]),s.x.floors.length - (j + 1),by omega,⟨rfl,rfl,rfl,rfl,congrArg (Value.int .i64) ew41,trivial⟩,⟨rfl,rfl,rfl,trivial⟩,rfl,by simp only; omega,by rw [flS_in hy46 h50,← hw],hO59,hN59.le (hPj.trans hP49).1,hP59.pres (hPj.trans hP49) hNj⟩
 ·replace h13 : (i : Int) < (s.x.items.length : Int) := of_decide_eq_true h13
  refine Cm gg st' [(1,vS p L.length),Ml 2 0,Ml 4 1,Ml 5 2,(6,vI (i : Int)),(13,vB true)] [(2,0,cSV s),(4,1,[Sn,Sn]),(5,2,[vS q l.length,Sn])] fun _ _ => ?_
  refine cxs ?_
  refine ⟨_,rfl,?_⟩
  refine ⟨_,Od rfl,?_⟩
  refine op_at i (hP.rows hR.1) (by omega) rfl rfl rfl rfl rfl rfl rfl ?_
  intro x20 b20 d20 k20 hy20 hb20 hm20 hc20 ho20
  refine ⟨_,rfl,?_⟩
  refine ⟨_,op_ldc (i := 0) rfl rfl rfl rfl hm20 hc20 rfl rfl,?_⟩
  refine ⟨_,rfl,(ac_spec_LeafOf x20.id st').mono ?_⟩
  rintro _ s23 ⟨rfl,hP23⟩
  refine ⟨_,rfl,(ac_spec_l1Has p L (leafOf x20.id) s23 ((hP.trans hP23).rows hL) (by first | assumption | omega)).mono ?_⟩
  rintro _ s23 ⟨x24,rfl,h24,rfl⟩
  rcases x24 with _|_
  ·replace h24 := fun k => Bool.false_ne_true (h24.2 k)
   refine Cm gg s23 [(1,vS p L.length),Ml 2 0,Ml 4 1,Ml 5 2,(6,vI (i : Int)),(13,vB true),(24,vB false)] [(2,0,cSV s),(4,1,[Sn,Sn]),(5,2,[vS q l.length,Sn])] fun _ _ => ?_
   refine cxs ?_
   have ew15 : IntKind.wrap .i64 ((i : Int) + (1)) = ((i + 1 : Nat) : Int) := (wrap_i64 (by omega) (by omega)).trans (by omega)
   refine ⟨_,rfl,?_⟩
   exact ⟨(i + 1,q,l),s.x.items.length - (i + 1),by omega,⟨rfl,rfl,rfl,rfl,congrArg (Value.int .i64) ew15,trivial⟩,⟨rfl,rfl,rfl,trivial⟩,rfl,by simp only; omega,by rw [itS_out hy20 h24]; exact hv,hP23.ownR hO,hN,hP.trans hP23⟩
  ·replace h24 := h24.1 rfl
   refine Cm gg s23 [(1,vS p L.length),Ml 2 0,Ml 4 1,Ml 5 2,(6,vI (i : Int)),(13,vB true),(24,vB true)] [(2,0,cSV s),(4,1,[Sn,Sn]),(5,2,[vS q l.length,Sn])] fun _ _ => ?_
   refine ⟨_,rfl,?_⟩
   refine ⟨_,Od rfl,?_⟩
   refine ⟨ld_own rfl rfl rfl,?_⟩
   refine ⟨_,rfl,?_⟩
   refine ⟨_,Od rfl,?_⟩
   refine op_el i ((hP.trans hP23).rows hR.1) hy20 rfl rfl rfl rfl rfl rfl rfl ?_
   intro b30 d30 k30 hb30 hm30 hc30 ho30
   refine ⟨_,op_lda rfl rfl rfl rfl rfl hm30 hc30 rfl,?_⟩
   refine op_one (z := 6) (a := (x20 : Itm)) (f := cItm) rfl rfl rfl rfl rfl (by decide) rfl (Lb rfl) rfl rfl rfl ?_
   refine ⟨Pres.push.2,?_⟩
   refine op_snoc (z := 6) (st := s23) (f := cItm) (b := 56) (l := l) (x := x20) rfl rfl rfl rfl rfl rfl rfl (by decide) len_cItm rfl rfl rfl (by omega) (by unfold maxLen; omega) (hP23.ownR hO) ?_
   intro q33 s33 hO33 hP33 hN33
   refine ⟨_,rfl,?_⟩
   refine ⟨_,Os rfl,?_⟩
   refine Cm gg s33 [(1,vS p L.length),Ml 2 0,Ml 4 1,Ml 5 2,(6,vI (i : Int)),(13,vB true),(24,vB true)] [(2,0,cSV s),(4,1,[Sn,Sn]),(5,2,[vS q33 (l ++ [x20]).length,Sn])] fun _ _ => ?_
   have ew15 : IntKind.wrap .i64 ((i : Int) + (1)) = ((i + 1 : Nat) : Int) := (wrap_i64 (by omega) (by omega)).trans (by omega)
   refine ⟨_,rfl,?_⟩
   exact ⟨(i + 1,q33,l ++ [x20]),s.x.items.length - (i + 1),by omega,⟨rfl,rfl,rfl,rfl,congrArg (Value.int .i64) ew15,trivial⟩,⟨rfl,rfl,rfl,trivial⟩,rfl,by simp only; omega,by rw [itS_in hy20 h24,← hv],hO33,hN33.le (hP.trans hP23).1,hP33.pres (hP.trans hP23) hN⟩
theorem ac_impl_Slice (s : SV) (p : Option Addr) (L : List Int) (st : St) (hR : RdS st s) (hb : bigS s.x) (hL : Rows st 1 fI p L) (hs : szOk L.length) (hk : stateOk s.x) : C 202 [.agg #[vS s.p s.x.items.length,vS s.q s.x.floors.length],vS p L.length] st (fun v s' => ∃ u : SV,v = .agg #[vS u.p u.x.items.length,vS u.q u.x.floors.length] ∧ u.x = sliceF s.x L ∧ OwnP s' (pcS u) ∧ NewP st.next (pcS u) ∧ Pres st s') := by
 have hs : L.length ≤ 1048576 := hs
 have hs1 : s.x.items.length ≤ 1048576 := hb.1
 have hs2 : s.x.floors.length ≤ 1048576 := hb.2.1
 refine AC.enterX (i := ⟨[2,4,5,7,9],[2,4,5,7,9,15,23,27,32,34,42,46,51],[0,1,2,4,5,7,9,13,16,17,18,19,26,35,36,37,38,45],[]⟩) [] Tryz.func202 rfl rfl (by kernel_rfl) (by kernel_rfl) Tryz.ntmps202 (Lb rfl) rfl ?_
 iterate 2 refine ⟨_,rfl,?_⟩
 refine Cm 2 st [(1,vS p L.length),Ml 2 0,Ml 4 1] [(2,0,cSV s),(4,1,[Sn,Sn])] fun _ _ => ?_
 iterate 2 refine ⟨_,rfl,?_⟩
 refine ⟨_,Os rfl,?_⟩
 refine Cm 3 st [(1,vS p L.length),Ml 2 0,Ml 4 1,Ml 5 2] [(2,0,cSV s),(4,1,[Sn,Sn]),(5,2,[Sn,Sn])] fun _ _ => ?_
 refine ⟨_,Od rfl,?_⟩
 refine ⟨_,rfl,(AC.tru (ac_impl_StateOk s st hR hb) hk).mono ?_⟩
 rintro _ st ⟨rfl,rfl⟩
 refine ⟨_,rfl,?_⟩
 refine Cm 3 st [(1,vS p L.length),Ml 2 0,Ml 4 1,Ml 5 2,(13,vB false)] [(2,0,cSV s),(4,1,[Sn,Sn]),(5,2,[Sn,Sn])] fun _ _ => ?_
 refine cxs ?_
 refine ⟨_,rfl,?_⟩
 refine ⟨_,Od rfl,?_⟩
 refine ⟨_,rfl,?_⟩
 refine Cm 3 st [(1,vS p L.length),Ml 2 0,Ml 4 1,Ml 5 2,(16,vS s.p s.x.items.length),(17,vI (s.x.items.length : Int)),(18,vI 0)] [(2,0,cSV s),(4,1,[Sn,Sn]),(5,2,[Sn,Sn])] fun _ _ => ?_
 refine AW.loopM (fun x : Nat × Option Addr × List Itm => [(1,vS p L.length),(2,vL 2 0 (0)),(4,vL 4 0 (1)),(5,vL 5 0 (2)),(16,vS s.p s.x.items.length),(17,vI (s.x.items.length : Int)),(18,vI (x.1 : Int))]) (fun x : Nat × Option Addr × List Itm => [(2,0,[vS s.p s.x.items.length,vS s.q s.x.floors.length]),(4,1,[.slice none 0 0,.slice none 0 0]),(5,2,[vS x.2.1 x.2.2.length,.slice none 0 0])]) (fun m (x : Nat × Option Addr × List Itm) st' => m = s.x.items.length - x.1 ∧ x.1 ≤ s.x.items.length ∧ x.2.2 = itS L (s.x.items.take x.1) ∧ OwnR st' 6 cItm x.2.1 x.2.2 ∧ New st.next x.2.1 ∧ Pres st st') (0,none,[]) _ ⟨rfl,rfl,rfl,rfl,rfl,rfl,rfl,trivial⟩ ⟨rfl,rfl,rfl,trivial⟩ ⟨rfl,Nat.zero_le _,rfl,OwnR.nil,New.none,Pres.refl _⟩ ?_
 rintro m ⟨i,q,l⟩ ρ0 ff gg st' ⟨rfl,hi,hv,hO,hN,hP⟩
 simp only at hi hv hO hN
 have hll : l.length ≤ s.x.items.length := by rw [hv]; exact filt_len _ _
 refine ⟨_,rfl,?_⟩
 rintro (_|_) h19
 ·replace h19 : ¬ ((i : Int) < (s.x.items.length : Int)) := of_decide_eq_false h19
  refine Cm gg st' [(1,vS p L.length),Ml 2 0,Ml 4 1,Ml 5 2,(16,vS s.p s.x.items.length),(17,vI (s.x.items.length : Int)),(18,vI (i : Int)),(19,vB false)] [(2,0,cSV s),(4,1,[Sn,Sn]),(5,2,[vS q l.length,Sn])] fun _ _ => ?_
  have hv1 : l = itS L s.x.items := by rw [hv,show i = s.x.items.length by omega,List.take_length]
  obtain ⟨s1,hs1⟩ : ∃ s1,s1 = st' := ⟨_,rfl⟩
  subst hs1
  refine cxs ?_
  refine ⟨_,rfl,?_⟩
  refine ⟨_,Od rfl,?_⟩
  refine ⟨_,rfl,?_⟩
  refine Cm gg s1 [(1,vS p L.length),Ml 4 1,Ml 5 2,(35,vS s.q s.x.floors.length),(36,vI (s.x.floors.length : Int)),(37,vI 0)] [(4,1,[Sn,Sn]),(5,2,[vS q l.length,Sn])] fun _ _ => ?_
  refine AW.loopM (fun x : Nat × Option Addr × List Flr => [(1,vS p L.length),(4,vL 4 0 (1)),(5,vL 5 0 (2)),(35,vS s.q s.x.floors.length),(36,vI (s.x.floors.length : Int)),(37,vI (x.1 : Int))]) (fun x : Nat × Option Addr × List Flr => [(4,1,[.slice none 0 0,.slice none 0 0]),(5,2,[vS q l.length,vS x.2.1 x.2.2.length])]) (fun m (x : Nat × Option Addr × List Flr) st' => m = s.x.floors.length - x.1 ∧ x.1 ≤ s.x.floors.length ∧ x.2.2 = flS L (s.x.floors.take x.1) ∧ OwnR st' 2 cFlr x.2.1 x.2.2 ∧ New s1.next x.2.1 ∧ Pres s1 st') (0,none,[]) _ ⟨rfl,rfl,rfl,rfl,rfl,rfl,trivial⟩ ⟨rfl,rfl,trivial⟩ ⟨rfl,Nat.zero_le _,rfl,OwnR.nil,New.none,Pres.refl _⟩ ?_
  rintro m ⟨j,r,f⟩ ρ0 ff gg st' ⟨rfl,hj,hw,hOj,hNj,hPj⟩
  simp only at hj hw hOj hNj
  have hfl : f.length ≤ s.x.floors.length := by rw [hw]; exact filt_len _ _
  refine ⟨_,rfl,?_⟩
  rintro (_|_) h38
  ·replace h38 : ¬ ((j : Int) < (s.x.floors.length : Int)) := of_decide_eq_false h38
   refine Cm gg st' [(1,vS p L.length),Ml 4 1,Ml 5 2,(35,vS s.q s.x.floors.length),(36,vI (s.x.floors.length : Int)),(37,vI (j : Int)),(38,vB false)] [(4,1,[Sn,Sn]),(5,2,[vS q l.length,vS r f.length])] fun _ _ => ?_
   have hw1 : f = flS L s.x.floors := by rw [hw,show j = s.x.floors.length by omega,List.take_length]
   refine cxs ?_
   refine ⟨_,Od rfl,?_⟩
   refine ⟨_,Os rfl,?_⟩
   exact cxs (Rt ⟨⟨q,r,⟨l,f⟩⟩,rfl,by rw [hv1,hw1]; rfl,OwnP.join (l := [pcR 6 cItm q l]) (OwnP.one (own_pc hO)) hPj (OwnP.one (own_pc hOj)) (NewP.cons hNj NewP.nil),NewP.cons hN (NewP.cons (hNj.le hP.1) NewP.nil),hP.trans hPj⟩)
  ·replace h38 : (j : Int) < (s.x.floors.length : Int) := of_decide_eq_true h38
   refine Cm gg st' [(1,vS p L.length),Ml 4 1,Ml 5 2,(35,vS s.q s.x.floors.length),(36,vI (s.x.floors.length : Int)),(37,vI (j : Int)),(38,vB true)] [(4,1,[Sn,Sn]),(5,2,[vS q l.length,vS r f.length])] fun _ _ => ?_
   refine cxs ?_
   refine op_at j ((hP.trans hPj).rows hR.2) (by omega) rfl rfl rfl rfl rfl rfl rfl ?_
   intro x39 b39 d39 k39 hy39 hb39 hm39 hc39 ho39
   refine ⟨_,op_lda rfl rfl rfl rfl rfl hm39 hc39 rfl,?_⟩
   refine ⟨_,rfl,?_⟩
   refine ⟨_,Os rfl,?_⟩
   refine Cm (gg + 1) st' [(1,vS p L.length),Ml 4 1,Ml 5 2,Ml 9 gg,(35,vS s.q s.x.floors.length),(36,vI (s.x.floors.length : Int)),(37,vI (j : Int)),(38,vB true)] [(4,1,[Sn,Sn]),(5,2,[vS q l.length,vS r f.length]),(9,gg,[vI x39.id,vI x39.inc])] fun _ _ => ?_
   refine ⟨_,rfl,?_⟩
   refine ⟨_,Od rfl,?_⟩
   refine ⟨_,rfl,(ac_impl_LeafOf x39.id st').mono ?_⟩
   rintro _ s44 ⟨rfl,hP44⟩
   refine ⟨_,rfl,(ac_slices_Contains_Int p L (leafOf x39.id) s44 (((hP.trans hPj).trans hP44).rows hL) (by first | assumption | omega)).mono ?_⟩
   rintro _ s44 ⟨x45,rfl,h45,rfl⟩
   rcases x45 with _|_
   ·replace h45 := fun k => Bool.false_ne_true (h45.2 k)
    refine Cm (gg + 1) s44 [(1,vS p L.length),Ml 4 1,Ml 5 2,Ml 9 gg,(35,vS s.q s.x.floors.length),(36,vI (s.x.floors.length : Int)),(37,vI (j : Int)),(38,vB true),(45,vB false)] [(4,1,[Sn,Sn]),(5,2,[vS q l.length,vS r f.length]),(9,gg,[vI x39.id,vI x39.inc])] fun _ _ => ?_
    refine cxs ?_
    have ew52 : IntKind.wrap .i64 ((j : Int) + (1)) = ((j + 1 : Nat) : Int) := (wrap_i64 (by omega) (by omega)).trans (by omega)
    refine ⟨_,rfl,?_⟩
    exact ⟨(j + 1,r,f),s.x.floors.length - (j + 1),by omega,⟨rfl,rfl,rfl,rfl,rfl,congrArg (Value.int .i64) ew52,trivial⟩,⟨rfl,rfl,trivial⟩,rfl,by simp only; omega,by rw [flS_out hy39 h45]; exact hw,hP44.ownR hOj,hNj,hPj.trans hP44⟩
   ·replace h45 := h45.1 rfl
    refine Cm (gg + 1) s44 [(1,vS p L.length),Ml 4 1,Ml 5 2,Ml 9 gg,(35,vS s.q s.x.floors.length),(36,vI (s.x.floors.length : Int)),(37,vI (j : Int)),(38,vB true),(45,vB true)] [(4,1,[Sn,Sn]),(5,2,[vS q l.length,vS r f.length]),(9,gg,[vI x39.id,vI x39.inc])] fun _ _ => ?_
    refine ⟨_,rfl,?_⟩
    refine ⟨_,Od rfl,?_⟩
    refine ⟨_,Od rfl,?_⟩
    refine ⟨_,rfl,?_⟩
    refine op_snoc (z := 2) (st := s44) (f := cFlr) (b := 16) (l := f) (x := x39) rfl rfl rfl rfl rfl rfl rfl (by decide) len_cFlr rfl rfl rfl (by omega) (by unfold maxLen; omega) (hP44.ownR hOj) ?_
    intro q50 s50 hO50 hP50 hN50
    refine ⟨_,rfl,?_⟩
    refine ⟨_,Os rfl,?_⟩
    refine Cm (gg + 1) s50 [(1,vS p L.length),Ml 4 1,Ml 5 2,Ml 9 gg,(35,vS s.q s.x.floors.length),(36,vI (s.x.floors.length : Int)),(37,vI (j : Int)),(38,vB true),(45,vB true)] [(4,1,[Sn,Sn]),(5,2,[vS q l.length,vS q50 (f ++ [x39]).length]),(9,gg,[vI x39.id,vI x39.inc])] fun _ _ => ?_
    have ew52 : IntKind.wrap .i64 ((j : Int) + (1)) = ((j + 1 : Nat) : Int) := (wrap_i64 (by omega) (by omega)).trans (by omega)
    refine ⟨_,rfl,?_⟩
    exact ⟨(j + 1,q50,f ++ [x39]),s.x.floors.length - (j + 1),by omega,⟨rfl,rfl,rfl,rfl,rfl,congrArg (Value.int .i64) ew52,trivial⟩,⟨rfl,rfl,trivial⟩,rfl,by simp only; omega,by rw [flS_in hy39 h45,← hw],hO50,hN50.le (hPj.trans hP44).1,hP50.pres (hPj.trans hP44) hNj⟩
 ·replace h19 : (i : Int) < (s.x.items.length : Int) := of_decide_eq_true h19
  refine Cm gg st' [(1,vS p L.length),Ml 2 0,Ml 4 1,Ml 5 2,(16,vS s.p s.x.items.length),(17,vI (s.x.items.length : Int)),(18,vI (i : Int)),(19,vB true)] [(2,0,cSV s),(4,1,[Sn,Sn]),(5,2,[vS q l.length,Sn])] fun _ _ => ?_
  refine cxs ?_
  refine op_at i (hP.rows hR.1) (by omega) rfl rfl rfl rfl rfl rfl rfl ?_
  intro x20 b20 d20 k20 hy20 hb20 hm20 hc20 ho20
  refine ⟨_,op_lda rfl rfl rfl rfl rfl hm20 hc20 rfl,?_⟩
  refine ⟨_,rfl,?_⟩
  refine ⟨_,Os rfl,?_⟩
  refine Cm (gg + 1) st' [(1,vS p L.length),Ml 2 0,Ml 4 1,Ml 5 2,Ml 7 gg,(16,vS s.p s.x.items.length),(17,vI (s.x.items.length : Int)),(18,vI (i : Int)),(19,vB true)] [(2,0,cSV s),(4,1,[Sn,Sn]),(5,2,[vS q l.length,Sn]),(7,gg,[vI x20.id,vI x20.e.inc,vI x20.e.rank,vI x20.e.beat,vI x20.e.ver,.string x20.e.data])] fun _ _ => ?_
  refine ⟨_,rfl,?_⟩
  refine ⟨_,Od rfl,?_⟩
  refine ⟨_,rfl,(ac_impl_LeafOf x20.id st').mono ?_⟩
  rintro _ s25 ⟨rfl,hP25⟩
  refine ⟨_,rfl,(ac_slices_Contains_Int p L (leafOf x20.id) s25 ((hP.trans hP25).rows hL) (by first | assumption | omega)).mono ?_⟩
  rintro _ s25 ⟨x26,rfl,h26,rfl⟩
  rcases x26 with _|_
  ·replace h26 := fun k => Bool.false_ne_true (h26.2 k)
   refine Cm (gg + 1) s25 [(1,vS p L.length),Ml 2 0,Ml 4 1,Ml 5 2,Ml 7 gg,(16,vS s.p s.x.items.length),(17,vI (s.x.items.length : Int)),(18,vI (i : Int)),(19,vB true),(26,vB false)] [(2,0,cSV s),(4,1,[Sn,Sn]),(5,2,[vS q l.length,Sn]),(7,gg,[vI x20.id,vI x20.e.inc,vI x20.e.rank,vI x20.e.beat,vI x20.e.ver,.string x20.e.data])] fun _ _ => ?_
   refine cxs ?_
   have ew33 : IntKind.wrap .i64 ((i : Int) + (1)) = ((i + 1 : Nat) : Int) := (wrap_i64 (by omega) (by omega)).trans (by omega)
   refine ⟨_,rfl,?_⟩
   exact ⟨(i + 1,q,l),s.x.items.length - (i + 1),by omega,⟨rfl,rfl,rfl,rfl,rfl,rfl,congrArg (Value.int .i64) ew33,trivial⟩,⟨rfl,rfl,rfl,trivial⟩,rfl,by simp only; omega,by rw [itS_out hy20 h26]; exact hv,hP25.ownR hO,hN,hP.trans hP25⟩
  ·replace h26 := h26.1 rfl
   refine Cm (gg + 1) s25 [(1,vS p L.length),Ml 2 0,Ml 4 1,Ml 5 2,Ml 7 gg,(16,vS s.p s.x.items.length),(17,vI (s.x.items.length : Int)),(18,vI (i : Int)),(19,vB true),(26,vB true)] [(2,0,cSV s),(4,1,[Sn,Sn]),(5,2,[vS q l.length,Sn]),(7,gg,[vI x20.id,vI x20.e.inc,vI x20.e.rank,vI x20.e.beat,vI x20.e.ver,.string x20.e.data])] fun _ _ => ?_
   refine ⟨_,rfl,?_⟩
   refine ⟨_,Od rfl,?_⟩
   refine ⟨_,Od rfl,?_⟩
   refine ⟨_,rfl,?_⟩
   refine op_snoc (z := 6) (st := s25) (f := cItm) (b := 56) (l := l) (x := x20) rfl rfl rfl rfl rfl rfl rfl (by decide) len_cItm rfl rfl rfl (by omega) (by unfold maxLen; omega) (hP25.ownR hO) ?_
   intro q31 s31 hO31 hP31 hN31
   refine ⟨_,rfl,?_⟩
   refine ⟨_,Os rfl,?_⟩
   refine Cm (gg + 1) s31 [(1,vS p L.length),Ml 2 0,Ml 4 1,Ml 5 2,Ml 7 gg,(16,vS s.p s.x.items.length),(17,vI (s.x.items.length : Int)),(18,vI (i : Int)),(19,vB true),(26,vB true)] [(2,0,cSV s),(4,1,[Sn,Sn]),(5,2,[vS q31 (l ++ [x20]).length,Sn]),(7,gg,[vI x20.id,vI x20.e.inc,vI x20.e.rank,vI x20.e.beat,vI x20.e.ver,.string x20.e.data])] fun _ _ => ?_
   have ew33 : IntKind.wrap .i64 ((i : Int) + (1)) = ((i + 1 : Nat) : Int) := (wrap_i64 (by omega) (by omega)).trans (by omega)
   refine ⟨_,rfl,?_⟩
   exact ⟨(i + 1,q31,l ++ [x20]),s.x.items.length - (i + 1),by omega,⟨rfl,rfl,rfl,rfl,rfl,rfl,congrArg (Value.int .i64) ew33,trivial⟩,⟨rfl,rfl,rfl,trivial⟩,rfl,by simp only; omega,by rw [itS_in hy20 h26,← hv],hO31,hN31.le (hP.trans hP25).1,hP31.pres (hP.trans hP25) hN⟩
def itL (x : Itm) : List Int := [x.id,x.e.inc,x.e.rank,x.e.beat,x.e.ver]
def itB (x : Itm) : List Int := numsB (itL x) ++ putS x.e.data
def flB (x : Flr) : List Int := putN x.id ++ putN x.inc
def itsB (l : List Itm) : List Int := l.flatMap itB
def flsB (l : List Flr) : List Int := l.flatMap flB
def stB (s : Sta) : List Int := putN (s.items.length : Int) ++ itsB s.items ++ putN (s.floors.length : Int) ++ flsB s.floors
theorem fm_succ {α : Type} {g : α → List Int} {l : List α} {i : Nat} {x : α} (h : l[i]? = some x) : (l.take (i + 1)).flatMap g = (l.take i).flatMap g ++ g x := by
 rw [List.take_add_one,h,List.flatMap_append]
 simp
theorem fm_len {α : Type} {g : α → List Int} {c : Nat} : ∀ {l : List α},(∀ x ∈ l,(g x).length ≤ c) → (l.flatMap g).length ≤ c * l.length
 | [],_ => Nat.zero_le _
 | x :: l,h => by
  have h1 := fm_len (l := l) fun y hy => h y (List.mem_cons_of_mem _ hy)
  have h2 := h x (List.mem_cons_self ..)
  rw [List.flatMap_cons,List.length_append,List.length_cons,Nat.mul_add,Nat.mul_one]
  omega
theorem fm_ok {α : Type} {g : α → List Int} {l : List α} (h : ∀ x,bytesOk (g x)) : bytesOk (l.flatMap g) := fun y hy => by
 obtain ⟨x,_,hx⟩ := List.mem_flatMap.1 hy
 exact h x y hx
theorem itB_len {x : Itm} (h : x.e.data.size ≤ 8) : (itB x).length ≤ 38 := by
 have h1 := numsB_len (itL x)
 have h2 := putS_len x.e.data
 rw [itB,List.length_append]
 have : (itL x).length = 5 := rfl
 omega
theorem flB_len (x : Flr) : (flB x).length ≤ 10 := by
 have h1 := putN_len x.id
 have h2 := putN_len x.inc
 rw [flB,List.length_append]
 omega
theorem stB_ok (s : Sta) : bytesOk (stB s) :=
 (((putN_ok _).app (fm_ok fun x => (numsB_ok _).app (putS_ok _))).app (putN_ok _)).app (fm_ok fun x => (putN_ok _).app (putN_ok _))
theorem okSize {s : Sta} (hk : stateOk s) {x : Itm} (hx : x ∈ s.items) : x.e.data.size ≤ 8 := by
 obtain ⟨j,hj⟩ := List.getElem?_of_mem hx
 exact (hk.1 j x hj).2.1.2.2.2.2
theorem its_len {s : Sta} (hk : stateOk s) (i : Nat) : (itsB (s.items.take i)).length ≤ 38 * s.items.length := by
 have h1 : (itsB (s.items.take i)).length ≤ 38 * (s.items.take i).length := fm_len fun x hx => itB_len (okSize hk (List.mem_of_mem_take hx))
 rw [List.length_take] at h1
 omega
theorem fls_len (l : List Flr) (i : Nat) : (flsB (l.take i)).length ≤ 10 * l.length := by
 have h1 : (flsB (l.take i)).length ≤ 10 * (l.take i).length := fm_len fun x _ => flB_len x
 rw [List.length_take] at h1
 omega
theorem stB_len {s : Sta} (hk : stateOk s) : (stB s).length ≤ 10 + 38 * s.items.length + 10 * s.floors.length := by
 have h1 := its_len hk s.items.length
 have h2 := fls_len s.floors s.floors.length
 rw [List.take_length] at h1 h2
 have h3 := putN_len (s.items.length : Int)
 have h4 := putN_len (s.floors.length : Int)
 rw [stB,List.length_append,List.length_append,List.length_append]
 omega
theorem cat_dis {st : St} {p q r : Option Addr} {A B : Prop} {m : Nat} (hd : Dis p r) (ho : Old st.next r) (h : (q = p ∧ A ∧ B) ∨ (0 < m ∧ New st.next q)) : Dis q r := by
 rcases h with ⟨h,_⟩ | ⟨_,h⟩
 ·rw [h]; exact hd
 ·exact (Dis.of ho h).symm
theorem ac_spec_l6Bytes (s : SV) (st : St) (hR : RdS st s) (hb : bigS s.x) (hk : stateOk s.x) : C 213 [.agg #[vS s.p s.x.items.length,vS s.q s.x.floors.length]] st (fun v s' => ∃ q,v = vS q (stB s.x).length ∧ OwnR s' 1 fB q (stB s.x) ∧ New st.next q ∧ Pres st s') := by
 have hs1 : s.x.items.length ≤ 1048576 := hb.1
 have hs2 : s.x.floors.length ≤ 1048576 := hb.2.1
 have hpl1 := putN_len (s.x.items.length : Int)
 have hpl2 := putN_len (s.x.floors.length : Int)
 refine AC.enterX (i := ⟨[1,5],[1,5,9,14,20,26,32,34,36,38,55,60,66,73,82],[0,1,2,3,4,5,6,7,8,17,44,69],[]⟩) [(6,[],[])] Tryz.func213 rfl rfl (by kernel_rfl) (by kernel_rfl) Tryz.ntmps213 (Lb rfl) rfl ?_
 refine ⟨_,rfl,?_⟩
 refine Cm 1 st [Ml 1 0,(2,Sn)] [(1,0,cSV s)] fun _ _ => ?_
 refine ⟨_,rfl,?_⟩
 refine ⟨_,Od rfl,?_⟩
 refine ⟨_,rfl,?_⟩
 refine ⟨_,rfl,(ac_spec_PutNum (s.x.items.length : Int) st).mono ?_⟩
 rintro _ s12 ⟨q12,rfl,hO12,hN12,hP12⟩
 refine cxs ?_
 refine Cm 1 s12 [Ml 1 0,(2,Sn),(3,vS q12 (putN (s.x.items.length : Int)).length),(4,vI 0)] [(1,0,cSV s)] fun _ _ => ?_
 refine AW.loopM (fun x : Nat × Option Addr × List Int => [(1,vL 1 0 (0)),(2,.slice none 0 0),(3,vS x.2.1 x.2.2.length),(4,vI (x.1 : Int))]) (fun x : Nat × Option Addr × List Int => [(1,0,[vS s.p s.x.items.length,vS s.q s.x.floors.length])]) (fun m (x : Nat × Option Addr × List Int) st' => m = s.x.items.length - x.1 ∧ x.1 ≤ s.x.items.length ∧ x.2.2 = putN (s.x.items.length : Int) ++ itsB (s.x.items.take x.1) ∧ OwnR st' 1 fB x.2.1 x.2.2 ∧ New st.next x.2.1 ∧ Pres st st') (0,q12,putN (s.x.items.length : Int)) _ ⟨rfl,rfl,rfl,rfl,trivial⟩ ⟨rfl,trivial⟩ ⟨rfl,Nat.zero_le _,(List.append_nil _).symm,hO12,hN12,hP12⟩ ?_
 rintro m ⟨i,q,b⟩ ρ0 ff gg st' ⟨rfl,hi,hv,hO,hN,hP⟩
 simp only at hi hv hO hN
 have hbl : b.length ≤ 5 + 38 * s.x.items.length := by rw [hv,List.length_append]; have := its_len hk i; omega
 refine ⟨_,rfl,?_⟩
 refine ⟨_,Od rfl,?_⟩
 iterate 2 refine ⟨_,rfl,?_⟩
 rintro (_|_) h17
 ·replace h17 : ¬ ((i : Int) < (s.x.items.length : Int)) := of_decide_eq_false h17
  refine Cm gg st' [Ml 1 0,(2,Sn),(3,vS q b.length),(4,vI (i : Int)),(17,vB false)] [(1,0,cSV s)] fun _ _ => ?_
  have hv1 : b = putN (s.x.items.length : Int) ++ itsB s.x.items := by rw [hv,show i = s.x.items.length by omega,List.take_length]
  obtain ⟨s1,hs1'⟩ : ∃ s1,s1 = st' := ⟨_,rfl⟩
  subst hs1'
  refine cxs ?_
  refine ⟨_,rfl,?_⟩
  refine ⟨_,Od rfl,?_⟩
  refine ⟨_,rfl,?_⟩
  refine ⟨_,rfl,(ac_spec_PutNum (s.x.floors.length : Int) s1).mono ?_⟩
  rintro _ s63 ⟨q63,rfl,hO63,hN63,hP63⟩
  refine op_cat' (z := 1) (st := s63) (f := fB) (b := 1) (l := b) (l2 := putN (s.x.floors.length : Int)) rfl rfl rfl rfl rfl rfl rfl (by decide) fB_len rfl rfl rfl rfl (by first | omega | (simp only [List.length_nil]; omega)) (by unfold maxLen; first | omega | (simp only [List.length_nil]; omega)) (hP63.ownR hO) (hO63.rows fB_len) ?_
  intro q64 s64 hO64 hPr64 hN64
  refine cxs ?_
  have hN64' := cat_new (hP.trans hP63) hN hN64
  have hP64' := hPr64.pres (hP.trans hP63) hN
  refine Cm gg s64 [Ml 1 0,(2,Sn),(3,vS q64 (b ++ (putN (s.x.floors.length : Int))).length),(8,vI 0)] [(1,0,cSV s)] fun _ _ => ?_
  refine AW.loopM (fun z : Nat × Option Addr × List Int => [(1,vL 1 0 (0)),(2,.slice none 0 0),(3,vS z.2.1 z.2.2.length),(8,vI (z.1 : Int))]) (fun z : Nat × Option Addr × List Int => [(1,0,[vS s.p s.x.items.length,vS s.q s.x.floors.length])]) (fun m (z : Nat × Option Addr × List Int) st' => m = s.x.floors.length - z.1 ∧ z.1 ≤ s.x.floors.length ∧ z.2.2 = b ++ putN (s.x.floors.length : Int) ++ flsB (s.x.floors.take z.1) ∧ OwnR st' 1 fB z.2.1 z.2.2 ∧ New st.next z.2.1 ∧ Pres st st') (0,q64,b ++ putN (s.x.floors.length : Int)) _ ⟨rfl,rfl,rfl,rfl,trivial⟩ ⟨rfl,trivial⟩ ⟨rfl,Nat.zero_le _,(List.append_nil _).symm,hO64,hN64',hP64'⟩ ?_
  rintro m ⟨j,r,f⟩ ρ0 ff gg st' ⟨rfl,hj,hw,hOf,hNf,hPf⟩
  simp only at hj hw hOf hNf
  have hfl : f.length ≤ 10 + 38 * s.x.items.length + 10 * s.x.floors.length := by rw [hw,List.length_append,List.length_append]; have := fls_len s.x.floors j; omega
  refine ⟨_,rfl,?_⟩
  refine ⟨_,Od rfl,?_⟩
  iterate 2 refine ⟨_,rfl,?_⟩
  rintro (_|_) h69
  ·replace h69 : ¬ ((j : Int) < (s.x.floors.length : Int)) := of_decide_eq_false h69
   refine Cm gg st' [Ml 1 0,(2,Sn),(3,vS r f.length),(8,vI (j : Int)),(69,vB false)] [(1,0,cSV s)] fun _ _ => ?_
   have hw1 : f = stB s.x := by rw [hw,show j = s.x.floors.length by omega,List.take_length,hv1]; rfl
   refine cxs ?_
   refine cxs ?_
   refine ⟨.inl rfl,_,rfl,r,?_⟩
   rw [← hw1]
   exact ⟨rfl,hOf,hNf,hPf⟩
  ·replace h69 : (j : Int) < (s.x.floors.length : Int) := of_decide_eq_true h69
   refine Cm gg st' [Ml 1 0,(2,Sn),(3,vS r f.length),(8,vI (j : Int)),(69,vB true)] [(1,0,cSV s)] fun _ _ => ?_
   refine cxs ?_
   refine ⟨_,rfl,?_⟩
   refine ⟨_,Od rfl,?_⟩
   refine op_at j (hPf.rows hR.2) (by omega) rfl rfl rfl rfl rfl rfl rfl ?_
   intro x76 b76 d76 k76 hy76 hb76 hm76 hc76 ho76
   refine ⟨_,rfl,?_⟩
   refine ⟨_,op_ldc (i := 0) rfl rfl rfl rfl hm76 hc76 rfl rfl,?_⟩
   have hpa := putN_len x76.id
   refine ⟨_,rfl,(ac_spec_PutNum x76.id st').mono ?_⟩
   rintro _ s79 ⟨q79,rfl,hO79,hN79,hP79⟩
   refine op_cat' (z := 1) (st := s79) (f := fB) (b := 1) (l := f) (l2 := putN x76.id) rfl rfl rfl rfl rfl rfl rfl (by decide) fB_len rfl rfl rfl rfl (by first | omega | (simp only [List.length_nil]; omega)) (by unfold maxLen; first | omega | (simp only [List.length_nil]; omega)) (hP79.ownR hOf) (hO79.rows fB_len) ?_
   intro q80 s80 hO80 hPr80 hN80
   refine Cm gg s80 [Ml 1 0,(2,Sn),(3,vS q80 (f ++ (putN x76.id)).length),(8,vI (j : Int)),(69,vB true)] [(1,0,cSV s)] fun _ _ => ?_
   have hfa : (f ++ putN x76.id).length = f.length + (putN x76.id).length := List.length_append
   have hN80' := cat_new (hPf.trans hP79) hNf hN80
   have hP80' := hPr80.pres (hPf.trans hP79) hNf
   refine ⟨_,rfl,?_⟩
   refine ⟨_,Od rfl,?_⟩
   refine op_el j (hP80'.rows hR.2) hy76 rfl rfl rfl rfl rfl rfl rfl ?_
   intro b85 d85 k85 hb85 hm85 hc85 ho85
   refine ⟨_,rfl,?_⟩
   refine ⟨_,op_ldc (i := 1) rfl rfl rfl rfl hm85 hc85 rfl rfl,?_⟩
   have hpb := putN_len x76.inc
   refine ⟨_,rfl,(ac_spec_PutNum x76.inc s80).mono ?_⟩
   rintro _ s88 ⟨q88,rfl,hO88,hN88,hP88⟩
   refine op_cat' (z := 1) (st := s88) (f := fB) (b := 1) (l := (f ++ putN x76.id)) (l2 := putN x76.inc) rfl rfl rfl rfl rfl rfl rfl (by decide) fB_len rfl rfl rfl rfl (by first | omega | (simp only [List.length_nil]; omega)) (by unfold maxLen; first | omega | (simp only [List.length_nil]; omega)) (hP88.ownR hO80) (hO88.rows fB_len) ?_
   intro q89 s89 hO89 hPr89 hN89
   refine Cm gg s89 [Ml 1 0,(2,Sn),(3,vS q89 ((f ++ putN x76.id) ++ (putN x76.inc)).length),(8,vI (j : Int)),(69,vB true)] [(1,0,cSV s)] fun _ _ => ?_
   have ew71 : IntKind.wrap .i64 ((j : Int) + (1)) = ((j + 1 : Nat) : Int) := (wrap_i64 (by omega) (by omega)).trans (by omega)
   refine ⟨_,rfl,?_⟩
   exact ⟨(j + 1,q89,f ++ putN x76.id ++ putN x76.inc),s.x.floors.length - (j + 1),by omega,⟨rfl,rfl,rfl,congrArg (Value.int .i64) ew71,trivial⟩,⟨rfl,trivial⟩,rfl,by first | omega | (simp only; omega),by rw [show flsB (s.x.floors.take (j + 1)) = flsB (s.x.floors.take j) ++ flB x76 from fm_succ hy76,← List.append_assoc,← hw,List.append_assoc]; rfl,hO89,cat_new (hP80'.trans hP88) hN80' hN89,hPr89.pres (hP80'.trans hP88) hN80'⟩
 ·replace h17 : (i : Int) < (s.x.items.length : Int) := of_decide_eq_true h17
  refine Cm gg st' [Ml 1 0,(2,Sn),(3,vS q b.length),(4,vI (i : Int)),(17,vB true)] [(1,0,cSV s)] fun _ _ => ?_
  obtain ⟨s1,hs1'⟩ : ∃ s1,s1 = st' := ⟨_,rfl⟩
  subst hs1'
  refine cxs ?_
  refine ⟨_,rfl,?_⟩
  refine ⟨_,Od rfl,?_⟩
  refine op_at i (hP.rows hR.1) (by omega) rfl rfl rfl rfl rfl rfl rfl ?_
  intro x23 b23 d23 k23 hy23 hb23 hm23 hc23 ho23
  refine ⟨_,rfl,?_⟩
  refine ⟨_,op_lda rfl rfl rfl rfl rfl hm23 (sub_row 1 5 hc23 rfl (by decide)) rfl,?_⟩
  refine ⟨_,rfl,?_⟩
  refine ⟨_,Os rfl,?_⟩
  refine Cm (gg + 1) s1 [Ml 1 0,(2,Sn),(3,vS q b.length),(4,vI (i : Int)),Ml 5 gg,(17,vB true)] [(1,0,cSV s),(5,gg,[vI x23.e.inc,vI x23.e.rank,vI x23.e.beat,vI x23.e.ver,.string x23.e.data])] fun _ _ => ?_
  have hdz : x23.e.data.size ≤ 8 := okSize hk (List.mem_of_getElem? hy23)
  refine ⟨_,rfl,?_⟩
  refine ⟨_,Od rfl,?_⟩
  refine op_el i (hP.rows hR.1) hy23 rfl rfl rfl rfl rfl rfl rfl ?_
  intro b29 d29 k29 hb29 hm29 hc29 ho29
  refine ⟨_,rfl,?_⟩
  refine ⟨_,op_ldc (i := 0) rfl rfl rfl rfl hm29 hc29 rfl rfl,?_⟩
  refine ⟨_,rfl,?_⟩
  refine ⟨_,Od rfl,?_⟩
  refine ⟨_,rfl,?_⟩
  refine ⟨_,Od rfl,?_⟩
  refine ⟨_,rfl,?_⟩
  refine ⟨_,Od rfl,?_⟩
  refine ⟨_,rfl,?_⟩
  refine ⟨_,Od rfl,?_⟩
  refine op_litI (k := .i64) (l := itL x23) rfl rfl rfl rfl rfl rfl (by decide) ?_
  intro q40 s40 hO40 hP40 hN40
  refine cxs ?_
  have h5 : (itL x23).length = 5 := rfl
  have hO40 : OwnR s40 1 fI q40 (itL x23) := hO40
  refine Cm (gg + 1) s40 [Ml 1 0,(2,Sn),(3,vS q b.length),(4,vI (i : Int)),Ml 5 gg,(6,vS q40 (itL x23).length),(7,vI 0),(17,vB true)] [(1,0,cSV s),(5,gg,[vI x23.e.inc,vI x23.e.rank,vI x23.e.beat,vI x23.e.ver,.string x23.e.data])] fun _ _ => ?_
  refine AW.loopM (fun y : Nat × Option Addr × List Int => [(1,vL 1 0 (0)),(2,.slice none 0 0),(3,vS y.2.1 y.2.2.length),(4,vI (i : Int)),(5,vL 5 0 (gg)),(6,vS q40 (itL x23).length),(7,vI (y.1 : Int)),(17,vB true)]) (fun y : Nat × Option Addr × List Int => [(1,0,[vS s.p s.x.items.length,vS s.q s.x.floors.length]),(5,gg,[vI x23.e.inc,vI x23.e.rank,vI x23.e.beat,vI x23.e.ver,.string x23.e.data])]) (fun m (y : Nat × Option Addr × List Int) st' => m = 5 - y.1 ∧ y.1 ≤ 5 ∧ y.2.2 = b ++ numsB ((itL x23).take y.1) ∧ OwnR st' 1 fB y.2.1 y.2.2 ∧ New st.next y.2.1 ∧ OwnR st' 1 fI q40 (itL x23) ∧ Dis y.2.1 q40 ∧ Pres st st') (0,q,b) _ ⟨rfl,rfl,rfl,rfl,rfl,rfl,rfl,rfl,trivial⟩ ⟨rfl,rfl,trivial⟩ ⟨rfl,Nat.zero_le _,(List.append_nil _).symm,hP40.ownR hO,hN,hO40,Dis.of hO.old hN40,hP.trans hP40⟩ ?_
  rintro m ⟨k,r,c⟩ ρ0 ff gg2 st' ⟨rfl,hk5,hc,hOc,hNc,hO5,hd5,hPc⟩
  simp only at hk5 hc hOc hNc hd5
  have hcl : c.length ≤ 30 + 38 * s.x.items.length := by rw [hc,List.length_append]; have := numsB_len ((itL x23).take k); rw [List.length_take] at this; omega
  iterate 2 refine ⟨_,rfl,?_⟩
  rintro (_|_) h44
  ·replace h44 : ¬ ((k : Int) < ((itL x23).length : Int)) := of_decide_eq_false h44
   refine Cm gg2 st' [Ml 1 0,(2,Sn),(3,vS r c.length),(4,vI (i : Int)),Ml 5 gg,(6,vS q40 (itL x23).length),(7,vI (k : Int)),(17,vB true),(44,vB false)] [(1,0,cSV s),(5,gg,[vI x23.e.inc,vI x23.e.rank,vI x23.e.beat,vI x23.e.ver,.string x23.e.data])] fun _ _ => ?_
   have hc5 : c = b ++ numsB (itL x23) := by rw [hc,show k = 5 by omega]; rfl
   refine cxs ?_
   refine ⟨_,rfl,?_⟩
   refine ⟨_,Od rfl,?_⟩
   have hpt := putS_len x23.e.data
   refine ⟨_,rfl,(ac_spec_PutText x23.e.data st' (by first | assumption | omega)).mono ?_⟩
   rintro _ s57 ⟨q57,rfl,hO57,hN57,hP57⟩
   refine op_cat' (z := 1) (st := s57) (f := fB) (b := 1) (l := c) (l2 := putS x23.e.data) rfl rfl rfl rfl rfl rfl rfl (by decide) fB_len rfl rfl rfl rfl (by first | omega | (simp only [List.length_nil]; omega)) (by unfold maxLen; first | omega | (simp only [List.length_nil]; omega)) (hP57.ownR hOc) (hO57.rows fB_len) ?_
   intro q58 s58 hO58 hPr58 hN58
   refine Cm gg2 s58 [Ml 1 0,(2,Sn),(3,vS q58 (c ++ (putS x23.e.data)).length),(4,vI (i : Int)),Ml 5 gg,(6,vS q40 (itL x23).length),(7,vI (k : Int)),(17,vB true),(44,vB false)] [(1,0,cSV s),(5,gg,[vI x23.e.inc,vI x23.e.rank,vI x23.e.beat,vI x23.e.ver,.string x23.e.data])] fun _ _ => ?_
   have ew19 : IntKind.wrap .i64 ((i : Int) + (1)) = ((i + 1 : Nat) : Int) := (wrap_i64 (by omega) (by omega)).trans (by omega)
   refine ⟨_,rfl,?_⟩
   exact ⟨(i + 1,q58,c ++ putS x23.e.data),s.x.items.length - (i + 1),by omega,⟨rfl,rfl,rfl,congrArg (Value.int .i64) ew19,trivial⟩,⟨rfl,trivial⟩,rfl,by first | omega | (simp only; omega),by rw [show itsB (s.x.items.take (i + 1)) = itsB (s.x.items.take i) ++ itB x23 from fm_succ hy23,← List.append_assoc,← hv,hc5,List.append_assoc]; rfl,hO58,cat_new (hPc.trans hP57) hNc hN58,hPr58.pres (hPc.trans hP57) hNc⟩
  ·replace h44 : (k : Int) < ((itL x23).length : Int) := of_decide_eq_true h44
   refine Cm gg2 st' [Ml 1 0,(2,Sn),(3,vS r c.length),(4,vI (i : Int)),Ml 5 gg,(6,vS q40 (itL x23).length),(7,vI (k : Int)),(17,vB true),(44,vB true)] [(1,0,cSV s),(5,gg,[vI x23.e.inc,vI x23.e.rank,vI x23.e.beat,vI x23.e.ver,.string x23.e.data])] fun _ _ => ?_
   refine cxs ?_
   refine op_at k (hO5.rows fI_len) (by omega) rfl rfl rfl rfl rfl rfl rfl ?_
   intro x50 b50 d50 k50 hy50 hb50 hm50 hc50 ho50
   refine ⟨_,op_ldc (i := 0) rfl rfl rfl rfl hm50 hc50 rfl rfl,?_⟩
   have hpl := putN_len x50
   refine ⟨_,rfl,(ac_spec_PutNum x50 st').mono ?_⟩
   rintro _ s52 ⟨q52,rfl,hO52,hN52,hP52⟩
   refine op_cat' (z := 1) (st := s52) (f := fB) (b := 1) (l := c) (l2 := putN x50) rfl rfl rfl rfl rfl rfl rfl (by decide) fB_len rfl rfl rfl rfl (by first | omega | (simp only [List.length_nil]; omega)) (by unfold maxLen; first | omega | (simp only [List.length_nil]; omega)) (hP52.ownR hOc) (hO52.rows fB_len) ?_
   intro q53 s53 hO53 hPr53 hN53
   refine Cm gg2 s53 [Ml 1 0,(2,Sn),(3,vS q53 (c ++ (putN x50)).length),(4,vI (i : Int)),Ml 5 gg,(6,vS q40 (itL x23).length),(7,vI (k : Int)),(17,vB true),(44,vB true)] [(1,0,cSV s),(5,gg,[vI x23.e.inc,vI x23.e.rank,vI x23.e.beat,vI x23.e.ver,.string x23.e.data])] fun _ _ => ?_
   have ew46 : IntKind.wrap .i64 ((k : Int) + (1)) = ((k + 1 : Nat) : Int) := (wrap_i64 (by omega) (by omega)).trans (by omega)
   refine ⟨_,rfl,?_⟩
   exact ⟨(k + 1,q53,c ++ putN x50),5 - (k + 1),by omega,⟨rfl,rfl,rfl,rfl,rfl,rfl,congrArg (Value.int .i64) ew46,rfl,trivial⟩,⟨rfl,rfl,trivial⟩,rfl,by first | omega | (simp only; omega),by rw [numsB_succ hy50,← List.append_assoc,← hc],hO53,cat_new (hPc.trans hP52) hNc hN53,hPr53.ownR hd5 (hP52.ownR hO5),cat_dis hd5 (hP52.ownR hO5).old hN53,hPr53.pres (hPc.trans hP52) hNc⟩
theorem ac_impl_StateBytes (s : SV) (st : St) (hR : RdS st s) (hb : bigS s.x) (hk : stateOk s.x) : C 201 [.agg #[vS s.p s.x.items.length,vS s.q s.x.floors.length]] st (fun v s' => ∃ q,v = vS q (stB s.x).length ∧ OwnR s' 1 fB q (stB s.x) ∧ New st.next q ∧ Pres st s') := by
 have hs1 : s.x.items.length ≤ 1048576 := hb.1
 have hs2 : s.x.floors.length ≤ 1048576 := hb.2.1
 have hpl1 := putN_len (s.x.items.length : Int)
 have hpl2 := putN_len (s.x.floors.length : Int)
 refine AC.enterX (i := ⟨[1,5,6,8],[1,5,6,8,12,16,23,26,29,32,35,38,41,48,54,62,65],[0,1,2,3,5,6,8,11,17,18,19,20,55,56,57,58],[]⟩) [(8,[3,6,9,12,15],[5,8,11,14,17]),(14,[3],[5])] Tryz.func201 rfl rfl (by kernel_rfl) (by kernel_rfl) Tryz.ntmps201 (Lb rfl) rfl ?_
 refine ⟨_,rfl,?_⟩
 refine Cm 1 st [Ml 1 0,(2,Sn)] [(1,0,cSV s)] fun _ _ => ?_
 refine ⟨_,Od rfl,?_⟩
 refine ⟨_,rfl,(AC.tru (ac_impl_StateOk s st hR hb) hk).mono ?_⟩
 rintro _ st ⟨rfl,rfl⟩
 refine ⟨_,rfl,?_⟩
 refine Cm 1 st [Ml 1 0,(2,Sn),(11,vB false)] [(1,0,cSV s)] fun _ _ => ?_
 refine cxs ?_
 refine ⟨_,rfl,?_⟩
 refine ⟨_,Od rfl,?_⟩
 refine ⟨_,rfl,?_⟩
 refine ⟨_,rfl,(ac_impl_PutNum (s.x.items.length : Int) st).mono ?_⟩
 rintro _ s15 ⟨q15,rfl,hO15,hN15,hP15⟩
 refine Cm 1 s15 [Ml 1 0,(2,Sn),(3,vS q15 (putN (s.x.items.length : Int)).length)] [(1,0,cSV s)] fun _ _ => ?_
 refine ⟨_,rfl,?_⟩
 refine ⟨_,Od rfl,?_⟩
 refine ⟨_,rfl,?_⟩
 refine Cm 1 s15 [Ml 1 0,(2,Sn),(3,vS q15 (putN (s.x.items.length : Int)).length),(17,vS s.p s.x.items.length),(18,vI (s.x.items.length : Int)),(19,vI 0)] [(1,0,cSV s)] fun _ _ => ?_
 refine AW.loopM (fun x : Nat × Option Addr × List Int => [(1,vL 1 0 (0)),(2,.slice none 0 0),(3,vS x.2.1 x.2.2.length),(17,vS s.p s.x.items.length),(18,vI (s.x.items.length : Int)),(19,vI (x.1 : Int))]) (fun x : Nat × Option Addr × List Int => [(1,0,[vS s.p s.x.items.length,vS s.q s.x.floors.length])]) (fun m (x : Nat × Option Addr × List Int) st' => m = s.x.items.length - x.1 ∧ x.1 ≤ s.x.items.length ∧ x.2.2 = putN (s.x.items.length : Int) ++ itsB (s.x.items.take x.1) ∧ OwnR st' 1 fB x.2.1 x.2.2 ∧ New st.next x.2.1 ∧ Pres st st') (0,q15,putN (s.x.items.length : Int)) _ ⟨rfl,rfl,rfl,rfl,rfl,rfl,trivial⟩ ⟨rfl,trivial⟩ ⟨rfl,Nat.zero_le _,(List.append_nil _).symm,hO15,hN15,hP15⟩ ?_
 rintro m ⟨i,q,b⟩ ρ0 ff gg st' ⟨rfl,hi,hv,hO,hN,hP⟩
 simp only at hi hv hO hN
 have hbl : b.length ≤ 5 + 38 * s.x.items.length := by rw [hv,List.length_append]; have := its_len hk i; omega
 refine ⟨_,rfl,?_⟩
 rintro (_|_) h20
 ·replace h20 : ¬ ((i : Int) < (s.x.items.length : Int)) := of_decide_eq_false h20
  refine Cm gg st' [Ml 1 0,(2,Sn),(3,vS q b.length),(17,vS s.p s.x.items.length),(18,vI (s.x.items.length : Int)),(19,vI (i : Int)),(20,vB false)] [(1,0,cSV s)] fun _ _ => ?_
  have hv1 : b = putN (s.x.items.length : Int) ++ itsB s.x.items := by rw [hv,show i = s.x.items.length by omega,List.take_length]
  obtain ⟨s1,hs1'⟩ : ∃ s1,s1 = st' := ⟨_,rfl⟩
  subst hs1'
  refine cxs ?_
  refine ⟨_,rfl,?_⟩
  refine ⟨_,Od rfl,?_⟩
  refine ⟨_,rfl,?_⟩
  refine ⟨_,rfl,(ac_impl_PutNum (s.x.floors.length : Int) s1).mono ?_⟩
  rintro _ s51 ⟨q51,rfl,hO51,hN51,hP51⟩
  have hfm : fl [⟨q,b⟩,⟨q51,putN (s.x.floors.length : Int)⟩] = b ++ putN (s.x.floors.length : Int) := by simp [fl]
  refine op_litR [⟨q,b⟩,⟨q51,putN (s.x.floors.length : Int)⟩] rfl rfl rfl (by decide) rfl rfl rfl (by decide) ?_
  intro q52 s52 hO52 hP52 hN52
  refine ⟨_,rfl,(ac_impl_joined q52 [⟨q,b⟩,⟨q51,putN (s.x.floors.length : Int)⟩] s52 (hO52.rows cRV_len) (fun r hr => by
  simp only [List.mem_cons,List.not_mem_nil,or_false] at hr
  rcases hr with rfl | rfl
  ·exact (hP51.trans hP52).rows (hO.rows fB_len)
  ·exact hP52.rows (hO51.rows fB_len)) (by show (2 : Nat) ≤ 1048576; omega) (by rw [hfm,List.length_append]; omega)).mono ?_⟩
  rintro _ s53 ⟨q53,rfl,hO53,hN53,hP53⟩
  refine Cm gg s53 [Ml 1 0,(2,Sn),(3,vS q53 (fl [⟨q,b⟩,⟨q51,putN (s.x.floors.length : Int)⟩]).length)] [(1,0,cSV s)] fun _ _ => ?_
  have hN53' : New st.next q53 := hN53.le ((hP.trans hP51).trans hP52).1
  have hP53' := ((hP.trans hP51).trans hP52).trans hP53
  refine ⟨_,rfl,?_⟩
  refine ⟨_,Od rfl,?_⟩
  refine ⟨_,rfl,?_⟩
  refine Cm gg s53 [(2,Sn),(3,vS q53 (fl [⟨q,b⟩,⟨q51,putN (s.x.floors.length : Int)⟩]).length),(55,vS s.q s.x.floors.length),(56,vI (s.x.floors.length : Int)),(57,vI 0)] [] fun _ _ => ?_
  refine AW.loopM (fun z : Nat × Option Addr × List Int => [(2,.slice none 0 0),(3,vS z.2.1 z.2.2.length),(55,vS s.q s.x.floors.length),(56,vI (s.x.floors.length : Int)),(57,vI (z.1 : Int))]) (fun z : Nat × Option Addr × List Int => []) (fun m (z : Nat × Option Addr × List Int) st' => m = s.x.floors.length - z.1 ∧ z.1 ≤ s.x.floors.length ∧ z.2.2 = b ++ putN (s.x.floors.length : Int) ++ flsB (s.x.floors.take z.1) ∧ OwnR st' 1 fB z.2.1 z.2.2 ∧ New st.next z.2.1 ∧ Pres st st') (0,q53,fl [⟨q,b⟩,⟨q51,putN (s.x.floors.length : Int)⟩]) _ ⟨rfl,rfl,rfl,rfl,rfl,trivial⟩ trivial ⟨rfl,Nat.zero_le _,hfm.trans (List.append_nil _).symm,hO53,hN53',hP53'⟩ ?_
  rintro m ⟨j,r,f⟩ ρ0 ff gg st' ⟨rfl,hj,hw,hOf,hNf,hPf⟩
  simp only at hj hw hOf hNf
  have hfl : f.length ≤ 10 + 38 * s.x.items.length + 10 * s.x.floors.length := by rw [hw,List.length_append,List.length_append]; have := fls_len s.x.floors j; omega
  refine ⟨_,rfl,?_⟩
  rintro (_|_) h58
  ·replace h58 : ¬ ((j : Int) < (s.x.floors.length : Int)) := of_decide_eq_false h58
   refine Cm gg st' [(2,Sn),(3,vS r f.length),(55,vS s.q s.x.floors.length),(56,vI (s.x.floors.length : Int)),(57,vI (j : Int)),(58,vB false)] [] fun _ _ => ?_
   have hw1 : f = stB s.x := by rw [hw,show j = s.x.floors.length by omega,List.take_length,hv1]; rfl
   refine cxs ?_
   refine cxs ?_
   refine ⟨.inl rfl,_,rfl,r,?_⟩
   rw [← hw1]
   exact ⟨rfl,hOf,hNf,hPf⟩
  ·replace h58 : (j : Int) < (s.x.floors.length : Int) := of_decide_eq_true h58
   refine Cm gg st' [(2,Sn),(3,vS r f.length),(55,vS s.q s.x.floors.length),(56,vI (s.x.floors.length : Int)),(57,vI (j : Int)),(58,vB true)] [] fun _ _ => ?_
   refine cxs ?_
   refine op_at j (hPf.rows hR.2) (by omega) rfl rfl rfl rfl rfl rfl rfl ?_
   intro x59 b59 d59 k59 hy59 hb59 hm59 hc59 ho59
   refine ⟨_,op_lda rfl rfl rfl rfl rfl hm59 hc59 rfl,?_⟩
   refine ⟨_,rfl,?_⟩
   refine ⟨_,Os rfl,?_⟩
   refine Cm (gg + 1) st' [(2,Sn),(3,vS r f.length),Ml 8 gg,(55,vS s.q s.x.floors.length),(56,vI (s.x.floors.length : Int)),(57,vI (j : Int)),(58,vB true)] [(8,gg,[vI x59.id,vI x59.inc])] fun _ _ => ?_
   refine ⟨_,rfl,?_⟩
   refine ⟨_,Od rfl,?_⟩
   refine ⟨_,rfl,(ac_impl_PutNum x59.id st').mono ?_⟩
   rintro _ s64 ⟨q64,rfl,hO64,hN64,hP64⟩
   refine ⟨hP64.2,?_⟩
   refine ⟨_,rfl,?_⟩
   refine ⟨_,Od rfl,?_⟩
   refine ⟨ld_own rfl rfl rfl,?_⟩
   refine ⟨_,rfl,(ac_impl_PutNum x59.inc s64).mono ?_⟩
   rintro _ s67 ⟨q67,rfl,hO67,hN67,hP67⟩
   have hpa := putN_len x59.id
   have hpb := putN_len x59.inc
   have g64 := hP64.trans hP67
   have hfn : fl [⟨r,f⟩,⟨q64,putN x59.id⟩,⟨q67,putN x59.inc⟩] = f ++ flB x59 := by simp [fl,flB]
   have hil := flB_len x59
   refine op_litR [⟨r,f⟩,⟨q64,putN x59.id⟩,⟨q67,putN x59.inc⟩] rfl rfl rfl (by decide) rfl rfl rfl (by decide) ?_
   intro q68 s68 hO68 hP68 hN68
   refine ⟨_,rfl,(ac_impl_joined q68 [⟨r,f⟩,⟨q64,putN x59.id⟩,⟨q67,putN x59.inc⟩] s68 (hO68.rows cRV_len) (fun r hr => by
  simp only [List.mem_cons,List.not_mem_nil,or_false] at hr
  rcases hr with rfl | rfl | rfl
  ·exact (g64.trans hP68).rows (hOf.rows fB_len)
  ·exact (hP67.trans hP68).rows (hO64.rows fB_len)
  ·exact hP68.rows (hO67.rows fB_len)) (by show (3 : Nat) ≤ 1048576; omega) (by rw [hfn,List.length_append]; omega)).mono ?_⟩
   rintro _ s69 ⟨q69,rfl,hO69,hN69,hP69⟩
   refine Cm (gg + 1) s69 [(2,Sn),(3,vS q69 (fl [⟨r,f⟩,⟨q64,putN x59.id⟩,⟨q67,putN x59.inc⟩]).length),Ml 8 gg,(55,vS s.q s.x.floors.length),(56,vI (s.x.floors.length : Int)),(57,vI (j : Int)),(58,vB true)] [(8,gg,[vI x59.id,vI x59.inc])] fun _ _ => ?_
   have ew70 : IntKind.wrap .i64 ((j : Int) + (1)) = ((j + 1 : Nat) : Int) := (wrap_i64 (by omega) (by omega)).trans (by omega)
   refine ⟨_,rfl,?_⟩
   exact ⟨(j + 1,q69,fl [⟨r,f⟩,⟨q64,putN x59.id⟩,⟨q67,putN x59.inc⟩]),s.x.floors.length - (j + 1),by omega,⟨rfl,rfl,rfl,rfl,congrArg (Value.int .i64) ew70,trivial⟩,trivial,rfl,by first | omega | (simp only; omega),by rw [show flsB (s.x.floors.take (j + 1)) = flsB (s.x.floors.take j) ++ flB x59 from fm_succ hy59,← List.append_assoc,← hw]; exact hfn,hO69,hN69.le ((hPf.trans g64).trans hP68).1,((hPf.trans g64).trans hP68).trans hP69⟩
 ·replace h20 : (i : Int) < (s.x.items.length : Int) := of_decide_eq_true h20
  refine Cm gg st' [Ml 1 0,(2,Sn),(3,vS q b.length),(17,vS s.p s.x.items.length),(18,vI (s.x.items.length : Int)),(19,vI (i : Int)),(20,vB true)] [(1,0,cSV s)] fun _ _ => ?_
  obtain ⟨s1,hs1'⟩ : ∃ s1,s1 = st' := ⟨_,rfl⟩
  subst hs1'
  refine cxs ?_
  refine op_at i (hP.rows hR.1) (by omega) rfl rfl rfl rfl rfl rfl rfl ?_
  intro x21 b21 d21 k21 hy21 hb21 hm21 hc21 ho21
  refine ⟨_,op_lda rfl rfl rfl rfl rfl hm21 hc21 rfl,?_⟩
  refine ⟨_,rfl,?_⟩
  refine ⟨_,Os rfl,?_⟩
  refine Cm (gg + 1) s1 [Ml 1 0,(2,Sn),(3,vS q b.length),Ml 5 gg,(17,vS s.p s.x.items.length),(18,vI (s.x.items.length : Int)),(19,vI (i : Int)),(20,vB true)] [(1,0,cSV s),(5,gg,[vI x21.id,vI x21.e.inc,vI x21.e.rank,vI x21.e.beat,vI x21.e.ver,.string x21.e.data])] fun _ _ => ?_
  refine ⟨_,rfl,?_⟩
  refine ⟨_,Od rfl,?_⟩
  refine ⟨_,rfl,?_⟩
  refine ⟨_,Os rfl,?_⟩
  refine Cm (gg + 2) s1 [Ml 1 0,(2,Sn),(3,vS q b.length),Ml 5 gg,(6,vL 6 0 (gg + 1)),(17,vS s.p s.x.items.length),(18,vI (s.x.items.length : Int)),(19,vI (i : Int)),(20,vB true)] [(1,0,cSV s),(5,gg,[vI x21.id,vI x21.e.inc,vI x21.e.rank,vI x21.e.beat,vI x21.e.ver,.string x21.e.data]),(6,gg + 1,[vI x21.e.inc,vI x21.e.rank,vI x21.e.beat,vI x21.e.ver,.string x21.e.data])] fun _ _ => ?_
  have hdz : x21.e.data.size ≤ 8 := okSize hk (List.mem_of_getElem? hy21)
  refine ⟨_,rfl,?_⟩
  refine ⟨_,Od rfl,?_⟩
  refine ⟨_,rfl,(ac_impl_PutNum x21.id s1).mono ?_⟩
  rintro _ s28 ⟨q28,rfl,hO28,hN28,hP28⟩
  refine ⟨hP28.2,?_⟩
  refine ⟨_,rfl,?_⟩
  refine ⟨_,Od rfl,?_⟩
  refine ⟨ld_own rfl rfl rfl,?_⟩
  refine ⟨_,rfl,(ac_impl_PutNum x21.e.inc s28).mono ?_⟩
  rintro _ s31 ⟨q31,rfl,hO31,hN31,hP31⟩
  refine ⟨hP31.low hP28,?_⟩
  refine ⟨_,rfl,?_⟩
  refine ⟨_,Od rfl,?_⟩
  refine ⟨ld_own rfl rfl rfl,?_⟩
  refine ⟨_,rfl,(ac_impl_PutNum x21.e.rank s31).mono ?_⟩
  rintro _ s34 ⟨q34,rfl,hO34,hN34,hP34⟩
  refine ⟨hP34.low (hP28.trans hP31),?_⟩
  refine ⟨_,rfl,?_⟩
  refine ⟨_,Od rfl,?_⟩
  refine ⟨ld_own rfl rfl rfl,?_⟩
  refine ⟨_,rfl,(ac_impl_PutNum x21.e.beat s34).mono ?_⟩
  rintro _ s37 ⟨q37,rfl,hO37,hN37,hP37⟩
  refine ⟨hP37.low ((hP28.trans hP31).trans hP34),?_⟩
  refine ⟨_,rfl,?_⟩
  refine ⟨_,Od rfl,?_⟩
  refine ⟨ld_own rfl rfl rfl,?_⟩
  refine ⟨_,rfl,(ac_impl_PutNum x21.e.ver s37).mono ?_⟩
  rintro _ s40 ⟨q40,rfl,hO40,hN40,hP40⟩
  refine ⟨hP40.low (((hP28.trans hP31).trans hP34).trans hP37),?_⟩
  refine ⟨_,rfl,?_⟩
  refine ⟨_,Od rfl,?_⟩
  refine ⟨ld_own rfl rfl rfl,?_⟩
  refine ⟨_,rfl,(ac_impl_PutText x21.e.data s40 (by first | assumption | omega)).mono ?_⟩
  rintro _ s43 ⟨q43,rfl,hO43,hN43,hP43⟩
  have g43 := hP43
  have g40 := hP40.trans g43
  have g37 := hP37.trans g40
  have g34 := hP34.trans g37
  have g31 := hP31.trans g34
  have g28 := hP28.trans g31
  have hfl : fl [⟨q,b⟩,⟨q28,putN x21.id⟩,⟨q31,putN x21.e.inc⟩,⟨q34,putN x21.e.rank⟩,⟨q37,putN x21.e.beat⟩,⟨q40,putN x21.e.ver⟩,⟨q43,putS x21.e.data⟩] = b ++ itB x21 := by simp [fl,itB,numsB,itL]
  have hil := itB_len hdz
  refine op_litR [⟨q,b⟩,⟨q28,putN x21.id⟩,⟨q31,putN x21.e.inc⟩,⟨q34,putN x21.e.rank⟩,⟨q37,putN x21.e.beat⟩,⟨q40,putN x21.e.ver⟩,⟨q43,putS x21.e.data⟩] rfl rfl rfl (by decide) rfl rfl rfl (by decide) ?_
  intro q44 s44 hO44 hP44 hN44
  refine ⟨_,rfl,(ac_impl_joined q44 [⟨q,b⟩,⟨q28,putN x21.id⟩,⟨q31,putN x21.e.inc⟩,⟨q34,putN x21.e.rank⟩,⟨q37,putN x21.e.beat⟩,⟨q40,putN x21.e.ver⟩,⟨q43,putS x21.e.data⟩] s44 (hO44.rows cRV_len) (fun r hr => by
  simp only [List.mem_cons,List.not_mem_nil,or_false] at hr
  rcases hr with rfl | rfl | rfl | rfl | rfl | rfl | rfl
  ·exact (g28.trans hP44).rows (hO.rows fB_len)
  ·exact (g31.trans hP44).rows (hO28.rows fB_len)
  ·exact (g34.trans hP44).rows (hO31.rows fB_len)
  ·exact (g37.trans hP44).rows (hO34.rows fB_len)
  ·exact (g40.trans hP44).rows (hO37.rows fB_len)
  ·exact (g43.trans hP44).rows (hO40.rows fB_len)
  ·exact hP44.rows (hO43.rows fB_len)) (by show (7 : Nat) ≤ 1048576; omega) (by rw [hfl,List.length_append]; omega)).mono ?_⟩
  rintro _ s45 ⟨q45,rfl,hO45,hN45,hP45⟩
  refine Cm (gg + 2) s45 [Ml 1 0,(2,Sn),(3,vS q45 (fl [⟨q,b⟩,⟨q28,putN x21.id⟩,⟨q31,putN x21.e.inc⟩,⟨q34,putN x21.e.rank⟩,⟨q37,putN x21.e.beat⟩,⟨q40,putN x21.e.ver⟩,⟨q43,putS x21.e.data⟩]).length),Ml 5 gg,(6,vL 6 0 (gg + 1)),(17,vS s.p s.x.items.length),(18,vI (s.x.items.length : Int)),(19,vI (i : Int)),(20,vB true)] [(1,0,cSV s),(5,gg,[vI x21.id,vI x21.e.inc,vI x21.e.rank,vI x21.e.beat,vI x21.e.ver,.string x21.e.data]),(6,gg + 1,[vI x21.e.inc,vI x21.e.rank,vI x21.e.beat,vI x21.e.ver,.string x21.e.data])] fun _ _ => ?_
  have ew46 : IntKind.wrap .i64 ((i : Int) + (1)) = ((i + 1 : Nat) : Int) := (wrap_i64 (by omega) (by omega)).trans (by omega)
  refine ⟨_,rfl,?_⟩
  exact ⟨(i + 1,q45,fl [⟨q,b⟩,⟨q28,putN x21.id⟩,⟨q31,putN x21.e.inc⟩,⟨q34,putN x21.e.rank⟩,⟨q37,putN x21.e.beat⟩,⟨q40,putN x21.e.ver⟩,⟨q43,putS x21.e.data⟩]),s.x.items.length - (i + 1),by omega,⟨rfl,rfl,rfl,rfl,rfl,congrArg (Value.int .i64) ew46,trivial⟩,⟨rfl,trivial⟩,rfl,by first | omega | (simp only; omega),by rw [show itsB (s.x.items.take (i + 1)) = itsB (s.x.items.take i) ++ itB x21 from fm_succ hy21,← List.append_assoc,← hv]; exact hfl,hO45,hN45.le ((hP.trans g28).trans hP44).1,((hP.trans g28).trans hP44).trans hP45⟩
end Go.Proofs.YtpnolkhfeliehaaGreat.AM
