/- Trees, messages and nodes as plain Lean, with the places of their rows. -/
import Derived.Test.YtopcpcoklgepnaaU2
namespace Go.Proofs.Ytopcpcoklgepnaa.AM
open Go Go.Proofs
set_option linter.unusedVariables false
set_option linter.unusedSimpArgs false
/-- Pieces of one's own that came between two states. -/
def Frs (a b : St) (l : List Pc) : Prop := OwnP b l ∧ NewP a.next l ∧ Pres a b
theorem Frs.join {a b c : St} {l m : List Pc} (h : Frs a b l) (k : Frs b c m) : Frs a c (l ++ m) :=
  ⟨h.1.join k.2.2 k.1 k.2.1, h.2.1.app (k.2.1.le h.2.2.1), h.2.2.trans k.2.2⟩
theorem OwnP.markR {st st' : St} {a l l' : List Pc} (h : OwnP st (a ++ l)) (hM : OwnP st' l') (hp : l'.map (·.p) = l.map (·.p)) (hL : PrL (l.map (·.p)) st st') : OwnP st' (a ++ l') := by
  have hd := (List.pairwise_append.1 h.2).2.2
  refine (h.left.prl hL fun c hc p hp' => ?_).app hM fun x hx b hb => ?_
  · obtain ⟨d, hd1, rfl⟩ := List.mem_map.1 hp'
    exact (hd c hc d hd1).symm
  · have : b.p ∈ l.map (·.p) := by rw [← hp]; exact List.mem_map_of_mem hb
    obtain ⟨d, hd1, he⟩ := List.mem_map.1 this
    rw [← he]; exact hd x hx d hd1
theorem map_app2 {a a' b b' : List Pc} (h : a'.map (·.p) = a.map (·.p)) (k : b'.map (·.p) = b.map (·.p)) : (a' ++ b').map (·.p) = (a ++ b).map (·.p) := by rw [List.map_append, List.map_append, h, k]
theorem PrL.inl {a b : List Pc} {st st' : St} (h : PrL (a.map (·.p)) st st') : PrL ((a ++ b).map (·.p)) st st' := h.mono fun p hp => by rw [List.map_append]; exact List.mem_append_left _ hp
theorem PrL.inr {a b : List Pc} {st st' : St} (h : PrL (b.map (·.p)) st st') : PrL ((a ++ b).map (·.p)) st st' := h.mono fun p hp => by rw [List.map_append]; exact List.mem_append_right _ hp
/-! Trees -/
structure Tr where
  leaves : List Int
  root : Int
structure TV extends RV where
  root : Int
abbrev TV.x (t : TV) : Tr := ⟨t.l, t.root⟩
abbrev cTV (t : TV) : List Value := [vS t.p t.l.length, vI t.root]
/-! Exchanges, rises -/
structure Ses where
  peer : Int
  num : Int
  inn : Bool
  age : Int
structure Ris where
  inc : Int
  beat : Int
  tick : Int
abbrev cSess (x : Ses) : List Value := [vI x.peer, vI x.num, vB x.inn, vI x.age]
abbrev cRise (x : Ris) : List Value := [vI x.inc, vI x.beat, vI x.tick]
theorem len_cSess (x : Ses) : (cSess x).length = 4 := rfl
theorem len_cRise (x : Ris) : (cRise x).length = 3 := rfl
def zSes : Ses := ⟨0, 0, false, 0⟩
def zRis : Ris := ⟨0, 0, 0⟩
structure SesV where
  p : Option Addr
  l : List Ses
structure RisV where
  p : Option Addr
  l : List Ris
abbrev pcSes (g : SesV) : List Pc := [pcR 4 cSess g.p g.l]
abbrev pcRis (g : RisV) : List Pc := [pcR 3 cRise g.p g.l]
theorem OwnP.rdSes {st : St} {g : SesV} (h : OwnP st (pcSes g)) : Rows st 4 cSess g.p g.l := (own_one (by decide) len_cSess h).rows len_cSess
theorem OwnP.rdRis {st : St} {g : RisV} (h : OwnP st (pcRis g)) : Rows st 3 cRise g.p g.l := (own_one (by decide) len_cRise h).rows len_cRise
/-! Messages -/
structure Mg where
  kind : Int
  frm : Int
  to : Int
  num : Int
  hi : Int
  tree : Tr
  vec : List Int
  leaves : List Int
  part : Sta
  marks : List Flr
structure MV where
  kind : Int
  frm : Int
  to : Int
  num : Int
  hi : Int
  tree : TV
  vec : RV
  leaves : RV
  part : SV
  marks : FV
abbrev MV.x (m : MV) : Mg := ⟨m.kind, m.frm, m.to, m.num, m.hi, m.tree.x, m.vec.l, m.leaves.l, m.part.x, m.marks.l⟩
abbrev cMV (m : MV) : List Value := [vI m.kind, vI m.frm, vI m.to, vI m.num, vI m.hi, vS m.tree.p m.tree.l.length, vI m.tree.root, vS m.vec.p m.vec.l.length, vS m.leaves.p m.leaves.l.length, vS m.part.p m.part.x.items.length, vS m.part.q m.part.x.floors.length, vS m.marks.p m.marks.l.length]
structure RdM (st : St) (m : MV) : Prop where
  tree : Rows st 1 fI m.tree.p m.tree.l
  vec : Rows st 1 fI m.vec.p m.vec.l
  leaves : Rows st 1 fI m.leaves.p m.leaves.l
  part : RdS st m.part
  marks : Rows st 2 cFlr m.marks.p m.marks.l
theorem RdM.pres {st st' : St} {m : MV} (h : RdM st m) (k : Pres st st') : RdM st' m := ⟨k.rows h.tree, k.rows h.vec, k.rows h.leaves, h.part.pres k, k.rows h.marks⟩
structure bigM (x : Mg) : Prop where
  tree : szOk x.tree.leaves.length
  vec : szOk x.vec.length
  leaves : szOk x.leaves.length
  part : bigS x.part
  marks : szOk x.marks.length
structure maxM (x : Mg) : Prop where
  tree : x.tree.leaves.length ≤ maxLen
  vec : x.vec.length ≤ maxLen
  leaves : x.leaves.length ≤ maxLen
  part : maxS x.part
  marks : x.marks.length ≤ maxLen
abbrev pcMV (m : MV) : List Pc := pcIs m.tree.toRV ++ (pcIs m.vec ++ (pcIs m.leaves ++ (pcS m.part ++ pcFV m.marks)))
theorem OwnP.rdM {st : St} {m : MV} (h : OwnP st (pcMV m)) : RdM st m :=
  ⟨h.left.rdIs, h.right.left.rdIs, h.right.right.left.rdIs, h.right.right.right.left.rdS, h.right.right.right.right.rdFV⟩
def szMg (x : Mg) : Nat := x.tree.leaves.length + x.vec.length + x.leaves.length + szSta x.part + x.marks.length
theorem sz_bigM {x : Mg} (h : szMg x ≤ 1048576) : bigM x := by
  unfold szMg at h
  exact ⟨by unfold szOk; omega, by unfold szOk; omega, by unfold szOk; omega, sz_bigS (by omega), by unfold szOk; omega⟩
/-! Nodes -/
structure Nd where
  id : Int
  n : Int
  s : Sta
  t : Tr
  g : Lg
  got : List Int
  acked : List Int
  seen : List (List Int)
  num : Int
  slots : Int
  sess : List Ses
  wait : Int
  limit : Int
  clock : Int
  rises : List Ris
structure NV where
  id : Int
  n : Int
  s : SV
  t : TV
  g : LV
  got : RV
  acked : RV
  seen : TT
  num : Int
  slots : Int
  sess : SesV
  wait : Int
  limit : Int
  clock : Int
  rises : RisV
abbrev NV.x (v : NV) : Nd := ⟨v.id, v.n, v.s.x, v.t.x, v.g.x, v.got.l, v.acked.l, v.seen.x, v.num, v.slots, v.sess.l, v.wait, v.limit, v.clock, v.rises.l⟩
abbrev cNV (v : NV) : List Value := [vI v.id, vI v.n, vS v.s.p v.s.x.items.length, vS v.s.q v.s.x.floors.length, vS v.t.p v.t.l.length, vI v.t.root, vI v.g.cap, vI v.g.frm, vS v.g.p v.g.l.length, vS v.got.p v.got.l.length, vS v.acked.p v.acked.l.length, vS v.seen.p v.seen.t.length, vI v.num, vI v.slots, vS v.sess.p v.sess.l.length, vI v.wait, vI v.limit, vI v.clock, vS v.rises.p v.rises.l.length]
/-- A node of one's own: its log's row may be a later part of a row. -/
structure NW where
  id : Int
  n : Int
  s : SV
  t : TV
  g : LW
  got : RV
  acked : RV
  seen : TT
  num : Int
  slots : Int
  sess : SesV
  wait : Int
  limit : Int
  clock : Int
  rises : RisV
abbrev NW.v (v : NW) : NV := ⟨v.id, v.n, v.s, v.t, v.g.v, v.got, v.acked, v.seen, v.num, v.slots, v.sess, v.wait, v.limit, v.clock, v.rises⟩
abbrev NW.x (v : NW) : Nd := v.v.x
structure RdN (st : St) (v : NV) : Prop where
  s : RdS st v.s
  t : Rows st 1 fI v.t.p v.t.l
  g : RdL st v.g.p v.g.l
  got : Rows st 1 fI v.got.p v.got.l
  acked : Rows st 1 fI v.acked.p v.acked.l
  seen : RdT st v.seen.p v.seen.t
  sess : Rows st 4 cSess v.sess.p v.sess.l
  rises : Rows st 3 cRise v.rises.p v.rises.l
theorem RdN.pres {st st' : St} {v : NV} (h : RdN st v) (k : Pres st st') : RdN st' v := ⟨h.s.pres k, k.rows h.t, h.g.pres k, k.rows h.got, k.rows h.acked, h.seen.pres k, k.rows h.sess, k.rows h.rises⟩
structure bigN (x : Nd) : Prop where
  s : bigS x.s
  t : szOk x.t.leaves.length
  g : bigLog x.g
  got : szOk x.got.length
  acked : szOk x.acked.length
  seen : bigT x.seen
  sess : szOk x.sess.length
  rises : szOk x.rises.length
structure maxN (v : NV) : Prop where
  s : maxS v.s.x
  t : v.t.l.length ≤ maxLen
  g : maxL v.g.l
  got : v.got.l.length ≤ maxLen
  acked : v.acked.l.length ≤ maxLen
  seen : maxT v.seen.t
  sess : v.sess.l.length ≤ maxLen
  rises : v.rises.l.length ≤ maxLen
abbrev pcNW (v : NW) : List Pc := pcS v.s ++ (pcIs v.t.toRV ++ (pcLog v.g ++ (pcIs v.got ++ (pcIs v.acked ++ (pcTT v.seen ++ (pcSes v.sess ++ pcRis v.rises))))))
theorem OwnP.rdN {st : St} {v : NW} (h : OwnP st (pcNW v)) : RdN st v.v :=
  ⟨h.left.rdS, h.right.left.rdIs, h.right.right.left.rdLog, h.right.right.right.left.rdIs, h.right.right.right.right.left.rdIs, h.right.right.right.right.right.left.rdT, h.right.right.right.right.right.right.left.rdSes, h.right.right.right.right.right.right.right.rdRis⟩
def szNd (v : NV) : Nat := szSta v.s.x + v.t.l.length + szL v.g.l + v.got.l.length + v.acked.l.length + (v.seen.t.length + cntT v.seen.t) + v.sess.l.length + v.rises.l.length
theorem sz_bigN {v : NV} (h : szNd v ≤ 1048576) : bigN v.x := by
  unfold szNd at h
  have k : ∀ n : Nat, n ≤ 1048576 → szOk n := fun n h => h
  exact ⟨sz_bigS (s := v.s.x) (by omega), k v.t.l.length (by omega), bigLog_iff.2 (sz_bigL (by omega)), k v.got.l.length (by omega), k v.acked.l.length (by omega), sz_bigT (g := v.seen) (by omega), k v.sess.l.length (by omega), k v.rises.l.length (by omega)⟩
def cntMsg (x : Mg) : Nat := x.tree.leaves.length + x.vec.length + x.leaves.length + cntS x.part + 2 * x.marks.length
def cntNode (x : Nd) : Nat := cntS x.s + x.t.leaves.length + cntLog x.g + x.got.length + x.acked.length + cntTab x.seen + 4 * x.sess.length + 3 * x.rises.length
theorem cntS_le (s : Sta) : cntS s ≤ 6 * szSta s := by unfold cntS szSta szI; omega
theorem cnt_Msg {x : Mg} (h : szMg x ≤ 1048576) : cntMsg x ≤ 8388608 := by
  have h1 := cntS_le x.part
  unfold szMg at h
  unfold cntMsg
  omega
theorem cnt_Node {v : NV} (h : szNd v ≤ 1048576) : cntNode v.x ≤ 8388608 := by
  have h1 := cntS_le v.s.x
  have h2 := cntLog_l v.g
  have h3 := cntL_le v.g.l
  have h4 := cntTab_t v.seen.t
  unfold szNd at h
  show cntS v.s.x + v.t.l.length + cntLog v.g.x + v.got.l.length + v.acked.l.length + cntTab (rls v.seen.t) + 4 * v.sess.l.length + 3 * v.rises.l.length ≤ 8388608
  omega
end Go.Proofs.Ytopcpcoklgepnaa.AM
