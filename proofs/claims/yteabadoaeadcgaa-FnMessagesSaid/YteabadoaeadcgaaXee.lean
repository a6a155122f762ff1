/- Part 5 of the texts on which the law's proof rests. -/
import Derived.Test.YteabadoaeadcgaaXed
namespace Go.Proofs.Yteabadoaeadcgaa.AM
open Go Go.Proofs
set_option linter.unusedVariables false
set_option linter.unusedSimpArgs false
set_option maxRecDepth 100000
set_option maxHeartbeats 4000000
theorem AC.fls {f : FuncId} {args : List Value} {st : St} {P : Prop} (h : C f args st (fun v s => ∃ x,v = .bool x ∧ (x = true ↔ P) ∧ s = st)) (hp : ¬ P) : C f args st (fun v s => v = vB false ∧ s = st) :=
 h.mono fun v s ⟨x,h1,h2,h3⟩ => ⟨by rw [h1]; cases x; rfl; exact absurd (h2.1 rfl) hp,h3⟩
theorem putN_inj {n m : Int} {r t : List Int} (hn : 0 ≤ n ∧ n ≤ 2147483647) (hm : 0 ≤ m ∧ m ≤ 2147483647) (h : putN n ++ r = putN m ++ t) : n = m ∧ r = t := by
 have h1 : Sf (putN n ++ r) 0 (putN n ++ r) := Sf.start _
 have h2 : Sf (putN n ++ r) 0 (putN m ++ t) := by rw [← h]; exact Sf.start _
 rcases hr : rnF (putN n ++ r) 0 false with ⟨x,k,b⟩
 obtain ⟨e1,_,e2⟩ := h1.num hn rfl hr.symm
 obtain ⟨e3,_,e4⟩ := h2.num hm rfl hr.symm
 obtain ⟨k1,rfl,_,e2⟩ := e2
 obtain ⟨k2,hk,_,e4⟩ := e4
 have : k1 = k2 := by omega
 subst this
 exact ⟨by rw [← e1,e3],by rw [← e2,e4]⟩
theorem putS_inj {n m : ByteArray} {r t : List Int} (hn : n.size ≤ 2147483647) (hm : m.size ≤ 2147483647) (h : putS n ++ r = putS m ++ t) : n = m ∧ r = t := by
 have h1 : Sf (putS n ++ r) 0 (putS n ++ r) := Sf.start _
 have h2 : Sf (putS n ++ r) 0 (putS m ++ t) := by rw [← h]; exact Sf.start _
 rcases hr : gtR (putS n ++ r) 0 with ⟨x,k,b⟩
 obtain ⟨e1,_,e2⟩ := h1.gt hn hr.symm
 obtain ⟨e3,_,e4⟩ := h2.gt hm hr.symm
 obtain ⟨k1,rfl,_,e2⟩ := e2
 obtain ⟨k2,hk,_,e4⟩ := e4
 have : k1 = k2 := by omega
 subst this
 exact ⟨by rw [← e1,e3],by rw [← e2,e4]⟩
def itR (x : Itm) : Prop := (0 ≤ x.id ∧ x.id ≤ 2147483647) ∧ (0 ≤ x.e.inc ∧ x.e.inc ≤ 2147483647) ∧ (0 ≤ x.e.rank ∧ x.e.rank ≤ 2147483647) ∧ (0 ≤ x.e.beat ∧ x.e.beat ≤ 2147483647) ∧ (0 ≤ x.e.ver ∧ x.e.ver ≤ 2147483647) ∧ x.e.data.size ≤ 2147483647
def flR (x : Flr) : Prop := (0 ≤ x.id ∧ x.id ≤ 2147483647) ∧ (0 ≤ x.inc ∧ x.inc ≤ 2147483647)
theorem itB_inj {x y : Itm} {r t : List Int} (hx : itR x) (hy : itR y) (h : itB x ++ r = itB y ++ t) : x = y ∧ r = t := by
 have e : ∀ (x : Itm) (r : List Int),itB x ++ r = putN x.id ++ (putN x.e.inc ++ (putN x.e.rank ++ (putN x.e.beat ++ (putN x.e.ver ++ (putS x.e.data ++ r))))) := fun x r => by simp [itB,numsB,itL,List.append_assoc]
 rw [e,e] at h
 obtain ⟨x1,x2,x3,x4,x5,x6⟩ := hx
 obtain ⟨y1,y2,y3,y4,y5,y6⟩ := hy
 obtain ⟨a1,h⟩ := putN_inj x1 y1 h
 obtain ⟨a2,h⟩ := putN_inj x2 y2 h
 obtain ⟨a3,h⟩ := putN_inj x3 y3 h
 obtain ⟨a4,h⟩ := putN_inj x4 y4 h
 obtain ⟨a5,h⟩ := putN_inj x5 y5 h
 obtain ⟨a6,hfin⟩ := putS_inj x6 y6 h
 obtain ⟨i,⟨b,c,d,f,g⟩⟩ := x
 obtain ⟨i',⟨b',c',d',f',g'⟩⟩ := y
 simp only at a1 a2 a3 a4 a5 a6
 subst a1 a2 a3 a4 a5 a6
 exact ⟨rfl,hfin⟩
theorem flB_inj {x y : Flr} {r t : List Int} (hx : flR x) (hy : flR y) (h : flB x ++ r = flB y ++ t) : x = y ∧ r = t := by
 simp only [flB,List.append_assoc] at h
 obtain ⟨a1,h⟩ := putN_inj hx.1 hy.1 h
 obtain ⟨a2,hfin⟩ := putN_inj hx.2 hy.2 h
 obtain ⟨i,b⟩ := x
 obtain ⟨i',b'⟩ := y
 simp only at a1 a2
 subst a1 a2
 exact ⟨rfl,hfin⟩
theorem rows_inj {α : Type} {g : α → List Int} {Q : α → Prop} (hg : ∀ {x y : α} {r t : List Int},Q x → Q y → g x ++ r = g y ++ t → x = y ∧ r = t) : ∀ {a b : List α} {r t : List Int},a.length = b.length → (∀ x ∈ a,Q x) → (∀ x ∈ b,Q x) → a.flatMap g ++ r = b.flatMap g ++ t → a = b ∧ r = t
 | [],[],r,t,_,_,_,h => ⟨rfl,h⟩
 | [],y :: b,r,t,hl,_,_,_ => by cases hl
 | x :: a,[],r,t,hl,_,_,_ => by cases hl
 | x :: a,y :: b,r,t,hl,ha,hb,h => by
  simp only [List.flatMap_cons,List.append_assoc] at h
  obtain ⟨h1,h2⟩ := hg (ha x (List.mem_cons_self ..)) (hb y (List.mem_cons_self ..)) h
  obtain ⟨h3,h4⟩ := rows_inj hg (by simpa using hl) (fun z hz => ha z (List.mem_cons_of_mem _ hz)) (fun z hz => hb z (List.mem_cons_of_mem _ hz)) h2
  rw [h1,h3]; exact ⟨rfl,h4⟩
theorem items_R {s : Sta} (h : stateOk s) : ∀ x ∈ s.items,itR x := fun x hx => by
 obtain ⟨j,hj⟩ := List.getElem?_of_mem hx
 exact item_rng h hj
theorem floors_R {s : Sta} (h : stateOk s) : ∀ x ∈ s.floors,flR x := fun x hx => by
 obtain ⟨j,hj⟩ := List.getElem?_of_mem hx
 exact floor_rng h hj
theorem stB_app {a b : Sta} {r t : List Int} (ha : stateOk a) (hb : stateOk b) (h : stB a ++ r = stB b ++ t) : a = b ∧ r = t := by
 rw [stB_eq,stB_eq] at h
 simp only [List.append_assoc] at h
 have a5 := items_len ha
 have b5 := items_len hb
 have a6 := marks_len ha.2
 have b6 := marks_len hb.2
 obtain ⟨e1,h⟩ := putN_inj ⟨by omega,by omega⟩ ⟨by omega,by omega⟩ h
 obtain ⟨e2,h⟩ := rows_inj (g := itB) (Q := itR) itB_inj (by omega) (items_R ha) (items_R hb) h
 obtain ⟨e3,h⟩ := putN_inj ⟨by omega,by omega⟩ ⟨by omega,by omega⟩ h
 obtain ⟨e4,h⟩ := rows_inj (g := flB) (Q := flR) flB_inj (by omega) (floors_R ha) (floors_R hb) h
 exact ⟨sta_of e2 e4,h⟩
theorem stB_inj {a b : Sta} (ha : stateOk a) (hb : stateOk b) (h : stB a = stB b) : a = b := (stB_app (r := []) (t := []) ha hb (by rw [h])).1
theorem parse_of {s u : Sta} {b : Bool} (h : stateOk s) (he : (u,b) = parseS (stB s)) : b = true ∧ u = s := by
 cases b with
 | true =>
  obtain ⟨h1,h2⟩ := parse_yes he
  exact ⟨rfl,stB_inj h1 h h2⟩
 | false =>
  unfold parseS at he
  rw [dif_pos ⟨s,h,rfl⟩] at he
  injection he with _ he; cases he
def nilMg : Mg := ⟨0,0,0,0,0,⟨[],0⟩,[],[],nilS,[]⟩
abbrev nilMV : MV := ⟨0,0,0,0,0,⟨⟨none,[]⟩,0⟩,⟨none,[]⟩,⟨none,[]⟩,⟨none,none,nilS⟩,⟨none,[]⟩⟩
theorem pcM_nil {st : St} : OwnP st (pcMV nilMV) := by
 refine ⟨fun c hc => ?_,?_⟩
 ·simp only [pcMV,pcIs,pcS,pcFV,List.cons_append,List.nil_append,List.mem_cons,List.not_mem_nil,or_false] at hc
  rcases hc with rfl | rfl | rfl | rfl | rfl | rfl <;> exact .inl ⟨rfl,rfl⟩
 ·have hd : ∀ {p : Option Addr},Dis none p := fun x y hx _ => by cases hx
  simp only [pcMV,pcIs,pcS,pcFV,List.cons_append,List.nil_append]
  repeat' first | exact List.Pairwise.nil | refine List.Pairwise.cons (fun _ _ => hd) ?_
theorem newM_nil {n : Nat} : NewP n (pcMV nilMV) := fun c hc => by
 simp only [pcMV,pcIs,pcS,pcFV,List.cons_append,List.nil_append,List.mem_cons,List.not_mem_nil,or_false] at hc
 rcases hc with rfl | rfl | rfl | rfl | rfl | rfl <;> exact New.none
theorem nilMg_big : bigM nilMg := ⟨Nat.zero_le _,Nat.zero_le _,Nat.zero_le _,bigS_nil,Nat.zero_le _⟩
open Classical in
noncomputable def parseM (l : List Int) : Mg × Bool := if h : ∃ g,msgOk g ∧ mgB g = l then (Classical.choose h,true) else (nilMg,false)
theorem parsm_ok {u : Mg} {l : List Int} (h1 : msgOk u) (h2 : mgB u = l) (h3 : ∀ g,msgOk g → mgB g = l → u = g) : (u,true) = parseM l := by
 unfold parseM
 have h : ∃ s,msgOk s ∧ mgB s = l := ⟨u,h1,h2⟩
 rw [dif_pos h,← h3 _ (Classical.choose_spec h).1 (Classical.choose_spec h).2]
theorem parsm_no {l : List Int} (h : ∀ g,msgOk g → mgB g = l → False) : (nilMg,false) = parseM l := by
 unfold parseM
 rw [dif_neg (fun ⟨s,h1,h2⟩ => h s h1 h2)]
theorem parsm_yes {u : Mg} {l : List Int} (h : (u,true) = parseM l) : msgOk u ∧ mgB u = l := by
 unfold parseM at h
 split at h
 ·rename_i hx
  injection h with h _
  rw [h]; exact Classical.choose_spec hx
 ·injection h with _ h; cases h
theorem sm_big {g : Mg} (h : smM g) : bigM g := ⟨by unfold szOk; have := h.tree; omega,by unfold szOk; have := h.vec; omega,by unfold szOk; have := h.leaves; omega,big_ok h.part,by unfold szOk; have := h.marks; omega⟩
theorem parsm_big {u : Mg} {b : Bool} {l : List Int} (h : (u,b) = parseM l) : bigM u := by
 cases b with
 | true => exact sm_big (msg_sm (parsm_yes h).1)
 | false =>
  unfold parseM at h
  split at h
  ·injection h with _ h; cases h
  ·injection h with h _; rw [h]; exact nilMg_big
def mgR (g : Mg) : List Int := putN g.kind ++ (putN g.frm ++ (putN g.to ++ (putN g.num ++ (putN g.hi ++ (putN (g.tree.leaves.length : Int) ++ (numsB g.tree.leaves ++ (putN g.tree.root ++ (putN (g.vec.length : Int) ++ (numsB g.vec ++ (putN (g.leaves.length : Int) ++ (numsB g.leaves ++ (putN ((stB g.part).length : Int) ++ (stB g.part ++ (putN (g.marks.length : Int) ++ flsB g.marks))))))))))))))
theorem mgB0_eq (g : Mg) : mgB0 g = 82 :: 75 :: mgR g := by
 simp [mgB0,mgH,mgR,mgN,numsB,numsL,List.append_assoc]
theorem mg_cut {g : Mg} {l : List Int} (h : mgB g = l) : l.take (l.length - 4) = mgB0 g ∧ l.drop (l.length - 4) = crcB (mgB0 g) ∧ 6 ≤ l.length ∧ l.take 2 = [82,75] := by
 have h4 : (crcB (mgB0 g)).length = 4 := rfl
 have hl : l.length = (mgB0 g).length + 4 := by rw [← h,mgB,List.length_append,h4]
 have hn : l.length - 4 = (mgB0 g).length := by omega
 have h0 : 2 ≤ (mgB0 g).length := by rw [mgB0_eq]; simp only [List.length_cons]; omega
 refine ⟨?_,?_,by omega,?_⟩
 ·rw [hn,← h,mgB,List.take_left]
 ·rw [hn,← h,mgB,List.drop_left]
 ·rw [← h,mgB,mgB0_eq]; rfl
theorem mg_Sf {g : Mg} {l : List Int} (h : mgB g = l) : Sf (l.take (l.length - 4)) 2 (mgR g) := by
 rw [(mg_cut h).1,mgB0_eq]
 exact ⟨2,rfl,by simp only [List.length_cons]; omega,rfl⟩
theorem Sf.list {l r L0 L : List Int} {a n k k' top : Int} {f b b' : Bool} (h : Sf l a (putN (L0.length : Int) ++ (numsB L0 ++ r))) (h0 : ∀ x ∈ L0,0 ≤ x ∧ x ≤ 2147483647) (hlen : (L0.length : Int) ≤ top) (ht : top ≤ 2147483647) (hf : f = false) (h1 : (n,k,b) = rcF l a f top) (h2 : (L,k',b') = rsF l k b n.toNat) : L = L0 ∧ b' = false ∧ Sf l k' r := by
 obtain ⟨e1,e2,e3⟩ := h.count ⟨by omega,by omega⟩ hlen hf h1
 subst e1
 rw [Int.toNat_natCast] at h2
 exact e3.nums h0 e2 h2
structure rngM (g : Mg) : Prop where
 kind : 0 ≤ g.kind ∧ g.kind ≤ 2147483647
 frm : 0 ≤ g.frm ∧ g.frm ≤ 2147483647
 to : 0 ≤ g.to ∧ g.to ≤ 2147483647
 num : 0 ≤ g.num ∧ g.num ≤ 2147483647
 hi : 0 ≤ g.hi ∧ g.hi ≤ 2147483647
 tree : ∀ x ∈ g.tree.leaves,0 ≤ x ∧ x ≤ 2147483647
 root : 0 ≤ g.tree.root ∧ g.tree.root ≤ 2147483647
 vec : ∀ x ∈ g.vec,0 ≤ x ∧ x ≤ 2147483647
 leaves : ∀ x ∈ g.leaves,0 ≤ x ∧ x ≤ 2147483647
 size : 0 ≤ ((stB g.part).length : Int) ∧ ((stB g.part).length : Int) ≤ 2147483647
 marks : marksOk g.marks
theorem msg_rng {g : Mg} (h : msgOk g) : rngM g := by
 have hs := msg_sm h
 have hsz := stB_len hs.part
 have b4 := hs.items
 have b5 := hs.floors
 obtain ⟨⟨⟨a1,a2⟩,⟨a3,a4⟩,⟨a5,a6⟩,_⟩,⟨⟨c1,c2⟩,c3,c4⟩,h1,h2,h3,h4,h5⟩ := h
 have hroot : 0 ≤ g.tree.root ∧ g.tree.root ≤ 2147483647 ∧ ∀ x ∈ g.tree.leaves,0 ≤ x ∧ x ≤ 2147483647 := by
  unfold trOk at h1
  split at h1
  ·rename_i h0
   refine ⟨by omega,by omega,fun x hx => ?_⟩
   rw [List.length_eq_zero_iff.1 h0] at hx
   cases hx
  ·refine ⟨by omega,by omega,fun x hx => ?_⟩
   obtain ⟨j,hj⟩ := List.getElem?_of_mem hx
   have := h1.2.1 j x hj
   omega
 refine ⟨⟨a1,by omega⟩,⟨a3,by omega⟩,⟨a5,by omega⟩,⟨c1,by omega⟩,⟨c3,by omega⟩,hroot.2.2,⟨hroot.1,hroot.2.1⟩,fun x hx => ?_,fun x hx => ?_,⟨by omega,by omega⟩,h5⟩
 ·obtain ⟨j,hj⟩ := List.getElem?_of_mem hx
  have := h2.2 j x hj
  omega
 ·obtain ⟨j,hj⟩ := List.getElem?_of_mem hx
  have := (h3 j x hj).1
  omega
theorem rnF_ok {l : List Int} {a n k : Int} {f : Bool} (hl : bytesOk l) (h : (n,k,false) = rnF l a f) : 0 ≤ n ∧ n ≤ 2147483647 ∧ 0 ≤ a ∧ a < k ∧ k ≤ l.length := by
 unfold rnF at h
 rcases hg : gnR l a with ⟨n',k',b⟩
 rw [hg] at h
 simp only at h
 split at h
 ·rename_i hc
  injection h with e1 h
  injection h with e2 _
  rw [hc.2] at hg
  rw [e1,e2]
  exact gnR_ok hl hg.symm
 ·injection h with _ h; injection h with _ h; cases h
theorem FrC.row {c : Nat} {a b d : St} {A B : List Pc} {x y : Pc} (h : FrC c a b (A ++ x :: B)) (hp : Pr x.p b d) (hd : y.own d) (hn : New b.next y.p) : FrC c a d (A ++ y :: B) ∧ PresC c a d := by
 have hx : New a.next x.p := h.2.1 _ (List.mem_append_right _ (List.mem_cons_self ..))
 have hP := PresC.thenNew h.2.2.1 hp hx
 refine ⟨⟨h.1.renew hp hd hn,fun z hz => ?_,hP,h.2.2.2⟩,hP⟩
 rcases List.mem_append.1 hz with hz | hz
 ·exact h.2.1 _ (List.mem_append_left _ hz)
 ·rcases List.mem_cons.1 hz with rfl | hz
  ·exact hn.le h.2.2.1.1
  ·exact h.2.1 _ (List.mem_append_right _ (List.mem_cons_of_mem _ hz))
theorem mgBz_pos {g : Mg} (h : msgOk g) : 0 < (mgBz g).length := by
 rw [mgBz,if_pos h,mgB,List.length_append]
 have : (crcB (mgB0 g)).length = 4 := rfl
 omega
theorem nums_inj {a b r t : List Int} (ha : ∀ x ∈ a,0 ≤ x ∧ x ≤ 2147483647) (hb : ∀ x ∈ b,0 ≤ x ∧ x ≤ 2147483647) (la : a.length ≤ 1048576) (lb : b.length ≤ 1048576) (h : putN (a.length : Int) ++ (numsB a ++ r) = putN (b.length : Int) ++ (numsB b ++ t)) : a = b ∧ r = t := by
 obtain ⟨e1,h⟩ := putN_inj ⟨by omega,by omega⟩ ⟨by omega,by omega⟩ h
 exact rows_inj (g := putN) (Q := fun x => 0 ≤ x ∧ x ≤ 2147483647) putN_inj (by omega) ha hb h
theorem mgB_inj {a b : Mg} (ha : msgOk a) (hb : msgOk b) (h : mgB a = mgB b) : a = b := by
 have ra := msg_rng ha
 have rb := msg_rng hb
 have ma := msg_sm ha
 have mb := msg_sm hb
 have h0 : mgB0 a = mgB0 b := by rw [← (mg_cut h).1,← (mg_cut (g := b) (l := mgB b) rfl).1]
 rw [mgB0_eq,mgB0_eq] at h0
 injection h0 with _ h0
 injection h0 with _ h0
 unfold mgR at h0
 obtain ⟨e1,h0⟩ := putN_inj ra.kind rb.kind h0
 obtain ⟨e2,h0⟩ := putN_inj ra.frm rb.frm h0
 obtain ⟨e3,h0⟩ := putN_inj ra.to rb.to h0
 obtain ⟨e4,h0⟩ := putN_inj ra.num rb.num h0
 obtain ⟨e5,h0⟩ := putN_inj ra.hi rb.hi h0
 obtain ⟨e6,h0⟩ := nums_inj ra.tree rb.tree (by have := ma.tree; omega) (by have := mb.tree; omega) h0
 obtain ⟨e7,h0⟩ := putN_inj ra.root rb.root h0
 obtain ⟨e8,h0⟩ := nums_inj ra.vec rb.vec (by have := ma.vec; omega) (by have := mb.vec; omega) h0
 obtain ⟨e9,h0⟩ := nums_inj ra.leaves rb.leaves (by have := ma.leaves; omega) (by have := mb.leaves; omega) h0
 obtain ⟨_,h0⟩ := putN_inj ra.size rb.size h0
 obtain ⟨e10,h0⟩ := stB_app ma.part mb.part h0
 have m1 := ma.marks
 have m2 := mb.marks
 obtain ⟨e11,h0⟩ := putN_inj ⟨by omega,by omega⟩ ⟨by omega,by omega⟩ h0
 have hf : ∀ {g : Mg},rngM g → ∀ x ∈ g.marks,flR x := fun {g} hg x hx => by
  obtain ⟨j,hj⟩ := List.getElem?_of_mem hx
  exact floor_rng (s := ⟨[],g.marks⟩) ⟨fun j x h => by simp at h,hg.marks⟩ hj
 have e12 := (rows_inj (g := flB) (Q := flR) flB_inj (r := []) (t := []) (by omega) (hf ra) (hf rb) (by rw [List.append_nil,List.append_nil]; exact h0)).1
 obtain ⟨a1,a2,a3,a4,a5,⟨a6,a7⟩,a8,a9,a10,a11⟩ := a
 obtain ⟨b1,b2,b3,b4,b5,⟨b6,b7⟩,b8,b9,b10,b11⟩ := b
 simp only at e1 e2 e3 e4 e5 e6 e7 e8 e9 e10 e12
 subst e1 e2 e3 e4 e5 e6 e7 e8 e9 e10 e12
 rfl
theorem parsm_of {g u : Mg} {b : Bool} (h : msgOk g) (he : (u,b) = parseM (mgB g)) : b = true ∧ u = g := by
 cases b with
 | true =>
  obtain ⟨h1,h2⟩ := parsm_yes he
  exact ⟨rfl,mgB_inj h1 h h2⟩
 | false =>
  unfold parseM at he
  rw [dif_pos ⟨g,h,rfl⟩] at he
  injection he with _ he; cases he
theorem parsm_nil {u : Mg} {b : Bool} (he : (u,b) = parseM []) : b = false := by
 cases b with
 | false => rfl
 | true => exact absurd (mg_cut (parsm_yes he).2).2.2.1 (by decide)
theorem mgBz_of {g : Mg} (h : msgOk g) : mgBz g = mgB g := if_pos h
theorem mgBz_no {g : Mg} (h : ¬ msgOk g) : mgBz g = [] := if_neg h
theorem pw_of {α : Type} {id : α → Int} {l : List α} (h : ∀ (j : Nat) x,l[j]? = some x → ∀ y,0 < j → l[j - 1]? = some y → id y < id x) : l.Pairwise (fun a b => id a < id b) := by
 have key : ∀ (d i : Nat) (hd : i + d + 1 < l.length),id (l[i]'(by omega)) < id (l[i + d + 1]'hd) := by
  intro d
  induction d with
  | zero =>
   intro i hd
   exact h (i + 1) _ (List.getElem?_eq_getElem hd) _ (by omega) (List.getElem?_eq_getElem (by omega))
  | succ d ih =>
   intro i hd
   have h1 := ih i (by omega)
   have h2 := h (i + (d + 1) + 1) _ (List.getElem?_eq_getElem hd) (l[i + d + 1]'(by omega)) (by omega) (List.getElem?_eq_getElem (by omega))
   omega
 refine List.pairwise_iff_getElem.2 fun i j hi hj hij => ?_
 have := key (j - i - 1) i (by omega)
 simpa only [show i + (j - i - 1) + 1 = j by omega] using this
theorem of_pw {α : Type} {id : α → Int} {l : List α} (h : l.Pairwise (fun a b => id a < id b)) (j : Nat) (x : α) (hx : l[j]? = some x) (y : α) (h0 : 0 < j) (hy : l[j - 1]? = some y) : id y < id x := by
 obtain ⟨hj,rfl⟩ := List.getElem?_eq_some_iff.1 hx
 obtain ⟨hj',rfl⟩ := List.getElem?_eq_some_iff.1 hy
 exact List.pairwise_iff_getElem.1 h (j - 1) j hj' hj (by omega)
theorem floorOf_fl (L : List Int) (id : Int) : ∀ l : List Flr,floorOf (flS L l) id = if leafOf id ∈ L then floorOf l id else 0
 | [] => by simp [flS,floorOf]
 | f :: l => by
  have ih := floorOf_fl L id l
  by_cases hf : leafOf f.id ∈ L
  ·rw [show flS L (f :: l) = f :: flS L l from List.filter_cons_of_pos (decide_eq_true hf),floorOf,floorOf]
   by_cases he : f.id = id
   ·rw [if_pos he,if_pos he,if_pos (he ▸ hf)]
   ·rw [if_neg he,if_neg he,ih]
  ·rw [show flS L (f :: l) = flS L l from List.filter_cons_of_neg (by simpa [inL] using hf),floorOf,ih]
   by_cases he : f.id = id
   ·rw [if_neg (he ▸ hf),if_neg (he ▸ hf)]
   ·rw [if_neg he]
theorem slice_ok {s : Sta} (h : stateOk s) (L : List Int) : stateOk (sliceF s L) := by
 obtain ⟨h1,h2⟩ := h
 have p1 : (itS L s.items).Pairwise (fun a b => Itm.id a < Itm.id b) := (pw_of (id := Itm.id) fun j x hx => (h1 j x hx).2.2.2).filter _
 have p2 : (flS L s.floors).Pairwise (fun a b => Flr.id a < Flr.id b) := (pw_of (id := Flr.id) fun j x hx => (h2 j x hx).2.2).filter _
 refine ⟨fun j x hx => ?_,fun j x hx => ?_⟩
 ·obtain ⟨k,hk⟩ := List.getElem?_of_mem ((List.mem_filter.1 (List.mem_of_getElem? hx)).1)
  have hx' := h1 k x hk
  refine ⟨hx'.1,hx'.2.1,?_,of_pw p1 j x hx⟩
  show floorOf (flS L s.floors) x.id < x.e.inc
  rw [floorOf_fl]
  split
  ·exact hx'.2.2.1
  ·have := hx'.2.1.1.1; omega
 ·obtain ⟨k,hk⟩ := List.getElem?_of_mem ((List.mem_filter.1 (List.mem_of_getElem? hx)).1)
  have hx' := h2 k x hk
  exact ⟨hx'.1,hx'.2.1,of_pw p2 j x hx⟩
theorem slice_big {s : Sta} (h : bigS s) (L : List Int) : bigS (sliceF s L) :=
 ⟨Nat.le_trans (List.length_filter_le _ _) h.1,Nat.le_trans (List.length_filter_le _ _) h.2.1,fun x hx => h.2.2 x ((List.mem_filter.1 hx).1)⟩
open Classical in
noncomputable def leafSum (s : Sta) (k : Int) : Int := if stateOk s ∧ 0 ≤ k ∧ k ≤ 3 then crc (stB (sliceF s [k])) % 1024 else 0
theorem ac_spec_LeafSum (s : SV) (k : Int) (st : St) (hR : RdS st s) (hb : bigS s.x) : C 195 [.agg #[vS s.p s.x.items.length,vS s.q s.x.floors.length],vI k] st (fun v s' => v = vI (leafSum s.x k) ∧ Pres st s') := by
 refine AC.enterX (i := ⟨[2],[2],[0,1,2,4,12],[]⟩) [] Try.func195 rfl rfl (by kernel_rfl) (by kernel_rfl) Try.ntmps195 (Lb rfl) rfl ?_
 refine ⟨_,rfl,?_⟩
 refine Cm 1 st [(1,vI k),Ml 2 0,(4,vI 0)] [(2,0,cSV s)] fun _ _ => ?_
 refine ⟨_,Od rfl,?_⟩
 refine ⟨_,rfl,(ac_spec_StateOk s st hR (by first | assumption | omega)).mono ?_⟩
 rintro _ st ⟨x6,rfl,h6,rfl⟩
 rcases x6 with _|_
 ·replace h6 := fun k => Bool.false_ne_true (h6.2 k)
  iterate 2 refine ⟨_,rfl,?_⟩
  refine Cm 1 st [(1,vI k),Ml 2 0,(4,vI 0),(12,vB true)] [(2,0,cSV s)] fun _ _ => ?_
  exact cxs (Rt ⟨congrArg vI (by rw [leafSum,if_neg (fun h => h6 h.1)]),Pres.refl _⟩)
 ·replace h6 := h6.1 rfl
  refine ⟨_,rfl,?_⟩
  refine ⟨_,rfl,(ac_spec_l1In k 0 3 st).mono ?_⟩
  rintro _ st ⟨x10,rfl,h10,rfl⟩
  rcases x10 with _|_
  ·replace h10 := of_decide_eq_false h10.symm
   iterate 2 refine ⟨_,rfl,?_⟩
   refine Cm 1 st [(1,vI k),Ml 2 0,(4,vI 0),(12,vB true)] [(2,0,cSV s)] fun _ _ => ?_
   exact cxs (Rt ⟨congrArg vI (by rw [leafSum,if_neg (fun h => h10 h.2)]),Pres.refl _⟩)
  ·replace h10 := of_decide_eq_true h10.symm
   iterate 2 refine ⟨_,rfl,?_⟩
   refine Cm 1 st [(1,vI k),Ml 2 0,(4,vI 0),(12,vB false)] [(2,0,cSV s)] fun _ _ => ?_
   refine cxs ?_
   refine ⟨_,Od rfl,?_⟩
   refine op_litI (k := .i64) (l := [k]) rfl rfl rfl rfl rfl rfl (by decide) ?_
   intro q15 s15 hO15 hP15 hN15
   refine ⟨_,rfl,(ac_spec_l6Slice s q15 [k] s15 (hR.pres hP15) hb (OwnR.rows (f := fI) fI_len hO15) (by show (1 : Nat) ≤ 1048576; omega)).mono ?_⟩
   rintro _ s16 ⟨u16,rfl,hu16,hO16,hN16,hP16⟩
   refine ⟨_,rfl,(ac_spec_l6Bytes u16 s16 hO16.rdS (by rw [hu16]; exact slice_big hb _) (by rw [hu16]; exact slice_ok h6 _)).mono ?_⟩
   rintro _ s17 ⟨q17,rfl,hO17,hN17,hP17⟩
   have hbl := stB_len (s := u16.x) (by rw [hu16]; exact slice_ok h6 _)
   have hbg : bigS u16.x := by rw [hu16]; exact slice_big hb _
   have hb1 : u16.x.items.length ≤ 1048576 := hbg.1
   have hb2 : u16.x.floors.length ≤ 1048576 := hbg.2.1
   have hc0 : 0 ≤ crc (stB u16.x) := (crc_rng (stB_ok _)).1
   refine ⟨_,rfl,(ac_spec_Crc q17 (stB u16.x) s17 (hO17.rows fB_len) (stB_ok _) (by omega)).mono ?_⟩
   rintro _ s17 ⟨rfl,rfl⟩
   refine ⟨_,op_rm (r := crc (stB u16.x) % 1024) rfl rfl rfl (by decide) (tm_emod 1024 hc0),?_⟩
   exact cxs (Rt ⟨congrArg vI (by rw [leafSum,if_pos ⟨h6,h10⟩,hu16]),(hP15.trans hP16).trans hP17⟩)
noncomputable def sums (s : Sta) (i : Nat) : List Int := (List.range i).map fun (j : Nat) => leafSum s (j : Int)
theorem sums_succ (s : Sta) (i : Nat) : sums s (i + 1) = sums s i ++ [leafSum s (i : Int)] := by simp [sums,List.range_succ]
theorem sums_len (s : Sta) (i : Nat) : (sums s i).length = i := by simp [sums]
open Classical in
noncomputable def treeF (s : Sta) : Tr := if stateOk s then ⟨sums s 4,rootF (sums s 4)⟩ else ⟨[],0⟩
theorem ac_spec_TreeOf (s : SV) (st : St) (hR : RdS st s) (hb : bigS s.x) : C 186 [.agg #[vS s.p s.x.items.length,vS s.q s.x.floors.length]] st (fun v s' => ∃ u : TV,v = .agg #[vS u.p u.l.length,vI u.root] ∧ u.x = treeF s.x ∧ OwnR s' 1 fI u.p u.l ∧ New st.next u.p ∧ Pres st s') := by
 refine AC.enterX (i := ⟨[1,2,3],[1,2,3,14,21,22,25],[0,1,2,3,4,7,11],[]⟩) [(7,[4,5],[1])] Try.func186 rfl rfl (by kernel_rfl) (by kernel_rfl) Try.ntmps186 (Lb rfl) rfl ?_
 iterate 2 refine ⟨_,rfl,?_⟩
 refine Cm 2 st [Ml 1 0,Ml 2 1] [(1,0,cSV s),(2,1,[Sn,vI 0])] fun _ _ => ?_
 refine ⟨_,Od rfl,?_⟩
 refine ⟨_,rfl,(ac_spec_StateOk s st hR (by first | assumption | omega)).mono ?_⟩
 rintro _ st ⟨x6,rfl,h6,rfl⟩
 rcases x6 with _|_
 ·replace h6 := fun k => Bool.false_ne_true (h6.2 k)
  refine ⟨_,rfl,?_⟩
  refine Cm 2 st [Ml 1 0,Ml 2 1,(7,vB true)] [(1,0,cSV s),(2,1,[Sn,vI 0])] fun _ _ => ?_
  refine ⟨_,rfl,?_⟩
  refine ⟨_,Os rfl,?_⟩
  exact cxs (Rt ⟨⟨⟨none,[]⟩,0⟩,rfl,by rw [treeF,if_neg h6],OwnR.nil,New.none,Pres.refl _⟩)
 ·replace h6 := h6.1 rfl
  refine ⟨_,rfl,?_⟩
  refine Cm 2 st [Ml 1 0,Ml 2 1,(7,vB false)] [(1,0,cSV s),(2,1,[Sn,vI 0])] fun _ _ => ?_
  refine cxs ?_
  iterate 2 refine ⟨_,rfl,?_⟩
  refine ⟨_,Os rfl,?_⟩
  refine cxs ?_
  refine Cm 3 st [Ml 1 0,Ml 2 1,Ml 3 2,(4,vI 0)] [(1,0,cSV s),(2,1,[Sn,vI 0]),(3,2,[Sn,vI 0])] fun _ _ => ?_
  refine AW.loopM (fun x : Nat × Option Addr × List Int => [(1,vL 1 0 (0)),(2,vL 2 0 (1)),(3,vL 3 0 (2)),(4,vI (x.1 : Int))]) (fun x : Nat × Option Addr × List Int => [(1,0,[vS s.p s.x.items.length,vS s.q s.x.floors.length]),(2,1,[.slice none 0 0,vI 0]),(3,2,[vS x.2.1 x.2.2.length,vI 0])]) (fun m (x : Nat × Option Addr × List Int) st' => m = 4 - x.1 ∧ x.1 ≤ 4 ∧ x.2.2 = sums s.x x.1 ∧ OwnR st' 1 fI x.2.1 x.2.2 ∧ New st.next x.2.1 ∧ Pres st st') (0,none,[]) _ ⟨rfl,rfl,rfl,rfl,trivial⟩ ⟨rfl,rfl,rfl,trivial⟩ ⟨rfl,Nat.zero_le _,rfl,OwnR.nil,New.none,Pres.refl _⟩ ?_
  rintro m ⟨i,q,l⟩ ρ0 ff gg st' ⟨rfl,hi,hv,hO,hN,hP⟩
  simp only at hi hv hO hN
  have hl : l.length = i := by rw [hv,sums_len]
  refine ⟨_,rfl,?_⟩
  rintro (_|_) h11
  ·replace h11 : ¬ ((i : Int) < (4)) := of_decide_eq_false h11
   refine Cm gg st' [Ml 1 0,Ml 2 1,Ml 3 2,(4,vI (i : Int)),(11,vB false)] [(1,0,cSV s),(2,1,[Sn,vI 0]),(3,2,[vS q l.length,vI 0])] fun _ _ => ?_
   refine cxs ?_
   refine ⟨_,rfl,?_⟩
   refine ⟨_,Od rfl,?_⟩
   have hv4 : l = sums s.x 4 := by rw [hv,show i = 4 by omega]
   have hsl : szOk l.length := by unfold szOk; omega
   refine ⟨_,rfl,(ac_spec_l6Root q l st' (hO.rows fI_len) (by first | assumption | omega)).mono ?_⟩
   rintro _ s24 ⟨rfl,hP24⟩
   refine ⟨_,rfl,?_⟩
   refine ⟨_,Os rfl,?_⟩
   refine Cm gg s24 [Ml 2 1,Ml 3 2] [(2,1,[Sn,vI 0]),(3,2,[vS q l.length,vI (rootF l)])] fun _ _ => ?_
   refine ⟨_,Od rfl,?_⟩
   refine ⟨_,Os rfl,?_⟩
   exact cxs (Rt ⟨⟨⟨q,l⟩,rootF l⟩,rfl,by rw [treeF,if_pos h6,← hv4],hP24.ownR hO,hN,hP.trans hP24⟩)
  ·replace h11 : (i : Int) < (4) := of_decide_eq_true h11
   refine Cm gg st' [Ml 1 0,Ml 2 1,Ml 3 2,(4,vI (i : Int)),(11,vB true)] [(1,0,cSV s),(2,1,[Sn,vI 0]),(3,2,[vS q l.length,vI 0])] fun _ _ => ?_
   refine cxs ?_
   refine ⟨_,rfl,?_⟩
   refine ⟨_,Od rfl,?_⟩
   refine ⟨ld_own rfl rfl rfl,?_⟩
   refine ⟨_,Od rfl,?_⟩
   refine ⟨_,rfl,(ac_spec_LeafSum s (i : Int) st' (hR.pres hP) (by first | assumption | omega)).mono ?_⟩
   rintro _ s18 ⟨rfl,hP18⟩
   refine ⟨hP18.2,?_⟩
   refine op_one (z := 1) (a := ((leafSum s.x (i : Int)) : Int)) (f := fI) rfl rfl rfl rfl rfl (by decide) rfl (Lb rfl) rfl rfl rfl ?_
   refine ⟨Pres.push.low hP18,?_⟩
   refine op_snoc (z := 1) (st := s18) (f := fI) (b := 8) (l := l) (x := leafSum s.x (i : Int)) rfl rfl rfl rfl rfl rfl rfl (by decide) fI_len rfl rfl rfl (by omega) (by unfold maxLen; omega) (hP18.ownR hO) ?_
   intro q20 s20 hO20 hP20 hN20
   refine ⟨_,rfl,?_⟩
   refine ⟨_,Os rfl,?_⟩
   refine Cm gg s20 [Ml 1 0,Ml 2 1,Ml 3 2,(4,vI (i : Int)),(11,vB true)] [(1,0,cSV s),(2,1,[Sn,vI 0]),(3,2,[vS q20 (l ++ [leafSum s.x (i : Int)]).length,vI 0])] fun _ _ => ?_
   have ew13 : IntKind.wrap .i64 ((i : Int) + (1)) = ((i + 1 : Nat) : Int) := (wrap_i64 (by omega) (by omega)).trans (by omega)
   refine ⟨_,rfl,?_⟩
   exact ⟨(i + 1,q20,l ++ [leafSum s.x (i : Int)]),4 - (i + 1),by omega,⟨rfl,rfl,rfl,congrArg (Value.int .i64) ew13,trivial⟩,⟨rfl,rfl,rfl,trivial⟩,rfl,by simp only; omega,by simp only; rw [sums_succ,← hv],hO20,hN20.le (hP.trans hP18).1,hP20.pres (hP.trans hP18) hN⟩
theorem FrC.nilP {c : Nat} {a : St} {z : Nat} (hc : c < a.next) : FrC c a a [(⟨z,none,[]⟩ : Pc)] := ⟨OwnP.one (.inl ⟨rfl,rfl⟩),NewP.cons New.none NewP.nil,PresC.refl _ _,hc⟩
theorem tr_len (s : Sta) : (treeF s).leaves.length ≤ 4 := by
 unfold treeF
 split
 ·exact Nat.le_of_eq (sums_len s 4)
 ·exact Nat.zero_le _
structure dM (g : Mg) : Prop where
 tree : g.tree.leaves.length ≤ 4
 vec : g.vec.length ≤ 5
 leaves : g.leaves.length ≤ 5
 part : bigS g.part
 marks : g.marks.length ≤ 6
theorem dM.big {g : Mg} (h : dM g) : bigM g := ⟨by unfold szOk; have := h.tree; omega,by unfold szOk; have := h.vec; omega,by unfold szOk; have := h.leaves; omega,h.part,by unfold szOk; have := h.marks; omega⟩
theorem ac_d_l10Right {p : Option Addr} {bs : List Int} (c : Nat) (st : St) (hc : Cur st c p bs) (hs : bs.length < 1099511627776) : C 167 [vP c 0] st (fun v s => ∃ g : MV,v = .agg #[vI g.kind,vI g.frm,vI g.to,vI g.num,vI g.hi,vS g.tree.p g.tree.l.length,vI g.tree.root,vS g.vec.p g.vec.l.length,vS g.leaves.p g.leaves.l.length,vS g.part.p g.part.x.items.length,vS g.part.q g.part.x.floors.length,vS g.marks.p g.marks.l.length] ∧ (g.tree.l.length ≤ 4 ∧ g.vec.l.length ≤ 4 ∧ g.leaves.l.length ≤ 4 ∧ bigS g.part.x ∧ g.marks.l.length ≤ 5) ∧ FrC c st s (pcMV g) ∧ Cur s c p bs) := by
 refine AC.enterX (i := ⟨[2,3,5],[2,3,5,31,39,45,52,57,59,62,65],[0,2,3,4,5,6,7,8,28,36,47,51],[]⟩) [(2010,[],[1]),(10,[3,4],[1])] Try.func167 rfl rfl (by kernel_rfl) (by kernel_rfl) Try.ntmps167 (Lb rfl) rfl ?_
 refine ⟨_,rfl,?_⟩
 refine AX.meet 3 (fun x : SV × TV × Int × Int × Int × Int × Int => [(0,vP c 0),(2,vL 2 0 (0)),(3,vL 3 0 (1)),(5,vL 5 0 (2))]) (fun x : SV × TV × Int × Int × Int × Int × Int => [(2,0,[vI 0,vI 0,vI 0,vI 0,vI 0,.slice none 0 0,vI 0,.slice none 0 0,.slice none 0 0,.slice none 0 0,.slice none 0 0,.slice none 0 0]),(3,1,[vS x.1.p x.1.x.items.length,vS x.1.q x.1.x.floors.length]),(5,2,[vI x.2.2.1,vI x.2.2.2.1,vI x.2.2.2.2.1,vI x.2.2.2.2.2.1,vI x.2.2.2.2.2.2,vS x.2.1.p x.2.1.l.length,vI x.2.1.root,.slice none 0 0,.slice none 0 0,.slice none 0 0,.slice none 0 0,.slice none 0 0])]) (fun (x : SV × TV × Int × Int × Int × Int × Int) st' => stateOk x.1.x ∧ FrC c st st' (pcS x.1 ++ pcIs x.2.1.toRV) ∧ x.2.1.l.length ≤ 4 ∧ Cur st' c p bs) ?_ ?_
 ·refine Cm 1 st [(0,vP c 0),Ml 2 0] [(2,0,[vI 0,vI 0,vI 0,vI 0,vI 0,Sn,vI 0,Sn,Sn,Sn,Sn,Sn])] fun _ _ => ?_
  refine ⟨_,rfl,(ac_d_l3Right c st hc (by first | assumption | omega)).mono ?_⟩
  rintro _ s10 ⟨u10,rfl,h10,hF10,hC10⟩
  refine ⟨_,rfl,?_⟩
  refine ⟨_,Os rfl,?_⟩
  refine Cm 2 s10 [(0,vP c 0),Ml 2 0,Ml 3 1] [(2,0,[vI 0,vI 0,vI 0,vI 0,vI 0,Sn,vI 0,Sn,Sn,Sn,Sn,Sn]),(3,1,cSV u10)] fun _ _ => ?_
  refine ⟨_,rfl,(ac_d_l1Below c 5 s10 hC10 (by first | assumption | omega)).mono ?_⟩
  rintro _ s12 ⟨r12,rfl,h12,h12',h12'',hC12,hL12⟩
  refine Cm 2 s12 [(0,vP c 0),Ml 2 0,Ml 3 1,(4,vI r12)] [(2,0,[vI 0,vI 0,vI 0,vI 0,vI 0,Sn,vI 0,Sn,Sn,Sn,Sn,Sn]),(3,1,cSV u10)] fun _ _ => ?_
  refine ⟨_,rfl,(ac_d_l1Below c 6 s12 hC12 (by first | assumption | omega)).mono ?_⟩
  rintro _ s14 ⟨r14,rfl,h14,h14',h14'',hC14,hL14⟩
  have ew17 : IntKind.wrap .i64 (r12 + (1)) = r12 + (1) := wrap_i64 (by omega) (by omega)
  refine ⟨_,rfl,?_⟩
  refine ⟨_,rfl,(ac_d_l1Below c 4 s14 hC14 (by first | assumption | omega)).mono ?_⟩
  rintro _ s19 ⟨r19,rfl,h19,h19',h19'',hC19,hL19⟩
  have ew20 : IntKind.wrap .i64 ((IntKind.wrap .i64 (r12 + (1))) + r19) = (r12 + (1)) + r19 := by rw [ew17]; exact wrap_i64 (by omega) (by omega)
  refine ⟨_,rfl,?_⟩
  obtain ⟨to,hto⟩ : ∃ x,x = Int.tmod (IntKind.wrap .i64 (IntKind.wrap .i64 (r12 + 1) + r19)) 5 := ⟨_,rfl⟩
  refine ⟨_,op_rm (r := to) rfl rfl rfl (by decide) hto.symm,?_⟩
  refine ⟨_,rfl,(ac_d_l1Below c 5 s19 hC19 (by first | assumption | omega)).mono ?_⟩
  rintro _ s23 ⟨r23,rfl,h23,h23',h23'',hC23,hL23⟩
  refine ⟨_,rfl,(ac_d_l1Below c 300 s23 hC23 (by first | assumption | omega)).mono ?_⟩
  rintro _ s25 ⟨r25,rfl,h25,h25',h25'',hC25,hL25⟩
  iterate 2 refine ⟨_,rfl,?_⟩
  refine ⟨_,op_stw (vs := [vI r14,vI r12,vI to,vI r23,vI r25,.slice none 0 0,vI 0,.slice none 0 0,.slice none 0 0,.slice none 0 0,.slice none 0 0,.slice none 0 0]) rfl rfl rfl rfl rfl rfl rfl rfl,?_⟩
  refine Cm 3 s25 [(0,vP c 0),Ml 2 0,Ml 3 1,Ml 5 2] [(2,0,[vI 0,vI 0,vI 0,vI 0,vI 0,Sn,vI 0,Sn,Sn,Sn,Sn,Sn]),(3,1,cSV u10),(5,2,[vI r14,vI r12,vI to,vI r23,vI r25,Sn,vI 0,Sn,Sn,Sn,Sn,Sn])] fun _ _ => ?_
  have hF25 := ((((hF10.later hL12).later hL14).later hL19).later hL23).later hL25
  have hb10 := big_ok h10
  refine ⟨_,rfl,(ac_d_l1Once c 2 s25 hC25 (by first | assumption | omega)).mono ?_⟩
  rintro _ s28 ⟨b28,rfl,hC28,hL28⟩
  rcases b28 with _|_
  ·refine Cm 3 s28 [(0,vP c 0),Ml 2 0,Ml 3 1,Ml 5 2,(28,vB false)] [(2,0,[vI 0,vI 0,vI 0,vI 0,vI 0,Sn,vI 0,Sn,Sn,Sn,Sn,Sn]),(3,1,cSV u10),(5,2,[vI r14,vI r12,vI to,vI r23,vI r25,Sn,vI 0,Sn,Sn,Sn,Sn,Sn])] fun _ _ => ?_
   exact ⟨(u10,⟨⟨none,[]⟩,0⟩,r14,r12,to,r23,r25),⟨rfl,rfl,rfl,rfl,trivial⟩,⟨rfl,rfl,rfl,trivial⟩,h10,(hF25.later hL28).join (FrC.nilP hC28.lt),Nat.zero_le _,hC28⟩
  ·refine Cm 3 s28 [(0,vP c 0),Ml 2 0,Ml 3 1,Ml 5 2,(28,vB true)] [(2,0,[vI 0,vI 0,vI 0,vI 0,vI 0,Sn,vI 0,Sn,Sn,Sn,Sn,Sn]),(3,1,cSV u10),(5,2,[vI r14,vI r12,vI to,vI r23,vI r25,Sn,vI 0,Sn,Sn,Sn,Sn,Sn])] fun _ _ => ?_
   refine ⟨_,Od rfl,?_⟩
   refine ⟨_,rfl,(ac_spec_TreeOf u10 s28 ((hF25.later hL28).1.rdS) hb10).mono ?_⟩
   rintro _ s30 ⟨u30,rfl,h30,hO30,hN30,hP30⟩
   refine ⟨_,rfl,?_⟩
   refine ⟨_,Os rfl,?_⟩
   have hl30 : u30.l.length ≤ 4 := by have := tr_len u10.x; rw [← h30] at this; exact this
   exact ⟨(u10,u30,r14,r12,to,r23,r25),⟨rfl,rfl,rfl,rfl,trivial⟩,⟨rfl,rfl,rfl,trivial⟩,h10,(hF25.later hL28).add ⟨OwnP.one (own_pc hO30),NewP.cons hN30 NewP.nil,hP30⟩,hl30,hC28.pres hP30⟩
 ·rintro ⟨u10,T,r14,r12,to,r23,r25⟩ ρ0 ff gg st' ⟨h10,hFa,hTl,hCa⟩
  simp only at h10 hFa hTl hCa
  have hb10 := big_ok h10
  refine ⟨_,rfl,(ac_d_l1Below c 4 st' hCa (by first | assumption | omega)).mono ?_⟩
  rintro _ s33 ⟨r33,rfl,h33,h33',h33'',hC33,hL33⟩
  refine cxs ?_
  have hFb := (hFa.later hL33).join (FrC.nilP (z := 1) hC33.lt)
  refine Cm gg s33 [(0,vP c 0),Ml 2 0,Ml 3 1,Ml 5 2,(6,vI r33),(7,vI 0)] [(2,0,[vI 0,vI 0,vI 0,vI 0,vI 0,Sn,vI 0,Sn,Sn,Sn,Sn,Sn]),(3,1,cSV u10),(5,2,[vI r14,vI r12,vI to,vI r23,vI r25,vS T.p T.l.length,vI T.root,Sn,Sn,Sn,Sn,Sn])] fun _ _ => ?_
  refine AW.loopM (fun x : Nat × RV => [(0,vP c 0),(2,vL 2 0 (0)),(3,vL 3 0 (1)),(5,vL 5 0 (2)),(6,vI r33),(7,vI (x.1 : Int))]) (fun x : Nat × RV => [(2,0,[vI 0,vI 0,vI 0,vI 0,vI 0,.slice none 0 0,vI 0,.slice none 0 0,.slice none 0 0,.slice none 0 0,.slice none 0 0,.slice none 0 0]),(3,1,[vS u10.p u10.x.items.length,vS u10.q u10.x.floors.length]),(5,2,[vI r14,vI r12,vI to,vI r23,vI r25,vS T.p T.l.length,vI T.root,vS x.2.p x.2.l.length,.slice none 0 0,.slice none 0 0,.slice none 0 0,.slice none 0 0])]) (fun m (x : Nat × RV) st' => m = r33.toNat - x.1 ∧ (x.1 : Int) ≤ r33 ∧ x.2.l.length = x.1 ∧ FrC c st st' ((pcS u10 ++ pcIs T.toRV) ++ pcIs x.2) ∧ Cur st' c p bs) (0,⟨none,[]⟩) _ ⟨rfl,rfl,rfl,rfl,rfl,rfl,trivial⟩ ⟨rfl,rfl,rfl,trivial⟩ ⟨rfl,by simp only; omega,rfl,hFb,hC33⟩ ?_
  rintro m ⟨i,w⟩ ρ0 ff gg st' ⟨rfl,hi,hwl,hF,hC⟩
  simp only at hi hwl hF
  refine ⟨_,rfl,?_⟩
  rintro (_|_) h36
  ·replace h36 : ¬ ((i : Int) < r33) := of_decide_eq_false h36
   refine Cm gg st' [(0,vP c 0),Ml 2 0,Ml 3 1,Ml 5 2,(6,vI r33),(7,vI (i : Int)),(36,vB false)] [(2,0,[vI 0,vI 0,vI 0,vI 0,vI 0,Sn,vI 0,Sn,Sn,Sn,Sn,Sn]),(3,1,cSV u10),(5,2,[vI r14,vI r12,vI to,vI r23,vI r25,vS T.p T.l.length,vI T.root,vS w.p w.l.length,Sn,Sn,Sn,Sn])] fun _ _ => ?_
   refine cxs ?_
   refine Cm gg st' [(0,vP c 0),Ml 2 0,Ml 3 1,Ml 5 2,(8,vI 0)] [(2,0,[vI 0,vI 0,vI 0,vI 0,vI 0,Sn,vI 0,Sn,Sn,Sn,Sn,Sn]),(3,1,cSV u10),(5,2,[vI r14,vI r12,vI to,vI r23,vI r25,vS T.p T.l.length,vI T.root,vS w.p w.l.length,Sn,Sn,Sn,Sn])] fun _ _ => ?_
   refine AW.loopM (fun x : Nat × RV => [(0,vP c 0),(2,vL 2 0 (0)),(3,vL 3 0 (1)),(5,vL 5 0 (2)),(8,vI (x.1 : Int))]) (fun x : Nat × RV => [(2,0,[vI 0,vI 0,vI 0,vI 0,vI 0,.slice none 0 0,vI 0,.slice none 0 0,.slice none 0 0,.slice none 0 0,.slice none 0 0,.slice none 0 0]),(3,1,[vS u10.p u10.x.items.length,vS u10.q u10.x.floors.length]),(5,2,[vI r14,vI r12,vI to,vI r23,vI r25,vS T.p T.l.length,vI T.root,vS w.p w.l.length,vS x.2.p x.2.l.length,.slice none 0 0,.slice none 0 0,.slice none 0 0])]) (fun m (x : Nat × RV) st' => m = 4 - x.1 ∧ x.1 ≤ 4 ∧ x.2.l.length ≤ x.1 ∧ FrC c st st' (((pcS u10 ++ pcIs T.toRV) ++ pcIs w) ++ pcIs x.2) ∧ Cur st' c p bs) (0,⟨none,[]⟩) _ ⟨rfl,rfl,rfl,rfl,rfl,trivial⟩ ⟨rfl,rfl,rfl,trivial⟩ ⟨rfl,Nat.zero_le _,Nat.zero_le _,hF.join (FrC.nilP hC.lt),hC⟩ ?_
   rintro m ⟨j,y⟩ ρ0 ff gg st' ⟨rfl,hj,hyl,hG,hD⟩
   simp only at hj hyl hG
   refine ⟨_,rfl,?_⟩
   rintro (_|_) h47
   ·replace h47 : ¬ ((j : Int) < (4)) := of_decide_eq_false h47
    refine Cm gg st' [(0,vP c 0),Ml 2 0,Ml 3 1,Ml 5 2,(8,vI (j : Int)),(47,vB false)] [(2,0,[vI 0,vI 0,vI 0,vI 0,vI 0,Sn,vI 0,Sn,Sn,Sn,Sn,Sn]),(3,1,cSV u10),(5,2,[vI r14,vI r12,vI to,vI r23,vI r25,vS T.p T.l.length,vI T.root,vS w.p w.l.length,vS y.p y.l.length,Sn,Sn,Sn])] fun _ _ => ?_
    have hRs : RdS st' u10 := hG.1.left.left.left.rdS
    have hRy : Rows st' 1 fI y.p y.l := (own_one (by decide) fI_len hG.1.right : OwnR st' 1 fI y.p y.l).rows fI_len
    refine cxs ?_
    refine ⟨_,Od rfl,?_⟩
    refine ⟨_,rfl,?_⟩
    refine ⟨_,Od rfl,?_⟩
    refine ⟨_,rfl,(ac_spec_l6Slice u10 y.p y.l st' hRs hb10 hRy (show y.l.length ≤ 1048576 by omega)).mono ?_⟩
    rintro _ s61 ⟨u61,rfl,h61,hO61,hN61,hP61⟩
    refine ⟨_,rfl,?_⟩
    refine ⟨_,Os rfl,?_⟩
    refine Cm gg s61 [Ml 2 0,Ml 3 1,Ml 5 2] [(2,0,[vI 0,vI 0,vI 0,vI 0,vI 0,Sn,vI 0,Sn,Sn,Sn,Sn,Sn]),(3,1,cSV u10),(5,2,[vI r14,vI r12,vI to,vI r23,vI r25,vS T.p T.l.length,vI T.root,vS w.p w.l.length,vS y.p y.l.length,vS u61.p u61.x.items.length,vS u61.q u61.x.floors.length,Sn])] fun _ _ => ?_
    have hG61 := hG.add ⟨hO61,hN61,hP61⟩
    refine ⟨_,Od rfl,?_⟩
    refine ⟨_,rfl,(ac_spec_MarksOf u10 s61 (hRs.pres hP61) hb10).mono ?_⟩
    rintro _ s64 ⟨q64,rfl,hO64,hP64,hN64⟩
    refine ⟨_,rfl,?_⟩
    refine ⟨_,Os rfl,?_⟩
    refine Cm gg s64 [Ml 2 0,Ml 5 2] [(2,0,[vI 0,vI 0,vI 0,vI 0,vI 0,Sn,vI 0,Sn,Sn,Sn,Sn,Sn]),(5,2,[vI r14,vI r12,vI to,vI r23,vI r25,vS T.p T.l.length,vI T.root,vS w.p w.l.length,vS y.p y.l.length,vS u61.p u61.x.items.length,vS u61.q u61.x.floors.length,vS q64 (marksF (goneAt u10.x) 5).length])] fun _ _ => ?_
    have hG64 := hG61.add ⟨OwnP.one (own_pc hO64),NewP.cons hN64 NewP.nil,hP64⟩
    refine ⟨_,Od rfl,?_⟩
    refine ⟨_,op_stw (vs := [vI r14,vI r12,vI to,vI r23,vI r25,vS T.p T.l.length,vI T.root,vS w.p w.l.length,vS y.p y.l.length,vS u61.p u61.x.items.length,vS u61.q u61.x.floors.length,vS q64 (marksF (goneAt u10.x) 5).length]) rfl rfl rfl rfl rfl rfl rfl rfl,?_⟩
    refine cxs ?_
    have hml := marksF_len (goneAt u10.x) 5
    have hpp : ((((pcS u10 ++ pcIs T.toRV) ++ pcIs w) ++ pcIs y) ++ pcS u61) ++ [pcR 2 cFlr q64 (marksF (goneAt u10.x) 5)] = pcS u10 ++ pcMV ⟨r14,r12,to,r23,r25,T,w,y,u61,⟨q64,marksF (goneAt u10.x) 5⟩⟩ := by simp only [List.append_assoc]
    rw [hpp] at hG64
    exact Rt ⟨⟨r14,r12,to,r23,r25,T,w,y,u61,⟨q64,marksF (goneAt u10.x) 5⟩⟩,rfl,⟨hTl,by simp only; omega,by simp only; omega,by rw [h61]; exact slice_big hb10 _,hml⟩,hG64.right,(hD.pres hP61).pres hP64⟩
   ·replace h47 : (j : Int) < (4) := of_decide_eq_true h47
    refine Cm gg st' [(0,vP c 0),Ml 2 0,Ml 3 1,Ml 5 2,(8,vI (j : Int)),(47,vB true)] [(2,0,[vI 0,vI 0,vI 0,vI 0,vI 0,Sn,vI 0,Sn,Sn,Sn,Sn,Sn]),(3,1,cSV u10),(5,2,[vI r14,vI r12,vI to,vI r23,vI r25,vS T.p T.l.length,vI T.root,vS w.p w.l.length,vS y.p y.l.length,Sn,Sn,Sn])] fun _ _ => ?_
    refine cxs ?_
    refine ⟨_,rfl,(ac_d_l1Once c 2 st' hD (by first | assumption | omega)).mono ?_⟩
    rintro _ s51 ⟨b51,rfl,hC51,hL51⟩
    rcases b51 with _|_
    ·refine Cm gg s51 [(0,vP c 0),Ml 2 0,Ml 3 1,Ml 5 2,(8,vI (j : Int)),(47,vB true),(51,vB false)] [(2,0,[vI 0,vI 0,vI 0,vI 0,vI 0,Sn,vI 0,Sn,Sn,Sn,Sn,Sn]),(3,1,cSV u10),(5,2,[vI r14,vI r12,vI to,vI r23,vI r25,vS T.p T.l.length,vI T.root,vS w.p w.l.length,vS y.p y.l.length,Sn,Sn,Sn])] fun _ _ => ?_
     have hG51 := hG.later hL51
     have hOy : OwnR s51 1 fI y.p y.l := own_one (by decide) fI_len hG51.1.right
     refine cxs ?_
     have ew49 : IntKind.wrap .i64 ((j : Int) + (1)) = ((j + 1 : Nat) : Int) := (wrap_i64 (by omega) (by omega)).trans (by omega)
     refine ⟨_,rfl,?_⟩
     exact ⟨(j + 1,y),4 - (j + 1),by omega,⟨rfl,rfl,rfl,rfl,congrArg (Value.int .i64) ew49,trivial⟩,⟨rfl,rfl,rfl,trivial⟩,rfl,by simp only; omega,by simp only; omega,hG51,hC51⟩
    ·refine Cm gg s51 [(0,vP c 0),Ml 2 0,Ml 3 1,Ml 5 2,(8,vI (j : Int)),(47,vB true),(51,vB true)] [(2,0,[vI 0,vI 0,vI 0,vI 0,vI 0,Sn,vI 0,Sn,Sn,Sn,Sn,Sn]),(3,1,cSV u10),(5,2,[vI r14,vI r12,vI to,vI r23,vI r25,vS T.p T.l.length,vI T.root,vS w.p w.l.length,vS y.p y.l.length,Sn,Sn,Sn])] fun _ _ => ?_
     have hG51 := hG.later hL51
     have hOy : OwnR s51 1 fI y.p y.l := own_one (by decide) fI_len hG51.1.right
     refine ⟨_,rfl,?_⟩
     refine ⟨_,Od rfl,?_⟩
     refine op_one (z := 1) (a := ((j : Int) : Int)) (f := fI) rfl rfl rfl rfl rfl (by decide) rfl (Lb rfl) rfl rfl rfl ?_
     refine op_snoc (z := 1) (st := s51) (f := fI) (b := 8) (l := y.l) (x := (j : Int)) rfl rfl rfl rfl rfl rfl rfl (by decide) fI_len rfl rfl rfl (by omega) (by unfold maxLen; omega) hOy ?_
     intro q56 s56 hO56 hP56 hN56
     refine ⟨_,rfl,?_⟩
     refine ⟨_,Os rfl,?_⟩
     refine Cm gg s56 [(0,vP c 0),Ml 2 0,Ml 3 1,Ml 5 2,(8,vI (j : Int)),(47,vB true),(51,vB true)] [(2,0,[vI 0,vI 0,vI 0,vI 0,vI 0,Sn,vI 0,Sn,Sn,Sn,Sn,Sn]),(3,1,cSV u10),(5,2,[vI r14,vI r12,vI to,vI r23,vI r25,vS T.p T.l.length,vI T.root,vS w.p w.l.length,vS q56 (y.l ++ [(j : Int)]).length,Sn,Sn,Sn])] fun _ _ => ?_
     have ew49 : IntKind.wrap .i64 ((j : Int) + (1)) = ((j + 1 : Nat) : Int) := (wrap_i64 (by omega) (by omega)).trans (by omega)
     refine ⟨_,rfl,?_⟩
     have hG56 := hG51.row (A := (pcS u10 ++ pcIs T.toRV) ++ pcIs w) (B := []) (x := pcR 1 fI y.p y.l) (y := pcR 1 fI q56 (y.l ++ [(j : Int)])) hP56 (own_pc hO56) hN56
     have hNy : New st.next y.p := hG51.2.1 (pcR 1 fI y.p y.l) (List.mem_append_right _ (List.mem_cons_self ..))
     exact ⟨(j + 1,⟨q56,y.l ++ [(j : Int)]⟩),4 - (j + 1),by omega,⟨rfl,rfl,rfl,rfl,congrArg (Value.int .i64) ew49,trivial⟩,⟨rfl,rfl,rfl,trivial⟩,rfl,by simp only; omega,by simp only [List.length_append,List.length_singleton]; omega,hG56.1,hC51.thenNew hc hG51.2.2.1 hP56 hNy⟩
  ·replace h36 : (i : Int) < r33 := of_decide_eq_true h36
   refine Cm gg st' [(0,vP c 0),Ml 2 0,Ml 3 1,Ml 5 2,(6,vI r33),(7,vI (i : Int)),(36,vB true)] [(2,0,[vI 0,vI 0,vI 0,vI 0,vI 0,Sn,vI 0,Sn,Sn,Sn,Sn,Sn]),(3,1,cSV u10),(5,2,[vI r14,vI r12,vI to,vI r23,vI r25,vS T.p T.l.length,vI T.root,vS w.p w.l.length,Sn,Sn,Sn,Sn])] fun _ _ => ?_
   refine cxs ?_
   refine ⟨fun _ => False,?_⟩
   refine ⟨_,rfl,?_⟩
   refine ⟨_,Od rfl,?_⟩
   refine ⟨ld_own rfl rfl rfl,?_⟩
   refine ⟨_,rfl,(ac_d_l1Below c 200 st' hC (by first | assumption | omega)).mono ?_⟩
   rintro _ s42 ⟨r42,rfl,h42,h42',h42'',hC42,hL42⟩
   refine ⟨fun _ h => h.elim,?_⟩
   refine op_one (z := 1) (a := (r42 : Int)) (f := fI) rfl rfl rfl rfl rfl (by decide) rfl (Lb rfl) rfl rfl rfl ?_
   refine ⟨fun _ h => h.elim,?_⟩
   have hF42 := hF.later hL42
   have hOv : OwnR s42 1 fI w.p w.l := own_one (by decide) fI_len hF42.1.right
   refine op_snoc (z := 1) (st := s42) (f := fI) (b := 8) (l := w.l) (x := r42) rfl rfl rfl rfl rfl rfl rfl (by decide) fI_len rfl rfl rfl (by omega) (by unfold maxLen; omega) hOv ?_
   intro q44 s44 hO44 hP44 hN44
   refine ⟨_,rfl,?_⟩
   refine ⟨_,Os rfl,?_⟩
   refine Cm gg s44 [(0,vP c 0),Ml 2 0,Ml 3 1,Ml 5 2,(6,vI r33),(7,vI (i : Int)),(36,vB true)] [(2,0,[vI 0,vI 0,vI 0,vI 0,vI 0,Sn,vI 0,Sn,Sn,Sn,Sn,Sn]),(3,1,cSV u10),(5,2,[vI r14,vI r12,vI to,vI r23,vI r25,vS T.p T.l.length,vI T.root,vS q44 (w.l ++ [r42]).length,Sn,Sn,Sn,Sn])] fun _ _ => ?_
   have ew38 : IntKind.wrap .i64 ((i : Int) + (1)) = ((i + 1 : Nat) : Int) := (wrap_i64 (by omega) (by omega)).trans (by omega)
   refine ⟨_,rfl,?_⟩
   have hF44 := hF42.row (A := pcS u10 ++ pcIs T.toRV) (B := []) (x := pcR 1 fI w.p w.l) (y := pcR 1 fI q44 (w.l ++ [r42])) hP44 (own_pc hO44) hN44
   have hNw : New st.next w.p := hF42.2.1 (pcR 1 fI w.p w.l) (List.mem_append_right _ (List.mem_cons_self ..))
   exact ⟨(i + 1,⟨q44,w.l ++ [r42]⟩),r33.toNat - (i + 1),by omega,⟨rfl,rfl,rfl,rfl,rfl,congrArg (Value.int .i64) ew38,trivial⟩,⟨rfl,rfl,rfl,trivial⟩,rfl,by simp only; omega,by simp only [List.length_append,List.length_singleton,hwl],hF44.1,hC42.thenNew hc hF42.2.2.1 hP44 hNw⟩
theorem ac_d_l10Draw {p : Option Addr} {bs : List Int} (c : Nat) (st : St) (hc : Cur st c p bs) (hs : bs.length < 1099511627776) : C 118 [vP c 0] st (fun v s => ∃ (g : MV) (L : List Pc),v = .agg #[vI g.kind,vI g.frm,vI g.to,vI g.num,vI g.hi,vS g.tree.p g.tree.l.length,vI g.tree.root,vS g.vec.p g.vec.l.length,vS g.leaves.p g.leaves.l.length,vS g.part.p g.part.x.items.length,vS g.part.q g.part.x.floors.length,vS g.marks.p g.marks.l.length] ∧ dM g.x ∧ FrC c st s L ∧ Hold L (fun s' => RdM s' g) ∧ Cur s c p bs) := by
 refine AC.enterX (i := ⟨[2,3],[2,3,13,16,18,24,25,28,35,38,42,47,52],[0,2,3,7,8,14,19,26,36,43,48],[]⟩) [(2010,[],[1]),(10,[3,4,5],[1])] Try.func118 rfl rfl (by kernel_rfl) (by kernel_rfl) Try.ntmps118 (Lb rfl) rfl ?_
 refine ⟨_,rfl,?_⟩
 refine Cm 1 st [(0,vP c 0),Ml 2 0] [(2,0,[vI 0,vI 0,vI 0,vI 0,vI 0,Sn,vI 0,Sn,Sn,Sn,Sn,Sn])] fun _ _ => ?_
 refine ⟨_,rfl,(ac_d_l10Right c st hc (by first | assumption | omega)).mono ?_⟩
 rintro _ s5 ⟨g5,rfl,h5,hF5,hC5⟩
 refine ⟨_,rfl,?_⟩
 refine ⟨_,op_stw (vs := cMV g5) rfl rfl rfl rfl rfl rfl rfl rfl,?_⟩
 refine Cm 2 s5 [(0,vP c 0),Ml 2 0,Ml 3 1] [(2,0,[vI 0,vI 0,vI 0,vI 0,vI 0,Sn,vI 0,Sn,Sn,Sn,Sn,Sn]),(3,1,cMV g5)] fun _ _ => ?_
 refine ⟨_,rfl,(ac_d_l1Below c 14 s5 hC5 (by first | assumption | omega)).mono ?_⟩
 rintro _ s7 ⟨r7,rfl,h7,h7',h7'',hC7,hL7⟩
 refine Cm 2 s7 [(0,vP c 0),Ml 2 0,Ml 3 1,(7,vI r7)] [(2,0,[vI 0,vI 0,vI 0,vI 0,vI 0,Sn,vI 0,Sn,Sn,Sn,Sn,Sn]),(3,1,cMV g5)] fun _ _ => ?_
 have hF7 := hF5.later hL7
 have hv5 : g5.vec.l.length ≤ 4 := h5.2.1
 have hl5 : g5.leaves.l.length ≤ 4 := h5.2.2.1
 have hm5 : g5.marks.l.length ≤ 5 := h5.2.2.2.2
 have hd : dM g5.x := ⟨h5.1,by show g5.vec.l.length ≤ 5; omega,by show g5.leaves.l.length ≤ 5; omega,h5.2.2.2.1,by show g5.marks.l.length ≤ 6; omega⟩
 refine ⟨_,rfl,?_⟩
 rintro (_|_) h9
 ·replace h9 : ¬ (r7 = (0)) := beq_eq_false_iff_ne.1 h9
  refine Cm 2 s7 [(0,vP c 0),Ml 2 0,Ml 3 1,(7,vI r7),(8,vB false)] [(2,0,[vI 0,vI 0,vI 0,vI 0,vI 0,Sn,vI 0,Sn,Sn,Sn,Sn,Sn]),(3,1,cMV g5)] fun _ _ => ?_
  refine ⟨_,rfl,?_⟩
  rintro (_|_) h15
  ·replace h15 : ¬ (r7 = (1)) := beq_eq_false_iff_ne.1 h15
   refine Cm 2 s7 [(0,vP c 0),Ml 2 0,Ml 3 1,(7,vI r7),(14,vB false)] [(2,0,[vI 0,vI 0,vI 0,vI 0,vI 0,Sn,vI 0,Sn,Sn,Sn,Sn,Sn]),(3,1,cMV g5)] fun _ _ => ?_
   refine ⟨_,rfl,?_⟩
   rintro (_|_) h20
   ·replace h20 : ¬ (r7 = (2)) := beq_eq_false_iff_ne.1 h20
    refine Cm 2 s7 [(0,vP c 0),Ml 2 0,Ml 3 1,(7,vI r7),(19,vB false)] [(2,0,[vI 0,vI 0,vI 0,vI 0,vI 0,Sn,vI 0,Sn,Sn,Sn,Sn,Sn]),(3,1,cMV g5)] fun _ _ => ?_
    refine ⟨_,rfl,?_⟩
    rintro (_|_) h27
    ·replace h27 : ¬ (r7 = (3)) := beq_eq_false_iff_ne.1 h27
     refine Cm 2 s7 [(0,vP c 0),Ml 2 0,Ml 3 1,(7,vI r7),(26,vB false)] [(2,0,[vI 0,vI 0,vI 0,vI 0,vI 0,Sn,vI 0,Sn,Sn,Sn,Sn,Sn]),(3,1,cMV g5)] fun _ _ => ?_
     refine ⟨_,rfl,?_⟩
     rintro (_|_) h37
     ·replace h37 : ¬ (r7 = (4)) := beq_eq_false_iff_ne.1 h37
      refine Cm 2 s7 [(0,vP c 0),Ml 2 0,Ml 3 1,(7,vI r7),(36,vB false)] [(2,0,[vI 0,vI 0,vI 0,vI 0,vI 0,Sn,vI 0,Sn,Sn,Sn,Sn,Sn]),(3,1,cMV g5)] fun _ _ => ?_
      refine ⟨_,rfl,?_⟩
      rintro (_|_) h44
      ·replace h44 : ¬ (r7 = (5)) := beq_eq_false_iff_ne.1 h44
       refine Cm 2 s7 [(0,vP c 0),Ml 2 0,Ml 3 1,(7,vI r7),(43,vB false)] [(2,0,[vI 0,vI 0,vI 0,vI 0,vI 0,Sn,vI 0,Sn,Sn,Sn,Sn,Sn]),(3,1,cMV g5)] fun _ _ => ?_
       refine ⟨_,rfl,?_⟩
       rintro (_|_) h49
       ·replace h49 : ¬ (r7 = (6)) := beq_eq_false_iff_ne.1 h49
        refine Cm 2 s7 [(0,vP c 0),Ml 2 0,Ml 3 1,(48,vB false)] [(2,0,[vI 0,vI 0,vI 0,vI 0,vI 0,Sn,vI 0,Sn,Sn,Sn,Sn,Sn]),(3,1,cMV g5)] fun _ _ => ?_
        refine cxs ?_
        refine ⟨_,op_ldo (v := (vMV g5)) rfl rfl rfl rfl,?_⟩
        refine ⟨_,op_stw (vs := cMV g5) rfl rfl rfl rfl rfl rfl rfl rfl,?_⟩
        exact cxs (Rt ⟨g5,pcMV g5,rfl,hd,hF7,fun s hO => hO.rdM,hC7⟩)
       ·replace h49 : r7 = (6) := beq_iff_eq.1 h49
        refine Cm 2 s7 [(0,vP c 0),Ml 2 0,Ml 3 1,(48,vB true)] [(2,0,[vI 0,vI 0,vI 0,vI 0,vI 0,Sn,vI 0,Sn,Sn,Sn,Sn,Sn]),(3,1,cMV g5)] fun _ _ => ?_
        refine ⟨_,rfl,(ac_d_l9Marks c s7 hC7 (by first | assumption | omega)).mono ?_⟩
        rintro _ s51 ⟨q51,l51,rfl,h51,hF51,hC51⟩
        refine ⟨_,rfl,?_⟩
        refine ⟨_,Os rfl,?_⟩
        refine Cm 2 s51 [Ml 2 0,Ml 3 1] [(2,0,[vI 0,vI 0,vI 0,vI 0,vI 0,Sn,vI 0,Sn,Sn,Sn,Sn,Sn]),(3,1,[vI g5.kind,vI g5.frm,vI g5.to,vI g5.num,vI g5.hi,vS g5.tree.p g5.tree.l.length,vI g5.tree.root,vS g5.vec.p g5.vec.l.length,vS g5.leaves.p g5.leaves.l.length,vS g5.part.p g5.part.x.items.length,vS g5.part.q g5.part.x.floors.length,vS q51 l51.length])] fun _ _ => ?_
        refine ⟨_,op_ldo (v := .agg #[vI g5.kind,vI g5.frm,vI g5.to,vI g5.num,vI g5.hi,vS g5.tree.p g5.tree.l.length,vI g5.tree.root,vS g5.vec.p g5.vec.l.length,vS g5.leaves.p g5.leaves.l.length,vS g5.part.p g5.part.x.items.length,vS g5.part.q g5.part.x.floors.length,vS q51 l51.length]) rfl rfl rfl rfl,?_⟩
        refine ⟨_,op_stw (vs := [vI g5.kind,vI g5.frm,vI g5.to,vI g5.num,vI g5.hi,vS g5.tree.p g5.tree.l.length,vI g5.tree.root,vS g5.vec.p g5.vec.l.length,vS g5.leaves.p g5.leaves.l.length,vS g5.part.p g5.part.x.items.length,vS g5.part.q g5.part.x.floors.length,vS q51 l51.length]) rfl rfl rfl rfl rfl rfl rfl rfl,?_⟩
        exact cxs (Rt ⟨{ g5 with marks := ⟨q51,l51⟩ },pcMV g5 ++ [pcR 2 cFlr q51 l51],rfl,⟨hd.tree,hd.vec,hd.leaves,hd.part,h51⟩,hF7.join hF51,fun s hO => have h := hO.left.rdM; ⟨h.tree,h.vec,h.leaves,h.part,OwnP.rdFV (g := ⟨q51,l51⟩) hO.right⟩,hC51⟩)
      ·replace h44 : r7 = (5) := beq_iff_eq.1 h44
       refine Cm 2 s7 [(0,vP c 0),Ml 2 0,Ml 3 1,(7,vI r7),(43,vB true)] [(2,0,[vI 0,vI 0,vI 0,vI 0,vI 0,Sn,vI 0,Sn,Sn,Sn,Sn,Sn]),(3,1,cMV g5)] fun _ _ => ?_
       refine ⟨_,rfl,(ac_d_l3Draw c s7 hC7 (by first | assumption | omega)).mono ?_⟩
       rintro _ s46 ⟨u46,rfl,h46,hF46,hC46⟩
       refine ⟨_,rfl,?_⟩
       refine ⟨_,Os rfl,?_⟩
       refine Cm 2 s46 [Ml 2 0,Ml 3 1] [(2,0,[vI 0,vI 0,vI 0,vI 0,vI 0,Sn,vI 0,Sn,Sn,Sn,Sn,Sn]),(3,1,[vI g5.kind,vI g5.frm,vI g5.to,vI g5.num,vI g5.hi,vS g5.tree.p g5.tree.l.length,vI g5.tree.root,vS g5.vec.p g5.vec.l.length,vS g5.leaves.p g5.leaves.l.length,vS u46.p u46.x.items.length,vS u46.q u46.x.floors.length,vS g5.marks.p g5.marks.l.length])] fun _ _ => ?_
       refine ⟨_,op_ldo (v := .agg #[vI g5.kind,vI g5.frm,vI g5.to,vI g5.num,vI g5.hi,vS g5.tree.p g5.tree.l.length,vI g5.tree.root,vS g5.vec.p g5.vec.l.length,vS g5.leaves.p g5.leaves.l.length,vS u46.p u46.x.items.length,vS u46.q u46.x.floors.length,vS g5.marks.p g5.marks.l.length]) rfl rfl rfl rfl,?_⟩
       refine ⟨_,op_stw (vs := [vI g5.kind,vI g5.frm,vI g5.to,vI g5.num,vI g5.hi,vS g5.tree.p g5.tree.l.length,vI g5.tree.root,vS g5.vec.p g5.vec.l.length,vS g5.leaves.p g5.leaves.l.length,vS u46.p u46.x.items.length,vS u46.q u46.x.floors.length,vS g5.marks.p g5.marks.l.length]) rfl rfl rfl rfl rfl rfl rfl rfl,?_⟩
       exact cxs (Rt ⟨{ g5 with part := u46 },pcMV g5 ++ pcS u46,rfl,⟨hd.tree,hd.vec,hd.leaves,h46.big (by decide),hd.marks⟩,hF7.join hF46,fun s hO => have h := hO.left.rdM; ⟨h.tree,h.vec,h.leaves,hO.right.rdS,h.marks⟩,hC46⟩)
     ·replace h37 : r7 = (4) := beq_iff_eq.1 h37
      refine Cm 2 s7 [(0,vP c 0),Ml 2 0,Ml 3 1,(7,vI r7),(36,vB true)] [(2,0,[vI 0,vI 0,vI 0,vI 0,vI 0,Sn,vI 0,Sn,Sn,Sn,Sn,Sn]),(3,1,cMV g5)] fun _ _ => ?_
      refine ⟨_,rfl,?_⟩
      refine ⟨_,Od rfl,?_⟩
      refine op_one (z := 1) (a := ((0 : Int) : Int)) (f := fI) rfl rfl rfl rfl rfl (by decide) rfl (Lb rfl) rfl rfl rfl ?_
      have hOl : OwnR s7 1 fI g5.leaves.p g5.leaves.l := own_one (by decide) fI_len hF7.1.right.right.left
      refine op_snoc (z := 1) (st := s7) (f := fI) (b := 8) (l := g5.leaves.l) (x := (0 : Int)) rfl rfl rfl rfl rfl rfl rfl (by decide) fI_len rfl rfl rfl (by omega) (by unfold maxLen; omega) hOl ?_
      intro q41 s41 hO41 hP41 hN41
      refine ⟨_,rfl,?_⟩
      refine ⟨_,Os rfl,?_⟩
      refine Cm 2 s41 [Ml 2 0,Ml 3 1] [(2,0,[vI 0,vI 0,vI 0,vI 0,vI 0,Sn,vI 0,Sn,Sn,Sn,Sn,Sn]),(3,1,[vI g5.kind,vI g5.frm,vI g5.to,vI g5.num,vI g5.hi,vS g5.tree.p g5.tree.l.length,vI g5.tree.root,vS g5.vec.p g5.vec.l.length,vS q41 (g5.leaves.l ++ [(0 : Int)]).length,vS g5.part.p g5.part.x.items.length,vS g5.part.q g5.part.x.floors.length,vS g5.marks.p g5.marks.l.length])] fun _ _ => ?_
      refine ⟨_,op_ldo (v := .agg #[vI g5.kind,vI g5.frm,vI g5.to,vI g5.num,vI g5.hi,vS g5.tree.p g5.tree.l.length,vI g5.tree.root,vS g5.vec.p g5.vec.l.length,vS q41 (g5.leaves.l ++ [(0 : Int)]).length,vS g5.part.p g5.part.x.items.length,vS g5.part.q g5.part.x.floors.length,vS g5.marks.p g5.marks.l.length]) rfl rfl rfl rfl,?_⟩
      refine ⟨_,op_stw (vs := [vI g5.kind,vI g5.frm,vI g5.to,vI g5.num,vI g5.hi,vS g5.tree.p g5.tree.l.length,vI g5.tree.root,vS g5.vec.p g5.vec.l.length,vS q41 (g5.leaves.l ++ [(0 : Int)]).length,vS g5.part.p g5.part.x.items.length,vS g5.part.q g5.part.x.floors.length,vS g5.marks.p g5.marks.l.length]) rfl rfl rfl rfl rfl rfl rfl rfl,?_⟩
      refine cxs ?_
      have hF41 := FrC.row (A := pcIs g5.tree.toRV ++ pcIs g5.vec) (B := pcS g5.part ++ pcFV g5.marks) (x := pcR 1 fI g5.leaves.p g5.leaves.l) (y := pcR 1 fI q41 (g5.leaves.l ++ [0])) hF7 hP41 (own_pc hO41) hN41
      have hNl : New st.next g5.leaves.p := hF7.2.1 (pcR 1 fI g5.leaves.p g5.leaves.l) (List.mem_append_right _ (List.mem_append_right _ (List.mem_append_left _ (List.mem_cons_self ..))))
      exact Rt ⟨{ g5 with leaves := ⟨q41,g5.leaves.l ++ [0]⟩ },pcMV { g5 with leaves := ⟨q41,g5.leaves.l ++ [0]⟩ },rfl,⟨hd.tree,hd.vec,by show (g5.leaves.l ++ [0]).length ≤ 5; rw [List.length_append,List.length_singleton]; omega,hd.part,hd.marks⟩,hF41.1,fun s hO => hO.rdM,hC7.thenNew hc hF7.2.2.1 hP41 hNl⟩
    ·replace h27 : r7 = (3) := beq_iff_eq.1 h27
     refine Cm 2 s7 [(0,vP c 0),Ml 2 0,Ml 3 1,(7,vI r7),(26,vB true)] [(2,0,[vI 0,vI 0,vI 0,vI 0,vI 0,Sn,vI 0,Sn,Sn,Sn,Sn,Sn]),(3,1,cMV g5)] fun _ _ => ?_
     refine ⟨fun _ => False,?_⟩
     refine ⟨_,rfl,?_⟩
     refine ⟨_,Od rfl,?_⟩
     refine ⟨ld_own rfl rfl rfl,?_⟩
     refine op_litI (k := .i64) (l := [-1,100001]) rfl rfl rfl rfl rfl rfl (Lb rfl) ?_
     intro q31 s31 hO31 hP31 hN31
     refine ⟨fun _ h => h.elim,?_⟩
     refine ⟨_,rfl,(ac_d_l1PickInt c q31 [-1,100001] s31 (hC7.pres hP31) hs (Nat.succ_pos _) hO31 (NC.new hN31 hC7.lt)).mono ?_⟩
     rintro _ s32 ⟨r32,rfl,h32,hC32,hL32⟩
     refine ⟨fun _ h => h.elim,?_⟩
     refine op_one (z := 1) (a := (r32 : Int)) (f := fI) rfl rfl rfl rfl rfl (by decide) rfl (Lb rfl) rfl rfl rfl ?_
     refine ⟨fun _ h => h.elim,?_⟩
     have hF32 := (hF7.step hP31).later hL32
     have hOv : OwnR s32 1 fI g5.vec.p g5.vec.l := own_one (by decide) fI_len hF32.1.right.left
     refine op_snoc (z := 1) (st := s32) (f := fI) (b := 8) (l := g5.vec.l) (x := r32) rfl rfl rfl rfl rfl rfl rfl (by decide) fI_len rfl rfl rfl (by omega) (by unfold maxLen; omega) hOv ?_
     intro q34 s34 hO34 hP34 hN34
     refine ⟨_,rfl,?_⟩
     refine ⟨_,Os rfl,?_⟩
     refine Cm 2 s34 [Ml 2 0,Ml 3 1] [(2,0,[vI 0,vI 0,vI 0,vI 0,vI 0,Sn,vI 0,Sn,Sn,Sn,Sn,Sn]),(3,1,[vI g5.kind,vI g5.frm,vI g5.to,vI g5.num,vI g5.hi,vS g5.tree.p g5.tree.l.length,vI g5.tree.root,vS q34 (g5.vec.l ++ [r32]).length,vS g5.leaves.p g5.leaves.l.length,vS g5.part.p g5.part.x.items.length,vS g5.part.q g5.part.x.floors.length,vS g5.marks.p g5.marks.l.length])] fun _ _ => ?_
     refine ⟨_,op_ldo (v := .agg #[vI g5.kind,vI g5.frm,vI g5.to,vI g5.num,vI g5.hi,vS g5.tree.p g5.tree.l.length,vI g5.tree.root,vS q34 (g5.vec.l ++ [r32]).length,vS g5.leaves.p g5.leaves.l.length,vS g5.part.p g5.part.x.items.length,vS g5.part.q g5.part.x.floors.length,vS g5.marks.p g5.marks.l.length]) rfl rfl rfl rfl,?_⟩
     refine ⟨_,op_stw (vs := [vI g5.kind,vI g5.frm,vI g5.to,vI g5.num,vI g5.hi,vS g5.tree.p g5.tree.l.length,vI g5.tree.root,vS q34 (g5.vec.l ++ [r32]).length,vS g5.leaves.p g5.leaves.l.length,vS g5.part.p g5.part.x.items.length,vS g5.part.q g5.part.x.floors.length,vS g5.marks.p g5.marks.l.length]) rfl rfl rfl rfl rfl rfl rfl rfl,?_⟩
     refine cxs ?_
     have hF34 := FrC.row (A := pcIs g5.tree.toRV) (B := pcIs g5.leaves ++ (pcS g5.part ++ pcFV g5.marks)) (x := pcR 1 fI g5.vec.p g5.vec.l) (y := pcR 1 fI q34 (g5.vec.l ++ [r32])) hF32 hP34 (own_pc hO34) hN34
     have hNv : New st.next g5.vec.p := hF32.2.1 (pcR 1 fI g5.vec.p g5.vec.l) (List.mem_append_right _ (List.mem_append_left _ (List.mem_cons_self ..)))
     exact Rt ⟨{ g5 with vec := ⟨q34,g5.vec.l ++ [r32]⟩ },pcMV { g5 with vec := ⟨q34,g5.vec.l ++ [r32]⟩ },rfl,⟨hd.tree,by show (g5.vec.l ++ [r32]).length ≤ 5; rw [List.length_append,List.length_singleton]; omega,hd.leaves,hd.part,hd.marks⟩,hF34.1,fun s hO => hO.rdM,hC32.thenNew hc hF32.2.2.1 hP34 hNv⟩
   ·replace h20 : r7 = (2) := beq_iff_eq.1 h20
    refine Cm 2 s7 [(0,vP c 0),Ml 2 0,Ml 3 1,(7,vI r7),(19,vB true)] [(2,0,[vI 0,vI 0,vI 0,vI 0,vI 0,Sn,vI 0,Sn,Sn,Sn,Sn,Sn]),(3,1,cMV g5)] fun _ _ => ?_
    refine op_litI (k := .i64) (l := [-1,1024,5]) rfl rfl rfl rfl rfl rfl (Lb rfl) ?_
    intro q22 s22 hO22 hP22 hN22
    refine ⟨_,rfl,(ac_d_l1PickInt c q22 [-1,1024,5] s22 (hC7.pres hP22) hs (Nat.succ_pos _) hO22 (NC.new hN22 hC7.lt)).mono ?_⟩
    rintro _ s23 ⟨r23,rfl,h23,hC23,hL23⟩
    iterate 2 refine ⟨_,rfl,?_⟩
    refine ⟨_,Os rfl,?_⟩
    refine Cm 2 s23 [Ml 2 0,Ml 3 1] [(2,0,[vI 0,vI 0,vI 0,vI 0,vI 0,Sn,vI 0,Sn,Sn,Sn,Sn,Sn]),(3,1,[vI g5.kind,vI g5.frm,vI g5.to,vI g5.num,vI g5.hi,vS g5.tree.p g5.tree.l.length,vI r23,vS g5.vec.p g5.vec.l.length,vS g5.leaves.p g5.leaves.l.length,vS g5.part.p g5.part.x.items.length,vS g5.part.q g5.part.x.floors.length,vS g5.marks.p g5.marks.l.length])] fun _ _ => ?_
    refine ⟨_,op_ldo (v := .agg #[vI g5.kind,vI g5.frm,vI g5.to,vI g5.num,vI g5.hi,vS g5.tree.p g5.tree.l.length,vI r23,vS g5.vec.p g5.vec.l.length,vS g5.leaves.p g5.leaves.l.length,vS g5.part.p g5.part.x.items.length,vS g5.part.q g5.part.x.floors.length,vS g5.marks.p g5.marks.l.length]) rfl rfl rfl rfl,?_⟩
    refine ⟨_,op_stw (vs := [vI g5.kind,vI g5.frm,vI g5.to,vI g5.num,vI g5.hi,vS g5.tree.p g5.tree.l.length,vI r23,vS g5.vec.p g5.vec.l.length,vS g5.leaves.p g5.leaves.l.length,vS g5.part.p g5.part.x.items.length,vS g5.part.q g5.part.x.floors.length,vS g5.marks.p g5.marks.l.length]) rfl rfl rfl rfl rfl rfl rfl rfl,?_⟩
    exact cxs (Rt ⟨{ g5 with tree := { g5.tree with root := r23 } },pcMV g5,rfl,⟨hd.tree,hd.vec,hd.leaves,hd.part,hd.marks⟩,(hF7.step hP22).later hL23,fun s hO => have h := hO.rdM; ⟨h.tree,h.vec,h.leaves,h.part,h.marks⟩,hC23⟩)
  ·replace h15 : r7 = (1) := beq_iff_eq.1 h15
   refine Cm 2 s7 [(0,vP c 0),Ml 2 0,Ml 3 1,(7,vI r7),(14,vB true)] [(2,0,[vI 0,vI 0,vI 0,vI 0,vI 0,Sn,vI 0,Sn,Sn,Sn,Sn,Sn]),(3,1,cMV g5)] fun _ _ => ?_
   refine ⟨_,rfl,?_⟩
   refine ⟨_,Od rfl,?_⟩
   refine ⟨_,rfl,?_⟩
   refine ⟨_,Os rfl,?_⟩
   refine Cm 2 s7 [Ml 2 0,Ml 3 1] [(2,0,[vI 0,vI 0,vI 0,vI 0,vI 0,Sn,vI 0,Sn,Sn,Sn,Sn,Sn]),(3,1,[vI g5.kind,vI g5.frm,vI g5.frm,vI g5.num,vI g5.hi,vS g5.tree.p g5.tree.l.length,vI g5.tree.root,vS g5.vec.p g5.vec.l.length,vS g5.leaves.p g5.leaves.l.length,vS g5.part.p g5.part.x.items.length,vS g5.part.q g5.part.x.floors.length,vS g5.marks.p g5.marks.l.length])] fun _ _ => ?_
   refine ⟨_,op_ldo (v := .agg #[vI g5.kind,vI g5.frm,vI g5.frm,vI g5.num,vI g5.hi,vS g5.tree.p g5.tree.l.length,vI g5.tree.root,vS g5.vec.p g5.vec.l.length,vS g5.leaves.p g5.leaves.l.length,vS g5.part.p g5.part.x.items.length,vS g5.part.q g5.part.x.floors.length,vS g5.marks.p g5.marks.l.length]) rfl rfl rfl rfl,?_⟩
   refine ⟨_,op_stw (vs := [vI g5.kind,vI g5.frm,vI g5.frm,vI g5.num,vI g5.hi,vS g5.tree.p g5.tree.l.length,vI g5.tree.root,vS g5.vec.p g5.vec.l.length,vS g5.leaves.p g5.leaves.l.length,vS g5.part.p g5.part.x.items.length,vS g5.part.q g5.part.x.floors.length,vS g5.marks.p g5.marks.l.length]) rfl rfl rfl rfl rfl rfl rfl rfl,?_⟩
   exact cxs (Rt ⟨{ g5 with to := g5.frm },pcMV g5,rfl,⟨hd.tree,hd.vec,hd.leaves,hd.part,hd.marks⟩,hF7,fun s hO => have h := hO.rdM; ⟨h.tree,h.vec,h.leaves,h.part,h.marks⟩,hC7⟩)
 ·replace h9 : r7 = (0) := beq_iff_eq.1 h9
  refine Cm 2 s7 [(0,vP c 0),Ml 2 0,Ml 3 1,(7,vI r7),(8,vB true)] [(2,0,[vI 0,vI 0,vI 0,vI 0,vI 0,Sn,vI 0,Sn,Sn,Sn,Sn,Sn]),(3,1,cMV g5)] fun _ _ => ?_
  refine op_litI (k := .i64) (l := [-1,6]) rfl rfl rfl rfl rfl rfl (Lb rfl) ?_
  intro q11 s11 hO11 hP11 hN11
  refine ⟨_,rfl,(ac_d_l1PickInt c q11 [-1,6] s11 (hC7.pres hP11) hs (Nat.succ_pos _) hO11 (NC.new hN11 hC7.lt)).mono ?_⟩
  rintro _ s12 ⟨r12,rfl,h12,hC12,hL12⟩
  refine ⟨_,rfl,?_⟩
  refine ⟨_,Os rfl,?_⟩
  refine Cm 2 s12 [Ml 2 0,Ml 3 1] [(2,0,[vI 0,vI 0,vI 0,vI 0,vI 0,Sn,vI 0,Sn,Sn,Sn,Sn,Sn]),(3,1,[vI r12,vI g5.frm,vI g5.to,vI g5.num,vI g5.hi,vS g5.tree.p g5.tree.l.length,vI g5.tree.root,vS g5.vec.p g5.vec.l.length,vS g5.leaves.p g5.leaves.l.length,vS g5.part.p g5.part.x.items.length,vS g5.part.q g5.part.x.floors.length,vS g5.marks.p g5.marks.l.length])] fun _ _ => ?_
  refine ⟨_,op_ldo (v := .agg #[vI r12,vI g5.frm,vI g5.to,vI g5.num,vI g5.hi,vS g5.tree.p g5.tree.l.length,vI g5.tree.root,vS g5.vec.p g5.vec.l.length,vS g5.leaves.p g5.leaves.l.length,vS g5.part.p g5.part.x.items.length,vS g5.part.q g5.part.x.floors.length,vS g5.marks.p g5.marks.l.length]) rfl rfl rfl rfl,?_⟩
  refine ⟨_,op_stw (vs := [vI r12,vI g5.frm,vI g5.to,vI g5.num,vI g5.hi,vS g5.tree.p g5.tree.l.length,vI g5.tree.root,vS g5.vec.p g5.vec.l.length,vS g5.leaves.p g5.leaves.l.length,vS g5.part.p g5.part.x.items.length,vS g5.part.q g5.part.x.floors.length,vS g5.marks.p g5.marks.l.length]) rfl rfl rfl rfl rfl rfl rfl rfl,?_⟩
  exact cxs (Rt ⟨{ g5 with kind := r12 },pcMV g5,rfl,⟨hd.tree,hd.vec,hd.leaves,hd.part,hd.marks⟩,(hF7.step hP11).later hL12,fun s hO => have h := hO.rdM; ⟨h.tree,h.vec,h.leaves,h.part,h.marks⟩,hC12⟩)
theorem ac_spec_DrawMsgBytes (p : Option Addr) (bs : List Int) (st : St) (hI : Ints st .u8 p bs) (hs : bs.length < 1099511627776) : C 52 [vS p bs.length] st (fun v s => ∃ g : MV,v = .agg #[vI g.kind,vI g.frm,vI g.to,vI g.num,vI g.hi,vS g.tree.p g.tree.l.length,vI g.tree.root,vS g.vec.p g.vec.l.length,vS g.leaves.p g.leaves.l.length,vS g.part.p g.part.x.items.length,vS g.part.q g.part.x.floors.length,vS g.marks.p g.marks.l.length] ∧ dM g.x ∧ RdM s g ∧ Pres st s) := by
 refine AC.enterX (i := ⟨[2],[2],[0,2],[]⟩) [] Try.func52 rfl rfl (by kernel_rfl) (by kernel_rfl) Try.ntmps52 (Lb rfl) rfl ?_
 refine ⟨_,rfl,?_⟩
 refine Cm 1 st [(0,vS p bs.length),Ml 2 0] [(2,0,[vI 0,vI 0,vI 0,vI 0,vI 0,Sn,vI 0,Sn,Sn,Sn,Sn,Sn])] fun _ _ => ?_
 refine ⟨_,rfl,(ac_spec_l1New p bs st hI (by first | assumption | omega)).mono ?_⟩
 rintro _ s4 ⟨rfl,hC4,hP4,h4⟩
 refine ⟨_,rfl,(ac_d_l10Draw st.next s4 hC4 (by first | assumption | omega)).mono ?_⟩
 rintro _ s5 ⟨g5,L5,rfl,h5,hF5,h5',hC5⟩
 refine ⟨_,op_stw (vs := cMV g5) rfl rfl rfl rfl rfl rfl rfl rfl,?_⟩
 refine cxs ?_
 have hF := hF5.out hP4
 exact Rt ⟨g5,rfl,h5,h5' _ hF.1,hF.2.2⟩
theorem OwnR.presC {c : Nat} {st s : St} {q : Option Addr} {l : List Int} (h : OwnR st 1 fB q l) (hn : NC c q) (k : PresC c st s) : OwnR s 1 fB q l :=
 pc_own (by decide) fB_len ((own_pc h).keep k.1 fun r hr => k.2 _ ((own_pc h).old r hr) (hn r hr))
theorem PresC.lq {c : Nat} {st s : St} {q : Option Addr} (k : PresC c st s) : PrL [some ⟨c,0,none⟩,q] st s := ⟨k.1,fun a ha hx => k.2 a ha fun e => hx (some ⟨c,0,none⟩) (List.mem_cons_self ..) ⟨c,0,none⟩ rfl e⟩
theorem Pr.lq {c : Nat} {st s : St} {q : Option Addr} (k : Pr q st s) : PrL [some ⟨c,0,none⟩,q] st s := k.l (List.mem_cons_of_mem _ (List.mem_cons_self ..))
theorem u8_rng (z : Int) : 0 ≤ IntKind.wrap .u8 z ∧ IntKind.wrap .u8 z < 256 := by
 have h : IntKind.wrap .u8 z = z % 256 := by
  unfold IntKind.wrap
  simp [IntKind.bits,IntKind.signed]
 rw [h]
 omega
theorem xor_rng (a b : Int) : 0 ≤ bits .xor .u8 a b ∧ bits .xor .u8 a b < 256 := by
 obtain ⟨z,hz⟩ : ∃ z,bits .xor .u8 a b = IntKind.wrap .u8 z := ⟨_,rfl⟩
 rw [hz]; exact u8_rng z
theorem set_ok {l : List Int} {i : Nat} {u : Int} (h : bytesOk l) (hu : 0 ≤ u ∧ u < 256) : bytesOk (l.set i u) := fun x hx => by
 rcases List.mem_or_eq_of_mem_set hx with hx | rfl
 ·exact h x hx
 ·exact hu
theorem ac_d_l10Spoil {p : Option Addr} {bs : List Int} (c : Nat) (q : Option Addr) (l : List Int) (st : St) (hc : Cur st c p bs) (hs : bs.length < 1099511627776) (hO : OwnR st 1 fB q l) (hn : NC c q) (hb : bytesOk l) (hl : l.length ≤ 600) : C 146 [vP c 0,vS q l.length] st (fun v s => ∃ (r : Option Addr) (m : List Int),v = vS r m.length ∧ bytesOk m ∧ m.length ≤ 600 ∧ Rows s 1 fB r m ∧ PrL [some ⟨c,0,none⟩,q] st s) := by
 refine AC.enterX (i := ⟨[],[],[0,1,4,5,6,9,12,13,31,39,43],[]⟩) [(2012,[],[1]),(2006,[],[1]),(6,[7],[5]),(12,[7],[5]),(13,[],[])] Try.func146 rfl rfl (by kernel_rfl) (by kernel_rfl) Try.ntmps146 (Lb rfl) rfl ?_
 refine Cu lo0 st [(0,vP c 0),(1,vS q l.length),(4,Sn)] fun _ => ?_
 iterate 2 refine ⟨_,rfl,?_⟩
 rintro (_|_) h9
 ·replace h9 : ¬ ((l.length : Int) = (0)) := beq_eq_false_iff_ne.1 h9
  refine Cu lo0 st [(0,vP c 0),(1,vS q l.length),(4,Sn),(9,vB false)] fun _ => ?_
  refine cxs ?_
  refine ⟨_,rfl,(ac_d_l1Below c 6 st hc (by first | assumption | omega)).mono ?_⟩
  rintro _ s12 ⟨r12,rfl,h12,h12',h12'',hC12,hL12⟩
  refine Cu lo0 s12 [(0,vP c 0),(1,vS q l.length),(4,Sn),(12,vI r12)] fun _ => ?_
  have hO12 := hO.presC hn hL12
  refine ⟨_,rfl,?_⟩
  rintro (_|_) h14
  ·replace h14 : ¬ (r12 = (0)) := beq_eq_false_iff_ne.1 h14
   refine Cu lo0 s12 [(0,vP c 0),(1,vS q l.length),(4,Sn),(12,vI r12),(13,vB false)] fun _ => ?_
   refine ⟨_,rfl,?_⟩
   rintro (_|_) h32
   ·replace h32 : ¬ (r12 = (1)) := beq_eq_false_iff_ne.1 h32
    refine Cu lo0 s12 [(0,vP c 0),(1,vS q l.length),(4,Sn),(12,vI r12),(31,vB false)] fun _ => ?_
    refine ⟨_,rfl,?_⟩
    rintro (_|_) h40
    ·replace h40 : ¬ (r12 = (2)) := beq_eq_false_iff_ne.1 h40
     refine Cu lo0 s12 [(0,vP c 0),(1,vS q l.length),(4,Sn),(39,vB false)] fun _ => ?_
     refine cxs ?_
     exact cxs (Rt ⟨q,l,rfl,hb,hl,hO12.rows fB_len,hL12.lq⟩)
    ·replace h40 : r12 = (2) := beq_iff_eq.1 h40
     refine Cu lo0 s12 [(0,vP c 0),(1,vS q l.length),(4,Sn),(39,vB true)] fun _ => ?_
     iterate 2 refine ⟨_,rfl,?_⟩
     rintro (_|_) h43
     ·replace h43 : ¬ ((l.length : Int) > (8)) := of_decide_eq_false h43
      refine Cu lo0 s12 [(0,vP c 0),(1,vS q l.length),(4,Sn),(43,vB false)] fun _ => ?_
      refine cxs ?_
      exact cxs (Rt ⟨q,l,rfl,hb,hl,hO12.rows fB_len,hL12.lq⟩)
     ·replace h43 : (l.length : Int) > (8) := of_decide_eq_true h43
      refine Cu lo0 s12 [(0,vP c 0),(1,vS q l.length),(4,Sn),(43,vB true)] fun _ => ?_
      refine ⟨_,rfl,?_⟩
      have ew47 : IntKind.wrap .i64 ((l.length : Int) - (7)) = (l.length : Int) - (7) := wrap_i64 (by omega) (by omega)
      refine ⟨_,rfl,?_⟩
      refine ⟨_,rfl,(ac_d_l1Below c (IntKind.wrap .i64 ((l.length : Int) - (7))) s12 hC12 (by first | assumption | omega)).mono ?_⟩
      rintro _ s48 ⟨r48,rfl,h48,h48',h48'',hC48,hL48⟩
      rw [ew47] at h48'
      rw [ew47] at h48''
      have ew49 : IntKind.wrap .i64 ((2) + r48) = (2) + r48 := wrap_i64 (by omega) (by omega)
      refine ⟨_,rfl,?_⟩
      refine AW.cut lo0 s48 [(0,vP c 0),(1,vS q l.length),(4,Sn),(6,vI ((2) + r48))] ⟨rfl,rfl,rfl,congrArg (Value.int .i64) ew49,trivial⟩ fun _ => ?_
      have hr48 := h48' (by omega)
      have hO48 := hO12.presC hn hL48
      obtain ⟨a,ha⟩ := hO48.some (by omega)
      obtain ⟨b1,o1,k1,y,hpe,hy,hm1,hc1,hb1⟩ := (hO48.rows fB_len).atB (j := (2 + r48).toNat) (by omega)
      obtain ⟨rfl,rfl⟩ : a = b1 ∧ 0 = o1 := by rw [ha] at hpe; injection hpe with hpe; injection hpe with e1 e2; exact ⟨e1,e2⟩
      have hac : a ≠ c := hn _ ha
      have hi0 : 0 ≤ 2 + r48 ∧ 2 + r48 < (l.length : Int) := by omega
      refine ⟨(fun x => x ≠ c ∧ x < s48.next),?_⟩
      refine ⟨_,op_idx (j := 2 + r48) (n := l.length) (q := ⟨a,0,none⟩) rfl (congrArg (fun v => vS v l.length) ha) rfl rfl rfl hi0.1 hi0.2,?_⟩
      refine ⟨_,op_ldc (i := 0) rfl rfl rfl rfl hm1 hc1 rfl rfl,?_⟩
      refine ⟨ld_lt rfl rfl ⟨hac,hb1⟩,?_⟩
      refine ⟨_,rfl,(ac_d_l1Below c 255 s48 hC48 hs).mono ?_⟩
      rintro _ s57 ⟨r57,rfl,h57,h57',h57'',hC57,hL57⟩
      refine ⟨fun x hx => hL57.2 x hx.2 hx.1,?_⟩
      iterate 3 refine ⟨_,rfl,?_⟩
      refine ⟨_,op_idx (j := 2 + r48) (n := l.length) (q := ⟨a,0,none⟩) rfl (congrArg (fun v => vS v l.length) ha) rfl rfl rfl hi0.1 hi0.2,?_⟩
      refine op_put (st := s57) (f := fB) (j := (2 + r48).toNat) (l := l) (y := bits .xor .u8 y (IntKind.wrap .u8 (IntKind.wrap .i64 (1 + r57)))) (p := q) (d := 0 + (2 + r48).toNat * 1) rfl rfl (Nat.zero_add _) rfl rfl fB_len rfl rfl (by omega) (hO48.presC hn hL57) ha ?_
      intro s61 hO61 hP61 hn61
      refine Cu lo0 s61 [(1,vS q l.length),(4,Sn)] fun _ => ?_
      have hL61 : PrL [some ⟨c,0,none⟩,q] st s61 := ((hL12.lq.trans hL48.lq).trans hL57.lq).trans hP61.lq
      obtain ⟨m1,hm1e⟩ : ∃ x,x = l.set (2 + r48).toNat (bits .xor .u8 y (IntKind.wrap .u8 (IntKind.wrap .i64 (1 + r57)))) := ⟨_,rfl⟩
      rw [← hm1e] at hO61
      have hob1 : bytesOk m1 := hm1e ▸ set_ok hb (xor_rng _ _)
      have hml1 : m1.length = l.length := by rw [hm1e,List.length_set]
      obtain ⟨lw,hlw⟩ : ∃ x,x = m1.take (l.length - 4) := ⟨_,rfl⟩
      have hll : lw.length = l.length - 4 := by rw [hlw,List.length_take]; omega
      have hRw : Rows s61 1 fB q lw := hlw ▸ (hO61.rows fB_len).take _
      have hob : bytesOk lw := fun x hx => hob1 x (List.mem_of_mem_take (hlw ▸ hx))
      have h4 : (crcB lw).length = 4 := rfl
      iterate 2 refine ⟨_,rfl,?_⟩
      have ew66 : IntKind.wrap .i64 ((l.length : Int) - (4)) = (l.length : Int) - (4) := wrap_i64 (by omega) (by omega)
      refine ⟨_,rfl,?_⟩
      refine ⟨_,op_slH (j := lw.length) rfl rfl rfl (by rw [ew66]; omega) rfl rfl (by omega),?_⟩
      refine op_cat' (z := 1) (st := s61) (f := fB) (b := 1) (l := []) (l2 := lw) rfl rfl rfl rfl rfl rfl rfl (by decide) fB_len rfl rfl rfl rfl (by first | omega | (simp only [List.length_nil]; omega)) (by unfold maxLen; first | omega | (simp only [List.length_nil]; omega)) OwnR.nil hRw ?_
      intro q68 s68 hO68 hPr68 hN68
      have hP68 : Pres s61 s68 := hPr68.pres (Pres.refl _) New.none
      have hN68' := cat_new (Pres.refl s61) New.none hN68
      have hO68 : OwnR s68 1 fB q68 lw := hO68
      refine ⟨_,rfl,?_⟩
      have ew72 : IntKind.wrap .i64 ((l.length : Int) - (4)) = (l.length : Int) - (4) := wrap_i64 (by omega) (by omega)
      refine ⟨_,rfl,?_⟩
      refine ⟨_,op_slH (j := lw.length) rfl rfl rfl (by rw [ew72]; omega) rfl rfl (by omega),?_⟩
      refine ⟨_,rfl,(ac_spec_l10Sum q lw s68 (hP68.rows hRw) hob (by omega)).mono ?_⟩
      rintro _ s74 ⟨q74,rfl,hO74,hN74,hP74⟩
      refine op_cat' (z := 1) (st := s74) (f := fB) (b := 1) (l := lw) (l2 := crcB lw) rfl rfl rfl rfl rfl rfl rfl (by decide) fB_len rfl rfl rfl rfl (by first | omega | (simp only [List.length_nil]; omega)) (by unfold maxLen; first | omega | (simp only [List.length_nil]; omega)) (hP74.ownR hO68) (hO74.rows fB_len) ?_
      intro q75 s75 hO75 hPr75 hN75
      refine cxs ?_
      exact cxs (Rt ⟨q75,lw ++ crcB lw,rfl,hob.app (crcB_ok hob),by rw [List.length_append]; omega,hO75.rows fB_len,hL61.trans (hPr75.pres (hP68.trans hP74) hN68').l⟩)
   ·replace h32 : r12 = (1) := beq_iff_eq.1 h32
    refine Cu lo0 s12 [(0,vP c 0),(1,vS q l.length),(4,Sn),(12,vI r12),(31,vB true)] fun _ => ?_
    refine ⟨_,rfl,?_⟩
    refine ⟨_,rfl,(ac_d_l1Below c (l.length : Int) s12 hC12 (by first | assumption | omega)).mono ?_⟩
    rintro _ s37 ⟨r37,rfl,h37,h37',h37'',hC37,hL37⟩
    have hr37 := h37' (by omega)
    obtain ⟨j,hj⟩ : ∃ j : Nat,r37 = (j : Int) := ⟨r37.toNat,by omega⟩
    have hlt : (l.take j).length = j := by rw [List.length_take]; omega
    refine ⟨_,op_slH (p := q) (n := l.length) (j := j) rfl rfl rfl hj rfl rfl (by omega),?_⟩
    refine cxs ?_
    exact cxs (Rt ⟨q,l.take j,congrArg (vS q) hlt.symm,fun x hx => hb x (List.mem_of_mem_take hx),by omega,((hO12.presC hn hL37).rows fB_len).take j,hL12.lq.trans hL37.lq⟩)
  ·replace h14 : r12 = (0) := beq_iff_eq.1 h14
   refine Cu lo0 s12 [(0,vP c 0),(1,vS q l.length),(4,Sn),(12,vI r12),(13,vB true)] fun _ => ?_
   refine ⟨_,rfl,?_⟩
   refine ⟨_,rfl,(ac_d_l1Below c (l.length : Int) s12 hC12 (by first | assumption | omega)).mono ?_⟩
   rintro _ s18 ⟨r18,rfl,h18,h18',h18'',hC18,hL18⟩
   refine Cu lo0 s18 [(0,vP c 0),(1,vS q l.length),(4,Sn),(5,vI r18)] fun _ => ?_
   have hr18 := h18' (by omega)
   have hO18 := hO12.presC hn hL18
   obtain ⟨a,ha⟩ := hO18.some (by omega)
   obtain ⟨b1,o1,k1,y,hpe,hy,hm1,hc1,hb1⟩ := (hO18.rows fB_len).atB (j := r18.toNat) (by omega)
   obtain ⟨rfl,rfl⟩ : a = b1 ∧ 0 = o1 := by rw [ha] at hpe; injection hpe with hpe; injection hpe with e1 e2; exact ⟨e1,e2⟩
   have hac : a ≠ c := hn _ ha
   refine ⟨(fun x => x ≠ c ∧ x < s18.next),?_⟩
   refine ⟨_,op_idx (j := r18) (n := l.length) (q := ⟨a,0,none⟩) rfl (congrArg (fun v => vS v l.length) ha) rfl rfl rfl h18 hr18,?_⟩
   refine ⟨_,op_ldc (i := 0) rfl rfl rfl rfl hm1 hc1 rfl rfl,?_⟩
   refine ⟨ld_lt rfl rfl ⟨hac,hb1⟩,?_⟩
   refine ⟨_,rfl,(ac_d_l1Below c 255 s18 hC18 hs).mono ?_⟩
   rintro _ s26 ⟨r26,rfl,h26,h26',h26'',hC26,hL26⟩
   refine ⟨fun x hx => hL26.2 x hx.2 hx.1,?_⟩
   iterate 3 refine ⟨_,rfl,?_⟩
   refine ⟨_,op_idx (j := r18) (n := l.length) (q := ⟨a,0,none⟩) rfl (congrArg (fun v => vS v l.length) ha) rfl rfl rfl h18 hr18,?_⟩
   refine op_put (st := s26) (f := fB) (j := r18.toNat) (l := l) (y := bits .xor .u8 y (IntKind.wrap .u8 (IntKind.wrap .i64 (1 + r26)))) (p := q) (d := 0 + r18.toNat * 1) rfl rfl (Nat.zero_add _) rfl rfl fB_len rfl rfl (by omega) (hO18.presC hn hL26) ha ?_
   intro s30 hO30 hP30 hn30
   refine cxs ?_
   exact cxs (Rt ⟨q,_,congrArg (vS q) List.length_set.symm,set_ok hb (xor_rng _ _),by rw [List.length_set]; exact hl,hO30.rows fB_len,((hL12.lq.trans hL18.lq).trans hL26.lq).trans hP30.lq⟩)
 ·replace h9 : (l.length : Int) = (0) := beq_iff_eq.1 h9
  refine Cu lo0 st [(0,vP c 0),(1,vS q l.length),(4,Sn),(9,vB true)] fun _ => ?_
  exact cxs (Rt ⟨q,l,rfl,hb,hl,hO.rows fB_len,PrL.refl _ _⟩)
theorem ac_spec_DrawMsgOf (p : Option Addr) (bs : List Int) (st : St) (hI : Ints st .u8 p bs) (hs : bs.length < 1099511627776) : C 66 [vS p bs.length] st (fun v s => ∃ (q : Option Addr) (l : List Int),v = vS q l.length ∧ bytesOk l ∧ l.length ≤ 600 ∧ Rows s 1 fB q l ∧ Pres st s) := by
 refine AC.enterX (i := ⟨[],[],[0,2,3,4,11],[]⟩) [] Try.func66 rfl rfl (by kernel_rfl) (by kernel_rfl) Try.ntmps66 (Lb rfl) rfl ?_
 refine Cu lo0 st [(0,vS p bs.length),(2,Sn)] fun _ => ?_
 refine ⟨_,rfl,(ac_spec_l1New p bs st hI (by first | assumption | omega)).mono ?_⟩
 rintro _ s6 ⟨rfl,hC6,hP6,h6⟩
 refine Cu lo0 s6 [(2,Sn),(3,vP st.next 0)] fun _ => ?_
 refine ⟨_,rfl,(ac_d_l10Draw st.next s6 hC6 (by first | assumption | omega)).mono ?_⟩
 rintro _ s8 ⟨g8,L8,rfl,h8,hF8,h8',hC8⟩
 refine ⟨_,rfl,(ac_spec_MsgBytes g8 s8 (h8' _ hF8.1) h8.big).mono ?_⟩
 rintro _ s9 ⟨q9,rfl,hO9,hN9,hP9⟩
 refine Cu lo0 s9 [(2,Sn),(3,vP st.next 0),(4,vS q9 (mgBz g8.x).length)] fun _ => ?_
 have hC9 := hC8.pres hP9
 have hn9 : NC st.next q9 := NC.new hN9 hC8.lt
 have hF9 : FrC st.next s6 s9 [pcR 1 fB q9 (mgBz g8.x)] := (FrC.oneF hO9 hN9 hP9 hF8.lt).sooner hF8.2.2.1 hC6.lt
 refine ⟨_,rfl,(ac_d_l1Once st.next 2 s9 hC9 (by first | assumption | omega)).mono ?_⟩
 rintro _ s11 ⟨b11,rfl,hC11,hL11⟩
 rcases b11 with _|_
 ·refine Cu lo0 s11 [(2,Sn),(3,vP st.next 0),(4,vS q9 (mgBz g8.x).length),(11,vB false)] fun _ => ?_
  have hF11 := hF9.later hL11
  have hO11 := hO9.presC hn9 hL11
  have hP11 : Pres st s11 := (hF11.out hP6).2.2
  refine cxs ?_
  refine ⟨_,rfl,(ac_d_l10Spoil st.next q9 (mgBz g8.x) s11 hC11 hs hO11 hn9 (mgBz_ok _) (mgBz_len _)).mono ?_⟩
  rintro _ s15 ⟨q15,m15,rfl,hb15,hl15,hR15,hL15⟩
  refine cxs ?_
  exact ⟨.inl rfl,_,rfl,q15,m15,rfl,hb15,hl15,hR15,hL15.pres hP11 (fun x hx => by
   simp only [List.mem_cons,List.not_mem_nil,or_false] at hx
   rcases hx with rfl | rfl
   ·intro y hy; injection hy with hy; subst hy; exact Nat.le_refl _
   ·exact hF9.2.1.le hP6.1 _ (List.mem_cons_self ..))⟩
 ·refine Cu lo0 s11 [(2,Sn),(3,vP st.next 0),(4,vS q9 (mgBz g8.x).length),(11,vB true)] fun _ => ?_
  have hF11 := hF9.later hL11
  have hO11 := hO9.presC hn9 hL11
  have hP11 : Pres st s11 := (hF11.out hP6).2.2
  exact cxs (Rt ⟨q9,_,rfl,mgBz_ok _,mgBz_len _,hO11.rows fB_len,hP11⟩)
theorem FrC.nums {c : Nat} {a b : St} {q : Option Addr} {L : List Int} (hO : OwnR b 1 fI q L) (hN : New a.next q) (hP : Pr (some ⟨c,0,none⟩) a b) (hc : c < a.next) : FrC c a b (pcIs ⟨q,L⟩) := ⟨OwnP.one (own_pc hO),NewP.cons hN NewP.nil,PresC.of.2 hP,hc⟩
theorem FrC.nilI {c : Nat} {a : St} (hc : c < a.next) : FrC c a a [pcR 2 cFlr none []] := ⟨OwnP.one (.inl ⟨rfl,rfl⟩),NewP.cons New.none NewP.nil,PresC.refl _ _,hc⟩
theorem take_drop_of {l x r : List Int} {n k : Nat} (h : (l.take n).drop k = x ++ r) (hn : k + x.length ≤ n) : (l.drop k).take x.length = x := by
 have h1 : ((l.take n).drop k).take x.length = x := by rw [h,List.take_left]
 rw [List.drop_take,List.take_take] at h1
 rw [← Nat.min_eq_left (show x.length ≤ n - k by omega)]
 exact h1
theorem op_strH {P : Program} {ls : List Tmp} {call : ACallT} {o : Oper} {e : Operand → Value} {lo : Lo} {st : St} {src dst el : TypeId} {x : Operand} {p : Option Addr} {l : List Int} {n : Nat} (ho : o.op = .convert src dst x) (hx : e x = .slice p n n) (hd : telem P dst = none) (hs : tstr P dst = true) (hse : telem P src = some el) (hi : tint P el = some .u8) (hR : Rows st 1 fB p l) (hl : 0 < l.length) (hk : n ≤ l.length) :
  aoper P ls call o e lo st = some (.string (toB (l.take n)),lo,st) := by
 have hp : shO p 1 0 = p := by cases p <;> simp [shO]
 have := op_strS (ls := ls) (call := call) (lo := lo) (e := e) (k := 0) (n := n) ho (hx.trans (by rw [hp])) hd hs hse hi hR hl (by omega)
 rwa [List.drop_zero] at this
theorem op_sl3L {α : Type} {P : Program} {ls : List Tmp} {call : ACallT} {o : Oper} {e : Operand → Value} {lo : Lo} {st : St} {t el : TypeId} {x y w : Operand} {p : Option Addr} {z : Nat} {a b : Int} (l : List α) (i m : Nat) (ho : o.op = .slice t x (some y) (some w) none) (hx : e x = vS p l.length) (hy : e y = vI a) (hw : e w = vI b) (ha : a = (i : Int)) (hb : b = ((i + m : Nat) : Int)) (he : telem P t = some el) (hz : tsize P el = some z) (h2 : i + m ≤ l.length) : aoper P ls call o e lo st = some (vS (shO p z i) ((l.drop i).take m).length,lo,st) := by
 have h := op_sl3 (ls := ls) (call := call) (lo := lo) (st := st) (n := l.length) ho hx hy hw ha hb he hz (by omega) h2
 have h3 : ((l.drop i).take m).length = i + m - i := by rw [List.length_take,List.length_drop]; omega
 rw [h3]; exact h
theorem mg_of {a b : Mg} (h1 : a.kind = b.kind) (h2 : a.frm = b.frm) (h3 : a.to = b.to) (h4 : a.num = b.num) (h5 : a.hi = b.hi) (h6 : a.tree.leaves = b.tree.leaves) (h7 : a.tree.root = b.tree.root) (h8 : a.vec = b.vec) (h9 : a.leaves = b.leaves) (h10 : a.part = b.part) (h11 : a.marks = b.marks) : a = b := by
 obtain ⟨a1,a2,a3,a4,a5,⟨a6,a7⟩,a8,a9,a10,a11⟩ := a
 obtain ⟨b1,b2,b3,b4,b5,⟨b6,b7⟩,b8,b9,b10,b11⟩ := b
 simp only at h1 h2 h3 h4 h5 h6 h7 h8 h9 h10 h11
 subst h1 h2 h3 h4 h5 h6 h7 h8 h9 h10 h11
 rfl
theorem pcM_assoc {a b c d e : List Pc} : ((a ++ (b ++ c)) ++ d) ++ e = a ++ (b ++ (c ++ (d ++ e))) := by simp only [List.append_assoc]
theorem FrC.assocM {n : Nat} {s t : St} {a b c d e : List Pc} (h : FrC n s t (((a ++ (b ++ c)) ++ d) ++ e)) : FrC n s t (a ++ (b ++ (c ++ (d ++ e)))) := by rw [← pcM_assoc]; exact h
theorem ac_impl_MsgOf (p : Option Addr) (l : List Int) (st : St) (hR : Rows st 1 fB p l) (hl : bytesOk l) (hs : l.length ≤ 1048576) : C 56 [vS p l.length] st (fun v s => ∃ (u : MV) (b : Bool),v = .tuple #[.agg #[vI u.kind,vI u.frm,vI u.to,vI u.num,vI u.hi,vS u.tree.p u.tree.l.length,vI u.tree.root,vS u.vec.p u.vec.l.length,vS u.leaves.p u.leaves.l.length,vS u.part.p u.part.x.items.length,vS u.part.q u.part.x.floors.length,vS u.marks.p u.marks.l.length],vB b] ∧ (u.x,b) = parseM l ∧ OwnP s (pcMV u) ∧ NewP st.next (pcMV u) ∧ Pres st s) := by
 refine AC.enterX (i := ⟨[2,6,8,11],[2,6,8,11,32,35,38,41,44,47,48,51,52,55,58,96,113,116,117,122],[0,2,3,4,5,6,7,8,9,10,11,22,74,93,107,108,109,139],[]⟩) [(18,[],[4,8])] Try.func56 rfl rfl (by kernel_rfl) (by kernel_rfl) Try.ntmps56 (Lb rfl) rfl ?_
 refine ⟨_,rfl,?_⟩
 refine Cm 1 st [(0,vS p l.length),Ml 2 0,(3,vB false)] [(2,0,[vI 0,vI 0,vI 0,vI 0,vI 0,Sn,vI 0,Sn,Sn,Sn,Sn,Sn])] fun _ _ => ?_
 refine ⟨_,rfl,?_⟩
 have e14 : IntKind.wrap .i64 ((l.length : Int) - 4) = (l.length : Int) - 4 := wrap_i64 (by omega) (by omega)
 refine ⟨_,rfl,?_⟩
 refine AW.cutM (1) st [(0,vS p l.length),Ml 2 0,(3,vB false),(4,vI ((l.length : Int) - 4))] [(2,0,[vI 0,vI 0,vI 0,vI 0,vI 0,Sn,vI 0,Sn,Sn,Sn,Sn,Sn])] ⟨rfl,rfl,rfl,congrArg (Value.int .i64) e14,trivial⟩ ⟨rfl,trivial⟩ rfl fun _ _ => ?_
 refine ⟨_,rfl,?_⟩
 rintro (_|_) h16
 ·replace h16 : ¬ (((l.length : Int) - 4) < (2)) := of_decide_eq_false h16
  refine ⟨_,op_slH (j := 2) rfl rfl rfl rfl rfl rfl (by omega),?_⟩
  refine ⟨_,op_strH (p := p) (l := l) (n := 2) rfl rfl rfl rfl rfl rfl hR (by omega) (by omega),?_⟩
  refine ⟨_,rfl,?_⟩
  rintro (_|_) h21
  ·replace h21 : (toB (l.take 2)) = ⟨#[82,75]⟩ := str_eq h21
   refine ⟨_,rfl,?_⟩
   refine Cm 1 st [(0,vS p l.length),Ml 2 0,(3,vB false),(4,vI ((l.length : Int) - 4)),(22,vB false)] [(2,0,[vI 0,vI 0,vI 0,vI 0,vI 0,Sn,vI 0,Sn,Sn,Sn,Sn,Sn])] fun _ _ => ?_
   obtain ⟨lw,hlw⟩ : ∃ x,x = l.take (l.length - 4) := ⟨_,rfl⟩
   have h6 : 6 ≤ l.length := by omega
   have hll : lw.length = l.length - 4 := by rw [hlw,List.length_take]; omega
   have hRw : Rows st 1 fB p lw := hlw ▸ hR.take _
   have hob : bytesOk lw := fun x hx => hl x (List.mem_of_mem_take (hlw ▸ hx))
   have hsw : lw.length ≤ 1099511627776 := by omega
   refine cxs ?_
   refine ⟨_,op_slH (j := lw.length) rfl rfl rfl (by omega) rfl rfl (by omega),?_⟩
   refine ⟨_,rfl,?_⟩
   refine ⟨_,rfl,?_⟩
   refine Cm 1 (st.push 0 [vS p lw.length,vI 2,vB false]) [(0,vS p l.length),Ml 2 0,(3,vB false),(4,vI ((l.length : Int) - 4)),(5,vP st.next 0)] [(2,0,[vI 0,vI 0,vI 0,vI 0,vI 0,Sn,vI 0,Sn,Sn,Sn,Sn,Sn])] fun _ _ => ?_
   have hO1 : (rdC st.next p lw 2 false).own (st.push 0 [vS p lw.length,vI 2,vB false]) := .inr ⟨st.next,rfl,Nat.lt_succ_self _,if_pos rfl⟩
   have hP1 : Pres st (st.push 0 [vS p lw.length,vI 2,vB false]) := Pres.push
   have hc1 : st.next < (st.push 0 [vS p lw.length,vI 2,vB false]).next := Nat.lt_succ_self _
   obtain ⟨s1,hs1⟩ : ∃ s,s = st.push 0 [vS p lw.length,vI 2,vB false] := ⟨_,rfl⟩
   rw [← hs1] at hO1 hP1 hc1 ⊢
   have hd := DisR.new hRw
   have hR1 := hP1.rows hRw
   iterate 2 refine ⟨_,rfl,?_⟩
   refine ⟨_,op_stw (vs := [vI 0,vI 0,vI 0,vI 0,vI 0,.slice none 0 0,vI 0,.slice none 0 0,.slice none 0 0,.slice none 0 0,.slice none 0 0,.slice none 0 0]) rfl rfl rfl rfl rfl rfl rfl rfl,?_⟩
   refine Cm 2 s1 [(0,vS p l.length),Ml 2 0,(3,vB false),(4,vI ((l.length : Int) - 4)),(5,vP st.next 0),Ml 6 1] [(2,0,[vI 0,vI 0,vI 0,vI 0,vI 0,Sn,vI 0,Sn,Sn,Sn,Sn,Sn]),(6,1,[vI 0,vI 0,vI 0,vI 0,vI 0,Sn,vI 0,Sn,Sn,Sn,Sn,Sn])] fun _ _ => ?_
   refine ⟨_,rfl,(ac_impl_num st.next p lw 2 false s1 hO1 hR1 hob hsw (by decide)).mono ?_⟩
   rintro _ s31 ⟨n1,a1,b1,rfl,h31,hO31,hP31⟩
   refine ⟨_,rfl,?_⟩
   refine ⟨_,Os rfl,?_⟩
   refine Cm 2 s31 [(0,vS p l.length),Ml 2 0,(3,vB false),(4,vI ((l.length : Int) - 4)),(5,vP st.next 0),Ml 6 1] [(2,0,[vI 0,vI 0,vI 0,vI 0,vI 0,Sn,vI 0,Sn,Sn,Sn,Sn,Sn]),(6,1,[vI n1,vI 0,vI 0,vI 0,vI 0,Sn,vI 0,Sn,Sn,Sn,Sn,Sn])] fun _ _ => ?_
   have hR31 := hP31.rowsD hd hR1
   have hk31 := (rnF_get hob hsw (by decide) h31).1
   refine ⟨_,rfl,(ac_impl_num st.next p lw a1 b1 s31 hO31 hR31 hob hsw hk31).mono ?_⟩
   rintro _ s34 ⟨n2,a2,b2,rfl,h34,hO34,hP34⟩
   refine ⟨_,rfl,?_⟩
   refine ⟨_,Os rfl,?_⟩
   refine Cm 2 s34 [(0,vS p l.length),Ml 2 0,(3,vB false),(4,vI ((l.length : Int) - 4)),(5,vP st.next 0),Ml 6 1] [(2,0,[vI 0,vI 0,vI 0,vI 0,vI 0,Sn,vI 0,Sn,Sn,Sn,Sn,Sn]),(6,1,[vI n1,vI n2,vI 0,vI 0,vI 0,Sn,vI 0,Sn,Sn,Sn,Sn,Sn])] fun _ _ => ?_
   have hR34 := hP34.rowsD hd hR31
   have hk34 := (rnF_get hob hsw hk31 h34).1
   refine ⟨_,rfl,(ac_impl_num st.next p lw a2 b2 s34 hO34 hR34 hob hsw hk34).mono ?_⟩
   rintro _ s37 ⟨n3,a3,b3,rfl,h37,hO37,hP37⟩
   refine ⟨_,rfl,?_⟩
   refine ⟨_,Os rfl,?_⟩
   refine Cm 2 s37 [(0,vS p l.length),Ml 2 0,(3,vB false),(4,vI ((l.length : Int) - 4)),(5,vP st.next 0),Ml 6 1] [(2,0,[vI 0,vI 0,vI 0,vI 0,vI 0,Sn,vI 0,Sn,Sn,Sn,Sn,Sn]),(6,1,[vI n1,vI n2,vI n3,vI 0,vI 0,Sn,vI 0,Sn,Sn,Sn,Sn,Sn])] fun _ _ => ?_
   have hR37 := hP37.rowsD hd hR34
   have hk37 := (rnF_get hob hsw hk34 h37).1
   refine ⟨_,rfl,(ac_impl_num st.next p lw a3 b3 s37 hO37 hR37 hob hsw hk37).mono ?_⟩
   rintro _ s40 ⟨n4,a4,b4,rfl,h40,hO40,hP40⟩
   refine ⟨_,rfl,?_⟩
   refine ⟨_,Os rfl,?_⟩
   refine Cm 2 s40 [(0,vS p l.length),Ml 2 0,(3,vB false),(4,vI ((l.length : Int) - 4)),(5,vP st.next 0),Ml 6 1] [(2,0,[vI 0,vI 0,vI 0,vI 0,vI 0,Sn,vI 0,Sn,Sn,Sn,Sn,Sn]),(6,1,[vI n1,vI n2,vI n3,vI n4,vI 0,Sn,vI 0,Sn,Sn,Sn,Sn,Sn])] fun _ _ => ?_
   have hR40 := hP40.rowsD hd hR37
   have hk40 := (rnF_get hob hsw hk37 h40).1
   refine ⟨_,rfl,(ac_impl_num st.next p lw a4 b4 s40 hO40 hR40 hob hsw hk40).mono ?_⟩
   rintro _ s43 ⟨n5,a5,b5,rfl,h43,hO43,hP43⟩
   refine ⟨_,rfl,?_⟩
   refine ⟨_,Os rfl,?_⟩
   refine Cm 2 s43 [(0,vS p l.length),Ml 2 0,(3,vB false),(4,vI ((l.length : Int) - 4)),(5,vP st.next 0),Ml 6 1] [(2,0,[vI 0,vI 0,vI 0,vI 0,vI 0,Sn,vI 0,Sn,Sn,Sn,Sn,Sn]),(6,1,[vI n1,vI n2,vI n3,vI n4,vI n5,Sn,vI 0,Sn,Sn,Sn,Sn,Sn])] fun _ _ => ?_
   have hR43 := hP43.rowsD hd hR40
   have hk43 := (rnF_get hob hsw hk40 h43).1
   refine ⟨_,rfl,(ac_impl_nums st.next p lw a5 b5 4 s43 hO43 hR43 hd hob hsw hk43 (by decide) (by decide)).mono ?_⟩
   rintro _ s46 ⟨q46,m46,e46,f46,L46,a6,b6,rfl,c46,h46,hQ46,hN46,hO46,hP46⟩
   iterate 2 refine ⟨_,rfl,?_⟩
   refine ⟨_,Os rfl,?_⟩
   refine Cm 2 s46 [(0,vS p l.length),Ml 2 0,(3,vB false),(4,vI ((l.length : Int) - 4)),(5,vP st.next 0),Ml 6 1] [(2,0,[vI 0,vI 0,vI 0,vI 0,vI 0,Sn,vI 0,Sn,Sn,Sn,Sn,Sn]),(6,1,[vI n1,vI n2,vI n3,vI n4,vI n5,vS q46 L46.length,vI 0,Sn,Sn,Sn,Sn,Sn])] fun _ _ => ?_
   have hg46 := rcF_rng hob hsw hk43 (by decide) c46
   have hl46 := rsF_get hob hsw hg46.2.2 h46
   have hR46 := hP46.rowsD hd hR43
   refine ⟨_,rfl,(ac_impl_num st.next p lw a6 b6 s46 hO46 hR46 hob hsw hl46.2).mono ?_⟩
   rintro _ s50 ⟨n7,a7,b7,rfl,h50,hO50,hP50⟩
   iterate 2 refine ⟨_,rfl,?_⟩
   refine ⟨_,Os rfl,?_⟩
   refine Cm 2 s50 [(0,vS p l.length),Ml 2 0,(3,vB false),(4,vI ((l.length : Int) - 4)),(5,vP st.next 0),Ml 6 1] [(2,0,[vI 0,vI 0,vI 0,vI 0,vI 0,Sn,vI 0,Sn,Sn,Sn,Sn,Sn]),(6,1,[vI n1,vI n2,vI n3,vI n4,vI n5,vS q46 L46.length,vI n7,Sn,Sn,Sn,Sn,Sn])] fun _ _ => ?_
   have hR50 := hP50.rowsD hd hR46
   have hk50 := (rnF_get hob hsw hl46.2 h50).1
   refine ⟨_,rfl,(ac_impl_nums st.next p lw a7 b7 5 s50 hO50 hR50 hd hob hsw hk50 (by decide) (by decide)).mono ?_⟩
   rintro _ s54 ⟨q54,m54,e54,f54,L54,a8,b8,rfl,c54,h54,hQ54,hN54,hO54,hP54⟩
   refine ⟨_,rfl,?_⟩
   refine ⟨_,Os rfl,?_⟩
   refine Cm 2 s54 [(0,vS p l.length),Ml 2 0,(3,vB false),(4,vI ((l.length : Int) - 4)),(5,vP st.next 0),Ml 6 1] [(2,0,[vI 0,vI 0,vI 0,vI 0,vI 0,Sn,vI 0,Sn,Sn,Sn,Sn,Sn]),(6,1,[vI n1,vI n2,vI n3,vI n4,vI n5,vS q46 L46.length,vI n7,vS q54 L54.length,Sn,Sn,Sn,Sn])] fun _ _ => ?_
   have hg54 := rcF_rng hob hsw hk50 (by decide) c54
   have hl54 := rsF_get hob hsw hg54.2.2 h54
   have hR54 := hP54.rowsD hd hR50
   refine ⟨_,rfl,(ac_impl_nums st.next p lw a8 b8 4 s54 hO54 hR54 hd hob hsw hl54.2 (by decide) (by decide)).mono ?_⟩
   rintro _ s57 ⟨q57,m57,e57,f57,L57,a9,b9,rfl,c57,h57,hQ57,hN57,hO57,hP57⟩
   refine ⟨_,rfl,?_⟩
   refine ⟨_,Os rfl,?_⟩
   refine Cm 2 s57 [(0,vS p l.length),Ml 2 0,(3,vB false),(4,vI ((l.length : Int) - 4)),(5,vP st.next 0),Ml 6 1] [(2,0,[vI 0,vI 0,vI 0,vI 0,vI 0,Sn,vI 0,Sn,Sn,Sn,Sn,Sn]),(6,1,[vI n1,vI n2,vI n3,vI n4,vI n5,vS q46 L46.length,vI n7,vS q54 L54.length,vS q57 L57.length,Sn,Sn,Sn])] fun _ _ => ?_
   have hg57 := rcF_rng hob hsw hl54.2 (by decide) c57
   have hl57 := rsF_get hob hsw hg57.2.2 h57
   have hR57 := hP57.rowsD hd hR54
   refine ⟨_,rfl,(ac_impl_num st.next p lw a9 b9 s57 hO57 hR57 hob hsw hl57.2).mono ?_⟩
   rintro _ s60 ⟨n10,a10,b10,rfl,h60,hO60,hP60⟩
   refine Cm 2 s60 [(0,vS p l.length),Ml 2 0,(3,vB false),(4,vI ((l.length : Int) - 4)),(5,vP st.next 0),Ml 6 1,(7,vI n10)] [(2,0,[vI 0,vI 0,vI 0,vI 0,vI 0,Sn,vI 0,Sn,Sn,Sn,Sn,Sn]),(6,1,[vI n1,vI n2,vI n3,vI n4,vI n5,vS q46 L46.length,vI n7,vS q54 L54.length,vS q57 L57.length,Sn,Sn,Sn])] fun _ _ => ?_
   have hR60 := hP60.rowsD hd hR57
   have hk60 := (rnF_get hob hsw hl57.2 h60).1
   have hP43 : PresC st.next s1 s43 := PresC.of.2 ((((hP31.trans hP34).trans hP37).trans hP40).trans hP43)
   have hc43 : st.next < s43.next := Nat.lt_of_lt_of_le hc1 hP43.1
   have hc50 : st.next < s50.next := Nat.lt_of_lt_of_le hc43 (hP46.trans hP50).1
   have hF57 := (((FrC.nums hQ46 hN46 hP46 hc43).later (PresC.of.2 hP50)).join ((FrC.nums hQ54 hN54 hP54 hc50).join (FrC.nums hQ57 hN57 hP57 (Nat.lt_of_lt_of_le hc50 hP54.1)))).sooner hP43 hc1
   have hF60 := hF57.later (PresC.of.2 hP60)
   have hmem := (rdC_mem hO60).2
   have hmlt := (rdC_mem hO60).1
   have hPall : Pres st s60 := (hF60.out hP1).2.2
   have hS : ∀ g0,msgOk g0 → mgB g0 = l → (n1 = g0.kind ∧ n2 = g0.frm ∧ n3 = g0.to ∧ n4 = g0.num ∧ n5 = g0.hi) ∧ (L46 = g0.tree.leaves ∧ n7 = g0.tree.root ∧ L54 = g0.vec ∧ L57 = g0.leaves) ∧ n10 = ((stB g0.part).length : Int) ∧ b10 = false ∧ Sf lw a10 (stB g0.part ++ (putN (g0.marks.length : Int) ++ flsB g0.marks)) := fun g0 g1 g2 => by
    have hr := msg_rng g1
    have hm := msg_sm g1
    have m1 := hm.tree
    have m2 := hm.vec
    have m3 := hm.leaves
    have x0 : Sf lw 2 (mgR g0) := hlw ▸ mg_Sf g2
    unfold mgR at x0
    obtain ⟨e1,f1,x1⟩ := x0.num hr.kind rfl h31
    obtain ⟨e2,f2,x2⟩ := x1.num hr.frm f1 h34
    obtain ⟨e3,f3,x3⟩ := x2.num hr.to f2 h37
    obtain ⟨e4,f4,x4⟩ := x3.num hr.num f3 h40
    obtain ⟨e5,f5,x5⟩ := x4.num hr.hi f4 h43
    obtain ⟨e6,f6,x6⟩ := x5.list hr.tree (by omega) (by decide) f5 c46 h46
    obtain ⟨e7,f7,x7⟩ := x6.num hr.root f6 h50
    obtain ⟨e8,f8,x8⟩ := x7.list hr.vec (by omega) (by decide) f7 c54 h54
    obtain ⟨e9,f9,x9⟩ := x8.list hr.leaves (by omega) (by decide) f8 c57 h57
    obtain ⟨e10,f10,x10⟩ := x9.num hr.size f9 h60
    exact ⟨⟨e1,e2,e3,e4,e5⟩,⟨e6,e7,e8,e9⟩,e10,f10,x10⟩
   iterate 2 refine ⟨_,rfl,?_⟩
   refine ⟨_,op_ld rfl rfl rfl rfl hmem rfl,?_⟩
   rcases b10 with _|_
   ·iterate 2 refine ⟨_,rfl,?_⟩
    refine ⟨_,op_ld rfl rfl rfl rfl hmem rfl,?_⟩
    have hrk := rnF_ok hob h60
    have ew72 : IntKind.wrap .i64 (((l.length : Int) - 4) - a10) = ((l.length : Int) - 4) - a10 := wrap_i64 (by omega) (by omega)
    iterate 2 refine ⟨_,rfl,?_⟩
    rintro (_|_) h73
    ·replace h73 : ¬ (n10 > (IntKind.wrap .i64 (((l.length : Int) - 4) - a10))) := of_decide_eq_false h73
     rw [ew72] at h73
     refine ⟨_,rfl,?_⟩
     refine Cm 2 s60 [(0,vS p l.length),Ml 2 0,(3,vB false),(5,vP st.next 0),Ml 6 1,(7,vI n10),(74,vB false)] [(2,0,[vI 0,vI 0,vI 0,vI 0,vI 0,Sn,vI 0,Sn,Sn,Sn,Sn,Sn]),(6,1,[vI n1,vI n2,vI n3,vI n4,vI n5,vS q46 L46.length,vI n7,vS q54 L54.length,vS q57 L57.length,Sn,Sn,Sn])] fun _ _ => ?_
     obtain ⟨q1,q2,q3,q4,q5⟩ := rnF_ok hob h60
     obtain ⟨sn,hsn⟩ := Int.eq_ofNat_of_zero_le q1
     obtain ⟨kn,hkn⟩ := Int.eq_ofNat_of_zero_le (show 0 ≤ a10 by omega)
     have hsk : kn + sn ≤ lw.length := by omega
     have hobp : bytesOk ((l.drop kn).take sn) := fun x hx => hl x (List.mem_of_mem_drop (List.mem_of_mem_take hx))
     have hlpl : ((l.drop kn).take sn).length ≤ 1048576 := by rw [List.length_take]; omega
     have hlp : ∀ g0,msgOk g0 → mgB g0 = l → (l.drop kn).take sn = stB g0.part := fun g0 g1 g2 => by
      obtain ⟨_,_,e,_,k,e1,e2,e3⟩ := hS g0 g1 g2
      obtain rfl : k = kn := by omega
      obtain rfl : sn = (stB g0.part).length := by omega
      rw [hlw] at e3
      exact take_drop_of e3 (by omega)
     refine cxs ?_
     iterate 2 refine ⟨_,rfl,?_⟩
     refine ⟨_,op_ld rfl rfl rfl rfl hmem rfl,?_⟩
     refine ⟨ld_lt rfl rfl hmlt,?_⟩
     iterate 2 refine ⟨_,rfl,?_⟩
     refine ⟨_,op_ld rfl rfl rfl rfl hmem rfl,?_⟩
     refine ⟨ld_lt rfl rfl hmlt,?_⟩
     have ew87 : IntKind.wrap .i64 (a10 + n10) = a10 + n10 := wrap_i64 (by omega) (by omega)
     refine ⟨_,rfl,?_⟩
     refine ⟨_,op_sl3L l kn sn rfl rfl rfl rfl hkn (by rw [ew87]; omega) rfl rfl (by omega),?_⟩
     refine ⟨_,rfl,(ac_impl_StateOf (shO p 1 kn) ((l.drop kn).take sn) s60 (hPall.rows ((hR.sh kn).take sn)) hobp hlpl).mono ?_⟩
     rintro _ s89 ⟨u89,b89,rfl,h89,hO89,hN89,hP89⟩
     rcases b89 with _|_
     ·iterate 3 refine ⟨_,rfl,?_⟩
      refine ⟨_,Os rfl,?_⟩
      refine Cm 3 s89 [(0,vS p l.length),Ml 2 0,(3,vB false),(5,vP st.next 0),Ml 6 1,(7,vI n10),Ml 8 2,(9,vB false)] [(2,0,[vI 0,vI 0,vI 0,vI 0,vI 0,Sn,vI 0,Sn,Sn,Sn,Sn,Sn]),(6,1,[vI n1,vI n2,vI n3,vI n4,vI n5,vS q46 L46.length,vI n7,vS q54 L54.length,vS q57 L57.length,Sn,Sn,Sn]),(8,2,cSV u89)] fun _ _ => ?_
      refine ⟨_,rfl,?_⟩
      refine Cm 3 s89 [(0,vS p l.length),Ml 2 0,(3,vB false),(5,vP st.next 0),Ml 6 1,(7,vI n10),Ml 8 2,(93,vB true)] [(2,0,[vI 0,vI 0,vI 0,vI 0,vI 0,Sn,vI 0,Sn,Sn,Sn,Sn,Sn]),(6,1,[vI n1,vI n2,vI n3,vI n4,vI n5,vS q46 L46.length,vI n7,vS q54 L54.length,vS q57 L57.length,Sn,Sn,Sn]),(8,2,cSV u89)] fun _ _ => ?_
      refine ⟨_,rfl,?_⟩
      refine ⟨_,op_stw (vs := [vI 0,vI 0,vI 0,vI 0,vI 0,.slice none 0 0,vI 0,.slice none 0 0,.slice none 0 0,.slice none 0 0,.slice none 0 0,.slice none 0 0]) rfl rfl rfl rfl rfl rfl rfl rfl,?_⟩
      refine cxs ?_
      exact ⟨.inl rfl,_,rfl,nilMV,false,rfl,parsm_no (fun g0 g1 g2 => by
       rw [hlp g0 g1 g2] at h89
       cases (parse_of (msg_sm g1).part h89).1),pcM_nil,newM_nil,hPall.trans hP89⟩
     ·iterate 3 refine ⟨_,rfl,?_⟩
      refine ⟨_,Os rfl,?_⟩
      refine Cm 3 s89 [(0,vS p l.length),Ml 2 0,(3,vB false),(5,vP st.next 0),Ml 6 1,(7,vI n10),Ml 8 2,(9,vB true)] [(2,0,[vI 0,vI 0,vI 0,vI 0,vI 0,Sn,vI 0,Sn,Sn,Sn,Sn,Sn]),(6,1,[vI n1,vI n2,vI n3,vI n4,vI n5,vS q46 L46.length,vI n7,vS q54 L54.length,vS q57 L57.length,Sn,Sn,Sn]),(8,2,cSV u89)] fun _ _ => ?_
      refine ⟨_,rfl,?_⟩
      refine Cm 3 s89 [(0,vS p l.length),Ml 2 0,(3,vB false),(5,vP st.next 0),Ml 6 1,(7,vI n10),Ml 8 2,(93,vB false)] [(2,0,[vI 0,vI 0,vI 0,vI 0,vI 0,Sn,vI 0,Sn,Sn,Sn,Sn,Sn]),(6,1,[vI n1,vI n2,vI n3,vI n4,vI n5,vS q46 L46.length,vI n7,vS q54 L54.length,vS q57 L57.length,Sn,Sn,Sn]),(8,2,cSV u89)] fun _ _ => ?_
      have hu89 := parse_yes h89
      have hF89 := hF60.add ⟨hO89,hN89,hP89⟩
      have hO89r : (rdC st.next p lw a10 false).own s89 := hO60.pres hP89
      have hm89 := (rdC_mem hO89r).2
      have hsz : n10 ≤ 2147483647 := q2
      have ha10 : 0 ≤ a10 ∧ a10 + n10 ≤ lw.length := by omega
      refine cxs ?_
      refine ⟨_,Od rfl,?_⟩
      refine ⟨_,rfl,?_⟩
      refine ⟨_,Os rfl,?_⟩
      refine Cm 3 s89 [(0,vS p l.length),Ml 2 0,(3,vB false),(5,vP st.next 0),Ml 6 1,(7,vI n10)] [(2,0,[vI 0,vI 0,vI 0,vI 0,vI 0,Sn,vI 0,Sn,Sn,Sn,Sn,Sn]),(6,1,[vI n1,vI n2,vI n3,vI n4,vI n5,vS q46 L46.length,vI n7,vS q54 L54.length,vS q57 L57.length,vS u89.p u89.x.items.length,vS u89.q u89.x.floors.length,Sn])] fun _ _ => ?_
      iterate 2 refine ⟨_,rfl,?_⟩
      refine ⟨_,op_ld rfl rfl rfl rfl hm89 rfl,?_⟩
      have ew102 : IntKind.wrap .i64 (a10 + n10) = a10 + n10 := wrap_i64 (by omega) (by omega)
      iterate 3 refine ⟨_,rfl,?_⟩
      refine op_stO (z := 0) (c := st.next) (off := 1) rfl rfl rfl rfl rfl rfl hO89r (by simp) ?_
      intro s104 hO104 hP104 hn104
      refine Cm 3 s104 [(0,vS p l.length),Ml 2 0,(3,vB false),(5,vP st.next 0),Ml 6 1] [(2,0,[vI 0,vI 0,vI 0,vI 0,vI 0,Sn,vI 0,Sn,Sn,Sn,Sn,Sn]),(6,1,[vI n1,vI n2,vI n3,vI n4,vI n5,vS q46 L46.length,vI n7,vS q54 L54.length,vS q57 L57.length,vS u89.p u89.x.items.length,vS u89.q u89.x.floors.length,Sn])] fun _ _ => ?_
      have hO104 : (rdC st.next p lw (a10 + n10) false).own s104 := by rw [← ew102]; exact hO104
      have hk104 : a10 + n10 ≤ 1099511627776 := by omega
      have hF104 := hF89.later (PresC.of.2 hP104)
      have hR104 := hP104.rowsD hd (hP89.rows hR60)
      refine ⟨_,rfl,(ac_impl_count st.next p lw (a10 + n10) false 5 s104 hO104 hR104 hob hsw hk104).mono ?_⟩
      rintro _ s106 ⟨n11,a11,b11,rfl,h106,hO106,hP106⟩
      refine cxs ?_
      obtain ⟨hm0,hm5,hk106⟩ := rcF_rng hob hsw hk104 (by decide) h106
      have hF106 := (hF104.later (PresC.of.2 hP106)).join (FrC.nilI (hF104.later (PresC.of.2 hP106)).lt)
      have hS1 : ∀ g0,msgOk g0 → mgB g0 = l → n11 = (g0.marks.length : Int) ∧ ([] : List Flr) = g0.marks.take 0 ∧ b11 = false ∧ Sf lw a11 (flsB (g0.marks.drop 0)) := fun g0 g1 g2 => by
       obtain ⟨_,_,e,_,k,e1,e2,e3⟩ := hS g0 g1 g2
       have x1 := Sf.next e2 e3
       rw [← e1,← e] at x1
       have := (msg_sm g1).marks
       obtain ⟨c1,c2,c3⟩ := x1.count ⟨by omega,by omega⟩ (by omega) rfl h106
       exact ⟨c1,rfl,c2,c3⟩
      refine Cm 3 s106 [(0,vS p l.length),Ml 2 0,(3,vB false),(5,vP st.next 0),Ml 6 1,(107,vI n11),(108,vI 0)] [(2,0,[vI 0,vI 0,vI 0,vI 0,vI 0,Sn,vI 0,Sn,Sn,Sn,Sn,Sn]),(6,1,[vI n1,vI n2,vI n3,vI n4,vI n5,vS q46 L46.length,vI n7,vS q54 L54.length,vS q57 L57.length,vS u89.p u89.x.items.length,vS u89.q u89.x.floors.length,Sn])] fun _ _ => ?_
      refine AW.loopM (fun x : Nat × FV × Int × Bool => [(0,vS p l.length),(2,vL 2 0 (0)),(3,vB false),(5,vP st.next 0),(6,vL 6 0 (1)),(107,vI n11),(108,vI (x.1 : Int))]) (fun x : Nat × FV × Int × Bool => [(2,0,[vI 0,vI 0,vI 0,vI 0,vI 0,.slice none 0 0,vI 0,.slice none 0 0,.slice none 0 0,.slice none 0 0,.slice none 0 0,.slice none 0 0]),(6,1,[vI n1,vI n2,vI n3,vI n4,vI n5,vS q46 L46.length,vI n7,vS q54 L54.length,vS q57 L57.length,vS u89.p u89.x.items.length,vS u89.q u89.x.floors.length,vS x.2.1.p x.2.1.l.length])]) (fun m (x : Nat × FV × Int × Bool) st' => m = n11.toNat - x.1 ∧ (x.1 : Int) ≤ n11 ∧ x.2.1.l.length = x.1 ∧ x.2.2.1 ≤ 1099511627776 ∧ (∀ g0,msgOk g0 → mgB g0 = l → n11 = (g0.marks.length : Int) ∧ x.2.1.l = g0.marks.take x.1 ∧ x.2.2.2 = false ∧ Sf lw x.2.2.1 (flsB (g0.marks.drop x.1))) ∧ FrC st.next s1 st' (((pcIs ⟨q46,L46⟩ ++ (pcIs ⟨q54,L54⟩ ++ pcIs ⟨q57,L57⟩)) ++ pcS u89) ++ pcFV x.2.1) ∧ (rdC st.next p lw x.2.2.1 x.2.2.2).own st') (0,⟨none,[]⟩,a11,b11) _ ⟨rfl,rfl,rfl,rfl,rfl,rfl,rfl,trivial⟩ ⟨rfl,rfl,trivial⟩ ⟨rfl,hm0,rfl,hk106,hS1,hF106,hO106⟩ ?_
      rintro m ⟨j,w,kk,bb⟩ ρ0 ff gg st' ⟨rfl,hj,hwl,hkk,hT,hG,hOw⟩
      simp only at hj hwl hkk hT hG hOw
      have hRv : Rows st' 1 fB p lw := (PresC.of.1 hG.2.2.1).rowsD hd hR1
      refine ⟨_,rfl,?_⟩
      rintro (_|_) h109
      ·replace h109 : ¬ ((j : Int) < n11) := of_decide_eq_false h109
       refine Cm gg st' [(0,vS p l.length),Ml 2 0,(3,vB false),(5,vP st.next 0),Ml 6 1,(107,vI n11),(108,vI (j : Int)),(109,vB false)] [(2,0,[vI 0,vI 0,vI 0,vI 0,vI 0,Sn,vI 0,Sn,Sn,Sn,Sn,Sn]),(6,1,[vI n1,vI n2,vI n3,vI n4,vI n5,vS q46 L46.length,vI n7,vS q54 L54.length,vS q57 L57.length,vS u89.p u89.x.items.length,vS u89.q u89.x.floors.length,vS w.p w.l.length])] fun _ _ => ?_
       have hmw := (rdC_mem hOw).2
       have hT' : ∀ g0,msgOk g0 → mgB g0 = l → (⟨n1,n2,n3,n4,n5,⟨⟨q46,L46⟩,n7⟩,⟨q54,L54⟩,⟨q57,L57⟩,u89,w⟩ : MV).x = g0 ∧ bb = false := fun g0 g1 g2 => by
        obtain ⟨⟨z1,z2,z3,z4,z5⟩,⟨z6,z7,z8,z9⟩,_⟩ := hS g0 g1 g2
        obtain ⟨e1,e2,e3,_⟩ := hT g0 g1 g2
        have h89' := h89
        rw [hlp g0 g1 g2] at h89'
        have z10 := (parse_of (msg_sm g1).part h89').2
        have z11 : w.l = g0.marks := by rw [e2]; exact List.take_of_length_le (by omega)
        exact ⟨mg_of z1 z2 z3 z4 z5 z6 z7 z8 z9 z10 z11,e3⟩
       have hbG : bigM (⟨n1,n2,n3,n4,n5,⟨⟨q46,L46⟩,n7⟩,⟨q54,L54⟩,⟨q57,L57⟩,u89,w⟩ : MV).x := ⟨by show L46.length ≤ 1048576; omega,by show L54.length ≤ 1048576; omega,by show L57.length ≤ 1048576; omega,big_ok hu89.1,by show w.l.length ≤ 1048576; omega⟩
       have hGa : FrC st.next s1 st' (pcMV (⟨n1,n2,n3,n4,n5,⟨⟨q46,L46⟩,n7⟩,⟨q54,L54⟩,⟨q57,L57⟩,u89,w⟩ : MV)) := FrC.assocM hG
       have hRG : RdM st' (⟨n1,n2,n3,n4,n5,⟨⟨q46,L46⟩,n7⟩,⟨q54,L54⟩,⟨q57,L57⟩,u89,w⟩ : MV) := hGa.1.rdM
       have hPst : Pres st st' := (hG.out hP1).2.2
       refine cxs ?_
       iterate 2 refine ⟨_,rfl,?_⟩
       refine ⟨_,op_ld rfl rfl rfl rfl hmw rfl,?_⟩
       rcases bb with _|_
       ·refine ⟨_,op_ldo (v := .agg #[vI n1,vI n2,vI n3,vI n4,vI n5,vS q46 L46.length,vI n7,vS q54 L54.length,vS q57 L57.length,vS u89.p u89.x.items.length,vS u89.q u89.x.floors.length,vS w.p w.l.length]) rfl rfl rfl rfl,?_⟩
        refine ⟨_,rfl,(ac_impl_MsgOk (⟨n1,n2,n3,n4,n5,⟨⟨q46,L46⟩,n7⟩,⟨q54,L54⟩,⟨q57,L57⟩,u89,w⟩ : MV) st' hRG hbG).mono ?_⟩
        rintro _ st' ⟨x130,rfl,h130,rfl⟩
        rcases x130 with _|_
        ·replace h130 := fun k => Bool.false_ne_true (h130.2 k)
         iterate 3 refine ⟨_,rfl,?_⟩
         refine Cm gg st' [Ml 2 0,(3,vB false),Ml 6 1,(139,vB true)] [(2,0,[vI 0,vI 0,vI 0,vI 0,vI 0,Sn,vI 0,Sn,Sn,Sn,Sn,Sn]),(6,1,[vI n1,vI n2,vI n3,vI n4,vI n5,vS q46 L46.length,vI n7,vS q54 L54.length,vS q57 L57.length,vS u89.p u89.x.items.length,vS u89.q u89.x.floors.length,vS w.p w.l.length])] fun _ _ => ?_
         refine ⟨_,rfl,?_⟩
         refine ⟨_,op_stw (vs := [vI 0,vI 0,vI 0,vI 0,vI 0,.slice none 0 0,vI 0,.slice none 0 0,.slice none 0 0,.slice none 0 0,.slice none 0 0,.slice none 0 0]) rfl rfl rfl rfl rfl rfl rfl rfl,?_⟩
         exact cxs (Rt ⟨nilMV,false,rfl,parsm_no (fun g0 g1 g2 => h130 ((hT' g0 g1 g2).1 ▸ g1)),pcM_nil,newM_nil,hPst⟩)
        ·replace h130 := h130.1 rfl
         iterate 2 refine ⟨_,rfl,?_⟩
         refine ⟨_,op_ldo (v := .agg #[vI n1,vI n2,vI n3,vI n4,vI n5,vS q46 L46.length,vI n7,vS q54 L54.length,vS q57 L57.length,vS u89.p u89.x.items.length,vS u89.q u89.x.floors.length,vS w.p w.l.length]) rfl rfl rfl rfl,?_⟩
         refine ⟨_,rfl,(ac_impl_MsgBytes (⟨n1,n2,n3,n4,n5,⟨⟨q46,L46⟩,n7⟩,⟨q54,L54⟩,⟨q57,L57⟩,u89,w⟩ : MV) st' hRG hbG).mono ?_⟩
         rintro _ s135 ⟨q135,rfl,hO135,hN135,hP135⟩
         refine ⟨_,rfl,(ac_bytes_Equal q135 p (mgBz (⟨n1,n2,n3,n4,n5,⟨⟨q46,L46⟩,n7⟩,⟨q54,L54⟩,⟨q57,L57⟩,u89,w⟩ : MV).x) l s135 (hO135.rows fB_len) ((hPst.trans hP135).rows hR) (mgBz_pos h130) (by omega) (mgBz_ok _) hl).mono ?_⟩
         rintro _ s135 ⟨x137,rfl,h137,rfl⟩
         rcases x137 with _|_
         ·replace h137 := fun k => Bool.false_ne_true (h137.2 k)
          iterate 2 refine ⟨_,rfl,?_⟩
          refine Cm gg s135 [Ml 2 0,(3,vB false),Ml 6 1,(139,vB true)] [(2,0,[vI 0,vI 0,vI 0,vI 0,vI 0,Sn,vI 0,Sn,Sn,Sn,Sn,Sn]),(6,1,[vI n1,vI n2,vI n3,vI n4,vI n5,vS q46 L46.length,vI n7,vS q54 L54.length,vS q57 L57.length,vS u89.p u89.x.items.length,vS u89.q u89.x.floors.length,vS w.p w.l.length])] fun _ _ => ?_
          refine ⟨_,rfl,?_⟩
          refine ⟨_,op_stw (vs := [vI 0,vI 0,vI 0,vI 0,vI 0,.slice none 0 0,vI 0,.slice none 0 0,.slice none 0 0,.slice none 0 0,.slice none 0 0,.slice none 0 0]) rfl rfl rfl rfl rfl rfl rfl rfl,?_⟩
          exact cxs (Rt ⟨nilMV,false,rfl,parsm_no (fun g0 g1 g2 => h137 (by rw [(hT' g0 g1 g2).1,mgBz,if_pos g1]; exact g2)),pcM_nil,newM_nil,hPst.trans hP135⟩)
         ·replace h137 := h137.1 rfl
          iterate 2 refine ⟨_,rfl,?_⟩
          refine Cm gg s135 [Ml 2 0,(3,vB false),Ml 6 1,(139,vB false)] [(2,0,[vI 0,vI 0,vI 0,vI 0,vI 0,Sn,vI 0,Sn,Sn,Sn,Sn,Sn]),(6,1,[vI n1,vI n2,vI n3,vI n4,vI n5,vS q46 L46.length,vI n7,vS q54 L54.length,vS q57 L57.length,vS u89.p u89.x.items.length,vS u89.q u89.x.floors.length,vS w.p w.l.length])] fun _ _ => ?_
          refine cxs ?_
          refine ⟨_,op_ldo (v := .agg #[vI n1,vI n2,vI n3,vI n4,vI n5,vS q46 L46.length,vI n7,vS q54 L54.length,vS q57 L57.length,vS u89.p u89.x.items.length,vS u89.q u89.x.floors.length,vS w.p w.l.length]) rfl rfl rfl rfl,?_⟩
          refine ⟨_,op_stw (vs := [vI n1,vI n2,vI n3,vI n4,vI n5,vS q46 L46.length,vI n7,vS q54 L54.length,vS q57 L57.length,vS u89.p u89.x.items.length,vS u89.q u89.x.floors.length,vS w.p w.l.length]) rfl rfl rfl rfl rfl rfl rfl rfl,?_⟩
          refine cxs ?_
          have hFin := (hGa.step hP135).out hP1
          have hmb : mgB (⟨n1,n2,n3,n4,n5,⟨⟨q46,L46⟩,n7⟩,⟨q54,L54⟩,⟨q57,L57⟩,u89,w⟩ : MV).x = l := by rw [← h137,mgBz,if_pos h130]
          exact Rt ⟨(⟨n1,n2,n3,n4,n5,⟨⟨q46,L46⟩,n7⟩,⟨q54,L54⟩,⟨q57,L57⟩,u89,w⟩ : MV),true,rfl,parsm_ok h130 hmb (fun g0 g1 g2 => (hT' g0 g1 g2).1),hFin.1,hFin.2.1,hFin.2.2⟩
       ·iterate 2 refine ⟨_,rfl,?_⟩
        refine Cm gg st' [Ml 2 0,(3,vB false),Ml 6 1,(139,vB true)] [(2,0,[vI 0,vI 0,vI 0,vI 0,vI 0,Sn,vI 0,Sn,Sn,Sn,Sn,Sn]),(6,1,[vI n1,vI n2,vI n3,vI n4,vI n5,vS q46 L46.length,vI n7,vS q54 L54.length,vS q57 L57.length,vS u89.p u89.x.items.length,vS u89.q u89.x.floors.length,vS w.p w.l.length])] fun _ _ => ?_
        refine ⟨_,rfl,?_⟩
        refine ⟨_,op_stw (vs := [vI 0,vI 0,vI 0,vI 0,vI 0,.slice none 0 0,vI 0,.slice none 0 0,.slice none 0 0,.slice none 0 0,.slice none 0 0,.slice none 0 0]) rfl rfl rfl rfl rfl rfl rfl rfl,?_⟩
        exact cxs (Rt ⟨nilMV,false,rfl,parsm_no (fun g0 g1 g2 => by cases (hT' g0 g1 g2).2),pcM_nil,newM_nil,hPst⟩)
      ·replace h109 : (j : Int) < n11 := of_decide_eq_true h109
       refine Cm gg st' [(0,vS p l.length),Ml 2 0,(3,vB false),(5,vP st.next 0),Ml 6 1,(107,vI n11),(108,vI (j : Int)),(109,vB true)] [(2,0,[vI 0,vI 0,vI 0,vI 0,vI 0,Sn,vI 0,Sn,Sn,Sn,Sn,Sn]),(6,1,[vI n1,vI n2,vI n3,vI n4,vI n5,vS q46 L46.length,vI n7,vS q54 L54.length,vS q57 L57.length,vS u89.p u89.x.items.length,vS u89.q u89.x.floors.length,vS w.p w.l.length])] fun _ _ => ?_
       refine cxs ?_
       iterate 2 refine ⟨_,rfl,?_⟩
       refine ⟨_,Os rfl,?_⟩
       refine Cm (gg + 1) st' [(0,vS p l.length),Ml 2 0,(3,vB false),(5,vP st.next 0),Ml 6 1,Ml 11 gg,(107,vI n11),(108,vI (j : Int)),(109,vB true)] [(2,0,[vI 0,vI 0,vI 0,vI 0,vI 0,Sn,vI 0,Sn,Sn,Sn,Sn,Sn]),(6,1,[vI n1,vI n2,vI n3,vI n4,vI n5,vS q46 L46.length,vI n7,vS q54 L54.length,vS q57 L57.length,vS u89.p u89.x.items.length,vS u89.q u89.x.floors.length,vS w.p w.l.length]),(11,gg,[vI 0,vI 0])] fun _ _ => ?_
       refine ⟨_,rfl,(ac_impl_num st.next p lw kk bb st' hOw hRv hob hsw hkk).mono ?_⟩
       rintro _ s112 ⟨n12,a12,b12,rfl,h112,hO112,hP112⟩
       refine ⟨_,rfl,?_⟩
       refine ⟨_,Os rfl,?_⟩
       refine Cm (gg + 1) s112 [(0,vS p l.length),Ml 2 0,(3,vB false),(5,vP st.next 0),Ml 6 1,Ml 11 gg,(107,vI n11),(108,vI (j : Int)),(109,vB true)] [(2,0,[vI 0,vI 0,vI 0,vI 0,vI 0,Sn,vI 0,Sn,Sn,Sn,Sn,Sn]),(6,1,[vI n1,vI n2,vI n3,vI n4,vI n5,vS q46 L46.length,vI n7,vS q54 L54.length,vS q57 L57.length,vS u89.p u89.x.items.length,vS u89.q u89.x.floors.length,vS w.p w.l.length]),(11,gg,[vI n12,vI 0])] fun _ _ => ?_
       have hR112 := hP112.rowsD hd hRv
       have hk112 := (rnF_get hob hsw hkk h112).1
       refine ⟨_,rfl,(ac_impl_num st.next p lw a12 b12 s112 hO112 hR112 hob hsw hk112).mono ?_⟩
       rintro _ s115 ⟨n13,a13,b13,rfl,h115,hO115,hP115⟩
       refine ⟨_,rfl,?_⟩
       refine ⟨_,Os rfl,?_⟩
       refine Cm (gg + 1) s115 [(0,vS p l.length),Ml 2 0,(3,vB false),(5,vP st.next 0),Ml 6 1,Ml 11 gg,(107,vI n11),(108,vI (j : Int)),(109,vB true)] [(2,0,[vI 0,vI 0,vI 0,vI 0,vI 0,Sn,vI 0,Sn,Sn,Sn,Sn,Sn]),(6,1,[vI n1,vI n2,vI n3,vI n4,vI n5,vS q46 L46.length,vI n7,vS q54 L54.length,vS q57 L57.length,vS u89.p u89.x.items.length,vS u89.q u89.x.floors.length,vS w.p w.l.length]),(11,gg,[vI n12,vI n13])] fun _ _ => ?_
       have hG115 := hG.later (PresC.of.2 (hP112.trans hP115))
       have hOf : OwnR s115 2 cFlr w.p w.l := own_one (by decide) len_cFlr hG115.1.right
       refine ⟨_,rfl,?_⟩
       refine ⟨_,Od rfl,?_⟩
       refine ⟨_,Od rfl,?_⟩
       refine op_one (z := 2) (a := ((⟨n12,n13⟩ : Flr) : Flr)) (f := cFlr) rfl rfl rfl rfl rfl (by decide) rfl (Lb rfl) rfl rfl rfl ?_
       refine op_snoc (z := 2) (st := s115) (f := cFlr) (b := 16) (l := w.l) (x := (⟨n12,n13⟩ : Flr)) rfl rfl rfl rfl rfl rfl rfl (by decide) len_cFlr rfl rfl rfl (by omega) (by unfold maxLen; omega) hOf ?_
       intro q121 s121 hO121 hP121 hN121
       refine ⟨_,rfl,?_⟩
       refine ⟨_,Os rfl,?_⟩
       refine Cm (gg + 1) s121 [(0,vS p l.length),Ml 2 0,(3,vB false),(5,vP st.next 0),Ml 6 1,Ml 11 gg,(107,vI n11),(108,vI (j : Int)),(109,vB true)] [(2,0,[vI 0,vI 0,vI 0,vI 0,vI 0,Sn,vI 0,Sn,Sn,Sn,Sn,Sn]),(6,1,[vI n1,vI n2,vI n3,vI n4,vI n5,vS q46 L46.length,vI n7,vS q54 L54.length,vS q57 L57.length,vS u89.p u89.x.items.length,vS u89.q u89.x.floors.length,vS q121 (w.l ++ [(⟨n12,n13⟩ : Flr)]).length]),(11,gg,[vI n12,vI n13])] fun _ _ => ?_
       have ew123 : IntKind.wrap .i64 ((j : Int) + (1)) = ((j + 1 : Nat) : Int) := (wrap_i64 (by omega) (by omega)).trans (by omega)
       refine ⟨_,rfl,?_⟩
       have hG121 := hG115.row (A := ((pcIs ⟨q46,L46⟩ ++ (pcIs ⟨q54,L54⟩ ++ pcIs ⟨q57,L57⟩)) ++ pcS u89)) (B := []) (x := pcR 2 cFlr w.p w.l) (y := pcR 2 cFlr q121 (w.l ++ [(⟨n12,n13⟩ : Flr)])) hP121 (own_pc hO121) hN121
       have hNw : New s1.next w.p := hG115.2.1 (pcR 2 cFlr w.p w.l) (List.mem_append_right _ (List.mem_cons_self ..))
       refine ⟨(j + 1,⟨q121,w.l ++ [⟨n12,n13⟩]⟩,a13,b13),n11.toNat - (j + 1),by omega,⟨rfl,rfl,rfl,rfl,rfl,rfl,congrArg (Value.int .i64) ew123,trivial⟩,⟨rfl,rfl,trivial⟩,rfl,by simp only; omega,by simp only [List.length_append,List.length_singleton,hwl],(rnF_get hob hsw hk112 h115).1,fun g0 g1 g2 => ?_,hG121.1,hO115.pr hP121 (Dis.of (Old.some hc1) hNw).symm⟩
       obtain ⟨e1,e2,e3,e4⟩ := hT g0 g1 g2
       have hx : g0.marks[j]? = some g0.marks[j] := List.getElem?_eq_getElem (by omega)
       obtain ⟨r1,r2⟩ := floor_rng (s := ⟨[],g0.marks⟩) ⟨fun j x h => (by simp at h),(msg_rng g1).marks⟩ hx
       rw [flB_cons hx] at e4
       obtain ⟨c1,c2,c3⟩ := e4.num r1 e3 h112
       obtain ⟨d1,d2,d3⟩ := c3.num r2 c2 h115
       refine ⟨e1,?_,d2,d3⟩
       show w.l ++ [_] = _
       rw [List.take_add_one,hx,← e2,c1,d1]; rfl
    ·replace h73 : n10 > (IntKind.wrap .i64 (((l.length : Int) - 4) - a10)) := of_decide_eq_true h73
     rw [ew72] at h73
     refine ⟨_,rfl,?_⟩
     refine Cm 2 s60 [(0,vS p l.length),Ml 2 0,(3,vB false),(5,vP st.next 0),Ml 6 1,(7,vI n10),(74,vB true)] [(2,0,[vI 0,vI 0,vI 0,vI 0,vI 0,Sn,vI 0,Sn,Sn,Sn,Sn,Sn]),(6,1,[vI n1,vI n2,vI n3,vI n4,vI n5,vS q46 L46.length,vI n7,vS q54 L54.length,vS q57 L57.length,Sn,Sn,Sn])] fun _ _ => ?_
     refine ⟨_,rfl,?_⟩
     refine ⟨_,op_stw (vs := [vI 0,vI 0,vI 0,vI 0,vI 0,.slice none 0 0,vI 0,.slice none 0 0,.slice none 0 0,.slice none 0 0,.slice none 0 0,.slice none 0 0]) rfl rfl rfl rfl rfl rfl rfl rfl,?_⟩
     refine cxs ?_
     exact ⟨.inl rfl,_,rfl,nilMV,false,rfl,parsm_no (fun g0 g1 g2 => by
      obtain ⟨_,_,e,_,k,e1,e2,e3⟩ := hS g0 g1 g2
      have := congrArg List.length e3
      rw [List.length_drop,List.length_append] at this
      omega),pcM_nil,newM_nil,hPall⟩
   ·refine ⟨_,rfl,?_⟩
    refine Cm 2 s60 [(0,vS p l.length),Ml 2 0,(3,vB false),(5,vP st.next 0),Ml 6 1,(7,vI n10),(74,vB true)] [(2,0,[vI 0,vI 0,vI 0,vI 0,vI 0,Sn,vI 0,Sn,Sn,Sn,Sn,Sn]),(6,1,[vI n1,vI n2,vI n3,vI n4,vI n5,vS q46 L46.length,vI n7,vS q54 L54.length,vS q57 L57.length,Sn,Sn,Sn])] fun _ _ => ?_
    refine ⟨_,rfl,?_⟩
    refine ⟨_,op_stw (vs := [vI 0,vI 0,vI 0,vI 0,vI 0,.slice none 0 0,vI 0,.slice none 0 0,.slice none 0 0,.slice none 0 0,.slice none 0 0,.slice none 0 0]) rfl rfl rfl rfl rfl rfl rfl rfl,?_⟩
    exact cxs (Rt ⟨nilMV,false,rfl,parsm_no (fun g0 g1 g2 => by cases (hS g0 g1 g2).2.2.2.1),pcM_nil,newM_nil,hPall⟩)
  ·replace h21 : ¬ ((toB (l.take 2)) = ⟨#[82,75]⟩) := str_ne h21
   refine ⟨_,rfl,?_⟩
   refine Cm 1 st [(0,vS p l.length),Ml 2 0,(3,vB false),(4,vI ((l.length : Int) - 4)),(22,vB true)] [(2,0,[vI 0,vI 0,vI 0,vI 0,vI 0,Sn,vI 0,Sn,Sn,Sn,Sn,Sn])] fun _ _ => ?_
   refine ⟨_,rfl,?_⟩
   refine ⟨_,op_stw (vs := [vI 0,vI 0,vI 0,vI 0,vI 0,.slice none 0 0,vI 0,.slice none 0 0,.slice none 0 0,.slice none 0 0,.slice none 0 0,.slice none 0 0]) rfl rfl rfl rfl rfl rfl rfl rfl,?_⟩
   exact cxs (Rt ⟨nilMV,false,rfl,parsm_no (fun g0 g1 g2 => h21 (by rw [(mg_cut g2).2.2.2]; rfl)),pcM_nil,newM_nil,Pres.refl _⟩)
 ·replace h16 : ((l.length : Int) - 4) < (2) := of_decide_eq_true h16
  refine ⟨_,rfl,?_⟩
  refine Cm 1 st [(0,vS p l.length),Ml 2 0,(3,vB false),(4,vI ((l.length : Int) - 4)),(22,vB true)] [(2,0,[vI 0,vI 0,vI 0,vI 0,vI 0,Sn,vI 0,Sn,Sn,Sn,Sn,Sn])] fun _ _ => ?_
  refine ⟨_,rfl,?_⟩
  refine ⟨_,op_stw (vs := [vI 0,vI 0,vI 0,vI 0,vI 0,.slice none 0 0,vI 0,.slice none 0 0,.slice none 0 0,.slice none 0 0,.slice none 0 0,.slice none 0 0]) rfl rfl rfl rfl rfl rfl rfl rfl,?_⟩
  exact cxs (Rt ⟨nilMV,false,rfl,parsm_no (fun g0 g1 g2 => by have := (mg_cut g2).2.2.1; omega),pcM_nil,newM_nil,Pres.refl _⟩)
theorem parse_bg {u : Sta} {b : Bool} {l : List Int} (h : (u,b) = parseS l) : bigS u := by
 cases b with
 | true => exact big_ok (parse_yes h).1
 | false =>
  unfold parseS at h
  split at h
  ·injection h with _ h; cases h
  ·injection h with h _; rw [h]; exact bigS_nil
theorem ac_spec_MsgOf (p : Option Addr) (l : List Int) (st : St) (hR : Rows st 1 fB p l) (hl : bytesOk l) (hs : l.length ≤ 1048576) : C 63 [vS p l.length] st (fun v s => ∃ (u : MV) (b : Bool),v = .tuple #[.agg #[vI u.kind,vI u.frm,vI u.to,vI u.num,vI u.hi,vS u.tree.p u.tree.l.length,vI u.tree.root,vS u.vec.p u.vec.l.length,vS u.leaves.p u.leaves.l.length,vS u.part.p u.part.x.items.length,vS u.part.q u.part.x.floors.length,vS u.marks.p u.marks.l.length],vB b] ∧ (u.x,b) = parseM l ∧ OwnP s (pcMV u) ∧ NewP st.next (pcMV u) ∧ Pres st s) := by
 obtain ⟨lw,hlw⟩ : ∃ x,x = l.take (l.length - 4) := ⟨_,rfl⟩
 have hll : lw.length = l.length - 4 := by rw [hlw,List.length_take]; omega
 have hRw : Rows st 1 fB p lw := hlw ▸ hR.take _
 have hob : bytesOk lw := fun x hx => hl x (List.mem_of_mem_take (hlw ▸ hx))
 have hsw : lw.length ≤ 1099511627776 := by omega
 have hRe : Rows st 1 fB (shO p 1 (l.length - 4)) (l.drop (l.length - 4)) := hR.sh _
 have h4 : (crcB lw).length = 4 := rfl
 refine AC.enterX (i := ⟨[2,5,7],[2,5,7,41,44,47,50,53,56,57,60,61,64,67,109,128,142],[0,2,3,4,5,6,7,8,9,10,29,87,125,163],[]⟩) [(1,[9],[16]),(15,[],[]),(17,[],[3,7,11]),(24,[12],[1]),(25,[15],[18])] Try.func63 rfl rfl (by kernel_rfl) (by kernel_rfl) Try.ntmps63 (Lb rfl) rfl ?_
 refine ⟨_,rfl,?_⟩
 refine Cm 1 st [(0,vS p l.length),Ml 2 0,(3,vB false)] [(2,0,[vI 0,vI 0,vI 0,vI 0,vI 0,Sn,vI 0,Sn,Sn,Sn,Sn,Sn])] fun _ _ => ?_
 iterate 2 refine ⟨_,rfl,?_⟩
 rintro (_|_) h13
 ·replace h13 : ¬ ((l.length : Int) < (6)) := of_decide_eq_false h13
  refine ⟨_,rfl,?_⟩
  have ew18 : IntKind.wrap .i64 ((l.length : Int) - (4)) = (l.length : Int) - (4) := wrap_i64 (by omega) (by omega)
  refine ⟨_,rfl,?_⟩
  refine ⟨_,op_slH (j := lw.length) rfl rfl rfl (by rw [ew18]; omega) rfl rfl (by omega),?_⟩
  refine ⟨_,rfl,(ac_spec_l10Sum p lw st hRw hob hsw).mono ?_⟩
  rintro _ s20 ⟨q20,rfl,hO20,hN20,hP20⟩
  refine ⟨hP20.2,?_⟩
  refine ⟨_,op_strW (l := crcB lw) rfl rfl rfl rfl rfl rfl (hO20.rows fB_len) (by rw [h4]; decide),?_⟩
  refine ⟨_,rfl,?_⟩
  have ew25 : IntKind.wrap .i64 ((l.length : Int) - (4)) = (l.length : Int) - (4) := wrap_i64 (by omega) (by omega)
  refine ⟨_,rfl,?_⟩
  refine ⟨_,op_drop l (l.length - 4) rfl rfl rfl rfl rfl rfl (by rw [ew25]; omega) (by omega),?_⟩
  have hpos : 0 < (l.drop (l.length - 4)).length := by rw [List.length_drop]; omega
  refine ⟨_,op_strW (l := l.drop (l.length - 4)) rfl rfl rfl rfl rfl rfl (hP20.rows hRe) hpos,?_⟩
  refine ⟨ld_str rfl rfl (rows_lt hRe hpos),?_⟩
  refine ⟨_,rfl,?_⟩
  rintro (_|_) h28
  ·replace h28 : (toB (crcB lw)) = (toB (l.drop (l.length - 4))) := str_eq h28
   refine ⟨_,rfl,?_⟩
   refine Cm 1 s20 [(0,vS p l.length),Ml 2 0,(3,vB false),(29,vB false)] [(2,0,[vI 0,vI 0,vI 0,vI 0,vI 0,Sn,vI 0,Sn,Sn,Sn,Sn,Sn])] fun _ _ => ?_
   refine cxs ?_
   refine ⟨_,rfl,?_⟩
   have ew34 : IntKind.wrap .i64 ((l.length : Int) - (4)) = (l.length : Int) - (4) := wrap_i64 (by omega) (by omega)
   refine ⟨_,rfl,?_⟩
   refine ⟨_,op_slH (j := lw.length) rfl rfl rfl (by rw [ew34]; omega) rfl rfl (by omega),?_⟩
   refine ⟨_,rfl,?_⟩
   refine ⟨_,rfl,?_⟩
   refine Cm 1 (s20.push 0 [vS p lw.length,vI 2,vB false]) [(0,vS p l.length),Ml 2 0,(3,vB false),(4,vP s20.next 0)] [(2,0,[vI 0,vI 0,vI 0,vI 0,vI 0,Sn,vI 0,Sn,Sn,Sn,Sn,Sn])] fun _ _ => ?_
   have hO1 : (rdC s20.next p lw 2 false).own (s20.push 0 [vS p lw.length,vI 2,vB false]) := .inr ⟨s20.next,rfl,Nat.lt_succ_self _,if_pos rfl⟩
   have hP1 : Pres s20 (s20.push 0 [vS p lw.length,vI 2,vB false]) := Pres.push
   have hc1 : s20.next < (s20.push 0 [vS p lw.length,vI 2,vB false]).next := Nat.lt_succ_self _
   obtain ⟨s1,hs1⟩ : ∃ s,s = s20.push 0 [vS p lw.length,vI 2,vB false] := ⟨_,rfl⟩
   rw [← hs1] at hO1 hP1 hc1 ⊢
   have hRw2 := hP20.rows hRw
   have hd := DisR.new hRw2
   have hR1 := hP1.rows hRw2
   iterate 2 refine ⟨_,rfl,?_⟩
   refine ⟨_,op_stw (vs := [vI 0,vI 0,vI 0,vI 0,vI 0,.slice none 0 0,vI 0,.slice none 0 0,.slice none 0 0,.slice none 0 0,.slice none 0 0,.slice none 0 0]) rfl rfl rfl rfl rfl rfl rfl rfl,?_⟩
   refine Cm 2 s1 [(0,vS p l.length),Ml 2 0,(3,vB false),(4,vP s20.next 0),Ml 5 1] [(2,0,[vI 0,vI 0,vI 0,vI 0,vI 0,Sn,vI 0,Sn,Sn,Sn,Sn,Sn]),(5,1,[vI 0,vI 0,vI 0,vI 0,vI 0,Sn,vI 0,Sn,Sn,Sn,Sn,Sn])] fun _ _ => ?_
   refine ⟨_,rfl,(ac_spec_num s20.next p lw 2 false s1 hO1 hR1 hob hsw (by decide)).mono ?_⟩
   rintro _ s40 ⟨n1,a1,b1,rfl,h40,hO40,hP40⟩
   refine ⟨_,rfl,?_⟩
   refine ⟨_,Os rfl,?_⟩
   refine Cm 2 s40 [(0,vS p l.length),Ml 2 0,(3,vB false),(4,vP s20.next 0),Ml 5 1] [(2,0,[vI 0,vI 0,vI 0,vI 0,vI 0,Sn,vI 0,Sn,Sn,Sn,Sn,Sn]),(5,1,[vI n1,vI 0,vI 0,vI 0,vI 0,Sn,vI 0,Sn,Sn,Sn,Sn,Sn])] fun _ _ => ?_
   have hR40 := hP40.rowsD hd hR1
   have hk40 := (rnF_get hob hsw (by decide) h40).1
   refine ⟨_,rfl,(ac_spec_num s20.next p lw a1 b1 s40 hO40 hR40 hob hsw hk40).mono ?_⟩
   rintro _ s43 ⟨n2,a2,b2,rfl,h43,hO43,hP43⟩
   refine ⟨_,rfl,?_⟩
   refine ⟨_,Os rfl,?_⟩
   refine Cm 2 s43 [(0,vS p l.length),Ml 2 0,(3,vB false),(4,vP s20.next 0),Ml 5 1] [(2,0,[vI 0,vI 0,vI 0,vI 0,vI 0,Sn,vI 0,Sn,Sn,Sn,Sn,Sn]),(5,1,[vI n1,vI n2,vI 0,vI 0,vI 0,Sn,vI 0,Sn,Sn,Sn,Sn,Sn])] fun _ _ => ?_
   have hR43 := hP43.rowsD hd hR40
   have hk43 := (rnF_get hob hsw hk40 h43).1
   refine ⟨_,rfl,(ac_spec_num s20.next p lw a2 b2 s43 hO43 hR43 hob hsw hk43).mono ?_⟩
   rintro _ s46 ⟨n3,a3,b3,rfl,h46,hO46,hP46⟩
   refine ⟨_,rfl,?_⟩
   refine ⟨_,Os rfl,?_⟩
   refine Cm 2 s46 [(0,vS p l.length),Ml 2 0,(3,vB false),(4,vP s20.next 0),Ml 5 1] [(2,0,[vI 0,vI 0,vI 0,vI 0,vI 0,Sn,vI 0,Sn,Sn,Sn,Sn,Sn]),(5,1,[vI n1,vI n2,vI n3,vI 0,vI 0,Sn,vI 0,Sn,Sn,Sn,Sn,Sn])] fun _ _ => ?_
   have hR46 := hP46.rowsD hd hR43
   have hk46 := (rnF_get hob hsw hk43 h46).1
   refine ⟨_,rfl,(ac_spec_num s20.next p lw a3 b3 s46 hO46 hR46 hob hsw hk46).mono ?_⟩
   rintro _ s49 ⟨n4,a4,b4,rfl,h49,hO49,hP49⟩
   refine ⟨_,rfl,?_⟩
   refine ⟨_,Os rfl,?_⟩
   refine Cm 2 s49 [(0,vS p l.length),Ml 2 0,(3,vB false),(4,vP s20.next 0),Ml 5 1] [(2,0,[vI 0,vI 0,vI 0,vI 0,vI 0,Sn,vI 0,Sn,Sn,Sn,Sn,Sn]),(5,1,[vI n1,vI n2,vI n3,vI n4,vI 0,Sn,vI 0,Sn,Sn,Sn,Sn,Sn])] fun _ _ => ?_
   have hR49 := hP49.rowsD hd hR46
   have hk49 := (rnF_get hob hsw hk46 h49).1
   refine ⟨_,rfl,(ac_spec_num s20.next p lw a4 b4 s49 hO49 hR49 hob hsw hk49).mono ?_⟩
   rintro _ s52 ⟨n5,a5,b5,rfl,h52,hO52,hP52⟩
   refine ⟨_,rfl,?_⟩
   refine ⟨_,Os rfl,?_⟩
   refine Cm 2 s52 [(0,vS p l.length),Ml 2 0,(3,vB false),(4,vP s20.next 0),Ml 5 1] [(2,0,[vI 0,vI 0,vI 0,vI 0,vI 0,Sn,vI 0,Sn,Sn,Sn,Sn,Sn]),(5,1,[vI n1,vI n2,vI n3,vI n4,vI n5,Sn,vI 0,Sn,Sn,Sn,Sn,Sn])] fun _ _ => ?_
   have hR52 := hP52.rowsD hd hR49
   have hk52 := (rnF_get hob hsw hk49 h52).1
   refine ⟨_,rfl,(ac_spec_l10Many s20.next p lw a5 b5 1 s52 hO52 hR52 hd hob hsw hk52 (.inl rfl)).mono ?_⟩
   rintro _ s55 ⟨q55,L55,a6,b6,rfl,hl55,hk55,hv55,h55,hQ55,hN55,hO55,hP55⟩
   iterate 2 refine ⟨_,rfl,?_⟩
   refine ⟨_,Os rfl,?_⟩
   refine Cm 2 s55 [(0,vS p l.length),Ml 2 0,(3,vB false),(4,vP s20.next 0),Ml 5 1] [(2,0,[vI 0,vI 0,vI 0,vI 0,vI 0,Sn,vI 0,Sn,Sn,Sn,Sn,Sn]),(5,1,[vI n1,vI n2,vI n3,vI n4,vI n5,vS q55 L55.length,vI 0,Sn,Sn,Sn,Sn,Sn])] fun _ _ => ?_
   have hR55 := hP55.rowsD hd hR52
   refine ⟨_,rfl,(ac_spec_num s20.next p lw a6 b6 s55 hO55 hR55 hob hsw hk55).mono ?_⟩
   rintro _ s59 ⟨n7,a7,b7,rfl,h59,hO59,hP59⟩
   iterate 2 refine ⟨_,rfl,?_⟩
   refine ⟨_,Os rfl,?_⟩
   refine Cm 2 s59 [(0,vS p l.length),Ml 2 0,(3,vB false),(4,vP s20.next 0),Ml 5 1] [(2,0,[vI 0,vI 0,vI 0,vI 0,vI 0,Sn,vI 0,Sn,Sn,Sn,Sn,Sn]),(5,1,[vI n1,vI n2,vI n3,vI n4,vI n5,vS q55 L55.length,vI n7,Sn,Sn,Sn,Sn,Sn])] fun _ _ => ?_
   have hR59 := hP59.rowsD hd hR55
   have hk59 := (rnF_get hob hsw hk55 h59).1
   refine ⟨_,rfl,(ac_spec_l10Many s20.next p lw a7 b7 1 s59 hO59 hR59 hd hob hsw hk59 (.inl rfl)).mono ?_⟩
   rintro _ s63 ⟨q63,L63,a8,b8,rfl,hl63,hk63,hv63,h63,hQ63,hN63,hO63,hP63⟩
   refine ⟨_,rfl,?_⟩
   refine ⟨_,Os rfl,?_⟩
   refine Cm 2 s63 [(0,vS p l.length),Ml 2 0,(3,vB false),(4,vP s20.next 0),Ml 5 1] [(2,0,[vI 0,vI 0,vI 0,vI 0,vI 0,Sn,vI 0,Sn,Sn,Sn,Sn,Sn]),(5,1,[vI n1,vI n2,vI n3,vI n4,vI n5,vS q55 L55.length,vI n7,vS q63 L63.length,Sn,Sn,Sn,Sn])] fun _ _ => ?_
   have hR63 := hP63.rowsD hd hR59
   refine ⟨_,rfl,(ac_spec_l10Many s20.next p lw a8 b8 1 s63 hO63 hR63 hd hob hsw hk63 (.inl rfl)).mono ?_⟩
   rintro _ s66 ⟨q66,L66,a9,b9,rfl,hl66,hk66,hv66,h66,hQ66,hN66,hO66,hP66⟩
   refine ⟨_,rfl,?_⟩
   refine ⟨_,Os rfl,?_⟩
   refine Cm 2 s66 [(0,vS p l.length),Ml 2 0,(3,vB false),(4,vP s20.next 0),Ml 5 1] [(2,0,[vI 0,vI 0,vI 0,vI 0,vI 0,Sn,vI 0,Sn,Sn,Sn,Sn,Sn]),(5,1,[vI n1,vI n2,vI n3,vI n4,vI n5,vS q55 L55.length,vI n7,vS q63 L63.length,vS q66 L66.length,Sn,Sn,Sn])] fun _ _ => ?_
   have hR66 := hP66.rowsD hd hR63
   refine ⟨_,rfl,(ac_spec_num s20.next p lw a9 b9 s66 hO66 hR66 hob hsw hk66).mono ?_⟩
   rintro _ s69 ⟨n10,a10,b10,rfl,h69,hO69,hP69⟩
   refine Cm 2 s69 [(0,vS p l.length),Ml 2 0,(3,vB false),(4,vP s20.next 0),Ml 5 1,(6,vI n10)] [(2,0,[vI 0,vI 0,vI 0,vI 0,vI 0,Sn,vI 0,Sn,Sn,Sn,Sn,Sn]),(5,1,[vI n1,vI n2,vI n3,vI n4,vI n5,vS q55 L55.length,vI n7,vS q63 L63.length,vS q66 L66.length,Sn,Sn,Sn])] fun _ _ => ?_
   have hR69 := hP69.rowsD hd hR66
   have hk69 := (rnF_get hob hsw hk66 h69).1
   have hP52' : PresC s20.next s1 s52 := PresC.of.2 ((((hP40.trans hP43).trans hP46).trans hP49).trans hP52)
   have hc52 : s20.next < s52.next := Nat.lt_of_lt_of_le hc1 hP52'.1
   have hc59 : s20.next < s59.next := Nat.lt_of_lt_of_le hc52 (hP55.trans hP59).1
   have hF66 := (((FrC.nums hQ55 hN55 hP55 hc52).later (PresC.of.2 hP59)).join ((FrC.nums hQ63 hN63 hP63 hc59).join (FrC.nums hQ66 hN66 hP66 (Nat.lt_of_lt_of_le hc59 hP63.1)))).sooner hP52' hc1
   have hF69 := hF66.later (PresC.of.2 hP69)
   have hmem := (rdC_mem hO69).2
   have hmlt := (rdC_mem hO69).1
   have hPall : Pres st s69 := hP20.trans (hF69.out hP1).2.2
   have hS : ∀ g0,msgOk g0 → mgB g0 = l → (n1 = g0.kind ∧ n2 = g0.frm ∧ n3 = g0.to ∧ n4 = g0.num ∧ n5 = g0.hi) ∧ (L55 = g0.tree.leaves ∧ n7 = g0.tree.root ∧ L63 = g0.vec ∧ L66 = g0.leaves) ∧ n10 = ((stB g0.part).length : Int) ∧ b10 = false ∧ Sf lw a10 (stB g0.part ++ (putN (g0.marks.length : Int) ++ flsB g0.marks)) := fun g0 g1 g2 => by
    have hr := msg_rng g1
    have hm := msg_sm g1
    have m1 := hm.tree
    have m2 := hm.vec
    have m3 := hm.leaves
    have x0 : Sf lw 2 (mgR g0) := hlw ▸ mg_Sf g2
    unfold mgR at x0
    obtain ⟨e1,f1,x1⟩ := x0.num hr.kind rfl h40
    obtain ⟨e2,f2,x2⟩ := x1.num hr.frm f1 h43
    obtain ⟨e3,f3,x3⟩ := x2.num hr.to f2 h46
    obtain ⟨e4,f4,x4⟩ := x3.num hr.num f3 h49
    obtain ⟨e5,f5,x5⟩ := x4.num hr.hi f4 h52
    obtain ⟨e6,f6,x6⟩ := h55 f5 _ _ _ hr.tree (Int.mul_one _).symm (by omega) (by omega) x5
    obtain ⟨e7,f7,x7⟩ := x6.num hr.root f6 h59
    obtain ⟨e8,f8,x8⟩ := h63 f7 _ _ _ hr.vec (Int.mul_one _).symm (by omega) (by omega) x7
    obtain ⟨e9,f9,x9⟩ := h66 f8 _ _ _ hr.leaves (Int.mul_one _).symm (by omega) (by omega) x8
    obtain ⟨e10,f10,x10⟩ := x9.num hr.size f9 h69
    exact ⟨⟨e1,e2,e3,e4,e5⟩,⟨e6,e7,e8,e9⟩,e10,f10,x10⟩
   iterate 2 refine ⟨_,rfl,?_⟩
   refine ⟨_,op_ld rfl rfl rfl rfl hmem rfl,?_⟩
   rcases b10 with _|_
   ·iterate 2 refine ⟨_,rfl,?_⟩
    refine ⟨_,op_ld rfl rfl rfl rfl hmem rfl,?_⟩
    iterate 3 refine ⟨_,rfl,?_⟩
    refine ⟨_,op_ld rfl rfl rfl rfl hmem rfl,?_⟩
    have hrk := rnF_ok hob h69
    have ew85 : IntKind.wrap .i64 ((lw.length : Int) - a10) = (lw.length : Int) - a10 := wrap_i64 (by omega) (by omega)
    iterate 2 refine ⟨_,rfl,?_⟩
    rintro (_|_) h86
    ·replace h86 : ¬ (n10 > (IntKind.wrap .i64 ((lw.length : Int) - a10))) := of_decide_eq_false h86
     rw [ew85] at h86
     refine ⟨_,rfl,?_⟩
     refine Cm 2 s69 [(0,vS p l.length),Ml 2 0,(3,vB false),(4,vP s20.next 0),Ml 5 1,(6,vI n10),(87,vB false)] [(2,0,[vI 0,vI 0,vI 0,vI 0,vI 0,Sn,vI 0,Sn,Sn,Sn,Sn,Sn]),(5,1,[vI n1,vI n2,vI n3,vI n4,vI n5,vS q55 L55.length,vI n7,vS q63 L63.length,vS q66 L66.length,Sn,Sn,Sn])] fun _ _ => ?_
     obtain ⟨q1,q2,q3,q4,q5⟩ := rnF_ok hob h69
     obtain ⟨sn,hsn⟩ := Int.eq_ofNat_of_zero_le q1
     obtain ⟨kn,hkn⟩ := Int.eq_ofNat_of_zero_le (show 0 ≤ a10 by omega)
     have hsk : kn + sn ≤ lw.length := by omega
     have hobp : bytesOk ((lw.drop kn).take sn) := fun x hx => hob x (List.mem_of_mem_drop (List.mem_of_mem_take hx))
     have hlpl : ((lw.drop kn).take sn).length ≤ 1048576 := by rw [List.length_take,List.length_drop]; omega
     have hRlp : Rows s69 1 fB (shO p 1 kn) ((lw.drop kn).take sn) := (hR69.sh kn).take sn
     have hlp : ∀ g0,msgOk g0 → mgB g0 = l → (lw.drop kn).take sn = stB g0.part := fun g0 g1 g2 => by
      obtain ⟨_,_,e,_,k,e1,e2,e3⟩ := hS g0 g1 g2
      obtain rfl : k = kn := by omega
      obtain rfl : sn = (stB g0.part).length := by omega
      rw [e3,List.take_left]
     refine cxs ?_
     iterate 2 refine ⟨_,rfl,?_⟩
     refine ⟨_,op_ld rfl rfl rfl rfl hmem rfl,?_⟩
     refine ⟨ld_lt rfl rfl hmlt,?_⟩
     iterate 2 refine ⟨_,rfl,?_⟩
     refine ⟨_,op_ld rfl rfl rfl rfl hmem rfl,?_⟩
     refine ⟨ld_lt rfl rfl hmlt,?_⟩
     iterate 2 refine ⟨_,rfl,?_⟩
     refine ⟨_,op_ld rfl rfl rfl rfl hmem rfl,?_⟩
     refine ⟨ld_lt rfl rfl hmlt,?_⟩
     have ew103 : IntKind.wrap .i64 (a10 + n10) = a10 + n10 := wrap_i64 (by omega) (by omega)
     refine ⟨_,rfl,?_⟩
     refine ⟨_,op_sl3L lw kn sn rfl rfl rfl rfl hkn (by rw [ew103]; omega) rfl rfl (by omega),?_⟩
     refine ⟨_,rfl,(ac_spec_StateOf (shO p 1 kn) ((lw.drop kn).take sn) s69 hRlp hobp hlpl).mono ?_⟩
     rintro _ s105 ⟨u105,b105,rfl,h105,hO105,hN105,hP105⟩
     iterate 3 refine ⟨_,rfl,?_⟩
     refine ⟨_,Os rfl,?_⟩
     refine Cm 3 s105 [(0,vS p l.length),Ml 2 0,(3,vB false),(4,vP s20.next 0),Ml 5 1,(6,vI n10),Ml 7 2,(8,vB b105)] [(2,0,[vI 0,vI 0,vI 0,vI 0,vI 0,Sn,vI 0,Sn,Sn,Sn,Sn,Sn]),(5,1,[vI n1,vI n2,vI n3,vI n4,vI n5,vS q55 L55.length,vI n7,vS q63 L63.length,vS q66 L66.length,Sn,Sn,Sn]),(7,2,cSV u105)] fun _ _ => ?_
     have hF105 := hF69.add ⟨hO105,hN105,hP105⟩
     have hO105r : (rdC s20.next p lw a10 false).own s105 := hO69.pres hP105
     have hm105 := (rdC_mem hO105r).2
     have hsz : n10 ≤ 2147483647 := q2
     have ha10 : 0 ≤ a10 ∧ a10 + n10 ≤ lw.length := by omega
     refine ⟨_,Od rfl,?_⟩
     refine ⟨_,rfl,?_⟩
     refine ⟨_,Os rfl,?_⟩
     refine Cm 3 s105 [(0,vS p l.length),Ml 2 0,(3,vB false),(4,vP s20.next 0),Ml 5 1,(6,vI n10),(8,vB b105)] [(2,0,[vI 0,vI 0,vI 0,vI 0,vI 0,Sn,vI 0,Sn,Sn,Sn,Sn,Sn]),(5,1,[vI n1,vI n2,vI n3,vI n4,vI n5,vS q55 L55.length,vI n7,vS q63 L63.length,vS q66 L66.length,vS u105.p u105.x.items.length,vS u105.q u105.x.floors.length,Sn])] fun _ _ => ?_
     iterate 2 refine ⟨_,rfl,?_⟩
     refine ⟨_,op_ld rfl rfl rfl rfl hm105 rfl,?_⟩
     have ew116 : IntKind.wrap .i64 (a10 + n10) = a10 + n10 := wrap_i64 (by omega) (by omega)
     iterate 3 refine ⟨_,rfl,?_⟩
     refine op_stO (z := 0) (c := s20.next) (off := 1) rfl rfl rfl rfl rfl rfl hO105r (by simp) ?_
     intro s116 hO116 hP116 hn116
     refine Cm 3 s116 [(0,vS p l.length),Ml 2 0,(3,vB false),(4,vP s20.next 0),Ml 5 1,(8,vB b105)] [(2,0,[vI 0,vI 0,vI 0,vI 0,vI 0,Sn,vI 0,Sn,Sn,Sn,Sn,Sn]),(5,1,[vI n1,vI n2,vI n3,vI n4,vI n5,vS q55 L55.length,vI n7,vS q63 L63.length,vS q66 L66.length,vS u105.p u105.x.items.length,vS u105.q u105.x.floors.length,Sn])] fun _ _ => ?_
     have hO116 : (rdC s20.next p lw (a10 + n10) false).own s116 := by rw [← ew116]; exact hO116
     have hk116 : a10 + n10 ≤ 1099511627776 := by omega
     have hF116 := hF105.later (PresC.of.2 hP116)
     have hR116 := hP116.rowsD hd (hP105.rows hR69)
     refine ⟨_,rfl,(ac_spec_l10Many s20.next p lw (a10 + n10) false 2 s116 hO116 hR116 hd hob hsw hk116 (.inr rfl)).mono ?_⟩
     rintro _ s120 ⟨q120,L120,a11,b11,rfl,hl120,hk120,hv120,h120,hQ120,hN120,hO120,hP120⟩
     refine cxs ?_
     have hFc := hF116.later (PresC.of.2 hP120)
     have hF120 := hFc.join (FrC.nilI hFc.lt)
     have hS2 : ∀ g0,msgOk g0 → mgB g0 = l → L120 = flL g0.marks ∧ b11 = false := fun g0 g1 g2 => by
      obtain ⟨_,_,e,_,k,e1,e2,e3⟩ := hS g0 g1 g2
      have x1 := Sf.next e2 e3
      rw [← e1,← e] at x1
      have := (msg_sm g1).marks
      have x2 : Sf lw (a10 + n10) (putN (g0.marks.length : Int) ++ (numsB (flL g0.marks) ++ [])) := by rw [List.append_nil,flL_B]; exact x1
      obtain ⟨c1,c2,c3⟩ := h120 rfl _ _ _ (flL_rng (msg_rng g1).marks) (by rw [flL_len]; omega) (by omega) (by omega) x2
      exact ⟨c1,c2⟩
     refine Cm 3 s120 [(0,vS p l.length),Ml 2 0,(3,vB false),(4,vP s20.next 0),Ml 5 1,(8,vB b105),(9,vS q120 L120.length),(10,vI 0)] [(2,0,[vI 0,vI 0,vI 0,vI 0,vI 0,Sn,vI 0,Sn,Sn,Sn,Sn,Sn]),(5,1,[vI n1,vI n2,vI n3,vI n4,vI n5,vS q55 L55.length,vI n7,vS q63 L63.length,vS q66 L66.length,vS u105.p u105.x.items.length,vS u105.q u105.x.floors.length,Sn])] fun _ _ => ?_
     refine AW.loopM (fun x : Nat × FV => [(0,vS p l.length),(2,vL 2 0 (0)),(3,vB false),(4,vP s20.next 0),(5,vL 5 0 (1)),(8,vB b105),(9,vS q120 L120.length),(10,vI ((2 * x.1 : Nat) : Int))]) (fun x : Nat × FV => [(2,0,[vI 0,vI 0,vI 0,vI 0,vI 0,.slice none 0 0,vI 0,.slice none 0 0,.slice none 0 0,.slice none 0 0,.slice none 0 0,.slice none 0 0]),(5,1,[vI n1,vI n2,vI n3,vI n4,vI n5,vS q55 L55.length,vI n7,vS q63 L63.length,vS q66 L66.length,vS u105.p u105.x.items.length,vS u105.q u105.x.floors.length,vS x.2.p x.2.l.length])]) (fun m (x : Nat × FV) st' => m = 200 - x.1 ∧ 2 * x.1 ≤ L120.length ∧ x.2.l.length = x.1 ∧ (∀ g0,msgOk g0 → mgB g0 = l → x.2.l = g0.marks.take x.1) ∧ FrC s20.next s1 st' (((pcIs ⟨q55,L55⟩ ++ (pcIs ⟨q63,L63⟩ ++ pcIs ⟨q66,L66⟩)) ++ pcS u105) ++ pcFV x.2) ∧ (OwnR st' 1 fI q120 L120 ∧ Dis x.2.p q120) ∧ (rdC s20.next p lw a11 b11).own st') (0,⟨none,[]⟩) _ ⟨rfl,rfl,rfl,rfl,rfl,rfl,rfl,rfl,trivial⟩ ⟨rfl,rfl,trivial⟩ ⟨rfl,Nat.zero_le _,rfl,fun _ _ _ => rfl,hF120,⟨hQ120,fun x y hx _ => (by cases hx)⟩,hO120⟩ ?_
     rintro m ⟨j,w⟩ ρ0 ff gg st' ⟨rfl,hj,hwl,hT,hG,⟨hQo,hDq⟩,hOw⟩
     simp only at hj hwl hT hG hQo hDq hOw
     have hQw : Rows st' 1 fI q120 L120 := hQo.rows fI_len
     have hPst : Pres st st' := hP20.trans (hG.out hP1).2.2
     have ew122 : IntKind.wrap .i64 (((2 * j : Nat) : Int) + (1)) = ((2 * j + 1 : Nat) : Int) := (wrap_i64 (by omega) (by omega)).trans (by omega)
     iterate 3 refine ⟨_,rfl,?_⟩
     rintro (_|_) h125
     ·replace h125 : ¬ ((IntKind.wrap .i64 (((2 * j : Nat) : Int) + (1))) < (L120.length : Int)) := of_decide_eq_false h125
      rw [ew122] at h125
      refine Cm gg st' [(0,vS p l.length),Ml 2 0,(3,vB false),(4,vP s20.next 0),Ml 5 1,(8,vB b105),(9,vS q120 L120.length),(10,vI ((2 * j : Nat) : Int)),(125,vB false)] [(2,0,[vI 0,vI 0,vI 0,vI 0,vI 0,Sn,vI 0,Sn,Sn,Sn,Sn,Sn]),(5,1,[vI n1,vI n2,vI n3,vI n4,vI n5,vS q55 L55.length,vI n7,vS q63 L63.length,vS q66 L66.length,vS u105.p u105.x.items.length,vS u105.q u105.x.floors.length,vS w.p w.l.length])] fun _ _ => ?_
      have hmw := rdC_mem hOw
      have hT' : ∀ g0,msgOk g0 → mgB g0 = l → (⟨n1,n2,n3,n4,n5,⟨⟨q55,L55⟩,n7⟩,⟨q63,L63⟩,⟨q66,L66⟩,u105,w⟩ : MV).x = g0 := fun g0 g1 g2 => by
       obtain ⟨⟨z1,z2,z3,z4,z5⟩,⟨z6,z7,z8,z9⟩,_⟩ := hS g0 g1 g2
       have e3 := (hS2 g0 g1 g2).1
       have hlen : L120.length = 2 * g0.marks.length := by rw [e3,flL_len]
       have h105' := h105
       rw [hlp g0 g1 g2] at h105'
       have z10 := (parse_of (msg_sm g1).part h105').2
       have z11 : w.l = g0.marks := by rw [hT g0 g1 g2]; exact List.take_of_length_le (by omega)
       exact mg_of z1 z2 z3 z4 z5 z6 z7 z8 z9 z10 z11
      have hTb : ∀ g0,msgOk g0 → mgB g0 = l → b105 = true := fun g0 g1 g2 => by
       have h105' := h105
       rw [hlp g0 g1 g2] at h105'
       exact (parse_of (msg_sm g1).part h105').1
      have hbG : bigM (⟨n1,n2,n3,n4,n5,⟨⟨q55,L55⟩,n7⟩,⟨q63,L63⟩,⟨q66,L66⟩,u105,w⟩ : MV).x := ⟨by show L55.length ≤ 1048576; omega,by show L63.length ≤ 1048576; omega,by show L66.length ≤ 1048576; omega,parse_bg h105,by show w.l.length ≤ 1048576; omega⟩
      have hGa : FrC s20.next s1 st' (pcMV (⟨n1,n2,n3,n4,n5,⟨⟨q55,L55⟩,n7⟩,⟨q63,L63⟩,⟨q66,L66⟩,u105,w⟩ : MV)) := FrC.assocM hG
      have hRG : RdM st' (⟨n1,n2,n3,n4,n5,⟨⟨q55,L55⟩,n7⟩,⟨q63,L63⟩,⟨q66,L66⟩,u105,w⟩ : MV) := hGa.1.rdM
      refine cxs ?_
      rcases b105 with _|_
      ·iterate 4 refine ⟨_,rfl,?_⟩
       refine Cm gg st' [Ml 2 0,(3,vB false),Ml 5 1,(163,vB true)] [(2,0,[vI 0,vI 0,vI 0,vI 0,vI 0,Sn,vI 0,Sn,Sn,Sn,Sn,Sn]),(5,1,[vI n1,vI n2,vI n3,vI n4,vI n5,vS q55 L55.length,vI n7,vS q63 L63.length,vS q66 L66.length,vS u105.p u105.x.items.length,vS u105.q u105.x.floors.length,vS w.p w.l.length])] fun _ _ => ?_
       refine ⟨_,rfl,?_⟩
       refine ⟨_,op_stw (vs := [vI 0,vI 0,vI 0,vI 0,vI 0,.slice none 0 0,vI 0,.slice none 0 0,.slice none 0 0,.slice none 0 0,.slice none 0 0,.slice none 0 0]) rfl rfl rfl rfl rfl rfl rfl rfl,?_⟩
       exact cxs (Rt ⟨nilMV,false,rfl,parsm_no (fun g0 g1 g2 => by cases hTb g0 g1 g2),pcM_nil,newM_nil,hPst⟩)
      ·iterate 3 refine ⟨_,rfl,?_⟩
       refine ⟨_,op_ld rfl rfl rfl rfl hmw.2 rfl,?_⟩
       rcases b11 with _|_
       ·refine ⟨_,rfl,?_⟩
        refine ⟨_,op_ldo (v := .agg #[vI n1,vI n2,vI n3,vI n4,vI n5,vS q55 L55.length,vI n7,vS q63 L63.length,vS q66 L66.length,vS u105.p u105.x.items.length,vS u105.q u105.x.floors.length,vS w.p w.l.length]) rfl rfl rfl rfl,?_⟩
        refine ⟨_,rfl,(ac_spec_MsgOk (⟨n1,n2,n3,n4,n5,⟨⟨q55,L55⟩,n7⟩,⟨q63,L63⟩,⟨q66,L66⟩,u105,w⟩ : MV) st' hRG hbG).mono ?_⟩
        rintro _ st' ⟨x153,rfl,h153,rfl⟩
        rcases x153 with _|_
        ·replace h153 := fun k => Bool.false_ne_true (h153.2 k)
         iterate 3 refine ⟨_,rfl,?_⟩
         refine Cm gg st' [Ml 2 0,(3,vB false),Ml 5 1,(163,vB true)] [(2,0,[vI 0,vI 0,vI 0,vI 0,vI 0,Sn,vI 0,Sn,Sn,Sn,Sn,Sn]),(5,1,[vI n1,vI n2,vI n3,vI n4,vI n5,vS q55 L55.length,vI n7,vS q63 L63.length,vS q66 L66.length,vS u105.p u105.x.items.length,vS u105.q u105.x.floors.length,vS w.p w.l.length])] fun _ _ => ?_
         refine ⟨_,rfl,?_⟩
         refine ⟨_,op_stw (vs := [vI 0,vI 0,vI 0,vI 0,vI 0,.slice none 0 0,vI 0,.slice none 0 0,.slice none 0 0,.slice none 0 0,.slice none 0 0,.slice none 0 0]) rfl rfl rfl rfl rfl rfl rfl rfl,?_⟩
         exact cxs (Rt ⟨nilMV,false,rfl,parsm_no (fun g0 g1 g2 => h153 (hT' g0 g1 g2 ▸ g1)),pcM_nil,newM_nil,hPst⟩)
        ·replace h153 := h153.1 rfl
         iterate 2 refine ⟨_,rfl,?_⟩
         refine ⟨_,op_ldo (v := .agg #[vI n1,vI n2,vI n3,vI n4,vI n5,vS q55 L55.length,vI n7,vS q63 L63.length,vS q66 L66.length,vS u105.p u105.x.items.length,vS u105.q u105.x.floors.length,vS w.p w.l.length]) rfl rfl rfl rfl,?_⟩
         refine ⟨_,rfl,(ac_spec_MsgBytes (⟨n1,n2,n3,n4,n5,⟨⟨q55,L55⟩,n7⟩,⟨q63,L63⟩,⟨q66,L66⟩,u105,w⟩ : MV) st' hRG hbG).mono ?_⟩
         rintro _ s158 ⟨q158,rfl,hO158,hN158,hP158⟩
         refine ⟨hP158.2,?_⟩
         refine ⟨_,op_strW (l := mgBz (⟨n1,n2,n3,n4,n5,⟨⟨q55,L55⟩,n7⟩,⟨q63,L63⟩,⟨q66,L66⟩,u105,w⟩ : MV).x) rfl rfl rfl rfl rfl rfl (hO158.rows fB_len) (mgBz_pos h153),?_⟩
         have hRl := hPst.rows hR
         have hl0 : 0 < l.length := by omega
         refine ⟨_,op_strW (l := l) rfl rfl rfl rfl rfl rfl (hP158.rows hRl) hl0,?_⟩
         refine ⟨ld_str rfl rfl (rows_lt hRl hl0),?_⟩
         refine ⟨_,rfl,?_⟩
         rintro (_|_) h162
         ·replace h162 : (toB (mgBz (⟨n1,n2,n3,n4,n5,⟨⟨q55,L55⟩,n7⟩,⟨q63,L63⟩,⟨q66,L66⟩,u105,w⟩ : MV).x)) = (toB l) := str_eq h162
          refine ⟨_,rfl,?_⟩
          refine Cm gg s158 [Ml 2 0,(3,vB false),Ml 5 1,(163,vB false)] [(2,0,[vI 0,vI 0,vI 0,vI 0,vI 0,Sn,vI 0,Sn,Sn,Sn,Sn,Sn]),(5,1,[vI n1,vI n2,vI n3,vI n4,vI n5,vS q55 L55.length,vI n7,vS q63 L63.length,vS q66 L66.length,vS u105.p u105.x.items.length,vS u105.q u105.x.floors.length,vS w.p w.l.length])] fun _ _ => ?_
          refine cxs ?_
          refine ⟨_,op_ldo (v := .agg #[vI n1,vI n2,vI n3,vI n4,vI n5,vS q55 L55.length,vI n7,vS q63 L63.length,vS q66 L66.length,vS u105.p u105.x.items.length,vS u105.q u105.x.floors.length,vS w.p w.l.length]) rfl rfl rfl rfl,?_⟩
          refine ⟨_,op_stw (vs := [vI n1,vI n2,vI n3,vI n4,vI n5,vS q55 L55.length,vI n7,vS q63 L63.length,vS q66 L66.length,vS u105.p u105.x.items.length,vS u105.q u105.x.floors.length,vS w.p w.l.length]) rfl rfl rfl rfl rfl rfl rfl rfl,?_⟩
          refine cxs ?_
          have hFin := (hGa.step hP158).out hP1
          have hmb : mgB (⟨n1,n2,n3,n4,n5,⟨⟨q55,L55⟩,n7⟩,⟨q63,L63⟩,⟨q66,L66⟩,u105,w⟩ : MV).x = l := by rw [← toB_inj (mgBz_ok _) hl h162,mgBz,if_pos h153]
          exact Rt ⟨(⟨n1,n2,n3,n4,n5,⟨⟨q55,L55⟩,n7⟩,⟨q63,L63⟩,⟨q66,L66⟩,u105,w⟩ : MV),true,rfl,parsm_ok h153 hmb (fun g0 g1 g2 => hT' g0 g1 g2),hFin.1,hFin.2.1.le hP20.1,hP20.trans hFin.2.2⟩
         ·replace h162 : ¬ ((toB (mgBz (⟨n1,n2,n3,n4,n5,⟨⟨q55,L55⟩,n7⟩,⟨q63,L63⟩,⟨q66,L66⟩,u105,w⟩ : MV).x)) = (toB l)) := str_ne h162
          refine ⟨_,rfl,?_⟩
          refine Cm gg s158 [Ml 2 0,(3,vB false),Ml 5 1,(163,vB true)] [(2,0,[vI 0,vI 0,vI 0,vI 0,vI 0,Sn,vI 0,Sn,Sn,Sn,Sn,Sn]),(5,1,[vI n1,vI n2,vI n3,vI n4,vI n5,vS q55 L55.length,vI n7,vS q63 L63.length,vS q66 L66.length,vS u105.p u105.x.items.length,vS u105.q u105.x.floors.length,vS w.p w.l.length])] fun _ _ => ?_
          refine ⟨_,rfl,?_⟩
          refine ⟨_,op_stw (vs := [vI 0,vI 0,vI 0,vI 0,vI 0,.slice none 0 0,vI 0,.slice none 0 0,.slice none 0 0,.slice none 0 0,.slice none 0 0,.slice none 0 0]) rfl rfl rfl rfl rfl rfl rfl rfl,?_⟩
          exact cxs (Rt ⟨nilMV,false,rfl,parsm_no (fun g0 g1 g2 => h162 (by rw [hT' g0 g1 g2,mgBz,if_pos g1,g2])),pcM_nil,newM_nil,hPst.trans hP158⟩)
       ·iterate 3 refine ⟨_,rfl,?_⟩
        refine Cm gg st' [Ml 2 0,(3,vB false),Ml 5 1,(163,vB true)] [(2,0,[vI 0,vI 0,vI 0,vI 0,vI 0,Sn,vI 0,Sn,Sn,Sn,Sn,Sn]),(5,1,[vI n1,vI n2,vI n3,vI n4,vI n5,vS q55 L55.length,vI n7,vS q63 L63.length,vS q66 L66.length,vS u105.p u105.x.items.length,vS u105.q u105.x.floors.length,vS w.p w.l.length])] fun _ _ => ?_
        refine ⟨_,rfl,?_⟩
        refine ⟨_,op_stw (vs := [vI 0,vI 0,vI 0,vI 0,vI 0,.slice none 0 0,vI 0,.slice none 0 0,.slice none 0 0,.slice none 0 0,.slice none 0 0,.slice none 0 0]) rfl rfl rfl rfl rfl rfl rfl rfl,?_⟩
        exact cxs (Rt ⟨nilMV,false,rfl,parsm_no (fun g0 g1 g2 => by cases (hS2 g0 g1 g2).2),pcM_nil,newM_nil,hPst⟩)
     ·replace h125 : (IntKind.wrap .i64 (((2 * j : Nat) : Int) + (1))) < (L120.length : Int) := of_decide_eq_true h125
      rw [ew122] at h125
      refine Cm gg st' [(0,vS p l.length),Ml 2 0,(3,vB false),(4,vP s20.next 0),Ml 5 1,(8,vB b105),(9,vS q120 L120.length),(10,vI ((2 * j : Nat) : Int)),(125,vB true)] [(2,0,[vI 0,vI 0,vI 0,vI 0,vI 0,Sn,vI 0,Sn,Sn,Sn,Sn,Sn]),(5,1,[vI n1,vI n2,vI n3,vI n4,vI n5,vS q55 L55.length,vI n7,vS q63 L63.length,vS q66 L66.length,vS u105.p u105.x.items.length,vS u105.q u105.x.floors.length,vS w.p w.l.length])] fun _ _ => ?_
      refine cxs ?_
      refine ⟨_,rfl,?_⟩
      refine ⟨_,Od rfl,?_⟩
      refine ⟨ld_own rfl rfl rfl,?_⟩
      refine op_at (2 * j) hQw (by omega) rfl rfl rfl rfl rfl rfl rfl ?_
      intro x132 b132 d132 k132 hy132 hb132 hm132 hc132 ho132
      refine ⟨_,op_ldc (i := 0) rfl rfl rfl rfl hm132 hc132 rfl rfl,?_⟩
      have ew136 : IntKind.wrap .i64 (((2 * j : Nat) : Int) + (1)) = ((2 * j + 1 : Nat) : Int) := (wrap_i64 (by omega) (by omega)).trans (by omega)
      refine ⟨_,rfl,?_⟩
      refine op_at (2 * j + 1) hQw (by omega) rfl rfl rfl rfl (by rw [ew136]) rfl rfl ?_
      intro x137 b137 d137 k137 hy137 hb137 hm137 hc137 ho137
      refine ⟨_,op_ldc (i := 0) rfl rfl rfl rfl hm137 hc137 rfl rfl,?_⟩
      refine ⟨_,rfl,?_⟩
      refine op_one (z := 2) (a := ((⟨x132,x137⟩ : Flr) : Flr)) (f := cFlr) rfl rfl rfl rfl rfl (by decide) rfl (Lb rfl) rfl rfl rfl ?_
      refine ⟨Pres.push.2,?_⟩
      have hOf : OwnR st' 2 cFlr w.p w.l := own_one (by decide) len_cFlr hG.1.right
      refine op_snoc (z := 2) (st := st') (f := cFlr) (b := 16) (l := w.l) (x := (⟨x132,x137⟩ : Flr)) rfl rfl rfl rfl rfl rfl rfl (by decide) len_cFlr rfl rfl rfl (by omega) (by unfold maxLen; omega) hOf ?_
      intro q141 s141 hO141 hP141 hN141
      refine ⟨_,rfl,?_⟩
      refine ⟨_,Os rfl,?_⟩
      refine Cm gg s141 [(0,vS p l.length),Ml 2 0,(3,vB false),(4,vP s20.next 0),Ml 5 1,(8,vB b105),(9,vS q120 L120.length),(10,vI ((2 * j : Nat) : Int)),(125,vB true)] [(2,0,[vI 0,vI 0,vI 0,vI 0,vI 0,Sn,vI 0,Sn,Sn,Sn,Sn,Sn]),(5,1,[vI n1,vI n2,vI n3,vI n4,vI n5,vS q55 L55.length,vI n7,vS q63 L63.length,vS q66 L66.length,vS u105.p u105.x.items.length,vS u105.q u105.x.floors.length,vS q141 (w.l ++ [(⟨x132,x137⟩ : Flr)]).length])] fun _ _ => ?_
      have e127 : IntKind.wrap .i64 (((2 * j : Nat) : Int) + 2) = ((2 * (j + 1) : Nat) : Int) := (wrap_i64 (by omega) (by omega)).trans (by omega)
      refine ⟨_,rfl,?_⟩
      have hG141 := hG.row (A := ((pcIs ⟨q55,L55⟩ ++ (pcIs ⟨q63,L63⟩ ++ pcIs ⟨q66,L66⟩)) ++ pcS u105)) (B := []) (x := pcR 2 cFlr w.p w.l) (y := pcR 2 cFlr q141 (w.l ++ [(⟨x132,x137⟩ : Flr)])) hP141 (own_pc hO141) hN141
      have hNw : New s1.next w.p := hG.2.1 (pcR 2 cFlr w.p w.l) (List.mem_append_right _ (List.mem_cons_self ..))
      refine ⟨(j + 1,⟨q141,w.l ++ [⟨x132,x137⟩]⟩),200 - (j + 1),by omega,⟨rfl,rfl,rfl,rfl,rfl,rfl,rfl,congrArg (Value.int .i64) e127,trivial⟩,⟨rfl,rfl,trivial⟩,rfl,by simp only; omega,by simp only [List.length_append,List.length_singleton,hwl],fun g0 g1 g2 => ?_,hG141.1,⟨hP141.ownR hDq hQo,(Dis.of hQo.old hN141).symm⟩,hOw.pr hP141 (Dis.of (Old.some hc1) hNw).symm⟩
      have e3 := (hS2 g0 g1 g2).1
      have hlen : L120.length = 2 * g0.marks.length := by rw [e3,flL_len]
      have hx : g0.marks[j]? = some g0.marks[j] := List.getElem?_eq_getElem (by omega)
      have := flL_get hx
      rw [← e3,hy132,hy137] at this
      obtain ⟨c1,c2⟩ := this
      injection c1 with c1
      injection c2 with c2
      show w.l ++ [_] = _
      rw [List.take_add_one,hx,← hT g0 g1 g2,c1,c2]; rfl
    ·replace h86 : n10 > (IntKind.wrap .i64 ((lw.length : Int) - a10)) := of_decide_eq_true h86
     rw [ew85] at h86
     refine ⟨_,rfl,?_⟩
     refine Cm 2 s69 [(0,vS p l.length),Ml 2 0,(3,vB false),(4,vP s20.next 0),Ml 5 1,(6,vI n10),(87,vB true)] [(2,0,[vI 0,vI 0,vI 0,vI 0,vI 0,Sn,vI 0,Sn,Sn,Sn,Sn,Sn]),(5,1,[vI n1,vI n2,vI n3,vI n4,vI n5,vS q55 L55.length,vI n7,vS q63 L63.length,vS q66 L66.length,Sn,Sn,Sn])] fun _ _ => ?_
     refine ⟨_,rfl,?_⟩
     refine ⟨_,op_stw (vs := [vI 0,vI 0,vI 0,vI 0,vI 0,.slice none 0 0,vI 0,.slice none 0 0,.slice none 0 0,.slice none 0 0,.slice none 0 0,.slice none 0 0]) rfl rfl rfl rfl rfl rfl rfl rfl,?_⟩
     refine cxs ?_
     exact ⟨.inl rfl,_,rfl,nilMV,false,rfl,parsm_no (fun g0 g1 g2 => by
      obtain ⟨_,_,e,_,k,e1,e2,e3⟩ := hS g0 g1 g2
      have := congrArg List.length e3
      rw [List.length_drop,List.length_append] at this
      omega),pcM_nil,newM_nil,hPall⟩
   ·refine ⟨_,rfl,?_⟩
    refine Cm 2 s69 [(0,vS p l.length),Ml 2 0,(3,vB false),(4,vP s20.next 0),Ml 5 1,(6,vI n10),(87,vB true)] [(2,0,[vI 0,vI 0,vI 0,vI 0,vI 0,Sn,vI 0,Sn,Sn,Sn,Sn,Sn]),(5,1,[vI n1,vI n2,vI n3,vI n4,vI n5,vS q55 L55.length,vI n7,vS q63 L63.length,vS q66 L66.length,Sn,Sn,Sn])] fun _ _ => ?_
    refine ⟨_,rfl,?_⟩
    refine ⟨_,op_stw (vs := [vI 0,vI 0,vI 0,vI 0,vI 0,.slice none 0 0,vI 0,.slice none 0 0,.slice none 0 0,.slice none 0 0,.slice none 0 0,.slice none 0 0]) rfl rfl rfl rfl rfl rfl rfl rfl,?_⟩
    exact cxs (Rt ⟨nilMV,false,rfl,parsm_no (fun g0 g1 g2 => by cases (hS g0 g1 g2).2.2.2.1),pcM_nil,newM_nil,hPall⟩)
  ·replace h28 : ¬ ((toB (crcB lw)) = (toB (l.drop (l.length - 4)))) := str_ne h28
   refine ⟨_,rfl,?_⟩
   refine Cm 1 s20 [(0,vS p l.length),Ml 2 0,(3,vB false),(29,vB true)] [(2,0,[vI 0,vI 0,vI 0,vI 0,vI 0,Sn,vI 0,Sn,Sn,Sn,Sn,Sn])] fun _ _ => ?_
   refine ⟨_,rfl,?_⟩
   refine ⟨_,op_stw (vs := [vI 0,vI 0,vI 0,vI 0,vI 0,.slice none 0 0,vI 0,.slice none 0 0,.slice none 0 0,.slice none 0 0,.slice none 0 0,.slice none 0 0]) rfl rfl rfl rfl rfl rfl rfl rfl,?_⟩
   exact cxs (Rt ⟨nilMV,false,rfl,parsm_no (fun g0 g1 g2 => h28 (by rw [hlw,(mg_cut g2).1,(mg_cut g2).2.1])),pcM_nil,newM_nil,hP20⟩)
 ·replace h13 : (l.length : Int) < (6) := of_decide_eq_true h13
  refine ⟨_,rfl,?_⟩
  refine Cm 1 st [(0,vS p l.length),Ml 2 0,(3,vB false),(29,vB true)] [(2,0,[vI 0,vI 0,vI 0,vI 0,vI 0,Sn,vI 0,Sn,Sn,Sn,Sn,Sn])] fun _ _ => ?_
  refine ⟨_,rfl,?_⟩
  refine ⟨_,op_stw (vs := [vI 0,vI 0,vI 0,vI 0,vI 0,.slice none 0 0,vI 0,.slice none 0 0,.slice none 0 0,.slice none 0 0,.slice none 0 0,.slice none 0 0]) rfl rfl rfl rfl rfl rfl rfl rfl,?_⟩
  exact cxs (Rt ⟨nilMV,false,rfl,parsm_no (fun g0 g1 g2 => by have := (mg_cut g2).2.2.1; omega),pcM_nil,newM_nil,Pres.refl _⟩)
end Go.Proofs.Yteabadoaeadcgaa.AM
