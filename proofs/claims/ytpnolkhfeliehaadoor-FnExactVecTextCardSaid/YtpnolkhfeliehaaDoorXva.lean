/- Part 1 of the texts on which the law's proof rests. -/
import Derived.Test.YtpnolkhfeliehaaDoorXvA14
import Derived.Test.YtpnolkhfeliehaaDoorProg
import Derived.KernelRfl
import Derived.Lib.Bytealg
import Derived.Laws.Externs
import Derived.Test.YtpnolkhfeliehaaDoorShelf
import Derived.Below
import Derived.Laws.Strings
namespace Go.Proofs.YtpnolkhfeliehaaDoor.AM
open Go Go.Proofs
set_option linter.unusedVariables false
def LTl : List (Nat × FInfo) := [(2,⟨[],[],[],[]⟩),
 (3,⟨[],[],[0,2,3,4,5,8,18,23],[]⟩),
 (4,⟨[],[],[0,2,3,4,8,12],[]⟩),
 (5,⟨[],[],[0,2,3,4,11],[]⟩),
 (6,⟨[],[],[0,2],[]⟩),
 (7,⟨[],[],[0,1,4,5,10,14,25],[]⟩),
 (8,⟨[],[],[0,2,3,4,5,7,11,15,27],[]⟩),
 (9,⟨[],[],[0,2,3,5,7,8,9,10],[]⟩),
 (10,⟨[],[],[0,2],[]⟩),
 (11,⟨[],[],[],[(0,[]),(1,[]),(2,[]),(3,[]),(4,[]),(5,[]),(6,[]),(7,[]),(8,[]),(9,[]),(10,[]),(11,[])]⟩),
 (12,⟨[],[],[],[(0,[]),(1,[]),(2,[]),(3,[]),(4,[]),(5,[]),(6,[]),(7,[]),(8,[]),(9,[]),(10,[]),(11,[])]⟩),
 (13,⟨[],[],[0,1,7,21],[]⟩),
 (14,⟨[],[],[0,1,4,5],[]⟩),
 (15,⟨[],[],[0,2],[]⟩),
 (16,⟨[],[],[0,2],[]⟩),
 (17,⟨[],[],[0,6,19],[]⟩),
 (18,⟨[],[],[0,1,4],[]⟩),
 (19,⟨[],[],[0,1,4,5,6,7,9,11,17,23,34],[]⟩),
 (22,⟨[],[],[0,2,4],[]⟩),
 (23,⟨[],[],[0,2,3],[]⟩),
 (24,⟨[],[],[0,1,4,5,6,7,8,9,10,11,12,13,14,15,16,20,99,139,161],[]⟩),
 (25,⟨[],[],[0,1,2,3,4,10,11,12,13,14,15,16,17,18,28,30,34,46,68,89,94],[]⟩),
 (26,⟨[],[],[0,2],[]⟩),
 (27,⟨[],[],[0,2,4,8,14],[]⟩),
 (28,⟨[],[],[0,2,3],[]⟩),
 (29,⟨[],[],[0,2],[]⟩),
 (30,⟨[],[],[0,2],[]⟩),
 (31,⟨[],[],[0,2,4],[]⟩),
 (32,⟨[],[],[0,2,4],[]⟩),
 (55,⟨[],[],[],[]⟩)]
def LT (f : FuncId) : FInfo := (LTl.lookup f).getD ⟨[],[],[],[]⟩
def tabG : Nat := 1
def tabV : List Value := Lib.pow10Tab.map (Value.int .u64)
def Tab (st : St) : Prop := tabG < st.next ∧ st.mem tabG = some ⟨false,1,tabV⟩
def strOf : Value → ByteArray
 | .string s => s
 | _ => ⟨#[]⟩
def joinL (st : St) (p : Option Addr) (n : Nat) : List ByteArray := match p with
 | some a => match st.mem a.block with
  | some blk => ((blk.cells.drop a.off).take n).map strOf
  | none => []
 | none => []
def joinB (l : List ByteArray) (sep : ByteArray) : ByteArray := ⟨(Lib.join (l.map (·.data.toList)) sep.data.toList).toArray⟩
def JoinOK (st : St) (p : Option Addr) (n : Nat) : Prop := n = 0 ∨ ∃ b o blk l,p = some ⟨b,o,none⟩ ∧ st.mem b = some blk ∧ (blk.cells.drop o).take n = List.map Value.string l ∧ l.length = n ∧ n ≤ 140737488355328
open Classical in
noncomputable def ext0 : String → List Value → St → Option (Value × St) := fun name args st =>
 if name = "strconv.Itoa" then (match args with
  | [.int .i64 n] => if -9223372036854775808 ≤ n ∧ n ≤ 9223372036854775807 ∧ Tab st then some (.string ⟨(Lib.itoa n).toArray⟩,st) else none
  | _ => none) else
 if name = "strings.Join" then (match args with
  | [.slice p n _,.string sep] => if JoinOK st p n ∧ (Lib.join ((joinL st p n).map (·.data.toList)) sep.data.toList).length ≤ 140737488355328 then some (.string (joinB (joinL st p n) sep),st) else none
  | _ => none) else none
theorem goes_below {ι : Inj} {lo : Lo} {st : St} {w w' : World} (h : Rel ι lo st w) (hb : RowKit.Below w.heap.size w w') : Goes ι lo st w ι lo st w' :=
 ⟨Ext.refl _,⟨h.n,h.g,h.lt,fun a b ha => (h.hk a b ha).mono (Ext.refl _) (by rw [h.n]; exact h.lt a b ha) (hb.block _ (h.hb a b ha)),h.lg,fun t g cs ht => (h.lk t g cs ht).mono (Ext.refl _) (by rw [h.g]; exact h.lg t g cs ht) (hb.block _ (h.lt_l ht)),h.hh,h.hl,h.ll,
  fun a b ha => Nat.lt_of_lt_of_le (h.hb a b ha) hb.size⟩,⟨hb.os,hb.tape,hb.output,hb.size,fun b hlt _ => hb.block b hlt⟩,fun _ hb' => .inl hb',fun _ _ h _ => h⟩
theorem below_grow (w : World) (k : Nat) (os : Array Obj) : RowKit.Below w.heap.size w (Sort.grow (w.drewN k) os) :=
 ⟨rfl,rfl,rfl,by show w.heap.size ≤ (w.heap ++ os).size; rw [Array.size_append]; omega,fun i hi => by show (w.heap ++ os)[i]? = w.heap[i]?; rw [Array.getElem?_append_left hi]⟩
set_option maxRecDepth 100000 in
theorem tab_is {ι : Inj} {st : St} {w : World} (hrel : Rel ι lo0 st w) (hGL : GL Tryd.prog ι) (hT : Tab st) : Lib.TabIs Tryd.prog w "internal/strconv.uint64pow10" .u64 Lib.pow10Tab := by
 obtain ⟨_,hm⟩ := hT
 obtain ⟨h1,_,h3⟩ := hrel.hk _ _ hm
 obtain ⟨h0,c,e,fr,hc,hsz⟩ := h3 rfl rfl
 have hi := (hGL tabG (of_decide_eq_true (by kernel_rfl))).2
 rw [hi] at hc
 have hcc : c = (Lib.pow10Tab.map fun z => Value.int .u64 z).toArray := by
  refine Array.ext_getElem? fun i => ?_
  by_cases hlt : i < tabV.length
  ·obtain ⟨y,hy,hv⟩ := h1 i _ (List.getElem?_eq_getElem hlt)
   rw [hi,Nat.zero_add,cell_of hc] at hy
   obtain ⟨z,hz⟩ : ∃ z,tabV[i] = .int .u64 z := ⟨_,List.getElem_map ..⟩
   rw [hz] at hv
   have hv : y = .int .u64 z := hv
   rw [hy,hv,← hz,List.getElem?_toArray]
   exact (List.getElem?_eq_getElem hlt).symm
  ·rw [Array.getElem?_eq_none (by rw [hsz]; exact Nat.le_of_not_lt hlt),List.getElem?_toArray,List.getElem?_eq_none]
   exact Nat.le_of_not_lt hlt
 unfold Lib.TabIs World.var?
 rw [show Tryd.prog.globalNamed "internal/strconv.uint64pow10" = some tabG from by kernel_rfl]
 simp only [Option.bind_some,hc,hcc]
theorem fn_at {P : Program} {f k : FuncId} {fn : Func} {s : String} (hf : P.funcs[f]? = some fn) (hname : fn.name = s) (h : ((List.range P.funcs.size).filter fun i => (P.funcs[i]?.map fun g => g.name) == some s) = [k]) : f = k := by
 have hm : f ∈ (List.range P.funcs.size).filter fun i => (P.funcs[i]?.map fun g => g.name) == some s :=
  List.mem_filter.2 ⟨List.mem_range.2 (Array.getElem?_eq_some_iff.1 hf).1,by rw [hf]; simp [hname]⟩
 rw [h] at hm
 exact List.mem_singleton.1 hm
theorem args1 {x : Value} {ι : Inj} {cargs : Array Value} (hsz : cargs.size = [x].length) (ha : ∀ (i : Nat) (y : Value),[x][i]? = some y → ∃ z : Value,cargs[i]? = some z ∧ VR ι y z) : ∃ z,cargs = #[z] ∧ VR ι x z := by
 obtain ⟨y0,hy0,hv0⟩ := ha 0 _ rfl
 obtain ⟨l⟩ := cargs
 match l,hsz,hy0 with
 | [z],_,h0 => simp at h0; exact ⟨z,rfl,h0 ▸ hv0⟩
theorem args2 {x1 x2 : Value} {ι : Inj} {cargs : Array Value} (hsz : cargs.size = [x1,x2].length) (ha : ∀ (i : Nat) (y : Value),[x1,x2][i]? = some y → ∃ z : Value,cargs[i]? = some z ∧ VR ι y z) : ∃ z1 z2,cargs = #[z1,z2] ∧ VR ι x1 z1 ∧ VR ι x2 z2 := by
 obtain ⟨y0,hy0,hv0⟩ := ha 0 _ rfl
 obtain ⟨y1,hy1,hv1⟩ := ha 1 _ rfl
 obtain ⟨l⟩ := cargs
 match l,hsz,hy0,hy1 with
 | [z1,z2],_,h0,h1 => simp at h0 h1; exact ⟨z1,z2,rfl,h0 ▸ hv0,h1 ▸ hv1⟩
theorem joinL_of {st : St} {b o : Nat} {blk : Blk} {l : List ByteArray} {n : Nat} (hm : st.mem b = some blk) (hl : (blk.cells.drop o).take n = List.map Value.string l) : joinL st (some ⟨b,o,none⟩) n = l := by
 simp only [joinL,hm,hl,List.map_map]
 exact List.map_id' l
theorem joinL_0 {st : St} {p : Option Addr} : joinL st p 0 = [] := by
 unfold joinL
 split
 ·split
  ·rw [List.take_zero]; rfl
  ·rfl
 ·rfl
set_option maxRecDepth 100000 in
theorem ext0_ok : ExtOK Tryd.prog ext0 := by
 intro f fn args st v st' hf he ι w cargs hg hGL hrel hsz ha
 unfold ext0 at he
 split at he
 ·rename_i hname
  obtain rfl := fn_at (k := 12) hf hname (by kernel_rfl)
  split at he
  ·rename_i n
   split at he
   ·rename_i hc
    injection he with he
    injection he with h1 h2
    subst h1 h2
    obtain ⟨z,rfl,hv⟩ := args1 hsz ha
    obtain rfl : z = .int .i64 n := hv
    refine .inl ⟨enters_of Tryd.func12 (by kernel_rfl) rfl _ _,(Tryd.strconv_Itoa n hc.1 hc.2.1 w (tab_is hrel hGL hc.2.2)).mono ?_⟩
    ·rintro e w' ⟨he,k,os,hw⟩
     subst hw
     exact ⟨_,ι,he,hg,goes_below hrel (below_grow w k os),rfl⟩
   ·cases he
  ·cases he
 split at he
 ·rename_i hname
  obtain rfl := fn_at (k := 11) hf hname (by kernel_rfl)
  split at he
  ·rename_i p n c sep
   split at he
   ·rename_i hc
    injection he with he
    injection he with h1 h2
    subst h1 h2
    obtain ⟨z1,z2,rfl,hv1,hv2⟩ := args2 hsz ha
    obtain rfl : z2 = .string sep := hv2
    obtain ⟨q,c',rfl,hnc,hcm,hor⟩ := (show ∃ q c',z1 = .slice q n c' ∧ n ≤ c' ∧ c' ≤ maxLen ∧ (c' = 0 ∨ ∃ a,p = some a ∧ okA ι a ∧ a.spot = none ∧ q = some (tr ι a) ∧ (a.off = 0 → c' ≤ ι.cap a.block)) from hv1)
    obtain ⟨hok,hlen⟩ := hc
    rcases Nat.eq_zero_or_pos n with rfl | hpos
    ·refine .inl ⟨enters_of Tryd.func11 (by kernel_rfl) rfl _ _,(Tryd.strings_Join_none q c' sep w).mono ?_⟩
     ·rintro e w' ⟨he,hw⟩
      subst hw
      exact ⟨_,ι,he,hg,Goes.refl hrel,by rw [joinL_0]; rfl⟩
    ·rcases hok with h0 | ⟨b,o,blk,l,rfl,hm,hl,hln,hbig⟩
     ·omega
     rcases hor with h0 | ⟨a,ha1,ha2,ha3,rfl,_⟩
     ·omega
     injection ha1 with ha1
     subst ha1
     have hjl := joinL_of hm hl
     rw [hjl] at hlen ⊢
     subst hln
     have hcell : ∀ (j : Nat) (x : ByteArray),l[j]? = some x → w.cell? ⟨(ι.h b).1,((ι.h b).2 + o) + j,none⟩ = some (.string x) := fun j x hx => by
      have hj := (List.getElem?_eq_some_iff.1 hx).1
      have h2 : blk.cells[o + j]? = some (.string x) := by
       have h3 : ((blk.cells.drop o).take l.length)[j]? = some (.string x) := by rw [hl,List.getElem?_map,hx]; rfl
       rw [List.getElem?_take,if_pos hj,List.getElem?_drop] at h3
       exact h3
      obtain ⟨y,hy,hv⟩ := (hrel.hk b blk hm).1 _ _ h2
      obtain rfl : y = .string x := hv
      rw [Nat.add_assoc]
      exact hy
     refine .inl ⟨enters_of Tryd.func11 (by kernel_rfl) rfl _ _,(Tryd.strings_Join (ι.h b).1 ((ι.h b).2 + o) c' l sep w hcell (hrel.hb b blk hm) hbig hnc hlen).mono ?_⟩
     ·rintro e w' ⟨he,hw⟩
      exact ⟨_,ι,he,hg,goes_below hrel hw,rfl⟩
   ·cases he
  ·cases he
 ·cases he
abbrev C (f : FuncId) (args : List Value) (st : St) (R : Value → St → Prop) : Prop := AC Tryd.prog LT ext0 f args st R
def ints (k : IntKind) (l : List Int) : List Value := l.map (Value.int k)
def Ints (st : St) (k : IntKind) (p : Option Addr) (l : List Int) : Prop := l.length = 0 ∨ ∃ b off blk,p = some ⟨b,off,none⟩ ∧ st.mem b = some blk ∧ b < st.next ∧ ∀ j < l.length,blk.cells[off + j * 1]? = some (.int k (l.getD j 0))
theorem Ints.at {st : St} {k : IntKind} {p : Option Addr} {l : List Int} (h : Ints st k p l) {j : Nat} (hj : j < l.length) : ∃ b off blk,p = some ⟨b,off,none⟩ ∧ st.mem b = some blk ∧ blk.cells[off + j * 1]? = some (.int k (l.getD j 0)) := by
 rcases h with h | ⟨b,off,blk,h1,h2,_,h3⟩
 ·omega
 ·exact ⟨b,off,blk,h1,h2,h3 j hj⟩
def Own (st : St) (k : IntKind) (p : Option Addr) (l : List Int) : Prop := (p = none ∧ l = []) ∨ ∃ a,p = some ⟨a,0,none⟩ ∧ a < st.next ∧ st.mem a = some ⟨true,1,ints k l⟩
theorem Own.ints {st : St} {k : IntKind} {p : Option Addr} {l : List Int} (h : Own st k p l) : Ints st k p l := by
 rcases h with ⟨rfl,rfl⟩ | ⟨a,rfl,ha,hm⟩
 ·exact .inl rfl
 ·refine .inr ⟨a,0,_,rfl,hm,ha,fun j hj => ?_⟩
  simp [AM.ints,List.getD_eq_getElem?_getD,List.getElem?_eq_getElem hj]
theorem Pres.ints {st st' : St} {k : IntKind} {p : Option Addr} {l : List Int} (h : Pres st st') (hi : Ints st k p l) : Ints st' k p l := by
 rcases hi with hi | ⟨b,off,blk,rfl,hm,hb,hc⟩
 ·exact .inl hi
 ·exact .inr ⟨b,off,blk,rfl,(h.2 b hb).trans hm,Nat.lt_of_lt_of_le hb h.1,hc⟩
theorem Pres.own {st st' : St} {k : IntKind} {p : Option Addr} {l : List Int} (h : Pres st st') (hi : Own st k p l) : Own st' k p l := by
 rcases hi with ⟨rfl,rfl⟩ | ⟨a,rfl,ha,hm⟩
 ·exact .inl ⟨rfl,rfl⟩
 ·exact .inr ⟨a,rfl,Nat.lt_of_lt_of_le ha h.1,(h.2 a ha).trans hm⟩
theorem wrap_i64 {i : Int} (h0 : -9223372036854775808 ≤ i) (h : i < 9223372036854775808) : IntKind.wrap .i64 i = i := by
 unfold IntKind.wrap; simp [IntKind.bits,IntKind.signed]; omega
section
variable {P : Program} {ls : List Tmp} {call : ACallT} {o : Oper} {e : Operand → Value} {lo : Lo} {st : St} {K : Value × Lo × St → Prop}
theorem Ints.take {k : IntKind} {b off : Nat} {l : List Int} {cs : List Value} (h : ∀ j < l.length,cs[off + j * 1]? = some (.int k (l.getD j 0))) : (cs.drop off).take (l.length * 1) = ints k l := by
 refine List.ext_getElem? fun j => ?_
 rw [List.getElem?_take]
 split
 ·rename_i hj
  rw [List.getElem?_drop]
  have := h j (by omega)
  rw [Nat.mul_one] at this
  rw [this]
  simp [ints,List.getD_eq_getElem?_getD,List.getElem?_eq_getElem (show j < l.length by omega)]
 ·rename_i hj
  rw [List.getElem?_eq_none]
  simp [ints]; omega
end
theorem Own.push {st : St} {k : IntKind} {l : List Int} : Own (st.push 1 (AM.ints k l)) k (some ⟨st.next,0,none⟩) l := .inr ⟨_,rfl,Nat.lt_succ_self _,by show (if st.next = st.next then _ else _ : Option Blk) = _; rw [if_pos rfl]⟩
theorem Own.r {st : St} {k : IntKind} {p : Option Addr} {l : List Int} : Own st k p l ↔ OwnR st 1 (fun x => [.int k x]) p l := by
 have : AM.ints k l = l.flatMap fun x => [Value.int k x] := by induction l with
  | nil => rfl
  | cons a l ih => rw [List.flatMap_cons,← ih]; rfl
 unfold Own OwnR
 rw [this]
abbrev fI : Int → List Value := fun x => [.int .i64 x]
theorem fI_len (x : Int) : (fI x).length = 1 := rfl
theorem OwnR.ints {st : St} {p : Option Addr} {l : List Int} (h : OwnR st 1 fI p l) : Ints st .i64 p l := (Own.r.2 h).ints
theorem Rows.ints {st : St} {k : IntKind} {p : Option Addr} {l : List Int} (h : Rows st 1 (fun x => [Value.int k x]) p l) : Ints st k p l := by
 rcases h with rfl | ⟨b,off,blk,rfl,hm,hb,hc⟩
 ·exact .inl rfl
 ·refine .inr ⟨b,off,blk,rfl,hm,hb,fun j hj => ?_⟩
  have h1 := hc j l[j] (List.getElem?_eq_getElem hj)
  have h2 := row_cell h1 (i := 0) rfl
  rw [Nat.add_zero] at h2
  rw [h2,List.getD_eq_getElem?_getD,List.getElem?_eq_getElem hj]
  rfl
end Go.Proofs.YtpnolkhfeliehaaDoor.AM
namespace Go.Proofs.YtpnolkhfeliehaaDoor.AM
open Go Go.Proofs
set_option linter.unusedVariables false
set_option linter.unusedSimpArgs false
set_option maxRecDepth 100000
set_option maxHeartbeats 4000000
structure Ent where
 inc : Int
 rank : Int
 beat : Int
 ver : Int
 data : ByteArray
structure Itm where
 id : Int
 e : Ent
structure Flr where
 id : Int
 inc : Int
structure Sta where
 items : List Itm
 floors : List Flr
abbrev cItm (x : Itm) : List Value := [vI x.id,vI x.e.inc,vI x.e.rank,vI x.e.beat,vI x.e.ver,.string x.e.data]
abbrev cFlr (x : Flr) : List Value := [vI x.id,vI x.inc]
structure SV where
 p : Option Addr
 q : Option Addr
 x : Sta
abbrev cSV (s : SV) : List Value := [vS s.p s.x.items.length,vS s.q s.x.floors.length]
def szOk (n : Nat) : Prop := n ≤ 1048576
theorem str_ne {a b : ByteArray} (h : (!(a.toList == b.toList)) = true) : ¬ a = b := fun e => by rw [e] at h; simp at h
theorem AC.tru {f : FuncId} {args : List Value} {st : St} {P : Prop} (h : C f args st (fun v s => ∃ x,v = .bool x ∧ (x = true ↔ P) ∧ s = st)) (hp : P) : C f args st (fun v s => v = vB true ∧ s = st) :=
 AC.mono h fun v s ⟨x,h1,h2,h3⟩ => ⟨by rw [h1,h2.2 hp],h3⟩
theorem fill_set {α : Type} {l : List α} {z x : α} {i : Nat} (hx : l[i]? = some x) : (l.take i ++ List.replicate (l.length - i) z).set i x = l.take (i + 1) ++ List.replicate (l.length - (i + 1)) z := by
 obtain ⟨hi,hx'⟩ := List.getElem?_eq_some_iff.1 hx
 obtain ⟨n,hn⟩ : ∃ n,l.length - i = n + 1 := ⟨l.length - i - 1,by omega⟩
 have hl : (l.take i).length = i := by rw [List.length_take]; omega
 rw [hn,show l.length - (i + 1) = n by omega,List.replicate_succ,List.set_append_right _ _ (by omega),hl,Nat.sub_self,List.set_cons_zero,List.take_add_one,hx]
 simp
theorem iff_lists {α : Type} {a b : List α} (hl : a.length = b.length) (h : ∀ (i : Nat) x y,i < a.length → a[i]? = some x → b[i]? = some y → x = y) : a = b := by
 refine List.ext_getElem hl fun n h1 h2 => h n _ _ h1 (List.getElem?_eq_getElem h1) (List.getElem?_eq_getElem h2)
section
variable {P : Program} {ls : List Tmp} {call : ACallT} {o : Oper} {e : Operand → Value} {lo : Lo} {st : St} {K : Value × Lo × St → Prop} {α : Type} {f : α → List Value} {z : Nat}
theorem op_el {t el : TypeId} {x i : Operand} {p : Option Addr} {l : List α} {n c : Nat} {k : IntKind} {j : Int} {y : α} (i' : Nat) (hR : Rows st z f p l) (hy : l[i']? = some y) (ho : o.op = .indexAddr t x i) (hx : e x = .slice p n c) (hi : e i = .int k j) (hn : n = l.length) (hj : j = (i' : Int)) (ht : telem P t = some el) (hz : tsize P el = some z)
  (hK : ∀ b d blk,b < st.next → st.mem b = some blk → (blk.cells.drop d).take z = f y → (∃ o,p = some ⟨b,o,none⟩) → K (.pointer (some ⟨b,d,none⟩),lo,st)) : ∃ r,aoper P ls call o e lo st = some r ∧ K r := by
 obtain ⟨hlt,_⟩ := List.getElem?_eq_some_iff.1 hy
 rcases hR with rfl | ⟨b,off,blk,h1,h2,hb,h3⟩
 ·cases hlt
 ·subst hn hj
  refine ⟨_,op_idx (q := ⟨b,off,none⟩) ho (hx.trans (by rw [h1])) hi ht hz (Int.natCast_nonneg _) (Int.ofNat_lt.2 hlt),?_⟩
  exact hK b (off + i' * z) blk hb h2 (h3 i' y hy) ⟨off,h1⟩
theorem op_at {t el : TypeId} {x i : Operand} {p : Option Addr} {l : List α} {n c : Nat} {k : IntKind} {j : Int} (i' : Nat) (hR : Rows st z f p l) (hlt : i' < l.length) (ho : o.op = .indexAddr t x i) (hx : e x = .slice p n c) (hi : e i = .int k j) (hn : n = l.length) (hj : j = (i' : Int)) (ht : telem P t = some el) (hz : tsize P el = some z)
  (hK : ∀ y b d blk,l[i']? = some y → b < st.next → st.mem b = some blk → (blk.cells.drop d).take z = f y → (∃ o,p = some ⟨b,o,none⟩) → K (.pointer (some ⟨b,d,none⟩),lo,st)) : ∃ r,aoper P ls call o e lo st = some r ∧ K r :=
 op_el i' hR (List.getElem?_eq_getElem hlt) ho hx hi hn hj ht hz fun b d blk => hK _ b d blk (List.getElem?_eq_getElem hlt)
end
section
variable {P : Program} {ls : List Tmp} {call : ACallT} {o : Oper} {e : Operand → Value} {lo : Lo} {st : St} {K : Value × Lo × St → Prop} {α : Type} {f : α → List Value} {z : Nat}
theorem op_snoc {c : Call} {t el : TypeId} {ov ox : Operand} {p : Option Addr} {l : List α} {x : α} {n b : Nat} {z0 : List Value}
  (hat : c.argTypes.toList = [t,t]) (har : c.args.toList = [ov,ox]) (he : telem P t = some el) (hzz : tsize P el = some z) (hb : tbytes P el = some b) (hz0 : tzero P el = some z0) (hz1 : z0.length = z) (h0 : 0 < z) (hz : ∀ x,(f x).length = z)
  (hov : e ov = .slice p n n) (hox : e ox = .slice (some ⟨st.next,0,none⟩) 1 1) (hn : n = l.length) (hl : (l.length + 1) * b ≤ 140737488355328) (hml : l.length + 1 ≤ maxLen)
  (hown : OwnR st z f p l)
  (hK : ∀ q st',OwnR st' z f q (l ++ [x]) → Pr p st st' → New st.next q → K (.slice q (l ++ [x]).length (l ++ [x]).length,lo,st')) : ∃ r,aappend P c e lo (st.push z ([x].flatMap f)) = some r ∧ K r := by
 subst hn
 refine op_add hat har he hzz hb hz0 hz1 h0 hz hov hox rfl hl hml hown fun q st' h1 h2 h3 => ?_
 have := hK q st' h1 h2 h3
 rw [List.length_append] at this
 exact this
end
theorem Rows.lt {α : Type} {st : St} {z : Nat} {f : α → List Value} {p : Option Addr} {l : List α} {i b : Nat} {y : α} (h : Rows st z f p l) (hy : l[i]? = some y) (hp : ∃ o,p = some ⟨b,o,none⟩) : b < st.next := by
 obtain ⟨o,hp⟩ := hp
 rcases h with rfl | ⟨b',off,blk,h1,_,hb,_⟩
 ·cases hy
 ·rw [hp] at h1
  injection h1 with h1
  injection h1 with h1 _ _
  rw [h1]; exact hb
theorem ac_laws_toIntS (p : Option Addr) (l : List Int) (st : St) (hR : Rows st 1 fI p l) (hs : szOk l.length) : C 5 [vS p l.length] st (fun v s => ∃ q,v = vS q l.length ∧ OwnR s 1 fI q l ∧ Pres st s ∧ New st.next q) := by
 have hs : l.length ≤ 1048576 := hs
 refine AC.enterX (i := ⟨[],[],[0,2,3,4,11],[]⟩) [] Tryd.func5 rfl rfl (by kernel_rfl) (by kernel_rfl) Tryd.ntmps5 (Lb rfl) rfl ?_
 refine Cu lo0 st [(0,vS p l.length),(2,Sn)] fun _ => ?_
 refine ⟨_,rfl,?_⟩
 refine op_mkK (z := 1) (f := fI) (a := (0 : Int)) (b := 8) (i := l.length) rfl rfl rfl rfl rfl rfl rfl rfl rfl (Lb rfl) rfl rfl (by omega) (by omega) ?_
 intro q s1 hO hP hN
 refine cxs ?_
 refine Cu lo0 s1 [(0,vS p l.length),(2,Sn),(3,vS q l.length),(4,vI 0)] fun _ => ?_
 refine AW.loop0 (fun i : Nat => [(0,vS p l.length),(3,vS q l.length),(4,vI (i : Int))]) (fun m (i : Nat) st' => m = l.length - i ∧ i ≤ l.length ∧ OwnR st' 1 fI q (l.take i ++ List.replicate (l.length - i) (0 : Int)) ∧ Pr q s1 st') 0 _ ⟨rfl,rfl,rfl,trivial⟩ rfl ⟨rfl,Nat.zero_le _,hO,Pr.refl _ _⟩ ?_
 rintro m i ρ0 st' ⟨rfl,hi,hO',hP'⟩
 have hP2 := hP'.pres hP hN
 iterate 2 refine ⟨_,rfl,?_⟩
 rintro (_|_) h1
 ·replace h1 : ¬ ((i : Int) < (l.length : Int)) := of_decide_eq_false h1
  refine Cu lo0 st' [(0,vS p l.length),(3,vS q l.length),(4,vI (i : Int)),(11,vB false)] fun _ => ?_
  refine cxs ?_
  refine cxs ?_
  have hil : i = l.length := by omega
  subst hil
  rw [List.take_length,Nat.sub_self,List.replicate_zero,List.append_nil] at hO'
  exact Rt ⟨q,rfl,hO',hP2,hN⟩
 ·replace h1 : (i : Int) < (l.length : Int) := of_decide_eq_true h1
  refine Cu lo0 st' [(0,vS p l.length),(3,vS q l.length),(4,vI (i : Int)),(11,vB true)] fun _ => ?_
  have ⟨b1,o1,k1,x,hpe,hx,hm1,hc1⟩ := (hP2.rows hR).at (Int.ofNat_lt.1 h1)
  have hlen : i < (l.take i ++ List.replicate (l.length - i) (0 : Int)).length := by have := Int.ofNat_lt.1 h1; simp; omega
  have ⟨a,ha⟩ := hO'.some (by omega)
  refine cxs ?_
  refine ⟨_,op_idx (j := (i : Int)) (n := l.length) (q := ⟨b1,o1,none⟩) rfl (congrArg (fun u => vS u l.length) hpe) rfl rfl rfl (Int.natCast_nonneg _) h1,?_⟩
  refine ⟨_,op_ldc (i := 0) rfl rfl rfl rfl hm1 hc1 rfl rfl,?_⟩
  refine ⟨_,op_idx (j := (i : Int)) (n := l.length) (q := ⟨a,0,none⟩) rfl (congrArg (fun u => vS u l.length) ha) rfl rfl rfl (Int.natCast_nonneg _) h1,?_⟩
  refine op_put (st := st') (f := fI) (j := i) (l := l.take i ++ List.replicate (l.length - i) (0 : Int)) (y := x) (p := q) (d := 0 + i * 1) rfl rfl (Nat.zero_add _) rfl rfl fI_len rfl rfl hlen hO' ha ?_
  intro s5 hO5 hP5 hn5
  rw [fill_set hx] at hO5
  refine Cu lo0 s5 [(0,vS p l.length),(3,vS q l.length),(4,vI (i : Int)),(11,vB true)] fun _ => ?_
  have e1 : IntKind.wrap .i64 ((i : Int) + 1) = ((i + 1 : Nat) : Int) := wrap_i64 (by omega) (by omega)
  refine ⟨_,rfl,?_⟩
  exact ⟨i + 1,l.length - (i + 1),by have := Int.ofNat_lt.1 h1; omega,⟨rfl,rfl,congrArg (Value.int .i64) e1,trivial⟩,rfl,rfl,Int.ofNat_lt.1 h1,hO5,hP'.trans hP5⟩
theorem len_cFlr (x : Flr) : (cFlr x).length = 2 := rfl
theorem len_cItm (x : Itm) : (cItm x).length = 6 := rfl
end Go.Proofs.YtpnolkhfeliehaaDoor.AM
namespace Go.Proofs.YtpnolkhfeliehaaDoor.AM
open Go Go.Proofs
set_option linter.unusedVariables false
set_option linter.unusedSimpArgs false
structure Pc where
 z : Nat
 p : Option Addr
 cs : List Value
def Pc.own (st : St) (c : Pc) : Prop := (c.p = none ∧ c.cs = []) ∨ ∃ a,c.p = some ⟨a,0,none⟩ ∧ a < st.next ∧ st.mem a = some ⟨true,c.z,c.cs⟩
abbrev pcR {α : Type} (z : Nat) (f : α → List Value) (p : Option Addr) (l : List α) : Pc := ⟨z,p,l.flatMap f⟩
theorem own_pc {α : Type} {st : St} {z : Nat} {f : α → List Value} {p : Option Addr} {l : List α} (h : OwnR st z f p l) : (pcR z f p l).own st := by
 rcases h with ⟨rfl,rfl⟩ | h
 ·exact .inl ⟨rfl,rfl⟩
 ·exact .inr h
theorem pc_own {α : Type} {st : St} {z : Nat} {f : α → List Value} {p : Option Addr} {l : List α} (h0 : 0 < z) (hz : ∀ x,(f x).length = z) (h : (pcR z f p l).own st) : OwnR st z f p l := by
 rcases h with ⟨h1,h2⟩ | h
 ·refine .inl ⟨h1,?_⟩
  have h3 := flat_len hz l
  have h2 : l.flatMap f = [] := h2
  rw [h2,List.length_nil] at h3
  have : l.length = 0 := by
   rcases Nat.eq_zero_or_pos l.length with h | h
   ·exact h
   ·have := Nat.mul_pos h h0; omega
  exact List.length_eq_zero_iff.1 this
 ·exact .inr h
def PrL (ps : List (Option Addr)) (st st' : St) : Prop := st.next ≤ st'.next ∧ ∀ a,a < st.next → (∀ p ∈ ps,∀ q,p = some q → a ≠ q.block) → st'.mem a = st.mem a
def OwnP (st : St) (l : List Pc) : Prop := (∀ c ∈ l,c.own st) ∧ l.Pairwise fun a b => Dis a.p b.p
def NewP (n : Nat) (l : List Pc) : Prop := ∀ c ∈ l,New n c.p
theorem Pc.own.old {st : St} {c : Pc} (h : c.own st) : Old st.next c.p := by
 rcases h with ⟨h,_⟩ | ⟨a,h,ha,_⟩
 ·rw [h]; exact Old.none
 ·rw [h]; exact Old.some ha
theorem Pc.own.keep {st st' : St} {c : Pc} (h : c.own st) (hn : st.next ≤ st'.next) (hm : ∀ q,c.p = some q → st'.mem q.block = st.mem q.block) : c.own st' := by
 rcases h with h | ⟨a,h1,ha,h2⟩
 ·exact .inl h
 ·exact .inr ⟨a,h1,Nat.lt_of_lt_of_le ha hn,(hm _ h1).trans h2⟩
theorem PrL.refl (ps : List (Option Addr)) (st : St) : PrL ps st st := ⟨Nat.le_refl _,fun _ _ _ => rfl⟩
theorem PrL.trans {ps : List (Option Addr)} {a b c : St} (h : PrL ps a b) (k : PrL ps b c) : PrL ps a c := ⟨Nat.le_trans h.1 k.1,fun x hx hn => (k.2 x (Nat.lt_of_lt_of_le hx h.1) hn).trans (h.2 x hx hn)⟩
theorem Pr.l {p : Option Addr} {st st' : St} (h : Pr p st st') {ps : List (Option Addr)} (hp : p ∈ ps) : PrL ps st st' := ⟨h.1,fun a ha hn => h.2 a ha (hn p hp)⟩
theorem Pres.l {ps : List (Option Addr)} {st st' : St} (h : Pres st st') : PrL ps st st' := ⟨h.1,fun a ha _ => h.2 a ha⟩
theorem PrL.mono {ps qs : List (Option Addr)} {st st' : St} (h : PrL ps st st') (hs : ∀ p ∈ ps,p ∈ qs) : PrL qs st st' := ⟨h.1,fun a ha hn => h.2 a ha fun p hp => hn p (hs p hp)⟩
theorem PrL.pres {ps : List (Option Addr)} {st0 st st' : St} (h : PrL ps st st') (h0 : Pres st0 st) (hn : ∀ p ∈ ps,New st0.next p) : Pres st0 st' :=
 ⟨Nat.le_trans h0.1 h.1,fun a ha => (h.2 a (Nat.lt_of_lt_of_le ha h0.1) fun p hp q hq => by have := hn p hp q hq; omega).trans (h0.2 a ha)⟩
theorem OwnP.nil {st : St} : OwnP st [] := ⟨fun c hc => (by cases hc),List.Pairwise.nil⟩
theorem NewP.nil {n : Nat} : NewP n [] := fun c hc => by cases hc
theorem NewP.le {n m : Nat} {l : List Pc} (h : NewP m l) (hn : n ≤ m) : NewP n l := fun c hc => (h c hc).le hn
theorem NewP.cons {n : Nat} {c : Pc} {l : List Pc} (h : New n c.p) (k : NewP n l) : NewP n (c :: l) := fun d hd => by
 rcases List.mem_cons.1 hd with rfl | hd
 ·exact h
 ·exact k d hd
theorem NewP.app {n : Nat} {l m : List Pc} (h : NewP n l) (k : NewP n m) : NewP n (l ++ m) := fun d hd => by
 rcases List.mem_append.1 hd with hd | hd
 ·exact h d hd
 ·exact k d hd
theorem OwnP.keep {st st' : St} {l : List Pc} (h : OwnP st l) (hn : st.next ≤ st'.next) (hm : ∀ c ∈ l,∀ q,c.p = some q → st'.mem q.block = st.mem q.block) : OwnP st' l := ⟨fun c hc => (h.1 c hc).keep hn (hm c hc),h.2⟩
theorem OwnP.pres {st st' : St} {l : List Pc} (h : OwnP st l) (hp : Pres st st') : OwnP st' l := h.keep hp.1 fun c hc q hq => hp.2 _ ((h.1 c hc).old q hq)
theorem OwnP.prl {st st' : St} {l : List Pc} {ps : List (Option Addr)} (h : OwnP st l) (hp : PrL ps st st') (hd : ∀ c ∈ l,∀ p ∈ ps,Dis p c.p) : OwnP st' l := h.keep hp.1 fun c hc q hq => hp.2 _ ((h.1 c hc).old q hq) fun p hp r hr he => hd c hc p hp r q hr hq he.symm
theorem OwnP.app {st : St} {l m : List Pc} (h : OwnP st l) (k : OwnP st m) (hd : ∀ a ∈ l,∀ b ∈ m,Dis a.p b.p) : OwnP st (l ++ m) :=
 ⟨fun c hc => by
  rcases List.mem_append.1 hc with hc | hc
  ·exact h.1 c hc
  ·exact k.1 c hc,List.pairwise_append.2 ⟨h.2,k.2,hd⟩⟩
theorem OwnP.join {st st' : St} {l m : List Pc} (h : OwnP st l) (hp : Pres st st') (k : OwnP st' m) (hn : NewP st.next m) : OwnP st' (l ++ m) :=
 (h.pres hp).app k fun a ha b hb => Dis.of (h.1 a ha).old (hn b hb)
theorem OwnP.one {st : St} {c : Pc} (h : c.own st) : OwnP st [c] := ⟨fun d hd => by rw [List.mem_singleton.1 hd]; exact h,List.pairwise_singleton _ _⟩
theorem OwnP.left {st : St} {l m : List Pc} (h : OwnP st (l ++ m)) : OwnP st l := ⟨fun c hc => h.1 c (List.mem_append_left _ hc),(List.pairwise_append.1 h.2).1⟩
theorem OwnP.right {st : St} {l m : List Pc} (h : OwnP st (l ++ m)) : OwnP st m := ⟨fun c hc => h.1 c (List.mem_append_right _ hc),(List.pairwise_append.1 h.2).2.1⟩
theorem OwnP.tail {st : St} {c : Pc} {m : List Pc} (h : OwnP st (c :: m)) : OwnP st m := OwnP.right (l := [c]) h
structure RV where
 p : Option Addr
 l : List Int
abbrev cRV (r : RV) : List Value := [vS r.p r.l.length]
abbrev rls (t : List RV) : List (List Int) := t.map (·.l)
def RdT (st : St) (p : Option Addr) (t : List RV) : Prop := Rows st 1 cRV p t ∧ ∀ r ∈ t,Rows st 1 fI r.p r.l
theorem RdT.pres {st st' : St} {p : Option Addr} {t : List RV} (h : RdT st p t) (k : Pres st st') : RdT st' p t := ⟨k.rows h.1,fun r hr => k.rows (h.2 r hr)⟩
end Go.Proofs.YtpnolkhfeliehaaDoor.AM
namespace Go.Proofs.YtpnolkhfeliehaaDoor.AM
open Go Go.Proofs
set_option linter.unusedVariables false
set_option linter.unusedSimpArgs false
set_option maxRecDepth 100000
set_option maxHeartbeats 4000000
def RdS (st : St) (s : SV) : Prop := Rows st 6 cItm s.p s.x.items ∧ Rows st 2 cFlr s.q s.x.floors
abbrev pcS (s : SV) : List Pc := [pcR 6 cItm s.p s.x.items,pcR 2 cFlr s.q s.x.floors]
theorem RdS.pres {st st' : St} {s : SV} (h : RdS st s) (k : Pres st st') : RdS st' s := ⟨k.rows h.1,k.rows h.2⟩
theorem OwnP.items {st : St} {s : SV} (h : OwnP st (pcS s)) : OwnR st 6 cItm s.p s.x.items := pc_own (by decide) len_cItm (h.1 _ (List.mem_cons_self ..))
theorem OwnP.floors {st : St} {s : SV} (h : OwnP st (pcS s)) : OwnR st 2 cFlr s.q s.x.floors := pc_own (by decide) len_cFlr (h.1 _ (List.mem_cons_of_mem _ (List.mem_cons_self ..)))
abbrev fB : Int → List Value := fun x => [.int .u8 x]
theorem fB_len (x : Int) : (fB x).length = 1 := rfl
def toB (l : List Int) : ByteArray := ⟨(l.map fun x => UInt8.ofNat x.toNat).toArray⟩
theorem abytes_ints : ∀ l : List Int,abytes (l.flatMap fB) = some (l.map fun x => UInt8.ofNat x.toNat)
 | [] => rfl
 | x :: l => by
  rw [List.flatMap_cons]
  show (abytes (l.flatMap fB)).map (UInt8.ofNat x.toNat :: ·) = _
  rw [abytes_ints l]
  rfl
section
variable {P : Program} {ls : List Tmp} {call : ACallT} {o : Oper} {e : Operand → Value} {lo : Lo} {st : St}
theorem op_str {src dst el : TypeId} {x : Operand} {p : Option Addr} {l : List Int} {n : Nat} (ho : o.op = .convert src dst x) (hx : e x = .slice p n n) (hn : n = l.length) (hd : telem P dst = none) (hs : tstr P dst = true) (hse : telem P src = some el) (hi : tint P el = some .u8) (hR : Rows st 1 fB p l) (hl : 0 < l.length) : aoper P ls call o e lo st = some (.string (toB l),lo,st) := by
 obtain ⟨d,op,ty,pos,after,gd⟩ := o
 simp only at ho
 subst ho hn
 rcases hR with rfl | ⟨b,off,blk,rfl,hm,_,hc⟩
 ·cases hl
 ·have h1 := take_rows (f := fB) (z := 1) (l := l) (cs := blk.cells) (off := off) fB_len hc
  rw [Nat.mul_one] at h1
  simp only [aoper,hd,hx,aconv,hs,hse,hi,astring,rdB,hm,Option.map_some,Option.bind_some,h1,flat_len fB_len l,Nat.mul_one,if_true,abytes_ints]
  rfl
theorem op_cat {t ty : TypeId} {x y : Operand} {a b : ByteArray} (ho : o.op = .binOp .add t x y ty) (hx : e x = .string a) (hy : e y = .string b) (hs : a.size + b.size ≤ 140737488355328) : aoper P ls call o e lo st = some (.string (a ++ b),lo,st) := by
 obtain ⟨d,op,tt,pos,after,gd⟩ := o
 simp only at ho
 subst ho
 simp [aoper,rop,hx,hy,abin,astrop,hs]
theorem op_quo {t ty : TypeId} {x y : Operand} {k : IntKind} {a b : Int} (ho : o.op = .binOp .quo t x y ty) (hx : e x = .int k a) (hy : e y = .int k b) (hb : b ≠ 0) : aoper P ls call o e lo st = some (.int k (k.wrap (a.tdiv b)),lo,st) := by
 obtain ⟨d,op,tt,pos,after,gd⟩ := o
 simp only at ho
 subst ho
 simp [aoper,rop,hx,hy,abin,aint,hb]
end
theorem toB_size (l : List Int) : (toB l).size = l.length := by simp [toB,ByteArray.size]
theorem wrap_u8 {i : Int} (h0 : 0 ≤ i) (h : i < 256) : IntKind.wrap .u8 i = i := by
 unfold IntKind.wrap; simp [IntKind.bits,IntKind.signed]; omega
def RdL (st : St) (p : Option Addr) (l : List SV) : Prop := Rows st 2 cSV p l ∧ ∀ s ∈ l,RdS st s
theorem RdL.pres {st st' : St} {p : Option Addr} {l : List SV} (h : RdL st p l) (k : Pres st st') : RdL st' p l := ⟨k.rows h.1,fun s hs => (h.2 s hs).pres k⟩
theorem OwnP.sub {st : St} {l m : List Pc} (h : OwnP st l) (hs : m.Sublist l) : OwnP st m := ⟨fun c hc => h.1 c (hs.subset hc),h.2.sublist hs⟩
structure Lg where
 cap : Int
 frm : Int
 list : List Sta
structure LV where
 cap : Int
 frm : Int
 p : Option Addr
 l : List SV
abbrev LV.x (g : LV) : Lg := ⟨g.cap,g.frm,g.l.map (·.x)⟩
theorem PrL.ownR {α : Type} {st st' : St} {ps : List (Option Addr)} {z : Nat} {f : α → List Value} {q : Option Addr} {l : List α} (h0 : 0 < z) (hz : ∀ x,(f x).length = z) (h : PrL ps st st') (hO : OwnR st z f q l) (hd : ∀ p ∈ ps,Dis p q) : OwnR st' z f q l :=
 pc_own h0 hz ((OwnP.prl (OwnP.one (own_pc hO)) h fun c hc p hp => by rw [List.mem_singleton.1 hc]; exact hd p hp).1 _ (List.mem_singleton_self _))
section
variable {P : Program} {ls : List Tmp} {call : ACallT} {o : Oper} {e : Operand → Value} {lo : Lo} {st : St}
end
theorem PrL.rows {α : Type} {st st' : St} {ps : List (Option Addr)} {z : Nat} {f : α → List Value} {p : Option Addr} {l : List α} (h : PrL ps st st') (hR : Rows st z f p l) (hd : ∀ q ∈ ps,Dis p q) : Rows st' z f p l := by
 rcases hR with rfl | ⟨b,off,blk,rfl,hm,hb,hc⟩
 ·exact .inl rfl
 ·refine .inr ⟨b,off,blk,rfl,?_,Nat.lt_of_lt_of_le hb h.1,hc⟩
  rw [h.2 b hb fun q hq r hr => hd q hq _ r rfl hr]
  exact hm
def rng32 (x : Int) : Prop := 0 ≤ x ∧ x < 4294967296
def bytesOk (l : List Int) : Prop := ∀ x ∈ l,0 ≤ x ∧ x < 256
theorem bytesOk.at {l : List Int} (hl : bytesOk l) {i : Nat} {u : Int} (h : l[i]? = some u) : rng32 u := by
 have := hl u (List.mem_of_getElem? h)
 exact ⟨this.1,by omega⟩
section
variable {P : Program} {ls : List Tmp} {call : ACallT} {o : Oper} {e : Operand → Value} {lo : Lo} {st : St}
theorem op_rm {t ty : TypeId} {x y : Operand} {a b r : Int} (ho : o.op = .binOp .rem t x y ty) (hx : e x = vI a) (hy : e y = vI b) (hb : b ≠ 0) (hr : a.tmod b = r) : aoper P ls call o e lo st = some (vI r,lo,st) := by
 subst hr
 exact op_rem ho hx hy hb
theorem op_qo {t ty : TypeId} {x y : Operand} {a b r : Int} (ho : o.op = .binOp .quo t x y ty) (hx : e x = vI a) (hy : e y = vI b) (hb : b ≠ 0) (hr : a.tdiv b = r) (h1 : -9223372036854775808 ≤ r) (h2 : r < 9223372036854775808) : aoper P ls call o e lo st = some (vI r,lo,st) := by
 subst hr
 rw [op_quo ho hx hy hb,wrap_i64 h1 h2]
theorem op_toB {src dst : TypeId} {x : Operand} {b r : Int} (ho : o.op = .convert src dst x) (hx : e x = vI b) (hd : telem P dst = none) (h1 : tint P src = some .i64) (h2 : tint P dst = some .u8) (hb : b = r) (h3 : 0 ≤ r) (h4 : r < 256) : aoper P ls call o e lo st = some (.int .u8 r,lo,st) := by
 obtain ⟨d,op,tt,pos,after,gd⟩ := o
 simp only at ho
 subst ho hb
 simp only [aoper,hd,rop,hx,aconv,h1,h2,Option.bind_some,Option.map_some]
 rw [wrap_u8 h3 h4]
end
theorem bytesOk.app {a b : List Int} (ha : bytesOk a) (hb : bytesOk b) : bytesOk (a ++ b) := fun x hx => by
 rcases List.mem_append.1 hx with h | h
 ·exact ha x h
 ·exact hb x h
def fl (t : List RV) : List Int := t.flatMap fun r => r.l
abbrev fT : ByteArray → List Value := fun x => [.string x]
theorem fT_len (x : ByteArray) : (fT x).length = 1 := rfl
def itoaB (n : Int) : ByteArray := ⟨(Lib.itoa n).toArray⟩
def i64 (n : Int) : Prop := -9223372036854775808 ≤ n ∧ n ≤ 9223372036854775807
theorem nDigits_le : ∀ (k u : Nat),u < 10 ^ (k + 1) → Lib.nDigits u ≤ k + 1
 | 0,u,h => by rw [Lib.nDigits_small (by simpa using h)]; exact Nat.le_refl _
 | k + 1,u,h => by
  by_cases hu : u < 10
  ·rw [Lib.nDigits_small hu]; omega
  ·rw [Lib.nDigits_big hu]
   have := nDigits_le k (u / 10) (by rw [Nat.pow_succ] at h; omega)
   omega
theorem dec_le {u : Nat} (h : u ≤ 9223372036854775808) : (Lib.decDigits u).length ≤ 19 := by
 rw [Lib.decDigits_length]
 exact nDigits_le 18 u (Nat.lt_of_le_of_lt h (by decide))
theorem itoa_le {n : Int} (h : i64 n) : (Lib.itoa n).length ≤ 20 := by
 have h1 := h.1
 have h2 := h.2
 unfold Lib.itoa
 split
 ·have := dec_le (u := n.natAbs) (by omega)
  rw [List.length_cons]; omega
 ·have := dec_le (u := n.toNat) (by omega)
  omega
theorem itoaB_size {n : Int} (h : i64 n) : (itoaB n).size ≤ 20 := by
 show (Lib.itoa n).toArray.size ≤ 20
 rw [List.size_toArray]; exact itoa_le h
theorem ba_ext {a b : ByteArray} (h : a.data.toList = b.data.toList) : a = b := by
 obtain ⟨⟨a⟩⟩ := a
 obtain ⟨⟨b⟩⟩ := b
 simp only at h
 rw [h]
theorem ba_app (a b : ByteArray) : (a ++ b).data.toList = a.data.toList ++ b.data.toList := by
 rw [ByteArray.data_append,Array.toList_append]
theorem ba_size (a : ByteArray) : a.size = a.data.toList.length := rfl
theorem join_snoc (x : List UInt8) (r : List (List UInt8)) (y sep : List UInt8) : Lib.join (x :: r ++ [y]) sep = Lib.join (x :: r) sep ++ (sep ++ y) := by
 rw [List.cons_append,Lib.join_cons,Lib.join_cons]
 simp [Lib.joinTail]
theorem join_le {m : Nat} (sep : List UInt8) (hs : sep.length ≤ 1) : ∀ (l : List (List UInt8)),(∀ x ∈ l,x.length ≤ m) → (Lib.join l sep).length ≤ l.length * (m + 1)
 | [],_ => Nat.zero_le _
 | x :: r,h => by
  rw [Lib.join_cons,List.length_append]
  have h1 := h x (List.mem_cons_self ..)
  have h2 : (Lib.joinTail sep r).length ≤ r.length * (m + 1) := by
   have hr : ∀ y ∈ r,y.length ≤ m := fun y hy => h y (List.mem_cons_of_mem _ hy)
   clear h h1
   induction r with
   | nil => exact Nat.zero_le _
   | cons y r ih =>
    have := ih fun z hz => hr z (List.mem_cons_of_mem _ hz)
    have hy := hr y (List.mem_cons_self ..)
    simp only [Lib.joinTail,List.map_cons,List.flatten_cons,List.length_append,List.length_cons] at this ⊢
    rw [Nat.succ_mul]
    omega
  rw [List.length_cons,Nat.succ_mul]
  omega
theorem joinB_snoc {l : List ByteArray} (hl : l ≠ []) (y sep : ByteArray) : joinB (l ++ [y]) sep = joinB l sep ++ sep ++ y := by
 match l,hl with
 | x :: r,_ =>
  refine ba_ext ?_
  rw [ba_app,ba_app]
  show Lib.join (((x :: r) ++ [y]).map (·.data.toList)) sep.data.toList = Lib.join ((x :: r).map (·.data.toList)) sep.data.toList ++ sep.data.toList ++ y.data.toList
  rw [List.map_append,List.map_cons,List.map_cons,List.map_nil,join_snoc,List.append_assoc]
theorem joinB_one (y sep : ByteArray) : joinB [y] sep = y := ba_ext (by
 show Lib.join [y.data.toList] sep.data.toList = _
 rw [Lib.join_one])
theorem joinB_le {m : Nat} {l : List ByteArray} {sep : ByteArray} (hs : sep.size ≤ 1) (h : ∀ x ∈ l,x.size ≤ m) : (Lib.join (l.map (·.data.toList)) sep.data.toList).length ≤ l.length * (m + 1) := by
 have := join_le (m := m) sep.data.toList hs (l.map (·.data.toList)) fun x hx => by
  obtain ⟨y,hy,rfl⟩ := List.mem_map.1 hx
  exact h y hy
 rwa [List.length_map] at this
theorem joinB_size (l : List ByteArray) (sep : ByteArray) : (joinB l sep).size = (Lib.join (l.map (·.data.toList)) sep.data.toList).length := by
 show (Lib.join _ _).toArray.size = _
 rw [List.size_toArray]
def comma : ByteArray := ⟨#[44]⟩
def numT (l : List Int) : ByteArray := joinB (l.map itoaB) comma
theorem numT_size {l : List Int} (h : ∀ x ∈ l,i64 x) : (numT l).size ≤ l.length * 21 := by
 unfold numT
 rw [joinB_size]
 have := joinB_le (m := 20) (l := l.map itoaB) (sep := comma) (Nat.le_refl 1) fun x hx => by
  obtain ⟨y,hy,rfl⟩ := List.mem_map.1 hx
  exact itoaB_size (h y hy)
 rwa [List.length_map] at this
theorem numT_nil : numT [] = ⟨#[]⟩ := rfl
theorem numT_one (x : Int) : numT [x] = itoaB x := joinB_one _ _
theorem numT_snoc {l : List Int} (hl : l ≠ []) (x : Int) : numT (l ++ [x]) = numT l ++ comma ++ itoaB x := by
 unfold numT
 rw [List.map_append,List.map_cons,List.map_nil,joinB_snoc (by simpa using hl)]
theorem take_snoc {α : Type} {l : List α} {i : Nat} {x : α} (h : l[i]? = some x) : l.take (i + 1) = l.take i ++ [x] := by
 rw [List.take_add_one,h]; rfl
theorem Tab.pres {st s : St} (h : Tab st) (k : Pres st s) : Tab s := ⟨Nat.lt_of_lt_of_le h.1 k.1,(k.2 _ h.1).trans h.2⟩
theorem ext_itoa {n : Int} {st : St} (h : i64 n) (hT : Tab st) : ext0 "strconv.Itoa" [.int .i64 n] st = some (.string (itoaB n), st) := by
 have h3 : -9223372036854775808 ≤ n ∧ n ≤ 9223372036854775807 ∧ Tab st := ⟨h.1,h.2,hT⟩
 unfold ext0
 simp only [if_pos h3]
 rfl
theorem ext_join {p : Option Addr} {n : Nat} {sep : ByteArray} {st : St} (h : JoinOK st p n) (hl : (Lib.join ((joinL st p n).map (·.data.toList)) sep.data.toList).length ≤ 140737488355328) : ext0 "strings.Join" [.slice p n n, .string sep] st = some (.string (joinB (joinL st p n) sep), st) := by
 unfold ext0
 simp only [if_pos (And.intro h hl)]
 rfl
theorem ac_strconv_Itoa (n : Int) (st : St) (h : i64 n) (hT : Tab st) : C 12 [vI n] st (fun v s => v = .string (itoaB n) ∧ s = st) :=
 AC.extB Tryd.func12 rfl (by kernel_rfl) (by decide) (by rw [show (Tryd.f12).name = "strconv.Itoa" from by kernel_rfl]; exact ext_itoa h hT) ⟨rfl, rfl⟩
theorem ac_strings_Join (p : Option Addr) (l : List ByteArray) (sep : ByteArray) (st : St) (hR : Rows st 1 fT p l) (hn : l.length ≤ 140737488355328) (hl : (Lib.join (l.map (·.data.toList)) sep.data.toList).length ≤ 140737488355328) : C 11 [vS p l.length,.string sep] st (fun v s => v = .string (joinB l sep) ∧ s = st) := by
 have key : JoinOK st p l.length ∧ joinL st p l.length = l := by
  rcases hR with rfl | ⟨b,off,blk,rfl,hm,_,hc⟩
  ·exact ⟨.inl rfl,joinL_0⟩
  ·have h1 := take_rows (f := fT) (z := 1) (l := l) (cs := blk.cells) (off := off) fT_len hc
   rw [Nat.mul_one] at h1
   have h2 : l.flatMap fT = l.map Value.string := by
    clear h1 hc hn hl
    induction l with
    | nil => rfl
    | cons x l ih => rw [List.flatMap_cons,ih]; rfl
   rw [h2] at h1
   exact ⟨.inr ⟨b,off,blk,l,rfl,hm,h1,rfl,hn⟩,joinL_of hm h1⟩
 have he := ext_join (sep := sep) key.1 (by rw [key.2]; exact hl)
 rw [key.2] at he
 exact AC.extB Tryd.func11 rfl (by kernel_rfl) (by decide) (by rw [show (Tryd.f11).name = "strings.Join" from by kernel_rfl]; exact he) ⟨rfl, rfl⟩
theorem ac_impl_Digits (n : Int) (st : St) (h : i64 n) (hT : Tab st) : C 10 [vI n] st (fun v s => v = .string (itoaB n) ∧ s = st) := by
 refine AC.enterX (i := ⟨[],[],[0,2],[]⟩) [] Tryd.func10 rfl rfl (by kernel_rfl) (by kernel_rfl) Tryd.ntmps10 (Lb rfl) rfl ?_
 refine Cu lo0 st [(0,vI n),(2,.string ⟨#[]⟩)] fun _ => ?_
 refine ⟨_,rfl,(ac_strconv_Itoa n st h hT).mono ?_⟩
 rintro _ st ⟨rfl,rfl⟩
 exact cxs (Rt ⟨rfl,rfl⟩)
theorem ac_impl_numbersText (p : Option Addr) (l : List Int) (st : St) (hR : Rows st 1 fI p l) (hs : szOk l.length) (hl : ∀ x ∈ l,i64 x) (hT : Tab st) : C 9 [vS p l.length] st (fun v s => v = .string (numT l) ∧ Pres st s) := by
 have hs : l.length ≤ 1048576 := hs
 refine AC.enterX (i := ⟨[],[],[0,2,3,5,7,8,9,10],[]⟩) [] Tryd.func9 rfl rfl (by kernel_rfl) (by kernel_rfl) Tryd.ntmps9 (Lb rfl) rfl ?_
 refine Cu lo0 st [(0,vS p l.length),(2,.string ⟨#[]⟩)] fun _ => ?_
 refine op_nilK (z := 1) (f := fT) rfl rfl rfl rfl (by decide) rfl ?_
 intro q6 s6 hO6 hP6 hN6
 refine Cu lo0 s6 [(0,vS p l.length),(2,.string ⟨#[]⟩),(3,vS q6 0)] fun _ => ?_
 refine ⟨_,rfl,?_⟩
 refine Cu lo0 s6 [(2,.string ⟨#[]⟩),(3,vS q6 0),(7,vS p l.length),(8,vI (l.length : Int)),(9,vI 0)] fun _ => ?_
 refine AW.loop0 (fun x : Nat × Option Addr × List ByteArray => [(2,.string ⟨#[]⟩),(3,vS x.2.1 x.2.2.length),(7,vS p l.length),(8,vI (l.length : Int)),(9,vI (x.1 : Int))]) (fun m (x : Nat × Option Addr × List ByteArray) st' => m = l.length - x.1 ∧ x.1 ≤ l.length ∧ x.2.2 = (l.take x.1).map itoaB ∧ OwnR st' 1 fT x.2.1 x.2.2 ∧ New st.next x.2.1 ∧ Pres st st') (0,q6,[]) _ ⟨rfl,rfl,rfl,rfl,rfl,trivial⟩ rfl ⟨rfl,Nat.zero_le _,rfl,hO6,hN6,hP6⟩ ?_
 rintro m ⟨i,q,b⟩ ρ0 st' ⟨rfl,hi,hv,hO,hN,hP⟩
 simp only at hi hv hO hN
 have hbl : b.length ≤ l.length := by rw [hv,List.length_map,List.length_take]; omega
 refine ⟨_,rfl,?_⟩
 rintro (_|_) h10
 ·replace h10 : ¬ ((i : Int) < (l.length : Int)) := of_decide_eq_false h10
  refine Cu lo0 st' [(2,.string ⟨#[]⟩),(3,vS q b.length),(7,vS p l.length),(8,vI (l.length : Int)),(9,vI (i : Int)),(10,vB false)] fun _ => ?_
  have hbe : b = l.map itoaB := by rw [hv,show i = l.length by omega,List.take_length]
  refine cxs ?_
  refine ⟨_,rfl,(ac_strings_Join q b ⟨#[44]⟩ st' (hO.rows fT_len) (by omega) (by
  have := joinB_le (m := 20) (l := b) (sep := ⟨#[44]⟩) (Nat.le_refl 1) fun x hx => by
   rw [hbe] at hx
   obtain ⟨y,hy,rfl⟩ := List.mem_map.1 hx
   exact itoaB_size (hl y hy)
  omega)).mono ?_⟩
  rintro _ st' ⟨rfl,rfl⟩
  exact cxs (Rt ⟨congrArg Value.string (by rw [hbe]; rfl),hP⟩)
 ·replace h10 : (i : Int) < (l.length : Int) := of_decide_eq_true h10
  refine Cu lo0 st' [(2,.string ⟨#[]⟩),(3,vS q b.length),(7,vS p l.length),(8,vI (l.length : Int)),(9,vI (i : Int)),(10,vB true)] fun _ => ?_
  refine cxs ?_
  have hRs := hP.rows hR
  refine op_at i hRs (by omega) rfl rfl rfl rfl rfl rfl rfl ?_
  intro x11 b11 d11 k11 hy11 hb11 hm11 hc11 ho11
  refine ⟨_,op_ldc (i := 0) rfl rfl rfl rfl hm11 hc11 rfl rfl,?_⟩
  refine Cu lo0 st' [(2,.string ⟨#[]⟩),(3,vS q b.length),(5,vI x11),(7,vS p l.length),(8,vI (l.length : Int)),(9,vI (i : Int)),(10,vB true)] fun _ => ?_
  refine ⟨_,rfl,(ac_impl_Digits x11 st' (hl _ (List.mem_of_getElem? hy11)) (hT.pres hP)).mono ?_⟩
  rintro _ st' ⟨rfl,rfl⟩
  refine op_one (z := 1) (a := ((itoaB x11) : ByteArray)) (f := fT) rfl rfl rfl rfl rfl (by decide) rfl (Lb rfl) rfl rfl rfl ?_
  refine op_snoc (z := 1) (st := st') (f := fT) (b := 16) (l := b) (x := (itoaB x11)) rfl rfl rfl rfl rfl rfl rfl (by decide) fT_len rfl rfl rfl (by omega) (by unfold maxLen; omega) hO ?_
  intro q17 s17 hO17 hP17 hN17
  refine Cu lo0 s17 [(2,.string ⟨#[]⟩),(3,vS q17 (b ++ [(itoaB x11)]).length),(5,vI x11),(7,vS p l.length),(8,vI (l.length : Int)),(9,vI (i : Int)),(10,vB true)] fun _ => ?_
  have ew18 : IntKind.wrap .i64 ((i : Int) + (1)) = ((i + 1 : Nat) : Int) := (wrap_i64 (by omega) (by omega)).trans (by omega)
  refine ⟨_,rfl,?_⟩
  exact ⟨(i + 1,q17,b ++ [itoaB x11]),l.length - (i + 1),by omega,⟨rfl,rfl,rfl,rfl,congrArg (Value.int .i64) ew18,trivial⟩,rfl,rfl,by simp only; omega,by simp only; rw [take_snoc hy11,List.map_append,← hv]; rfl,hO17,hN17.le hP.1,hP17.pres hP hN⟩
theorem ac_impl_VecText (p : Option Addr) (l : List Int) (st : St) (hR : Rows st 1 fI p l) (hs : szOk l.length) (hl : ∀ x ∈ l,i64 x) (hT : Tab st) : C 6 [vS p l.length] st (fun v s => v = .string (numT l) ∧ Pres st s) := by
 refine AC.enterX (i := ⟨[],[],[0,2],[]⟩) [] Tryd.func6 rfl rfl (by kernel_rfl) (by kernel_rfl) Tryd.ntmps6 (Lb rfl) rfl ?_
 refine Cu lo0 st [(0,vS p l.length),(2,.string ⟨#[]⟩)] fun _ => ?_
 refine ⟨_,rfl,(ac_impl_numbersText p l st hR hs hl hT).mono ?_⟩
 rintro _ s4 ⟨rfl,hP4⟩
 exact cxs (Rt ⟨rfl,hP4⟩)
def decD (u : Nat) : List UInt8 := if u = 0 then [] else Lib.decDigits u
theorem decD_step {u : Nat} (h : u ≠ 0) : decD u = decD (u / 10) ++ [UInt8.ofNat (48 + u % 10)] := by
 unfold decD
 rw [if_neg h,Lib.decDigits]
 split
 ·rename_i hu
  rw [if_pos (by omega),show u % 10 = u by omega]
  rfl
 ·rw [if_neg (by omega)]
theorem decD_le {u : Nat} (h : u ≤ 9223372036854775808) : (decD u).length ≤ 19 := by
 unfold decD
 split
 ·exact Nat.zero_le _
 ·exact dec_le h
theorem ac_spec_Digits (n : Int) (st : St) (h : i64 n) : C 8 [vI n] st (fun v s => v = .string (itoaB n) ∧ Pres st s) := by
 obtain ⟨hn1,hn2⟩ := h
 refine AC.enterX (i := ⟨[],[],[0,2,3,4,5,7,11,15,27],[]⟩) [] Tryd.func8 rfl rfl (by kernel_rfl) (by kernel_rfl) Tryd.ntmps8 (Lb rfl) rfl ?_
 refine Cu lo0 st [(0,vI n),(2,.string ⟨#[]⟩)] fun _ => ?_
 refine ⟨_,rfl,?_⟩
 rintro (_|_) h7
 ·replace h7 : ¬ (n = 0) := beq_eq_false_iff_ne.1 h7
  refine Cu lo0 st [(0,vI n),(2,.string ⟨#[]⟩),(7,vB false)] fun _ => ?_
  refine cxs ?_
  refine ⟨_,rfl,?_⟩
  rintro (_|_) h9
  ·replace h9 : ¬ (n < 0) := of_decide_eq_false h9
   refine cxs ?_
   refine Cu lo0 st [(0,vI n),(2,.string ⟨#[]⟩),(3,vB false),(4,.string ⟨#[]⟩)] fun _ => ?_
   refine AW.loop0 (fun x : Int × ByteArray => [(0,vI x.1),(2,.string ⟨#[]⟩),(3,vB false),(4,.string x.2)]) (fun m (x : Int × ByteArray) st' => m = x.1.natAbs ∧ (-9223372036854775808 ≤ x.1 ∧ x.1 ≤ 9223372036854775807) ∧ decD n.natAbs = decD x.1.natAbs ++ x.2.data.toList ∧ Pres st st') (n,⟨#[]⟩) _ ⟨rfl,rfl,rfl,rfl,trivial⟩ rfl ⟨rfl,⟨hn1,hn2⟩,(List.append_nil _).symm,Pres.refl _⟩ ?_
   rintro m ⟨c,o⟩ ρ0 st' ⟨rfl,hc,hd,hP⟩
   simp only at hc hd
   have hdl := congrArg List.length hd
   rw [List.length_append] at hdl
   have hdm := decD_le (u := n.natAbs) (by omega)
   have hsz : o.size ≤ 19 := by rw [ba_size]; omega
   have hm10 := Int.natAbs_tmod c 10
   have hd10 := Int.natAbs_tdiv c 10
   have hm11 : (c.tmod 10).natAbs = c.natAbs % 10 := hm10
   have hd11 : (c.tdiv 10).natAbs = c.natAbs / 10 := hd10
   refine ⟨_,rfl,?_⟩
   rintro (_|_) h11
   ·replace h11 : c = 0 := bne_eq_false_iff_eq.1 h11
    refine Cu lo0 st' [(0,vI c),(2,.string ⟨#[]⟩),(3,vB false),(4,.string o),(11,vB false)] fun _ => ?_
    refine cxs ?_
    refine Cu lo0 st' [(2,.string ⟨#[]⟩),(4,.string o),(27,vB false)] fun _ => ?_
    refine cxs ?_
    refine cxs ?_
    exact ⟨.inl rfl,_,rfl,congrArg Value.string (ba_ext (by
     show o.data.toList = Lib.itoa n
     subst h11
     have he : decD n.natAbs = o.data.toList := hd
     rw [Lib.itoa,if_neg h9,← he,decD,if_neg (by omega),show n.toNat = n.natAbs by omega])),hP⟩
   ·replace h11 : ¬ (c = 0) := bne_iff_ne.1 h11
    refine Cu lo0 st' [(0,vI c),(2,.string ⟨#[]⟩),(3,vB false),(4,.string o),(11,vB true)] fun _ => ?_
    refine cxs ?_
    refine ⟨_,op_rm (r := c.tmod 10) rfl rfl rfl (by decide) rfl,?_⟩
    refine Cu lo0 st' [(0,vI c),(2,.string ⟨#[]⟩),(3,vB false),(4,.string o),(5,vI (c.tmod 10)),(11,vB true)] fun _ => ?_
    refine ⟨_,rfl,?_⟩
    rintro (_|_) h15
    ·replace h15 : ¬ (c.tmod 10 < 0) := of_decide_eq_false h15
     refine Cu lo0 st' [(0,vI c),(2,.string ⟨#[]⟩),(3,vB false),(4,.string o),(5,vI (c.tmod 10)),(11,vB true),(15,vB false)] fun _ => ?_
     refine cxs ?_
     have ew19 : IntKind.wrap .i64 ((48) + (c.tmod 10)) = (48) + (c.tmod 10) := wrap_i64 (by omega) (by omega)
     refine ⟨_,rfl,?_⟩
     refine ⟨_,op_toB (r := ((48 + c.natAbs % 10 : Nat) : Int)) rfl rfl rfl rfl rfl (ew19.trans (by omega)) (by omega) (by omega),?_⟩
     refine op_one (z := 1) (a := ((48 + c.natAbs % 10 : Nat) : Int)) (f := fB) (v := .int .u8 ((48 + c.natAbs % 10 : Nat) : Int)) rfl rfl rfl rfl rfl Nat.one_pos rfl (Lb rfl) rfl rfl rfl ?_
     refine ⟨_,op_str (l := [((48 + c.natAbs % 10 : Nat) : Int)]) rfl rfl rfl rfl rfl rfl rfl (OwnR.push.rows fB_len) Nat.one_pos,?_⟩
     refine ⟨_,op_cat (a := toB [((48 + c.natAbs % 10 : Nat) : Int)]) (b := o) rfl rfl rfl (by rw [toB_size]; simp only [List.length_singleton]; omega),?_⟩
     refine Cu lo0 (st'.push 1 ([((48 + c.natAbs % 10 : Nat) : Int)].flatMap fB)) [(0,vI c),(2,.string ⟨#[]⟩),(3,vB false),(4,.string (toB [((48 + c.natAbs % 10 : Nat) : Int)] ++ o)),(5,vI (c.tmod 10)),(11,vB true),(15,vB false)] fun _ => ?_
     refine ⟨_,op_qo (r := c.tdiv 10) rfl rfl rfl (by decide) rfl (by omega) (by omega),?_⟩
     exact ⟨(c.tdiv 10,toB [((48 + c.natAbs % 10 : Nat) : Int)] ++ o),(c.tdiv 10).natAbs,by omega,⟨rfl,rfl,rfl,rfl,trivial⟩,rfl,rfl,by simp only; omega,by
      simp only
      rw [hd,decD_step (u := c.natAbs) (by omega),hd11,ba_app,List.append_assoc]
      rfl,hP.trans Pres.push⟩
    ·replace h15 : c.tmod 10 < 0 := of_decide_eq_true h15
     refine Cu lo0 st' [(0,vI c),(2,.string ⟨#[]⟩),(3,vB false),(4,.string o),(5,vI (c.tmod 10)),(11,vB true),(15,vB true)] fun _ => ?_
     have ew17 : IntKind.wrap .i64 ((0) - (c.tmod 10)) = (0) - (c.tmod 10) := wrap_i64 (by omega) (by omega)
     refine ⟨_,rfl,?_⟩
     refine AW.cut lo0 st' [(0,vI c),(2,.string ⟨#[]⟩),(3,vB false),(4,.string o),(5,vI ((0) - (c.tmod 10))),(11,vB true),(15,vB true)] ⟨rfl,rfl,rfl,rfl,congrArg (Value.int .i64) ew17,rfl,rfl,trivial⟩ fun _ => ?_
     have ew19 : IntKind.wrap .i64 ((48) + ((0) - (c.tmod 10))) = (48) + ((0) - (c.tmod 10)) := wrap_i64 (by omega) (by omega)
     refine ⟨_,rfl,?_⟩
     refine ⟨_,op_toB (r := ((48 + c.natAbs % 10 : Nat) : Int)) rfl rfl rfl rfl rfl (ew19.trans (by omega)) (by omega) (by omega),?_⟩
     refine op_one (z := 1) (a := ((48 + c.natAbs % 10 : Nat) : Int)) (f := fB) (v := .int .u8 ((48 + c.natAbs % 10 : Nat) : Int)) rfl rfl rfl rfl rfl Nat.one_pos rfl (Lb rfl) rfl rfl rfl ?_
     refine ⟨_,op_str (l := [((48 + c.natAbs % 10 : Nat) : Int)]) rfl rfl rfl rfl rfl rfl rfl (OwnR.push.rows fB_len) Nat.one_pos,?_⟩
     refine ⟨_,op_cat (a := toB [((48 + c.natAbs % 10 : Nat) : Int)]) (b := o) rfl rfl rfl (by rw [toB_size]; simp only [List.length_singleton]; omega),?_⟩
     refine Cu lo0 (st'.push 1 ([((48 + c.natAbs % 10 : Nat) : Int)].flatMap fB)) [(0,vI c),(2,.string ⟨#[]⟩),(3,vB false),(4,.string (toB [((48 + c.natAbs % 10 : Nat) : Int)] ++ o)),(5,vI ((0) - (c.tmod 10))),(11,vB true),(15,vB true)] fun _ => ?_
     refine ⟨_,op_qo (r := c.tdiv 10) rfl rfl rfl (by decide) rfl (by omega) (by omega),?_⟩
     exact ⟨(c.tdiv 10,toB [((48 + c.natAbs % 10 : Nat) : Int)] ++ o),(c.tdiv 10).natAbs,by omega,⟨rfl,rfl,rfl,rfl,trivial⟩,rfl,rfl,by simp only; omega,by
      simp only
      rw [hd,decD_step (u := c.natAbs) (by omega),hd11,ba_app,List.append_assoc]
      rfl,hP.trans Pres.push⟩
  ·replace h9 : n < 0 := of_decide_eq_true h9
   refine cxs ?_
   refine Cu lo0 st [(0,vI n),(2,.string ⟨#[]⟩),(3,vB true),(4,.string ⟨#[]⟩)] fun _ => ?_
   refine AW.loop0 (fun x : Int × ByteArray => [(0,vI x.1),(2,.string ⟨#[]⟩),(3,vB true),(4,.string x.2)]) (fun m (x : Int × ByteArray) st' => m = x.1.natAbs ∧ (-9223372036854775808 ≤ x.1 ∧ x.1 ≤ 9223372036854775807) ∧ decD n.natAbs = decD x.1.natAbs ++ x.2.data.toList ∧ Pres st st') (n,⟨#[]⟩) _ ⟨rfl,rfl,rfl,rfl,trivial⟩ rfl ⟨rfl,⟨hn1,hn2⟩,(List.append_nil _).symm,Pres.refl _⟩ ?_
   rintro m ⟨c,o⟩ ρ0 st' ⟨rfl,hc,hd,hP⟩
   simp only at hc hd
   have hdl := congrArg List.length hd
   rw [List.length_append] at hdl
   have hdm := decD_le (u := n.natAbs) (by omega)
   have hsz : o.size ≤ 19 := by rw [ba_size]; omega
   have hm10 := Int.natAbs_tmod c 10
   have hd10 := Int.natAbs_tdiv c 10
   have hm11 : (c.tmod 10).natAbs = c.natAbs % 10 := hm10
   have hd11 : (c.tdiv 10).natAbs = c.natAbs / 10 := hd10
   refine ⟨_,rfl,?_⟩
   rintro (_|_) h11
   ·replace h11 : c = 0 := bne_eq_false_iff_eq.1 h11
    refine Cu lo0 st' [(0,vI c),(2,.string ⟨#[]⟩),(3,vB true),(4,.string o),(11,vB false)] fun _ => ?_
    refine cxs ?_
    refine Cu lo0 st' [(2,.string ⟨#[]⟩),(4,.string o),(27,vB true)] fun _ => ?_
    refine ⟨_,op_cat (a := ⟨#[45]⟩) (b := o) rfl rfl rfl (by show 1 + o.size ≤ _; omega),?_⟩
    refine cxs ?_
    exact ⟨.inl rfl,_,rfl,congrArg Value.string (ba_ext (by
     rw [ba_app]
     show 45 :: o.data.toList = Lib.itoa n
     subst h11
     have he : decD n.natAbs = o.data.toList := hd
     rw [Lib.itoa,if_pos h9,← he,decD,if_neg (by omega)])),hP⟩
   ·replace h11 : ¬ (c = 0) := bne_iff_ne.1 h11
    refine Cu lo0 st' [(0,vI c),(2,.string ⟨#[]⟩),(3,vB true),(4,.string o),(11,vB true)] fun _ => ?_
    refine cxs ?_
    refine ⟨_,op_rm (r := c.tmod 10) rfl rfl rfl (by decide) rfl,?_⟩
    refine Cu lo0 st' [(0,vI c),(2,.string ⟨#[]⟩),(3,vB true),(4,.string o),(5,vI (c.tmod 10)),(11,vB true)] fun _ => ?_
    refine ⟨_,rfl,?_⟩
    rintro (_|_) h15
    ·replace h15 : ¬ (c.tmod 10 < 0) := of_decide_eq_false h15
     refine Cu lo0 st' [(0,vI c),(2,.string ⟨#[]⟩),(3,vB true),(4,.string o),(5,vI (c.tmod 10)),(11,vB true),(15,vB false)] fun _ => ?_
     refine cxs ?_
     have ew19 : IntKind.wrap .i64 ((48) + (c.tmod 10)) = (48) + (c.tmod 10) := wrap_i64 (by omega) (by omega)
     refine ⟨_,rfl,?_⟩
     refine ⟨_,op_toB (r := ((48 + c.natAbs % 10 : Nat) : Int)) rfl rfl rfl rfl rfl (ew19.trans (by omega)) (by omega) (by omega),?_⟩
     refine op_one (z := 1) (a := ((48 + c.natAbs % 10 : Nat) : Int)) (f := fB) (v := .int .u8 ((48 + c.natAbs % 10 : Nat) : Int)) rfl rfl rfl rfl rfl Nat.one_pos rfl (Lb rfl) rfl rfl rfl ?_
     refine ⟨_,op_str (l := [((48 + c.natAbs % 10 : Nat) : Int)]) rfl rfl rfl rfl rfl rfl rfl (OwnR.push.rows fB_len) Nat.one_pos,?_⟩
     refine ⟨_,op_cat (a := toB [((48 + c.natAbs % 10 : Nat) : Int)]) (b := o) rfl rfl rfl (by rw [toB_size]; simp only [List.length_singleton]; omega),?_⟩
     refine Cu lo0 (st'.push 1 ([((48 + c.natAbs % 10 : Nat) : Int)].flatMap fB)) [(0,vI c),(2,.string ⟨#[]⟩),(3,vB true),(4,.string (toB [((48 + c.natAbs % 10 : Nat) : Int)] ++ o)),(5,vI (c.tmod 10)),(11,vB true),(15,vB false)] fun _ => ?_
     refine ⟨_,op_qo (r := c.tdiv 10) rfl rfl rfl (by decide) rfl (by omega) (by omega),?_⟩
     exact ⟨(c.tdiv 10,toB [((48 + c.natAbs % 10 : Nat) : Int)] ++ o),(c.tdiv 10).natAbs,by omega,⟨rfl,rfl,rfl,rfl,trivial⟩,rfl,rfl,by simp only; omega,by
      simp only
      rw [hd,decD_step (u := c.natAbs) (by omega),hd11,ba_app,List.append_assoc]
      rfl,hP.trans Pres.push⟩
    ·replace h15 : c.tmod 10 < 0 := of_decide_eq_true h15
     refine Cu lo0 st' [(0,vI c),(2,.string ⟨#[]⟩),(3,vB true),(4,.string o),(5,vI (c.tmod 10)),(11,vB true),(15,vB true)] fun _ => ?_
     have ew17 : IntKind.wrap .i64 ((0) - (c.tmod 10)) = (0) - (c.tmod 10) := wrap_i64 (by omega) (by omega)
     refine ⟨_,rfl,?_⟩
     refine AW.cut lo0 st' [(0,vI c),(2,.string ⟨#[]⟩),(3,vB true),(4,.string o),(5,vI ((0) - (c.tmod 10))),(11,vB true),(15,vB true)] ⟨rfl,rfl,rfl,rfl,congrArg (Value.int .i64) ew17,rfl,rfl,trivial⟩ fun _ => ?_
     have ew19 : IntKind.wrap .i64 ((48) + ((0) - (c.tmod 10))) = (48) + ((0) - (c.tmod 10)) := wrap_i64 (by omega) (by omega)
     refine ⟨_,rfl,?_⟩
     refine ⟨_,op_toB (r := ((48 + c.natAbs % 10 : Nat) : Int)) rfl rfl rfl rfl rfl (ew19.trans (by omega)) (by omega) (by omega),?_⟩
     refine op_one (z := 1) (a := ((48 + c.natAbs % 10 : Nat) : Int)) (f := fB) (v := .int .u8 ((48 + c.natAbs % 10 : Nat) : Int)) rfl rfl rfl rfl rfl Nat.one_pos rfl (Lb rfl) rfl rfl rfl ?_
     refine ⟨_,op_str (l := [((48 + c.natAbs % 10 : Nat) : Int)]) rfl rfl rfl rfl rfl rfl rfl (OwnR.push.rows fB_len) Nat.one_pos,?_⟩
     refine ⟨_,op_cat (a := toB [((48 + c.natAbs % 10 : Nat) : Int)]) (b := o) rfl rfl rfl (by rw [toB_size]; simp only [List.length_singleton]; omega),?_⟩
     refine Cu lo0 (st'.push 1 ([((48 + c.natAbs % 10 : Nat) : Int)].flatMap fB)) [(0,vI c),(2,.string ⟨#[]⟩),(3,vB true),(4,.string (toB [((48 + c.natAbs % 10 : Nat) : Int)] ++ o)),(5,vI ((0) - (c.tmod 10))),(11,vB true),(15,vB true)] fun _ => ?_
     refine ⟨_,op_qo (r := c.tdiv 10) rfl rfl rfl (by decide) rfl (by omega) (by omega),?_⟩
     exact ⟨(c.tdiv 10,toB [((48 + c.natAbs % 10 : Nat) : Int)] ++ o),(c.tdiv 10).natAbs,by omega,⟨rfl,rfl,rfl,rfl,trivial⟩,rfl,rfl,by simp only; omega,by
      simp only
      rw [hd,decD_step (u := c.natAbs) (by omega),hd11,ba_app,List.append_assoc]
      rfl,hP.trans Pres.push⟩
 ·replace h7 : n = 0 := beq_iff_eq.1 h7
  refine Cu lo0 st [(0,vI n),(2,.string ⟨#[]⟩),(7,vB true)] fun _ => ?_
  exact cxs (Rt ⟨congrArg Value.string (by rw [h7]; exact ba_ext (by show _ = Lib.itoa 0; rw [Lib.itoa,if_neg (by omega),Lib.decDigits,dif_pos (by decide)]; rfl)),Pres.refl _⟩)
theorem ac_spec_VecText (p : Option Addr) (l : List Int) (st : St) (hR : Rows st 1 fI p l) (hs : szOk l.length) (hl : ∀ x ∈ l,i64 x) : C 4 [vS p l.length] st (fun v s => v = .string (numT l) ∧ Pres st s) := by
 have hs : l.length ≤ 1048576 := hs
 refine AC.enterX (i := ⟨[],[],[0,2,3,4,8,12],[]⟩) [] Tryd.func4 rfl rfl (by kernel_rfl) (by kernel_rfl) Tryd.ntmps4 (Lb rfl) rfl ?_
 refine cxs ?_
 refine cxs ?_
 refine Cu lo0 st [(0,vS p l.length),(2,.string ⟨#[]⟩),(3,.string ⟨#[]⟩),(4,vI 0)] fun _ => ?_
 refine AW.loop0 (fun x : Nat × ByteArray => [(0,vS p l.length),(2,.string ⟨#[]⟩),(3,.string x.2),(4,vI (x.1 : Int))]) (fun m (x : Nat × ByteArray) st' => m = l.length - x.1 ∧ x.1 ≤ l.length ∧ x.2 = numT (l.take x.1) ∧ Pres st st') (0,⟨#[]⟩) _ ⟨rfl,rfl,rfl,rfl,trivial⟩ rfl ⟨rfl,Nat.zero_le _,rfl,Pres.refl _⟩ ?_
 rintro m ⟨i,o⟩ ρ0 st' ⟨rfl,hi,hv,hP⟩
 simp only at hi hv
 have hRs := hP.rows hR
 have hosz : o.size ≤ 22020096 := by have := numT_size (l := l.take i) (fun x hx => hl x (List.mem_of_mem_take hx)); rw [List.length_take] at this; rw [hv]; omega
 iterate 2 refine ⟨_,rfl,?_⟩
 rintro (_|_) h8
 ·replace h8 : ¬ ((i : Int) < (l.length : Int)) := of_decide_eq_false h8
  refine Cu lo0 st' [(0,vS p l.length),(2,.string ⟨#[]⟩),(3,.string o),(4,vI (i : Int)),(8,vB false)] fun _ => ?_
  refine cxs ?_
  exact cxs (Rt ⟨congrArg Value.string (by rw [hv,show i = l.length by omega,List.take_length]),hP⟩)
 ·replace h8 : (i : Int) < (l.length : Int) := of_decide_eq_true h8
  refine Cu lo0 st' [(0,vS p l.length),(2,.string ⟨#[]⟩),(3,.string o),(4,vI (i : Int)),(8,vB true)] fun _ => ?_
  refine cxs ?_
  refine ⟨_,rfl,?_⟩
  rintro (_|_) h12
  ·replace h12 : ¬ ((i : Int) > 0) := of_decide_eq_false h12
   refine Cu lo0 st' [(0,vS p l.length),(2,.string ⟨#[]⟩),(3,.string o),(4,vI (i : Int)),(8,vB true),(12,vB false)] fun _ => ?_
   refine cxs ?_
   refine op_at i (hP.rows hR) (by omega) rfl rfl rfl rfl rfl rfl rfl ?_
   intro x18 b18 d18 k18 hy18 hb18 hm18 hc18 ho18
   refine ⟨_,op_ldc (i := 0) rfl rfl rfl rfl hm18 hc18 rfl rfl,?_⟩
   have hx20 := hl _ (List.mem_of_getElem? hy18)
   have hsz20 := itoaB_size hx20
   refine ⟨_,rfl,(ac_spec_Digits x18 st' hx20).mono ?_⟩
   rintro _ s20 ⟨rfl,hP20⟩
   refine ⟨_,op_cat (a := o) (b := itoaB x18) rfl rfl rfl (by omega),?_⟩
   refine Cu lo0 s20 [(0,vS p l.length),(2,.string ⟨#[]⟩),(3,.string (o ++ itoaB x18)),(4,vI (i : Int)),(8,vB true),(12,vB false)] fun _ => ?_
   have ew10 : IntKind.wrap .i64 ((i : Int) + (1)) = ((i + 1 : Nat) : Int) := (wrap_i64 (by omega) (by omega)).trans (by omega)
   refine ⟨_,rfl,?_⟩
   exact ⟨(i + 1,o ++ itoaB x18),l.length - (i + 1),by omega,⟨rfl,rfl,rfl,congrArg (Value.int .i64) ew10,trivial⟩,rfl,rfl,by simp only; omega,by
    simp only
    obtain rfl : i = 0 := by omega
    rw [take_snoc hy18,hv,List.take_zero,List.nil_append,numT_one,numT_nil]
    exact ba_ext (by rw [ba_app]; rfl),hP.trans hP20⟩
  ·replace h12 : (i : Int) > 0 := of_decide_eq_true h12
   refine Cu lo0 st' [(0,vS p l.length),(2,.string ⟨#[]⟩),(3,.string o),(4,vI (i : Int)),(8,vB true),(12,vB true)] fun _ => ?_
   refine ⟨_,op_cat (a := o) (b := ⟨#[44]⟩) rfl rfl rfl (by show o.size + 1 ≤ _; omega),?_⟩
   refine Cu lo0 st' [(0,vS p l.length),(2,.string ⟨#[]⟩),(3,.string (o ++ ⟨#[44]⟩)),(4,vI (i : Int)),(8,vB true),(12,vB true)] fun _ => ?_
   refine op_at i (hP.rows hR) (by omega) rfl rfl rfl rfl rfl rfl rfl ?_
   intro x18 b18 d18 k18 hy18 hb18 hm18 hc18 ho18
   refine ⟨_,op_ldc (i := 0) rfl rfl rfl rfl hm18 hc18 rfl rfl,?_⟩
   have hx20 := hl _ (List.mem_of_getElem? hy18)
   have hsz20 := itoaB_size hx20
   refine ⟨_,rfl,(ac_spec_Digits x18 st' hx20).mono ?_⟩
   rintro _ s20 ⟨rfl,hP20⟩
   refine ⟨_,op_cat (a := o ++ ⟨#[44]⟩) (b := itoaB x18) rfl rfl rfl (by rw [ByteArray.size_append]; show o.size + 1 + _ ≤ _; omega),?_⟩
   refine Cu lo0 s20 [(0,vS p l.length),(2,.string ⟨#[]⟩),(3,.string (o ++ ⟨#[44]⟩ ++ itoaB x18)),(4,vI (i : Int)),(8,vB true),(12,vB true)] fun _ => ?_
   have ew10 : IntKind.wrap .i64 ((i : Int) + (1)) = ((i + 1 : Nat) : Int) := (wrap_i64 (by omega) (by omega)).trans (by omega)
   refine ⟨_,rfl,?_⟩
   exact ⟨(i + 1,o ++ ⟨#[44]⟩ ++ itoaB x18),l.length - (i + 1),by omega,⟨rfl,rfl,rfl,congrArg (Value.int .i64) ew10,trivial⟩,rfl,rfl,by simp only; omega,by
    simp only
    have hne : l.take i ≠ [] := fun h0 => by have := congrArg List.length h0; rw [List.length_take] at this; simp only [List.length_nil] at this; omega
    rw [take_snoc hy18,numT_snoc hne,← hv]; rfl,hP.trans hP20⟩
structure LW where
 cap : Int
 frm : Int
 p : Option Addr
 l : List SV
 C : Pc
 ok : l = [] ∨ ∃ a o,C.p = some ⟨a,0,none⟩ ∧ p = some ⟨a,o,none⟩ ∧ ∀ (j : Nat) x,l[j]? = some x → (C.cs.drop (o + j * 2)).take 2 = cSV x
abbrev LW.v (g : LW) : LV := ⟨g.cap,g.frm,g.p,g.l⟩
abbrev LW.x (g : LW) : Lg := g.v.x
theorem LW.rows {st : St} {g : LW} (h : g.C.own st) : Rows st 2 cSV g.p g.l := by
 rcases g.ok with h0 | ⟨a,o,h1,h2,h3⟩
 ·exact .inl h0
 ·rcases h with ⟨h4,_⟩ | ⟨b,h4,hb,hm⟩
  ·rw [h1] at h4; cases h4
  ·rw [h1] at h4
   injection h4 with h4
   injection h4 with h4
   subst h4
   exact .inr ⟨a,o,_,h2,hm,hb,h3⟩
structure FV where
 p : Option Addr
 l : List Flr
structure TT where
 p : Option Addr
 t : List RV
abbrev TT.x (g : TT) : List (List Int) := rls g.t
end Go.Proofs.YtpnolkhfeliehaaDoor.AM
namespace Go.Proofs.YtpnolkhfeliehaaDoor.AM
open Go Go.Proofs
set_option linter.unusedVariables false
set_option linter.unusedSimpArgs false
def Frs (a b : St) (l : List Pc) : Prop := OwnP b l ∧ NewP a.next l ∧ Pres a b
theorem Frs.join {a b c : St} {l m : List Pc} (h : Frs a b l) (k : Frs b c m) : Frs a c (l ++ m) :=
 ⟨h.1.join k.2.2 k.1 k.2.1,h.2.1.app (k.2.1.le h.2.2.1),h.2.2.trans k.2.2⟩
theorem PrL.inl {a b : List Pc} {st st' : St} (h : PrL (a.map (·.p)) st st') : PrL ((a ++ b).map (·.p)) st st' := h.mono fun p hp => by rw [List.map_append]; exact List.mem_append_left _ hp
theorem PrL.inr {a b : List Pc} {st st' : St} (h : PrL (b.map (·.p)) st st') : PrL ((a ++ b).map (·.p)) st st' := h.mono fun p hp => by rw [List.map_append]; exact List.mem_append_right _ hp
structure Tr where
 leaves : List Int
 root : Int
structure TV extends RV where
 root : Int
abbrev TV.x (t : TV) : Tr := ⟨t.l,t.root⟩
structure Ses where
 peer : Int
 num : Int
 inn : Bool
 age : Int
structure Ris where
 inc : Int
 beat : Int
 tick : Int
abbrev cSess (x : Ses) : List Value := [vI x.peer,vI x.num,vB x.inn,vI x.age]
abbrev cRise (x : Ris) : List Value := [vI x.inc,vI x.beat,vI x.tick]
structure SesV where
 p : Option Addr
 l : List Ses
structure RisV where
 p : Option Addr
 l : List Ris
structure Mg where
 kind : Int
 frm : Int
 to : Int
 num : Int
 hi : Int
 tree : Tr
 vec : List Int
 leaves : List Int
 part : Sta
 marks : List Flr
structure MV where
 kind : Int
 frm : Int
 to : Int
 num : Int
 hi : Int
 tree : TV
 vec : RV
 leaves : RV
 part : SV
 marks : FV
abbrev MV.x (m : MV) : Mg := ⟨m.kind,m.frm,m.to,m.num,m.hi,m.tree.x,m.vec.l,m.leaves.l,m.part.x,m.marks.l⟩
structure RdM (st : St) (m : MV) : Prop where
 tree : Rows st 1 fI m.tree.p m.tree.l
 vec : Rows st 1 fI m.vec.p m.vec.l
 leaves : Rows st 1 fI m.leaves.p m.leaves.l
 part : RdS st m.part
 marks : Rows st 2 cFlr m.marks.p m.marks.l
theorem RdM.pres {st st' : St} {m : MV} (h : RdM st m) (k : Pres st st') : RdM st' m := ⟨k.rows h.tree,k.rows h.vec,k.rows h.leaves,h.part.pres k,k.rows h.marks⟩
structure Nd where
 id : Int
 n : Int
 s : Sta
 t : Tr
 g : Lg
 got : List Int
 acked : List Int
 seen : List (List Int)
 num : Int
 slots : Int
 sess : List Ses
 wait : Int
 limit : Int
 clock : Int
 rises : List Ris
structure NV where
 id : Int
 n : Int
 s : SV
 t : TV
 g : LV
 got : RV
 acked : RV
 seen : TT
 num : Int
 slots : Int
 sess : SesV
 wait : Int
 limit : Int
 clock : Int
 rises : RisV
abbrev NV.x (v : NV) : Nd := ⟨v.id,v.n,v.s.x,v.t.x,v.g.x,v.got.l,v.acked.l,v.seen.x,v.num,v.slots,v.sess.l,v.wait,v.limit,v.clock,v.rises.l⟩
structure NW where
 id : Int
 n : Int
 s : SV
 t : TV
 g : LW
 got : RV
 acked : RV
 seen : TT
 num : Int
 slots : Int
 sess : SesV
 wait : Int
 limit : Int
 clock : Int
 rises : RisV
abbrev NW.v (v : NW) : NV := ⟨v.id,v.n,v.s,v.t,v.g.v,v.got,v.acked,v.seen,v.num,v.slots,v.sess,v.wait,v.limit,v.clock,v.rises⟩
abbrev NW.x (v : NW) : Nd := v.v.x
structure RdN (st : St) (v : NV) : Prop where
 s : RdS st v.s
 t : Rows st 1 fI v.t.p v.t.l
 g : RdL st v.g.p v.g.l
 got : Rows st 1 fI v.got.p v.got.l
 acked : Rows st 1 fI v.acked.p v.acked.l
 seen : RdT st v.seen.p v.seen.t
 sess : Rows st 4 cSess v.sess.p v.sess.l
 rises : Rows st 3 cRise v.rises.p v.rises.l
theorem RdN.pres {st st' : St} {v : NV} (h : RdN st v) (k : Pres st st') : RdN st' v := ⟨h.s.pres k,k.rows h.t,h.g.pres k,k.rows h.got,k.rows h.acked,h.seen.pres k,k.rows h.sess,k.rows h.rises⟩
end Go.Proofs.YtpnolkhfeliehaaDoor.AM
namespace Go.Proofs.YtpnolkhfeliehaaDoor.AM
open Go Go.Proofs
set_option linter.unusedVariables false
set_option linter.unusedSimpArgs false
set_option maxRecDepth 100000
set_option maxHeartbeats 4000000
theorem ac_laws_eqIntSR (p q : Option Addr) (a b : List Int) (st : St) (hA : Rows st 1 fI p a) (hB : Rows st 1 fI q b) (hs : szOk a.length) : C 7 [vS p a.length,vS q b.length] st (fun v s => ∃ x,v = .bool x ∧ (x = true ↔ a = b) ∧ s = st) := by
 have hs : a.length ≤ 1048576 := hs
 refine AC.enterX (i := ⟨[],[],[0,1,4,5,10,14,25],[]⟩) [(6,[],[])] Tryd.func7 rfl rfl (by kernel_rfl) (by kernel_rfl) Tryd.ntmps7 (Lb rfl) rfl ?_
 refine Cu lo0 st [(0,vS p a.length),(1,vS q b.length),(4,vB false)] fun _ => ?_
 iterate 3 refine ⟨_,rfl,?_⟩
 rintro (_|_) h10
 ·replace h10 : (a.length : Int) = (b.length : Int) := bne_eq_false_iff_eq.1 h10
  refine Cu lo0 st [(0,vS p a.length),(1,vS q b.length),(4,vB false),(10,vB false)] fun _ => ?_
  refine cxs ?_
  refine Cu lo0 st [(0,vS p a.length),(1,vS q b.length),(4,vB false),(5,vI 0)] fun _ => ?_
  refine AW.loop0 (fun i : Nat => [(0,vS p a.length),(1,vS q b.length),(5,vI (i : Int))]) (fun m (i : Nat) st' => m = a.length - i ∧ i ≤ a.length ∧ (∀ (j : Nat) x y,j < i → a[j]? = some x → b[j]? = some y → x = y) ∧ st = st') 0 _ ⟨rfl,rfl,rfl,trivial⟩ rfl ⟨rfl,Nat.zero_le _,fun j x y h => absurd h (Nat.not_lt_zero _),rfl⟩ ?_
  rintro m i ρ0 st' ⟨rfl,hi,heq,rfl⟩
  iterate 2 refine ⟨_,rfl,?_⟩
  rintro (_|_) h14
  ·replace h14 : ¬ ((i : Int) < (a.length : Int)) := of_decide_eq_false h14
   refine Cu lo0 st [(0,vS p a.length),(1,vS q b.length),(5,vI (i : Int)),(14,vB false)] fun _ => ?_
   refine cxs ?_
   exact cxs (Rt ⟨true,rfl,⟨fun _ => iff_lists (by omega) fun j x y hj hx hy => heq j x y (by omega) hx hy,fun _ => rfl⟩,rfl⟩)
  ·replace h14 : (i : Int) < (a.length : Int) := of_decide_eq_true h14
   refine Cu lo0 st [(0,vS p a.length),(1,vS q b.length),(5,vI (i : Int)),(14,vB true)] fun _ => ?_
   refine cxs ?_
   refine op_at i hA (by omega) rfl rfl rfl rfl rfl rfl rfl ?_
   intro x19 b19 d19 k19 hy19 hb19 hm19 hc19 ho19
   refine ⟨_,op_ldc (i := 0) rfl rfl rfl rfl hm19 hc19 rfl rfl,?_⟩
   refine op_at i hB (by omega) rfl rfl rfl rfl rfl rfl rfl ?_
   intro x23 b23 d23 k23 hy23 hb23 hm23 hc23 ho23
   refine ⟨_,op_ldc (i := 0) rfl rfl rfl rfl hm23 hc23 rfl rfl,?_⟩
   refine ⟨_,rfl,?_⟩
   rintro (_|_) h25
   ·replace h25 : x19 = x23 := bne_eq_false_iff_eq.1 h25
    refine Cu lo0 st [(0,vS p a.length),(1,vS q b.length),(5,vI (i : Int)),(14,vB true),(25,vB false)] fun _ => ?_
    refine cxs ?_
    have ew16 : IntKind.wrap .i64 ((i : Int) + (1)) = ((i + 1 : Nat) : Int) := (wrap_i64 (by omega) (by omega)).trans (by omega)
    refine ⟨_,rfl,?_⟩
    refine ⟨i + 1,a.length - (i + 1),by omega,⟨rfl,rfl,congrArg (Value.int .i64) ew16,trivial⟩,rfl,rfl,by omega,fun j u v hj hu hv => ?_,rfl⟩
    rcases Nat.lt_or_ge j i with h | h
    ·exact heq j u v h hu hv
    ·obtain rfl : j = i := by omega
     rw [hy19] at hu; rw [hy23] at hv
     injection hu with hu; injection hv with hv
     rw [← hu,← hv]; exact h25
   ·replace h25 : ¬ (x19 = x23) := bne_iff_ne.1 h25
    refine Cu lo0 st [(0,vS p a.length),(1,vS q b.length),(5,vI (i : Int)),(14,vB true),(25,vB true)] fun _ => ?_
    refine cxs ?_
    refine ⟨.inl rfl,_,rfl,false,rfl,⟨fun h => absurd h Bool.false_ne_true,fun h => absurd ?_ h25⟩,rfl⟩
    rw [h,hy23] at hy19
    injection hy19 with h
    exact h.symm
 ·replace h10 : ¬ ((a.length : Int) = (b.length : Int)) := bne_iff_ne.1 h10
  refine Cu lo0 st [(0,vS p a.length),(1,vS q b.length),(4,vB false),(10,vB true)] fun _ => ?_
  exact cxs (Rt ⟨false,rfl,⟨fun h => absurd h Bool.false_ne_true,fun h => absurd (congrArg (fun l : List Int => (l.length : Int)) h) h10⟩,rfl⟩)
noncomputable def stT (L : LL) : St := ⟨fun a => if a = tabG then some ⟨false,1,tabV⟩ else (stL Tryd.prog.globals.size L).mem a,Tryd.prog.globals.size + L.length⟩
theorem tabG_lt : tabG < Tryd.prog.globals.size := of_decide_eq_true (by kernel_rfl)
theorem stL_low {G : Nat} {L : LL} {a : Nat} {b : Blk} (h : (stL G L).mem a = some b) : G ≤ a := by
 simp only [stL] at h
 split at h
 ·cases h
 ·omega
theorem stT_of {L : LL} {a : Nat} {b : Blk} (h : (stL Tryd.prog.globals.size L).mem a = some b) : (stT L).mem a = some b := by
 have h1 := stL_low h
 have h2 := tabG_lt
 simp only [stT]
 rw [if_neg (by omega)]
 exact h
theorem tab_stT (L : LL) : Tab (stT L) := ⟨by have := tabG_lt; show tabG < _ + _; omega,by simp only [stT,if_pos]⟩
theorem Rows.stT {α : Type} {z : Nat} {f : α → List Value} {L : LL} {p : Option Addr} {l : List α} (h : Rows (stL Tryd.prog.globals.size L) z f p l) : Rows (AM.stT L) z f p l := by
 rcases h with h | ⟨b,off,blk,h1,h2,h3,h4⟩
 ·exact .inl h
 ·exact .inr ⟨b,off,blk,h1,stT_of h2,h3,h4⟩
theorem Ints.stT {k : IntKind} {L : LL} {p : Option Addr} {l : List Int} (h : Ints (stL Tryd.prog.globals.size L) k p l) : Ints (AM.stT L) k p l := by
 rcases h with h | ⟨b,off,blk,h1,h2,h3,h4⟩
 ·exact .inl h
 ·exact .inr ⟨b,off,blk,h1,stT_of h2,h3,h4⟩
theorem stT_ro {L : LL} : ∀ a b,(stT L).mem a = some b → b.rw = false := by
 intro a b h
 simp only [stT] at h
 split at h
 ·injection h with h; rw [← h]
 ·exact stL_ro a b h
theorem relT {L : LL} {w : World} (hG : Good Tryd.prog.globals.size w L) (hT : Lib.TabIs Tryd.prog w "internal/strconv.uint64pow10" .u64 Lib.pow10Tab) : Rel (ιL Tryd.prog.globals.size L) lo0 (stT L) w := by
 have h := relL (fun x hx => (hG x hx).1) (fun x hx => (hG x hx).2)
 have hg : Tryd.prog.globalNamed "internal/strconv.uint64pow10" = some tabG := by kernel_rfl
 obtain ⟨c,e,fr,hc,hcc⟩ : ∃ c e fr,w.heap[tabG]? = some (.cells c e fr) ∧ c = tabV.toArray := by
  have h1 := hT
  unfold Lib.TabIs World.var? at h1
  rw [hg] at h1
  simp only [Option.bind_some] at h1
  split at h1
  ·rename_i c e fr hc
   injection h1 with h1
   exact ⟨c,e,fr,hc,h1⟩
  ·cases h1
 have hlt := (Array.getElem?_eq_some_iff.1 hc).1
 have hh : (ιL Tryd.prog.globals.size L).h tabG = (tabG,0) := (glL (P := Tryd.prog) tabG tabG_lt).2
 have key : ∀ a b,(stT L).mem a = some b → (a = tabG ∧ b = ⟨false,1,tabV⟩) ∨ (stL Tryd.prog.globals.size L).mem a = some b := fun a b hb => by
  simp only [stT] at hb
  split at hb
  ·rename_i he; injection hb with hb; exact .inl ⟨he,hb.symm⟩
  ·exact .inr hb
 refine ⟨h.n,h.g,fun a b hb => ?_,fun a b hb => ?_,h.lg,h.lk,fun a b a' b' hne hb hb' hr => ?_,fun a b t g cs hb ht => by simp [lo0] at ht,h.ll,fun a b hb => ?_⟩
 ·rcases key a b hb with ⟨rfl,_⟩ | hb
  ·have := tabG_lt; show tabG < _ + _; omega
  ·exact h.lt a b hb
 ·rcases key a b hb with ⟨rfl,rfl⟩ | hb
  ·refine ⟨fun i x hx => ?_,(fun hr => by cases hr),fun _ _ => ?_⟩
   ·rw [hh,Nat.zero_add]
    have hx : tabV[i]? = some x := hx
    refine ⟨x,by rw [cell_of hc,hcc,List.getElem?_toArray]; exact hx,?_⟩
    obtain ⟨z,_,rfl⟩ := List.mem_map.1 (List.mem_of_getElem? hx)
    exact (rfl : Value.int .u64 z = Value.int .u64 z)
   ·rw [hh]
    exact ⟨rfl,c,e,fr,hc,by rw [hcc,List.size_toArray]⟩
  ·exact h.hk a b hb
 ·rw [stT_ro a b hb] at hr
  cases hr
 ·rcases key a b hb with ⟨rfl,_⟩ | hb
  ·rw [hh]; exact hlt
  ·exact h.hb a b hb
theorem law_door {f : FuncId} {L : LL} {args cs : List Value} {w : World} (hG : Good Tryd.prog.globals.size w L) (hT : Lib.TabIs Tryd.prog w "internal/strconv.uint64pow10" .u64 Lib.pow10Tab)
  (h : C f args (stT L) (fun v s => v = .bool true)) (hA : AR (ιL Tryd.prog.globals.size L) args cs) {fn : Func} {c : Code} (hf : Tryd.prog.funcs[f]? = some fn) (hb : fn.body = some c) : Calls Tryd.prog f cs.toArray w (fun e w' => e = .returned (.bool true) ∧ RowKit.Below w.heap.size w w') := by
 obtain ⟨h1,h2⟩ := hA.get
 exact law_from ext0_ok h (fun v s h => h) rfl glL (relT hG hT) stT_ro (by simpa using h1.symm) (fun i x hx => by obtain ⟨y,h3,h4⟩ := h2 i x hx; exact ⟨y,by simpa using h3,h4⟩) hf hb
theorem wt_intsR {k : Nat} {L : LL} {us : List Value} (h : WT Tryd.prog Tryd.prog.globals.size (k + 2) 22 L us) : ∃ p l,us = [vS p l.length] ∧ Rows (stL Tryd.prog.globals.size L) 1 fI p l ∧ l.length ≤ maxLen ∧ ∀ x ∈ l,i64 x := by
 obtain ⟨p,l,h1,h2,h3,h4⟩ := WT.rows (f := fI) (Q := fun x => i64 x) Tryd.underlying22 (z := 1) (by kernel_rfl) (fun us h => by
  obtain ⟨n,h,hw⟩ := WT.int Tryd.underlying3 h
  refine ⟨n,h,?_⟩
  have e1 : IntKind.i64.min = -9223372036854775808 := rfl
  have e2 : IntKind.i64.max = 9223372036854775807 := rfl
  simp only [Lit.wf,Bool.and_eq_true,decide_eq_true_eq] at hw
  rw [e1,e2] at hw
  exact hw) h
 exact ⟨p,l,h1,h2,h3,h4⟩
theorem ac_laws_FnExactVecText (p : Option Addr) (l : List Int) (st : St) (hR : Rows st 1 fI p l) (hm : l.length ≤ maxLen) (hl : ∀ x ∈ l,i64 x) (hT : Tab st) : C 3 [vS p l.length] st (fun v s => v = vB true) := by
 refine AC.enterX (i := ⟨[],[],[0,2,3,4,5,8,18,23],[]⟩) [] Tryd.func3 rfl rfl (by kernel_rfl) (by kernel_rfl) Tryd.ntmps3 (Lb rfl) rfl ?_
 refine Cu lo0 st [(0,vS p l.length),(2,vB false)] fun _ => ?_
 iterate 2 refine ⟨_,rfl,?_⟩
 rintro (_|_) h8
 ·replace h8 : ¬ ((l.length : Int) > 1048576) := of_decide_eq_false h8
  refine Cu lo0 st [(0,vS p l.length),(2,vB false),(8,vB false)] fun _ => ?_
  refine cxs ?_
  have hs : szOk l.length := by unfold szOk; omega
  refine ⟨_,rfl,(ac_laws_toIntS p l st hR hs).mono ?_⟩
  rintro _ s10 ⟨q10,rfl,hO10,hP10,hN10⟩
  refine ⟨_,rfl,(ac_spec_VecText q10 l s10 (hO10.rows fI_len) hs hl).mono ?_⟩
  rintro _ s11 ⟨rfl,hP11⟩
  refine Cu lo0 s11 [(0,vS p l.length),(2,vB false),(3,.string (numT l))] fun _ => ?_
  refine ⟨_,rfl,(ac_laws_toIntS p l s11 ((hP10.trans hP11).rows hR) hs).mono ?_⟩
  rintro _ s13 ⟨q13,rfl,hO13,hP13,hN13⟩
  refine Cu lo0 s13 [(0,vS p l.length),(2,vB false),(3,.string (numT l)),(4,vS q13 l.length)] fun _ => ?_
  have hP13' : Pres st s13 := (hP10.trans hP11).trans hP13
  refine ⟨_,rfl,(ac_impl_VecText q13 l s13 (hO13.rows fI_len) hs hl (hT.pres hP13')).mono ?_⟩
  rintro _ s15 ⟨rfl,hP15⟩
  refine Cu lo0 s15 [(0,vS p l.length),(2,vB false),(3,.string (numT l)),(4,vS q13 l.length),(5,.string (numT l))] fun _ => ?_
  refine ⟨_,rfl,?_⟩
  rintro (_|_) h18
  rotate_left
  ·exact absurd (rfl) (str_ne h18)
  refine Cu lo0 s15 [(0,vS p l.length),(2,vB false),(4,vS q13 l.length),(18,vB false)] fun _ => ?_
  refine cxs ?_
  refine ⟨_,rfl,(ac_laws_toIntS p l s15 ((hP13'.trans hP15).rows hR) hs).mono ?_⟩
  rintro _ s21 ⟨q21,rfl,hO21,hP21,hN21⟩
  refine ⟨_,rfl,(AC.tru (ac_laws_eqIntSR q13 q21 l l s21 ((hP15.trans hP21).rows (hO13.rows fI_len)) (hO21.rows fI_len) hs) rfl).mono ?_⟩
  rintro _ s21 ⟨rfl,rfl⟩
  refine ⟨_,rfl,?_⟩
  refine Cu lo0 s21 [(2,vB false),(23,vB false)] fun _ => ?_
  refine cxs ?_
  refine cxs ?_
  exact ⟨.inl rfl,_,rfl,rfl⟩
 ·replace h8 : (l.length : Int) > 1048576 := of_decide_eq_true h8
  refine Cu lo0 st [(0,vS p l.length),(2,vB false),(8,vB true)] fun _ => ?_
  refine cxs ?_
  exact ⟨.inl rfl,_,rfl,rfl⟩
end Go.Proofs.YtpnolkhfeliehaaDoor.AM
