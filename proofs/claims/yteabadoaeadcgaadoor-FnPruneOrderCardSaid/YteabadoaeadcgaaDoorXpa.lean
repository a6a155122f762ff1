/- Part 1 of the texts on which the law's proof rests. -/
import Derived.Test.YteabadoaeadcgaaDoorXpA14
import Derived.Test.YteabadoaeadcgaaDoorProg
import Derived.KernelRfl
import Derived.Lib.Bytealg
import Derived.Laws.Externs
import Derived.Test.YteabadoaeadcgaaDoorShelf
import Derived.Below
import Derived.Laws.Strings
namespace Go.Proofs.YteabadoaeadcgaaDoor.AM
open Go Go.Proofs
set_option linter.unusedVariables false
def LTl : List (Nat × FInfo) := [(2,⟨[],[],[],[]⟩),
 (3,⟨[3,4,5,7,10,11,13],[3,4,5,7,10,11,13],[0,2,3,4,5,6,8,9,10,11,13,15,35,37],[]⟩),
 (4,⟨[3,5,9],[3,5,9,99,104],[0,2,3,4,5,6,7,8,9,10,12,26,29,38,61,63,90,110],[]⟩),
 (5,⟨[],[],[0,2],[]⟩),
 (6,⟨[2,3],[2,3],[0,2,3],[]⟩),
 (7,⟨[2,3,4],[2,3,4],[0,1,2,3,4,5,13],[]⟩),
 (8,⟨[2,3,4],[2,3,4],[0,1,2,3,4,5,13],[]⟩),
 (9,⟨[],[],[0,2,3,7,9,10,11],[]⟩),
 (10,⟨[9],[9,42,48,52],[0,1,2,6,7,9,30,32,33,34,35],[]⟩),
 (11,⟨[1],[1],[0,1,2,3,4,5,8,15],[]⟩),
 (12,⟨[2,4,5],[2,4,5,27,34],[0,1,2,4,5,6,7,10,15,26],[]⟩),
 (13,⟨[2,3],[2,3,7,10,15,18,24,30,35,42,48,53],[0,1,2,3,4,5,6,22,27,40,45,58],[]⟩),
 (14,⟨[1],[1],[0,1,2],[]⟩),
 (15,⟨[2,5],[2,5],[0,2,3,4,5,6,7,15,19],[]⟩),
 (16,⟨[2,4,5],[2,4,5,27,34],[0,1,2,4,5,6,7,10,15,26],[]⟩),
 (17,⟨[1,4,6],[1,4,6,8,14,19,27,29,40,46,47,50,56,62,67,75,77,88],[0,1,2,3,4,5,6,11,54,59,92],[]⟩),
 (18,⟨[2,5],[2,5,23,26,28],[0,1,2,4,5,6,9,16,22],[]⟩),
 (19,⟨[2,6],[2,6,7,14,18],[0,1,2,4,6,8,9,10,11,17],[]⟩),
 (20,⟨[],[],[0,1,4,5,6,7,8,9,10,11,20,30],[]⟩),
 (21,⟨[2,4,7],[2,4,7,8,15,19],[0,1,2,4,5,7,9,10,11,12,18],[]⟩),
 (22,⟨[4],[4,12,17,32],[0,2,3,4,5,6,7,8,36],[]⟩),
 (23,⟨[2,3,5],[2,3,5],[0,1,2,3,4,5,6],[]⟩),
 (24,⟨[2,3,5,6],[2,3,5,6],[0,2,3,4,5,6,14,15,19,26],[]⟩),
 (25,⟨[1,4,6],[1,4,6,7,15,20,29,36,42,50,55,61,62,65,74,81],[0,1,2,3,4,5,6,8,9,10,11,40,43,44,45,46,85],[]⟩),
 (26,⟨[2,3,4,5,7,9,11],[2,3,4,5,7,9,11,40,44,51,54,61],[0,1,2,3,4,5,6,7,9,11,12,15,43,53],[]⟩),
 (27,⟨[2,3,4,5,8,10,12],[2,3,4,5,8,10,12,27,34,66,70,77],[0,1,2,3,4,5,6,7,8,9,10,11,12,15,26,52,64,69],[]⟩),
 (28,⟨[],[],[0,1,2,6],[]⟩),
 (29,⟨[],[],[0,2,3,5,7,8,9,10],[]⟩),
 (30,⟨[1,2],[1,2,4,8],[0,1,2],[]⟩),
 (31,⟨[1,5,7],[1,5,7,9,17,21,28,36,41],[0,1,2,3,5,7,10,11,12,13,29,30,31,32],[]⟩),
 (32,⟨[1,5],[1,5,11,18,19],[0,1,2,3,5,9,12,13,14,15,21],[]⟩),
 (33,⟨[],[],[0,2,3,4,15],[]⟩),
 (34,⟨[2,3],[2,3,10,20,23,34,37,41,44,54,58,60],[0,2,3,7,8,21,35,40,52,57],[]⟩),
 (35,⟨[],[],[0,2,3,7,8,16,25],[]⟩),
 (36,⟨[],[],[0,1,4],[]⟩),
 (37,⟨[],[],[0,1,2,6,7,8,29,34],[]⟩),
 (38,⟨[1],[1],[0,1,2,3,4,5,8,15],[]⟩),
 (39,⟨[1,2],[1,2,4,8],[0,1,2],[]⟩),
 (40,⟨[],[],[0,1,4,7],[]⟩),
 (41,⟨[],[],[0,1,4,5,6,9,13,24,37],[]⟩),
 (42,⟨[2,5],[2,5,21,24,27],[0,1,2,4,5,6,9,17,23],[]⟩),
 (43,⟨[],[],[0,2],[]⟩),
 (44,⟨[1],[1,3,7,12,17,22],[0,1,2],[]⟩),
 (45,⟨[2],[2,7,13,21],[0,1,2,4,5,10,20],[]⟩),
 (46,⟨[],[],[0,1,2,6],[]⟩),
 (47,⟨[],[],[0,2],[]⟩),
 (48,⟨[2,3],[2,3,5,7,11,13],[0,1,2,3,4],[]⟩),
 (49,⟨[],[],[0,1,4,5,6,7,8,10,12],[]⟩),
 (50,⟨[1],[1,3,7,12,17,22],[0,1,2],[]⟩),
 (51,⟨[2,3,4],[2,3,4],[0,1,2,3,4,8],[]⟩),
 (52,⟨[],[],[0,1,4,7],[]⟩),
 (53,⟨[2,4],[2,4,8,14,22],[0,1,2,4,5,6,11,21],[]⟩),
 (54,⟨[2,3],[2,3,7,9,12,14,17,19,22,24,43,45,48,50],[0,1,2,3,4,5,6,31,38,47],[]⟩),
 (55,⟨[],[],[0,2],[]⟩),
 (56,⟨[],[],[0,2],[]⟩),
 (57,⟨[1],[1,4,10,15,20,25],[0,1,2,3,5,6,8],[]⟩),
 (58,⟨[],[],[],[(0,[]),(1,[]),(2,[]),(3,[]),(4,[]),(5,[]),(6,[]),(7,[]),(8,[]),(9,[]),(10,[]),(11,[])]⟩),
 (59,⟨[2,3,6],[2,3,6],[0,2,3,4,5,6,8,9,15,33],[]⟩),
 (60,⟨[2,3],[2,3,13,19,25,31,34],[0,2,3,7,8,14,20,26,32],[]⟩),
 (61,⟨[],[],[0,1,4],[]⟩),
 (62,⟨[],[],[0,2,3,4,5,13],[]⟩),
 (63,⟨[],[],[0,2,3,4,9],[]⟩),
 (64,⟨[],[],[0,2,3,7,43],[]⟩),
 (65,⟨[],[],[0,1,4,5,10,12,13,14,24],[]⟩),
 (66,⟨[],[],[0,1,4,5,10,12,13,14,24],[]⟩),
 (67,⟨[],[],[0,2,3,34],[]⟩),
 (68,⟨[2,3],[2,3,5,7,10,12,15,17,20,22,25,27],[0,1,2,3,4],[]⟩),
 (69,⟨[],[],[0,1,4,7],[]⟩),
 (70,⟨[],[],[0,2,3],[]⟩),
 (71,⟨[],[],[],[(0,[]),(1,[]),(2,[]),(3,[]),(4,[]),(5,[]),(6,[]),(7,[]),(8,[]),(9,[]),(10,[]),(11,[])]⟩),
 (72,⟨[],[],[0,1,7,21],[]⟩),
 (73,⟨[],[],[0,1,4,5],[]⟩),
 (74,⟨[],[],[0,2],[]⟩),
 (75,⟨[3,4,6],[3,4,6],[0,1,3,4,5,6,14],[]⟩),
 (76,⟨[2],[2],[0,2],[]⟩),
 (77,⟨[],[],[0,2,3,4,8,12],[]⟩),
 (78,⟨[],[],[0,2,3,5,6,7,8,9,14],[]⟩),
 (79,⟨[],[],[0,1,4,5,6,11,12,13,16,19],[]⟩),
 (80,⟨[],[],[0,1,4],[]⟩),
 (81,⟨[],[],[0,2],[]⟩),
 (82,⟨[],[],[0,6,19],[]⟩),
 (83,⟨[],[],[0,1,4],[]⟩),
 (84,⟨[],[],[0,1,4],[]⟩),
 (85,⟨[],[],[0,2],[]⟩),
 (86,⟨[],[],[0,1,4],[]⟩),
 (87,⟨[],[],[0,1,4,5,6,7,9,11,17,23,34],[]⟩),
 (91,⟨[],[],[0,2,4],[]⟩),
 (92,⟨[],[],[0,2,3],[]⟩),
 (93,⟨[],[],[0,1,4,5,6,7,8,9,10,11,12,13,14,15,16,20,99,139,161],[]⟩),
 (94,⟨[],[],[0,1,2,3,4,10,11,12,13,14,15,16,17,18,28,30,34,46,68,89,94],[]⟩),
 (95,⟨[],[],[0,2],[]⟩),
 (96,⟨[],[],[0,2,4,8,14],[]⟩),
 (97,⟨[],[],[0,2,3],[]⟩),
 (98,⟨[],[],[0,2],[]⟩),
 (99,⟨[],[],[0,2],[]⟩),
 (100,⟨[],[],[0,2,4],[]⟩),
 (101,⟨[],[],[0,2,4],[]⟩),
 (124,⟨[],[],[],[]⟩)]
def LT (f : FuncId) : FInfo := (LTl.lookup f).getD ⟨[],[],[],[]⟩
def tabG : Nat := 1
def tabV : List Value := Lib.pow10Tab.map (Value.int .u64)
def Tab (st : St) : Prop := tabG < st.next ∧ st.mem tabG = some ⟨false,1,tabV⟩
def strOf : Value → ByteArray
 | .string s => s
 | _ => ⟨#[]⟩
def strL (st : St) (p : Option Addr) (n : Nat) : List ByteArray := match p with
 | some a => match st.mem a.block with
  | some blk => ((blk.cells.drop a.off).take n).map strOf
  | none => []
 | none => []
def joinB (l : List ByteArray) (sep : ByteArray) : ByteArray := ⟨(Lib.join (l.map (·.data.toList)) sep.data.toList).toArray⟩
def JoinOK (st : St) (p : Option Addr) (n : Nat) : Prop := n = 0 ∨ ∃ b o blk l,p = some ⟨b,o,none⟩ ∧ st.mem b = some blk ∧ (blk.cells.drop o).take n = List.map Value.string l ∧ l.length = n ∧ n ≤ 140737488355328
open Classical in
noncomputable def ext0 : String → List Value → St → Option (Value × St) := fun name args st =>
 if name = "internal/bytealg.abigen_runtime_cmpstring" then (match args with
  | [.string a,.string b] => some (.int .i64 (Lib.compareBytes a.data.toList b.data.toList),st)
  | _ => none) else
 if name = "strconv.Itoa" then (match args with
  | [.int .i64 n] => if -9223372036854775808 ≤ n ∧ n ≤ 9223372036854775807 ∧ Tab st then some (.string ⟨(Lib.itoa n).toArray⟩,st) else none
  | _ => none) else
 if name = "strings.Join" then (match args with
  | [.slice p n _,.string sep] => if JoinOK st p n ∧ (Lib.join ((strL st p n).map (·.data.toList)) sep.data.toList).length ≤ 140737488355328 then some (.string (joinB (strL st p n) sep),st) else none
  | _ => none) else none
theorem goes_below {ι : Inj} {lo : Lo} {st : St} {w w' : World} (h : Rel ι lo st w) (hb : RowKit.Below w.heap.size w w') : Goes ι lo st w ι lo st w' :=
 ⟨Ext.refl _,⟨h.n,h.g,h.lt,fun a b ha => (h.hk a b ha).mono (Ext.refl _) (by rw [h.n]; exact h.lt a b ha) (hb.block _ (h.hb a b ha)),h.lg,fun t g cs ht => (h.lk t g cs ht).mono (Ext.refl _) (by rw [h.g]; exact h.lg t g cs ht) (hb.block _ (h.lt_l ht)),h.hh,h.hl,h.ll,
  fun a b ha => Nat.lt_of_lt_of_le (h.hb a b ha) hb.size⟩,⟨hb.os,hb.tape,hb.output,hb.size,fun b hlt _ => hb.block b hlt⟩,fun _ hb' => .inl hb',fun _ _ h _ => h⟩
theorem below_grow (w : World) (k : Nat) (os : Array Obj) : RowKit.Below w.heap.size w (Sort.grow (w.drewN k) os) :=
 ⟨rfl,rfl,rfl,by show w.heap.size ≤ (w.heap ++ os).size; rw [Array.size_append]; omega,fun i hi => by show (w.heap ++ os)[i]? = w.heap[i]?; rw [Array.getElem?_append_left hi]⟩
set_option maxRecDepth 100000 in
theorem tab_is {ι : Inj} {st : St} {w : World} (hrel : Rel ι lo0 st w) (hGL : GL Tryd.prog ι) (hT : Tab st) : Lib.TabIs Tryd.prog w "internal/strconv.uint64pow10" .u64 Lib.pow10Tab := by
 obtain ⟨_,hm⟩ := hT
 obtain ⟨h1,_,h3⟩ := hrel.hk _ _ hm
 obtain ⟨h0,c,e,fr,hc,hsz⟩ := h3 rfl rfl
 have hi := (hGL tabG (of_decide_eq_true (by kernel_rfl))).2
 rw [hi] at hc
 have hcc : c = (Lib.pow10Tab.map fun z => Value.int .u64 z).toArray := by
  refine Array.ext_getElem? fun i => ?_
  by_cases hlt : i < tabV.length
  ·obtain ⟨y,hy,hv⟩ := h1 i _ (List.getElem?_eq_getElem hlt)
   rw [hi,Nat.zero_add,cell_of hc] at hy
   obtain ⟨z,hz⟩ : ∃ z,tabV[i] = .int .u64 z := ⟨_,List.getElem_map ..⟩
   rw [hz] at hv
   have hv : y = .int .u64 z := hv
   rw [hy,hv,← hz,List.getElem?_toArray]
   exact (List.getElem?_eq_getElem hlt).symm
  ·rw [Array.getElem?_eq_none (by rw [hsz]; exact Nat.le_of_not_lt hlt),List.getElem?_toArray,List.getElem?_eq_none]
   exact Nat.le_of_not_lt hlt
 unfold Lib.TabIs World.var?
 rw [show Tryd.prog.globalNamed "internal/strconv.uint64pow10" = some tabG from by kernel_rfl]
 simp only [Option.bind_some,hc,hcc]
theorem fn_at {P : Program} {f k : FuncId} {fn : Func} {s : String} (hf : P.funcs[f]? = some fn) (hname : fn.name = s) (h : ((List.range P.funcs.size).filter fun i => (P.funcs[i]?.map fun g => g.name) == some s) = [k]) : f = k := by
 have hm : f ∈ (List.range P.funcs.size).filter fun i => (P.funcs[i]?.map fun g => g.name) == some s :=
  List.mem_filter.2 ⟨List.mem_range.2 (Array.getElem?_eq_some_iff.1 hf).1,by rw [hf]; simp [hname]⟩
 rw [h] at hm
 exact List.mem_singleton.1 hm
theorem args1 {x : Value} {ι : Inj} {cargs : Array Value} (hsz : cargs.size = [x].length) (ha : ∀ (i : Nat) (y : Value),[x][i]? = some y → ∃ z : Value,cargs[i]? = some z ∧ VR ι y z) : ∃ z,cargs = #[z] ∧ VR ι x z := by
 obtain ⟨y0,hy0,hv0⟩ := ha 0 _ rfl
 obtain ⟨l⟩ := cargs
 match l,hsz,hy0 with
 | [z],_,h0 => simp at h0; exact ⟨z,rfl,h0 ▸ hv0⟩
theorem args2 {x1 x2 : Value} {ι : Inj} {cargs : Array Value} (hsz : cargs.size = [x1,x2].length) (ha : ∀ (i : Nat) (y : Value),[x1,x2][i]? = some y → ∃ z : Value,cargs[i]? = some z ∧ VR ι y z) : ∃ z1 z2,cargs = #[z1,z2] ∧ VR ι x1 z1 ∧ VR ι x2 z2 := by
 obtain ⟨y0,hy0,hv0⟩ := ha 0 _ rfl
 obtain ⟨y1,hy1,hv1⟩ := ha 1 _ rfl
 obtain ⟨l⟩ := cargs
 match l,hsz,hy0,hy1 with
 | [z1,z2],_,h0,h1 => simp at h0 h1; exact ⟨z1,z2,rfl,h0 ▸ hv0,h1 ▸ hv1⟩
theorem strL_of {st : St} {b o : Nat} {blk : Blk} {l : List ByteArray} {n : Nat} (hm : st.mem b = some blk) (hl : (blk.cells.drop o).take n = List.map Value.string l) : strL st (some ⟨b,o,none⟩) n = l := by
 simp only [strL,hm,hl,List.map_map]
 exact List.map_id' l
theorem strL_0 {st : St} {p : Option Addr} : strL st p 0 = [] := by
 unfold strL
 split
 ·split
  ·rw [List.take_zero]; rfl
  ·rfl
 ·rfl
set_option maxRecDepth 100000 in
theorem ext0_ok : ExtOK Tryd.prog ext0 := by
 intro f fn args st v st' hf he ι w cargs hg hGL hrel hsz ha
 unfold ext0 at he
 split at he
 ·rename_i hname
  obtain rfl := fn_at (k := 90) hf hname (by kernel_rfl)
  obtain rfl : fn = Tryd.f90 := (Option.some.inj (Tryd.func90.symm.trans hf)).symm
  split at he
  ·rename_i a b
   injection he with he
   injection he with h1 h2
   subst h1 h2
   obtain ⟨z1,z2,rfl,hv1,hv2⟩ := args2 hsz ha
   obtain rfl : z1 = .string a := hv1
   obtain rfl : z2 = .string b := hv2
   refine .inr ⟨_,ι,w,?_,hg,Goes.refl hrel,rfl⟩
   rw [run_callFunc_extern hf (by kernel_rfl) (by kernel_rfl) (by kernel_rfl) (e := Extern.BytealgCompare.compare) (by kernel_rfl),Lib.run_compareString]
   rfl
  ·cases he
 rename_i hno0
 split at he
 ·rename_i hname
  obtain rfl := fn_at (k := 71) hf hname (by kernel_rfl)
  split at he
  ·rename_i n
   split at he
   ·rename_i hc
    injection he with he
    injection he with h1 h2
    subst h1 h2
    obtain ⟨z,rfl,hv⟩ := args1 hsz ha
    obtain rfl : z = .int .i64 n := hv
    refine .inl ⟨enters_of Tryd.func71 (by kernel_rfl) rfl _ _,(Tryd.strconv_Itoa n hc.1 hc.2.1 w (tab_is hrel hGL hc.2.2)).mono ?_⟩
    ·rintro e w' ⟨he,k,os,hw⟩
     subst hw
     exact ⟨_,ι,he,hg,goes_below hrel (below_grow w k os),rfl⟩
   ·cases he
  ·cases he
 split at he
 ·rename_i hname
  obtain rfl := fn_at (k := 58) hf hname (by kernel_rfl)
  split at he
  ·rename_i p n c sep
   split at he
   ·rename_i hc
    injection he with he
    injection he with h1 h2
    subst h1 h2
    obtain ⟨z1,z2,rfl,hv1,hv2⟩ := args2 hsz ha
    obtain rfl : z2 = .string sep := hv2
    obtain ⟨q,c',rfl,hnc,hcm,hor⟩ := (show ∃ q c',z1 = .slice q n c' ∧ n ≤ c' ∧ c' ≤ maxLen ∧ (c' = 0 ∨ ∃ a,p = some a ∧ okA ι a ∧ a.spot = none ∧ q = some (tr ι a) ∧ (a.off = 0 → c' ≤ ι.cap a.block)) from hv1)
    obtain ⟨hok,hlen⟩ := hc
    rcases Nat.eq_zero_or_pos n with rfl | hpos
    ·refine .inl ⟨enters_of Tryd.func58 (by kernel_rfl) rfl _ _,(Tryd.strings_Join_none q c' sep w).mono ?_⟩
     ·rintro e w' ⟨he,hw⟩
      subst hw
      exact ⟨_,ι,he,hg,Goes.refl hrel,by rw [strL_0]; rfl⟩
    ·rcases hok with h0 | ⟨b,o,blk,l,rfl,hm,hl,hln,hbig⟩
     ·omega
     rcases hor with h0 | ⟨a,ha1,ha2,ha3,rfl,_⟩
     ·omega
     injection ha1 with ha1
     subst ha1
     have hjl := strL_of hm hl
     rw [hjl] at hlen ⊢
     subst hln
     have hcell : ∀ (j : Nat) (x : ByteArray),l[j]? = some x → w.cell? ⟨(ι.h b).1,((ι.h b).2 + o) + j,none⟩ = some (.string x) := fun j x hx => by
      have hj := (List.getElem?_eq_some_iff.1 hx).1
      have h2 : blk.cells[o + j]? = some (.string x) := by
       have h3 : ((blk.cells.drop o).take l.length)[j]? = some (.string x) := by rw [hl,List.getElem?_map,hx]; rfl
       rw [List.getElem?_take,if_pos hj,List.getElem?_drop] at h3
       exact h3
      obtain ⟨y,hy,hv⟩ := (hrel.hk b blk hm).1 _ _ h2
      obtain rfl : y = .string x := hv
      rw [Nat.add_assoc]
      exact hy
     refine .inl ⟨enters_of Tryd.func58 (by kernel_rfl) rfl _ _,(Tryd.strings_Join (ι.h b).1 ((ι.h b).2 + o) c' l sep w hcell (hrel.hb b blk hm) hbig hnc hlen).mono ?_⟩
     ·rintro e w' ⟨he,hw⟩
      exact ⟨_,ι,he,hg,goes_below hrel hw,rfl⟩
   ·cases he
  ·cases he
 ·cases he
abbrev C (f : FuncId) (args : List Value) (st : St) (R : Value → St → Prop) : Prop := AC Tryd.prog LT ext0 f args st R
def ints (k : IntKind) (l : List Int) : List Value := l.map (Value.int k)
def Ints (st : St) (k : IntKind) (p : Option Addr) (l : List Int) : Prop := l.length = 0 ∨ ∃ b off blk,p = some ⟨b,off,none⟩ ∧ st.mem b = some blk ∧ b < st.next ∧ ∀ j < l.length,blk.cells[off + j * 1]? = some (.int k (l.getD j 0))
theorem Ints.at {st : St} {k : IntKind} {p : Option Addr} {l : List Int} (h : Ints st k p l) {j : Nat} (hj : j < l.length) : ∃ b off blk,p = some ⟨b,off,none⟩ ∧ st.mem b = some blk ∧ blk.cells[off + j * 1]? = some (.int k (l.getD j 0)) := by
 rcases h with h | ⟨b,off,blk,h1,h2,_,h3⟩
 ·omega
 ·exact ⟨b,off,blk,h1,h2,h3 j hj⟩
def Own (st : St) (k : IntKind) (p : Option Addr) (l : List Int) : Prop := (p = none ∧ l = []) ∨ ∃ a,p = some ⟨a,0,none⟩ ∧ a < st.next ∧ st.mem a = some ⟨true,1,ints k l⟩
theorem Own.ints {st : St} {k : IntKind} {p : Option Addr} {l : List Int} (h : Own st k p l) : Ints st k p l := by
 rcases h with ⟨rfl,rfl⟩ | ⟨a,rfl,ha,hm⟩
 ·exact .inl rfl
 ·refine .inr ⟨a,0,_,rfl,hm,ha,fun j hj => ?_⟩
  simp [AM.ints,List.getD_eq_getElem?_getD,List.getElem?_eq_getElem hj]
theorem Pres.ints {st st' : St} {k : IntKind} {p : Option Addr} {l : List Int} (h : Pres st st') (hi : Ints st k p l) : Ints st' k p l := by
 rcases hi with hi | ⟨b,off,blk,rfl,hm,hb,hc⟩
 ·exact .inl hi
 ·exact .inr ⟨b,off,blk,rfl,(h.2 b hb).trans hm,Nat.lt_of_lt_of_le hb h.1,hc⟩
theorem Pres.own {st st' : St} {k : IntKind} {p : Option Addr} {l : List Int} (h : Pres st st') (hi : Own st k p l) : Own st' k p l := by
 rcases hi with ⟨rfl,rfl⟩ | ⟨a,rfl,ha,hm⟩
 ·exact .inl ⟨rfl,rfl⟩
 ·exact .inr ⟨a,rfl,Nat.lt_of_lt_of_le ha h.1,(h.2 a ha).trans hm⟩
theorem wrap_i64 {i : Int} (h0 : -9223372036854775808 ≤ i) (h : i < 9223372036854775808) : IntKind.wrap .i64 i = i := by
 unfold IntKind.wrap; simp [IntKind.bits,IntKind.signed]; omega
section
variable {P : Program} {ls : List Tmp} {call : ACallT} {o : Oper} {e : Operand → Value} {lo : Lo} {st : St} {K : Value × Lo × St → Prop}
theorem op_lit0 {t el : TypeId} {u : List Value} {z : Nat} (ho : o.op = .buildSlice t 0 #[]) (he : telem P t = some el) (hz : tsize P el = some z) (hz0 : tzero P el = some u) (h0 : 0 < z) (hu : u.length = z)
  (hK : K (.slice none 0 0,lo,st)) : ∃ r,aoper P ls call o e lo st = some r ∧ K r := by
 refine ⟨_,?_,hK⟩
 obtain ⟨d,op,ty,pos,after,gd⟩ := o
 simp only at ho
 subst ho
 simp [aoper,rop,litNil,he,hz,h0]
theorem Ints.take {k : IntKind} {b off : Nat} {l : List Int} {cs : List Value} (h : ∀ j < l.length,cs[off + j * 1]? = some (.int k (l.getD j 0))) : (cs.drop off).take (l.length * 1) = ints k l := by
 refine List.ext_getElem? fun j => ?_
 rw [List.getElem?_take]
 split
 ·rename_i hj
  rw [List.getElem?_drop]
  have := h j (by omega)
  rw [Nat.mul_one] at this
  rw [this]
  simp [ints,List.getD_eq_getElem?_getD,List.getElem?_eq_getElem (show j < l.length by omega)]
 ·rename_i hj
  rw [List.getElem?_eq_none]
  simp [ints]; omega
theorem op_appN {st0 : St} {c : Call} {t el : TypeId} {ov ox : Operand} {k : IntKind} {p q : Option Addr} {l l2 : List Int} {n m b : Nat} {z0 : List Value}
  (hat : c.argTypes.toList = [t,t]) (har : c.args.toList = [ov,ox]) (he : telem P t = some el) (hz : tsize P el = some 1) (hb : tbytes P el = some b) (hz0 : tzero P el = some z0) (hz1 : z0.length = 1)
  (hov : e ov = .slice p n n) (hox : e ox = .slice q m m) (hn : n = l.length) (hm : m = l2.length) (hl : (n + m) * b ≤ 140737488355328) (hml : n + m ≤ maxLen)
  (hown : Own st k p l) (hint : Ints st k q l2) (hP : Pres st0 st) (hN : New st0.next p)
  (hK : ∀ q st',Own st' k q (l ++ l2) → Pres st0 st' → New st0.next q → K (.slice q (n + m) (n + m),lo,st')) : ∃ r,aappend P c e lo st = some r ∧ K r := by
 subst hn hm
 have hsrc : asrc 1 (rdB lo st) (.slice q l2.length l2.length) = some (l2.length,ints k l2) := by
  by_cases h0 : l2.length = 0
  ·have : l2 = [] := List.length_eq_zero_iff.1 h0
   subst this
   cases q <;> simp [asrc,ints]
  ·rcases hint with h | ⟨b2,off,blk,rfl,hmem,_,hc⟩
   ·exact absurd h h0
   ·have := Ints.take (b := b2) hc
    simp only [asrc,rdB,hmem,Option.map_some,Option.bind_some]
    rw [if_neg h0,this]
    simp [ints]
 have hred : aappend P c e lo st = (aapp 1 l2.length b (.slice p l.length l.length) (ints k l2) st).map fun r => (r.1,lo,r.2) := by
  simp [aappend,hat,har,he,hz,hb,hz0,hz1,hov,hox,hsrc]
 rw [hred]
 unfold aapp
 simp only
 rw [if_pos ⟨hl,hml,Nat.one_pos,by simp [ints]⟩]
 by_cases h0 : l2.length = 0
 ·have : l2 = [] := List.length_eq_zero_iff.1 h0
  subst this
  exact ⟨_,by simp,hK p st (by simpa using hown) hP hN⟩
 ·rw [if_neg h0]
  rcases hown with ⟨rfl,rfl⟩ | ⟨a,rfl,ha,hmem⟩
  ·refine ⟨_,rfl,?_⟩
   have := hK (some ⟨st.next,0,none⟩) (st.push 1 (ints k l2)) (.inr ⟨_,rfl,Nat.lt_succ_self _,by simp [St.push]⟩) ⟨Nat.le_succ_of_le hP.1,fun x hx => ?_⟩ (fun q hq => ?_)
   ·simpa using this
   ·show (if x = st.next then _ else st.mem x) = _
    rw [if_neg (by have := hP.1; omega)]; exact hP.2 x hx
   ·injection hq with hq; rw [← hq]; exact hP.1
  ·simp only [hmem]
   rw [if_pos (by simp [ints])]
   refine ⟨_,rfl,hK (some ⟨st.next,0,none⟩) ((st.set a none).push 1 (ints k l ++ ints k l2)) (.inr ⟨_,rfl,Nat.lt_succ_self _,?_⟩) ⟨Nat.le_succ_of_le hP.1,fun x hx => ?_⟩ (fun q hq => ?_)⟩
   ·simp [St.push,St.set,ints]
   ·show (if x = st.next then _ else if x = a then none else st.mem x) = _
    rw [if_neg (by have := hP.1; omega),if_neg (by have := hN _ rfl; simp only at this; omega)]; exact hP.2 x hx
   ·injection hq with hq; rw [← hq]; exact hP.1
end
theorem Own.push {st : St} {k : IntKind} {l : List Int} : Own (st.push 1 (AM.ints k l)) k (some ⟨st.next,0,none⟩) l := .inr ⟨_,rfl,Nat.lt_succ_self _,by show (if st.next = st.next then _ else _ : Option Blk) = _; rw [if_pos rfl]⟩
theorem Own.r {st : St} {k : IntKind} {p : Option Addr} {l : List Int} : Own st k p l ↔ OwnR st 1 (fun x => [.int k x]) p l := by
 have : AM.ints k l = l.flatMap fun x => [Value.int k x] := by induction l with
  | nil => rfl
  | cons a l ih => rw [List.flatMap_cons,← ih]; rfl
 unfold Own OwnR
 rw [this]
abbrev fI : Int → List Value := fun x => [.int .i64 x]
theorem fI_len (x : Int) : (fI x).length = 1 := rfl
theorem OwnR.ints {st : St} {p : Option Addr} {l : List Int} (h : OwnR st 1 fI p l) : Ints st .i64 p l := (Own.r.2 h).ints
theorem ammL_max (a b : Int) : ammL true [.int .i64 a,.int .i64 b] = some (.int .i64 (max a b)) := by
 simp only [ammL,ammF,amm,Int.max_def,if_true,Option.bind_some]
 congr 2
 split <;> split <;> omega
theorem ammL_min (a b : Int) : ammL false [.int .i64 a,.int .i64 b] = some (.int .i64 (min a b)) := by
 simp only [ammL,ammF,amm,Int.min_def,if_true,Option.bind_some]
 congr 2
 split <;> split <;> simp_all <;> omega
theorem Rows.ints {st : St} {k : IntKind} {p : Option Addr} {l : List Int} (h : Rows st 1 (fun x => [Value.int k x]) p l) : Ints st k p l := by
 rcases h with rfl | ⟨b,off,blk,rfl,hm,hb,hc⟩
 ·exact .inl rfl
 ·refine .inr ⟨b,off,blk,rfl,hm,hb,fun j hj => ?_⟩
  have h1 := hc j l[j] (List.getElem?_eq_getElem hj)
  have h2 := row_cell h1 (i := 0) rfl
  rw [Nat.add_zero] at h2
  rw [h2,List.getD_eq_getElem?_getD,List.getElem?_eq_getElem hj]
  rfl
set_option maxRecDepth 100000 in
theorem wt_bytes {L : LL} {us : List Value} (h : WT Tryd.prog Tryd.prog.globals.size 12 22 L us) : ∃ p l,us = [vS p l.length] ∧ Ints (stL Tryd.prog.globals.size L) .u8 p l ∧ l.length ≤ maxLen := by
 obtain ⟨p,l,h1,h2,h3,_⟩ := WT.rows (f := fun x => [Value.int .u8 x]) (Q := fun _ => True) Tryd.underlying22 (z := 1) (by kernel_rfl) (fun us h => by
  obtain ⟨n,h,_⟩ := WT.int Tryd.underlying5 h
  exact ⟨n,h,trivial⟩) h
 exact ⟨p,l,h1,h2.ints,h3⟩
end Go.Proofs.YteabadoaeadcgaaDoor.AM
namespace Go.Proofs.YteabadoaeadcgaaDoor.AM
open Go Go.Proofs
set_option linter.unusedVariables false
set_option linter.unusedSimpArgs false
set_option maxRecDepth 100000
set_option maxHeartbeats 4000000
theorem ac_spec_l1In (a lo hi : Int) (st : St) : C 46 [.int .i64 a,.int .i64 lo,.int .i64 hi] st (fun v s => ∃ x,v = .bool x ∧ x = decide (lo ≤ a ∧ a ≤ hi) ∧ s = st) := by
 refine AC.enter' (i := ⟨[],[],[0,1,2,6],[]⟩) Tryd.func46 rfl rfl (by kernel_rfl) Tryd.ntmps46 (Lb rfl) rfl (cw_sound _ _ _ _ _ ?_)
 repeat' first
  | refine ⟨.inr rfl,_,rfl,?_⟩
  | refine ⟨.inl rfl,_,rfl,?_⟩
  | refine ⟨_,rfl,?_⟩
  | rintro (_|_) h
 all_goals exact ⟨by simp_all <;> omega,rfl⟩
theorem ac_impl_within (a lo hi : Int) (st : St) : C 28 [.int .i64 a,.int .i64 lo,.int .i64 hi] st (fun v s => ∃ x,v = .bool x ∧ x = decide (lo ≤ a ∧ a ≤ hi) ∧ s = st) := by
 refine AC.enter' (i := ⟨[],[],[0,1,2,6],[]⟩) Tryd.func28 rfl rfl (by kernel_rfl) Tryd.ntmps28 (Lb rfl) rfl (cw_sound _ _ _ _ _ ?_)
 repeat' first
  | refine ⟨.inr rfl,_,rfl,?_⟩
  | refine ⟨.inl rfl,_,rfl,?_⟩
  | refine ⟨_,rfl,?_⟩
  | rintro (_|_) h
 all_goals exact ⟨by simp_all <;> omega,rfl⟩
theorem ac_spec_l1Max (a b : Int) (st : St) : C 52 [.int .i64 a,.int .i64 b] st (fun v s => v = .int .i64 (max a b) ∧ s = st) := by
 refine AC.enter' (i := ⟨[],[],[0,1,4,7],[]⟩) Tryd.func52 rfl rfl (by kernel_rfl) Tryd.ntmps52 (Lb rfl) rfl (cw_sound _ _ _ _ _ ?_)
 repeat' first
  | refine ⟨.inr rfl,_,rfl,?_⟩
  | refine ⟨.inl rfl,_,rfl,?_⟩
  | refine ⟨_,rfl,?_⟩
  | rintro (_|_) h
 all_goals exact ⟨congrArg (Value.int .i64) (by simp at h; simp only [Int.max_def]; split <;> omega),rfl⟩
theorem ac_laws_big (p : Option Addr) (n : Nat) (st : St) : C 5 [.slice p n n] st (fun v s => ∃ x,v = .bool x ∧ x = decide (1048576 < n) ∧ s = st) := by
 refine AC.enter' (i := ⟨[],[],[0,2],[]⟩) Tryd.func5 rfl rfl (by kernel_rfl) Tryd.ntmps5 (Lb rfl) rfl (cw_sound _ _ _ _ _ ?_)
 repeat' first
  | refine ⟨.inr rfl,_,rfl,?_⟩
  | refine ⟨.inl rfl,_,rfl,?_⟩
  | refine ⟨_,rfl,?_⟩
  | rintro (_|_) h
 all_goals exact ⟨by simp_all <;> omega,rfl⟩
theorem ac_impl_copyInts (p : Option Addr) (a : List Int) (st : St) (ha : Ints st .i64 p a) (hs : a.length < 1099511627776) : C 55 [.slice p a.length a.length] st (fun v s => ∃ r,v = .slice r a.length a.length ∧ Own s .i64 r a ∧ Pres st s ∧ New st.next r) := by
 refine AC.enter' (i := ⟨[],[],[0,2],[]⟩) Tryd.func55 rfl rfl (by kernel_rfl) Tryd.ntmps55 (Lb rfl) rfl (cw_sound _ _ _ _ _ ?_)
 refine op_lit0 rfl rfl rfl rfl Nat.one_pos rfl ?_
 refine op_appN (b := 8) (l := []) (l2 := a) rfl rfl rfl rfl rfl rfl rfl rfl rfl rfl rfl (show (0 + a.length) * 8 ≤ 140737488355328 by omega) (show 0 + a.length ≤ maxLen by unfold maxLen; omega) (.inl ⟨rfl,rfl⟩) ha (Pres.refl _) New.none ?_
 intro q st' hO hP hN
 refine ⟨.inl rfl,_,rfl,q,?_,hO,hP,hN⟩
 show Value.slice q (0 + a.length) (0 + a.length) = _
 rw [Nat.zero_add]
structure Ent where
 inc : Int
 rank : Int
 beat : Int
 ver : Int
 data : ByteArray
structure Itm where
 id : Int
 e : Ent
structure Flr where
 id : Int
 inc : Int
structure Sta where
 items : List Itm
 floors : List Flr
abbrev cEnt (e : Ent) : List Value := [vI e.inc,vI e.rank,vI e.beat,vI e.ver,.string e.data]
abbrev cItm (x : Itm) : List Value := [vI x.id,vI x.e.inc,vI x.e.rank,vI x.e.beat,vI x.e.ver,.string x.e.data]
abbrev cFlr (x : Flr) : List Value := [vI x.id,vI x.inc]
structure SV where
 p : Option Addr
 q : Option Addr
 x : Sta
abbrev cSV (s : SV) : List Value := [vS s.p s.x.items.length,vS s.q s.x.floors.length]
def zEnt : Ent := ⟨0,0,0,0,⟨#[]⟩⟩
def szOk (n : Nat) : Prop := n ≤ 1048576
theorem toList_inj {a b : ByteArray} (h : a.toList = b.toList) : a = b := by
 rw [ByteArray.toList_eq,ByteArray.toList_eq] at h
 rw [ByteArray.ext_iff]
 exact Array.toList_inj.1 h
theorem beq_bytes {a b : ByteArray} : (a.toList == b.toList) = true ↔ a = b :=
 ⟨fun h => toList_inj (beq_iff_eq.1 h),fun h => by rw [h]; exact beq_self_eq_true _⟩
theorem str_bne {a b : ByteArray} (h : (a.toList == b.toList) = false) : ¬ a = b := fun e => by rw [e] at h; simp at h
theorem b_ne {a b : Bool} (h : (!(a == b)) = true) : ¬ a = b := by cases a <;> cases b <;> simp_all
theorem ld_own {ρ : Tm} {o : Op} {t0 : TypeId} {x0 : Operand} {q : Addr} {n0 : Nat → Prop} {g : Nat} (ho : o = .load t0 x0) (hx : ev ρ x0 = .pointer (some q)) (hs : q.spot = some g) : ldChk n0 o (ev ρ) := by
 subst ho
 intro t x h p hp h0
 injection h with h1 h2
 rw [← h2,hx] at hp
 injection hp with hp
 injection hp with hp
 rw [← hp,hs] at h0
 cases h0
theorem AC.tru {f : FuncId} {args : List Value} {st : St} {P : Prop} (h : C f args st (fun v s => ∃ x,v = .bool x ∧ (x = true ↔ P) ∧ s = st)) (hp : P) : C f args st (fun v s => v = vB true ∧ s = st) :=
 AC.mono h fun v s ⟨x,h1,h2,h3⟩ => ⟨by rw [h1,h2.2 hp],h3⟩
theorem Rows.atB {α : Type} {st : St} {z : Nat} {f : α → List Value} {p : Option Addr} {l : List α} (h : Rows st z f p l) {j : Nat} (hj : j < l.length) : ∃ b off blk x,p = some ⟨b,off,none⟩ ∧ l[j]? = some x ∧ st.mem b = some blk ∧ (blk.cells.drop (off + j * z)).take z = f x ∧ b < st.next := by
 rcases h with rfl | ⟨b,off,blk,h1,h2,hb,h3⟩
 ·cases hj
 ·exact ⟨b,off,blk,l[j],h1,List.getElem?_eq_getElem hj,h2,h3 j _ (List.getElem?_eq_getElem hj),hb⟩
theorem iff_lists {α : Type} {a b : List α} (hl : a.length = b.length) (h : ∀ (i : Nat) x y,i < a.length → a[i]? = some x → b[i]? = some y → x = y) : a = b := by
 refine List.ext_getElem hl fun n h1 h2 => h n _ _ h1 (List.getElem?_eq_getElem h1) (List.getElem?_eq_getElem h2)
section
variable {P : Program} {ls : List Tmp} {call : ACallT} {o : Oper} {e : Operand → Value} {lo : Lo} {st : St} {K : Value × Lo × St → Prop} {α : Type} {f : α → List Value} {z : Nat}
theorem op_el {t el : TypeId} {x i : Operand} {p : Option Addr} {l : List α} {n c : Nat} {k : IntKind} {j : Int} {y : α} (i' : Nat) (hR : Rows st z f p l) (hy : l[i']? = some y) (ho : o.op = .indexAddr t x i) (hx : e x = .slice p n c) (hi : e i = .int k j) (hn : n = l.length) (hj : j = (i' : Int)) (ht : telem P t = some el) (hz : tsize P el = some z)
  (hK : ∀ b d blk,b < st.next → st.mem b = some blk → (blk.cells.drop d).take z = f y → (∃ o,p = some ⟨b,o,none⟩) → K (.pointer (some ⟨b,d,none⟩),lo,st)) : ∃ r,aoper P ls call o e lo st = some r ∧ K r := by
 obtain ⟨hlt,_⟩ := List.getElem?_eq_some_iff.1 hy
 rcases hR with rfl | ⟨b,off,blk,h1,h2,hb,h3⟩
 ·cases hlt
 ·subst hn hj
  refine ⟨_,op_idx (q := ⟨b,off,none⟩) ho (hx.trans (by rw [h1])) hi ht hz (Int.natCast_nonneg _) (Int.ofNat_lt.2 hlt),?_⟩
  exact hK b (off + i' * z) blk hb h2 (h3 i' y hy) ⟨off,h1⟩
theorem op_at {t el : TypeId} {x i : Operand} {p : Option Addr} {l : List α} {n c : Nat} {k : IntKind} {j : Int} (i' : Nat) (hR : Rows st z f p l) (hlt : i' < l.length) (ho : o.op = .indexAddr t x i) (hx : e x = .slice p n c) (hi : e i = .int k j) (hn : n = l.length) (hj : j = (i' : Int)) (ht : telem P t = some el) (hz : tsize P el = some z)
  (hK : ∀ y b d blk,l[i']? = some y → b < st.next → st.mem b = some blk → (blk.cells.drop d).take z = f y → (∃ o,p = some ⟨b,o,none⟩) → K (.pointer (some ⟨b,d,none⟩),lo,st)) : ∃ r,aoper P ls call o e lo st = some r ∧ K r :=
 op_el i' hR (List.getElem?_eq_getElem hlt) ho hx hi hn hj ht hz fun b d blk => hK _ b d blk (List.getElem?_eq_getElem hlt)
end
section
variable {P : Program} {ls : List Tmp} {call : ACallT} {o : Oper} {e : Operand → Value} {lo : Lo} {st : St} {K : Value × Lo × St → Prop} {α : Type} {f : α → List Value} {z : Nat}
theorem op_snoc {c : Call} {t el : TypeId} {ov ox : Operand} {p : Option Addr} {l : List α} {x : α} {n b : Nat} {z0 : List Value}
  (hat : c.argTypes.toList = [t,t]) (har : c.args.toList = [ov,ox]) (he : telem P t = some el) (hzz : tsize P el = some z) (hb : tbytes P el = some b) (hz0 : tzero P el = some z0) (hz1 : z0.length = z) (h0 : 0 < z) (hz : ∀ x,(f x).length = z)
  (hov : e ov = .slice p n n) (hox : e ox = .slice (some ⟨st.next,0,none⟩) 1 1) (hn : n = l.length) (hl : (l.length + 1) * b ≤ 140737488355328) (hml : l.length + 1 ≤ maxLen)
  (hown : OwnR st z f p l)
  (hK : ∀ q st',OwnR st' z f q (l ++ [x]) → Pr p st st' → New st.next q → K (.slice q (l ++ [x]).length (l ++ [x]).length,lo,st')) : ∃ r,aappend P c e lo (st.push z ([x].flatMap f)) = some r ∧ K r := by
 subst hn
 refine op_add hat har he hzz hb hz0 hz1 h0 hz hov hox rfl hl hml hown fun q st' h1 h2 h3 => ?_
 have := hK q st' h1 h2 h3
 rw [List.length_append] at this
 exact this
end
theorem sx_nil {Q : Nat → Prop} : ∀ x ∈ ([] : List Nat),Q x := fun x hx => by cases hx
theorem sx_cons {Q : Nat → Prop} {a : Nat} {l : List Nat} (h : Q a) (k : ∀ x ∈ l,Q x) : ∀ x ∈ a :: l,Q x := fun x hx => by
 rcases List.mem_cons.1 hx with rfl | hx
 ·exact h
 ·exact k x hx
theorem Rows.lt {α : Type} {st : St} {z : Nat} {f : α → List Value} {p : Option Addr} {l : List α} {i b : Nat} {y : α} (h : Rows st z f p l) (hy : l[i]? = some y) (hp : ∃ o,p = some ⟨b,o,none⟩) : b < st.next := by
 obtain ⟨o,hp⟩ := hp
 rcases h with rfl | ⟨b',off,blk,h1,_,hb,_⟩
 ·cases hy
 ·rw [hp] at h1
  injection h1 with h1
  injection h1 with h1 _ _
  rw [h1]; exact hb
theorem len_cFlr (x : Flr) : (cFlr x).length = 2 := rfl
theorem len_cItm (x : Itm) : (cItm x).length = 6 := rfl
end Go.Proofs.YteabadoaeadcgaaDoor.AM
namespace Go.Proofs.YteabadoaeadcgaaDoor.AM
open Go Go.Proofs
set_option linter.unusedVariables false
set_option linter.unusedSimpArgs false
structure Pc where
 z : Nat
 p : Option Addr
 cs : List Value
def Pc.own (st : St) (c : Pc) : Prop := (c.p = none ∧ c.cs = []) ∨ ∃ a,c.p = some ⟨a,0,none⟩ ∧ a < st.next ∧ st.mem a = some ⟨true,c.z,c.cs⟩
abbrev pcR {α : Type} (z : Nat) (f : α → List Value) (p : Option Addr) (l : List α) : Pc := ⟨z,p,l.flatMap f⟩
theorem own_pc {α : Type} {st : St} {z : Nat} {f : α → List Value} {p : Option Addr} {l : List α} (h : OwnR st z f p l) : (pcR z f p l).own st := by
 rcases h with ⟨rfl,rfl⟩ | h
 ·exact .inl ⟨rfl,rfl⟩
 ·exact .inr h
theorem pc_own {α : Type} {st : St} {z : Nat} {f : α → List Value} {p : Option Addr} {l : List α} (h0 : 0 < z) (hz : ∀ x,(f x).length = z) (h : (pcR z f p l).own st) : OwnR st z f p l := by
 rcases h with ⟨h1,h2⟩ | h
 ·refine .inl ⟨h1,?_⟩
  have h3 := flat_len hz l
  have h2 : l.flatMap f = [] := h2
  rw [h2,List.length_nil] at h3
  have : l.length = 0 := by
   rcases Nat.eq_zero_or_pos l.length with h | h
   ·exact h
   ·have := Nat.mul_pos h h0; omega
  exact List.length_eq_zero_iff.1 this
 ·exact .inr h
def PrL (ps : List (Option Addr)) (st st' : St) : Prop := st.next ≤ st'.next ∧ ∀ a,a < st.next → (∀ p ∈ ps,∀ q,p = some q → a ≠ q.block) → st'.mem a = st.mem a
def OwnP (st : St) (l : List Pc) : Prop := (∀ c ∈ l,c.own st) ∧ l.Pairwise fun a b => Dis a.p b.p
def NewP (n : Nat) (l : List Pc) : Prop := ∀ c ∈ l,New n c.p
theorem Pc.own.old {st : St} {c : Pc} (h : c.own st) : Old st.next c.p := by
 rcases h with ⟨h,_⟩ | ⟨a,h,ha,_⟩
 ·rw [h]; exact Old.none
 ·rw [h]; exact Old.some ha
theorem Pc.own.keep {st st' : St} {c : Pc} (h : c.own st) (hn : st.next ≤ st'.next) (hm : ∀ q,c.p = some q → st'.mem q.block = st.mem q.block) : c.own st' := by
 rcases h with h | ⟨a,h1,ha,h2⟩
 ·exact .inl h
 ·exact .inr ⟨a,h1,Nat.lt_of_lt_of_le ha hn,(hm _ h1).trans h2⟩
theorem PrL.refl (ps : List (Option Addr)) (st : St) : PrL ps st st := ⟨Nat.le_refl _,fun _ _ _ => rfl⟩
theorem PrL.trans {ps : List (Option Addr)} {a b c : St} (h : PrL ps a b) (k : PrL ps b c) : PrL ps a c := ⟨Nat.le_trans h.1 k.1,fun x hx hn => (k.2 x (Nat.lt_of_lt_of_le hx h.1) hn).trans (h.2 x hx hn)⟩
theorem Pr.l {p : Option Addr} {st st' : St} (h : Pr p st st') {ps : List (Option Addr)} (hp : p ∈ ps) : PrL ps st st' := ⟨h.1,fun a ha hn => h.2 a ha (hn p hp)⟩
theorem Pres.l {ps : List (Option Addr)} {st st' : St} (h : Pres st st') : PrL ps st st' := ⟨h.1,fun a ha _ => h.2 a ha⟩
theorem PrL.mono {ps qs : List (Option Addr)} {st st' : St} (h : PrL ps st st') (hs : ∀ p ∈ ps,p ∈ qs) : PrL qs st st' := ⟨h.1,fun a ha hn => h.2 a ha fun p hp => hn p (hs p hp)⟩
theorem PrL.pres {ps : List (Option Addr)} {st0 st st' : St} (h : PrL ps st st') (h0 : Pres st0 st) (hn : ∀ p ∈ ps,New st0.next p) : Pres st0 st' :=
 ⟨Nat.le_trans h0.1 h.1,fun a ha => (h.2 a (Nat.lt_of_lt_of_le ha h0.1) fun p hp q hq => by have := hn p hp q hq; omega).trans (h0.2 a ha)⟩
theorem OwnP.nil {st : St} : OwnP st [] := ⟨fun c hc => (by cases hc),List.Pairwise.nil⟩
theorem NewP.nil {n : Nat} : NewP n [] := fun c hc => by cases hc
theorem NewP.le {n m : Nat} {l : List Pc} (h : NewP m l) (hn : n ≤ m) : NewP n l := fun c hc => (h c hc).le hn
theorem NewP.cons {n : Nat} {c : Pc} {l : List Pc} (h : New n c.p) (k : NewP n l) : NewP n (c :: l) := fun d hd => by
 rcases List.mem_cons.1 hd with rfl | hd
 ·exact h
 ·exact k d hd
theorem NewP.app {n : Nat} {l m : List Pc} (h : NewP n l) (k : NewP n m) : NewP n (l ++ m) := fun d hd => by
 rcases List.mem_append.1 hd with hd | hd
 ·exact h d hd
 ·exact k d hd
theorem OwnP.keep {st st' : St} {l : List Pc} (h : OwnP st l) (hn : st.next ≤ st'.next) (hm : ∀ c ∈ l,∀ q,c.p = some q → st'.mem q.block = st.mem q.block) : OwnP st' l := ⟨fun c hc => (h.1 c hc).keep hn (hm c hc),h.2⟩
theorem OwnP.pres {st st' : St} {l : List Pc} (h : OwnP st l) (hp : Pres st st') : OwnP st' l := h.keep hp.1 fun c hc q hq => hp.2 _ ((h.1 c hc).old q hq)
theorem OwnP.prl {st st' : St} {l : List Pc} {ps : List (Option Addr)} (h : OwnP st l) (hp : PrL ps st st') (hd : ∀ c ∈ l,∀ p ∈ ps,Dis p c.p) : OwnP st' l := h.keep hp.1 fun c hc q hq => hp.2 _ ((h.1 c hc).old q hq) fun p hp r hr he => hd c hc p hp r q hr hq he.symm
theorem OwnP.app {st : St} {l m : List Pc} (h : OwnP st l) (k : OwnP st m) (hd : ∀ a ∈ l,∀ b ∈ m,Dis a.p b.p) : OwnP st (l ++ m) :=
 ⟨fun c hc => by
  rcases List.mem_append.1 hc with hc | hc
  ·exact h.1 c hc
  ·exact k.1 c hc,List.pairwise_append.2 ⟨h.2,k.2,hd⟩⟩
theorem OwnP.join {st st' : St} {l m : List Pc} (h : OwnP st l) (hp : Pres st st') (k : OwnP st' m) (hn : NewP st.next m) : OwnP st' (l ++ m) :=
 (h.pres hp).app k fun a ha b hb => Dis.of (h.1 a ha).old (hn b hb)
theorem OwnP.one {st : St} {c : Pc} (h : c.own st) : OwnP st [c] := ⟨fun d hd => by rw [List.mem_singleton.1 hd]; exact h,List.pairwise_singleton _ _⟩
theorem OwnP.left {st : St} {l m : List Pc} (h : OwnP st (l ++ m)) : OwnP st l := ⟨fun c hc => h.1 c (List.mem_append_left _ hc),(List.pairwise_append.1 h.2).1⟩
theorem OwnP.right {st : St} {l m : List Pc} (h : OwnP st (l ++ m)) : OwnP st m := ⟨fun c hc => h.1 c (List.mem_append_right _ hc),(List.pairwise_append.1 h.2).2.1⟩
theorem OwnP.tail {st : St} {c : Pc} {m : List Pc} (h : OwnP st (c :: m)) : OwnP st m := OwnP.right (l := [c]) h
theorem OwnP.update {st st' : St} {l m : List Pc} {c d : Pc} (h : OwnP st (l ++ c :: m)) (hp : Pr c.p st st') (hd : d.own st') (he : d.p = c.p) : OwnP st' (l ++ d :: m) := by
 obtain ⟨h1,h2⟩ := h
 obtain ⟨p1,p2,p3⟩ := List.pairwise_append.1 h2
 obtain ⟨p4,p5⟩ := List.pairwise_cons.1 p2
 have key : ∀ e ∈ l ++ c :: m,Dis c.p e.p → e.own st' := fun e hm hdis => (h1 e hm).keep hp.1 fun q hq => hp.2 _ ((h1 e hm).old q hq) fun r hr hne => hdis r q hr hq hne.symm
 refine ⟨fun e he' => ?_,List.pairwise_append.2 ⟨p1,List.pairwise_cons.2 ⟨fun a ha => by rw [he]; exact p4 a ha,p5⟩,fun a ha b hb => ?_⟩⟩
 ·rcases List.mem_append.1 he' with hm | hm
  ·exact key e (List.mem_append_left _ hm) (p3 e hm c (List.mem_cons_self ..)).symm
  ·rcases List.mem_cons.1 hm with rfl | hm
   ·exact hd
   ·exact key e (List.mem_append_right _ (List.mem_cons_of_mem _ hm)) (p4 e hm)
 ·rcases List.mem_cons.1 hb with rfl | hb
  ·rw [he]; exact p3 a ha c (List.mem_cons_self ..)
  ·exact p3 a ha b (List.mem_cons_of_mem _ hb)
theorem OwnP.renew {st st' : St} {l m : List Pc} {c d : Pc} (h : OwnP st (l ++ c :: m)) (hp : Pr c.p st st') (hd : d.own st') (hn : New st.next d.p) : OwnP st' (l ++ d :: m) := by
 obtain ⟨h1,h2⟩ := h
 obtain ⟨p1,p2,p3⟩ := List.pairwise_append.1 h2
 obtain ⟨p4,p5⟩ := List.pairwise_cons.1 p2
 have key : ∀ e ∈ l ++ c :: m,Dis c.p e.p → e.own st' := fun e hm hdis => (h1 e hm).keep hp.1 fun q hq => hp.2 _ ((h1 e hm).old q hq) fun r hr hne => hdis r q hr hq hne.symm
 refine ⟨fun e he' => ?_,List.pairwise_append.2 ⟨p1,List.pairwise_cons.2 ⟨fun a ha => (Dis.of (h1 a (List.mem_append_right _ (List.mem_cons_of_mem _ ha))).old hn).symm,p5⟩,fun a ha b hb => ?_⟩⟩
 ·rcases List.mem_append.1 he' with hm | hm
  ·exact key e (List.mem_append_left _ hm) (p3 e hm c (List.mem_cons_self ..)).symm
  ·rcases List.mem_cons.1 hm with rfl | hm
   ·exact hd
   ·exact key e (List.mem_append_right _ (List.mem_cons_of_mem _ hm)) (p4 e hm)
 ·rcases List.mem_cons.1 hb with rfl | hb
  ·exact Dis.of (h1 a (List.mem_append_left _ ha)).old hn
  ·exact p3 a ha b (List.mem_cons_of_mem _ hb)
structure RV where
 p : Option Addr
 l : List Int
abbrev cRV (r : RV) : List Value := [vS r.p r.l.length]
abbrev pcRV (r : RV) : Pc := pcR 1 fI r.p r.l
abbrev pcT (p : Option Addr) (t : List RV) : List Pc := pcR 1 cRV p t :: t.map pcRV
abbrev rls (t : List RV) : List (List Int) := t.map (·.l)
theorem cRV_len (r : RV) : (cRV r).length = 1 := rfl
def RdT (st : St) (p : Option Addr) (t : List RV) : Prop := Rows st 1 cRV p t ∧ ∀ r ∈ t,Rows st 1 fI r.p r.l
theorem RdT.pres {st st' : St} {p : Option Addr} {t : List RV} (h : RdT st p t) (k : Pres st st') : RdT st' p t := ⟨k.rows h.1,fun r hr => k.rows (h.2 r hr)⟩
theorem OwnP.outer {st : St} {p : Option Addr} {t : List RV} (h : OwnP st (pcT p t)) : OwnR st 1 cRV p t := pc_own Nat.one_pos cRV_len (h.1 _ (List.mem_cons_self ..))
theorem OwnP.row {st : St} {p : Option Addr} {t : List RV} (h : OwnP st (pcT p t)) {r : RV} (hr : r ∈ t) : OwnR st 1 fI r.p r.l := pc_own Nat.one_pos fI_len (h.1 _ (List.mem_cons_of_mem _ (List.mem_map_of_mem hr)))
theorem OwnP.rdT {st : St} {p : Option Addr} {t : List RV} (h : OwnP st (pcT p t)) : RdT st p t := ⟨h.outer.rows cRV_len,fun r hr => (h.row hr).rows fI_len⟩
end Go.Proofs.YteabadoaeadcgaaDoor.AM
namespace Go.Proofs.YteabadoaeadcgaaDoor.AM
open Go Go.Proofs
set_option linter.unusedVariables false
set_option linter.unusedSimpArgs false
set_option maxRecDepth 100000
set_option maxHeartbeats 4000000
theorem ac_spec_l3Node (id : Int) (st : St) : C 43 [vI id] st (fun v s => ∃ x,v = .bool x ∧ x = decide (0 ≤ id ∧ id ≤ 4) ∧ s = st) := by
 refine AC.enterX (i := ⟨[],[],[0,2],[]⟩) [] Tryd.func43 rfl rfl (by kernel_rfl) (by kernel_rfl) Tryd.ntmps43 (Lb rfl) rfl ?_
 refine Cu lo0 st [(0,vI id),(2,vB false)] fun _ => ?_
 refine ⟨_,rfl,(ac_spec_l1In id 0 4 st).mono ?_⟩
 rintro _ st ⟨x,rfl,hx,rfl⟩
 exact cxs (Rt ⟨x,rfl,hx,rfl⟩)
theorem ac_impl_isNode (id : Int) (st : St) : C 47 [vI id] st (fun v s => ∃ x,v = .bool x ∧ x = decide (0 ≤ id ∧ id ≤ 4) ∧ s = st) := by
 refine AC.enterX (i := ⟨[],[],[0,2],[]⟩) [] Tryd.func47 rfl rfl (by kernel_rfl) (by kernel_rfl) Tryd.ntmps47 (Lb rfl) rfl ?_
 refine Cu lo0 st [(0,vI id),(2,vB false)] fun _ => ?_
 refine ⟨_,rfl,(ac_impl_within id 0 4 st).mono ?_⟩
 rintro _ st ⟨x,rfl,hx,rfl⟩
 exact cxs (Rt ⟨x,rfl,hx,rfl⟩)
def markOk (l : List Flr) (j : Nat) (x : Flr) : Prop := (0 ≤ x.id ∧ x.id ≤ 4) ∧ (1 ≤ x.inc ∧ x.inc ≤ 1000) ∧ ∀ y,0 < j → l[j - 1]? = some y → y.id < x.id
def marksOk (l : List Flr) : Prop := ∀ (j : Nat) x,l[j]? = some x → markOk l j x
theorem ac_impl_MarksOk (p : Option Addr) (l : List Flr) (st : St) (hR : Rows st 2 cFlr p l) (hs : szOk l.length) : C 22 [vS p l.length] st (fun v s => ∃ x,v = .bool x ∧ (x = true ↔ marksOk l) ∧ s = st) := by
 have hs : l.length ≤ 1048576 := hs
 refine AC.enterX (i := ⟨[4],[4,12,17,32],[0,2,3,4,5,6,7,8,36],[]⟩) [(4,[],[])] Tryd.func22 rfl rfl (by kernel_rfl) (by kernel_rfl) Tryd.ntmps22 (Lb rfl) rfl ?_
 refine Cm 0 st [(0,vS p l.length),(2,vB false)] [] fun _ _ => ?_
 refine ⟨_,rfl,?_⟩
 refine Cm 0 st [(0,vS p l.length),(2,vB false),(5,vS p l.length),(6,vI (l.length)),(7,vI 0)] [] fun _ _ => ?_
 refine AW.loopM (fun i : Nat => [(0,vS p l.length),(5,vS p l.length),(6,vI (l.length : Int)),(7,vI (i : Int))]) (fun i : Nat => []) (fun m (i : Nat) st' => m = l.length - i ∧ i ≤ l.length ∧ (∀ (j : Nat) x,j < i → l[j]? = some x → markOk l j x) ∧ st = st') 0 _ ⟨rfl,rfl,rfl,rfl,trivial⟩ trivial ⟨rfl,Nat.zero_le _,fun j x h => absurd h (Nat.not_lt_zero _),rfl⟩ ?_
 rintro m i ρ0 ff gg st' ⟨rfl,hi,hok,rfl⟩
 refine ⟨_,rfl,?_⟩
 rintro (_|_) h1
 ·replace h1 : ¬ ((i : Int) < (l.length : Int)) := of_decide_eq_false h1
  refine Cm gg st [(0,vS p l.length),(5,vS p l.length),(6,vI (l.length : Int)),(7,vI (i : Int)),(8,vB false)] [] fun _ _ => ?_
  refine cxs ?_
  exact cxs (Rt ⟨true,rfl,⟨fun _ j x hx => hok j x (by have := (List.getElem?_eq_some_iff.1 hx).1; omega) hx,fun _ => rfl⟩,rfl⟩)
 ·replace h1 : (i : Int) < (l.length : Int) := of_decide_eq_true h1
  refine Cm gg st [(0,vS p l.length),(5,vS p l.length),(6,vI (l.length : Int)),(7,vI (i : Int)),(8,vB true)] [] fun _ _ => ?_
  have h1' := Int.ofNat_lt.1 h1
  have ⟨b1,o1,k1,x,hpe,hx,hm1,hc1,hb1⟩ := hR.atB h1'
  refine cxs ?_
  refine ⟨_,op_idx (j := (i : Int)) (n := l.length) (q := ⟨b1,o1,none⟩) rfl (congrArg (fun u => vS u l.length) hpe) rfl rfl rfl (Int.natCast_nonneg _) h1,?_⟩
  refine ⟨_,op_lda rfl rfl rfl rfl rfl hm1 hc1 rfl,?_⟩
  refine ⟨_,rfl,?_⟩
  refine ⟨_,Os rfl,?_⟩
  refine Cm (gg + 1) st [(0,vS p l.length),(3,vI (i : Int)),Ml 4 gg,(5,vS p l.length),(6,vI (l.length : Int)),(7,vI (i : Int)),(8,vB true)] [(4,gg,[vI x.id,vI x.inc])] fun _ _ => ?_
  refine ⟨_,rfl,?_⟩
  refine ⟨_,Od rfl,?_⟩
  refine ⟨_,rfl,(ac_impl_isNode x.id st).mono ?_⟩
  rintro _ st ⟨c,rfl,h2,rfl⟩
  rcases c with _|_
  ·replace h2 := of_decide_eq_false h2.symm
   iterate 3 refine ⟨_,rfl,?_⟩
   refine Cm (gg + 1) st [(0,vS p l.length),(3,vI (i : Int)),Ml 4 gg,(5,vS p l.length),(6,vI (l.length : Int)),(7,vI (i : Int)),(8,vB true),(36,vB true)] [(4,gg,[vI x.id,vI x.inc])] fun _ _ => ?_
   exact cxs (Rt ⟨false,rfl,⟨fun h => absurd h Bool.false_ne_true,fun h => absurd (h i x hx).1 h2⟩,rfl⟩)
  ·replace h2 := of_decide_eq_true h2.symm
   iterate 2 refine ⟨_,rfl,?_⟩
   refine ⟨_,Od rfl,?_⟩
   refine ⟨_,rfl,(ac_impl_within x.inc 1 1000 st).mono ?_⟩
   rintro _ st ⟨d,rfl,h5,rfl⟩
   rcases d with _|_
   ·replace h5 := of_decide_eq_false h5.symm
    iterate 3 refine ⟨_,rfl,?_⟩
    refine Cm (gg + 1) st [(0,vS p l.length),(3,vI (i : Int)),Ml 4 gg,(5,vS p l.length),(6,vI (l.length : Int)),(7,vI (i : Int)),(8,vB true),(36,vB true)] [(4,gg,[vI x.id,vI x.inc])] fun _ _ => ?_
    exact cxs (Rt ⟨false,rfl,⟨fun h => absurd h Bool.false_ne_true,fun h => absurd (h i x hx).2.1 h5⟩,rfl⟩)
   ·replace h5 := of_decide_eq_true h5.symm
    iterate 3 refine ⟨_,rfl,?_⟩
    rintro (_|_) h3
    ·replace h3 : ¬ (0 < (i : Int)) := of_decide_eq_false h3
     iterate 2 refine ⟨_,rfl,?_⟩
     refine Cm (gg + 1) st [(0,vS p l.length),(3,vI (i : Int)),Ml 4 gg,(5,vS p l.length),(6,vI (l.length : Int)),(7,vI (i : Int)),(8,vB true),(36,vB false)] [(4,gg,[vI x.id,vI x.inc])] fun _ _ => ?_
     refine cxs ?_
     have e37 : IntKind.wrap .i64 ((i : Int) + 1) = ((i + 1 : Nat) : Int) := (wrap_i64 (by omega) (by omega)).trans (by omega)
     refine ⟨_,rfl,?_⟩
     refine ⟨i + 1,l.length - (i + 1),by omega,⟨rfl,rfl,rfl,congrArg (Value.int .i64) e37,trivial⟩,trivial,rfl,h1',fun j u hj hu => ?_,rfl⟩
     rcases Nat.lt_or_ge j i with h | h
     ·exact hok j u h hu
     ·obtain rfl : j = i := by omega
      rw [hx] at hu
      injection hu with hu
      subst hu
      exact ⟨h2,h5,fun y h0 hy => absurd h0 (by omega)⟩
    ·replace h3 : 0 < (i : Int) := of_decide_eq_true h3
     have ⟨b2,o2,k2,y,hqe,hy,hm2,hc2,hb2⟩ := hR.atB (j := i - 1) (by omega)
     have e28 : IntKind.wrap .i64 ((i : Int) - 1) = ((i - 1 : Nat) : Int) := (wrap_i64 (by omega) (by omega)).trans (by omega)
     refine ⟨_,rfl,?_⟩
     refine ⟨_,op_idx (j := ((i - 1 : Nat) : Int)) (n := l.length) (q := ⟨b2,o2,none⟩) rfl (congrArg (fun u => vS u l.length) hqe) (congrArg (Value.int .i64) e28) rfl rfl (Int.natCast_nonneg _) (by omega),?_⟩
     refine ⟨_,rfl,?_⟩
     refine ⟨_,op_ldc (i := 0) rfl rfl rfl rfl hm2 hc2 rfl rfl,?_⟩
     refine ⟨_,rfl,?_⟩
     refine ⟨_,Od rfl,?_⟩
     refine ⟨_,rfl,?_⟩
     rintro (_|_) h4
     ·replace h4 : ¬ (x.id ≤ y.id) := of_decide_eq_false h4
      iterate 2 refine ⟨_,rfl,?_⟩
      refine Cm (gg + 1) st [(0,vS p l.length),(3,vI (i : Int)),Ml 4 gg,(5,vS p l.length),(6,vI (l.length : Int)),(7,vI (i : Int)),(8,vB true),(36,vB false)] [(4,gg,[vI x.id,vI x.inc])] fun _ _ => ?_
      refine cxs ?_
      have e37 : IntKind.wrap .i64 ((i : Int) + 1) = ((i + 1 : Nat) : Int) := (wrap_i64 (by omega) (by omega)).trans (by omega)
      refine ⟨_,rfl,?_⟩
      refine ⟨i + 1,l.length - (i + 1),by omega,⟨rfl,rfl,rfl,congrArg (Value.int .i64) e37,trivial⟩,trivial,rfl,h1',fun j u hj hu => ?_,rfl⟩
      rcases Nat.lt_or_ge j i with h | h
      ·exact hok j u h hu
      ·obtain rfl : j = i := by omega
       rw [hx] at hu
       injection hu with hu
       subst hu
       refine ⟨h2,h5,fun z h0 hz => ?_⟩
       rw [hy] at hz
       injection hz with hz
       subst hz
       exact Int.not_le.1 h4
     ·replace h4 : x.id ≤ y.id := of_decide_eq_true h4
      iterate 2 refine ⟨_,rfl,?_⟩
      refine Cm (gg + 1) st [(0,vS p l.length),(3,vI (i : Int)),Ml 4 gg,(5,vS p l.length),(6,vI (l.length : Int)),(7,vI (i : Int)),(8,vB true),(36,vB true)] [(4,gg,[vI x.id,vI x.inc])] fun _ _ => ?_
      exact cxs (Rt ⟨false,rfl,⟨fun h => absurd h Bool.false_ne_true,fun h => absurd ((h i x hx).2.2 y (by omega) hy) (Int.not_lt.2 h4)⟩,rfl⟩)
theorem split_at' {α : Type} {l : List α} {i : Nat} {x : α} (h : l[i]? = some x) : l = l.take i ++ x :: l.drop (i + 1) ∧ l.take (i + 1) = l.take i ++ [x] ∧ l.drop i = x :: l.drop (i + 1) := by
 obtain ⟨hi,hx⟩ := List.getElem?_eq_some_iff.1 h
 have h3 : l.drop i = x :: l.drop (i + 1) := by rw [List.drop_eq_getElem_cons hi,hx]
 refine ⟨?_,?_,h3⟩
 ·rw [← h3,List.take_append_drop]
 ·rw [List.take_add_one,h]; rfl
def RdS (st : St) (s : SV) : Prop := Rows st 6 cItm s.p s.x.items ∧ Rows st 2 cFlr s.q s.x.floors
abbrev pcS (s : SV) : List Pc := [pcR 6 cItm s.p s.x.items,pcR 2 cFlr s.q s.x.floors]
theorem RdS.pres {st st' : St} {s : SV} (h : RdS st s) (k : Pres st st') : RdS st' s := ⟨k.rows h.1,k.rows h.2⟩
theorem OwnP.items {st : St} {s : SV} (h : OwnP st (pcS s)) : OwnR st 6 cItm s.p s.x.items := pc_own (by decide) len_cItm (h.1 _ (List.mem_cons_self ..))
theorem OwnP.floors {st : St} {s : SV} (h : OwnP st (pcS s)) : OwnR st 2 cFlr s.q s.x.floors := pc_own (by decide) len_cFlr (h.1 _ (List.mem_cons_of_mem _ (List.mem_cons_self ..)))
theorem OwnP.rdS {st : St} {s : SV} (h : OwnP st (pcS s)) : RdS st s := ⟨h.items.rows len_cItm,h.floors.rows len_cFlr⟩
def bigS (s : Sta) : Prop := szOk s.items.length ∧ szOk s.floors.length ∧ ∀ x ∈ s.items,szOk x.e.data.size
def entOk (e : Ent) : Prop := (1 ≤ e.inc ∧ e.inc ≤ 1000) ∧ (0 ≤ e.rank ∧ e.rank ≤ 1) ∧ (0 ≤ e.beat ∧ e.beat ≤ 100000) ∧ (0 ≤ e.ver ∧ e.ver ≤ 1000) ∧ e.data.size ≤ 8
theorem ac_spec_EntryOk (e : Ent) (st : St) : C 44 [.agg #[vI e.inc,vI e.rank,vI e.beat,vI e.ver,.string e.data]] st (fun v s => ∃ x,v = .bool x ∧ (x = true ↔ entOk e) ∧ s = st) := by
 refine AC.enterX (i := ⟨[1],[1,3,7,12,17,22],[0,1,2],[]⟩) [] Tryd.func44 rfl rfl (by kernel_rfl) (by kernel_rfl) Tryd.ntmps44 (Lb rfl) rfl ?_
 refine ⟨_,rfl,?_⟩
 refine Cm 1 st [Ml 1 0,(2,vB false)] [(1,0,[vI e.inc,vI e.rank,vI e.beat,vI e.ver,.string e.data])] fun _ _ => ?_
 iterate 2 refine ⟨_,rfl,?_⟩
 refine ⟨_,rfl,(ac_spec_l1In e.inc 1 1000 st).mono ?_⟩
 rintro _ st ⟨a,rfl,h1,rfl⟩
 rcases a with _|_
 ·replace h1 := of_decide_eq_false h1.symm
  iterate 4 refine ⟨_,rfl,?_⟩
  exact cxs (Rt ⟨false,rfl,⟨fun h => absurd h Bool.false_ne_true,fun h => absurd h.1 h1⟩,rfl⟩)
 ·replace h1 := of_decide_eq_true h1.symm
  iterate 2 refine ⟨_,rfl,?_⟩
  refine ⟨_,rfl,(ac_spec_l1In e.rank 0 1 st).mono ?_⟩
  rintro _ st ⟨b,rfl,h2,rfl⟩
  rcases b with _|_
  ·replace h2 := of_decide_eq_false h2.symm
   iterate 4 refine ⟨_,rfl,?_⟩
   exact cxs (Rt ⟨false,rfl,⟨fun h => absurd h Bool.false_ne_true,fun h => absurd h.2.1 h2⟩,rfl⟩)
  ·replace h2 := of_decide_eq_true h2.symm
   iterate 3 refine ⟨_,rfl,?_⟩
   refine ⟨_,rfl,(ac_spec_l1In e.beat 0 100000 st).mono ?_⟩
   rintro _ st ⟨c,rfl,h3,rfl⟩
   rcases c with _|_
   ·replace h3 := of_decide_eq_false h3.symm
    iterate 3 refine ⟨_,rfl,?_⟩
    exact cxs (Rt ⟨false,rfl,⟨fun h => absurd h Bool.false_ne_true,fun h => absurd h.2.2.1 h3⟩,rfl⟩)
   ·replace h3 := of_decide_eq_true h3.symm
    iterate 3 refine ⟨_,rfl,?_⟩
    refine ⟨_,rfl,(ac_spec_l1In e.ver 0 1000 st).mono ?_⟩
    rintro _ st ⟨d,rfl,h4,rfl⟩
    rcases d with _|_
    ·replace h4 := of_decide_eq_false h4.symm
     iterate 2 refine ⟨_,rfl,?_⟩
     exact cxs (Rt ⟨false,rfl,⟨fun h => absurd h Bool.false_ne_true,fun h => absurd h.2.2.2.1 h4⟩,rfl⟩)
    ·replace h4 := of_decide_eq_true h4.symm
     iterate 5 refine ⟨_,rfl,?_⟩
     rintro (_|_) h5
     ·replace h5 : ¬ ((e.data.size : Int) ≤ 8) := of_decide_eq_false h5
      refine ⟨_,rfl,?_⟩
      exact cxs (Rt ⟨false,rfl,⟨fun h => absurd h Bool.false_ne_true,fun h => absurd h.2.2.2.2 (by omega)⟩,rfl⟩)
     ·replace h5 : (e.data.size : Int) ≤ 8 := of_decide_eq_true h5
      refine ⟨_,rfl,?_⟩
      exact cxs (Rt ⟨true,rfl,⟨fun _ => ⟨h1,h2,h3,h4,by omega⟩,fun _ => rfl⟩,rfl⟩)
theorem ac_impl_EntryOk (e : Ent) (st : St) : C 50 [.agg #[vI e.inc,vI e.rank,vI e.beat,vI e.ver,.string e.data]] st (fun v s => ∃ x,v = .bool x ∧ (x = true ↔ entOk e) ∧ s = st) := by
 refine AC.enterX (i := ⟨[1],[1,3,7,12,17,22],[0,1,2],[]⟩) [] Tryd.func50 rfl rfl (by kernel_rfl) (by kernel_rfl) Tryd.ntmps50 (Lb rfl) rfl ?_
 refine ⟨_,rfl,?_⟩
 refine Cm 1 st [Ml 1 0,(2,vB false)] [(1,0,[vI e.inc,vI e.rank,vI e.beat,vI e.ver,.string e.data])] fun _ _ => ?_
 iterate 2 refine ⟨_,rfl,?_⟩
 refine ⟨_,rfl,(ac_impl_within e.inc 1 1000 st).mono ?_⟩
 rintro _ st ⟨a,rfl,h1,rfl⟩
 rcases a with _|_
 ·replace h1 := of_decide_eq_false h1.symm
  iterate 4 refine ⟨_,rfl,?_⟩
  exact cxs (Rt ⟨false,rfl,⟨fun h => absurd h Bool.false_ne_true,fun h => absurd h.1 h1⟩,rfl⟩)
 ·replace h1 := of_decide_eq_true h1.symm
  iterate 2 refine ⟨_,rfl,?_⟩
  refine ⟨_,rfl,(ac_impl_within e.rank 0 1 st).mono ?_⟩
  rintro _ st ⟨b,rfl,h2,rfl⟩
  rcases b with _|_
  ·replace h2 := of_decide_eq_false h2.symm
   iterate 4 refine ⟨_,rfl,?_⟩
   exact cxs (Rt ⟨false,rfl,⟨fun h => absurd h Bool.false_ne_true,fun h => absurd h.2.1 h2⟩,rfl⟩)
  ·replace h2 := of_decide_eq_true h2.symm
   iterate 3 refine ⟨_,rfl,?_⟩
   refine ⟨_,rfl,(ac_impl_within e.beat 0 100000 st).mono ?_⟩
   rintro _ st ⟨c,rfl,h3,rfl⟩
   rcases c with _|_
   ·replace h3 := of_decide_eq_false h3.symm
    iterate 3 refine ⟨_,rfl,?_⟩
    exact cxs (Rt ⟨false,rfl,⟨fun h => absurd h Bool.false_ne_true,fun h => absurd h.2.2.1 h3⟩,rfl⟩)
   ·replace h3 := of_decide_eq_true h3.symm
    iterate 3 refine ⟨_,rfl,?_⟩
    refine ⟨_,rfl,(ac_impl_within e.ver 0 1000 st).mono ?_⟩
    rintro _ st ⟨d,rfl,h4,rfl⟩
    rcases d with _|_
    ·replace h4 := of_decide_eq_false h4.symm
     iterate 2 refine ⟨_,rfl,?_⟩
     exact cxs (Rt ⟨false,rfl,⟨fun h => absurd h Bool.false_ne_true,fun h => absurd h.2.2.2.1 h4⟩,rfl⟩)
    ·replace h4 := of_decide_eq_true h4.symm
     iterate 5 refine ⟨_,rfl,?_⟩
     rintro (_|_) h5
     ·replace h5 : ¬ ((e.data.size : Int) ≤ 8) := of_decide_eq_false h5
      refine ⟨_,rfl,?_⟩
      exact cxs (Rt ⟨false,rfl,⟨fun h => absurd h Bool.false_ne_true,fun h => absurd h.2.2.2.2 (by omega)⟩,rfl⟩)
     ·replace h5 : (e.data.size : Int) ≤ 8 := of_decide_eq_true h5
      refine ⟨_,rfl,?_⟩
      exact cxs (Rt ⟨true,rfl,⟨fun _ => ⟨h1,h2,h3,h4,by omega⟩,fun _ => rfl⟩,rfl⟩)
def floorOf : List Flr → Int → Int
 | [],_ => 0
 | f :: l,id => if f.id = id then f.inc else floorOf l id
theorem ac_spec_FloorOf (s : SV) (id : Int) (st : St) (hR : RdS st s) (hb : bigS s.x) : C 45 [.agg #[vS s.p s.x.items.length,vS s.q s.x.floors.length],vI id] st (fun v s' => v = vI (floorOf s.x.floors id) ∧ s' = st) := by
 have hs : s.x.floors.length ≤ 1048576 := hb.2.1
 refine AC.enterX (i := ⟨[2],[2,7,13,21],[0,1,2,4,5,10,20],[]⟩) [] Tryd.func45 rfl rfl (by kernel_rfl) (by kernel_rfl) Tryd.ntmps45 (Lb rfl) rfl ?_
 refine ⟨_,rfl,?_⟩
 refine cxs ?_
 refine Cm 1 st [(1,vI id),Ml 2 0,(4,vI 0),(5,vI 0)] [(2,0,cSV s)] fun _ _ => ?_
 refine AW.loopM (fun i : Nat => [(1,vI id),(2,vL 2 0 (0)),(5,vI (i : Int))]) (fun i : Nat => [(2,0,[vS s.p s.x.items.length,vS s.q s.x.floors.length])]) (fun m (i : Nat) st' => m = s.x.floors.length - i ∧ i ≤ s.x.floors.length ∧ floorOf s.x.floors id = floorOf (s.x.floors.drop i) id ∧ st = st') 0 _ ⟨rfl,rfl,rfl,trivial⟩ ⟨rfl,trivial⟩ ⟨rfl,Nat.zero_le _,rfl,rfl⟩ ?_
 rintro m i ρ0 ff gg st' ⟨rfl,hi,hf,rfl⟩
 refine ⟨_,rfl,?_⟩
 refine ⟨_,Od rfl,?_⟩
 iterate 2 refine ⟨_,rfl,?_⟩
 rintro (_|_) h1
 ·replace h1 : ¬ ((i : Int) < (s.x.floors.length : Int)) := of_decide_eq_false h1
  refine Cm gg st [(1,vI id),Ml 2 0,(5,vI (i : Int)),(10,vB false)] [(2,0,cSV s)] fun _ _ => ?_
  refine cxs ?_
  refine cxs ?_
  have hil : i = s.x.floors.length := by omega
  exact Rt ⟨congrArg vI (by rw [hf,hil,List.drop_length]; rfl),rfl⟩
 ·replace h1 : (i : Int) < (s.x.floors.length : Int) := of_decide_eq_true h1
  refine Cm gg st [(1,vI id),Ml 2 0,(5,vI (i : Int)),(10,vB true)] [(2,0,cSV s)] fun _ _ => ?_
  have h1' := Int.ofNat_lt.1 h1
  have ⟨b1,o1,k1,x,hpe,hx,hm1,hc1,hb1⟩ := hR.2.atB h1'
  rw [(split_at' hx).2.2,floorOf] at hf
  refine cxs ?_
  refine ⟨_,rfl,?_⟩
  refine ⟨_,Od rfl,?_⟩
  refine ⟨_,op_idx (j := (i : Int)) (n := s.x.floors.length) (q := ⟨b1,o1,none⟩) rfl (congrArg (fun u => vS u s.x.floors.length) hpe) rfl rfl rfl (Int.natCast_nonneg _) h1,?_⟩
  refine ⟨_,rfl,?_⟩
  refine ⟨_,op_ldc (i := 0) rfl rfl rfl rfl hm1 hc1 rfl rfl,?_⟩
  refine ⟨_,rfl,?_⟩
  rintro (_|_) h2
  ·replace h2 : ¬ (x.id = id) := beq_eq_false_iff_ne.1 h2
   refine Cm gg st [(1,vI id),Ml 2 0,(5,vI (i : Int)),(10,vB true),(20,vB false)] [(2,0,cSV s)] fun _ _ => ?_
   refine cxs ?_
   have e12 : IntKind.wrap .i64 ((i : Int) + 1) = ((i + 1 : Nat) : Int) := (wrap_i64 (by omega) (by omega)).trans (by omega)
   refine ⟨_,rfl,?_⟩
   exact ⟨i + 1,s.x.floors.length - (i + 1),by omega,⟨rfl,rfl,congrArg (Value.int .i64) e12,trivial⟩,⟨rfl,trivial⟩,rfl,h1',by rw [hf,if_neg h2],rfl⟩
  ·replace h2 : x.id = id := beq_iff_eq.1 h2
   refine Cm gg st [(1,vI id),Ml 2 0,(5,vI (i : Int)),(10,vB true),(20,vB true)] [(2,0,cSV s)] fun _ _ => ?_
   refine ⟨_,rfl,?_⟩
   refine ⟨_,Od rfl,?_⟩
   refine ⟨_,op_idx (j := (i : Int)) (n := s.x.floors.length) (q := ⟨b1,o1,none⟩) rfl (congrArg (fun u => vS u s.x.floors.length) hpe) rfl rfl rfl (Int.natCast_nonneg _) h1,?_⟩
   refine ⟨_,rfl,?_⟩
   refine ⟨_,op_ldc (i := 1) rfl rfl rfl rfl hm1 hc1 rfl rfl,?_⟩
   exact cxs (Rt ⟨congrArg vI (by rw [hf,if_pos h2]),rfl⟩)
theorem ac_impl_FloorOf (s : SV) (id : Int) (st : St) (hR : RdS st s) (hb : bigS s.x) : C 19 [.agg #[vS s.p s.x.items.length,vS s.q s.x.floors.length],vI id] st (fun v s' => v = vI (floorOf s.x.floors id) ∧ s' = st) := by
 have hs : s.x.floors.length ≤ 1048576 := hb.2.1
 refine AC.enterX (i := ⟨[2,6],[2,6,7,14,18],[0,1,2,4,6,8,9,10,11,17],[]⟩) [] Tryd.func19 rfl rfl (by kernel_rfl) (by kernel_rfl) Tryd.ntmps19 (Lb rfl) rfl ?_
 refine ⟨_,rfl,?_⟩
 refine Cm 1 st [(1,vI id),Ml 2 0,(4,vI 0)] [(2,0,cSV s)] fun _ _ => ?_
 iterate 3 refine ⟨_,rfl,?_⟩
 refine Cm 1 st [(1,vI id),(4,vI 0),(8,vS s.q s.x.floors.length),(9,vI (s.x.floors.length)),(10,vI 0)] [] fun _ _ => ?_
 refine AW.loopM (fun i : Nat => [(1,vI id),(8,vS s.q s.x.floors.length),(9,vI (s.x.floors.length : Int)),(10,vI (i : Int))]) (fun i : Nat => []) (fun m (i : Nat) st' => m = s.x.floors.length - i ∧ i ≤ s.x.floors.length ∧ floorOf s.x.floors id = floorOf (s.x.floors.drop i) id ∧ st = st') 0 _ ⟨rfl,rfl,rfl,rfl,trivial⟩ trivial ⟨rfl,Nat.zero_le _,rfl,rfl⟩ ?_
 rintro m i ρ0 ff gg st' ⟨rfl,hi,hf,rfl⟩
 refine ⟨_,rfl,?_⟩
 rintro (_|_) h1
 ·replace h1 : ¬ ((i : Int) < (s.x.floors.length : Int)) := of_decide_eq_false h1
  refine Cm gg st [(1,vI id),(8,vS s.q s.x.floors.length),(9,vI (s.x.floors.length : Int)),(10,vI (i : Int)),(11,vB false)] [] fun _ _ => ?_
  refine cxs ?_
  refine cxs ?_
  have hil : i = s.x.floors.length := by omega
  exact Rt ⟨congrArg vI (by rw [hf,hil,List.drop_length]; rfl),rfl⟩
 ·replace h1 : (i : Int) < (s.x.floors.length : Int) := of_decide_eq_true h1
  refine Cm gg st [(1,vI id),(8,vS s.q s.x.floors.length),(9,vI (s.x.floors.length : Int)),(10,vI (i : Int)),(11,vB true)] [] fun _ _ => ?_
  have h1' := Int.ofNat_lt.1 h1
  have ⟨b1,o1,k1,x,hpe,hx,hm1,hc1,hb1⟩ := hR.2.atB h1'
  rw [(split_at' hx).2.2,floorOf] at hf
  refine cxs ?_
  refine ⟨_,op_idx (j := (i : Int)) (n := s.x.floors.length) (q := ⟨b1,o1,none⟩) rfl (congrArg (fun u => vS u s.x.floors.length) hpe) rfl rfl rfl (Int.natCast_nonneg _) h1,?_⟩
  refine ⟨_,op_lda rfl rfl rfl rfl rfl hm1 hc1 rfl,?_⟩
  refine ⟨_,rfl,?_⟩
  refine ⟨_,Os rfl,?_⟩
  refine Cm (gg + 1) st [(1,vI id),Ml 6 gg,(8,vS s.q s.x.floors.length),(9,vI (s.x.floors.length : Int)),(10,vI (i : Int)),(11,vB true)] [(6,gg,[vI x.id,vI x.inc])] fun _ _ => ?_
  refine ⟨_,rfl,?_⟩
  refine ⟨_,Od rfl,?_⟩
  refine ⟨_,rfl,?_⟩
  rintro (_|_) h2
  ·replace h2 : ¬ (x.id = id) := beq_eq_false_iff_ne.1 h2
   refine Cm (gg + 1) st [(1,vI id),Ml 6 gg,(8,vS s.q s.x.floors.length),(9,vI (s.x.floors.length : Int)),(10,vI (i : Int)),(11,vB true),(17,vB false)] [(6,gg,[vI x.id,vI x.inc])] fun _ _ => ?_
   refine cxs ?_
   have e20 : IntKind.wrap .i64 ((i : Int) + 1) = ((i + 1 : Nat) : Int) := (wrap_i64 (by omega) (by omega)).trans (by omega)
   refine ⟨_,rfl,?_⟩
   exact ⟨i + 1,s.x.floors.length - (i + 1),by omega,⟨rfl,rfl,rfl,congrArg (Value.int .i64) e20,trivial⟩,trivial,rfl,h1',by rw [hf,if_neg h2],rfl⟩
  ·replace h2 : x.id = id := beq_iff_eq.1 h2
   refine Cm (gg + 1) st [(1,vI id),Ml 6 gg,(8,vS s.q s.x.floors.length),(9,vI (s.x.floors.length : Int)),(10,vI (i : Int)),(11,vB true),(17,vB true)] [(6,gg,[vI x.id,vI x.inc])] fun _ _ => ?_
   refine ⟨_,rfl,?_⟩
   refine ⟨_,Od rfl,?_⟩
   exact cxs (Rt ⟨congrArg vI (by rw [hf,if_pos h2]),rfl⟩)
theorem pcS_nil {st : St} : OwnP st [pcR 6 cItm none [],pcR 2 cFlr none []] := ⟨fun c hc => by
 rcases List.mem_cons.1 hc with rfl | hc
 ·exact .inl ⟨rfl,rfl⟩
 ·rw [List.mem_singleton.1 hc]; exact .inl ⟨rfl,rfl⟩,List.pairwise_cons.2 ⟨fun c hc => Dis.none,List.pairwise_singleton _ _⟩⟩
def nilS : Sta := ⟨[],[]⟩
theorem newS_nil {n : Nat} : NewP n (pcS ⟨none,none,nilS⟩) := NewP.cons New.none (NewP.cons New.none NewP.nil)
def itemOk (s : Sta) (j : Nat) (x : Itm) : Prop := (0 ≤ x.id ∧ x.id ≤ 4) ∧ entOk x.e ∧ floorOf s.floors x.id < x.e.inc ∧ ∀ y,0 < j → s.items[j - 1]? = some y → y.id < x.id
def stateOk (s : Sta) : Prop := (∀ (j : Nat) x,s.items[j]? = some x → itemOk s j x) ∧ marksOk s.floors
theorem ac_spec_StateOk (s : SV) (st : St) (hR : RdS st s) (hb : bigS s.x) : C 17 [.agg #[vS s.p s.x.items.length,vS s.q s.x.floors.length]] st (fun v s' => ∃ x,v = .bool x ∧ (x = true ↔ stateOk s.x) ∧ s' = st) := by
 have hs1 : s.x.items.length ≤ 1048576 := hb.1
 have hs2 : s.x.floors.length ≤ 1048576 := hb.2.1
 refine AC.enterX (i := ⟨[1,4,6],[1,4,6,8,14,19,27,29,40,46,47,50,56,62,67,75,77,88],[0,1,2,3,4,5,6,11,54,59,92],[]⟩) [(5,[33],[29]),(11,[],[])] Tryd.func17 rfl rfl (by kernel_rfl) (by kernel_rfl) Tryd.ntmps17 (Lb rfl) rfl ?_
 refine ⟨_,rfl,?_⟩
 refine cxs ?_
 refine Cm 1 st [Ml 1 0,(2,vB false),(3,vI 0)] [(1,0,cSV s)] fun _ _ => ?_
 refine AW.loopM (fun i : Nat => [(1,vL 1 0 (0)),(3,vI (i : Int))]) (fun i : Nat => [(1,0,[vS s.p s.x.items.length,vS s.q s.x.floors.length])]) (fun m (i : Nat) st' => m = s.x.items.length - i ∧ i ≤ s.x.items.length ∧ (∀ (j : Nat) x,j < i → s.x.items[j]? = some x → itemOk s.x j x) ∧ st = st') 0 _ ⟨rfl,rfl,trivial⟩ ⟨rfl,trivial⟩ ⟨rfl,Nat.zero_le _,fun j x h => absurd h (Nat.not_lt_zero _),rfl⟩ ?_
 rintro m i ρ0 ff gg st' ⟨rfl,hi,hok,rfl⟩
 refine ⟨_,rfl,?_⟩
 refine ⟨_,Od rfl,?_⟩
 iterate 2 refine ⟨_,rfl,?_⟩
 rintro (_|_) h1
 ·replace h1 : ¬ ((i : Int) < (s.x.items.length : Int)) := of_decide_eq_false h1
  refine Cm gg st [Ml 1 0,(3,vI (i : Int)),(11,vB false)] [(1,0,cSV s)] fun _ _ => ?_
  refine cxs ?_
  refine Cm gg st [Ml 1 0,(5,vI 0)] [(1,0,cSV s)] fun _ _ => ?_
  refine AW.loopM (fun v : Nat => [(1,vL 1 0 (0)),(5,vI (v : Int))]) (fun v : Nat => [(1,0,[vS s.p s.x.items.length,vS s.q s.x.floors.length])]) (fun m (v : Nat) st' => m = s.x.floors.length - v ∧ v ≤ s.x.floors.length ∧ (∀ (j : Nat) x,j < v → s.x.floors[j]? = some x → markOk s.x.floors j x) ∧ st = st') 0 _ ⟨rfl,rfl,trivial⟩ ⟨rfl,trivial⟩ ⟨rfl,Nat.zero_le _,fun j x h => absurd h (Nat.not_lt_zero _),rfl⟩ ?_
  rintro m v ρ0 ff gg st' ⟨rfl,hi2,hok2,rfl⟩
  refine ⟨_,rfl,?_⟩
  refine ⟨_,Od rfl,?_⟩
  iterate 2 refine ⟨_,rfl,?_⟩
  rintro (_|_) h7
  ·replace h7 : ¬ ((v : Int) < (s.x.floors.length : Int)) := of_decide_eq_false h7
   refine Cm gg st [Ml 1 0,(5,vI (v : Int)),(59,vB false)] [(1,0,cSV s)] fun _ _ => ?_
   refine cxs ?_
   exact cxs (Rt ⟨true,rfl,⟨fun _ => ⟨fun j x hx => hok j x (by have := (List.getElem?_eq_some_iff.1 hx).1; omega) hx,fun j x hx => hok2 j x (by have := (List.getElem?_eq_some_iff.1 hx).1; omega) hx⟩,fun _ => rfl⟩,rfl⟩)
  ·replace h7 : (v : Int) < (s.x.floors.length : Int) := of_decide_eq_true h7
   refine Cm gg st [Ml 1 0,(5,vI (v : Int)),(59,vB true)] [(1,0,cSV s)] fun _ _ => ?_
   have h7' := Int.ofNat_lt.1 h7
   have ⟨b3,o3,k3,x,hpe,hx,hm1,hc1,hb1⟩ := hR.2.atB h7'
   refine cxs ?_
   refine ⟨_,rfl,?_⟩
   refine ⟨_,Od rfl,?_⟩
   refine ⟨_,op_idx (j := (v : Int)) (n := s.x.floors.length) (q := ⟨b3,o3,none⟩) rfl (congrArg (fun u => vS u s.x.floors.length) hpe) rfl rfl rfl (Int.natCast_nonneg _) h7,?_⟩
   refine ⟨_,op_lda rfl rfl rfl rfl rfl hm1 hc1 rfl,?_⟩
   refine ⟨_,rfl,?_⟩
   refine ⟨_,Os rfl,?_⟩
   refine Cm (gg + 1) st [Ml 1 0,(5,vI (v : Int)),Ml 6 gg,(59,vB true)] [(1,0,cSV s),(6,gg,[vI x.id,vI x.inc])] fun _ _ => ?_
   refine ⟨_,rfl,?_⟩
   refine ⟨_,Od rfl,?_⟩
   refine ⟨_,rfl,(ac_spec_l3Node x.id st).mono ?_⟩
   rintro _ st ⟨c,rfl,h8,rfl⟩
   rcases c with _|_
   ·replace h8 := of_decide_eq_false h8.symm
    iterate 3 refine ⟨_,rfl,?_⟩
    refine Cm (gg + 1) st [Ml 1 0,(5,vI (v : Int)),Ml 6 gg,(59,vB true),(92,vB true)] [(1,0,cSV s),(6,gg,[vI x.id,vI x.inc])] fun _ _ => ?_
    exact cxs (Rt ⟨false,rfl,⟨fun h => absurd h Bool.false_ne_true,fun h => absurd (h.2 v x hx).1 h8⟩,rfl⟩)
   ·replace h8 := of_decide_eq_true h8.symm
    iterate 2 refine ⟨_,rfl,?_⟩
    rintro (_|_) h9
    ·replace h9 : ¬ (0 < (v : Int)) := of_decide_eq_false h9
     iterate 3 refine ⟨_,rfl,?_⟩
     refine ⟨_,Od rfl,?_⟩
     refine ⟨_,rfl,(ac_spec_l1In x.inc 1 1000 st).mono ?_⟩
     rintro _ st ⟨d,rfl,h11,rfl⟩
     rcases d with _|_
     ·replace h11 := of_decide_eq_false h11.symm
      iterate 2 refine ⟨_,rfl,?_⟩
      refine Cm (gg + 1) st [Ml 1 0,(5,vI (v : Int)),Ml 6 gg,(59,vB true),(92,vB true)] [(1,0,cSV s),(6,gg,[vI x.id,vI x.inc])] fun _ _ => ?_
      exact cxs (Rt ⟨false,rfl,⟨fun h => absurd h Bool.false_ne_true,fun h => absurd (h.2 v x hx).2.1 h11⟩,rfl⟩)
     ·replace h11 := of_decide_eq_true h11.symm
      iterate 2 refine ⟨_,rfl,?_⟩
      refine Cm (gg + 1) st [Ml 1 0,(5,vI (v : Int)),Ml 6 gg,(59,vB true),(92,vB false)] [(1,0,cSV s),(6,gg,[vI x.id,vI x.inc])] fun _ _ => ?_
      refine cxs ?_
      have e61 : IntKind.wrap .i64 ((v : Int) + 1) = ((v + 1 : Nat) : Int) := (wrap_i64 (by omega) (by omega)).trans (by omega)
      refine ⟨_,rfl,?_⟩
      refine ⟨v + 1,s.x.floors.length - (v + 1),by omega,⟨rfl,congrArg (Value.int .i64) e61,trivial⟩,⟨rfl,trivial⟩,rfl,h7',fun j u hj hu => ?_,rfl⟩
      rcases Nat.lt_or_ge j v with h | h
      ·exact hok2 j u h hu
      ·obtain rfl : j = v := by omega
       rw [hx] at hu
       injection hu with hu
       subst hu
       exact ⟨h8,h11,fun y h0 hy => absurd h0 (by omega)⟩
    ·replace h9 : 0 < (v : Int) := of_decide_eq_true h9
     refine ⟨_,rfl,?_⟩
     refine ⟨_,Od rfl,?_⟩
     refine ⟨_,rfl,?_⟩
     refine ⟨_,Od rfl,?_⟩
     have ⟨b2,o2,k2,y,hqe,hy,hm2,hc2,hb2⟩ := hR.2.atB (j := v - 1) (by omega)
     have e80 : IntKind.wrap .i64 ((v : Int) - 1) = ((v - 1 : Nat) : Int) := (wrap_i64 (by omega) (by omega)).trans (by omega)
     refine ⟨_,rfl,?_⟩
     refine ⟨_,op_idx (j := ((v - 1 : Nat) : Int)) (n := s.x.floors.length) (q := ⟨b2,o2,none⟩) rfl (congrArg (fun u => vS u s.x.floors.length) hqe) (congrArg (Value.int .i64) e80) rfl rfl (Int.natCast_nonneg _) (by omega),?_⟩
     refine ⟨_,rfl,?_⟩
     refine ⟨_,op_ldc (i := 0) rfl rfl rfl rfl hm2 hc2 rfl rfl,?_⟩
     refine ⟨_,rfl,?_⟩
     rintro (_|_) h10
     ·replace h10 : ¬ (x.id ≤ y.id) := of_decide_eq_false h10
      iterate 3 refine ⟨_,rfl,?_⟩
      refine ⟨_,Od rfl,?_⟩
      refine ⟨_,rfl,(ac_spec_l1In x.inc 1 1000 st).mono ?_⟩
      rintro _ st ⟨d,rfl,h11,rfl⟩
      rcases d with _|_
      ·replace h11 := of_decide_eq_false h11.symm
       iterate 2 refine ⟨_,rfl,?_⟩
       refine Cm (gg + 1) st [Ml 1 0,(5,vI (v : Int)),Ml 6 gg,(59,vB true),(92,vB true)] [(1,0,cSV s),(6,gg,[vI x.id,vI x.inc])] fun _ _ => ?_
       exact cxs (Rt ⟨false,rfl,⟨fun h => absurd h Bool.false_ne_true,fun h => absurd (h.2 v x hx).2.1 h11⟩,rfl⟩)
      ·replace h11 := of_decide_eq_true h11.symm
       iterate 2 refine ⟨_,rfl,?_⟩
       refine Cm (gg + 1) st [Ml 1 0,(5,vI (v : Int)),Ml 6 gg,(59,vB true),(92,vB false)] [(1,0,cSV s),(6,gg,[vI x.id,vI x.inc])] fun _ _ => ?_
       refine cxs ?_
       have e61 : IntKind.wrap .i64 ((v : Int) + 1) = ((v + 1 : Nat) : Int) := (wrap_i64 (by omega) (by omega)).trans (by omega)
       refine ⟨_,rfl,?_⟩
       refine ⟨v + 1,s.x.floors.length - (v + 1),by omega,⟨rfl,congrArg (Value.int .i64) e61,trivial⟩,⟨rfl,trivial⟩,rfl,h7',fun j u hj hu => ?_,rfl⟩
       rcases Nat.lt_or_ge j v with h | h
       ·exact hok2 j u h hu
       ·obtain rfl : j = v := by omega
        rw [hx] at hu
        injection hu with hu
        subst hu
        refine ⟨h8,h11,fun z h0 hz => ?_⟩
        rw [hy] at hz
        injection hz with hz
        subst hz
        exact Int.not_le.1 h10
     ·replace h10 : x.id ≤ y.id := of_decide_eq_true h10
      iterate 3 refine ⟨_,rfl,?_⟩
      refine Cm (gg + 1) st [Ml 1 0,(5,vI (v : Int)),Ml 6 gg,(59,vB true),(92,vB true)] [(1,0,cSV s),(6,gg,[vI x.id,vI x.inc])] fun _ _ => ?_
      exact cxs (Rt ⟨false,rfl,⟨fun h => absurd h Bool.false_ne_true,fun h => absurd ((h.2 v x hx).2.2 y (by omega) hy) (Int.not_lt.2 h10)⟩,rfl⟩)
 ·replace h1 : (i : Int) < (s.x.items.length : Int) := of_decide_eq_true h1
  refine Cm gg st [Ml 1 0,(3,vI (i : Int)),(11,vB true)] [(1,0,cSV s)] fun _ _ => ?_
  have h1' := Int.ofNat_lt.1 h1
  have ⟨b1,o1,k1,x,hpe,hx,hm1,hc1,hb1⟩ := hR.1.atB h1'
  refine cxs ?_
  refine ⟨_,rfl,?_⟩
  refine ⟨_,Od rfl,?_⟩
  refine ⟨_,op_idx (j := (i : Int)) (n := s.x.items.length) (q := ⟨b1,o1,none⟩) rfl (congrArg (fun u => vS u s.x.items.length) hpe) rfl rfl rfl (Int.natCast_nonneg _) h1,?_⟩
  refine ⟨_,op_lda rfl rfl rfl rfl rfl hm1 hc1 rfl,?_⟩
  refine ⟨_,rfl,?_⟩
  refine ⟨_,Os rfl,?_⟩
  refine Cm (gg + 1) st [Ml 1 0,(3,vI (i : Int)),Ml 4 gg,(11,vB true)] [(1,0,cSV s),(4,gg,[vI x.id,vI x.e.inc,vI x.e.rank,vI x.e.beat,vI x.e.ver,.string x.e.data])] fun _ _ => ?_
  refine ⟨_,rfl,?_⟩
  refine ⟨_,Od rfl,?_⟩
  refine ⟨_,rfl,(ac_spec_l3Node x.id st).mono ?_⟩
  rintro _ st ⟨c,rfl,h2,rfl⟩
  rcases c with _|_
  ·replace h2 := of_decide_eq_false h2.symm
   iterate 4 refine ⟨_,rfl,?_⟩
   refine Cm (gg + 1) st [Ml 1 0,(3,vI (i : Int)),Ml 4 gg,(11,vB true),(54,vB true)] [(1,0,cSV s),(4,gg,[vI x.id,vI x.e.inc,vI x.e.rank,vI x.e.beat,vI x.e.ver,.string x.e.data])] fun _ _ => ?_
   exact cxs (Rt ⟨false,rfl,⟨fun h => absurd h Bool.false_ne_true,fun h => absurd (h.1 i x hx).1 h2⟩,rfl⟩)
  ·replace h2 := of_decide_eq_true h2.symm
   iterate 2 refine ⟨_,rfl,?_⟩
   rintro (_|_) h3
   ·replace h3 : ¬ (0 < (i : Int)) := of_decide_eq_false h3
    iterate 3 refine ⟨_,rfl,?_⟩
    refine ⟨_,Od rfl,?_⟩
    refine ⟨_,rfl,(ac_spec_EntryOk x.e st).mono ?_⟩
    rintro _ st ⟨d,rfl,h5,rfl⟩
    rcases d with _|_
    ·replace h5 := fun k => Bool.false_ne_true (h5.2 k)
     iterate 3 refine ⟨_,rfl,?_⟩
     refine Cm (gg + 1) st [Ml 1 0,(3,vI (i : Int)),Ml 4 gg,(11,vB true),(54,vB true)] [(1,0,cSV s),(4,gg,[vI x.id,vI x.e.inc,vI x.e.rank,vI x.e.beat,vI x.e.ver,.string x.e.data])] fun _ _ => ?_
     exact cxs (Rt ⟨false,rfl,⟨fun h => absurd h Bool.false_ne_true,fun h => absurd (h.1 i x hx).2.1 h5⟩,rfl⟩)
    ·replace h5 := h5.1 rfl
     iterate 4 refine ⟨_,rfl,?_⟩
     refine ⟨_,Od rfl,?_⟩
     refine ⟨ld_own rfl rfl rfl,?_⟩
     refine ⟨_,Od rfl,?_⟩
     refine ⟨_,rfl,?_⟩
     refine ⟨_,Od rfl,?_⟩
     refine ⟨_,rfl,(ac_spec_FloorOf s x.id st hR hb).mono ?_⟩
     rintro _ st ⟨rfl,rfl⟩
     refine ⟨fun _ _ => rfl,?_⟩
     refine ⟨_,rfl,?_⟩
     rintro (_|_) h6
     ·replace h6 : ¬ (x.e.inc ≤ floorOf s.x.floors x.id) := of_decide_eq_false h6
      refine ⟨_,rfl,?_⟩
      refine Cm (gg + 1) st [Ml 1 0,(3,vI (i : Int)),Ml 4 gg,(11,vB true),(54,vB false)] [(1,0,cSV s),(4,gg,[vI x.id,vI x.e.inc,vI x.e.rank,vI x.e.beat,vI x.e.ver,.string x.e.data])] fun _ _ => ?_
      refine cxs ?_
      have e13 : IntKind.wrap .i64 ((i : Int) + 1) = ((i + 1 : Nat) : Int) := (wrap_i64 (by omega) (by omega)).trans (by omega)
      refine ⟨_,rfl,?_⟩
      refine ⟨i + 1,s.x.items.length - (i + 1),by omega,⟨rfl,congrArg (Value.int .i64) e13,trivial⟩,⟨rfl,trivial⟩,rfl,h1',fun j u hj hu => ?_,rfl⟩
      rcases Nat.lt_or_ge j i with h | h
      ·exact hok j u h hu
      ·obtain rfl : j = i := by omega
       rw [hx] at hu
       injection hu with hu
       subst hu
       exact ⟨h2,h5,Int.not_le.1 h6,fun y h0 hy => absurd h0 (by omega)⟩
     ·replace h6 : x.e.inc ≤ floorOf s.x.floors x.id := of_decide_eq_true h6
      refine ⟨_,rfl,?_⟩
      refine Cm (gg + 1) st [Ml 1 0,(3,vI (i : Int)),Ml 4 gg,(11,vB true),(54,vB true)] [(1,0,cSV s),(4,gg,[vI x.id,vI x.e.inc,vI x.e.rank,vI x.e.beat,vI x.e.ver,.string x.e.data])] fun _ _ => ?_
      exact cxs (Rt ⟨false,rfl,⟨fun h => absurd h Bool.false_ne_true,fun h => absurd (h.1 i x hx).2.2.1 (Int.not_lt.2 h6)⟩,rfl⟩)
   ·replace h3 : 0 < (i : Int) := of_decide_eq_true h3
    refine ⟨_,rfl,?_⟩
    refine ⟨_,Od rfl,?_⟩
    refine ⟨_,rfl,?_⟩
    refine ⟨_,Od rfl,?_⟩
    have ⟨b2,o2,k2,y,hqe,hy,hm2,hc2,hb2⟩ := hR.1.atB (j := i - 1) (by omega)
    have e32 : IntKind.wrap .i64 ((i : Int) - 1) = ((i - 1 : Nat) : Int) := (wrap_i64 (by omega) (by omega)).trans (by omega)
    refine ⟨_,rfl,?_⟩
    refine ⟨_,op_idx (j := ((i - 1 : Nat) : Int)) (n := s.x.items.length) (q := ⟨b2,o2,none⟩) rfl (congrArg (fun u => vS u s.x.items.length) hqe) (congrArg (Value.int .i64) e32) rfl rfl (Int.natCast_nonneg _) (by omega),?_⟩
    refine ⟨_,rfl,?_⟩
    refine ⟨_,op_ldc (i := 0) rfl rfl rfl rfl hm2 hc2 rfl rfl,?_⟩
    refine ⟨_,rfl,?_⟩
    rintro (_|_) h4
    ·replace h4 : ¬ (x.id ≤ y.id) := of_decide_eq_false h4
     iterate 3 refine ⟨_,rfl,?_⟩
     refine ⟨_,Od rfl,?_⟩
     refine ⟨_,rfl,(ac_spec_EntryOk x.e st).mono ?_⟩
     rintro _ st ⟨d,rfl,h5,rfl⟩
     rcases d with _|_
     ·replace h5 := fun k => Bool.false_ne_true (h5.2 k)
      iterate 3 refine ⟨_,rfl,?_⟩
      refine Cm (gg + 1) st [Ml 1 0,(3,vI (i : Int)),Ml 4 gg,(11,vB true),(54,vB true)] [(1,0,cSV s),(4,gg,[vI x.id,vI x.e.inc,vI x.e.rank,vI x.e.beat,vI x.e.ver,.string x.e.data])] fun _ _ => ?_
      exact cxs (Rt ⟨false,rfl,⟨fun h => absurd h Bool.false_ne_true,fun h => absurd (h.1 i x hx).2.1 h5⟩,rfl⟩)
     ·replace h5 := h5.1 rfl
      iterate 4 refine ⟨_,rfl,?_⟩
      refine ⟨_,Od rfl,?_⟩
      refine ⟨ld_own rfl rfl rfl,?_⟩
      refine ⟨_,Od rfl,?_⟩
      refine ⟨_,rfl,?_⟩
      refine ⟨_,Od rfl,?_⟩
      refine ⟨_,rfl,(ac_spec_FloorOf s x.id st hR hb).mono ?_⟩
      rintro _ st ⟨rfl,rfl⟩
      refine ⟨fun _ _ => rfl,?_⟩
      refine ⟨_,rfl,?_⟩
      rintro (_|_) h6
      ·replace h6 : ¬ (x.e.inc ≤ floorOf s.x.floors x.id) := of_decide_eq_false h6
       refine ⟨_,rfl,?_⟩
       refine Cm (gg + 1) st [Ml 1 0,(3,vI (i : Int)),Ml 4 gg,(11,vB true),(54,vB false)] [(1,0,cSV s),(4,gg,[vI x.id,vI x.e.inc,vI x.e.rank,vI x.e.beat,vI x.e.ver,.string x.e.data])] fun _ _ => ?_
       refine cxs ?_
       have e13 : IntKind.wrap .i64 ((i : Int) + 1) = ((i + 1 : Nat) : Int) := (wrap_i64 (by omega) (by omega)).trans (by omega)
       refine ⟨_,rfl,?_⟩
       refine ⟨i + 1,s.x.items.length - (i + 1),by omega,⟨rfl,congrArg (Value.int .i64) e13,trivial⟩,⟨rfl,trivial⟩,rfl,h1',fun j u hj hu => ?_,rfl⟩
       rcases Nat.lt_or_ge j i with h | h
       ·exact hok j u h hu
       ·obtain rfl : j = i := by omega
        rw [hx] at hu
        injection hu with hu
        subst hu
        refine ⟨h2,h5,Int.not_le.1 h6,fun z h0 hz => ?_⟩
        rw [hy] at hz
        injection hz with hz
        subst hz
        exact Int.not_le.1 h4
      ·replace h6 : x.e.inc ≤ floorOf s.x.floors x.id := of_decide_eq_true h6
       refine ⟨_,rfl,?_⟩
       refine Cm (gg + 1) st [Ml 1 0,(3,vI (i : Int)),Ml 4 gg,(11,vB true),(54,vB true)] [(1,0,cSV s),(4,gg,[vI x.id,vI x.e.inc,vI x.e.rank,vI x.e.beat,vI x.e.ver,.string x.e.data])] fun _ _ => ?_
       exact cxs (Rt ⟨false,rfl,⟨fun h => absurd h Bool.false_ne_true,fun h => absurd (h.1 i x hx).2.2.1 (Int.not_lt.2 h6)⟩,rfl⟩)
    ·replace h4 : x.id ≤ y.id := of_decide_eq_true h4
     iterate 4 refine ⟨_,rfl,?_⟩
     refine Cm (gg + 1) st [Ml 1 0,(3,vI (i : Int)),Ml 4 gg,(11,vB true),(54,vB true)] [(1,0,cSV s),(4,gg,[vI x.id,vI x.e.inc,vI x.e.rank,vI x.e.beat,vI x.e.ver,.string x.e.data])] fun _ _ => ?_
     exact cxs (Rt ⟨false,rfl,⟨fun h => absurd h Bool.false_ne_true,fun h => absurd ((h.1 i x hx).2.2.2 y (by omega) hy) (Int.not_lt.2 h4)⟩,rfl⟩)
theorem ac_impl_StateOk (s : SV) (st : St) (hR : RdS st s) (hb : bigS s.x) : C 25 [.agg #[vS s.p s.x.items.length,vS s.q s.x.floors.length]] st (fun v s' => ∃ x,v = .bool x ∧ (x = true ↔ stateOk s.x) ∧ s' = st) := by
 have hs1 : s.x.items.length ≤ 1048576 := hb.1
 have hs2 : s.x.floors.length ≤ 1048576 := hb.2.1
 refine AC.enterX (i := ⟨[1,4,6],[1,4,6,7,15,20,29,36,42,50,55,61,62,65,74,81],[0,1,2,3,4,5,6,8,9,10,11,40,43,44,45,46,85],[]⟩) [(4,[],[]),(10,[17],[13])] Tryd.func25 rfl rfl (by kernel_rfl) (by kernel_rfl) Tryd.ntmps25 (Lb rfl) rfl ?_
 refine ⟨_,rfl,?_⟩
 refine Cm 1 st [Ml 1 0,(2,vB false)] [(1,0,cSV s)] fun _ _ => ?_
 iterate 3 refine ⟨_,rfl,?_⟩
 refine Cm 1 st [Ml 1 0,(2,vB false),(8,vS s.q s.x.floors.length),(9,vI (s.x.floors.length)),(10,vI 0)] [(1,0,cSV s)] fun _ _ => ?_
 refine AW.loopM (fun v : Nat => [(1,vL 1 0 (0)),(8,vS s.q s.x.floors.length),(9,vI (s.x.floors.length : Int)),(10,vI (v : Int))]) (fun v : Nat => [(1,0,[vS s.p s.x.items.length,vS s.q s.x.floors.length])]) (fun m (v : Nat) st' => m = s.x.floors.length - v ∧ v ≤ s.x.floors.length ∧ (∀ (j : Nat) x,j < v → s.x.floors[j]? = some x → markOk s.x.floors j x) ∧ st = st') 0 _ ⟨rfl,rfl,rfl,rfl,trivial⟩ ⟨rfl,trivial⟩ ⟨rfl,Nat.zero_le _,fun j x h => absurd h (Nat.not_lt_zero _),rfl⟩ ?_
 rintro m v ρ0 ff gg st' ⟨rfl,hi2,hok2,rfl⟩
 refine ⟨_,rfl,?_⟩
 rintro (_|_) h7
 ·replace h7 : ¬ ((v : Int) < (s.x.floors.length : Int)) := of_decide_eq_false h7
  refine Cm gg st [Ml 1 0,(8,vS s.q s.x.floors.length),(9,vI (s.x.floors.length : Int)),(10,vI (v : Int)),(11,vB false)] [(1,0,cSV s)] fun _ _ => ?_
  refine cxs ?_
  refine ⟨_,rfl,?_⟩
  refine ⟨_,Od rfl,?_⟩
  refine ⟨_,rfl,?_⟩
  refine Cm gg st [Ml 1 0,(43,vS s.p s.x.items.length),(44,vI (s.x.items.length)),(45,vI 0)] [(1,0,cSV s)] fun _ _ => ?_
  refine AW.loopM (fun i : Nat => [(1,vL 1 0 (0)),(43,vS s.p s.x.items.length),(44,vI (s.x.items.length : Int)),(45,vI (i : Int))]) (fun i : Nat => [(1,0,[vS s.p s.x.items.length,vS s.q s.x.floors.length])]) (fun m (i : Nat) st' => m = s.x.items.length - i ∧ i ≤ s.x.items.length ∧ (∀ (j : Nat) x,j < i → s.x.items[j]? = some x → itemOk s.x j x) ∧ st = st') 0 _ ⟨rfl,rfl,rfl,rfl,trivial⟩ ⟨rfl,trivial⟩ ⟨rfl,Nat.zero_le _,fun j x h => absurd h (Nat.not_lt_zero _),rfl⟩ ?_
  rintro m i ρ0 ff gg st' ⟨rfl,hi,hok,rfl⟩
  refine ⟨_,rfl,?_⟩
  rintro (_|_) h1
  ·replace h1 : ¬ ((i : Int) < (s.x.items.length : Int)) := of_decide_eq_false h1
   refine Cm gg st [Ml 1 0,(43,vS s.p s.x.items.length),(44,vI (s.x.items.length : Int)),(45,vI (i : Int)),(46,vB false)] [(1,0,cSV s)] fun _ _ => ?_
   refine cxs ?_
   exact cxs (Rt ⟨true,rfl,⟨fun _ => ⟨fun j x hx => hok j x (by have := (List.getElem?_eq_some_iff.1 hx).1; omega) hx,fun j x hx => hok2 j x (by have := (List.getElem?_eq_some_iff.1 hx).1; omega) hx⟩,fun _ => rfl⟩,rfl⟩)
  ·replace h1 : (i : Int) < (s.x.items.length : Int) := of_decide_eq_true h1
   refine Cm gg st [Ml 1 0,(43,vS s.p s.x.items.length),(44,vI (s.x.items.length : Int)),(45,vI (i : Int)),(46,vB true)] [(1,0,cSV s)] fun _ _ => ?_
   have h1' := Int.ofNat_lt.1 h1
   have ⟨b1,o1,k1,x,hpe,hx,hm1,hc1,hb1⟩ := hR.1.atB h1'
   refine cxs ?_
   refine ⟨_,op_idx (j := (i : Int)) (n := s.x.items.length) (q := ⟨b1,o1,none⟩) rfl (congrArg (fun u => vS u s.x.items.length) hpe) rfl rfl rfl (Int.natCast_nonneg _) h1,?_⟩
   refine ⟨_,op_lda rfl rfl rfl rfl rfl hm1 hc1 rfl,?_⟩
   refine ⟨_,rfl,?_⟩
   refine ⟨_,Os rfl,?_⟩
   refine Cm (gg + 1) st [Ml 1 0,(5,vI (i : Int)),Ml 6 gg,(43,vS s.p s.x.items.length),(44,vI (s.x.items.length : Int)),(45,vI (i : Int)),(46,vB true)] [(1,0,cSV s),(6,gg,[vI x.id,vI x.e.inc,vI x.e.rank,vI x.e.beat,vI x.e.ver,.string x.e.data])] fun _ _ => ?_
   refine ⟨_,rfl,?_⟩
   refine ⟨_,Od rfl,?_⟩
   refine ⟨_,rfl,(ac_impl_isNode x.id st).mono ?_⟩
   rintro _ st ⟨c,rfl,h2,rfl⟩
   rcases c with _|_
   ·replace h2 := of_decide_eq_false h2.symm
    iterate 4 refine ⟨_,rfl,?_⟩
    refine Cm (gg + 1) st [Ml 1 0,(5,vI (i : Int)),Ml 6 gg,(43,vS s.p s.x.items.length),(44,vI (s.x.items.length : Int)),(45,vI (i : Int)),(46,vB true),(85,vB true)] [(1,0,cSV s),(6,gg,[vI x.id,vI x.e.inc,vI x.e.rank,vI x.e.beat,vI x.e.ver,.string x.e.data])] fun _ _ => ?_
    exact cxs (Rt ⟨false,rfl,⟨fun h => absurd h Bool.false_ne_true,fun h => absurd (h.1 i x hx).1 h2⟩,rfl⟩)
   ·replace h2 := of_decide_eq_true h2.symm
    iterate 2 refine ⟨_,rfl,?_⟩
    refine ⟨_,Od rfl,?_⟩
    refine ⟨_,rfl,(ac_impl_EntryOk x.e st).mono ?_⟩
    rintro _ st ⟨d,rfl,h5,rfl⟩
    rcases d with _|_
    ·replace h5 := fun k => Bool.false_ne_true (h5.2 k)
     iterate 4 refine ⟨_,rfl,?_⟩
     refine Cm (gg + 1) st [Ml 1 0,(5,vI (i : Int)),Ml 6 gg,(43,vS s.p s.x.items.length),(44,vI (s.x.items.length : Int)),(45,vI (i : Int)),(46,vB true),(85,vB true)] [(1,0,cSV s),(6,gg,[vI x.id,vI x.e.inc,vI x.e.rank,vI x.e.beat,vI x.e.ver,.string x.e.data])] fun _ _ => ?_
     exact cxs (Rt ⟨false,rfl,⟨fun h => absurd h Bool.false_ne_true,fun h => absurd (h.1 i x hx).2.1 h5⟩,rfl⟩)
    ·replace h5 := h5.1 rfl
     iterate 4 refine ⟨_,rfl,?_⟩
     refine ⟨_,Od rfl,?_⟩
     refine ⟨ld_own rfl rfl rfl,?_⟩
     refine ⟨_,Od rfl,?_⟩
     refine ⟨_,rfl,?_⟩
     refine ⟨_,Od rfl,?_⟩
     refine ⟨_,rfl,(ac_impl_FloorOf s x.id st hR hb).mono ?_⟩
     rintro _ st ⟨rfl,rfl⟩
     refine ⟨fun _ _ => rfl,?_⟩
     refine ⟨_,rfl,?_⟩
     rintro (_|_) h6
     ·replace h6 : ¬ (x.e.inc ≤ floorOf s.x.floors x.id) := of_decide_eq_false h6
      iterate 2 refine ⟨_,rfl,?_⟩
      rintro (_|_) h3
      ·replace h3 : ¬ (0 < (i : Int)) := of_decide_eq_false h3
       iterate 2 refine ⟨_,rfl,?_⟩
       refine Cm (gg + 1) st [Ml 1 0,(5,vI (i : Int)),Ml 6 gg,(43,vS s.p s.x.items.length),(44,vI (s.x.items.length : Int)),(45,vI (i : Int)),(46,vB true),(85,vB false)] [(1,0,cSV s),(6,gg,[vI x.id,vI x.e.inc,vI x.e.rank,vI x.e.beat,vI x.e.ver,.string x.e.data])] fun _ _ => ?_
       refine cxs ?_
       have e86 : IntKind.wrap .i64 ((i : Int) + 1) = ((i + 1 : Nat) : Int) := (wrap_i64 (by omega) (by omega)).trans (by omega)
       refine ⟨_,rfl,?_⟩
       refine ⟨i + 1,s.x.items.length - (i + 1),by omega,⟨rfl,rfl,rfl,congrArg (Value.int .i64) e86,trivial⟩,⟨rfl,trivial⟩,rfl,h1',fun j u hj hu => ?_,rfl⟩
       rcases Nat.lt_or_ge j i with h | h
       ·exact hok j u h hu
       ·obtain rfl : j = i := by omega
        rw [hx] at hu
        injection hu with hu
        subst hu
        exact ⟨h2,h5,Int.not_le.1 h6,fun y h0 hy => absurd h0 (by omega)⟩
      ·replace h3 : 0 < (i : Int) := of_decide_eq_true h3
       refine ⟨_,rfl,?_⟩
       refine ⟨_,Od rfl,?_⟩
       have ⟨b2,o2,k2,y,hqe,hy,hm2,hc2,hb2⟩ := hR.1.atB (j := i - 1) (by omega)
       have e77 : IntKind.wrap .i64 ((i : Int) - 1) = ((i - 1 : Nat) : Int) := (wrap_i64 (by omega) (by omega)).trans (by omega)
       refine ⟨_,rfl,?_⟩
       refine ⟨_,op_idx (j := ((i - 1 : Nat) : Int)) (n := s.x.items.length) (q := ⟨b2,o2,none⟩) rfl (congrArg (fun u => vS u s.x.items.length) hqe) (congrArg (Value.int .i64) e77) rfl rfl (Int.natCast_nonneg _) (by omega),?_⟩
       refine ⟨_,rfl,?_⟩
       refine ⟨_,op_ldc (i := 0) rfl rfl rfl rfl hm2 hc2 rfl rfl,?_⟩
       refine ⟨_,rfl,?_⟩
       refine ⟨_,Od rfl,?_⟩
       refine ⟨_,rfl,?_⟩
       rintro (_|_) h4
       ·replace h4 : ¬ (x.id ≤ y.id) := of_decide_eq_false h4
        iterate 2 refine ⟨_,rfl,?_⟩
        refine Cm (gg + 1) st [Ml 1 0,(5,vI (i : Int)),Ml 6 gg,(43,vS s.p s.x.items.length),(44,vI (s.x.items.length : Int)),(45,vI (i : Int)),(46,vB true),(85,vB false)] [(1,0,cSV s),(6,gg,[vI x.id,vI x.e.inc,vI x.e.rank,vI x.e.beat,vI x.e.ver,.string x.e.data])] fun _ _ => ?_
        refine cxs ?_
        have e86 : IntKind.wrap .i64 ((i : Int) + 1) = ((i + 1 : Nat) : Int) := (wrap_i64 (by omega) (by omega)).trans (by omega)
        refine ⟨_,rfl,?_⟩
        refine ⟨i + 1,s.x.items.length - (i + 1),by omega,⟨rfl,rfl,rfl,congrArg (Value.int .i64) e86,trivial⟩,⟨rfl,trivial⟩,rfl,h1',fun j u hj hu => ?_,rfl⟩
        rcases Nat.lt_or_ge j i with h | h
        ·exact hok j u h hu
        ·obtain rfl : j = i := by omega
         rw [hx] at hu
         injection hu with hu
         subst hu
         refine ⟨h2,h5,Int.not_le.1 h6,fun z h0 hz => ?_⟩
         rw [hy] at hz
         injection hz with hz
         subst hz
         exact Int.not_le.1 h4
       ·replace h4 : x.id ≤ y.id := of_decide_eq_true h4
        iterate 2 refine ⟨_,rfl,?_⟩
        refine Cm (gg + 1) st [Ml 1 0,(5,vI (i : Int)),Ml 6 gg,(43,vS s.p s.x.items.length),(44,vI (s.x.items.length : Int)),(45,vI (i : Int)),(46,vB true),(85,vB true)] [(1,0,cSV s),(6,gg,[vI x.id,vI x.e.inc,vI x.e.rank,vI x.e.beat,vI x.e.ver,.string x.e.data])] fun _ _ => ?_
        exact cxs (Rt ⟨false,rfl,⟨fun h => absurd h Bool.false_ne_true,fun h => absurd ((h.1 i x hx).2.2.2 y (by omega) hy) (Int.not_lt.2 h4)⟩,rfl⟩)
     ·replace h6 : x.e.inc ≤ floorOf s.x.floors x.id := of_decide_eq_true h6
      iterate 2 refine ⟨_,rfl,?_⟩
      refine Cm (gg + 1) st [Ml 1 0,(5,vI (i : Int)),Ml 6 gg,(43,vS s.p s.x.items.length),(44,vI (s.x.items.length : Int)),(45,vI (i : Int)),(46,vB true),(85,vB true)] [(1,0,cSV s),(6,gg,[vI x.id,vI x.e.inc,vI x.e.rank,vI x.e.beat,vI x.e.ver,.string x.e.data])] fun _ _ => ?_
      exact cxs (Rt ⟨false,rfl,⟨fun h => absurd h Bool.false_ne_true,fun h => absurd (h.1 i x hx).2.2.1 (Int.not_lt.2 h6)⟩,rfl⟩)
 ·replace h7 : (v : Int) < (s.x.floors.length : Int) := of_decide_eq_true h7
  refine Cm gg st [Ml 1 0,(8,vS s.q s.x.floors.length),(9,vI (s.x.floors.length : Int)),(10,vI (v : Int)),(11,vB true)] [(1,0,cSV s)] fun _ _ => ?_
  have h7' := Int.ofNat_lt.1 h7
  have ⟨b3,o3,k3,x,hpe,hx,hm1,hc1,hb1⟩ := hR.2.atB h7'
  refine cxs ?_
  refine ⟨_,op_idx (j := (v : Int)) (n := s.x.floors.length) (q := ⟨b3,o3,none⟩) rfl (congrArg (fun u => vS u s.x.floors.length) hpe) rfl rfl rfl (Int.natCast_nonneg _) h7,?_⟩
  refine ⟨_,op_lda rfl rfl rfl rfl rfl hm1 hc1 rfl,?_⟩
  refine ⟨_,rfl,?_⟩
  refine ⟨_,Os rfl,?_⟩
  refine Cm (gg + 1) st [Ml 1 0,(3,vI (v : Int)),Ml 4 gg,(8,vS s.q s.x.floors.length),(9,vI (s.x.floors.length : Int)),(10,vI (v : Int)),(11,vB true)] [(1,0,cSV s),(4,gg,[vI x.id,vI x.inc])] fun _ _ => ?_
  refine ⟨_,rfl,?_⟩
  refine ⟨_,Od rfl,?_⟩
  refine ⟨_,rfl,(ac_impl_isNode x.id st).mono ?_⟩
  rintro _ st ⟨c,rfl,h8,rfl⟩
  rcases c with _|_
  ·replace h8 := of_decide_eq_false h8.symm
   iterate 3 refine ⟨_,rfl,?_⟩
   refine Cm (gg + 1) st [Ml 1 0,(3,vI (v : Int)),Ml 4 gg,(8,vS s.q s.x.floors.length),(9,vI (s.x.floors.length : Int)),(10,vI (v : Int)),(11,vB true),(40,vB true)] [(1,0,cSV s),(4,gg,[vI x.id,vI x.inc])] fun _ _ => ?_
   exact cxs (Rt ⟨false,rfl,⟨fun h => absurd h Bool.false_ne_true,fun h => absurd (h.2 v x hx).1 h8⟩,rfl⟩)
  ·replace h8 := of_decide_eq_true h8.symm
   iterate 2 refine ⟨_,rfl,?_⟩
   refine ⟨_,Od rfl,?_⟩
   refine ⟨_,rfl,(ac_impl_within x.inc 1 1000 st).mono ?_⟩
   rintro _ st ⟨d,rfl,h11,rfl⟩
   rcases d with _|_
   ·replace h11 := of_decide_eq_false h11.symm
    iterate 3 refine ⟨_,rfl,?_⟩
    refine Cm (gg + 1) st [Ml 1 0,(3,vI (v : Int)),Ml 4 gg,(8,vS s.q s.x.floors.length),(9,vI (s.x.floors.length : Int)),(10,vI (v : Int)),(11,vB true),(40,vB true)] [(1,0,cSV s),(4,gg,[vI x.id,vI x.inc])] fun _ _ => ?_
    exact cxs (Rt ⟨false,rfl,⟨fun h => absurd h Bool.false_ne_true,fun h => absurd (h.2 v x hx).2.1 h11⟩,rfl⟩)
   ·replace h11 := of_decide_eq_true h11.symm
    iterate 3 refine ⟨_,rfl,?_⟩
    rintro (_|_) h9
    ·replace h9 : ¬ (0 < (v : Int)) := of_decide_eq_false h9
     iterate 2 refine ⟨_,rfl,?_⟩
     refine Cm (gg + 1) st [Ml 1 0,(3,vI (v : Int)),Ml 4 gg,(8,vS s.q s.x.floors.length),(9,vI (s.x.floors.length : Int)),(10,vI (v : Int)),(11,vB true),(40,vB false)] [(1,0,cSV s),(4,gg,[vI x.id,vI x.inc])] fun _ _ => ?_
     refine cxs ?_
     have e41 : IntKind.wrap .i64 ((v : Int) + 1) = ((v + 1 : Nat) : Int) := (wrap_i64 (by omega) (by omega)).trans (by omega)
     refine ⟨_,rfl,?_⟩
     refine ⟨v + 1,s.x.floors.length - (v + 1),by omega,⟨rfl,rfl,rfl,congrArg (Value.int .i64) e41,trivial⟩,⟨rfl,trivial⟩,rfl,h7',fun j u hj hu => ?_,rfl⟩
     rcases Nat.lt_or_ge j v with h | h
     ·exact hok2 j u h hu
     ·obtain rfl : j = v := by omega
      rw [hx] at hu
      injection hu with hu
      subst hu
      exact ⟨h8,h11,fun y h0 hy => absurd h0 (by omega)⟩
    ·replace h9 : 0 < (v : Int) := of_decide_eq_true h9
     refine ⟨_,rfl,?_⟩
     refine ⟨_,Od rfl,?_⟩
     have ⟨b2,o2,k2,y,hqe,hy,hm2,hc2,hb2⟩ := hR.2.atB (j := v - 1) (by omega)
     have e32 : IntKind.wrap .i64 ((v : Int) - 1) = ((v - 1 : Nat) : Int) := (wrap_i64 (by omega) (by omega)).trans (by omega)
     refine ⟨_,rfl,?_⟩
     refine ⟨_,op_idx (j := ((v - 1 : Nat) : Int)) (n := s.x.floors.length) (q := ⟨b2,o2,none⟩) rfl (congrArg (fun u => vS u s.x.floors.length) hqe) (congrArg (Value.int .i64) e32) rfl rfl (Int.natCast_nonneg _) (by omega),?_⟩
     refine ⟨_,rfl,?_⟩
     refine ⟨_,op_ldc (i := 0) rfl rfl rfl rfl hm2 hc2 rfl rfl,?_⟩
     refine ⟨_,rfl,?_⟩
     refine ⟨_,Od rfl,?_⟩
     refine ⟨_,rfl,?_⟩
     rintro (_|_) h10
     ·replace h10 : ¬ (x.id ≤ y.id) := of_decide_eq_false h10
      iterate 2 refine ⟨_,rfl,?_⟩
      refine Cm (gg + 1) st [Ml 1 0,(3,vI (v : Int)),Ml 4 gg,(8,vS s.q s.x.floors.length),(9,vI (s.x.floors.length : Int)),(10,vI (v : Int)),(11,vB true),(40,vB false)] [(1,0,cSV s),(4,gg,[vI x.id,vI x.inc])] fun _ _ => ?_
      refine cxs ?_
      have e41 : IntKind.wrap .i64 ((v : Int) + 1) = ((v + 1 : Nat) : Int) := (wrap_i64 (by omega) (by omega)).trans (by omega)
      refine ⟨_,rfl,?_⟩
      refine ⟨v + 1,s.x.floors.length - (v + 1),by omega,⟨rfl,rfl,rfl,congrArg (Value.int .i64) e41,trivial⟩,⟨rfl,trivial⟩,rfl,h7',fun j u hj hu => ?_,rfl⟩
      rcases Nat.lt_or_ge j v with h | h
      ·exact hok2 j u h hu
      ·obtain rfl : j = v := by omega
       rw [hx] at hu
       injection hu with hu
       subst hu
       refine ⟨h8,h11,fun z h0 hz => ?_⟩
       rw [hy] at hz
       injection hz with hz
       subst hz
       exact Int.not_le.1 h10
     ·replace h10 : x.id ≤ y.id := of_decide_eq_true h10
      iterate 2 refine ⟨_,rfl,?_⟩
      refine Cm (gg + 1) st [Ml 1 0,(3,vI (v : Int)),Ml 4 gg,(8,vS s.q s.x.floors.length),(9,vI (s.x.floors.length : Int)),(10,vI (v : Int)),(11,vB true),(40,vB true)] [(1,0,cSV s),(4,gg,[vI x.id,vI x.inc])] fun _ _ => ?_
      exact cxs (Rt ⟨false,rfl,⟨fun h => absurd h Bool.false_ne_true,fun h => absurd ((h.2 v x hx).2.2 y (by omega) hy) (Int.not_lt.2 h10)⟩,rfl⟩)
theorem row_sub {cs r q : List Value} {d z i n : Nat} (hc : (cs.drop d).take z = r) (hq : (r.drop i).take n = q) (hle : i + n ≤ z) : (cs.drop (d + i)).take n = q := by
 subst hc hq
 rw [List.drop_take,List.take_take,List.drop_drop,Nat.min_eq_left (by omega)]
theorem copy_facts {st s1 s2 : St} {q1 q2 : Option Addr} {A B : Prop} {m : Nat} (hP : Pres st s1) (hN : New st.next q1) (hPr : Pr q1 s1 s2) (h : (q2 = q1 ∧ A ∧ B) ∨ (0 < m ∧ New s1.next q2)) : Pres st s2 ∧ New st.next q2 := by
 refine ⟨hPr.pres hP hN,?_⟩
 rcases h with ⟨h,_⟩ | ⟨_,h⟩
 ·rw [h]; exact hN
 ·exact h.le hP.1
theorem Pr.low {p : Option Addr} {st0 s s' : St} (h : Pr p s s') (hP : Pres st0 s) (hN : New st0.next p) : ∀ a,a < st0.next → s'.mem a = s.mem a :=
 fun a ha => h.2 a (Nat.lt_of_lt_of_le ha hP.1) fun q hq e => by have := hN q hq; omega
theorem Pres.low {st0 s s' : St} (h : Pres s s') (hP : Pres st0 s) : ∀ a,a < st0.next → s'.mem a = s.mem a := fun a ha => h.2 a (Nat.lt_of_lt_of_le ha hP.1)
theorem ac_impl_copyState (s : SV) (st : St) (hR : RdS st s) (hb : bigS s.x) : C 30 [.agg #[vS s.p s.x.items.length,vS s.q s.x.floors.length]] st (fun v s' => ∃ u : SV,v = .agg #[vS u.p u.x.items.length,vS u.q u.x.floors.length] ∧ u.x = s.x ∧ OwnP s' (pcS u) ∧ NewP st.next (pcS u) ∧ Pres st s') := by
 have hs1 : s.x.items.length ≤ 1048576 := hb.1
 have hs2 : s.x.floors.length ≤ 1048576 := hb.2.1
 refine AC.enterX (i := ⟨[1,2],[1,2,4,8],[0,1,2],[]⟩) [(1,[3],[6])] Tryd.func30 rfl rfl (by kernel_rfl) (by kernel_rfl) Tryd.ntmps30 (Lb rfl) rfl ?_
 iterate 2 refine ⟨_,rfl,?_⟩
 refine Cm 2 st [Ml 1 0,Ml 2 1] [(1,0,cSV s),(2,1,[Sn,Sn])] fun _ _ => ?_
 refine op_nilK (z := 6) (f := cItm) rfl rfl rfl rfl (by decide) rfl ?_
 intro q1 s1 hO1 hP1 hN1
 iterate 2 refine ⟨_,rfl,?_⟩
 refine op_app (z := 6) (st := s1) (f := cItm) (b := 56) (l := []) (l2 := s.x.items) rfl rfl rfl rfl rfl rfl rfl (by decide) len_cItm rfl rfl rfl rfl (by omega) (by unfold maxLen; omega) hO1 (hP1.rows hR.1) ?_
 intro q2 s2 hO2 hPr2 hN2
 refine ⟨hPr2.low hP1 hN1,?_⟩
 have ⟨hP2,hN2⟩ := copy_facts hP1 hN1 hPr2 hN2
 refine op_nilK (z := 2) (f := cFlr) rfl rfl rfl rfl (by decide) rfl ?_
 intro q3 s3 hO3 hP3 hN3
 iterate 2 refine ⟨_,rfl,?_⟩
 refine ⟨ld_own rfl rfl rfl,?_⟩
 refine op_app (z := 2) (st := s3) (f := cFlr) (b := 16) (l := []) (l2 := s.x.floors) rfl rfl rfl rfl rfl rfl rfl (by decide) len_cFlr rfl rfl rfl rfl (by omega) (by unfold maxLen; omega) hO3 ((hP2.trans hP3).rows hR.2) ?_
 intro q4 s4 hO4 hPr4 hN4
 iterate 2 refine ⟨_,rfl,?_⟩
 refine cxs ?_
 have ⟨hP4,hN4⟩ := copy_facts hP3 hN3 hPr4 hN4
 refine ⟨.inl rfl,_,rfl,⟨q2,q4,s.x⟩,?_,rfl,OwnP.join (l := [pcR 6 cItm q2 s.x.items]) (OwnP.one (own_pc hO2)) hP4 (OwnP.one (own_pc hO4)) (NewP.cons hN4 NewP.nil),NewP.cons hN2 (NewP.cons (hN4.le hP2.1) NewP.nil),hP2.trans hP4⟩
 show Value.agg #[vS q2 (0 + s.x.items.length),vS q4 (0 + s.x.floors.length)] = _
 rw [Nat.zero_add,Nat.zero_add]
theorem ac_spec_l3Copy (s : SV) (st : St) (hR : RdS st s) (hb : bigS s.x) : C 39 [.agg #[vS s.p s.x.items.length,vS s.q s.x.floors.length]] st (fun v s' => ∃ u : SV,v = .agg #[vS u.p u.x.items.length,vS u.q u.x.floors.length] ∧ u.x = s.x ∧ OwnP s' (pcS u) ∧ NewP st.next (pcS u) ∧ Pres st s') := by
 have hs1 : s.x.items.length ≤ 1048576 := hb.1
 have hs2 : s.x.floors.length ≤ 1048576 := hb.2.1
 refine AC.enterX (i := ⟨[1,2],[1,2,4,8],[0,1,2],[]⟩) [(1,[3],[6])] Tryd.func39 rfl rfl (by kernel_rfl) (by kernel_rfl) Tryd.ntmps39 (Lb rfl) rfl ?_
 iterate 2 refine ⟨_,rfl,?_⟩
 refine Cm 2 st [Ml 1 0,Ml 2 1] [(1,0,cSV s),(2,1,[Sn,Sn])] fun _ _ => ?_
 refine op_nilK (z := 6) (f := cItm) rfl rfl rfl rfl (by decide) rfl ?_
 intro q1 s1 hO1 hP1 hN1
 iterate 2 refine ⟨_,rfl,?_⟩
 refine op_app (z := 6) (st := s1) (f := cItm) (b := 56) (l := []) (l2 := s.x.items) rfl rfl rfl rfl rfl rfl rfl (by decide) len_cItm rfl rfl rfl rfl (by omega) (by unfold maxLen; omega) hO1 (hP1.rows hR.1) ?_
 intro q2 s2 hO2 hPr2 hN2
 refine ⟨hPr2.low hP1 hN1,?_⟩
 have ⟨hP2,hN2⟩ := copy_facts hP1 hN1 hPr2 hN2
 refine op_nilK (z := 2) (f := cFlr) rfl rfl rfl rfl (by decide) rfl ?_
 intro q3 s3 hO3 hP3 hN3
 iterate 2 refine ⟨_,rfl,?_⟩
 refine ⟨ld_own rfl rfl rfl,?_⟩
 refine op_app (z := 2) (st := s3) (f := cFlr) (b := 16) (l := []) (l2 := s.x.floors) rfl rfl rfl rfl rfl rfl rfl (by decide) len_cFlr rfl rfl rfl rfl (by omega) (by unfold maxLen; omega) hO3 ((hP2.trans hP3).rows hR.2) ?_
 intro q4 s4 hO4 hPr4 hN4
 iterate 2 refine ⟨_,rfl,?_⟩
 refine cxs ?_
 have ⟨hP4,hN4⟩ := copy_facts hP3 hN3 hPr4 hN4
 refine ⟨.inl rfl,_,rfl,⟨q2,q4,s.x⟩,?_,rfl,OwnP.join (l := [pcR 6 cItm q2 s.x.items]) (OwnP.one (own_pc hO2)) hP4 (OwnP.one (own_pc hO4)) (NewP.cons hN4 NewP.nil),NewP.cons hN2 (NewP.cons (hN4.le hP2.1) NewP.nil),hP2.trans hP4⟩
 show Value.agg #[vS q2 (0 + s.x.items.length),vS q4 (0 + s.x.floors.length)] = _
 rw [Nat.zero_add,Nat.zero_add]
def entP : List Itm → Int → Ent × Bool
 | [],_ => (zEnt,false)
 | x :: l,id => if x.id = id then (x.e,true) else entP l id
theorem ac_impl_EntryOf (s : SV) (id : Int) (st : St) (hR : RdS st s) (hb : bigS s.x) : C 21 [.agg #[vS s.p s.x.items.length,vS s.q s.x.floors.length],vI id] st (fun v s' => ∃ e b,v = .tuple #[.agg #[vI e.inc,vI e.rank,vI e.beat,vI e.ver,.string e.data],vB b] ∧ (e,b) = entP s.x.items id ∧ s' = st) := by
 have hs1 : s.x.items.length ≤ 1048576 := hb.1
 refine AC.enterX (i := ⟨[2,4,7],[2,4,7,8,15,19],[0,1,2,4,5,7,9,10,11,12,18],[]⟩) [] Tryd.func21 rfl rfl (by kernel_rfl) (by kernel_rfl) Tryd.ntmps21 (Lb rfl) rfl ?_
 iterate 2 refine ⟨_,rfl,?_⟩
 refine Cm 2 st [(1,vI id),Ml 2 0,Ml 4 1,(5,vB false)] [(2,0,cSV s),(4,1,[vI 0,vI 0,vI 0,vI 0,.string ⟨#[]⟩])] fun _ _ => ?_
 iterate 3 refine ⟨_,rfl,?_⟩
 refine Cm 2 st [(1,vI id),Ml 2 0,Ml 4 1,(5,vB false),(9,vS s.p s.x.items.length),(10,vI (s.x.items.length)),(11,vI 0)] [(2,0,cSV s),(4,1,[vI 0,vI 0,vI 0,vI 0,.string ⟨#[]⟩])] fun _ _ => ?_
 refine AW.loopM (fun i : Nat => [(1,vI id),(2,vL 2 0 (0)),(4,vL 4 0 (1)),(5,vB false),(9,vS s.p s.x.items.length),(10,vI (s.x.items.length : Int)),(11,vI (i : Int))]) (fun i : Nat => [(2,0,[vS s.p s.x.items.length,vS s.q s.x.floors.length]),(4,1,[vI 0,vI 0,vI 0,vI 0,.string ⟨#[]⟩])]) (fun m (i : Nat) st' => m = s.x.items.length - i ∧ i ≤ s.x.items.length ∧ entP s.x.items id = entP (s.x.items.drop i) id ∧ st = st') 0 _ ⟨rfl,rfl,rfl,rfl,rfl,rfl,rfl,trivial⟩ ⟨rfl,rfl,trivial⟩ ⟨rfl,Nat.zero_le _,rfl,rfl⟩ ?_
 rintro m i ρ0 ff gg st' ⟨rfl,hi,hf,rfl⟩
 refine ⟨_,rfl,?_⟩
 rintro (_|_) h1
 ·replace h1 : ¬ ((i : Int) < (s.x.items.length : Int)) := of_decide_eq_false h1
  refine Cm gg st [(1,vI id),Ml 2 0,Ml 4 1,(5,vB false),(9,vS s.p s.x.items.length),(10,vI (s.x.items.length : Int)),(11,vI (i : Int)),(12,vB false)] [(2,0,cSV s),(4,1,[vI 0,vI 0,vI 0,vI 0,.string ⟨#[]⟩])] fun _ _ => ?_
  refine cxs ?_
  refine ⟨_,rfl,?_⟩
  refine ⟨_,Os rfl,?_⟩
  refine cxs ?_
  have hil : i = s.x.items.length := by omega
  exact Rt ⟨zEnt,false,rfl,by rw [hf,hil,List.drop_length]; rfl,rfl⟩
 ·replace h1 : (i : Int) < (s.x.items.length : Int) := of_decide_eq_true h1
  refine Cm gg st [(1,vI id),Ml 2 0,Ml 4 1,(5,vB false),(9,vS s.p s.x.items.length),(10,vI (s.x.items.length : Int)),(11,vI (i : Int)),(12,vB true)] [(2,0,cSV s),(4,1,[vI 0,vI 0,vI 0,vI 0,.string ⟨#[]⟩])] fun _ _ => ?_
  have h1' := Int.ofNat_lt.1 h1
  have ⟨b1,o1,k1,x,hpe,hx,hm1,hc1,hb1⟩ := hR.1.atB h1'
  rw [(split_at' hx).2.2,entP] at hf
  refine cxs ?_
  refine ⟨_,op_idx (j := (i : Int)) (n := s.x.items.length) (q := ⟨b1,o1,none⟩) rfl (congrArg (fun u => vS u s.x.items.length) hpe) rfl rfl rfl (Int.natCast_nonneg _) h1,?_⟩
  refine ⟨_,op_lda rfl rfl rfl rfl rfl hm1 hc1 rfl,?_⟩
  refine ⟨_,rfl,?_⟩
  refine ⟨_,Os rfl,?_⟩
  refine Cm (gg + 1) st [(1,vI id),Ml 2 0,Ml 4 1,(5,vB false),Ml 7 gg,(9,vS s.p s.x.items.length),(10,vI (s.x.items.length : Int)),(11,vI (i : Int)),(12,vB true)] [(2,0,cSV s),(4,1,[vI 0,vI 0,vI 0,vI 0,.string ⟨#[]⟩]),(7,gg,[vI x.id,vI x.e.inc,vI x.e.rank,vI x.e.beat,vI x.e.ver,.string x.e.data])] fun _ _ => ?_
  refine ⟨_,rfl,?_⟩
  refine ⟨_,Od rfl,?_⟩
  refine ⟨_,rfl,?_⟩
  rintro (_|_) h2
  ·replace h2 : ¬ (x.id = id) := beq_eq_false_iff_ne.1 h2
   refine Cm (gg + 1) st [(1,vI id),Ml 2 0,Ml 4 1,(5,vB false),Ml 7 gg,(9,vS s.p s.x.items.length),(10,vI (s.x.items.length : Int)),(11,vI (i : Int)),(12,vB true),(18,vB false)] [(2,0,cSV s),(4,1,[vI 0,vI 0,vI 0,vI 0,.string ⟨#[]⟩]),(7,gg,[vI x.id,vI x.e.inc,vI x.e.rank,vI x.e.beat,vI x.e.ver,.string x.e.data])] fun _ _ => ?_
   refine cxs ?_
   have e21 : IntKind.wrap .i64 ((i : Int) + 1) = ((i + 1 : Nat) : Int) := (wrap_i64 (by omega) (by omega)).trans (by omega)
   refine ⟨_,rfl,?_⟩
   exact ⟨i + 1,s.x.items.length - (i + 1),by omega,⟨rfl,rfl,rfl,rfl,rfl,rfl,congrArg (Value.int .i64) e21,trivial⟩,⟨rfl,rfl,trivial⟩,rfl,h1',by rw [hf,if_neg h2],rfl⟩
  ·replace h2 : x.id = id := beq_iff_eq.1 h2
   refine Cm (gg + 1) st [(1,vI id),Ml 2 0,Ml 4 1,(5,vB false),Ml 7 gg,(9,vS s.p s.x.items.length),(10,vI (s.x.items.length : Int)),(11,vI (i : Int)),(12,vB true),(18,vB true)] [(2,0,cSV s),(4,1,[vI 0,vI 0,vI 0,vI 0,.string ⟨#[]⟩]),(7,gg,[vI x.id,vI x.e.inc,vI x.e.rank,vI x.e.beat,vI x.e.ver,.string x.e.data])] fun _ _ => ?_
   refine ⟨_,rfl,?_⟩
   refine ⟨_,Od rfl,?_⟩
   refine ⟨_,Os rfl,?_⟩
   exact cxs (Rt ⟨x.e,true,rfl,by rw [hf,if_pos h2],rfl⟩)
theorem ac_spec_EntryOf (s : SV) (id : Int) (st : St) (hR : RdS st s) (hb : bigS s.x) : C 53 [.agg #[vS s.p s.x.items.length,vS s.q s.x.floors.length],vI id] st (fun v s' => ∃ e b,v = .tuple #[.agg #[vI e.inc,vI e.rank,vI e.beat,vI e.ver,.string e.data],vB b] ∧ (e,b) = entP s.x.items id ∧ s' = st) := by
 have hs1 : s.x.items.length ≤ 1048576 := hb.1
 refine AC.enterX (i := ⟨[2,4],[2,4,8,14,22],[0,1,2,4,5,6,11,21],[]⟩) [] Tryd.func53 rfl rfl (by kernel_rfl) (by kernel_rfl) Tryd.ntmps53 (Lb rfl) rfl ?_
 iterate 2 refine ⟨_,rfl,?_⟩
 refine cxs ?_
 refine Cm 2 st [(1,vI id),Ml 2 0,Ml 4 1,(5,vB false),(6,vI 0)] [(2,0,cSV s),(4,1,[vI 0,vI 0,vI 0,vI 0,.string ⟨#[]⟩])] fun _ _ => ?_
 refine AW.loopM (fun i : Nat => [(1,vI id),(2,vL 2 0 (0)),(4,vL 4 0 (1)),(5,vB false),(6,vI (i : Int))]) (fun i : Nat => [(2,0,[vS s.p s.x.items.length,vS s.q s.x.floors.length]),(4,1,[vI 0,vI 0,vI 0,vI 0,.string ⟨#[]⟩])]) (fun m (i : Nat) st' => m = s.x.items.length - i ∧ i ≤ s.x.items.length ∧ entP s.x.items id = entP (s.x.items.drop i) id ∧ st = st') 0 _ ⟨rfl,rfl,rfl,rfl,rfl,trivial⟩ ⟨rfl,rfl,trivial⟩ ⟨rfl,Nat.zero_le _,rfl,rfl⟩ ?_
 rintro m i ρ0 ff gg st' ⟨rfl,hi,hf,rfl⟩
 refine ⟨_,rfl,?_⟩
 refine ⟨_,Od rfl,?_⟩
 iterate 2 refine ⟨_,rfl,?_⟩
 rintro (_|_) h1
 ·replace h1 : ¬ ((i : Int) < (s.x.items.length : Int)) := of_decide_eq_false h1
  refine Cm gg st [(1,vI id),Ml 2 0,Ml 4 1,(5,vB false),(6,vI (i : Int)),(11,vB false)] [(2,0,cSV s),(4,1,[vI 0,vI 0,vI 0,vI 0,.string ⟨#[]⟩])] fun _ _ => ?_
  refine cxs ?_
  refine ⟨_,rfl,?_⟩
  refine ⟨_,Os rfl,?_⟩
  refine cxs ?_
  have hil : i = s.x.items.length := by omega
  exact Rt ⟨zEnt,false,rfl,by rw [hf,hil,List.drop_length]; rfl,rfl⟩
 ·replace h1 : (i : Int) < (s.x.items.length : Int) := of_decide_eq_true h1
  refine Cm gg st [(1,vI id),Ml 2 0,Ml 4 1,(5,vB false),(6,vI (i : Int)),(11,vB true)] [(2,0,cSV s),(4,1,[vI 0,vI 0,vI 0,vI 0,.string ⟨#[]⟩])] fun _ _ => ?_
  have h1' := Int.ofNat_lt.1 h1
  have ⟨b1,o1,k1,x,hpe,hx,hm1,hc1,hb1⟩ := hR.1.atB h1'
  rw [(split_at' hx).2.2,entP] at hf
  have hc5 : (k1.cells.drop (o1 + i * 6 + 1)).take 5 = cEnt x.e := row_sub (i := 1) hc1 rfl (by decide)
  refine cxs ?_
  refine ⟨_,rfl,?_⟩
  refine ⟨_,Od rfl,?_⟩
  refine ⟨_,op_idx (j := (i : Int)) (n := s.x.items.length) (q := ⟨b1,o1,none⟩) rfl (congrArg (fun u => vS u s.x.items.length) hpe) rfl rfl rfl (Int.natCast_nonneg _) h1,?_⟩
  refine ⟨_,rfl,?_⟩
  refine ⟨_,op_ldc (i := 0) rfl rfl rfl rfl hm1 hc1 rfl rfl,?_⟩
  refine ⟨_,rfl,?_⟩
  rintro (_|_) h2
  ·replace h2 : ¬ (x.id = id) := beq_eq_false_iff_ne.1 h2
   refine Cm gg st [(1,vI id),Ml 2 0,Ml 4 1,(5,vB false),(6,vI (i : Int)),(11,vB true),(21,vB false)] [(2,0,cSV s),(4,1,[vI 0,vI 0,vI 0,vI 0,.string ⟨#[]⟩])] fun _ _ => ?_
   refine cxs ?_
   have e13 : IntKind.wrap .i64 ((i : Int) + 1) = ((i + 1 : Nat) : Int) := (wrap_i64 (by omega) (by omega)).trans (by omega)
   refine ⟨_,rfl,?_⟩
   exact ⟨i + 1,s.x.items.length - (i + 1),by omega,⟨rfl,rfl,rfl,rfl,congrArg (Value.int .i64) e13,trivial⟩,⟨rfl,rfl,trivial⟩,rfl,h1',by rw [hf,if_neg h2],rfl⟩
  ·replace h2 : x.id = id := beq_iff_eq.1 h2
   refine Cm gg st [(1,vI id),Ml 2 0,Ml 4 1,(5,vB false),(6,vI (i : Int)),(11,vB true),(21,vB true)] [(2,0,cSV s),(4,1,[vI 0,vI 0,vI 0,vI 0,.string ⟨#[]⟩])] fun _ _ => ?_
   refine ⟨_,rfl,?_⟩
   refine ⟨_,Od rfl,?_⟩
   refine ⟨_,op_idx (j := (i : Int)) (n := s.x.items.length) (q := ⟨b1,o1,none⟩) rfl (congrArg (fun u => vS u s.x.items.length) hpe) rfl rfl rfl (Int.natCast_nonneg _) h1,?_⟩
   refine ⟨_,rfl,?_⟩
   refine ⟨_,op_lda rfl rfl rfl rfl rfl hm1 hc5 rfl,?_⟩
   refine ⟨_,Os rfl,?_⟩
   exact cxs (Rt ⟨x.e,true,rfl,by rw [hf,if_pos h2],rfl⟩)
open Classical in
noncomputable def goneAt (s : Sta) (id : Int) : Int :=
 if stateOk s then (if (entP s.items id).2 = true then (if (entP s.items id).1.rank = 1 then (entP s.items id).1.inc else (entP s.items id).1.inc - 1) else floorOf s.floors id) else 0
theorem entP_mem : ∀ {l : List Itm} {id : Int} {e : Ent},(e,true) = entP l id → ∃ (j : Nat) (x : Itm),l[j]? = some x ∧ x.e = e ∧ x.id = id
 | [],id,e,h => by simp [entP] at h
 | x :: l,id,e,h => by
  rw [entP] at h
  split at h
  ·rename_i hx
   injection h with h
   exact ⟨0,x,rfl,h.symm,hx⟩
  ·obtain ⟨j,y,h1,h2⟩ := entP_mem h
   exact ⟨j + 1,y,by simpa using h1,h2⟩
theorem ent_ok {s : Sta} (h : stateOk s) {id : Int} {e : Ent} (he : (e,true) = entP s.items id) : entOk e := by
 obtain ⟨j,x,h1,h2,_⟩ := entP_mem he
 rw [← h2]; exact (h.1 j x h1).2.1
theorem ac_impl_GoneAt (s : SV) (id : Int) (st : St) (hR : RdS st s) (hb : bigS s.x) : C 18 [.agg #[vS s.p s.x.items.length,vS s.q s.x.floors.length],vI id] st (fun v s' => v = vI (goneAt s.x id) ∧ s' = st) := by
 refine AC.enterX (i := ⟨[2,5],[2,5,23,26,28],[0,1,2,4,5,6,9,16,22],[]⟩) [] Tryd.func18 rfl rfl (by kernel_rfl) (by kernel_rfl) Tryd.ntmps18 (Lb rfl) rfl ?_
 refine ⟨_,rfl,?_⟩
 refine Cm 1 st [(1,vI id),Ml 2 0,(4,vI 0)] [(2,0,cSV s)] fun _ _ => ?_
 refine ⟨_,rfl,?_⟩
 refine ⟨_,rfl,(ac_impl_StateOk s st hR hb).mono ?_⟩
 rintro _ st ⟨c,rfl,hk,rfl⟩
 rcases c with _|_
 ·replace hk := fun k => Bool.false_ne_true (hk.2 k)
  refine ⟨_,rfl,?_⟩
  refine Cm 1 st [(1,vI id),Ml 2 0,(4,vI 0),(9,vB true)] [(2,0,cSV s)] fun _ _ => ?_
  exact cxs (Rt ⟨congrArg vI (by rw [goneAt,if_neg hk]),rfl⟩)
 ·replace hk := hk.1 rfl
  refine ⟨_,rfl,?_⟩
  refine Cm 1 st [(1,vI id),Ml 2 0,(4,vI 0),(9,vB false)] [(2,0,cSV s)] fun _ _ => ?_
  refine cxs ?_
  refine ⟨_,rfl,?_⟩
  refine ⟨_,rfl,(ac_impl_EntryOf s id st hR hb).mono ?_⟩
  rintro _ st ⟨e,b,rfl,he,rfl⟩
  rcases b with _|_
  ·iterate 4 refine ⟨_,rfl,?_⟩
   refine Cm 2 st [(1,vI id),Ml 2 0,(4,vI 0),Ml 5 1,(6,vB false)] [(2,0,cSV s),(5,1,[vI e.inc,vI e.rank,vI e.beat,vI e.ver,.string e.data])] fun _ _ => ?_
   refine ⟨_,rfl,?_⟩
   refine Cm 2 st [(1,vI id),Ml 2 0,(4,vI 0),Ml 5 1,(16,vB true)] [(2,0,cSV s),(5,1,[vI e.inc,vI e.rank,vI e.beat,vI e.ver,.string e.data])] fun _ _ => ?_
   refine ⟨_,rfl,?_⟩
   refine ⟨_,rfl,(ac_impl_FloorOf s id st hR hb).mono ?_⟩
   rintro _ st ⟨rfl,rfl⟩
   exact cxs (Rt ⟨congrArg vI (by simp [goneAt,hk,← he]),rfl⟩)
  ·iterate 4 refine ⟨_,rfl,?_⟩
   refine Cm 2 st [(1,vI id),Ml 2 0,(4,vI 0),Ml 5 1,(6,vB true)] [(2,0,cSV s),(5,1,[vI e.inc,vI e.rank,vI e.beat,vI e.ver,.string e.data])] fun _ _ => ?_
   refine ⟨_,rfl,?_⟩
   refine Cm 2 st [(1,vI id),Ml 2 0,(4,vI 0),Ml 5 1,(16,vB false)] [(2,0,cSV s),(5,1,[vI e.inc,vI e.rank,vI e.beat,vI e.ver,.string e.data])] fun _ _ => ?_
   iterate 3 refine ⟨_,rfl,?_⟩
   rintro (_|_) h3
   ·replace h3 : ¬ (e.rank = 1) := beq_eq_false_iff_ne.1 h3
    refine Cm 2 st [(4,vI 0),Ml 5 1,(22,vB false)] [(5,1,[vI e.inc,vI e.rank,vI e.beat,vI e.ver,.string e.data])] fun _ _ => ?_
    refine cxs ?_
    iterate 2 refine ⟨_,rfl,?_⟩
    have hee := (ent_ok hk he).1
    have e30 : IntKind.wrap .i64 (e.inc - 1) = e.inc - 1 := wrap_i64 (by omega) (by omega)
    refine ⟨_,rfl,?_⟩
    exact cxs (Rt ⟨congrArg vI (by simp [goneAt,hk,← he,h3,e30]),rfl⟩)
   ·replace h3 : e.rank = 1 := beq_iff_eq.1 h3
    refine Cm 2 st [(4,vI 0),Ml 5 1,(22,vB true)] [(5,1,[vI e.inc,vI e.rank,vI e.beat,vI e.ver,.string e.data])] fun _ _ => ?_
    iterate 2 refine ⟨_,rfl,?_⟩
    exact cxs (Rt ⟨congrArg vI (by simp [goneAt,hk,← he,h3]),rfl⟩)
def marksF (g : Int → Int) (i : Nat) : List Flr := (List.range i).filterMap fun (j : Nat) => if g (j : Int) > 0 then some ⟨(j : Int),g (j : Int)⟩ else none
theorem marksF_succ (g : Int → Int) (i : Nat) : marksF g (i + 1) = if g (i : Int) > 0 then marksF g i ++ [⟨(i : Int),g (i : Int)⟩] else marksF g i := by
 unfold marksF
 rw [List.range_succ,List.filterMap_append]
 split <;> simp [*]
theorem marksF_len (g : Int → Int) : ∀ i,(marksF g i).length ≤ i
 | 0 => by simp [marksF]
 | i + 1 => by
  have := marksF_len g i
  rw [marksF_succ]
  split <;> simp <;> omega
theorem ac_impl_MarksOf (s : SV) (st : St) (hR : RdS st s) (hb : bigS s.x) : C 11 [.agg #[vS s.p s.x.items.length,vS s.q s.x.floors.length]] st (fun v s' => ∃ q,v = vS q (marksF (goneAt s.x) 5).length ∧ OwnR s' 2 cFlr q (marksF (goneAt s.x) 5) ∧ Pres st s' ∧ New st.next q) := by
 refine AC.enterX (i := ⟨[1],[1],[0,1,2,3,4,5,8,15],[]⟩) [] Tryd.func11 rfl rfl (by kernel_rfl) (by kernel_rfl) Tryd.ntmps11 (Lb rfl) rfl ?_
 refine ⟨_,rfl,?_⟩
 refine Cm 1 st [Ml 1 0,(2,Sn)] [(1,0,cSV s)] fun _ _ => ?_
 refine op_nilK (z := 2) (f := cFlr) rfl rfl rfl rfl (by decide) rfl ?_
 intro q0 s0 hO0 hP0 hN0
 refine cxs ?_
 refine Cm 1 s0 [Ml 1 0,(2,Sn),(3,vS q0 0),(4,vI 0)] [(1,0,cSV s)] fun _ _ => ?_
 refine AW.loopM (fun x : Nat × Option Addr => [(1,vL 1 0 (0)),(3,vS x.2 (marksF (goneAt s.x) x.1).length),(4,vI (x.1 : Int))]) (fun x : Nat × Option Addr => [(1,0,[vS s.p s.x.items.length,vS s.q s.x.floors.length])]) (fun m (x : Nat × Option Addr) st' => m = 5 - x.1 ∧ x.1 ≤ 5 ∧ OwnR st' 2 cFlr x.2 (marksF (goneAt s.x) x.1) ∧ New st.next x.2 ∧ Pres st st') (0,q0) _ ⟨rfl,rfl,rfl,trivial⟩ ⟨rfl,trivial⟩ ⟨rfl,Nat.zero_le _,(show OwnR s0 2 cFlr q0 (marksF (goneAt s.x) 0) from hO0),hN0,hP0⟩ ?_
 rintro m x ρ0 ff gg st' ⟨rfl,hi,hO,hN,hP⟩
 have hml := marksF_len (goneAt s.x) x.1
 refine ⟨_,rfl,?_⟩
 rintro (_|_) h1
 ·replace h1 : ¬ ((x.1 : Int) < 5) := of_decide_eq_false h1
  refine Cm gg st' [Ml 1 0,(3,vS x.2 (marksF (goneAt s.x) x.1).length),(4,vI (x.1 : Int)),(8,vB false)] [(1,0,cSV s)] fun _ _ => ?_
  refine cxs ?_
  refine cxs ?_
  have hil : x.1 = 5 := by omega
  rw [hil] at hO
  exact Rt ⟨x.2,congrArg (fun i => vS x.2 (marksF (goneAt s.x) i).length) hil,hO,hP,hN⟩
 ·replace h1 : (x.1 : Int) < 5 := of_decide_eq_true h1
  refine Cm gg st' [Ml 1 0,(3,vS x.2 (marksF (goneAt s.x) x.1).length),(4,vI (x.1 : Int)),(8,vB true)] [(1,0,cSV s)] fun _ _ => ?_
  refine cxs ?_
  refine ⟨_,Od rfl,?_⟩
  refine ⟨_,rfl,(ac_impl_GoneAt s x.1 st' (hR.pres hP) hb).mono ?_⟩
  rintro _ st' ⟨rfl,rfl⟩
  refine Cm gg st' [Ml 1 0,(3,vS x.2 (marksF (goneAt s.x) x.1).length),(4,vI (x.1 : Int)),(5,vI (goneAt s.x (x.1 : Int))),(8,vB true)] [(1,0,cSV s)] fun _ _ => ?_
  refine ⟨_,rfl,?_⟩
  rintro (_|_) h2
  ·replace h2 : ¬ (goneAt s.x (x.1 : Int) > 0) := of_decide_eq_false h2
   refine Cm gg st' [Ml 1 0,(3,vS x.2 (marksF (goneAt s.x) x.1).length),(4,vI (x.1 : Int)),(5,vI (goneAt s.x (x.1 : Int))),(8,vB true),(15,vB false)] [(1,0,cSV s)] fun _ _ => ?_
   refine cxs ?_
   have e10 : IntKind.wrap .i64 ((x.1 : Int) + 1) = ((x.1 + 1 : Nat) : Int) := (wrap_i64 (by omega) (by omega)).trans (by omega)
   refine ⟨_,rfl,?_⟩
   have hm := marksF_succ (goneAt s.x) x.1
   rw [if_neg h2] at hm
   exact ⟨(x.1 + 1,x.2),5 - (x.1 + 1),by omega,⟨rfl,congrArg (fun l : List Flr => vS x.2 l.length) hm.symm,congrArg (Value.int .i64) e10,trivial⟩,⟨rfl,trivial⟩,rfl,by omega,by rw [hm]; exact hO,hN,hP⟩
  ·replace h2 : goneAt s.x (x.1 : Int) > 0 := of_decide_eq_true h2
   refine Cm gg st' [Ml 1 0,(3,vS x.2 (marksF (goneAt s.x) x.1).length),(4,vI (x.1 : Int)),(5,vI (goneAt s.x (x.1 : Int))),(8,vB true),(15,vB true)] [(1,0,cSV s)] fun _ _ => ?_
   refine ⟨_,rfl,?_⟩
   refine op_one (z := 2) (a := (⟨(x.1 : Int),goneAt s.x (x.1 : Int)⟩ : Flr)) (f := cFlr) rfl rfl rfl rfl rfl (by decide) rfl (Lb rfl) rfl rfl rfl ?_
   refine op_add (z := 2) (st := st') (f := cFlr) (b := 16) (l := marksF (goneAt s.x) x.1) rfl rfl rfl rfl rfl rfl rfl (by decide) len_cFlr rfl rfl rfl (by omega) (by unfold maxLen; omega) hO ?_
   intro q4 s4 hO4 hP4 hN4
   refine Cm gg s4 [Ml 1 0,(3,vS q4 ((marksF (goneAt s.x) x.1).length + 1)),(4,vI (x.1 : Int)),(5,vI (goneAt s.x (x.1 : Int))),(8,vB true),(15,vB true)] [(1,0,cSV s)] fun _ _ => ?_
   have e10 : IntKind.wrap .i64 ((x.1 : Int) + 1) = ((x.1 + 1 : Nat) : Int) := (wrap_i64 (by omega) (by omega)).trans (by omega)
   refine ⟨_,rfl,?_⟩
   have hm := marksF_succ (goneAt s.x) x.1
   rw [if_pos h2] at hm
   exact ⟨(x.1 + 1,q4),5 - (x.1 + 1),by omega,⟨rfl,(show vS q4 ((marksF (goneAt s.x) x.1).length + 1) = vS q4 (marksF (goneAt s.x) (x.1 + 1)).length by rw [hm,List.length_append]; rfl),congrArg (Value.int .i64) e10,trivial⟩,⟨rfl,trivial⟩,rfl,by omega,by rw [hm]; exact hO4,hN4.le hP.1,hP4.pres hP hN⟩
section
variable {P : Program} {ls : List Tmp} {call : ACallT} {o : Oper} {e : Operand → Value} {lo : Lo} {st : St}
theorem op_cat {t ty : TypeId} {x y : Operand} {a b : ByteArray} (ho : o.op = .binOp .add t x y ty) (hx : e x = .string a) (hy : e y = .string b) (hs : a.size + b.size ≤ 140737488355328) : aoper P ls call o e lo st = some (.string (a ++ b),lo,st) := by
 obtain ⟨d,op,tt,pos,after,gd⟩ := o
 simp only at ho
 subst ho
 simp [aoper,rop,hx,hy,abin,astrop,hs]
end
def RdL (st : St) (p : Option Addr) (l : List SV) : Prop := Rows st 2 cSV p l ∧ ∀ s ∈ l,RdS st s
theorem RdL.pres {st st' : St} {p : Option Addr} {l : List SV} (h : RdL st p l) (k : Pres st st') : RdL st' p l := ⟨k.rows h.1,fun s hs => (h.2 s hs).pres k⟩
theorem OwnP.sub {st : St} {l m : List Pc} (h : OwnP st l) (hs : m.Sublist l) : OwnP st m := ⟨fun c hc => h.1 c (hs.subset hc),h.2.sublist hs⟩
def bigL (l : List SV) : Prop := szOk l.length ∧ ∀ s ∈ l,bigS s.x
structure Lg where
 cap : Int
 frm : Int
 list : List Sta
structure LV where
 cap : Int
 frm : Int
 p : Option Addr
 l : List SV
abbrev LV.x (g : LV) : Lg := ⟨g.cap,g.frm,g.l.map (·.x)⟩
def logOk (g : Lg) : Prop := (1 ≤ g.cap ∧ g.cap ≤ 8) ∧ (g.list.length : Int) ≤ g.cap ∧ (0 ≤ g.frm ∧ g.frm ≤ 100000) ∧ g.frm + (g.list.length : Int) ≤ 100000 ∧ ∀ s ∈ g.list,stateOk s
theorem PrL.ownR {α : Type} {st st' : St} {ps : List (Option Addr)} {z : Nat} {f : α → List Value} {q : Option Addr} {l : List α} (h0 : 0 < z) (hz : ∀ x,(f x).length = z) (h : PrL ps st st') (hO : OwnR st z f q l) (hd : ∀ p ∈ ps,Dis p q) : OwnR st' z f q l :=
 pc_own h0 hz ((OwnP.prl (OwnP.one (own_pc hO)) h fun c hc p hp => by rw [List.mem_singleton.1 hc]; exact hd p hp).1 _ (List.mem_singleton_self _))
section
variable {P : Program} {ls : List Tmp} {call : ACallT} {o : Oper} {e : Operand → Value} {lo : Lo} {st : St}
end
theorem PrL.rows {α : Type} {st st' : St} {ps : List (Option Addr)} {z : Nat} {f : α → List Value} {p : Option Addr} {l : List α} (h : PrL ps st st') (hR : Rows st z f p l) (hd : ∀ q ∈ ps,Dis p q) : Rows st' z f p l := by
 rcases hR with rfl | ⟨b,off,blk,rfl,hm,hb,hc⟩
 ·exact .inl rfl
 ·refine .inr ⟨b,off,blk,rfl,?_,Nat.lt_of_lt_of_le hb h.1,hc⟩
  rw [h.2 b hb fun q hq r hr => hd q hq _ r rfl hr]
  exact hm
def rng32 (x : Int) : Prop := 0 ≤ x ∧ x < 4294967296
def bytesOk (l : List Int) : Prop := ∀ x ∈ l,0 ≤ x ∧ x < 256
theorem bytesOk.at {l : List Int} (hl : bytesOk l) {i : Nat} {u : Int} (h : l[i]? = some u) : rng32 u := by
 have := hl u (List.mem_of_getElem? h)
 exact ⟨this.1,by omega⟩
section
variable {P : Program} {ls : List Tmp} {call : ACallT} {o : Oper} {e : Operand → Value} {lo : Lo} {st : St}
end
theorem bytesOk.app {a b : List Int} (ha : bytesOk a) (hb : bytesOk b) : bytesOk (a ++ b) := fun x hx => by
 rcases List.mem_append.1 hx with h | h
 ·exact ha x h
 ·exact hb x h
def fl (t : List RV) : List Int := t.flatMap fun r => r.l
abbrev fT : ByteArray → List Value := fun x => [.string x]
theorem fT_len (x : ByteArray) : (fT x).length = 1 := rfl
def itoaB (n : Int) : ByteArray := ⟨(Lib.itoa n).toArray⟩
def i64 (n : Int) : Prop := -9223372036854775808 ≤ n ∧ n ≤ 9223372036854775807
theorem nDigits_le : ∀ (k u : Nat),u < 10 ^ (k + 1) → Lib.nDigits u ≤ k + 1
 | 0,u,h => by rw [Lib.nDigits_small (by simpa using h)]; exact Nat.le_refl _
 | k + 1,u,h => by
  by_cases hu : u < 10
  ·rw [Lib.nDigits_small hu]; omega
  ·rw [Lib.nDigits_big hu]
   have := nDigits_le k (u / 10) (by rw [Nat.pow_succ] at h; omega)
   omega
theorem dec_le {u : Nat} (h : u ≤ 9223372036854775808) : (Lib.decDigits u).length ≤ 19 := by
 rw [Lib.decDigits_length]
 exact nDigits_le 18 u (Nat.lt_of_le_of_lt h (by decide))
theorem itoa_le {n : Int} (h : i64 n) : (Lib.itoa n).length ≤ 20 := by
 have h1 := h.1
 have h2 := h.2
 unfold Lib.itoa
 split
 ·have := dec_le (u := n.natAbs) (by omega)
  rw [List.length_cons]; omega
 ·have := dec_le (u := n.toNat) (by omega)
  omega
theorem itoaB_size {n : Int} (h : i64 n) : (itoaB n).size ≤ 20 := by
 show (Lib.itoa n).toArray.size ≤ 20
 rw [List.size_toArray]; exact itoa_le h
theorem join_le {m : Nat} (sep : List UInt8) (hs : sep.length ≤ 1) : ∀ (l : List (List UInt8)),(∀ x ∈ l,x.length ≤ m) → (Lib.join l sep).length ≤ l.length * (m + 1)
 | [],_ => Nat.zero_le _
 | x :: r,h => by
  rw [Lib.join_cons,List.length_append]
  have h1 := h x (List.mem_cons_self ..)
  have h2 : (Lib.joinTail sep r).length ≤ r.length * (m + 1) := by
   have hr : ∀ y ∈ r,y.length ≤ m := fun y hy => h y (List.mem_cons_of_mem _ hy)
   clear h h1
   induction r with
   | nil => exact Nat.zero_le _
   | cons y r ih =>
    have := ih fun z hz => hr z (List.mem_cons_of_mem _ hz)
    have hy := hr y (List.mem_cons_self ..)
    simp only [Lib.joinTail,List.map_cons,List.flatten_cons,List.length_append,List.length_cons] at this ⊢
    rw [Nat.succ_mul]
    omega
  rw [List.length_cons,Nat.succ_mul]
  omega
theorem joinB_le {m : Nat} {l : List ByteArray} {sep : ByteArray} (hs : sep.size ≤ 1) (h : ∀ x ∈ l,x.size ≤ m) : (Lib.join (l.map (·.data.toList)) sep.data.toList).length ≤ l.length * (m + 1) := by
 have := join_le (m := m) sep.data.toList hs (l.map (·.data.toList)) fun x hx => by
  obtain ⟨y,hy,rfl⟩ := List.mem_map.1 hx
  exact h y hy
 rwa [List.length_map] at this
theorem take_snoc {α : Type} {l : List α} {i : Nat} {x : α} (h : l[i]? = some x) : l.take (i + 1) = l.take i ++ [x] := by
 rw [List.take_add_one,h]; rfl
theorem Tab.pres {st s : St} (h : Tab st) (k : Pres st s) : Tab s := ⟨Nat.lt_of_lt_of_le h.1 k.1,(k.2 _ h.1).trans h.2⟩
theorem ext_itoa {n : Int} {st : St} (h : i64 n) (hT : Tab st) : ext0 "strconv.Itoa" [.int .i64 n] st = some (.string (itoaB n), st) := by
 have h3 : -9223372036854775808 ≤ n ∧ n ≤ 9223372036854775807 ∧ Tab st := ⟨h.1,h.2,hT⟩
 unfold ext0
 simp only [if_pos h3]
 rfl
theorem ext_join {p : Option Addr} {n : Nat} {sep : ByteArray} {st : St} (h : JoinOK st p n) (hl : (Lib.join ((strL st p n).map (·.data.toList)) sep.data.toList).length ≤ 140737488355328) : ext0 "strings.Join" [.slice p n n, .string sep] st = some (.string (joinB (strL st p n) sep), st) := by
 unfold ext0
 simp only [if_pos (And.intro h hl)]
 rfl
theorem ac_strconv_Itoa (n : Int) (st : St) (h : i64 n) (hT : Tab st) : C 71 [vI n] st (fun v s => v = .string (itoaB n) ∧ s = st) :=
 AC.extB Tryd.func71 rfl (by kernel_rfl) (by decide) (by rw [show (Tryd.f71).name = "strconv.Itoa" from by kernel_rfl]; exact ext_itoa h hT) ⟨rfl, rfl⟩
theorem ac_strings_Join (p : Option Addr) (l : List ByteArray) (sep : ByteArray) (st : St) (hR : Rows st 1 fT p l) (hn : l.length ≤ 140737488355328) (hl : (Lib.join (l.map (·.data.toList)) sep.data.toList).length ≤ 140737488355328) : C 58 [vS p l.length,.string sep] st (fun v s => v = .string (joinB l sep) ∧ s = st) := by
 have key : JoinOK st p l.length ∧ strL st p l.length = l := by
  rcases hR with rfl | ⟨b,off,blk,rfl,hm,_,hc⟩
  ·exact ⟨.inl rfl,strL_0⟩
  ·have h1 := take_rows (f := fT) (z := 1) (l := l) (cs := blk.cells) (off := off) fT_len hc
   rw [Nat.mul_one] at h1
   have h2 : l.flatMap fT = l.map Value.string := by
    clear h1 hc hn hl
    induction l with
    | nil => rfl
    | cons x l ih => rw [List.flatMap_cons,ih]; rfl
   rw [h2] at h1
   exact ⟨.inr ⟨b,off,blk,l,rfl,hm,h1,rfl,hn⟩,strL_of hm h1⟩
 have he := ext_join (sep := sep) key.1 (by rw [key.2]; exact hl)
 rw [key.2] at he
 exact AC.extB Tryd.func58 rfl (by kernel_rfl) (by decide) (by rw [show (Tryd.f58).name = "strings.Join" from by kernel_rfl]; exact he) ⟨rfl, rfl⟩
theorem ac_impl_Digits (n : Int) (st : St) (h : i64 n) (hT : Tab st) : C 56 [vI n] st (fun v s => v = .string (itoaB n) ∧ s = st) := by
 refine AC.enterX (i := ⟨[],[],[0,2],[]⟩) [] Tryd.func56 rfl rfl (by kernel_rfl) (by kernel_rfl) Tryd.ntmps56 (Lb rfl) rfl ?_
 refine Cu lo0 st [(0,vI n),(2,.string ⟨#[]⟩)] fun _ => ?_
 refine ⟨_,rfl,(ac_strconv_Itoa n st h hT).mono ?_⟩
 rintro _ st ⟨rfl,rfl⟩
 exact cxs (Rt ⟨rfl,rfl⟩)
theorem OwnP.perm {st : St} {l m : List Pc} (h : OwnP st l) (hp : l.Perm m) : OwnP st m := ⟨fun c hc => h.1 c (hp.mem_iff.2 hc),(hp.pairwise_iff fun hd => hd.symm).1 h.2⟩
theorem OwnP.front1 {st : St} {a b y : List Pc} (h : OwnP st (a ++ (b ++ y))) : OwnP st (b ++ (a ++ y)) := h.perm (by
 rw [← List.append_assoc,← List.append_assoc]
 exact List.perm_append_comm.append_right y)
theorem OwnP.joinF {st st' : St} {l m : List Pc} (h : OwnP st l) (hp : Pres st st') (k : OwnP st' m) (hn : NewP st.next m) : OwnP st' (m ++ l) :=
 OwnP.app k (h.pres hp) fun a ha b hb => (Dis.of (h.1 b hb).old (hn a ha)).symm
structure LW where
 cap : Int
 frm : Int
 p : Option Addr
 l : List SV
 C : Pc
 ok : l = [] ∨ ∃ a o,C.p = some ⟨a,0,none⟩ ∧ p = some ⟨a,o,none⟩ ∧ ∀ (j : Nat) x,l[j]? = some x → (C.cs.drop (o + j * 2)).take 2 = cSV x
abbrev LW.v (g : LW) : LV := ⟨g.cap,g.frm,g.p,g.l⟩
abbrev LW.x (g : LW) : Lg := g.v.x
abbrev pcLog (g : LW) : List Pc := g.C :: g.l.flatMap pcS
theorem LW.rows {st : St} {g : LW} (h : g.C.own st) : Rows st 2 cSV g.p g.l := by
 rcases g.ok with h0 | ⟨a,o,h1,h2,h3⟩
 ·exact .inl h0
 ·rcases h with ⟨h4,_⟩ | ⟨b,h4,hb,hm⟩
  ·rw [h1] at h4; cases h4
  ·rw [h1] at h4
   injection h4 with h4
   injection h4 with h4
   subst h4
   exact .inr ⟨a,o,_,h2,hm,hb,h3⟩
def tnew (n : Int) : List (List Int) := if 1 ≤ n ∧ n ≤ 5 then List.replicate n.toNat [0,0,0,0,0] else []
abbrev zRow : List Int := List.replicate 5 0
theorem ac_impl_TableNew (n : Int) (st : St) : C 9 [vI n] st (fun v s => ∃ p t,v = vS p t.length ∧ OwnP s (pcT p t) ∧ NewP st.next (pcT p t) ∧ Pres st s ∧ t.map (·.l) = tnew n) := by
 refine AC.enterX (i := ⟨[],[],[0,2,3,7,9,10,11],[]⟩) [] Tryd.func9 rfl rfl (by kernel_rfl) (by kernel_rfl) Tryd.ntmps9 (Lb rfl) rfl ?_
 refine Cu lo0 st [(0,vI n),(2,Sn)] fun _ => ?_
 refine op_nilK (z := 1) (f := cRV) rfl rfl rfl rfl Nat.one_pos rfl ?_
 intro q0 s0 hO0 hP0 hN0
 refine Cu lo0 s0 [(0,vI n),(2,Sn),(3,vS q0 0)] fun _ => ?_
 refine ⟨_,rfl,(ac_impl_within n 1 5 s0).mono ?_⟩
 rintro _ s0 ⟨x,rfl,hx,rfl⟩
 rcases x with _|_
 ·replace hx := of_decide_eq_false hx.symm
  refine ⟨_,rfl,?_⟩
  refine Cu lo0 s0 [(0,vI n),(2,Sn),(3,vS q0 0),(7,vB true)] fun _ => ?_
  exact cxs (Rt ⟨q0,[],rfl,OwnP.one (own_pc hO0),NewP.cons hN0 NewP.nil,hP0,by rw [tnew,if_neg hx]; rfl⟩)
 ·replace hx := of_decide_eq_true hx.symm
  refine ⟨_,rfl,?_⟩
  refine Cu lo0 s0 [(0,vI n),(2,Sn),(3,vS q0 0),(7,vB false)] fun _ => ?_
  obtain ⟨N,rfl⟩ : ∃ N : Nat,n = N := ⟨n.toNat,by omega⟩
  refine cxs ?_
  refine Cu lo0 s0 [(0,vI (N : Int)),(2,Sn),(3,vS q0 0),(9,vI (N : Int)),(10,vI 0)] fun _ => ?_
  refine AW.loop0 (fun x : List RV × Option Addr => [(0,vI (N : Int)),(3,vS x.2 x.1.length),(9,vI (N : Int)),(10,vI (x.1.length : Int))]) (fun m (x : List RV × Option Addr) st' => m = N - x.1.length ∧ x.1.length ≤ N ∧ OwnP st' (pcT x.2 x.1) ∧ NewP st.next (pcT x.2 x.1) ∧ Pres st st' ∧ x.1.map (·.l) = List.replicate x.1.length zRow) ([],q0) _ ⟨rfl,rfl,rfl,rfl,trivial⟩ rfl ⟨rfl,Nat.zero_le _,OwnP.one (own_pc hO0),NewP.cons hN0 NewP.nil,hP0,rfl⟩ ?_
  rintro m x ρ0 st' ⟨rfl,hi,hO,hN,hP,hl⟩
  refine ⟨_,rfl,?_⟩
  rintro (_|_) h1
  ·replace h1 : ¬ ((x.1.length : Int) < (N : Int)) := of_decide_eq_false h1
   refine Cu lo0 st' [(0,vI (N : Int)),(3,vS x.2 x.1.length),(9,vI (N : Int)),(10,vI (x.1.length : Int)),(11,vB false)] fun _ => ?_
   refine cxs ?_
   refine cxs ?_
   have hil : x.1.length = N := by omega
   exact Rt ⟨x.2,x.1,rfl,hO,hN,hP,by rw [hl,hil,tnew,if_pos hx,Int.toNat_natCast]; rfl⟩
  ·replace h1 : (x.1.length : Int) < (N : Int) := of_decide_eq_true h1
   refine Cu lo0 st' [(0,vI (N : Int)),(3,vS x.2 x.1.length),(9,vI (N : Int)),(10,vI (x.1.length : Int)),(11,vB true)] fun _ => ?_
   have h1' := Int.ofNat_lt.1 h1
   refine cxs ?_
   refine op_mkK (z := 1) (f := fI) (a := (0 : Int)) (b := 8) (i := 5) rfl rfl rfl rfl rfl rfl rfl rfl rfl Nat.one_pos rfl rfl (Lb rfl) (Lb rfl) ?_
   intro q1 s1 hO1 hP1 hN1
   refine op_one (z := 1) (a := (⟨q1,zRow⟩ : RV)) (f := cRV) rfl rfl rfl rfl rfl Nat.one_pos rfl (Lb rfl) rfl rfl rfl ?_
   refine op_add (z := 1) (st := s1) (f := cRV) (b := 24) (l := x.1) rfl rfl rfl rfl rfl rfl rfl Nat.one_pos cRV_len rfl rfl rfl (by omega) (by unfold maxLen; omega) (hP1.ownR hO.outer) ?_
   intro q4 s4 hO4 hP4 hN4
   refine Cu lo0 s4 [(0,vI (N : Int)),(3,vS q4 (x.1.length + 1)),(9,vI (N : Int)),(10,vI (x.1.length : Int)),(11,vB true)] fun _ => ?_
   have hA := OwnP.renew (l := []) (m := x.1.map pcRV ++ [pcRV ⟨q1,zRow⟩]) (c := pcR 1 cRV x.2 x.1) (OwnP.join (l := pcT x.2 x.1) (m := [pcRV ⟨q1,zRow⟩]) hO hP1 (OwnP.one (own_pc hO1)) (NewP.cons hN1 NewP.nil)) hP4 (own_pc hO4) hN4
   have hA : OwnP s4 (pcT q4 (x.1 ++ [⟨q1,zRow⟩])) := by simpa [pcT] using hA
   have e16 : IntKind.wrap .i64 ((x.1.length : Int) + 1) = ((x.1.length + 1 : Nat) : Int) := (wrap_i64 (by omega) (by omega)).trans (by omega)
   refine ⟨_,rfl,?_⟩
   refine ⟨(x.1 ++ [⟨q1,zRow⟩],q4),N - (x.1.length + 1),by omega,⟨rfl,?_,rfl,?_,trivial⟩,rfl,?_,?_,hA,?_,?_,?_⟩
   ·rw [List.length_append]; rfl
   ·rw [List.length_append]; exact congrArg (Value.int .i64) e16
   ·rw [List.length_append]; rfl
   ·rw [List.length_append]; exact h1'
   ·refine NewP.cons (hN4.le (Nat.le_trans hP.1 hP1.1)) ?_
    rw [List.map_append]
    exact NewP.app (fun c hc => hN c (List.mem_cons_of_mem _ hc)) (NewP.cons (hN1.le hP.1) NewP.nil)
   ·exact hP4.pres (hP.trans hP1) (hN _ (List.mem_cons_self ..))
   ·rw [List.map_append,hl,List.length_append,List.length_singleton,List.replicate_succ']; rfl
def cntT (t : List RV) : Nat := (t.map fun r => r.l.length).sum
theorem split_at {α : Type} {l : List α} {i : Nat} {x : α} (h : l[i]? = some x) : l = l.take i ++ x :: l.drop (i + 1) ∧ l.take (i + 1) = l.take i ++ [x] ∧ l.drop i = x :: l.drop (i + 1) := by
 obtain ⟨hi,hx⟩ := List.getElem?_eq_some_iff.1 h
 have h3 : l.drop i = x :: l.drop (i + 1) := by rw [List.drop_eq_getElem_cons hi,hx]
 refine ⟨?_,?_,h3⟩
 ·rw [← h3,List.take_append_drop]
 ·rw [List.take_add_one,h]; rfl
theorem tnew_len (n : Int) : (tnew n).length ≤ 5 ∧ ∀ l ∈ tnew n,l.length = 5 := by
 unfold tnew
 split
 ·refine ⟨by rw [List.length_replicate]; omega,fun l hl => ?_⟩
  rw [(List.mem_replicate.1 hl).2]; rfl
 ·exact ⟨by simp,fun l hl => by cases hl⟩
theorem tnew_rows {t : List RV} {n : Int} (h : t.map (·.l) = tnew n) : t.length ≤ 5 ∧ (∀ r ∈ t,r.l.length = 5) ∧ cntT t ≤ 25 := by
 obtain ⟨h1,h2⟩ := tnew_len n
 have h3 : t.length ≤ 5 := by rw [← h,List.length_map] at h1; exact h1
 have h4 : ∀ r ∈ t,r.l.length = 5 := fun r hr => h2 r.l (by rw [← h]; exact List.mem_map_of_mem hr)
 refine ⟨h3,h4,?_⟩
 have : ∀ t : List RV,(∀ r ∈ t,r.l.length = 5) → cntT t = 5 * t.length := by
  intro t
  induction t with
  | nil => intro _; rfl
  | cons r t ih =>
   intro h
   have h5 := ih fun r hr => h r (List.mem_cons_of_mem _ hr)
   have h6 := h r (List.mem_cons_self ..)
   simp [cntT] at h5 ⊢
   omega
 have := this t h4
 omega
def commonGo (id : Int) : List (List Int) → Bool → Int → Int
 | [],_,v => v
 | r :: t,b,v => if 0 ≤ id ∧ id ≤ (r.length : Int) - 1 then (if b = true ∨ r.getD id.toNat 0 < v then commonGo id t false (r.getD id.toNat 0) else commonGo id t false v) else 0
def common (t : List (List Int)) (id : Int) : Int := commonGo id t true 0
theorem getD_of {l : List Int} {i : Nat} {x : Int} (h : l[i]? = some x) : l.getD i 0 = x := by rw [List.getD_eq_getElem?_getD,h]; rfl
theorem ac_impl_Common (p : Option Addr) (t : List RV) (id : Int) (st : St) (hR : RdT st p t) (hs : szOk t.length) (hr : ∀ r ∈ t,szOk r.l.length) : C 20 [vS p t.length,vI id] st (fun v s => v = vI (common (t.map (·.l)) id) ∧ s = st) := by
 have hs : t.length ≤ 1048576 := hs
 refine AC.enterX (i := ⟨[],[],[0,1,4,5,6,7,8,9,10,11,20,30],[]⟩) [] Tryd.func20 rfl rfl (by kernel_rfl) (by kernel_rfl) Tryd.ntmps20 (Lb rfl) rfl ?_
 refine cxs ?_
 refine Cu lo0 st [(0,vS p t.length),(1,vI id),(4,vI 0),(5,vI 0)] fun _ => ?_
 refine ⟨_,rfl,?_⟩
 refine Cu lo0 st [(0,vS p t.length),(1,vI id),(4,vI 0),(5,vI 0),(8,vS p t.length),(9,vI (t.length)),(10,vI 0)] fun _ => ?_
 refine AW.loop0 (fun x : Nat × Int => [(0,vS p t.length),(1,vI id),(5,vI x.2),(8,vS p t.length),(9,vI (t.length : Int)),(10,vI (x.1 : Int))]) (fun m (x : Nat × Int) st' => m = t.length - x.1 ∧ x.1 ≤ t.length ∧ common (t.map (·.l)) id = commonGo id ((t.drop x.1).map (·.l)) (decide (x.1 = 0)) x.2 ∧ st = st') (0,0) _ ⟨rfl,rfl,rfl,rfl,rfl,rfl,trivial⟩ rfl ⟨rfl,Nat.zero_le _,rfl,rfl⟩ ?_
 rintro m x ρ0 st' ⟨rfl,hi,hc,rfl⟩
 refine ⟨_,rfl,?_⟩
 rintro (_|_) h1
 ·replace h1 : ¬ ((x.1 : Int) < (t.length : Int)) := of_decide_eq_false h1
  refine Cu lo0 st [(0,vS p t.length),(1,vI id),(5,vI x.2),(8,vS p t.length),(9,vI (t.length : Int)),(10,vI (x.1 : Int)),(11,vB false)] fun _ => ?_
  refine cxs ?_
  refine cxs ?_
  have hil : x.1 = t.length := by omega
  rw [hil,List.drop_length] at hc
  exact Rt ⟨congrArg vI hc.symm,rfl⟩
 ·replace h1 : (x.1 : Int) < (t.length : Int) := of_decide_eq_true h1
  refine Cu lo0 st [(0,vS p t.length),(1,vI id),(5,vI x.2),(8,vS p t.length),(9,vI (t.length : Int)),(10,vI (x.1 : Int)),(11,vB true)] fun _ => ?_
  have h1' := Int.ofNat_lt.1 h1
  have ⟨b1,o1,k1,r,hpe,hr1,hm1,hc1,hb1⟩ := hR.1.atB h1'
  have hmem := List.mem_of_getElem? hr1
  have hrs : r.l.length ≤ 1048576 := hr r hmem
  obtain ⟨d1,d2,d3⟩ := split_at hr1
  rw [d3,List.map_cons,commonGo] at hc
  have e18 : IntKind.wrap .i64 ((r.l.length : Int) - 1) = (r.l.length : Int) - 1 := wrap_i64 (by omega) (by omega)
  refine cxs ?_
  refine ⟨_,op_idx (j := (x.1 : Int)) (n := t.length) (q := ⟨b1,o1,none⟩) rfl (congrArg (fun u => vS u t.length) hpe) rfl rfl rfl (Int.natCast_nonneg _) h1,?_⟩
  refine ⟨_,op_ldc (i := 0) (v := vS r.p r.l.length) rfl rfl rfl rfl hm1 hc1 rfl rfl,?_⟩
  refine Cu lo0 st [(0,vS p t.length),(1,vI id),(5,vI x.2),(6,vI (x.1 : Int)),(7,vS r.p r.l.length),(8,vS p t.length),(9,vI (t.length : Int)),(10,vI (x.1 : Int)),(11,vB true)] fun _ => ?_
  iterate 2 refine ⟨_,rfl,?_⟩
  refine ⟨_,rfl,(ac_impl_within id 0 _ st).mono ?_⟩
  rintro _ st ⟨y,rfl,hy,rfl⟩
  rcases y with _|_
  ·replace hy := of_decide_eq_false hy.symm
   refine ⟨_,rfl,?_⟩
   refine Cu lo0 st [(0,vS p t.length),(1,vI id),(5,vI x.2),(6,vI (x.1 : Int)),(7,vS r.p r.l.length),(8,vS p t.length),(9,vI (t.length : Int)),(10,vI (x.1 : Int)),(11,vB true),(20,vB true)] fun _ => ?_
   replace hy : ¬ (0 ≤ id ∧ id ≤ (r.l.length : Int) - 1) := fun h => hy (by rw [e18]; exact h)
   rw [if_neg hy] at hc
   exact cxs (Rt ⟨congrArg vI hc.symm,rfl⟩)
  ·replace hy := of_decide_eq_true hy.symm
   refine ⟨_,rfl,?_⟩
   refine Cu lo0 st [(0,vS p t.length),(1,vI id),(5,vI x.2),(6,vI (x.1 : Int)),(7,vS r.p r.l.length),(8,vS p t.length),(9,vI (t.length : Int)),(10,vI (x.1 : Int)),(11,vB true),(20,vB false)] fun _ => ?_
   replace hy : 0 ≤ id ∧ id ≤ IntKind.wrap .i64 ((r.l.length : Int) - 1) := hy
   rw [e18] at hy
   rw [if_pos hy] at hc
   have ⟨b2,o2,k2,z,hqe,hz,hm2,hc2,hb2⟩ := (hR.2 r hmem).atB (j := id.toNat) (by omega)
   rw [getD_of hz] at hc
   refine cxs ?_
   refine ⟨_,rfl,?_⟩
   rintro (_|_) h2
   ·replace h2 : ¬ ((x.1 : Int) = 0) := beq_eq_false_iff_ne.1 h2
    refine ⟨_,op_idx (j := id) (n := r.l.length) (q := ⟨b2,o2,none⟩) rfl (congrArg (fun u => vS u r.l.length) hqe) rfl rfl rfl hy.1 (by omega),?_⟩
    refine ⟨_,op_ldc (i := 0) (v := vI z) rfl rfl rfl rfl hm2 hc2 rfl rfl,?_⟩
    refine ⟨_,rfl,?_⟩
    rintro (_|_) h3
    ·replace h3 : ¬ (z < x.2) := of_decide_eq_false h3
     refine ⟨_,rfl,?_⟩
     refine Cu lo0 st [(0,vS p t.length),(1,vI id),(5,vI x.2),(6,vI (x.1 : Int)),(7,vS r.p r.l.length),(8,vS p t.length),(9,vI (t.length : Int)),(10,vI (x.1 : Int)),(11,vB true),(20,vB false),(30,vB false)] fun _ => ?_
     refine cxs ?_
     have e35 : IntKind.wrap .i64 ((x.1 : Int) + 1) = ((x.1 + 1 : Nat) : Int) := (wrap_i64 (by omega) (by omega)).trans (by omega)
     refine ⟨_,rfl,?_⟩
     exact ⟨(x.1 + 1,x.2),t.length - (x.1 + 1),by omega,⟨rfl,rfl,rfl,rfl,rfl,congrArg (Value.int .i64) e35,trivial⟩,rfl,rfl,h1',by rw [if_neg (fun h => by rcases h with h | h; exact absurd (of_decide_eq_true h) (by omega); exact h3 h)] at hc; exact hc,rfl⟩
    ·replace h3 : z < x.2 := of_decide_eq_true h3
     refine ⟨_,rfl,?_⟩
     refine Cu lo0 st [(0,vS p t.length),(1,vI id),(5,vI x.2),(6,vI (x.1 : Int)),(7,vS r.p r.l.length),(8,vS p t.length),(9,vI (t.length : Int)),(10,vI (x.1 : Int)),(11,vB true),(20,vB false),(30,vB true)] fun _ => ?_
     refine ⟨_,op_idx (j := id) (n := r.l.length) (q := ⟨b2,o2,none⟩) rfl (congrArg (fun u => vS u r.l.length) hqe) rfl rfl rfl hy.1 (by omega),?_⟩
     refine ⟨_,op_ldc (i := 0) (v := vI z) rfl rfl rfl rfl hm2 hc2 rfl rfl,?_⟩
     refine Cu lo0 st [(0,vS p t.length),(1,vI id),(5,vI z),(6,vI (x.1 : Int)),(7,vS r.p r.l.length),(8,vS p t.length),(9,vI (t.length : Int)),(10,vI (x.1 : Int)),(11,vB true),(20,vB false),(30,vB true)] fun _ => ?_
     have e35 : IntKind.wrap .i64 ((x.1 : Int) + 1) = ((x.1 + 1 : Nat) : Int) := (wrap_i64 (by omega) (by omega)).trans (by omega)
     refine ⟨_,rfl,?_⟩
     exact ⟨(x.1 + 1,z),t.length - (x.1 + 1),by omega,⟨rfl,rfl,rfl,rfl,rfl,congrArg (Value.int .i64) e35,trivial⟩,rfl,rfl,h1',by rw [if_pos (.inr h3)] at hc; exact hc,rfl⟩
   ·replace h2 : (x.1 : Int) = 0 := beq_iff_eq.1 h2
    refine ⟨_,rfl,?_⟩
    refine Cu lo0 st [(0,vS p t.length),(1,vI id),(5,vI x.2),(6,vI (x.1 : Int)),(7,vS r.p r.l.length),(8,vS p t.length),(9,vI (t.length : Int)),(10,vI (x.1 : Int)),(11,vB true),(20,vB false),(30,vB true)] fun _ => ?_
    refine ⟨_,op_idx (j := id) (n := r.l.length) (q := ⟨b2,o2,none⟩) rfl (congrArg (fun u => vS u r.l.length) hqe) rfl rfl rfl hy.1 (by omega),?_⟩
    refine ⟨_,op_ldc (i := 0) (v := vI z) rfl rfl rfl rfl hm2 hc2 rfl rfl,?_⟩
    refine Cu lo0 st [(0,vS p t.length),(1,vI id),(5,vI z),(6,vI (x.1 : Int)),(7,vS r.p r.l.length),(8,vS p t.length),(9,vI (t.length : Int)),(10,vI (x.1 : Int)),(11,vB true),(20,vB false),(30,vB true)] fun _ => ?_
    have e35 : IntKind.wrap .i64 ((x.1 : Int) + 1) = ((x.1 + 1 : Nat) : Int) := (wrap_i64 (by omega) (by omega)).trans (by omega)
    refine ⟨_,rfl,?_⟩
    exact ⟨(x.1 + 1,z),t.length - (x.1 + 1),by omega,⟨rfl,rfl,rfl,rfl,rfl,congrArg (Value.int .i64) e35,trivial⟩,rfl,rfl,h1',by rw [if_pos (.inl (decide_eq_true (by omega)))] at hc; exact hc,rfl⟩
abbrev pcIs (g : RV) : List Pc := [pcRV g]
structure FV where
 p : Option Addr
 l : List Flr
abbrev pcFV (g : FV) : List Pc := [pcR 2 cFlr g.p g.l]
structure TT where
 p : Option Addr
 t : List RV
abbrev TT.x (g : TT) : List (List Int) := rls g.t
abbrev pcTT (g : TT) : List Pc := pcT g.p g.t
end Go.Proofs.YteabadoaeadcgaaDoor.AM
namespace Go.Proofs.YteabadoaeadcgaaDoor.AM
open Go Go.Proofs
set_option linter.unusedVariables false
set_option linter.unusedSimpArgs false
def Frs (a b : St) (l : List Pc) : Prop := OwnP b l ∧ NewP a.next l ∧ Pres a b
theorem Frs.join {a b c : St} {l m : List Pc} (h : Frs a b l) (k : Frs b c m) : Frs a c (l ++ m) :=
 ⟨h.1.join k.2.2 k.1 k.2.1,h.2.1.app (k.2.1.le h.2.2.1),h.2.2.trans k.2.2⟩
theorem PrL.inl {a b : List Pc} {st st' : St} (h : PrL (a.map (·.p)) st st') : PrL ((a ++ b).map (·.p)) st st' := h.mono fun p hp => by rw [List.map_append]; exact List.mem_append_left _ hp
theorem PrL.inr {a b : List Pc} {st st' : St} (h : PrL (b.map (·.p)) st st') : PrL ((a ++ b).map (·.p)) st st' := h.mono fun p hp => by rw [List.map_append]; exact List.mem_append_right _ hp
structure Tr where
 leaves : List Int
 root : Int
structure TV extends RV where
 root : Int
abbrev TV.x (t : TV) : Tr := ⟨t.l,t.root⟩
structure Ses where
 peer : Int
 num : Int
 inn : Bool
 age : Int
structure Ris where
 inc : Int
 beat : Int
 tick : Int
abbrev cSess (x : Ses) : List Value := [vI x.peer,vI x.num,vB x.inn,vI x.age]
abbrev cRise (x : Ris) : List Value := [vI x.inc,vI x.beat,vI x.tick]
structure SesV where
 p : Option Addr
 l : List Ses
structure RisV where
 p : Option Addr
 l : List Ris
abbrev pcSes (g : SesV) : List Pc := [pcR 4 cSess g.p g.l]
abbrev pcRis (g : RisV) : List Pc := [pcR 3 cRise g.p g.l]
structure Mg where
 kind : Int
 frm : Int
 to : Int
 num : Int
 hi : Int
 tree : Tr
 vec : List Int
 leaves : List Int
 part : Sta
 marks : List Flr
structure MV where
 kind : Int
 frm : Int
 to : Int
 num : Int
 hi : Int
 tree : TV
 vec : RV
 leaves : RV
 part : SV
 marks : FV
abbrev MV.x (m : MV) : Mg := ⟨m.kind,m.frm,m.to,m.num,m.hi,m.tree.x,m.vec.l,m.leaves.l,m.part.x,m.marks.l⟩
structure RdM (st : St) (m : MV) : Prop where
 tree : Rows st 1 fI m.tree.p m.tree.l
 vec : Rows st 1 fI m.vec.p m.vec.l
 leaves : Rows st 1 fI m.leaves.p m.leaves.l
 part : RdS st m.part
 marks : Rows st 2 cFlr m.marks.p m.marks.l
theorem RdM.pres {st st' : St} {m : MV} (h : RdM st m) (k : Pres st st') : RdM st' m := ⟨k.rows h.tree,k.rows h.vec,k.rows h.leaves,h.part.pres k,k.rows h.marks⟩
abbrev pcMV (m : MV) : List Pc := pcIs m.tree.toRV ++ (pcIs m.vec ++ (pcIs m.leaves ++ (pcS m.part ++ pcFV m.marks)))
structure Nd where
 id : Int
 n : Int
 s : Sta
 t : Tr
 g : Lg
 got : List Int
 acked : List Int
 seen : List (List Int)
 num : Int
 slots : Int
 sess : List Ses
 wait : Int
 limit : Int
 clock : Int
 rises : List Ris
structure NV where
 id : Int
 n : Int
 s : SV
 t : TV
 g : LV
 got : RV
 acked : RV
 seen : TT
 num : Int
 slots : Int
 sess : SesV
 wait : Int
 limit : Int
 clock : Int
 rises : RisV
abbrev NV.x (v : NV) : Nd := ⟨v.id,v.n,v.s.x,v.t.x,v.g.x,v.got.l,v.acked.l,v.seen.x,v.num,v.slots,v.sess.l,v.wait,v.limit,v.clock,v.rises.l⟩
structure NW where
 id : Int
 n : Int
 s : SV
 t : TV
 g : LW
 got : RV
 acked : RV
 seen : TT
 num : Int
 slots : Int
 sess : SesV
 wait : Int
 limit : Int
 clock : Int
 rises : RisV
abbrev NW.v (v : NW) : NV := ⟨v.id,v.n,v.s,v.t,v.g.v,v.got,v.acked,v.seen,v.num,v.slots,v.sess,v.wait,v.limit,v.clock,v.rises⟩
abbrev NW.x (v : NW) : Nd := v.v.x
structure RdN (st : St) (v : NV) : Prop where
 s : RdS st v.s
 t : Rows st 1 fI v.t.p v.t.l
 g : RdL st v.g.p v.g.l
 got : Rows st 1 fI v.got.p v.got.l
 acked : Rows st 1 fI v.acked.p v.acked.l
 seen : RdT st v.seen.p v.seen.t
 sess : Rows st 4 cSess v.sess.p v.sess.l
 rises : Rows st 3 cRise v.rises.p v.rises.l
theorem RdN.pres {st st' : St} {v : NV} (h : RdN st v) (k : Pres st st') : RdN st' v := ⟨h.s.pres k,k.rows h.t,h.g.pres k,k.rows h.got,k.rows h.acked,h.seen.pres k,k.rows h.sess,k.rows h.rises⟩
abbrev pcNW (v : NW) : List Pc := pcS v.s ++ (pcIs v.t.toRV ++ (pcLog v.g ++ (pcIs v.got ++ (pcIs v.acked ++ (pcTT v.seen ++ (pcSes v.sess ++ pcRis v.rises))))))
end Go.Proofs.YteabadoaeadcgaaDoor.AM
namespace Go.Proofs.YteabadoaeadcgaaDoor.AM
open Go Go.Proofs
set_option linter.unusedVariables false
set_option linter.unusedSimpArgs false
set_option maxRecDepth 100000
set_option maxHeartbeats 4000000
noncomputable def stT (L : LL) : St := ⟨fun a => if a = tabG then some ⟨false,1,tabV⟩ else (stL Tryd.prog.globals.size L).mem a,Tryd.prog.globals.size + L.length⟩
theorem tabG_lt : tabG < Tryd.prog.globals.size := of_decide_eq_true (by kernel_rfl)
theorem stL_low {G : Nat} {L : LL} {a : Nat} {b : Blk} (h : (stL G L).mem a = some b) : G ≤ a := by
 simp only [stL] at h
 split at h
 ·cases h
 ·omega
theorem stT_of {L : LL} {a : Nat} {b : Blk} (h : (stL Tryd.prog.globals.size L).mem a = some b) : (stT L).mem a = some b := by
 have h1 := stL_low h
 have h2 := tabG_lt
 simp only [stT]
 rw [if_neg (by omega)]
 exact h
theorem tab_stT (L : LL) : Tab (stT L) := ⟨by have := tabG_lt; show tabG < _ + _; omega,by simp only [stT,if_pos]⟩
theorem Rows.stT {α : Type} {z : Nat} {f : α → List Value} {L : LL} {p : Option Addr} {l : List α} (h : Rows (stL Tryd.prog.globals.size L) z f p l) : Rows (AM.stT L) z f p l := by
 rcases h with h | ⟨b,off,blk,h1,h2,h3,h4⟩
 ·exact .inl h
 ·exact .inr ⟨b,off,blk,h1,stT_of h2,h3,h4⟩
theorem Ints.stT {k : IntKind} {L : LL} {p : Option Addr} {l : List Int} (h : Ints (stL Tryd.prog.globals.size L) k p l) : Ints (AM.stT L) k p l := by
 rcases h with h | ⟨b,off,blk,h1,h2,h3,h4⟩
 ·exact .inl h
 ·exact .inr ⟨b,off,blk,h1,stT_of h2,h3,h4⟩
theorem stT_ro {L : LL} : ∀ a b,(stT L).mem a = some b → b.rw = false := by
 intro a b h
 simp only [stT] at h
 split at h
 ·injection h with h; rw [← h]
 ·exact stL_ro a b h
theorem relT {L : LL} {w : World} (hG : Good Tryd.prog.globals.size w L) (hT : Lib.TabIs Tryd.prog w "internal/strconv.uint64pow10" .u64 Lib.pow10Tab) : Rel (ιL Tryd.prog.globals.size L) lo0 (stT L) w := by
 have h := relL (fun x hx => (hG x hx).1) (fun x hx => (hG x hx).2)
 have hg : Tryd.prog.globalNamed "internal/strconv.uint64pow10" = some tabG := by kernel_rfl
 obtain ⟨c,e,fr,hc,hcc⟩ : ∃ c e fr,w.heap[tabG]? = some (.cells c e fr) ∧ c = tabV.toArray := by
  have h1 := hT
  unfold Lib.TabIs World.var? at h1
  rw [hg] at h1
  simp only [Option.bind_some] at h1
  split at h1
  ·rename_i c e fr hc
   injection h1 with h1
   exact ⟨c,e,fr,hc,h1⟩
  ·cases h1
 have hlt := (Array.getElem?_eq_some_iff.1 hc).1
 have hh : (ιL Tryd.prog.globals.size L).h tabG = (tabG,0) := (glL (P := Tryd.prog) tabG tabG_lt).2
 have key : ∀ a b,(stT L).mem a = some b → (a = tabG ∧ b = ⟨false,1,tabV⟩) ∨ (stL Tryd.prog.globals.size L).mem a = some b := fun a b hb => by
  simp only [stT] at hb
  split at hb
  ·rename_i he; injection hb with hb; exact .inl ⟨he,hb.symm⟩
  ·exact .inr hb
 refine ⟨h.n,h.g,fun a b hb => ?_,fun a b hb => ?_,h.lg,h.lk,fun a b a' b' hne hb hb' hr => ?_,fun a b t g cs hb ht => by simp [lo0] at ht,h.ll,fun a b hb => ?_⟩
 ·rcases key a b hb with ⟨rfl,_⟩ | hb
  ·have := tabG_lt; show tabG < _ + _; omega
  ·exact h.lt a b hb
 ·rcases key a b hb with ⟨rfl,rfl⟩ | hb
  ·refine ⟨fun i x hx => ?_,(fun hr => by cases hr),fun _ _ => ?_⟩
   ·rw [hh,Nat.zero_add]
    have hx : tabV[i]? = some x := hx
    refine ⟨x,by rw [cell_of hc,hcc,List.getElem?_toArray]; exact hx,?_⟩
    obtain ⟨z,_,rfl⟩ := List.mem_map.1 (List.mem_of_getElem? hx)
    exact (rfl : Value.int .u64 z = Value.int .u64 z)
   ·rw [hh]
    exact ⟨rfl,c,e,fr,hc,by rw [hcc,List.size_toArray]⟩
  ·exact h.hk a b hb
 ·rw [stT_ro a b hb] at hr
  cases hr
 ·rcases key a b hb with ⟨rfl,_⟩ | hb
  ·rw [hh]; exact hlt
  ·exact h.hb a b hb
theorem law_door {f : FuncId} {L : LL} {args cs : List Value} {w : World} (hG : Good Tryd.prog.globals.size w L) (hT : Lib.TabIs Tryd.prog w "internal/strconv.uint64pow10" .u64 Lib.pow10Tab)
  (h : C f args (stT L) (fun v s => v = .bool true)) (hA : AR (ιL Tryd.prog.globals.size L) args cs) {fn : Func} {c : Code} (hf : Tryd.prog.funcs[f]? = some fn) (hb : fn.body = some c) : Calls Tryd.prog f cs.toArray w (fun e w' => e = .returned (.bool true) ∧ RowKit.Below w.heap.size w w') := by
 obtain ⟨h1,h2⟩ := hA.get
 exact law_from ext0_ok h (fun v s h => h) rfl glL (relT hG hT) stT_ro (by simpa using h1.symm) (fun i x hx => by obtain ⟨y,h3,h4⟩ := h2 i x hx; exact ⟨y,by simpa using h3,h4⟩) hf hb
theorem filt_in {α : Type} {p : α → Bool} {l : List α} {i : Nat} {x : α} (h : l[i]? = some x) (hx : p x = true) : (l.take (i + 1)).filter p = (l.take i).filter p ++ [x] := by
 rw [List.take_add_one,h,List.filter_append]
 simp [hx]
theorem filt_out {α : Type} {p : α → Bool} {l : List α} {i : Nat} {x : α} (h : l[i]? = some x) (hx : p x = false) : (l.take (i + 1)).filter p = (l.take i).filter p := by
 rw [List.take_add_one,h,List.filter_append]
 simp [hx]
open Classical in
noncomputable def addL (g : Lg) (d : Sta) : Lg × Bool := if logOk g ∧ stateOk d ∧ g.frm + (g.list.length : Int) < 100000 then (if (g.list.length : Int) + 1 > g.cap then (⟨g.cap,g.frm + 1,(g.list ++ [d]).drop 1⟩,true) else (⟨g.cap,g.frm,g.list ++ [d]⟩,true)) else (g,false)
end Go.Proofs.YteabadoaeadcgaaDoor.AM
