/- A part of the machine on which the law's proof rests. -/
import Derived.Calls
import Derived.Orders
import Derived.Laws.Append
import Derived.Laws.AppendOwn
import Derived.Laws.MakeOwn
import Derived.Laws.Entries
import Derived.Laws.IdiomCopy
import Derived.RowKit
import Derived.Below
namespace Go.Proofs.YteabadoaeadcgaaDoor.AM
open Go Go.RowKit
set_option linter.unusedVariables false
set_option linter.unusedSimpArgs false
structure Blk where
 rw : Bool
 esz : Nat
 cells : List Value
structure St where
 mem : Nat → Option Blk
 next : Nat
structure Lo where
 loc : Nat → Option (Nat × List Value)
 gen : Nat
abbrev Tm := Nat → Value
def St.push (s : St) (e : Nat) (c : List Value) : St := ⟨fun x => if x = s.next then some ⟨true,e,c⟩ else s.mem x,s.next + 1⟩
def St.set (s : St) (a : Nat) (b : Option Blk) : St := ⟨fun x => if x = a then b else s.mem x,s.next⟩
def Tm.put (ρ : Tm) (d : Tmp) (v : Value) : Tm := fun x => if x = d then v else ρ x
def Tm.putO (ρ : Tm) (d : Option Tmp) (v : Value) : Tm := match d with
 | none => ρ
 | some d => Tm.put ρ d v
def Lo.set (lo : Lo) (t : Tmp) (g : Nat) (cs : List Value) : Lo := ⟨fun x => if x = t then some (g,cs) else lo.loc x,lo.gen⟩
def Lo.box (lo : Lo) (t : Tmp) (cs : List Value) : Lo := ⟨fun x => if x = t then some (lo.gen,cs) else lo.loc x,lo.gen + 1⟩
def ev (ρ : Tm) : Operand → Value
 | .tmp t => ρ t
 | .const v => v
 | .global g => .pointer (some ⟨g,0,none⟩)
 | .func f => .func (.func f) #[] #[]
def plain0 : Value → Bool
 | .bool _ | .int .. | .string _ | .pointer none | .nilFunc | .slice none 0 0 => true
 | _ => false
def tsize (P : Program) (t : TypeId) : Option Nat := (P.info? t).map (·.size)
def tbytes (P : Program) (t : TypeId) : Option Nat := (P.info? t).map (·.bytes)
def tzero (P : Program) (t : TypeId) : Option (List Value) := (P.info? t).bind fun i => i.zero.bind fun z => if z.cells.toList.all plain0 then some z.cells.toList else none
def tagg (P : Program) (t : TypeId) : Option Bool := (P.underlying t).map fun | .struct _ | .array _ _ => true | _ => false
def telem (P : Program) (t : TypeId) : Option TypeId := match P.underlying t with
 | some (.slice e) => some e
 | _ => none
def tfield (P : Program) (t : TypeId) (i : Nat) : Option (Nat × Nat × TypeId) := match P.underlying t with
 | some (.struct fs) => (fs[i]?).bind fun f => (tsize P f.type).map fun n => (f.offset,n,f.type)
 | _ => none
def tplaces (P : Program) (t : TypeId) : Option (List (Nat × Nat)) := match P.underlying t with
 | some (.struct fs) => fs.toList.mapM fun f => (tsize P f.type).map fun n => (f.offset,n)
 | _ => none
def tint (P : Program) (t : TypeId) : Option IntKind := match P.underlying t with
 | some (.int k) => some k
 | _ => none
def tstr (P : Program) (t : TypeId) : Bool := match P.underlying t with
 | some .string => true
 | _ => false
def rdB (lo : Lo) (st : St) (b : Nat) (s : Option Nat) : Option (List Value) := match s with
 | none => (st.mem b).map (·.cells)
 | some g => match lo.loc b with
  | some (g',cs) => if g' = g then some cs else none
  | none => none
def aload (P : Program) (t : TypeId) (cs : List Value) (off : Nat) : Option Value := match tagg P t with
 | some true => (tsize P t).bind fun n => if ((cs.drop off).take n).length = n then some (.agg ((cs.drop off).take n).toArray) else none
 | some false => cs[off]?
 | none => none
def splice (cs : List Value) (off : Nat) : List Value → List Value
 | [] => cs
 | v :: vs => splice (cs.set off v) (off + 1) vs
def isCell : Value → Bool
 | .agg _ | .tuple _ | .chan _ => false
 | _ => true
def zrow (n : Nat) (z : List Value) : List Value := (List.replicate n z).flatten
def aint (op : BinOp) (k : IntKind) (x y : Int) : Option Value := match op with
 | .add => some (.int k (k.wrap (x + y)))
 | .sub => some (.int k (k.wrap (x - y)))
 | .mul => some (.int k (k.wrap (x * y)))
 | .quo => if y = 0 then none else some (.int k (k.wrap (x.tdiv y)))
 | .rem => if y = 0 then none else some (.int k (x.tmod y))
 | .and => some (.int k (bits .and k x y))
 | .or => some (.int k (bits .or k x y))
 | .xor => some (.int k (bits .xor k x y))
 | .eql => some (.bool (x == y))
 | .neq => some (.bool (x != y))
 | .lss => some (.bool (x < y))
 | .leq => some (.bool (x ≤ y))
 | .gtr => some (.bool (x > y))
 | .geq => some (.bool (x ≥ y))
 | _ => none
def astrop (op : BinOp) (x y : ByteArray) : Option Value := match op with
 | .add => if x.size + y.size ≤ 140737488355328 then some (.string (x ++ y)) else none
 | .eql => some (.bool (x.toList == y.toList))
 | .neq => some (.bool (!(x.toList == y.toList)))
 | .lss => some (.bool (Op.bytesLess x.toList y.toList))
 | .leq => some (.bool (Op.bytesLess x.toList y.toList || x.toList == y.toList))
 | .gtr => some (.bool (!(Op.bytesLess x.toList y.toList || x.toList == y.toList)))
 | .geq => some (.bool (!(Op.bytesLess x.toList y.toList)))
 | _ => none
def apart (P : Program) (t : TypeId) (n : Nat) (cs : Array Value) (off : Nat) : Option Value := match tagg P t with
 | some true => some (.agg (cs.extract off (off + n)))
 | some false => cs[off]?
 | none => none
def aeqFields (P : Program) (eq : TypeId → Value → Value → Option Bool) (xs ys : Array Value) : List Field → Option Bool
 | [] => some true
 | f :: fs =>
  if f.name ≠ "_" then
   (tsize P f.type).bind fun n => (apart P f.type n xs f.offset).bind fun u => (apart P f.type n ys f.offset).bind fun v =>
    (eq f.type u v).bind fun r => if r = true then aeqFields P eq xs ys fs else some false
  else aeqFields P eq xs ys fs
def aeq (P : Program) : Nat → TypeId → Value → Value → Option Bool
 | 0,_,_,_ => none
 | d + 1,t,x,y => match P.underlying t,x,y with
  | some .bool,.bool a,.bool b => some (a == b)
  | some (.int _),.int k a,.int k' b => if k = k' then some (a == b) else none
  | some .string,.string a,.string b => some (a.toList == b.toList)
  | some (.struct fs),.agg xs,.agg ys => if P.stoodInHeld t then none else aeqFields P (aeq P d) xs ys fs.toList
  | _,_,_ => none
def aeqV (P : Program) (t : TypeId) (x y : Value) : Option Bool := match x,y with
 | .bool _,.bool _ => aeq P Op.maxDepth t x y
 | .agg _,.agg _ => if P.eqGuardType P.depth t then none else aeq P Op.maxDepth t x y
 | _,_ => none
def abin (P : Program) (op : BinOp) (t : TypeId) (x y : Value) : Option Value := match op,x,y with
 | .shl,.int k a,.int _ b => if 0 ≤ b ∧ b ≤ k.bits then some (.int k (k.wrap (a * 2 ^ b.toNat))) else none
 | .shr,.int k a,.int _ b => if 0 ≤ b ∧ b ≤ k.bits then some (.int k (a / 2 ^ b.toNat)) else none
 | op,.int k a,.int k' b => if k = k' then aint op k a b else none
 | op,.string a,.string b => astrop op a b
 | .eql,x,y => (aeqV P t x y).map .bool
 | .neq,x,y => (aeqV P t x y).map fun b => .bool !b
 | _,_,_ => none
def aun (op : UnOp) (x : Value) : Option Value := match op,x with
 | .not,.bool b => some (.bool !b)
 | .neg,.int k n => some (.int k (k.wrap (0 - n)))
 | _,_ => none
def abound (v : Option Value) (d : Nat) : Option Nat := match v with
 | none => some d
 | some (.int _ i) => if 0 ≤ i then some i.toNat else none
 | _ => none
def aslice (P : Program) (t : TypeId) (x : Value) (lo hi : Option Value) : Option Value := match x with
 | .string s => if tstr P t then
   (abound lo 0).bind fun l => (abound hi s.size).bind fun h => if l ≤ h ∧ h ≤ s.size then some (.string (s.extract l h)) else none
  else none
 | .slice p n _ => (telem P t).bind fun e => (tsize P e).bind fun z =>
   (abound lo 0).bind fun l => (abound hi n).bind fun h => if l ≤ h ∧ h ≤ n then some (.slice (p.map fun q => ⟨q.block,q.off + l * z,q.spot⟩) (h - l) (h - l)) else none
 | _ => none
def abytes : List Value → Option (List UInt8)
 | [] => some []
 | .int .u8 n :: l => (abytes l).map (UInt8.ofNat n.toNat :: ·)
 | _ :: _ => none
def astring (rd : Nat → Option Nat → Option (List Value)) (x : Value) : Option Value := match x with
 | .slice none _ _ => some (.string ⟨#[]⟩)
 | .slice (some p) n _ => (rd p.block p.spot).bind fun cs => if ((cs.drop p.off).take n).length = n then (abytes ((cs.drop p.off).take n)).map fun l => .string ⟨l.toArray⟩ else none
 | _ => none
def aconv (P : Program) (src dst : TypeId) (rd : Nat → Option Nat → Option (List Value)) (x : Value) : Option Value := match x with
 | .int _ n => (tint P src).bind fun _ => (tint P dst).map fun k => .int k (k.wrap n)
 | .string s => if tstr P dst ∧ tstr P src then some (.string s) else none
 | .slice _ _ _ => if tstr P dst then match telem P src with
   | some e => if tint P e = some .u8 then astring rd x else none
   | none => none
  else none
 | _ => none
def amm (mx : Bool) : Value → Value → Option Value
 | .int k x,.int k' y => if k = k' then some (.int k (if mx then (if y > x then y else x) else (if y < x then y else x))) else none
 | _,_ => none
def ammF (mx : Bool) : List Value → Value → Option Value
 | [],v => some v
 | y :: l,v => (amm mx v y).bind fun u => ammF mx l u
def ammL (mx : Bool) : List Value → Option Value
 | .int k n :: l => ammF mx l (.int k n)
 | _ => none
def alen (P : Program) (t : TypeId) (x : Value) : Option Value := match x with
 | .string s => if tstr P t then some (.int .i64 s.size) else none
 | .slice _ n _ => match telem P t with
  | some _ => some (.int .i64 n)
  | none => none
 | _ => none
def afill (place : Nat → Option (Nat × Nat)) (cells : List Value) : List (Nat × Value) → Option (List Value)
 | [] => some cells
 | (i,v) :: rest => (place i).bind fun p => if v.cells.toList.length = p.2 ∧ p.1 + p.2 ≤ cells.length ∧ (v.cells.toList.all isCell) = true then afill place (splice cells p.1 v.cells.toList) rest else none
def abuild (P : Program) (t : TypeId) (parts : List (Nat × Value)) : Option Value :=
 (tzero P t).bind fun z => (tplaces P t).bind fun pl => (afill (fun i => pl[i]?) z parts).map fun c => .agg c.toArray
def parts (ρ : Operand → Value) (ps : Array (Nat × Operand)) : List (Nat × Value) := ps.toList.map fun p => (p.1,ρ p.2)
def litNil (P : Program) (t : TypeId) (k : Nat) : Option Value := (telem P t).bind fun e => (tsize P e).bind fun z => if k = 0 ∧ 0 < z then some (.slice none 0 0) else none
def rop (P : Program) (o : Op) (ev : Operand → Value) (rd : Nat → Option Nat → Option (List Value)) : Option Value := match o with
 | .move x | .assign x => some (ev x)
 | .pick c a b => match ev c with
  | .bool true => some (ev a)
  | .bool false => some (ev b)
  | _ => none
 | .load t a => match ev a with
  | .pointer (some p) => (rd p.block p.spot).bind fun cs => aload P t cs p.off
  | _ => none
 | .nilCheck x => match ev x with
  | .pointer (some p) => some (.pointer (some p))
  | _ => none
 | .binOp op t x y _ => abin P op t (ev x) (ev y)
 | .unOp op _ x => aun op (ev x)
 | .convert src dst x => aconv P src dst rd (ev x)
 | .build t ps => abuild P t (parts ev ps)
 | .makeFunc (.func f) fs cs => if fs.size = 0 ∧ cs.size = 0 then some (.func (.func f) #[] #[]) else none
 | .slice t x lo hi none => aslice P t (ev x) (lo.map ev) (hi.map ev)
 | .fieldAddr t x i => match ev x,tfield P t i with
  | .pointer (some p),some (off,n,_) => if n = 0 then none else some (.pointer (some ⟨p.block,p.off + off,p.spot⟩))
  | _,_ => none
 | .field t x i => match ev x,tfield P t i with
  | .agg cs,some (off,n,ty) => apart P ty n cs off
  | _,_ => none
 | .indexAddr t x i => match ev x,ev i,telem P t with
  | .slice (some p) n _,.int _ j,some e => (tsize P e).bind fun z => if 0 ≤ j ∧ j < n then some (.pointer (some ⟨p.block,p.off + j.toNat * z,p.spot⟩)) else none
  | _,_,_ => none
 | .index t x i => match ev x,ev i with
  | .string s,.int _ j => if tstr P t ∧ 0 ≤ j then (s[j.toNat]?).map fun b => .int .u8 b.toNat else none
  | _,_ => none
 | .extract t i => match ev t with
  | .tuple vs => vs[i]?
  | _ => none
 | .call c => match c.callee with
  | .builtin .len => match c.argTypes[0]?,(c.args.map ev)[0]? with
   | some t,some x => alen P t x
   | _,_ => none
  | .builtin .max => ammL true (c.args.map ev).toList
  | .builtin .min => ammL false (c.args.map ev).toList
  | _ => none
 | .buildSlice t n ps => if n = 0 then litNil P t ps.size else none
 | _ => none
def isBox (v : Value) : Bool := match v with
 | .tuple _ | .chan _ => false
 | _ => true
def anew (ls : List Tmp) (dst : Option Tmp) (cs : List Value) (lo : Lo) (st : St) : Option (Value × Lo × St) := match dst with
 | none => none
 | some d => if cs.all isCell = true then
   if ls.contains d then some (.pointer (some ⟨d,0,some lo.gen⟩),lo.box d cs,st)
   else some (.pointer (some ⟨st.next,0,none⟩),lo,st.push 0 cs)
  else none
def astore (P : Program) (t : TypeId) (x v : Value) (lo : Lo) (st : St) : Option (Value × Lo × St) := match x with
 | .pointer (some p) =>
  if (tsize P t) = some v.cells.toList.length ∧ (v.cells.toList.all isCell) = true then
   match p.spot with
   | none => match st.mem p.block with
    | some b => if b.rw = true ∧ p.off + v.cells.toList.length ≤ b.cells.length then some (undef,lo,st.set p.block (some ⟨true,b.esz,splice b.cells p.off v.cells.toList⟩)) else none
    | none => none
   | some g => match lo.loc p.block with
    | some (g',cs) => if g' = g ∧ p.off + v.cells.toList.length ≤ cs.length then some (undef,lo.set p.block g (splice cs p.off v.cells.toList),st) else none
    | none => none
  else none
 | _ => none
def aapp (z m by_ : Nat) (v : Value) (news : List Value) (st : St) : Option (Value × St) := match v with
 | .slice p n c =>
  if (n + m) * by_ ≤ 140737488355328 ∧ n + m ≤ maxLen ∧ 0 < z ∧ news.length = m * z then
   if m = 0 then some (.slice p n c,st) else
   match p with
   | none => if n = 0 then some (.slice (some ⟨st.next,0,none⟩) m m,st.push z news) else none
   | some q => match st.mem q.block with
    | some b => if b.rw = true ∧ q.off = 0 ∧ q.spot = none ∧ b.esz = z ∧ b.cells.length = n * z then
      some (.slice (some ⟨st.next,0,none⟩) (n + m) (n + m),(st.set q.block none).push z (b.cells ++ news)) else none
    | none => none
  else none
 | _ => none
def asrc (z : Nat) (rd : Nat → Option Nat → Option (List Value)) (x : Value) : Option (Nat × List Value) := match x with
 | .slice none n _ => if n = 0 then some (0,[]) else none
 | .slice (some p) n _ => if n = 0 then some (0,[]) else (rd p.block p.spot).bind fun cs => if ((cs.drop p.off).take (n * z)).length = n * z then some (n,(cs.drop p.off).take (n * z)) else none
 | _ => none
def aappend (P : Program) (c : Call) (ev : Operand → Value) (lo : Lo) (st : St) : Option (Value × Lo × St) :=
 match c.argTypes.toList,c.args.toList with
 | [t,u],[ov,ox] => if t = u then (telem P t).bind fun e => (tsize P e).bind fun z => (tbytes P e).bind fun b => (tzero P e).bind fun z0 => if z0.length = z then
   (asrc z (rdB lo st) (ev ox)).bind fun s => (aapp z s.1 b (ev ov) s.2 st).map fun r => (r.1,lo,r.2) else none
  else none
 | _,_ => none
def amake (P : Program) (t : TypeId) (l c : Value) (lo : Lo) (st : St) : Option (Value × Lo × St) := match l,c with
 | .int _ n,.int _ m => (telem P t).bind fun e => (tsize P e).bind fun z => (tbytes P e).bind fun b => (tzero P e).bind fun z0 =>
   if n = m ∧ 0 ≤ n ∧ n.toNat * b ≤ 140737488355328 ∧ n ≤ 9223372036854775807 ∧ 0 < z ∧ z0.length = z then
    some (.slice (some ⟨st.next,0,none⟩) n.toNat n.toNat,lo,st.push z (zrow n.toNat z0)) else none
 | _,_ => none
def alit (P : Program) (t : TypeId) (n : Nat) (ps : List (Nat × Value)) (lo : Lo) (st : St) : Option (Value × Lo × St) :=
 (telem P t).bind fun e => (tsize P e).bind fun z => (tzero P e).bind fun z0 =>
  if n * z ≤ 16777216 ∧ 0 < z ∧ z0.length = z then (afill (fun i => some (i * z,z)) (zrow n z0) ps).map fun c => (.slice (some ⟨st.next,0,none⟩) n n,lo,st.push z c) else none
def abytesOf (P : Program) (src dst : TypeId) (x : Value) (lo : Lo) (st : St) : Option (Value × Lo × St) := match x with
 | .string s => match telem P dst with
  | some e => if tint P e = some .u8 ∧ tstr P src ∧ s.size ≤ maxLen then some (.slice (some ⟨st.next,0,none⟩) s.size s.size,lo,st.push 1 (s.data.toList.map fun b => .int .u8 b.toNat)) else none
  | none => none
 | .slice (some p) n c => match telem P dst,st.mem p.block with
  | some e,some b => if tint P e = some .u8 ∧ src = dst ∧ b.rw = true ∧ p.spot = none ∧ 0 < n then some (.slice (some p) n c,lo,st) else none
  | _,_ => none
 | _ => none
abbrev ACallT := FuncId → List Value → St → Option (Value × St)
def aoper (P : Program) (ls : List Tmp) (call : ACallT) (o : Oper) (ev : Operand → Value) (lo : Lo) (st : St) : Option (Value × Lo × St) := match o.op with
 | .box _ x => if isBox (ev x) then anew ls o.dst (ev x).cells.toList lo st else none
 | .alloc t => (tzero P t).bind fun z => anew ls o.dst z lo st
 | .store t a x => astore P t (ev a) (ev x) lo st
 | .makeSlice t l c => amake P t (ev l) (ev c) lo st
 | .buildSlice t n ps => if n = 0 then (rop P o.op ev (rdB lo st)).map fun v => (v,lo,st) else alit P t n (parts ev ps) lo st
 | .convert src dst x => match telem P dst with
  | some _ => abytesOf P src dst (ev x) lo st
  | none => (aconv P src dst (rdB lo st) (ev x)).map fun v => (v,lo,st)
 | .call c => match c.callee with
  | .value f => match ev f with
   | .func (.func g) fs cs => if fs.size = 0 ∧ cs.size = 0 then (call g (c.args.toList.map ev) st).map fun r => (r.1,lo,r.2) else none
   | _ => none
  | .builtin .append => aappend P c ev lo st
  | _ => (rop P o.op ev (rdB lo st)).map fun v => (v,lo,st)
 | _ => (rop P o.op ev (rdB lo st)).map fun v => (v,lo,st)
def skipV : Value := .chan none
def aguard (ops : Array Oper) (ρ : Tm) (o : Oper) : Option Bool := match o.guard with
 | none => some true
 | some (j,want) => match (ops[j]?).bind (·.dst) with
  | some t => match ρ t with
   | .bool b => some (b == want)
   | .chan none => some false
   | _ => none
  | none => none
def isBefore (b : Array Nat) (i j : Nat) : Bool := (b.getD j 0).testBit i
def free (b : Array Nat) (i j : Nat) : Bool := !isBefore b i j && !isBefore b j i && i != j
def ldChk (n0 : Nat → Prop) (o : Op) (e : Operand → Value) : Prop := match o with
 | .convert _ _ x => ∀ p n c,e x = .slice (some p) n c → p.spot = none ∧ n0 p.block
 | o => ∀ t x,o = .load t x → ∀ p,e x = .pointer (some p) → p.spot = none → n0 p.block
def stChk (ops : Array Oper) (i : Nat) (y : Operand) (e : Operand → Value) : Prop :=
 ∀ (k : Nat) (o : Oper) (t : TypeId) (x : Operand),ops[k]? = some o → o.op = .load t x → k < i → free (Region.before ops) k i = true → ∃ p q g,e x = .pointer (some p) ∧ e y = .pointer (some q) ∧ q.spot = some g ∧ ¬ q.block = p.block
def flChk (n0 : Nat → Prop) (ops : Array Oper) (i : Nat) (o : Op) (e : Operand → Value) (st st' : St) : Prop := match o with
 | .store _ y _ => stChk ops i y e
 | _ => ∀ a,n0 a → st'.mem a = st.mem a
open Classical in
noncomputable def aops (P : Program) (ls : List Tmp) (call : ACallT) (ops : Array Oper) (n0 : Nat → Prop) (fl ld : Nat → Bool) : List Oper → Nat → Tm → Lo → St → Option (Tm × Lo × St)
 | [],_,ρ,lo,st => some (ρ,lo,st)
 | o :: os,i,ρ,lo,st =>
  match aguard ops ρ o with
  | some true => match aoper P ls call o (ev ρ) lo st with
   | some (v,lo',st') =>
    if (fl i = true → flChk n0 ops i o.op (ev ρ) st st') ∧ (ld i = true → ldChk n0 o.op (ev ρ)) then
     aops P ls call ops n0 fl ld os (i + 1) (Tm.putO ρ o.dst v) lo' st'
    else none
   | none => none
  | some false => aops P ls call ops n0 fl ld os (i + 1) (Tm.putO ρ o.dst skipV) lo st
  | none => none
open Classical in
noncomputable def aany (P : Program) (ls : List Tmp) (call : ACallT) (ops : Array Oper) (fl ld : Nat → Bool) (ρ : Tm) (lo : Lo) (st : St) : Option (Tm × Lo × St) :=
 if h : ∃ (r : Tm × Lo × St) (n0 : Nat → Prop),aops P ls call ops n0 fl ld ops.toList 0 ρ lo st = some r then some (Classical.choose h) else none
theorem aany_get {P : Program} {ls : List Tmp} {call : ACallT} {ops : Array Oper} {fl ld : Nat → Bool} {ρ : Tm} {lo : Lo} {st : St} {r : Tm × Lo × St} (h : aany P ls call ops fl ld ρ lo st = some r) : ∃ n0,aops P ls call ops n0 fl ld ops.toList 0 ρ lo st = some r := by
 unfold aany at h
 split at h
 ·rename_i hx
  injection h with h
  rw [← h]
  exact Classical.choose_spec hx
 ·cases h
theorem aops_one {P : Program} {ls : List Tmp} {call : ACallT} {ops : Array Oper} {n0 n1 : Nat → Prop} {fl ld : Nat → Bool} {r s : Tm × Lo × St} : ∀ (os : List Oper) (i : Nat) (ρ : Tm) (lo : Lo) (st : St),aops P ls call ops n0 fl ld os i ρ lo st = some r → aops P ls call ops n1 fl ld os i ρ lo st = some s → r = s := by
 intro os
 induction os with
 | nil =>
  intro i ρ lo st h k
  simp only [aops,Option.some.injEq] at h k
  rw [← h,← k]
 | cons o os ih =>
  intro i ρ lo st h k
  unfold aops at h k
  split at h
  ·rename_i hg
   rw [hg] at k
   simp only at k
   split at h
   ·rename_i ha
    rw [ha] at k
    simp only at k
    split at h
    ·split at k
     ·exact ih _ _ _ _ h k
     ·cases k
    ·cases h
   ·cases h
  ·rename_i hg
   rw [hg] at k
   exact ih _ _ _ _ h k
  ·cases h
theorem aany_of {P : Program} {ls : List Tmp} {call : ACallT} {ops : Array Oper} {n0 : Nat → Prop} {fl ld : Nat → Bool} {ρ : Tm} {lo : Lo} {st : St} {r : Tm × Lo × St} (h : aops P ls call ops n0 fl ld ops.toList 0 ρ lo st = some r) : aany P ls call ops fl ld ρ lo st = some r := by
 unfold aany
 have hx : ∃ (r : Tm × Lo × St) (n0 : Nat → Prop),aops P ls call ops n0 fl ld ops.toList 0 ρ lo st = some r := ⟨r,n0,h⟩
 rw [dif_pos hx]
 obtain ⟨n1,h1⟩ := Classical.choose_spec hx
 rw [aops_one _ _ _ _ _ h1 h]
def isE (P : Program) (o : Op) : Bool := match o with
 | .box .. | .alloc _ | .store .. | .makeSlice .. => true
 | .buildSlice _ n _ => n != 0
 | .convert src dst _ => (telem P dst).isSome && !(src == dst)
 | .call c => match c.callee with
  | .value _ => true
  | .builtin .append => true
  | _ => false
 | _ => false
def isFz (P : Program) (o : Op) : Bool := match o with
 | .convert src dst _ => (telem P dst).isSome && (src == dst)
 | _ => false
def isLoad : Op → Bool
 | .load .. => true
 | _ => false
def isCall : Op → Bool
 | .makeSlice .. => true
 | .buildSlice _ n _ => n != 0
 | .call c => match c.callee with
  | .value _ => true
  | .builtin .append => true
  | _ => false
 | _ => false
def readsMem : Op → Bool
 | .load .. => true
 | .convert src dst _ => !(src == dst)
 | _ => false
def isRd (P : Program) (o : Op) : Bool := readsMem o && !isE P o
def isPendA (ls : List Tmp) (o : Oper) : Bool := match o.op,o.dst with
 | .alloc _,some d => ls.contains d && o.guard.isNone && o.after.isEmpty
 | _,_ => false
def isMk : Op → Bool
 | .makeSlice .. => true
 | .buildSlice _ n _ => n != 0
 | _ => false
def isPendH (o : Oper) : Bool := isMk o.op && o.dst.isSome && o.guard.isNone
def isPend (ls : List Tmp) (o : Oper) : Bool := isPendA ls o || isPendH o
def isFzOf (P : Program) (ops : Array Oper) (j k : Nat) : Bool := (k == j + 1) && (match ops[k]? with
 | some o => isFz P o.op
 | none => false)
def allBehind (P : Program) (ops : Array Oper) (b : Array Nat) (i j : Nat) : Bool := (List.range ops.size).all fun k => !isBefore b j k || isBefore b i k || isFzOf P ops j k
def isSt : Op → Bool
 | .store .. => true
 | _ => false
def stP (ops : Array Oper) (x y : Oper) : Bool := match x.op,y.op with
 | .load _ (.tmp a),.store _ (.tmp b) _ => ops.toList.all fun o => o.dst != some a && o.dst != some b
 | _,_ => false
def clash (P : Program) (ls : List Tmp) (ops : Array Oper) (b : Array Nat) (i j : Nat) (x y : Oper) : Bool :=
 isBefore b i j || (x.apart ops y && y.apart ops x && ((!(isE P x.op && isE P y.op) &&
  (!(readsMem x.op && isE P y.op) || (isRd P x.op && isCall y.op)) && (!(readsMem y.op && isE P x.op) || (isRd P y.op && isCall x.op))) ||
  (isPend ls y && allBehind P ops b i j && (!readsMem x.op || isRd P x.op)) || (isPend ls x && !isE P y.op && (!readsMem y.op || isRd P y.op)) || stP ops x y))
def pairsOk (P : Program) (ls : List Tmp) (ops : Array Oper) (b : Array Nat) : Bool :=
 ops.toList.zipIdx.all fun (y,j) => ops.toList.zipIdx.all fun (x,i) => !decide (i < j) || clash P ls ops b i j x y
def fzOne (P : Program) (ops : Array Oper) (b : Array Nat) (k : Nat) (o : Oper) : Bool := match o.op with
 | .convert _ _ (.tmp x) => decide (0 < k) && (match ops[k - 1]? with | some u => isPendH u && (u.dst == some x) | none => false) && isBefore b (k - 1) k && o.guard.isNone && o.dst.isSome && !(o.dst == some x) &&
  ((List.range ops.size).all fun j => !isBefore b k j || isBefore b (k - 1) j) && (ops.toList.zipIdx.all fun (y,j) => !decide (k < j) || !isE P y.op || isBefore b k j)
 | _ => false
def fzOk (P : Program) (ops : Array Oper) (b : Array Nat) : Bool := ops.toList.zipIdx.all fun (o,k) => !isFz P o.op || fzOne P ops b k o
def edgesOk (ops : Array Oper) : Bool := ops.toList.zipIdx.all fun (o,i) => o.after.toList.all fun e => !Region.binds .any e || decide (e.on < i)
def rankOk (m : Region.Mode) (ops : Array Oper) : Bool := ops.toList.zipIdx.all fun (o,i) => o.after.toList.all fun e => !Region.binds m e || (decide (e.on < ops.size) && decide ((Region.linearise m ops 0).idxOf e.on < (Region.linearise m ops 0).idxOf i))
def flOf (P : Program) (ops : Array Oper) (i : Nat) : Bool := match ops[i]? with
 | some o => (isCall o.op && ops.toList.zipIdx.any fun (x,j) => isRd P x.op && free (Region.before ops) i j) || (isSt o.op && ops.toList.zipIdx.any fun (x,j) => isLoad x.op && decide (j < i) && free (Region.before ops) j i)
 | none => false
def ldOf (P : Program) (ops : Array Oper) (i : Nat) : Bool := match ops[i]? with
 | some o => isRd P o.op && ops.toList.zipIdx.any fun (x,j) => isE P x.op && free (Region.before ops) i j
 | none => false
def closOk (ops : Array Oper) (b : Array Nat) : Bool := ops.toList.zipIdx.all fun (o,j) => (List.range ops.size).all fun i => !isBefore b i j || o.after.toList.any fun e => Region.binds .any e && (e.on == i || isBefore b i e.on)
def drawOk (P : Program) (ls : List Tmp) (ops : Array Oper) : Bool := edgesOk ops && closOk ops (Region.before ops) && pairsOk P ls ops (Region.before ops) && fzOk P ops (Region.before ops) && (!Region.departs ops || (rankOk .text ops && rankOk .gc ops))
structure FInfo where
 ls : List Tmp
 T : List Tmp
 V : List Tmp
 mv : List (Nat × List Nat)
def renOp (π : List Nat) (o : Oper) : Oper := { o with after := o.after.map (fun e => { e with on := π.idxOf e.on }),guard := o.guard.map fun g => (π.idxOf g.1,g.2) }
def permOps (π : List Nat) (ops : Array Oper) : Array Oper := (π.map fun k => renOp π (ops.getD k default)).toArray
def permOk (π : List Nat) (ops : Array Oper) : Bool :=
 decide (π.length = ops.size) && decide π.Nodup && π.all (fun k => decide (k < ops.size)) && (List.range ops.size).all (fun k => π.contains k) &&
 ops.toList.all (fun o => o.after.toList.all (fun e => decide (e.on < ops.size)) && (match o.guard with | none => true | some g => decide (g.1 < ops.size))) && (Region.departs (permOps π ops) == Region.departs ops)
def reR (mv : List (Nat × List Nat)) (id : Nat) (ops : Array Oper) : Array Oper := match mv.lookup id with
 | none => ops
 | some π => permOps π ops
def reC' (mv : List (Nat × List Nat)) : Code → Code
 | .region id ops draw => if draw then .region id (reR mv id ops) true else .region id ops false
 | .seq a b => .seq (reC' mv a) (reC' mv b)
 | .cond c a b => .cond c (reC' mv a) (reC' mv b)
 | .block id c => .block id (reC' mv c)
 | .loop c => .loop (reC' mv c)
 | c => c
def reC (mv : List (Nat × List Nat)) (c : Code) : Code := match mv with
 | [] => c
 | m :: l => reC' (m :: l) c
def permsOk (mv : List (Nat × List Nat)) : Code → Bool
 | .region id ops _ => match mv.lookup id with
  | none => true
  | some π => permOk π ops
 | .seq a b => permsOk mv a && permsOk mv b
 | .cond _ a b => permsOk mv a && permsOk mv b
 | .block _ c => permsOk mv c
 | .loop c => permsOk mv c
 | _ => true
def plainV : Value → Bool
 | .agg cs => cs.toList.all plain0
 | .tuple vs => vs.size == 0
 | v => plain0 v
def opndOk (G : Nat) (T : List Tmp) : Operand → Bool
 | .tmp t => !T.contains t
 | .const v => plainV v
 | .global g => decide (g < G)
 | .func _ => true
def constOk (G : Nat) : Operand → Bool
 | .const v => plainV v
 | .global g => decide (g < G)
 | _ => true
def inT (T : List Tmp) : Operand → Bool
 | .tmp t => T.contains t
 | _ => false
def dstIn (T : List Tmp) (d : Option Tmp) : Bool := match d with
 | some d => T.contains d
 | none => true
def escOk (G : Nat) (ls T : List Tmp) (o : Oper) : Bool := match o.op with
 | .move x | .assign x | .nilCheck x | .fieldAddr _ x _ => constOk G x && (!inT T x || dstIn T o.dst)
 | .load _ x => constOk G x
 | .store _ x v => constOk G x && opndOk G T v
 | .box _ v => opndOk G T v && (match o.dst with | some d => !ls.contains d || T.contains d | none => true)
 | .alloc _ => match o.dst with | some d => !ls.contains d || T.contains d | none => true
 | op => op.operands.toList.all (opndOk G T)
def dstOk (n : Nat) (o : Oper) : Bool := match o.dst with
 | some d => decide (d < n)
 | none => true
def codeOk (P : Program) (i : FInfo) (n : Nat) : Code → Bool
 | .region _ ops draw => ops.toList.all (fun o => escOk P.globals.size i.ls i.T o && dstOk n o) && (!draw || drawOk P i.ls ops)
 | .seq a b => codeOk P i n a && codeOk P i n b
 | .cond c a b => constOk P.globals.size c && codeOk P i n a && codeOk P i n b
 | .block _ c => codeOk P i n c
 | .loop c => codeOk P i n c
 | _ => true
def resOk (T : List Tmp) : ResultVar → Bool
 | .tmp t => !T.contains t
 | .cell _ _ => true
def fnOk (P : Program) (i : FInfo) (fn : Func) (c : Code) : Bool :=
 (i.mv.isEmpty || permsOk i.mv c) && codeOk P i fn.ntmps (reC i.mv c) && fn.results.toList.all (resOk i.T) && (fn.name != "runtime.NumGoroutine")
def keep (V : List Tmp) (ρ : Tm) : Tm := fun t => if V.contains t then ρ t else undef
def noFl : Nat → Bool := fun _ => false
noncomputable def acode (P : Program) (i : FInfo) (call : ACallT) : Nat → Code → Tm → Lo → St → Option (Exit × Tm × Lo × St)
 | 0,_,_,_,_ => none
 | _ + 1,.skip,ρ,lo,st => some (.normal,ρ,lo,st)
 | _ + 1,.region _ ops draw,ρ,lo,st =>
  (aany P i.ls call ops (if draw then flOf P ops else noFl) (if draw then ldOf P ops else noFl) ρ lo st).map fun r => (.normal,keep i.V r.1,r.2.1,r.2.2)
 | k + 1,.seq a b,ρ,lo,st => match acode P i call k a ρ lo st with
  | some (.normal,ρ',lo',st') => acode P i call k b ρ' lo' st'
  | r => r
 | k + 1,.cond c a b,ρ,lo,st => match ev ρ c with
  | .bool true => acode P i call k a ρ lo st
  | .bool false => acode P i call k b ρ lo st
  | _ => none
 | k + 1,.block id c,ρ,lo,st => match acode P i call k c ρ lo st with
  | some (.exit id',ρ',lo',st') => if id' = id then some (.normal,ρ',lo',st') else some (.exit id',ρ',lo',st')
  | r => r
 | k + 1,.loop c,ρ,lo,st => match acode P i call k c ρ lo st with
  | some (.normal,ρ',lo',st') => acode P i call k (.loop c) ρ' lo' st'
  | r => r
 | _ + 1,.exit id,ρ,lo,st => some (.exit id,ρ,lo,st)
 | _ + 1,.ret,ρ,lo,st => some (.ret,ρ,lo,st)
 | _ + 1,_,_,_,_ => none
def ares (P : Program) (ρ : Tm) (lo : Lo) (st : St) : ResultVar → Option Value
 | .tmp t => some (ρ t)
 | .cell a t => match ρ a with
  | .pointer (some p) => (rdB lo st p.block p.spot).bind fun cs => aload P t cs p.off
  | _ => none
def isRes : Value → Bool
 | .tuple _ | .chan _ => false
 | _ => true
def aresL (P : Program) (ρ : Tm) (lo : Lo) (st : St) : List ResultVar → Option (List Value)
 | [] => some []
 | r :: rs => (ares P ρ lo st r).bind fun v => if isRes v = true then (aresL P ρ lo st rs).map fun vs => v :: vs else none
def aret : List Value → Value
 | [v] => v
 | vs => .tuple vs.toArray
def enter (V : List Tmp) (args : List Value) : Tm := keep V fun t => args.getD t undef
def lo0 : Lo := ⟨fun _ => none,0⟩
noncomputable def acall (P : Program) (LT : FuncId → FInfo) (ext : String → List Value → St → Option (Value × St)) : Nat → ACallT
 | 0 => fun _ _ _ => none
 | k + 1 => fun f args st => match P.funcs[f]? with
  | none => none
  | some fn => match fn.body with
   | none => ext fn.name args st
   | some c => if fnOk P (LT f) fn c = true ∧ args.length ≤ fn.ntmps then
     match acode P (LT f) (acall P LT ext k) k (reC (LT f).mv c) (enter (LT f).V args) lo0 st with
     | some (.ret,ρ,lo,st') => (aresL P ρ lo st' fn.results.toList).map fun vs => (aret vs,st')
     | some (.normal,ρ,lo,st') => (aresL P ρ lo st' fn.results.toList).map fun vs => (aret vs,st')
     | _ => none
    else if fn.name = "runtime.NumGoroutine" then none else ext fn.name args st
end Go.Proofs.YteabadoaeadcgaaDoor.AM
