import GoSem.Step
import Derived.RangeFuncRecord
import Derived.OrdersIn
import Derived.ChangeKeysEq
import Derived.Laws.StructEq
namespace Go.Den
noncomputable section
inductive Tr (α : Type) where
 | nil
 | node (v : Option α) (l r : Tr α)
namespace Tr
variable {α : Type}
def getS : Tr α → Nat → Option α
 | .nil, _ => none
 | .node v l r, n =>
  match n with
  | 0 => v
  | k + 1 => match k % 2 with
   | 0 => l.getS (k / 2)
   | _ + 1 => r.getS (k / 2)
noncomputable def get (t : Tr α) : Nat → Option α :=
 Tr.rec (motive := fun _ => Nat → Option α) (fun _ => none)
  (fun v _ _ gl gr n => Bool.rec (Bool.rec (gr (Nat.sub (Nat.div n 2) 1)) (gl (Nat.div n 2)) (Nat.beq (Nat.mod n 2) 1)) v (Nat.beq n 0)) t
noncomputable def sing (f : Nat) : Nat → α → Tr α :=
 Nat.rec (motive := fun _ => Nat → α → Tr α) (fun _ _ => .nil)
  (fun _ ih n x => Bool.rec (Bool.rec (.node none .nil (ih (Nat.sub (Nat.div n 2) 1) x)) (.node none (ih (Nat.div n 2) x) .nil) (Nat.beq (Nat.mod n 2) 1)) (.node (some x) .nil .nil) (Nat.beq n 0)) f
noncomputable def set (t : Tr α) : Nat → α → Tr α :=
 Tr.rec (motive := fun _ => Nat → α → Tr α) (fun n x => sing (Nat.succ n) n x)
  (fun v l r sl sr n x => Bool.rec (Bool.rec (.node v l (sr (Nat.sub (Nat.div n 2) 1) x)) (.node v (sl (Nat.div n 2) x) r) (Nat.beq (Nat.mod n 2) 1)) (.node (some x) l r) (Nat.beq n 0)) t
def setF : Nat → Tr α → Nat → Option α → Tr α
 | 0, t, _, _ => t
 | f + 1, t, n, x =>
  match n with
  | 0 => match t with
   | .nil => .node x .nil .nil
   | .node _ l r => .node x l r
  | k + 1 => match t with
   | .nil => match k % 2 with
    | 0 => .node none (setF f .nil (k / 2) x) .nil
    | _ + 1 => .node none .nil (setF f .nil (k / 2) x)
   | .node v l r => match k % 2 with
    | 0 => .node v (setF f l (k / 2) x) r
    | _ + 1 => .node v l (setF f r (k / 2) x)
def del (t : Tr α) (n : Nat) : Tr α := setF (n + 1) t n none
def ofListFrom (l : List α) (i : Nat) (t : Tr α) : Tr α :=
 match l with
 | [] => t
 | a :: r => ofListFrom r (i + 1) (t.set i a)
def ofList (l : List α) : Tr α := ofListFrom l 0 .nil
end Tr
structure TI where
 und : TypeDesc
 size : Nat
 bytes : Nat
 zero : Option Value
structure Ctx where
 ty : Tr TI
 fn : Tr Func
def tiOf (P : Program) (t : TypeId) : Option TI :=
 match P.info? t, P.underlying t with
 | some i, some d => some { und := d, size := i.size, bytes := i.bytes, zero := i.zero }
 | _, _ => none
abbrev Env := Tr Value
structure ALoop where
 state : LoopState
 pending : Option Code
 env : Env
 ntm : Nat
 params : List Tmp
 assign : Code
 body : Code
 defers : Nat
inductive ABlk where
 | cells (cs : List Value) (esz : Nat) (slack ro : Bool)
 | map (es : List MapEntry) (clock : Nat) (ro : Bool)
 | siter (s : ByteArray) (pos : Nat)
 | miter (m : Option Nat) (since : Nat) (seen : List Nat) (stepped : Nat)
 | loop (l : ALoop)
 | defd
structure AHeap where
 blks : Tr ABlk
 base : Nat → Option ABlk
 next : Nat
 low : Nat
def own (b : Nat) : Bool := b % 2 == 0
def AHeap.get (h : AHeap) (b : Nat) : Option ABlk :=
 match b % 2 with
 | 0 => h.blks.get (b / 2)
 | _ + 1 => h.base (b / 2)
def AHeap.put (h : AHeap) (b : Nat) (x : ABlk) : AHeap := { h with blks := h.blks.set (b / 2) x, low := min h.low b }
def AHeap.kill (h : AHeap) (b : Nat) : AHeap := { h with blks := h.blks.del (b / 2), low := min h.low b }
def AHeap.fresh (h : AHeap) : Nat := 2 * h.next
def AHeap.add (h : AHeap) (x : ABlk) : AHeap := { h with blks := h.blks.set h.next x, next := h.next + 1 }
abbrev Out (α : Type) := Option (List α)
def Out.bind {α β : Type} (m : Out α) (f : α → Out β) : Out β :=
 match m with
 | none => none
 | some l => go f l
where
 go (f : α → Out β) : List α → Out β
  | [] => some []
  | a :: r => match r with
   | [] => f a
   | _ :: _ => match f a with
    | none => none
    | some x => match go f r with
     | none => none
     | some y => some (x ++ y)
def constOk : Value → Bool
 | .bool _ | .int _ _ | .string _ | .pointer none | .slice none 0 0 | .map none | .nilFunc | .nilIface => true
 | _ => false
def flat : Value → Bool
 | .bool _ | .int _ _ | .string _ => true
 | .agg cs => cs.toList.all fun | .bool _ | .int _ _ | .string _ => true | _ => false
 | _ => false
def undefV : Value := .tuple #[]
def evalA (e : Env) : Operand → Option Value
 | .tmp t => e.get t
 | .const v => if constOk v then some v else none
 | .global g => if g < 1000 then some (.pointer (some ⟨2 * g + 1, 0, none⟩)) else none
 | .func f => some (.func (.func f) #[] #[])
def sliceIn (cs : List Value) (o n : Nat) : Option (List Value) :=
 let r := (cs.drop o).take n
 if r.length == n then some r else none
def writeAt : List Value → Nat → List Value → Option (List Value)
 | cs, _, [] => some cs
 | [], _, _ :: _ => none
 | c :: cs, o, v :: vs => match o with
  | 0 => match writeAt cs 0 vs with
   | some r => some (v :: r)
   | none => none
  | k + 1 => match writeAt cs k (v :: vs) with
   | some r => some (c :: r)
   | none => none
def isAggD : TypeDesc → Bool
 | .struct _ | .array _ _ => true
 | _ => false
def oneCell : Value → Bool
 | .agg _ | .tuple _ => false
 | _ => true
def loadA (C : Ctx) (h : AHeap) (t : TypeId) (v : Value) : Option Value :=
 match v with
 | .pointer (some ⟨b, o, none⟩) => match h.get b, C.ty.get t with
  | some (.cells cs _ _ _), some i =>
   if isAggD i.und then (sliceIn cs o i.size).map fun l => .agg ⟨l⟩
   else cs[o]?
  | _, _ => none
 | _ => none
def storeA (C : Ctx) (h : AHeap) (t : TypeId) (p v : Value) : Option AHeap :=
 match p with
 | .pointer (some ⟨b, o, none⟩) => match h.get b, C.ty.get t with
  | some (.cells cs z s false), some i =>
   let l := v.cells.toList
   if l.length == i.size && l.all oneCell && own b then
    (writeAt cs o l).map fun cs' => h.put b (.cells cs' z s false)
   else none
  | _, _ => none
 | _ => none
def one (v : Value) (h : AHeap) : Out (Value × AHeap) := some [(v, h)]
def oneO (v : Option Value) (h : AHeap) : Out (Value × AHeap) :=
 match v with
 | some v => some [(v, h)]
 | none => none
def newA (h : AHeap) (cs : List Value) (esz : Nat) (slack : Bool) : Option (Value × AHeap) :=
 if cs.all oneCell then
  some (.pointer (some ⟨h.fresh, 0, none⟩), h.add (.cells cs esz slack false))
 else none
def cmpInt (op : BinOp) (x y : Int) : Option Bool :=
 match op with
 | .eql => some (x == y)
 | .neq => some (x != y)
 | .lss => some (decide (x < y))
 | .leq => some (decide (x ≤ y))
 | .gtr => some (decide (x > y))
 | .geq => some (decide (x ≥ y))
 | _ => none
def byteL : List UInt8 → List UInt8 → Bool
 | [], [] => true
 | a :: x, b :: y => match a.toNat == b.toNat with
  | true => byteL x y
  | false => false
 | _, _ => false
def eqFlat : Value → Value → Option Bool
 | .bool a, .bool b => some (a == b)
 | .int k a, .int k' b => if k = k' then some (a == b) else none
 | .string a, .string b => some (byteL a.data.toList b.data.toList)
 | _, _ => none
def eqFlats : List Value → List Value → Option Bool
 | [], [] => some true
 | x :: xs, y :: ys => match eqFlat x y with
  | some true => eqFlats xs ys
  | some false => some false
  | none => none
 | _, _ => none
end
end Go.Den
namespace Go.Den
noncomputable section
def wrapI (k : IntKind) (n : Int) : Value := .int k (k.wrap n)
def intBin (op : BinOp) (k : IntKind) (x y : Int) : Option Value :=
 match op with
 | .add => some (wrapI k (x + y))
 | .sub => some (wrapI k (x - y))
 | .mul => some (wrapI k (x * y))
 | .quo => if y = 0 then none else some (wrapI k (x.tdiv y))
 | .rem => if y = 0 then none else some (.int k (x.tmod y))
 | .and => some (wrapI k (BitVec.ofInt k.bits x &&& BitVec.ofInt k.bits y).toNat)
 | .or => some (wrapI k (BitVec.ofInt k.bits x ||| BitVec.ofInt k.bits y).toNat)
 | .xor => some (wrapI k (BitVec.ofInt k.bits x ^^^ BitVec.ofInt k.bits y).toNat)
 | .andNot => some (wrapI k (BitVec.ofInt k.bits x &&& ~~~ BitVec.ofInt k.bits y).toNat)
 | op => (cmpInt op x y).map .bool
def strBin (op : BinOp) (x y : ByteArray) : Option Value :=
 match op with
 | .add => if x.size + y.size ≤ 1000000000000 then some (.string (x ++ y)) else none
 | .eql => some (.bool (byteL x.data.toList y.data.toList))
 | .neq => some (.bool (!byteL x.data.toList y.data.toList))
 | .lss => some (.bool (Op.bytesLess x.data.toList y.data.toList))
 | .geq => some (.bool (!Op.bytesLess x.data.toList y.data.toList))
 | .leq => some (.bool (Op.bytesLess x.data.toList y.data.toList || byteL x.data.toList y.data.toList))
 | .gtr => some (.bool (!(Op.bytesLess x.data.toList y.data.toList || byteL x.data.toList y.data.toList)))
 | _ => none
def partA (i : TI) (cs : List Value) (o : Nat) : Option Value :=
 if isAggD i.und then (sliceIn cs o i.size).map fun l => .agg ⟨l⟩ else cs[o]?
def eqFs (C : Ctx) (rec : TypeId → Value → Value → Option Bool) (xs ys : List Value) : List Field → Option Bool
 | [] => some true
 | f :: fs => if f.name == "_" then none else match C.ty.get f.type with
  | some fi => match partA fi xs f.offset, partA fi ys f.offset with
   | some a, some b => match rec f.type a b with
    | some true => eqFs C rec xs ys fs
    | some false => some false
    | none => none
   | _, _ => none
  | none => none
def eqIs (ei : TI) (rec : Value → Value → Option Bool) (xs ys : List Value) : List Nat → Option Bool
 | [] => some true
 | i :: is => match partA ei xs (i * ei.size), partA ei ys (i * ei.size) with
  | some a, some b => match rec a b with
   | some true => eqIs ei rec xs ys is
   | some false => some false
   | none => none
  | _, _ => none
def eqV (P : Program) (C : Ctx) : Nat → TypeId → Value → Value → Option Bool
 | 0, _, _, _ => none
 | d + 1, t, x, y => match C.ty.get t with
  | some i => match i.und, x, y with
   | .bool, .bool a, .bool b => some (a == b)
   | .int _, .int k a, .int k' b => if k = k' then some (a == b) else none
   | .string, .string a, .string b => some (byteL a.data.toList b.data.toList)
   | .struct fs, .agg xs, .agg ys => if P.stoodInHeld t then none else eqFs C (eqV P C d) xs.toList ys.toList fs.toList
   | .array n e, .agg xs, .agg ys => match C.ty.get e with
    | some ei => eqIs ei (eqV P C d e) xs.toList ys.toList (List.range n)
    | none => none
   | _, _, _ => none
  | none => none
def flatC : Value → Bool
 | .bool _ | .int _ _ | .string _ => true
 | _ => false
def eqA (P : Program) (C : Ctx) (t : TypeId) (x y : Value) : Option Bool :=
 match C.ty.get t with
 | some i => match i.und, x, y with
  | .bool, .bool a, .bool b => some (a == b)
  | .pointer _, .pointer none, .pointer b => some b.isNone
  | .pointer _, .pointer (some _), .pointer none => some false
  | .slice _, .slice none _ _, .slice b _ _ => some b.isNone
  | .slice _, .slice (some _) _ _, .slice none _ _ => some false
  | .map _ _, .map none, .map b => some b.isNone
  | .map _ _, .map (some _), .map none => some false
  | .func _ _ _, .nilFunc, .nilFunc => some true
  | .func _ _ _, .nilFunc, .func _ _ _ => some false
  | .func _ _ _, .func _ _ _, .nilFunc => some false
  | _, .agg xs, .agg ys =>
   if xs.toList.all flatC && ys.toList.all flatC then
    (if P.eqGuardType P.depth t then none else eqV P C 20 t (.agg xs) (.agg ys))
   else none
  | _, _, _ => none
 | none => none
def binA (P : Program) (C : Ctx) (op : BinOp) (t : TypeId) (x y : Value) : Option Value :=
 match op, x, y with
 | .shl, .int k a, .int _ b => if b < 0 then none else some (wrapI k (a * 2 ^ (min b.toNat k.bits)))
 | .shr, .int k a, .int _ b => if b < 0 then none else some (.int k (a.fdiv (2 ^ (min b.toNat k.bits))))
 | op, .int k a, .int k' b => if k = k' then intBin op k a b else none
 | op, .string a, .string b => strBin op a b
 | .eql, x, y => (eqA P C t x y).map .bool
 | .neq, x, y => (eqA P C t x y).map fun b => .bool (!b)
 | _, _, _ => none
def intF : BinOp → IntKind → Int → Int → Option Value
 | .add => fun k x y => some (wrapI k (x + y))
 | .sub => fun k x y => some (wrapI k (x - y))
 | .mul => fun k x y => some (wrapI k (x * y))
 | .quo => fun k x y => if y = 0 then none else some (wrapI k (x.tdiv y))
 | .rem => fun k x y => if y = 0 then none else some (.int k (x.tmod y))
 | .eql => fun _ x y => some (.bool (x == y))
 | .neq => fun _ x y => some (.bool (x != y))
 | .lss => fun _ x y => some (.bool (decide (x < y)))
 | .leq => fun _ x y => some (.bool (decide (x ≤ y)))
 | .gtr => fun _ x y => some (.bool (decide (x > y)))
 | .geq => fun _ x y => some (.bool (decide (x ≥ y)))
 | op => fun k x y => intBin op k x y
theorem intF_eq (op : BinOp) (k : IntKind) (x y : Int) : intF op k x y = intBin op k x y := by cases op <;> rfl
def intO : BinOp → IntKind → Int → IntKind → Int → Option Value
 | .shl => fun k a _ b => if b < 0 then none else some (wrapI k (a * 2 ^ (min b.toNat k.bits)))
 | .shr => fun k a _ b => if b < 0 then none else some (.int k (a.fdiv (2 ^ (min b.toNat k.bits))))
 | op => fun k a k' b => if k = k' then intF op k a b else none
def eqO' : BinOp → Program → Ctx → TypeId → Value → Value → Option Value
 | .eql => fun P C t x y => (eqA P C t x y).map .bool
 | .neq => fun P C t x y => (eqA P C t x y).map fun b => .bool (!b)
 | _ => fun _ _ _ _ _ => none
def intY (op : BinOp) (k : IntKind) (a : Int) : Value → Program → Ctx → TypeId → Option Value
 | .int k' b => fun _ _ _ => intO op k a k' b
 | y => fun P C t => eqO' op P C t (.int k a) y
def strY (op : BinOp) (a : ByteArray) : Value → Program → Ctx → TypeId → Option Value
 | .string b => fun _ _ _ => strBin op a b
 | y => fun P C t => eqO' op P C t (.string a) y
def binF (op : BinOp) (y : Value) : Value → Program → Ctx → TypeId → Option Value
 | .int k a => intY op k a y
 | .string a => strY op a y
 | x => fun P C t => eqO' op P C t x y
theorem binF_eq (P : Program) (C : Ctx) (op : BinOp) (t : TypeId) (x y : Value) : binF op y x P C t = binA P C op t x y := by
 cases x with
 | int k a =>
  cases y with
  | int k' b => cases op <;> simp only [binF, intY, intO, binA, intF_eq]
  | _ => cases op <;> rfl
 | string a =>
  cases y with
  | string b => cases op <;> rfl
  | _ => cases op <;> rfl
 | _ => cases op <;> first | rfl | (cases y <;> rfl)
def unA (op : UnOp) (x : Value) : Option Value :=
 match op, x with
 | .neg, .int k n => some (wrapI k (0 - n))
 | .xor, .int k n => intBin .xor k (if k.signed then -1 else k.max) n
 | .not, .bool b => some (.bool (!b))
 | _, _ => none
def convA (C : Ctx) (src dst : TypeId) (x : Value) : Option Value :=
 match C.ty.get src, C.ty.get dst with
 | some _, some d => match d.und, x with
  | .int k, .int _ n => some (wrapI k n)
  | .string, .string s => some (.string s)
  | _, _ => none
 | _, _ => none
def bytesOfL : List Value → Option (List UInt8)
 | [] => some []
 | .int .u8 n :: r => match bytesOfL r with
  | some l => some (UInt8.ofNat n.toNat :: l)
  | none => none
 | _ :: _ => none
def convB (C : Ctx) (h : AHeap) (src dst : TypeId) (x : Value) : Option Value :=
 match C.ty.get src, C.ty.get dst with
 | some s, some d => match s.und, d.und with
  | .slice e, .string => match C.ty.get e with
   | some ei => match ei.und, x with
    | .int .u8, .slice none _ _ => some (.string ⟨⟨[]⟩⟩)
    | .int .u8, .slice (some ⟨b, o, none⟩) n _ => match h.get b with
     | some (.cells cs _ _ _) => match sliceIn cs o n with
      | some l => match bytesOfL l with
       | some bs => some (.string ⟨⟨bs⟩⟩)
       | none => none
      | none => none
     | _ => none
    | _, _ => none
   | none => none
  | _, _ => none
 | _, _ => none
def fieldsAt (C : Ctx) (t : TypeId) (i : Nat) : Option (Field × TI) :=
 match C.ty.get t with
 | some ti => match ti.und with
  | .struct fs => match fs[i]? with
   | some f => match C.ty.get f.type with
    | some fi => some (f, fi)
    | none => none
   | none => none
  | _ => none
 | none => none
def addOff (b o n : Nat) : Value := .pointer (some ⟨b, o + n, none⟩)
def fieldAddrA (C : Ctx) (s : TypeId) (x : Value) (f : Nat) : Option Value :=
 match x, fieldsAt C s f with
 | .pointer (some ⟨b, o, none⟩), some (fd, fi) => if fi.size == 0 then none else some (addOff b o fd.offset)
 | _, _ => none
def fieldA (C : Ctx) (s : TypeId) (x : Value) (f : Nat) : Option Value :=
 match x, fieldsAt C s f with
 | .agg cs, some (fd, fi) => partA fi cs.toList fd.offset
 | _, _ => none
def idx (x : Value) (n : Nat) : Option Nat :=
 match x with
 | .int _ i => if 0 ≤ i ∧ i < n then some i.toNat else none
 | _ => none
def indexAddrA (C : Ctx) (t : TypeId) (x i : Value) : Option Value :=
 match C.ty.get t with
 | some ti => match ti.und, x with
  | .array n e, .pointer (some ⟨b, o, none⟩) => match idx i n, C.ty.get e with
   | some k, some ei => some (addOff b o (k * ei.size))
   | _, _ => none
  | .slice e, .slice (some ⟨b, o, none⟩) n _ => match idx i n, C.ty.get e with
   | some k, some ei => some (addOff b o (k * ei.size))
   | _, _ => none
  | _, _ => none
 | none => none
def indexA (C : Ctx) (t : TypeId) (x i : Value) : Option Value :=
 match C.ty.get t with
 | some ti => match ti.und, x with
  | .array n e, .agg cs => match idx i n, C.ty.get e with
   | some k, some ei => partA ei cs.toList (k * ei.size)
   | _, _ => none
  | .string, .string s => match idx i s.size with
   | some k => match s.data.toList[k]? with
    | some b => some (.int .u8 b.toNat)
    | none => none
   | none => none
  | _, _ => none
 | none => none
def exactCap (h : AHeap) (b o c : Nat) : Bool :=
 match h.get b with
 | some (.cells cs z slack _) => !slack || !(o + c * z == cs.length)
 | _ => false
def eszIs (h : AHeap) (b n : Nat) : Bool :=
 match h.get b with
 | some (.cells _ z _ _) => z == n
 | _ => false
def bound (x : Option Value) (dflt y : Nat) : Option Nat :=
 match x with
 | none => some dflt
 | some (.int _ i) => if 0 ≤ i ∧ i ≤ y then some i.toNat else none
 | some _ => none
def bounds3 (len cap : Nat) (lo hi mx : Option Value) : Option (Nat × Nat × Nat) :=
 match bound mx cap cap with
 | none => none
 | some m => match bound hi len (if mx.isSome then m else cap) with
  | none => none
  | some h => match bound lo 0 h with
   | none => none
   | some l => if (mx.isSome && hi.isNone) || decide (m < l) then none else some (l, h, m)
def sliceA (C : Ctx) (h : AHeap) (t : TypeId) (x : Value) (lo hi mx : Option Value) : Option Value :=
 match C.ty.get t with
 | some ti => match ti.und, x with
  | .array n e, .pointer (some ⟨b, o, none⟩) => match bounds3 n n lo hi mx, C.ty.get e with
   | some (l, hh, m), some ei => some (.slice (some ⟨b, if m == l then o else o + l * ei.size, none⟩) (hh - l) (m - l))
   | _, _ => none
  | .string, .string s => match bounds3 s.size s.size lo hi none with
   | some (l, hh, _) => if mx.isSome then none else some (.string (s.extract l hh))
   | none => none
  | .slice e, .slice (some ⟨b, o, none⟩) n c => match bounds3 n c lo hi mx, C.ty.get e with
   | some (l, hh, m), some ei =>
    if l == 0 then some (.slice (some ⟨b, o, none⟩) (hh - l) (m - l)) else
    if m == l then (if mx.isSome || exactCap h b o c then some (.slice (some ⟨b, o, none⟩) (hh - l) (m - l)) else if hh == l then some (.slice (some ⟨0, 0, some 1⟩) 0 0) else none)
    else if mx.isSome || exactCap h b o c || eszIs h b ei.size then some (.slice (some ⟨b, o + l * ei.size, none⟩) (hh - l) (m - l))
    else none
   | _, _ => none
  | .slice e, .slice none 0 0 => match bounds3 0 0 lo hi mx, C.ty.get e with
   | some _, some _ => some (.slice none 0 0)
   | _, _ => none
  | .slice e, .slice (some ⟨0, 0, some 0⟩) 0 0 => match bounds3 0 0 lo hi mx, C.ty.get e with
   | some _, some _ => some (.slice (some ⟨0, 0, some 0⟩) 0 0)
   | _, _ => none
  | _, _ => none
 | none => none
def fillA : List Value → (Nat → Option (Nat × Nat)) → List (Nat × Value) → Option (List Value)
 | cs, _, [] => some cs
 | cs, place, (i, v) :: rest => match place i with
  | some (o, n) => let l := v.cells.toList
   if l.length == n && n != 0 then match writeAt cs o l with
    | some cs' => fillA cs' place rest
    | none => none
   else none
  | none => none
def evalPs (e : Env) : List (Nat × Operand) → Option (List (Nat × Value))
 | [] => some []
 | (i, x) :: r => match evalA e x with
  | some v => match evalPs e r with
   | some l => some ((i, v) :: l)
   | none => none
  | none => none
def evalL (e : Env) : List Operand → Option (List Value)
 | [] => some []
 | x :: r => match evalA e x with
  | some v => match evalL e r with
   | some l => some (v :: l)
   | none => none
  | none => none
def repl (z : List Value) : Nat → List Value
 | 0 => []
 | n + 1 => z ++ repl z n
def zerosOf (i : TI) : Option (List Value) :=
 match i.zero with
 | some z => let l := z.cells.toList
  if l.length == i.size && l.all constOk then some l else none
 | none => none
def buildA (C : Ctx) (t : TypeId) (ps : List (Nat × Value)) : Option Value :=
 match C.ty.get t with
 | some ti => match zerosOf ti, ti.und with
  | some z, .struct fs => if fs.toList.all (fun f => (C.ty.get f.type).isSome) then
    (fillA z (fun i => match fs[i]? with
     | some f => match C.ty.get f.type with
      | some fi => some (f.offset, fi.size)
      | none => none
     | none => none) ps).map fun l => .agg ⟨l⟩
   else none
  | some z, .array _ e => match C.ty.get e with
   | some ei => (fillA z (fun i => some (i * ei.size, ei.size)) ps).map fun l => .agg ⟨l⟩
   | none => none
  | _, _ => none
 | none => none
def buildSliceA (C : Ctx) (h : AHeap) (t : TypeId) (len : Nat) (ps : List (Nat × Value)) : Option (Value × AHeap) :=
 match C.ty.get t with
 | some ti => match ti.und with
  | .slice e => match C.ty.get e with
   | some ei => if len * ei.size > 2 ^ 24 then none else match zerosOf ei with
    | some z => match fillA (repl z len) (fun i => some (i * ei.size, ei.size)) ps with
     | some cs => if cs.all oneCell then some (.slice (some ⟨h.fresh, 0, none⟩) len len, h.add (.cells cs ei.size false false)) else none
     | none => none
    | none => none
   | none => none
  | _ => none
 | none => none
def makeSliceA (C : Ctx) (h : AHeap) (t : TypeId) (len cap : Value) : Option (Value × AHeap) :=
 match C.ty.get t, len, cap with
 | some ti, .int _ l, .int _ c => match ti.und with
  | .slice e => match C.ty.get e with
   | some ei =>
    if 0 ≤ l ∧ l ≤ c ∧ c ≤ 1000000000000 ∧ ei.bytes * c ≤ 2 ^ 48 then match zerosOf ei with
     | some z => some (.slice (some ⟨h.fresh, 0, none⟩) l.toNat c.toNat, h.add (.cells (repl z c.toNat) ei.size false false))
     | none => none
    else none
   | none => none
  | _ => none
 | _, _, _ => none
def allocA (C : Ctx) (h : AHeap) (t : TypeId) : Option (Value × AHeap) :=
 match C.ty.get t with
 | some ti => match zerosOf ti with
  | some z => newA h z 0 false
  | none => none
 | none => none
def findA (P : Program) (C : Ctx) (kt : TypeId) (k : Value) : List MapEntry → Nat → Option (Option (Nat × MapEntry))
 | [], _ => some none
 | e :: es, i => if !e.key.cells.toList.all flatC then none else match eqV P C 20 kt k e.key with
  | some true => some (some (i, e))
  | some false => findA P C kt k es (i + 1)
  | none => none
def chkFs (C : Ctx) (rec : TypeId → Value → Bool) (xs : List Value) : List Field → Bool
 | [] => true
 | f :: fs => if f.name == "_" then false else match C.ty.get f.type with
  | some fi => match partA fi xs f.offset with
   | some a => rec f.type a && chkFs C rec xs fs
   | none => false
  | none => false
def chkIs (ei : TI) (rec : Value → Bool) (xs : List Value) : List Nat → Bool
 | [] => true
 | i :: is => match partA ei xs (i * ei.size) with
  | some a => rec a && chkIs ei rec xs is
  | none => false
def chkV (C : Ctx) : Nat → TypeId → Value → Bool
 | 0, _, _ => false
 | d + 1, t, x => match C.ty.get t with
  | some i => match i.und, x with
   | .bool, .bool _ => true
   | .int _, .int _ _ => true
   | .string, .string _ => true
   | .struct fs, .agg xs => chkFs C (chkV C d) xs.toList fs.toList
   | .array n e, .agg xs => match C.ty.get e with
    | some ei => chkIs ei (chkV C d e) xs.toList (List.range n)
    | none => false
   | _, _ => false
  | none => false
def keyOk (C : Ctx) (kt : TypeId) (k : Value) : Bool := k.cells.toList.all flatC && chkV C 20 kt k
def sameKey (a b : Value) : Bool :=
 match a, b with
 | .agg xs, .agg ys => (eqFlats xs.toList ys.toList) == some true
 | x, y => (eqFlat x y) == some true
def mapTypes (C : Ctx) (t : TypeId) : Option (TypeId × TypeId) :=
 match C.ty.get t with
 | some ti => match ti.und with
  | .map k e => some (k, e)
  | _ => none
 | none => none
def entriesOf (h : AHeap) (m : Value) : Option (List MapEntry) :=
 match m with
 | .map none => some []
 | .map (some r) => match h.get r with
  | some (.map es _ _) => some es
  | _ => none
 | _ => none
def zeroV (C : Ctx) (t : TypeId) : Option Value :=
 match C.ty.get t with
 | some ti => match ti.zero with
  | some z => if z.cells.toList.all constOk then some z else none
  | none => none
 | none => none
def lookupA (P : Program) (C : Ctx) (h : AHeap) (t : TypeId) (m k : Value) (ok : Bool) : Option Value :=
 match mapTypes C t, entriesOf h m with
 | some (kt, et), some es => if keyOk C kt k then match findA P C kt k es 0 with
   | some (some (_, e)) => some (if ok then .tuple #[e.val, .bool true] else e.val)
   | some none => match zeroV C et with
    | some z => some (if ok then .tuple #[z, .bool false] else z)
    | none => none
   | none => none
  else none
 | _, _ => none
def modE (es : List MapEntry) (i : Nat) (f : MapEntry → MapEntry) : List MapEntry :=
 match es, i with
 | [], _ => []
 | e :: r, 0 => f e :: r
 | e :: r, n + 1 => e :: modE r n f
def mapUpdateA (P : Program) (C : Ctx) (h : AHeap) (t : TypeId) (m k v : Value) : Option AHeap :=
 match mapTypes C t, m with
 | some (kt, _), .map (some r) => match h.get r with
  | some (.map es clock false) => if keyOk C kt k && own r then match findA P C kt k es 0 with
    | some (some (i, e)) => if sameKey e.key k then some (h.put r (.map (modE es i fun e => { e with key := k, val := v }) clock false)) else none
    | some none => some (h.put r (.map (es ++ [{ key := k, val := v, born := clock }]) (clock + 1) false))
    | none => none
   else none
  | _ => none
 | _, _ => none
def mapEntryA (P : Program) (C : Ctx) (h : AHeap) (t : TypeId) (m k : Value) : Option (Value × AHeap) :=
 match mapTypes C t, m with
 | some (kt, et), .map (some r) => match h.get r with
  | some (.map es clock false) => if keyOk C kt k && own r then match findA P C kt k es 0 with
    | some (some (i, e)) => if sameKey e.key k then some (.tuple #[e.val, .int .i64 e.born], h.put r (.map (modE es i fun e => { e with key := k }) clock false)) else none
    | some none => match zeroV C et with
     | some z => some (.tuple #[z, .int .i64 clock], h.put r (.map (es ++ [{ key := k, val := z, born := clock }]) (clock + 1) false))
     | none => none
    | none => none
   else none
  | _ => none
 | _, _ => none
def findBorn (es : List MapEntry) (n : Int) (i : Nat) : Option Nat :=
 match es with
 | [] => none
 | e :: r => if (e.born : Int) == n then some i else findBorn r n (i + 1)
def entryStoreA (h : AHeap) (m s v : Value) : Option AHeap :=
 match m, s with
 | .map (some r), .int _ n => match h.get r with
  | some (.map es clock false) => if own r then match findBorn es n 0 with
    | some i => some (h.put r (.map (modE es i fun e => { e with val := v }) clock false))
    | none => none
   else none
  | _ => none
 | _, _ => none
def rangeA (C : Ctx) (h : AHeap) (t : TypeId) (x : Value) : Option (Value × AHeap) :=
 match C.ty.get t with
 | some ti => match ti.und, x with
  | .string, .string s => some (.pointer (some ⟨h.fresh, 0, none⟩), h.add (.siter s 0))
  | .map _ _, .map none => some (.pointer (some ⟨h.fresh, 0, none⟩), h.add (.miter none 0 [] 0))
  | .map _ _, .map (some m) => match h.get m with
   | some (.map _ clock _) => some (.pointer (some ⟨h.fresh, 0, none⟩), h.add (.miter (some m) clock [] clock))
   | _ => none
  | _, _ => none
 | none => none
def nextA (h : AHeap) (it : Value) (isString : Bool) : Out (Value × AHeap) :=
 match it with
 | .pointer (some ⟨r, 0, none⟩) => match h.get r, isString with
  | some (.siter s pos), true =>
   if !own r then none else if pos < s.size then
    let c := Utf8.decode s pos
    one (.tuple #[.bool true, .int .i64 pos, .int .i32 c.1]) (h.put r (.siter s (pos + c.2)))
   else one (.tuple #[.bool false]) h
  | some (.miter none _ _ _), false => one (.tuple #[.bool false]) h
  | some (.miter (some m) since seen last), false => match h.get m with
   | some (.map es clock _) =>
    if !own r || (!seen.isEmpty && !es.isEmpty && es.all (fun e => decide (e.born ≥ last))) then none else
    let left := es.filter fun e => !seen.contains e.born
    let old := left.filter fun e => decide (e.born < since)
    let new := left.filter fun e => decide (e.born ≥ since)
    let fin : List (Value × AHeap) := if old.isEmpty then [(.tuple #[.bool false], h)] else []
    some (fin ++ (old ++ new).map fun e => (.tuple #[.bool true, e.key, e.val], h.put r (.miter (some m) since (seen ++ [e.born]) clock)))
   | _ => none
  | _, _ => none
 | _ => none
def entryA (h : AHeap) (it : Value) : Option Value :=
 match it with
 | .pointer (some ⟨r, 0, none⟩) => match h.get r with
  | some (.miter (some m) _ seen stepped) => match seen.getLast?, h.get m with
   | some stamp, some (.map es clock _) => if clock != stepped then none else match es.find? (fun e => e.born == stamp) with
    | some e => some (.tuple #[e.key, e.val])
    | none => none
   | _, _ => none
  | _ => none
 | _ => none
def srcCells (h : AHeap) (esz : Nat) (x : Value) (n : Nat) : Option (List Value) :=
 match x with
 | .slice none _ _ => some []
 | .slice (some ⟨b, o, none⟩) _ _ => match h.get b with
  | some (.cells cs _ _ _) => sliceIn cs o (n * esz)
  | _ => none
 | .slice (some ⟨_, _, some _⟩) 0 0 => if n == 0 then some [] else none
 | .string s => some ((s.data.toList.take n).map fun b => .int .u8 b.toNat)
 | _ => none
def srcLen (x : Value) : Option Nat :=
 match x with
 | .slice _ n _ => some n
 | .string s => some s.size
 | _ => none
def newsA (C : Ctx) (h : AHeap) (ei : TI) (xt : TypeId) (x : Value) : Option (Nat × List Value) :=
 match C.ty.get xt with
 | some xi => match xi.und, x with
  | .int _, .int _ l => if 0 ≤ l ∧ l ≤ 1000000000000 then match zerosOf ei with
    | some z => some (l.toNat, repl z l.toNat)
    | none => none
   else none
  | .int _, _ => none
  | _, x => match srcLen x with
   | some n => match srcCells h ei.size x n with
    | some l => if l.length == n * ei.size then some (n, l) else none
    | none => none
   | none => none
 | none => none
def pushA (h : AHeap) (ei : TI) (base : Option Addr) (sl sc n : Nat) (l : List Value) : Option (Value × AHeap) :=
 if sl + n ≤ sc then match base with
  | none => some (.slice none (sl + n) sc, h)
  | some ⟨b, o, none⟩ =>
   if n == 0 then some (.slice (some ⟨b, o, none⟩) (sl + n) sc, h) else if !l.all oneCell then none else match h.get b with
    | some (.cells cs z k false) => if own b then match writeAt cs (o + sl * ei.size) l with
      | some cs' => some (.slice (some ⟨b, o, none⟩) (sl + n) sc, h.put b (.cells cs' z k false))
      | none => none
     else none
    | _ => none
  | _ => none
 else match base with
  | none => if sl == 0 && sc == 0 then some (.slice (some ⟨h.fresh, 0, none⟩) (sl + n) (sl + n), h.add (.cells l ei.size true false)) else none
  | some ⟨b, o, none⟩ => match h.get b with
   | some (.cells cs z slack ro) => match sliceIn cs o (sl * ei.size) with
    | some old =>
     if exactCap h b o sc then some (.slice (some ⟨h.fresh, 0, none⟩) (sl + n) (sl + n), h.add (.cells (old ++ l) ei.size true false))
     else if slack && !ro && o == 0 && z == ei.size && own b && l.all oneCell then
      some (.slice (some ⟨h.fresh, 0, none⟩) (sl + n) (sl + n), (h.kill b).add (.cells (old ++ l) ei.size true false))
     else none
    | none => none
   | _ => none
  | _ => none
def appendA (C : Ctx) (h : AHeap) (tys : List TypeId) (s x : Value) : Option (Value × AHeap) :=
 match tys, s with
 | st :: xt :: _, .slice base sl sc => match C.ty.get st with
  | some ti => match ti.und with
   | .slice e => match C.ty.get e with
    | some ei => match newsA C h ei xt x with
     | some (n, l) =>
      if (2 * (sl + n) + 1000) * ei.bytes > 2 ^ 48 || ei.bytes == 0 || ei.size == 0 || (zerosOf ei).isNone then none
      else pushA h ei base sl sc n l
     | none => none
    | none => none
   | _ => none
  | none => none
 | _, _ => none
def copyA (C : Ctx) (h : AHeap) (tys : List TypeId) (d s : Value) : Option (Value × AHeap) :=
 match tys with
 | [] => none
 | dt :: _ => match C.ty.get dt with
  | some ti => match ti.und with
   | .slice e => match C.ty.get e, d, srcLen s with
    | some ei, .slice base dl _, some sn =>
     let n := min sn dl
     match srcCells h ei.size s n with
     | some l => match base with
      | none => some (.int .i64 n, h)
      | some ⟨b, o, none⟩ => if n == 0 then some (.int .i64 n, h) else if !l.all oneCell then none else match h.get b with
       | some (.cells cs z k false) => if own b then match writeAt cs o l with
         | some cs' => some (.int .i64 n, h.put b (.cells cs' z k false))
         | none => none
        else none
       | _ => none
      | _ => none
     | none => none
    | _, _, _ => none
   | _ => none
  | none => none
def clearA (C : Ctx) (h : AHeap) (tys : List TypeId) (x : Value) : Option (Value × AHeap) :=
 match tys with
 | [] => none
 | t :: _ => match C.ty.get t with
  | some ti => match ti.und, x with
   | .slice e, .slice (some ⟨b, o, none⟩) n _ => if n == 0 then some (undefV, h) else match C.ty.get e, h.get b with
    | some ei, some (.cells cs z k false) => match zerosOf ei with
     | some zs => if own b then match writeAt cs o (repl zs n) with
       | some cs' => some (undefV, h.put b (.cells cs' z k false))
       | none => none
      else none
     | none => none
    | _, _ => none
   | .slice _, .slice none _ _ => some (undefV, h)
   | _, _ => none
  | none => none
def lenA (C : Ctx) (h : AHeap) (tys : List TypeId) (x : Value) : Option Value :=
 match tys with
 | [] => none
 | t :: _ => match C.ty.get t with
  | some ti => match ti.und, x with
   | .string, .string s => some (.int .i64 s.size)
   | .array n _, _ => some (.int .i64 n)
   | .slice _, .slice _ n _ => some (.int .i64 n)
   | .map _ _, .map none => some (.int .i64 0)
   | .map _ _, .map (some r) => match h.get r with
    | some (.map es _ _) => some (.int .i64 es.length)
    | _ => none
   | _, _ => none
  | none => none
def capA (C : Ctx) (h : AHeap) (tys : List TypeId) (x : Value) : Option Value :=
 match tys with
 | [] => none
 | t :: _ => match C.ty.get t with
  | some ti => match ti.und, x with
   | .slice _, .slice none n c => if n == 0 && c == 0 then some (.int .i64 0) else none
   | .slice _, .slice (some ⟨b, o, none⟩) _ c => if exactCap h b o c then some (.int .i64 c) else none
   | .array n _, _ => some (.int .i64 n)
   | _, _ => none
  | none => none
def extremeA (mx : Bool) : List Value → Option Value
 | [] => none
 | .int k x :: r => go k x r
 | _ => none
where
 go (k : IntKind) (x : Int) : List Value → Option Value
  | [] => some (.int k x)
  | .int _ y :: r => go k (if mx then (if y > x then y else x) else (if y < x then y else x)) r
  | _ => none
def biA (C : Ctx) (h : AHeap) (b : Builtin) (tys : List TypeId) (args : List Value) : Option (Value × AHeap) :=
 match b, args with
 | .len, x :: _ => (lenA C h tys x).map fun v => (v, h)
 | .cap, x :: _ => (capA C h tys x).map fun v => (v, h)
 | .append, s :: x :: _ => appendA C h tys s x
 | .copy, d :: s :: _ => copyA C h tys d s
 | .clear, x :: _ => clearA C h tys x
 | .max, l => (extremeA true l).map fun v => (v, h)
 | .min, l => (extremeA false l).map fun v => (v, h)
 | _, _ => none
def opA (P : Program) (C : Ctx) (e : Env) (o : Op) (h : AHeap) : Out (Value × AHeap) :=
 match o with
 | .move x | .assign x => oneO (evalA e x) h
 | .pick c a b => match evalA e c with
  | some (.bool t) => oneO (if t then evalA e a else evalA e b) h
  | _ => none
 | .alloc t => (allocA C h t).map fun r => [r]
 | .box t x => match evalA e x, C.ty.get t with
  | some v, some _ => (newA h v.cells.toList 0 false).map fun r => [r]
  | _, _ => none
 | .build t ps => match evalPs e ps.toList with
  | some l => oneO (buildA C t l) h
  | none => none
 | .buildSlice t n ps => match evalPs e ps.toList with
  | some l => (buildSliceA C h t n l).map fun r => [r]
  | none => none
 | .load t a => match evalA e a with
  | some p => oneO (loadA C h t p) h
  | none => none
 | .store t a x => match evalA e a, evalA e x with
  | some p, some v => (storeA C h t p v).map fun h' => [(undefV, h')]
  | _, _ => none
 | .nilCheck x => match evalA e x with
  | some (.pointer (some a)) => one (.pointer (some a)) h
  | some (.func (.func f) a b) => one (.func (.func f) a b) h
  | some (.func (.yield f) a b) => one (.func (.yield f) a b) h
  | _ => none
 | .binOp op t x y _ => match evalA e x, evalA e y with
  | some a, some b => oneO (binA P C op t a b) h
  | _, _ => none
 | .unOp op _ x => match evalA e x with
  | some v => oneO (unA op v) h
  | none => none
 | .convert s d x => match evalA e x with
  | some v => oneO (match convA C s d v with
   | some u => some u
   | none => convB C h s d v) h
  | none => none
 | .makeFunc fn a b => match fn, evalL e a.toList, evalL e b.toList with
  | .func g, some x, some y => oneO (some (.func (.func g) ⟨x⟩ ⟨y⟩)) h
  | _, _, _ => none
 | .makeMap _ none => (some (.map (some h.fresh), h.add (.map [] 0 false))).map fun r => [r]
 | .makeMap t (some n) => match evalA e n, mapTypes C t with
  | some (.int _ _), some _ => (some (.map (some h.fresh), h.add (.map [] 0 false))).map fun r => [r]
  | _, _ => none
 | .makeSlice t l c => match evalA e l, evalA e c with
  | some a, some b => (makeSliceA C h t a b).map fun r => [r]
  | _, _ => none
 | .slice t x lo hi mx => match evalA e x, evalOpt e lo, evalOpt e hi, evalOpt e mx with
  | some v, some a, some b, some c => oneO (sliceA C h t v a b c) h
  | _, _, _, _ => none
 | .fieldAddr s x f => match evalA e x with
  | some v => oneO (fieldAddrA C s v f) h
  | none => none
 | .field s x f => match evalA e x with
  | some v => oneO (fieldA C s v f) h
  | none => none
 | .indexAddr t x i => match evalA e x, evalA e i with
  | some v, some j => oneO (indexAddrA C t v j) h
  | _, _ => none
 | .index t x i => match evalA e x, evalA e i with
  | some v, some j => oneO (indexA C t v j) h
  | _, _ => none
 | .lookup t m k ok => match evalA e m, evalA e k with
  | some v, some j => oneO (lookupA P C h t v j ok) h
  | _, _ => none
 | .mapUpdate t m k x | .insert t m k x => match evalA e m, evalA e k, evalA e x with
  | some v, some j, some y => (mapUpdateA P C h t v j y).map fun h' => [(undefV, h')]
  | _, _, _ => none
 | .mapEntry t m k => match evalA e m, evalA e k with
  | some v, some j => (mapEntryA P C h t v j).map fun r => [r]
  | _, _ => none
 | .entryStore _ m s x => match evalA e m, evalA e s, evalA e x with
  | some v, some j, some y => (entryStoreA h v j y).map fun h' => [(undefV, h')]
  | _, _, _ => none
 | .range t x => match evalA e x with
  | some v => (rangeA C h t v).map fun r => [r]
  | none => none
 | .next it s => match evalA e it with
  | some v => nextA h v s
  | none => none
 | .entry it => match evalA e it with
  | some v => oneO (entryA h v) h
  | none => none
 | .extract t i => match evalA e t with
  | some (.tuple vs) => oneO vs.toList[i]? h
  | _ => none
 | .call c => match c.callee with
  | .builtin b => match evalL e c.args.toList with
   | some l => (biA C h b c.argTypes.toList l).map fun r => [r]
   | none => none
  | _ => none
 | _ => none
where
 evalOpt (e : Env) : Option Operand → Option (Option Value)
  | none => some none
  | some x => match evalA e x with
   | some v => some (some v)
   | none => none
def opF : Op → Program → Ctx → Env → AHeap → Out (Value × AHeap)
 | .move x => fun _P _C e h => oneO (evalA e x) h
 | .assign x => fun _P _C e h => oneO (evalA e x) h
 | .pick c a b => fun _P _C e h => match evalA e c with
  | some (.bool t) => oneO (if t then evalA e a else evalA e b) h
  | _ => none
 | .alloc t => fun _P C _e h => (allocA C h t).map fun r => [r]
 | .box t x => fun _P C e h => match evalA e x, C.ty.get t with
  | some v, some _ => (newA h v.cells.toList 0 false).map fun r => [r]
  | _, _ => none
 | .build t ps => fun _P C e h => match evalPs e ps.toList with
  | some l => oneO (buildA C t l) h
  | none => none
 | .buildSlice t n ps => fun _P C e h => match evalPs e ps.toList with
  | some l => (buildSliceA C h t n l).map fun r => [r]
  | none => none
 | .load t a => fun _P C e h => match evalA e a with
  | some p => oneO (loadA C h t p) h
  | none => none
 | .store t a x => fun _P C e h => match evalA e a, evalA e x with
  | some p, some v => (storeA C h t p v).map fun h' => [(undefV, h')]
  | _, _ => none
 | .nilCheck x => fun _P _C e h => match evalA e x with
  | some (.pointer (some a)) => one (.pointer (some a)) h
  | some (.func (.func f) a b) => one (.func (.func f) a b) h
  | some (.func (.yield f) a b) => one (.func (.yield f) a b) h
  | _ => none
 | .binOp op t x y _ => fun P C e h => match evalA e x, evalA e y with
  | some a, some b => oneO (binF op b a P C t) h
  | _, _ => none
 | .unOp op _ x => fun _P _C e h => match evalA e x with
  | some v => oneO (unA op v) h
  | none => none
 | .convert s d x => fun _P C e h => match evalA e x with
  | some v => oneO (match convA C s d v with
   | some u => some u
   | none => convB C h s d v) h
  | none => none
 | .makeFunc fn a b => fun _P _C e h => match fn, evalL e a.toList, evalL e b.toList with
  | .func g, some x, some y => oneO (some (.func (.func g) ⟨x⟩ ⟨y⟩)) h
  | _, _, _ => none
 | .makeMap _ none => fun _P _C _e h => (some (.map (some h.fresh), h.add (.map [] 0 false))).map fun r => [r]
 | .makeMap t (some n) => fun _P C e h => match evalA e n, mapTypes C t with
  | some (.int _ _), some _ => (some (.map (some h.fresh), h.add (.map [] 0 false))).map fun r => [r]
  | _, _ => none
 | .makeSlice t l c => fun _P C e h => match evalA e l, evalA e c with
  | some a, some b => (makeSliceA C h t a b).map fun r => [r]
  | _, _ => none
 | .slice t x lo hi mx => fun _P C e h => match evalA e x, opA.evalOpt e lo, opA.evalOpt e hi, opA.evalOpt e mx with
  | some v, some a, some b, some c => oneO (sliceA C h t v a b c) h
  | _, _, _, _ => none
 | .fieldAddr s x f => fun _P C e h => match evalA e x with
  | some v => oneO (fieldAddrA C s v f) h
  | none => none
 | .field s x f => fun _P C e h => match evalA e x with
  | some v => oneO (fieldA C s v f) h
  | none => none
 | .indexAddr t x i => fun _P C e h => match evalA e x, evalA e i with
  | some v, some j => oneO (indexAddrA C t v j) h
  | _, _ => none
 | .index t x i => fun _P C e h => match evalA e x, evalA e i with
  | some v, some j => oneO (indexA C t v j) h
  | _, _ => none
 | .lookup t m k ok => fun P C e h => match evalA e m, evalA e k with
  | some v, some j => oneO (lookupA P C h t v j ok) h
  | _, _ => none
 | .mapUpdate t m k x => fun P C e h => match evalA e m, evalA e k, evalA e x with
  | some v, some j, some y => (mapUpdateA P C h t v j y).map fun h' => [(undefV, h')]
  | _, _, _ => none
 | .insert t m k x => fun P C e h => match evalA e m, evalA e k, evalA e x with
  | some v, some j, some y => (mapUpdateA P C h t v j y).map fun h' => [(undefV, h')]
  | _, _, _ => none
 | .mapEntry t m k => fun P C e h => match evalA e m, evalA e k with
  | some v, some j => (mapEntryA P C h t v j).map fun r => [r]
  | _, _ => none
 | .entryStore _ m s x => fun _P _C e h => match evalA e m, evalA e s, evalA e x with
  | some v, some j, some y => (entryStoreA h v j y).map fun h' => [(undefV, h')]
  | _, _, _ => none
 | .range t x => fun _P C e h => match evalA e x with
  | some v => (rangeA C h t v).map fun r => [r]
  | none => none
 | .next it s => fun _P _C e h => match evalA e it with
  | some v => nextA h v s
  | none => none
 | .entry it => fun _P _C e h => match evalA e it with
  | some v => oneO (entryA h v) h
  | none => none
 | .extract t i => fun _P _C e h => match evalA e t with
  | some (.tuple vs) => oneO vs.toList[i]? h
  | _ => none
 | .call c => fun _P C e h => match c.callee with
  | .builtin b => match evalL e c.args.toList with
   | some l => (biA C h b c.argTypes.toList l).map fun r => [r]
   | none => none
  | _ => none
 | _ => fun _ _ _ _ => none
structure St where
 env : Env
 defs : List Nat
 heap : AHeap
inductive Ex where
 | normal
 | exit (id : Nat)
 | ret
structure Rec where
 code : Option Nat → Nat → Code → St → Out (Ex × St)
 loop : Option Nat → Nat → Code → St → Out (Ex × St)
 call : FuncId → List Value → AHeap → Out (Value × AHeap)
inductive Tgt where
 | fn (f : FuncId) (args : List Value)
 | round (l : Nat) (args : List Value)
def target (e : Env) (c : Call) : Option Tgt :=
 match c.callee with
 | .value f => match evalA e f, evalL e c.args.toList with
  | some (.func (.func g) a b), some l => some (.fn g (a.toList ++ l ++ b.toList))
  | some (.func (.yield l) a _), some args => some (.round l (a.toList ++ args))
  | _, _ => none
 | _ => none
def wantedA (o : Oper) (ops : Array Oper) (e : Env) : Option Bool :=
 match o.guard with
 | none => some true
 | some (j, want) => match ops[j]? with
  | some p => match p.dst with
   | some d => match e.get d with
    | some (.bool b) => some (b == want)
    | some _ => some false
    | none => none
   | none => some false
  | none => some false
def setParams : List Tmp → List Value → Nat → Env → Option Env
 | [], [], _, e => some e
 | t :: ts, v :: vs, n, e => if t < n then setParams ts vs n (e.set t v) else none
 | _, _, _, _ => none
def jumpOf : Ex → Option Code
 | .normal => none
 | .exit id => some (.exit id)
 | .ret => some .ret
def roundA (R : Rec) (l : Nat) (args : List Value) (h : AHeap) : Out (Value × AHeap) :=
 if !own l then none else match h.get l with
 | some (.loop r) => match setParams r.params args r.ntm r.env, r.state with
  | some e, .ready =>
   Out.bind (R.code (some l) r.ntm r.assign ⟨e, [], h⟩) fun (x, s) =>
    match x with
    | .normal => match s.heap.get l with
     | some (.loop r1) => match r1.state with
      | .ready =>
       Out.bind (R.code (some l) r.ntm r.body ⟨s.env, s.defs, s.heap.put l (.loop { r1 with state := .busy })⟩) fun (y, s2) =>
        match s2.heap.get l with
        | some (.loop r2) => one (.bool (jumpOf y).isNone) (s2.heap.put l (.loop { r2 with state := if (jumpOf y).isNone then .ready else .done, pending := jumpOf y }))
        | _ => none
      | _ => none
     | _ => none
    | _ => none
  | _, _ => none
 | _ => none
def putDst (nt : Nat) (o : Oper) (v : Value) (e : Env) : Option Env :=
 match o.dst with
 | none => some e
 | some d => if d < nt then some (e.set d v) else none
def renL (f : Value → Option Value) : List Value → Option (List Value)
 | [] => some []
 | v :: r => match f v, renL f r with
  | some a, some l => some (a :: l)
  | _, _ => none
def renV (τ : Nat → Option Nat) : Nat → Value → Option Value
 | 0, _ => none
 | d + 1, v => match v with
  | .bool b => some (.bool b)
  | .int k n => some (.int k n)
  | .string s => some (.string s)
  | .nilFunc => some .nilFunc
  | .nilIface => some .nilIface
  | .pointer none => some (.pointer none)
  | .pointer (some ⟨b, o, none⟩) => match τ b with
   | some c => some (.pointer (some ⟨c, o, none⟩))
   | none => none
  | .slice none n c => some (.slice none n c)
  | .slice (some ⟨b, o, none⟩) n c => match τ b with
   | some b' => some (.slice (some ⟨b', o, none⟩) n c)
   | none => none
  | .map none => some (.map none)
  | .map (some r) => match τ r with
   | some c => some (.map (some c))
   | none => none
  | .func (.func g) a b => match renL (renV τ d) a.toList, renL (renV τ d) b.toList with
   | some x, some y => some (.func (.func g) ⟨x⟩ ⟨y⟩)
   | _, _ => none
  | .iface t x => match renV τ d x with
   | some y => some (.iface t y)
   | none => none
  | .agg l => match renL (renV τ d) l.toList with
   | some x => some (.agg ⟨x⟩)
   | none => none
  | .tuple l => match renL (renV τ d) l.toList with
   | some x => some (.tuple ⟨x⟩)
   | none => none
  | _ => none
def renEs (f : Value → Option Value) : List MapEntry → Option (List MapEntry)
 | [] => some []
 | e :: r => match f e.key, f e.val, renEs f r with
  | some k, some v, some l => some ({ key := k, val := v, born := e.born } :: l)
  | _, _, _ => none
def renB (τ : Nat → Option Nat) : ABlk → Option ABlk
 | .cells cs z s ro => match renL (renV τ 8) cs with
  | some l => some (.cells l z s ro)
  | none => none
 | .map es cl ro => match renEs (renV τ 8) es with
  | some l => some (.map l cl ro)
  | none => none
 | _ => none
def idsV : Nat → Value → List Nat → List Nat
 | 0, _, acc => acc
 | d + 1, v, acc => match v with
  | .pointer (some a) => a.block :: acc
  | .slice (some a) _ _ => a.block :: acc
  | .map (some r) => r :: acc
  | .func _ a b => a.toList.foldr (idsV d) (b.toList.foldr (idsV d) acc)
  | .iface _ x => idsV d x acc
  | .agg l => l.toList.foldr (idsV d) acc
  | .tuple l => l.toList.foldr (idsV d) acc
  | _ => acc
def idsB : Option ABlk → List Nat → List Nat
 | some (.cells cs _ _ _), acc => cs.foldr (idsV 8) acc
 | some (.map es _ _), acc => es.foldr (fun e acc => idsV 8 e.key (idsV 8 e.val acc)) acc
 | _, acc => acc
def reachGo : Nat → AHeap → Nat → List Nat → Tr Nat → List Nat → List Nat
 | 0, _, _, _, _, l => l
 | f + 1, h, fr, todo, τ, l => match todo with
  | [] => l
  | b :: r => if !own b || Nat.blt b fr then reachGo f h fr r τ l
   else match τ.get (b / 2) with
    | some _ => reachGo f h fr r τ l
    | none => reachGo f h fr (idsB (h.get b) r) (τ.set (b / 2) 0) (b :: l)
def tauOf : List Nat → Nat → Tr Nat → Tr Nat
 | [], _, t => t
 | b :: r, k, t => tauOf r (k + 1) (t.set (b / 2) k)
def renId (fr : Nat) (τ : Tr Nat) (b : Nat) : Option Nat :=
 if !own b || Nat.blt b fr then some b else match τ.get (b / 2) with
  | some k => some (fr + 2 * k)
  | none => none
def collect (ren : Nat → Option Nat) (h : AHeap) : List Nat → Nat → Option (List ABlk)
 | [], _ => some []
 | b :: r, c => match h.get b, ren b with
  | some x, some c' => match renB ren x, collect ren h r (c + 2) with
   | some y, some l => if own b && Nat.beq c' c then some (y :: l) else none
   | _, _ => none
  | _, _ => none
def compact (h : AHeap) (x : Value × AHeap) : Option (Value × List ABlk) :=
 if Nat.ble h.fresh x.2.low then
  let l := (reachGo 1000000 x.2 h.fresh (idsV 8 x.1 []) .nil []).reverse
  let ren := renId h.fresh (tauOf l 0 .nil)
  match renV ren 8 x.1, collect ren x.2 l h.fresh with
  | some v, some ys => some (v, ys)
  | _, _ => none
 else none
def eqO {α : Type} (f : α → α → Bool) : Option α → Option α → Bool
 | none, none => true
 | some a, some b => f a b
 | _, _ => false
def eqLs {α : Type} (f : α → α → Bool) : List α → List α → Bool
 | [], [] => true
 | a :: r, b :: q => f a b && eqLs f r q
 | _, _ => false
def eqAd (a b : Addr) : Bool := match a, b with
 | ⟨b, o, none⟩, ⟨b', o', none⟩ => b == b' && o == o'
 | _, _ => false
def beqV : Nat → Value → Value → Bool
 | 0, _, _ => false
 | d + 1, x, y => match x, y with
  | .bool a, .bool b => a == b
  | .int k a, .int k' b => decide (k = k') && decide (a = b)
  | .string a, .string b => byteL a.data.toList b.data.toList
  | .nilFunc, .nilFunc => true
  | .nilIface, .nilIface => true
  | .pointer a, .pointer b => eqO eqAd a b
  | .slice a n c, .slice b n' c' => eqO eqAd a b && n == n' && c == c'
  | .map a, .map b => eqO (fun a b => a == b) a b
  | .func (.func g) a b, .func (.func g') a' b' => g == g' && eqLs (beqV d) a.toList a'.toList && eqLs (beqV d) b.toList b'.toList
  | .iface t a, .iface t' b => t == t' && beqV d a b
  | .agg l, .agg m => eqLs (beqV d) l.toList m.toList
  | .tuple l, .tuple m => eqLs (beqV d) l.toList m.toList
  | _, _ => false
def beqB : ABlk → ABlk → Bool
 | .cells cs z s ro, .cells cs' z' s' ro' => eqLs (beqV 8) cs cs' && z == z' && s == s' && ro == ro'
 | .map es cl ro, .map es' cl' ro' => eqLs (fun e e' => beqV 8 e.key e'.key && beqV 8 e.val e'.val && e.born == e'.born) es es' && cl == cl' && ro == ro'
 | _, _ => false
def addL (h : AHeap) : List ABlk → AHeap
 | [] => h
 | y :: r => addL (h.add y) r
def callGC (R : Rec) (f : FuncId) (args : List Value) (h : AHeap) : Out (Value × AHeap) :=
 match R.call f args { h with low := h.fresh } with
 | none => none
 | some [] => some []
 | some (x :: r) =>
  let keep : Out (Value × AHeap) := some ((x :: r).map fun y => (y.1, { y.2 with low := min h.low y.2.low }))
  match compact h x with
  | none => keep
  | some (v, ys) =>
   if r.all (fun y => match compact h y with
    | some (v', ys') => beqV 8 v v' && eqLs beqB ys ys'
    | none => false) then some [(v, addL h ys)]
   else keep
def stepOp (P : Program) (C : Ctx) (R : Rec) (nt : Nat) (ops : Array Oper) (o : Oper) (s : St) : Out St :=
 match wantedA o ops s.env with
 | none => none
 | some true =>
  let fin : Value × AHeap → Out St := fun (v, h) => match putDst nt o v s.env with
   | some e => some [⟨e, s.defs, h⟩]
   | none => none
  match o.op with
  | .call c => match c.callee with
   | .builtin _ => Out.bind (opA P C s.env o.op s.heap) fin
   | _ => match target s.env c with
    | some (.fn f args) => Out.bind (callGC R f args s.heap) fin
    | some (.round l args) => Out.bind (roundA R l args s.heap) fin
    | none => none
  | _ => Out.bind (opA P C s.env o.op s.heap) fin
 | some false => match putDst nt o undefV s.env with
  | some e => some [⟨e, s.defs, s.heap⟩]
  | none => none
def callOf : Op → Option Call
 | .call c => some c
 | _ => none
def finS (nt : Nat) (o : Oper) (s : St) (x : Value × AHeap) : Out St := match putDst nt o x.1 s.env with
 | some e => some [⟨e, s.defs, x.2⟩]
 | none => none
def callF (P : Program) (C : Ctx) (R : Rec) (nt : Nat) (o : Oper) (s : St) (c : Call) : Out St := match target s.env c with
 | some (.fn f args) => Out.bind (callGC R f args s.heap) (finS nt o s)
 | some (.round l args) => Out.bind (roundA R l args s.heap) (finS nt o s)
 | none => Out.bind (opF o.op P C s.env s.heap) (finS nt o s)
def stepF (P : Program) (C : Ctx) (R : Rec) (nt : Nat) (ops : Array Oper) (o : Oper) (s : St) : Out St :=
 match wantedA o ops s.env with
 | none => none
 | some true => match callOf o.op with
  | some c => callF P C R nt o s c
  | none => Out.bind (opF o.op P C s.env s.heap) (finS nt o s)
 | some false => match putDst nt o undefV s.env with
  | some e => some [⟨e, s.defs, s.heap⟩]
  | none => none
def seqOps (P : Program) (C : Ctx) (R : Rec) (nt : Nat) (ops : Array Oper) : List Oper → St → Out St
 | [], s => some [s]
 | o :: r, s => Out.bind (stepF P C R nt ops o s) fun s' => seqOps P C R nt ops r s'
def heapFree (C : Ctx) : Op → Bool
 | .move _ | .assign _ | .pick _ _ _ | .binOp _ _ _ _ _ | .unOp _ _ _ | .extract _ _ | .field _ _ _ | .build _ _ | .fieldAddr _ _ _ | .indexAddr _ _ _ | .slice _ _ none _ _ | .makeFunc _ _ _ | .nilCheck _ | .index _ _ _ => true
 | .convert s _ _ => match C.ty.get s with
  | some i => match i.und with
   | .slice _ => false
   | _ => true
  | none => true
 | .call c => match c.callee with
  | .builtin .cap | .builtin .min | .builtin .max => true
  | .builtin .len => match c.argTypes.toList with
   | [t] => match C.ty.get t with
    | some i => match i.und with
     | .slice _ | .string => true
     | _ => false
    | none => false
   | _ => false
  | _ => false
 | _ => false
structure DOp where
 o : Oper
 i : Nat
 bef : Nat
 free : Bool
def befOf (acc : Tr Nat) (o : Oper) : Nat :=
 o.after.toList.foldl (fun s e => if Region.binds .any e then s ||| 2 ^ e.on ||| (acc.get e.on).getD 0 else s) 0
def planGo (C : Ctx) : List Oper → Nat → Tr Nat → Option (List DOp)
 | [], _, _ => some []
 | o :: r, i, acc =>
  if o.after.toList.all (fun e => !Region.binds .any e || Nat.blt e.on i) then
   let b := befOf acc o
   match planGo C r (i + 1) (acc.set i b) with
   | some l => some (⟨o, i, b, heapFree C o.op⟩ :: l)
   | none => none
  else none
def DOp.apart (d e : DOp) : Bool := !(d.i == e.i) && !Nat.testBit d.bef e.i && !Nat.testBit e.bef d.i
inductive Touch where
 | non
 | rng (lo cnt : Nat) (src : Tr ABlk)
 | cell (b : Nat) (x : ABlk)
 | repl (b : Nat) (lo cnt : Nat) (src : Tr ABlk)
 | all
structure HE where
 d : DOp
 pre : AHeap
 t : Touch
structure DS where
 env : Env
 heap : AHeap
 base : AHeap
 hist : List HE
structure DT where
 pre : St
 post : St
 t : Touch
def copyR : Nat → Nat → Tr ABlk → Tr ABlk → Tr ABlk
 | 0, _, _, t => t
 | c + 1, k, s, t => copyR c (k + 1) s (match s.get k with
  | some x => t.set k x
  | none => t.del k)
def viewA (bef : Nat) (base : Tr ABlk) : List HE → Tr ABlk
 | [] => base
 | e :: r => match e.t with
  | .rng k c s => if Nat.testBit bef e.d.i then copyR c k s (viewA bef base r) else viewA bef base r
  | .cell b x => if Nat.testBit bef e.d.i then (viewA bef base r).set (b / 2) x else (viewA bef base r).del (b / 2)
  | .repl b k c s => if Nat.testBit bef e.d.i then copyR c k s ((viewA bef base r).del (b / 2)) else (viewA bef base r).del (b / 2)
  | _ => viewA bef base r
def Touch.has : Touch → Nat → Bool
 | .non, _ => false
 | .rng k c _, b => own b && Nat.ble (2 * k) b && Nat.blt b (2 * (k + c))
 | .cell b' _, b => Nat.beq b b'
 | .repl b' k c _, b => Nat.beq b b' || (own b && Nat.ble (2 * k) b && Nat.blt b (2 * (k + c)))
 | .all, b => own b
def localBlk (e : Env) : Op → Option Nat
 | .load _ a | .store _ a _ => match evalA e a with
  | some (.pointer (some ⟨b, _, none⟩)) => some b
  | _ => none
 | .lookup _ m _ _ | .mapUpdate _ m _ _ | .insert _ m _ _ => match evalA e m with
  | some (.map (some b)) => some b
  | _ => none
 | _ => none
def drawLoc (ds : DS) (d : DOp) (series : Bool) (env : Env) (hs : List HE) : Option (Nat × ABlk) :=
 if d.free || series then none else match localBlk env d.o.op with
  | some b => if own b && Nat.blt b ds.heap.fresh && hs.all (fun e => !e.t.has b) then match ds.heap.get b with
    | some x => some (b, x)
    | none => none
   else none
  | none => none
def drawHeap (ds : DS) (d : DOp) (series : Bool) (loc : Option (Nat × ABlk)) : AHeap :=
 if d.free then ⟨.nil, fun _ => none, ds.heap.next, ds.heap.fresh⟩
 else if series then ⟨ds.heap.blks, ds.heap.base, ds.heap.next, ds.heap.fresh⟩
 else match loc with
  | some (b, x) => ⟨Tr.nil.set (b / 2) x, fun _ => none, ds.heap.next, ds.heap.fresh⟩
  | none => ⟨viewA d.bef ds.base.blks ds.hist, ds.heap.base, ds.heap.next, ds.heap.fresh⟩
def replBlk (e : Env) : Op → Option Nat
 | .call ⟨.builtin .append, args, _⟩ => match args.toList with
  | a :: _ => match evalA e a with
   | some (.slice (some ⟨b, _, none⟩) _ _) => some b
   | _ => none
  | _ => none
 | _ => none
def sameFrom (h h' : AHeap) : Nat → Nat → Bool
 | 0, _ => true
 | n + 1, a => (match h.blks.get a, h'.blks.get a with
  | none, none => true
  | some x, some y => beqB x y
  | _, _ => false) && sameFrom h h' n (a + 1)
def drawStep (P : Program) (C : Ctx) (R : Rec) (nt : Nat) (ops : Array Oper) (all : List DOp) (defs : List Nat) (ds : DS) (d : DOp) : Option (DS × DT) :=
 let us := all.filter d.apart
 let env := us.foldl (fun e u => match u.o.dst with | some t => e.del t | none => e) ds.env
 let series := us.all (·.free)
 let fr := ds.heap.fresh
 let hs := ds.hist.filter fun e => d.apart e.d
 let loc : Option (Nat × ABlk) := drawLoc ds d series env hs
 let heap : AHeap := drawHeap ds d series loc
 let pre : St := ⟨env, defs, heap⟩
 if us.all (fun u => match u.o.dst, d.o.dst with | some t, some t' => !(t == t') | _, _ => true) then
  match stepF P C R nt ops d.o pre with
  | some [s1] =>
   let env' : Option Env := match d.o.dst with
    | none => some ds.env
    | some t => match s1.env.get t with
     | some v => some (ds.env.set t v)
     | none => none
   match env' with
   | none => none
   | some e =>
    let quiet := Nat.ble fr s1.heap.low
    if quiet && Nat.beq s1.heap.next ds.heap.next then
     some (⟨e, ds.heap, ds.base, if d.free then ds.hist else ⟨d, heap, .non⟩ :: ds.hist⟩, ⟨pre, s1, .non⟩)
    else if d.free then none
    else if !Nat.ble ds.heap.next s1.heap.next then none
    else if series then
     let h : AHeap := ⟨s1.heap.blks, ds.heap.base, s1.heap.next, min ds.heap.low s1.heap.low⟩
     some (⟨e, h, h, []⟩, ⟨pre, s1, .all⟩)
    else if quiet then
     let k := ds.heap.next
     let c := s1.heap.next - k
     some (⟨e, ⟨copyR c k s1.heap.blks ds.heap.blks, ds.heap.base, s1.heap.next, ds.heap.low⟩, ds.base, ⟨d, heap, .rng k c s1.heap.blks⟩ :: ds.hist⟩, ⟨pre, s1, .rng k c s1.heap.blks⟩)
    else match loc with
     | some (b, _) => match s1.heap.get b with
      | some x => if Nat.beq s1.heap.next ds.heap.next && hs.all (fun e => (e.pre.get b).isNone) then
        some (⟨e, ⟨ds.heap.blks.set (b / 2) x, ds.heap.base, ds.heap.next, min ds.heap.low b⟩, ds.base, ⟨d, heap, .cell b x⟩ :: ds.hist⟩, ⟨pre, ⟨s1.env, defs, ⟨Tr.nil.set (b / 2) x, fun _ => none, ds.heap.next, b⟩⟩, .cell b x⟩)
       else none
      | none => none
     | none => match replBlk env d.o.op with
      | some b =>
       if own b && Nat.blt b ds.heap.fresh && Nat.ble b s1.heap.low && (heap.get b).isSome && (s1.heap.get b).isNone && sameFrom s1.heap heap (ds.heap.next - (b / 2 + 1)) (b / 2 + 1) && hs.all (fun e => (e.pre.get b).isNone && !e.t.has b) then
        some (⟨e, ⟨copyR (s1.heap.next - ds.heap.next) ds.heap.next s1.heap.blks (ds.heap.blks.del (b / 2)), ds.heap.base, s1.heap.next, min ds.heap.low s1.heap.low⟩, ds.base, ⟨d, heap, .repl b ds.heap.next (s1.heap.next - ds.heap.next) s1.heap.blks⟩ :: ds.hist⟩, ⟨pre, s1, .repl b ds.heap.next (s1.heap.next - ds.heap.next) s1.heap.blks⟩)
       else none
      | none => none
  | _ => none
 else none
def drawGo (P : Program) (C : Ctx) (R : Rec) (nt : Nat) (ops : Array Oper) (all : List DOp) (defs : List Nat) : List DOp → DS → Option (DS × List DT)
 | [], ds => some (ds, [])
 | d :: r, ds => match drawStep P C R nt ops all defs ds d with
  | none => none
  | some (ds', t) => match drawGo P C R nt ops all defs r ds' with
   | none => none
   | some (e, l) => some (e, t :: l)
def drawOps (P : Program) (C : Ctx) (R : Rec) (nt : Nat) (ops : Array Oper) (s : St) : Out St :=
 match planGo C ops.toList 0 .nil with
 | none => none
 | some all => match drawGo P C R nt ops all s.defs all ⟨s.env, s.heap, s.heap, []⟩ with
  | none => none
  | some (ds, _) => some [⟨ds.env, s.defs, ds.heap⟩]
def codeStep (P : Program) (C : Ctx) (R : Rec) (rd : Option Nat) (nt : Nat) (c : Code) (s : St) : Out (Ex × St) :=
 match c with
 | .skip => some [(.normal, s)]
 | .label _ => some [(.normal, s)]
 | .ret => some [(.ret, s)]
 | .exit id => some [(.exit id, s)]
 | .seq a b => Out.bind (R.code rd nt a s) fun (x, s') => match x with
  | .normal => R.code rd nt b s'
  | x => some [(x, s')]
 | .cond c a b => match evalA s.env c with
  | some (.bool t) => R.code rd nt (if t then a else b) s
  | _ => none
 | .block id b => Out.bind (R.code rd nt b s) fun (x, s') => match x with
  | .exit id' => if id' = id then some [(.normal, s')] else some [(.exit id', s')]
  | x => some [(x, s')]
 | .loop b => R.loop rd nt b s
 | .scope b => match rd with
  | none => R.code none nt b s
  | some _ => none
 | .region _ ops false => Out.bind (seqOps P C R nt ops ops.toList s) fun s' => some [(.normal, s')]
 | .region _ ops true => Out.bind (drawOps P C R nt ops s) fun s' => some [(.normal, s')]
 | .rangeFunc f ps asg body => match rd, evalA s.env f with
  | none, some (.func (.func g) a b) =>
   let h1 := s.heap.add .defd
   let dfr := s.heap.fresh
   let l := h1.fresh
    let h2 := h1.add (.loop { state := .ready, pending := none, env := s.env, ntm := nt, params := ps.toList, assign := asg, body, defers := dfr })
    Out.bind (R.call g (a.toList ++ [.func (.yield l) #[] #[]] ++ b.toList) h2) fun (_, h3) =>
     match h3.get l with
     | some (.loop r) =>
      let s' : St := ⟨s.env, dfr :: s.defs, h3.put l (.loop { r with state := .exhausted })⟩
      match r.state, r.pending with
      | .busy, _ => none
      | _, none => some [(.normal, s')]
      | _, some j => R.code rd nt j s'
     | _ => none
  | _, _ => none
 | _ => none
def codeF : Code → Program → Ctx → Rec → Option Nat → Nat → St → Out (Ex × St)
 | .skip => fun _P _C _R _rd _nt s => some [(.normal, s)]
 | .label _ => fun _P _C _R _rd _nt s => some [(.normal, s)]
 | .ret => fun _P _C _R _rd _nt s => some [(.ret, s)]
 | .exit id => fun _P _C _R _rd _nt s => some [(.exit id, s)]
 | .seq a b => fun _P _C R rd nt s => Out.bind (R.code rd nt a s) fun (x, s') => match x with
  | .normal => R.code rd nt b s'
  | x => some [(x, s')]
 | .cond c a b => fun _P _C R rd nt s => match evalA s.env c with
  | some (.bool t) => R.code rd nt (if t then a else b) s
  | _ => none
 | .block id b => fun _P _C R rd nt s => Out.bind (R.code rd nt b s) fun (x, s') => match x with
  | .exit id' => if id' = id then some [(.normal, s')] else some [(.exit id', s')]
  | x => some [(x, s')]
 | .loop b => fun _P _C R rd nt s => R.loop rd nt b s
 | .scope b => fun _P _C R rd nt s => match rd with
  | none => R.code none nt b s
  | some _ => none
 | .region _ ops false => fun P C R _rd nt s => Out.bind (seqOps P C R nt ops ops.toList s) fun s' => some [(.normal, s')]
 | .region _ ops true => fun P C R _rd nt s => Out.bind (drawOps P C R nt ops s) fun s' => some [(.normal, s')]
 | .rangeFunc f ps asg body => fun _P _C R rd nt s => match rd, evalA s.env f with
  | none, some (.func (.func g) a b) =>
   let h1 := s.heap.add .defd
   let dfr := s.heap.fresh
   let l := h1.fresh
    let h2 := h1.add (.loop { state := .ready, pending := none, env := s.env, ntm := nt, params := ps.toList, assign := asg, body, defers := dfr })
    Out.bind (R.call g (a.toList ++ [.func (.yield l) #[] #[]] ++ b.toList) h2) fun (_, h3) =>
     match h3.get l with
     | some (.loop r) =>
      let s' : St := ⟨s.env, dfr :: s.defs, h3.put l (.loop { r with state := .exhausted })⟩
      match r.state, r.pending with
      | .busy, _ => none
      | _, none => some [(.normal, s')]
      | _, some j => R.code rd nt j s'
     | _ => none
  | _, _ => none
 | _ => fun _ _ _ _ _ _ => none
def takeDefs : List Nat → AHeap → Option AHeap
 | [], h => some h
 | d :: r, h => match h.get d with
  | some .defd => if own d then takeDefs r (h.kill d) else none
  | _ => none
def resultsA (C : Ctx) (e : Env) (h : AHeap) : List ResultVar → Option (List Value)
 | [] => some []
 | .tmp t :: r => match evalA e (.tmp t), resultsA C e h r with
  | some v, some l => some (v :: l)
  | _, _ => none
 | .cell a t :: r => match evalA e (.tmp a) with
  | some p => match loadA C h t p, resultsA C e h r with
   | some v, some l => some (v :: l)
   | _, _ => none
  | none => none
def callStep (C : Ctx) (R : Rec) (f : FuncId) (args : List Value) (h : AHeap) : Out (Value × AHeap) :=
 match C.fn.get f with
 | some fn => match fn.body with
  | some c => if args.length ≤ fn.ntmps then
    Out.bind (R.code none fn.ntmps c ⟨Tr.ofList args, [], h⟩) fun (x, s) =>
     match x with
     | .exit _ => none
     | _ => match takeDefs s.defs s.heap with
      | some h' => match resultsA C s.env h' fn.results.toList with
       | some [v] => one v h'
       | some l => one (.tuple ⟨l⟩) h'
       | none => none
      | none => none
   else none
  | none => none
 | none => none
def loopStep (R : Rec) (rd : Option Nat) (nt : Nat) (b : Code) (s : St) : Out (Ex × St) :=
 Out.bind (R.code rd nt b s) fun (x, s') => match x with
  | .normal => R.loop rd nt b s'
  | x => some [(x, s')]
def step (P : Program) (C : Ctx) (R : Rec) : Rec := { code := fun rd nt c s => codeF c P C R rd nt s, loop := loopStep R, call := callStep C R }
theorem zrv (P : Program) (C : Ctx) (e : Env) (o : Op) (h : AHeap) : opF o P C e h = opA P C e o h := by
 cases o with
 | binOp op t x y t' => simp only [opF, opA, binF_eq]
 | _ => first | rfl | (rename_i a; cases a <;> rfl) | (rename_i a b; cases b <;> rfl)
theorem zkX (P : Program) (C : Ctx) (R : Rec) (nt : Nat) (ops : Array Oper) (o : Oper) (s : St) : stepF P C R nt ops o s = stepOp P C R nt ops o s := by
 unfold stepF stepOp;split <;> try rfl
 obtain ⟨dst, op, ty, pos, after, guard⟩ := o;have hf : finS nt ⟨dst, op, ty, pos, after, guard⟩ s = fun x => match putDst nt ⟨dst, op, ty, pos, after, guard⟩ x.1 s.env with | some e => some [⟨e, s.defs, x.2⟩] | none => none := rfl
 cases op with
 | call c =>
  simp only [callOf, callF, zrv, hf]
  cases hc : c.callee with
  | builtin b =>
   have ht : target s.env c = none := by simp [target, hc]
   simp only [ht]
  | value f =>
   cases ht : target s.env c with
   | none =>
    have : opA P C s.env (.call c) s.heap = none := by simp [opA, hc]
    simp only [this]; rfl
   | some x => cases x <;> rfl
  | invoke a b =>
   have ht : target s.env c = none := by simp [target, hc]
   have : opA P C s.env (.call c) s.heap = none := by simp [opA, hc]
   simp only [ht, this]; rfl
 | _ => simp only [callOf, zrv, hf]
theorem codeF_eq (P : Program) (C : Ctx) (R : Rec) (rd : Option Nat) (nt : Nat) (c : Code) (s : St) : codeF c P C R rd nt s = codeStep P C R rd nt c s := by
 cases c <;> first | rfl | (rename_i a b d; cases d <;> rfl)
end
end Go.Den
namespace Go.Den
namespace Tr
variable {α : Type}
theorem zrB (t : Tr α) : ∀ n, t.get n = t.getS n := by
 induction t with
 | nil => intro n; simp [get, getS]
 | node v l r ihl ihr =>
  intro n;have e : (Tr.node v l r).get n = Bool.rec (Bool.rec (r.get (Nat.sub (Nat.div n 2) 1)) (l.get (Nat.div n 2)) (Nat.beq (Nat.mod n 2) 1)) v (Nat.beq n 0) := rfl;rw [e]
  cases n with
  | zero => rfl
  | succ k =>
   have h0 : Nat.beq (k + 1) 0 = false := rfl;rw [h0];simp only [getS];have hd : ∀ a b : Nat, Nat.div a b = a / b := fun _ _ => rfl
   have hm : ∀ a b : Nat, Nat.mod a b = a % b := fun _ _ => rfl
   have hs : ∀ a b : Nat, Nat.sub a b = a - b := fun _ _ => rfl
   rw [hd, hm, hs, ihl, ihr];rcases Nat.mod_two_eq_zero_or_one k with h | h
   ·have h1 : (k + 1) % 2 = 1 := by omega
    rw [h1, h];show l.getS ((k + 1) / 2) = l.getS (k / 2)
    congr 1; omega
   ·have h1 : (k + 1) % 2 = 0 := by omega
    rw [h1, h];show r.getS ((k + 1) / 2 - 1) = r.getS (k / 2)
    congr 1; omega
theorem zbS (n : Nat) : (Tr.nil : Tr α).get n = none := rfl
theorem zpY (t : Tr α) : ∀ (n : Nat) (x : α) (f : Nat), n < f → t.set n x = setF f t n (some x) := by
 have hd : ∀ a b : Nat, Nat.div a b = a / b := fun _ _ => rfl
 have hm : ∀ a b : Nat, Nat.mod a b = a % b := fun _ _ => rfl
 have hs : ∀ a b : Nat, Nat.sub a b = a - b := fun _ _ => rfl
 have hsing : ∀ (f n : Nat) (x : α), n < f → sing f n x = setF f .nil n (some x) := by
  intro f
  induction f with
  | zero => intro n x h; omega
  | succ f ih =>
   intro n x h;have e : sing (f + 1) n x = Bool.rec (Bool.rec (.node none .nil (sing f (Nat.sub (Nat.div n 2) 1) x)) (.node none (sing f (Nat.div n 2) x) .nil) (Nat.beq (Nat.mod n 2) 1)) (.node (some x) .nil .nil) (Nat.beq n 0) := rfl;rw [e]
   cases n with
   | zero => rfl
   | succ k =>
    have h0 : Nat.beq (k + 1) 0 = false := rfl;rw [h0, hd, hm, hs];rcases Nat.mod_two_eq_zero_or_one k with hk | hk
    ·have h1 : (k + 1) % 2 = 1 := by omega
     have h2 : (k + 1) / 2 = k / 2 := by omega
     simp only [setF, hk];rw [h1, h2, ← ih _ _ (by omega)]; rfl
    ·have h1 : (k + 1) % 2 = 0 := by omega
     have h2 : (k + 1) / 2 - 1 = k / 2 := by omega
     simp only [setF, hk];rw [h1, h2, ← ih _ _ (by omega)]; rfl
 have hmono : ∀ (f f' : Nat) (t : Tr α) (n : Nat) (x : Option α), n < f → n < f' → setF f t n x = setF f' t n x := by
  intro f
  induction f with
  | zero => intro f' t n x h; omega
  | succ f ih =>
   intro f' t n x h h'
   cases f' with
   | zero => omega
   | succ f' =>
    cases n with
    | zero => rfl
    | succ k =>
     have hk := ih f' .nil (k / 2) x (by omega) (by omega)
     cases t with
     | nil => simp only [setF, hk]
     | node v l r => simp only [setF, ih f' l (k / 2) x (by omega) (by omega), ih f' r (k / 2) x (by omega) (by omega)]
 induction t with
 | nil =>
  intro n x f h;show sing (n + 1) n x = _;rw [hsing _ _ _ (Nat.lt_succ_self n)]
  exact hmono _ _ _ _ _ (Nat.lt_succ_self n) h
 | node v l r ihl ihr =>
  intro n x f h;have e : (Tr.node v l r).set n x = Bool.rec (Bool.rec (.node v l (r.set (Nat.sub (Nat.div n 2) 1) x)) (.node v (l.set (Nat.div n 2) x) r) (Nat.beq (Nat.mod n 2) 1)) (.node (some x) l r) (Nat.beq n 0) := rfl;rw [e]
  cases f with
  | zero => omega
  | succ f =>
   cases n with
   | zero => rfl
   | succ k =>
    have h0 : Nat.beq (k + 1) 0 = false := rfl;rw [h0, hd, hm, hs];rcases Nat.mod_two_eq_zero_or_one k with hk | hk
    ·have h1 : (k + 1) % 2 = 1 := by omega
     have h2 : (k + 1) / 2 = k / 2 := by omega
     simp only [setF, hk];rw [h1, h2, ← ihl _ _ f (by omega)]; rfl
    ·have h1 : (k + 1) % 2 = 0 := by omega
     have h2 : (k + 1) / 2 - 1 = k / 2 := by omega
     simp only [setF, hk];rw [h1, h2, ← ihr _ _ f (by omega)]; rfl
theorem zo3 (f : Nat) : ∀ (t : Tr α) (n : Nat) (x : Option α) (m : Nat), n < f → (setF f t n x).getS m = if m = n then x else t.getS m := by
 induction f with
 | zero => intro t n x m h; omega
 | succ f ih =>
  intro t n x m h
  cases n with
  | zero =>
   cases t with
   | nil => cases m with
    | zero => simp [setF, getS]
    | succ m =>
     simp only [setF, getS];have : ¬ (m + 1 = 0) := by omega
     simp only [this, if_false]
     cases m % 2 <;> rfl
   | node v l r => cases m with
    | zero => simp [setF, getS]
    | succ m =>
     have : ¬ (m + 1 = 0) := by omega
     simp only [setF, getS, this, if_false]
  | succ k =>
   have hk : k / 2 < f := by omega
   have hmod : k % 2 < 2 := Nat.mod_lt _ (by omega)
   cases m with
   | zero =>
    have : ¬ (0 = k + 1) := by omega
    simp only [this, if_false]
    cases t with
    | nil => cases hkm : k % 2 <;> simp [setF, getS, hkm]
    | node v l r => cases hkm : k % 2 <;> simp [setF, getS, hkm]
   | succ m =>
    have hmm : m % 2 < 2 := Nat.mod_lt _ (by omega);by_cases hmk : m % 2 = k % 2
    ·have e' : (m = k) ↔ (m / 2 = k / 2) := by omega
     cases t with
     | nil =>
      cases hkm : k % 2 <;> simp only [setF, getS, hkm, hmk] <;> rw [ih _ _ _ _ hk] <;> simp only [getS] <;> simp [e']
     | node v l r =>
      cases hkm : k % 2 <;> simp only [setF, getS, hkm, hmk] <;> rw [ih _ _ _ _ hk] <;> simp [e']
    ·have ne : ¬ (m + 1 = k + 1) := by omega
     simp only [ne, if_false]
     cases t with
     | nil =>
      cases hkm : k % 2 <;> cases hm2 : m % 2 <;> simp [setF, getS, hkm, hm2] <;> omega
     | node v l r =>
      cases hkm : k % 2 <;> cases hm2 : m % 2 <;> simp [setF, getS, hkm, hm2] <;> omega
theorem zlu (f : Nat) (t : Tr α) (n : Nat) (x : Option α) (m : Nat) (h : n < f) : (setF f t n x).get m = if m = n then x else t.get m := by
 rw [zrB, zrB]; exact zo3 f t n x m h
theorem zaT (t : Tr α) (n m : Nat) (x : α) : (t.set n x).get m = if m = n then some x else t.get m := by
 rw [zpY t n x (n + 1) (Nat.lt_succ_self n)];exact zlu (n + 1) t n (some x) m (Nat.lt_succ_self n)
theorem zcR (t : Tr α) (n m : Nat) : (t.del n).get m = if m = n then none else t.get m :=
 zlu (n + 1) t n none m (by omega)
theorem zhs (l : List α) : ∀ (i : Nat) (t : Tr α) (m : Nat), (ofListFrom l i t).get m = if i ≤ m ∧ m < i + l.length then l[m - i]? else t.get m := by
 induction l with
 | nil => intro i t m; simp only [ofListFrom, List.length_nil]; rw [if_neg (by omega)]
 | cons a l ih =>
  intro i t m;simp only [ofListFrom];rw [ih];simp only [zaT, List.length_cons];by_cases h1 : m = i
  ·subst h1;rw [if_neg (by omega), if_pos rfl, if_pos (by omega)]; simp
  ·by_cases h2 : i + 1 ≤ m ∧ m < i + 1 + l.length
   ·rw [if_pos h2, if_pos (by omega)];have : m - i = (m - (i + 1)) + 1 := by omega
    rw [this]; simp
   ·rw [if_neg h2, if_neg h1, if_neg (by omega)]
theorem zcs (l : List α) (m : Nat) : (ofList l).get m = l[m]? := by
 unfold ofList;rw [zhs];by_cases h : m < l.length
 ·rw [if_pos (by omega)]; simp
 ·rw [if_neg (by omega), zbS]; simp; omega
end Tr
theorem zao {b : Nat} : own b = true ↔ b % 2 = 0 := by simp [own]
theorem AHeap.get_put (h : AHeap) (b : Nat) (x : ABlk) (c : Nat) (hb : own b = true) : (h.put b x).get c = if c = b then some x else h.get c := by
 rw [zao] at hb;unfold AHeap.get AHeap.put;simp only [Tr.zaT]
 cases hc : c % 2 with
 | zero =>
  by_cases e : c = b
  ·subst e; simp
  ·rw [if_neg e]; show (if c / 2 = b / 2 then some x else h.blks.get (c / 2)) = _; rw [if_neg (by omega)]
 | succ k =>
  have e : ¬ c = b := by omega
  rw [if_neg e]
theorem AHeap.get_kill (h : AHeap) (b c : Nat) (hb : own b = true) : (h.kill b).get c = if c = b then none else h.get c := by
 rw [zao] at hb;unfold AHeap.get AHeap.kill;simp only [Tr.zcR]
 cases hc : c % 2 with
 | zero =>
  by_cases e : c = b
  ·subst e; simp
  ·rw [if_neg e]; show (if c / 2 = b / 2 then none else h.blks.get (c / 2)) = _; rw [if_neg (by omega)]
 | succ k =>
  have e : ¬ c = b := by omega
  rw [if_neg e]
theorem AHeap.get_add (h : AHeap) (x : ABlk) (c : Nat) : (h.add x).get c = if c = h.fresh then some x else h.get c := by
 unfold AHeap.get AHeap.add AHeap.fresh;simp only [Tr.zaT]
 cases hc : c % 2 with
 | zero =>
  by_cases e : c = 2 * h.next
  ·subst e; simp
  ·rw [if_neg e]; show (if c / 2 = h.next then some x else h.blks.get (c / 2)) = _; rw [if_neg (by omega)]
 | succ k =>
  have e : ¬ c = 2 * h.next := by omega
  rw [if_neg e]
theorem zby (h : AHeap) : own h.fresh = true := by rw [zao]; unfold AHeap.fresh; omega
structure Kept (H H' : AHeap) : Prop where
 low : H'.low ≤ H.low
 get : ∀ b, b % 2 = 1 ∨ (b < H.fresh ∧ b < H'.low) → H'.get b = H.get b
theorem Kept.refl (H : AHeap) : Kept H H := ⟨Nat.le_refl _, fun _ _ => rfl⟩
theorem Kept.trans {H H₁ H₂ : AHeap} (h : Kept H H₁) (hf : H.fresh ≤ H₁.fresh) (k : Kept H₁ H₂) : Kept H H₂ := by
 refine ⟨Nat.le_trans k.low h.low, fun b hb => ?_⟩;have := k.low;rw [k.get b (hb.imp id fun h => ⟨by omega, h.2⟩), h.get b (hb.imp id fun h => ⟨h.1, by omega⟩)]
theorem Kept.add (H : AHeap) (x : ABlk) : Kept H (H.add x) := by
 refine ⟨Nat.le_refl _, fun b hb => ?_⟩;rw [AHeap.get_add, if_neg];intro e; subst e;have := zao.1 (zby H);omega
theorem Kept.put (H : AHeap) {b : Nat} (x : ABlk) (hb : own b = true) : Kept H (H.put b x) := by
 refine ⟨Nat.min_le_left _ _, fun c hc => ?_⟩;rw [AHeap.get_put _ _ _ _ hb, if_neg];intro e; subst e;have := zao.1 hb;rcases hc with h | ⟨_, h⟩
 ·omega
 ·have h2 : (H.put c x).low ≤ c := Nat.min_le_right _ _;omega
theorem Kept.kill (H : AHeap) {b : Nat} (hb : own b = true) : Kept H (H.kill b) := by
 refine ⟨Nat.min_le_left _ _, fun c hc => ?_⟩;rw [AHeap.get_kill _ _ _ hb, if_neg];intro e; subst e;have := zao.1 hb;rcases hc with h | ⟨_, h⟩
 ·omega
 ·have h2 : (H.kill c).low ≤ c := Nat.min_le_right _ _;omega
end Go.Den
namespace Go.Den
inductive All2 {α β : Type} (R : α → β → Prop) : List α → List β → Prop where
 | nil : All2 R [] []
 | cons {a : α} {b : β} {l : List α} {m : List β} : R a b → All2 R l m → All2 R (a :: l) (b :: m)
namespace All2
variable {α β : Type} {R : α → β → Prop}
theorem length {l : List α} {m : List β} (h : All2 R l m) : l.length = m.length := by
 induction h with
 | nil => rfl
 | cons _ _ ih => simp [ih]
theorem imp {S : α → β → Prop} {l : List α} {m : List β} (hi : ∀ a b, R a b → S a b) (h : All2 R l m) : All2 S l m := by
 induction h with
 | nil => exact .nil
 | cons h _ ih => exact .cons (hi _ _ h) ih
theorem append {l l' : List α} {m m' : List β} (h : All2 R l m) (h' : All2 R l' m') : All2 R (l ++ l') (m ++ m') := by
 induction h with
 | nil => exact h'
 | cons h _ ih => exact .cons h ih
theorem get {l : List α} {m : List β} (h : All2 R l m) : ∀ {i : Nat} {a : α}, l[i]? = some a → ∃ b, m[i]? = some b ∧ R a b := by
 induction h with
 | nil => intro i a h; simp at h
 | cons h _ ih =>
  intro i a hi
  cases i with
  | zero => simp at hi; subst hi; exact ⟨_, rfl, h⟩
  | succ i => simp at hi; simpa using ih hi
theorem mk {l : List α} {m : List β} (hl : l.length = m.length) (h : ∀ (i : Nat) (a : α), l[i]? = some a → ∃ b, m[i]? = some b ∧ R a b) : All2 R l m := by
 induction l generalizing m with
 | nil => cases m with
  | nil => exact .nil
  | cons _ _ => simp at hl
 | cons a l ih => cases m with
  | nil => simp at hl
  | cons b m =>
   obtain ⟨b', hb, hr⟩ := h 0 a rfl;simp at hb; subst hb;exact .cons hr (ih (by simpa using hl) fun i a' hi => by simpa using h (i + 1) a' (by simpa using hi))
theorem zkg {R : α → α → Prop} : ∀ {l : List α}, (∀ a ∈ l, R a a) → All2 R l l
 | [], _ => .nil
 | a :: l, h => .cons (h a (by simp)) (zkg fun b hb => h b (by simp [hb]))
theorem drop {l : List α} {m : List β} (n : Nat) (h : All2 R l m) : All2 R (l.drop n) (m.drop n) := by
 induction h generalizing n with
 | nil => simp; exact .nil
 | cons h hs ih => cases n with
  | zero => exact .cons h hs
  | succ n => simpa using ih n
theorem take {l : List α} {m : List β} (n : Nat) (h : All2 R l m) : All2 R (l.take n) (m.take n) := by
 induction h generalizing n with
 | nil => simp; exact .nil
 | cons h hs ih => cases n with
  | zero => simp; exact .nil
  | succ n => simp; exact .cons h (ih n)
end All2
structure BI where
 real : Nat
 rsize : Nat
 shift : Nat
 size : Nat
 esz : Nat
 slack : Bool
abbrev Ga := Nat → Option BI
def CapR (i : BI) (o c c' : Nat) : Prop :=
 c' = c ∨ (i.slack = true ∧ o + c * i.esz = i.size ∧ c ≤ c' ∧ i.shift + o + c' * i.esz ≤ i.rsize)
inductive VR (Γ : Ga) : Value → Value → Prop where
 | bool (b : Bool) : VR Γ (.bool b) (.bool b)
 | int (k : IntKind) (n : Int) : VR Γ (.int k n) (.int k n)
 | string (s : ByteArray) : VR Γ (.string s) (.string s)
 | ptrN : VR Γ (.pointer none) (.pointer none)
 | ptr {b o : Nat} {i : BI} (h : Γ b = some i) : VR Γ (.pointer (some ⟨b, o, none⟩)) (.pointer (some ⟨i.real, i.shift + o, none⟩))
 | sliceN (n c : Nat) : VR Γ (.slice none n c) (.slice none n c)
 | sliceZ (a : Addr) : VR Γ (.slice (some ⟨0, 0, some 0⟩) 0 0) (.slice (some a) 0 0)
 | sliceE (a : Addr) (c : Nat) : VR Γ (.slice (some ⟨0, 0, some 1⟩) 0 0) (.slice (some a) 0 c)
 | slice {b o n c c' : Nat} {i : BI} (h : Γ b = some i) (hc : CapR i o c c') :
   VR Γ (.slice (some ⟨b, o, none⟩) n c) (.slice (some ⟨i.real, i.shift + o, none⟩) n c')
 | mapN : VR Γ (.map none) (.map none)
 | map {r : Nat} {i : BI} (h : Γ r = some i) : VR Γ (.map (some r)) (.map (some i.real))
 | func {g : FuncId} {a a' b b' : List Value} : All2 (VR Γ) a a' → All2 (VR Γ) b b' → VR Γ (.func (.func g) ⟨a⟩ ⟨b⟩) (.func (.func g) ⟨a'⟩ ⟨b'⟩)
 | yield {l : Nat} {i : BI} {a a' b b' : List Value} (h : Γ l = some i) : All2 (VR Γ) a a' → All2 (VR Γ) b b' →
   VR Γ (.func (.yield l) ⟨a⟩ ⟨b⟩) (.func (.yield i.real) ⟨a'⟩ ⟨b'⟩)
 | nilFunc : VR Γ .nilFunc .nilFunc
 | nilIface : VR Γ .nilIface .nilIface
 | iface {t : TypeId} {v v' : Value} : VR Γ v v' → VR Γ (.iface t v) (.iface t v')
 | agg {l l' : List Value} : All2 (VR Γ) l l' → VR Γ (.agg ⟨l⟩) (.agg ⟨l'⟩)
 | tuple {l l' : List Value} : All2 (VR Γ) l l' → VR Γ (.tuple ⟨l⟩) (.tuple ⟨l'⟩)
def Ga.le (Γ Γ' : Ga) : Prop := ∀ b i, Γ b = some i → Γ' b = some i
theorem Ga.le.refl (Γ : Ga) : Ga.le Γ Γ := fun _ _ h => h
theorem VR.mono {Γ Γ' : Ga} (hle : Ga.le Γ Γ') {v v' : Value} (h : VR Γ v v') : VR Γ' v v' := by
 refine VR.rec (motive_1 := fun v v' _ => VR Γ' v v') (motive_2 := fun l l' _ => All2 (VR Γ') l l')
  ?_ ?_ ?_ ?_ ?_ ?_ ?_ ?_ ?_ ?_ ?_ ?_ ?_ ?_ ?_ ?_ ?_ ?_ ?_ ?_ h
 ·exact fun b => .bool b
 ·exact fun k n => .int k n
 ·exact fun s => .string s
 ·exact .ptrN
 ·exact fun h => .ptr (hle _ _ h)
 ·exact fun n c => .sliceN n c
 ·exact fun a => .sliceZ a
 ·exact fun a c => .sliceE a c
 ·exact fun h hc => .slice (hle _ _ h) hc
 ·exact .mapN
 ·exact fun h => .map (hle _ _ h)
 ·exact fun _ _ h1 h2 => .func h1 h2
 ·exact fun h _ _ h1 h2 => .yield (hle _ _ h) h1 h2
 ·exact .nilFunc
 ·exact .nilIface
 ·exact fun _ h => .iface h
 ·exact fun _ h => .agg h
 ·exact fun _ h => .tuple h
 ·exact .nil
 ·exact fun _ _ h1 h2 => .cons h1 h2
theorem VR.const {Γ : Ga} {v : Value} (h : constOk v = true) : VR Γ v v := by
 unfold constOk at h;split at h <;> first | constructor | simp at h
theorem VR.undef {Γ : Ga} : VR Γ undefV undefV := .tuple .nil
theorem VR.oneCell {Γ : Ga} {v v' : Value} (h : VR Γ v v') : Den.oneCell v = Den.oneCell v' := by cases h <;> rfl
theorem VR.cells {Γ : Ga} {v v' : Value} (h : VR Γ v v') : All2 (VR Γ) v.cells.toList v'.cells.toList := by
 cases h with
 | agg h => exact h
 | _ => exact .cons (by constructor <;> assumption) .nil
theorem zmQ (v : Value) : Den.oneCell v = v.oneCell' := by cases v <;> rfl
theorem VR.flatC {Γ : Ga} {v v' : Value} (h : VR Γ v v') (hf : Den.flatC v = true) : v' = v := by
 cases h <;> simp [Den.flatC] at hf <;> rfl
theorem VR.flatL {Γ : Ga} {l l' : List Value} (h : All2 (VR Γ) l l') (hf : l.all Den.flatC = true) : l' = l := by
 induction h with
 | nil => rfl
 | cons h _ ih => simp at hf; rw [h.flatC hf.1, ih (by simpa using hf.2)]
def Glob (Γ : Ga) : Prop := ∀ g, g < 1000 → ∃ i, Γ (2 * g + 1) = some i ∧ i.real = g ∧ i.shift = 0 ∧ i.rsize = i.size
theorem Glob.mono {Γ Γ' : Ga} (hle : Ga.le Γ Γ') (h : Glob Γ) : Glob Γ' := fun g hg => let ⟨i, h1, h2⟩ := h g hg; ⟨i, hle _ _ h1, h2⟩
structure EnvR (Γ : Ga) (e : Env) (n : Nat) (tmps : Array Value) : Prop where
 size : tmps.size = n
 glob : Glob Γ
 val : ∀ t v, e.get t = some v → VR Γ v (tmps.getD t undef)
theorem EnvR.mono {Γ Γ' : Ga} (hle : Ga.le Γ Γ') {e : Env} {n : Nat} {tmps : Array Value} (h : EnvR Γ e n tmps) : EnvR Γ' e n tmps :=
 ⟨h.size, h.glob.mono hle, fun t v hv => (h.val t v hv).mono hle⟩
theorem EnvR.set {Γ : Ga} {e : Env} {n : Nat} {tmps : Array Value} {d : Nat} {v v' : Value} (h : EnvR Γ e n tmps) (_hd : d < n) (hv : VR Γ v v') :
  EnvR Γ (e.set d v) n (tmps.setIfInBounds d v') := by
 refine ⟨by simp [h.size], h.glob, fun t u hu => ?_⟩;rw [Tr.zaT] at hu;by_cases ht : t = d
 ·subst ht;rw [if_pos rfl] at hu;cases hu;have : t < tmps.size := by rw [h.size]; exact _hd
  simpa [this] using hv
 ·rw [if_neg ht] at hu
  have : (tmps.setIfInBounds d v').getD t undef = tmps.getD t undef := by
   simp only [Array.getD_eq_getD_getElem?, Array.getElem?_setIfInBounds_ne (Ne.symm ht)]
  rw [this]; exact h.val t u hu
def ABlk.isOwn : ABlk → Bool
 | .cells _ _ _ ro => !ro
 | .map _ _ ro => !ro
 | _ => true
structure LoopRel (Γ : Ga) (l : ALoop) (l' : Loop) : Prop where
 state : l'.state = l.state
 pending : l'.pending = l.pending
 env : EnvR Γ l.env l.ntm l'.tmps
 params : l'.params.toList = l.params
 assign : l'.assign = l.assign
 body : l'.body = l.body
 defers : ∃ i, Γ l.defers = some i ∧ l'.defers = i.real
structure EntR (Γ : Ga) (e e' : MapEntry) : Prop where
 key : VR Γ e.key e'.key
 val : VR Γ e.val e'.val
 born : e'.born = e.born
def ObjR (Γ : Ga) (i : BI) : ABlk → Obj → Prop
 | .cells cs esz slack ro, o => ∃ rc e fz, o = .cells rc e fz ∧ i.size = cs.length ∧ i.esz = esz ∧ i.slack = slack ∧ i.shift + cs.length ≤ rc.size ∧
   i.rsize = rc.size ∧ (ro = false → i.shift = 0 ∧ ∀ n : Nat, (decide (fz.1 ≤ n) && decide (n < fz.2)) = false) ∧ (slack = true → ro = false) ∧
   ∀ (k : Nat) (v : Value), cs[k]? = some v → ∃ v', rc[i.shift + k]? = some v' ∧ VR Γ v v'
 | .map es clock _, o => ∃ es', o = .map es' clock ∧ All2 (EntR Γ) es es'.toList
 | .siter s pos, o => i.shift = 0 ∧ o = .stringIter s pos
 | .miter none since seen stepped, o => i.shift = 0 ∧ o = .mapIter none since ⟨seen⟩ stepped
 | .miter (some m) since seen stepped, o => i.shift = 0 ∧ ∃ j, Γ m = some j ∧ o = .mapIter (some j.real) since ⟨seen⟩ stepped
 | .loop l, o => ∃ l', o = .loop l' ∧ LoopRel Γ l l'
 | .defd, o => o = .deferred (some [])
theorem ObjR.mono {Γ Γ' : Ga} (hle : Ga.le Γ Γ') {i : BI} {x : ABlk} {o : Obj} (h : ObjR Γ i x o) : ObjR Γ' i x o := by
 cases x with
 | cells cs esz slack ro =>
  obtain ⟨rc, e, fz, h1, h2, h3, h4, h5, h6, h7, h8, h9⟩ := h
  exact ⟨rc, e, fz, h1, h2, h3, h4, h5, h6, h7, h8, fun k v hk => let ⟨v', a, b⟩ := h9 k v hk; ⟨v', a, b.mono hle⟩⟩
 | map es clock ro =>
  obtain ⟨es', h1, h2⟩ := h
  exact ⟨es', h1, h2.imp fun _ _ h => ⟨h.key.mono hle, h.val.mono hle, h.born⟩⟩
 | siter s pos => exact h
 | miter m since seen stepped =>
  cases m with
  | none => exact h
  | some m => obtain ⟨h0, j, h1, h2⟩ := h; exact ⟨h0, j, hle _ _ h1, h2⟩
 | loop l =>
  obtain ⟨l', h1, h2⟩ := h;obtain ⟨j, d1, d2⟩ := h2.defers
  exact ⟨l', h1, ⟨h2.state, h2.pending, h2.env.mono hle, h2.params, h2.assign, h2.body, ⟨j, hle _ _ d1, d2⟩⟩⟩
 | defd => exact h
structure Rel (Γ : Ga) (H : AHeap) (w : World) : Prop where
 dom : ∀ b i, Γ b = some i → b % 2 = 1 ∨ b < H.fresh
 blk : ∀ b x, H.get b = some x → ∃ i o, Γ b = some i ∧ w.heap[i.real]? = some o ∧ ObjR Γ i x o
 ownd : ∀ b x, H.get b = some x → own b = true → x.isOwn = true
 sep : ∀ b b' x x' i i', H.get b = some x → H.get b' = some x' → Γ b = some i → Γ b' = some i' → x.isOwn = true → b ≠ b' → i.real ≠ i'.real
def Mine (Γ : Ga) (H : AHeap) (r : Nat) : Prop := ∃ b x i, H.get b = some x ∧ x.isOwn = true ∧ Γ b = some i ∧ i.real = r
structure Adv (Γ : Ga) (H : AHeap) (w : World) (Γ' : Ga) (H' : AHeap) (w' : World) : Prop where
 ext : ∀ b, b % 2 = 1 ∨ b < H.fresh → Γ' b = Γ b
 fresh : H.fresh ≤ H'.fresh
 size : w.heap.size ≤ w'.heap.size
 keep : ∀ r, r < w.heap.size → ¬ Mine Γ H r → w'.heap[r]? = w.heap[r]?
 mine : ∀ r, Mine Γ' H' r → w.heap.size ≤ r ∨ Mine Γ H r
 os : w'.os = w.os
 tape : w'.tape = w.tape
 output : w'.output = w.output
 kept : Kept H H'
theorem Adv.le {Γ Γ' : Ga} {H H' : AHeap} {w w' : World} (hr : Rel Γ H w) (h : Adv Γ H w Γ' H' w') : Ga.le Γ Γ' :=
 fun b i hb => by rw [h.ext b (hr.dom b i hb)]; exact hb
theorem Adv.refl (Γ : Ga) (H : AHeap) (w : World) : Adv Γ H w Γ H w :=
 ⟨fun _ _ => rfl, Nat.le_refl _, Nat.le_refl _, fun _ _ _ => rfl, fun _ h => .inr h, rfl, rfl, rfl, .refl _⟩
theorem Adv.trans {Γ Γ₁ Γ₂ : Ga} {H H₁ H₂ : AHeap} {w w₁ w₂ : World} (h : Adv Γ H w Γ₁ H₁ w₁) (k : Adv Γ₁ H₁ w₁ Γ₂ H₂ w₂) : Adv Γ H w Γ₂ H₂ w₂ := by
 refine ⟨fun b hb => ?_, Nat.le_trans h.fresh k.fresh, Nat.le_trans h.size k.size, fun r hr hm => ?_, fun r hm => ?_, k.os.trans h.os, k.tape.trans h.tape, k.output.trans h.output, h.kept.trans h.fresh k.kept⟩
 ·rw [k.ext b (hb.imp id fun hb => Nat.lt_of_lt_of_le hb h.fresh), h.ext b hb]
 ·rw [k.keep r (Nat.lt_of_lt_of_le hr h.size) fun hm' => ?_, h.keep r hr hm];rcases h.mine r hm' with h' | h'
  ·omega
  ·exact hm h'
 ·rcases k.mine r hm with h' | h'
  ·exact .inl (Nat.le_trans h.size h')
  ·exact h.mine r h'
theorem Rel.drew {Γ : Ga} {H : AHeap} {w : World} (h : Rel Γ H w) : Rel Γ H w.drew := ⟨h.dom, h.blk, h.ownd, h.sep⟩
theorem Adv.drew (Γ : Ga) (H : AHeap) (w : World) : Adv Γ H w Γ H w.drew :=
 ⟨fun _ _ => rfl, Nat.le_refl _, Nat.le_refl _, fun _ _ _ => rfl, fun _ h => .inr h, rfl, rfl, rfl, .refl _⟩
end Go.Den
namespace Go.Den
def Ga.upd (Γ : Ga) (b : Nat) (i : BI) : Ga := fun c => if c = b then some i else Γ c
theorem Ga.le_upd {Γ : Ga} {H : AHeap} {w : World} (hr : Rel Γ H w) (i : BI) : Ga.le Γ (Γ.upd H.fresh i) := by
 intro b j hb;unfold Ga.upd;rw [if_neg]
 ·exact hb
 ·intro e;rcases hr.dom b j hb with h | h
  ·subst e; have := zao.1 (zby H); omega
  ·omega
theorem zbd (H : AHeap) (x : ABlk) : (H.add x).fresh = H.fresh + 2 := by simp [AHeap.fresh, AHeap.add]; omega
theorem zht {Γ : Ga} {H : AHeap} {w : World} (hr : Rel Γ H w) : H.get H.fresh = none := by
 cases h : H.get H.fresh with
 | none => rfl
 | some x =>
  obtain ⟨i, o, hi, _⟩ := hr.blk _ _ h;rcases hr.dom _ _ hi with h | h
  ·have := zao.1 (zby H); omega
  ·omega
theorem Rel.add {Γ : Ga} {H : AHeap} {w : World} (hr : Rel Γ H w) (x : ABlk) (o : Obj) (i : BI) (hi : i.real = w.heap.size) (ho : ObjR Γ i x o) (hx : x.isOwn = true := by rfl) :
  Rel (Γ.upd H.fresh i) (H.add x) (w.alloc o) ∧ Adv Γ H w (Γ.upd H.fresh i) (H.add x) (w.alloc o) := by
 have hle := Ga.le_upd hr i
 have hlt : ∀ b x', H.get b = some x' → ∀ j, Γ b = some j → j.real < w.heap.size := by
  intro b x' hb j hj;obtain ⟨j', o', hj', ho', _⟩ := hr.blk b x' hb;rw [hj] at hj'; cases hj';exact (Array.getElem?_eq_some_iff.1 ho').1
 have old : ∀ r, r < w.heap.size → (w.alloc o).heap[r]? = w.heap[r]? := fun r h => (by show (w.heap.push o)[r]? = _; rw [Array.getElem?_push, if_neg (by omega)])
 refine ⟨⟨?_, ?_, ?_, ?_⟩, ⟨?_, ?_, ?_, ?_, ?_, rfl, rfl, rfl, .add _ _⟩⟩
 ·intro b j hb;rw [zbd];unfold Ga.upd at hb;split at hb
  ·subst b; exact .inr (by omega)
  ·exact (hr.dom b j hb).imp id (by omega)
 ·intro b x' hb;rw [AHeap.get_add] at hb;split at hb
  ·subst b; cases hb;refine ⟨i, o, by simp [Ga.upd], ?_, ho.mono hle⟩;rw [hi]; exact World.alloc_heap_new w o
  ·obtain ⟨j, o', hj, hw, hobj⟩ := hr.blk b x' hb;refine ⟨j, o', hle b j hj, ?_, hobj.mono hle⟩;rw [old _ (hlt b x' hb j hj)]; exact hw
 ·intro b x' hb hob;rw [AHeap.get_add] at hb;split at hb
  ·cases hb; exact hx
  ·exact hr.ownd b x' hb hob
 ·intro b b' x' x'' j j' hb hb' hj hj' hown hne;rw [AHeap.get_add] at hb hb';unfold Ga.upd at hj hj';by_cases e : b = H.fresh
  ·subst b;have e' : ¬ b' = H.fresh := fun h => hne h.symm
   rw [if_pos rfl] at hj; cases hj;rw [if_neg e'] at hb' hj';have := hlt b' x'' hb' j' hj';omega
  ·rw [if_neg e] at hb hj;by_cases e' : b' = H.fresh
   ·subst b';rw [if_pos rfl] at hj'; cases hj';have := hlt b x' hb j hj;omega
   ·rw [if_neg e'] at hb' hj';exact hr.sep b b' x' x'' j j' hb hb' hj hj' hown hne
 ·intro b hb;unfold Ga.upd;rw [if_neg];intro e; subst e;have := zao.1 (zby H); omega
 ·rw [zbd]; omega
 ·simp
 ·intro r hlt' _; exact old r hlt'
 ·rintro r ⟨b, x', j, hb, hown, hj, rfl⟩
  rw [AHeap.get_add] at hb;unfold Ga.upd at hj;by_cases e : b = H.fresh
  ·subst b;rw [if_pos rfl] at hj; cases hj;exact .inl (by omega)
  ·rw [if_neg e] at hb hj;exact .inr ⟨b, x', j, hb, hown, hj, rfl⟩
structure Turned (w w' : World) (r : Nat) (o : Obj) : Prop where
 size : w'.heap.size = w.heap.size
 same : w'.heap[r]? = some o
 other : ∀ k, k ≠ r → w'.heap[k]? = w.heap[k]?
 os : w'.os = w.os
 tape : w'.tape = w.tape
 output : w'.output = w.output
theorem Rel.put {Γ : Ga} {H : AHeap} {w w' : World} (hr : Rel Γ H w) {b : Nat} {x x' : ABlk} {i : BI} {o : Obj} (hb : H.get b = some x) (hown : x.isOwn = true)
  (hob : own b = true) (hi : Γ b = some i) (ht : Turned w w' i.real o) (ho : ObjR Γ i x' o) (hx : x'.isOwn = true := by rfl) :
  Rel Γ (H.put b x') w' ∧ Adv Γ H w Γ (H.put b x') w' := by
 refine ⟨⟨?_, ?_, fun c y hc hoc => ?_, ?_⟩, ⟨fun _ _ => rfl, Nat.le_refl _, Nat.le_of_eq ht.size.symm, ?_, ?_, ht.os, ht.tape, ht.output, .put _ _ hob⟩⟩
 ·exact hr.dom
 ·intro c y hc;rw [AHeap.get_put _ _ _ _ hob] at hc;split at hc
  ·subst c; cases hc;exact ⟨i, o, hi, ht.same, ho⟩
  ·rename_i hne;obtain ⟨j, o', hj, hw, hobj⟩ := hr.blk c y hc;refine ⟨j, o', hj, ?_, hobj⟩;rw [ht.other _ (fun e => hr.sep b c x y i j hb hc hi hj hown (fun e => hne e.symm) e.symm)];exact hw
 ·rw [AHeap.get_put _ _ _ _ hob] at hc;split at hc
  ·cases hc; exact hx
  ·exact hr.ownd c y hc hoc
 ·intro c c' y y' j j' hc hc' hj hj' hy hne;rw [AHeap.get_put _ _ _ _ hob] at hc hc';by_cases e : c = b
  ·subst c;have e' : ¬ c' = b := fun h => hne h.symm
   rw [if_neg e'] at hc';rw [hi] at hj; cases hj;exact hr.sep b c' x y' i j' hb hc' hi hj' hown hne
  ·rw [if_neg e] at hc;by_cases e' : c' = b
   ·subst c';rw [hi] at hj'; cases hj';exact hr.sep c b y x j i hc hb hj hi hy hne
   ·rw [if_neg e'] at hc';exact hr.sep c c' y y' j j' hc hc' hj hj' hy hne
 ·intro r hlt hm;exact ht.other r (fun e => hm ⟨b, x, i, hb, hown, hi, e.symm⟩)
 ·rintro r ⟨c, y, j, hc, hy, hj, rfl⟩
  rw [AHeap.get_put _ _ _ _ hob] at hc;split at hc
  ·subst c;rw [hi] at hj; cases hj;exact .inr ⟨b, x, i, hb, hown, hi, rfl⟩
  ·exact .inr ⟨c, y, j, hc, hy, hj, rfl⟩
theorem Rel.kill {Γ : Ga} {H : AHeap} {w : World} (hr : Rel Γ H w) {b : Nat} (hob : own b = true) :
  Rel Γ (H.kill b) w ∧ Adv Γ H w Γ (H.kill b) w := by
 refine ⟨⟨hr.dom, ?_, ?_, ?_⟩, ⟨fun _ _ => rfl, Nat.le_refl _, Nat.le_refl _, fun _ _ _ => rfl, ?_, rfl, rfl, rfl, .kill _ hob⟩⟩
 ·intro c y hc;rw [AHeap.get_kill _ _ _ hob] at hc;split at hc
  ·cases hc
  ·exact hr.blk c y hc
 ·intro c y hc hoc;rw [AHeap.get_kill _ _ _ hob] at hc;split at hc
  ·cases hc
  ·exact hr.ownd c y hc hoc
 ·intro c c' y y' j j' hc hc' hj hj' hy hne;rw [AHeap.get_kill _ _ _ hob] at hc hc';split at hc
  ·cases hc
  ·split at hc'
   ·cases hc'
   ·exact hr.sep c c' y y' j j' hc hc' hj hj' hy hne
 ·rintro r ⟨c, y, j, hc, hy, hj, rfl⟩
  rw [AHeap.get_kill _ _ _ hob] at hc;split at hc
  ·cases hc
  ·exact .inr ⟨c, y, j, hc, hy, hj, rfl⟩
theorem Rel.again {Γ : Ga} {H : AHeap} {w w' : World} (hr : Rel Γ H w) {b : Nat} {x x' : ABlk} {i i' : BI} {o : Obj} (hb : H.get b = some x) (hown : x.isOwn = true)
  (hob : own b = true) (hi : Γ b = some i) (ht : Turned w w' i.real o) (hi' : i'.real = i.real) (ho : ObjR Γ i' x' o) (hx : x'.isOwn = true := by rfl) :
  Rel (Γ.upd H.fresh i') ((H.kill b).add x') w' ∧ Adv Γ H w (Γ.upd H.fresh i') ((H.kill b).add x') w' := by
 have hle := Ga.le_upd hr i'
 have hfb : ¬ b = H.fresh := by
  intro e; rw [e, zht hr] at hb; cases hb
 have hfk : (H.kill b).fresh = H.fresh := rfl
 have getE : ∀ c, ((H.kill b).add x').get c = if c = H.fresh then some x' else if c = b then none else H.get c := by
  intro c; rw [AHeap.get_add, hfk, AHeap.get_kill _ _ _ hob]
 have updE : ∀ c, c ≠ H.fresh → (Γ.upd H.fresh i') c = Γ c := fun c hc => by simp [Ga.upd, hc]
 refine ⟨⟨?_, ?_, fun c y hc hoc => ?_, ?_⟩, ⟨?_, ?_, Nat.le_of_eq ht.size.symm, ?_, ?_, ht.os, ht.tape, ht.output, (Kept.kill _ hob).trans (Nat.le_refl _) (.add _ _)⟩⟩
 ·intro c j hc;rw [zbd, hfk];unfold Ga.upd at hc;split at hc
  ·subst c; exact .inr (by omega)
  ·exact (hr.dom c j hc).imp id (by omega)
 ·intro c y hc;rw [getE] at hc;by_cases e : c = H.fresh
  ·subst c; rw [if_pos rfl] at hc; cases hc;exact ⟨i', o, by simp [Ga.upd], by rw [hi']; exact ht.same, ho.mono hle⟩
  ·rw [if_neg e] at hc;by_cases e2 : c = b
   ·rw [if_pos e2] at hc; cases hc
   ·rw [if_neg e2] at hc;obtain ⟨j, o', hj, hw, hobj⟩ := hr.blk c y hc;refine ⟨j, o', hle c j hj, ?_, hobj.mono hle⟩;rw [ht.other _ (fun e => hr.sep b c x y i j hb hc hi hj hown (fun e => e2 e.symm) e.symm)];exact hw
 ·rw [getE] at hc;by_cases e : c = H.fresh
  ·rw [if_pos e] at hc; cases hc; exact hx
  ·rw [if_neg e] at hc;by_cases e2 : c = b
   ·rw [if_pos e2] at hc; cases hc
   ·rw [if_neg e2] at hc;exact hr.ownd c y hc hoc
 ·intro c c' y y' j j' hc hc' hj hj' hy hne;rw [getE] at hc hc';by_cases e : c = H.fresh
  ·subst c;have e' : ¬ c' = H.fresh := fun h => hne h.symm
   rw [if_neg e'] at hc';rw [updE c' e'] at hj';simp [Ga.upd] at hj; subst hj;by_cases e2 : c' = b
   ·rw [if_pos e2] at hc'; cases hc'
   ·rw [if_neg e2] at hc';rw [hi'];exact hr.sep b c' x y' i j' hb hc' hi hj' hown (fun h => e2 h.symm)
  ·rw [if_neg e] at hc;rw [updE c e] at hj;by_cases e2 : c = b
   ·rw [if_pos e2] at hc; cases hc
   rw [if_neg e2] at hc;by_cases e' : c' = H.fresh
   ·subst c';simp [Ga.upd] at hj'; subst hj';rw [hi'];exact hr.sep c b y x j i hc hb hj hi hy e2
   ·rw [if_neg e'] at hc';rw [updE c' e'] at hj';by_cases e3 : c' = b
    ·rw [if_pos e3] at hc'; cases hc'
    rw [if_neg e3] at hc';exact hr.sep c c' y y' j j' hc hc' hj hj' hy hne
 ·intro c hc;apply updE;intro e; subst e;have := zao.1 (zby H); omega
 ·rw [zbd, hfk]; omega
 ·intro r hlt hm;exact ht.other r (fun e => hm ⟨b, x, i, hb, hown, hi, e.symm⟩)
 ·rintro r ⟨c, y, j, hc, hy, hj, rfl⟩
  rw [getE] at hc;by_cases e : c = H.fresh
  ·subst c;simp [Ga.upd] at hj; subst hj;exact .inr ⟨b, x, i, hb, hown, hi, hi'.symm⟩
  ·rw [if_neg e] at hc;rw [updE c e] at hj;by_cases e2 : c = b
   ·rw [if_pos e2] at hc; cases hc
   ·rw [if_neg e2] at hc;exact .inr ⟨c, y, j, hc, hy, hj, rfl⟩
theorem zi4 {cs l : List Value} {o n : Nat} (h : sliceIn cs o n = some l) : l.length = n ∧ o + n ≤ cs.length ∨ (n = 0 ∧ l = []) := by
 unfold sliceIn at h;simp only at h;split at h
 ·rename_i hl;cases h;simp at hl;by_cases hn : n = 0
  ·right; subst hn; simp
  ·left; simp; omega
 ·cases h
theorem zb3 {cs l : List Value} {o n : Nat} (h : sliceIn cs o n = some l) : l.length = n ∧ ∀ k, k < n → l[k]? = cs[o + k]? := by
 unfold sliceIn at h;simp only at h;split at h
 ·rename_i hl;cases h;refine ⟨by simpa using hl, fun k hk => ?_⟩;simp [hk]
 ·cases h
theorem zfF : ∀ {cs : List Value} {o : Nat} {vs cs' : List Value}, writeAt cs o vs = some cs' →
  cs'.length = cs.length ∧ (vs = [] ∨ o + vs.length ≤ cs.length) ∧ ∀ k, cs'[k]? = if o ≤ k ∧ k < o + vs.length then vs[k - o]? else cs[k]? := by
 intro cs
 induction cs with
 | nil =>
  intro o vs cs' h
  cases vs with
  | nil =>
   unfold writeAt at h; cases h;refine ⟨rfl, .inl rfl, fun k => ?_⟩
   rw [if_neg (by simp)]
  | cons v vs => simp [writeAt] at h
 | cons c cs ih =>
  intro o vs cs' h
  cases vs with
  | nil =>
   unfold writeAt at h; cases h;refine ⟨rfl, .inl rfl, fun k => ?_⟩
   rw [if_neg (by simp)]
  | cons v vs =>
   cases o with
   | zero =>
    simp only [writeAt] at h
    cases h1 : writeAt cs 0 vs with
    | none => simp [h1] at h
    | some r =>
     simp only [h1] at h; cases h;obtain ⟨a, b, c'⟩ := ih h1;refine ⟨by simp [a], .inr ?_, fun k => ?_⟩
     ·rcases b with rfl | b
      ·simp
      ·simp at b ⊢; omega
     ·cases k with
      | zero => simp
      | succ k =>
       simp only [List.getElem?_cons_succ, c' k];by_cases hk : k < 0 + vs.length
       ·rw [if_pos (by omega), if_pos (by simp; omega)]; simp
       ·rw [if_neg (by omega), if_neg (by simp; omega)]
   | succ o =>
    simp only [writeAt] at h
    cases h1 : writeAt cs o (v :: vs) with
    | none => simp [h1] at h
    | some r =>
     simp only [h1] at h; cases h;obtain ⟨a, b, c'⟩ := ih h1;refine ⟨by simp [a], .inr ?_, fun k => ?_⟩
     ·rcases b with b | b
      ·cases b
      ·simp at b ⊢; omega
     ·cases k with
      | zero => rw [if_neg (by omega)]; rfl
      | succ k =>
       simp only [List.getElem?_cons_succ, c' k];by_cases hk : o ≤ k ∧ k < o + (v :: vs).length
       ·rw [if_pos hk, if_pos (by omega)]
        congr 1; omega
       ·rw [if_neg hk, if_neg (by omega)]
end Go.Den
namespace Go.Den
structure CtxOk (P : Program) (C : Ctx) : Prop where
 ty : ∀ t i, C.ty.get t = some i → tiOf P t = some i
 fn : ∀ f x, C.fn.get f = some x → P.funcs[f]? = some x ∧ (x.name == "runtime.NumGoroutine") = false
 mixed : P.follows .mixedOrders = true
section
variable {P : Program} {C : Ctx} {t : TypeId} {i : TI}
theorem zbN (h : tiOf P t = some i) : ∃ info, P.info? t = some info ∧ P.underlying t = some i.und ∧ info.size = i.size ∧ info.bytes = i.bytes ∧ info.zero = i.zero := by
 unfold tiOf at h;split at h
 ·rename_i info d h1 h2;cases h;exact ⟨info, h1, h2, rfl, rfl, rfl⟩
 ·cases h
theorem zas (hC : CtxOk P C) (h : C.ty.get t = some i) (w : World) : (underlying t).run P w = .ok i.und w := by
 obtain ⟨info, h1, h2, _⟩ := zbN (hC.ty t i h);simp [underlying, h2]
theorem zaU (hC : CtxOk P C) (h : C.ty.get t = some i) (w : World) : (sizeOf t).run P w = .ok i.size w := by
 obtain ⟨info, h1, h2, h3, _⟩ := zbN (hC.ty t i h);simp [sizeOf, typeInfo, h1, h3]
theorem zgA (hC : CtxOk P C) (h : C.ty.get t = some i) : ∃ info, (∀ w, (typeInfo t).run P w = .ok info w) ∧ info.bytes = i.bytes ∧ info.size = i.size ∧ info.zero = i.zero := by
 obtain ⟨info, h1, h2, h3, h4, h5⟩ := zbN (hC.ty t i h);exact ⟨info, fun w => by simp [typeInfo, h1], h4, h3, h5⟩
theorem zcl (hC : CtxOk P C) (h : C.ty.get t = some i) {z : Value} (hz : i.zero = some z) (w : World) : (zeroValue t).run P w = .ok z w := by
 obtain ⟨info, h1, h2, h3, h4, h5⟩ := zbN (hC.ty t i h);simp [zeroValue, typeInfo, h1, h5, hz]
theorem zka (hC : CtxOk P C) (h : C.ty.get t = some i) (w : World) : (isAgg t).run P w = .ok (isAggD i.und) w := by
 unfold isAgg;simp only [Sem.run_bind, zas hC h, Result.andThen_ok];cases i.und <;> rfl
end
theorem cell_of {w : World} {b n : Nat} {rc : Array Value} {e : TypeId} {fz : Nat × Nat} (h : w.heap[b]? = some (.cells rc e fz)) :
  w.cell? ⟨b, n, none⟩ = rc[n]? := by simp [World.cell?, h]
theorem zeB (P : Program) {w : World} {a : Addr} {v : Value} (h : w.cell? a = some v) : (load a).run P w = .ok v w := by
 rw [run_load]; simp [h]
theorem addr_add (b o k : Nat) : Addr.add ⟨b, o, none⟩ k = ⟨b, o + k, none⟩ := by
 unfold Addr.add;split
 ·subst k; simp
 ·rfl
theorem run_loadCellsFrom (P : Program) {w : World} {b o : Nat} {rc : Array Value} {e : TypeId} {fz : Nat × Nat} (h : w.heap[b]? = some (.cells rc e fz)) :
  ∀ (n i : Nat) (acc : Array Value), o + i + n ≤ rc.size →
   (loadCellsFrom ⟨b, o, none⟩ i n acc).run P w = .ok ⟨acc.toList ++ (rc.toList.drop (o + i)).take n⟩ w := by
 intro n
 induction n with
 | zero => intro i acc _; simp [loadCellsFrom]
 | succ n ih =>
  intro i acc hle;have hlt : o + i < rc.size := by omega
  have hv : rc[o + i]? = some rc[o + i] := Array.getElem?_eq_getElem hlt;have hc : w.cell? ⟨b, o + i, none⟩ = some rc[o + i] := by rw [cell_of h]; exact hv
  simp only [loadCellsFrom, addr_add, Sem.run_bind, zeB P hc, Result.andThen_ok];rw [ih (i + 1) _ (by omega)]
  have : (rc.toList.drop (o + i)).take (n + 1) = rc[o + i] :: (rc.toList.drop (o + (i + 1))).take n := by
   rw [List.drop_eq_getElem_cons (by simpa using hlt)]; simp; rfl
  rw [this]; simp
theorem run_loadCells (P : Program) {w : World} {b o n : Nat} {rc : Array Value} {e : TypeId} {fz : Nat × Nat} (h : w.heap[b]? = some (.cells rc e fz))
  (hle : o + n ≤ rc.size) : (loadCells ⟨b, o, none⟩ n).run P w = .ok ⟨(rc.toList.drop o).take n⟩ w := by
 unfold loadCells;rw [run_loadCellsFrom P h n 0 #[] (by omega)]; simp
theorem zi7 {w : World} {b o : Nat} {rc : Array Value} {e : TypeId} {fz : Nat × Nat} {v : Value} (h : w.heap[b]? = some (.cells rc e fz)) :
  Turned w (w.setCell ⟨b, o, none⟩ v) b (.cells (rc.setIfInBounds o v) e fz) := by
 have hb : b < w.heap.size := (Array.getElem?_eq_some_iff.1 h).1;refine ⟨by simp, ?_, ?_, rfl, rfl, rfl⟩
 ·simp only [World.setCell, Array.getElem?_modify, if_true, h, Option.map_some];simp
 ·intro k hk;simp only [World.setCell, Array.getElem?_modify];rw [if_neg (fun e => hk e.symm)]
theorem zeb (P : Program) {b o : Nat} {e : TypeId} {fz : Nat × Nat} (hfz : ∀ n : Nat, (decide (fz.1 ≤ n) && decide (n < fz.2)) = false) :
  ∀ (vs : List Value) (i : Nat) (w : World) (rc : Array Value), w.heap[b]? = some (.cells rc e fz) → o + i + vs.length ≤ rc.size → vs.all oneCell = true →
   ∃ w' rc', (storeCells ⟨b, o, none⟩ vs i).run P w = .ok () w' ∧ Turned w w' b (.cells rc' e fz) ∧ rc'.size = rc.size ∧
    ∀ k, rc'[k]? = if o + i ≤ k ∧ k < o + i + vs.length then vs[k - (o + i)]? else rc[k]? := by
 intro vs
 induction vs with
 | nil =>
  intro i w rc h _ _;refine ⟨w, rc, rfl, ⟨rfl, h, fun _ _ => rfl, rfl, rfl, rfl⟩, rfl, fun k => ?_⟩
  rw [if_neg (by simp)]
 | cons v vs ih =>
  intro i w rc h hle hone;simp only [List.length_cons] at hle;simp only [List.all_cons, Bool.and_eq_true] at hone;have hlt : o + i < rc.size := by omega
  have hc : w.cell? ⟨b, o + i, none⟩ = some rc[o + i] := by rw [cell_of h]; exact Array.getElem?_eq_getElem hlt
  have hf : w.frozen? ⟨b, o + i, none⟩ = false := by
   simp only [World.frozen?, h];exact hfz (o + i)
  have ht := zi7 (o := o + i) (v := v) h;obtain ⟨w', rc', hrun, hT, hsz, hget⟩ := ih (i + 1) (w.setCell ⟨b, o + i, none⟩ v) (rc.setIfInBounds (o + i) v) ht.same (by simp; omega) hone.2;refine ⟨w', rc', ?_, ⟨hT.size.trans ht.size, hT.same, fun k hk => (hT.other k hk).trans (ht.other k hk), hT.os.trans ht.os, hT.tape.trans ht.tape, hT.output.trans ht.output⟩, by simpa using hsz, fun k => ?_⟩
  ·simp only [storeCells, addr_add, Sem.run_bind];rw [run_store P w _ v .plain (by rw [← zmQ]; exact hone.1)];simp only [hc, hf, Bool.false_eq_true, if_false, Result.andThen_ok];exact hrun
  ·rw [hget k];by_cases h1 : o + (i + 1) ≤ k ∧ k < o + (i + 1) + vs.length
   ·rw [if_pos h1, if_pos (by simp; omega)];have : k - (o + i) = (k - (o + (i + 1))) + 1 := by omega
    rw [this]; simp
   ·rw [if_neg h1];by_cases h2 : k = o + i
    ·subst h2;rw [if_pos (by simp)];simp [hlt]
    ·rw [if_neg (by simp; omega), Array.getElem?_setIfInBounds_ne (fun e => h2 e.symm)]
section
variable {P : Program} {C : Ctx} {Γ : Ga} {H : AHeap} {w : World}
theorem Rel.cells (hr : Rel Γ H w) {b : Nat} {cs : List Value} {z : Nat} {s ro : Bool} (hb : H.get b = some (.cells cs z s ro)) :
  ∃ i rc e fz, Γ b = some i ∧ w.heap[i.real]? = some (.cells rc e fz) ∧ i.size = cs.length ∧ i.esz = z ∧ i.slack = s ∧ i.shift + cs.length ≤ rc.size ∧
   i.rsize = rc.size ∧ (ro = false → i.shift = 0 ∧ ∀ n : Nat, (decide (fz.1 ≤ n) && decide (n < fz.2)) = false) ∧ (s = true → ro = false) ∧
   ∀ (k : Nat) (v : Value), cs[k]? = some v → ∃ v', rc[i.shift + k]? = some v' ∧ VR Γ v v' := by
 obtain ⟨i, o, hi, ho, rc, e, fz, rfl, h2⟩ := hr.blk b _ hb;exact ⟨i, rc, e, fz, hi, ho, h2⟩
theorem zex {Γ : Ga} {cs l : List Value} {rc : Array Value} {sh o n : Nat} (h : sliceIn cs o n = some l) (hle : sh + cs.length ≤ rc.size)
  (hg : ∀ (k : Nat) (v : Value), cs[k]? = some v → ∃ v', rc[sh + k]? = some v' ∧ VR Γ v v') :
  (n = 0 ∨ sh + o + n ≤ rc.size) ∧ All2 (VR Γ) l ((rc.toList.drop (sh + o)).take n) := by
 obtain ⟨hl, hk⟩ := zb3 h;rcases zi4 h with ⟨_, h2⟩ | ⟨h0, rfl⟩
 ·refine ⟨.inr (by omega), All2.mk (by simp; omega) fun k a ha => ?_⟩
  have hkn : k < n := by
   have := (List.getElem?_eq_some_iff.1 ha).1; omega
  rw [hk k hkn] at ha;obtain ⟨v', hv, hvr⟩ := hg (o + k) a ha;refine ⟨v', ?_, hvr⟩;rw [List.getElem?_take, if_pos hkn, List.getElem?_drop];have : sh + o + k = sh + (o + k) := by omega
  rw [this]; simpa using hv
 ·subst h0;exact ⟨.inl rfl, by simp; exact .nil⟩
theorem zgU (hC : CtxOk P C) (hr : Rel Γ H w) {t : TypeId} {p p' v : Value} (h : loadA C H t p = some v) (hp : VR Γ p p') :
  ∃ v', (Instr.loadAt t p').run P w = .ok v' w ∧ VR Γ v v' := by
 unfold loadA at h;split at h
 ·rename_i b o;split at h
  ·rename_i cs z s ro i hb ht;obtain ⟨j, rc, e, fz, hj, hw, h1, h2, h3, h4, h5, h6, h7, h8⟩ := hr.cells hb
   cases hp with
   | ptr hj' =>
    rw [hj] at hj'; cases hj';unfold Instr.loadAt Instr.sureAddr loadVar;simp only [Sem.run_bind, Sem.run_pure, Result.andThen_ok, zka hC ht];split at h
    ·rename_i hagg;simp only [hagg, if_true]
     cases hs : sliceIn cs o i.size with
     | none => simp [hs] at h
     | some l =>
      simp only [hs, Option.map_some, Option.some.injEq] at h;subst h;obtain ⟨hle, hall⟩ := zex hs h4 h8;simp only [Sem.run_bind, zaU hC ht, Result.andThen_ok];rcases hle with h0 | hle
      ·rw [h0];refine ⟨.agg #[], by simp [loadCells, loadCellsFrom], ?_⟩
       have : l = [] := by
        have := (zb3 hs).1; rw [h0] at this; exact List.length_eq_zero_iff.1 this
       subst this; exact .agg .nil
      ·rw [run_loadCells P hw hle];exact ⟨_, rfl, .agg hall⟩
    ·rename_i hagg;simp only [hagg, Bool.false_eq_true, if_false];obtain ⟨v', hv, hvr⟩ := h8 o v h;exact ⟨v', zeB P (by rw [cell_of hw]; exact hv), hvr⟩
  ·cases h
 ·cases h
theorem zes (hr : Rel Γ H w) {b o : Nat} {cs cs' vs vs' : List Value} {z : Nat} {s : Bool} (hb : H.get b = some (.cells cs z s false)) (hob : own b = true)
  (hw : writeAt cs o vs = some cs') (hv : All2 (VR Γ) vs vs') (hone : vs.all oneCell = true) {i : BI} (hi : Γ b = some i) :
  ∃ w', (∀ P : Program, (storeCells ⟨i.real, i.shift + o, none⟩ vs').run P w = .ok () w') ∧ Rel Γ (H.put b (.cells cs' z s false)) w' ∧ Adv Γ H w Γ (H.put b (.cells cs' z s false)) w' := by
 obtain ⟨j, rc, e, fz, hj, hw', h1, h2, h3, h4, h5, h6, h7, h8⟩ := hr.cells hb;rw [hi] at hj; cases hj;obtain ⟨hsh, hfz⟩ := h6 rfl;obtain ⟨hlen, hfit, hget⟩ := zfF hw
 have hone' : vs'.all oneCell = true := by
  clear hw hfit hget
  induction hv with
  | nil => rfl
  | cons h _ ih => simp only [List.all_cons, Bool.and_eq_true] at hone ⊢; exact ⟨by rw [← h.oneCell]; exact hone.1, ih hone.2⟩
 have hll := hv.length;rcases hfit with rfl | hfit
 ·cases hv;refine ⟨w, fun P => rfl, ?_⟩
  have hcs : cs' = cs := by
   cases cs <;> simp [writeAt] at hw <;> first | exact hw | exact hw.symm
  subst hcs;exact hr.put hb (by rfl) hob hi ⟨rfl, hw', fun _ _ => rfl, rfl, rfl, rfl⟩ ⟨rc, e, fz, rfl, h1, h2, h3, h4, h5, fun _ => ⟨hsh, hfz⟩, h7, h8⟩
 ·have key : ∀ P : Program, _ := fun P => zeb P (b := i.real) (o := i.shift + o) hfz vs' 0 w rc hw' (by omega) hone'
  obtain ⟨w', rc', hrun, hT, hsz, hget'⟩ := key default;refine ⟨w', ?_, hr.put hb (by rfl) hob hi hT ⟨rc', e, fz, rfl, by rw [hlen]; exact h1, h2, h3, by rw [hlen, hsz]; exact h4, by rw [hsz]; exact h5, fun _ => ⟨hsh, hfz⟩, h7, ?_⟩⟩
  ·intro P
   -- the stores do not look at the program
   have ind : ∀ (vs : List Value) (k : Nat) (w w' : World), (storeCells ⟨i.real, i.shift + o, none⟩ vs k).run default w = .ok () w' →
     (∀ n : Nat, k ≤ n → n < k + vs.length → ∃ u, w.cell? ⟨i.real, i.shift + o + n, none⟩ = some u) → (storeCells ⟨i.real, i.shift + o, none⟩ vs k).run P w = .ok () w' := by
    intro vs
    induction vs with
    | nil => intro k w w' h _; exact h
    | cons v vs ih =>
     intro k w w' h hc;obtain ⟨u, hu⟩ := hc k (Nat.le_refl _) (by simp);simp only [storeCells, addr_add, Sem.run_bind] at h ⊢;by_cases hv : v.oneCell' = true
     ·rw [run_store _ w _ v .plain hv] at h ⊢;simp only [hu] at h ⊢;by_cases hf : w.frozen? ⟨i.real, i.shift + o + k, none⟩ = true
      ·simp [hf] at h
      ·simp only [hf, Bool.false_eq_true, if_false, Result.andThen_ok] at h ⊢;refine ih (k + 1) _ _ h fun n hn hn' => ?_
       obtain ⟨u', hu'⟩ := hc n (by omega) (by simp; omega);exact ⟨u', by rw [World.cell?_setCell_other _ _ _ _ (by simp; omega)]; exact hu'⟩
     ·cases v <;> simp [Value.oneCell'] at hv <;> simp [store, Sem.run] at h
   refine ind vs' 0 w w' hrun fun n _ hn => ?_
   rw [cell_of hw'];exact ⟨_, Array.getElem?_eq_getElem (by omega)⟩
  ·intro k v hk;rw [hget k] at hk;rw [hget' (i.shift + k), hsh];simp only [Nat.zero_add, Nat.add_zero];by_cases hin : o ≤ k ∧ k < o + vs.length
   ·rw [if_pos hin] at hk;rw [if_pos (by omega)];exact hv.get hk
   ·rw [if_neg hin] at hk;rw [if_neg (by omega)];have := h8 k v hk;rw [hsh] at this; simpa using this
theorem zi2 (hC : CtxOk P C) (hr : Rel Γ H w) {t : TypeId} {p p' v v' : Value} {H' : AHeap} (h : storeA C H t p v = some H') (hp : VR Γ p p') (hv : VR Γ v v') :
  ∃ w', (Instr.storeAt t p' v').run P w = .ok () w' ∧ Rel Γ H' w' ∧ Adv Γ H w Γ H' w' := by
 unfold storeA at h;split at h
 ·rename_i b o;split at h
  ·rename_i cs z s i hb ht;simp only at h;split at h
   ·rename_i hc;simp only [Bool.and_eq_true, beq_iff_eq] at hc;obtain ⟨⟨hc1, hc2⟩, hc3⟩ := hc
    cases hw : writeAt cs o v.cells.toList with
    | none => simp [hw] at h
    | some cs' =>
     simp only [hw, Option.map_some, Option.some.injEq] at h;subst h
     cases hp with
     | ptr hj =>
      obtain ⟨w', h1, h2, h3⟩ := zes hr hb hc3 hw hv.cells hc2 hj;refine ⟨w', ?_, h2, h3⟩;unfold Instr.storeAt Instr.sureAddr storeVar
      have hsz : v'.cells.size = i.size := by
       rw [← hc1]; have := hv.cells.length; simpa using this.symm
      simp only [Sem.run_bind, Sem.run_pure, Result.andThen_ok, zaU hC ht, hsz, ne_eq, not_true_eq_false, if_false];exact h1 P
   ·cases h
  ·cases h
 ·cases h
end
end Go.Den
namespace Go.Den
theorem ziR : ∀ (x y : List UInt8), byteL x y = (x == y) := by
 intro x
 induction x with
 | nil => intro y; cases y <;> rfl
 | cons a x ih =>
  intro y
  cases y with
  | nil => rfl
  | cons b y =>
   have e : byteL (a :: x) (b :: y) = (match a.toNat == b.toNat with | true => byteL x y | false => false) := rfl;have e2 : ((a :: x) == (b :: y)) = (a == b && x == y) := rfl;rw [e, e2, ih];by_cases h : a = b
   ·subst h; simp
   ·have : ¬ a.toNat = b.toNat := fun e => h (UInt8.toNat_inj.1 e)
    have h1 : (a.toNat == b.toNat) = false := by simpa using this
    have h2 : (a == b) = false := by simpa using h
    rw [h1, h2]; rfl
theorem zdt (a b : ByteArray) : byteL a.data.toList b.data.toList = (a.toList == b.toList) := by
 rw [ziR, ByteArray.toList_eq, ByteArray.toList_eq]
section
variable {P : Program} {C : Ctx}
theorem zfO (cs : Array Value) (o n : Nat) : (cs.extract o (o + n)) = ⟨(cs.toList.drop o).take n⟩ := by
 apply Array.toList_inj.1;rw [Array.toList_extract];simp [List.extract]
theorem zk0 (hC : CtxOk P C) {t : TypeId} {i : TI} (ht : C.ty.get t = some i) {Γ : Ga} {cs : List Value} {cs' : Array Value} {o : Nat} {v : Value}
  (h : partA i cs o = some v) (hv : All2 (VR Γ) cs cs'.toList) (w : World) : ∃ v', (part t cs' o).run P w = .ok v' w ∧ VR Γ v v' := by
 unfold partA at h;unfold part;simp only [Sem.run_bind, zka hC ht, Result.andThen_ok];split at h
 ·rename_i ha;simp only [ha, if_true, Sem.run_bind, zaU hC ht, Result.andThen_ok, Sem.run_pure, zfO]
  cases hs : sliceIn cs o i.size with
  | none => simp [hs] at h
  | some l =>
   simp only [hs, Option.map_some, Option.some.injEq] at h;subst h;refine ⟨_, rfl, .agg ?_⟩;unfold sliceIn at hs;simp only at hs;split at hs
   ·cases hs; exact (hv.drop _).take _
   ·cases hs
 ·rename_i ha;obtain ⟨v', hv', hvr⟩ := hv.get h;have : cs'[o]? = some v' := by simpa using hv'
  simp only [ha, Bool.false_eq_true, if_false, this];exact ⟨v', rfl, hvr⟩
theorem zbC (hC : CtxOk P C) {t : TypeId} {i : TI} (ht : C.ty.get t = some i) {cs : Array Value} {o : Nat} {v : Value}
  (h : partA i cs.toList o = some v) (w : World) : (part t cs o).run P w = .ok v w := by
 unfold partA at h;unfold part;simp only [Sem.run_bind, zka hC ht, Result.andThen_ok];split at h
 ·rename_i ha;simp only [ha, if_true, Sem.run_bind, zaU hC ht, Result.andThen_ok, Sem.run_pure, zfO]
  cases hs : sliceIn cs.toList o i.size with
  | none => simp [hs] at h
  | some l =>
   simp only [hs, Option.map_some, Option.some.injEq] at h;subst h;unfold sliceIn at hs;simp only at hs;split at hs
   ·cases hs; rfl
   ·cases hs
 ·rename_i ha;have : cs[o]? = some v := by simpa using h
  simp only [ha, Bool.false_eq_true, if_false, this];rfl
theorem und_of (hC : CtxOk P C) {t : TypeId} {i : TI} (ht : C.ty.get t = some i) : P.underlying t = some i.und := by
 obtain ⟨_, _, h, _⟩ := zbN (hC.ty t i ht); exact h
theorem info_of (hC : CtxOk P C) {t : TypeId} {i : TI} (ht : C.ty.get t = some i) : ∃ x, P.info? t = some x ∧ P.cellsOf t = i.size := by
 obtain ⟨x, h, _, h2, _⟩ := zbN (hC.ty t i ht); exact ⟨x, h, by simp [Program.cellsOf, h, h2]⟩
theorem zg6 (hC : CtxOk P C) : ∀ (d : Nat) (t : TypeId) (x y : Value) (r : Bool), eqV P C d t x y = some r → ∀ (D : Nat) (w : World), d ≤ D → (Op.equalIn D t x y).run P w = .ok r w := by
 intro d
 induction d with
 | zero => intro t x y r h; simp [eqV] at h
 | succ d ih =>
  intro t x y r h D w hD;obtain ⟨D', rfl⟩ : ∃ D', D = D' + 1 := ⟨D - 1, by omega⟩
  unfold eqV at h;split at h
  ·rename_i i ht;have hu := und_of hC ht;split at h
   ·rename_i a b hund; cases h;simp [Op.equalIn, zas hC ht, hund]
   ·rename_i k a k' b hund;split at h
    ·rename_i hk; cases h; subst hk;simp [Op.equalIn, zas hC ht, hund]
    ·cases h
   ·rename_i a b hund; cases h;rw [run_equalIn_string (P := P) w D' t _ _ (by rw [hu, hund]), zdt]
   ·rename_i fs xs ys hund;split at h
    ·cases h
    ·rename_i hst;have hf : P.fieldsOf t = fs := by simp [Program.fieldsOf, hu, hund]
     rw [run_equalIn_struct w D' t xs ys (by rw [hf, hu, hund]) (by simpa using hst), hf]
     -- field by field
     clear hf hund hu ht
     revert h
     generalize fs.toList = l
     intro h
     induction l with
     | nil => simp only [eqFs] at h; cases h; rfl
     | cons f l ihl =>
      simp only [eqFs] at h;split at h
      ·cases h
      ·rename_i hn;have hn' : f.name ≠ "_" := by simpa using hn
       simp only [Op.eqFields, hn', ne_eq, not_false_eq_true, if_true];split at h
       ·rename_i fi hfi;split at h
        ·rename_i a b ha hb;simp only [Sem.run_bind, zbC hC hfi ha, zbC hC hfi hb, Result.andThen_ok];split at h
         ·rename_i he;simp only [ih _ _ _ _ he D' w (by omega), Result.andThen_ok];simpa using ihl h
         ·rename_i he;cases h;simp only [ih _ _ _ _ he D' w (by omega), Result.andThen_ok];rfl
         ·cases h
        ·cases h
       ·cases h
   ·rename_i n e xs ys hund;split at h
    ·rename_i ei hei;obtain ⟨info, hinfo, hcells⟩ := info_of hC hei;rw [run_equalIn_array w D' xs ys (by rw [hu, hund]) hinfo, hcells];clear hund hu ht
     revert h
     generalize List.range n = l
     intro h
     induction l with
     | nil => simp only [eqIs] at h; cases h; rfl
     | cons j l ihl =>
      simp only [eqIs] at h;simp only [Op.eqItems];split at h
      ·rename_i a b ha hb;simp only [Sem.run_bind, zbC hC hei ha, zbC hC hei hb, Result.andThen_ok];split at h
       ·rename_i he;simp only [ih _ _ _ _ he D' w (by omega), Result.andThen_ok];simpa using ihl h
       ·rename_i he;cases h;simp only [ih _ _ _ _ he D' w (by omega), Result.andThen_ok];rfl
       ·cases h
      ·cases h
    ·cases h
   ·cases h
  ·cases h
theorem flatAgg {Γ : Ga} {xs : Array Value} {y : Value} (h : VR Γ (.agg xs) y) (hf : xs.toList.all flatC = true) : y = .agg xs := by
 cases h with
 | agg h => rw [VR.flatL h hf]
set_option maxHeartbeats 1000000 in
theorem zjF (hC : CtxOk P C) {Γ : Ga} {t : TypeId} {x y x' y' : Value} {r : Bool} (h : eqA P C t x y = some r) (hx : VR Γ x x') (hy : VR Γ y y') (w : World) :
  (Op.equal t x' y').run P w = .ok r w ∧ ∀ op a b, (eqGuard op t a b x' y').run P w = .ok () w := by
 suffices hs : ∀ d, 20 ≤ d → (Op.equalIn (d + 1) t x' y').run P w = .ok r w ∧ ∀ op a b, (eqGuard op t a b x' y').run P w = .ok () w from hs 9999 (by omega)
 intro d hd;unfold eqA at h;split at h
 ·rename_i i ht;split at h
  ·rename_i a b hund;cases h;cases hx <;> cases hy <;> exact ⟨by simp [Op.equalIn, zas hC ht, hund], fun op a b => by cases op <;> simp [eqGuard]⟩
  ·rename_i b hund;cases h;cases hx <;> exact ⟨by cases hy <;> simp [Op.equalIn, zas hC ht, hund], fun op a b => by cases hy <;> cases op <;> simp [eqGuard]⟩
  ·rename_i a hund;cases h;cases hx <;> cases hy <;> exact ⟨by simp [Op.equalIn, zas hC ht, hund], fun op a b => by cases op <;> simp [eqGuard]⟩
  ·rename_i b _ _ hund;cases h;cases hx <;> exact ⟨by cases hy <;> simp [Op.equalIn, zas hC ht, hund], fun op a b => by cases hy <;> cases op <;> simp [eqGuard]⟩
  ·rename_i hund;cases h;cases hx <;> cases hy <;> exact ⟨by simp [Op.equalIn, zas hC ht, hund], fun op a b => by cases op <;> simp [eqGuard]⟩
  ·rename_i b hund;cases h;cases hx <;> exact ⟨by cases hy <;> simp [Op.equalIn, zas hC ht, hund], fun op a b => by cases hy <;> cases op <;> simp [eqGuard]⟩
  ·rename_i hund;cases h;cases hx <;> cases hy <;> exact ⟨by simp [Op.equalIn, zas hC ht, hund], fun op a b => by cases op <;> simp [eqGuard]⟩
  ·rename_i hund;cases h;cases hx <;> cases hy <;> exact ⟨by simp [Op.equalIn, zas hC ht, hund], fun op a b => by cases op <;> simp [eqGuard]⟩
  ·rename_i hund;cases h; cases hx;cases hy <;> exact ⟨by simp [Op.equalIn, zas hC ht, hund], fun op a b => by cases op <;> simp [eqGuard]⟩
  ·rename_i hund;cases h; cases hy;cases hx <;> exact ⟨by simp [Op.equalIn, zas hC ht, hund], fun op a b => by cases op <;> simp [eqGuard]⟩
  ·split at h
   ·rename_i hf;simp only [Bool.and_eq_true] at hf;split at h
    ·cases h
    ·rename_i hg;rw [flatAgg hx hf.1, flatAgg hy hf.2];refine ⟨zg6 hC 20 t _ _ r h (d + 1) w (by omega), fun op a b => run_eqGuard_agg w op t a b _ _ (by simpa using hg)⟩
   ·cases h
  ·cases h
 ·cases h
theorem zjy {Γ : Ga} {op : BinOp} {k : IntKind} {a b : Int} {v : Value} (h : intBin op k a b = some v) (hop : op ≠ .shl ∧ op ≠ .shr) (t : TypeId) (w : World) :
    (binOp op t (.int k a) (.int k b)).run P w = .ok v w ∧ VR Γ v v := by
  cases op <;> simp only [intBin, cmpInt, wrapI] at h <;>
    first
      | (cases h; refine ⟨?_, by constructor⟩; simp [binOp, Op.intArith, Op.intCmp]; done)
      | (cases h; refine ⟨?_, by constructor⟩; simp only [binOp, ne_eq, not_true_eq_false, if_false]; rfl)
      | (split at h
         · cases h
         · rename_i hb; cases h
           exact ⟨by simp [binOp, Op.intDiv, hb], by constructor⟩)
      | (exact absurd rfl hop.1)
      | (exact absurd rfl hop.2)
      | (simp at h)
end
end Go.Den
namespace Go.Den
section
variable {P : Program} {C : Ctx} {Γ : Ga}
theorem zi1 {op : BinOp} {a b : ByteArray} {v : Value} (h : strBin op a b = some v) (hop : op ≠ .shl ∧ op ≠ .shr) (t : TypeId) (w : World) :
    (binOp op t (.string a) (.string b)).run P w = .ok v w ∧ VR Γ v v := by
  have hb : (binOp op t (.string a) (.string b)) = Op.stringOp op a b := by
    cases op <;> first | rfl | exact absurd rfl hop.1 | exact absurd rfl hop.2
  rw [hb];unfold Op.stringOp
  cases op <;> simp only [strBin] at h <;>
    first
      | (cases h; refine ⟨?_, by constructor⟩; simp only [zdt, ByteArray.toList_eq]; rfl)
      | (split at h
         · rename_i hs; cases h;refine ⟨?_, by constructor⟩
           have : ¬ ((a.size + b.size : Nat) : Int) > IntKind.i64.max := by
             have : IntKind.i64.max = 9223372036854775807 := by decide
             rw [this]; omega
           simp only [this, if_false]; rfl
         · cases h)
      | (simp at h)
theorem znf (hC : CtxOk P C) {op : BinOp} {t : TypeId} {x y x' y' v : Value} (h : binA P C op t x y = some v) (hx : VR Γ x x') (hy : VR Γ y y') (w : World) :
  (binOp op t x' y').run P w = .ok v w ∧ VR Γ v v ∧ ∀ a b, (eqGuard op t a b x' y').run P w = .ok () w := by
 have gI : ∀ (op : BinOp) (k k' : IntKind) (a b : Int) (p q : Operand), (eqGuard op t p q (.int k a) (.int k' b)).run P w = .ok () w := by
  intro op k k' a b p q; cases op <;> simp [eqGuard]
 have gS : ∀ (op : BinOp) (a b : ByteArray) (p q : Operand), (eqGuard op t p q (.string a) (.string b)).run P w = .ok () w := by
  intro op a b p q; cases op <;> simp [eqGuard]
 unfold binA at h;split at h
 ·rename_i k a k' b;cases hx; cases hy;split at h
  ·cases h
  ·rename_i hb; cases h;refine ⟨?_, .int _ _, fun p q => gI _ _ _ _ _ p q⟩;simp only [binOp, Op.shift, hb, if_false]; rfl
 ·rename_i k a k' b;cases hx; cases hy;split at h
  ·cases h
  ·rename_i hb; cases h;refine ⟨?_, .int _ _, fun p q => gI _ _ _ _ _ p q⟩;simp only [binOp, Op.shift, hb, if_false]; rfl
 ·rename_i k a k' b h1 h2;cases hx; cases hy;split at h
  ·rename_i hk; subst hk;have := zjy (Γ := Γ) (P := P) h ⟨h1, h2⟩ t w;exact ⟨this.1, this.2, fun p q => gI _ _ _ _ _ p q⟩
  ·cases h
 ·rename_i a b h1 h2 h3;cases hx; cases hy
  have hop : op ≠ .shl ∧ op ≠ .shr := by
   constructor <;> intro e <;> subst e <;> simp [strBin] at h
  have := zi1 (Γ := Γ) (P := P) h hop t w;exact ⟨this.1, this.2, fun p q => gS _ _ _ p q⟩
 ·rename_i h1 h2 h3 h4
  cases he : eqA P C t x y with
  | none => simp [he] at h
  | some r =>
   simp only [he, Option.map_some, Option.some.injEq] at h;subst h;obtain ⟨e1, e2⟩ := zjF hC he hx hy w;refine ⟨?_, .bool _, fun p q => e2 _ p q⟩
   have : binOp .eql t x' y' = (do pure (.bool (← Op.equal t x' y'))) := by
    cases hx <;> cases hy <;> first | rfl | (exfalso; first | exact h3 _ _ _ _ rfl rfl | exact h4 _ _ rfl rfl)
   rw [this]; simp [e1]
 ·rename_i h1 h2 h3 h4
  cases he : eqA P C t x y with
  | none => simp [he] at h
  | some r =>
   simp only [he, Option.map_some, Option.some.injEq] at h;subst h;obtain ⟨e1, e2⟩ := zjF hC he hx hy w;refine ⟨?_, .bool _, fun p q => e2 _ p q⟩
   have : binOp .neq t x' y' = (do pure (.bool (!(← Op.equal t x' y')))) := by
    cases hx <;> cases hy <;> first | rfl | (exfalso; first | exact h3 _ _ _ _ rfl rfl | exact h4 _ _ rfl rfl)
   rw [this]; simp [e1]
 ·cases h
theorem znI {op : UnOp} {x x' v : Value} (h : unA op x = some v) (hx : VR Γ x x') (w : World) : (Op.unary op x').run P w = .ok v w ∧ VR Γ v v := by
 unfold unA at h;split at h
 ·cases h; cases hx;exact ⟨rfl, .int _ _⟩
 ·rename_i k n;cases hx;unfold intBin at h; cases h;exact ⟨rfl, .int _ _⟩
 ·cases h; cases hx;exact ⟨rfl, .bool _⟩
 ·cases h
theorem zkG (hC : CtxOk P C) {s d : TypeId} {x x' v : Value} (h : convA C s d x = some v) (hx : VR Γ x x') (w : World) :
  (convert s d x').run P w = .ok v w ∧ VR Γ v v := by
 unfold convA at h;split at h
 ·rename_i si di hs hd;split at h
  ·rename_i k k' n hund;cases h; cases hx;refine ⟨?_, .int _ _⟩;unfold convert;simp only [Sem.run_bind, zas hC hs, zas hC hd, Result.andThen_ok, hund];cases si.und <;> rfl
  ·rename_i b hund;cases h; cases hx;refine ⟨?_, .string _⟩;unfold convert;simp only [Sem.run_bind, zas hC hs, zas hC hd, Result.andThen_ok, hund];cases si.und <;> rfl
  ·cases h
 ·cases h
theorem zeT {t : TypeId} {i : Nat} {fd : Field} {fi : TI} (h : fieldsAt C t i = some (fd, fi)) :
  ∃ ti fs, C.ty.get t = some ti ∧ ti.und = .struct fs ∧ fs[i]? = some fd ∧ C.ty.get fd.type = some fi := by
 unfold fieldsAt at h;split at h
 ·rename_i ti ht;split at h
  ·rename_i fs hund;split at h
   ·rename_i f hf;split at h
    ·rename_i fi' hfi;cases h;exact ⟨ti, fs, ht, hund, hf, hfi⟩
    ·cases h
   ·cases h
  ·cases h
 ·cases h
theorem zfY (hC : CtxOk P C) {s : TypeId} {x x' v : Value} {f : Nat} (h : fieldAddrA C s x f = some v) (hx : VR Γ x x') (w : World) :
  ∃ v', (Instr.fieldAt s x' f).run P w = .ok v' w ∧ VR Γ v v' := by
 unfold fieldAddrA at h;split at h
 ·rename_i b o fd fi hf;obtain ⟨ti, fs, h1, h2, h3, h4⟩ := zeT hf;split at h
  ·cases h
  ·rename_i hz;cases h
   cases hx with
   | ptr hi =>
    rename_i i;refine ⟨.pointer (some ⟨i.real, i.shift + (o + fd.offset), none⟩), ?_, .ptr hi⟩;unfold Instr.fieldAt;simp only [Sem.run_bind, zas hC h1, Result.andThen_ok, h2, h3, Instr.sureAddr, Sem.run_pure, fieldPlace, zaU hC h4];have hz' : ¬ fi.size = 0 := by simpa using hz
    simp only [hz', if_false, Sem.run_pure, Result.andThen_ok, addr_add, Nat.add_assoc]
 ·cases h
theorem zjD (hC : CtxOk P C) {s : TypeId} {x x' v : Value} {f : Nat} (h : fieldA C s x f = some v) (hx : VR Γ x x') (w : World) :
  ∃ v', (Instr.field s x' f).run P w = .ok v' w ∧ VR Γ v v' := by
 unfold fieldA at h;split at h
 ·rename_i cs fd fi hf;obtain ⟨ti, fs, h1, h2, h3, h4⟩ := zeT hf
  cases hx with
  | agg hl =>
   obtain ⟨v', hr, hv⟩ := zk0 hC h4 (cs' := ⟨_⟩) h hl w;refine ⟨v', ?_, hv⟩;unfold Instr.field;simp only [Sem.run_bind, zas hC h1, Result.andThen_ok, h2, h3, asAgg, Sem.run_pure];exact hr
 ·cases h
theorem zge {x x' : Value} {n k : Nat} (h : idx x n = some k) (hx : VR Γ x x') : ∃ q i, x' = .int q i ∧ 0 ≤ i ∧ i < n ∧ i.toNat = k := by
 unfold idx at h;split at h
 ·rename_i q i;cases hx;split at h
  ·rename_i hb; cases h;exact ⟨q, i, rfl, hb.1, hb.2, rfl⟩
  ·cases h
 ·cases h
theorem zfX (hC : CtxOk P C) {t : TypeId} {x x' i i' v : Value} (h : indexAddrA C t x i = some v) (hx : VR Γ x x') (hi : VR Γ i i') (w : World) :
  ∃ v', (Instr.indexAt t x' i').run P w = .ok v' w ∧ VR Γ v v' := by
 unfold indexAddrA at h;split at h
 ·rename_i ti ht;split at h
  ·rename_i n e b o hund;split at h
   ·rename_i k ei hk he;cases h;obtain ⟨q, j, rfl, h0, h1, rfl⟩ := zge hk hi
    cases hx with
    | ptr hj =>
     rename_i bi;refine ⟨.pointer (some ⟨bi.real, bi.shift + (o + j.toNat * ei.size), none⟩), ?_, .ptr hj⟩;unfold Instr.indexAt;simp only [Sem.run_bind, asIntOf, Sem.run_pure, Result.andThen_ok, zas hC ht, hund, Instr.sureAddr, h0, h1, and_self, if_true, zaU hC he, addr_add, Nat.add_assoc]
   ·cases h
  ·rename_i e b o n c hund;split at h
   ·rename_i k ei hk he;cases h;obtain ⟨q, j, rfl, h0, h1, rfl⟩ := zge hk hi
    cases hx with
    | slice hj hc =>
     rename_i c' bi;refine ⟨.pointer (some ⟨bi.real, bi.shift + (o + j.toNat * ei.size), none⟩), ?_, .ptr hj⟩;unfold Instr.indexAt;simp only [Sem.run_bind, asIntOf, Sem.run_pure, Result.andThen_ok, zas hC ht, hund, h0, h1, and_self, if_true, zaU hC he, addr_add, Nat.add_assoc]
   ·cases h
  ·cases h
 ·cases h
theorem zjz (hC : CtxOk P C) {t : TypeId} {x x' i i' v : Value} (h : indexA C t x i = some v) (hx : VR Γ x x') (hi : VR Γ i i') (w : World) :
  ∃ v', (Instr.index t x' i').run P w = .ok v' w ∧ VR Γ v v' := by
 unfold indexA at h;split at h
 ·rename_i ti ht;split at h
  ·rename_i n e cs hund;split at h
   ·rename_i k ei hk he;obtain ⟨q, j, rfl, h0, h1, rfl⟩ := zge hk hi
    cases hx with
    | agg hl =>
     obtain ⟨v', hr, hv⟩ := zk0 hC he (cs' := ⟨_⟩) h hl w;refine ⟨v', ?_, hv⟩;unfold Instr.index;simp only [Sem.run_bind, asIntOf, Sem.run_pure, Result.andThen_ok, zas hC ht, hund, h0, h1, and_self, if_true, zaU hC he];exact hr
   ·cases h
  ·rename_i s hund;split at h
   ·rename_i k hk;obtain ⟨q, j, rfl, h0, h1, rfl⟩ := zge hk hi;cases hx;split at h
    ·rename_i b hb;cases h;refine ⟨_, ?_, .int _ _⟩;unfold Instr.index;have hlt : j.toNat < s.size := by omega
     have hs : s[j.toNat]? = some b := by
      have h2 : s.data[j.toNat]? = some b := by simpa using hb
      have h3 : s[j.toNat]? = some (s[j.toNat]) := getElem?_pos s j.toNat hlt;rw [h3];have : s.data[j.toNat]? = some (s.data[j.toNat]'hlt) := Array.getElem?_eq_getElem _;rw [h2] at this;exact this.symm
     simp only [Sem.run_bind, asIntOf, Sem.run_pure, Result.andThen_ok, zas hC ht, hund, h0, if_true, hs]
    ·cases h
   ·cases h
  ·cases h
 ·cases h
theorem zcb {x : Option Value} {x' : Option Value} {d y y' n : Nat} {code : BoundsCode} (h : bound x d y = some n) (hy : y ≤ y') (w : World) :
  (x = none ∧ n = d) ∨ ((∀ v, x = some v → ∃ v', x' = some v' ∧ VR Γ v v') → ∃ v', x' = some v' ∧ n ≤ y ∧ (Instr.sliceBound v' y' code).run P w = .ok n w) := by
 unfold bound at h;split at h
 ·cases h; exact .inl ⟨rfl, rfl⟩
 ·rename_i q i;right;intro hx;obtain ⟨v', rfl, hv⟩ := hx _ rfl;cases hv;split at h
  ·rename_i hb; cases h;refine ⟨_, rfl, by omega, ?_⟩;unfold Instr.sliceBound;have : 0 ≤ i ∧ i ≤ (y' : Int) := ⟨hb.1, by omega⟩
   simp only [Sem.run_bind, asIntOf, Sem.run_pure, Result.andThen_ok, this, and_self, if_true]
  ·cases h
 ·cases h
def OptR (Γ : Ga) (x x' : Option Value) : Prop := match x, x' with
 | none, none => True
 | some a, some b => VR Γ a b
 | _, _ => False
theorem OptR.some' {x x' : Option Value} (h : OptR Γ x x') : ∀ v, x = some v → ∃ v', x' = some v' ∧ VR Γ v v' := by
 intro v hv; subst hv
 cases x' with
 | none => exact h.elim
 | some b => exact ⟨b, rfl, h⟩
theorem zb0 {s : Bool} {len c c' : Nat} {lo hi mx lo' hi' mx' : Option Value} {l h m : Nat} (hb : bounds3 len c lo hi mx = some (l, h, m)) (hc : c ≤ c')
  (h1 : OptR Γ lo lo') (h2 : OptR Γ hi hi') (h3 : OptR Γ mx mx') (w : World) :
  (Instr.sliceBounds s len c' lo' hi' mx').run P w = .ok (l, h, if mx.isSome then m else c') w ∧ (mx = none → m = c) ∧ m ≤ c ∧ (hi = none → mx = none ∧ h = len) ∧ (hi ≠ none → h ≤ m) ∧ (lo = none → l = 0) ∧ (lo ≠ none → l ≤ h) ∧ l ≤ m := by
 unfold bounds3 at hb;split at hb
 ·cases hb
 ·rename_i m0 hm;split at hb
  ·cases hb
  ·rename_i hh hhi;split at hb
   ·cases hb
   ·rename_i ll hlo;split at hb
    ·cases hb
    ·rename_i hboth;cases hb;simp only [Bool.or_eq_true, decide_eq_true_eq, not_or] at hboth;obtain ⟨hboth, hlm⟩ := hboth;have hlm : l ≤ m := by omega
     unfold Instr.sliceBounds
     -- the greatest
     cases mx with
     | none =>
      cases mx' with
      | some _ => exact h3.elim
      | none =>
       simp only [bound, Option.some.injEq] at hm;subst hm;simp only [Option.isSome_none, Bool.false_eq_true, if_false] at hhi ⊢
       cases hi with
       | none =>
        cases hi' with
        | some _ => exact h2.elim
        | none =>
         simp only [bound, Option.some.injEq] at hhi;subst hhi
         cases lo with
         | none =>
          cases lo' with
          | some _ => exact h1.elim
          | none =>
           simp only [bound, Option.some.injEq] at hlo;subst hlo
           simp
         | some lv =>
          rcases zcb (P := P) (Γ := Γ) (x' := lo') (code := .sliceB) hlo (Nat.le_refl _) w with ⟨hn, _⟩ | hs
          ·cases hn
          ·obtain ⟨v', rfl, hle, hr⟩ := hs h1.some'
           simp [hr, hle, hlm]
       | some hv =>
        rcases zcb (P := P) (Γ := Γ) (x' := hi') (code := if s then .sliceAcap else .sliceAlen) hhi hc w with ⟨hn, _⟩ | hs
        ·cases hn
        ·obtain ⟨v', rfl, hle, hr⟩ := hs h2.some'
         cases lo with
         | none =>
          cases lo' with
          | some _ => exact h1.elim
          | none =>
           simp only [bound, Option.some.injEq] at hlo;subst hlo
           simp [hr, hle, hlm]
         | some lv =>
          rcases zcb (P := P) (Γ := Γ) (x' := lo') (code := .sliceB) hlo (Nat.le_refl _) w with ⟨hn, _⟩ | hs2
          ·cases hn
          ·obtain ⟨v2, rfl, hle2, hr2⟩ := hs2 h1.some'
           simp [hr, hle, hr2, hle2, hlm]
     | some mv =>
      rcases zcb (P := P) (Γ := Γ) (x' := mx') (code := if s then .slice3Acap else .slice3Alen) hm hc w with ⟨hn, _⟩ | hs0
      ·cases hn
      ·obtain ⟨v0, rfl, hle0, hr0⟩ := hs0 h3.some'
       cases hi with
       | none => simp at hboth
       | some hv =>
        simp only [Option.isSome_some, if_true] at hhi ⊢;rcases zcb (P := P) (Γ := Γ) (x' := hi') (code := .slice3B) hhi (Nat.le_refl _) w with ⟨hn, _⟩ | hs
        ·cases hn
        ·obtain ⟨v', rfl, hle, hr⟩ := hs h2.some'
         cases lo with
         | none =>
          cases lo' with
          | some _ => exact h1.elim
          | none =>
           simp only [bound, Option.some.injEq] at hlo;subst hlo
           simp [hr0, hr, hle, hle0]
         | some lv =>
          rcases zcb (P := P) (Γ := Γ) (x' := lo') (code := .slice3C) hlo (Nat.le_refl _) w with ⟨hn, _⟩ | hs2
          ·cases hn
          ·obtain ⟨v2, rfl, hle2, hr2⟩ := hs2 h1.some';simp [hr0, hr, hle, hr2, hle2, hle0, hlm]
end
end Go.Den
namespace Go.Den
section
variable {P : Program} {C : Ctx} {Γ : Ga} {H : AHeap} {w : World}
theorem zg5 (hr : Rel Γ H w) {b o c c' : Nat} {i : BI} (hi : Γ b = some i) (hc : CapR i o c c') (h : exactCap H b o c = true) : c' = c := by
 unfold exactCap at h;split at h
 ·rename_i cs z s ro hb;obtain ⟨j, rc, e, fz, hj, hw, h1, h2, h3, _⟩ := hr.cells hb;rw [hi] at hj; cases hj;rcases hc with hc | ⟨hs, hc, _⟩
  ·exact hc
  ·exfalso;rw [h3] at hs; subst hs;rw [h2, h1] at hc;simp [hc] at h
 ·cases h
theorem esz_is (hr : Rel Γ H w) {b n : Nat} {i : BI} (hi : Γ b = some i) (h : eszIs H b n = true) : i.esz = n := by
 unfold eszIs at h;split at h
 ·rename_i cs z s ro hb;obtain ⟨j, rc, e, fz, hj, hw, h1, h2, h3, _⟩ := hr.cells hb;rw [hi] at hj; cases hj;rw [h2]; simpa using h
 ·cases h
theorem zi5 (hC : CtxOk P C) (hr : Rel Γ H w) {t : TypeId} {x x' v : Value} {lo hi mx lo' hi' mx' : Option Value} (h : sliceA C H t x lo hi mx = some v) (hx : VR Γ x x')
    (h1 : OptR Γ lo lo') (h2 : OptR Γ hi hi') (h3 : OptR Γ mx mx') : ∃ v', (Instr.sliceAt t x' lo' hi' mx').run P w = .ok v' w ∧ VR Γ v v' := by
  unfold sliceA at h;split at h
  · rename_i ti ht;unfold Instr.sliceAt;simp only [Sem.run_bind, zas hC ht, Result.andThen_ok];split at h
    · rename_i n e b o hund;split at h
      · rename_i l hh m ei hb he;cases h
        cases hx with
        | ptr hj =>
          rename_i bi;obtain ⟨b1, b2, b3, b4, b5, b6, b7, b8⟩ := zb0 (P := P) (Γ := Γ) (s := false) hb (Nat.le_refl _) h1 h2 h3 w
          have hm : (if mx.isSome = true then m else n) = m := by
            cases mx with
            | none => simp [b2 rfl]
            | some _ => rfl
          rw [hm] at b1;simp only [hund, Sem.run_bind, Instr.sureAddr, Sem.run_pure, Result.andThen_ok, b1, zaU hC he, addr_add];refine ⟨_, rfl, ?_⟩;by_cases hml : m = l
          · simp only [hml, beq_self_eq_true, if_true];exact .slice hj (.inl rfl)
          · have : (m == l) = false := by simpa using hml
            simp only [hml, this, Bool.false_eq_true, if_false];rw [Nat.add_assoc];exact .slice hj (.inl rfl)
      · cases h
    · rename_i s hund;split at h
      · rename_i l hh m hb;split at h
        · cases h
        · rename_i hmx;cases h;cases hx;have hmx' : mx = none := by simpa using hmx
          subst hmx'
          cases mx' with
          | some _ => exact h3.elim
          | none =>
            obtain ⟨b1, _⟩ := zb0 (P := P) (Γ := Γ) (s := false) (mx' := none) hb (Nat.le_refl _) h1 h2 trivial w;unfold Instr.slice;simp only [hund, Sem.run_bind, zas hC ht, Result.andThen_ok, Option.isSome_none, Bool.false_eq_true, if_false, Sem.run_pure];simp only [Option.isSome_none, Bool.false_eq_true, if_false] at b1;simp only [b1, Result.andThen_ok];exact ⟨_, rfl, .string _⟩
      · cases h
    · rename_i e b o n c hund;split at h
      · rename_i l hh m ei hb he
        cases hx with
        | slice hj hc =>
          rename_i c' bi
          have hcc : c ≤ c' := by
            rcases hc with hc | ⟨_, _, hc, _⟩ <;> omega
          obtain ⟨b1, b2, b3, b4, b5, b6, b7, b8⟩ := zb0 (P := P) (Γ := Γ) (s := true) hb hcc h1 h2 h3 w;unfold Instr.slice;simp only [hund, Sem.run_bind, zas hC ht, Result.andThen_ok, b1, zaU hC he, Sem.run_pure];refine ⟨_, rfl, ?_⟩
          -- the capacity that comes out
          have hcap : (if mx.isSome = true then m else c') = m ∨ (mx = none ∧ m = c ∧ ¬ c' = c) := by
            cases mx with
            | some _ => exact .inl rfl
            | none =>
              have := b2 rfl;by_cases hcc' : c' = c
              · left; simp [this, hcc']
              · right; exact ⟨rfl, this, hcc'⟩
          split at h
          · rename_i hl0;cases h;have hl : l = 0 := by simpa using hl0
            subst hl
            have addr : (if (if mx.isSome = true then m else c') = 0 then some (⟨bi.real, bi.shift + o, none⟩ : Addr) else (some (⟨bi.real, bi.shift + o, none⟩ : Addr)).map (·.add (0 * ei.size))) = some ⟨bi.real, bi.shift + o, none⟩ := by
              by_cases hz : (if mx.isSome = true then m else c') = 0
              · rw [if_pos hz]
              · rw [if_neg hz]; simp [addr_add]
            rw [addr];refine .slice hj ?_;rcases hcap with hm | ⟨hm1, hm2, hm3⟩
            · rw [hm]; exact .inl rfl
            · subst hm1; simp only [Option.isSome_none, Bool.false_eq_true, if_false, Nat.sub_zero];rw [hm2]; exact hc
          · rename_i hl0
            have exact : mx.isSome = true ∨ exactCap H b o c = true → (if mx.isSome = true then m else c') = m := by
              intro hh';rcases hcap with hm | ⟨hm1, hm2, hm3⟩
              · exact hm
              · rcases hh' with hh' | hh'
                · rw [hm1] at hh'; simp at hh'
                · exact absurd (zg5 hr hj hc hh') hm3
            split at h
            · rename_i hml;split at h
              · rename_i hex;cases h;have hml' : m = l := by simpa using hml
                simp only [Bool.or_eq_true] at hex;rw [exact hex];simp only [hml', if_true];exact .slice hj (.inl rfl)
              · split at h
                · rename_i hhl;cases h
                  have h0 : hh - l = 0 := by have : hh = l := by simpa using hhl
                                             omega
                  rw [h0];generalize (if mx.isSome = true then m else c') = q
                  by_cases hql : q = l
                  · rw [if_pos hql]; exact .sliceE _ _
                  · rw [if_neg hql]; exact .sliceE _ _
                · cases h
            · rename_i hml;have hml' : ¬ m = l := by simpa using hml
              split at h
              · rename_i hex;cases h;simp only [Bool.or_eq_true] at hex
                have caseE : (if mx.isSome = true then m else c') = m → VR Γ (.slice (some ⟨b, o + l * ei.size, none⟩) (hh - l) (m - l))
                    (.slice (if (if mx.isSome = true then m else c') = l then some ⟨bi.real, bi.shift + o, none⟩ else (some (⟨bi.real, bi.shift + o, none⟩ : Addr)).map (·.add (l * ei.size))) (hh - l) ((if mx.isSome = true then m else c') - l)) := by
                  intro hm;rw [hm, if_neg hml'];simp only [Option.map_some, addr_add, Nat.add_assoc];exact .slice hj (.inl rfl)
                rcases hex with hex | hez
                · exact caseE (exact hex)
                · rcases hcap with hm | ⟨hm1, hm2, hm3⟩
                  · exact caseE hm
                  · have hes := esz_is hr hj hez;subst hm1;simp only [Option.isSome_none, Bool.false_eq_true, if_false];rcases hc with hc | ⟨k1, k2, k3, k4⟩
                    · exact absurd hc hm3
                    · have hcl : ¬ c' = l := by omega
                      rw [if_neg hcl];simp only [Option.map_some, addr_add, Nat.add_assoc];refine .slice hj (.inr ⟨k1, ?_, by omega, ?_⟩)
                      · rw [← hes, hm2, ← k2];have : c = l + (c - l) := by omega
                        rw [Nat.add_assoc, ← Nat.add_mul, ← this]
                      · rw [← hes];have : c' = l + (c' - l) := by omega
                        calc bi.shift + (o + l * bi.esz) + (c' - l) * bi.esz = bi.shift + o + (l + (c' - l)) * bi.esz := by rw [Nat.add_mul]; omega
                          _ = bi.shift + o + c' * bi.esz := by rw [← this]
                          _ ≤ bi.rsize := k4
              · cases h
      · cases h
    · rename_i e hund;split at h
      · rename_i lhm _ hb he;cases h;cases hx;obtain ⟨l, hh, m⟩ := lhm;obtain ⟨b1, b2, b3, b4, b5, b6, b7, b8⟩ := zb0 (P := P) (Γ := Γ) (s := true) hb (Nat.le_refl _) h1 h2 h3 w;unfold Instr.slice;have hm0 : m = 0 := by omega
        have hcap : (if mx.isSome = true then m else 0) = 0 := by rw [hm0]; split <;> rfl
        have hh0 : hh = 0 := by
          by_cases hhi : hi = none
          · exact (b4 hhi).2
          · have := b5 hhi; omega
        have hl0 : l = 0 := by
          by_cases hlo : lo = none
          · exact b6 hlo
          · have := b7 hlo; omega
        rw [hcap] at b1;subst hm0 hh0 hl0;simp only [hund, Sem.run_bind, zas hC ht, Result.andThen_ok, b1];simp only [zaU hC he, Result.andThen_ok, if_true, Sem.run_pure];exact ⟨_, rfl, .sliceN 0 0⟩
      · cases h
    · rename_i e hund;split at h
      · rename_i lhm _ hb he;cases h;cases hx;obtain ⟨l, hh, m⟩ := lhm;obtain ⟨b1, b2, b3, b4, b5, b6, b7, b8⟩ := zb0 (P := P) (Γ := Γ) (s := true) hb (Nat.le_refl _) h1 h2 h3 w;unfold Instr.slice;have hm0 : m = 0 := by omega
        have hcap : (if mx.isSome = true then m else 0) = 0 := by rw [hm0]; split <;> rfl
        have hh0 : hh = 0 := by
          by_cases hhi : hi = none
          · exact (b4 hhi).2
          · have := b5 hhi; omega
        have hl0 : l = 0 := by
          by_cases hlo : lo = none
          · exact b6 hlo
          · have := b7 hlo; omega
        rw [hcap] at b1;subst hm0 hh0 hl0;simp only [hund, Sem.run_bind, zas hC ht, Result.andThen_ok, b1];simp only [zaU hC he, Result.andThen_ok, if_true, Sem.run_pure];exact ⟨_, rfl, .sliceZ _⟩
      · cases h
    · cases h
  · cases h
end
end Go.Den
namespace Go.Den
section
variable {P : Program} {C : Ctx} {Γ : Ga} {H : AHeap} {w : World}
theorem zeQ (hr : Rel Γ H w) {cs cs' rest : List Value} (e : TypeId) (esz : Nat) (slack : Bool) (hv : All2 (VR Γ) cs cs') :
  ∃ Γ' i, Rel Γ' (H.add (.cells cs esz slack false)) (w.alloc (.cells ⟨cs' ++ rest⟩ e)) ∧ Adv Γ H w Γ' (H.add (.cells cs esz slack false)) (w.alloc (.cells ⟨cs' ++ rest⟩ e)) ∧
   Γ' H.fresh = some i ∧ i.real = w.heap.size ∧ i.rsize = cs'.length + rest.length ∧ i.shift = 0 ∧ i.size = cs.length ∧ i.esz = esz ∧ i.slack = slack := by
 let i : BI := { real := w.heap.size, rsize := cs'.length + rest.length, shift := 0, size := cs.length, esz, slack }
 have hl := hv.length
 obtain ⟨h1, h2⟩ := hr.add (.cells cs esz slack false) (.cells ⟨cs' ++ rest⟩ e) i rfl
  ⟨_, e, (0, 0), rfl, rfl, rfl, rfl, by simp [i]; omega, by simp [i], fun _ => ⟨rfl, fun n => by simp⟩, fun _ => rfl, fun k v hk => by
   obtain ⟨v', h1, h2⟩ := hv.get hk;have hlt : k < cs'.length := (List.getElem?_eq_some_iff.1 h1).1;refine ⟨v', ?_, h2⟩;have : i.shift + k = k := by simp [i]
   rw [this];rw [← Array.getElem?_toList];rw [List.getElem?_append_left hlt]; exact h1⟩
 exact ⟨Γ.upd H.fresh i, i, h1, h2, by simp [Ga.upd], rfl, rfl, rfl, rfl, rfl, rfl⟩
theorem zhI (hr : Rel Γ H w) {cs cs' : List Value} {v : Value} {H' : AHeap} {n : Nat} {s : Bool} (e : TypeId) (h : newA H cs n s = some (v, H')) (hv : All2 (VR Γ) cs cs') :
  ∃ Γ' v' w', (newRow e ⟨cs'⟩).run P w = .ok ⟨w.heap.size, 0, none⟩ w' ∧ v' = .pointer (some ⟨w.heap.size, 0, none⟩) ∧ Rel Γ' H' w' ∧ Adv Γ H w Γ' H' w' ∧ VR Γ' v v' := by
 unfold newA at h;split at h
 ·cases h;obtain ⟨Γ', i, h1, h2, h3, h4, h5, h6, h7, h8, h9⟩ := zeQ hr (rest := []) e n s hv;refine ⟨Γ', _, _, ?_, rfl, h1, h2, ?_⟩
  ·simp [newRow]
  ·have := VR.ptr (Γ := Γ') (o := 0) h3;rw [h4, h6] at this; exact this
 ·cases h
theorem zbK {l : List Value} (h : l.all constOk = true) : All2 (VR Γ) l l :=
 All2.zkg fun a ha => .const (List.all_eq_true.1 h a ha)
theorem zbg {i : TI} {z : List Value} (h : zerosOf i = some z) : ∃ v, i.zero = some v ∧ v.cells.toList = z ∧ z.length = i.size ∧ z.all constOk = true := by
 unfold zerosOf at h;split at h
 ·rename_i v hv;simp only at h;split at h
  ·rename_i hc; cases h;simp only [Bool.and_eq_true, beq_iff_eq] at hc;exact ⟨v, hv, rfl, hc.1, hc.2⟩
  ·cases h
 ·cases h
theorem zpJ : ∀ (vs : List Value) (cells : Array Value) (off : Nat) (k0 : Nat), off + k0 + vs.length ≤ cells.size →
  ∃ r : Array Value, (vs.zipIdx k0).foldl (fun cs (x : Value × Nat) => cs.setIfInBounds (off + x.2) x.1) cells = r ∧ r.size = cells.size ∧
   ∀ k, r[k]? = if off + k0 ≤ k ∧ k < off + k0 + vs.length then vs[k - (off + k0)]? else cells[k]? := by
 intro vs
 induction vs with
 | nil => intro cells off k0 _; exact ⟨cells, rfl, rfl, fun k => by rw [if_neg (by simp)]⟩
 | cons v vs ih =>
  intro cells off k0 hle;simp only [List.length_cons] at hle;obtain ⟨r, h1, h2, h3⟩ := ih (cells.setIfInBounds (off + k0) v) off (k0 + 1) (by simp; omega);refine ⟨r, by simpa [List.zipIdx_cons] using h1, by simpa using h2, fun k => ?_⟩;rw [h3 k];by_cases c1 : off + (k0 + 1) ≤ k ∧ k < off + (k0 + 1) + vs.length
  ·rw [if_pos c1, if_pos (by simp; omega)];have : k - (off + k0) = (k - (off + (k0 + 1))) + 1 := by omega
   rw [this]; simp
  ·rw [if_neg c1];by_cases c2 : k = off + k0
   ·subst c2;rw [if_pos (by simp)];have : off + k0 < cells.size := by omega
    simp [this]
   ·rw [if_neg (by simp; omega), Array.getElem?_setIfInBounds_ne (fun e => c2 e.symm)]
theorem zft : ∀ (ps ps' : List (Nat × Value)) (cs l : List Value) (cs' : Array Value) (place place' : Nat → Option (Nat × Nat)), (∀ i r, place i = some r → place' i = some r) →
  fillA cs place ps = some l → All2 (VR Γ) cs cs'.toList → All2 (fun a b => a.1 = b.1 ∧ VR Γ a.2 b.2) ps ps' →
   ∃ l', Instr.fill place' cs' ps' = some l' ∧ All2 (VR Γ) l l'.toList := by
 intro ps
 induction ps with
 | nil =>
  intro ps' cs l cs' place place' _ h hv hp;cases hp;simp only [fillA] at h; cases h
  exact ⟨cs', rfl, hv⟩
 | cons p ps ih =>
  intro ps' cs l cs' place place' hpl h hv hp
  cases hp with
  | cons hp1 hp2 =>
   rename_i p' ps';obtain ⟨i, v⟩ := p;obtain ⟨i', v'⟩ := p';obtain ⟨hi, hvv⟩ := hp1;simp only at hi hvv;subst hi;simp only [fillA] at h;split at h
   ·rename_i o n hpi;split at h
    ·rename_i hn;split at h
     ·rename_i cs1 hw;have hcl := hvv.cells;have hll := hcl.length;simp only [Bool.and_eq_true, beq_iff_eq, bne_iff_ne] at hn;obtain ⟨hn', hn0⟩ := hn;obtain ⟨w1, w2, w3⟩ := zfF hw;have hvl := hv.length;have hsz : v'.cells.size = n := by simpa [hn'] using hll.symm
      have hfit : o + v'.cells.size ≤ cs'.size ∨ v'.cells.size = 0 := by
       rcases w2 with w2 | w2
       ·right; rw [w2] at hll; simpa using hll.symm
       ·left;have : cs'.size = cs.length := by simpa using hvl.symm
        omega
      simp only [Instr.fill, hpl i _ hpi];have hz : ¬ v'.cells.size = 0 := by omega
      ·have hle : o + v'.cells.size ≤ cs'.size := by
        rcases hfit with h' | h'
        ·exact h'
        ·exact absurd h' hz
       obtain ⟨r, r1, r2, r3⟩ := zpJ v'.cells.toList cs' o 0 (by simpa using hle)
       have hcond : (v'.cells.size ≠ n || decide (o + v'.cells.size > cs'.size)) = false := by
        simp [hsz]; omega
       rw [hcond];simp only [Bool.false_eq_true, if_false]
       have hfold : (Array.foldl (fun cs (x : Value × Nat) => cs.setIfInBounds (o + x.2) x.1) cs' v'.cells.zipIdx) = r := by
        rw [← Array.foldl_toList, Array.toList_zipIdx]; exact r1
       refine ih ps' cs1 l _ place place' hpl h ?_ hp2;show All2 (VR Γ) cs1 (Array.foldl (fun cs (x : Value × Nat) => cs.setIfInBounds (o + x.2) x.1) cs' v'.cells.zipIdx).toList;rw [hfold];refine All2.mk ?_ fun k a hk => ?_
       ·rw [w1]; simp [r2]; simpa using hvl
       ·rw [w3 k] at hk;have := r3 k;simp only [Nat.add_zero] at this;have e : r.toList[k]? = r[k]? := by simp
        rw [e, this];by_cases hin : o ≤ k ∧ k < o + v.cells.toList.length
        ·rw [if_pos hin] at hk;rw [if_pos (by omega)];exact hcl.get hk
        ·rw [if_neg hin] at hk;rw [if_neg (by omega)];obtain ⟨b, hb1, hb2⟩ := hv.get hk;exact ⟨b, by simpa using hb1, hb2⟩
     ·cases h
    ·cases h
   ·cases h
end
end Go.Den
namespace Go.Den
section
variable {P : Program} {C : Ctx} {Γ : Ga} {H : AHeap} {w : World}
theorem zkp (hC : CtxOk P C) : ∀ (fs : List Field), fs.all (fun f => (C.ty.get f.type).isSome) = true → ∀ (w : World),
  ∃ l : List (Nat × Nat), (fs.mapM fun (f : Field) => (do pure (f.offset, ← sizeOf f.type) : Sem (Nat × Nat))).run P w = .ok l w ∧ l.length = fs.length ∧
   ∀ (i : Nat) (f : Field) (fi : TI), fs[i]? = some f → C.ty.get f.type = some fi → l[i]? = some (f.offset, fi.size) := by
 intro fs
 induction fs with
 | nil => intro _ w; exact ⟨[], by simp, rfl, fun i f fi h => by simp at h⟩
 | cons f fs ih =>
  intro h w;simp only [List.all_cons, Bool.and_eq_true] at h;obtain ⟨fi, hfi⟩ := Option.isSome_iff_exists.1 h.1;obtain ⟨l, h1, h2, h3⟩ := ih h.2 w;refine ⟨(f.offset, fi.size) :: l, ?_, by simp [h2], fun i g gi hg hgi => ?_⟩
  ·rw [List.mapM_cons];simp only [Sem.run_bind, zaU hC hfi, Result.andThen_ok, Sem.run_pure, h1]
  ·cases i with
   | zero =>
    simp at hg; subst hg
    rw [hfi] at hgi; cases hgi; rfl
   | succ i => simpa using h3 i g gi (by simpa using hg) hgi
theorem zjW (hC : CtxOk P C) {t : TypeId} {ps ps' : List (Nat × Value)} {v : Value} (h : buildA C t ps = some v) (hp : All2 (fun a b => a.1 = b.1 ∧ VR Γ a.2 b.2) ps ps') (w : World) :
  ∃ v', (Instr.build t ⟨ps'⟩).run P w = .ok v' w ∧ VR Γ v v' := by
 unfold buildA at h;split at h
 ·rename_i ti ht;split at h
  ·rename_i z fs hz hund;obtain ⟨zv, hz1, hz2, hz3, hz4⟩ := zbg hz;split at h
   ·rename_i hall;simp only [Option.map_eq_some_iff] at h;obtain ⟨l, hf, rfl⟩ := h
    ·obtain ⟨pl, p1, p2, p3⟩ := zkp hC fs.toList hall w
     have hpl : (fs.mapM fun (f : Field) => (do pure (f.offset, ← sizeOf f.type) : Sem (Nat × Nat))).run P w = .ok ⟨pl⟩ w := by
      rw [Array.mapM_eq_mapM_toList];simp only [Sem.run_map, p1, Result.andThen_ok]
     obtain ⟨l', f1, f2⟩ := zft ps ps' z l zv.cells _ (fun i => (⟨pl⟩ : Array (Nat × Nat))[i]?) (by
      intro i r hi
      cases hfi : fs[i]? with
      | none => simp [hfi] at hi
      | some f =>
       simp only [hfi] at hi
       cases hti : C.ty.get f.type with
       | none => simp [hti] at hi
       | some fi =>
        simp only [hti, Option.some.injEq] at hi;subst hi;rw [← Array.getElem?_toList];exact p3 i f fi (by simpa using hfi) hti) hf (by rw [hz2]; exact zbK hz4) hp
     refine ⟨.agg l', ?_, ?_⟩
     ·unfold Instr.build;simp only [Sem.run_bind, zcl hC ht hz1, zas hC ht, Result.andThen_ok, hund, hpl];simp only [f1, Sem.run_pure]
     ·cases l'; exact .agg f2
   ·cases h
  ·rename_i z n e hz hund;obtain ⟨zv, hz1, hz2, hz3, hz4⟩ := zbg hz;split at h
   ·rename_i ei he
    cases hf : fillA z (fun i => some (i * ei.size, ei.size)) ps with
    | none => simp [hf] at h
    | some l =>
     simp only [hf, Option.map_some, Option.some.injEq] at h;subst h;obtain ⟨l', f1, f2⟩ := zft ps ps' z l zv.cells _ (fun i => some (i * ei.size, ei.size)) (fun _ _ h => h) hf (by rw [hz2]; exact zbK hz4) hp;refine ⟨.agg l', ?_, ?_⟩
     ·unfold Instr.build;simp only [Sem.run_bind, zcl hC ht hz1, zas hC ht, Result.andThen_ok, hund, zaU hC he, f1, Sem.run_pure]
     ·cases l'; exact .agg f2
   ·cases h
  ·cases h
 ·cases h
theorem zp8 (z : List Value) : ∀ (n k : Nat), k < n * z.length → (repl z n)[k]? = z[k % z.length]? := by
 intro n
 induction n with
 | zero => intro k h; simp at h
 | succ n ih =>
  intro k h;simp only [repl];by_cases hk : k < z.length
  ·rw [List.getElem?_append_left hk, Nat.mod_eq_of_lt hk]
  ·rw [List.getElem?_append_right (by omega), ih (k - z.length) (by rw [Nat.add_mul] at h; omega)];rw [← Nat.mod_eq_sub_mod (by omega)]
theorem zb5 (z : List Value) (n : Nat) : (repl z n).length = n * z.length := by
 induction n with
 | zero => simp [repl]
 | succ n ih => simp [repl, ih, Nat.add_mul]; omega
theorem zfg (z : Array Value) (n m : Nat) (hm : m = n * z.size) : ((Array.range m).map (z[· % z.size]!)) = ⟨repl z.toList n⟩ := by
 subst hm;apply Array.toList_inj.1;apply List.ext_getElem?;intro k;by_cases hk : k < n * z.size
 ·have hz : 0 < z.size := by
   rcases Nat.eq_zero_or_pos z.size with h | h
   ·rw [h] at hk; simp at hk
   ·exact h
  have hmod : k % z.size < z.size := Nat.mod_lt _ hz;rw [zp8 _ _ _ (by simpa using hk)];simp [hk, hmod]
 ·have h1 : (repl z.toList n).length ≤ k := by rw [zb5]; simpa using hk
  rw [List.getElem?_eq_none h1];simp; omega
theorem zcY {z : List Value} (h : z.all constOk = true) (n : Nat) : (repl z n).all constOk = true := by
 induction n with
 | zero => rfl
 | succ n ih => simp only [repl, List.all_append, h, ih, Bool.and_self]
theorem zi3 {Γ' : Ga} {b n c : Nat} {i : BI} (h : Γ' b = some i) (hs : i.shift = 0) {r : Nat} (hr : i.real = r) : VR Γ' (.slice (some ⟨b, 0, none⟩) n c) (.slice (some ⟨r, 0, none⟩) n c) := by
 have := VR.slice (Γ := Γ') (o := 0) (n := n) (c := c) (c' := c) h (.inl rfl);rw [hs, hr] at this; exact this
theorem zfD (hC : CtxOk P C) (hr : Rel Γ H w) {t : TypeId} {n : Nat} {ps ps' : List (Nat × Value)} {v : Value} {H' : AHeap} (h : buildSliceA C H t n ps = some (v, H'))
  (hp : All2 (fun a b => a.1 = b.1 ∧ VR Γ a.2 b.2) ps ps') :
  ∃ Γ' v' w', (Instr.buildSlice t n ⟨ps'⟩).run P w = .ok v' w' ∧ Rel Γ' H' w' ∧ Adv Γ H w Γ' H' w' ∧ VR Γ' v v' := by
 unfold buildSliceA at h;split at h
 ·rename_i ti ht;split at h
  ·rename_i e hund;split at h
   ·rename_i ei he;split at h
    ·cases h
    ·rename_i hbig;split at h
     ·rename_i z hz;obtain ⟨zv, hz1, hz2, hz3, hz4⟩ := zbg hz;split at h
      ·rename_i cs hf;split at h
       ·cases h;unfold Instr.buildSlice;simp only [Sem.run_bind, zas hC ht, Result.andThen_ok, hund, zaU hC he, hbig, if_false];obtain ⟨l', f1, f2⟩ := zft ps ps' _ cs ⟨repl z n⟩ _ (fun i => some (i * ei.size, ei.size)) (fun _ _ h => h) hf (zbK (zcY hz4 n)) hp;obtain ⟨Γ', i, r1, r2, r3, r4, r5, r6, r7, r8, r9⟩ := zeQ hr (rest := []) e ei.size false f2;refine ⟨Γ', _, _, ?_, r1, r2, zi3 r3 r6 r4⟩;by_cases h0 : n * ei.size = 0
        ·have hz0 : repl z n = [] := by
          apply List.length_eq_zero_iff.1;rw [zb5, hz3]; exact h0
         rw [hz0] at f1;have e0 : (Array.range 0).map (fun x => (#[] : Array Value)[x % (#[] : Array Value).size]!) = ⟨[]⟩ := by simp
         simp only [h0, if_true, Sem.run_bind, Sem.run_pure, Result.andThen_ok];simp only [e0, f1, newRow, Sem.run_bind, run_newObj, Sem.run_pure, List.append_nil, Result.andThen_ok];rfl
        ·have e0 := zfg zv.cells n (n * ei.size) (by rw [← hz3, ← hz2]; simp);rw [hz2] at e0;simp only [h0, if_false, Sem.run_bind, zcl hC he hz1, Sem.run_pure, Result.andThen_ok, e0, f1, newRow, run_newObj, List.append_nil];rfl
       ·cases h
      ·cases h
     ·cases h
   ·cases h
  ·cases h
 ·cases h
theorem zgY {c : Int} (h0 : 0 ≤ c) (h1 : c ≤ 1000000000000) : IntKind.i64.wrap c = c := by
 unfold IntKind.wrap
 have hm : c % (2 ^ IntKind.i64.bits : Int) = c := by
  apply Int.emod_eq_of_lt h0;have : (2 ^ IntKind.i64.bits : Int) = 18446744073709551616 := by decide
  omega
 simp only [hm];rw [if_neg];intro h;simp only [Bool.and_eq_true, decide_eq_true_eq] at h;have : (2 ^ (IntKind.i64.bits - 1) : Int) = 9223372036854775808 := by decide
 omega
theorem zfV (hC : CtxOk P C) (hr : Rel Γ H w) {t : TypeId} {l c l' c' v : Value} {H' : AHeap} (h : makeSliceA C H t l c = some (v, H')) (hl : VR Γ l l') (hc : VR Γ c c') :
  ∃ Γ' v' w', (Instr.makeSlice t l' c').run P w = .ok v' w' ∧ Rel Γ' H' w' ∧ Adv Γ H w Γ' H' w' ∧ VR Γ' v v' := by
 unfold makeSliceA at h;split at h
 ·rename_i ti kl li kc ci ht;cases hl; cases hc;split at h
  ·rename_i e hund;split at h
   ·rename_i ei he;split at h
    ·rename_i hb;obtain ⟨b1, b2, b3, b4⟩ := hb;split at h
     ·rename_i z hz;obtain ⟨zv, hz1, hz2, hz3, hz4⟩ := zbg hz;cases h;obtain ⟨info, i1, i2, i3, i4⟩ := zgA hC he;unfold Instr.makeSlice;have wl : IntKind.i64.wrap li = li := zgY b1 (by omega);have wc : IntKind.i64.wrap ci = ci := zgY (by omega) b3
      have cond : (decide (ci < 0) || decide (((ei.bytes : Nat) : Int) * ci > 2 ^ 48) || decide (li < 0) || decide (li > ci)) = false := by
       simp only [Bool.or_eq_false_iff, decide_eq_false_iff_not];refine ⟨⟨⟨by omega, by omega⟩, by omega⟩, by omega⟩
      simp only [Sem.run_bind, zas hC ht, Result.andThen_ok, hund, asInt, asIntOf, Sem.run_pure, i1, wl, wc, i2, cond, Bool.false_eq_true, if_false, run_askRoom, zaU hC he];obtain ⟨Γ', i, r1, r2, r3, r4, r5, r6, r7, r8, r9⟩ := zeQ hr (rest := []) e ei.size false (zbK (Γ := Γ) (zcY hz4 ci.toNat));refine ⟨Γ', _, _, ?_, r1, r2, zi3 r3 r6 r4⟩;by_cases h0 : ci.toNat * ei.size = 0
      ·have hz0 : repl z ci.toNat = [] := by
        apply List.length_eq_zero_iff.1;rw [zb5, hz3]; exact h0
       have e0 : (Array.range 0).map (fun x => (#[] : Array Value)[x % (#[] : Array Value).size]!) = ⟨[]⟩ := by simp
       simp only [h0, if_true, Sem.run_bind, Sem.run_pure, Result.andThen_ok];simp only [e0, newRow, Sem.run_bind, run_newObj, Sem.run_pure, List.append_nil, Result.andThen_ok, hz0];rfl
      ·have e0 := zfg zv.cells ci.toNat (ci.toNat * ei.size) (by rw [← hz3, ← hz2]; simp);rw [hz2] at e0;simp only [h0, if_false, Sem.run_bind, zcl hC he hz1, Sem.run_pure, Result.andThen_ok, e0, newRow, run_newObj, List.append_nil];rfl
     ·cases h
    ·cases h
   ·cases h
  ·cases h
 ·cases h
theorem zjX (hC : CtxOk P C) (hr : Rel Γ H w) {t : TypeId} {v : Value} {H' : AHeap} (h : allocA C H t = some (v, H')) :
  ∃ Γ' v' w', (Instr.alloc t true (.tuple #[])).run P w = .ok v' w' ∧ Rel Γ' H' w' ∧ Adv Γ H w Γ' H' w' ∧ VR Γ' v v' := by
 unfold allocA at h;split at h
 ·rename_i ti ht;split at h
  ·rename_i z hz;obtain ⟨zv, hz1, hz2, hz3, hz4⟩ := zbg hz;obtain ⟨Γ', v', w', r1, r2, r3, r4, r5⟩ := zhI (P := P) hr t h (cs' := zv.cells.toList) (by rw [hz2]; exact zbK hz4);refine ⟨Γ', v', w', ?_, r3, r4, r5⟩;unfold Instr.alloc;simp only [Sem.run_bind, zcl hC ht hz1, Result.andThen_ok, newVar];have : newRow t zv.cells = newRow t ⟨zv.cells.toList⟩ := rfl;rw [this, r1, r2];simp
  ·cases h
 ·cases h
theorem zmX (hC : CtxOk P C) (hr : Rel Γ H w) {tys : List TypeId} {ty : TypeId} {x x' v : Value} {xs : List Value} (h : lenA C H tys x = some v) (hx : VR Γ x x') :
  (Builtin.len_ ⟨tys⟩ ty ⟨x' :: xs⟩).run P w = .ok v w ∧ VR Γ v v := by
 unfold lenA at h;split at h
 ·cases h
 ·rename_i t _;unfold Builtin.len_;split at h
  ·rename_i ti ht;split at h
   ·rename_i s hund; cases h; cases hx;exact ⟨by simp [zas hC ht, hund, goInt], .int _ _⟩
   ·rename_i n e hund;cases h;refine ⟨?_, .int _ _⟩;cases hx <;> simp [zas hC ht, hund, goInt]
   ·rename_i e a n c hund;cases h;refine ⟨?_, .int _ _⟩;cases hx <;> simp [zas hC ht, hund, goInt]
   ·rename_i k e hund;cases h; cases hx;exact ⟨by simp [zas hC ht, hund, goInt], .int _ _⟩
   ·rename_i k e r hund;split at h
    ·rename_i es cl ro hb;cases h
     cases hx with
     | map hi =>
      rename_i i;obtain ⟨i2, o, hi', ho, es', rfl, hes⟩ := hr.blk _ _ hb;rw [hi] at hi'; cases hi';refine ⟨?_, .int _ _⟩;have hlen := hes.length;simp only [List.getElem?_toArray, List.getElem?_cons_zero, Sem.run_bind, zas hC ht, hund, Result.andThen_ok];have hg : (getObj i.real).run P w = .ok (.map es' cl) w := by simp [getObj, Sem.run, ho]
      simp only [hg, Result.andThen_ok, Sem.run_pure, goInt];rw [hlen]; simp
    ·cases h
   ·cases h
  ·cases h
theorem zna (hC : CtxOk P C) (hr : Rel Γ H w) {tys : List TypeId} {ty : TypeId} {x x' v : Value} {xs : List Value} (h : capA C H tys x = some v) (hx : VR Γ x x') :
  (Builtin.cap_ ⟨tys⟩ ty ⟨x' :: xs⟩).run P w = .ok v w ∧ VR Γ v v := by
 unfold capA at h;split at h
 ·cases h
 ·rename_i t _;unfold Builtin.cap_;split at h
  ·rename_i ti ht;split at h
   ·rename_i e n c hund;split at h
    ·rename_i hn;simp only [Bool.and_eq_true, beq_iff_eq] at hn;obtain ⟨rfl, rfl⟩ := hn;cases h; cases hx;exact ⟨by simp [zas hC ht, hund, goInt], .int _ _⟩
    ·cases h
   ·rename_i e b o n c hund;split at h
    ·rename_i hex;cases h
     cases hx with
     | slice hi hc =>
      have := zg5 hr hi hc hex;subst this;exact ⟨by simp [zas hC ht, hund, goInt], .int _ _⟩
    ·cases h
   ·rename_i n e hund;cases h;refine ⟨?_, .int _ _⟩;cases hx <;> simp [zas hC ht, hund, goInt]
   ·cases h
  ·cases h
theorem zhP {mx : Bool} : ∀ (l : List Value) (k : IntKind) (x : Int) (v : Value), extremeA.go mx k x l = some v → ∀ (l' : List Value), All2 (VR Γ) l l' → ∀ w : World,
  (l'.foldlM (if mx then Builtin.max2 else Builtin.min2) (.int k x)).run P w = .ok v w ∧ VR Γ v v := by
 intro l
 induction l with
 | nil =>
  intro k x v h l' hl w;cases hl;simp only [extremeA.go] at h; cases h
  exact ⟨rfl, .int _ _⟩
 | cons a l ih =>
  intro k x v h l' hl w
  cases hl with
  | cons ha hl =>
   cases a <;> simp only [extremeA.go] at h <;> try (cases h; done)
   cases ha;rename_i k' y;simp only [List.foldlM_cons, Sem.run_bind];cases mx
   ·have : (Builtin.min2 (.int k x) (.int k' y)).run P w = .ok (.int k (if y < x then y else x)) w := rfl;simp only [Bool.false_eq_true, if_false] at h ih ⊢;simp only [this, Result.andThen_ok];exact ih _ _ _ h _ hl w
   ·have : (Builtin.max2 (.int k x) (.int k' y)).run P w = .ok (.int k (if y > x then y else x)) w := rfl;simp only [if_true] at h ih ⊢;simp only [this, Result.andThen_ok];exact ih _ _ _ h _ hl w
theorem zoM {l l' : List Value} {v : Value} (h : extremeA true l = some v) (hl : All2 (VR Γ) l l') (tys : Array TypeId) (ty : TypeId) (w : World) :
  (Builtin.max_ tys ty ⟨l'⟩).run P w = .ok v w ∧ VR Γ v v := by
 cases hl with
 | nil => simp [extremeA] at h
 | cons ha hl =>
  rename_i a a' l l';cases a <;> simp only [extremeA] at h <;> try (cases h; done)
  cases ha;exact zhP (mx := true) l _ _ v h l' hl w
theorem zoL {l l' : List Value} {v : Value} (h : extremeA false l = some v) (hl : All2 (VR Γ) l l') (tys : Array TypeId) (ty : TypeId) (w : World) :
  (Builtin.min_ tys ty ⟨l'⟩).run P w = .ok v w ∧ VR Γ v v := by
 cases hl with
 | nil => simp [extremeA] at h
 | cons ha hl =>
  rename_i a a' l l';cases a <;> simp only [extremeA] at h <;> try (cases h; done)
  cases ha;exact zhP (mx := false) l _ _ v h l' hl w
end
end Go.Den
namespace Go.Den
section
variable {P : Program} {C : Ctx} {Γ : Ga} {H : AHeap} {w : World}
theorem zfG {x x' : Value} {n : Nat} (h : srcLen x = some n) (hx : VR Γ x x') (w : World) : (Builtin.lenOf x').run P w = .ok n w := by
 unfold srcLen at h;split at h
 ·cases h; cases hx <;> rfl
 ·cases h; cases hx; rfl
 ·cases h
theorem zea (hr : Rel Γ H w) {x x' : Value} {n esz : Nat} {l : List Value} (h : srcCells H esz x n = some l) (hx : VR Γ x x') :
  ∃ l', (∀ w' : World, w'.heap = w.heap → (Builtin.firstCells esz n x').run P w' = .ok ⟨l'⟩ w') ∧ All2 (VR Γ) l l' := by
 unfold srcCells at h;split at h
 ·cases h; cases hx;exact ⟨[], fun _ _ => rfl, .nil⟩
 ·rename_i b o _ _;split at h
  ·rename_i cs z s ro hb;obtain ⟨j, rc, e, fz, hj, hw, h1, h2, h3, h4, h5, h6, h7, h8⟩ := hr.cells hb
   cases hx with
   | slice hj' hc =>
    rw [hj] at hj'; cases hj';obtain ⟨hle, hall⟩ := zex h h4 h8;refine ⟨_, fun w' hw' => ?_, hall⟩;unfold Builtin.firstCells;rcases hle with h0 | hle
    ·rw [h0]; simp [loadCells, loadCellsFrom]
    ·exact run_loadCells P (by rw [hw']; exact hw) hle
  ·cases h
 ·split at h
  ·rename_i hn0;have hn0 : n = 0 := by simpa using hn0
   subst hn0;cases h; cases hx
   all_goals
    refine ⟨[], fun w' hw' => ?_, .nil⟩;unfold Builtin.firstCells;simp [loadCells, loadCellsFrom]
  ·cases h
 ·cases h; cases hx;rename_i s;refine ⟨_, fun w' hw' => ?_, All2.zkg ?_⟩
  ·unfold Builtin.firstCells;simp only [Sem.run_pure]
   congr 1
   apply Array.toList_inj.1;simp
  ·intro a ha;simp only [List.mem_map] at ha;obtain ⟨b, _, rfl⟩ := ha;exact .int _ _
 ·cases h
theorem zo2 (n : Nat) : ∀ (r c : Nat), c ≤ n + (n + 768) / 4 → Builtin.growBy n r c ≤ n + (n + 768) / 4 := by
 intro r
 induction r with
 | zero => intro c h; exact h
 | succ r ih =>
  intro c h;unfold Builtin.growBy;split
  ·exact h
  ·rename_i hc;exact ih _ (by omega)
theorem zhH {n c : Nat} (h : c < n) : Builtin.nextslicecap n c ≤ 2 * n + 1000 := by
 unfold Builtin.nextslicecap;split
 ·omega
 ·split
  ·omega
  ·have := zo2 n 4 c (by omega);omega
theorem zdx (z : Array Value) (n : Nat) : (Builtin.zeroCells z n).toList = repl z.toList n := by
 unfold Builtin.zeroCells;have := zfg z n (n * z.size) rfl;rw [this]
theorem i64max : IntKind.i64.max = 9223372036854775807 := by decide
theorem zk5 {w w' : World} (h : w'.heap = w.heap) (ho : w'.os = w.os) (ht : w'.tape = w.tape) (hu : w'.output = w.output) (hr : Rel Γ H w) : Rel Γ H w' ∧ Adv Γ H w Γ H w' :=
 ⟨⟨hr.dom, fun b x hb => by rw [h]; exact hr.blk b x hb, hr.ownd, hr.sep⟩, ⟨fun _ _ => rfl, Nat.le_refl _, by rw [h]; exact Nat.le_refl _, fun _ _ _ => by rw [h], fun _ hm => .inr hm, ho, ht, hu, .refl _⟩⟩
theorem zfr (hC : CtxOk P C) (hr : Rel Γ H w) {e : TypeId} {ei : TI} (he : C.ty.get e = some ei) {z : List Value} (hz : zerosOf ei = some z)
  {old old' new new' : List Value} (h1 : All2 (VR Γ) old old') (h2 : All2 (VR Γ) new new') {need cap : Nat} (hcap : need ≤ cap) (hsz : old'.length + new'.length = need * ei.size) :
  ∃ Γ' w', (do pure (Value.slice (some (← newRow e ((⟨old'⟩ : Array Value) ++ ⟨new'⟩ ++ Builtin.zeroCells (← zeroValue e).cells (cap - need)))) need cap) : Sem Value).run P w = .ok (.slice (some ⟨w.heap.size, 0, none⟩) need cap) w' ∧
   Rel Γ' (H.add (.cells (old ++ new) ei.size true false)) w' ∧ Adv Γ H w Γ' (H.add (.cells (old ++ new) ei.size true false)) w' ∧ VR Γ' (.slice (some ⟨H.fresh, 0, none⟩) need need) (.slice (some ⟨w.heap.size, 0, none⟩) need cap) := by
 obtain ⟨zv, hz1, hz2, hz3, hz4⟩ := zbg hz;obtain ⟨Γ', i, r1, r2, r3, r4, r5, r6, r7, r8, r9⟩ := zeQ hr (rest := (Builtin.zeroCells zv.cells (cap - need)).toList) e ei.size true (h1.append h2);refine ⟨Γ', _, ?_, r1, r2, ?_⟩
 ·simp only [Sem.run_bind, zcl hC he hz1, Result.andThen_ok, newRow, run_newObj, Sem.run_pure]
  have ea : ((⟨old'⟩ : Array Value) ++ ⟨new'⟩ ++ Builtin.zeroCells zv.cells (cap - need)) = ⟨old' ++ new' ++ (Builtin.zeroCells zv.cells (cap - need)).toList⟩ := by
   apply Array.toList_inj.1; simp
  rw [ea]; rfl
 ·have hlen : (old ++ new).length = need * ei.size := by
   have := (h1.append h2).length;rw [this]; simpa using hsz
  have := VR.slice (Γ := Γ') (o := 0) (n := need) (c := need) (c' := cap) r3 (.inr ⟨r9, by rw [r7, r8, hlen]; omega, hcap, by
   rw [r5, r6, r8, zdx, zb5, hz2, hz3];have e1 : (old' ++ new').length = need * ei.size := by simpa using hsz
   rw [e1, ← Nat.add_mul];have : need + (cap - need) = cap := by omega
   rw [this]; omega⟩)
  rw [r4, r6] at this; exact this
theorem zqU (need old : Nat) (e : TypeId) (t : Nat) : need ≤ (Question.appendCap need old e).cut t := by
 show need ≤ need + t % (2 ^ 63 - need); omega
def pushS (size need sLen sCap : Nat) (e : TypeId) (base : Option Addr) (s : Value) (appended : Sem (Array Value)) (bytes : Nat) : Sem Value :=
 if need ≤ sCap then do
  let new ← appended
  if let some a := base then storeCells (a.add (sLen * size)) new.toList
  pure (.slice base need sCap)
 else do
  let newCap ← choose (.appendCap need sCap e)
  askRoom (newCap * bytes)
  let old ← Builtin.firstCells size sLen s
  let new ← appended
  let rest := Builtin.zeroCells (← zeroValue e).cells (newCap - need)
  pure (.slice (some (← newRow e (old ++ new ++ rest))) need newCap)
theorem zni (hC : CtxOk P C) {st xt e : TypeId} {ti xi ei : TI} (hst : C.ty.get st = some ti) (hund : ti.und = .slice e) (he : C.ty.get e = some ei) (hxt : C.ty.get xt = some xi)
    (hx : ∀ k, xi.und ≠ .int k) {more : List TypeId} {ty : TypeId} {base : Option Addr} {sl sc n : Nat} {x' : Value} {xs : List Value} (hlen : ∀ w, (Builtin.lenOf x').run P w = .ok n w)
    (hbd : (2 * (sl + n) + 1000) * ei.bytes ≤ 2 ^ 48) (hb0 : ei.bytes ≠ 0) (w : World) :
    (Builtin.append_ ⟨st :: xt :: more⟩ ty ⟨.slice base sl sc :: x' :: xs⟩).run P w =
      (pushS ei.size (sl + n) sl sc e base (.slice base sl sc) (Builtin.firstCells ei.size n x') ei.bytes).run P w := by
  unfold Builtin.append_ pushS;obtain ⟨info, i1, i2, i3, i4⟩ := zgA hC he;have hb : info.bytes ≠ 0 := by rw [i2]; exact hb0
  have hnc : ¬ sl + n ≤ sc → ¬ (Builtin.nextslicecap (sl + n) sc * info.bytes > 2 ^ 48) := by
    intro hn;have := zhH (n := sl + n) (c := sc) (by omega)
    have h2 : Builtin.nextslicecap (sl + n) sc * info.bytes ≤ (2 * (sl + n) + 1000) * ei.bytes := by
      rw [i2]; exact Nat.mul_le_mul_right _ this
    omega
  cases hq : xi.und <;> first
    | exact absurd hq (hx _)
    | (by_cases hn : sl + n ≤ sc
       · simp only [List.getElem?_toArray, List.getElem?_cons_zero, List.getElem?_cons_succ, Sem.run_bind, zas hC hst, Result.andThen_ok, hund, zaU hC he, Sem.run_pure,
           zas hC hxt, hq, Bool.false_eq_true, if_false, hlen, hn, if_true, Bool.not_false]
         cases base <;> rfl
       · simp only [List.getElem?_toArray, List.getElem?_cons_zero, List.getElem?_cons_succ, Sem.run_bind, zas hC hst, Result.andThen_ok, hund, zaU hC he, Sem.run_pure,
           zas hC hxt, hq, Bool.false_eq_true, if_false, hlen, hn, if_true, Bool.not_false, i1, hb, false_or, and_false, hnc hn, run_askRoom])
theorem zfZ (hC : CtxOk P C) {st xt e : TypeId} {ti xi ei : TI} (hst : C.ty.get st = some ti) (hund : ti.und = .slice e) (he : C.ty.get e = some ei) (hxt : C.ty.get xt = some xi)
  {q q' : IntKind} (hx : xi.und = .int q) {more : List TypeId} {ty : TypeId} {base : Option Addr} {sl sc : Nat} {l : Int} {xs : List Value} (hl0 : 0 ≤ l) (hl1 : l ≤ 1000000000000)
  (hbd : (2 * (sl + l.toNat) + 1000) * ei.bytes ≤ 2 ^ 48) (hb0 : ei.bytes ≠ 0) (w : World) :
  (Builtin.append_ ⟨st :: xt :: more⟩ ty ⟨.slice base sl sc :: .int q' l :: xs⟩).run P w =
   (pushS ei.size (sl + l.toNat) sl sc e base (.slice base sl sc) (if l.toNat * ei.size = 0 then pure #[] else do pure (Builtin.zeroCells (← zeroValue e).cells l.toNat)) ei.bytes).run P w := by
 unfold Builtin.append_ pushS;obtain ⟨info, i1, i2, i3, i4⟩ := zgA hC he;have hb : info.bytes ≠ 0 := by rw [i2]; exact hb0
 have hnc : ¬ sl + l.toNat ≤ sc → ¬ (Builtin.nextslicecap (sl + l.toNat) sc * info.bytes > 2 ^ 48) := by
  intro hn;have := zhH (n := sl + l.toNat) (c := sc) (by omega)
  have h2 : Builtin.nextslicecap (sl + l.toNat) sc * info.bytes ≤ (2 * (sl + l.toNat) + 1000) * ei.bytes := by
   rw [i2]; exact Nat.mul_le_mul_right _ this
  omega
 have wl : IntKind.i64.wrap l = l := zgY hl0 hl1;have hneg : ¬ l < 0 := by omega
 have hmax : ¬ (((sl + l.toNat : Nat) : Int) > IntKind.i64.max) := by
  rw [i64max];have : (2 * (sl + l.toNat) + 1000) ≤ (2 * (sl + l.toNat) + 1000) * ei.bytes := Nat.le_mul_of_pos_right _ (Nat.pos_of_ne_zero hb0);omega
 have hlb : ¬ l * (info.bytes : Int) > 2 ^ 48 := by
  have h3 : l.toNat * ei.bytes ≤ (2 * (sl + l.toNat) + 1000) * ei.bytes := Nat.mul_le_mul_right _ (by omega)
  have h4 : l * (info.bytes : Int) = ((l.toNat * ei.bytes : Nat) : Int) := by
   rw [i2, Int.natCast_mul, Int.toNat_of_nonneg hl0]
  rw [h4]; omega
 by_cases hn : sl + l.toNat ≤ sc
 ·simp only [List.getElem?_toArray, List.getElem?_cons_zero, List.getElem?_cons_succ, Sem.run_bind, zas hC hst, Result.andThen_ok, hund, zaU hC he, Sem.run_pure,
   zas hC hxt, hx, if_true, Bool.not_true, Bool.false_eq_true, if_false, asInt, asIntOf, wl, hneg, i1, hlb, hn]
  cases base <;> rfl
 ·simp only [List.getElem?_toArray, List.getElem?_cons_zero, List.getElem?_cons_succ, Sem.run_bind, zas hC hst, Result.andThen_ok, hund, zaU hC he, Sem.run_pure,
   zas hC hxt, hx, if_true, Bool.not_true, Bool.false_eq_true, if_false, asInt, asIntOf, wl, hneg, i1, hlb, hn, hmax, false_and, hnc hn, run_askRoom]
theorem zgJ (hC : CtxOk P C) (hr : Rel Γ H w) {e : TypeId} {ei : TI} (he : C.ty.get e = some ei) {z : List Value} (hz : zerosOf ei = some z)
  {base base' : Option Addr} {sl sc sc' n : Nat} {l l' : List Value} {v : Value} {H' : AHeap} (h : pushA H ei base sl sc n l = some (v, H'))
  (hs : VR Γ (.slice base sl sc) (.slice base' sl sc')) {app : Sem (Array Value)} (happ : ∀ w' : World, w'.heap = w.heap → app.run P w' = .ok ⟨l'⟩ w') (hl : All2 (VR Γ) l l') (hn : l.length = n * ei.size) :
  ∃ Γ' v' w', (pushS ei.size (sl + n) sl sc' e base' (.slice base' sl sc') app ei.bytes).run P w = .ok v' w' ∧ Rel Γ' H' w' ∧ Adv Γ H w Γ' H' w' ∧ VR Γ' v v' := by
 have hll := hl.length;unfold pushA at h;unfold pushS
 -- the drawn capacity, and the world behind the draw
 obtain ⟨cap, hcap, hch⟩ : ∃ cap, sl + n ≤ cap ∧ (choose (.appendCap (sl + n) sc' e)).run P w = .ok cap w.drew :=
  ⟨_, zqU (sl + n) sc' e (w.tape w.drawn (.appendCap (sl + n) sc' e)), by rw [run_choose]; rfl⟩
 split at h
 ·-- there is room, as is known
  rename_i hroom
  have hroom' : sl + n ≤ sc' := by
   cases hs with
   | sliceN => exact hroom
   | sliceZ => exact hroom
   | sliceE => omega
   | slice hi hc => rcases hc with hc | ⟨_, _, hc, _⟩ <;> omega
  simp only [hroom', if_true, Sem.run_bind, happ w rfl, Result.andThen_ok];split at h
  ·cases h; cases hs;exact ⟨Γ, _, w, rfl, hr, .refl _ _ _, .sliceN _ _⟩
  ·rename_i b o
   cases hs with
   | slice hi hc =>
    rename_i i;split at h
    ·rename_i hn0;have hn0' : n = 0 := by simpa using hn0
     cases h
     have : l' = [] := by
      apply List.length_eq_zero_iff.1;rw [← hll, hn, hn0']; simp
     subst this;exact ⟨Γ, _, w, rfl, hr, .refl _ _ _, .slice hi hc⟩
    ·split at h
     ·cases h
     ·rename_i hone;split at h
      ·rename_i cs z' k hb;split at h
       ·rename_i hown;split at h
        ·rename_i cs' hw;cases h;obtain ⟨w', s1, s2, s3⟩ := zes hr hb hown hw hl (by simpa using hone) hi;refine ⟨Γ, _, w', ?_, s2, s3, (VR.slice hi hc)⟩;simp only [addr_add, Nat.add_assoc] at s1 ⊢;simp only [Sem.run_bind, s1 P, Result.andThen_ok, Sem.run_pure]
        ·cases h
       ·cases h
      ·cases h
  ·cases h
 ·rename_i hroom;split at h
  ·split at h
   ·rename_i h0;simp only [Bool.and_eq_true, beq_iff_eq] at h0;obtain ⟨rfl, rfl⟩ := h0;cases h; cases hs;simp only [hroom, if_false, Sem.run_bind, hch, Result.andThen_ok, run_askRoom];have hold : (Builtin.firstCells ei.size 0 (.slice none 0 0)).run P w.drew = .ok ⟨[]⟩ w.drew := rfl;simp only [hold, Result.andThen_ok, happ w.drew rfl];obtain ⟨Γ', w', g1, g2, g3, g4⟩ := zfr (P := P) hC hr.drew he hz .nil hl hcap (by simp; omega);simp only [Sem.run_bind] at g1;exact ⟨Γ', _, w', g1, g2, (Adv.drew _ _ _).trans g3, g4⟩
   ·cases h
  ·rename_i b o;split at h
   ·rename_i cs z' slack ro hb;split at h
    ·rename_i old hold
     cases hs with
     | slice hi hc =>
      rename_i i;obtain ⟨j, rc, e', fz, hj, hw, k1, k2, k3, k4, k5, k6, k7, k8⟩ := hr.cells hb;rw [hi] at hj; cases hj;obtain ⟨hle, hall⟩ := zex hold k4 k8;have hol := (zb3 hold).1
      have hfirst : ∀ w' : World, w'.heap = w.heap → (Builtin.firstCells ei.size sl (.slice (some ⟨i.real, i.shift + o, none⟩) sl sc')).run P w' = .ok ⟨(rc.toList.drop (i.shift + o)).take (sl * ei.size)⟩ w' := by
       intro w' hw';unfold Builtin.firstCells;rcases hle with h0 | hle
       ·rw [h0]; simp [loadCells, loadCellsFrom]
       ·exact run_loadCells P (by rw [hw']; exact hw) hle
      split at h
      ·rename_i hex;cases h;have hcc := zg5 hr hi hc hex;subst hcc;simp only [hroom, if_false, Sem.run_bind, hch, Result.andThen_ok, run_askRoom, hfirst w.drew rfl, happ w.drew rfl]
       obtain ⟨Γ', w', g1, g2, g3, g4⟩ := zfr (P := P) hC hr.drew he hz hall hl hcap (by
        have := hall.length; rw [← this, hol, ← hll, hn, ← Nat.add_mul])
       simp only [Sem.run_bind] at g1;exact ⟨Γ', _, w', g1, g2, (Adv.drew _ _ _).trans g3, g4⟩
      ·split at h
       ·rename_i hcond;simp only [Bool.and_eq_true, Bool.not_eq_true', beq_iff_eq] at hcond;obtain ⟨⟨⟨⟨⟨c1, c2⟩, c3⟩, c4⟩, c5⟩, c6⟩ := hcond;cases h;subst c2 c3;obtain ⟨hsh, hfz⟩ := k6 rfl;by_cases hroom' : sl + n ≤ sc'
        ·-- in place, behind what is known
         simp only [hroom', if_true, Sem.run_bind, happ w rfl, Result.andThen_ok, addr_add]
         have hone' : l'.all oneCell = true := by
          clear happ hn hll
          induction hl with
          | nil => rfl
          | cons h _ ih => simp only [List.all_cons, Bool.and_eq_true] at c6 ⊢; exact ⟨by rw [← h.oneCell]; exact c6.1, ih c6.2⟩
         have hend : i.shift + 0 + sc' * ei.size ≤ rc.size := by
          rcases hc with hc | ⟨q1, q2, q3, q4⟩
          ·omega
          ·rw [k2, c4] at q4; rw [← k5]; exact q4
         have hfit : i.shift + 0 + sl * ei.size + 0 + l'.length ≤ rc.size := by
          rw [← hll, hn];have : (sl + n) * ei.size ≤ sc' * ei.size := Nat.mul_le_mul_right _ hroom';rw [Nat.add_mul] at this;omega
         obtain ⟨w', rc', t1, t2, t3, t4⟩ := zeb P (b := i.real) (o := i.shift + 0 + sl * ei.size) hfz l' 0 w rc hw hfit hone';simp only [t1, Result.andThen_ok, Sem.run_pure]
         let i' : BI := { real := i.real, rsize := rc.size, shift := 0, size := (sl + n) * ei.size, esz := ei.size, slack := true }
         have hlen : (old ++ l).length = (sl + n) * ei.size := by rw [List.length_append, hol, hn, Nat.add_mul]
         have hbig : (sl + n) * ei.size ≤ rc.size := by
          have : (sl + n) * ei.size ≤ sc' * ei.size := Nat.mul_le_mul_right _ hroom';omega
         obtain ⟨a1, a2⟩ := hr.again (x' := .cells (old ++ l) ei.size true false) (i' := i') hb rfl c5 hi t2 rfl
          ⟨rc', e', fz, rfl, by rw [hlen], rfl, rfl, by rw [hlen, t3]; simp [i']; exact hbig, by rw [t3], fun _ => ⟨rfl, hfz⟩, fun _ => rfl, fun k v hk => by
           have e0 : i'.shift + k = k := by simp [i']
           rw [e0, t4 k];simp only [hsh, Nat.zero_add, Nat.add_zero];by_cases hko : k < old.length
           ·rw [List.getElem?_append_left hko] at hk;rw [if_neg (by rw [hol] at hko; omega)];obtain ⟨v', hv', hvr⟩ := hall.get hk;rw [List.getElem?_take, if_pos (by rw [← hol]; exact hko), hsh] at hv';simp at hv';exact ⟨v', hv', hvr⟩
           ·rw [List.getElem?_append_right (by omega)] at hk;obtain ⟨v', hv', hvr⟩ := hl.get hk;have hlt := (List.getElem?_eq_some_iff.1 hv').1;rw [if_pos (by rw [hol] at hko hlt; omega)];rw [hol] at hv';exact ⟨v', hv', hvr⟩⟩
         refine ⟨_, _, w', rfl, a1, a2, ?_⟩
         have := VR.slice (Γ := Γ.upd H.fresh i') (b := H.fresh) (o := 0) (n := sl + n) (c := sl + n) (c' := sc') (i := i') (by simp [Ga.upd])
          (.inr ⟨rfl, by simp [i'], hroom', by simp [i']; omega⟩)
         have e1 : i'.shift + 0 = i.shift + 0 := by simp [i', hsh]
         rw [e1] at this; exact this
        ·-- it grows
         simp only [hroom', if_false, Sem.run_bind, hch, Result.andThen_ok, run_askRoom, hfirst w.drew rfl, happ w.drew rfl];obtain ⟨q1, q2⟩ := hr.drew.kill c5
         obtain ⟨Γ', w', g1, g2, g3, g4⟩ := zfr (P := P) hC q1 he hz hall hl hcap (by
          have := hall.length; rw [← this, hol, ← hll, hn, ← Nat.add_mul])
         simp only [Sem.run_bind] at g1;exact ⟨Γ', _, w', g1, g2, (Adv.drew _ _ _).trans (q2.trans g3), g4⟩
       ·cases h
    ·cases h
   ·cases h
  ·cases h
end
end Go.Den
