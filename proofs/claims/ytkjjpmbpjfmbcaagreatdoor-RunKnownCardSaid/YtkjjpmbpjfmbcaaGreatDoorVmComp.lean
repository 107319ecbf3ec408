/-
  How the model's code is compiled.
-/
import Derived.Test.YtkjjpmbpjfmbcaaGreatDoorVmEval
set_option linter.unusedVariables false
set_option linter.unusedSimpArgs false
namespace Go.Vm

def numOf (l : List UInt8) : Nat := l.foldl (fun a b => a * 256 + b.toNat) 0

mutual
def ofValue : Value → Option V
  | .bool b => some (.bool b)
  | .int k n => some (.int k n)
  | .float .f64 b => some (.flt b)
  | .string s => some (.str s.size (numOf s.data.toList))
  | .pointer none => some .nil
  | .slice none 0 0 => some .nils
  | .map none => some .nilm
  | .nilFunc => some .nilf
  | .nilIface => some .nili
  | .iface t v => match ofValue v with
    | some x => some (.ifc t x)
    | none => none
  | .agg ⟨cs⟩ => match ofValues cs with
    | some l => some (.agg l)
    | none => none
  | .tuple ⟨cs⟩ => match ofValues cs with
    | some l => some (.tup l)
    | none => none
  | _ => none
def ofValues : List Value → Option (List V)
  | [] => some []
  | v :: r => match ofValue v, ofValues r with
    | some x, some l => some (x :: l)
    | _, _ => none
end

section
variable (P : Program)

def opdOf : Operand → Option Opd
  | .tmp t => some (.t t)
  | .const v => match ofValue v with
    | some x => some (.c x)
    | none => none
  | .global g => if g < P.globals.size then some (.c (.ptr g 0)) else none
  | .func f => some (.c (.fn f []))

def opdsOf : List Operand → Option (List Opd)
  | [] => some []
  | x :: r => match opdOf P x, opdsOf r with
    | some y, some l => some (y :: l)
    | _, _ => none

def oopdOf : Option Operand → Option (Option Opd)
  | none => some none
  | some x => match opdOf P x with
    | some y => some (some y)
    | none => none

/-- a type's zero value, as so many cells as the type has -/
def zeroOf (t : Nat) : Option (List V) :=
  match P.info? t with
  | some i => match i.zero with
    | some z => match ofValues z.cells.toList with
      | some l => if l.length = i.size then some l else none
      | none => none
    | none => none
  | none => none

def sizeAt (t : Nat) : Option Nat := match P.info? t with
  | some i => some i.size
  | none => none

def isAg (t : Nat) : Option Bool := match P.underlying t with
  | some (.struct _) => some true
  | some (.array _ _) => some true
  | some _ => some false
  | none => none

def partsOf (place : Nat → Option (Nat × Nat)) : List (Nat × Operand) → Option (List (Nat × Nat × Opd))
  | [] => some []
  | (i, x) :: r => match place i, opdOf P x, partsOf place r with
    | some (off, n), some y, some l => some ((off, n, y) :: l)
    | _, _, _ => none

def fieldPlaces (fs : Array Field) (i : Nat) : Option (Nat × Nat) :=
  match fs[i]? with
  | some f => match sizeAt P f.type with
    | some s => some (f.offset, s)
    | none => none
  | none => none

/-- the cells at which values of a type (numbers, bools, texts, structs of these) are compared, in order; the type takes so many cells -/
def leaves : Nat → Nat → Nat → Option (List (Nat × LK))
  | 0, _, _ => none
  | d + 1, t, base => match P.underlying t with
    | some (.int _) => some [(base, .i)]
    | some .bool => some [(base, .b)]
    | some .string => some [(base, .s)]
    | some (.struct fs) => if P.stoodInHeld t = false then match sizeAt P t with
        | some n => fs.toList.foldr (fun f acc => if f.name = "_" then none else match acc, leaves d f.type (base + f.offset), sizeAt P f.type with
          | some r, some l, some s => if f.offset + s ≤ n ∧ 0 < s then some (l ++ r) else none
          | _, _, _ => none) (some [])
        | none => none
      else none
    | _ => none

def isC : Operand → Bool
  | .const _ => true
  | _ => false

def eqKind (t : Nat) (c : Bool) : Option EqK :=
  match P.underlying t with
  | some .bool => some .bool
  | some (.pointer e) => match sizeAt P e with
    | some (_ + 1) => some .ptr
    | _ => none
  | some (.slice _) => some .sl
  | some (.func _ _ _) => some .fn
  | some (.interface ms) => some (.ifc (c || ms.isEmpty))
  | _ => none

def externOf (fn : Func) : List Opd → Option COp
  | [x] =>
    if (Extern.findNext fn).isSome then none
    else if fn.name = "math.Float64bits" then some (.fbits x)
    else if fn.name = "math.Float64frombits" then some (.bitsf x)
    else if fn.name = "internal/abi.NoEscape" then some (.same x)
    else if fn.name = "internal/bytealg.MakeNoZero" then
      match fn.resultTypes.toList with
      | [t] => match P.underlying t with
        | some (.slice e) => match sizeAt P e with
          | some 1 => some (.mkz e x)
          | _ => none
        | _ => none
      | _ => none
    else none
  | _ => none

def callOf (c : Call) : Option COp :=
  match opdsOf P c.args.toList with
  | none => none
  | some args =>
  match c.callee with
  | .value (.func f) => match P.funcs[f]? with
    | some fn => if fn.name = "runtime.NumGoroutine" then none else
      if fn.body.isSome then some (.calf f args) else externOf P fn args
    | none => none
  | .value x => match opdOf P x with
    | some y => some (.calv y args)
    | none => none
  | .invoke _ _ => none
  | .builtin b =>
    match b, args with
    | .append, [x, y] => match c.argTypes[0]?, c.argTypes[1]? with
      | some t, some u => match P.underlying t, P.underlying u with
        | some (.slice _), some (.int _) => none
        | some (.slice e), some _ => match P.info? e, zeroOf P e with
          | some i, some _ => if 0 < i.size then some (.app i.size i.bytes e x y) else none
          | _, _ => none
        | _, _ => none
      | _, _ => none
    | .copy, [x, y] => match c.argTypes[0]? with
      | some t => match P.underlying t with
        | some (.slice e) => match sizeAt P e with
          | some s => some (.cpy s x y)
          | none => none
        | _ => none
      | none => none
    | .len, [x] => match c.argTypes[0]? with
      | some t => match P.underlying t with
        | some .string => some (.lnt x)
        | some (.slice _) => some (.len x)
        | some (.array n _) => some (.lenc n)
        | some (.pointer a) => match P.underlying a with
          | some (.array n _) => some (.lenc n)
          | _ => none
        | _ => none
      | none => none
    | .cap, [x] => match c.argTypes[0]? with
      | some t => match P.underlying t with
        | some (.slice _) => some (.cap x)
        | _ => none
      | none => none
    | .max, xs => some (.mm true xs)
    | .min, xs => some (.mm false xs)
    | .unsafeSliceData, [x] => some (.usd x)
    | .unsafeString, [x, n] => match c.argTypes[0]? with
      | some pt => match P.underlying pt with
        | some (.pointer el) => match sizeAt P el with
          | some 1 => some (.ust el x n)
          | _ => none
        | _ => none
      | none => none
    | _, _ => none

def binOf (op : BinOp) (t : Nat) (x y : Operand) : Option COp :=
  match opdOf P x, opdOf P y, P.underlying t with
  | some a, some b, some d => match d with
    | .int _ | .string | .float _ => some (.bin op a b)
    | .struct _ => match leaves P 20 t 0, P.eqGuardType P.depth t, op with
      | some l, false, .eql => some (.eqs false l a b)
      | some l, false, .neq => some (.eqs true l a b)
      | _, _, _ => none
    | _ => match eqKind P t (isC x || isC y), op with
      | some k, .eql => some (.eq k false a b)
      | some k, .neq => some (.eq k true a b)
      | _, _ => none
  | _, _, _ => none

def convOf (s d : Nat) (x : Opd) : Option COp :=
  match P.underlying s, P.underlying d with
  | some (.int _), some (.int k) => some (.cvi k x)
  | some .string, some .string => some (.cvs x)
  | some (.pointer t), some .unsafePointer => match sizeAt P t with
    | some (_ + 1) => some (.p2u x)
    | _ => none
  | some .unsafePointer, some (.pointer u) => match sizeAt P u with
    | some (s + 1) => some (.u2p u (s + 1) x)
    | _ => none
  | some (.slice e), some .string => match P.underlying e with
    | some (.int .u8) => some (.b2s x)
    | _ => none
  | some .string, some (.slice e) => match P.underlying e with
    | some (.int .u8) => some (.s2b e x)
    | _ => none
  | _, _ => none

def sliceOf (t : Nat) (x : Opd) (lo hi mx : Option Opd) : Option COp :=
  match P.underlying t with
  | some .string => if mx.isNone then some (.slt x lo hi) else none
  | some (.slice e) => match sizeAt P e with
    | some (s + 1) => some (.sls (s + 1) x lo hi mx)
    | _ => none
  | some (.array n e) => match sizeAt P e with
    | some (s + 1) => some (.slp (s + 1) n x lo hi mx)
    | _ => none
  | some (.pointer a) => match P.underlying a with
    | some (.array n e) => match sizeAt P e with
      | some (s + 1) => some (.slp (s + 1) n x lo hi mx)
      | _ => none
    | _ => none
  | _ => none

def copOf (o : Oper) : Option COp :=
  match o.op with
  | .move x => match opdOf P x with
    | some y => some (.mv y)
    | none => none
  | .assign x => match opdOf P x with
    | some y => some (.mv y)
    | none => none
  | .pick c a b => match opdOf P c, opdOf P a, opdOf P b with
    | some c, some a, some b => some (.pick c a b)
    | _, _, _ => none
  | .alloc t => match zeroOf P t with
    | some z => some (.alc z t)
    | none => none
  | .box t x => match opdOf P x with
    | some y => some (.box t y)
    | none => none
  | .build t ps => match zeroOf P t, P.underlying t with
    | some z, some (.struct fs) => if fs.toList.all (fun f => (sizeAt P f.type).isSome) then match partsOf P (fieldPlaces P fs) ps.toList with
        | some l => some (.bld z l)
        | none => none
      else none
    | some z, some (.array _ e) => match sizeAt P e with
      | some s => match partsOf P (fun i => some (i * s, s)) ps.toList with
        | some l => some (.bld z l)
        | none => none
      | none => none
    | _, _ => none
  | .buildSlice t len ps => match P.underlying t with
    | some (.slice e) => match zeroOf P e, sizeAt P e with
      | some z, some (s + 1) => match partsOf P (fun i => some (i * (s + 1), s + 1)) ps.toList with
        | some l => if len * (s + 1) ≤ 16777216 then some (.bsl z len (s + 1) e l) else none
        | none => none
      | _, _ => none
    | _ => none
  | .load t x => match isAg P t, sizeAt P t, opdOf P x with
    | some true, some n, some y => some (.ldn n y)
    | some false, some _, some y => some (.ld y)
    | _, _, _ => none
  | .store t x v => match isAg P t, sizeAt P t, opdOf P x, opdOf P v with
    | some _, some n, some y, some z => some (.st n y z)
    | _, _, _, _ => none
  | .nilCheck x => match opdOf P x with
    | some y => some (.nck y)
    | none => none
  | .binOp op t x y _ => binOf P op t x y
  | .unOp op _ x => match opdOf P x with
    | some y => some (.un op y)
    | none => none
  | .convert s d x => match opdOf P x with
    | some y => convOf P s d y
    | none => none
  | .makeInterface t x => match opdOf P x, P.underlying t with
    | some _, some (.interface _) => none
    | some y, some _ => some (.mki t y)
    | _, _ => none
  | .makeFunc fn first caps => match fn, first.toList, opdsOf P caps.toList with
    | .func f, [], some l => some (.mkf f l)
    | _, _, _ => none
  | .makeSlice t l c => match P.underlying t, opdOf P l, opdOf P c with
    | some (.slice e), some l, some c => match P.info? e, zeroOf P e with
      | some i, some z => if 0 < i.size then some (.mks z i.size i.bytes e l c) else none
      | _, _ => none
    | _, _, _ => none
  | .slice t x lo hi mx => match opdOf P x, oopdOf P lo, oopdOf P hi, oopdOf P mx with
    | some x, some lo, some hi, some mx => sliceOf P t x lo hi mx
    | _, _, _, _ => none
  | .fieldAddr t x f => match P.underlying t, opdOf P x with
    | some (.struct fs), some y => match fs[f]? with
      | some fl => match sizeAt P fl.type with
        | some (_ + 1) => some (.fad fl.offset y)
        | _ => none
      | none => none
    | _, _ => none
  | .field t x f => match P.underlying t, opdOf P x with
    | some (.struct fs), some y => match fs[f]? with
      | some fl => match sizeAt P fl.type, isAg P fl.type with
        | some n, some true => some (.fld fl.offset n true y)
        | some _, some false => some (.fld fl.offset 1 false y)
        | _, _ => none
      | none => none
    | _, _ => none
  | .indexAddr t x i => match P.underlying t, opdOf P x, opdOf P i with
    | some (.array n e), some x, some i => match sizeAt P e with
      | some s => some (.ixp s n x i)
      | none => none
    | some (.slice e), some x, some i => match sizeAt P e with
      | some s => some (.ixs s x i)
      | none => none
    | _, _, _ => none
  | .index t x i => match P.underlying t, opdOf P x, opdOf P i with
    | some (.array n e), some x, some i => match sizeAt P e, isAg P e with
      | some s, some true => some (.ixa s n true x i)
      | some 1, some false => some (.ixa 1 n false x i)
      | _, _ => none
    | some .string, some x, some i => some (.ixt x i)
    | _, _, _ => none
  | .extract x i => match opdOf P x with
    | some y => some (.ext y i)
    | none => none
  | .call c => callOf P c
  | .range t x => match P.underlying t, opdOf P x with
    | some .string, some y => some (.rng y)
    | _, _ => none
  | .next x s => match opdOf P x, s with
    | some y, true => some (.nxt y)
    | _, _ => none
  | .panic x => match opdOf P x with
    | some y => some (.pan y)
    | none => none
  | _ => none

mutual
/-- all objects that a value names are below n -/
def wfB (n : Nat) : V → Bool
  | .ptr o _ => Nat.blt o n
  | .sl o _ _ _ _ _ => Nat.blt o n
  | .mp o => Nat.blt o n
  | .fn _ caps => wfsB n caps
  | .ifc _ v => wfB n v
  | .agg l => wfsB n l
  | .tup l => wfsB n l
  | .int _ _ => true
  | .bool _ => true
  | .str _ _ => true
  | .flt _ => true
  | .nil => true
  | .nils => true
  | .nilm => true
  | .nilf => true
  | .nili => true
  | .bot => true
def wfsB (n : Nat) : List V → Bool
  | [] => true
  | v :: r => wfB n v && wfsB n r
end

/-- the operands that an operation names, and the values in its text -/
def COp.opds : COp → List Opd
  | .mv x | .box _ x | .ld x | .ldn _ x | .nck x | .un _ x | .cvi _ x | .cvs x | .b2s x | .s2b _ x | .mki _ x | .fad _ x | .fld _ _ _ x
  | .ext x _ | .len x | .lnt x | .cap x | .rng x | .nxt x | .usd x | .fbits x | .bitsf x | .same x | .mkz _ x | .p2u x | .u2p _ _ x | .pan x => [x]
  | .pick c a b => [c, a, b]
  | .alc _ _ | .lenc _ | .stop => []
  | .bld _ ps | .bsl _ _ _ _ ps => ps.map (·.2.2)
  | .st _ x v => [x, v]
  | .bin _ x y | .eq _ _ x y | .eqs _ _ x y | .ixs _ x y | .ixp _ _ x y | .ixa _ _ _ x y | .ixt x y | .app _ _ _ x y | .cpy _ x y | .ust _ x y => [x, y]
  | .mkf _ l | .calf _ l | .mm _ l => l
  | .mks _ _ _ _ l c => [l, c]
  | .slt x lo hi => x :: lo.toList ++ hi.toList
  | .sls _ x lo hi mx | .slp _ _ x lo hi mx => x :: lo.toList ++ hi.toList ++ mx.toList
  | .calv f l => f :: l

def COp.zs : COp → List V
  | .alc z _ | .bld z _ | .bsl z _ _ _ _ | .mks z _ _ _ _ _ => z
  | _ => []

def opdB (n : Nat) : Opd → Bool
  | .t _ => true
  | .c v => wfB n v

def copB (n : Nat) (c : COp) : Bool := c.opds.all (opdB n) && wfsB n c.zs

def copAt (o : Oper) : COp := match copOf P o with
  | some c => if copB P.globals.size c then c else .stop
  | none => .stop

def ciOf (ops : Array Oper) (o : Oper) : Option CI :=
  match o.guard with
  | none => some ⟨o.dst, copAt P o, none⟩
  | some (j, w) => match ops[j]? with
    | some p => match p.dst with
      | some d => some ⟨o.dst, copAt P o, some (d, w)⟩
      | none => none
    | none => none

def cisOf (ops : Array Oper) : List Oper → Option (List CI)
  | [] => some []
  | o :: r => match ciOf P ops o, cisOf ops r with
    | some c, some l => some (c :: l)
    | _, _ => none

/-- operations that neither read nor turn memory, nor make any -/
def pureOp : COp → Bool
  | .mv _ | .pick _ _ _ | .bld _ _ | .un _ _ | .bin _ _ _ | .cvi _ _ | .cvs _ | .nck _ | .fad _ _ | .fld _ _ _ _ | .ext _ _ | .mki _ _ | .mkf _ _ | .ixt _ _ | .slt _ _ _ | .lnt _ | .lenc _ | .ixa _ _ _ _ _ | .eqs _ _ _ _ | .mm _ _ => true
  | _ => false

def ptrOp : COp → Bool
  | .nck _ | .fad _ _ => true
  | _ => false

/-- operations that may turn memory, whatever they are given -/
def turns : COp → Bool
  | .st _ _ _ | .app _ _ _ _ _ | .cpy _ _ _ | .nxt _ | .ust _ _ _ | .stop | .pan _ => true
  | _ => false

def isCall : COp → Bool
  | .calf _ _ | .calv _ _ => true
  | _ => false

def tmpOf : Opd → Option Nat
  | .t i => some i
  | .c _ => none

/-- the temporaries that an operation writes, and all that it names -/
def CI.names (i : CI) : List Nat :=
  i.dst.toList ++ i.op.opds.filterMap tmpOf ++ (match i.g with
    | some (t, _) => [t]
    | none => [])

def writes (a b : CI) : Bool := match a.dst with
  | some d => b.names.contains d
  | none => false

def sameDst (a b : CI) : Bool := match a.dst, b.dst with
  | some x, some y => Nat.beq x y
  | _, _ => false

/-- in this order each operation comes behind those on which it waits -/
def respects (md : Region.Mode) (ops : Array Oper) (l : List Nat) : Bool :=
  (List.range ops.size).all (fun i => l.contains i) &&
  l.zipIdx.all (fun (k, q) => (ops.getD k default).after.toList.all fun e => !Region.binds md e || (l.take q).contains e.on)

/-- for each operation, those that come before it in every order -/
def befGo : List Oper → List Nat → List Nat
  | [], acc => acc
  | o :: r, acc => befGo r (acc ++ [o.after.toList.foldl (fun s e => if Region.binds .any e then s ||| 2 ^ e.on ||| acc.getD e.on 0 else s) 0])

/-- may two operations, the first ahead of the other in 'ord', be run in this order whatever order is drawn? -/
def pairOk (bs : List Nat) (m q i k : Nat) (a b : CI) : Bool :=
  !Nat.beq i k && !sameDst a b && ((bs.getD k 0).testBit i || (!writes a b && !writes b a && (Nat.blt q m || pureOp a.op || pureOp b.op)))

def pairsOk (bs : List Nat) (m : Nat) : Nat → List (Nat × CI) → Bool
  | _, [] => true
  | p, (i, a) :: r => (r.zipIdx (p + 1)).all (fun ((k, b), q) => pairOk bs m q i k a b) && pairsOk bs m (p + 1) r

/-- may the region be run in this order, whatever order is drawn? 'm': how many of 'ord' come first, in any order; 'al': what the rest may not take away -/
def drawOk (ops : Array Oper) (ord : List Nat) (m : Nat) (al : List Nat) (l : List CI) : Bool :=
  respects .any ops (List.range ops.size) && respects .text ops (List.range ops.size) && respects .gc ops (Region.linearise .gc ops 0) &&
  Nat.beq ord.length ops.size && Nat.ble m ops.size && (List.range ops.size).all (fun i => ord.contains i) && ord.all (fun i => Nat.blt i ops.size) &&
  pairsOk (befGo ops.toList []) m 0 (ord.zip l) &&
  l.all (fun c => !ptrOp c.op || (match c.dst with | some d => al.contains d | none => false))

/-- the operations that hang on those of a list, each of that list too -/
def hanging (b : List Nat) (n : Nat) (s : List Nat) : List Nat :=
  (List.range n).filter fun k => s.any fun i => i == k || (b.getD k 0).testBit i

def ordered (ops : Array Oper) (ord : List Nat) : List Oper := ord.map fun i => ops.getD i default

def drawOf (ops : Array Oper) : Option (Nat × List Nat × List Nat × List CI) :=
  let b := befGo ops.toList []
  let n := ops.size
  let cops := ops.toList.map (copAt P)
  let cop (i : Nat) : COp := cops.getD i .stop
  let al := (List.range n).filterMap fun i => if ptrOp (cop i) then (ops.getD i default).dst else none
  let attempt (s : List Nat) : Option (Nat × List Nat × List Nat × List CI) :=
    let t := hanging b n s
    let first := (List.range n).filter fun i => !t.contains i
    let ord := first ++ t
    match cisOf P ops (ordered ops ord) with
    | some l => if drawOk ops ord first.length al l then some (first.length, al, ord, l) else none
    | none => none
  match attempt ((List.range n).filter fun i => turns (cop i) || isCall (cop i)) with
  | some r => some r
  | none => attempt ((List.range n).filter fun i => turns (cop i))

/-- code that this does not take is 'bad': whoever comes there stops -/
def codeOf : Code → CC
  | .skip => .skip
  | .region _ ops d => if d then match drawOf P ops with
      | some (m, al, _, l) => .draw m al l
      | none => .bad
    else match cisOf P ops ops.toList with
      | some l => .ops l
      | none => .bad
  | .seq a b => .seq (codeOf a) (codeOf b)
  | .cond c a b => match opdOf P c with
    | some x => .cond x (codeOf a) (codeOf b)
    | none => .bad
  | .block id b => .block id (codeOf b)
  | .loop b => .loop (codeOf b)
  | .exit id => .exit id
  | .scope b => codeOf b
  | .label _ => .skip
  | .ret => .ret
  | _ => .bad

def resOf : List ResultVar → Option (List CR)
  | [] => some []
  | .tmp t :: r => match resOf r with
    | some l => some (.t t :: l)
    | none => none
  | .cell a t :: r => match isAg P t, sizeAt P t, resOf r with
    | some true, some n, some l => some (.mn a n :: l)
    | some false, some _, some l => some (.m1 a :: l)
    | _, _, _ => none

def fnOf (f : Nat) : Option CFn :=
  match P.funcs[f]? with
  | none => none
  | some fn => match fn.body with
    | none => none
    | some b => if fn.name = "runtime.NumGoroutine" then none else match resOf P fn.results.toList with
      | some r => some ⟨fn.ntmps, r, codeOf P b⟩
      | none => none

end
end Go.Vm
