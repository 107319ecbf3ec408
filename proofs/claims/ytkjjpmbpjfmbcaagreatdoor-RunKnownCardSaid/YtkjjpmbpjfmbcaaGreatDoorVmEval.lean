/-
  How compiled code runs over the abstract heap.
-/
import Derived.Test.YtkjjpmbpjfmbcaaGreatDoorVmDefs
set_option linter.unusedVariables false
set_option linter.unusedSimpArgs false
namespace Go.Vm
noncomputable section

def strAt (n x i : Nat) : Nat := Nat.mod (Nat.div x (Nat.pow 256 (Nat.sub (Nat.sub n 1) i))) 256
def strSub (n x l h : Nat) : Nat := Nat.mod (Nat.div x (Nat.pow 256 (Nat.sub n h))) (Nat.pow 256 (Nat.sub h l))
def strCat (x m y : Nat) : Nat := Nat.add (Nat.mul x (Nat.pow 256 m)) y
/-- below: the same number of first bytes, then the length. -/
def strLt (n x m y : Nat) : Bool :=
  let k := Nat.min n m
  let a := strSub n x 0 k
  let b := strSub m y 0 k
  Nat.blt a b || (Nat.beq a b && Nat.blt n m)
def strEq (n x m y : Nat) : Bool := Nat.beq n m && Nat.beq x y

/-- the cells that a value is -/
def V.cells : V → Option (List V)
  | .agg l => some l
  | .bot => none
  | v => some [v]

def bytesFrom : Nat → Nat → List V → Option (Nat × Nat)
  | n, x, [] => some (n, x)
  | n, x, v :: r => match v with
    | .int .u8 (.ofNat b) => if b < 256 then bytesFrom (n + 1) (x * 256 + b) r else none
    | _ => none

def strCells (n x : Nat) : List V := (List.range n).map fun i => .int .u8 (strAt n x i)

def opd (e : T V) : Opd → V
  | .t i => e.get .bot i
  | .c v => v

def H.get (h : H) (o : Nat) : Obj := h.t.get .dead o
def H.set (h : H) (o : Nat) (x : Obj) : H := { h with t := h.t.set .dead o x }
def H.push (h : H) (x : Obj) : H := { h with n := h.n + 1, t := h.t.set .dead h.n x }

def readCells (t : T V) (i : Nat) : Nat → List V
  | 0 => []
  | n + 1 => t.get .bot i :: readCells t (i + 1) n

def writeCells (t : T V) (i : Nat) : List V → T V
  | [] => t
  | v :: r => writeCells (t.set .bot i v) (i + 1) r

def loadN (h : H) (o i n : Nat) : Option (List V) :=
  match h.get o with
  | .c m t _ _ _ => if i + n ≤ m then some (readCells t i n) else none
  | _ => none

/-- a value that is one cell -/
def V.one : V → Bool
  | .agg _ | .tup _ | .bot => false
  | _ => true

def allOne : List V → Bool
  | [] => true
  | v :: r => v.one && allOne r

def storeN (h : H) (o i : Nat) (l : List V) : Option H :=
  match h.get o with
  | .c m t sp el fz => if i + l.length ≤ m && fz.getD 0 ≤ i && h.fl ≤ o && allOne l then some (h.set o (.c m (writeCells t i l) sp el fz)) else none
  | _ => none

def newCells (h : H) (l : List V) (sp : Bool) (el : Nat) (fz : Option Nat) : H := h.push (.c l.length (writeCells .lf 0 l) sp el fz)

/-- the cells of a slice's elements, or of a text's bytes -/
def srcCells (h : H) (s : Nat) : V → Option (Nat × List V)
  | .nils => some (0, [])
  | .sl o i n _ _ _ => match loadN h o i (n * s) with
    | some l => some (n, l)
    | none => none
  | .str n x => if s = 1 then some (n, strCells n x) else none
  | _ => none

def intBin (op : BinOp) (k : IntKind) (a b : Int) : Option V :=
  match op with
  | .add => some (.int k (k.wrap (a + b)))
  | .sub => some (.int k (k.wrap (a - b)))
  | .mul => some (.int k (k.wrap (a * b)))
  | .quo => if b = 0 then none else some (.int k (k.wrap (a.tdiv b)))
  | .rem => if b = 0 then none else some (.int k (a.tmod b))
  | .and => some (.int k (k.wrap (BitVec.ofInt k.bits a &&& BitVec.ofInt k.bits b).toNat))
  | .or => some (.int k (k.wrap (BitVec.ofInt k.bits a ||| BitVec.ofInt k.bits b).toNat))
  | .xor => some (.int k (k.wrap (BitVec.ofInt k.bits a ^^^ BitVec.ofInt k.bits b).toNat))
  | .andNot => some (.int k (k.wrap (BitVec.ofInt k.bits a &&& ~~~ BitVec.ofInt k.bits b).toNat))
  | .eql => some (.bool (a == b))
  | .neq => some (.bool (a != b))
  | .lss => some (.bool (a < b))
  | .leq => some (.bool (a ≤ b))
  | .gtr => some (.bool (a > b))
  | .geq => some (.bool (a ≥ b))
  | _ => none

def shiftBin (op : BinOp) (k : IntKind) (a b : Int) : Option V :=
  if b < 0 then none else
  match op with
  | .shl => some (.int k (k.wrap (a * 2 ^ (min b.toNat k.bits))))
  | .shr => some (.int k (a.fdiv (2 ^ (min b.toNat k.bits))))
  | _ => none

def strBin (op : BinOp) (n x m y : Nat) : Option V :=
  match op with
  | .add => if n + m ≤ 9223372036854775807 then some (.str (n + m) (strCat x m y)) else none
  | .eql => some (.bool (strEq n x m y))
  | .neq => some (.bool (!strEq n x m y))
  | .lss => some (.bool (strLt n x m y))
  | .leq => some (.bool (strLt n x m y || strEq n x m y))
  | .gtr => some (.bool (!(strLt n x m y || strEq n x m y)))
  | .geq => some (.bool (!strLt n x m y))
  | _ => none

def fltBin (op : BinOp) (x y : Nat) : Option V :=
  match op with
  | .add => (FloatKind.f64.format.add x y).map .flt
  | .sub => (FloatKind.f64.format.sub x y).map .flt
  | .mul => (FloatKind.f64.format.mul x y).map .flt
  | .eql => some (.bool (FloatKind.f64.format.order x y == some .eq))
  | .neq => some (.bool (FloatKind.f64.format.order x y != some .eq))
  | _ => none

def eqBin (op : BinOp) (r : Bool) : Option V :=
  match op with
  | .eql => some (.bool r)
  | .neq => some (.bool (!r))
  | _ => none

/-- two pointers: of two objects none of whose bytes a text shares -/
def ptrEq (h : H) (a i b j : Nat) : Option Bool :=
  if a = b then some (i == j) else
  match h.get a, h.get b with
  | .c _ _ _ _ (some 0), .c _ _ _ _ (some 0) => some false
  | _, _ => none

def bin (op : BinOp) (x y : V) : Option V :=
  match x, y with
  | .int k a, .int k' b =>
    match op with
    | .shl => shiftBin .shl k a b
    | .shr => shiftBin .shr k a b
    | op => if k = k' then intBin op k a b else none
  | .str n x, .str m y => strBin op n x m y
  | .flt x, .flt y => fltBin op x y
  | _, _ => none

def alive (h : H) (o : Nat) : Bool := match h.get o with
  | .dead => false
  | _ => true

/-- '==' where the operands are neither numbers nor texts -/
def eqOf (h : H) : EqK → V → V → Option Bool
  | .bool, .bool a, .bool b => some (a == b)
  | .ptr, .nil, .nil => some true
  | .ptr, .nil, .ptr o _ => if alive h o then some false else none
  | .ptr, .ptr o _, .nil => if alive h o then some false else none
  | .ptr, .ptr a i, .ptr b j => if alive h a && alive h b then ptrEq h a i b j else none
  | .sl, .nils, .nils => some true
  | .sl, .nils, .sl o _ _ _ _ _ => if alive h o then some false else none
  | .sl, .sl o _ _ _ _ _, .nils => if alive h o then some false else none
  | .fn, .nilf, .nilf => some true
  | .fn, .nilf, .fn _ _ => some false
  | .fn, .fn _ _, .nilf => some false
  | .ifc c, .nili, .nili => if c then some true else none
  | .ifc _, .nili, .ifc _ _ => some false
  | .ifc _, .ifc _ _, .nili => some false
  | _, _, _ => none

def cellEq : LK → V → V → Option Bool
  | .i, .int k a, .int k' b => if k = k' then some (a == b) else none
  | .b, .bool a, .bool b => some (a == b)
  | .s, .str n x, .str m y => some (strEq n x m y)
  | _, _, _ => none

/-- cell by cell, at these places -/
def leafEq (a b : List V) : List (Nat × LK) → Option Bool
  | [] => some true
  | (i, k) :: r => match a[i]?, b[i]? with
    | some x, some y => match cellEq k x y with
      | some true => leafEq a b r
      | some false => some false
      | none => none
    | _, _ => none

def un (op : UnOp) (x : V) : Option V :=
  match op, x with
  | .neg, .int k n => some (.int k (k.wrap (0 - n)))
  | .xor, .int k n => some (.int k (k.wrap (BitVec.ofInt k.bits (if k.signed then -1 else k.max) ^^^ BitVec.ofInt k.bits n).toNat))
  | .not, .bool b => some (.bool (!b))
  | _, _ => none

def setRange (l : List V) (off : Nat) (c : List V) : List V := l.take off ++ c ++ l.drop (off + c.length)

def fill (e : T V) : List V → List (Nat × Nat × Opd) → Option (List V)
  | z, [] => some z
  | z, (off, n, x) :: r =>
    match (opd e x).cells with
    | some c => if c.length = n ∧ off + n ≤ z.length then fill e (setRange z off c) r else none
    | none => none

def repl (z : List V) : Nat → List V
  | 0 => []
  | n + 1 => z ++ repl z n

def natOf : V → Option Nat
  | .int _ (.ofNat n) => some n
  | _ => none

def natOr (e : T V) (d : Nat) : Option Opd → Option Nat
  | none => some d
  | some x => natOf (opd e x)

/-- low, high, max of a slice expression, as numbers -/
def bounds (e : T V) (len cap : Nat) (lo hi mx : Option Opd) : Option (Nat × Nat × Nat) :=
  match natOr e cap mx, natOr e len hi, natOr e 0 lo with
  | some m, some h, some l => if m ≤ cap ∧ h ≤ m ∧ l ≤ h ∧ (mx.isSome = true → hi.isSome = true) then some (l, h, m) else none
  | _, _, _ => none

def mmV (mx : Bool) : V → V → Option V
  | .int k a, .int _ b => some (.int k (if mx then (if b > a then b else a) else (if b < a then b else a)))
  | .str n x, .str m y => if mx then (if strLt n x m y then some (.str m y) else some (.str n x)) else (if strLt n x m y || strEq n x m y then some (.str n x) else some (.str m y))
  | _, _ => none

def mmL (mx : Bool) : V → List V → Option V
  | v, [] => some v
  | v, x :: r => match mmV mx v x with
    | some w => mmL mx w r
    | none => none

def give (h : H) : Option V → Res
  | some v => .ok v h
  | none => .no

/-- so many bytes a row may take that the evaluator makes -/
def roomFor (n bytes : Nat) : Bool := Nat.ble (n * bytes) 68719476736 && Nat.ble n 68719476736

def doAppend (h : H) (s bytes el : Nat) (x : V) (m : Nat) (new : List V) : Res :=
  match x with
  | .nils => if m = 0 then .ok .nils h
    else if roomFor m bytes then .ok (.sl h.n 0 m m s false) (newCells h new true el (some 0)) else .no
  | .sl o i n c s' ex => match h.get o with
    | .c k t sp el' fz =>
      if s' = s then
        if n + m ≤ c then
          if m = 0 then .ok (.sl o i n c s ex) h else
          match storeN h o (i + n * s) new with
          | some h' => .ok (.sl o i (n + m) c s ex) h'
          | none => .no
        else if roomFor (n + m) bytes then
          if i + n * s ≤ k then
            if ex then .ok (.sl h.n 0 (n + m) (n + m) s false) (newCells h (readCells t i (n * s) ++ new) true el (some 0))
            else if sp = true ∧ fz.getD 0 ≤ i + n * s ∧ h.fl ≤ o ∧ el' = el ∧ allOne new = true then
              .ok (.sl h.n 0 (n + m) (n + m) s false) (newCells (h.set o .dead) (readCells t i (n * s) ++ new) true el (fz.map (· - i)))
            else .no
          else .no
        else .no
      else .no
    | _ => .no
  | _ => .no

def sAppend (h : H) (s bytes el : Nat) (x y : V) : Res :=
  match srcCells h s y with
  | some (m, l) => doAppend h s bytes el x m l
  | none => .no

def sCopy (h : H) (s : Nat) (x y : V) : Res :=
  match x, srcCells h s y with
  | .nils, some _ => .ok (.int .i64 0) h
  | .sl o i n _ s' _, some (m, l) =>
    if s' = s ∧ alive h o = true then
      if Nat.min m n = 0 then .ok (.int .i64 0) h else
      match storeN h o i (l.take (Nat.min m n * s)) with
      | some h' => .ok (.int .i64 (Nat.min m n)) h'
      | none => .no
    else .no
  | _, _ => .no

def sLd (h : H) : V → Res
  | .ptr o i => match loadN h o i 1 with
    | some [v] => .ok v h
    | _ => .no
  | _ => .no

def sLdn (h : H) (n : Nat) : V → Res
  | .ptr o i => match loadN h o i n with
    | some l => .ok (.agg l) h
    | none => .no
  | _ => .no

def sSt (h : H) (n : Nat) (x v : V) : Res :=
  match x with
  | .ptr o i => match v.cells with
    | some l => if l.length = n then match storeN h o i l with
        | some h' => .ok (.tup []) h'
        | none => .no
      else .no
    | none => .no
  | _ => .no

def sBox (h : H) (el : Nat) (v : V) : Res :=
  match v.cells with
  | some l => .ok (.ptr h.n 0) (newCells h l false el (some 0))
  | none => .no

def sNck (h : H) : V → Res
  | .ptr o i => if alive h o then .ok (.ptr o i) h else .no
  | .fn f c => .ok (.fn f c) h
  | _ => .no

def sEqs (h : H) (neg : Bool) (offs : List (Nat × LK)) (x y : V) : Res :=
  match x, y with
  | .agg a, .agg b => match leafEq a b offs with
    | some r => .ok (.bool (r != neg)) h
    | none => .no
  | _, _ => .no

def sCvi (h : H) (k : IntKind) : V → Res
  | .int _ n => .ok (.int k (k.wrap n)) h
  | _ => .no

def sB2s (h : H) : V → Res
  | .nils => .ok (.str 0 0) h
  | .sl o i n _ s _ => if s = 1 then match loadN h o i n with
      | some l => match bytesFrom 0 0 l with
        | some (m, x) => .ok (.str m x) h
        | none => .no
      | none => .no
    else .no
  | _ => .no

def sS2b (h : H) (el : Nat) : V → Res
  | .str n x => .ok (.sl h.n 0 n n 1 false) (newCells h (strCells n x) true el none)
  | _ => .no

def sMks (h : H) (z : List V) (s bytes el : Nat) (l c : V) : Res :=
  match natOf l, natOf c with
  | some l, some c => if l ≤ c ∧ roomFor c bytes = true then .ok (.sl h.n 0 l c s true) (newCells h (repl z c) false el (some 0)) else .no
  | _, _ => .no

def sSlt (h : H) (e : T V) (lo hi : Option Opd) : V → Res
  | .str n x => match bounds e n n lo hi none with
    | some (l, k, _) => .ok (.str (k - l) (strSub n x l k)) h
    | none => .no
  | _ => .no

def sSls (h : H) (e : T V) (s : Nat) (lo hi mx : Option Opd) : V → Res
  | .nils => match bounds e 0 0 lo hi mx with
    | some _ => .ok .nils h
    | none => .no
  | .sl o i n c s' ex => if s' = s ∧ alive h o = true then match bounds e n c lo hi mx with
      | some (l, k, m) => .ok (.sl o (i + l * s) (k - l) (m - l) s (ex || mx.isSome)) h
      | none => .no
    else .no
  | _ => .no

def sSlp (h : H) (e : T V) (s len : Nat) (lo hi mx : Option Opd) : V → Res
  | .ptr o i => match h.get o, bounds e len len lo hi mx with
    | .c n _ _ _ _, some (l, k, m) => if i + len * s ≤ n then .ok (.sl o (i + l * s) (k - l) (m - l) s true) h else .no
    | _, _ => .no
  | _ => .no

def sFad (h : H) (off : Nat) : V → Res
  | .ptr o i => if alive h o then .ok (.ptr o (i + off)) h else .no
  | _ => .no

def partOf (h : H) (l : List V) (off n : Nat) (ag : Bool) : Res :=
  if off + n ≤ l.length then
    if ag then .ok (.agg ((l.drop off).take n)) h else match l[off]? with
      | some v => .ok v h
      | none => .no
  else .no

def sFld (h : H) (off n : Nat) (ag : Bool) : V → Res
  | .agg l => partOf h l off n ag
  | _ => .no

def sIxs (h : H) (s : Nat) (x i : V) : Res :=
  match x, natOf i with
  | .sl o j n _ s' _, some k => if s' = s ∧ k < n ∧ alive h o = true then .ok (.ptr o (j + k * s)) h else .no
  | _, _ => .no

def sIxp (h : H) (s len : Nat) (x i : V) : Res :=
  match x, natOf i with
  | .ptr o j, some k => if k < len ∧ alive h o = true then .ok (.ptr o (j + k * s)) h else .no
  | _, _ => .no

def sIxa (h : H) (s len : Nat) (ag : Bool) (x i : V) : Res :=
  match x, natOf i with
  | .agg l, some k => if k < len then partOf h l (k * s) s ag else .no
  | _, _ => .no

def sIxt (h : H) (x i : V) : Res :=
  match x, natOf i with
  | .str n x, some k => if k < n then .ok (.int .u8 (strAt n x k)) h else .no
  | _, _ => .no

def sExt (h : H) (i : Nat) : V → Res
  | .tup l => match l[i]? with
    | some v => .ok v h
    | none => .no
  | _ => .no

def sLnt (h : H) : V → Res
  | .str n _ => .ok (.int .i64 n) h
  | _ => .no

def sCvs (h : H) : V → Res
  | .str n x => .ok (.str n x) h
  | _ => .no

def sPan (h : H) : V → Res
  | .ifc t v => .pan (.ifc t v) h
  | _ => .no

def sLen (h : H) : V → Res
  | .nils => .ok (.int .i64 0) h
  | .sl o _ n _ _ _ => if alive h o then .ok (.int .i64 n) h else .no
  | _ => .no

def sCap (h : H) : V → Res
  | .nils => .ok (.int .i64 0) h
  | .sl o _ _ c _ true => if alive h o then .ok (.int .i64 c) h else .no
  | _ => .no

def sRng (h : H) : V → Res
  | .str n x => .ok (.ptr h.n 0) (h.push (.si n x 0))
  | _ => .no

def sNxt (h : H) : V → Res
  | .ptr o 0 => match h.get o with
    | .si n x pos => if pos < n then
        if strAt n x pos < 128 ∧ h.fl ≤ o then .ok (.tup [.bool true, .int .i64 pos, .int .i32 (strAt n x pos)]) (h.set o (.si n x (pos + 1))) else .no
      else .ok (.tup [.bool false]) h
    | _ => .no
  | _ => .no

def sUsd (h : H) : V → Res
  | .nils => .ok .nil h
  | .sl o i _ c _ _ => if c = 0 ∨ alive h o = false then .no else .ok (.ptr o i) h
  | _ => .no

def sUst (h : H) (el : Nat) (x n : V) : Res :=
  match x, natOf n with
  | .nil, some 0 => .ok (.str 0 0) h
  | .ptr o i, some k => match h.get o with
    | .c m t sp el' (some fz) => if k = 0 then .ok (.str 0 0) h
      else if i + k ≤ m ∧ h.fl ≤ o ∧ el' = el ∧ roomFor k 1 = true then match bytesFrom 0 0 (readCells t i k) with
        | some (n, x) => .ok (.str n x) (h.set o (.c m t sp el' (some (Nat.max fz (i + k)))))
        | none => .no
      else .no
    | _ => .no
  | _, _ => .no

def sFbits (h : H) : V → Res
  | .flt b => .ok (.int .u64 b) h
  | _ => .no

def sBitsf (h : H) : V → Res
  | .int .u64 n => .ok (.flt n.toNat) h
  | _ => .no

def sMkz (h : H) (el : Nat) : V → Res
  | .int .i64 (.ofNat n) => if n ≤ 16777216 then .ok (.sl h.n 0 n n 1 false) (newCells h (repl [.bot] n) true el (some 0)) else .no
  | _ => .no

def sP2u (h : H) : V → Res
  | .ptr o i => match h.get o with
    | .c n _ _ _ _ => if i < n then .ok (.ptr o i) h else .no
    | _ => .no
  | _ => .no

def sU2p (h : H) (u s : Nat) : V → Res
  | .ptr o 0 => match h.get o with
    | .c n _ false el _ => if el = u ∧ s ≤ n then .ok (.ptr o 0) h else .no
    | _ => .no
  | _ => .no

def sCalv (call : Nat → List V → H → Res) (h : H) (args : List V) : V → Res
  | .fn f caps => call f (args ++ caps) h
  | _ => .no

def sBld (e : T V) (h : H) (z : List V) (ps : List (Nat × Nat × Opd)) : Res :=
  match fill e z ps with
  | some l => .ok (.agg l) h
  | none => .no

def sBsl (e : T V) (h : H) (z : List V) (len s el : Nat) (ps : List (Nat × Nat × Opd)) : Res :=
  match fill e (repl z len) ps with
  | some l => .ok (.sl h.n 0 len len s true) (newCells h l false el (some 0))
  | none => .no

def sPick (h : H) (a b : V) : V → Res
  | .bool true => .ok a h
  | .bool false => .ok b h
  | _ => .no

def sMm (h : H) (mx : Bool) : List V → Res
  | [] => .no
  | v :: r => give h (mmL mx v r)

def sEq (h : H) (k : EqK) (neg : Bool) (x y : V) : Res :=
  match eqOf h k x y with
  | some r => .ok (.bool (r != neg)) h
  | none => .no

def step (call : Nat → List V → H → Res) (e : T V) (h : H) : COp → Res
  | .mv x => .ok (opd e x) h
  | .pick c a b => sPick h (opd e a) (opd e b) (opd e c)
  | .alc z el => .ok (.ptr h.n 0) (newCells h z false el (some 0))
  | .box el x => sBox h el (opd e x)
  | .bld z ps => sBld e h z ps
  | .bsl z len s el ps => sBsl e h z len s el ps
  | .ld x => sLd h (opd e x)
  | .ldn n x => sLdn h n (opd e x)
  | .st n x v => sSt h n (opd e x) (opd e v)
  | .nck x => sNck h (opd e x)
  | .bin op x y => give h (bin op (opd e x) (opd e y))
  | .eq k neg x y => sEq h k neg (opd e x) (opd e y)
  | .eqs neg offs x y => sEqs h neg offs (opd e x) (opd e y)
  | .un op x => give h (un op (opd e x))
  | .cvi k x => sCvi h k (opd e x)
  | .cvs x => sCvs h (opd e x)
  | .b2s x => sB2s h (opd e x)
  | .s2b el x => sS2b h el (opd e x)
  | .mki t x => .ok (.ifc t (opd e x)) h
  | .mkf f caps => .ok (.fn f (caps.map (opd e))) h
  | .mks z s bytes el l c => sMks h z s bytes el (opd e l) (opd e c)
  | .slt x lo hi => sSlt h e lo hi (opd e x)
  | .sls s x lo hi mx => sSls h e s lo hi mx (opd e x)
  | .slp s len x lo hi mx => sSlp h e s len lo hi mx (opd e x)
  | .fad off x => sFad h off (opd e x)
  | .fld off n ag x => sFld h off n ag (opd e x)
  | .ixs s x i => sIxs h s (opd e x) (opd e i)
  | .ixp s len x i => sIxp h s len (opd e x) (opd e i)
  | .ixa s len ag x i => sIxa h s len ag (opd e x) (opd e i)
  | .ixt x i => sIxt h (opd e x) (opd e i)
  | .ext x i => sExt h i (opd e x)
  | .calf f args => call f (args.map (opd e)) h
  | .calv f args => sCalv call h (args.map (opd e)) (opd e f)
  | .app s bytes el x y => sAppend h s bytes el (opd e x) (opd e y)
  | .cpy s x y => sCopy h s (opd e x) (opd e y)
  | .len x => sLen h (opd e x)
  | .lnt x => sLnt h (opd e x)
  | .lenc n => .ok (.int .i64 n) h
  | .cap x => sCap h (opd e x)
  | .mm mx xs => sMm h mx (xs.map (opd e))
  | .rng x => sRng h (opd e x)
  | .nxt x => sNxt h (opd e x)
  | .usd x => sUsd h (opd e x)
  | .ust el x n => sUst h el (opd e x) (opd e n)
  | .fbits x => sFbits h (opd e x)
  | .bitsf x => sBitsf h (opd e x)
  | .same x => .ok (opd e x) h
  | .mkz el x => sMkz h el (opd e x)
  | .p2u x => sP2u h (opd e x)
  | .u2p u s x => sU2p h u s (opd e x)
  | .pan x => sPan h (opd e x)
  | .stop => .no

abbrev K := T V → H → Res

def put (nt : Nat) (e : T V) (d : Option Nat) (v : V) : T V :=
  match d with
  | some d => if d < nt then e.set .bot d v else e
  | none => e

def want (e : T V) : Option (Nat × Bool) → Bool
  | none => true
  | some (t, w) => match e.get .bot t with
    | .bool b => b == w
    | _ => false

/-- a guard whose answer the evaluator doesn't know stops it -/
def known (e : T V) : Option (Nat × Bool) → Bool
  | none => true
  | some (t, _) => match e.get .bot t with
    | .bool _ => true
    | .tup _ => true
    | _ => false

def runOps (call : Nat → List V → H → Res) (nt : Nat) : List CI → T V → H → K → Res
  | [], e, h, k => k e h
  | i :: l, e, h, k =>
    if known e i.g = false then .no else
    if want e i.g then match step call e h i.op with
      | .ok v h' => runOps call nt l (put nt e i.dst v) h' k
      | .pan v h' => .pan v h'
      | .no => .no
    else runOps call nt l (put nt e i.dst (.tup [])) h k

def H.raise (h : H) : H := { h with fl := h.n }
def H.lower (h : H) (fl : Nat) : H := { h with fl := fl }

def aliveAt (nt : Nat) (e : T V) (h : H) : List Nat → Bool
  | [] => true
  | t :: r => if Nat.blt t nt then match e.get .bot t with
      | .ptr o _ => alive h o && aliveAt nt e h r
      | _ => aliveAt nt e h r
    else false

/-- among the first m: nothing that is there may turn -/
def H.top (h : H) : Nat → H
  | 0 => h
  | _ + 1 => h.raise

/-- a region whose order is open: of the first m operations none turns what was there; what the rest may not take away: al -/
def runDraw (call : Nat → List V → H → Res) (nt : Nat) (al : List Nat) : List CI → Nat → T V → H → K → Res
  | [], _, e, h, k => if aliveAt nt e h al then k e h else .no
  | i :: l, m, e, h, k =>
    if known e i.g = false then .no else
    if want e i.g then match step call e (h.top m) i.op with
      | .ok v h' => runDraw call nt al l (m - 1) (put nt e i.dst v) (h'.lower h.fl) k
      | _ => .no
    else runDraw call nt al l (m - 1) (put nt e i.dst (.tup [])) h k

def look (id : Nat) : List (Nat × K) → Option K
  | [] => none
  | (i, k) :: r => if i = id then some k else look id r

def loopN (body : T V → H → K → Res) : Nat → T V → H → Res
  | 0, _, _ => .no
  | n + 1, e, h => body e h (fun e h => loopN body n e h)

def exec (call : Nat → List V → H → Res) (fuel nt : Nat) : CC → T V → H → K → List (Nat × K) → K → Res
  | .skip, e, h, _, _, k => k e h
  | .ops l, e, h, _, _, k => runOps call nt l e h k
  | .draw m al l, e, h, _, _, k => runDraw call nt al l m e h k
  | .seq a b, e, h, r, x, k => exec call fuel nt a e h r x (fun e h => exec call fuel nt b e h r x k)
  | .cond c a b, e, h, r, x, k => match opd e c with
    | .bool true => exec call fuel nt a e h r x k
    | .bool false => exec call fuel nt b e h r x k
    | _ => .no
  | .block id b, e, h, r, x, k => exec call fuel nt b e h r ((id, k) :: x) k
  | .loop b, e, h, r, x, _ => loopN (fun e h k' => exec call fuel nt b e h r x k') fuel e h
  | .exit id, e, h, _, x, _ => match look id x with
    | some k => k e h
    | none => .no
  | .ret, e, h, r, _, _ => r e h
  | .bad, _, _, _, _, _ => .no

def envOf : List V → Nat → T V → T V
  | [], _, e => e
  | v :: r, i, e => envOf r (i + 1) (e.set .bot i v)

def resV (e : T V) (h : H) : CR → Option V
  | .t i => some (e.get .bot i)
  | .m1 i => match e.get .bot i with
    | .ptr o j => match loadN h o j 1 with
      | some [v] => some v
      | _ => none
    | _ => none
  | .mn i n => match e.get .bot i with
    | .ptr o j => match loadN h o j n with
      | some l => some (.agg l)
      | none => none
    | _ => none

def resL (e : T V) (h : H) : List CR → Option (List V)
  | [] => some []
  | c :: r => match resV e h c, resL e h r with
    | some v, some l => some (v :: l)
    | _, _ => none

def results (res : List CR) (e : T V) (h : H) : Res :=
  match resL e h res with
  | some [v] => .ok v h
  | some l => .ok (.tup l) h
  | none => .no

def call (tab : Nat → Option CFn) : Nat → Nat → List V → H → Res
  | 0, _, _, _ => .no
  | n + 1, f, args, h => match tab f with
    | none => .no
    | some c => if args.length ≤ c.nt then
        exec (call tab n) n c.nt c.body (envOf args 0 .lf) h (fun e h => results c.res e h) [] (fun e h => results c.res e h)
      else .no

end
end Go.Vm
