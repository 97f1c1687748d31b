/- An evaluator of loaded Go code over a heap of its own: plain definitions, nothing is proved here. -/
import Derived.Calls
import Derived.Lib.Bytealg
import Derived.Orders
import Derived.KernelRfl
set_option linter.unusedVariables false
namespace Go.Ev

inductive Ob where
  | cells (own : Bool) (e : Nat) (cs : List Value)   -- may it be written? how many cells an element of a slice over it has; its cells
  | old (e : Nat) (cs : List Value) (succ : Nat)     -- a slice over it was appended to and may have grown in place: the block that came of it
  | mp (es : List (Value × Value × Nat)) (clock : Nat)
  | iter (s : ByteArray) (pos : Nat)
  | loop (fr : List (Nat × Value)) (nt : Nat) (ps : Array Tmp) (as body : Code) (st : LoopState) (pend : Option Code) (dfr : Nat)   -- a range over a function
  | dfr                       -- the block for the calls that its rounds defer
  | dead
  deriving Inhabited
def isObj : Ob → Bool
  | .mp .. | .iter .. | .loop .. | .dfr => true
  | _ => false

/-- a row's word: how many cells an element has, and, above, its type, where it is known -/
def eS (e : Nat) : Nat := e % 1024
def enc (s t : Nat) : Nat := s % 1024 + 1024 * (t + 1)
abbrev H := List Ob
abbrev Fr := List (Nat × Value)

def isLit : Value → Bool
  | .bool _ | .int _ _ | .float _ _ | .complex _ _ _ | .string _ | .pointer none | .slice none _ _ | .map none | .chan none | .nilFunc | .nilIface => true
  | _ => false
def force {α : Type} (n : Int) (f : Int → α) : α :=
  match n with
  | .ofNat 0 => f (.ofNat 0)
  | .ofNat (m + 1) => f (.ofNat (m + 1))
  | .negSucc 0 => f (.negSucc 0)
  | .negSucc (m + 1) => f (.negSucc (m + 1))

def get : Fr → Nat → Option Value
  | [], _ => none
  | (k, u) :: r, t => if k = t then some u else get r t
def put : Fr → Nat → Value → Fr
  | [], d, v => [(d, v)]
  | (k, u) :: r, d, v => if k = d then (k, v) :: r else (k, u) :: put r d v

def sameV : Value → Value → Bool
  | .int k a, .int k' b => decide (k = k') && decide (a = b)
  | .bool a, .bool b => a == b
  | _, _ => false

def rdIn (h : H) : Nat → Nat → Nat → Option Value
  | 0, _, _ => none
  | n + 1, b, o => match h[b]? with
    | some (.cells _ _ cs) => cs[o]?
    | some (.old _ cs s) => match cs[o]?, rdIn h n s o with
      | some v, some v' => if sameV v v' then some v else none
      | _, _ => none
    | _ => none
def rd (h : H) (b o : Nat) : Option Value :=
  match h[b]? with
  | some (.cells _ _ cs) => cs[o]?
  | some (.old ..) => rdIn h (h.length + 1) b o
  | _ => none
def rdN (h : H) (b o : Nat) : Nat → Option (List Value)
  | 0 => some []
  | n + 1 => match rd h b o, rdN h b (o + 1) n with
    | some v, some l => some (v :: l)
    | _, _ => none

/-- cells o.. of a block are written -/
def over (cs : List Value) (o : Nat) (vs : List Value) : List Value := cs.take o ++ vs ++ cs.drop (o + vs.length)
def oneC : Value → Bool
  | .agg _ => false
  | .tuple _ => false
  | _ => true
/-- .. written, or laid on behind them -/
def wrx (h : H) (b o : Nat) (vs : List Value) : Option H :=
  match vs with
  | [] => some h
  | _ => match h[b]? with
    | some (.cells true e cs) => if o ≤ cs.length ∧ vs.all oneC = true then some (h.set b (.cells true e (over cs o vs))) else none
    | _ => none
def wr (h : H) (b o : Nat) (vs : List Value) : Option H :=
  match vs with
  | [] => some h
  | _ => match h[b]? with
    | some (.cells true e cs) => if o + vs.length ≤ cs.length ∧ vs.all oneC = true then some (h.set b (.cells true e (over cs o vs))) else none
    | _ => none

section
variable (P : Program)

def isAgg (t : TypeId) : Option Bool := match P.underlying t with | some (.struct _) | some (.array _ _) => some true | some _ => some false | none => none
def szOf (t : TypeId) : Option Nat := (P.info? t).map (·.size)
def bytesOf (t : TypeId) : Option Nat := (P.info? t).map (·.bytes)
def zeroOf (t : TypeId) : Option Value := (P.info? t).bind (·.zero)
def elOf (t : TypeId) : Option TypeId := match P.underlying t with | some (.slice e) => some e | _ => none

def aLoad (t : TypeId) (v : Value) (h : H) : Option Value :=
  match v with
  | .pointer (some ⟨b, o, none⟩) =>
    match isAgg P t with
    | some true => (szOf P t).bind fun n => (rdN h b o n).map fun l => .agg l.toArray
    | some false => rd h b o
    | none => none
  | _ => none
def aStore (t : TypeId) (p v : Value) (h : H) : Option H :=
  match p with
  | .pointer (some ⟨b, o, none⟩) =>
    (szOf P t).bind fun n => if v.cells.size = n then wr h b o v.cells.toList else none
  | _ => none
def aNew (t : TypeId) (v : Value) (h : H) : Value × H := (.pointer (some ⟨h.length, 0, none⟩), h ++ [.cells true (enc 0 t) v.cells.toList])
def aInt (op : BinOp) (k : IntKind) (a b : Int) : Option Value :=
  match op with
  | .add => force (k.wrap (a + b)) fun n => some (.int k n)
  | .sub => force (k.wrap (a - b)) fun n => some (.int k n)
  | .mul => force (k.wrap (a * b)) fun n => some (.int k n)
  | .quo => if b = 0 then none else force (k.wrap (a.tdiv b)) fun n => some (.int k n)
  | .rem => if b = 0 then none else force (a.tmod b) fun n => some (.int k n)
  | .and => force (k.wrap (BitVec.ofInt k.bits a &&& BitVec.ofInt k.bits b).toNat) fun n => some (.int k n)
  | .or => force (k.wrap (BitVec.ofInt k.bits a ||| BitVec.ofInt k.bits b).toNat) fun n => some (.int k n)
  | .xor => force (k.wrap (BitVec.ofInt k.bits a ^^^ BitVec.ofInt k.bits b).toNat) fun n => some (.int k n)
  | .andNot => force (k.wrap (BitVec.ofInt k.bits a &&& ~~~ BitVec.ofInt k.bits b).toNat) fun n => some (.int k n)
  | .eql => some (.bool (decide (a = b)))
  | .neq => some (.bool (!decide (a = b)))
  | .lss => some (.bool (decide (a < b)))
  | .leq => some (.bool (decide (a ≤ b)))
  | .gtr => some (.bool (decide (b < a)))
  | .geq => some (.bool (decide (b ≤ a)))
  | _ => none
def aShift (op : BinOp) (k : IntKind) (a b : Int) : Option Value :=
  if b < 0 then none else
  match op with
  | .shl => force (k.wrap (a * 2 ^ (min b.toNat k.bits))) fun n => some (.int k n)
  | .shr => force (a.fdiv (2 ^ (min b.toNat k.bits))) fun n => some (.int k n)
  | _ => none
def aStr (op : BinOp) (a b : ByteArray) : Option Value :=
  match op with
  | .add => if a.size + b.size < 2 ^ 63 then some (.string (a ++ b)) else none
  | .eql => some (.bool (a.toList == b.toList))
  | .neq => some (.bool (!(a.toList == b.toList)))
  | .lss => some (.bool (Op.bytesLess a.toList b.toList))
  | .leq => some (.bool (Op.bytesLess a.toList b.toList || a.toList == b.toList))
  | .gtr => some (.bool (!(Op.bytesLess a.toList b.toList || a.toList == b.toList)))
  | .geq => some (.bool (!Op.bytesLess a.toList b.toList))
  | _ => none
/-- '==' of two values of a plain type; of two structs whose fields are whole numbers, bools and strings, one behind the other -/
def eqT : Option TypeDesc → Value → Value → Option Bool
  | some .bool, .bool a, .bool b => some (a == b)
  | some (.int _), .int k a, .int k' b => if k = k' then some (decide (a = b)) else none
  | some .string, .string a, .string b => some (a.toList == b.toList)
  | _, _, _ => none
def eqFs (P : Program) : Nat → List Field → List Value → List Value → Option Bool
  | _, [], [], [] => some true
  | i, f :: fs, x :: xs, y :: ys => if f.name != "_" && decide (f.offset = i) then
      match eqT (P.underlying f.type) x y, eqFs P (i + 1) fs xs ys with
      | some a, some b => some (a && b)
      | _, _ => none
    else none
  | _, _, _, _ => none
/-- '==' of what is no whole number and no string -/
def isC : Operand → Bool
  | .const _ => true
  | _ => false
def aEq (P : Program) (c : Bool) (t : TypeId) (x y : Value) : Option Bool :=
  match P.underlying t, x, y with
  | some .bool, .bool a, .bool b => some (a == b)
  | some (.pointer el), .pointer a, .pointer b => if a.isNone || b.isNone then some (a.isNone && b.isNone) else if (szOf P el).isSome && decide (szOf P el ≠ some 0) && decide (a = b) then some true else none
  | some (.slice _), .slice a _ _, .slice b _ _ => if a.isNone || b.isNone then some (a.isNone && b.isNone) else none
  | some (.map _ _), .map a, .map b => if a.isNone || b.isNone then some (a.isNone && b.isNone) else none
  | some (.func _ _ _), .nilFunc, .nilFunc => some true
  | some (.func _ _ _), .nilFunc, .func _ _ _ => some false
  | some (.func _ _ _), .func _ _ _, .nilFunc => some false
  | some (.interface _), .nilIface, .nilIface => if c then some true else none
  | some (.interface _), .nilIface, .iface _ _ => some false
  | some (.interface _), .iface _ _, .nilIface => some false
  | some (.struct fs), .agg a, .agg b => if !P.eqGuardType P.depth t && !P.stoodInHeld t then eqFs P 0 fs.toList a.toList b.toList else none
  | _, _, _ => none
def aEqOp (c : Bool) (op : BinOp) (t : TypeId) (x y : Value) : Option Value :=
  match op with
  | .eql => (aEq P c t x y).map fun b => .bool b
  | .neq => (aEq P c t x y).map fun b => .bool (!b)
  | _ => none
def aBin (c : Bool) (op : BinOp) (t : TypeId) (x y : Value) : Option Value :=
  match x, y with
  | .int k a, .int k' b => if op = .shl ∨ op = .shr then aShift op k a b else if k = k' then aInt op k a b else none
  | .string a, .string b => aStr op a b
  | x, y => aEqOp P c op t x y
def aUn (op : UnOp) (x : Value) : Option Value :=
  match op, x with
  | .not, .bool b => some (.bool !b)
  | .neg, .int k n => force (k.wrap (0 - n)) fun n => some (.int k n)
  | .xor, .int k n => aInt .xor k (if k.signed then -1 else k.max) n
  | _, _ => none
def fillAt (place : Nat → Option (Nat × Nat)) (cells : List Value) : List (Nat × Value) → Option (List Value)
  | [] => some cells
  | (i, v) :: rest =>
    match place i with
    | none => none
    | some (off, size) => if v.cells.size = size && decide (off + size ≤ cells.length) then fillAt place (over cells off v.cells.toList) rest else none
def fldPlaces : List Field → Option (List (Nat × Nat))
  | [] => some []
  | f :: r => (szOf P f.type).bind fun s => (fldPlaces r).map fun l => (f.offset, s) :: l
def aBuild (t : TypeId) (parts : List (Nat × Value)) : Option Value :=
  match P.underlying t, zeroOf P t with
  | some (.struct fs), some z => if z.cells.toList.all isLit then
      (fldPlaces P fs.toList).bind fun pl => (fillAt (fun i => pl[i]?) z.cells.toList parts).map fun l => .agg l.toArray
    else none
  | some (.array _ e), some z => if z.cells.toList.all isLit then
      (szOf P e).bind fun s => (fillAt (fun i => some (i * s, s)) z.cells.toList parts).map fun l => .agg l.toArray
    else none
  | _, _ => none
def repl : Nat → List Value → List Value
  | 0, _ => []
  | n + 1, z => z ++ repl n z
def aBuildSlice (t : TypeId) (len : Nat) (parts : List (Nat × Value)) (h : H) : Option (Value × H) :=
  match elOf P t with
  | some e => match szOf P e, zeroOf P e with
    | some s, some z => if s < 1024 ∧ len * s ≤ 2 ^ 24 ∧ z.cells.size = s ∧ z.cells.toList.all isLit = true then
        (fillAt (fun i => some (i * s, s)) (repl len z.cells.toList) parts).map fun l =>
          (.slice (some ⟨h.length, 0, none⟩) len len, h ++ [.cells true (enc s e) l])
      else none
    | _, _ => none
  | none => none
def aMakeSlice (t : TypeId) (l c : Value) (h : H) : Option (Value × H) :=
  match elOf P t, l, c with
  | some e, .int _ l, .int _ c => match szOf P e, zeroOf P e, bytesOf P e with
    | some s, some z, some by' => if s < 1024 ∧ 0 ≤ l ∧ l ≤ c ∧ by' * c ≤ 2 ^ 48 ∧ c < 2 ^ 63 ∧ z.cells.size = s ∧ z.cells.toList.all isLit = true then
        some (.slice (some ⟨h.length, 0, none⟩) l.toNat c.toNat, h ++ [.cells true (enc s e) (repl c.toNat z.cells.toList)])
      else none
    | _, _, _ => none
  | _, _, _ => none
def eOf (h : H) (b : Nat) : Option Nat :=
  match h[b]? with
  | some (.cells _ e _) => some (eS e)
  | some (.old e _ _) => some (eS e)
  | _ => none
def bnd (v : Option Value) (dflt y : Nat) : Option Nat :=
  match v with
  | none => some dflt
  | some (.int _ i) => if 0 ≤ i ∧ i ≤ y then some i.toNat else none
  | _ => none
def aSlice (t : TypeId) (x : Value) (lo hi mx : Option Value) (h : H) : Option Value :=
  match P.underlying t, x with
  | some .string, .string s =>
    if mx.isSome then none else
    (bnd hi s.size s.size).bind fun b => (bnd lo 0 b).bind fun a => some (.string (s.extract a b))
  | some (.slice e), .slice p len cap =>
    (szOf P e).bind fun s => (bnd mx cap cap).bind fun m => (bnd hi len m).bind fun b => (bnd lo 0 b).bind fun a =>
        if b ≤ m ∧ (mx.isSome → hi.isSome) then
          match p with
          | none => some (.slice none (b - a) (m - a))
          | some ad => if a = 0 then some (.slice (some ad) b m) else
            if m = a then some (.slice (some ⟨ad.block, ad.off, some 0⟩) 0 0) else
            if eOf h ad.block = some s then some (.slice (some ⟨ad.block, ad.off + a * s, none⟩) (b - a) (m - a)) else none
        else none
  | _, _ => none
def aFieldAddr (t : TypeId) (p : Value) (i : Nat) : Option Value :=
  match P.underlying t, p with
  | some (.struct fs), .pointer (some ⟨b, o, none⟩) => match fs[i]? with
    | some f => match szOf P f.type with
      | some n => if n = 0 then none else some (.pointer (some ⟨b, o + f.offset, none⟩))
      | none => none
    | none => none
  | _, _ => none
def aPart (t : TypeId) (cs : List Value) (off : Nat) : Option Value :=
  match isAgg P t with
  | some true => (szOf P t).map fun n => .agg ((cs.drop off).take n).toArray
  | some false => cs[off]?
  | none => none
def aField (t : TypeId) (x : Value) (i : Nat) : Option Value :=
  match P.underlying t, x with
  | some (.struct fs), .agg cs => match fs[i]? with
    | some f => aPart P f.type cs.toList f.offset
    | none => none
  | _, _ => none
def aIndexAddr (t : TypeId) (x ix : Value) : Option Value :=
  match ix, P.underlying t, x with
  | .int _ i, some (.slice e), .slice (some ⟨b, o, none⟩) len _ =>
    if 0 ≤ i ∧ i < len then (szOf P e).map fun s => .pointer (some ⟨b, o + i.toNat * s, none⟩) else none
  | .int _ i, some (.array len e), .pointer (some ⟨b, o, none⟩) =>
    if 0 ≤ i ∧ i < len then (szOf P e).map fun s => .pointer (some ⟨b, o + i.toNat * s, none⟩) else none
  | _, _, _ => none
def aIndex (t : TypeId) (x ix : Value) : Option Value :=
  match ix, x with
  | .int _ i, .string s => match P.underlying t with
    | some .string => if 0 ≤ i then (match s[i.toNat]? with | some b => some (.int .u8 b.toNat) | none => none) else none
    | _ => none
  | .int _ i, .agg cs => match P.underlying t with
    | some (.array len e) => if 0 ≤ i ∧ i < len then (szOf P e).bind fun s => aPart P e cs.toList (i.toNat * s) else none
    | _ => none
  | _, _ => none
def bytesOfStr (s : ByteArray) : List Value := s.data.toList.map fun b => .int .u8 b.toNat
def strOfCells : List Value → Option (List UInt8)
  | [] => some []
  | .int .u8 n :: r => (strOfCells r).map fun l => UInt8.ofNat n.toNat :: l
  | _ => none
def aConvert (src dst : TypeId) (x : Value) (h : H) : Option (Value × H) :=
  match P.underlying src, P.underlying dst, x with
  | some _, some (.int k), .int _ n => force (k.wrap n) fun n => some (.int k n, h)
  | some _, some .string, .string s => some (.string s, h)
  | some _, some (.slice e), .string s => match P.underlying e with
    | some (.int .u8) => some (.slice (some ⟨h.length, 0, none⟩) s.size s.size, h ++ [.cells true (enc 1 e) (bytesOfStr s)])
    | _ => none
  | some (.slice e), some .string, .slice p len _ => match P.underlying e with
    | some (.int .u8) => match p with
      | none => some (.string .empty, h)
      | some ad => if len = 0 then some (.string .empty, h) else if ad.spot.isSome then none else (rdN h ad.block ad.off len).bind fun l => (strOfCells l).map fun l => (.string ⟨l.toArray⟩, h)
    | _ => none
  | _, _, _ => none

def aConvPtr (src dst : TypeId) (x : Value) (h : H) : Option (Value × H) :=
  match P.underlying src, P.underlying dst, x with
  | some (.pointer t), some .unsafePointer, .pointer (some ⟨b, o, none⟩) => match h[b]? with
    | some (.cells _ e cs) => if 1024 ≤ e ∧ o < cs.length ∧ (szOf P t).isSome ∧ szOf P t ≠ some 0 then some (.pointer (some ⟨b, o, none⟩), h) else none
    | _ => none
  | some .unsafePointer, some (.pointer u), .pointer (some ⟨b, o, none⟩) => match h[b]? with
    | some (.cells _ e cs) => if 1024 ≤ e ∧ eS e = 0 ∧ (szOf P u).isSome ∧ liesAt P P.depth (e / 1024 - 1) (cs.length / P.cellsOf (e / 1024 - 1)) o u 1 = true then some (.pointer (some ⟨b, o, none⟩), h) else none
    | _ => none
  | _, _, _ => none
/-- the cells that a slice or a string brings to append, copy -/
def srcCells (s : Nat) (x : Value) (h : H) : Option (Nat × List Value) :=
  match x with
  | .slice none n _ => if n = 0 then some (0, []) else none
  | .slice (some ad) n _ => if n = 0 then some (0, []) else if ad.spot.isSome then none else (rdN h ad.block ad.off (n * s)).map fun l => (n, l)
  | .string s' => if s = 1 then some (s'.size, bytesOfStr s') else none
  | _ => none
def aAppend (t : TypeId) (b x : Value) (h : H) : Option (Value × H) :=
  match elOf P t, b with
  | some e, .slice p len cap => match szOf P e, bytesOf P e, zeroOf P e with
    | some s, some by', some z => (srcCells s x h).bind fun (n, new) =>
      if n = 0 then (if len ≤ cap then some (.slice p len cap, h) else none) else
      if s < 1024 ∧ (len + n + 1024) * by' ≤ 3 * 2 ^ 46 ∧ len + n < 2 ^ 63 ∧ 0 < s ∧ z.cells.size = s ∧ len ≤ cap then
        match p with
        | none => if len = 0 ∧ cap = 0 then some (.slice (some ⟨h.length, 0, none⟩) n n, h ++ [.cells true (enc s e) new]) else none
        | some ad => if ad.spot.isSome then none else
          if len + n ≤ cap then (if eOf h ad.block = some s then (wrx h ad.block (ad.off + len * s) new).map fun h => (.slice (some ad) (len + n) cap, h) else none)
          else if ad.off = 0 then
            match h[ad.block]? with
            | some (.cells true e' cs) =>
              if len * s ≤ cs.length ∧ eS e' = s ∧ new.all oneC = true then
                some (.slice (some ⟨h.length, 0, none⟩) (len + n) (len + n), h.set ad.block (.old e' (cs.take (len * s)) h.length) ++ [.cells true (if e' = enc s e then e' else s) (cs.take (len * s) ++ new)])
              else none
            | _ => none
          else none
      else none
    | _, _, _ => none
  | _, _ => none
def aCopy (t : TypeId) (d x : Value) (h : H) : Option (Value × H) :=
  match elOf P t, d with
  | some e, .slice p len cap => (szOf P e).bind fun s => (srcCells s x h).bind fun (n, new) =>
    let m := min n len
    if m = 0 then some (.int .i64 0, h) else
    match p with
    | some ad => if ad.spot.isSome ∨ cap < m ∨ ¬ eOf h ad.block = some s then none else (wrx h ad.block ad.off (new.take (m * s))).map fun h => (.int .i64 m, h)
    | none => none
  | _, _ => none
/-- a slice of elements of one cell is cleared -/
def aClear (t : TypeId) (x : Value) (h : H) : Option H :=
  match elOf P t, x with
  | some e, .slice p n cap => match szOf P e, zeroOf P e with
    | some 1, some z => if z.cells.toList.all isLit && decide (z.cells.size = 1) && decide (n ≤ cap) then
        if n = 0 then some h else
        match p with
        | some ad => if ad.spot.isSome ∨ ¬ eOf h ad.block = some 1 then none else wrx h ad.block ad.off (repl n z.cells.toList)
        | none => none
      else none
    | _, _ => none
  | _, _ => none
def mpLen (h : H) (x : Value) : Option Value :=
  match x with
  | .map none => some (.int .i64 0)
  | .map (some r) => match h[r]? with
    | some (.mp es _) => some (.int .i64 es.length)
    | _ => none
  | _ => none
def aLen (t : TypeId) (x : Value) : Option Value :=
  match P.underlying t, x with
  | some .string, .string s => some (.int .i64 s.size)
  | some (.slice _), .slice _ n _ => some (.int .i64 n)
  | some (.array n _), _ => some (.int .i64 n)
  | _, _ => none
/-- a range over a string; the next of its characters -/
def aRange (t : TypeId) (x : Value) (h : H) : Option (Value × H) :=
  match P.underlying t, x with
  | some .string, .string s => some (.pointer (some ⟨h.length, 0, none⟩), h ++ [.iter s 0])
  | _, _ => none
def aNext (it : Value) (h : H) : Option (Value × H) :=
  match it with
  | .pointer (some ⟨r, 0, none⟩) => match h[r]? with
    | some (.iter s pos) =>
      if pos < s.size then
        match Utf8.decode s pos with
        | (c, wd) => some (.tuple #[.bool true, .int .i64 pos, .int .i32 c], h.set r (.iter s (pos + wd)))
      else some (.tuple #[.bool false], h)
    | _ => none
  | _ => none
def isPlainK : Option TypeDesc → Bool
  | some (.int _) | some .string | some .bool => true
  | _ => false
/-- an entry of this key: its place, its value -/
def findK (d : Option TypeDesc) (k : Value) : List (Value × Value × Nat) → Nat → Option (Option (Nat × Value))
  | [], _ => some none
  | (a, v, _) :: r, i => match eqT d k a with
    | some true => some (some (i, v))
    | some false => findK d k r (i + 1)
    | none => none
def mpOf (h : H) (m : Value) : Option (Nat × List (Value × Value × Nat) × Nat) :=
  match m with
  | .map (some r) => match h[r]? with
    | some (.mp es c) => some (r, es, c)
    | _ => none
  | _ => none
def esOf (h : H) (m : Value) : Option (List (Value × Value × Nat)) :=
  match m with
  | .map none => some []
  | m => (mpOf h m).map fun x => x.2.1
def aMakeMap (r : Option Value) (t : TypeId) (h : H) : Option (Value × H) :=
  match P.underlying t, r with
  | some (.map _ _), none | some (.map _ _), some (.int _ _) => some (.map (some h.length), h ++ [.mp [] 0])
  | _, _ => none
def aLookup (t : TypeId) (m k : Value) (ok : Bool) (h : H) : Option Value :=
  match P.underlying t with
  | some (.map kt et) => match zeroOf P et with
    | some z => if z.cells.toList.all isLit && isPlainK (P.underlying kt) && isLit k then
        (esOf h m).bind fun es => (findK (P.underlying kt) k es 0).map fun f => match f with
          | some (_, v) => if ok then .tuple #[v, .bool true] else v
          | none => if ok then .tuple #[z, .bool false] else z
      else none
    | none => none
  | _ => none
def aMapUpdate (t : TypeId) (m k v : Value) (h : H) : Option H :=
  match P.underlying t with
  | some (.map kt _) => if isPlainK (P.underlying kt) && isLit k then
      (mpOf h m).bind fun (r, es, c) => (findK (P.underlying kt) k es 0).bind fun f => match f with
        | some (i, _) => (es[i]?).map fun e => h.set r (.mp (es.set i (k, v, e.2.2)) c)
        | none => some (h.set r (.mp (es ++ [(k, v, c)]) (c + 1)))
    else none
  | _ => none
def aDelete (t : TypeId) (m k : Value) (h : H) : Option H :=
  match P.underlying t with
  | some (.map kt _) => if isPlainK (P.underlying kt) && isLit k then
      match m with
      | .map none => some h
      | m => (mpOf h m).bind fun (r, es, c) => (findK (P.underlying kt) k es 0).map fun f => match f with
        | some (i, _) => h.set r (.mp (es.eraseIdx i) c)
        | none => h.set r (.mp es c)
    else none
  | _ => none
/-- is it a value of this type? -/
def aAssert (t : TypeId) (x : Value) (ok : Bool) : Option Value :=
  match P.underlying t with
  | some (.interface _) => none
  | some _ => match x, zeroOf P t with
    | .iface d v, some z => if d = t then some (if ok then .tuple #[v, .bool true] else v) else if ok && z.cells.toList.all isLit then some (.tuple #[z, .bool false]) else none
    | .nilIface, some z => if ok && z.cells.toList.all isLit then some (.tuple #[z, .bool false]) else none
    | _, _ => none
  | none => none
def aMin2 : Value → Value → Option Value
  | .int k a, .int _ b => some (.int k (if b < a then b else a))
  | _, _ => none
def aMax2 : Value → Value → Option Value
  | .int k a, .int _ b => some (.int k (if b > a then b else a))
  | _, _ => none
def fold2 (f : Value → Value → Option Value) : Value → List Value → Option Value
  | x, [] => some x
  | x, y :: r => (f x y).bind fun z => fold2 f z r

def ev1 (fr : Fr) : Operand → Option Value
  | .tmp t => get fr t
  | .const v => if isLit v then some v else none
  | .global _ => none
  | .func f => some (.func (.func f) #[] #[])
def evL (fr : Fr) : List Operand → Option (List Value)
  | [] => some []
  | x :: r => (ev1 fr x).bind fun v => (evL fr r).map fun l => v :: l
def evO (fr : Fr) : Option Operand → Option (Option Value)
  | none => some none
  | some x => (ev1 fr x).map some
def evP (fr : Fr) : List (Nat × Operand) → Option (List (Nat × Value))
  | [] => some []
  | (i, x) :: r => (ev1 fr x).bind fun v => (evP fr r).map fun l => (i, v) :: l

abbrev CallT := Fn → List Value → H → Option (Value × H)
def isByte : Value → Bool
  | .int .u8 n => decide (0 ≤ n) && decide (n < 256)
  | _ => false
def aBuiltin (b : Builtin) (ts : Array TypeId) (xs : List Value) (h : H) : Option (Value × H) :=
  match b, ts[0]?, xs with
  | .len, some t, [x] => match P.underlying t with
    | some (.map _ _) => (mpLen h x).map fun v => (v, h)
    | _ => (aLen P t x).map fun v => (v, h)
  | .append, some t, [x, y] => match (ts[1]?).bind P.underlying with
    | some (.slice _) | some .string => aAppend P t x y h
    | _ => none
  | .copy, some t, [x, y] => aCopy P t x y h
  | .clear, some t, [x] => (aClear P t x h).map fun h => (.tuple #[], h)
  | .delete, some t, [m, k] => (aDelete P t m k h).map fun h => (undef, h)
  | .cap, some t, [.slice none _ c] => match P.underlying t with
    | some (.slice _) => some (.int .i64 c, h)
    | _ => none
  | .unsafeSliceData, _, [.slice none _ _] => some (.pointer none, h)
  | .unsafeSliceData, _, [.slice (some ad) _ c] => if c = 0 ∨ ad.spot.isSome then none else some (.pointer (some ad), h)
  | .unsafeString, some t, [.pointer p, .int .i64 n] => if n = 0 ∧ ts.size = 2 then some (.string .empty, h) else
    match P.underlying t, p with
    | some (.pointer el), some ⟨b, 0, none⟩ => match h[b]? with
      | some (.cells own e cs) => if e = enc 1 el ∧ P.cellsOf el = 1 ∧ 0 < n ∧ n < 2 ^ 63 ∧ ts.size = 2 ∧ n.toNat ≤ cs.length ∧ (cs.take n.toNat).all isByte = true then
          (strOfCells (cs.take n.toNat)).map fun l => (.string ⟨l.toArray⟩, h.set b (.cells false e cs))
        else none
      | _ => none
    | _, _ => none
  | .min, _, x :: r => (fold2 aMin2 x r).map fun v => (v, h)
  | .max, _, x :: r => (fold2 aMax2 x r).map fun v => (v, h)
  | _, _, _ => none
def evCall (call : CallT) (c : Call) (fr : Fr) (h : H) : Option (Value × H) :=
  (evL fr c.args.toList).bind fun xs =>
  match c.callee with
  | .builtin b => aBuiltin P b c.argTypes xs h
  | .value f => match ev1 fr f with
    | some (.func f first cap) => call f (first.toList ++ xs ++ cap.toList) h
    | _ => none
  | .invoke _ _ => none

/-- the pure ones and the loads; those that make or write -/
def isYield : Fn → Bool
  | .yield _ => true
  | _ => false
def evOp (call : CallT) (o : Op) (fr : Fr) (h : H) : Option (Value × H) :=
  let q (r : Option Value) : Option (Value × H) := r.map fun v => (v, h)
  match o with
  | .move x | .assign x => q (ev1 fr x)
  | .pick c a b => match ev1 fr c with
    | some (.bool true) => q (ev1 fr a)
    | some (.bool false) => q (ev1 fr b)
    | _ => none
  | .alloc t => (zeroOf P t).bind fun z => if z.cells.toList.all isLit then some (aNew t z h) else none
  | .box t x => (ev1 fr x).map fun v => aNew t v h
  | .build t ps => (evP fr ps.toList).bind fun ps => q (aBuild P t ps)
  | .buildSlice t n ps => (evP fr ps.toList).bind fun ps => aBuildSlice P t n ps h
  | .load t a => (ev1 fr a).bind fun a => q (aLoad P t a h)
  | .store t a v => (ev1 fr a).bind fun a => (ev1 fr v).bind fun v => (aStore P t a v h).map fun h => (undef, h)
  | .nilCheck x => match ev1 fr x with
    | some (.pointer (some a)) => some (.pointer (some a), h)
    | some (.func (.func f) a b) => some (.func (.func f) a b, h)
    | some (.func (.yield l) a b) => some (.func (.yield l) a b, h)
    | _ => none
  | .binOp op t x y _ => (ev1 fr x).bind fun vx => (ev1 fr y).bind fun vy => q (aBin P (isC x || isC y) op t vx vy)
  | .unOp op _ x => (ev1 fr x).bind fun x => q (aUn op x)
  | .convert s d x => (ev1 fr x).bind fun x => match x with
    | .pointer (some a) => aConvPtr P s d (.pointer (some a)) h
    | x => aConvert P s d x h
  | .makeFunc fn first cap => if isYield fn then none else (evL fr first.toList).bind fun f => (evL fr cap.toList).bind fun c => some (.func fn f.toArray c.toArray, h)
  | .makeSlice t l c => (ev1 fr l).bind fun l => (ev1 fr c).bind fun c => aMakeSlice P t l c h
  | .slice t x lo hi mx => (ev1 fr x).bind fun x => (evO fr lo).bind fun lo => (evO fr hi).bind fun hi => (evO fr mx).bind fun mx => q (aSlice P t x lo hi mx h)
  | .fieldAddr t x f => (ev1 fr x).bind fun x => q (aFieldAddr P t x f)
  | .field t x f => (ev1 fr x).bind fun x => q (aField P t x f)
  | .indexAddr t x i => (ev1 fr x).bind fun x => (ev1 fr i).bind fun i => q (aIndexAddr P t x i)
  | .index t x i => (ev1 fr x).bind fun x => (ev1 fr i).bind fun i => q (aIndex P t x i)
  | .extract x i => (ev1 fr x).bind fun x => match x with
    | .tuple vs => q vs[i]?
    | _ => none
  | .range t x => (ev1 fr x).bind fun x => aRange P t x h
  | .makeMap t r => (evO fr r).bind fun r => aMakeMap P r t h
  | .lookup t m k ok => (ev1 fr m).bind fun m => (ev1 fr k).bind fun k => q (aLookup P t m k ok h)
  | .mapUpdate t m k v => (ev1 fr m).bind fun m => (ev1 fr k).bind fun k => (ev1 fr v).bind fun v => (aMapUpdate P t m k v h).map fun h => (undef, h)
  | .makeInterface t x => (ev1 fr x).bind fun x => match P.underlying t with
    | some (.interface _) => none
    | some _ => some (.iface t x, h)
    | none => none
  | .typeAssert x _ t ok => (ev1 fr x).bind fun x => q (aAssert P t x ok)
  | .next it true => (ev1 fr it).bind fun it => aNext it h
  | .call c => evCall P call c fr h
  | _ => none

def wantedB (ops : Array Oper) (g : Option (Nat × Bool)) (fr : Fr) : Option Bool :=
  match g with
  | none => some true
  | some (j, want) => match (ops[j]?).bind (·.dst) with
    | none => some false
    | some d => match get fr d with
      | some (.bool b) => some (b == want)
      | some _ => some false
      | none => none
def putO (nt : Nat) (fr : Fr) (d : Option Tmp) (v : Value) : Option Fr :=
  match d with
  | some d => if d < nt then some (put fr d v) else none
  | none => some fr
def evOps (call : CallT) (nt : Nat) (ops : Array Oper) : List Oper → Fr → H → Option (Fr × H)
  | [], fr, h => some (fr, h)
  | o :: r, fr, h =>
    match wantedB ops o.guard fr with
    | some true => (evOp P call o.op fr h).bind fun (v, h) => (putO nt fr o.dst v).bind fun fr => evOps call nt ops r fr h
    | some false => (putO nt fr o.dst undef).bind fun fr => evOps call nt ops r fr h
    | none => none

/-! a region that draws its order -/
def loudB (b : Builtin) : Bool := match b with | .len | .min | .max | .cap | .unsafeSliceData => false | _ => true
def loud : Op → Bool
  | .makeMap .. | .mapUpdate .. | .alloc _ | .box _ _ | .buildSlice .. | .store .. | .makeSlice .. | .range .. | .next .. => true
  | .convert _ d _ => match P.underlying d with | some (.slice _) => true | _ => false
  | .call c => match c.callee with | .builtin b => loudB b | _ => true
  | _ => false
def eqA : List Value → List Value → Bool
  | [], [] => true
  | x :: xs, y :: ys => (match x, y with
    | .int k a, .int k' b => decide (k = k') && decide (a = b)
    | .bool a, .bool b => a == b
    | .string a, .string b => decide (a = b)
    | .pointer a, .pointer b => decide (a = b)
    | .slice a l c, .slice b l' c' => decide (a = b) && decide (l = l') && decide (c = c')
    | _, _ => false) && eqA xs ys
  | _, _ => false
def eqV : Value → Value → Bool
  | .agg a, .agg b => eqA a.toList b.toList
  | .tuple a, .tuple b => eqA a.toList b.toList
  | a, b => eqA [a] [b]
/-- what came of each operation: was it wanted, the frame ahead of it, its value; the heaps, one a loud operation -/
structure Tr where
  want : Bool
  fr : Fr
  val : Value
def evTr (call : CallT) (nt : Nat) (ops : Array Oper) : List Oper → Fr → H → Option (List Tr × List H × Fr)
  | [], fr, h => some ([], [h], fr)
  | o :: r, fr, h =>
    match wantedB ops o.guard fr with
    | some true => (evOp P call o.op fr h).bind fun (v, h') => (putO nt fr o.dst v).bind fun fr' =>
      (evTr call nt ops r fr' h').map fun (ts, hs, f) => (⟨true, fr, v⟩ :: ts, if loud P o.op then h :: hs else hs, f)
    | some false => (putO nt fr o.dst undef).bind fun fr' => (evTr call nt ops r fr' h).map fun (ts, hs, f) => (⟨false, fr, undef⟩ :: ts, if loud P o.op then h :: hs else hs, f)
    | none => none
def befOf (acc : List Nat) : List Edge → Nat
  | [] => 0
  | e :: r => if Region.binds .any e then 2 ^ e.on ||| acc.getD e.on 0 ||| befOf acc r else befOf acc r
def befs : List Oper → List Nat → List Nat
  | [], acc => acc
  | o :: r, acc => befs r (acc ++ [befOf acc o.after.toList])
def looks (ops : Array Oper) (o : Oper) : List Tmp := o.looksAt ops
/-- operations i < j that must not change places are bound -/
def pairOk (ops : Array Oper) (x y : Oper) : Bool :=
  (match x.dst with | some d => !(y.looksAt ops).contains d && y.dst != some d | none => true) &&
  (match y.dst with | some d => !(x.looksAt ops).contains d | none => true) &&
  !(loud P x.op && loud P y.op)
def pairsOk (ops : Array Oper) (y : Oper) (by' : Nat) : Nat → List Oper → Bool
  | _, [] => true
  | i, x :: r => (by'.testBit i || pairOk P ops x y) && pairsOk ops y by' (i + 1) r
def tieOk (ops : Array Oper) : Nat → List Oper → List Nat → Bool
  | _, [], _ => true
  | j, y :: r, bs => pairsOk P ops y (bs.getD j 0) 0 (ops.toList.take j) && y.after.all (fun e => !Region.binds .any e || decide (e.on < j)) && tieOk ops (j + 1) r bs
/-- how many loud ones must come ahead of i; how many may -/
def loCnt (bi : Nat) : Nat → List Oper → Nat
  | _, [] => 0
  | j, y :: r => (if loud P y.op && bi.testBit j then 1 else 0) + loCnt bi (j + 1) r
def hiCnt (bs : List Nat) (i : Nat) : Nat → List Oper → Nat
  | _, [] => 0
  | j, y :: r => (if loud P y.op && !(bs.getD j 0).testBit i then 1 else 0) + hiCnt bs i (j + 1) r
/-- these look at no heap -/
def pureO : Op → Bool
  | .move _ | .assign _ | .pick .. | .build .. | .binOp .. | .unOp .. | .nilCheck _ | .field .. | .fieldAddr .. | .indexAddr .. | .index .. | .extract .. | .makeFunc .. => true
  | .convert _ d _ => match P.underlying d with | some (.int _) => true | _ => false
  | .call c => match c.callee with | .builtin b => !loudB b && (match (c.argTypes[0]?).bind P.underlying with | some (.map _ _) => false | _ => true) | _ => false
  | _ => false
def sameOn (call : CallT) (o : Oper) (t : Tr) : List H → Bool
  | [] => true
  | h :: r => (match evOp P call o.op t.fr h with | some (v, _) => eqV v t.val | none => false) && sameOn call o t r
def readsOk (call : CallT) (ops : List Oper) (bs : List Nat) (hs : List H) : Nat → List Oper → List Tr → Bool
  | _, [], _ => true
  | i, o :: r, t :: ts => (loud P o.op || !t.want || pureO P o.op || (let lo := loCnt P (bs.getD i 0) 0 ops; let hi := hiCnt P bs i 0 ops; lo == hi || sameOn P call o t ((hs.drop lo).take (hi - lo + 1)))) && readsOk call ops bs hs (i + 1) r ts
  | _, _, [] => false
def evDraw (call : CallT) (nt : Nat) (ops : Array Oper) (fr : Fr) (h : H) : Option (Fr × H) :=
  (evTr P call nt ops ops.toList fr h).bind fun (ts, hs, f) =>
    let bs := befs ops.toList []
    if tieOk P ops 0 ops.toList bs && readsOk P call ops.toList bs hs 0 ops.toList ts then (hs.getLast?).map fun h => (f, h) else none

inductive Ex where
  | normal | exit (id : Nat) | ret
abbrev Out := Value × H
abbrev KT := Ex → Fr → List Nat → H → Option Out
def loopK : Nat → (Fr → List Nat → H → KT → Option Out) → Fr → List Nat → H → KT → Option Out
  | 0, _, _, _, _, _ => none
  | n + 1, f, fr, ds, h, K => f fr ds h fun e fr ds h => match e with
    | .normal => loopK n f fr ds h K
    | e => K e fr ds h
/-- what a round leaves behind -/
def jumpK (pend : Option Code) (fr : Fr) (ds : List Nat) (h : H) (K : KT) : Option Out :=
  match pend with
  | none => K .normal fr ds h
  | some .ret => K .ret fr ds h
  | some (.exit id) => K (.exit id) fr ds h
  | _ => none
def loopOf (h : H) (l : Nat) : Option (Fr × Nat × Array Tmp × Code × Code × LoopState × Option Code × Nat) :=
  match h[l]? with
  | some (.loop fr nt ps as body st pend d) => some (fr, nt, ps, as, body, st, pend, d)
  | _ => none
def dfrOf (h : H) (ro : Option Nat) (ds : List Nat) : Option (Nat × List Nat × H) :=
  match ro with
  | none => some (h.length, h.length :: ds, h ++ [.dfr])
  | some l => match loopOf h l with
    | some (_, _, _, _, _, _, _, d) => some (d, ds, h)
    | none => none
def isGo (f : FuncId) : Bool := (P.funcs[f]?).any (·.body.isSome)
def evK (call : CallT) (ro : Option Nat) (nt n : Nat) : Code → Fr → List Nat → H → KT → Option Out
  | .skip, fr, ds, h, K => K .normal fr ds h
  | .label _, fr, ds, h, K => K .normal fr ds h
  | .region _ ops d, fr, ds, h, K => (if d then evDraw P call nt ops fr h else evOps P call nt ops ops.toList fr h).bind fun (fr, h) => K .normal fr ds h
  | .seq a b, fr, ds, h, K => evK call ro nt n a fr ds h fun e fr ds h => match e with
    | .normal => evK call ro nt n b fr ds h K
    | e => K e fr ds h
  | .cond c a b, fr, ds, h, K => match ev1 fr c with
    | some (.bool true) => evK call ro nt n a fr ds h K
    | some (.bool false) => evK call ro nt n b fr ds h K
    | _ => none
  | .block id c, fr, ds, h, K => evK call ro nt n c fr ds h fun e fr ds h => match e with
    | .exit j => if j = id then K .normal fr ds h else K (.exit j) fr ds h
    | e => K e fr ds h
  | .loop c, fr, ds, h, K => loopK n (evK call ro nt n c) fr ds h K
  | .rangeFunc g ps as body, fr, ds, h, K => match ev1 fr g with
    | some (.func (.func f) first cap) => if !isGo P f then none else (dfrOf h ro ds).bind fun (d, ds, h) =>
      (call (.func f) (first.toList ++ [.func (.yield h.length) #[] #[]] ++ cap.toList) (h ++ [.loop fr nt ps as body .ready none d])).bind fun (_, h') =>
        (loopOf h' h.length).bind fun (_, _, _, _, _, st, pend, _) => if st = .busy then none else jumpK pend fr ds (h'.set h.length .dead) K
    | _ => none
  | .exit id, fr, ds, h, K => K (.exit id) fr ds h
  | .scope c, fr, ds, h, K => evK call ro nt n c fr ds h K
  | .ret, fr, ds, h, K => K .ret fr ds h
  | _, _, _, _, _ => none
def res1 (fr : Fr) (h : H) : ResultVar → Option Value
  | .tmp t => get fr t
  | .cell a t => (get fr a).bind fun v => aLoad P t v h
def resL (fr : Fr) (h : H) : List ResultVar → Option (List Value)
  | [] => some []
  | r :: rs => (res1 P fr h r).bind fun v => (resL fr h rs).map fun l => v :: l
def argFr : Nat → List Value → Fr
  | _, [] => []
  | i, v :: r => (i, v) :: argFr (i + 1) r
/-- the blocks for the calls that rounds defer: none was -/
def takeD : List Nat → H → Option H
  | [], h => some h
  | d :: ds, h => match h[d]? with
    | some .dfr => takeD ds (h.set d .dead)
    | _ => none
def putL (nt : Nat) : List Tmp → List Value → Fr → Option Fr
  | [], [], fr => some fr
  | t :: ts, v :: vs, fr => if t < nt then putL nt ts vs (put fr t v) else none
  | _, _, _ => none
def endK (l : Nat) (h : H) (pend : Option Code) : Option Out :=
  match loopOf h l with
  | some (fr, nt, ps, as, body, .busy, _, d) => some (.bool pend.isNone, h.set l (.loop fr nt ps as body (if pend.isNone then .ready else .done) pend d))
  | _ => none
def begK (l : Nat) (h : H) : Option H :=
  match loopOf h l with
  | some (fr, nt, ps, as, body, .ready, pend, d) => some (h.set l (.loop fr nt ps as body .busy pend d))
  | _ => none
/-- functions that have no body of their own: the model's entries -/
def evExt (fn : Func) (args : List Value) (h : H) : Option (Value × H) :=
  if fn.origin = "" then
    if fn.name = "internal/abi.NoEscape" then match args with
      | [x] => some (x, h)
      | _ => none
    else if fn.name = "internal/bytealg.IndexByteString" then match args with
      | [.string s, .int .u8 c] => force (Lib.indexByte s.data.toList c.toNat.toUInt8) fun n => some (.int .i64 n, h)
      | _ => none
    else if fn.name = "internal/bytealg.abigen_runtime_cmpstring" then match args with
      | [.string a, .string b] => force (Extern.BytealgCompare.cmp a b) fun n => some (.int .i64 n, h)
      | _ => none
    else if fn.name = "internal/bytealg.MakeNoZero" then match args, fn.resultTypes with
      | [.int .i64 n], ⟨[t]⟩ => match elOf P t with
        | some e => if 0 ≤ n ∧ n ≤ 2 ^ 48 then some (.slice (some ⟨h.length, 0, none⟩) n.toNat n.toNat, h ++ [.cells true (enc 1 e) []]) else none
        | none => none
      | _, _ => none
    else none
  else none
def ev : Nat → CallT
  | 0, _, _, _ => none
  | n + 1, .func f, args, h => match P.funcs[f]? with
    | some fn => match fn.body with
      | some c => if fn.ntmps < args.length then none else evK P (ev n) none fn.ntmps n c (argFr 0 args) [] h fun e fr ds h => match e with
        | .exit _ => none
        | _ => (takeD ds h).bind fun h => (resL P fr h fn.results.toList).map fun l => match l with
          | [v] => (v, h)
          | l => (.tuple l.toArray, h)
      | none => evExt P fn args h
    | none => none
  | n + 1, .yield l, args, h => match loopOf h l with
    | some (fr, nt, ps, as, body, _, _, _) => (putL nt ps.toList args fr).bind fun fr =>
      evK P (ev n) (some l) nt n as fr [] h fun e fr ds h => match e with
        | .normal => (begK l h).bind fun h => evK P (ev n) (some l) nt n body fr ds h fun e _ _ h => match e with
          | .normal => endK l h none
          | .ret => endK l h (some .ret)
          | .exit id => endK l h (some (.exit id))
        | _ => none
    | none => none
  | _, _, _, _ => none
end
end Go.Ev
