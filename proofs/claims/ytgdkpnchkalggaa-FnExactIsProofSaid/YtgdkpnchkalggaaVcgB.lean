/- The verification conditions: a proposition computed from a function's code and an abstract state. -/
import Derived.Test.YtgdkpnchkalggaaVcgA
namespace Go.Vc
open Go

structure TD where
  und : TypeDesc
  size : Nat
  bytes : Nat
  zero : List V
  eqg : Bool
  deriving Inhabited

abbrev Env := TypeId → Option TD

def isAggD : TypeDesc → Bool
  | .struct _ => true
  | .array _ _ => true
  | _ => false

def ev (tm : List V) : Operand → V
  | .tmp t => tm.getD t (.c undef)
  | .const v => .c v
  | .global g => .c (.pointer (some ⟨g, 0, none⟩))
  | .func f => .c (.func (.func f) #[] #[])

def cellsOf : V → Option (List V)
  | .a cs => some cs
  | .t _ => none
  | .j => none
  | .c (.agg _) => none
  | .c (.tuple _) => none
  | v => some [v]

def asS : V → Option (Nat × Nat × Nat × Nat)
  | .s h o n c => some (h, o, n, c)
  | .c (.slice none 0 0) => some (0, 0, 0, 0)
  | _ => none

def asI : V → Option (IntKind × Int)
  | .c (.int k n) => some (k, n)
  | _ => none

/-- 'cells' with 'vs' from place 'off' on. -/
def splice (cells : List V) (off : Nat) (vs : List V) : List V := cells.take off ++ vs ++ cells.drop (off + vs.length)

/-- The cells of a block, none where there is no such block. -/
def cellsAt (hp : List Blk) (h : Nat) : List V :=
  match hp[h]? with
  | some b => b.cells
  | none => []

def bitI (op : BinOp) (k : IntKind) (x y : Int) : Int :=
  let a := BitVec.ofInt k.bits x
  let b := BitVec.ofInt k.bits y
  match op with
  | .and => k.wrap (a &&& b).toNat
  | .or => k.wrap (a ||| b).toNat
  | .xor => k.wrap (a ^^^ b).toNat
  | _ => k.wrap (a &&& ~~~b).toNat

def vInt (op : BinOp) (ka : IntKind) (a : Int) (kb : IntKind) (b : Int) (k : V → Prop) : Prop :=
  match op with
  | .add => ka = kb ∧ k (.c (.int ka (ka.wrap (a + b))))
  | .sub => ka = kb ∧ k (.c (.int ka (ka.wrap (a - b))))
  | .mul => ka = kb ∧ k (.c (.int ka (ka.wrap (a * b))))
  | .quo => ka = kb ∧ b ≠ 0 ∧ k (.c (.int ka (ka.wrap (a.tdiv b))))
  | .rem => ka = kb ∧ b ≠ 0 ∧ k (.c (.int ka (a.tmod b)))
  | .and | .or | .xor | .andNot => ka = kb ∧ k (.c (.int ka (bitI op ka a b)))
  | .shl => 0 ≤ b ∧ k (.c (.int ka (ka.wrap (a * 2 ^ (min b.toNat ka.bits)))))
  | .shr => 0 ≤ b ∧ k (.c (.int ka (a.fdiv (2 ^ (min b.toNat ka.bits)))))
  | .eql => ka = kb ∧ k (.c (.bool (a == b)))
  | .neq => ka = kb ∧ k (.c (.bool (a != b)))
  | .lss => ka = kb ∧ k (.c (.bool (decide (a < b))))
  | .leq => ka = kb ∧ k (.c (.bool (decide (a ≤ b))))
  | .gtr => ka = kb ∧ k (.c (.bool (decide (a > b))))
  | .geq => ka = kb ∧ k (.c (.bool (decide (a ≥ b))))

/-- All cells are integers of one kind. -/
def intCells (k : IntKind) (cs : List V) : Prop := ∀ c ∈ cs, ∃ n, c = .c (.int k n)

def vBin (E : Env) (op : BinOp) (t : TypeId) (x y : V) (k : V → Prop) : Prop :=
  match x, y with
  | .c (.int ka a), .c (.int kb b) => vInt op ka a kb b k
  | .c (.bool a), .c (.bool b) =>
    (match E t with | some d => d.und = .bool | none => False) ∧
    match op with
    | .eql => k (.c (.bool (a == b)))
    | .neq => k (.c (.bool (!(a == b))))
    | _ => False
  | .c (.string a), .c (.string b) =>
    match op with
    | .eql => k (.c (.bool (a.toList == b.toList)))
    | .neq => k (.c (.bool !(a.toList == b.toList)))
    | _ => False
  | .s _ _ _ c, .c (.slice none 0 0) => (match E t with | some d => (match d.und with | .slice _ => True | _ => False) | none => False) ∧
    match op with
    | .eql => ∀ b : Bool, (0 < c → b = false) → k (.c (.bool b))
    | .neq => ∀ b : Bool, (0 < c → b = false) → k (.c (.bool !b))
    | _ => False
  | .c (.slice none 0 0), .c (.slice none 0 0) => (match E t with | some d => (match d.und with | .slice _ => True | _ => False) | none => False) ∧
    match op with
    | .eql => k (.c (.bool true))
    | .neq => k (.c (.bool false))
    | _ => False
  | .a cs, .a ds =>
    match E t with
    | some d => match d.und with
      | .array n e => match E e with
        | some de => match de.und with
          | .int ki => d.eqg = false ∧ de.size = 1 ∧ cs.length = n ∧ ds.length = n ∧ intCells ki cs ∧ intCells ki ds ∧
            match op with
            | .eql => ∀ b : Bool, (b = true ↔ cs = ds) → k (.c (.bool b))
            | .neq => ∀ b : Bool, (b = true ↔ cs = ds) → k (.c (.bool !b))
            | _ => False
          | _ => False
        | none => False
      | _ => False
    | none => False
  | _, _ => False

def vUn (op : UnOp) (x : V) (k : V → Prop) : Prop :=
  match op, x with
  | .not, .c (.bool b) => k (.c (.bool !b))
  | .neg, .c (.int ki n) => k (.c (.int ki (ki.wrap (0 - n))))
  | .xor, .c (.int ki n) => k (.c (.int ki (bitI .xor ki (if ki.signed then -1 else ki.max) n)))
  | _, _ => False

/-- A cell | some cells as an aggregate | cells written over. -/
def vGet (cells : List V) (o : Nat) (k : V → Prop) : Prop := o < cells.length ∧ k (cells.getD o .j)
def vSub (cells : List V) (o n : Nat) (k : V → Prop) : Prop := o + n ≤ cells.length ∧ k (.a ((cells.drop o).take n))
def vPut (cells : List V) (o : Nat) (vs : List V) (k : List V → Prop) : Prop := o + vs.length ≤ cells.length ∧ k (splice cells o vs)

def vLoad (E : Env) (t : TypeId) (x : V) (hp : List Blk) (k : V → Prop) : Prop :=
  match E t, x with
  | some d, .p h o => match hp[h]? with
    | some b => if isAggD d.und then vSub b.cells o d.size k else vGet b.cells o k
    | none => False
  | _, _ => False

def vNil (x : V) (k : V → Prop) : Prop :=
  match x with
  | .p _ _ => k x
  | .c (.int _ _) => k x
  | .c (.func (.func _) _ _) => k x
  | _ => False

/-- A slice's bounds: low, high, the room. -/
def vBounds (len cap : Nat) (low high max : Option V) (k : Nat → Nat → Nat → Prop) : Prop :=
  match max with
  | none =>
    match high with
    | some vh => match asI vh with
      | some (_, ih) => 0 ≤ ih ∧ ih ≤ cap ∧ (match low with
        | some vl => match asI vl with
          | some (_, il) => 0 ≤ il ∧ il ≤ ih ∧ k il.toNat ih.toNat cap
          | none => False
        | none => k 0 ih.toNat cap)
      | none => False
    | none => match low with
      | some vl => match asI vl with
        | some (_, il) => 0 ≤ il ∧ il ≤ len ∧ k il.toNat len cap
        | none => False
      | none => k 0 len cap
  | some _ => False

def vSlice (E : Env) (t : TypeId) (x : V) (low high max : Option V) (k : V → Prop) : Prop :=
  match E t with
  | some d => match d.und with
    | .array n e => match E e, x with
      | some de, .p h o => vBounds n n low high max fun l u m => k (.s h (o + l * de.size) (u - l) (m - l))
      | _, _ => False
    | .slice e => match E e, asS x with
      | some de, some (h, o, n, c) => vBounds n c low high max fun l u m => k (.s h (o + l * de.size) (u - l) (m - l))
      | _, _ => False
    | .string => match x with
      | .c (.string s) => vBounds s.size s.size low high max fun l u _ => k (.c (.string (s.extract l u)))
      | _ => False
    | _ => False
  | none => False

def vConv (E : Env) (src dst : TypeId) (x : V) (hp : List Blk) (k : V → Prop) : Prop :=
  match E src, E dst with
  | some ds, some dd => match x with
    | .c (.int _ n) => match dd.und with
      | .int kd => k (.c (.int kd (kd.wrap n)))
      | _ => False
    | _ => match dd.und, ds.und with
      | .string, .slice e => match E e, asS x with
        | some de, some (h, o, n, _) => de.und = .int .u8 ∧ ∃ bs : List UInt8, bs.length = n ∧
            (n = 0 ∨ o + n ≤ (cellsAt hp h).length ∧ ((cellsAt hp h).drop o).take n = bs.map (fun u => V.c (.int .u8 u.toNat))) ∧
            k (.c (.string ⟨bs.toArray⟩))
        | _, _ => False
      | _, _ => False
  | _, _ => False

def vArrPtr (E : Env) (t : TypeId) (x : V) (k : V → Prop) : Prop :=
  match E t with
  | some d => match d.und with
    | .array n _ => match x with
      | .s h o len c => n ≤ len ∧ 0 < c ∧ k (.p h o)
      | _ => False
    | _ => False
  | none => False

def vFieldAddr (E : Env) (t : TypeId) (x : V) (f : Nat) (k : V → Prop) : Prop :=
  match E t with
  | some d => match d.und with
    | .struct fs => match fs[f]?, x with
      | some fd, .p h o => match E fd.type with
        | some df => df.size ≠ 0 ∧ k (.p h (o + fd.offset))
        | none => False
      | _, _ => False
    | _ => False
  | none => False

/-- A part of an aggregate: of type t, at place off. -/
def vPart (E : Env) (t : TypeId) (cs : List V) (off : Nat) (k : V → Prop) : Prop :=
  match E t with
  | some d => if isAggD d.und then vSub cs off d.size k else d.size = 1 ∧ vGet cs off k
  | none => False

def vField (E : Env) (t : TypeId) (x : V) (f : Nat) (k : V → Prop) : Prop :=
  match E t with
  | some d => match d.und with
    | .struct fs => match fs[f]?, x with
      | some fd, .a cs => vPart E fd.type cs fd.offset k
      | _, _ => False
    | _ => False
  | none => False

def vIndexAddr (E : Env) (t : TypeId) (x i : V) (k : V → Prop) : Prop :=
  match E t, asI i with
  | some d, some (_, n) => match d.und with
    | .array len e => match E e, x with
      | some de, .p h o => 0 ≤ n ∧ n < len ∧ k (.p h (o + n.toNat * de.size))
      | _, _ => False
    | .slice e => match E e, x with
      | some de, .s h o len _ => 0 ≤ n ∧ n < len ∧ k (.p h (o + n.toNat * de.size))
      | _, _ => False
    | _ => False
  | _, _ => False

def vIndex (E : Env) (t : TypeId) (x i : V) (k : V → Prop) : Prop :=
  match E t, asI i with
  | some d, some (_, n) => match d.und with
    | .array len e => match E e, x with
      | some de, .a cs => 0 ≤ n ∧ n < len ∧ vPart E e cs (n.toNat * de.size) k
      | _, _ => False
    | .string => match x with
      | .c (.string s) => 0 ≤ n ∧ n < s.size ∧ k (.c (.int .u8 (s.data.toList.getD n.toNat 0).toNat))
      | _ => False
    | _ => False
  | _, _ => False

def vExtract (x : V) (i : Nat) (k : V → Prop) : Prop :=
  match x with
  | .t vs => match vs[i]? with
    | some v => k v
    | none => False
  | _ => False

def vPick (c x y : V) (k : V → Prop) : Prop :=
  match c with
  | .c (.bool t) => k (cond t x y)
  | _ => False

def vLen (E : Env) (ts : List TypeId) (xs : List V) (k : V → Prop) : Prop :=
  match ts, xs with
  | t :: _, x :: _ => match E t with
    | some d => match d.und with
      | .array n _ => k (.c (.int .i64 n))
      | .string => match x with
        | .c (.string s) => k (.c (.int .i64 s.size))
        | _ => False
      | .slice _ => match asS x with
        | some (_, _, n, _) => k (.c (.int .i64 n))
        | none => False
      | _ => False
    | none => False
  | _, _ => False

def vCap (E : Env) (ts : List TypeId) (xs : List V) (k : V → Prop) : Prop :=
  match ts, xs with
  | t :: _, x :: _ => match E t with
    | some d => match d.und with
      | .slice _ => match asS x with
        | some (_, _, _, c) => k (.c (.int .i64 c))
        | none => False
      | _ => False
    | none => False
  | _, _ => False

def vMin (mx : Bool) (xs : List V) (k : V → Prop) : Prop :=
  match xs with
  | [x, y] => match asI x, asI y with
    | some (ka, a), some (kb, b) => ka = kb ∧ k (.c (.int ka (if mx then max a b else min a b)))
    | _, _ => False
  | _ => False

/-- Parts of an aggregate, laid into its zero cells. -/
def fillV (place : Nat → Option (Nat × Nat)) (cells : List V) : List (Nat × V) → Option (List V)
  | [] => some cells
  | (i, v) :: rest => match place i, cellsOf v with
    | some (off, size), some vs => if vs.length = size ∧ off + size ≤ cells.length then fillV place (splice cells off vs) rest else none
    | _, _ => none

def vBuild (E : Env) (t : TypeId) (ps : List (Nat × V)) (k : V → Prop) : Prop :=
  match E t with
  | some d => match d.und with
    | .struct fs => match fillV (fun i => (fs[i]?).bind fun f => (E f.type).map fun df => (f.offset, df.size)) d.zero ps with
      | some cs => (∀ f ∈ fs.toList, (E f.type).isSome = true) ∧ k (.a cs)
      | none => False
    | .array _ e => match E e with
      | some de => match fillV (fun i => some (i * de.size, de.size)) d.zero ps with
        | some cs => k (.a cs)
        | none => False
      | none => False
    | _ => False
  | none => False

/-- Operations that leave the world as it is. -/
def vcS (E : Env) (op : Op) (tm : List V) (hp : List Blk) (k : V → Prop) : Prop :=
  match op with
  | .move x => k (ev tm x)
  | .assign x => k (ev tm x)
  | .build t ps => vBuild E t (ps.toList.map fun q => (q.1, ev tm q.2)) k
  | .load t x => vLoad E t (ev tm x) hp k
  | .nilCheck x => vNil (ev tm x) k
  | .binOp op t x y _ => vBin E op t (ev tm x) (ev tm y) k
  | .unOp op _ x => vUn op (ev tm x) k
  | .convert s d x => vConv E s d (ev tm x) hp k
  | .sliceToArrayPointer t x => vArrPtr E t (ev tm x) k
  | .slice t x lo hi mx => vSlice E t (ev tm x) (lo.map (ev tm)) (hi.map (ev tm)) (mx.map (ev tm)) k
  | .fieldAddr t x f => vFieldAddr E t (ev tm x) f k
  | .field t x f => vField E t (ev tm x) f k
  | .indexAddr t x i => vIndexAddr E t (ev tm x) (ev tm i) k
  | .index t x i => vIndex E t (ev tm x) (ev tm i) k
  | .extract x i => vExtract (ev tm x) i k
  | .pick c x y => vPick (ev tm c) (ev tm x) (ev tm y) k
  | .makeFunc f first captured => first = #[] ∧ captured = #[] ∧ k (.c (.func f #[] #[]))
  | .call { callee := .builtin .len, args, argTypes } => vLen E argTypes.toList (args.toList.map (ev tm)) k
  | .call { callee := .builtin .cap, args, argTypes } => vCap E argTypes.toList (args.toList.map (ev tm)) k
  | .call { callee := .builtin .min, args, .. } => vMin false (args.toList.map (ev tm)) k
  | .call { callee := .builtin .max, args, .. } => vMin true (args.toList.map (ev tm)) k
  | _ => False

def isS : Op → Bool
  | .move _ | .assign _ | .build .. | .load .. | .nilCheck _ | .binOp .. | .unOp .. | .convert .. | .sliceToArrayPointer .. | .slice ..
  | .fieldAddr .. | .field .. | .indexAddr .. | .index .. | .extract .. | .makeFunc .. | .pick .. => true
  | .call { callee := .builtin .len, .. } | .call { callee := .builtin .cap, .. } | .call { callee := .builtin .min, .. } | .call { callee := .builtin .max, .. } => true
  | _ => false

/-! ### Calls -/
-- A callee's abstract value seen by the caller: handles below m are the caller's segments 'sub', the others are the caller's new handles from N on.
mutual
def V.inst (sub : List (Nat × Nat)) (N : Nat) : V → V
  | .c x => .c x
  | .p h o => match sub[h]? with
    | some (g, q) => .p g (q + o)
    | none => .p (N + (h - sub.length)) o
  | .s h o n m => match sub[h]? with
    | some (g, q) => .s g (q + o) n m
    | none => .s (N + (h - sub.length)) o n m
  | .a cs => .a (V.instL sub N cs)
  | .t vs => .t (V.instL sub N vs)
  | .j => .j
def V.instL (sub : List (Nat × Nat)) (N : Nat) : List V → List V
  | [] => []
  | v :: vs => v.inst sub N :: V.instL sub N vs
end

/-- Own blocks of the caller's that a callee may write. -/
def modOf (ha : List Blk) (ρ : Loc) : Nat → Prop := fun k => ∃ (h : Nat) (b : Blk), ha[h]? = some b ∧ b.own = true ∧ b.cells ≠ [] ∧ k = (ρ h).1

def hasBody (P : Program) (f : FuncId) : Prop := ∃ fn, P.funcs[f]? = some fn ∧ fn.body.isSome = true ∧ (fn.name == "runtime.NumGoroutine") = false

/-- What a call of function f does, told by abstract values alone: called with these arguments over these blocks it returns, and 'post' holds of the result and the blocks behind it. -/
def LC (P : Program) (f : FuncId) (args : List V) (ha : List Blk) (post : V → List Blk → Prop) : Prop :=
  hasBody P f ∧ ∀ (w : World) (ρ : Loc) (xs : List Value), Hd (modOf ha ρ) w ρ ha w → relL ρ args xs → okL ha.length args →
    Calls P f xs.toArray w fun e w' => ∃ v hp' ρ' x, e = .returned x ∧ post v hp' ∧ Hd (modOf ha ρ) w ρ' hp' w' ∧ ha.length ≤ hp'.length ∧
      (∀ h, h < ha.length → ρ' h = ρ h) ∧ rel ρ' v x ∧ okV hp'.length v

/-- The caller's segments hold what the callee reads. -/
def segOK (hp : List Blk) (sub : List (Nat × Nat)) : List (Nat × Nat) → List Blk → Prop
  | [], [] => True
  | (g, q) :: r, b :: ha => (b.own = false ∧ g < hp.length ∧ ((cellsAt hp g).drop q).take b.cells.length = V.instL sub hp.length b.cells) ∧ segOK hp sub r ha
  | _, _ => False

def leArg (v u : V) : Prop := v = u ∨ ((∃ h o, asS v = some (h, o, 0, 0)) ∧ ∃ g q, u = .s g q 0 0)
def leArgs : List V → List V → Prop
  | [], [] => True
  | v :: vs, u :: us => leArg v u ∧ leArgs vs us
  | _, _ => False

def vCall (P : Program) (f : FuncId) (args : List V) (hp : List Blk) (k : V → List Blk → Prop) : Prop :=
  ∃ (args0 : List V) (ha : List Blk) (post : V → List Blk → Prop) (sub : List (Nat × Nat)), LC P f args0 ha post ∧
    leArgs args (V.instL sub hp.length args0) ∧ segOK hp sub sub ha ∧ okL ha.length args0 ∧ (∀ b ∈ ha, okL ha.length b.cells) ∧
    ∀ v hp', post v hp' → ∃ hr, hp' = ha ++ hr ∧ (∀ b ∈ hr, b.own = true ∨ b.cells = []) ∧
      k (v.inst sub hp.length) (hp ++ hr.map fun b => ⟨b.own, V.instL sub hp.length b.cells⟩)

/-- The same, where the callee may write: an own block is handed over whole. -/
def segM (hp : List Blk) (sub : List (Nat × Nat)) : List (Nat × Nat) → List Blk → Prop
  | [], [] => True
  | (g, q) :: r, b :: ha => ((b.own = false ∧ g < hp.length ∧ ((cellsAt hp g).drop q).take b.cells.length = V.instL sub hp.length b.cells) ∨
      (b.own = true ∧ q = 0 ∧ hp[g]? = some ⟨true, V.instL sub hp.length b.cells⟩)) ∧ segM hp sub r ha
  | _, _ => False
def putSegs (sub : List (Nat × Nat)) (N : Nat) : List Blk → List (Nat × Nat) → List Blk → List Blk → List Blk
  | hp, (g, _) :: r, b :: ha, b' :: ha' => putSegs sub N (if b.own then hp.set g ⟨b'.own, V.instL sub N b'.cells⟩ else hp) r ha ha'
  | hp, _, _, _ => hp
def keepR : List Blk → List Blk → Prop
  | [], [] => True
  | b :: ha, b' :: ha' => (if b.own then b'.cells.length = b.cells.length else b' = b) ∧ keepR ha ha'
  | _, _ => False
def vCallM (P : Program) (f : FuncId) (args : List V) (hp : List Blk) (k : V → List Blk → Prop) : Prop :=
  ∃ (args0 : List V) (ha : List Blk) (post : V → List Blk → Prop) (sub : List (Nat × Nat)), LC P f args0 ha post ∧
    leArgs args (V.instL sub hp.length args0) ∧ segM hp sub sub ha ∧ (sub.map (·.1)).Nodup ∧ okL ha.length args0 ∧ (∀ b ∈ ha, okL ha.length b.cells) ∧
    ∀ v hp', post v hp' → ∃ ha' hr, hp' = ha' ++ hr ∧ keepR ha ha' ∧ (∀ b ∈ hr, b.own = true ∨ b.cells = []) ∧
      k (v.inst sub hp.length) (putSegs sub hp.length hp sub ha ha' ++ hr.map fun b => ⟨b.own, V.instL sub hp.length b.cells⟩)

/-- May the block be written from o on, c elements of this size; or must an append leave it? -/
def roomOK (hp : List Blk) (h o c sz need : Nat) : Prop :=
  match hp[h]? with
  | some b => if b.own then o + c * sz ≤ b.cells.length else c = 0 ∨ c < need
  | none => c = 0

def killS (hp : List Blk) : V → List Blk
  | .s h _ _ _ => hp.set h ⟨false, []⟩
  | _ => hp

def vAppend (E : Env) (ts : List TypeId) (args : List V) (hp : List Blk) (k : V → List Blk → Prop) : Prop :=
  match ts, args with
  | [t, t'], [s, x] => t = t' ∧ match E t with
    | some d => match d.und with
      | .slice e => match E e, asS s, asS x with
        | some de, some (h, o, n, c), some (h2, o2, m, _) =>
          0 < de.size ∧ n + m ≤ 1099511627776 ∧ (n + m) * de.bytes ≤ 1099511627776 ∧ roomOK hp h o c de.size (n + m) ∧
            (n = 0 ∨ o + n * de.size ≤ (cellsAt hp h).length) ∧ (m = 0 ∨ o2 + m * de.size ≤ (cellsAt hp h2).length) ∧
            ∀ r c' : Nat, c' * de.size = (n + m) * de.size + r → n + m ≤ c' →
              k (.s hp.length 0 (n + m) c') (killS hp s ++ [⟨true, ((cellsAt hp h).drop o).take (n * de.size) ++ ((cellsAt hp h2).drop o2).take (m * de.size) ++ List.replicate r V.j⟩])
        | _, _, _ => False
      | _ => False
    | none => False
  | _, _ => False

/-- append(s, make([]T, m)...) to a slice without room. -/
def vAppendZ (E : Env) (ts : List TypeId) (args : List V) (hp : List Blk) (k : V → List Blk → Prop) : Prop :=
  match ts, args with
  | [t, t'], [s, .c (.int _ m)] =>
    match E t, E t' with
    | some d, some d' => match d.und, d'.und with
      | .slice e, .int _ => match E e, asS s with
        | some de, some (_, _, 0, 0) => 0 < m ∧ m ≤ 1099511627776 ∧ m.toNat * de.bytes ≤ 1099511627776 ∧ 0 < de.size ∧
            ∀ r c' : Nat, c' * de.size = m.toNat * de.size + r → m.toNat ≤ c' →
              k (.s hp.length 0 m.toNat c') (hp ++ [⟨true, (List.replicate m.toNat de.zero).flatten ++ List.replicate r V.j⟩])
        | _, _ => False
      | _, _ => False
    | _, _ => False
  | _, _ => False

def vCopy (E : Env) (ts : List TypeId) (args : List V) (hp : List Blk) (k : V → List Blk → Prop) : Prop :=
  match ts, args with
  | t :: _, [s, x] => match E t with
    | some d => match d.und with
      | .slice e => match E e, asS s, asS x with
        | some de, some (h, o, n, _), some (h2, o2, m, _) => match hp[h]? with
          | some b => b.own = true ∧ 0 < de.size ∧ 0 < n ∧ o + min m n * de.size ≤ b.cells.length ∧ (min m n = 0 ∨ o2 + min m n * de.size ≤ (cellsAt hp h2).length) ∧
              k (.c (.int .i64 (min m n : Nat))) (hp.set h ⟨true, splice b.cells o (((cellsAt hp h2).drop o2).take (min m n * de.size))⟩)
          | none => False
        | _, _, _ => False
      | _ => False
    | none => False
  | _, _ => False

def vStore (E : Env) (t : TypeId) (x y : V) (hp : List Blk) (k : V → List Blk → Prop) : Prop :=
  match E t, x, cellsOf y with
  | some d, .p h o, some vs => match hp[h]? with
    | some b => b.own = true ∧ vs.length = d.size ∧ vPut b.cells o vs fun cs => k (.c undef) (hp.set h ⟨true, cs⟩)
    | none => False
  | _, _, _ => False

def vMakeSlice (E : Env) (t : TypeId) (len cap : V) (hp : List Blk) (k : V → List Blk → Prop) : Prop :=
  match E t with
  | some d => match d.und, asI len, asI cap with
    | .slice e, some (_, n), some (_, c) => match E e with
      | some de => 0 ≤ n ∧ n ≤ c ∧ de.bytes * c ≤ 140737488355328 ∧ c ≤ 9223372036854775807 ∧
        k (.s hp.length 0 n.toNat c.toNat) (hp ++ [⟨true, (List.replicate c.toNat de.zero).flatten⟩])
      | none => False
    | _, _, _ => False
  | none => False

def vBuildSlice (E : Env) (t : TypeId) (len : Nat) (ps : List (Nat × V)) (hp : List Blk) (k : V → List Blk → Prop) : Prop :=
  match E t with
  | some d => match d.und with
    | .slice e => match E e with
      | some de => len * de.size ≤ 16777216 ∧ match fillV (fun i => some (i * de.size, de.size)) (List.replicate len de.zero).flatten ps with
        | some cs => k (.s hp.length 0 len len) (hp ++ [⟨true, cs⟩])
        | none => False
      | none => False
    | _ => False
  | none => False

def vApp (E : Env) (ts : List TypeId) (args : List V) (hp : List Blk) (k : V → List Blk → Prop) : Prop :=
  match args with
  | [_, .c (.int _ _)] => vAppendZ E ts args hp k
  | _ => vAppend E ts args hp k

/-- Operations that make or write memory. -/
def vcE (E : Env) (P : Program) (mu : List FuncId) (op : Op) (tm : List V) (hp : List Blk) (k : V → List Blk → Prop) : Prop :=
  match op with
  | .alloc t => match E t with
    | some d => k (.p hp.length 0) (hp ++ [⟨true, d.zero⟩])
    | none => False
  | .box _ x => match cellsOf (ev tm x) with
    | some cs => k (.p hp.length 0) (hp ++ [⟨true, cs⟩])
    | none => False
  | .buildSlice t len ps => vBuildSlice E t len (ps.toList.map fun q => (q.1, ev tm q.2)) hp k
  | .store t x y => vStore E t (ev tm x) (ev tm y) hp k
  | .makeSlice t l c => vMakeSlice E t (ev tm l) (ev tm c) hp k
  | .call { callee := .builtin .append, args, argTypes } => vApp E argTypes.toList (args.toList.map (ev tm)) hp k
  | .call { callee := .builtin .copy, args, argTypes } => vCopy E argTypes.toList (args.toList.map (ev tm)) hp k
  | .call { callee := .value (.func f), args, .. } => if mu.contains f then vCallM P f (args.toList.map (ev tm)) hp k else vCall P f (args.toList.map (ev tm)) hp k
  | _ => False

def putV (tm : List V) (d : Option Tmp) (v : V) : List V :=
  match d with
  | some t => tm.set t v
  | none => tm

def vcOne (E : Env) (P : Program) (mu : List FuncId) (o : Oper) (tm : List V) (hp : List Blk) (k : List V → List Blk → Prop) : Prop :=
  if isS o.op then vcS E o.op tm hp fun v => k (putV tm o.dst v) hp
  else vcE E P mu o.op tm hp fun v hp' => k (putV tm o.dst v) hp'

/-- Under its guard. -/
def vcG (E : Env) (P : Program) (mu : List FuncId) (ops : List Oper) (o : Oper) (tm : List V) (hp : List Blk) (k : List V → List Blk → Prop) : Prop :=
  match o.guard with
  | none => vcOne E P mu o tm hp k
  | some (j, want) => match (ops[j]?).bind (·.dst) with
    | some d => match tm[d]? with
      | some (.c (.bool b)) => (b = want → vcOne E P mu o tm hp k) ∧ (b ≠ want → k (putV tm o.dst (.c undef)) hp)
      | _ => False
    | none => False

def vcList (E : Env) (P : Program) (mu : List FuncId) (ops : List Oper) : List Oper → List V → List Blk → (List V → List Blk → Prop) → Prop
  | [], tm, hp, k => k tm hp
  | o :: rest, tm, hp, k => vcG E P mu ops o tm hp fun tm' hp' => vcList E P mu ops rest tm' hp' k

/-! ### Forgetting, for loops -/
-- A renaming of handles.
mutual
def V.ren (σ : List Nat) : V → V
  | .c x => .c x
  | .p h o => .p (σ.getD h 0) o
  | .s h o n m => .s (σ.getD h 0) o n m
  | .a cs => .a (V.renL σ cs)
  | .t vs => .t (V.renL σ vs)
  | .j => .j
def V.renL (σ : List Nat) : List V → List V
  | [] => []
  | v :: vs => v.ren σ :: V.renL σ vs
end

def leV (σ : List Nat) (v : V) : V → Prop
  | .j => True
  | u => v = u.ren σ
def leTm (σ : List Nat) : List V → List V → Prop
  | [], [] => True
  | v :: vs, u :: us => leV σ v u ∧ leTm σ vs us
  | _, _ => False
def leHp (σ : List Nat) (hp : List Blk) : List Nat → List Blk → Prop
  | [], [] => True
  | g :: gs, b :: bs => (b.cells = [] ∨ match hp[g]? with | some c => c.cells = V.renL σ b.cells ∧ (b.own = true → c.own = true) | none => False) ∧ leHp σ hp gs bs
  | _, _ => False
/-- The state (tm, hp) is one of those that (tm', hp') tells of, its handles renamed by σ. -/
def LeS (m : Nat) (σ : List Nat) (tm : List V) (hp : List Blk) (tm' : List V) (hp' : List Blk) : Prop :=
  σ.take m = List.range m ∧ σ.Nodup ∧ leTm σ tm tm' ∧ leHp σ hp σ hp' ∧ okL hp'.length tm' ∧ ∀ b ∈ hp', okL hp'.length b.cells

/-! ### Regions that draw their order: the order in which the operations are walked is given, and checked -/
/-- Operations that leave all blocks as they were that were there before (they may make new ones). -/
def presOp (mu : List FuncId) : Op → Bool
  | .alloc _ | .box .. | .buildSlice .. | .makeSlice .. => true
  | .call { callee := .value (.func f), .. } => !mu.contains f
  | op => isS op

def isLoad : Op → Bool
  | .load .. => true
  | .convert .. => true
  | _ => false

/-- Whom an operation waits for, by a chain of at most n steps. -/
def waitsB (ops : Array Oper) (i : Nat) : Nat → Nat → Bool
  | 0, _ => false
  | n + 1, j => match ops[j]? with
    | some o => o.after.any fun e => Region.binds .any e && (e.on == i || waitsB ops i n e.on)
    | none => false

def takeB (mu : List FuncId) (ops : Array Oper) (listed : Array Bool) (i : Nat) : Bool :=
  match ops[i]? with
  | some o => isS o.op && Region.free .any ops listed i && (Region.ready .any ops listed).contains i &&
      (!isLoad o.op || (List.range ops.size).all fun j => j == i || listed.getD j true || waitsB ops i ops.size j || ((ops[j]?).map fun q => presOp mu q.op).getD true)
  | none => false

/-- The orders in which a region is walked: one operation and on; or, where several effects are ready at once, several ways, each from here. -/
inductive Tr where
  | nil
  | one (i : Nat) (t : Tr)
  | alt (a b : Tr)
def Tr.heads : Tr → List Nat
  | .nil => []
  | .one i _ => [i]
  | .alt a b => a.heads ++ b.heads
def Tr.size : Tr → Nat
  | .nil => 0
  | .one _ t => t.size + 1
  | .alt a b => a.size + b.size + 1

/-- Whatever variables of F were allocated ahead of their place: c holds of what is listed then, and of those that were not. -/
def chkSub (c : Array Bool → List Nat → Bool) : List Nat → Array Bool → List Nat → Bool
  | [], L, rest => c L rest
  | f :: F, L, rest => chkSub c F (L.setIfInBounds f true) rest && chkSub c F L (f :: rest)

def chkT (mu : List FuncId) (ops : Array Oper) : Bool → Array Bool → List Nat → Tr → Bool
  | cov, listed, F, .nil => !cov && F.isEmpty && (Region.ready .any ops listed).isEmpty
  | cov, listed, F, .one i t =>
    if F.contains i then !cov && chkSub (fun L rest => !rest.contains i || ((Region.ready .any ops L).contains i && (Region.ready .any ops L).all fun j => rest.contains j)) F listed [] && chkT mu ops false (listed.setIfInBounds i true) (F.filter (· != i)) t
    else (cov || chkSub (fun L rest => takeB mu ops L i || ((Region.ready .any ops L).contains i && (Region.ready .any ops L).all fun j => j == i || rest.contains j)) F listed []) && chkT mu ops false (listed.setIfInBounds i true) F t
  | cov, listed, F, .alt a b =>
    (cov || chkSub (fun L rest => !(Region.ready .any ops L).isEmpty && (Region.ready .any ops L).all fun j => (a.heads ++ b.heads).contains j || rest.contains j) F listed []) && chkT mu ops true listed F a && chkT mu ops true listed F b

/-- Variables that may be allocated ahead of their place: operation, slot. -/
abbrev Flt := List (Nat × Tmp)
def isAlloc (E : Env) (d : Tmp) : Oper → Bool
  | ⟨some d', .alloc t, _, _, _, none⟩ => d == d' && (match E t with | some dd => !dd.zero.isEmpty | none => false)
  | _ => false
def fltOK (E : Env) (ops : Array Oper) (F : Flt) : Bool :=
  F.all fun q => (match ops[q.1]? with | some o => isAlloc E q.2 o | none => false) &&
    (List.range ops.size).all fun j => j == q.1 || !((ops[j]?).bind (·.dst) == some q.2)
/-- Their slots are unknown until their place comes. -/
def killT : Flt → List V → List V
  | [], tm => tm
  | q :: F, tm => killT F (tm.set q.2 .j)

/-- All regions of a code that draw are walked in orders that are right. -/
def ordOK (E : Env) (mu : List FuncId) (ord : Nat → Tr) (flt : Nat → Flt) : Code → Bool
  | .region id ops draw => !draw || (Region.noSelect ops && fltOK E ops (flt id) && chkT mu ops false (Array.replicate ops.size false) ((flt id).map (·.1)) (ord id))
  | .seq a b => ordOK E mu ord flt a && ordOK E mu ord flt b
  | .cond _ a b => ordOK E mu ord flt a && ordOK E mu ord flt b
  | .block _ b => ordOK E mu ord flt b
  | .loop b => ordOK E mu ord flt b
  | .scope b => ordOK E mu ord flt b
  | .rangeFunc _ _ a b => ordOK E mu ord flt a && ordOK E mu ord flt b
  | _ => true

def vcSeq (E : Env) (P : Program) (mu : List FuncId) (ops : List Oper) : Tr → List V → List Blk → (List V → List Blk → Prop) → Prop
  | .nil, tm, hp, k => k tm hp
  | .one i t, tm, hp, k => match ops[i]? with
    | some o => vcG E P mu ops o tm hp fun tm' hp' => vcSeq E P mu ops t tm' hp' k
    | none => False
  | .alt a b, tm, hp, k => vcSeq E P mu ops a tm hp k ∧ vcSeq E P mu ops b tm hp k

/-- The rest behind a code: by how it ended. -/
def vThen (next : List V → List Blk → Prop) (Q : Exit → List V → List Blk → Prop) : Exit → List V → List Blk → Prop
  | .normal, tm, hp => next tm hp
  | e, tm, hp => Q e tm hp
def vBlock (id : Nat) (Q : Exit → List V → List Blk → Prop) : Exit → List V → List Blk → Prop
  | .exit id', tm, hp => if id' = id then Q .normal tm hp else Q (.exit id') tm hp
  | e, tm, hp => Q e tm hp

/-- What a function's conditions hang on: the types, the program, the orders of the regions that draw, the functions that write into an argument's memory, the number of blocks that came in. -/
structure Cx where
  E : Env
  P : Program
  ord : Nat → Tr
  flt : Nat → Flt
  mu : List FuncId
  m : Nat

/-- A loop: an invariant with a measure, chosen by the prover; 'body' says what a round must do. -/
def vLoop (m : Nat) (body : List V → List Blk → (Exit → List V → List Blk → Prop) → Prop) (tm : List V) (hp : List Blk) (Q : Exit → List V → List Blk → Prop) : Prop :=
  ∃ I : Nat → List V → List Blk → Prop, (∃ n tm' hp' σ, I n tm' hp' ∧ LeS m σ tm hp tm' hp') ∧
    ∀ n tm' hp', I n tm' hp' → body tm' hp' (vThen (fun tm1 hp1 => ∃ n', n' < n ∧ ∃ tm2 hp2 σ, I n' tm2 hp2 ∧ LeS m σ tm1 hp1 tm2 hp2) Q)

def vCond (x : V) (A B : Prop) : Prop :=
  match x with
  | .c (.bool t) => (t = true → A) ∧ (t = false → B)
  | _ => False

def vcCode (X : Cx) : Code → List V → List Blk → (Exit → List V → List Blk → Prop) → Prop
  | .skip, tm, hp, Q => Q .normal tm hp
  | .ret, tm, hp, Q => Q .ret tm hp
  | .exit id, tm, hp, Q => Q (.exit id) tm hp
  | .seq a b, tm, hp, Q => vcCode X a tm hp (vThen (fun tm' hp' => vcCode X b tm' hp' Q) Q)
  | .cond x a b, tm, hp, Q => vCond (ev tm x) (vcCode X a tm hp Q) (vcCode X b tm hp Q)
  | .block id body, tm, hp, Q => vcCode X body tm hp (vBlock id Q)
  | .region id ops draw, tm, hp, Q => if draw then vcSeq X.E X.P X.mu ops.toList (X.ord id) (killT (X.flt id) tm) hp (Q .normal) else vcList X.E X.P X.mu ops.toList ops.toList tm hp (Q .normal)
  | .loop body, tm, hp, Q => vLoop X.m (vcCode X body) tm hp Q
  | _, _, _, _ => False

/-- What a function's end hands back. -/
def vResL (E : Env) : List ResultVar → List V → List Blk → (List V → Prop) → Prop
  | [], _, _, k => k []
  | .tmp t :: rs, tm, hp, k => vResL E rs tm hp fun vs => k (tm.getD t (.c undef) :: vs)
  | .cell p ty :: rs, tm, hp, k => vLoad E ty (tm.getD p (.c undef)) hp fun v => vResL E rs tm hp fun vs => k (v :: vs)
def vRes1 (k : V → Prop) : List V → Prop
  | [v] => k v
  | vs => k (.t vs)
def vRes (E : Env) (rs : List ResultVar) (tm : List V) (hp : List Blk) (k : V → Prop) : Prop := vResL E rs tm hp (vRes1 k)

def vEnd (E : Env) (rs : List ResultVar) (post : V → List Blk → Prop) : Exit → List V → List Blk → Prop
  | .normal, tm, hp => vRes E rs tm hp fun v => post v hp
  | .ret, tm, hp => vRes E rs tm hp fun v => post v hp
  | _, _, _ => False

/-- The rest, as data: so that a rewriting of the goal does not go into it. -/
inductive K where
  | fin (rs : List ResultVar) (post : V → List Blk → Prop)
  | seq (b : Code) (q : K)
  | blk (id : Nat) (q : K)
  | rnd (next : List V → List Blk → Prop) (q : K)

def den (X : Cx) : K → Exit → List V → List Blk → Prop
  | .fin rs post => vEnd X.E rs post
  | .seq b q => vThen (fun tm hp => vcCode X b tm hp (den X q)) (den X q)
  | .blk id q => vBlock id (den X q)
  | .rnd next q => vThen next (den X q)

def kC (X : Cx) (c : Code) (tm : List V) (hp : List Blk) (q : K) : Prop := vcCode X c tm hp (den X q)
def kL (X : Cx) (ops l : List Oper) (tm : List V) (hp : List Blk) (q : K) : Prop := vcList X.E X.P X.mu ops l tm hp (den X q .normal)
def kS (X : Cx) (ops : List Oper) (l : Tr) (tm : List V) (hp : List Blk) (q : K) : Prop := vcSeq X.E X.P X.mu ops l tm hp (den X q .normal)
def kLoop (X : Cx) (body : Code) (tm : List V) (hp : List Blk) (q : K) : Prop := vLoop X.m (vcCode X body) tm hp (den X q)
/-- Behind an operation: the rest of a region in the text's order | in a given order. -/
inductive R where
  | list (l : List Oper)
  | seq (l : Tr)
def kR (X : Cx) (ops : List Oper) (r : R) (tm : List V) (hp : List Blk) (q : K) : Prop :=
  match r with
  | .list l => kL X ops l tm hp q
  | .seq l => kS X ops l tm hp q
def kCall (X : Cx) (f : FuncId) (args : List V) (d : Option Tmp) (ops : List Oper) (r : R) (tm : List V) (hp : List Blk) (q : K) : Prop :=
  if X.mu.contains f then vCallM X.P f args hp fun v hp' => kR X ops r (putV tm d v) hp' q else vCall X.P f args hp fun v hp' => kR X ops r (putV tm d v) hp' q
def kO (X : Cx) (ops : List Oper) (o : Oper) (r : R) (tm : List V) (hp : List Blk) (q : K) : Prop :=
  vcG X.E X.P X.mu ops o tm hp fun tm' hp' => kR X ops r tm' hp' q

section
variable {X : Cx} {tm : List V} {hp : List Blk} {q : K} {a b c : Code} {ops l : List Oper} {o : Oper} {r : R}
theorem kC_skip : kC X .skip tm hp q = den X q .normal tm hp := by unfold kC; rw [vcCode]
theorem kC_ret : kC X .ret tm hp q = den X q .ret tm hp := by unfold kC; rw [vcCode]
theorem kC_exit {id : Nat} : kC X (.exit id) tm hp q = den X q (.exit id) tm hp := by unfold kC; rw [vcCode]
theorem kC_seq : kC X (.seq a b) tm hp q = kC X a tm hp (.seq b q) := by unfold kC; rw [vcCode, den]
theorem kC_cond {x : Operand} : kC X (.cond x a b) tm hp q = vCond (ev tm x) (kC X a tm hp q) (kC X b tm hp q) := by unfold kC; rw [vcCode]
theorem kC_block {id : Nat} : kC X (.block id b) tm hp q = kC X b tm hp (.blk id q) := by unfold kC; rw [vcCode, den]
theorem kC_loop : kC X (.loop b) tm hp q = kLoop X b tm hp q := by unfold kC kLoop; rw [vcCode]
theorem kC_region {id : Nat} {l : List Oper} : kC X (.region id l.toArray false) tm hp q = kL X l l tm hp q := by unfold kC kL; rw [vcCode, if_neg (by simp)]
theorem kC_draw {id : Nat} {l : List Oper} : kC X (.region id l.toArray true) tm hp q = kS X l (X.ord id) (killT (X.flt id) tm) hp q := by unfold kC kS; rw [vcCode, if_pos rfl]
theorem den_fin {rs : List ResultVar} {post : V → List Blk → Prop} : den X (.fin rs post) .normal tm hp = vRes X.E rs tm hp fun v => post v hp := by rw [den, vEnd]
theorem den_fin_ret {rs : List ResultVar} {post : V → List Blk → Prop} : den X (.fin rs post) .ret tm hp = vRes X.E rs tm hp fun v => post v hp := by rw [den, vEnd]
theorem den_seq : den X (.seq b q) .normal tm hp = kC X b tm hp q := by rw [den, vThen, kC]
theorem den_seq_ret : den X (.seq b q) .ret tm hp = den X q .ret tm hp := by rw [den, vThen]; simp
theorem den_seq_exit {i : Nat} : den X (.seq b q) (.exit i) tm hp = den X q (.exit i) tm hp := by rw [den, vThen]; simp
theorem den_blk {id : Nat} : den X (.blk id q) .normal tm hp = den X q .normal tm hp := by rw [den, vBlock]; simp
theorem den_blk_ret {id : Nat} : den X (.blk id q) .ret tm hp = den X q .ret tm hp := by rw [den, vBlock]; simp
theorem den_blk_exit {id i : Nat} : den X (.blk id q) (.exit i) tm hp = if i = id then den X q .normal tm hp else den X q (.exit i) tm hp := by rw [den, vBlock]
theorem den_rnd {next : List V → List Blk → Prop} : den X (.rnd next q) .normal tm hp = next tm hp := by rw [den, vThen]
theorem den_rnd_ret {next : List V → List Blk → Prop} : den X (.rnd next q) .ret tm hp = den X q .ret tm hp := by rw [den, vThen]; simp
theorem den_rnd_exit {next : List V → List Blk → Prop} {i : Nat} : den X (.rnd next q) (.exit i) tm hp = den X q (.exit i) tm hp := by rw [den, vThen]; simp
theorem kL_nil : kL X ops [] tm hp q = den X q .normal tm hp := by unfold kL; rw [vcList]
theorem kL_cons : kL X ops (o :: l) tm hp q = kO X ops o (.list l) tm hp q := by unfold kL kO kR; rw [vcList]; rfl
theorem kS_nil : kS X ops .nil tm hp q = den X q .normal tm hp := by unfold kS; rw [vcSeq]
theorem kS_cons {i : Nat} {is : Tr} : kS X ops (.one i is) tm hp q = (match ops[i]? with | some o => kO X ops o (.seq is) tm hp q | none => False) := by unfold kS kO kR; rw [vcSeq]; rfl
theorem kS_alt {a b : Tr} : kS X ops (.alt a b) tm hp q = (kS X ops a tm hp q ∧ kS X ops b tm hp q) := by unfold kS; rw [vcSeq]
theorem kR_list : kR X ops (.list l) tm hp q = kL X ops l tm hp q := by rw [kR]
theorem kR_seq {is : Tr} : kR X ops (.seq is) tm hp q = kS X ops is tm hp q := by rw [kR]
end

section
variable {X : Cx} {tm : List V} {hp : List Blk} {q : K} {ops : List Oper} {r : R} {d : Option Tmp} {ty : TypeId} {pos : String} {af : Array Edge}
/-- An operation under a guard: the guard's value is the last argument. -/
def kGd (X : Cx) (ops : List Oper) (o : Oper) (want : Bool) (r : R) (tm : List V) (hp : List Blk) (q : K) (j : Option Nat) (g : Option V) : Prop :=
  match j, g with
  | some _, some (.c (.bool b)) => (b = want → kO X ops { o with guard := none } r tm hp q) ∧ (b ≠ want → kR X ops r (putV tm o.dst (.c undef)) hp q)
  | _, _ => False
theorem kO_guard {op : Op} {j : Nat} {want : Bool} : kO X ops ⟨d, op, ty, pos, af, some (j, want)⟩ r tm hp q =
    kGd X ops ⟨d, op, ty, pos, af, none⟩ want r tm hp q ((ops[j]?).bind (·.dst)) (((ops[j]?).bind (·.dst)).bind fun d' => tm[d']?) := by
  unfold kO kGd; rw [vcG]
  simp only
  cases h : (ops[j]?).bind (·.dst) with
  | none => rfl
  | some d' =>
    simp only [Option.bind_some]
    cases tm[d']? with
    | none => rfl
    | some v =>
      cases v with
      | c x => cases x <;> rfl
      | _ => rfl
theorem kGd_on {op : Op} {want : Bool} {j : Nat} : kGd X ops ⟨d, op, ty, pos, af, none⟩ want r tm hp q (some j) (some (.c (.bool want))) = kO X ops ⟨d, op, ty, pos, af, none⟩ r tm hp q := by
  simp [kGd]
theorem kGd_tf {op : Op} {j : Nat} : kGd X ops ⟨d, op, ty, pos, af, none⟩ true r tm hp q (some j) (some (.c (.bool false))) = kR X ops r (putV tm d (.c undef)) hp q := by simp [kGd]
theorem kGd_ft {op : Op} {j : Nat} : kGd X ops ⟨d, op, ty, pos, af, none⟩ false r tm hp q (some j) (some (.c (.bool true))) = kR X ops r (putV tm d (.c undef)) hp q := by simp [kGd]
theorem set_same {tm : List V} {j : Nat} {v : V} (h : tm[j]? = some v) : tm.set j v = tm := by
  apply List.ext_getElem?
  intro i
  rw [List.getElem?_set]
  split
  · rename_i e; subst e
    split
    · exact h.symm
    · rename_i hl; rw [List.getElem?_eq_none (by omega)]
  · rfl
/-- Split on a guard: the slot then holds the answer. -/
theorem kGd_split {o : Oper} {want : Bool} {j : Nat} {b : Bool} (hj : tm[j]? = some (.c (.bool b)))
    (h1 : b = true → kGd X ops o want r (tm.set j (.c (.bool true))) hp q (some j) (some (.c (.bool true))))
    (h2 : b = false → kGd X ops o want r (tm.set j (.c (.bool false))) hp q (some j) (some (.c (.bool false)))) : kGd X ops o want r tm hp q (some j) (some (.c (.bool b))) := by
  cases b with
  | true => have := h1 rfl; rwa [set_same hj] at this
  | false => have := h2 rfl; rwa [set_same hj] at this
theorem kO_S {op : Op} (h : isS op = true) : kO X ops ⟨d, op, ty, pos, af, none⟩ r tm hp q = vcS X.E op tm hp fun v => kR X ops r (putV tm d v) hp q := by
  unfold kO; rw [vcG]; simp only [vcOne, h, if_true]
theorem kO_E {op : Op} (h : isS op = false) : kO X ops ⟨d, op, ty, pos, af, none⟩ r tm hp q = vcE X.E X.P X.mu op tm hp fun v hp' => kR X ops r (putV tm d v) hp' q := by
  unfold kO; rw [vcG]; simp only [vcOne, h, Bool.false_eq_true, if_false]
theorem kO_move {x : Operand} : kO X ops ⟨d, .move x, ty, pos, af, none⟩ r tm hp q = kR X ops r (putV tm d (ev tm x)) hp q := by rw [kO_S rfl, vcS]
theorem kO_assign {x : Operand} : kO X ops ⟨d, .assign x, ty, pos, af, none⟩ r tm hp q = kR X ops r (putV tm d (ev tm x)) hp q := by rw [kO_S rfl, vcS]
theorem kO_build {t : TypeId} {ps : Array (Nat × Operand)} : kO X ops ⟨d, .build t ps, ty, pos, af, none⟩ r tm hp q = vBuild X.E t (ps.toList.map fun q => (q.1, ev tm q.2)) fun v => kR X ops r (putV tm d v) hp q := by rw [kO_S rfl, vcS]
theorem kO_load {t : TypeId} {x : Operand} : kO X ops ⟨d, .load t x, ty, pos, af, none⟩ r tm hp q = vLoad X.E t (ev tm x) hp fun v => kR X ops r (putV tm d v) hp q := by rw [kO_S rfl, vcS]
theorem kO_nilCheck {x : Operand} : kO X ops ⟨d, .nilCheck x, ty, pos, af, none⟩ r tm hp q = vNil (ev tm x) fun v => kR X ops r (putV tm d v) hp q := by rw [kO_S rfl, vcS]
theorem kO_binOp {op : BinOp} {t t' : TypeId} {x y : Operand} : kO X ops ⟨d, .binOp op t x y t', ty, pos, af, none⟩ r tm hp q = vBin X.E op t (ev tm x) (ev tm y) fun v => kR X ops r (putV tm d v) hp q := by rw [kO_S rfl, vcS]
theorem kO_unOp {op : UnOp} {t : TypeId} {x : Operand} : kO X ops ⟨d, .unOp op t x, ty, pos, af, none⟩ r tm hp q = vUn op (ev tm x) fun v => kR X ops r (putV tm d v) hp q := by rw [kO_S rfl, vcS]
theorem kO_convert {t t' : TypeId} {x : Operand} : kO X ops ⟨d, .convert t t' x, ty, pos, af, none⟩ r tm hp q = vConv X.E t t' (ev tm x) hp fun v => kR X ops r (putV tm d v) hp q := by rw [kO_S rfl, vcS]
theorem kO_arrPtr {t : TypeId} {x : Operand} : kO X ops ⟨d, .sliceToArrayPointer t x, ty, pos, af, none⟩ r tm hp q = vArrPtr X.E t (ev tm x) fun v => kR X ops r (putV tm d v) hp q := by rw [kO_S rfl, vcS]
theorem kO_slice {t : TypeId} {x : Operand} {lo hi mx : Option Operand} : kO X ops ⟨d, .slice t x lo hi mx, ty, pos, af, none⟩ r tm hp q = vSlice X.E t (ev tm x) (lo.map (ev tm)) (hi.map (ev tm)) (mx.map (ev tm)) fun v => kR X ops r (putV tm d v) hp q := by rw [kO_S rfl, vcS]
theorem kO_fieldAddr {t : TypeId} {x : Operand} {f : Nat} : kO X ops ⟨d, .fieldAddr t x f, ty, pos, af, none⟩ r tm hp q = vFieldAddr X.E t (ev tm x) f fun v => kR X ops r (putV tm d v) hp q := by rw [kO_S rfl, vcS]
theorem kO_field {t : TypeId} {x : Operand} {f : Nat} : kO X ops ⟨d, .field t x f, ty, pos, af, none⟩ r tm hp q = vField X.E t (ev tm x) f fun v => kR X ops r (putV tm d v) hp q := by rw [kO_S rfl, vcS]
theorem kO_indexAddr {t : TypeId} {x i : Operand} : kO X ops ⟨d, .indexAddr t x i, ty, pos, af, none⟩ r tm hp q = vIndexAddr X.E t (ev tm x) (ev tm i) fun v => kR X ops r (putV tm d v) hp q := by rw [kO_S rfl, vcS]
theorem kO_index {t : TypeId} {x i : Operand} : kO X ops ⟨d, .index t x i, ty, pos, af, none⟩ r tm hp q = vIndex X.E t (ev tm x) (ev tm i) fun v => kR X ops r (putV tm d v) hp q := by rw [kO_S rfl, vcS]
theorem kO_extract {x : Operand} {i : Nat} : kO X ops ⟨d, .extract x i, ty, pos, af, none⟩ r tm hp q = vExtract (ev tm x) i fun v => kR X ops r (putV tm d v) hp q := by rw [kO_S rfl, vcS]
theorem kO_pick {x y z : Operand} : kO X ops ⟨d, .pick x y z, ty, pos, af, none⟩ r tm hp q = vPick (ev tm x) (ev tm y) (ev tm z) fun v => kR X ops r (putV tm d v) hp q := by rw [kO_S rfl, vcS]
theorem kO_makeFunc {f : Fn} : kO X ops ⟨d, .makeFunc f #[] #[], ty, pos, af, none⟩ r tm hp q = kR X ops r (putV tm d (.c (.func f #[] #[]))) hp q := by rw [kO_S rfl, vcS]; simp
theorem kO_len {xs : Array Operand} {ts : Array TypeId} : kO X ops ⟨d, .call ⟨.builtin .len, xs, ts⟩, ty, pos, af, none⟩ r tm hp q = vLen X.E ts.toList (xs.toList.map (ev tm)) fun v => kR X ops r (putV tm d v) hp q := by rw [kO_S rfl, vcS]
theorem kO_cap {xs : Array Operand} {ts : Array TypeId} : kO X ops ⟨d, .call ⟨.builtin .cap, xs, ts⟩, ty, pos, af, none⟩ r tm hp q = vCap X.E ts.toList (xs.toList.map (ev tm)) fun v => kR X ops r (putV tm d v) hp q := by rw [kO_S rfl, vcS]
theorem kO_makeInterface {t : TypeId} {x : Operand} : kO X ops ⟨d, .makeInterface t x, ty, pos, af, none⟩ r tm hp q = False := by rw [kO_E rfl, vcE]; all_goals simp
theorem kO_min {xs : Array Operand} {ts : Array TypeId} : kO X ops ⟨d, .call ⟨.builtin .min, xs, ts⟩, ty, pos, af, none⟩ r tm hp q = vMin false (xs.toList.map (ev tm)) fun v => kR X ops r (putV tm d v) hp q := by rw [kO_S rfl, vcS]
theorem kO_max {xs : Array Operand} {ts : Array TypeId} : kO X ops ⟨d, .call ⟨.builtin .max, xs, ts⟩, ty, pos, af, none⟩ r tm hp q = vMin true (xs.toList.map (ev tm)) fun v => kR X ops r (putV tm d v) hp q := by rw [kO_S rfl, vcS]
theorem kO_alloc {t : TypeId} : kO X ops ⟨d, .alloc t, ty, pos, af, none⟩ r tm hp q = (match X.E t with | some dd => kR X ops r (putV tm d (.p hp.length 0)) (hp ++ [⟨true, dd.zero⟩]) q | none => False) := by rw [kO_E rfl, vcE]
theorem kO_box {t : TypeId} {x : Operand} : kO X ops ⟨d, .box t x, ty, pos, af, none⟩ r tm hp q = (match cellsOf (ev tm x) with | some cs => kR X ops r (putV tm d (.p hp.length 0)) (hp ++ [⟨true, cs⟩]) q | none => False) := by rw [kO_E rfl, vcE]
theorem kO_buildSlice {t : TypeId} {n : Nat} {ps : Array (Nat × Operand)} : kO X ops ⟨d, .buildSlice t n ps, ty, pos, af, none⟩ r tm hp q = vBuildSlice X.E t n (ps.toList.map fun q => (q.1, ev tm q.2)) hp fun v hp' => kR X ops r (putV tm d v) hp' q := by rw [kO_E rfl, vcE]
theorem kO_store {t : TypeId} {x y : Operand} : kO X ops ⟨d, .store t x y, ty, pos, af, none⟩ r tm hp q = vStore X.E t (ev tm x) (ev tm y) hp fun v hp' => kR X ops r (putV tm d v) hp' q := by rw [kO_E rfl, vcE]
theorem kO_makeSlice {t : TypeId} {x y : Operand} : kO X ops ⟨d, .makeSlice t x y, ty, pos, af, none⟩ r tm hp q = vMakeSlice X.E t (ev tm x) (ev tm y) hp fun v hp' => kR X ops r (putV tm d v) hp' q := by rw [kO_E rfl, vcE]
theorem kO_append {xs : Array Operand} {ts : Array TypeId} : kO X ops ⟨d, .call ⟨.builtin .append, xs, ts⟩, ty, pos, af, none⟩ r tm hp q = vApp X.E ts.toList (xs.toList.map (ev tm)) hp fun v hp' => kR X ops r (putV tm d v) hp' q := by rw [kO_E rfl, vcE]
theorem kO_copy {xs : Array Operand} {ts : Array TypeId} : kO X ops ⟨d, .call ⟨.builtin .copy, xs, ts⟩, ty, pos, af, none⟩ r tm hp q = vCopy X.E ts.toList (xs.toList.map (ev tm)) hp fun v hp' => kR X ops r (putV tm d v) hp' q := by rw [kO_E rfl, vcE]
theorem kO_call {f : FuncId} {xs : Array Operand} {ts : Array TypeId} : kO X ops ⟨d, .call ⟨.value (.func f), xs, ts⟩, ty, pos, af, none⟩ r tm hp q = kCall X f (xs.toList.map (ev tm)) d ops r tm hp q := by rw [kO_E rfl, vcE]; rfl
end

/-- What is to be shown of a function. -/
def kFun (X : Cx) (fn : Func) (args : List V) (ha : List Blk) (post : V → List Blk → Prop) : Prop :=
  match fn.body with
  | some c => kC X c (args ++ List.replicate (fn.ntmps - args.length) (.c undef)) ha (.fin fn.results.toList post)
  | none => False
end Go.Vc
