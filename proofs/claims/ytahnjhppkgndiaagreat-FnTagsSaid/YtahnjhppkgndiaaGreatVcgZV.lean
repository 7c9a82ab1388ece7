import Derived.Test.YtahnjhppkgndiaaGreatVcgZS
import Derived.Test.YtahnjhppkgndiaaGreatVcgQ
/- The rules once more, with operations as data: the continuation is told by slot, region, temporaries and memory, so that a rewriting never goes into it before the operation is settled. -/
set_option linter.unusedSimpArgs false
set_option linter.unusedVariables false
namespace Go.Vc
open Go
section
variable (X : Cx) (d : Option Tmp) (ops : List Oper) (r : R) (tm : List V) (hp : List Blk) (q : K)
/-- A load: type, pointer | block. -/
def kLd (o : Option TD) (x : V) : Prop := match o, x with
  | some D, .p h off => match hp[h]? with
    | some b => if isAggD D.und then vSub b.cells off D.size (fun v => kR X ops r (putV tm d v) hp q) else vGet b.cells off (fun v => kR X ops r (putV tm d v) hp q)
    | none => False
  | _, _ => False
def kLd2 (D : TD) (off : Nat) (b : Option Blk) : Prop := match b with
  | some b => if isAggD D.und then vSub b.cells off D.size (fun v => kR X ops r (putV tm d v) hp q) else vGet b.cells off (fun v => kR X ops r (putV tm d v) hp q)
  | none => False
def kSt (o : Option TD) (x : V) (y : Option (List V)) : Prop := match o, x, y with
  | some D, .p h off, some vs => match hp[h]? with
    | some b => b.own = true ∧ vs.length = D.size ∧ vPut b.cells off vs fun cs => kR X ops r (putV tm d (.c undef)) (hp.set h ⟨true, cs⟩) q
    | none => False
  | _, _, _ => False
def kSt2 (D : TD) (h off : Nat) (vs : List V) (b : Option Blk) : Prop := match b with
  | some b => b.own = true ∧ vs.length = D.size ∧ vPut b.cells off vs fun cs => kR X ops r (putV tm d (.c undef)) (hp.set h ⟨true, cs⟩) q
  | none => False
def kBin (t : TypeId) (op : BinOp) (x y : V) : Prop := vBin X.E op t x y (fun v => kR X ops r (putV tm d v) hp q)
def kBinA (t : TypeId) (o : Option TD) (op : BinOp) (cs ds : List V) : Prop := match o with
  | some D => match D.und with
    | .struct _ => D.eqg = false ∧ plainT X.E 8 t = true ∧ cs.length = D.size ∧ allInt cs ∧ cs = ds ∧
      match op with
      | .eql => kR X ops r (putV tm d (.c (.bool true))) hp q
      | .neq => kR X ops r (putV tm d (.c (.bool false))) hp q
      | _ => False
    | .array n e => match X.E e with
      | some de => match de.und with
        | .int ki => D.eqg = false ∧ de.size = 1 ∧ cs.length = n ∧ ds.length = n ∧ intCells ki cs ∧ intCells ki ds ∧
          match op with
          | .eql => ∀ b : Bool, (b = true ↔ cs = ds) → kR X ops r (putV tm d (.c (.bool b))) hp q
          | .neq => ∀ b : Bool, (b = true ↔ cs = ds) → kR X ops r (putV tm d (.c (.bool !b))) hp q
          | _ => False
        | _ => False
      | none => False
    | _ => False
  | none => False
def kBinB (g : Bool) (n : Nat) (o : Option TD) (op : BinOp) (cs ds : List V) : Prop := match o with
  | some de => match de.und with
    | .int ki => g = false ∧ de.size = 1 ∧ cs.length = n ∧ ds.length = n ∧ intCells ki cs ∧ intCells ki ds ∧
      match op with
      | .eql => ∀ b : Bool, (b = true ↔ cs = ds) → kR X ops r (putV tm d (.c (.bool b))) hp q
      | .neq => ∀ b : Bool, (b = true ↔ cs = ds) → kR X ops r (putV tm d (.c (.bool !b))) hp q
      | _ => False
    | _ => False
  | none => False
def kUn (op : UnOp) (x : V) : Prop := vUn op x (fun v => kR X ops r (putV tm d v) hp q)
def kFa (o : Option TD) (x : V) (f : Nat) : Prop := match o with
  | some D => match D.und with
    | .struct fs => match fs[f]?, x with
      | some fd, .p h off => match X.E fd.type with
        | some df => df.size ≠ 0 ∧ kR X ops r (putV tm d (.p h (off + fd.offset))) hp q
        | none => False
      | _, _ => False
    | _ => False
  | none => False
def kFa2 (o : Option Field) (x : V) : Prop := match o, x with
  | some fd, .p h off => match X.E fd.type with
    | some df => df.size ≠ 0 ∧ kR X ops r (putV tm d (.p h (off + fd.offset))) hp q
    | none => False
  | _, _ => False
def kFa3 (o : Option TD) (h off : Nat) : Prop := match o with
  | some df => df.size ≠ 0 ∧ kR X ops r (putV tm d (.p h off)) hp q
  | none => False
def kIa (o : Option TD) (x i : V) : Prop := match o, asI i with
  | some D, some (_, n) => match D.und with
    | .array len e => match X.E e, x with
      | some de, .p h off => 0 ≤ n ∧ n < len ∧ kR X ops r (putV tm d (.p h (off + n.toNat * de.size))) hp q
      | _, _ => False
    | .slice e => match X.E e, x with
      | some de, .s h off len _ => 0 ≤ n ∧ n < len ∧ kR X ops r (putV tm d (.p h (off + n.toNat * de.size))) hp q
      | _, _ => False
    | _ => False
  | _, _ => False
def kIa2 (o : Option TD) (h off len : Nat) (n : Int) : Prop := match o with
  | some de => 0 ≤ n ∧ n < len ∧ kR X ops r (putV tm d (.p h (off + n.toNat * de.size))) hp q
  | none => False
def kLen (o : Option TD) (x : V) : Prop := match o with
  | some D => match D.und with
    | .array n _ => kR X ops r (putV tm d (.c (.int .i64 n))) hp q
    | .string => match x with
      | .c (.string s) => kR X ops r (putV tm d (.c (.int .i64 s.size))) hp q
      | _ => False
    | .slice _ => match asS x with
      | some (_, _, n, _) => kR X ops r (putV tm d (.c (.int .i64 n))) hp q
      | none => False
    | _ => False
  | none => False
def kSl (o : Option TD) (x : V) (low high max : Option V) : Prop := match o with
  | some D => match D.und with
    | .array n e => match X.E e, x with
      | some de, .p h off => vBounds n n low high max fun l u m => kR X ops r (putV tm d (.s h (off + l * de.size) (u - l) (m - l))) hp q
      | _, _ => False
    | .slice e => match X.E e, asS x with
      | some de, some (h, off, n, c) => vBounds n c low high max fun l u m => kR X ops r (putV tm d (.s h (off + l * de.size) (u - l) (m - l))) hp q
      | _, _ => False
    | .string => match x with
      | .c (.string s) => vBounds s.size s.size low high max fun l u _ => kR X ops r (putV tm d (.c (.string (s.extract l u)))) hp q
      | _ => False
    | _ => False
  | none => False
def kSl2 (o : Option TD) (h off n c : Nat) (low high max : Option V) : Prop := match o with
  | some de => vBounds n c low high max fun l u m => kR X ops r (putV tm d (.s h (off + l * de.size) (u - l) (m - l))) hp q
  | none => False
def kPk (c x y : V) : Prop := vPick c x y (fun v => kR X ops r (putV tm d v) hp q)
def kEx (x : V) (i : Nat) : Prop := vExtract x i (fun v => kR X ops r (putV tm d v) hp q)
def kNl (x : V) : Prop := vNil x (fun v => kR X ops r (putV tm d v) hp q)
end
def kCd (X : Cx) (x : V) (a b : Code) (tm : List V) (hp : List Blk) (q : K) : Prop := vCond x (kC X a tm hp q) (kC X b tm hp q)
section
variable {X : Cx} {d : Option Tmp} {ops : List Oper} {r : R} {tm : List V} {hp : List Blk} {q : K} {ty : TypeId} {pos : String} {af : Array Edge}
theorem z_load {t : TypeId} {x : Operand} : kO X ops ⟨d, .load t x, ty, pos, af, none⟩ r tm hp q = kLd X d ops r tm hp q (X.E t) (ev tm x) := by rw [kO_load]; rfl
theorem z_ld {D : TD} {h off : Nat} : kLd X d ops r tm hp q (some D) (.p h off) = kLd2 X d ops r tm hp q D off hp[h]? := rfl
theorem z_ldA {u : TypeDesc} {s b : Nat} {z : List V} {g : Bool} {off : Nat} {B : Blk} (h : isAggD u = true) : kLd2 X d ops r tm hp q ⟨u, s, b, z, g⟩ off (some B) = vSub B.cells off s (fun v => kR X ops r (putV tm d v) hp q) := by
  unfold kLd2; simp only [h, if_true]
theorem z_ldG {u : TypeDesc} {s b : Nat} {z : List V} {g : Bool} {off : Nat} {B : Blk} (h : isAggD u = false) : kLd2 X d ops r tm hp q ⟨u, s, b, z, g⟩ off (some B) = vGet B.cells off (fun v => kR X ops r (putV tm d v) hp q) := by
  unfold kLd2; simp only [h]; rfl
theorem z_store {t : TypeId} {x y : Operand} : kO X ops ⟨d, .store t x y, ty, pos, af, none⟩ r tm hp q = kSt X d ops r tm hp q (X.E t) (ev tm x) (cellsOf (ev tm y)) := by
  rw [kO_store]; unfold vStore kSt; rfl
theorem z_st {D : TD} {h off : Nat} {vs : List V} : kSt X d ops r tm hp q (some D) (.p h off) (some vs) = kSt2 X d ops r tm hp q D h off vs hp[h]? := rfl
theorem z_st2 {u : TypeDesc} {s b : Nat} {z : List V} {g : Bool} {h off : Nat} {vs cs : List V} {own : Bool} : kSt2 X d ops r tm hp q ⟨u, s, b, z, g⟩ h off vs (some ⟨own, cs⟩) = (own = true ∧ vs.length = s ∧ vPut cs off vs fun cs' => kR X ops r (putV tm d (.c undef)) (hp.set h ⟨true, cs'⟩) q) := rfl
theorem z_bin {op : BinOp} {t t' : TypeId} {x y : Operand} : kO X ops ⟨d, .binOp op t x y t', ty, pos, af, none⟩ r tm hp q = kBin X d ops r tm hp q t op (ev tm x) (ev tm y) := by rw [kO_binOp]; rfl
theorem z_binI {op : BinOp} {t : TypeId} {ka kb : IntKind} {a b : Int} : kBin X d ops r tm hp q t op (.c (.int ka a)) (.c (.int kb b)) = vInt op ka a kb b (fun v => kR X ops r (putV tm d v) hp q) := rfl
theorem z_binO {op : BinOp} {t : TypeId} {a b : Bool} : kBin X d ops r tm hp q t op (.c (.bool a)) (.c (.bool b)) = vBin X.E op t (.c (.bool a)) (.c (.bool b)) (fun v => kR X ops r (putV tm d v) hp q) := rfl
theorem z_binS {op : BinOp} {t : TypeId} {a b : ByteArray} : kBin X d ops r tm hp q t op (.c (.string a)) (.c (.string b)) = vBin X.E op t (.c (.string a)) (.c (.string b)) (fun v => kR X ops r (putV tm d v) hp q) := rfl
theorem z_binN {op : BinOp} {t : TypeId} {h o n c : Nat} : kBin X d ops r tm hp q t op (.s h o n c) (.c (.slice none 0 0)) = vBin X.E op t (.s h o n c) (.c (.slice none 0 0)) (fun v => kR X ops r (putV tm d v) hp q) := rfl
theorem z_binM {op : BinOp} {t : TypeId} : kBin X d ops r tm hp q t op (.c (.slice none 0 0)) (.c (.slice none 0 0)) = vBin X.E op t (.c (.slice none 0 0)) (.c (.slice none 0 0)) (fun v => kR X ops r (putV tm d v) hp q) := rfl
theorem z_binA {op : BinOp} {t : TypeId} {cs ds : List V} : kBin X d ops r tm hp q t op (.a cs) (.a ds) = kBinA X d ops r tm hp q t (X.E t) op cs ds := by
  unfold kBin vBin kBinA
  cases X.E t with
  | none => rfl
  | some D =>
    simp only
    cases D.und <;> try rfl
theorem z_binB {n : Nat} {e : TypeId} {s b : Nat} {z : List V} {g : Bool} {op : BinOp} {t : TypeId} {cs ds : List V} : kBinA X d ops r tm hp q t (some ⟨.array n e, s, b, z, g⟩) op cs ds = kBinB X d ops r tm hp q g n (X.E e) op cs ds := rfl
theorem z_binTE {fs : Array Field} {s b : Nat} {z : List V} {g : Bool} {t : TypeId} {cs ds : List V} : kBinA X d ops r tm hp q t (some ⟨.struct fs, s, b, z, g⟩) .eql cs ds = (g = false ∧ plainT X.E 8 t = true ∧ cs.length = s ∧ allInt cs ∧ cs = ds ∧ kR X ops r (putV tm d (.c (.bool true))) hp q) := rfl
theorem z_binTN {fs : Array Field} {s b : Nat} {z : List V} {g : Bool} {t : TypeId} {cs ds : List V} : kBinA X d ops r tm hp q t (some ⟨.struct fs, s, b, z, g⟩) .neq cs ds = (g = false ∧ plainT X.E 8 t = true ∧ cs.length = s ∧ allInt cs ∧ cs = ds ∧ kR X ops r (putV tm d (.c (.bool false))) hp q) := rfl
theorem z_binEq {ki : IntKind} {n s b : Nat} {z : List V} {g g2 : Bool} {cs ds : List V} : kBinB X d ops r tm hp q g n (some ⟨.int ki, s, b, z, g2⟩) .eql cs ds = (g = false ∧ s = 1 ∧ cs.length = n ∧ ds.length = n ∧ intCells ki cs ∧ intCells ki ds ∧ ∀ b : Bool, (b = true ↔ cs = ds) → kR X ops r (putV tm d (.c (.bool b))) hp q) := rfl
theorem z_binNe {ki : IntKind} {n s b : Nat} {z : List V} {g g2 : Bool} {cs ds : List V} : kBinB X d ops r tm hp q g n (some ⟨.int ki, s, b, z, g2⟩) .neq cs ds = (g = false ∧ s = 1 ∧ cs.length = n ∧ ds.length = n ∧ intCells ki cs ∧ intCells ki ds ∧ ∀ b : Bool, (b = true ↔ cs = ds) → kR X ops r (putV tm d (.c (.bool !b))) hp q) := rfl
theorem z_un {op : UnOp} {t : TypeId} {x : Operand} : kO X ops ⟨d, .unOp op t x, ty, pos, af, none⟩ r tm hp q = kUn X d ops r tm hp q op (ev tm x) := by rw [kO_unOp]; rfl
theorem z_unB {op : UnOp} {b : Bool} : kUn X d ops r tm hp q op (.c (.bool b)) = vUn op (.c (.bool b)) (fun v => kR X ops r (putV tm d v) hp q) := rfl
theorem z_unI {op : UnOp} {k : IntKind} {n : Int} : kUn X d ops r tm hp q op (.c (.int k n)) = vUn op (.c (.int k n)) (fun v => kR X ops r (putV tm d v) hp q) := rfl
theorem z_fa {t : TypeId} {x : Operand} {f : Nat} : kO X ops ⟨d, .fieldAddr t x f, ty, pos, af, none⟩ r tm hp q = kFa X d ops r tm hp q (X.E t) (ev tm x) f := by rw [kO_fieldAddr]; rfl
theorem z_fa1 {fs : Array Field} {s b : Nat} {z : List V} {g : Bool} {x : V} {f : Nat} : kFa X d ops r tm hp q (some ⟨.struct fs, s, b, z, g⟩) x f = kFa2 X d ops r tm hp q fs[f]? x := rfl
theorem z_fa2 {fd : Field} {h off : Nat} : kFa2 X d ops r tm hp q (some fd) (.p h off) = kFa3 X d ops r tm hp q (X.E fd.type) h (off + fd.offset) := rfl
theorem z_fa3 {u : TypeDesc} {s b : Nat} {z : List V} {g : Bool} {h off : Nat} : kFa3 X d ops r tm hp q (some ⟨u, s, b, z, g⟩) h off = (s ≠ 0 ∧ kR X ops r (putV tm d (.p h off)) hp q) := rfl
theorem z_ia {t : TypeId} {x i : Operand} : kO X ops ⟨d, .indexAddr t x i, ty, pos, af, none⟩ r tm hp q = kIa X d ops r tm hp q (X.E t) (ev tm x) (ev tm i) := by rw [kO_indexAddr]; rfl
theorem z_iaA {len : Nat} {e : TypeId} {s b : Nat} {z : List V} {g : Bool} {h off : Nat} {k : IntKind} {n : Int} : kIa X d ops r tm hp q (some ⟨.array len e, s, b, z, g⟩) (.p h off) (.c (.int k n)) = kIa2 X d ops r tm hp q (X.E e) h off len n := by
  unfold kIa kIa2
  simp only [asI]
  cases X.E e <;> rfl
theorem z_iaS {e : TypeId} {s b : Nat} {z : List V} {g : Bool} {h off len c : Nat} {k : IntKind} {n : Int} : kIa X d ops r tm hp q (some ⟨.slice e, s, b, z, g⟩) (.s h off len c) (.c (.int k n)) = kIa2 X d ops r tm hp q (X.E e) h off len n := by
  unfold kIa kIa2
  simp only [asI]
  cases X.E e <;> rfl
theorem z_ia2 {u : TypeDesc} {s b : Nat} {z : List V} {g : Bool} {h off len : Nat} {n : Int} : kIa2 X d ops r tm hp q (some ⟨u, s, b, z, g⟩) h off len n = (0 ≤ n ∧ n < len ∧ kR X ops r (putV tm d (.p h (off + n.toNat * s))) hp q) := rfl
theorem z_len {x : Operand} {t : TypeId} {ts : List TypeId} : kO X ops ⟨d, .call ⟨.builtin .len, (x :: ([] : List Operand)).toArray, (t :: ts).toArray⟩, ty, pos, af, none⟩ r tm hp q = kLen X d ops r tm hp q (X.E t) (ev tm x) := by rw [kO_len]; rfl
theorem z_lenA {n : Nat} {e : TypeId} {s b : Nat} {z : List V} {g : Bool} {x : V} : kLen X d ops r tm hp q (some ⟨.array n e, s, b, z, g⟩) x = kR X ops r (putV tm d (.c (.int .i64 n))) hp q := rfl
theorem z_lenS {e : TypeId} {s b : Nat} {z : List V} {g : Bool} {h o n c : Nat} : kLen X d ops r tm hp q (some ⟨.slice e, s, b, z, g⟩) (.s h o n c) = kR X ops r (putV tm d (.c (.int .i64 n))) hp q := rfl
theorem z_lenN {e : TypeId} {s b : Nat} {z : List V} {g : Bool} : kLen X d ops r tm hp q (some ⟨.slice e, s, b, z, g⟩) (.c (.slice none 0 0)) = kR X ops r (putV tm d (.c (.int .i64 (0 : Nat)))) hp q := rfl
theorem z_lenZ {s b : Nat} {z : List V} {g : Bool} {t : ByteArray} : kLen X d ops r tm hp q (some ⟨.string, s, b, z, g⟩) (.c (.string t)) = kR X ops r (putV tm d (.c (.int .i64 t.size))) hp q := rfl
theorem z_sl {t : TypeId} {x : Operand} {lo hi mx : Option Operand} : kO X ops ⟨d, .slice t x lo hi mx, ty, pos, af, none⟩ r tm hp q = kSl X d ops r tm hp q (X.E t) (ev tm x) (lo.map (ev tm)) (hi.map (ev tm)) (mx.map (ev tm)) := by rw [kO_slice]; rfl
theorem z_slA {n : Nat} {e : TypeId} {s b : Nat} {z : List V} {g : Bool} {h off : Nat} {lo hi mx : Option V} : kSl X d ops r tm hp q (some ⟨.array n e, s, b, z, g⟩) (.p h off) lo hi mx = kSl2 X d ops r tm hp q (X.E e) h off n n lo hi mx := by
  unfold kSl kSl2; simp only; cases X.E e <;> rfl
theorem z_slS {e : TypeId} {s b : Nat} {z : List V} {g : Bool} {h off n c : Nat} {lo hi mx : Option V} : kSl X d ops r tm hp q (some ⟨.slice e, s, b, z, g⟩) (.s h off n c) lo hi mx = kSl2 X d ops r tm hp q (X.E e) h off n c lo hi mx := by
  unfold kSl kSl2; simp only [asS]; cases X.E e <;> rfl
theorem z_slN {e : TypeId} {s b : Nat} {z : List V} {g : Bool} {lo hi mx : Option V} : kSl X d ops r tm hp q (some ⟨.slice e, s, b, z, g⟩) (.c (.slice none 0 0)) lo hi mx = kSl2 X d ops r tm hp q (X.E e) 0 0 0 0 lo hi mx := by
  unfold kSl kSl2; simp only [asS]; cases X.E e <;> rfl
theorem z_slZ {s b : Nat} {z : List V} {g : Bool} {t : ByteArray} {lo hi mx : Option V} : kSl X d ops r tm hp q (some ⟨.string, s, b, z, g⟩) (.c (.string t)) lo hi mx = vBounds t.size t.size lo hi mx fun l u _ => kR X ops r (putV tm d (.c (.string (t.extract l u)))) hp q := rfl
theorem z_sl2 {u : TypeDesc} {s b : Nat} {z : List V} {g : Bool} {h off n c : Nat} {lo hi mx : Option V} : kSl2 X d ops r tm hp q (some ⟨u, s, b, z, g⟩) h off n c lo hi mx = vBounds n c lo hi mx fun l u m => kR X ops r (putV tm d (.s h (off + l * s) (u - l) (m - l))) hp q := rfl
theorem z_pk {c x y : Operand} : kO X ops ⟨d, .pick c x y, ty, pos, af, none⟩ r tm hp q = kPk X d ops r tm hp q (ev tm c) (ev tm x) (ev tm y) := by rw [kO_pick]; rfl
theorem z_pkB {b : Bool} {x y : V} : kPk X d ops r tm hp q (.c (.bool b)) x y = kR X ops r (putV tm d (cond b x y)) hp q := rfl
theorem z_ex {x : Operand} {i : Nat} : kO X ops ⟨d, .extract x i, ty, pos, af, none⟩ r tm hp q = kEx X d ops r tm hp q (ev tm x) i := by rw [kO_extract]; rfl
theorem z_exT {vs : List V} {i : Nat} : kEx X d ops r tm hp q (.t vs) i = vExtract (.t vs) i (fun v => kR X ops r (putV tm d v) hp q) := rfl
theorem z_nl {x : Operand} : kO X ops ⟨d, .nilCheck x, ty, pos, af, none⟩ r tm hp q = kNl X d ops r tm hp q (ev tm x) := by rw [kO_nilCheck]; rfl
theorem z_nlP {h o : Nat} : kNl X d ops r tm hp q (.p h o) = kR X ops r (putV tm d (.p h o)) hp q := rfl
theorem z_nlI {k : IntKind} {n : Int} : kNl X d ops r tm hp q (.c (.int k n)) = kR X ops r (putV tm d (.c (.int k n))) hp q := rfl
theorem z_nlF {f : FuncId} {a b : Array Value} : kNl X d ops r tm hp q (.c (.func (.func f) a b)) = kR X ops r (putV tm d (.c (.func (.func f) a b))) hp q := rfl
theorem z_cond {x : Operand} {a b : Code} : kC X (.cond x a b) tm hp q = kCd X (ev tm x) a b tm hp q := by rw [kC_cond]; rfl
theorem z_cd {t : Bool} {a b : Code} : kCd X (.c (.bool t)) a b tm hp q = if t = true then kC X a tm hp q else kC X b tm hp q := by
  unfold kCd vCond
  cases t <;> simp
theorem z_b00 {n c : Nat} {k : Nat → Nat → Nat → Prop} : vBounds n c none none none k = k 0 n c := rfl
theorem z_b01 {n c : Nat} {kk : IntKind} {u : Int} {k : Nat → Nat → Nat → Prop} : vBounds n c none (some (.c (.int kk u))) none k = (0 ≤ u ∧ u ≤ c ∧ k 0 u.toNat c) := rfl
theorem z_b10 {n c : Nat} {kk : IntKind} {l : Int} {k : Nat → Nat → Nat → Prop} : vBounds n c (some (.c (.int kk l))) none none k = (0 ≤ l ∧ l ≤ n ∧ k l.toNat n c) := rfl
theorem z_b11 {n c : Nat} {k1 k2 : IntKind} {l u : Int} {k : Nat → Nat → Nat → Prop} : vBounds n c (some (.c (.int k1 l))) (some (.c (.int k2 u))) none k = (0 ≤ u ∧ u ≤ c ∧ 0 ≤ l ∧ l ≤ u ∧ k l.toNat u.toNat c) := rfl
end
theorem zIf {c : Prop} [Decidable c] {A B : Prop} (h1 : c → A) (h2 : ¬ c → B) : if c then A else B := by
  by_cases h : c
  · rw [if_pos h]; exact h1 h
  · rw [if_neg h]; exact h2 h
/-- Tried before the arguments. -/
theorem VC2 : type_of% (
  And.intro @z_load <|
  And.intro @z_store <|
  And.intro @z_bin <|
  And.intro @z_un <|
  And.intro @z_fa <|
  And.intro @z_ia <|
  And.intro @z_len <|
  And.intro @z_sl <|
  And.intro @z_pk <|
  And.intro @z_ex <|
  And.intro @z_nl <|
  And.intro @z_cond <|
  And.intro @z_b00 <|
  And.intro @z_b01 <|
  And.intro @z_b10 <|
  And.intro @z_b11 <|
  And.intro @kC_skip <|
  And.intro @kC_ret <|
  And.intro @kC_exit <|
  And.intro @kC_seq <|
  And.intro @kC_block <|
  And.intro @kC_loop <|
  And.intro @kC_region <|
  And.intro @kC_draw <|
  And.intro @kT_nil <|
  And.intro @kT_one <|
  And.intro @kT_alt <|
  And.intro @kT_cut <|
  And.intro @den_fin <|
  And.intro @den_fin_ret <|
  And.intro @den_seq <|
  And.intro @den_seq_ret <|
  And.intro @den_seq_exit <|
  And.intro @den_blk <|
  And.intro @den_blk_ret <|
  And.intro @den_blk_exit <|
  And.intro @den_rnd <|
  And.intro @den_rnd_ret <|
  And.intro @den_rnd_exit <|
  And.intro @kL_nil <|
  And.intro @kL_cons <|
  And.intro @kS_nil <|
  And.intro @kS_cons <|
  And.intro @kS_alt <|
  And.intro @kR_list <|
  And.intro @kR_seq <|
  And.intro @kO_guard <|
  And.intro @kO_move <|
  And.intro @kO_assign <|
  And.intro @kO_build <|
  And.intro @kO_convert <|
  And.intro @kO_arrPtr <|
  And.intro @kO_field <|
  And.intro @kO_index <|
  And.intro @kO_makeFunc <|
  And.intro @kO_cap <|
  And.intro @kO_makeInterface <|
  And.intro @kO_copy <|
  And.intro @kO_min <|
  And.intro @kO_max <|
  And.intro @kO_alloc <|
  And.intro @kO_box <|
  And.intro @kO_buildSlice <|
  And.intro @kO_makeSlice <|
  And.intro @kO_append <|
  And.intro @kO_callV <|
  And.intro @kO_call <|
  And.intro @vCond.eq_def <|
  And.intro @vBuild.eq_def <|
  And.intro @vLoad.eq_def <|
  And.intro @vNil.eq_def <|
  And.intro @vBin.eq_def <|
  And.intro @vInt.eq_def <|
  And.intro @vUn.eq_def <|
  And.intro @vConv.eq_def <|
  And.intro @vArrPtr.eq_def <|
  And.intro @vSlice.eq_def <|
  And.intro @vBounds.eq_def <|
  And.intro @vFieldAddr.eq_def <|
  And.intro @vField.eq_def <|
  And.intro @vPart.eq_def <|
  And.intro @vIndexAddr.eq_def <|
  And.intro @vIndex.eq_def <|
  And.intro @vExtract.eq_def <|
  And.intro @vLen.eq_def <|
  And.intro @vMin.eq_def <|
  And.intro @vCap.eq_def <|
  And.intro @vCopy.eq_def <|
  And.intro @vApp.eq_def <|
  And.intro @vAppendZ.eq_def <|
  And.intro @vAppendY.eq_def <|
  And.intro @vBuildSlice.eq_def <|
  And.intro @vStore.eq_def <|
  And.intro @vMakeSlice.eq_def <|
  And.intro @vAppend.eq_def <|
  And.intro @vRes.eq_def <|
  And.intro @vResL.eq_1 <|
  And.intro @vResL.eq_2 <|
  And.intro @vResL.eq_3 <|
  And.intro @vRes1.eq_def <|
  And.intro @vGet_bs <|
  And.intro @vGet_zero <|
  And.intro @vGet_succ <|
  And.intro @vGet_rep <|
  And.intro @vSub_all <|
  And.intro @vSub_bs <|
  And.intro @vPut_all <|
  And.intro @vPut_bs <|
  And.intro @vPut_succ <|
  And.intro @vPut_zero <|
  And.intro @vGet_blv <|
  And.intro @vGet_nsv <|
  And.intro @vPut_blv <|
  And.intro @vPut_bss <|
  And.intro @vGet_oneAdd <|
  And.intro @vSub_succ <|
  And.intro @vSub_oneAdd <|
  And.intro @vPut_oneAdd <|
  @vPick.eq_def) :=
  And.intro @z_load <|
  And.intro @z_store <|
  And.intro @z_bin <|
  And.intro @z_un <|
  And.intro @z_fa <|
  And.intro @z_ia <|
  And.intro @z_len <|
  And.intro @z_sl <|
  And.intro @z_pk <|
  And.intro @z_ex <|
  And.intro @z_nl <|
  And.intro @z_cond <|
  And.intro @z_b00 <|
  And.intro @z_b01 <|
  And.intro @z_b10 <|
  And.intro @z_b11 <|
  And.intro @kC_skip <|
  And.intro @kC_ret <|
  And.intro @kC_exit <|
  And.intro @kC_seq <|
  And.intro @kC_block <|
  And.intro @kC_loop <|
  And.intro @kC_region <|
  And.intro @kC_draw <|
  And.intro @kT_nil <|
  And.intro @kT_one <|
  And.intro @kT_alt <|
  And.intro @kT_cut <|
  And.intro @den_fin <|
  And.intro @den_fin_ret <|
  And.intro @den_seq <|
  And.intro @den_seq_ret <|
  And.intro @den_seq_exit <|
  And.intro @den_blk <|
  And.intro @den_blk_ret <|
  And.intro @den_blk_exit <|
  And.intro @den_rnd <|
  And.intro @den_rnd_ret <|
  And.intro @den_rnd_exit <|
  And.intro @kL_nil <|
  And.intro @kL_cons <|
  And.intro @kS_nil <|
  And.intro @kS_cons <|
  And.intro @kS_alt <|
  And.intro @kR_list <|
  And.intro @kR_seq <|
  And.intro @kO_guard <|
  And.intro @kO_move <|
  And.intro @kO_assign <|
  And.intro @kO_build <|
  And.intro @kO_convert <|
  And.intro @kO_arrPtr <|
  And.intro @kO_field <|
  And.intro @kO_index <|
  And.intro @kO_makeFunc <|
  And.intro @kO_cap <|
  And.intro @kO_makeInterface <|
  And.intro @kO_copy <|
  And.intro @kO_min <|
  And.intro @kO_max <|
  And.intro @kO_alloc <|
  And.intro @kO_box <|
  And.intro @kO_buildSlice <|
  And.intro @kO_makeSlice <|
  And.intro @kO_append <|
  And.intro @kO_callV <|
  And.intro @kO_call <|
  And.intro @vCond.eq_def <|
  And.intro @vBuild.eq_def <|
  And.intro @vLoad.eq_def <|
  And.intro @vNil.eq_def <|
  And.intro @vBin.eq_def <|
  And.intro @vInt.eq_def <|
  And.intro @vUn.eq_def <|
  And.intro @vConv.eq_def <|
  And.intro @vArrPtr.eq_def <|
  And.intro @vSlice.eq_def <|
  And.intro @vBounds.eq_def <|
  And.intro @vFieldAddr.eq_def <|
  And.intro @vField.eq_def <|
  And.intro @vPart.eq_def <|
  And.intro @vIndexAddr.eq_def <|
  And.intro @vIndex.eq_def <|
  And.intro @vExtract.eq_def <|
  And.intro @vLen.eq_def <|
  And.intro @vMin.eq_def <|
  And.intro @vCap.eq_def <|
  And.intro @vCopy.eq_def <|
  And.intro @vApp.eq_def <|
  And.intro @vAppendZ.eq_def <|
  And.intro @vAppendY.eq_def <|
  And.intro @vBuildSlice.eq_def <|
  And.intro @vStore.eq_def <|
  And.intro @vMakeSlice.eq_def <|
  And.intro @vAppend.eq_def <|
  And.intro @vRes.eq_def <|
  And.intro @vResL.eq_1 <|
  And.intro @vResL.eq_2 <|
  And.intro @vResL.eq_3 <|
  And.intro @vRes1.eq_def <|
  And.intro @vGet_bs <|
  And.intro @vGet_zero <|
  And.intro @vGet_succ <|
  And.intro @vGet_rep <|
  And.intro @vSub_all <|
  And.intro @vSub_bs <|
  And.intro @vPut_all <|
  And.intro @vPut_bs <|
  And.intro @vPut_succ <|
  And.intro @vPut_zero <|
  And.intro @vGet_blv <|
  And.intro @vGet_nsv <|
  And.intro @vPut_blv <|
  And.intro @vPut_bss <|
  And.intro @vGet_oneAdd <|
  And.intro @vSub_succ <|
  And.intro @vSub_oneAdd <|
  And.intro @vPut_oneAdd <|
  @vPick.eq_def
/-- Tried behind them. -/
theorem ZP : type_of% (
  And.intro @z_ld <|
  And.intro @z_ldA <|
  And.intro @z_ldG <|
  And.intro @z_st <|
  And.intro @z_st2 <|
  And.intro @z_binI <|
  And.intro @z_binO <|
  And.intro @z_binS <|
  And.intro @z_binN <|
  And.intro @z_binM <|
  And.intro @z_binA <|
  And.intro @z_binB <|
  And.intro @z_binTE <|
  And.intro @z_binTN <|
  And.intro @z_binEq <|
  And.intro @z_binNe <|
  And.intro @z_unB <|
  And.intro @z_unI <|
  And.intro @z_fa1 <|
  And.intro @z_fa2 <|
  And.intro @z_fa3 <|
  And.intro @z_iaA <|
  And.intro @z_iaS <|
  And.intro @z_ia2 <|
  And.intro @z_lenA <|
  And.intro @z_lenS <|
  And.intro @z_lenN <|
  And.intro @z_lenZ <|
  And.intro @z_slA <|
  And.intro @z_slS <|
  And.intro @z_slN <|
  And.intro @z_slZ <|
  And.intro @z_sl2 <|
  And.intro @z_pkB <|
  And.intro @z_exT <|
  And.intro @z_nlP <|
  And.intro @z_nlI <|
  And.intro @z_nlF <|
  @z_cd) :=
  And.intro @z_ld <|
  And.intro @z_ldA <|
  And.intro @z_ldG <|
  And.intro @z_st <|
  And.intro @z_st2 <|
  And.intro @z_binI <|
  And.intro @z_binO <|
  And.intro @z_binS <|
  And.intro @z_binN <|
  And.intro @z_binM <|
  And.intro @z_binA <|
  And.intro @z_binB <|
  And.intro @z_binTE <|
  And.intro @z_binTN <|
  And.intro @z_binEq <|
  And.intro @z_binNe <|
  And.intro @z_unB <|
  And.intro @z_unI <|
  And.intro @z_fa1 <|
  And.intro @z_fa2 <|
  And.intro @z_fa3 <|
  And.intro @z_iaA <|
  And.intro @z_iaS <|
  And.intro @z_ia2 <|
  And.intro @z_lenA <|
  And.intro @z_lenS <|
  And.intro @z_lenN <|
  And.intro @z_lenZ <|
  And.intro @z_slA <|
  And.intro @z_slS <|
  And.intro @z_slN <|
  And.intro @z_slZ <|
  And.intro @z_sl2 <|
  And.intro @z_pkB <|
  And.intro @z_exT <|
  And.intro @z_nlP <|
  And.intro @z_nlI <|
  And.intro @z_nlF <|
  @z_cd
end Go.Vc
