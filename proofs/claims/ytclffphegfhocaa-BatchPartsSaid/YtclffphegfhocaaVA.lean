/- This text proves a part of the laws of seat Ytclffphegfhocaa, under no condition: VA. -/
import Derived.OrdersHeld
import Derived.Tactics
import Derived.KernelRfl
import Derived.Laws.Slices
import Derived.Laws.Cells
set_option linter.unusedVariables false
/-! The symbolic machine: values, states, and what an operation does to them. -/
namespace Go.V

abbrev Heap := Array Obj

/-- A slice's value: where it begins, its length, its capacity. -/
structure Slc where
  a : Option (Nat × Nat)
  len : Nat
  cap : Nat

def padr : Option (Nat × Nat) → Option Addr
  | none => none
  | some (b, o) => some ⟨b, o, none⟩

/-- What one cell holds. -/
inductive Lf where
  | int (k : IntKind) (n : Int)
  | bool (b : Bool)
  | str (s : ByteArray)
  | ptr (p : Option (Nat × Nat))
  | slc (s : Slc)
  | map (m : Option Nat)
  | raw (v : Value)

/-- A cell never holds a struct or several values. -/
def oneV (v : Value) : Value := match v.oneCell' with
  | true => v
  | false => .nilIface

theorem oneV_one (v : Value) : (oneV v).oneCell' = true := by
  unfold oneV
  split
  · assumption
  · rfl

def Lf.val : Lf → Value
  | .int k n => .int k n
  | .bool b => .bool b
  | .str s => .string s
  | .ptr p => .pointer (padr p)
  | .slc s => .slice (padr s.a) s.len s.cap
  | .map m => .map m
  | .raw v => oneV v

theorem Lf.val_one (x : Lf) : x.val.oneCell' = true := by
  cases x <;> first | rfl | exact oneV_one _

/-- A value: of one cell, or a struct's or an array's cells. -/
inductive VV where
  | lf (x : Lf)
  | agg (l : List Lf)

def VV.val : VV → Value
  | .lf x => x.val
  | .agg l => .agg (l.map Lf.val).toArray

/-- What a temporary holds: a value, several results, the address of a tracked variable; or it isn't known. -/
inductive SV where
  | v (x : VV)
  | tup (l : List VV)
  | loc (id off : Nat)
  | unk

/-- The kinds of cells. -/
inductive LT where
  | int (k : IntKind) | bool | str | ptr | slc | map | raw

abbrev LT.den : LT → Type
  | .int _ => Int
  | .bool => Bool
  | .str => ByteArray
  | .ptr => Option (Nat × Nat)
  | .slc => Slc
  | .map => Option Nat
  | .raw => Value

def LT.mk : (t : LT) → t.den → Lf
  | .int k, n => .int k n
  | .bool, b => .bool b
  | .str, s => .str s
  | .ptr, p => .ptr p
  | .slc, s => .slc s
  | .map, m => .map m
  | .raw, v => .raw v

def kcode : IntKind → Nat
  | .i8 => 0 | .i16 => 1 | .i32 => 2 | .i64 => 3 | .u8 => 4 | .u16 => 5 | .u32 => 6 | .u64 => 7

theorem kcode_inj {a b : IntKind} (h : Nat.beq (kcode a) (kcode b) = true) : a = b := by
  cases a <;> cases b <;> first | rfl | (revert h; decide)

def LT.get : (t : LT) → Lf → Option t.den
  | .int k, .int k' n => match Nat.beq (kcode k) (kcode k') with | true => some n | false => none
  | .bool, .bool b => some b
  | .str, .str s => some s
  | .ptr, .ptr p => some p
  | .slc, .slc s => some s
  | .map, .map m => some m
  | .raw, .raw v => some v
  | _, _ => none

theorem LT.get_mk {t : LT} {x : Lf} {d : t.den} (h : t.get x = some d) : t.mk d = x := by
  cases t <;> cases x <;> simp_all [LT.get, LT.mk]
  rename_i k k' n
  split at h
  · rename_i hk; simp at h; subst h; exact ⟨kcode_inj hk, rfl⟩
  · simp at h

/-- The kind of a cell, by its zero. -/
def LT.ofZero : Value → LT
  | .int k _ => .int k
  | .bool _ => .bool
  | .string _ => .str
  | .pointer _ => .ptr
  | .slice .. => .slc
  | .map _ => .map
  | _ => .raw

def Lf.ofVal : Value → Lf
  | .int k n => .int k n
  | .bool b => .bool b
  | .string s => .str s
  | .pointer none => .ptr none
  | .slice none l c => .slc ⟨none, l, c⟩
  | .map m => .map m
  | v => .raw v

theorem Lf.ofVal_val {v : Value} (h : v.oneCell' = true) : (Lf.ofVal v).val = v := by
  unfold Lf.ofVal
  split <;> first | rfl | (simp [Lf.val, oneV, h])

def allOne : List Value → Bool
  | [] => true
  | v :: l => v.oneCell' && allOne l

theorem allOne_map : ∀ {l : List Value}, allOne l = true → (l.map Lf.ofVal).map Lf.val = l
  | [], _ => rfl
  | v :: l, h => by
    simp only [allOne, Bool.and_eq_true] at h
    simp only [List.map_cons, Lf.ofVal_val h.1, allOne_map h.2]

def VV.cells : VV → List Lf
  | .lf x => [x]
  | .agg l => l

/-- A constant's value. -/
def SV.ofConst (v : Value) : SV := match v.oneCell' with
  | true => .v (.lf (Lf.ofVal v))
  | false => .unk

def aggK (P : Program) (t : TypeId) : Option Bool := match P.underlying t with
  | some (.struct _) => some true
  | some (.array _ _) => some true
  | some _ => some false
  | none => none

/-- A type's zero, as this machine has it. -/
def zeroOf (P : Program) (t : TypeId) : Option VV := match P.info? t with
  | some i => match i.zero with
    | some (.agg cs) => (match allOne cs.toList && Nat.beq i.size cs.size with | true => some (.agg (cs.toList.map Lf.ofVal)) | false => none)
    | some v => (match v.oneCell' && Nat.beq i.size 1 with | true => some (.lf (Lf.ofVal v)) | false => none)
    | none => none
  | none => none

inductive VT where
  | one (t : LT)
  | agg (ts : List LT)

def VT.lts : VT → List LT
  | .one t => [t]
  | .agg ts => ts

def vtOf (P : Program) (t : TypeId) : Option VT := match P.info? t with
  | some i => match i.zero, aggK P t with
    | some (.agg cs), some true => (match Nat.beq i.size cs.size with | true => some (.agg (cs.toList.map LT.ofZero)) | false => none)
    | some (.agg _), some false => none
    | some v, some false => (match Nat.beq i.size 1 with | true => some (.one (LT.ofZero v)) | false => none)
    | _, _ => none
  | none => none

/-- A value out of its cells. -/
def VT.put : VT → List Lf → VV
  | .one _, [x] => .lf x
  | .one _, l => .agg l
  | .agg _, l => .agg l

/-- A variable in memory that this call made, and whose address has not been handed on: its block, its type, what its cells hold; how often it was written. -/
structure Loc where
  b : Nat
  t : TypeId
  cs : List Lf
  ver : Nat

structure St where
  f : List SV
  ls : List (Option Loc)
  ds : List Deferred

def St.get (st : St) (t : Nat) : SV := st.f.getD t .unk
def St.put (st : St) (d : Option Nat) (s : SV) : St := match d with
  | some d => { st with f := st.f.set d s }
  | none => st
def St.loc (st : St) (id : Nat) : Option Loc := match st.ls[id]? with
  | some o => o
  | none => none

def St.ev (st : St) : Operand → SV
  | .tmp t => st.get t
  | .const v => SV.ofConst v
  | .global g => .v (.lf (.ptr (some (g, 0))))
  | .func f => .v (.lf (.raw (.func (.func f) #[] #[])))

/-- Cells of a block, from a place on. -/
def cellsAt (h : Heap) (b off : Nat) : List Lf → Prop
  | [] => True
  | x :: l => (∃ c e fz, h[b]? = some (.cells c e fz) ∧ c[off]? = some x.val) ∧ cellsAt h b (off + 1) l

/-- A heap with another object in a block. -/
def hset (h : Heap) (b : Nat) (t : TypeId) (cs : List Lf) : Heap := h.setIfInBounds b (.cells (cs.map Lf.val).toArray t (0, 0))
def hnew (h : Heap) (t : TypeId) (cs : List Lf) : Heap := h.push (.cells (cs.map Lf.val).toArray t (0, 0))

/-- Some values of given kinds: there are; for all. -/
def ExL : (ts : List LT) → (List Lf → Prop) → Prop
  | [], K => K []
  | t :: ts, K => ∃ x : t.den, ExL ts fun l => K (t.mk x :: l)
def AllL : (ts : List LT) → (List Lf → Prop) → Prop
  | [], K => K []
  | t :: ts, K => ∀ x : t.den, AllL ts fun l => K (t.mk x :: l)

/-- A branch. -/
def Br (b : Bool) (X Y : Prop) : Prop := Bool.rec Y X b

abbrev Cur : List LT → Type → Type
  | [], R => R
  | t :: ts, R => t.den → Cur ts R

def app : (ts : List LT) → {R : Type} → Cur ts R → List Lf → (R → Prop) → Prop
  | [], _, I, [], K => K I
  | t :: ts, _, I, x :: l, K => match t.get x with | some d => app ts (I d) l K | none => False
  | _, _, _, _, _ => False


/-- A curried function out of one of lists. -/
def lam : (ts : List LT) → {R : Type} → (List Lf → R) → Cur ts R
  | [], _, g => g []
  | t :: ts, _, g => fun x : t.den => lam ts fun l => g (t.mk x :: l)

def AllI : (ts : List LT) → {R : Type} → Cur ts R → (List Lf → R → Prop) → Prop
  | [], _, I, K => K [] I
  | t :: ts, _, I, K => ∀ x : t.den, AllI ts (I x) fun l i => K (t.mk x :: l) i

/-- Values of given kinds out of a row of cells. -/
def shape : List VT → List Lf → List VV
  | [], _ => []
  | .one _ :: ts, l => (match l with | x :: _ => .lf x | [] => .agg []) :: shape ts l.tail
  | .agg us :: ts, l => .agg (l.take us.length) :: shape ts (l.drop us.length)

def lts : List VT → List LT
  | [] => []
  | .one t :: ts => t :: lts ts
  | .agg us :: ts => us ++ lts ts

def rets : List VV → Value
  | [x] => x.val
  | l => .tuple (l.map VV.val).toArray

/-- What no call turns: the streams and the tape. -/
structure Out (W W' : World) : Prop where
  os : W'.os = W.os
  tape : W'.tape = W.tape
  output : W'.output = W.output

theorem Out.refl (W : World) : Out W W := ⟨rfl, rfl, rfl⟩
theorem Out.trans {A B C : World} (h : Out A B) (k : Out B C) : Out A C := ⟨k.os.trans h.os, k.tape.trans h.tape, k.output.trans h.output⟩

/-- A call returns values of given kinds, and R holds of them and of the heap behind the call. -/
def Call (P : Program) (f : FuncId) (args : List VV) (h : Heap) (vts : List VT) (R : Cur (lts vts) (Heap → Prop)) : Prop :=
  ∀ W, W.heap = h → Calls P f (args.map VV.val).toArray W fun e W' =>
    Out W W' ∧ ExL (lts vts) fun l => e = .returned (rets (shape vts l)) ∧ app (lts vts) R l fun p => p W'.heap

/-- Blocks are as they were. -/
def keepB (h h' : Heap) : List Nat → Prop
  | [] => True
  | b :: l => h'[b]? = h[b]? ∧ keepB h h' l

/-- A pointer that must not be nil. -/
def NilC (p : Option (Nat × Nat)) (K : Nat → Nat → Prop) : Prop := match p with
  | some (b, off) => K b off
  | none => False

def New (t : TypeId) (cs : List Lf) (h : Heap) (K : Nat → Heap → Prop) : Prop := ∀ b h', b = h.size → h' = hnew h t cs → K b h'
def Set (b : Nat) (t : TypeId) (cs : List Lf) (h : Heap) (K : Heap → Prop) : Prop := ∀ h', h' = hset h b t cs → K h'

/-- A block's cells, some of them written. -/
def wr (c : Array Value) (off : Nat) : List Value → Array Value
  | [] => c
  | v :: l => wr (c.setIfInBounds off v) (off + 1) l

/-- Cells are written somewhere in memory. -/
def fzOk (fz : Nat × Nat) (off n : Nat) : Prop := fz.2 ≤ fz.1 ∨ off + n ≤ fz.1 ∨ fz.2 ≤ off
def StV (h : Heap) (b off : Nat) (vs : List Value) (K : Heap → Prop) : Prop :=
  ∃ c e fz, h[b]? = some (.cells c e fz) ∧ off + vs.length ≤ c.size ∧ fzOk fz off vs.length ∧ ∀ h', h' = h.setIfInBounds b (.cells (wr c off vs) e fz) → K h'
def StC (h : Heap) (b off : Nat) (cs : List Lf) (K : Heap → Prop) : Prop := StV h b off (cs.map Lf.val) K

/-- Cells of a block, from a place on, as values. -/
def valsAt (h : Heap) (b off : Nat) : List Value → Prop
  | [] => True
  | x :: l => (∃ c e fz, h[b]? = some (.cells c e fz) ∧ c[off]? = some x) ∧ valsAt h b (off + 1) l
/-- A slice's first cells. -/
def srcAt (h : Heap) (a : Option (Nat × Nat)) (n : Nat) (vs : List Value) : Prop :=
  vs.length = n ∧ match a with | some (b, off) => valsAt h b off vs | none => vs = []

/-- append: cells behind a slice; in place where there is room, else in new memory of whatever capacity. -/
def AppV (e : TypeId) (zc : List Value) (sz bytes : Nat) (s : Slc) (n : Nat) (news : List Value) (h : Heap) (K : Slc → Heap → Prop) : Prop :=
  (∀ v ∈ news, v.oneCell' = true) ∧
  (s.len + n ≤ s.cap → match s.a with
    | some (b, off) => (news = [] → K ⟨s.a, s.len + n, s.cap⟩ h) ∧ (news ≠ [] → StV h b (off + s.len * sz) news fun h' => K ⟨s.a, s.len + n, s.cap⟩ h')
    | none => K ⟨none, s.len + n, s.cap⟩ h) ∧
  (s.cap < s.len + n → 0 < bytes ∧ Builtin.nextslicecap (s.len + n) s.cap * bytes ≤ 281474976710656 ∧ ∃ olds, srcAt h s.a (s.len * sz) olds ∧
    ∀ c b h', s.len + n ≤ c → b = h.size → h' = h.push (.cells (olds.toArray ++ news.toArray ++ Builtin.zeroCells zc.toArray (c - (s.len + n))) e (0, 0)) → K ⟨some (b, 0), s.len + n, c⟩ h')
def AppC (e : TypeId) (zc : List Lf) (sz bytes : Nat) (s x : Slc) (h : Heap) (K : Slc → Heap → Prop) : Prop :=
  ∃ news, srcAt h x.a (x.len * sz) news ∧ AppV e (zc.map Lf.val) sz bytes s x.len news h K
/-- A new row of cells. -/
def RowC (e : TypeId) (cs : List Lf) (h : Heap) (K : Nat → Heap → Prop) : Prop := New e cs h K
/-- make of a slice. -/
def MkC (e : TypeId) (zc : List Lf) (sz bytes : Nat) (len cap : Int) (h : Heap) (K : Slc → Heap → Prop) : Prop :=
  0 ≤ len ∧ len ≤ cap ∧ cap ≤ 9223372036854775807 ∧ (bytes : Int) * cap ≤ 281474976710656 ∧
  ∀ b h', b = h.size → h' = h.push (.cells (Builtin.zeroCells (zc.map Lf.val).toArray cap.toNat) e (0, 0)) → K ⟨some (b, 0), len.toNat, cap.toNat⟩ h'
/-- []byte(s). -/
def S2B (e : TypeId) (s : ByteArray) (h : Heap) (K : Slc → Heap → Prop) : Prop :=
  ∀ c b h', s.size ≤ c → b = h.size → h' = h.push (.cells ((s.data.toList.map fun x => Value.int .u8 x.toNat) ++ List.replicate (c - s.size) (Value.int .u8 0)).toArray e (c, c + 1)) → K ⟨some (b, 0), s.size, c⟩ h'

/-- A slice's element's address. -/
def IxC (s : Slc) (i : Int) (sz : Nat) (K : Nat → Nat → Prop) : Prop := 0 ≤ i ∧ i < (s.len : Int) ∧ NilC s.a fun b off => K b (off + i.toNat * sz)

def bt (s : ByteArray) (i : Int) : Int := ((s.data.toList.getD i.toNat 0).toNat : Int)

def bitop (k : IntKind) (op : BinOp) (x y : Int) : Int :=
  match op with
  | .and => k.wrap (BitVec.ofInt k.bits x &&& BitVec.ofInt k.bits y).toNat
  | .or => k.wrap (BitVec.ofInt k.bits x ||| BitVec.ofInt k.bits y).toNat
  | .xor => k.wrap (BitVec.ofInt k.bits x ^^^ BitVec.ofInt k.bits y).toNat
  | _ => k.wrap (BitVec.ofInt k.bits x &&& ~~~ BitVec.ofInt k.bits y).toNat

def shiftL (k : IntKind) (x y : Int) : Int := k.wrap (x * 2 ^ (min y.toNat k.bits))
def shiftR (k : IntKind) (x y : Int) : Int := x.fdiv (2 ^ (min y.toNat k.bits))

def strEq (a b : ByteArray) : Bool := a == b
def strLt (a b : ByteArray) : Bool := Op.bytesLess a.toList b.toList

def intBin (op : BinOp) (k : IntKind) (a b : Int) (K : Lf → Prop) : Prop := match op with
  | .add => K (.int k (k.wrap (a + b)))
  | .sub => K (.int k (k.wrap (a - b)))
  | .mul => K (.int k (k.wrap (a * b)))
  | .quo => b ≠ 0 ∧ K (.int k (k.wrap (a.tdiv b)))
  | .rem => b ≠ 0 ∧ K (.int k (a.tmod b))
  | .and => K (.int k (bitop k .and a b))
  | .or => K (.int k (bitop k .or a b))
  | .xor => K (.int k (bitop k .xor a b))
  | .andNot => K (.int k (bitop k .andNot a b))
  | .shl => 0 ≤ b ∧ K (.int k (shiftL k a b))
  | .shr => 0 ≤ b ∧ K (.int k (shiftR k a b))
  | .eql => K (.bool (a == b))
  | .neq => K (.bool (a != b))
  | .lss => K (.bool (decide (a < b)))
  | .leq => K (.bool (decide (a ≤ b)))
  | .gtr => K (.bool (decide (a > b)))
  | .geq => K (.bool (decide (a ≥ b)))

def strBin (op : BinOp) (a b : ByteArray) (K : Lf → Prop) : Prop := match op with
  | .add => ((a.size + b.size : Nat) : Int) ≤ 9223372036854775807 ∧ K (.str (a ++ b))
  | .eql => K (.bool (strEq a b))
  | .neq => K (.bool (!strEq a b))
  | .lss => K (.bool (strLt a b))
  | .leq => K (.bool (strLt a b || strEq a b))
  | .gtr => K (.bool (!(strLt a b || strEq a b)))
  | .geq => K (.bool (!strLt a b))
  | _ => False

def isShift : BinOp → Bool
  | .shl | .shr => true
  | _ => false

/-- Whether two rows of cells are equal: integers, bools and strings alone. -/
def lfEq : List LT → List Lf → List Lf → (Bool → Prop) → Prop
  | [], [], [], K => K true
  | .int _ :: ks, .int k a :: l, .int k' b :: m, K => match Nat.beq (kcode k) (kcode k') with | true => lfEq ks l m fun r => K ((a == b) && r) | false => False
  | .str :: ks, .str a :: l, .str b :: m, K => lfEq ks l m fun r => K ((a == b) && r)
  | .bool :: ks, .bool a :: l, .bool b :: m, K => lfEq ks l m fun r => K ((a == b) && r)
  | _, _, _, _ => False

/-- A struct whose fields are of one cell each, one behind the other. -/
def flatOf (P : Program) : Nat → List Field → Option (List LT)
  | _, [] => some []
  | n, f :: fs => match (f.name != "_") && Nat.beq f.offset n with
    | true => (match P.underlying f.type, flatOf P (n + 1) fs with
      | some (.int k), some l => some (.int k :: l)
      | some .string, some l => some (.str :: l)
      | some .bool, some l => some (.bool :: l)
      | _, _ => none)
    | false => none

def flatStruct (P : Program) (t : TypeId) : Option (List LT) := match P.underlying t with
  | some (.struct fs) => (match P.stoodInHeld t, P.eqGuardType P.depth t with | false, false => flatOf P 0 fs.toList | _, _ => none)
  | _ => none

def eqlTest (op : BinOp) (b : Bool) (K : Lf → Prop) : Prop := match op with
  | .eql => K (.bool b)
  | .neq => K (.bool (!b))
  | _ => False

def bin (P : Program) (op : BinOp) (t : TypeId) (x y : SV) (K : Lf → Prop) : Prop := match x, y with
  | .v (.lf (.int k a)), .v (.lf (.int k' b)) => (match isShift op with
    | true => intBin op k a b K
    | false => match Nat.beq (kcode k) (kcode k') with | true => intBin op k a b K | false => False)
  | .v (.lf (.str a)), .v (.lf (.str b)) => strBin op a b K
  | .v (.lf (.bool a)), .v (.lf (.bool b)) => (match P.underlying t with | some .bool => eqlTest op (a == b) K | _ => False)
  | .v (.lf (.slc a)), .v (.lf (.slc b)) => (match P.underlying t, b.a with | some (.slice _), none => eqlTest op a.a.isNone K | _, _ => False)
  | .v (.lf (.map a)), .v (.lf (.map none)) => (match P.underlying t with | some (.map _ _) => eqlTest op a.isNone K | _ => False)
  | .v (.lf (.ptr a)), .v (.lf (.ptr none)) => (match P.underlying t with | some (.pointer _) => eqlTest op a.isNone K | _ => False)
  | .v (.agg l), .v (.agg m) => (match flatStruct P t with | some ks => lfEq ks l m fun b => eqlTest op b K | none => False)
  | _, _ => False

def fieldOff (P : Program) (s : TypeId) (i : Nat) : Option Nat := match P.underlying s with
  | some (.struct fs) => match fs[i]? with
    | some f => match P.info? f.type with
      | some ty => match ty.size with | 0 => none | _ + 1 => some f.offset
      | none => none
    | none => none
  | _ => none

def szOf (P : Program) (t : TypeId) : Nat := match P.info? t with | some i => i.size | none => 0
def bytesOf (P : Program) (t : TypeId) : Nat := match P.info? t with | some i => i.bytes | none => 0
def known (P : Program) (t : TypeId) : Bool := match P.info? t with | some _ => true | none => false

/-- What a later step must leave as it is for an earlier reading to stand. -/
inductive Cond where
  | tt
  | cells (b off : Nat) (l : List Lf)
  | loc (id : Nat) (l : Loc)
  | obj (b : Nat) (o : Obj)

def Loc.obj (l : Loc) : Obj := .cells (l.cs.map Lf.val).toArray l.t (0, 0)

def Cond.holds : Cond → Heap → Prop
  | .tt, _ => True
  | .cells b off l, h => cellsAt h b off l
  | .loc _ l, h => h[l.b]? = some l.obj
  | .obj b o, h => h[b]? = some o

def Cond.chk : Cond → St → Heap → Prop
  | .tt, _, _ => True
  | .cells b off l, _, h => cellsAt h b off l
  | .loc id l, st, _ => match st.loc id with
    | some l' => match Nat.beq l.ver l'.ver with | true => True | false => False
    | none => False
  | .obj b o, _, h => h[b]? = some o

/-- Bounds of a cut. -/
def bound (x : Option SV) (dflt most : Nat) (K : Nat → Prop) : Prop := match x with
  | none => K dflt
  | some (.v (.lf (.int _ i))) => 0 ≤ i ∧ i ≤ (most : Int) ∧ K i.toNat
  | some _ => False

def Slc.sub (s : Slc) (sz l hi m : Nat) : Slc :=
  ⟨if m = l then s.a else match s.a with | some (b, o) => some (b, o + l * sz) | none => none, hi - l, m - l⟩

/-- Bytes of a slice. -/
def bytesAt (h : Heap) (s : Slc) (x : ByteArray) : Prop :=
  x.size = s.len ∧ (s.len = 0 ∨ ∃ b off, s.a = some (b, off) ∧ cellsAt h b off (x.data.toList.map fun c => .int .u8 c.toNat))

def svL (l : List Lf) (off n : Nat) : Option (List Lf) := match Nat.ble (off + n) l.length with
  | true => some ((l.drop off).take n)
  | false => none

end Go.V
