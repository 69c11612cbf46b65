/- This text proves a part of the laws of seat YtdeihieblljfcaaGreat, under no condition: VA VO VB VS VT VT2 VT3. -/
import Derived.OrdersHeld
import Derived.Tactics
import Derived.KernelRfl
import Derived.Laws.Slices
import Derived.Laws.Cells
import Derived.OrdersIn
import Derived.TacticsIn
import Derived.RangeFuncIn
import Derived.RangeFuncLeaves
import Derived.MapKept
set_option linter.unusedVariables false
/-! The symbolic machine: values, states, and what an operation does to them. -/
namespace Go.V

abbrev Heap := Array Obj

class Sp where
  v : Option Nat
instance noSp : Sp := ⟨none⟩

structure Slc where
  [sp : Sp]
  a : Option (Nat × Nat)
  len : Nat
  cap : Nat

def padr : Option (Nat × Nat) → Option Addr
  | none => none
  | some (b, o) => some ⟨b, o, none⟩

def sadr (s : Slc) : Option Addr := match s.a with
  | none => none
  | some (b, o) => some ⟨b, o, @Sp.v s.sp⟩
theorem sadr_lit (b o l c : Nat) : sadr ⟨some (b, o), l, c⟩ = some ⟨b, o, none⟩ := rfl
def Slc.plain (s : Slc) : Prop := @Sp.v s.sp = none
theorem sadr_plain {s : Slc} (h : s.plain) : sadr s = padr s.a := by
  unfold sadr padr
  cases s.a with
  | none => rfl
  | some p => obtain ⟨b, o⟩ := p; unfold Slc.plain at h; rw [h]
theorem sadr_none {s : Slc} (h : s.a = none) : sadr s = none := by unfold sadr; rw [h]

inductive Lf where
  | int (k : IntKind) (n : Int)
  | bool (b : Bool)
  | str (s : ByteArray)
  | ptr (p : Option (Nat × Nat))
  | slc (s : Slc)
  | map (m : Option Nat)
  | raw (v : Value)

def oneV (v : Value) : Value := match v.oneCell' with
  | true => v
  | false => .nilIface

theorem oneV_one (v : Value) : (oneV v).oneCell' = true := by
  unfold oneV
  split
  · assumption
  · rfl

def Lf.val : Lf → Value
  | .int k n => .int k n
  | .bool b => .bool b
  | .str s => .string s
  | .ptr p => .pointer (padr p)
  | .slc s => .slice (sadr s) s.len s.cap
  | .map m => .map m
  | .raw v => oneV v

theorem Lf.val_one (x : Lf) : x.val.oneCell' = true := by
  cases x <;> first | rfl | exact oneV_one _

inductive VV where
  | lf (x : Lf)
  | agg (l : List Lf)

def VV.val : VV → Value
  | .lf x => x.val
  | .agg l => .agg (l.map Lf.val).toArray

inductive SV where
  | v (x : VV)
  | tup (l : List VV)
  | loc (id off : Nat)
  | unk

inductive LT where
  | int (k : IntKind) | bool | str | ptr | slc | map | raw

abbrev LT.den : LT → Type
  | .int _ => Int
  | .bool => Bool
  | .str => ByteArray
  | .ptr => Option (Nat × Nat)
  | .slc => Slc
  | .map => Option Nat
  | .raw => Value

def LT.mk : (t : LT) → t.den → Lf
  | .int k, n => .int k n
  | .bool, b => .bool b
  | .str, s => .str s
  | .ptr, p => .ptr p
  | .slc, s => .slc s
  | .map, m => .map m
  | .raw, v => .raw v

def kcode : IntKind → Nat
  | .i8 => 0 | .i16 => 1 | .i32 => 2 | .i64 => 3 | .u8 => 4 | .u16 => 5 | .u32 => 6 | .u64 => 7

theorem kcode_inj {a b : IntKind} (h : Nat.beq (kcode a) (kcode b) = true) : a = b := by
  cases a <;> cases b <;> first | rfl | (revert h; decide)

def LT.get : (t : LT) → Lf → Option t.den
  | .int k, .int k' n => match Nat.beq (kcode k) (kcode k') with | true => some n | false => none
  | .bool, .bool b => some b
  | .str, .str s => some s
  | .ptr, .ptr p => some p
  | .slc, .slc s => some s
  | .map, .map m => some m
  | .raw, .raw v => some v
  | _, _ => none

theorem LT.get_mk {t : LT} {x : Lf} {d : t.den} (h : t.get x = some d) : t.mk d = x := by
  cases t <;> cases x <;> simp_all [LT.get, LT.mk]
  rename_i k k' n
  split at h
  · rename_i hk; simp at h; subst h; exact ⟨kcode_inj hk, rfl⟩
  · simp at h

def LT.ofZero : Value → LT
  | .int k _ => .int k
  | .bool _ => .bool
  | .string _ => .str
  | .pointer _ => .ptr
  | .slice .. => .slc
  | .map _ => .map
  | _ => .raw

def Lf.ofVal : Value → Lf
  | .int k n => .int k n
  | .bool b => .bool b
  | .string s => .str s
  | .pointer none => .ptr none
  | .slice none l c => .slc ⟨none, l, c⟩
  | .map m => .map m
  | v => .raw v

theorem Lf.ofVal_val {v : Value} (h : v.oneCell' = true) : (Lf.ofVal v).val = v := by
  unfold Lf.ofVal
  split <;> first | rfl | (simp [Lf.val, oneV, h])

def allOne : List Value → Bool
  | [] => true
  | v :: l => v.oneCell' && allOne l

theorem allOne_map : ∀ {l : List Value}, allOne l = true → (l.map Lf.ofVal).map Lf.val = l
  | [], _ => rfl
  | v :: l, h => by
    simp only [allOne, Bool.and_eq_true] at h
    simp only [List.map_cons, Lf.ofVal_val h.1, allOne_map h.2]

def VV.cells : VV → List Lf
  | .lf x => [x]
  | .agg l => l

def SV.ofConst (v : Value) : SV := match v.oneCell' with
  | true => .v (.lf (Lf.ofVal v))
  | false => .unk

def aggK (P : Program) (t : TypeId) : Option Bool := match P.underlying t with
  | some (.struct _) => some true
  | some (.array _ _) => some true
  | some _ => some false
  | none => none

def zeroOf (P : Program) (t : TypeId) : Option VV := match P.info? t with
  | some i => match i.zero with
    | some (.agg cs) => (match allOne cs.toList && Nat.beq i.size cs.size with | true => some (.agg (cs.toList.map Lf.ofVal)) | false => none)
    | some v => (match v.oneCell' && Nat.beq i.size 1 with | true => some (.lf (Lf.ofVal v)) | false => none)
    | none => none
  | none => none

inductive VT where
  | one (t : LT)
  | agg (ts : List LT)

def VT.lts : VT → List LT
  | .one t => [t]
  | .agg ts => ts

def vtOf (P : Program) (t : TypeId) : Option VT := match P.info? t with
  | some i => match i.zero, aggK P t with
    | some (.agg cs), some true => (match Nat.beq i.size cs.size with | true => some (.agg (cs.toList.map LT.ofZero)) | false => none)
    | some (.agg _), some false => none
    | some v, some false => (match Nat.beq i.size 1 with | true => some (.one (LT.ofZero v)) | false => none)
    | _, _ => none
  | none => none

def VT.put : VT → List Lf → VV
  | .one _, [x] => .lf x
  | .one _, l => .agg l
  | .agg _, l => .agg l

structure Loc where
  b : Nat
  t : TypeId
  cs : List Lf
  ver : Nat

structure St where
  f : List SV
  ls : List (Option Loc)
  ds : List Deferred

def St.get (st : St) (t : Nat) : SV := st.f.getD t .unk
def St.put (st : St) (d : Option Nat) (s : SV) : St := match d with
  | some d => { st with f := st.f.set d s }
  | none => st
def St.loc (st : St) (id : Nat) : Option Loc := match st.ls[id]? with
  | some o => o
  | none => none

def St.ev (st : St) : Operand → SV
  | .tmp t => st.get t
  | .const v => SV.ofConst v
  | .global g => .v (.lf (.ptr (some (g, 0))))
  | .func f => .v (.lf (.raw (.func (.func f) #[] #[])))

def cellsAt (h : Heap) (b off : Nat) : List Lf → Prop
  | [] => True
  | x :: l => (∃ c e fz, h[b]? = some (.cells c e fz) ∧ c[off]? = some x.val) ∧ cellsAt h b (off + 1) l

def hset (h : Heap) (b : Nat) (t : TypeId) (cs : List Lf) : Heap := h.setIfInBounds b (.cells (cs.map Lf.val).toArray t (0, 0))
def hnew (h : Heap) (t : TypeId) (cs : List Lf) : Heap := h.push (.cells (cs.map Lf.val).toArray t (0, 0))

def ExL : (ts : List LT) → (List Lf → Prop) → Prop
  | [], K => K []
  | t :: ts, K => ∃ x : t.den, ExL ts fun l => K (t.mk x :: l)
def AllL : (ts : List LT) → (List Lf → Prop) → Prop
  | [], K => K []
  | t :: ts, K => ∀ x : t.den, AllL ts fun l => K (t.mk x :: l)

def Br (b : Bool) (X Y : Prop) : Prop := Bool.rec Y X b

abbrev Cur : List LT → Type → Type
  | [], R => R
  | t :: ts, R => t.den → Cur ts R

def app : (ts : List LT) → {R : Type} → Cur ts R → List Lf → (R → Prop) → Prop
  | [], _, I, [], K => K I
  | t :: ts, _, I, x :: l, K => match t.get x with | some d => app ts (I d) l K | none => False
  | _, _, _, _, _ => False

def lam : (ts : List LT) → {R : Type} → (List Lf → R) → Cur ts R
  | [], _, g => g []
  | t :: ts, _, g => fun x : t.den => lam ts fun l => g (t.mk x :: l)

def AllI : (ts : List LT) → {R : Type} → Cur ts R → (List Lf → R → Prop) → Prop
  | [], _, I, K => K [] I
  | t :: ts, _, I, K => ∀ x : t.den, AllI ts (I x) fun l i => K (t.mk x :: l) i

def shape : List VT → List Lf → List VV
  | [], _ => []
  | .one _ :: ts, l => (match l with | x :: _ => .lf x | [] => .agg []) :: shape ts l.tail
  | .agg us :: ts, l => .agg (l.take us.length) :: shape ts (l.drop us.length)

def lts : List VT → List LT
  | [] => []
  | .one t :: ts => t :: lts ts
  | .agg us :: ts => us ++ lts ts

def rets : List VV → Value
  | [x] => x.val
  | l => .tuple (l.map VV.val).toArray

structure Out (W W' : World) : Prop where
  os : W'.os = W.os
  tape : W'.tape = W.tape
  output : W'.output = W.output

theorem Out.refl (W : World) : Out W W := ⟨rfl, rfl, rfl⟩
theorem Out.trans {A B C : World} (h : Out A B) (k : Out B C) : Out A C := ⟨k.os.trans h.os, k.tape.trans h.tape, k.output.trans h.output⟩

def Call (P : Program) (f : FuncId) (args : List VV) (h : Heap) (vts : List VT) (R : Cur (lts vts) (Heap → Prop)) : Prop :=
  ∀ W, W.heap = h → Calls P f (args.map VV.val).toArray W fun e W' =>
    Out W W' ∧ ExL (lts vts) fun l => e = .returned (rets (shape vts l)) ∧ app (lts vts) R l fun p => p W'.heap

def FR (ro : Option Nat) : Fence := { Fence.wide with round := ro }

def CallP (P : Program) (f : FuncId) (args : List VV) (h : Heap) (vts : List VT) (R : Cur (lts vts) (Heap → Prop)) (Rp : TypeId → Value → Heap → Prop) : Prop :=
  ∀ W, W.heap = h → Calls P f (args.map VV.val).toArray W fun e W' =>
    Out W W' ∧ ((ExL (lts vts) fun l => e = .returned (rets (shape vts l)) ∧ app (lts vts) R l fun p => p W'.heap) ∨ ∃ t v, e = .panicked [{ v := .iface t v, recovered := false }] ∧ Rp t v W'.heap)

def pmode : Option (TypeId × Value) → FrameMode
  | none => .returning
  | some (t, v) => .panicking [{ v := .iface t v, recovered := false }]
def CallD (P : Program) (f : FuncId) (args : Array Value) (h : Heap) (pm : Option (TypeId × Value)) (R : Bool → Heap → Prop) : Prop :=
  (∃ fn c, P.funcs[f]? = some fn ∧ fn.body = some c) ∧ ∀ W, W.heap = h → CallsDIn (FR none) 0 P f args (pmode pm) W fun e u' W' => Out W W' ∧ (∃ v, e = .returned v) ∧
    ((u' = pmode pm ∧ R false W'.heap) ∨ ∃ t v, pm = some (t, v) ∧ u' = .panicking [{ v := .iface t v, recovered := true }] ∧ R true W'.heap)

def keepB (h h' : Heap) : List Nat → Prop
  | [] => True
  | b :: l => h'[b]? = h[b]? ∧ keepB h h' l

def NilC (p : Option (Nat × Nat)) (K : Nat → Nat → Prop) : Prop := match p with
  | some (b, off) => K b off
  | none => False

def New (t : TypeId) (cs : List Lf) (h : Heap) (K : Nat → Heap → Prop) : Prop := ∀ b h', b = h.size → h' = hnew h t cs → K b h'
def Set (b : Nat) (t : TypeId) (cs : List Lf) (h : Heap) (K : Heap → Prop) : Prop := ∀ h', h' = hset h b t cs → K h'

def wr (c : Array Value) (off : Nat) : List Value → Array Value
  | [] => c
  | v :: l => wr (c.setIfInBounds off v) (off + 1) l

def fzOk (fz : Nat × Nat) (off n : Nat) : Prop := fz.2 ≤ fz.1 ∨ off + n ≤ fz.1 ∨ fz.2 ≤ off
def StV (h : Heap) (b off : Nat) (vs : List Value) (K : Heap → Prop) : Prop :=
  ∃ c e fz, h[b]? = some (.cells c e fz) ∧ off + vs.length ≤ c.size ∧ fzOk fz off vs.length ∧ ∀ h', h' = h.setIfInBounds b (.cells (wr c off vs) e fz) → K h'
def StC (h : Heap) (b off : Nat) (cs : List Lf) (K : Heap → Prop) : Prop := StV h b off (cs.map Lf.val) K

def valsAt (h : Heap) (b off : Nat) : List Value → Prop
  | [] => True
  | x :: l => (∃ c e fz, h[b]? = some (.cells c e fz) ∧ c[off]? = some x) ∧ valsAt h b (off + 1) l
def srcAt (h : Heap) (a : Option (Nat × Nat)) (n : Nat) (vs : List Value) : Prop :=
  vs.length = n ∧ match a with | some (b, off) => valsAt h b off vs | none => vs = []

def Slc.more (s : Slc) (n : Nat) : Slc := @Slc.mk s.sp s.a (s.len + n) s.cap
@[simp] theorem Slc.more_len (s : Slc) (n : Nat) : (s.more n).len = s.len + n := rfl
@[simp] theorem Slc.more_cap (s : Slc) (n : Nat) : (s.more n).cap = s.cap := rfl
@[simp] theorem Slc.more_a (s : Slc) (n : Nat) : (s.more n).a = s.a := rfl
@[simp] theorem Slc.more_zero (s : Slc) : s.more 0 = s := rfl

def AppV (e : TypeId) (zc : List Value) (sz bytes : Nat) (s : Slc) (n : Nat) (news : List Value) (h : Heap) (K : Slc → Heap → Prop) : Prop :=
  (∀ v ∈ news, v.oneCell' = true) ∧
  (s.len + n ≤ s.cap → match s.a with
    | some (b, off) => (news = [] → K (s.more n) h) ∧ (news ≠ [] → s.plain ∧ StV h b (off + s.len * sz) news fun h' => K (s.more n) h')
    | none => K (s.more n) h) ∧
  (s.cap < s.len + n → 0 < bytes ∧ Builtin.nextslicecap (s.len + n) s.cap * bytes ≤ 281474976710656 ∧ ∃ olds, srcAt h s.a (s.len * sz) olds ∧ (olds = [] ∨ s.plain) ∧
    ∀ c b h', s.len + n ≤ c → b = h.size → h' = h.push (.cells (olds.toArray ++ news.toArray ++ Builtin.zeroCells zc.toArray (c - (s.len + n))) e (0, 0)) → K ⟨some (b, 0), s.len + n, c⟩ h')
def AppC (e : TypeId) (zc : List Lf) (sz bytes : Nat) (s x : Slc) (h : Heap) (K : Slc → Heap → Prop) : Prop :=
  ∃ news, srcAt h x.a (x.len * sz) news ∧ (news = [] ∨ x.plain) ∧ AppV e (zc.map Lf.val) sz bytes s x.len news h K
def AppZ (e : TypeId) (zc : List Lf) (sz bytes : Nat) (s : Slc) (n : Int) (h : Heap) (K : Slc → Heap → Prop) : Prop :=
  0 ≤ n ∧ n ≤ 9223372036854775807 ∧ n * (bytes : Int) ≤ 281474976710656 ∧ (s.len : Int) + n ≤ 9223372036854775807 ∧ AppV e (zc.map Lf.val) sz bytes s n.toNat (List.replicate n.toNat (zc.map Lf.val)).flatten h K
def MkC (e : TypeId) (zc : List Lf) (sz bytes : Nat) (len cap : Int) (h : Heap) (K : Slc → Heap → Prop) : Prop :=
  0 ≤ len ∧ len ≤ cap ∧ cap ≤ 9223372036854775807 ∧ (bytes : Int) * cap ≤ 281474976710656 ∧
  ∀ b h', b = h.size → h' = h.push (.cells (Builtin.zeroCells (zc.map Lf.val).toArray cap.toNat) e (0, 0)) → K ⟨some (b, 0), len.toNat, cap.toNat⟩ h'
def S2B (e : TypeId) (s : ByteArray) (h : Heap) (K : Slc → Heap → Prop) : Prop :=
  ∀ c b h', s.size ≤ c → b = h.size → h' = h.push (.cells ((s.data.toList.map fun x => Value.int .u8 x.toNat) ++ List.replicate (c - s.size) (Value.int .u8 0)).toArray e (c, c + 1)) → K ⟨some (b, 0), s.size, c⟩ h'

def MarkC (h : Heap) (a : Option (Nat × Nat)) (K : Heap → Prop) : Prop := match a with
  | some (b, _) => ∃ c e, h[b]? = some (.cells c e (0, 0)) ∧ ∀ h', h' = h.setIfInBounds b (.cells c e (c.size, c.size + 1)) → K h'
  | none => False

def IxC (s : Slc) (i : Int) (sz : Nat) (K : Nat → Nat → Prop) : Prop := 0 ≤ i ∧ i < (s.len : Int) ∧ s.plain ∧ NilC s.a fun b off => K b (off + i.toNat * sz)

def bt (s : ByteArray) (i : Int) : Int := ((s.data.toList.getD i.toNat 0).toNat : Int)

def bitop (k : IntKind) (op : BinOp) (x y : Int) : Int :=
  match op with
  | .and => k.wrap (BitVec.ofInt k.bits x &&& BitVec.ofInt k.bits y).toNat
  | .or => k.wrap (BitVec.ofInt k.bits x ||| BitVec.ofInt k.bits y).toNat
  | .xor => k.wrap (BitVec.ofInt k.bits x ^^^ BitVec.ofInt k.bits y).toNat
  | _ => k.wrap (BitVec.ofInt k.bits x &&& ~~~ BitVec.ofInt k.bits y).toNat

def shiftL (k : IntKind) (x y : Int) : Int := k.wrap (x * 2 ^ (min y.toNat k.bits))
def shiftR (k : IntKind) (x y : Int) : Int := x.fdiv (2 ^ (min y.toNat k.bits))

def strEq (a b : ByteArray) : Bool := a == b
def strLt (a b : ByteArray) : Bool := Op.bytesLess a.toList b.toList

def intBin (op : BinOp) (k : IntKind) (a b : Int) (K : Lf → Prop) : Prop := match op with
  | .add => K (.int k (k.wrap (a + b)))
  | .sub => K (.int k (k.wrap (a - b)))
  | .mul => K (.int k (k.wrap (a * b)))
  | .quo => b ≠ 0 ∧ K (.int k (k.wrap (a.tdiv b)))
  | .rem => b ≠ 0 ∧ K (.int k (a.tmod b))
  | .and => K (.int k (bitop k .and a b))
  | .or => K (.int k (bitop k .or a b))
  | .xor => K (.int k (bitop k .xor a b))
  | .andNot => K (.int k (bitop k .andNot a b))
  | .shl => 0 ≤ b ∧ K (.int k (shiftL k a b))
  | .shr => 0 ≤ b ∧ K (.int k (shiftR k a b))
  | .eql => K (.bool (a == b))
  | .neq => K (.bool (a != b))
  | .lss => K (.bool (decide (a < b)))
  | .leq => K (.bool (decide (a ≤ b)))
  | .gtr => K (.bool (decide (a > b)))
  | .geq => K (.bool (decide (a ≥ b)))

def strBin (op : BinOp) (a b : ByteArray) (K : Lf → Prop) : Prop := match op with
  | .add => ((a.size + b.size : Nat) : Int) ≤ 9223372036854775807 ∧ K (.str (a ++ b))
  | .eql => K (.bool (strEq a b))
  | .neq => K (.bool (!strEq a b))
  | .lss => K (.bool (strLt a b))
  | .leq => K (.bool (strLt a b || strEq a b))
  | .gtr => K (.bool (!(strLt a b || strEq a b)))
  | .geq => K (.bool (!strLt a b))
  | _ => False

def isShift : BinOp → Bool
  | .shl | .shr => true
  | _ => false

def lfEq : List LT → List Lf → List Lf → (Bool → Prop) → Prop
  | [], [], [], K => K true
  | .int _ :: ks, .int k a :: l, .int k' b :: m, K => match Nat.beq (kcode k) (kcode k') with | true => lfEq ks l m fun r => K ((a == b) && r) | false => False
  | .str :: ks, .str a :: l, .str b :: m, K => lfEq ks l m fun r => K ((a == b) && r)
  | .bool :: ks, .bool a :: l, .bool b :: m, K => lfEq ks l m fun r => K ((a == b) && r)
  | _, _, _, _ => False

def flatOf (P : Program) : Nat → List Field → Option (List LT)
  | _, [] => some []
  | n, f :: fs => match (f.name != "_") && Nat.beq f.offset n with
    | true => (match P.underlying f.type, flatOf P (n + 1) fs with
      | some (.int k), some l => some (.int k :: l)
      | some .string, some l => some (.str :: l)
      | some .bool, some l => some (.bool :: l)
      | _, _ => none)
    | false => none

def flatStruct (P : Program) (t : TypeId) : Option (List LT) := match P.underlying t with
  | some (.struct fs) => (match P.stoodInHeld t, P.eqGuardType P.depth t with | false, false => flatOf P 0 fs.toList | _, _ => none)
  | _ => none

def eqlTest (op : BinOp) (b : Bool) (K : Lf → Prop) : Prop := match op with
  | .eql => K (.bool b)
  | .neq => K (.bool (!b))
  | _ => False

def IfEq (P : Program) (a b : Value) (ok r : Bool) : Prop := match a, b with
  | .nilIface, .nilIface => ok = true ∧ r = true
  | .nilIface, .iface _ _ => r = false
  | .iface _ _, .nilIface => r = false
  | .iface t x, .iface u y => (t ≠ u ∧ r = false) ∨ (t = u ∧ (∃ i, P.info? t = some i ∧ i.comparable = true) ∧ ∃ k0 k m n, P.underlying t = some (.int k0) ∧ x = .int k m ∧ y = .int k n ∧ r = (m == n))
  | _, _ => False

def bin (P : Program) (op : BinOp) (t : TypeId) (x y : SV) (K : Lf → Prop) : Prop := match x, y with
  | .v (.lf (.int k a)), .v (.lf (.int k' b)) => (match isShift op with
    | true => intBin op k a b K
    | false => match Nat.beq (kcode k) (kcode k') with | true => intBin op k a b K | false => False)
  | .v (.lf (.str a)), .v (.lf (.str b)) => strBin op a b K
  | .v (.lf (.bool a)), .v (.lf (.bool b)) => (match P.underlying t with | some .bool => eqlTest op (a == b) K | _ => False)
  | .v (.lf (.slc a)), .v (.lf (.slc b)) => (match P.underlying t, b.a with | some (.slice _), none => eqlTest op a.a.isNone K | _, _ => False)
  | .v (.lf (.map a)), .v (.lf (.map none)) => (match P.underlying t with | some (.map _ _) => eqlTest op a.isNone K | _ => False)
  | .v (.lf (.ptr a)), .v (.lf (.ptr none)) => (match P.underlying t with | some (.pointer _) => eqlTest op a.isNone K | _ => False)
  | .v (.lf (.raw (.iface _ _))), .v (.lf (.raw .nilIface)) => (match P.underlying t with | some (.interface _) => eqlTest op false K | _ => False)
  | .v (.lf (.raw .nilIface)), .v (.lf (.raw .nilIface)) => (match P.underlying t with | some (.interface ms) => (match ms.isEmpty with | true => eqlTest op true K | false => False) | _ => False)
  | .v (.agg l), .v (.agg m) => (match flatStruct P t with | some ks => lfEq ks l m fun b => eqlTest op b K | none => False)
  | _, _ => False

def fieldOff (P : Program) (s : TypeId) (i : Nat) : Option Nat := match P.underlying s with
  | some (.struct fs) => match fs[i]? with
    | some f => match P.info? f.type with
      | some ty => match ty.size with | 0 => none | _ + 1 => some f.offset
      | none => none
    | none => none
  | _ => none

def szOf (P : Program) (t : TypeId) : Nat := match P.info? t with | some i => i.size | none => 0
def bytesOf (P : Program) (t : TypeId) : Nat := match P.info? t with | some i => i.bytes | none => 0
def known (P : Program) (t : TypeId) : Bool := match P.info? t with | some _ => true | none => false

def ptrEq (a b : Option (Nat × Nat)) : Bool := decide (a = b)
def plainAt (h : Heap) (b : Nat) : Prop := ∃ c e, h[b]? = some (.cells c e (0, 0))
def PEq (h : Heap) : Option (Nat × Nat) → Option (Nat × Nat) → Prop
  | some (b, _), some (b', _) => b = b' ∨ (plainAt h b ∧ plainAt h b')
  | _, _ => True

structure ME (kt : LT) where
  key : kt.den
  val : List Lf
  born : Nat

def ME.obj {kt : LT} (vt : VT) (e : ME kt) : MapEntry := ⟨(kt.mk e.key).val, (vt.put e.val).val, e.born⟩
def mobj (kt : LT) (vt : VT) (es : List (ME kt)) (clock : Nat) : Obj := .map (es.map (ME.obj vt)).toArray clock

def keq : (t : LT) → t.den → t.den → Bool
  | .int _ => fun (a b : Int) => a == b
  | .bool => fun (a b : Bool) => a == b
  | .str => fun (a b : ByteArray) => strEq a b
  | .ptr => fun a b => ptrEq a b
  | _ => fun _ _ => false

def KOk (h : Heap) : (kt : LT) → kt.den → List (ME kt) → Prop
  | .ptr, k, es => ∀ e ∈ es, PEq h k e.key
  | _, _, _ => True

def mlook (kt : LT) (k : kt.den) : List (ME kt) → Nat → Option (Nat × ME kt)
  | [], _ => none
  | e :: es, i => if keq kt k e.key = true then some (i, e) else mlook kt k es (i + 1)

def mget (kt : LT) (k : kt.den) (es : List (ME kt)) : Option (List Lf) := (mlook kt k es 0).map fun x => x.2.val
def mput (kt : LT) (k : kt.den) (v : List Lf) (es : List (ME kt)) (clock : Nat) : List (ME kt) × Nat := match mlook kt k es 0 with
  | some (i, e) => (es.set i ⟨k, v, e.born⟩, clock)
  | none => (es ++ [⟨k, v, clock⟩], clock + 1)
def mdel (kt : LT) (k : kt.den) (es : List (ME kt)) : List (ME kt) := match mlook kt k es 0 with
  | some (i, _) => es.eraseIdx i
  | none => es
def ment (kt : LT) (k : kt.den) (z : List Lf) (es : List (ME kt)) (clock : Nat) : List Lf × Nat × List (ME kt) × Nat := match mlook kt k es 0 with
  | some (_, e) => (e.val, e.born, es, clock)
  | none => (z, clock, es ++ [⟨k, z, clock⟩], clock + 1)
def msto {kt : LT} (n : Nat) (v : List Lf) : List (ME kt) → List (ME kt)
  | [] => []
  | e :: es => if e.born = n then { e with val := v } :: es else e :: msto n v es

def LookR (h : Heap) (kt : LT) (vt : VT) (z : List Lf) (m : Option Nat) (k : kt.den) (l : List Lf) (f : Bool) : Prop := match m with
  | none => l = z ∧ f = false
  | some r => ∃ es clock, h[r]? = some (mobj kt vt es clock) ∧ KOk h kt k es ∧ (match mget kt k es with | some v => l = v ∧ f = true | none => l = z ∧ f = false)
def LenR (h : Heap) (m : Option Nat) (n : Int) : Prop := match m with
  | none => n = 0
  | some r => ∃ es clock, h[r]? = some (.map es clock) ∧ n = (es.size : Int)
def EntryR (h : Heap) (b : Nat) (kt : LT) (vt : VT) (k : kt.den) (l : List Lf) : Prop :=
  ∃ r since seen e es clock, h[b]? = some (.mapIter (some r) since (Array.push seen e.born) clock) ∧ h[r]? = some (mobj kt vt es clock) ∧ es.find? (fun x => x.born == e.born) = some e ∧ e.key = k ∧ e.val = l

def UpdC (kt : LT) (vt : VT) (h : Heap) (m : Option Nat) (k : kt.den) (v : List Lf) (K : Heap → Prop) : Prop :=
  ∃ r es clock, m = some r ∧ h[r]? = some (mobj kt vt es clock) ∧ KOk h kt k es ∧ ∀ h', h' = h.setIfInBounds r (mobj kt vt (mput kt k v es clock).1 (mput kt k v es clock).2) → K h'
def DelC (kt : LT) (vt : VT) (h : Heap) (m : Option Nat) (k : kt.den) (K : Heap → Prop) : Prop := match m with
  | none => K h
  | some r => ∃ es clock, h[r]? = some (mobj kt vt es clock) ∧ KOk h kt k es ∧ ∀ h', h' = h.setIfInBounds r (mobj kt vt (mdel kt k es) clock) → K h'
def EntC (kt : LT) (vt : VT) (z : List Lf) (h : Heap) (m : Option Nat) (k : kt.den) (K : List Lf → Nat → Heap → Prop) : Prop :=
  ∃ r es clock, m = some r ∧ h[r]? = some (mobj kt vt es clock) ∧ KOk h kt k es ∧ ExL vt.lts fun l => l = (ment kt k z es clock).1 ∧
    ∀ n h', n = (ment kt k z es clock).2.1 → h' = h.setIfInBounds r (mobj kt vt (ment kt k z es clock).2.2.1 (ment kt k z es clock).2.2.2) → K l n h'
def StoE (kt : LT) (vt : VT) (h : Heap) (m : Option Nat) (n : Int) (v : List Lf) (K : Heap → Prop) : Prop :=
  ∃ r es clock j, m = some r ∧ n = ((j : Nat) : Int) ∧ h[r]? = some (mobj kt vt es clock) ∧ (∃ e ∈ es, e.born = j) ∧ ∀ h', h' = h.setIfInBounds r (mobj kt vt (msto j v es) clock) → K h'
def NewM (h : Heap) (K : Nat → Heap → Prop) : Prop := ∀ b h', b = h.size → h' = h.push (.map #[] 0) → K b h'
def RngC (h : Heap) (m : Option Nat) (K : Nat → Heap → Prop) : Prop := match m with
  | none => ∀ b h', b = h.size → h' = h.push (.mapIter none 0 #[] 0) → K b h'
  | some r => ∃ es clock, h[r]? = some (.map es clock) ∧ ∀ b h', b = h.size → h' = h.push (.mapIter (some r) clock #[] clock) → K b h'
def NextC (kt : LT) (vt : VT) (h : Heap) (b : Nat) (over : Heap → Prop) (K : kt.den → List Lf → Heap → Prop) : Prop :=
  (∃ s seen c, h[b]? = some (.mapIter none s seen c) ∧ over h) ∨
  ∃ r since seen stepped es clock, h[b]? = some (.mapIter (some r) since seen stepped) ∧ h[r]? = some (mobj kt vt es clock) ∧ (∀ e ∈ es, e.born < since) ∧ since ≤ stepped ∧
    ((∀ e ∈ es, e.born ∈ seen) → over h) ∧ ∀ e ∈ es, ¬ e.born ∈ seen → ∀ h', h' = h.setIfInBounds b (.mapIter (some r) since (seen.push e.born) clock) → K e.key e.val h'
def CpyC (sz : Nat) (d s : Slc) (h : Heap) (K : Int → Heap → Prop) : Prop :=
  ∃ vs, srcAt h s.a (Nat.min s.len d.len * sz) vs ∧ (∀ v ∈ vs, v.oneCell' = true) ∧ (vs = [] ∨ (s.plain ∧ d.plain)) ∧ match d.a with
    | some (b, off) => (vs = [] → K ((Nat.min s.len d.len : Nat) : Int) h) ∧ (vs ≠ [] → StV h b off vs fun h' => K ((Nat.min s.len d.len : Nat) : Int) h')
    | none => K ((Nat.min s.len d.len : Nat) : Int) h
def decR (s : ByteArray) (pos : Nat) : Int := ((Utf8.decode s pos).1 : Int)
def decW (s : ByteArray) (pos : Nat) : Nat := (Utf8.decode s pos).2
def RngS (h : Heap) (s : ByteArray) (K : Nat → Heap → Prop) : Prop := ∀ b h', b = h.size → h' = h.push (.stringIter s 0) → K b h'
def NextS (h : Heap) (b : Nat) (over : Heap → Prop) (K : Int → Int → Heap → Prop) : Prop :=
  ∃ s pos, h[b]? = some (.stringIter s pos) ∧ (s.size ≤ pos → over h) ∧ (pos < s.size → ∀ h', h' = h.setIfInBounds b (.stringIter s (pos + decW s pos)) → K (pos : Int) (decR s pos) h')
def ClrC (zc : List Lf) (s : Slc) (h : Heap) (K : Heap → Prop) : Prop := match s.a with
  | none => K h
  | some (b, off) => (s.len = 0 → K h) ∧ (s.len ≠ 0 → s.plain ∧ StV h b off ((List.replicate s.len (zc.map Lf.val)).flatten) K)
def yv (l : Nat) : Value := .func (.yield l) #[] #[]

def RoundC (P : Program) (l : Nat) (args : List VV) (h : Heap) (vts : List VT) (R : Cur (lts vts) (Heap → Prop)) : Prop :=
  ∀ W, W.heap = h → ∃ f tmps assign body, (Instr.yield l (args.map VV.val).toArray).run P W = .ok (.round l f tmps assign body) W ∧
    RoundIn (FR none) 0 P l f tmps assign body W fun e W' => Out W W' ∧ ExL (lts vts) fun l => e = .returned (rets (shape vts l)) ∧ app (lts vts) R l fun p => p W'.heap

def CallF (P : Program) (v : Value) (args : List VV) (h : Heap) (vts : List VT) (R : Cur (lts vts) (Heap → Prop)) : Prop :=
  ∃ f first capt fn c, v = .func (.func f) (first.map VV.val).toArray (capt.map VV.val).toArray ∧ P.funcs[f]? = some fn ∧ fn.body = some c ∧ Call P f (first ++ args ++ capt) h vts R
def CallV (P : Program) (v : Value) (args : List VV) (h : Heap) (vts : List VT) (R : Cur (lts vts) (Heap → Prop)) : Prop :=
  CallF P v args h vts R ∨ ∃ l, v = yv l ∧ RoundC P l args h vts R

def lobj (lp : Loop) (s : LoopState) : Obj := .loop { lp with state := s, pending := none }
def LoopC (lp : Loop) (h : Heap) (K : Nat → Nat → Heap → Prop) : Prop :=
  ∀ D l h', D = h.size → l = D + 1 → lp.defers = D → h' = (h.push (.deferred (some []))).push (lobj lp .ready) → K D l h'
def LAt (h : Heap) (l : Nat) (lp : Loop) : Prop := h[l]? = some (lobj lp .ready)
def LBusy (h : Heap) (l : Nat) (lp : Loop) (K : Heap → Prop) : Prop := h[l]? = some (lobj lp .ready) ∧ ∀ h', h' = h.setIfInBounds l (lobj lp .busy) → K h'
def LReady (h : Heap) (l : Nat) (lp : Loop) (K : Heap → Prop) : Prop := h[l]? = some (lobj lp .busy) ∧ ∀ h', h' = h.setIfInBounds l (lobj lp .ready) → K h'
def LEnd (h : Heap) (l : Nat) (lp : Loop) (K : Heap → Prop) : Prop := h[l]? = some (lobj lp .ready) ∧ ∀ h', h' = h.setIfInBounds l (lobj lp .exhausted) → K h'
def CollC (h : Heap) (D : Nat) (K : Heap → Prop) : Prop := h[D]? = some (.deferred (some [])) ∧ ∀ h', h' = h.setIfInBounds D (.deferred none) → K h'

inductive Cond where
  | tt
  | cells (b off : Nat) (l : List Lf)
  | loc (id : Nat) (l : Loc)
  | obj (b : Nat) (o : Obj)
  | pred (X : Heap → Prop)

def Loc.obj (l : Loc) : Obj := .cells (l.cs.map Lf.val).toArray l.t (0, 0)

def Cond.holds : Cond → Heap → Prop
  | .tt, _ => True
  | .cells b off l, h => cellsAt h b off l
  | .loc _ l, h => h[l.b]? = some l.obj
  | .obj b o, h => h[b]? = some o
  | .pred X, h => X h

def Cond.chk : Cond → St → Heap → Prop
  | .tt, _, _ => True
  | .cells b off l, _, h => cellsAt h b off l
  | .loc id l, st, _ => match st.loc id with
    | some l' => match Nat.beq l.ver l'.ver with | true => True | false => False
    | none => False
  | .obj b o, _, h => h[b]? = some o
  | .pred X, _, h => X h

def bound (x : Option SV) (dflt most : Nat) (K : Nat → Prop) : Prop := match x with
  | none => K dflt
  | some (.v (.lf (.int _ i))) => 0 ≤ i ∧ i ≤ (most : Int) ∧ K i.toNat
  | some _ => False

def Slc.sub (s : Slc) (sz l hi m : Nat) : Slc :=
  @Slc.mk (if m = l then s.sp else if l * sz = 0 then s.sp else noSp) (if m = l then s.a else match s.a with | some (b, o) => some (b, o + l * sz) | none => none) (hi - l) (m - l)

theorem Slc.plain_more {s : Slc} (h : s.plain) (n : Nat) : (s.more n).plain := h
theorem Slc.plain_sub {s : Slc} (h : s.plain) (sz l hi m : Nat) : (s.sub sz l hi m).plain := by
  have h : @Sp.v s.sp = none := h
  show @Sp.v (if m = l then s.sp else if l * sz = 0 then s.sp else noSp) = none
  by_cases h1 : m = l
  · rw [if_pos h1]; exact h
  · rw [if_neg h1]
    by_cases h2 : l * sz = 0
    · rw [if_pos h2]; exact h
    · rw [if_neg h2]; rfl

def bytesAt (h : Heap) (s : Slc) (x : ByteArray) : Prop :=
  x.size = s.len ∧ (s.len = 0 ∨ ∃ b off, s.a = some (b, off) ∧ s.plain ∧ cellsAt h b off (x.data.toList.map fun c => .int .u8 c.toNat))

def svL (l : List Lf) (off n : Nat) : Option (List Lf) := match Nat.ble (off + n) l.length with
  | true => some ((l.drop off).take n)
  | false => none

end Go.V
set_option linter.unusedSimpArgs false
/-! The walk in a function's frame or in a round's: the fence that lets all in. -/
namespace Go.V

theorem callsIn_fr {ro : Option Nat} {n : Nat} {P : Program} {f : FuncId} {args : Array Value} {w : World} {R : Ending → World → Prop} : CallsIn (FR ro) n P f args w R ↔ Calls P f args w R :=
  callsIn_wide (n := n)

theorem fr_depth (ro : Option Nat) {X : Prop} : (FR ro).depth.isSome = true → X := fun h => by simp [FR, Fence.wide] at h

theorem semAt_run {ro : Option Nat} {ρ : Operand → Value} {o : Oper} {P : Program} {W : World} {res : Result Next} (h : (execOp ρ o).run P W = res) (hd : ∀ d w, res ≠ .ok (.defer d) w) :
    (o.semAt ro ρ).run P W = res := by
  unfold Oper.semAt
  split
  · rename_i l c hc
    have h' := h
    unfold execOp at h'
    rw [hc] at h'
    simp only [Sem.run_bind, Sem.run_pure] at h'
    cases hr : (resolve ρ c o.type).run P W with
    | ok d w =>
      rw [hr] at h'
      simp only [Result.andThen_ok] at h'
      exact absurd h'.symm (hd d w)
    | halt x w =>
      rw [hr] at h'
      simp only [Sem.run_bind, hr]
      rw [← h']
      rfl
  · exact h

theorem wpIn_of_run {ro : Option Nat} {P : Program} {o : Oper} {a : Act} {W : World} {K : Act → World → Prop} {Q : Exit → Act → World → Prop} {res : Result Next}
    (h : (execOp a.eval o).run P W = res) (hd : ∀ d w, res ≠ .ok (.defer d) w) (hu : o.uponIn (FR ro) 0 P a K Q res) : o.wpIn (FR ro) 0 P a W K Q := by
  refine ⟨fun _ _ => trivial, ?_⟩
  have : (o.semAt (FR ro).round a.eval).run P W = res := semAt_run h hd
  rw [this]; exact hu

theorem semAt_put {ops : Array Oper} (ro : Option Nat) (o : Oper) (hs : ∀ cs b, o.op ≠ .select cs b) (a : Act) (dst : Option Tmp) (v : Value) (h : ∀ d, dst = some d → d ∉ o.looksAt ops) :
    o.semAt ro (a.put dst v).eval = o.semAt ro a.eval := by
  unfold Oper.semAt
  split
  · rename_i l c hc
    have e := resolve_congr (ρ := (a.put dst v).eval) (ρ' := a.eval) c o.type (fun x hx => Act.eval_put fun d hd hxd => h d hd (by
      subst hxd
      exact List.mem_append_left _ (List.mem_filterMap.2 ⟨.tmp d, by rw [hc]; simpa [Op.operands] using hx, rfl⟩)))
    rw [e]
  · exact execOp_put o hs a dst v h

section
variable {ro : Option Nat} {P : Program} {ops : Array Oper} {Q : Exit → Act → World → Prop} {S : World → Prop}

theorem yields_wpOpF {i : Nat} {o : Oper} {v : Value} {a : Act} (hi : ops[i]? = some o) (hy : YieldsIf P ops S o v a)
    {K : Act → World → Prop} {w : World} (hS : S w) (h : K (a.put o.dst v) w) : wpOpIn (FR ro) 0 P ops Q i K a w := by
  unfold Go.wpOpIn
  simp only [hi]
  rcases hy with ⟨hw, hv⟩ | ⟨hw, rfl⟩
  · simp only [hw, if_true]; exact wpIn_of_run (hv w hS) (fun _ _ e => by cases e) h
  · simp only [hw, Bool.false_eq_true, if_false]; exact ⟨fun _ _ => trivial, h⟩

theorem wpOpF_putIf {j : Nat} {oi oj : Oper} {v : Value} (hj : ops[j]? = some oj) (hap : oi.apart ops oj = true)
    (hsi : ∀ cs b, oi.op ≠ .select cs b) (hsj : ∀ cs b, oj.op ≠ .select cs b)
    (hQ : ∀ c a w, Q (.panic c) (a.put oi.dst v) w → Q (.panic c) a w) {K : Act → World → Prop} {a : Act} {w : World}
    (hy : YieldsIf P ops S oi v a) (h : wpOpIn (FR ro) 0 P ops Q j K (a.put oi.dst v) w) :
    wpOpIn (FR ro) 0 P ops Q j (fun a' w' => YieldsIf P ops S oi v a' ∧ K (a'.put oi.dst v) w') a w := by
  obtain ⟨h1, h2, h3⟩ := Oper.apart_spec hap
  have keep : ∀ (a : Act), YieldsIf P ops S oi v a → ∀ u, YieldsIf P ops S oi v (a.put oj.dst u) := fun a hy u =>
    hy.of_same (execOp_put oi hsi a oj.dst u h3) (wanted_put oi a oj.dst u h3)
  have keepD : ∀ d, YieldsIf P ops S oi v { a with defers := d :: a.defers } := fun d => hy.of_same rfl rfl
  unfold wpOpIn at *
  simp only [hj] at *
  rw [wanted_put oj a oi.dst v h1] at h
  split
  · rename_i hw
    simp only [hw, if_true] at h
    unfold Oper.wpIn at *
    refine ⟨fun _ _ => trivial, ?_⟩
    have h := h.2
    rw [semAt_put (ops := ops) _ oj hsj a oi.dst v h1] at h
    generalize (oj.semAt (FR ro).round a.eval).run P w = r at *
    cases r with
    | ok n w' =>
      cases n <;> simp only [Oper.uponIn] at h ⊢
      case value u => exact ⟨keep a hy u, by rw [← Act.put_comm a v u h2]; exact h⟩
      case skip => exact ⟨keep a hy _, by rw [← Act.put_comm a v undef h2]; exact h⟩
      case defer d =>
        refine ⟨keep _ (keepD d) _, ?_⟩
        rw [← Act.put_comm _ v undef h2, ← Act.put_defers]
        exact h
      case enter f args =>
        refine ⟨h.1, CallsIn.mono h.2 fun e w'' he => ?_⟩
        cases e with
        | returned u => exact ⟨keep a hy u, by rw [← Act.put_comm a v u h2]; exact he⟩
        | panicked c => exact hQ _ _ _ he
        | outgrown => exact he
      case row row args => exact ⟨h.1, RowsIn.mono h.2 fun u w'' he => ⟨keep a hy u, by rw [← Act.put_comm a v u h2]; exact he⟩⟩
      case round l f tmps assign body =>
        refine ⟨h.1, RoundIn.mono h.2 fun e w'' he => ?_⟩
        cases e with
        | returned u => exact ⟨keep a hy u, by rw [← Act.put_comm a v u h2]; exact he⟩
        | panicked c => exact hQ _ _ _ he
        | outgrown => exact he
    | halt x w' =>
      cases x <;> simp only [Oper.uponIn] at h ⊢
      case panic u => exact hQ _ _ _ h
  · rename_i hw
    simp only [hw] at h
    exact ⟨fun _ _ => trivial, keep a hy _, by rw [← Act.put_comm a v undef h2]; exact h.2⟩

end

end Go.V
namespace Go.V

def SV.vv : SV → Option VV
  | .v x => some x
  | _ => none

def vvs : List SV → Option (List VV)
  | [] => some []
  | .v x :: l => match vvs l with | some r => some (x :: r) | none => none
  | _ :: _ => none

def opt {α : Type} (o : Option α) (K : α → Prop) : Prop := match o with
  | some x => K x
  | none => False

def fieldVT (P : Program) (s : TypeId) (i : Nat) : Option (Nat × VT) := match P.underlying s with
  | some (.struct fs) => match fs[i]? with
    | some f => match vtOf P f.type with
      | some vt => some (f.offset, vt)
      | none => none
    | none => none
  | _ => none

def okIf (b : Bool) (X : Prop) : Prop := match b with | true => X | false => False

def vcSCall (P : Program) (c : Go.Call) (st : St) (h : Heap) (K : SV → Cond → Prop) : Prop :=
  match c.callee, c.args.toList, c.argTypes.toList with
  | .builtin .len, [x], [t] => (match P.underlying t, st.ev x with
    | some .string, .v (.lf (.str s)) => K (.v (.lf (.int .i64 s.size))) .tt
    | some (.slice _), .v (.lf (.slc s)) => K (.v (.lf (.int .i64 s.len))) .tt
    | some (.map _ _), .v (.lf (.map m)) => ∃ n : Int, LenR h m n ∧ K (.v (.lf (.int .i64 n))) (.pred fun h => LenR h m n)
    | _, _ => False)
  | .builtin .cap, [x], [t] => (match P.underlying t, st.ev x with
    | some (.slice _), .v (.lf (.slc s)) => K (.v (.lf (.int .i64 s.cap))) .tt
    | _, _ => False)
  | .builtin .max, [x, y], _ => (match st.ev x, st.ev y with
    | .v (.lf (.int k a)), .v (.lf (.int _ b)) => K (.v (.lf (.int k (if b > a then b else a)))) .tt
    | _, _ => False)
  | .builtin .min, [x, y], _ => (match st.ev x, st.ev y with
    | .v (.lf (.int k a)), .v (.lf (.int _ b)) => K (.v (.lf (.int k (if b < a then b else a)))) .tt
    | _, _ => False)
  | _, _, _ => False

def splice (cs : List Lf) (off : Nat) (xs : List Lf) : Option (List Lf) :=
  match Nat.ble (off + xs.length) cs.length with
  | true => some (cs.take off ++ (xs ++ cs.drop (off + xs.length)))
  | false => none

def buildCells (P : Program) (t : TypeId) : List (Nat × SV) → List Lf → Option (List Lf)
  | [], cs => some cs
  | (i, .v x) :: r, cs => match fieldVT P t i with
    | some (off, vt) => (match Nat.beq x.cells.length vt.lts.length, splice cs off x.cells with
      | true, some cs' => buildCells P t r cs'
      | _, _ => none)
    | none => none
  | _, _ => none

def structOk (P : Program) (t : TypeId) : Bool := match P.underlying t with
  | some (.struct fs) => fs.toList.all fun f => known P f.type
  | _ => false

def keyKind (P : Program) (t : TypeId) : Option LT := match P.underlying t with
  | some (.int k) => some (.int k)
  | some .string => some .str
  | some .bool => some .bool
  | some (.pointer e) => (match szOf P e with | 0 => none | _ + 1 => some .ptr)
  | _ => none

def isDefer (o : Oper) : Bool := match o.op with
  | .defer _ => true
  | _ => false

def isConst : Operand → Bool
  | .const _ => true
  | _ => false

def vcBin (P : Program) (op : BinOp) (t : TypeId) (x y : SV) (yc : Bool) (h : Heap) (K : SV → Cond → Prop) : Prop := match x, y with
  | .v (.lf (.raw a)), .v (.lf (.raw b)) => (match P.underlying t with
    | some (.interface ms) => ∃ r : Bool, IfEq P a b (yc || ms.isEmpty) r ∧ eqlTest op r fun r => K (.v (.lf r)) .tt
    | _ => False)
  | x, y => (match yc with
    | true => bin P op t x y fun r => K (.v (.lf r)) .tt
    | false => match x, y with
      | .v (.lf (.ptr a)), .v (.lf (.ptr b)) => (match P.underlying t with
        | some (.pointer e) => (match szOf P e with
          | 0 => False
          | _ + 1 => PEq h a b ∧ eqlTest op (ptrEq a b) fun r => K (.v (.lf r)) (.pred fun h => PEq h a b))
        | _ => False)
      | x, y => bin P op t x y fun r => K (.v (.lf r)) .tt)

def mapT (P : Program) (t : TypeId) (K : LT → VT → List Lf → Prop) : Prop := match P.underlying t with
  | some (.map kT eT) => opt (keyKind P kT) fun kt => opt (vtOf P eT) fun vt => opt (zeroOf P eT) fun z => K kt vt z.cells
  | _ => False

def vcS (P : Program) (o : Oper) (st : St) (h : Heap) (K : SV → Cond → Prop) : Prop :=
  match o.op with
  | .move x | .assign x => K (st.ev x) .tt
  | .pick c a b => match st.ev c with
    | .v (.lf (.bool bb)) => Br bb (K (st.ev a) .tt) (K (st.ev b) .tt)
    | _ => False
  | .nilCheck x => match st.ev x with
    | .loc i off => opt (st.loc i) fun _ => K (.loc i off) .tt
    | .v (.lf (.ptr p)) => NilC p fun b off => K (.v (.lf (.ptr (some (b, off))))) .tt
    | _ => False
  | .fieldAddr s x f => opt (fieldOff P s f) fun fo => match st.ev x with
    | .loc i off => opt (st.loc i) fun _ => K (.loc i (off + fo)) .tt
    | .v (.lf (.ptr (some (b, off)))) => K (.v (.lf (.ptr (some (b, off + fo))))) .tt
    | _ => False
  | .field t x f => match st.ev x with
    | .v (.agg l) => opt (fieldVT P t f) fun (off, vt) => opt (svL l off vt.lts.length) fun cs => K (.v (vt.put cs)) .tt
    | _ => False
  | .indexAddr t x i => match st.ev x, st.ev i, P.underlying t with
    | .v (.lf (.slc s)), .v (.lf (.int _ n)), some (.slice e) => (match known P e with | true => IxC s n (szOf P e) fun b off => K (.v (.lf (.ptr (some (b, off))))) .tt | false => False)
    | .v (.lf (.ptr (some (b, off)))), .v (.lf (.int _ n)), some (.array len e) => (match known P e with | true => 0 ≤ n ∧ n < (len : Int) ∧ K (.v (.lf (.ptr (some (b, off + n.toNat * szOf P e))))) .tt | false => False)
    | _, _, _ => False
  | .index t x i => match st.ev x, st.ev i, P.underlying t with
    | .v (.lf (.str s)), .v (.lf (.int _ n)), some .string => 0 ≤ n ∧ n < (s.size : Int) ∧ K (.v (.lf (.int .u8 (bt s n)))) .tt
    | _, _, _ => False
  | .load t x => opt (vtOf P t) fun vt => match st.ev x with
    | .loc i off => opt (st.loc i) fun l => opt (svL l.cs off vt.lts.length) fun cs => K (.v (vt.put cs)) (.loc i l)
    | .v (.lf (.ptr (some (b, off)))) => ExL vt.lts fun l => cellsAt h b off l ∧ K (.v (vt.put l)) (.cells b off l)
    | _ => False
  | .binOp op t x y _ => vcBin P op t (st.ev x) (st.ev y) (isConst y) h K
  | .unOp op _ x => match op, st.ev x with
    | .neg, .v (.lf (.int k n)) => K (.v (.lf (.int k (k.wrap (0 - n))))) .tt
    | .xor, .v (.lf (.int k n)) => K (.v (.lf (.int k (bitop k .xor (if k.signed then -1 else k.max) n)))) .tt
    | .not, .v (.lf (.bool b)) => K (.v (.lf (.bool (!b)))) .tt
    | _, _ => False
  | .convert src dst x => match P.underlying src, P.underlying dst, st.ev x with
    | some _, some (.int k), .v (.lf (.int _ n)) => K (.v (.lf (.int k (k.wrap n)))) .tt
    | some _, some .string, .v (.lf (.str s)) => K (.v (.lf (.str s))) .tt
    | some (.slice e), some .string, .v (.lf (.slc s)) => (match P.underlying e with
      | some (.int .u8) => ∃ x : ByteArray, bytesAt h s x ∧ K (.v (.lf (.str x))) (match s.a with | some (b, off) => .cells b off (x.data.toList.map fun c => .int .u8 c.toNat) | none => .tt)
      | _ => False)
    | _, _, _ => False
  | .extract t i => match st.ev t with
    | .tup l => opt l[i]? fun x => K (.v x) .tt
    | _ => False
  | .slice t x lo hi mx => match st.ev x, P.underlying t with
    | .v (.lf (.slc s)), some (.slice e) => (match known P e with
      | true => bound (mx.map st.ev) s.cap s.cap fun m => bound (hi.map st.ev) s.len m fun h' => bound (lo.map st.ev) 0 h' fun l => match mx, hi with | some _, none => False | _, _ => K (.v (.lf (.slc (s.sub (szOf P e) l h' m)))) .tt
      | false => False)
    | .v (.lf (.ptr (some (b, off)))), some (.array n e) => (match known P e, mx with
      | true, none => bound (hi.map st.ev) n n fun h' => bound (lo.map st.ev) 0 h' fun l => K (.v (.lf (.slc ((Slc.mk (some (b, off)) n n).sub (szOf P e) l h' n)))) .tt
      | _, _ => False)
    | .v (.lf (.str s)), some .string => (match mx with
      | none => bound (hi.map st.ev) s.size s.size fun h' => bound (lo.map st.ev) 0 h' fun l => K (.v (.lf (.str (s.extract l h')))) .tt
      | some _ => False)
    | _, _ => False
  | .makeInterface t x => match P.underlying t, st.ev x with
    | some (.interface _), _ => False
    | some _, .v x => K (.v (.lf (.raw (.iface t x.val)))) .tt
    | _, _ => False
  | .call c => vcSCall P c st h K
  | .build t ps => match structOk P t with
    | true => opt (zeroOf P t) fun z => opt (buildCells P t (ps.toList.map fun p => (p.1, st.ev p.2)) z.cells) fun cs => K (.v (.agg cs)) .tt
    | false => False
  | .lookup t x i ok => mapT P t fun kt vt z => match st.ev x, st.ev i with
    | .v (.lf (.map m)), .v (.lf k) => opt (kt.get k) fun d => ExL vt.lts fun l => ∃ f : Bool, LookR h kt vt z m d l f ∧
        K (match ok with | true => .tup [vt.put l, .lf (.bool f)] | false => .v (vt.put l)) (.pred fun h => LookR h kt vt z m d l f)
    | _, _ => False
  | .typeAssert x _ want ok => (match P.underlying want with
    | some (.interface _) => False
    | some _ => (match st.ev x with
      | .v (.lf (.raw (.iface t v))) => (match Nat.beq t want with
        | true => okIf v.oneCell' (K (match ok with | true => .tup [.lf (Lf.ofVal v), .lf (.bool true)] | false => .v (.lf (Lf.ofVal v))) .tt)
        | false => (match ok with | true => opt (zeroOf P want) fun z => K (.tup [z, .lf (.bool false)]) .tt | false => False))
      | .v (.lf (.raw .nilIface)) => (match ok with | true => opt (zeroOf P want) fun z => K (.tup [z, .lf (.bool false)]) .tt | false => False)
      | _ => False)
    | none => False)
  | .makeFunc f first capt => match f with
    | .func g => opt (vvs (first.toList.map st.ev)) fun a => opt (vvs (capt.toList.map st.ev)) fun c => K (.v (.lf (.raw (.func (.func g) (a.map VV.val).toArray (c.map VV.val).toArray)))) .tt
    | _ => False
  | _ => False

def stillB (P : Program) (o : Oper) : Bool :=
  match o.op with
  | .move _ | .assign _ | .pick .. | .nilCheck _ | .fieldAddr .. | .field .. | .indexAddr .. | .index .. | .load .. | .binOp .. | .unOp .. | .extract .. | .slice .. | .makeInterface .. | .build .. | .lookup .. | .makeFunc .. | .typeAssert .. => true
  | .convert _ dst _ => match P.underlying dst with | some (.slice _) => false | _ => true
  | .call c => (match c.callee with | .builtin .len => true | .builtin .cap => true | .builtin .max => true | .builtin .min => true | _ => false)
  | _ => false

structure JSpec where
  slots : List (Nat × VT)
  locs : List (Nat × List LT)
  drop : List Nat

inductive DPlan where
  | done
  | still (i : Nat) (rest : DPlan)
  | mem (i : Nat) (rest : DPlan)
  | alt (i : Nat) (rest other : DPlan)

structure Plan where
  blk : Nat → Option JSpec
  seq : Nat → Option JSpec
  loop : Nat → Option JSpec
  live : Nat → Option (List Nat)
  track : Nat → Bool
  draw : Nat → DPlan
  iter : Nat → Option TypeId
  yt : Nat → Option (List VT) := fun _ => none
  pan : Nat → Bool := fun _ => false

def locBs : List (Option Loc) → List Nat
  | [] => []
  | some l :: r => l.b :: locBs r
  | none :: r => locBs r

def partsOf (sz : Nat) : Nat → List (Nat × SV) → Option (List Lf)
  | _, [] => some []
  | i, (j, .v x) :: r => match Nat.beq i j && Nat.beq x.cells.length sz with
    | true => match partsOf sz (i + 1) r with | some l => some (x.cells ++ l) | none => none
    | false => none
  | _, _ => none

def vtsOf (P : Program) : List TypeId → Option (List VT)
  | [] => some []
  | t :: ts => match vtOf P t with
    | some v => match vtsOf P ts with | some r => some (v :: r) | none => none
    | none => none

def retSV : List VV → SV
  | [x] => .v x
  | l => .tup l

def callee (st : St) : Operand → Option (FuncId × List VV × List VV)
  | .func f => some (f, [], [])
  | _ => none

def keepC (h h' : Heap) (l : List Nat) (X : Prop) : Prop := match l with
  | [] => X
  | l => keepB h h' l ∧ X

def vcAppend (P : Program) (t u : TypeId) (a x : SV) (st : St) (h : Heap) (K : SV → St → Heap → Prop) : Prop :=
  match P.underlying t, P.underlying u, a, x with
  | some (.slice e), some (.slice _), .v (.lf (.slc s)), .v (.lf (.slc s')) => opt (zeroOf P e) fun z =>
      AppC e z.cells (szOf P e) (bytesOf P e) s s' h fun r h' => keepC h h' (locBs st.ls) (K (.v (.lf (.slc r))) st h')
  | some (.slice e), some .string, .v (.lf (.slc s)), .v (.lf (.str s')) => (match P.underlying e, zeroOf P e with
    | some (.int .u8), some z => AppV e (z.cells.map Lf.val) (szOf P e) (bytesOf P e) s s'.size (s'.data.toList.map fun c => Value.int .u8 c.toNat) h fun r h' => keepC h h' (locBs st.ls) (K (.v (.lf (.slc r))) st h')
    | _, _ => False)
  | some (.slice e), some (.int _), .v (.lf (.slc s)), .v (.lf (.int _ n)) => opt (zeroOf P e) fun z =>
      AppZ e z.cells (szOf P e) (bytesOf P e) s n h fun r h' => keepC h h' (locBs st.ls) (K (.v (.lf (.slc r))) st h')
  | _, _, _, _ => False

def asVT : VT → List Lf → Option VV
  | .one _, [x] => some (.lf x)
  | .one _, _ => none
  | .agg ts, l => match Nat.beq l.length ts.length with | true => some (.agg l) | false => none

def vvIs : VT → VV → Bool
  | .one _, .lf _ => true
  | .agg _, .agg _ => true
  | _, _ => false

def retTypes (P : Program) (t : TypeId) : Option (List VT) := match P.underlying t with
  | some (.tuple ts) => vtsOf P ts.toList
  | _ => match vtOf P t with | some v => some [v] | none => none

def vcMCall (P : Program) (pl : Plan) (ty : TypeId) (c : Go.Call) (st : St) (h : Heap) (K : SV → St → Heap → Prop) (Qp : List PanicEntry → St → Heap → Prop) : Prop :=
  match c.callee with
  | .builtin .append => (match c.args.toList, c.argTypes.toList with
    | [a, x], [t, u] => vcAppend P t u (st.ev a) (st.ev x) st h K
    | _, _ => False)
  | .builtin .delete => (match c.args.toList, c.argTypes.toList with
    | [x, i], [t, _] => mapT P t fun kt vt z => (match st.ev x, st.ev i with
      | .v (.lf (.map m)), .v (.lf k) => opt (kt.get k) fun d => DelC kt vt h m d fun h' => K (.tup []) st h'
      | _, _ => False)
    | _, _ => False)
  | .builtin .copy => (match c.args.toList, c.argTypes.toList with
    | [x, y], [t, u] => (match P.underlying t, P.underlying u, st.ev x, st.ev y with
      | some (.slice e), some (.slice _), .v (.lf (.slc d)), .v (.lf (.slc s)) => (match known P e with
        | true => CpyC (szOf P e) d s h fun n h' => keepC h h' (locBs st.ls) (K (.v (.lf (.int .i64 n))) st h')
        | false => False)
      | _, _, _, _ => False)
    | _, _ => False)
  | .builtin .clear => (match c.args.toList, c.argTypes.toList with
    | [x], [t] => (match P.underlying t, st.ev x with
      | some (.slice e), .v (.lf (.slc s)) => opt (zeroOf P e) fun z => ClrC z.cells s h fun h' => keepC h h' (locBs st.ls) (K (.tup []) st h')
      | _, _ => False)
    | _, _ => False)
  | .value (.tmp t) => (match st.get t with
    | .v (.lf (.raw v)) => opt (vvs (c.args.toList.map st.ev)) fun vs => opt (retTypes P ty) fun vts =>
        CallV P v vs h vts (lam (lts vts) fun l h' => keepC h h' (locBs st.ls) (K (retSV (shape vts l)) st h'))
    | _ => False)
  | .value f => opt (callee st f) fun (f, first, capt) => opt P.funcs[f]? fun fn =>
      (match fn.body with
      | some _ => opt (vvs (c.args.toList.map st.ev)) fun vs => opt (vtsOf P fn.resultTypes.toList) fun vts => (match pl.pan f with
        | false => Call P f (first ++ vs ++ capt) h vts (lam (lts vts) fun l h' => keepC h h' (locBs st.ls) (K (retSV (shape vts l)) st h'))
        | true => CallP P f (first ++ vs ++ capt) h vts (lam (lts vts) fun l h' => keepC h h' (locBs st.ls) (K (retSV (shape vts l)) st h'))
            fun t v h' => keepC h h' (locBs st.ls) (Qp [{ v := .iface t v, recovered := false }] st h'))
      | none => False)
  | _ => False

def vcM (P : Program) (pl : Plan) (o : Oper) (st : St) (h : Heap) (K : SV → St → Heap → Prop) (Qp : List PanicEntry → St → Heap → Prop) : Prop :=
  match o.op with
  | .alloc e => opt (zeroOf P e) fun z => New e z.cells h fun b h' => match pl.track (o.dst.getD 0) with
    | true => K (.loc st.ls.length 0) { st with ls := st.ls ++ [some ⟨b, e, z.cells, 0⟩] } h'
    | false => K (.v (.lf (.ptr (some (b, 0))))) st h'
  | .box e x => match st.ev x with
    | .v z => New e z.cells h fun b h' => (match pl.track (o.dst.getD 0) with
      | true => K (.loc st.ls.length 0) { st with ls := st.ls ++ [some ⟨b, e, z.cells, 0⟩] } h'
      | false => K (.v (.lf (.ptr (some (b, 0))))) st h')
    | _ => False
  | .store t a x => match st.ev x with
    | .v z => (match known P t && Nat.beq z.cells.length (szOf P t) with
      | true => (match st.ev a with
        | .loc i off => opt (st.loc i) fun l => opt (splice l.cs off z.cells) fun cs => Set l.b l.t cs h fun h' =>
            K .unk { st with ls := st.ls.set i (some ⟨l.b, l.t, cs, l.ver + 1⟩) } h'
        | .v (.lf (.ptr (some (b, off)))) => StC h b off z.cells fun h' => keepC h h' (locBs st.ls) (K .unk st h')
        | _ => False)
      | false => False)
    | _ => False
  | .buildSlice t n parts => match P.underlying t with
    | some (.slice e) => (match known P e && Nat.ble (n * szOf P e) 16777216 && Nat.beq parts.toList.length n with
      | true => opt (partsOf (szOf P e) 0 (parts.toList.map fun (i, x) => (i, st.ev x))) fun cs => opt (zeroOf P e) fun _ => New e cs h fun b h' => K (.v (.lf (.slc ⟨some (b, 0), n, n⟩))) st h'
      | false => False)
    | _ => False
  | .makeSlice t l c => match P.underlying t, st.ev l, st.ev c with
    | some (.slice e), .v (.lf (.int _ len)), .v (.lf (.int _ cap)) => opt (zeroOf P e) fun z => MkC e z.cells (szOf P e) (bytesOf P e) len cap h fun s h' => K (.v (.lf (.slc s))) st h'
    | _, _, _ => False
  | .convert src dst x => match P.underlying src, P.underlying dst, st.ev x with
    | some .string, some (.slice e), .v (.lf (.str s)) => (match P.underlying e with
      | some (.int .u8) => S2B e s h fun s h' => K (.v (.lf (.slc s))) st h'
      | _ => False)
    | some (.slice _), some (.slice e), .v (.lf (.slc s)) => (match Nat.beq src dst, P.underlying e with
      | true, some (.int .u8) => MarkC h s.a fun h' => keepC h h' (locBs st.ls) (K (.v (.lf (.slc s))) st h')
      | _, _ => False)
    | _, _, _ => False
  | .call c => vcMCall P pl o.type c st h K Qp
  | .defer c => (match c.callee, c.args.toList with
    | .value (.tmp t), [] => (match st.get t with
      | .v (.lf (.raw (.func (.func f) first capt))) => K .unk { st with ds := ⟨.fn (.func f) capt, first⟩ :: st.ds } h
      | _ => False)
    | _, _ => False)
  | .makeMap t none => NewM h fun b h' => K (.v (.lf (.map (some b)))) st h'
  | .makeMap t (some x) => (match P.underlying t, st.ev x with
    | some (.map _ _), .v (.lf (.int _ _)) => NewM h fun b h' => K (.v (.lf (.map (some b)))) st h'
    | _, _ => False)
  | .mapUpdate t x i y => mapT P t fun kt vt z => (match st.ev x, st.ev i, st.ev y with
    | .v (.lf (.map m)), .v (.lf k), .v v => opt (kt.get k) fun d => okIf (vvIs vt v) (UpdC kt vt h m d v.cells fun h' => K .unk st h')
    | _, _, _ => False)
  | .mapEntry t x i => mapT P t fun kt vt z => (match st.ev x, st.ev i with
    | .v (.lf (.map m)), .v (.lf k) => opt (kt.get k) fun d => EntC kt vt z h m d fun l n h' => K (.tup [vt.put l, .lf (.int .i64 n)]) st h'
    | _, _ => False)
  | .entryStore t x i y => mapT P t fun kt vt z => (match st.ev x, st.ev i, st.ev y with
    | .v (.lf (.map m)), .v (.lf (.int _ n)), .v v => okIf (vvIs vt v) (StoE kt vt h m n v.cells fun h' => K .unk st h')
    | _, _, _ => False)
  | .range t x => (match st.ev x with
    | .v (.lf (.map m)) => mapT P t fun kt vt z => RngC h m fun b h' => K (.v (.lf (.ptr (some (b, 0))))) st h'
    | .v (.lf (.str s)) => (match P.underlying t with
      | some .string => RngS h s fun b h' => K (.v (.lf (.ptr (some (b, 0))))) st h'
      | _ => False)
    | _ => False)
  | .next x isStr => (match isStr, x with
    | false, .tmp i => opt (pl.iter i) fun t => mapT P t fun kt vt z => (match st.ev x with
      | .v (.lf (.ptr (some (b, 0)))) => NextC kt vt h b (fun h' => K (.tup [.lf (.bool false)]) st h') (fun k l h' => K (.tup [.lf (.bool true), .lf (kt.mk k), vt.put l]) st h')
      | _ => False)
    | true, .tmp _ => (match st.ev x with
      | .v (.lf (.ptr (some (b, 0)))) => NextS h b (fun h' => K (.tup [.lf (.bool false)]) st h') (fun i c h' => K (.tup [.lf (.bool true), .lf (.int .i64 i), .lf (.int .i32 c)]) st h')
      | _ => False)
    | _, _ => False)
  | .entry x => (match x with
    | .tmp i => opt (pl.iter i) fun t => mapT P t fun kt vt z => (match st.ev x with
      | .v (.lf (.ptr (some (b, 0)))) => ∃ k : kt.den, ExL vt.lts fun l => EntryR h b kt vt k l ∧ K (.tup [.lf (kt.mk k), vt.put l]) st h
      | _ => False)
    | _ => False)
  | .panic x => match st.ev x with
    | .v (.lf (.raw (.iface t v))) => Qp [{ v := .iface t v, recovered := false }] st h
    | _ => False
  | _ => False

def vcOp (P : Program) (pl : Plan) (o : Oper) (st : St) (h : Heap) (K : St → Heap → Prop) (Qp : List PanicEntry → St → Heap → Prop) : Prop :=
  match stillB P o with
  | true => vcS P o st h fun s _ => K (st.put o.dst s) h
  | false => vcM P pl o st h (fun s st' h' => K (st'.put o.dst s) h') Qp

def dstAt (ops : List Oper) (j : Nat) : Option Nat := match ops[j]? with
  | some o => o.dst
  | none => none

def vcG (P : Program) (pl : Plan) (ops : List Oper) (o : Oper) (run : St → Prop) (skip : St → Prop) (st : St) : Prop :=
  match o.guard with
  | none => run st
  | some (j, want) => match dstAt ops j with
    | none => False
    | some d => match st.get d with
      | .v (.lf (.bool b)) =>
        let st1 := fun c => { st with f := st.f.set d (.v (.lf (.bool c))) }
        match want with
        | true => Br b (run (st1 true)) (skip (st1 false))
        | false => Br b (skip (st1 true)) (run (st1 false))
      | .tup _ => skip st
      | _ => False

def vcOps (P : Program) (pl : Plan) (ops : List Oper) (Qp : List PanicEntry → St → Heap → Prop) (K : St → Heap → Prop) : List Oper → St → Heap → Prop
  | [], st, h => K st h
  | o :: rest, st, h => vcG P pl ops o (fun st => vcOp P pl o st h (vcOps P pl ops Qp K rest) Qp) (fun st => vcOps P pl ops Qp K rest (st.put o.dst (.tup [])) h) st

def waitsB (ops : Array Oper) (j i : Nat) : Bool := ((Region.before ops).getD j 0).testBit i

def conds (ops : Array Oper) (j : Nat) (st : St) (h : Heap) : List (Nat × Cond) → (List (Nat × Cond) → Prop) → Prop
  | [], K => K []
  | (i, c) :: l, K => match waitsB ops j i with
    | true => conds ops j st h l K
    | false => match c with
      | .tt => conds ops j st h l K
      | .cells b off x => cellsAt h b off x ∧ conds ops j st h l fun r => K ((i, .cells b off x) :: r)
      | .obj b o => h[b]? = some o ∧ conds ops j st h l fun r => K ((i, .obj b o) :: r)
      | .pred X => X h ∧ conds ops j st h l fun r => K ((i, .pred X) :: r)
      | .loc id x => match st.loc id with
        | some x' => (match Nat.beq x.ver x'.ver with | true => conds ops j st h l fun r => K ((i, .loc id x) :: r) | false => False)
        | none => False

def readyIs (ops : Array Oper) (listed : Array Bool) (l : List Nat) : Bool := Region.ready .any ops listed == l

def mayFirst (ops : Array Oper) (listed : Array Bool) (i : Nat) : Bool := (Region.ready .any ops listed).contains i && Region.free .any ops listed i

def vcDraw (P : Program) (pl : Plan) (ops : Array Oper) (Qp : List PanicEntry → St → Heap → Prop) (K : St → Heap → Prop) :
    DPlan → List Nat → Array Bool → List (Nat × Cond) → St → Heap → Prop
  | .done, _, listed, _, st, h => match readyIs ops listed [] with | true => K st h | false => False
  | .still i rest, _, listed, C, st, h => match mayFirst ops listed i with
    | true => opt ops[i]? fun o => match stillB P o with
      | true => vcG P pl ops.toList o
          (fun st => vcS P o st h fun s c => vcDraw P pl ops Qp K rest [] (listed.setIfInBounds i true) ((i, c) :: C) (st.put o.dst s) h)
          (fun st => vcDraw P pl ops Qp K rest [] (listed.setIfInBounds i true) C (st.put o.dst (.tup [])) h) st
      | false => False
    | false => False
  | .mem i rest, seen, listed, C, st, h => match readyIs ops listed (seen.reverse ++ [i]) with
    | true => opt ops[i]? fun o => vcG P pl ops.toList o
          (fun st => vcOp P pl o st h (fun st' h' => conds ops i st' h' C fun C' => vcDraw P pl ops Qp K rest [] (listed.setIfInBounds i true) C' st' h') Qp)
          (fun st => conds ops i st h C fun C' => vcDraw P pl ops Qp K rest [] (listed.setIfInBounds i true) C' (st.put o.dst (.tup [])) h) st
    | false => False
  | .alt i rest other, seen, listed, C, st, h =>
    (opt ops[i]? fun o => vcG P pl ops.toList o
          (fun st => vcOp P pl o st h (fun st' h' => conds ops i st' h' C fun C' => vcDraw P pl ops Qp K rest [] (listed.setIfInBounds i true) C' st' h') Qp)
          (fun st => conds ops i st h C fun C' => vcDraw P pl ops Qp K rest [] (listed.setIfInBounds i true) C' (st.put o.dst (.tup [])) h) st)
    ∧ vcDraw P pl ops Qp K other (i :: seen) listed C st h

def pruneF (keep : List Nat) : Nat → List SV → List SV
  | _, [] => []
  | i, x :: l => (match keep.contains i with | true => x | false => .unk) :: pruneF keep (i + 1) l

def usesLoc (id : Nat) : List SV → Bool
  | [] => false
  | .loc i _ :: l => Nat.beq i id || usesLoc id l
  | _ :: l => usesLoc id l

def pruneL (f : List SV) : Nat → List (Option Loc) → List (Option Loc)
  | _, [] => []
  | i, o :: l => (match usesLoc i f with | true => o | false => none) :: pruneL f (i + 1) l

def St.prune (st : St) (keep : Option (List Nat)) : St := match keep with
  | none => st
  | some k => let f := pruneF k 0 st.f
    { st with f := f, ls := pruneL f 0 st.ls }

def dsts (ops : List Oper) : List Nat := ops.filterMap fun o => o.dst

def writes : Code → List Nat
  | .region _ ops _ => dsts ops.toList
  | .seq a b => writes a ++ writes b
  | .cond _ a b => writes a ++ writes b
  | .block _ c => writes c
  | .loop c => writes c
  | _ => []

def firstId : Code → Option Nat
  | .region id _ _ => some id
  | .seq a b => match firstId a with | some i => some i | none => firstId b
  | .cond _ a b => match firstId a with | some i => some i | none => firstId b
  | .block _ c => firstId c
  | .loop c => firstId c
  | .scope c => firstId c
  | _ => none

def specAt (f : Nat → Option JSpec) : Option Nat → Option JSpec
  | some i => f i
  | none => none

def slotCells (st : St) : List (Nat × VT) → Option (List Lf)
  | [] => some []
  | (i, .one _) :: r => match st.get i with
    | .v (.lf x) => (match slotCells st r with | some l => some (x :: l) | none => none)
    | _ => none
  | (i, .agg ts) :: r => match st.get i with
    | .v (.agg xs) => (match Nat.beq xs.length ts.length with
      | true => (match slotCells st r with | some l => some (xs ++ l) | none => none)
      | false => none)
    | _ => none

def locCells (st : St) : List (Nat × List LT) → Option (List Lf)
  | [] => some []
  | (i, ts) :: r => match st.loc i with
    | some l => (match Nat.beq l.cs.length ts.length with
      | true => (match locCells st r with | some m => some (l.cs ++ m) | none => none)
      | false => none)
    | none => none

def jlts (s : JSpec) : List LT := lts (s.slots.map (·.2)) ++ s.locs.flatMap (·.2)

def sameLocs (s : JSpec) (st0 st : St) : Nat → List (Option Loc) → Bool
  | _, [] => true
  | i, none :: r => sameLocs s st0 st (i + 1) r
  | i, some l :: r => (s.drop.contains i || s.locs.any (fun x => Nat.beq x.1 i) || (match st.loc i with | some l' => Nat.beq l.ver l'.ver | none => false)) && sameLocs s st0 st (i + 1) r

def jget (s : JSpec) (st0 st : St) : Option (List Lf) := match sameLocs s st0 st 0 st0.ls && Nat.beq st.ds.length st0.ds.length with
  | true => match slotCells st s.slots with
    | some a => match locCells st s.locs with | some b => some (a ++ b) | none => none
    | none => none
  | false => none

def setSlots : List (Nat × VT) → List Lf → List SV → List SV × List Lf
  | [], l, f => (f, l)
  | (i, .one _) :: r, x :: l, f => setSlots r l (f.set i (.v (.lf x)))
  | (i, .one _) :: r, [], f => setSlots r [] f
  | (i, .agg ts) :: r, l, f => setSlots r (l.drop ts.length) (f.set i (.v (.agg (l.take ts.length))))

def setLocs : List (Nat × List LT) → List Lf → List (Option Loc) → List (Option Loc)
  | [], _, ls => ls
  | (i, ts) :: r, l, ls => setLocs r (l.drop ts.length) (match ls[i]? with
    | some (some x) => ls.set i (some ⟨x.b, x.t, l.take ts.length, x.ver + 1⟩)
    | _ => ls)

def dropLocs : List Nat → List (Option Loc) → List (Option Loc)
  | [], ls => ls
  | i :: r, ls => dropLocs r (ls.set i none)

def clearF : List Nat → List SV → List SV
  | [], f => f
  | i :: r, f => clearF r (f.set i .unk)

def St.clear (w : List Nat) (st : St) : St := { st with f := clearF w st.f }

def jset (s : JSpec) (w : List Nat) (st0 : St) (l : List Lf) : St :=
  match setSlots s.slots l (clearF w st0.f) with
  | (f, r) => { st0 with f := f, ls := setLocs s.locs r (dropLocs s.drop st0.ls) }

def noRF : Code → Bool
  | .seq a b => noRF a && noRF b
  | .cond _ a b => noRF a && noRF b
  | .block _ c => noRF c
  | .loop c => noRF c
  | .rangeFunc .. => false
  | .region _ ops _ => ops.toList.all fun o => !isDefer o
  | _ => true

def putAll : List Nat → List VV → List SV → List SV
  | [], _, f => f
  | t :: ts, x :: xs, f => putAll ts xs (f.set t (.v x))
  | _ :: _, [], f => f

def St.round (st : St) (ps : List Nat) (xs : List VV) : St := { f := putAll ps xs st.f, ls := st.ls.map fun _ => none, ds := [] }

def meet (s : JSpec) (st0 : St) (I : Cur (jlts s) (Heap → Prop)) (st : St) (h : Heap) : Prop :=
  opt (jget s st0 st) fun l => app (jlts s) I l fun p => p h

def vc (P : Program) (pl : Plan) : Code → (Exit → St → Heap → Prop) → St → Heap → Prop
  | .skip, Q, st, h => Q .normal st h
  | .region id ops draw, Q, st, h => match draw with
    | false => vcOps P pl ops.toList (fun c st h => Q (.panic c) st h) (fun st h => Q .normal (st.prune (pl.live id)) h) ops.toList st h
    | true => match Region.noSelect ops && ops.toList.all fun o => !isDefer o with
      | true => vcDraw P pl ops (fun c st h => Q (.panic c) (st.clear (dsts ops.toList)) h) (fun st h => Q .normal (st.prune (pl.live id)) h) (pl.draw id) [] (Array.replicate ops.size false) [] st h
      | false => False
  | .seq a b, Q, st, h => match specAt pl.seq (firstId b) with
    | none => vc P pl a (fun e st h => match e with | .normal => vc P pl b Q st h | e => Q e st h) st h
    | some s => ∃ I : Cur (jlts s) (Heap → Prop),
        vc P pl a (fun e st' h' => match e with | .normal => meet s st I st' h' | e => Q e st' h') st h ∧
        AllI (jlts s) I fun l p => ∀ h', p h' → vc P pl b Q (jset s (writes a) st l) h'
  | .cond c a b, Q, st, h => match st.ev c with
    | .v (.lf (.bool t)) => Br t (vc P pl a Q st h) (vc P pl b Q st h)
    | _ => False
  | .block id c, Q, st, h => match pl.blk id with
    | none => vc P pl c (fun e st h => match e with | .exit i => (match Nat.beq i id with | true => Q .normal st h | false => Q (.exit i) st h) | e => Q e st h) st h
    | some s => ∃ I : Cur (jlts s) (Heap → Prop),
        vc P pl c (fun e st' h' => match e with
          | .exit i => (match Nat.beq i id with | true => meet s st I st' h' | false => Q (.exit i) st' h')
          | .normal => meet s st I st' h'
          | e => Q e st' h') st h ∧
        AllI (jlts s) I fun l p => ∀ h', p h' → Q .normal (jset s (writes c) st l) h'
  | .loop c, Q, st, h => opt (specAt pl.loop (firstId c)) fun s => ∃ I : Cur (jlts s) (Heap → Nat → Prop),
        (opt (jget s st st) fun l => app (jlts s) I l fun p => ∃ n, p h n) ∧
        AllI (jlts s) I fun l p => ∀ h' n, p h' n → vc P pl c (fun e st' h'' => match e with
          | .normal => opt (jget s st st') fun l' => app (jlts s) I l' fun p => ∃ m, m < n ∧ p h'' m
          | e => Q e st' h'') (jset s (writes c) st l) h'
  | .exit id, Q, st, h => Q (.exit id) st h
  | .ret, Q, st, h => Q .ret st h
  | .rangeFunc f params assign body, Q, st, h => okIf (noRF assign && noRF body) (match st.ev f with
    | .v (.lf (.raw v)) => opt (match firstId assign with | some i => pl.yt i | none => none) fun vts => okIf (Nat.beq vts.length params.toList.length) (∀ lp : Loop, LoopC lp h fun D l h1 =>
        (∀ (hh : Heap) (R : Bool → Heap → Prop), LAt hh l lp → AllL (lts vts) fun xs =>
          vc P pl assign (fun e st1 ha => match e with
            | .normal => LBusy ha l lp fun hb => vc P pl body (fun e st2 hc => match e with
              | .normal => LReady hc l lp fun hd => R true hd
              | _ => False) st1 hb
            | _ => False) (st.round params.toList (shape vts xs)) hh →
          CallV P (yv l) (shape vts xs) hh [.one .bool] R) →
        CallF P v [.lf (.raw (yv l))] h1 [] fun h' => LEnd h' l lp fun h'' => keepC h h'' (locBs st.ls) (Q .normal { st with ds := ⟨.collected D, #[]⟩ :: st.ds } h''))
    | _ => False)
  | _, _, _, _ => False

def resK (P : Program) (st : St) (h : Heap) : List ResultVar → (List VV → Prop) → Prop
  | [], K => K []
  | .tmp t :: r, K => match st.get t with
    | .v x => resK P st h r fun l => K (x :: l)
    | _ => False
  | .cell a t :: r, K => match st.get a, vtOf P t with
    | .loc i off, some vt => (match st.loc i, off with
      | some l, 0 => opt (asVT vt l.cs) fun x => resK P st h r fun m => K (x :: m)
      | _, _ => False)
    | .v (.lf (.ptr (some (b, off)))), some vt => ExL vt.lts fun l => cellsAt h b off l ∧ resK P st h r fun m => K (vt.put l :: m)
    | _, _ => False

def flat : List VT → List VV → Option (List Lf)
  | [], [] => some []
  | .one _ :: ts, .lf x :: r => match flat ts r with | some l => some (x :: l) | none => none
  | .agg us :: ts, .agg xs :: r => match Nat.beq xs.length us.length with
    | true => (match flat ts r with | some l => some (xs ++ l) | none => none)
    | false => none
  | _, _ => none

def retDs (P : Program) (st : St) (K : Option (TypeId × Value) → Heap → Prop) : List Deferred → Option (TypeId × Value) → Heap → Prop
  | [], pm, h => K pm h
  | ⟨.collected D, _⟩ :: ds, pm, h => CollC h D fun h' => retDs P st K ds pm h'
  | ⟨.fn (.func f) capt, args⟩ :: ds, pm, h => CallD P f ⟨args.toList ++ capt.toList⟩ h pm fun b h' => keepC h h' (locBs st.ls) (Br b (retDs P st K ds none h') (retDs P st K ds pm h'))
  | _ :: _, _, _ => False

def retK (P : Program) (fn : Func) (vts : List VT) (R : Cur (lts vts) (Heap → Prop)) (Rp : TypeId → Value → Heap → Prop) (st : St) (pm : Option (TypeId × Value)) (h : Heap) : Prop := match pm with
  | none => resK P st h fn.results.toList fun r => opt (flat vts r) fun l => app (lts vts) R l fun p => p h
  | some (t, v) => Rp t v h

def retQP (P : Program) (fn : Func) (vts : List VT) (R : Cur (lts vts) (Heap → Prop)) (Rp : TypeId → Value → Heap → Prop) (e : Exit) (st : St) (h : Heap) : Prop := match e with
  | .normal => retDs P st (retK P fn vts R Rp st) st.ds none h
  | .ret => retDs P st (retK P fn vts R Rp st) st.ds none h
  | .panic [⟨.iface t v, false, false⟩] => retDs P st (retK P fn vts R Rp st) st.ds (some (t, v)) h
  | _ => False

def initF (n : Nat) (args : List VV) : List SV := args.map .v ++ List.replicate (n - args.length) .unk

def vcFnP (P : Program) (pl : Plan) (fn : Func) (args : List VV) (h : Heap) (vts : List VT) (R : Cur (lts vts) (Heap → Prop)) (Rp : TypeId → Value → Heap → Prop) : Prop :=
  opt fn.body fun c => vc P pl c (retQP P fn vts R Rp) ⟨initF fn.ntmps args, [], []⟩ h
def noP (_ : TypeId) (_ : Value) (_ : Heap) : Prop := False
def vcFn (P : Program) (pl : Plan) (fn : Func) (args : List VV) (h : Heap) (vts : List VT) (R : Cur (lts vts) (Heap → Prop)) : Prop := vcFnP P pl fn args h vts R noP

end Go.V
namespace Go.V

def SVr (st : St) (s : SV) (v : Value) : Prop := match s with
  | .v x => v = x.val
  | .tup l => v = .tuple (l.map VV.val).toArray
  | .loc id off => id < st.ls.length ∧ ∀ l, st.loc id = some l → v = .pointer (some ⟨l.b, off, none⟩)
  | .unk => True

structure Rel (st : St) (h : Heap) (a : Act) (W : World) : Prop where
  heap : W.heap = h
  ds : a.defers = st.ds
  len : st.f.length ≤ a.tmps.size
  slot : ∀ i, SVr st (st.get i) (a.tmps.getD i undef)
  loc : ∀ i l, st.loc i = some l → h[l.b]? = some l.obj
  apart : ∀ i j l m, st.loc i = some l → st.loc j = some m → l.b = m.b → i = j

theorem opt_some {α : Type} {o : Option α} {K : α → Prop} (h : opt o K) : ∃ x, o = some x ∧ K x := by
  cases o with
  | none => exact h.elim
  | some x => exact ⟨x, rfl, h⟩

theorem Rel.ev {st : St} {h : Heap} {a : Act} {W : World} (r : Rel st h a W) (x : Operand) : SVr st (st.ev x) (a.eval x) := by
  cases x with
  | tmp t => exact r.slot t
  | const v =>
    show SVr st (SV.ofConst v) v
    unfold SV.ofConst
    split
    · rename_i h; exact (Lf.ofVal_val h).symm
    · trivial
  | global g => rfl
  | func f => rfl

theorem Rel.put {st : St} {h : Heap} {a : Act} {W : World} (r : Rel st h a W) {d : Option Nat} {s : SV} {v : Value} (hs : SVr st s v) :
    Rel (st.put d s) h (a.put d v) W := by
  cases d with
  | none => exact r
  | some d =>
    refine ⟨r.heap, r.ds, by simpa [St.put, Act.put] using r.len, fun i => ?_, r.loc, r.apart⟩
    have hi := r.slot i
    unfold St.get at hi ⊢
    simp only [St.put, Act.put]
    by_cases e : i = d
    · subst e
      by_cases hl : i < st.f.length
      · have hl' := Nat.lt_of_lt_of_le hl r.len
        simp [hl, hl']
        exact hs
      · have : (st.f.set i s).getD i SV.unk = SV.unk := by simp [hl]
        rw [this]; trivial
    · have e' : ¬ d = i := fun x => e x.symm
      have h1 : (st.f.set d s).getD i SV.unk = st.f.getD i SV.unk := by simp [e']
      have h2 : (a.tmps.setIfInBounds d v).getD i undef = a.tmps.getD i undef := by
        simp [Array.getElem?_setIfInBounds_ne e']
      rw [h1, h2]; exact hi

theorem SVr.of_ls {st st' : St} (h : st'.ls = st.ls) {s : SV} {v : Value} (hs : SVr st s v) : SVr st' s v := by
  cases s <;> simp_all [SVr, St.loc]

theorem cell_of_at {h : Heap} {W : World} (hw : W.heap = h) : ∀ {l : List Lf} {b off : Nat}, cellsAt h b off l → ∀ j v, (l.map Lf.val)[j]? = some v → W.cell? ((⟨b, off, none⟩ : Addr).add j) = some v
  | [], _, _, _, j, v, hj => by simp at hj
  | x :: l, b, off, hc, j, v, hj => by
    obtain ⟨⟨c, e, fz, hb, hx⟩, hr⟩ := hc
    cases j with
    | zero =>
      simp at hj
      subst hj
      simp [Addr.add, World.cell?, hw, hb, hx]
    | succ j =>
      have := cell_of_at hw hr j v (by simpa using hj)
      rw [← this]
      simp only [Addr.add]
      by_cases h0 : j = 0
      · subst h0; simp
      · simp [h0, Nat.add_assoc, Nat.add_comm 1 j]

theorem run_isAgg {P : Program} {t : TypeId} {b : Bool} (h : aggK P t = some b) (w : World) : (isAgg t).run P w = .ok b w := by
  unfold aggK at h
  cases hu : P.underlying t with
  | none => rw [hu] at h; simp at h
  | some d =>
    rw [hu] at h
    cases d <;> simp_all [isAgg, underlying]

theorem vt_one {P : Program} {t : TypeId} {x : LT} (h : vtOf P t = some (.one x)) : ∃ i, P.info? t = some i ∧ i.size = 1 ∧ aggK P t = some false := by
  unfold vtOf at h
  split at h
  · rename_i i hi
    split at h
    · split at h <;> simp at h
    · simp at h
    · rename_i hagg
      split at h
      · rename_i hs; exact ⟨i, hi, Nat.eq_of_beq_eq_true hs, by assumption⟩
      · simp at h
    · simp at h
  · simp at h

theorem vt_agg {P : Program} {t : TypeId} {ts : List LT} (h : vtOf P t = some (.agg ts)) : ∃ i, P.info? t = some i ∧ i.size = ts.length ∧ aggK P t = some true := by
  unfold vtOf at h
  split at h
  · rename_i i hi
    split at h
    · split at h
      · rename_i hs
        simp at h
        exact ⟨i, hi, by rw [← h, Nat.eq_of_beq_eq_true hs]; simp, by assumption⟩
      · simp at h
    · simp at h
    · split at h <;> simp at h
    · simp at h
  · simp at h

theorem run_sz {P : Program} {t : TypeId} {i : TypeInfo} (h : P.info? t = some i) (w : World) : (sizeOf t).run P w = .ok i.size w := by
  simp [sizeOf, typeInfo, h]

theorem run_loadVar {P : Program} {t : TypeId} {vt : VT} (h : vtOf P t = some vt) {W : World} {b off : Nat} {l : List Lf} (hl : l.length = vt.lts.length)
    (hc : cellsAt W.heap b off l) : (loadVar t ⟨b, off, none⟩).run P W = .ok (vt.put l).val W := by
  cases vt with
  | one x =>
    obtain ⟨i, hi, hs, ha⟩ := vt_one h
    match l, hl with
    | [y], _ =>
      obtain ⟨⟨c, e, fz, hb, hx⟩, _⟩ := hc
      have : W.cell? ⟨b, off, none⟩ = some y.val := by simp [World.cell?, hb, hx]
      simp [loadVar, run_isAgg ha, this, VT.put, VV.val]
  | agg ts =>
    obtain ⟨i, hi, hs, ha⟩ := vt_agg h
    have hn : i.size = (l.map Lf.val).length := by simp [hs, hl, VT.lts]
    have := run_loadCells_list (P := P) W ⟨b, off, none⟩ (l.map Lf.val) (cell_of_at rfl hc)
    simp only [loadVar, Sem.run_bind, run_isAgg ha, Result.andThen_ok, if_true, run_sz hi, hn, this, Sem.run_pure]
    rfl

end Go.V
namespace Go.V

def YS (P : Program) (o : Oper) (st : St) (h : Heap) (a : Act) (K : SV → Cond → Prop) : Prop :=
  ∃ v s c, K s c ∧ SVr st s v ∧ c.holds h ∧ (∀ id l, c = .loc id l → st.loc id = some l) ∧ ∀ W', c.holds W'.heap → (execOp a.eval o).run P W' = .ok (.value v) W'

theorem YS.tt {P : Program} {o : Oper} {st : St} {h : Heap} {a : Act} {K : SV → Cond → Prop} {s : SV} (v : Value) (hk : K s .tt) (hs : SVr st s v)
    (hr : ∀ W', (execOp a.eval o).run P W' = .ok (.value v) W') : YS P o st h a K :=
  ⟨v, s, .tt, hk, hs, trivial, fun _ _ e => (by cases e), fun W' _ => hr W'⟩

theorem Br_elim {b : Bool} {X Y : Prop} (h : Br b X Y) : (b = true ∧ X) ∨ (b = false ∧ Y) := by
  cases b
  · exact .inr ⟨rfl, h⟩
  · exact .inl ⟨rfl, h⟩

theorem ExL_elim : ∀ {ts : List LT} {K : List Lf → Prop}, ExL ts K → ∃ l, l.length = ts.length ∧ K l
  | [], K, h => ⟨[], rfl, h⟩
  | t :: ts, K, h => by
    obtain ⟨x, h⟩ := h
    obtain ⟨l, hl, hk⟩ := ExL_elim h
    exact ⟨t.mk x :: l, by simp [hl], hk⟩

theorem NilC_elim {p : Option (Nat × Nat)} {K : Nat → Nat → Prop} (h : NilC p K) : ∃ b off, p = some (b, off) ∧ K b off := by
  match p, h with
  | some (b, off), h => exact ⟨b, off, rfl, h⟩

theorem fieldOff_run {P : Program} {s : TypeId} {f fo : Nat} (h : fieldOff P s f = some fo) (a : Addr) (W : World) :
    (Instr.fieldAt s (.pointer (some a)) f).run P W = .ok (.pointer (some (a.add fo))) W := by
  unfold fieldOff at h
  split at h
  · rename_i fs hu
    split at h
    · rename_i fl hf
      split at h
      · rename_i ty hi
        split at h
        · simp at h
        · rename_i n hn
          simp at h; subst h
          have hz : ¬ ty.size = 0 := by omega
          simp [Instr.fieldAt, run_underlying hu, hf, Instr.sureAddr, fieldPlace, run_sz hi, hz]
      · simp at h
    · simp at h
  · simp at h

theorem add_add (b off n : Nat) : (⟨b, off, none⟩ : Addr).add n = ⟨b, off + n, none⟩ := by
  unfold Addr.add
  split
  · rename_i h; simp [h]
  · rfl

theorem sadr_some {s : Slc} {b o : Nat} {q : Sp} (h : s.a = some (b, o)) (hq : s.sp = q) : sadr s = some ⟨b, o, @Sp.v q⟩ := by
  subst hq
  unfold sadr
  rw [h]

theorem sub_addr (s : Slc) (sz l hi m : Nat) : (if m = l then sadr s else (sadr s).map (·.add (l * sz))) = sadr (s.sub sz l hi m) := by
  have ha : (s.sub sz l hi m).a = if m = l then s.a else match s.a with | some (b, o) => some (b, o + l * sz) | none => none := rfl
  have hsp : (s.sub sz l hi m).sp = if m = l then s.sp else if l * sz = 0 then s.sp else noSp := rfl
  cases hs : s.a with
  | none =>
    rw [hs] at ha
    rw [sadr_none hs, sadr_none (s := s.sub sz l hi m) (by rw [ha]; split <;> rfl)]
    split <;> rfl
  | some p =>
    obtain ⟨b, o⟩ := p
    rw [hs] at ha
    rw [sadr_some hs rfl]
    by_cases h1 : m = l
    · rw [if_pos h1] at ha hsp ⊢
      rw [sadr_some ha hsp]
    · rw [if_neg h1] at ha hsp ⊢
      by_cases h2 : l * sz = 0
      · rw [if_pos h2] at hsp
        rw [sadr_some ha hsp]
        simp [Addr.add, h2]
      · rw [if_neg h2] at hsp
        rw [sadr_some ha hsp]
        simp [Addr.add, h2]
        rfl

theorem svL_elim {l : List Lf} {off n : Nat} {cs : List Lf} (h : svL l off n = some cs) : off + n ≤ l.length ∧ cs = (l.drop off).take n := by
  unfold svL at h
  cases hb : Nat.ble (off + n) l.length with
  | true => rw [hb] at h; exact ⟨Nat.le_of_ble_eq_true hb, (Option.some.inj h).symm⟩
  | false => rw [hb] at h; cases h

theorem loc_cellsAt {h : Heap} {l : Loc} (hl : h[l.b]? = some l.obj) : ∀ (n off : Nat), off + n ≤ l.cs.length → cellsAt h l.b off ((l.cs.drop off).take n)
  | 0, off, _ => trivial
  | n + 1, off, hle => by
    have hlt : off < l.cs.length := by omega
    rw [List.drop_eq_getElem_cons hlt, List.take_succ_cons]
    have hx : (l.cs.map Lf.val).toArray[off]? = some l.cs[off].val := by simp [hlt]
    exact ⟨⟨_, _, _, hl, hx⟩, loc_cellsAt hl n (off + 1) (by omega)⟩

section
variable {P : Program} {st : St} {h : Heap} {a : Act} {W : World} {K : SV → Cond → Prop} {dst : Option Tmp} {type : TypeId} {pos : String} {after : Array Edge} {guard : Option (Nat × Bool)}

theorem s_move (r : Rel st h a W) {x : Operand} (hv : K (st.ev x) .tt) : YS P ⟨dst, .move x, type, pos, after, guard⟩ st h a K :=
  .tt _ hv (r.ev x) fun _ => rfl
theorem s_assign (r : Rel st h a W) {x : Operand} (hv : K (st.ev x) .tt) : YS P ⟨dst, .assign x, type, pos, after, guard⟩ st h a K :=
  .tt _ hv (r.ev x) fun _ => rfl

theorem s_pick (r : Rel st h a W) {c x y : Operand} (hv : vcS P ⟨dst, .pick c x y, type, pos, after, guard⟩ st h K) : YS P ⟨dst, .pick c x y, type, pos, after, guard⟩ st h a K := by
  simp only [vcS] at hv
  split at hv
  · rename_i bb hc
    have hc' := r.ev c
    rw [hc] at hc'
    simp only [SVr, VV.val, Lf.val] at hc'
    rcases Br_elim hv with ⟨hb, hv⟩ | ⟨hb, hv⟩
    · exact .tt _ hv (r.ev x) fun _ => by simp [execOp, hc', asBool, hb]
    · exact .tt _ hv (r.ev y) fun _ => by simp [execOp, hc', asBool, hb]
  · exact hv.elim

theorem s_nilCheck (r : Rel st h a W) {x : Operand} (hv : vcS P ⟨dst, .nilCheck x, type, pos, after, guard⟩ st h K) : YS P ⟨dst, .nilCheck x, type, pos, after, guard⟩ st h a K := by
  simp only [vcS] at hv
  have hx := r.ev x
  split at hv
  · rename_i i off he
    obtain ⟨l, hl, hv⟩ := opt_some hv
    rw [he] at hx
    have hx' := hx.2 l hl
    exact .tt _ hv hx fun _ => by simp [execOp, hx']
  · rename_i p he
    obtain ⟨b, off, rfl, hv⟩ := NilC_elim hv
    rw [he] at hx
    simp only [SVr, VV.val, Lf.val, padr] at hx
    exact .tt (.pointer (some ⟨b, off, none⟩)) hv rfl fun _ => by simp [execOp, hx]
  · exact hv.elim

theorem s_fieldAddr (r : Rel st h a W) {s : TypeId} {x : Operand} {f : Nat} (hv : vcS P ⟨dst, .fieldAddr s x f, type, pos, after, guard⟩ st h K) : YS P ⟨dst, .fieldAddr s x f, type, pos, after, guard⟩ st h a K := by
  simp only [vcS] at hv
  obtain ⟨fo, hf, hv⟩ := opt_some hv
  have hx := r.ev x
  split at hv
  · rename_i i off he
    obtain ⟨l, hl, hv⟩ := opt_some hv
    rw [he] at hx
    have hx' := hx.2 l hl
    refine .tt (.pointer (some ⟨l.b, off + fo, none⟩)) hv ⟨hx.1, fun l' hl' => ?_⟩ fun _ => by simp [execOp, hx', fieldOff_run hf, add_add]
    rw [hl] at hl'; cases hl'; rfl
  · rename_i b off he
    rw [he] at hx
    simp only [SVr, VV.val, Lf.val, padr] at hx
    exact .tt (.pointer (some ⟨b, off + fo, none⟩)) hv rfl fun _ => by simp [execOp, hx, fieldOff_run hf, add_add]
  · exact hv.elim

theorem s_load (r : Rel st h a W) {t : TypeId} {x : Operand} (hv : vcS P ⟨dst, .load t x, type, pos, after, guard⟩ st h K) : YS P ⟨dst, .load t x, type, pos, after, guard⟩ st h a K := by
  simp only [vcS] at hv
  obtain ⟨vt, ht, hv⟩ := opt_some hv
  have hx := r.ev x
  split at hv
  · rename_i i off he
    obtain ⟨l, hl, hv⟩ := opt_some hv
    obtain ⟨cs, hcs, hv⟩ := opt_some hv
    rw [he] at hx
    have hx' := hx.2 l hl
    obtain ⟨hle, rfl⟩ := svL_elim hcs
    refine ⟨_, _, _, hv, rfl, r.loc _ _ hl, fun id l' e => (by cases e; exact hl), fun W' hW' => ?_⟩
    have hlen : (((l.cs.drop off).take vt.lts.length)).length = vt.lts.length := by simp; omega
    simp [execOp, hx', Instr.loadAt, Instr.sureAddr, run_loadVar ht hlen (loc_cellsAt hW' _ _ hle)]
  · rename_i b off he
    obtain ⟨l, hlen, hc, hv⟩ := ExL_elim hv
    rw [he] at hx
    simp only [SVr, VV.val, Lf.val, padr] at hx
    refine ⟨_, _, _, hv, rfl, hc, fun id l' e => (by cases e), fun W' hW' => ?_⟩
    simp [execOp, hx, Instr.loadAt, Instr.sureAddr, run_loadVar ht hlen hW']
  · exact hv.elim

theorem kb {k k' : IntKind} (h : Nat.beq (kcode k) (kcode k') = true) : k = k' := kcode_inj h

theorem s_field (r : Rel st h a W) {t : TypeId} {x : Operand} {f : Nat} (hv : vcS P ⟨dst, .field t x f, type, pos, after, guard⟩ st h K) : YS P ⟨dst, .field t x f, type, pos, after, guard⟩ st h a K := by
  simp only [vcS] at hv
  have hx := r.ev x
  split at hv
  · rename_i l he
    obtain ⟨⟨off, vt⟩, hf, hv⟩ := opt_some hv
    obtain ⟨cs, hcs, hv⟩ := opt_some hv
    rw [he] at hx
    simp only [SVr, VV.val] at hx
    obtain ⟨hle, rfl⟩ := svL_elim hcs
    unfold fieldVT at hf
    split at hf
    · rename_i fs hu
      split at hf
      · rename_i fl hfl
        split at hf
        · rename_i vt' hvt
          simp at hf
          obtain ⟨rfl, rfl⟩ := hf
          refine .tt _ hv rfl fun _ => ?_
          cases vt' with
          | one y =>
            obtain ⟨i, hi, hs, ha⟩ := vt_one hvt
            simp only [VT.lts, List.length_cons, List.length_nil] at hle
            have hlt : fl.offset < l.length := by omega
            have e1 : (l.drop fl.offset).take 1 = [l[fl.offset]] := by rw [List.drop_eq_getElem_cons hlt]; rfl
            simp only [VT.lts, List.length_cons, List.length_nil, Nat.zero_add, e1]
            simp [execOp, hx, Instr.field, run_underlying hu, hfl, asAgg, part, run_isAgg ha, hlt, VT.put, VV.val]
          | agg ts =>
            obtain ⟨i, hi, hs, ha⟩ := vt_agg hvt
            simp [execOp, hx, Instr.field, run_underlying hu, hfl, asAgg, part, run_isAgg ha, run_sz hi, hs, VT.put, VV.val, VT.lts, List.map_drop, List.map_take]
        · simp at hf
      · simp at hf
    · simp at hf
  · exact hv.elim

theorem s_indexAddr (r : Rel st h a W) {t : TypeId} {x i : Operand} (hv : vcS P ⟨dst, .indexAddr t x i, type, pos, after, guard⟩ st h K) : YS P ⟨dst, .indexAddr t x i, type, pos, after, guard⟩ st h a K := by
  simp only [vcS] at hv
  have hx := r.ev x
  have hi := r.ev i
  split at hv
  · rename_i s k n e he hie hu
    split at hv
    · rename_i hkn
      obtain ⟨h0, h1, hpl, hv⟩ := hv
      obtain ⟨b, off, hs, hv⟩ := NilC_elim hv
      rw [he] at hx; rw [hie] at hi
      simp only [SVr, VV.val, Lf.val, sadr_plain hpl, hs, padr] at hx hi
      have hinfo : ∃ ty, P.info? e = some ty := by
        unfold known at hkn
        cases hh : P.info? e with
        | none => rw [hh] at hkn; simp at hkn
        | some ty => exact ⟨ty, rfl⟩
      obtain ⟨ty, hty⟩ := hinfo
      have hsz : szOf P e = ty.size := by simp [szOf, hty]
      refine .tt (.pointer (some ⟨b, off + n.toNat * szOf P e, none⟩)) hv rfl fun _ => ?_
      simp [execOp, hx, hi, Instr.indexAt, asIntOf, run_underlying hu, h0, h1, run_sz hty, add_add, hsz]
    · exact hv.elim
  · rename_i b off k n len e he hie hu
    split at hv
    · rename_i hkn
      obtain ⟨h0, h1, hv⟩ := hv
      rw [he] at hx; rw [hie] at hi
      simp only [SVr, VV.val, Lf.val, padr] at hx hi
      have hinfo : ∃ ty, P.info? e = some ty := by
        unfold known at hkn
        cases hh : P.info? e with
        | none => rw [hh] at hkn; simp at hkn
        | some ty => exact ⟨ty, rfl⟩
      obtain ⟨ty, hty⟩ := hinfo
      have hsz : szOf P e = ty.size := by simp [szOf, hty]
      refine .tt (.pointer (some ⟨b, off + n.toNat * szOf P e, none⟩)) hv rfl fun _ => ?_
      simp [execOp, hx, hi, Instr.indexAt, asIntOf, run_underlying hu, Instr.sureAddr, h0, h1, run_sz hty, add_add, hsz]
    · exact hv.elim
  · exact hv.elim

theorem s_index (r : Rel st h a W) {t : TypeId} {x i : Operand} (hv : vcS P ⟨dst, .index t x i, type, pos, after, guard⟩ st h K) : YS P ⟨dst, .index t x i, type, pos, after, guard⟩ st h a K := by
  simp only [vcS] at hv
  have hx := r.ev x
  have hi := r.ev i
  split at hv
  · rename_i s k n he hie hu
    obtain ⟨h0, h1, hv⟩ := hv
    rw [he] at hx; rw [hie] at hi
    simp only [SVr, VV.val, Lf.val] at hx hi
    have hlt : n.toNat < s.size := by omega
    refine .tt _ hv rfl fun _ => ?_
    have hg : s[n.toNat]? = some s[n.toNat] := by simp [hlt]
    have hb : bt s n = (s[n.toNat].toNat : Int) := by
      simp [bt, List.getD, hlt]
      rfl
    simp [execOp, hx, hi, Instr.index, asIntOf, run_underlying hu, h0, hg, VV.val, Lf.val, hb]
  · exact hv.elim

theorem s_extract (r : Rel st h a W) {x : Operand} {i : Nat} (hv : vcS P ⟨dst, .extract x i, type, pos, after, guard⟩ st h K) : YS P ⟨dst, .extract x i, type, pos, after, guard⟩ st h a K := by
  simp only [vcS] at hv
  have hx := r.ev x
  split at hv
  · rename_i l he
    obtain ⟨y, hy, hv⟩ := opt_some hv
    rw [he] at hx
    simp only [SVr] at hx
    refine .tt _ hv rfl fun _ => ?_
    simp [execOp, hx, Instr.extract, hy]
  · exact hv.elim

theorem s_unOp (r : Rel st h a W) {op : UnOp} {t : TypeId} {x : Operand} (hv : vcS P ⟨dst, .unOp op t x, type, pos, after, guard⟩ st h K) : YS P ⟨dst, .unOp op t x, type, pos, after, guard⟩ st h a K := by
  simp only [vcS] at hv
  have hx := r.ev x
  split at hv
  all_goals first
    | exact hv.elim
    | (rename_i he
       rw [he] at hx
       simp only [SVr, VV.val, Lf.val] at hx
       exact .tt _ hv rfl fun _ => by simp [execOp, hx, Op.unary, Op.intArith, Op.intBits, VV.val, Lf.val, bitop])

theorem s_makeInterface (r : Rel st h a W) {t : TypeId} {x : Operand} (hv : vcS P ⟨dst, .makeInterface t x, type, pos, after, guard⟩ st h K) : YS P ⟨dst, .makeInterface t x, type, pos, after, guard⟩ st h a K := by
  simp only [vcS] at hv
  have hx := r.ev x
  split at hv
  · exact hv.elim
  · rename_i d y hno hu he
    rw [he] at hx
    simp only [SVr] at hx
    refine .tt _ hv rfl fun _ => ?_
    cases d <;> first
      | (exfalso; exact hno _ rfl)
      | simp [execOp, hx, Instr.makeInterface, run_underlying hu, VV.val, Lf.val, oneV, Value.oneCell']
  · exact hv.elim

def OptR (st : St) : Option SV → Option Value → Prop
  | none, none => True
  | some s, some v => SVr st s v
  | _, _ => False

theorem run_bound {x : Option SV} {dflt most : Nat} {K : Nat → Prop} (hb : bound x dflt most K) {v : Option Value} (hx : OptR st x v) (c : BoundsCode) :
    ∃ n, K n ∧ (x = none → n = dflt) ∧ ∀ v', v = some v' → ∀ W', (Instr.sliceBound v' most c).run P W' = .ok n W' := by
  match x, v, hx with
  | none, none, _ => exact ⟨dflt, hb, fun _ => rfl, fun _ e => by cases e⟩
  | some s, some v', hx =>
    unfold bound at hb
    split at hb
    · rename_i e; cases e
    · rename_i k i e
      cases e
      obtain ⟨h0, h1, hk⟩ := hb
      simp only [OptR, SVr, VV.val, Lf.val] at hx
      refine ⟨_, hk, fun e => (by cases e), fun v'' e W' => ?_⟩
      cases e
      subst hx
      simp [Instr.sliceBound, asIntOf, h0, h1]
    · exact hb.elim

theorem optr (r : Rel st h a W) (x : Option Operand) : OptR st (x.map st.ev) (x.map a.eval) := by
  cases x with
  | none => trivial
  | some y => exact r.ev y

theorem known_some {e : TypeId} (h : known P e = true) : ∃ ty, P.info? e = some ty := by
  unfold known at h
  cases hh : P.info? e with
  | none => rw [hh] at h; simp at h
  | some ty => exact ⟨ty, rfl⟩

theorem s_slice (r : Rel st h a W) {t : TypeId} {x : Operand} {lo hi mx : Option Operand} (hv : vcS P ⟨dst, .slice t x lo hi mx, type, pos, after, guard⟩ st h K) : YS P ⟨dst, .slice t x lo hi mx, type, pos, after, guard⟩ st h a K := by
  simp only [vcS] at hv
  have hx := r.ev x
  split at hv
  · rename_i s e he hu
    split at hv
    · rename_i hkn
      obtain ⟨ty, hty⟩ := known_some hkn
      have hsz : szOf P e = ty.size := by simp [szOf, hty]
      rw [he] at hx
      simp only [SVr, VV.val, Lf.val] at hx
      obtain ⟨m, hv, hmn, hmr⟩ := run_bound (P := P) (st := st) hv (optr r mx) .slice3Acap
      cases mx with
      | none =>
        have hm : m = s.cap := hmn rfl
        obtain ⟨hh, hv, hhn, hhr⟩ := run_bound (P := P) (st := st) hv (optr r hi) .sliceAcap
        obtain ⟨l, hv, hln, hlr⟩ := run_bound (P := P) (st := st) hv (optr r lo) .sliceB
        subst hm
        have hv : K (SV.v (VV.lf (Lf.slc (s.sub (szOf P e) l hh s.cap)))) Cond.tt := hv
        refine .tt _ hv rfl fun W' => ?_
        have e1 : (Value.slice (if s.cap = l then sadr s else (sadr s).map (·.add (l * ty.size))) (hh - l) (s.cap - l)) = (VV.lf (Lf.slc (s.sub (szOf P e) l hh s.cap))).val := by
          rw [← hsz, sub_addr]; rfl
        rw [← e1]
        cases hi <;> cases lo
        · have h1 : hh = s.len := hhn rfl
          have h2 : l = 0 := hln rfl
          subst h1; subst h2
          simp [execOp, hx, Instr.sliceAt, Instr.slice, run_underlying hu, Instr.sliceBounds, run_sz hty]
        · have h1 : hh = s.len := hhn rfl
          have h2 := hlr _ rfl W'
          subst h1
          simp [execOp, hx, Instr.sliceAt, Instr.slice, run_underlying hu, Instr.sliceBounds, run_sz hty, h2]
        · have h1 := hhr _ rfl W'
          have h2 : l = 0 := hln rfl
          subst h2
          simp [execOp, hx, Instr.sliceAt, Instr.slice, run_underlying hu, Instr.sliceBounds, run_sz hty, h1]
        · have h1 := hhr _ rfl W'
          have h2 := hlr _ rfl W'
          simp [execOp, hx, Instr.sliceAt, Instr.slice, run_underlying hu, Instr.sliceBounds, run_sz hty, h1, h2]
      | some mx' =>
        have hmr' := hmr _ rfl
        obtain ⟨hh, hv, hhn, hhr⟩ := run_bound (P := P) (st := st) hv (optr r hi) .slice3B
        obtain ⟨l, hv, hln, hlr⟩ := run_bound (P := P) (st := st) hv (optr r lo) .slice3C
        cases hi with
        | none => exact hv.elim
        | some hi' =>
        have hv : K (SV.v (VV.lf (Lf.slc (s.sub (szOf P e) l hh m)))) Cond.tt := hv
        refine .tt _ hv rfl fun W' => ?_
        have e1 : (Value.slice (if m = l then sadr s else (sadr s).map (·.add (l * ty.size))) (hh - l) (m - l)) = (VV.lf (Lf.slc (s.sub (szOf P e) l hh m))).val := by
          rw [← hsz, sub_addr]; rfl
        rw [← e1]
        have h1 := hhr _ rfl W'
        have h0 := hmr' W'
        cases lo
        · have h2 : l = 0 := hln rfl
          subst h2
          simp [execOp, hx, Instr.sliceAt, Instr.slice, run_underlying hu, Instr.sliceBounds, run_sz hty, h0, h1]
        · have h2 := hlr _ rfl W'
          simp [execOp, hx, Instr.sliceAt, Instr.slice, run_underlying hu, Instr.sliceBounds, run_sz hty, h0, h1, h2]
    · exact hv.elim
  · rename_i b off n e he hu
    split at hv
    · rename_i hkn
      obtain ⟨ty, hty⟩ := known_some hkn
      have hsz : szOf P e = ty.size := by simp [szOf, hty]
      rw [he] at hx
      simp only [SVr, VV.val, Lf.val] at hx
      obtain ⟨hh, hv, hhn, hhr⟩ := run_bound (P := P) (st := st) hv (optr r hi) .sliceAlen
      obtain ⟨l, hv, hln, hlr⟩ := run_bound (P := P) (st := st) hv (optr r lo) .sliceB
      refine .tt _ hv rfl fun W' => ?_
      have e1 : (Value.slice (if n = l then sadr (Slc.mk (some (b, off)) n n) else (sadr (Slc.mk (some (b, off)) n n)).map (·.add (l * ty.size))) (hh - l) (n - l)) = (VV.lf (Lf.slc ((Slc.mk (some (b, off)) n n).sub (szOf P e) l hh n))).val := by
        rw [← hsz, sub_addr]; rfl
      rw [← e1]
      cases hi <;> cases lo
      · have h1 : hh = n := hhn rfl
        have h2 : l = 0 := hln rfl
        subst h1; subst h2
        simp [execOp, hx, Instr.sliceAt, run_underlying hu, Instr.sliceBounds, run_sz hty, Instr.sureAddr, sadr, padr]
        try split <;> rfl
      · have h1 : hh = n := hhn rfl
        have h2 := hlr _ rfl W'
        subst h1
        simp [execOp, hx, Instr.sliceAt, run_underlying hu, Instr.sliceBounds, run_sz hty, h2, Instr.sureAddr, sadr, padr]
        try split <;> rfl
      · have h1 := hhr _ rfl W'
        have h2 : l = 0 := hln rfl
        subst h2
        simp [execOp, hx, Instr.sliceAt, run_underlying hu, Instr.sliceBounds, run_sz hty, h1, Instr.sureAddr, sadr, padr]
        try split <;> rfl
      · have h1 := hhr _ rfl W'
        have h2 := hlr _ rfl W'
        simp [execOp, hx, Instr.sliceAt, run_underlying hu, Instr.sliceBounds, run_sz hty, h1, h2, Instr.sureAddr, sadr, padr]
        try split <;> rfl
    · exact hv.elim
  · rename_i s he hu
    rw [he] at hx
    simp only [SVr, VV.val, Lf.val] at hx
    cases mx with
    | some _ => exact hv.elim
    | none =>
      obtain ⟨hh, hv, hhn, hhr⟩ := run_bound (P := P) (st := st) hv (optr r hi) .sliceAlen
      obtain ⟨l, hv, hln, hlr⟩ := run_bound (P := P) (st := st) hv (optr r lo) .sliceB
      refine .tt _ hv rfl fun W' => ?_
      cases hi <;> cases lo
      · have h1 : hh = s.size := hhn rfl
        have h2 : l = 0 := hln rfl
        subst h1; subst h2
        simp [execOp, hx, Instr.sliceAt, Instr.slice, run_underlying hu, Instr.sliceBounds, VV.val, Lf.val]
      · have h1 : hh = s.size := hhn rfl
        have h2 := hlr _ rfl W'
        subst h1
        simp [execOp, hx, Instr.sliceAt, Instr.slice, run_underlying hu, Instr.sliceBounds, VV.val, Lf.val, h2]
      · have h1 := hhr _ rfl W'
        have h2 : l = 0 := hln rfl
        subst h2
        simp [execOp, hx, Instr.sliceAt, Instr.slice, run_underlying hu, Instr.sliceBounds, VV.val, Lf.val, h1]
      · have h1 := hhr _ rfl W'
        have h2 := hlr _ rfl W'
        simp [execOp, hx, Instr.sliceAt, Instr.slice, run_underlying hu, Instr.sliceBounds, VV.val, Lf.val, h1, h2]
  · exact hv.elim

end

end Go.V
namespace Go.V
section
variable {P : Program}

theorem zeroOf_run {e : TypeId} {z : VV} (hz : zeroOf P e = some z) : ∃ i, P.info? e = some i ∧ i.zero = some z.val ∧ i.size = z.cells.length ∧ z.val.cells = (z.cells.map Lf.val).toArray := by
  unfold zeroOf at hz
  split at hz
  · rename_i i hi
    split at hz
    · rename_i cs hc
      split at hz
      · rename_i hb
        simp only [Bool.and_eq_true] at hb
        cases hz
        have hm := allOne_map hb.1
        refine ⟨i, hi, ?_, ?_, rfl⟩
        · rw [hc]; simp only [VV.val, hm]
        · rw [Nat.eq_of_beq_eq_true hb.2]; simp [VV.cells]
      · cases hz
    · rename_i x hno hx
      split at hz
      · rename_i hb
        simp only [Bool.and_eq_true] at hb
        cases hz
        have hm := Lf.ofVal_val hb.1
        refine ⟨i, hi, ?_, ?_, ?_⟩
        · rw [hx]; simp only [VV.val, hm]
        · rw [Nat.eq_of_beq_eq_true hb.2]; rfl
        · simp only [VV.val, VV.cells, hm, List.map_cons, List.map_nil]
          cases x <;> first | rfl | (exact absurd rfl (hno _)) | (cases hb.1)
      · cases hz
    · cases hz
  · cases hz

theorem VV.cells_val (z : VV) : z.val.cells = (z.cells.map Lf.val).toArray := by
  cases z with
  | lf x =>
    have := Lf.val_one x
    simp only [VV.val, VV.cells, List.map_cons, List.map_nil]
    cases hx : x.val <;> first | rfl | (rw [hx] at this; cases this)
  | agg l => rfl

theorem splice_some {cs xs l : List Lf} {off : Nat} (h : splice cs off xs = some l) : off + xs.length ≤ cs.length ∧ l = cs.take off ++ (xs ++ cs.drop (off + xs.length)) := by
  unfold splice at h
  cases hb : Nat.ble (off + xs.length) cs.length with
  | true => rw [hb] at h; exact ⟨Nat.le_of_ble_eq_true hb, (Option.some.inj h).symm⟩
  | false => rw [hb] at h; cases h

theorem wr_splice : ∀ (vs : List Value) (c : List Value) (off : Nat), off + vs.length ≤ c.length → wr c.toArray off vs = (c.take off ++ (vs ++ c.drop (off + vs.length))).toArray
  | [], c, off, _ => by simp [wr]
  | v :: vs, c, off, hl => by
    simp only [List.length_cons] at hl
    have ih := wr_splice vs (c.set off v) (off + 1) (by simp; omega)
    simp only [wr, List.setIfInBounds_toArray, ih]
    congr 1
    have e1 : (c.set off v).take (off + 1) = c.take off ++ [v] := by
      rw [List.take_succ_eq_append_getElem (by simp; omega)]
      simp [List.take_set_of_le]
    have e2 : (c.set off v).drop (off + 1 + vs.length) = c.drop (off + (vs.length + 1)) := by
      rw [List.drop_set_of_lt (by omega)]
      congr 1; omega
    rw [e1, e2]
    simp

theorem foldl_wr : ∀ (vs : List Value) (k off : Nat) (c : Array Value),
    (vs.zipIdx k).foldl (fun cs (p : Value × Nat) => cs.setIfInBounds (off + p.2) p.1) c = wr c (off + k) vs
  | [], k, off, c => rfl
  | v :: vs, k, off, c => by
    simp only [List.zipIdx_cons, List.foldl_cons, wr]
    rw [foldl_wr vs (k + 1) off]
    rfl

theorem vtOf_run {t : TypeId} {vt : VT} (h : vtOf P t = some vt) : ∃ i, P.info? t = some i ∧ i.size = vt.lts.length := by
  cases vt with
  | one x => obtain ⟨i, hi, hs, _⟩ := vt_one h; exact ⟨i, hi, hs⟩
  | agg ts => obtain ⟨i, hi, hs, _⟩ := vt_agg h; exact ⟨i, hi, hs⟩

theorem mapM_places {fs : List Field} (h : fs.all (fun f => known P f.type) = true) (W' : World) :
    (fs.mapM (fun f => do pure (f.offset, ← sizeOf f.type) : Field → Sem (Nat × Nat))).run P W' = .ok (fs.map fun f => (f.offset, szOf P f.type)) W' := by
  induction fs with
  | nil => simp
  | cons f fs ih =>
    simp only [List.all_cons, Bool.and_eq_true] at h
    obtain ⟨ty, hty⟩ := known_some h.1
    have hsz : szOf P f.type = ty.size := by simp [szOf, hty]
    simp only [List.mapM_cons, Sem.run_bind, run_sz hty, Result.andThen_ok, Sem.run_pure, ih h.2, List.map_cons, hsz]

theorem build_fill {st : St} {h : Heap} {a : Act} {W : World} (r : Rel st h a W) {t : TypeId} {fs : Array Field} (hu : P.underlying t = some (.struct fs)) :
    ∀ (ps : List (Nat × Operand)) (cs out : List Lf), buildCells P t (ps.map fun p => (p.1, st.ev p.2)) cs = some out →
      Instr.fill (fun i => ((fs.toList.map fun f => (f.offset, szOf P f.type)).toArray)[i]?) (cs.map Lf.val).toArray (ps.map fun p => (p.1, a.eval p.2)) = some (out.map Lf.val).toArray
  | [], cs, out, hb => by cases hb; simp [Instr.fill]
  | (i, x) :: ps, cs, out, hb => by
    simp only [List.map_cons] at hb
    have hx := r.ev x
    cases hs : st.ev x with
    | v y =>
      rw [hs] at hb hx
      simp only [buildCells] at hb
      split at hb
      · rename_i off vt hf
        split at hb
        · rename_i cs' hlen hsp
          have hlen := Nat.eq_of_beq_eq_true hlen
          obtain ⟨hle, hcs'⟩ := splice_some hsp
          simp only [SVr] at hx
          unfold fieldVT at hf
          rw [hu] at hf
          simp only at hf
          split at hf
          · rename_i fl hfl
            split at hf
            · rename_i vt' hvt
              simp only [Option.some.injEq, Prod.mk.injEq] at hf
              obtain ⟨rfl, rfl⟩ := hf
              obtain ⟨ty, hty, hsz⟩ := vtOf_run hvt
              have hszo : szOf P fl.type = vt'.lts.length := by simp [szOf, hty, hsz]
              have hc := VV.cells_val y
              have hplace : ((fs.toList.map fun f => (f.offset, szOf P f.type)).toArray)[i]? = some (fl.offset, vt'.lts.length) := by
                simp [hfl, hszo]
              have hcond : (y.val.cells.size ≠ vt'.lts.length || decide (fl.offset + y.val.cells.size > (cs.map Lf.val).toArray.size)) = false := by
                rw [hc]; simp [hlen]; omega
              have hfold : (y.val.cells.zipIdx.foldl (fun cs (p : Value × Nat) => cs.setIfInBounds (fl.offset + p.2) p.1) (cs.map Lf.val).toArray) = (cs'.map Lf.val).toArray := by
                rw [hc]
                have := foldl_wr (y.cells.map Lf.val) 0 fl.offset (cs.map Lf.val).toArray
                simp only [Nat.add_zero] at this
                rw [← Array.foldl_toList, Array.toList_zipIdx, this, wr_splice _ _ _ (by simp; omega), hcs']
                simp [List.map_take, List.map_drop]
              simp only [List.map_cons, Instr.fill, hplace, hx, hcond, Bool.false_eq_true, if_false]
              rw [hfold]
              exact build_fill r hu ps cs' out hb
            · cases hf
          · cases hf
        · cases hb
      · cases hb
    | _ => rw [hs] at hb; cases hb

variable {st : St} {h : Heap} {a : Act} {W : World} {K : SV → Cond → Prop} {dst : Option Tmp} {type : TypeId} {pos : String} {after : Array Edge} {guard : Option (Nat × Bool)}

theorem s_build (r : Rel st h a W) {t : TypeId} {ps : Array (Nat × Operand)} (hv : vcS P ⟨dst, .build t ps, type, pos, after, guard⟩ st h K) : YS P ⟨dst, .build t ps, type, pos, after, guard⟩ st h a K := by
  simp only [vcS] at hv
  split at hv
  · rename_i hok
    obtain ⟨z, hz, hv⟩ := opt_some hv
    obtain ⟨cs, hcs, hv⟩ := opt_some hv
    obtain ⟨i, hi, hiz, hsz, hzc⟩ := zeroOf_run hz
    unfold structOk at hok
    split at hok
    · rename_i fs hu
      refine .tt _ hv rfl fun W' => ?_
      have hfill := build_fill r hu ps.toList z.cells cs hcs
      have hpl := mapM_places (P := P) hok W'
      have hpl' : (fs.mapM (fun f => do pure (f.offset, ← sizeOf f.type) : Field → Sem (Nat × Nat))).run P W' = .ok (fs.toList.map fun f => (f.offset, szOf P f.type)).toArray W' := by
        rw [← Array.toArray_toList (xs := fs), List.mapM_toArray]
        simp only [Sem.run_map, hpl, Result.andThen_ok]
      have hps : (ps.map fun p => (p.1, a.eval p.2)).toList = ps.toList.map fun p => (p.1, a.eval p.2) := by simp
      have hrun : (Instr.build t (ps.map fun p => (p.1, a.eval p.2))).run P W' = .ok (VV.agg cs).val W' := by
        simp only [Instr.build, Sem.run_bind, zeroValue, typeInfo, run_program, Result.andThen_ok, hi, hiz, Sem.run_pure, run_underlying hu, hpl', hps, hzc]
        rw [hfill]
        rfl
      simp only [execOp, Sem.run_bind]
      rw [show (ps.map fun x => match x with | (i, x) => (i, a.eval x)) = (ps.map fun p => (p.1, a.eval p.2)) from rfl, hrun]
      rfl
    · cases hok
  · exact hv.elim

end
end Go.V
/-! Pointers told apart; maps read. -/
namespace Go.V
section
variable {P : Program}

theorem run_sameAddr {W : World} {b b' o o' : Nat} (h : b = b' ∨ (plainAt W.heap b ∧ plainAt W.heap b')) :
    (sameAddr ⟨b, o, none⟩ ⟨b', o', none⟩).run P W = .ok (decide ((b, o) = (b', o'))) W := by
  by_cases e : b = b'
  · subst e
    simp only [sameAddr, beq_self_eq_true, if_true, Sem.run_pure]
    congr 1
    rw [Bool.eq_iff_iff]
    simp
  · rcases h with h | ⟨⟨c, t, h1⟩, ⟨c', t', h2⟩⟩
    · exact absurd h e
    · have hb : ((b == b') = false) := by simpa using e
      have f1 : ∀ x : Nat, W.frozen? ⟨b, x, none⟩ = false := fun x => by simp [World.frozen?, h1]
      have f2 : ∀ x : Nat, W.frozen? ⟨b', x, none⟩ = false := fun x => by simp [World.frozen?, h2]
      have s1 : W.shape? b = some (t, c.size) := by simp [World.shape?, h1]
      have s2 : W.shape? b' = some (t', c'.size) := by simp [World.shape?, h2]
      simp only [sameAddr, hb, Bool.false_eq_true, if_false, Sem.run_bind, frozen, Sem.run, f1, f2, Result.andThen, Bool.false_and, noView, viewAt, shape, s1, s2, mayBeOne, stringish, Sem.run_pure, Option.isSome]
      simp [Sem.run, f1, f2, s1, s2, Result.andThen, e]

theorem eq_ptr2d (d : Nat) {t e : TypeId} (hu : P.underlying t = some (.pointer e)) (hs : szOf P e ≠ 0) {a b : Option (Nat × Nat)} {W : World} (h : PEq W.heap a b) :
    (Op.equalIn (d + 1) t (.pointer (padr a)) (.pointer (padr b))).run P W = .ok (ptrEq a b) W := by
  have hi : ∃ i, P.info? e = some i ∧ i.size ≠ 0 := by
    unfold szOf at hs
    cases hh : P.info? e with
    | none => rw [hh] at hs; exact absurd rfl hs
    | some i => rw [hh] at hs; exact ⟨i, rfl, hs⟩
  obtain ⟨i, hi, hs⟩ := hi
  unfold Op.equalIn
  cases a with
  | none =>
    cases b with
    | none => simp [run_underlying hu, padr, ptrEq]
    | some q => simp [run_underlying hu, padr, ptrEq]
  | some p =>
    cases b with
    | none => simp [run_underlying hu, padr, ptrEq]
    | some q =>
      obtain ⟨b1, o1⟩ := p
      obtain ⟨b2, o2⟩ := q
      have hsame := run_sameAddr (P := P) (o := o1) (o' := o2) h
      simp only [Sem.run_bind, run_underlying hu, Result.andThen_ok, padr, run_sz hi, ne_eq, hs, not_false_eq_true, if_true, hsame, ptrEq]
      congr 1
      simp

theorem eq_ptr2 {t e : TypeId} (hu : P.underlying t = some (.pointer e)) (hs : szOf P e ≠ 0) {a b : Option (Nat × Nat)} {W : World} (h : PEq W.heap a b) :
    (Op.equal t (.pointer (padr a)) (.pointer (padr b))).run P W = .ok (ptrEq a b) W := eq_ptr2d 9999 hu hs h

theorem ptrEq_iff (a b : Option (Nat × Nat)) : ptrEq a b = true ↔ a = b := by simp [ptrEq]

def KeyLT : LT → Prop
  | .int _ | .bool | .str | .ptr => True
  | _ => False
def KeyTy (P : Program) (kT : TypeId) : LT → Prop
  | .int k => P.underlying kT = some (.int k)
  | .bool => P.underlying kT = some .bool
  | .str => P.underlying kT = some .string
  | .ptr => ∃ e, P.underlying kT = some (.pointer e) ∧ szOf P e ≠ 0
  | _ => False

theorem keq_iff : ∀ {kt : LT}, KeyLT kt → ∀ a b : kt.den, keq kt a b = true ↔ a = b
  | .int k, _, a, b => by show ((a : Int) == b) = true ↔ a = b; exact beq_iff_eq
  | .bool, _, a, b => by show ((a : Bool) == b) = true ↔ a = b; exact beq_iff_eq
  | .str, _, a, b => MapKept.bytes_beq a b
  | .ptr, _, a, b => ptrEq_iff a b
  | .slc, h, _, _ => h.elim
  | .map, h, _, _ => h.elim
  | .raw, h, _, _ => h.elim

theorem keyKind_cases {kT : TypeId} {kt : LT} (h : keyKind P kT = some kt) : KeyTy P kT kt := by
  unfold keyKind at h
  split at h
  · rename_i k hk; cases h; exact hk
  · rename_i hk; cases h; exact hk
  · rename_i hk; cases h; exact hk
  · rename_i e hk
    split at h
    · cases h
    · rename_i n hn; cases h; exact ⟨e, hk, by rw [hn]; exact Nat.succ_ne_zero n⟩
  · cases h

theorem keyKind_ok {kT : TypeId} {kt : LT} (h : keyKind P kT = some kt) : KeyLT kt := by
  have := keyKind_cases h
  cases kt <;> first | trivial | exact this

theorem mlook_now {kt : LT} {vt : VT} {k : kt.den} {t : TypeDesc} (hs : ∀ e : ME kt, Instr.sameNow t (kt.mk k).val (kt.mk e.key).val = some (keq kt k e.key)) :
    ∀ (es : List (ME kt)) (i : Nat), Instr.findNow t (kt.mk k).val (es.map (ME.obj vt)) i = some ((mlook kt k es i).map fun x => (x.1, (vt.put x.2.val).val))
  | [], i => rfl
  | e :: es, i => by
    have h1 := hs e
    simp only [List.map_cons, Instr.findNow, ME.obj, h1, mlook]
    cases hk : keq kt k e.key with
    | true => simp
    | false => simp only [Bool.false_eq_true, if_false]; exact mlook_now hs es (i + 1)

theorem find_run {kT : TypeId} {kt : LT} (hk : keyKind P kT = some kt) (vt : VT) (k : kt.den) (es : List (ME kt)) {W : World} (hok : KOk W.heap kt k es) :
    (∀ b, (Instr.checkKey b 10000 kT (kt.mk k).val).run P W = .ok () W) ∧
    (Instr.findKey kT (kt.mk k).val (es.map (ME.obj vt))).run P W = .ok ((mlook kt k es 0).map fun x => (x.1, (vt.put x.2.val).val)) W := by
  have hc := keyKind_cases hk
  cases kt with
  | int q =>
    have hu : P.underlying kT = some (.int q) := hc
    refine ⟨fun b => MapKept.run_checkKey (n := 9999) hu (by simp [MapKept.IsKey, LT.mk, Lf.val]) b, MapKept.run_findKey hu (mlook_now (fun e => ?_) es 0)⟩
    simp [Instr.sameNow, LT.mk, Lf.val, keq]
  | bool =>
    have hu : P.underlying kT = some .bool := hc
    refine ⟨fun b => MapKept.run_checkKey (n := 9999) hu (by simp [MapKept.IsKey, LT.mk, Lf.val]) b, MapKept.run_findKey hu (mlook_now (fun e => ?_) es 0)⟩
    simp [Instr.sameNow, LT.mk, Lf.val, keq]
  | str =>
    have hu : P.underlying kT = some .string := hc
    refine ⟨fun b => MapKept.run_checkKey (n := 9999) hu (by simp [MapKept.IsKey, LT.mk, Lf.val]) b, MapKept.run_findKey hu (mlook_now (fun e => ?_) es 0)⟩
    simp [Instr.sameNow, LT.mk, Lf.val, keq, strEq]
  | ptr =>
    obtain ⟨e, hu, hs⟩ := hc
    refine ⟨fun b => ?_, ?_⟩
    · simp only [LT.mk, Lf.val]
      unfold Instr.checkKey
      simp only [Sem.run_bind, run_underlying hu, Result.andThen_ok]
      cases b <;> simp
    · have key : ∀ (l : List (ME .ptr)) (i : Nat), KOk W.heap .ptr k l → (Instr.findAsking kT (LT.ptr.mk k).val (l.map (ME.obj vt)) i).run P W = .ok ((mlook .ptr k l i).map fun x => (x.1, (vt.put x.2.val).val)) W := by
        intro l
        induction l with
        | nil => intro i _; rfl
        | cons x l ih =>
          intro i hok
          have hx : (Op.equal kT (.pointer (padr k)) (.pointer (padr x.key))).run P W = .ok (ptrEq k x.key) W := eq_ptr2 hu hs (hok x (List.mem_cons_self ..))
          simp only [List.map_cons, Instr.findAsking, ME.obj, LT.mk, Lf.val, Sem.run_bind, hx, Result.andThen_ok, mlook]
          have hke : keq .ptr k x.key = ptrEq k x.key := rfl
          rw [hke]
          cases hp : ptrEq k x.key with
          | true => simp
          | false =>
            simp only [Bool.false_eq_true, if_false]
            exact ih (i + 1) fun e he => hok e (List.mem_cons_of_mem _ he)
      have hnow : Instr.findNow (.pointer e) (LT.ptr.mk k).val (es.map (ME.obj vt)) 0 = match es with | [] => some none | _ => none := by
        cases es with
        | nil => rfl
        | cons x es => simp [Instr.findNow, Instr.sameNow]
      unfold Instr.findKey
      simp only [Sem.run_bind, run_underlying hu, Result.andThen_ok, hnow]
      cases es with
      | nil => simp [mlook]
      | cons x es => exact key _ 0 hok
  | slc => exact hc.elim
  | map => exact hc.elim
  | raw => exact hc.elim

theorem mapT_elim {t : TypeId} {K : LT → VT → List Lf → Prop} (h : mapT P t K) : ∃ kT eT kt vt z, P.underlying t = some (.map kT eT) ∧ keyKind P kT = some kt ∧ vtOf P eT = some vt ∧ zeroOf P eT = some z ∧ K kt vt z.cells := by
  unfold mapT at h
  split at h
  · rename_i kT eT hu
    obtain ⟨kt, hk, h⟩ := opt_some h
    obtain ⟨vt, hv, h⟩ := opt_some h
    obtain ⟨z, hz, h⟩ := opt_some h
    exact ⟨kT, eT, kt, vt, z, hu, hk, hv, hz, h⟩
  · exact h.elim

theorem put_cells {t : TypeId} {vt : VT} {z : VV} (hv : vtOf P t = some vt) (hz : zeroOf P t = some z) : vt.put z.cells = z := by
  unfold vtOf at hv
  unfold zeroOf at hz
  split at hv
  · rename_i i hi
    rw [hi] at hz
    simp only at hz
    split at hv
    · rename_i cs hzz hagg
      rw [hzz] at hz
      simp only at hz
      split at hv
      · cases hv
        split at hz
        · cases hz; rfl
        · cases hz
      · cases hv
    · cases hv
    · rename_i v _ hne hzz hagg
      split at hv
      · cases hv
        rw [hzz] at hz
        split at hz
        · rename_i cs heq; cases heq; exact absurd rfl (hne cs)
        · rename_i v' heq
          cases heq
          split at hz
          · cases hz; rfl
          · cases hz
        · cases hz
      · cases hv
    · cases hv
  · cases hv

theorem zero_run {t : TypeId} {z : VV} (hz : zeroOf P t = some z) (W : World) : (zeroValue t).run P W = .ok z.val W := by
  obtain ⟨i, hi, hiz, _⟩ := zeroOf_run hz
  simp [zeroValue, typeInfo, hi, hiz]

theorem lookup_run {t kT eT : TypeId} {kt : LT} {vt : VT} {z : VV} (hu : P.underlying t = some (.map kT eT)) (hk : keyKind P kT = some kt) (hv : vtOf P eT = some vt) (hz : zeroOf P eT = some z)
    {m : Option Nat} {k : kt.den} {l : List Lf} {f : Bool} {W : World} (h : LookR W.heap kt vt z.cells m k l f) (ok : Bool) :
    (Instr.lookup t (.map m) (kt.mk k).val ok).run P W = .ok (if ok then .tuple #[(vt.put l).val, .bool f] else (vt.put l).val) W := by
  unfold Instr.lookup
  cases m with
  | none =>
    obtain ⟨rfl, rfl⟩ := h
    have hf := find_run (P := P) hk vt k [] (W := W) (by cases kt <;> simp [KOk])
    simp only [Sem.run_bind, run_underlying hu, Result.andThen_ok, Sem.run_pure, hf.1, List.map_nil] at *
    have h2 : (Instr.findKey kT (kt.mk k).val []).run P W = .ok none W := hf.2
    simp only [h2, Result.andThen_ok, Sem.run_bind, zero_run hz, Sem.run_pure, put_cells hv hz]
  | some r =>
    obtain ⟨es, clock, hr, hok, hm⟩ := h
    have hf := find_run (P := P) hk vt k es hok
    have hg := MapKept.run_getObj_map (P := P) hr
    simp only [Sem.run_bind, run_underlying hu, Result.andThen_ok, hg, Sem.run_pure, hf.1, hf.2]
    unfold mget at hm
    cases hl : mlook kt k es 0 with
    | none =>
      rw [hl] at hm
      obtain ⟨rfl, rfl⟩ := hm
      simp only [Option.map_none, Sem.run_bind, zero_run hz, Result.andThen_ok, Sem.run_pure, put_cells hv hz]
    | some x =>
      rw [hl] at hm
      obtain ⟨rfl, rfl⟩ := hm
      simp only [Option.map_some, Sem.run_bind, Sem.run_pure, Result.andThen_ok]

variable {st : St} {h : Heap} {a : Act} {W : World} {K : SV → Cond → Prop} {dst : Option Tmp} {type : TypeId} {pos : String} {after : Array Edge} {guard : Option (Nat × Bool)}

theorem vvs_run {h : Heap} (r : Rel st h a W) : ∀ (l : List Operand) (vs : List VV), vvs (l.map st.ev) = some vs → l.map a.eval = vs.map VV.val
  | [], vs, hv => by cases hv; rfl
  | x :: l, vs, hv => by
    have hx := r.ev x
    simp only [List.map_cons] at hv
    cases hs : st.ev x with
    | v y =>
      rw [hs] at hv hx
      simp only [vvs] at hv
      split at hv
      · rename_i m hm
        cases hv
        simp only [SVr] at hx
        simp [hx, vvs_run r l m hm]
      · cases hv
    | _ => rw [hs] at hv; cases hv

theorem s_makeFunc (r : Rel st h a W) {f : Fn} {first capt : Array Operand} (hv : vcS P ⟨dst, .makeFunc f first capt, type, pos, after, guard⟩ st h K) : YS P ⟨dst, .makeFunc f first capt, type, pos, after, guard⟩ st h a K := by
  simp only [vcS] at hv
  split at hv
  · rename_i g
    obtain ⟨l, hl, hv⟩ := opt_some hv
    obtain ⟨m, hm, hv⟩ := opt_some hv
    have h1 : first.map a.eval = (l.map VV.val).toArray := by apply Array.ext'; simpa using vvs_run r _ _ hl
    have h2 : capt.map a.eval = (m.map VV.val).toArray := by apply Array.ext'; simpa using vvs_run r _ _ hm
    refine .tt _ hv rfl fun W' => ?_
    simp [execOp, Instr.makeFunc, h1, h2, VV.val, Lf.val, oneV, Value.oneCell']
  · exact hv.elim

theorem s_lookup (r : Rel st h a W) {t : TypeId} {x i : Operand} {ok : Bool} (hv : vcS P ⟨dst, .lookup t x i ok, type, pos, after, guard⟩ st h K) : YS P ⟨dst, .lookup t x i ok, type, pos, after, guard⟩ st h a K := by
  simp only [vcS] at hv
  obtain ⟨kT, eT, kt, vt, z, hu, hk, hvt, hz, hv⟩ := mapT_elim hv
  have hx := r.ev x
  have hi := r.ev i
  split at hv
  · rename_i m k he he'
    rw [he] at hx; rw [he'] at hi
    simp only [SVr, VV.val, Lf.val] at hx hi
    obtain ⟨d, hd, hv⟩ := opt_some hv
    obtain ⟨l, hl, f, hlook, hv⟩ := ExL_elim hv
    have hkv : k.val = (kt.mk d).val := by rw [LT.get_mk hd]
    refine ⟨if ok then .tuple #[(vt.put l).val, .bool f] else (vt.put l).val, _, _, hv, ?_, hlook, fun _ _ e => (by cases e), fun W' hW' => ?_⟩
    · cases ok <;> rfl
    · simp only [execOp, hx]
      have hi' : a.eval i = (kt.mk d).val := by rw [← hkv]; exact hi
      simp only [hi', Sem.run_bind, lookup_run hu hk hvt hz hW' ok, Result.andThen_ok, Sem.run_pure]
  · exact hv.elim

end
end Go.V
