/- This text proves a part of the laws of seat Ytclffphegfhocaa, under no condition: VB. -/
import Derived.Test.YtclffphegfhocaaVA
set_option linter.unusedVariables false
namespace Go.V

def SV.vv : SV → Option VV
  | .v x => some x
  | _ => none

def vvs : List SV → Option (List VV)
  | [] => some []
  | .v x :: l => match vvs l with | some r => some (x :: r) | none => none
  | _ :: _ => none

def opt {α : Type} (o : Option α) (K : α → Prop) : Prop := match o with
  | some x => K x
  | none => False

def fieldVT (P : Program) (s : TypeId) (i : Nat) : Option (Nat × VT) := match P.underlying s with
  | some (.struct fs) => match fs[i]? with
    | some f => match vtOf P f.type with
      | some vt => some (f.offset, vt)
      | none => none
    | none => none
  | _ => none

def vcSCall (P : Program) (c : Go.Call) (st : St) (K : SV → Cond → Prop) : Prop :=
  match c.callee, c.args.toList, c.argTypes.toList with
  | .builtin .len, [x], [t] => (match P.underlying t, st.ev x with
    | some .string, .v (.lf (.str s)) => K (.v (.lf (.int .i64 s.size))) .tt
    | some (.slice _), .v (.lf (.slc s)) => K (.v (.lf (.int .i64 s.len))) .tt
    | _, _ => False)
  | .builtin .cap, [x], [t] => (match P.underlying t, st.ev x with
    | some (.slice _), .v (.lf (.slc s)) => K (.v (.lf (.int .i64 s.cap))) .tt
    | _, _ => False)
  | .builtin .max, [x, y], _ => (match st.ev x, st.ev y with
    | .v (.lf (.int k a)), .v (.lf (.int _ b)) => K (.v (.lf (.int k (if b > a then b else a)))) .tt
    | _, _ => False)
  | .builtin .min, [x, y], _ => (match st.ev x, st.ev y with
    | .v (.lf (.int k a)), .v (.lf (.int _ b)) => K (.v (.lf (.int k (if b < a then b else a)))) .tt
    | _, _ => False)
  | _, _, _ => False

def splice (cs : List Lf) (off : Nat) (xs : List Lf) : Option (List Lf) :=
  match Nat.ble (off + xs.length) cs.length with
  | true => some (cs.take off ++ (xs ++ cs.drop (off + xs.length)))
  | false => none

/-- A struct out of its parts. -/
def buildCells (P : Program) (t : TypeId) : List (Nat × SV) → List Lf → Option (List Lf)
  | [], cs => some cs
  | (i, .v x) :: r, cs => match fieldVT P t i with
    | some (off, vt) => (match Nat.beq x.cells.length vt.lts.length, splice cs off x.cells with
      | true, some cs' => buildCells P t r cs'
      | _, _ => none)
    | none => none
  | _, _ => none

def structOk (P : Program) (t : TypeId) : Bool := match P.underlying t with
  | some (.struct fs) => fs.toList.all fun f => known P f.type
  | _ => false

/-- An operation that changes nothing in memory: what it yields, and on what that hangs. -/
def vcS (P : Program) (o : Oper) (st : St) (h : Heap) (K : SV → Cond → Prop) : Prop :=
  match o.op with
  | .move x | .assign x => K (st.ev x) .tt
  | .pick c a b => match st.ev c with
    | .v (.lf (.bool bb)) => Br bb (K (st.ev a) .tt) (K (st.ev b) .tt)
    | _ => False
  | .nilCheck x => match st.ev x with
    | .loc i off => opt (st.loc i) fun _ => K (.loc i off) .tt
    | .v (.lf (.ptr p)) => NilC p fun b off => K (.v (.lf (.ptr (some (b, off))))) .tt
    | _ => False
  | .fieldAddr s x f => opt (fieldOff P s f) fun fo => match st.ev x with
    | .loc i off => opt (st.loc i) fun _ => K (.loc i (off + fo)) .tt
    | .v (.lf (.ptr (some (b, off)))) => K (.v (.lf (.ptr (some (b, off + fo))))) .tt
    | _ => False
  | .field t x f => match st.ev x with
    | .v (.agg l) => opt (fieldVT P t f) fun (off, vt) => opt (svL l off vt.lts.length) fun cs => K (.v (vt.put cs)) .tt
    | _ => False
  | .indexAddr t x i => match st.ev x, st.ev i, P.underlying t with
    | .v (.lf (.slc s)), .v (.lf (.int _ n)), some (.slice e) => (match known P e with | true => IxC s n (szOf P e) fun b off => K (.v (.lf (.ptr (some (b, off))))) .tt | false => False)
    | _, _, _ => False
  | .index t x i => match st.ev x, st.ev i, P.underlying t with
    | .v (.lf (.str s)), .v (.lf (.int _ n)), some .string => 0 ≤ n ∧ n < (s.size : Int) ∧ K (.v (.lf (.int .u8 (bt s n)))) .tt
    | _, _, _ => False
  | .load t x => opt (vtOf P t) fun vt => match st.ev x with
    | .loc i off => opt (st.loc i) fun l => opt (svL l.cs off vt.lts.length) fun cs => K (.v (vt.put cs)) (.loc i l)
    | .v (.lf (.ptr (some (b, off)))) => ExL vt.lts fun l => cellsAt h b off l ∧ K (.v (vt.put l)) (.cells b off l)
    | _ => False
  | .binOp op t x y _ => bin P op t (st.ev x) (st.ev y) fun r => K (.v (.lf r)) .tt
  | .unOp op _ x => match op, st.ev x with
    | .neg, .v (.lf (.int k n)) => K (.v (.lf (.int k (k.wrap (0 - n))))) .tt
    | .xor, .v (.lf (.int k n)) => K (.v (.lf (.int k (bitop k .xor (if k.signed then -1 else k.max) n)))) .tt
    | .not, .v (.lf (.bool b)) => K (.v (.lf (.bool (!b)))) .tt
    | _, _ => False
  | .convert src dst x => match P.underlying src, P.underlying dst, st.ev x with
    | some _, some (.int k), .v (.lf (.int _ n)) => K (.v (.lf (.int k (k.wrap n)))) .tt
    | some _, some .string, .v (.lf (.str s)) => K (.v (.lf (.str s))) .tt
    | some (.slice e), some .string, .v (.lf (.slc s)) => (match P.underlying e with
      | some (.int .u8) => ∃ x : ByteArray, bytesAt h s x ∧ K (.v (.lf (.str x))) (match s.a with | some (b, off) => .cells b off (x.data.toList.map fun c => .int .u8 c.toNat) | none => .tt)
      | _ => False)
    | _, _, _ => False
  | .extract t i => match st.ev t with
    | .tup l => opt l[i]? fun x => K (.v x) .tt
    | _ => False
  | .slice t x lo hi mx => match st.ev x, P.underlying t with
    | .v (.lf (.slc s)), some (.slice e) => (match known P e with
      | true => bound (mx.map st.ev) s.cap s.cap fun m => bound (hi.map st.ev) s.len m fun h' => bound (lo.map st.ev) 0 h' fun l => match mx, hi with | some _, none => False | _, _ => K (.v (.lf (.slc (s.sub (szOf P e) l h' m)))) .tt
      | false => False)
    | .v (.lf (.str s)), some .string => (match mx with
      | none => bound (hi.map st.ev) s.size s.size fun h' => bound (lo.map st.ev) 0 h' fun l => K (.v (.lf (.str (s.extract l h')))) .tt
      | some _ => False)
    | _, _ => False
  | .makeInterface t x => match P.underlying t, st.ev x with
    | some (.interface _), _ => False
    | some _, .v x => K (.v (.lf (.raw (.iface t x.val)))) .tt
    | _, _ => False
  | .call c => vcSCall P c st K
  | .build t ps => match structOk P t with
    | true => opt (zeroOf P t) fun z => opt (buildCells P t (ps.toList.map fun p => (p.1, st.ev p.2)) z.cells) fun cs => K (.v (.agg cs)) .tt
    | false => False
  | _ => False

def stillB (P : Program) (o : Oper) : Bool :=
  match o.op with
  | .move _ | .assign _ | .pick .. | .nilCheck _ | .fieldAddr .. | .field .. | .indexAddr .. | .index .. | .load .. | .binOp .. | .unOp .. | .extract .. | .slice .. | .makeInterface .. | .build .. => true
  | .convert _ dst _ => match P.underlying dst with | some (.slice _) => false | _ => true
  | .call c => (match c.callee with | .builtin .len => true | .builtin .cap => true | .builtin .max => true | .builtin .min => true | _ => false)
  | _ => false

/-- What the prover chose for a function: where ways meet, what goes on; which variables in memory are followed. -/
structure JSpec where
  slots : List (Nat × VT)
  locs : List (Nat × List LT)
  drop : List Nat

/-- In which order a region's operations are looked at: what only reads is taken first. -/
inductive DPlan where
  | done
  | still (i : Nat) (rest : DPlan)
  | mem (i : Nat) (rest : DPlan)
  | alt (i : Nat) (rest other : DPlan)

structure Plan where
  blk : Nat → Option JSpec
  seq : Nat → Option JSpec
  loop : Nat → Option JSpec
  live : Nat → Option (List Nat)
  track : Nat → Bool
  draw : Nat → DPlan

def locBs : List (Option Loc) → List Nat
  | [] => []
  | some l :: r => l.b :: locBs r
  | none :: r => locBs r

def partsOf (sz : Nat) : Nat → List (Nat × SV) → Option (List Lf)
  | _, [] => some []
  | i, (j, .v x) :: r => match Nat.beq i j && Nat.beq x.cells.length sz with
    | true => match partsOf sz (i + 1) r with | some l => some (x.cells ++ l) | none => none
    | false => none
  | _, _ => none

def vtsOf (P : Program) : List TypeId → Option (List VT)
  | [] => some []
  | t :: ts => match vtOf P t with
    | some v => match vtsOf P ts with | some r => some (v :: r) | none => none
    | none => none

def retSV : List VV → SV
  | [x] => .v x
  | l => .tup l

def callee (st : St) : Operand → Option (FuncId × List VV × List VV)
  | .func f => some (f, [], [])
  | _ => none

def keepC (h h' : Heap) (l : List Nat) (X : Prop) : Prop := match l with
  | [] => X
  | l => keepB h h' l ∧ X

def vcAppend (P : Program) (t u : TypeId) (a x : SV) (st : St) (h : Heap) (K : SV → St → Heap → Prop) : Prop :=
  match P.underlying t, P.underlying u, a, x with
  | some (.slice e), some (.slice _), .v (.lf (.slc s)), .v (.lf (.slc s')) => opt (zeroOf P e) fun z =>
      AppC e z.cells (szOf P e) (bytesOf P e) s s' h fun r h' => keepC h h' (locBs st.ls) (K (.v (.lf (.slc r))) st h')
  | some (.slice e), some .string, .v (.lf (.slc s)), .v (.lf (.str s')) => (match P.underlying e, zeroOf P e with
    | some (.int .u8), some z => AppV e (z.cells.map Lf.val) (szOf P e) (bytesOf P e) s s'.size (s'.data.toList.map fun c => Value.int .u8 c.toNat) h fun r h' => keepC h h' (locBs st.ls) (K (.v (.lf (.slc r))) st h')
    | _, _ => False)
  | _, _, _, _ => False

def vcMCall (P : Program) (c : Go.Call) (st : St) (h : Heap) (K : SV → St → Heap → Prop) : Prop :=
  match c.callee with
  | .builtin .append => (match c.args.toList, c.argTypes.toList with
    | [a, x], [t, u] => vcAppend P t u (st.ev a) (st.ev x) st h K
    | _, _ => False)
  | .value f => opt (callee st f) fun (f, first, capt) => opt P.funcs[f]? fun fn =>
      (match fn.body with
      | some _ => opt (vvs (c.args.toList.map st.ev)) fun vs => opt (vtsOf P fn.resultTypes.toList) fun vts =>
          Call P f (first ++ vs ++ capt) h vts (lam (lts vts) fun l h' => keepC h h' (locBs st.ls) (K (retSV (shape vts l)) st h'))
      | none => False)
  | _ => False

/-- An operation that makes or changes memory, or calls. -/
def vcM (P : Program) (pl : Plan) (o : Oper) (st : St) (h : Heap) (K : SV → St → Heap → Prop) (Qp : List PanicEntry → St → Heap → Prop) : Prop :=
  match o.op with
  | .alloc e => opt (zeroOf P e) fun z => New e z.cells h fun b h' => match pl.track (o.dst.getD 0) with
    | true => K (.loc st.ls.length 0) { st with ls := st.ls ++ [some ⟨b, e, z.cells, 0⟩] } h'
    | false => K (.v (.lf (.ptr (some (b, 0))))) st h'
  | .box e x => match st.ev x with
    | .v z => New e z.cells h fun b h' => (match pl.track (o.dst.getD 0) with
      | true => K (.loc st.ls.length 0) { st with ls := st.ls ++ [some ⟨b, e, z.cells, 0⟩] } h'
      | false => K (.v (.lf (.ptr (some (b, 0))))) st h')
    | _ => False
  | .store t a x => match st.ev x with
    | .v z => (match known P t && Nat.beq z.cells.length (szOf P t) with
      | true => (match st.ev a with
        | .loc i off => opt (st.loc i) fun l => opt (splice l.cs off z.cells) fun cs => Set l.b l.t cs h fun h' =>
            K .unk { st with ls := st.ls.set i (some ⟨l.b, l.t, cs, l.ver + 1⟩) } h'
        | .v (.lf (.ptr (some (b, off)))) => StC h b off z.cells fun h' => keepC h h' (locBs st.ls) (K .unk st h')
        | _ => False)
      | false => False)
    | _ => False
  | .buildSlice t n parts => match P.underlying t with
    | some (.slice e) => (match known P e && Nat.ble (n * szOf P e) 16777216 && Nat.beq parts.toList.length n with
      | true => opt (partsOf (szOf P e) 0 (parts.toList.map fun (i, x) => (i, st.ev x))) fun cs => opt (zeroOf P e) fun _ => New e cs h fun b h' => K (.v (.lf (.slc ⟨some (b, 0), n, n⟩))) st h'
      | false => False)
    | _ => False
  | .makeSlice t l c => match P.underlying t, st.ev l, st.ev c with
    | some (.slice e), .v (.lf (.int _ len)), .v (.lf (.int _ cap)) => opt (zeroOf P e) fun z => MkC e z.cells (szOf P e) (bytesOf P e) len cap h fun s h' => K (.v (.lf (.slc s))) st h'
    | _, _, _ => False
  | .convert src dst x => match P.underlying src, P.underlying dst, st.ev x with
    | some .string, some (.slice e), .v (.lf (.str s)) => (match P.underlying e with
      | some (.int .u8) => S2B e s h fun s h' => K (.v (.lf (.slc s))) st h'
      | _ => False)
    | _, _, _ => False
  | .call c => vcMCall P c st h K
  | .panic x => match st.ev x with
    | .v (.lf (.raw (.iface t v))) => Qp [{ v := .iface t v, recovered := false }] st h
    | _ => False
  | _ => False

def vcOp (P : Program) (pl : Plan) (o : Oper) (st : St) (h : Heap) (K : St → Heap → Prop) (Qp : List PanicEntry → St → Heap → Prop) : Prop :=
  match stillB P o with
  | true => vcS P o st h fun s _ => K (st.put o.dst s) h
  | false => vcM P pl o st h (fun s st' h' => K (st'.put o.dst s) h') Qp

def dstAt (ops : List Oper) (j : Nat) : Option Nat := match ops[j]? with
  | some o => o.dst
  | none => none

/-- One operation, with its guard. -/
def vcG (P : Program) (pl : Plan) (ops : List Oper) (o : Oper) (run : St → Prop) (skip : St → Prop) (st : St) : Prop :=
  match o.guard with
  | none => run st
  | some (j, want) => match dstAt ops j with
    | none => False
    | some d => match st.get d with
      | .v (.lf (.bool b)) =>
        let st1 := fun c => { st with f := st.f.set d (.v (.lf (.bool c))) }
        match want with
        | true => Br b (run (st1 true)) (skip (st1 false))
        | false => Br b (skip (st1 true)) (run (st1 false))
      | .tup _ => skip st
      | _ => False

def vcOps (P : Program) (pl : Plan) (ops : List Oper) (Qp : List PanicEntry → St → Heap → Prop) (K : St → Heap → Prop) : List Oper → St → Heap → Prop
  | [], st, h => K st h
  | o :: rest, st, h => vcG P pl ops o (fun st => vcOp P pl o st h (vcOps P pl ops Qp K rest) Qp) (fun st => vcOps P pl ops Qp K rest (st.put o.dst (.tup [])) h) st


def waitsB (ops : Array Oper) (j i : Nat) : Bool := ((Region.before ops).getD j 0).testBit i

def conds (ops : Array Oper) (j : Nat) (st : St) (h : Heap) : List (Nat × Cond) → (List (Nat × Cond) → Prop) → Prop
  | [], K => K []
  | (i, c) :: l, K => match waitsB ops j i with
    | true => conds ops j st h l K
    | false => match c with
      | .tt => conds ops j st h l K
      | .cells b off x => cellsAt h b off x ∧ conds ops j st h l fun r => K ((i, .cells b off x) :: r)
      | .obj b o => h[b]? = some o ∧ conds ops j st h l fun r => K ((i, .obj b o) :: r)
      | .loc id x => match st.loc id with
        | some x' => (match Nat.beq x.ver x'.ver with | true => conds ops j st h l fun r => K ((i, .loc id x) :: r) | false => False)
        | none => False

/-- The operations that may come up: of one of several, this one, and the others. -/
def readyIs (ops : Array Oper) (listed : Array Bool) (l : List Nat) : Bool := Region.ready .any ops listed == l

def mayFirst (ops : Array Oper) (listed : Array Bool) (i : Nat) : Bool := (Region.ready .any ops listed).contains i && Region.free .any ops listed i

def vcDraw (P : Program) (pl : Plan) (ops : Array Oper) (Qp : List PanicEntry → St → Heap → Prop) (K : St → Heap → Prop) :
    DPlan → List Nat → Array Bool → List (Nat × Cond) → St → Heap → Prop
  | .done, _, listed, _, st, h => match readyIs ops listed [] with | true => K st h | false => False
  | .still i rest, _, listed, C, st, h => match mayFirst ops listed i with
    | true => opt ops[i]? fun o => match stillB P o with
      | true => vcG P pl ops.toList o
          (fun st => vcS P o st h fun s c => vcDraw P pl ops Qp K rest [] (listed.setIfInBounds i true) ((i, c) :: C) (st.put o.dst s) h)
          (fun st => vcDraw P pl ops Qp K rest [] (listed.setIfInBounds i true) C (st.put o.dst (.tup [])) h) st
      | false => False
    | false => False
  | .mem i rest, seen, listed, C, st, h => match readyIs ops listed (seen.reverse ++ [i]) with
    | true => opt ops[i]? fun o => vcG P pl ops.toList o
          (fun st => vcOp P pl o st h (fun st' h' => conds ops i st' h' C fun C' => vcDraw P pl ops Qp K rest [] (listed.setIfInBounds i true) C' st' h') Qp)
          (fun st => conds ops i st h C fun C' => vcDraw P pl ops Qp K rest [] (listed.setIfInBounds i true) C' (st.put o.dst (.tup [])) h) st
    | false => False
  | .alt i rest other, seen, listed, C, st, h =>
    (opt ops[i]? fun o => vcG P pl ops.toList o
          (fun st => vcOp P pl o st h (fun st' h' => conds ops i st' h' C fun C' => vcDraw P pl ops Qp K rest [] (listed.setIfInBounds i true) C' st' h') Qp)
          (fun st => conds ops i st h C fun C' => vcDraw P pl ops Qp K rest [] (listed.setIfInBounds i true) C' (st.put o.dst (.tup [])) h) st)
    ∧ vcDraw P pl ops Qp K other (i :: seen) listed C st h

/-- Slots that no one reads any more are forgotten. -/
def pruneF (keep : List Nat) : Nat → List SV → List SV
  | _, [] => []
  | i, x :: l => (match keep.contains i with | true => x | false => .unk) :: pruneF keep (i + 1) l

def usesLoc (id : Nat) : List SV → Bool
  | [] => false
  | .loc i _ :: l => Nat.beq i id || usesLoc id l
  | _ :: l => usesLoc id l

def pruneL (f : List SV) : Nat → List (Option Loc) → List (Option Loc)
  | _, [] => []
  | i, o :: l => (match usesLoc i f with | true => o | false => none) :: pruneL f (i + 1) l

def St.prune (st : St) (keep : Option (List Nat)) : St := match keep with
  | none => st
  | some k => let f := pruneF k 0 st.f
    { st with f := f, ls := pruneL f 0 st.ls }

def dsts (ops : List Oper) : List Nat := ops.filterMap fun o => o.dst

/-- The temporaries that code writes. -/
def writes : Code → List Nat
  | .region _ ops _ => dsts ops.toList
  | .seq a b => writes a ++ writes b
  | .cond _ a b => writes a ++ writes b
  | .block _ c => writes c
  | .loop c => writes c
  | _ => []

def firstId : Code → Option Nat
  | .region id _ _ => some id
  | .seq a b => match firstId a with | some i => some i | none => firstId b
  | .cond _ a b => match firstId a with | some i => some i | none => firstId b
  | .block _ c => firstId c
  | .loop c => firstId c
  | .scope c => firstId c
  | _ => none

def specAt (f : Nat → Option JSpec) : Option Nat → Option JSpec
  | some i => f i
  | none => none

/-- Where ways meet: what is carried on, out of a state. -/
def slotCells (st : St) : List (Nat × VT) → Option (List Lf)
  | [] => some []
  | (i, .one _) :: r => match st.get i with
    | .v (.lf x) => (match slotCells st r with | some l => some (x :: l) | none => none)
    | _ => none
  | (i, .agg ts) :: r => match st.get i with
    | .v (.agg xs) => (match Nat.beq xs.length ts.length with
      | true => (match slotCells st r with | some l => some (xs ++ l) | none => none)
      | false => none)
    | _ => none

def locCells (st : St) : List (Nat × List LT) → Option (List Lf)
  | [] => some []
  | (i, ts) :: r => match st.loc i with
    | some l => (match Nat.beq l.cs.length ts.length with
      | true => (match locCells st r with | some m => some (l.cs ++ m) | none => none)
      | false => none)
    | none => none

def jlts (s : JSpec) : List LT := lts (s.slots.map (·.2)) ++ s.locs.flatMap (·.2)

/-- What is neither carried nor given up stands as it stood. -/
def sameLocs (s : JSpec) (st0 st : St) : Nat → List (Option Loc) → Bool
  | _, [] => true
  | i, none :: r => sameLocs s st0 st (i + 1) r
  | i, some l :: r => (s.drop.contains i || s.locs.any (fun x => Nat.beq x.1 i) || (match st.loc i with | some l' => Nat.beq l.ver l'.ver | none => false)) && sameLocs s st0 st (i + 1) r

def jget (s : JSpec) (st0 st : St) : Option (List Lf) := match sameLocs s st0 st 0 st0.ls with
  | true => match slotCells st s.slots with
    | some a => match locCells st s.locs with | some b => some (a ++ b) | none => none
    | none => none
  | false => none

def setSlots : List (Nat × VT) → List Lf → List SV → List SV × List Lf
  | [], l, f => (f, l)
  | (i, .one _) :: r, x :: l, f => setSlots r l (f.set i (.v (.lf x)))
  | (i, .one _) :: r, [], f => setSlots r [] f
  | (i, .agg ts) :: r, l, f => setSlots r (l.drop ts.length) (f.set i (.v (.agg (l.take ts.length))))

def setLocs : List (Nat × List LT) → List Lf → List (Option Loc) → List (Option Loc)
  | [], _, ls => ls
  | (i, ts) :: r, l, ls => setLocs r (l.drop ts.length) (match ls[i]? with
    | some (some x) => ls.set i (some ⟨x.b, x.t, l.take ts.length, x.ver + 1⟩)
    | _ => ls)

def dropLocs : List Nat → List (Option Loc) → List (Option Loc)
  | [], ls => ls
  | i :: r, ls => dropLocs r (ls.set i none)

def clearF : List Nat → List SV → List SV
  | [], f => f
  | i :: r, f => clearF r (f.set i .unk)

def St.clear (w : List Nat) (st : St) : St := { st with f := clearF w st.f }

/-- The state behind a meeting: what code may have written is forgotten, but for what is carried. -/
def jset (s : JSpec) (w : List Nat) (st0 : St) (l : List Lf) : St :=
  match setSlots s.slots l (clearF w st0.f) with
  | (f, r) => { st0 with f := f, ls := setLocs s.locs r (dropLocs s.drop st0.ls) }

def isNormal : Exit → Bool
  | .normal => true
  | _ => false

def meet (s : JSpec) (st0 : St) (I : Cur (jlts s) (Heap → Prop)) (st : St) (h : Heap) : Prop :=
  opt (jget s st0 st) fun l => app (jlts s) I l fun p => p h

def vc (P : Program) (pl : Plan) : Code → (Exit → St → Heap → Prop) → St → Heap → Prop
  | .skip, Q, st, h => Q .normal st h
  | .region id ops draw, Q, st, h => match draw with
    | false => vcOps P pl ops.toList (fun c st h => Q (.panic c) st h) (fun st h => Q .normal (st.prune (pl.live id)) h) ops.toList st h
    | true => match Region.noSelect ops with
      | true => vcDraw P pl ops (fun c st h => Q (.panic c) (st.clear (dsts ops.toList)) h) (fun st h => Q .normal (st.prune (pl.live id)) h) (pl.draw id) [] (Array.replicate ops.size false) [] st h
      | false => False
  | .seq a b, Q, st, h => match specAt pl.seq (firstId b) with
    | none => vc P pl a (fun e st h => match e with | .normal => vc P pl b Q st h | e => Q e st h) st h
    | some s => ∃ I : Cur (jlts s) (Heap → Prop),
        vc P pl a (fun e st' h' => match e with | .normal => meet s st I st' h' | e => Q e st' h') st h ∧
        AllI (jlts s) I fun l p => ∀ h', p h' → vc P pl b Q (jset s (writes a) st l) h'
  | .cond c a b, Q, st, h => match st.ev c with
    | .v (.lf (.bool t)) => Br t (vc P pl a Q st h) (vc P pl b Q st h)
    | _ => False
  | .block id c, Q, st, h => match pl.blk id with
    | none => vc P pl c (fun e st h => match e with | .exit i => (match Nat.beq i id with | true => Q .normal st h | false => Q (.exit i) st h) | e => Q e st h) st h
    | some s => ∃ I : Cur (jlts s) (Heap → Prop),
        vc P pl c (fun e st' h' => match e with
          | .exit i => (match Nat.beq i id with | true => meet s st I st' h' | false => Q (.exit i) st' h')
          | .normal => meet s st I st' h'
          | e => Q e st' h') st h ∧
        AllI (jlts s) I fun l p => ∀ h', p h' → Q .normal (jset s (writes c) st l) h'
  | .loop c, Q, st, h => opt (specAt pl.loop (firstId c)) fun s => ∃ I : Cur (jlts s) (Heap → Nat → Prop),
        (opt (jget s st st) fun l => app (jlts s) I l fun p => ∃ n, p h n) ∧
        AllI (jlts s) I fun l p => ∀ h' n, p h' n → vc P pl c (fun e st' h'' => match e with
          | .normal => opt (jget s st st') fun l' => app (jlts s) I l' fun p => ∃ m, m < n ∧ p h'' m
          | e => Q e st' h'') (jset s (writes c) st l) h'
  | .exit id, Q, st, h => Q (.exit id) st h
  | .ret, Q, st, h => Q .ret st h
  | _, _, _, _ => False

/-- What a function hands back. -/
def asVT : VT → List Lf → Option VV
  | .one _, [x] => some (.lf x)
  | .one _, _ => none
  | .agg ts, l => match Nat.beq l.length ts.length with | true => some (.agg l) | false => none

def resOf (P : Program) (st : St) : List ResultVar → Option (List VV)
  | [] => some []
  | .tmp t :: r => match st.get t with
    | .v x => (match resOf P st r with | some l => some (x :: l) | none => none)
    | _ => none
  | .cell a t :: r => match st.get a, vtOf P t with
    | .loc i off, some vt => (match st.loc i, off with
      | some l, 0 => (match asVT vt l.cs, resOf P st r with | some x, some m => some (x :: m) | _, _ => none)
      | _, _ => none)
    | _, _ => none

def flat : List VT → List VV → Option (List Lf)
  | [], [] => some []
  | .one _ :: ts, .lf x :: r => match flat ts r with | some l => some (x :: l) | none => none
  | .agg us :: ts, .agg xs :: r => match Nat.beq xs.length us.length with
    | true => (match flat ts r with | some l => some (xs ++ l) | none => none)
    | false => none
  | _, _ => none

def retQ (P : Program) (fn : Func) (vts : List VT) (R : Cur (lts vts) (Heap → Prop)) (e : Exit) (st : St) (h : Heap) : Prop := match e, st.ds with
  | .normal, [] => opt (resOf P st fn.results.toList) fun r => opt (flat vts r) fun l => app (lts vts) R l fun p => p h
  | .ret, [] => opt (resOf P st fn.results.toList) fun r => opt (flat vts r) fun l => app (lts vts) R l fun p => p h
  | _, _ => False

def initF (n : Nat) (args : List VV) : List SV := args.map .v ++ List.replicate (n - args.length) .unk

def vcFn (P : Program) (pl : Plan) (fn : Func) (args : List VV) (h : Heap) (vts : List VT) (R : Cur (lts vts) (Heap → Prop)) : Prop :=
  opt fn.body fun c => vc P pl c (retQ P fn vts R) ⟨initF fn.ntmps args, [], []⟩ h

end Go.V
