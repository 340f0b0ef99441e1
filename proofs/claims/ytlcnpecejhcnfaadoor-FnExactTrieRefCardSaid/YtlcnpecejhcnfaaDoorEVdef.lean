/- An evaluator for the operations of the program over values without addresses: definitions. No conditions. -/
import Derived.Calls
import Derived.Orders
namespace Go.Proofs.YtlcnpecejhcnfaaDoor.EV
set_option linter.unusedVariables false
set_option linter.unusedSimpArgs false

inductive AV where
  | any
  | int (k : IntKind) (n : Int)
  | bool (b : Bool)
  | str (s : ByteArray)
  | nils
  | nilp
  | unk (d : Bool) (n : Nat)
  | fs (len : Nat) (cells : List AV)
  | own (id off len : Nat)
  | agg (xs : List AV)
  | tup (xs : List AV)
  | ptr (id off : Nat)
  | fp (cells : List AV) (off : Nat)
  | fn (f : FuncId)
  | ref (arr : Bool) (elem : TypeId) (cells : List AV)
  | arr (k : IntKind) (ns : List Int)
instance : Inhabited AV := ⟨.any⟩

structure Blk where
  arr : Bool
  elem : TypeId
  st : Nat
  cells : List AV
instance : Inhabited Blk := ⟨⟨true, 0, 0, []⟩⟩

structure St where
  nt : Nat
  nr : Nat
  next : Nat
  env : Nat → AV
  heap : Nat → Option Blk

abbrev Orc := FuncId → List AV → Option (List AV)

/-- The program, with its functions by number; which of them give back memory of their own; which share the caller's memory, with the forms of what they are handed and of what they give back. -/
structure CP where
  P : Program
  fns : List (FuncId × Func)
  fresh : List FuncId
  deep : List (FuncId × List (List AV × List AV))
  globs : List (Nat × List AV) := []
  ext : List (FuncId × (List AV → Option (List AV))) := []
  trees : List FuncId := []
  tm : Bool := false
/-- Within a function: does it build rows of rows of its own? -/
def cpM (cp : CP) (f : FuncId) : CP := ⟨cp.P, cp.fns, cp.fresh, cp.deep, cp.globs, cp.ext, cp.trees, cp.trees.contains f⟩

def gd {α : Type} (g : Bool) (x : Option α) : Option α := match g with | true => x | false => none
def br {α : Type} (g : Bool) (x y : Option α) : Option α := match g with | true => x | false => y
def bnd {α β : Type} (x : Option α) (f : α → Option β) : Option β := match x with | some a => f a | none => none

def upd {α : Type} (f : Nat → α) (d : Nat) (v : α) : Nat → α := fun u => match Nat.beq u d with | true => v | false => f u
def upds {α : Type} (f : Nat → Option α) : List (Nat × α) → (Nat → Option α)
  | [] => f
  | (d, v) :: r => upds (upd f d (some v)) r
def look {α : Type} (l : List (Nat × α)) (u : Nat) : Option α := match l with
  | [] => none
  | (d, v) :: r => match Nat.beq u d with | true => some v | false => look r u

def szOf (P : Program) (t : TypeId) : Nat := match P.info? t with | some i => i.size | none => 0
def byOf (P : Program) (t : TypeId) : Nat := match P.info? t with | some i => i.bytes | none => 0
def und (P : Program) (t : TypeId) : TypeDesc := match P.underlying t with | some d => d | none => .invalid
def isArr (P : Program) (t : TypeId) : Bool := match und P t with | .array _ _ => true | _ => false
def isAggT (P : Program) (t : TypeId) : Bool := match und P t with | .array _ _ => true | .struct _ => true | _ => false

/-- A type that is known, of one cell at least. -/
def okT (P : Program) (t : TypeId) : Bool := Nat.ble 1 (szOf P t) && !Nat.beq t 0 && (match und P t with | .invalid => false | _ => true)

/-- A type whose zero value is known. -/
def okZ (P : Program) (t : TypeId) : Bool := okT P t && (match P.info? t with
  | some i => match i.zero with
    | some z => Nat.beq z.cells.size i.size && Nat.ble 1 i.bytes && z.cells.toList.all (fun v => match v with | .agg _ => false | .tuple _ => false | _ => true)
    | none => false
  | none => false)
/-- An array of many numbers goes as one value: its kind, how many. -/
def bigA (P : Program) (t : TypeId) : Option (IntKind × Nat) := match und P t with
  | .array n e => (match und P e, Nat.ble 20 n && (Nat.beq (szOf P e) 1 && (Nat.beq (szOf P t) n && (okT P t && okT P e))) with
    | .int k, true => some (k, n)
    | _, _ => none)
  | _ => none
def notInt (P : Program) (t : TypeId) : Bool := match und P t with | .slice _ => true | .string => true | _ => false

inductive Sc where
  | int (k : IntKind) | bool | str | sl | pt (t : TypeId) (ss : List Sc) | bad
instance : Inhabited Sc := ⟨.bad⟩

def flat (P : Program) : Nat → TypeId → List Sc
  | 0, _ => [.bad]
  | d + 1, t => match und P t with
    | .int k => [.int k]
    | .bool => [.bool]
    | .string => [.str]
    | .slice _ => [.sl]
    | .struct fs => fs.toList.flatMap fun f => flat P d f.type
    | .array n e => (List.replicate n (flat P d e)).flatten
    | .pointer t => [.pt t (flat P d t)]
    | _ => [.bad]

def isSl1 : Sc → Bool | .sl => true | _ => false
def scal : Sc → Bool | .int _ => true | .bool => true | .str => true | _ => false
/-- Rows whose cells hold slices. -/
def treeT (P : Program) (e : TypeId) : Bool := (flat P 8 e).any isSl1 && (flat P 8 e).all fun s => isSl1 s || scal s
def AV.fpCells : AV → List AV | .fp c _ => c | _ => []
def AV.asInt : AV → Int | .int _ n => n | _ => 0
def AV.asBool : AV → Bool | .bool b => b | _ => false
def AV.asStr : AV → ByteArray | .str s => s | _ => ByteArray.empty
def AV.asLen : AV → Nat | .fs n _ => n | _ => 0
def AV.asCells : AV → List AV | .fs _ c => c | _ => []
def AV.refCells : AV → List AV | .ref _ _ c => c | _ => []
def arrI : AV → List Int | .arr _ ns => ns | _ => []
def AV.parts : AV → List AV | .agg xs => xs | v => [v]
def AV.ownLen : AV → Nat | .own _ _ n => n | _ => 0
def AV.tupL : AV → List AV | .tup xs => xs | _ => []

/-! Scalar operations by name: they stay as they are in an evaluation. -/
def wr (k : IntKind) (n : Int) : Int := k.wrap n
def eqI (a b : Int) : Bool := a == b
def ltI (a b : Int) : Bool := decide (a < b)
def leI (a b : Int) : Bool := decide (a ≤ b)
def addI (a b : Int) : Int := a + b
def subI (a b : Int) : Int := a - b
def mulI (a b : Int) : Int := a * b
def quoI (a b : Int) : Int := a.tdiv b
def remI (a b : Int) : Int := a.tmod b
def shlI (k : IntKind) (a b : Int) : Int := a * 2 ^ (min b.toNat k.bits)
def shrI (k : IntKind) (a b : Int) : Int := a.fdiv (2 ^ (min b.toNat k.bits))
def minI (x y : Int) : Int := if y < x then y else x
def maxI (x y : Int) : Int := if x < y then y else x
def notB (a : Bool) : Bool := !a
def andB (a b : Bool) : Bool := a && b
def orB (a b : Bool) : Bool := a || b
def eqB (a b : Bool) : Bool := a == b
def eqS (x y : ByteArray) : Bool := x.toList == y.toList
def ltS (x y : ByteArray) : Bool := Op.bytesLess x.toList y.toList
def catS (x y : ByteArray) : ByteArray := x ++ y
def subS (s : ByteArray) (l r : Nat) : ByteArray := s.extract l r
def lenS (s : ByteArray) : Nat := s.size
def getS (s : ByteArray) (i : Int) : Int := match s[i.toNat]? with | some b => (b.toNat : Int) | none => 0
def lenI (n : Nat) : Int := (n : Int)
def natI (n : Int) : Nat := n.toNat
def inR (i : Int) (n : Nat) : Bool := decide (0 ≤ i) && decide (i < n)
def inS (l h : Int) (n : Nat) : Bool := decide (0 ≤ l) && decide (l ≤ h) && decide (h ≤ n)
def fitN (n : Nat) (b : Nat) : Bool := Nat.ble (n * b) 35184372088832
def fitMk (l c : Int) (b : Nat) : Bool := decide (0 ≤ l ∧ l ≤ c ∧ c ≤ 35184372088832 ∧ c * b ≤ 35184372088832)
def fitS (x y : ByteArray) : Bool := Nat.ble (x.size + y.size) 9223372036854775807
def addN (a b : Nat) : Nat := a + b
def subN (a b : Nat) : Nat := a - b
def mulN (a b : Nat) : Nat := a * b
def repC (n : Nat) (z : List AV) : List AV := (List.replicate n z).flatten
def cellAt (cs : List AV) (i : Nat) : AV := cs.getD i .any
def cutC (cs : List AV) (o n : Nat) : List AV := (cs.drop o).take n
def catC (a b : List AV) : List AV := a ++ b
def arrC (k : IntKind) (ns : List Int) : List AV := ns.map (AV.int k)
def intsC (cells : List AV) (o n : Nat) : List Int := (cutC cells o n).map AV.asInt
def putC (cells : List AV) (o : Nat) (k : IntKind) (ns : List Int) : List AV := cells.take o ++ (arrC k ns ++ cells.drop (o + ns.length))
def lenL (ns : List Int) (n : Nat) : Bool := Nat.beq ns.length n
def nthI (ns : List Int) (i : Nat) : Int := ns.getD i 0

def ok1 : Sc → AV → Bool
  | .int k, .int k' _ => decide (k = k')
  | .bool, .bool _ => true
  | .str, .str _ => true
  | .sl, .nils => true
  | .sl, .fs _ _ => true
  | _, _ => false
def cast1 (s : Sc) (v : AV) : AV := match s with
  | .int k => .int k v.asInt
  | .bool => .bool v.asBool
  | .str => .str v.asStr
  | .sl => .fs v.asLen v.asCells
  | .pt _ _ => .any
  | .bad => .any

def kindC (k : IntKind) (cells : List AV) (o n : Nat) : Bool := Nat.beq (cutC cells o n).length n && (cutC cells o n).all (ok1 (.int k))
def okAll : List Sc → List AV → Bool
  | [], _ => true
  | s :: ss, vs => ok1 s (vs.headD .any) && okAll ss vs.tail
def castAll : List Sc → List AV → List AV
  | [], _ => []
  | s :: ss, vs => cast1 s (vs.headD .any) :: castAll ss vs.tail

/-- The value of type t in cells, of any form. -/
def partsOk (P : Program) (t : TypeId) (vs : List AV) : Bool := Nat.beq (flat P 8 t).length vs.length && okAll (flat P 8 t) vs
def partsAs (P : Program) (t : TypeId) (vs : List AV) : AV :=
  match isAggT P t with
  | true => .agg (castAll (flat P 8 t) vs)
  | false => cast1 ((flat P 8 t).headD .bad) (vs.headD .any)
def plainAs (P : Program) (t : TypeId) (vs : List AV) : AV := match isAggT P t with | true => .agg vs | false => vs.headD .any

def upto {α : Type} (n : Nat) (f : Nat → α) : List α := match n with | 0 => [] | n + 1 => f 0 :: upto n (fun i => f (i + 1))
def window (cells : List AV) (o n : Nat) : List AV := upto n fun i => cellAt cells (addN o i)

def ofScalar : Value → AV
  | .bool b => .bool b
  | .int k n => .int k n
  | .string s => .str s
  | .slice none 0 0 => .nils
  | .pointer none => .nilp
  | _ => .any
def ofConst : Value → AV
  | .agg cs => .agg (cs.toList.map ofScalar)
  | v => ofScalar v

/-- A value of one cell. -/
def one : AV → Bool
  | .int _ _ => true
  | .bool _ => true
  | .str _ => true
  | .nils => true
  | .nilp => true
  | .fs _ _ => true
  | .own _ _ _ => true
  | .ptr _ _ => true
  | .fp _ _ => true
  | .fn _ => true
  | _ => false

/-- A value of one cell without own memory. -/
def flat1 : AV → Bool
  | .int _ _ => true
  | .bool _ => true
  | .str _ => true
  | .nils => true
  | .fs _ _ => true
  | _ => false

/-- What a slice holds, where it is closed: its length and its cells. -/
def sliceOf (P : Program) (elem : TypeId) (h : Nat → Option Blk) : AV → Option (Nat × List AV)
  | .nils => some (0, [])
  | .fs n cs => some (n, cs)
  | .own id off len => match h id with
    | some b => match Nat.ble b.st 1 && (Nat.beq b.elem 0 || Nat.beq (szOf P b.elem) (szOf P elem)), b.arr with
      | true, true => some (len, cutC b.cells off (mulN len (szOf P elem)))
      | _, _ => none
    | none => none
  | _ => none

/-- A value without own memory: its own slices as they read. The numbers of the blocks that it names come second. -/
def closed1 (P : Program) (h : Nat → Option Blk) : AV → Option (AV × List Nat)
  | .int k n => some (.int k n, [])
  | .bool b => some (.bool b, [])
  | .str s => some (.str s, [])
  | .nils => some (.fs 0 [], [])
  | .fs n cs => some (.fs n cs, [])
  | .arr k ns => some (.arr k ns, [])
  | .own id off len => match h id with
    | some b => match Nat.ble b.st 1, b.arr with
      | true, true => some (.fs len (cutC b.cells off (mulN len (szOf P b.elem))), [id])
      | _, _ => none
    | none => none
  | _ => none
def closedAll (P : Program) (h : Nat → Option Blk) : List AV → Option (List AV × List Nat)
  | [] => some ([], [])
  | v :: r => match closed1 P h v, closedAll P h r with
    | some (a, i), some (b, j) => some (a :: b, i ++ j)
    | _, _ => none
/-- An argument: a value, a struct, or (by reference) a block of the caller's own. -/
def closedArg (P : Program) (h : Nat → Option Blk) : AV → Option (AV × List Nat × List Nat)
  | .agg xs => match closedAll P h xs with
    | some (ys, i) => some (.agg ys, i, [])
    | none => none
  | .ptr id 0 => match h id with
    | some b => match Nat.beq b.st 0, closedAll P h b.cells with
      | true, some (ys, i) => some (.ref b.arr b.elem ys, i, [id])
      | _, _ => none
    | none => none
  | v => match closed1 P h v with
    | some (a, i) => some (a, i, [])
    | none => none
def closedArgs (P : Program) (h : Nat → Option Blk) : List AV → Option (List AV × List Nat × List Nat)
  | [] => some ([], [], [])
  | v :: r => match closedArg P h v, closedArgs P h r with
    | some (a, i, p), some (b, j, q) => some (a :: b, i ++ j, p ++ q)
    | _, _ => none

/-- Trees as they read. -/
def viewF (h : Nat → Option Blk) : Nat → Option Blk := fun id => match h id with
  | some b => (match Nat.beq b.st 3 with | true => some { b with st := 1 } | false => some b)
  | none => none
def setSt (h : Nat → Option Blk) (s : Nat) : List Nat → (Nat → Option Blk)
  | [] => h
  | id :: r => setSt (upd h id (match h id with | some b => some { b with st := s } | none => none)) s r

def distinct : List Nat → Bool
  | [] => true
  | x :: r => !r.contains x && distinct r

/-! Calls that share the caller's memory: the blocks that the arguments name go along, numbered anew. -/
def addNew (l : List Nat) (x : Nat) : List Nat := if l.contains x then l else l ++ [x]
def ids1 : List AV → List Nat
  | [] => []
  | .own id _ _ :: r => id :: ids1 r
  | .ptr id _ :: r => id :: ids1 r
  | _ :: r => ids1 r
def idsOf : AV → List Nat
  | .own id _ _ => [id]
  | .ptr id _ => [id]
  | .agg xs => ids1 xs
  | _ => []
def ren1 (ids : List Nat) : AV → AV
  | .own id o n => match ids.contains id with | true => .own (ids.idxOf id) o n | false => .any
  | .ptr id o => match ids.contains id with | true => .ptr (ids.idxOf id) o | false => .any
  | .agg _ => .any
  | .tup _ => .any
  | .ref _ _ _ => .any
  | v => v
def ren (ids : List Nat) : AV → AV
  | .agg xs => .agg (xs.map (ren1 ids))
  | v => ren1 ids v
def renB (ids : List Nat) (b : Blk) : Blk := match b.arr with | true => b | false => { b with cells := b.cells.map (ren1 ids) }
def cellIds (h : Nat → Option Blk) (id : Nat) : List Nat := match h id with
  | some b => (match b.arr with | true => [] | false => b.cells.flatMap idsOf)
  | none => []
/-- From these, two steps far. -/
def deepIds (h : Nat → Option Blk) (l : List Nat) : List Nat := (l ++ (l.flatMap (cellIds h) ++ (l.flatMap (cellIds h)).flatMap (cellIds h))).foldl addNew []
def liveAll (h : Nat → Option Blk) (ids : List Nat) : Bool := ids.all fun id => match h id with | some b => Nat.beq b.st 0 || Nat.beq b.st 3 | none => false
def blkAV (h : Nat → Option Blk) (ids : List Nat) (id : Nat) : AV := match h id with
  | some b => (match Nat.beq b.st 0 with | true => .ref b.arr b.elem (renB ids b).cells | false => match Nat.beq b.st 3 with | true => .fp b.cells b.elem | false => .any)
  | none => .any
def deepArgs (h : Nat → Option Blk) (vs : List AV) : Option (List AV × List Nat) :=
  match distinct (deepIds h (vs.flatMap idsOf)) && liveAll h (deepIds h (vs.flatMap idsOf)) with
  | true => some (.tup ((deepIds h (vs.flatMap idsOf)).map (blkAV h (deepIds h (vs.flatMap idsOf)))) :: vs.map (ren (deepIds h (vs.flatMap idsOf))), deepIds h (vs.flatMap idsOf))
  | false => none
/-- Of the form of a pattern. -/
def sh1 : AV → AV → Bool
  | .int k _, .int k' _ => decide (k = k')
  | .bool _, .bool _ => true
  | .str _, .str _ => true
  | .fs _ _, .fs _ _ => true
  | .own j o _, .own j' o' _ => Nat.beq j j' && Nat.beq o o'
  | .ptr j o, .ptr j' o' => Nat.beq j j' && Nat.beq o o'
  | .nilp, .nilp => true
  | .nils, .nils => true
  | .any, _ => true
  | _, _ => false
def shL : List AV → List AV → Bool
  | [], [] => true
  | t :: ts, v :: vs => sh1 t v && shL ts vs
  | _, _ => false
def shB : AV → AV → Bool
  | .ref true e _, .ref true e' _ => Nat.beq e e'
  | .ref false e ts, .ref false e' vs => Nat.beq e e' && shL ts vs
  | .any, .any => true
  | .fp _ e, .fp _ e' => Nat.beq e e'
  | _, _ => false
def shBs : List AV → List AV → Bool
  | [], [] => true
  | t :: ts, v :: vs => shB t v && shBs ts vs
  | _, _ => false
def shV : AV → AV → Bool
  | .agg ts, .agg vs => shL ts vs
  | .agg _, _ => false
  | t, v => sh1 t v
def shVs : List AV → List AV → Bool
  | [], [] => true
  | t :: ts, v :: vs => shV t v && shVs ts vs
  | _, _ => false
def shR : List AV → List AV → Bool
  | .tup bs :: ts, .tup cs :: vs => shBs bs cs && shVs ts vs
  | _, _ => false
def c1 : AV → AV → AV
  | .int k _, v => .int k v.asInt
  | .bool _, v => .bool v.asBool
  | .str _, v => .str v.asStr
  | .fs _ _, v => .fs v.asLen v.asCells
  | .own j o _, v => .own j o v.ownLen
  | .ptr j o, _ => .ptr j o
  | .nilp, _ => .nilp
  | .nils, _ => .nils
  | _, _ => .any
def cL : List AV → List AV → List AV
  | [], _ => []
  | t :: ts, vs => c1 t (vs.headD .any) :: cL ts vs.tail
def cB : AV → AV → AV
  | .ref true e _, v => .ref true e v.refCells
  | .ref false e ts, v => .ref false e (cL ts v.refCells)
  | .fp _ e, v => .fp v.fpCells e
  | _, _ => .any
def cBs : List AV → List AV → List AV
  | [], _ => []
  | t :: ts, vs => cB t (vs.headD .any) :: cBs ts vs.tail
def cV : AV → AV → AV
  | .agg ts, v => .agg (cL ts v.parts)
  | t, v => c1 t v
def cVs : List AV → List AV → List AV
  | [], _ => []
  | t :: ts, vs => cV t (vs.headD .any) :: cVs ts vs.tail
def findT : List (List AV × List AV) → List AV → Nat → Option Nat
  | [], _, _ => none
  | p :: r, as, i => match shR p.1 as with | true => some i | false => findT r as (i + 1)
/-- The form of what comes back: its blocks, its values. -/
def tmB (cp : CP) (f : FuncId) (i : List Nat) : List AV := match look cp.deep f, i with
  | some l, [i] => (match l[i]? with | some (_, .tup bs :: _) => bs | _ => [])
  | _, _ => []
def tmV (cp : CP) (f : FuncId) (i : List Nat) : List AV := match look cp.deep f, i with
  | some l, [i] => (match l[i]? with | some (_, .tup _ :: vs) => vs | _ => [])
  | _, _ => []
def isDeep (cp : CP) (f : FuncId) : Bool := match look cp.deep f with | some _ => true | none => false
def AV.parts1 : AV → List AV | .agg xs => xs | v => [v]
def elemsOf (P : Program) : Nat → TypeId → List TypeId
  | 0, _ => [0]
  | d + 1, t => match und P t with
    | .slice e => [e]
    | .struct fs => fs.toList.flatMap fun f => elemsOf P d f.type
    | .array n e => (List.replicate n (elemsOf P d e)).flatten
    | _ => [0]
def isSl : Sc → Bool | .sl => true | .pt _ _ => true | _ => false
def isPt : Sc → Bool | .pt _ _ => true | _ => false
/-- No slice among the results. -/
def scalarRes (P : Program) (fn : Func) : Bool := fn.resultTypes.toList.all fun t => (flat P 8 t).all fun s => !isSl s
/-- The slices among the results hold scalars alone. -/
def plainEl (P : Program) (fn : Func) : Bool := fn.resultTypes.toList.all fun t => ((flat P 8 t).all fun s => !isPt s) && (elemsOf P 8 t).all fun e => Nat.beq e 0 || (flat P 8 e).all fun s => !isSl s
def plain1 : AV → Bool
  | .int _ _ => true
  | .bool _ => true
  | .str _ => true
  | _ => false
def plainV : AV → Bool
  | .fs _ cs => cs.all plain1
  | .nils => true
  | v => plain1 v
def plainRes (r : List AV) : Bool := r.all fun v => v.parts1.all plainV
/-- The callee hands out memory of its own alone: what it was handed stays the caller's. -/
def thaw (cp : CP) (f : FuncId) (fn : Func) : Bool := cp.fresh.contains f && plainEl cp.P fn
def treeF (cp : CP) (f : FuncId) : Bool := cp.trees.contains f
/-- Whoever is called so leaves its caller's trees as they are. -/
def thawF (cp : CP) (f : FuncId) : Bool := match look cp.fns f with
  | some fn => scalarRes cp.P fn || (treeF cp f || thaw cp f fn)
  | none => false
def treeB (h : Nat → Option Blk) (id : Nat) : Bool := match h id with | some b => Nat.beq b.st 3 | none => false
def hasTree (h : Nat → Option Blk) (xs : List AV) : Bool := (xs.flatMap idsOf).any (treeB h)
def argsOf (cp : CP) (f : FuncId) (h : Nat → Option Blk) (xs : List AV) : Option (List AV × List Nat × List Nat) := match look cp.deep f with
  | some l => (match deepArgs h xs with
    | some (as, ids) => (match findT l as 0 with | some i => some (as, [i], ids) | none => none)
    | none => none)
  | none => match hasTree h xs with
    | false => (match closedArgs cp.P h xs with
      | some (as, fz, rs) => (match distinct rs && rs.all (fun x => !fz.contains x) with | true => some (as, fz, rs) | false => none)
      | none => none)
    | true => (match closedArgs cp.P (viewF h) xs with
      | some (as, fz, []) => (match thawF cp f with | true => some (as, fz, []) | false => none)
      | _ => none)
/-- Numbered as the caller has them. -/
def mv1 (L : List Nat) : AV → AV
  | .own id o n => match L[id]? with | some i => .own i o n | none => .any
  | .ptr id o => match L[id]? with | some i => .ptr i o | none => .any
  | .agg _ => .any
  | .tup _ => .any
  | .ref _ _ _ => .any
  | v => v
def mv (L : List Nat) : AV → AV
  | .agg xs => .agg (xs.map (mv1 L))
  | v => mv1 L v
def deepL (refs : List Nat) (base n : Nat) : List Nat := refs ++ upto (n - refs.length) fun i => base + i
def deepNews (L : List Nat) : List Nat → List AV → List (Nat × Blk)
  | id :: r, .ref a e cs :: bs => (id, ⟨a, e, 0, match a with | true => cs | false => cs.map (mv1 L)⟩) :: deepNews L r bs
  | id :: r, .fp cs e :: bs => (id, ⟨true, e, 3, cs⟩) :: deepNews L r bs
  | _ :: r, _ :: bs => deepNews L r bs
  | _, _ => []
def deepDead : List Nat → List AV → List Nat
  | _ :: r, .ref _ _ _ :: bs => deepDead r bs
  | _ :: r, .fp _ _ :: bs => deepDead r bs
  | id :: r, _ :: bs => id :: deepDead r bs
  | _, _ => []
/-- What an operation comes to. -/
inductive Res where
  | no
  | val (g : Bool) (v : AV) (news : List (Nat × Blk)) (dead froz : List Nat)
  | call (f : FuncId) (args : List AV) (froz refs : List Nat)

def Res.pure (v : AV) : Res := .val true v [] [] []
def Res.gpure (g : Bool) (v : AV) : Res := .val g v [] [] []

def bitsOp (op : BinOp) (k : IntKind) (x y : Int) : Int :=
  let a := BitVec.ofInt k.bits x
  let b := BitVec.ofInt k.bits y
  match op with
  | .and => k.wrap (a &&& b).toNat
  | .or => k.wrap (a ||| b).toNat
  | .xor => k.wrap (a ^^^ b).toNat
  | _ => k.wrap (a &&& ~~~b).toNat

def intOp (op : BinOp) (k : IntKind) (a b : Int) : Res :=
  match op with
  | .add => .pure (.int k (wr k (addI a b)))
  | .sub => .pure (.int k (wr k (subI a b)))
  | .mul => .pure (.int k (wr k (mulI a b)))
  | .quo => .gpure (notB (eqI b 0)) (.int k (wr k (quoI a b)))
  | .rem => .gpure (notB (eqI b 0)) (.int k (remI a b))
  | .and => .pure (.int k (bitsOp .and k a b))
  | .or => .pure (.int k (bitsOp .or k a b))
  | .xor => .pure (.int k (bitsOp .xor k a b))
  | .andNot => .pure (.int k (bitsOp .andNot k a b))
  | .eql => .pure (.bool (eqI a b))
  | .neq => .pure (.bool (notB (eqI a b)))
  | .lss => .pure (.bool (ltI a b))
  | .leq => .pure (.bool (leI a b))
  | .gtr => .pure (.bool (ltI b a))
  | .geq => .pure (.bool (leI b a))
  | .shl => .gpure (leI 0 b) (.int k (wr k (shlI k a b)))
  | .shr => .gpure (leI 0 b) (.int k (shrI k a b))

def strOp (op : BinOp) (x y : ByteArray) : Res :=
  match op with
  | .add => .gpure (fitS x y) (.str (catS x y))
  | .eql => .pure (.bool (eqS x y))
  | .neq => .pure (.bool (notB (eqS x y)))
  | .lss => .pure (.bool (ltS x y))
  | .leq => .pure (.bool (orB (ltS x y) (eqS x y)))
  | .gtr => .pure (.bool (notB (orB (ltS x y) (eqS x y))))
  | .geq => .pure (.bool (notB (ltS x y)))
  | _ => .no

/-- Values alike, field by field (no slices). -/
def eqFs (r : TypeId → AV → AV → Option Bool) (P : Program) (xs ys : List AV) : List Field → Option Bool
  | [] => some true
  | f :: fs => match f.name == "_" with
    | true => eqFs r P xs ys fs
    | false => match okT P f.type && Nat.ble (f.offset + szOf P f.type) xs.length && Nat.ble (f.offset + szOf P f.type) ys.length,
        r f.type (plainAs P f.type (window xs f.offset (szOf P f.type))) (plainAs P f.type (window ys f.offset (szOf P f.type))), eqFs r P xs ys fs with
      | true, some a, some b => some (andB a b)
      | _, _, _ => none
def eqV (P : Program) : Nat → TypeId → AV → AV → Option Bool
  | 0, _, _, _ => none
  | d + 1, t, x, y => match und P t with
    | .int _ => (match x, y with
      | .int k a, .int k' b => (match decide (k = k') with | true => some (eqI a b) | false => none)
      | _, _ => none)
    | .bool => (match x, y with
      | .bool a, .bool b => some (eqB a b)
      | _, _ => none)
    | .string => (match x, y with
      | .str a, .str b => some (eqS a b)
      | _, _ => none)
    | .struct fs => (match x, y with
      | .agg xs, .agg ys => (match P.stoodInHeld t with
        | true => none
        | false => eqFs (eqV P d) P xs ys fs.toList)
      | _, _ => none)
    | _ => none

def binA (P : Program) (op : BinOp) (t : TypeId) : AV → AV → Res
  | .int k a, .int k' b => match op with
    | .shl => intOp .shl k a b
    | .shr => intOp .shr k a b
    | _ => match decide (k = k') with | true => intOp op k a b | false => .no
  | .str a, .str b => strOp op a b
  | .bool a, .bool b => match und P t, op with
    | .bool, .eql => .pure (.bool (eqB a b))
    | .bool, .neq => .pure (.bool (notB (eqB a b)))
    | _, _ => .no
  | .agg xs, .agg ys => match op, P.eqGuardType P.depth t, eqV P 8 t (.agg xs) (.agg ys) with
    | .eql, false, some b => .pure (.bool b)
    | .neq, false, some b => .pure (.bool (notB b))
    | _, _, _ => .no
  | _, _ => .no

def bytesOf (s : ByteArray) : List AV := s.data.toList.map fun b => .int .u8 b.toNat
def isBytes (l : List AV) : Bool := l.all (ok1 (.int .u8))
def strOf (l : List AV) : ByteArray := ⟨(l.map fun v => UInt8.ofNat v.asInt.toNat).toArray⟩

def okU (P : Program) (t : TypeId) : Bool := match und P t with | .invalid => false | _ => true
/-- Is a row's length told by its slice? -/
def told : AV → Bool
  | .fs _ _ => false
  | _ => true
def lenEq (cs : List AV) (n : Nat) : Bool := Nat.beq cs.length n
def exactly (x : AV) (cs : List AV) (n : Nat) : Bool := match told x with | true => true | false => lenEq cs n
def convA (P : Program) (h : Nat → Option Blk) (base : Nat) (src dst : TypeId) : AV → Res
  | .int _ n => match okU P src, und P dst with
    | true, .int k => .pure (.int k (wr k n))
    | _, _ => .no
  | .str s => match okU P src, und P dst with
    | true, .string => .pure (.str s)
    | true, .slice e => match und P e, okZ P e && Nat.beq (szOf P e) 1 with
      | .int .u8, true => .val true (.own base 0 (lenS s)) [(base, ⟨true, e, 0, bytesOf s⟩)] [] []
      | _, _ => .no
    | _, _ => .no
  | v => match und P src, und P dst with
    | .slice e, .string => match und P e, sliceOf P e h v with
      | .int .u8, some (n, cs) => .gpure (Nat.beq (szOf P e) 1 && exactly v cs n && isBytes cs) (.str (strOf cs))
      | _, _ => .no
    | _, _ => .no

def zeroOf (P : Program) (t : TypeId) : List AV := match P.info? t with
  | some i => match i.zero with
    | some z => z.cells.toList.map ofScalar
    | none => []
  | none => []

def setMany (cells : List AV) (o : Nat) : List AV → List AV
  | [] => cells
  | v :: r => setMany (cells.set o v) (o + 1) r

def loadA (P : Program) (h : Nat → Option Blk) (t : TypeId) : AV → Res
  | .ptr id off => match h id with
    | some b => match Nat.ble b.st 1, b.arr with
      | true, true => .gpure (okT P t && partsOk P t (window b.cells off (szOf P t))) (partsAs P t (window b.cells off (szOf P t)))
      | true, false => .gpure (okT P t && Nat.ble (off + szOf P t) b.cells.length) (plainAs P t (window b.cells off (szOf P t)))
      | _, _ => .no
    | none => .no
  | .fp cells off => .gpure (okT P t && partsOk P t (window cells off (szOf P t))) (partsAs P t (window cells off (szOf P t)))
  | _ => .no

def storeA (P : Program) (h : Nat → Option Blk) (t : TypeId) (a v : AV) : Res := match a with
  | .ptr id off => match h id with
    | some b => match Nat.beq b.st 0, Nat.beq v.parts.length (szOf P t) && v.parts.all one with
      | true, true => match b.arr with
        | true => match closedAll P h v.parts with
          | some (ys, fz) => .val (!fz.contains id && okT P t && Nat.ble (off + szOf P t) b.cells.length) .any [(id, { b with cells := setMany b.cells off ys })] [] fz
          | none => .no
        | false => .val (okT P t && Nat.ble (off + szOf P t) b.cells.length) .any [(id, { b with cells := setMany b.cells off v.parts })] [] []
      | _, _ => .no
    | none => .no
  | _ => .no

def fieldOff (P : Program) (t : TypeId) (i : Nat) : Option (Nat × TypeId) := match und P t with
  | .struct fs => match fs[i]? with
    | some f => some (f.offset, f.type)
    | none => none
  | _ => none

def boundOf (d : Int) : Option AV → Option Int
  | none => some d
  | some (.int _ n) => some n
  | _ => none
def sliceBounds (len : Nat) (lo hi : Option AV) : Option (Bool × Nat × Nat) :=
  match boundOf 0 lo, boundOf (lenI len) hi with
  | some l, some h => some (inS l h len, natI l, natI h)
  | _, _ => none

/-- Parts laid into cells, each at its place. -/
def fillA (place : Nat → Option (Nat × Nat)) (cells : List AV) : List (Nat × AV) → Option (List AV)
  | [] => some cells
  | (i, v) :: r => match place i with
    | none => none
    | some (off, size) => match Nat.beq v.parts.length size && Nat.ble (off + v.parts.length) cells.length && v.parts.all one with
      | true => fillA place (setMany cells off v.parts) r
      | false => none
def placesOf (P : Program) : List Field → Option (List (Nat × Nat))
  | [] => some []
  | f :: r => match okT P f.type, placesOf P r with
    | true, some l => some ((f.offset, szOf P f.type) :: l)
    | _, _ => none
def buildA (P : Program) (t : TypeId) (parts : List (Nat × AV)) : Option (List AV) :=
  match okZ P t with
  | false => none
  | true => match und P t with
    | .struct fs => match placesOf P fs.toList with
      | some pl => fillA (pl[·]?) (zeroOf P t) parts
      | none => none
    | .array _ e => match okT P e with
      | true => fillA (fun i => some (i * szOf P e, szOf P e)) (zeroOf P t) parts
      | false => none
    | _ => none

def appendA (P : Program) (h : Nat → Option Blk) (base : Nat) (elem : TypeId) (s : AV) (n : Nat) (cs : List AV) (exact_ : Bool) : Res :=
  match s with
  | .nils => .val (fitN n (byOf P elem) && exact_) (.own base 0 n) [(base, ⟨true, elem, 0, cs⟩)] [] []
  | .own id off len => match h id with
    | some b => match Nat.beq b.st 0 && (Nat.beq b.elem 0 || Nat.beq b.elem elem), b.arr with
      | true, true => .val (fitN (addN len n) (byOf P elem) && exact_) (.own base 0 (addN len n))
          [(base, ⟨true, elem, 0, catC (cutC b.cells off (mulN len (szOf P elem))) cs⟩)] [id] []
      | _, _ => .no
    | none => .no
  | _ => .no
def builtinA (P : Program) (h : Nat → Option Blk) (base : Nat) (b : Builtin) (ts : List TypeId) (args : List AV) : Res :=
  match b, args with
  | .len, [x] => match ts with
    | t :: _ => match und P t, x with
      | .string, .str s => .pure (.int .i64 (lenI (lenS s)))
      | .slice _, .nils => .pure (.int .i64 0)
      | .slice _, .fs n _ => .pure (.int .i64 (lenI n))
      | .slice _, .own _ _ n => .pure (.int .i64 (lenI n))
      | _, _ => .no
    | [] => .no
  | .min, [x, y] => match x, y with
    | .int k a, .int _ b => .pure (.int k (minI a b))
    | _, _ => .no
  | .max, [x, y] => match x, y with
    | .int k a, .int _ b => .pure (.int k (maxI a b))
    | _, _ => .no
  | .append, [s, x] => match ts with
    | [t, t'] => match und P t with
      | .slice e => match okZ P e && notInt P t' with
        | false => .no
        | true => match x with
        | .str z => appendA P h base e s (lenS z) (bytesOf z) (Nat.beq (szOf P e) 1)
        | x => match sliceOf P e h x with
          | some (n, cs) => appendA P h base e s n cs (exactly x cs (mulN n (szOf P e)))
          | none => .no
      | _ => .no
    | _ => .no
  | _, _ => .no

/-- Is it the word nil of a slice? -/
def nilC : Operand → Bool
  | .const (.slice none 0 0) => true
  | _ => false
def nilD : BinOp → Bool | .eql => false | _ => true
/-- A slice compared with nil: either, where it is empty. -/
def nilCmp (d : Bool) : AV → Res
  | .fs n _ => .pure (.unk d n)
  | .nils => .pure (.unk d 0)
  | .own _ _ n => .pure (.unk d n)
  | _ => .no
def binN (P : Program) (op : BinOp) (t : TypeId) (y : Operand) (vx vy : AV) : Res := match nilC y, op, und P t with
  | true, .eql, .slice _ => nilCmp false vx
  | true, .neq, .slice _ => nilCmp true vx
  | _, _, _ => binA P op t vx vy
/-- One operation. -/
def evR0 (cp : CP) (ρ : Operand → AV) (h : Nat → Option Blk) (base : Nat) (o : Oper) : Res :=
  match o.op with
  | .move x => .pure (ρ x)
  | .assign x => .pure (ρ x)
  | .pick c a b => match ρ c with
    | .bool true => .pure (ρ a)
    | .bool false => .pure (ρ b)
    | _ => .no
  | .alloc t => .val (okZ cp.P t) (.ptr base 0) [(base, ⟨isArr cp.P t, t, 0, zeroOf cp.P t⟩)] [] []
  | .box t x => .val ((ρ x).parts.all one && Nat.beq (ρ x).parts.length (szOf cp.P t) && (!isArr cp.P t || (okT cp.P t && (ρ x).parts.all flat1))) (.ptr base 0) [(base, ⟨isArr cp.P t, t, 0, (ρ x).parts⟩)] [] []
  | .build t parts => match buildA cp.P t (parts.toList.map fun p => (p.1, ρ p.2)) with
    | some cs => .pure (.agg cs)
    | none => .no
  | .buildSlice t len parts => match und cp.P t with
    | .slice e => match Nat.beq len 0, parts.toList with
      | true, [] => .val (okZ cp.P e) (.own base 0 0) [(base, ⟨true, e, 0, []⟩)] [] []
      | _, _ => match okZ cp.P e && Nat.ble 1 len && Nat.ble (len * szOf cp.P e) 16777216 with
      | true => match fillA (fun i => some (i * szOf cp.P e, szOf cp.P e)) (repC len (zeroOf cp.P e)) (parts.toList.map fun p => (p.1, ρ p.2)) with
        | some cs => match closedAll cp.P h cs with
          | some (ys, fz) => .val (cs.all one) (.own base 0 len) [(base, ⟨true, e, 0, ys⟩)] [] fz
          | none => .no
        | none => .no
      | false => .no
    | _ => .no
  | .load t a => loadA cp.P h t (ρ a)
  | .store t a x => storeA cp.P h t (ρ a) (ρ x)
  | .nilCheck x => match ρ x with
    | .ptr id off => .pure (.ptr id off)
    | .fp cs off => .pure (.fp cs off)
    | _ => .no
  | .binOp op t x y _ => binN cp.P op t y (ρ x) (ρ y)
  | .unOp op _ x => match op, ρ x with
    | .neg, .int k n => .pure (.int k (wr k (subI 0 n)))
    | .xor, .int k n => .pure (.int k (bitsOp .xor k (if k.signed then -1 else k.max) n))
    | .not, .bool b => .pure (.bool (notB b))
    | _, _ => .no
  | .convert s d x => convA cp.P h base s d (ρ x)
  | .makeSlice t l c => match und cp.P t, ρ l, ρ c with
    | .slice e, .int _ l, .int _ c =>
      .val (okZ cp.P e && fitMk l c (byOf cp.P e)) (.own base 0 (natI l))
        [(base, ⟨true, e, 0, repC (natI c) (zeroOf cp.P e)⟩)] [] []
    | _, _, _ => .no
  | .slice t x lo hi mx => match mx with
    | some _ => .no
    | none => match ρ x, und cp.P t with
      | .str s, .string => match sliceBounds (lenS s) (lo.map ρ) (hi.map ρ) with
        | some (g, l, r) => .gpure g (.str (subS s l r))
        | none => .no
      | .nils, .slice e => match sliceBounds 0 (lo.map ρ) (hi.map ρ) with
        | some (g, _, _) => .gpure (okT cp.P e && g) .nils
        | none => .no
      | .fs n cs, .slice e => match sliceBounds n (lo.map ρ) (hi.map ρ) with
        | some (g, l, r) => .gpure (okT cp.P e && g) (.fs (subN r l) (cutC cs (mulN l (szOf cp.P e)) (mulN (subN r l) (szOf cp.P e))))
        | none => .no
      | .own id off n, .slice e => match h id with
        | some b => match Nat.ble b.st 1 && (Nat.beq b.elem 0 || Nat.beq (szOf cp.P b.elem) (szOf cp.P e)), b.arr with
          | true, true => match sliceBounds n (lo.map ρ) (hi.map ρ) with
            | some (g, l, r) => .gpure (okT cp.P e && g) (.own id (addN off (mulN l (szOf cp.P e))) (subN r l))
            | none => .no
          | _, _ => .no
        | none => .no
      | _, _ => .no
  | .fieldAddr t x i => match fieldOff cp.P t i, ρ x with
    | some f, .ptr id off => match okT cp.P f.2 with | false => .no | true => .pure (.ptr id (addN off f.1))
    | some f, .fp cs off => match okT cp.P f.2 with | false => .no | true => .pure (.fp cs (addN off f.1))
    | _, _ => .no
  | .field t x i => match fieldOff cp.P t i, ρ x with
    | some f, .agg xs => .gpure (okT cp.P f.2 && Nat.ble (f.1 + szOf cp.P f.2) xs.length) (plainAs cp.P f.2 (window xs f.1 (szOf cp.P f.2)))
    | _, _ => .no
  | .indexAddr t x ix => match und cp.P t, ρ x, ρ ix with
    | .slice e, .own id off n, .int _ i => match h id with
      | some b => match Nat.ble b.st 1 with
        | true => .gpure (okT cp.P e && inR i n) (.ptr id (addN off (mulN (natI i) (szOf cp.P e))))
        | false => .no
      | none => .no
    | .slice e, .fs n cs, .int _ i => .gpure (okT cp.P e && inR i n) (.fp cs (mulN (natI i) (szOf cp.P e)))
    | .array n e, .ptr id off, .int _ i => .gpure (okT cp.P e && inR i n) (.ptr id (addN off (mulN (natI i) (szOf cp.P e))))
    | .array n e, .fp cs off, .int _ i => .gpure (okT cp.P e && inR i n) (.fp cs (addN off (mulN (natI i) (szOf cp.P e))))
    | _, _, _ => .no
  | .index t x ix => match und cp.P t, ρ x, ρ ix with
    | .string, .str s, .int _ i => .gpure (inR i (lenS s)) (.int .u8 (getS s i))
    | _, _, _ => .no
  | .extract x i => match ρ x with
    | .tup vs => match vs[i]? with | some v => .pure v | none => .no
    | _ => .no
  | .call c => match c.callee with
    | .builtin b => builtinA cp.P h base b c.argTypes.toList (c.args.toList.map ρ)
    | .value f => match ρ f with
      | .fn f => match argsOf cp f h (c.args.toList.map ρ) with
        | some (as, fz, rs) => .call f as fz rs
        | none => .no
      | _ => .no
    | _ => .no
  | _ => .no

/-! Pointers, and strings.Builder's bytes. -/
def nilPC : Operand → Bool
  | .const (.pointer none) => true
  | _ => false
def flipB (d : Bool) : Bool := match d with | true => false | false => true
def ptrNil (d : Bool) : AV → Res
  | .nilp => .pure (.bool d)
  | .ptr _ _ => .pure (.bool (flipB d))
  | .fp _ _ => .pure (.bool (flipB d))
  | _ => .no
def samePtr : AV → AV → Bool
  | .ptr i o, .ptr i' o' => Nat.beq i i' && Nat.beq o o'
  | _, _ => false
/-- A pointer at a struct of this type. -/
def liveS (P : Program) (h : Nat → Option Blk) (t : TypeId) : AV → Bool
  | .ptr id off => (match h id with | some b => Nat.beq off 0 && Nat.ble b.st 1 && (match b.arr with | true => false | false => true) && Nat.beq b.elem t && okT P t | none => false)
  | _ => false
def ptrConv (P : Program) (h : Nat → Option Blk) (s d : TypeId) (v : AV) : Res := match und P s, und P d with
  | .pointer e, .unsafePointer => (match liveS P h e v with | true => .pure v | false => .no)
  | .unsafePointer, .pointer u => (match liveS P h u v && liesAt P P.depth u (szOf P u / P.cellsOf u) 0 u 1 with | true => .pure v | false => .no)
  | _, _ => .no
def ptrBin (P : Program) (op : BinOp) (t : TypeId) (y : Operand) (vx vy : AV) : Res := match und P t, op, nilPC y with
  | .pointer _, .eql, true => ptrNil true vx
  | .pointer _, .neq, true => ptrNil false vx
  | .pointer e, .neq, false => (match samePtr vx vy && okT P e with | true => .pure (.bool false) | false => .no)
  | _, _, _ => .no
def sliceData (P : Program) (ts : List TypeId) : List AV → Res
  | [.nils] => (match ts with
    | [t] => (match und P t with | .slice _ => .pure .nilp | _ => .no)
    | _ => .no)
  | [.own id off n] => (match ts with
    | [t] => (match und P t with | .slice _ => .gpure (notB (Nat.beq n 0)) (.ptr id off) | _ => .no)
    | _ => .no)
  | _ => .no
def unsafeStr (P : Program) (h : Nat → Option Blk) (ts : List TypeId) : List AV → Res
  | [.nilp, .int _ n] => (match ts with
    | [_, _] => .gpure (eqI n 0) (.str ByteArray.empty)
    | _ => .no)
  | [.ptr id off, .int _ n] => (match ts with
    | [t, _] => (match und P t, h id with
      | .pointer e, some b => (match Nat.beq b.st 0 && Nat.beq b.elem e && Nat.beq (szOf P e) 1, b.arr with
        | true, true => .val (ltI 0 n && (leI n 9223372036854775807 && (Nat.ble (addN off (natI n)) b.cells.length && isBytes (cutC b.cells off (natI n))))) (.str (strOf (cutC b.cells off (natI n)))) [] [id] []
        | _, _ => .no)
      | _, _ => .no)
    | _ => .no)
  | _ => .no
def noEscB (fn : Func) : Bool := fn.body.isNone && (fn.name == "internal/abi.NoEscape" && (Extern.findNext fn).isNone)
def isExt (cp : CP) : Operand → Bool
  | .func f => (match look cp.fns f with
    | some _ => false
    | none => (match cp.P.funcs[f]? with | some fn => noEscB fn | none => false))
  | _ => false
def isPt2 (P : Program) (s : TypeId) : Bool := match und P s with | .pointer _ => true | .unsafePointer => true | _ => false
/-- Operations on pointers. -/
def isP (cp : CP) (o : Oper) : Bool := match o.op with
  | .convert s _ _ => isPt2 cp.P s
  | .binOp _ t _ _ _ => isPt2 cp.P t
  | .call c => (match c.callee with
    | .builtin .unsafeSliceData => true
    | .builtin .unsafeString => true
    | .builtin _ => false
    | .value f => isExt cp f
    | _ => false)
  | _ => false
def evP (cp : CP) (ρ : Operand → AV) (h : Nat → Option Blk) (o : Oper) : Res := match o.op with
  | .convert s d x => ptrConv cp.P h s d (ρ x)
  | .binOp op t x y _ => ptrBin cp.P op t y (ρ x) (ρ y)
  | .call c => (match c.callee with
    | .builtin .unsafeSliceData => sliceData cp.P c.argTypes.toList (c.args.toList.map ρ)
    | .builtin .unsafeString => unsafeStr cp.P h c.argTypes.toList (c.args.toList.map ρ)
    | .value _ => (match c.args.toList.map ρ with | [x] => .pure x | _ => .no)
    | _ => .no)
  | _ => .no
/-! Arrays of many numbers as values; variables of packages. -/
def liftV : AV → AV
  | .arr k ns => .agg (arrC k ns)
  | v => v
def globV (cp : CP) (g : Nat) : AV := match look cp.globs g with | some cs => .fp cs 0 | none => .any
def ρL (cp : CP) (ρ : Operand → AV) : Operand → AV
  | .global g => globV cp g
  | x => liftV (ρ x)
def loadBig (h : Nat → Option Blk) (k : IntKind) (n : Nat) : AV → Res
  | .ptr id off => (match h id with
    | some b => (match Nat.ble b.st 1, b.arr with
      | true, true => .gpure (kindC k b.cells off n) (.arr k (intsC b.cells off n))
      | _, _ => .no)
    | none => .no)
  | .fp cells off => .gpure (kindC k cells off n) (.arr k (intsC cells off n))
  | _ => .no
def storeBig (P : Program) (h : Nat → Option Blk) (t : TypeId) (k : IntKind) (ns : List Int) : AV → Res
  | .ptr id off => (match h id with
    | some b => (match Nat.beq b.st 0, b.arr with
      | true, true => .val (okT P t && (lenL ns (szOf P t) && Nat.ble (off + szOf P t) b.cells.length)) .any [(id, { b with cells := putC b.cells off k ns })] [] []
      | _, _ => .no)
    | none => .no)
  | _ => .no
def buildBig (k : IntKind) : Option (List AV) → Res
  | some cs => (match cs.all (ok1 (.int k)) with | true => .pure (.arr k (cs.map AV.asInt)) | false => .no)
  | none => .no
def idxBig (P : Program) (t : TypeId) (k : IntKind) (ns : List Int) : AV → Res
  | .int _ i => (match und P t with
    | .array n e => (match isAggT P e with | false => .gpure (okT P e && (Nat.beq (szOf P e) 1 && (inR i n && lenL ns n))) (.int k (nthI ns (natI i))) | true => .no)
    | _ => .no)
  | _ => .no
def isG : Operand → Bool | .global _ => true | _ => false
def evA (cp : CP) (ρ : Operand → AV) (h : Nat → Option Blk) (base : Nat) (o : Oper) : Option Res := match o.op with
  | .box t x => (match ρ x with
    | .arr k ns => some (.val (okT cp.P t && (isArr cp.P t && lenL ns (szOf cp.P t))) (.ptr base 0) [(base, ⟨true, t, 0, arrC k ns⟩)] [] [])
    | _ => none)
  | .load t a => (match isG a with
    | true => some (evR0 cp (ρL cp ρ) h base o)
    | false => (match bigA cp.P t with
      | some (k, n) => some (loadBig h k n (ρ a))
      | none => none))
  | .store t a x => (match ρ x with
    | .arr k ns => some (storeBig cp.P h t k ns (ρ a))
    | _ => none)
  | .build t parts => (match bigA cp.P t with
    | some (k, _) => some (buildBig k (buildA cp.P t (parts.toList.map fun p => (p.1, ρ p.2))))
    | none => none)
  | .index t x ix => (match ρ x with
    | .arr k ns => some (idxBig cp.P t k ns (ρ ix))
    | _ => none)
  | .indexAddr _ x _ => (match isG x with
    | true => some (evR0 cp (ρL cp ρ) h base o)
    | false => none)
  | _ => none
/-! Trees: rows of one's own whose cells may hold rows of one's own. A block of state 3 is a tree; of state 4: a tree of which one row is in hand as a block by itself. -/
def cutN (n : Nat) (cs : List AV) : List AV := match n with | 0 => [] | _ => cs
/-- The row in hand put back. -/
def foldB (h : Nat → Option Blk) (b : Blk) : Option (Blk × List Nat) := match Nat.beq b.st 3 with
  | true => some (b, [])
  | false => match Nat.beq b.st 4, b.cells with
    | true, [.tup cs, .own cid j n] => (match h cid with
      | some c => (match Nat.beq c.st 3 with | true => some (⟨b.arr, b.elem, 3, setMany cs j [.fs n (cutN n c.cells)]⟩, [cid]) | false => none)
      | none => none)
    | _, _ => none
/-- A cell as a tree holds it; what has to be so; the blocks that are given to the tree. -/
def tr1 (P : Program) (h : Nat → Option Blk) : AV → Option (AV × Bool × List Nat)
  | .int k n => some (.int k n, true, [])
  | .bool b => some (.bool b, true, [])
  | .str s => some (.str s, true, [])
  | .nils => some (.fs 0 [], true, [])
  | .own id off n => match h id with
    | some b => match Nat.beq b.elem 0, Nat.beq b.st 3, Nat.beq b.st 0 && b.arr with
      | false, true, _ => some (.fs n (cutC b.cells off (mulN n (szOf P b.elem))), true, [id])
      | false, false, true => some (.fs n (cutC b.cells off (mulN n (szOf P b.elem))), b.cells.all plain1, [id])
      | _, _, _ => none
    | none => none
  | _ => none
def trAll (P : Program) (h : Nat → Option Blk) : List AV → Option (List AV × Bool × List Nat)
  | [] => some ([], true, [])
  | v :: r => match tr1 P h v, trAll P h r with
    | some (a, g, i), some (b, g', j) => some (a :: b, g && g', i ++ j)
    | _, _ => none
/-- Where the one slice stands; all else scalars. -/
def slPos : List Sc → Nat → Option Nat
  | [], _ => none
  | s :: ss, i => match isSl1 s with
    | true => (match ss.all scal with | true => some i | false => none)
    | false => (match scal s with | true => slPos ss (i + 1) | false => none)
def castU (b n : Nat) : List Sc → List AV → List AV
  | [], _ => []
  | s :: ss, vs => (match isSl1 s with | true => .own b 0 n | false => cast1 s (vs.headD .any)) :: castU b n ss vs.tail
def newsF (id : Nat) (b : Blk) : List Nat → List (Nat × Blk)
  | [] => []
  | _ => [(id, b)]
def treeLoad (P : Program) (h : Nat → Option Blk) (base : Nat) (t : TypeId) (id off : Nat) (b : Blk) : Res := match foldB h b with
  | none => .no
  | some (b', dd) => match (flat P 8 t).all scal with
    | true => .val (okT P t && partsOk P t (window b'.cells off (szOf P t))) (partsAs P t (window b'.cells off (szOf P t))) (newsF id b' dd) dd []
    | false => match slPos (flat P 8 t) 0 with
      | none => .no
      | some p => match isAggT P t || Nat.beq p 0 with
        | false => .no
        | true => .val (okT P t && partsOk P t (window b'.cells off (szOf P t)))
          (match isAggT P t with | true => .agg (castU base (cellAt b'.cells (addN off p)).asLen (flat P 8 t) (window b'.cells off (szOf P t))) | false => .own base 0 (cellAt b'.cells (addN off p)).asLen)
          [(id, ⟨true, b.elem, 4, [.tup b'.cells, .own base (addN off p) (cellAt b'.cells (addN off p)).asLen]⟩), (base, ⟨true, 0, 3, (cellAt b'.cells (addN off p)).asCells⟩)] dd []
def treeStore (P : Program) (h : Nat → Option Blk) (t : TypeId) (id off : Nat) (b : Blk) (v : AV) : Res := match foldB h b with
  | none => .no
  | some (b', dd) => match Nat.beq v.parts.length (szOf P t) && v.parts.all one, trAll P h v.parts with
    | true, some (ys, g, ids) => (match distinct (id :: (dd ++ ids)) && (!Nat.beq b.elem 0 || ys.all plain1) with
      | true => .val (okT P t && (g && Nat.ble (off + szOf P t) b'.cells.length)) .any [(id, ⟨true, b.elem, 3, setMany b'.cells off ys⟩)] (dd ++ ids) []
      | false => .no)
    | _, _ => .no
def nilF : AV → AV | .nils => .fs 0 [] | .nilp => .any | v => v
def treeMake (P : Program) (base : Nat) (e : TypeId) (l c : Int) : Res :=
  .val (okZ P e && fitMk l c (byOf P e)) (.own base 0 (natI l)) [(base, ⟨true, e, 3, repC (natI c) ((zeroOf P e).map nilF)⟩)] [] []
def treeBuild (P : Program) (h : Nat → Option Blk) (base : Nat) (e : TypeId) (len : Nat) (parts : List (Nat × AV)) : Res := match Nat.beq len 0, parts with
  | true, [] => .val (okZ P e) (.own base 0 0) [(base, ⟨true, e, 3, []⟩)] [] []
  | _, _ => match okZ P e && Nat.ble 1 len && Nat.ble (len * szOf P e) 16777216 with
    | true => (match fillA (fun i => some (i * szOf P e, szOf P e)) (repC len (zeroOf P e)) parts with
      | some cs => (match trAll P h cs with
        | some (ys, g, ids) => (match distinct ids with
          | true => .val (cs.all one && g) (.own base 0 len) [(base, ⟨true, e, 3, ys⟩)] ids []
          | false => .no)
        | none => .no)
      | none => .no)
    | false => .no
def treeApp (P : Program) (h : Nat → Option Blk) (base : Nat) (e : TypeId) : AV → AV → Res
  | .nils, .own xid xo xn => (match h xid with
    | some kx => (match Nat.beq kx.st 3 && Nat.beq kx.elem e with
      | true => .val (fitN xn (byOf P e)) (.own base 0 xn) [(base, ⟨true, e, 3, cutC kx.cells xo (mulN xn (szOf P e))⟩)] [xid] []
      | false => .no)
    | none => .no)
  | .own id off len, .own xid xo xn => (match h id, h xid with
    | some k, some kx => (match Nat.beq k.st 3 && (Nat.beq k.elem e && (Nat.beq kx.st 3 && (Nat.beq kx.elem e && !Nat.beq id xid))) with
      | true => .val (fitN (addN len xn) (byOf P e)) (.own base 0 (addN len xn))
          [(base, ⟨true, e, 3, catC (cutC k.cells off (mulN len (szOf P e))) (cutC kx.cells xo (mulN xn (szOf P e)))⟩)] [id, xid] []
      | false => .no)
    | _, _ => .no)
  | _, _ => .no
/-- A row that may be told from another by where it lies. -/
def natG (h : Nat → Option Blk) (id : Nat) : Option Bool := match h id with
  | some b => (match Nat.beq b.st 3 with
    | true => (match Nat.beq b.elem 0 with | false => some true | true => some (notB (b.cells.all plain1)))
    | false => none)
  | none => none
def twoTrees (h : Nat → Option Blk) : AV → AV → Option Bool
  | .ptr i _, .ptr j _ => (match Nat.beq i j, natG h i, natG h j with | false, some a, some b => some (a && b) | _, _, _ => none)
  | _, _ => none
/-- Operations on trees. -/
def evT (cp : CP) (ρ : Operand → AV) (h : Nat → Option Blk) (base : Nat) (o : Oper) : Option Res := match o.op with
  | .load t a => (match isG a, ρ a with
    | false, .ptr id off => (match h id with
      | some b => (match Nat.ble 3 b.st with | true => some (treeLoad cp.P h base t id off b) | false => none)
      | none => some .no)
    | _, _ => none)
  | .store t a x => (match ρ a with
    | .ptr id off => (match h id with
      | some b => (match Nat.ble 3 b.st with | true => some (treeStore cp.P h t id off b (ρ x)) | false => none)
      | none => some .no)
    | _ => none)
  | .indexAddr t x ix => (match isG x, ρ x with
    | false, .own id off n => (match h id with
      | some b => (match Nat.ble 3 b.st with
        | true => (match und cp.P t, ρ ix with
          | .slice e, .int _ i => some (.gpure (okT cp.P e && inR i n) (.ptr id (addN off (mulN (natI i) (szOf cp.P e)))))
          | _, _ => some .no)
        | false => none)
      | none => some .no)
    | _, _ => none)
  | .makeSlice t l c => (match cp.tm with
    | true => (match und cp.P t with
      | .slice e => (match treeT cp.P e, ρ l, ρ c with
        | true, .int _ l, .int _ c => some (treeMake cp.P base e l c)
        | _, _, _ => none)
      | _ => none)
    | false => none)
  | .buildSlice t len parts => (match cp.tm with
    | true => (match und cp.P t with
      | .slice e => (match treeT cp.P e with
        | true => some (treeBuild cp.P h base e len (parts.toList.map fun p => (p.1, ρ p.2)))
        | false => none)
      | _ => none)
    | false => none)
  | .binOp op t x y _ => (match op, und cp.P t, nilPC y with
    | .eql, .pointer e, false => (match twoTrees h (ρ x) (ρ y), okT cp.P e with | some g, true => some (.gpure g (.bool false)) | _, _ => some .no)
    | _, _, _ => none)
  | .call c => (match c.callee with
    | .builtin .append => (match cp.tm, c.argTypes.toList, c.args.toList.map ρ with
      | true, [t, t'], [s, x] => (match und cp.P t with
        | .slice e => (match treeT cp.P e && (okZ cp.P e && notInt cp.P t') with
          | true => some (treeApp cp.P h base e s x)
          | false => none)
        | _ => none)
      | _, _, _ => none)
    | _ => none)
  | _ => none
def touchV (base : Nat) (news : List (Nat × Blk)) (dead froz : List Nat) : List Nat := dead ++ froz ++ (news.map (·.1)).filter fun id => !Nat.beq id base
def stOk (h : Nat → Option Blk) (ids : List Nat) : Bool := ids.all fun id => match h id with | some b => Nat.ble b.st 1 | none => false
/-- What is no operation on trees leaves them as they are. -/
def sane (h : Nat → Option Blk) (base : Nat) : Res → Res
  | .val g v news dead froz => (match stOk h (touchV base news dead froz) && news.all (fun p => Nat.ble p.2.st 1) with | true => .val g v news dead froz | false => .no)
  | r => r
def tame (base : Nat) : Res → Res
  | .val g v news dead froz => (match news.all fun p => Nat.ble p.1 base with | true => .val g v news dead froz | false => .no)
  | r => r
def evR1 (cp : CP) (ρ : Operand → AV) (h : Nat → Option Blk) (base : Nat) (o : Oper) : Res := match isP cp o with
  | true => evP cp ρ h o
  | false => match evA cp ρ h base o with
    | some r => r
    | none => evR0 cp ρ h base o
def evR (cp : CP) (ρ : Operand → AV) (h : Nat → Option Blk) (base : Nat) (o : Oper) : Res := match evT cp ρ h base o with
  | some r => tame base r
  | none => sane h base (evR1 cp ρ h base o)
def evOperand (e : Nat → AV) : Operand → AV
  | .tmp t => e t
  | .const v => ofConst v
  | .func f => .fn f
  | .global _ => .any

def hdV (l : List AV) : AV := l.headD .any
def tlV (l : List AV) : List AV := l.tail
/-- The results of a call as they come in: each slice that is the callee's own becomes the caller's own. -/
def take1 (fresh : Bool) (b : Nat) (s : Sc) (e : TypeId) (v : AV) : AV × List (Nat × Blk) × Nat := match s, fresh with
  | .sl, true => (.own b 0 v.asLen, [(b, ⟨true, e, 0, v.asCells⟩)], b + 1)
  | s, _ => (cast1 s v, [], b)
def takeIn (fresh : Bool) : Nat → List Sc → List TypeId → List AV → List AV × List (Nat × Blk) × Nat
  | b, [], _, _ => ([], [], b)
  | b, s :: ss, es, vs =>
    let x := take1 fresh b s (es.headD 0) (hdV vs)
    let r := takeIn fresh x.2.2 ss es.tail (tlV vs)
    (x.1 :: r.1, x.2.1 ++ r.2.1, r.2.2)

def takeV (fresh : Bool) (b : Nat) (s : Sc) (e : TypeId) (r : AV) : AV × List (Nat × Blk) × Nat := match fresh, s with
  | true, .pt e ss => (.ptr b 0, [(b, ⟨false, e, 0, castAll ss r.refCells⟩)], b + 1)
  | _, _ => take1 fresh b s e r
def takeVal (fresh : Bool) (P : Program) (b : Nat) (t : TypeId) (r : AV) : AV × List (Nat × Blk) × Nat :=
  match bigA P t with
  | some (k, _) => (.arr k (arrI r), [], b)
  | none => match isAggT P t with
  | true => let x := takeIn fresh b (flat P 8 t) (elemsOf P 8 t) r.parts1; (.agg x.1, x.2.1, x.2.2)
  | false => takeV fresh b ((flat P 8 t).headD .bad) ((elemsOf P 8 t).headD 0) r
def takeVals (fresh : Bool) (P : Program) : Nat → List TypeId → List AV → List AV × List (Nat × Blk) × Nat
  | b, [], _ => ([], [], b)
  | b, t :: ts, vs =>
    let x := takeVal fresh P b t (hdV vs)
    let r := takeVals fresh P x.2.2 ts (tlV vs)
    (x.1 :: r.1, x.2.1 ++ r.2.1, r.2.2)
/-- The results of who hands out trees. -/
def takeT1 (b : Nat) (s : Sc) (e : TypeId) (v : AV) : AV × List (Nat × Blk) × Nat := match s with
  | .sl => (.own b 0 v.asLen, [(b, ⟨true, e, 3, v.asCells⟩)], b + 1)
  | s => (cast1 s v, [], b)
def takeTL : Nat → List Sc → List TypeId → List AV → List AV × List (Nat × Blk) × Nat
  | b, [], _, _ => ([], [], b)
  | b, s :: ss, es, vs =>
    let x := takeT1 b s (es.headD 0) (hdV vs)
    let r := takeTL x.2.2 ss es.tail (tlV vs)
    (x.1 :: r.1, x.2.1 ++ r.2.1, r.2.2)
def takeTV (P : Program) (b : Nat) (t : TypeId) (r : AV) : AV × List (Nat × Blk) × Nat := match isAggT P t with
  | true => let x := takeTL b (flat P 8 t) (elemsOf P 8 t) r.parts1; (.agg x.1, x.2.1, x.2.2)
  | false => takeT1 b ((flat P 8 t).headD .bad) ((elemsOf P 8 t).headD 0) r
def takeTs (P : Program) : Nat → List TypeId → List AV → List AV × List (Nat × Blk) × Nat
  | b, [], _ => ([], [], b)
  | b, t :: ts, vs =>
    let x := takeTV P b t (hdV vs)
    let r := takeTs P x.2.2 ts (tlV vs)
    (x.1 :: r.1, x.2.1 ++ r.2.1, r.2.2)
/-- The blocks handed on by reference, as the callee left them. -/
def takeRefs (P : Program) (h : Nat → Option Blk) : List Nat → List AV → List (Nat × Blk)
  | [], _ => []
  | id :: r, vs => match h id with
    | some b => (id, { b with cells := castAll (flat P 8 b.elem) (hdV vs).parts1 }) :: takeRefs P h r (tlV vs)
    | none => takeRefs P h r (tlV vs)

inductive Ex where
  | normal | exit (id : Nat) | ret

def stride : Nat := 32

def putVal (σ : St) (o : Oper) (v : AV) (news : List (Nat × Blk)) (dead froz : List Nat) : St :=
  { nt := σ.nt, nr := σ.nr, next := σ.next, env := match o.dst with | some d => upd σ.env d v | none => σ.env, heap := upds (setSt (setSt σ.heap 1 froz) 2 dead) news }

def tupA : List AV → AV
  | [v] => v
  | vs => .tup vs
def needPl (cp : CP) (f : FuncId) (fn : Func) (froz refs : List Nat) : Bool := match froz, refs with
  | _ :: _, [] => !scalarRes cp.P fn && (!treeF cp f && thaw cp f fn)
  | _, _ => false
def coldC (cp : CP) (f : FuncId) (fn : Func) (froz refs : List Nat) : List Nat := match scalarRes cp.P fn || (treeF cp f || thaw cp f fn), refs with | true, [] => [] | _, _ => froz
/-- What comes back of a call that shares the caller's memory. -/
def deepR (cp : CP) (f : FuncId) (i : List Nat) (r : List AV) : List AV × List AV := (cBs (tmB cp f i) (r.headD .any).tupL, cVs (tmV cp f i) r.tail)
def putDeep (cp : CP) (σ : St) (base : Nat) (o : Oper) (f : FuncId) (i refs : List Nat) (r : List AV) : St :=
  let q := deepR cp f i r
  let L := deepL refs base q.1.length
  { nt := σ.nt, nr := σ.nr, next := σ.next, env := match o.dst with | some d => upd σ.env d (tupA (q.2.map (mv L))) | none => σ.env,
    heap := upds (setSt σ.heap 2 (deepDead L q.1)) (deepNews L L q.1) }
def isRef : AV → Bool | .ref _ _ _ => true | .fp _ _ => true | _ => false
def deepFits (cp : CP) (base : Nat) (f : FuncId) (i refs : List Nat) (r : List AV) : Bool := refs.all (fun id => Nat.blt id base) && (((tmB cp f i).drop refs.length).all isRef && (Nat.ble refs.length (tmB cp f i).length && (Nat.ble (tmB cp f i).length (refs.length + stride) && shR (.tup (tmB cp f i) :: tmV cp f i) r)))
/-- What stands behind the results. -/
def dropV : List TypeId → List AV → List AV
  | [], vs => vs
  | _ :: ts, vs => dropV ts (tlV vs)
def putCall (cp : CP) (σ : St) (base : Nat) (o : Oper) (f : FuncId) (froz refs : List Nat) (r : List AV) : St := match isDeep cp f with
  | true => putDeep cp σ base o f froz refs r
  | false => match treeF cp f with
  | true => (match look cp.fns f with
    | some fn =>
      let x := takeTs cp.P base fn.resultTypes.toList r
      { nt := σ.nt, nr := σ.nr, next := σ.next, env := match o.dst with | some d => upd σ.env d (tupA x.1) | none => σ.env, heap := upds σ.heap x.2.1 }
    | none => σ)
  | false => match look cp.fns f with
  | some fn =>
    let fresh := cp.fresh.contains f
    let x := takeVals fresh cp.P base fn.resultTypes.toList r
    let v : AV := tupA x.1
    let hp := setSt (upds σ.heap (takeRefs cp.P σ.heap refs (dropV fn.resultTypes.toList r))) 1 (coldC cp f fn froz refs)
    { nt := σ.nt, nr := σ.nr, next := σ.next, env := match o.dst with | some d => upd σ.env d v | none => σ.env, heap := upds hp x.2.1 }
  | none => σ

/-- What came back has its numbers. -/
def callFits (cp : CP) (base : Nat) (f : FuncId) (froz refs : List Nat) (r : List AV) : Bool := match isDeep cp f with
  | true => (match look cp.fns f with | some _ => deepFits cp base f froz refs r | none => false)
  | false => match treeF cp f with
  | true => (match look cp.fns f, refs with | some fn, [] => Nat.ble (takeTs cp.P base fn.resultTypes.toList r).2.2 (base + stride) | _, _ => false)
  | false => match look cp.fns f with
  | some fn => Nat.ble (takeVals (cp.fresh.contains f) cp.P base fn.resultTypes.toList r).2.2 (base + stride) && (match needPl cp f fn froz refs with | true => plainRes r | false => true)
  | none => false
def dstOk (σ : St) (o : Oper) : Bool := match o.dst with | some d => Nat.blt d σ.nt | none => true
def setAny (σ : St) (o : Oper) : St := { σ with env := match o.dst with | some d => upd σ.env d (.tup []) | none => σ.env }
def setFlag (σ : St) (d : Nat) (b : Bool) : St := { σ with env := upd σ.env d (.bool b) }
/-- The operations of a region in their order. -/
def evOps (cp : CP) (orc : Orc) (ops : Array Oper) : List Oper → Nat → St → (St → Option (List AV)) → Option (List AV)
  | [], base, σ, K => K { σ with next := base }
  | o :: rest, base, σ, K =>
    match dstOk σ o with
    | false => none
    | true =>
      let go (σ : St) : Option (List AV) :=
        match evR cp (evOperand σ.env) σ.heap base o with
        | .no => none
        | .val g v news dead froz => gd g (evOps cp orc ops rest (base + stride) (putVal σ o v news dead froz) K)
        | .call f args froz refs => bnd (orc f args) fun r => gd (callFits cp base f froz refs r) (evOps cp orc ops rest (base + stride) (putCall cp σ base o f froz refs r) K)
      let skip (σ : St) : Option (List AV) := evOps cp orc ops rest (base + stride) (setAny σ o) K
      match o.guard with
      | none => go σ
      | some (j, want) => match (ops[j]?).bind (·.dst) with
        | some d => match σ.env d with
          | .bool b => br b (match want with | true => go (setFlag σ d true) | false => skip (setFlag σ d true))
              (match want with | true => skip (setFlag σ d false) | false => go (setFlag σ d false))
          | .tup [] => skip σ
          | _ => none
        | none => none

/-! Regions that draw their order: who waits for whom, who looks at the memory, who changes what was there. -/
def edgesTo (o : Oper) : List Nat := (o.after.toList.filter (Region.binds .any)).map (·.on)
def maskOf (l : List Nat) : Nat := l.foldl (fun m j => m ||| (1 <<< j)) 0
def ancsFrom (prev : List Nat) : List Oper → List Nat
  | [] => prev
  | o :: r => ancsFrom (prev ++ [(edgesTo o).foldl (fun m j => m ||| ((1 <<< j) ||| prev.getD j 0)) 0]) r
def ancs (ops : Array Oper) : List Nat := ancsFrom [] ops.toList
def waitsB (A : List Nat) (j i : Nat) : Bool := Nat.testBit (A.getD j 0) i
def dstNe (x y : Oper) : Bool := match x.dst, y.dst with
  | some a, some b => !Nat.beq a b
  | _, _ => true
def drawRow (ops : Array Oper) (o : Oper) (mask k : Nat) : Bool := (List.range k).all fun i => match ops[i]? with
  | none => false
  | some o' => (Nat.testBit mask i || o'.apart ops o) && dstNe o' o
/-- Each waits for those ahead of it, or is apart from them. -/
def drawB (ops : Array Oper) : Bool := (List.range ops.size).all fun k => match ops[k]? with
  | none => false
  | some o => (edgesTo o).all (fun j => Nat.blt j k) && drawRow ops o (maskOf (edgesTo o)) k
/-- It looks at the memory. -/
def tchB (cp : CP) (o : Oper) : Bool := match o.op with
  | .load _ _ => true
  | .store _ _ _ => true
  | .buildSlice _ _ _ => true
  | .slice t _ _ _ _ => match und cp.P t with | .slice _ => true | _ => false
  | .indexAddr _ _ _ => true
  | .convert s _ _ => match und cp.P s with | .slice _ => true | .pointer _ => true | .unsafePointer => true | _ => false
  | .binOp _ t _ _ _ => match und cp.P t with | .pointer _ => true | _ => false
  | .call c => match c.callee with
    | .builtin .append => true
    | .builtin .unsafeString => true
    | .builtin _ => false
    | _ => true
  | _ => false
def touchOk (A : List Nat) (base0 i : Nat) (ids : List Nat) : Bool := ids.all fun id => Nat.blt id base0 || waitsB A i ((id - base0) / stride)
/-- It reads, whether what it reads is frozen or not. -/
def readB (o : Oper) : Bool := match o.op with
  | .load _ _ => true
  | .slice _ _ _ _ _ => true
  | .indexAddr _ _ _ => true
  | .convert _ _ _ => true
  | _ => false
/-- The blocks that an operation may look at: what its operands name, and what these hold. -/
def cellsAt' (b : Blk) : List Nat := match b.arr && !Nat.beq b.st 4 with | true => [] | false => b.cells.flatMap idsOf
def reachA (h : Nat → Option Blk) : Nat → List Nat → List Nat → List Nat
  | 0, _, seen => seen
  | _, [], seen => seen
  | k + 1, id :: r, seen => match seen.contains id with
    | true => reachA h k r seen
    | false => match h id with
      | some b => reachA h k (r ++ cellsAt' b) (seen ++ [id])
      | none => reachA h k r seen
def lookIds (cp : CP) (ρ : Operand → AV) (h : Nat → Option Blk) (o : Oper) : List Nat := match tchB cp o with
  | true => reachA h 1000 ((o.op.operands.toList.map ρ).flatMap idsOf) []
  | false => []
def only (V : List Nat) (h : Nat → Option Blk) : Nat → Option Blk := fun id => match V.contains id with | true => h id | false => none
/-- Of an operation: the blocks it touches, those it looks at, whether it merely freezes, whether it merely reads. -/
structure Trc where
  T : List Nat
  L : List Nat
  sf : Bool
  rd : Bool
def meets (a b : List Nat) : Bool := a.any fun x => b.contains x
def apartB (x y : Trc) : Bool := !meets x.T y.L || (x.sf && y.rd)
/-- Who touches what another looks at waits for it, or is waited for; who merely freezes, not for those that merely read. -/
def ordAt (A : List Nat) (i : Nat) (x : Trc) : Nat → List Trc → Bool
  | _, [] => true
  | c, y :: r => (waitsB A i c || (apartB x y && apartB y x)) && ordAt A i x (c + 1) r
def quiet (ids : List Nat) : Bool := match ids with | [] => true | _ => false
def trcOf (o : Oper) (T V : List Nat) (sf : Bool) : Trc := ⟨T, V ++ T, sf, readB o && quiet T⟩
def ordOk (A : List Nat) (base0 i : Nat) (x : Trc) (acc : List Trc) : Bool := touchOk A base0 i x.L && ordAt A i x 0 acc
def trc0 : Trc := ⟨[], [], false, false⟩
def frozC (cp : CP) (f : FuncId) (froz refs : List Nat) : List Nat := match isDeep cp f with
  | true => []
  | false => match look cp.fns f with
  | some fn => coldC cp f fn froz refs
  | none => []
def touchC (cp : CP) (f : FuncId) (froz refs : List Nat) : List Nat := frozC cp f froz refs ++ refs
/-- It merely freezes. -/
def softV (h : Nat → Option Blk) (base : Nat) (news : List (Nat × Blk)) (dead froz : List Nat) : Bool := quiet dead && quiet ((news.map (·.1)).filter fun id => !Nat.beq id base) && stOk h froz
def softC (cp : CP) (h : Nat → Option Blk) (f : FuncId) (froz refs : List Nat) : Bool := quiet refs && stOk h (frozC cp f froz refs)
/-- The operations of a region that draws its order, in their order. -/
def evDraw (cp : CP) (orc : Orc) (ops : Array Oper) (A : List Nat) (base0 : Nat) : List Oper → Nat → Nat → List Trc → St → (St → Option (List AV)) → Option (List AV)
  | [], _, base, _, σ, K => K { σ with next := base }
  | o :: rest, i, base, acc, σ, K =>
    match dstOk σ o with
    | false => none
    | true =>
      let go (σ : St) : Option (List AV) :=
        match evR cp (evOperand σ.env) (only (lookIds cp (evOperand σ.env) σ.heap o) σ.heap) base o with
        | .no => none
        | .val g v news dead froz => match ordOk A base0 i (trcOf o (touchV base news dead froz) (lookIds cp (evOperand σ.env) σ.heap o) (softV σ.heap base news dead froz)) acc with
          | false => none
          | true => gd g (evDraw cp orc ops A base0 rest (i + 1) (base + stride) (acc ++ [trcOf o (touchV base news dead froz) (lookIds cp (evOperand σ.env) σ.heap o) (softV σ.heap base news dead froz)]) (putVal σ o v news dead froz) K)
        | .call f args froz refs => match ordOk A base0 i (trcOf o (touchC cp f froz refs) (lookIds cp (evOperand σ.env) σ.heap o) (softC cp σ.heap f froz refs)) acc with
          | false => none
          | true => bnd (orc f args) fun r => gd (callFits cp base f froz refs r) (evDraw cp orc ops A base0 rest (i + 1) (base + stride) (acc ++ [trcOf o (touchC cp f froz refs) (lookIds cp (evOperand σ.env) σ.heap o) (softC cp σ.heap f froz refs)]) (putCall cp σ base o f froz refs r) K)
      let skip (σ : St) : Option (List AV) := evDraw cp orc ops A base0 rest (i + 1) (base + stride) (acc ++ [trc0]) (setAny σ o) K
      match o.guard with
      | none => go σ
      | some (j, want) => match (ops[j]?).bind (·.dst) with
        | some d => match σ.env d with
          | .bool b => br b (match want with | true => go (setFlag σ d true) | false => skip (setFlag σ d true))
              (match want with | true => skip (setFlag σ d false) | false => go (setFlag σ d false))
          | .tup [] => skip σ
          | _ => none
        | none => none
/-- The memory without what lies from its end on. -/
def cutH (σ : St) : St := { σ with heap := fun id => match Nat.blt id σ.next with | true => σ.heap id | false => none }
def evReg (cp : CP) (orc : Orc) (ops : Array Oper) (draw : Bool) (σ : St) (K : St → Option (List AV)) : Option (List AV) := match draw with
  | false => evOps cp orc ops ops.toList σ.next σ K
  | true => match drawB ops with
    | true => evDraw cp orc ops (ancs ops) σ.next ops.toList 0 σ.next [] (cutH σ) K
    | false => none

def readsOf (o : Oper) : List Nat := o.op.operands.toList.filterMap fun | .tmp t => some t | _ => none
/-- What is read of the frame before it is written, in code: from what is read behind it. -/
def lvOps (ops : Array Oper) : List Oper → List Nat → List Nat
  | [], out => out
  | o :: rest, out =>
    let l := lvOps ops rest out
    let l := match o.dst with | some d => l.filter (fun t => !Nat.beq t d) | none => l
    (readsOf o ++ (match o.guard with | some (j, _) => ((ops[j]?).bind (·.dst)).toList | none => [])).foldl addNew l
def lv : Code → List Nat → (Nat → List Nat) → List Nat → List Nat
  | .skip, out, _, _ => out
  | .region _ ops _, out, _, _ => lvOps ops ops.toList out
  | .seq a b, out, ex, rt => lv a (lv b out ex rt) ex rt
  | .cond c a b, out, ex, rt => (match c with | .tmp t => [t] | _ => []).foldl addNew ((lv b out ex rt).foldl addNew (lv a out ex rt))
  | .block id c, out, ex, rt => lv c out (upd ex id out) rt
  | .loop c, _, ex, rt => let l := lv c [] ex rt; lv c l ex rt
  | .exit id, _, ex, _ => ex id
  | .ret, _, _, rt => rt
  | .scope c, out, ex, rt => lv c out ex rt
  | _, out, _, _ => out

/-- At a loop's head: the slots that are still read, and what they reach, numbered anew. -/
def reach (h : Nat → Option Blk) : Nat → List Nat → List Nat → List Nat
  | 0, _, seen => seen
  | _, [], seen => seen
  | k + 1, id :: r, seen => match seen.contains id with
    | true => reach h k r seen
    | false => match h id with
      | some b => match b.arr with
        | true => reach h k r (seen ++ [id])
        | false => reach h k (r ++ b.cells.flatMap idsOf) (seen ++ [id])
      | none => reach h k r seen
def ofList {α : Type} (l : List (Nat × α)) (d : α) : Nat → α := fun u => match look l u with | some v => v | none => d
/-- Empty slices get a block of their own at a loop's head. -/
def stF (md : Bool) (P : Program) (e : TypeId) : Nat := match md with | false => 0 | true => (match treeT P e with | true => 3 | false => 0)
def nil1 (sf : TypeId → Nat) (b : Nat) (e : TypeId) : AV → AV × List (Nat × Blk) × Nat
  | .nils => (.own b 0 0, [(b, ⟨true, e, sf e, []⟩)], b + 1)
  | v => (v, [], b)
def nilL (sf : TypeId → Nat) : Nat → List TypeId → List AV → List AV × List (Nat × Blk) × Nat
  | b, _, [] => ([], [], b)
  | b, es, v :: r =>
    let x := nil1 sf b (es.headD 0) v
    let y := nilL sf x.2.2 es.tail r
    (x.1 :: y.1, x.2.1 ++ y.2.1, y.2.2)
def nilV (sf : TypeId → Nat) (P : Program) (b : Nat) (t : TypeId) : AV → AV × List (Nat × Blk) × Nat
  | .agg xs => let y := nilL sf b (elemsOf P 8 t) xs; (.agg y.1, y.2.1, y.2.2)
  | v => nil1 sf b ((elemsOf P 8 t).headD 0) v
def nilSlots (sf : TypeId → Nat) (P : Program) (ty : Nat → TypeId) : Nat → List (Nat × AV) → List (Nat × AV) × List (Nat × Blk) × Nat
  | b, [] => ([], [], b)
  | b, (t, v) :: r =>
    let x := nilV sf P b (ty t) v
    let y := nilSlots sf P ty x.2.2 r
    ((t, x.1) :: y.1, x.2.1 ++ y.2.1, y.2.2)
def isNilp : AV → Bool | .nilp => true | _ => false
def nilBlks (sf : TypeId → Nat) (P : Program) (h : Nat → Option Blk) : Nat → List Nat → List (Nat × Blk) × Nat
  | b, [] => ([], b)
  | b, id :: r => match h id with
    | some k => match k.arr || k.cells.any isNilp with
      | true => nilBlks sf P h b r
      | false =>
        let y := nilL sf b (elemsOf P 8 k.elem) k.cells
        let z := nilBlks sf P h y.2.2 r
        ((id, { k with cells := y.1 }) :: (y.2.1 ++ z.1), z.2)
    | none => nilBlks sf P h b r
/-- What is held at a loop's head. -/
structure PSt where
  nt : Nat
  nr : Nat
  next : Nat
  slots : List (Nat × AV)
  blks : List (Option Blk)
def unpack (D : PSt) : St := { nt := D.nt, nr := D.nr, next := D.next, env := ofList D.slots .any, heap := fun j => D.blks.getD j none }
def roots (nr : Nat) (vs : List (Nat × AV)) : List Nat := List.range nr ++ vs.flatMap fun p => idsOf p.2
def shutB (h : Nat → Option Blk) (id : Nat) : Bool := match h id with | some b => !Nat.beq b.st 4 | none => true
def packH (nt nr : Nat) (vs : List (Nat × AV)) (h : Nat → Option Blk) (ids : List Nat) : Option PSt :=
  match distinct ids && decide (ids.take nr = List.range nr) && ids.all (shutB h) with
  | false => none
  | true => some { nt := nt, nr := nr, next := ids.length, slots := vs.map fun p => (p.1, ren ids p.2), blks := ids.map fun id => match h id with | some b => some (renB ids b) | none => none }
def packG (sf : TypeId → Nat) (P : Program) (nt nr : Nat) (h : Nat → Option Blk) (x : List (Nat × AV) × List (Nat × Blk) × Nat) : Option PSt :=
  packH nt nr x.1 (upds h (x.2.1 ++ (nilBlks sf P h x.2.2 (reach h 1000 (roots nr x.1) [])).1)) (reach (upds h (x.2.1 ++ (nilBlks sf P h x.2.2 (reach h 1000 (roots nr x.1) [])).1)) 1000 (roots nr x.1) [])
/-- Rows in hand put back. -/
def fold1 (h : Nat → Option Blk) (id : Nat) : Nat → Option Blk := match h id with
  | some b => (match Nat.beq b.st 4, foldB h b with | true, some (b', dd) => upd (setSt h 2 dd) id (some b') | _, _ => h)
  | none => h
def foldsH (h : Nat → Option Blk) : List Nat → (Nat → Option Blk)
  | [] => h
  | id :: r => foldsH (fold1 h id) r
def gcD (md : Bool) (P : Program) (ty : Nat → TypeId) (live : List Nat) (σ : St) : Option PSt :=
  packG (stF md P) P σ.nt σ.nr (foldsH σ.heap (reach σ.heap 1000 (roots σ.nr (live.map fun t => (t, σ.env t))) [])) (nilSlots (stF md P) P ty σ.next (live.map fun t => (t, σ.env t)))

abbrev Kont := Ex → St → Option (List AV)
def evIter (gcf : St → Option PSt) (step : St → Kont → Option (List AV)) : Nat → PSt → Kont → Option (List AV)
  | 0, _, _ => none
  | m + 1, D, K => step (unpack D) fun e σ' => match e with
    | .normal => (match gcf σ' with | some D' => evIter gcf step m D' K | none => none)
    | e => K e σ'

/-- Of a function: where its results stand, and its slots' types. -/
structure FI where
  rt : List Nat
  ty : Nat → TypeId
open Classical in
/-- Both ways come to the same. -/
noncomputable def both (x y : Option (List AV)) : Option (List AV) := if x = y then x else none
noncomputable section
def evC (cp : CP) (orc : Orc) (n : Nat) (fi : FI) : Code → List Nat → (Nat → List Nat) → St → Kont → Option (List AV)
  | .skip, _, _, σ, K => K .normal σ
  | .region _ ops draw, _, _, σ, K => evReg cp orc ops draw σ (fun σ => K .normal σ)
  | .seq a b, out, ex, σ, K => evC cp orc n fi a (lv b out ex fi.rt) ex σ fun e σ' => match e with
    | .normal => evC cp orc n fi b out ex σ' K
    | e => K e σ'
  | .cond c a b, out, ex, σ, K => match c with
    | .tmp t => match σ.env t with
      | .bool v => br v (evC cp orc n fi a out ex { σ with env := upd σ.env t (.bool true) } K) (evC cp orc n fi b out ex { σ with env := upd σ.env t (.bool false) } K)
      | .unk d l => br (Nat.beq l 0) (both (evC cp orc n fi a out ex { σ with env := upd σ.env t (.bool true) } K) (evC cp orc n fi b out ex { σ with env := upd σ.env t (.bool false) } K))
          (match d with | true => evC cp orc n fi a out ex { σ with env := upd σ.env t (.bool true) } K | false => evC cp orc n fi b out ex { σ with env := upd σ.env t (.bool false) } K)
      | _ => none
    | .const (.bool true) => evC cp orc n fi a out ex σ K
    | .const (.bool false) => evC cp orc n fi b out ex σ K
    | _ => none
  | .block id c, out, ex, σ, K => evC cp orc n fi c out (upd ex id out) σ fun e σ' => match e with
    | .exit i => match Nat.beq i id with | true => K .normal σ' | false => K (.exit i) σ'
    | e => K e σ'
  | .loop c, out, ex, σ, K => match gcD cp.tm cp.P fi.ty (lv (.loop c) out ex fi.rt) σ with
    | some D => evIter (gcD cp.tm cp.P fi.ty (lv (.loop c) out ex fi.rt)) (fun σ K => evC cp orc n fi c (lv (.loop c) out ex fi.rt) ex σ K) n D K
    | none => none
  | .exit id, _, _, σ, K => K (.exit id) σ
  | .ret, _, _, σ, K => K .ret σ
  | _, _, _, _, _ => none

/-- The loop at a place of the code, m rounds left, from what is held at its head; ms: the rounds left of the loops around it. -/
def evAt (cp : CP) (orc : Orc) (n : Nat) (fi : FI) (m : Nat) (D : PSt) : Code → List Nat → List Nat → List Nat → (Nat → List Nat) → Kont → Option (List AV)
  | .loop c, [], _, out, ex, K => evIter (gcD cp.tm cp.P fi.ty (lv (.loop c) out ex fi.rt)) (fun σ K => evC cp orc n fi c (lv (.loop c) out ex fi.rt) ex σ K) m D K
  | .loop c, _ :: p, m0 :: ms, out, ex, K => evAt cp orc n fi m D c p ms (lv (.loop c) out ex fi.rt) ex fun e σ' => match e with
    | .normal => (match gcD cp.tm cp.P fi.ty (lv (.loop c) out ex fi.rt) σ' with | some D' => evIter (gcD cp.tm cp.P fi.ty (lv (.loop c) out ex fi.rt)) (fun σ K => evC cp orc n fi c (lv (.loop c) out ex fi.rt) ex σ K) m0 D' K | none => none)
    | e => K e σ'
  | .seq a b, 0 :: p, ms, out, ex, K => evAt cp orc n fi m D a p ms (lv b out ex fi.rt) ex fun e σ' => match e with
    | .normal => evC cp orc n fi b out ex σ' K
    | e => K e σ'
  | .seq _ b, 1 :: p, ms, out, ex, K => evAt cp orc n fi m D b p ms out ex K
  | .cond _ a _, 0 :: p, ms, out, ex, K => evAt cp orc n fi m D a p ms out ex K
  | .cond _ _ b, 1 :: p, ms, out, ex, K => evAt cp orc n fi m D b p ms out ex K
  | .block id c, _ :: p, ms, out, ex, K => evAt cp orc n fi m D c p ms out (upd ex id out) fun e σ' => match e with
    | .exit i => match Nat.beq i id with | true => K .normal σ' | false => K (.exit i) σ'
    | e => K e σ'
  | _, _, _, _, _, _ => none

def rtOf (fn : Func) : List Nat := fn.results.toList.map fun | .tmp t => t | .cell a _ => a
/-- One cell of a result as it is handed out, and the blocks that it names; of a function that hands out memory of its own: its own slices. -/
def out1 (P : Program) (h : Nat → Option Blk) (fresh : Bool) (e : TypeId) (v : AV) : Option (AV × List Nat) :=
  match fresh with
  | false => closed1 P h v
  | true => match v with
    | .fs _ _ => none
    | .own id off len => match h id with
      | some b => match Nat.beq b.st 0 && (Nat.beq b.elem 0 || (Nat.beq b.elem e && okT P e)), b.arr with
        | true, true => some (.fs len (cutC b.cells off (mulN len (szOf P b.elem))), [])
        | _, _ => none
      | none => none
    | v => closed1 P h v
def outCells (P : Program) (h : Nat → Option Blk) (fresh : Bool) : List TypeId → List AV → Option (List AV × List Nat)
  | _, [] => some ([], [])
  | es, v :: r => match out1 P h fresh (es.headD 0) v, outCells P h fresh es.tail r with
    | some (a, i), some (b, j) => some (a :: b, i ++ j)
    | _, _ => none
/-- A pointer at memory of its own. -/
def outPt (P : Program) (h : Nat → Option Blk) (ss : List Sc) (id off : Nat) : Option (AV × List Nat) := match h id, ss with
  | some b, [.pt e zs] => match Nat.beq b.st 0 && Nat.beq off 0 && Nat.beq b.elem e, b.arr, closedAll P h b.cells with
    | true, false, some (ys, i) => (match Nat.beq ys.length zs.length && okAll zs ys with | true => some (.ref false e ys, i) | false => none)
    | _, _, _ => none
  | _, _ => none
def resultVal (P : Program) (h : Nat → Option Blk) (fresh : Bool) (t : TypeId) (v : AV) : Option (AV × List Nat) :=
  match bigA P t with
  | some _ => closed1 P h v
  | none => match isAggT P t with
  | true => match v with
    | .agg xs => match outCells P h fresh (elemsOf P 8 t) xs with
      | some (ys, i) => some (.agg ys, i)
      | none => none
    | _ => none
  | false => match fresh, v with
    | true, .ptr id off => outPt P h (flat P 8 t) id off
    | _, _ => out1 P h fresh ((elemsOf P 8 t).headD 0) v
def own1 : AV → List Nat
  | .own id _ _ => [id]
  | .ptr id _ => [id]
  | _ => []
def ownIds (vs : List AV) : List Nat := (vs.flatMap AV.parts1).flatMap own1
def loadR (P : Program) (h : Nat → Option Blk) (t : TypeId) (a : AV) : Res := match bigA P t with
  | some (k, n) => loadBig h k n a
  | none => loadA P h t a
def resultsOf (P : Program) (σ : St) : List ResultVar → Option (Bool × List AV)
  | [] => some (true, [])
  | .tmp t :: r => match resultsOf P σ r with
    | some (g, vs) => some (g, σ.env t :: vs)
    | none => none
  | .cell a t :: r => match loadR P σ.heap t (σ.env a), resultsOf P σ r with
    | .val g v _ _ _, some (g', vs) => some (g && g', v :: vs)
    | _, _ => none
def handOut (P : Program) (h : Nat → Option Blk) (fresh : Bool) : List TypeId → List AV → Option (List AV × List Nat)
  | t :: ts, v :: vs => match resultVal P h fresh t v, handOut P h fresh ts vs with
    | some (a, i), some (b, j) => some (a :: b, i ++ j)
    | _, _ => none
  | [], [] => some ([], [])
  | _, _ => none
/-- What was handed by reference, at the call's end; ts: the types of what lies there. -/
def refsOut (P : Program) (h : Nat → Option Blk) : Nat → List TypeId → Option (List AV × List Nat)
  | _, [] => some ([], [])
  | id, t :: r => match h id with
    | some b => match Nat.beq b.st 0 && Nat.beq b.elem t, closedAll P h b.cells, refsOut P h (id + 1) r with
      | true, some (ys, i), some (l, j) => (match Nat.beq ys.length (flat P 8 t).length && okAll (flat P 8 t) ys with
        | true => some (.agg ys :: l, i ++ j)
        | false => none)
      | _, _, _ => none
    | none => none

/-- Arguments as a function's frame holds them: what is handed by reference lies in the blocks 0, 1, .. -/
def blkNum : Nat → List AV → List (Nat × Blk)
  | _, [] => []
  | b, x :: r => (b, match x with | .ref a e cs => ⟨a, e, 0, cs⟩ | .fp cs e => ⟨true, e, 3, cs⟩ | _ => ⟨false, 0, 2, []⟩) :: blkNum (b + 1) r
def takeArgs : Nat → List AV → List AV × List (Nat × Blk)
  | _, [] => ([], [])
  | b, v :: r => match v with
    | .ref a e cs => let x := takeArgs (b + 1) r; (.ptr b 0 :: x.1, (b, ⟨a, e, 0, cs⟩) :: x.2)
    | .tup bs => let x := takeArgs (b + bs.length) r; (x.1, blkNum b bs ++ x.2)
    | v => let x := takeArgs b r; (v :: x.1, x.2)

def numbered : Nat → List AV → List (Nat × AV)
  | _, [] => []
  | j, v :: r => (j, v) :: numbered (j + 1) r

def okRes1 (P : Program) (t : TypeId) (v : AV) : Bool := match bigA P t with
  | some (k, _) => (match v with | .arr k' _ => decide (k' = k) | _ => false)
  | none => match isAggT P t with
  | true => (match v with | .agg xs => Nat.beq xs.length (flat P 8 t).length && okAll (flat P 8 t) xs | _ => false)
  | false => match (flat P 8 t).headD .bad, v with
    | .pt e zs, .ref false e' ys => Nat.beq e' e && Nat.beq ys.length zs.length && okAll zs ys
    | s, v => ok1 s v
def okRes (P : Program) : List TypeId → List AV → Bool
  | t :: ts, v :: vs => okRes1 P t v && okRes P ts vs
  | [], [] => true
  | _, _ => false
/-- The same of a call that shares the caller's memory. -/
def endIds (h : Nat → Option Blk) (n : Nat) (vs : List AV) : List Nat := deepIds h (List.range n ++ vs.flatMap idsOf)
def endOk (h : Nat → Option Blk) (n : Nat) (E : List Nat) : Bool := distinct E && decide (E.take n = List.range n) && E.all (fun id => match h id with | some b => Nat.beq b.st 0 || (Nat.beq b.st 3 || (Nat.beq b.st 2 && Nat.blt id n)) | none => false)
def finishDeep (h : Nat → Option Blk) (n : Nat) (vs : List AV) : Option (List AV) :=
  match endOk h n (endIds h n vs) with
  | true => some (.tup ((endIds h n vs).map (blkAV h (endIds h n vs))) :: vs.map (ren (endIds h n vs)))
  | false => none
/-- What a function hands out that gives away trees. -/
def outT1 (P : Program) (h : Nat → Option Blk) : AV → Option (AV × List Nat)
  | .int k n => some (.int k n, [])
  | .bool b => some (.bool b, [])
  | .str s => some (.str s, [])
  | .nils => some (.fs 0 [], [])
  | .own id off n => match h id with
    | some b => (match Nat.beq b.st 3 && !Nat.beq b.elem 0 with | true => some (.fs n (cutC b.cells off (mulN n (szOf P b.elem))), [id]) | false => none)
    | none => none
  | _ => none
def elemB (h : Nat → Option Blk) (e : TypeId) (id : Nat) : Bool := match h id with | some b => Nat.beq b.elem e | none => false
def outTL (P : Program) (h : Nat → Option Blk) : List TypeId → List AV → Option (List AV × List Nat)
  | _, [] => some ([], [])
  | es, v :: r => match outT1 P h v, outTL P h es.tail r with
    | some (a, i), some (b, j) => (match i.all (elemB h (es.headD 0)) with | true => some (a :: b, i ++ j) | false => none)
    | _, _ => none
def outTV (P : Program) (h : Nat → Option Blk) (t : TypeId) (v : AV) : Option (AV × List Nat) := match isAggT P t with
  | true => (match v with
    | .agg xs => (match outTL P h (elemsOf P 8 t) xs with | some (ys, i) => some (.agg ys, i) | none => none)
    | _ => none)
  | false => (match outTL P h (elemsOf P 8 t) [v] with | some ([y], i) => some (y, i) | _ => none)
def outTs (P : Program) (h : Nat → Option Blk) : List TypeId → List AV → Option (List AV × List Nat)
  | t :: ts, v :: vs => match outTV P h t v, outTs P h ts vs with
    | some (a, i), some (b, j) => some (a :: b, i ++ j)
    | _, _ => none
  | [], [] => some ([], [])
  | _, _ => none
def noBig (P : Program) (ts : List TypeId) : Bool := ts.all fun t => match bigA P t with | some _ => false | none => true
def finishT (cp : CP) (fn : Func) (rs : List TypeId) (h : Nat → Option Blk) (vs : List AV) : Option (List AV) := match rs, outTs cp.P h fn.resultTypes.toList vs with
  | [], some (os, ids) => (match noBig cp.P fn.resultTypes.toList && (okRes cp.P fn.resultTypes.toList os && distinct ids) with | true => some os | false => none)
  | _, _ => none
/-- What a call hands out, out of what its frame holds at its end. -/
def finishV (cp : CP) (fn : Func) (f : FuncId) (rs : List TypeId) (h : Nat → Option Blk) (vs : List AV) : Option (List AV) := match isDeep cp f with
  | true => finishDeep h rs.length vs
  | false => match treeF cp f with
  | true => finishT cp fn rs h vs
  | false => match handOut cp.P h (cp.fresh.contains f) fn.resultTypes.toList vs, refsOut cp.P h 0 rs with
  | some (os, i), some (qs, j) => match okRes cp.P fn.resultTypes.toList os && ((i ++ j).all fun x => Nat.ble rs.length x) && (!cp.fresh.contains f || (distinct (ownIds vs) && (ownIds vs).all fun x => !(i ++ j).contains x && Nat.ble rs.length x)) with
    | true => some (os ++ qs)
    | false => none
  | _, _ => none
/-- Who is handed blocks and gives them up: what of them comes back comes back as blocks anew. -/
def moves (cp : CP) (f : FuncId) : Bool := isDeep cp f && cp.fresh.contains f
def movH (h : Nat → Option Blk) (n nx : Nat) : Nat → Option Blk := fun id => match Nat.blt id n with
  | true => (match h id with | some b => some { b with st := 2 } | none => none)
  | false => (match Nat.ble nx id && Nat.blt id (nx + n) with | true => h (id - nx) | false => h id)
def mov1 (n nx : Nat) : AV → AV
  | .own id o k => (match Nat.blt id n with | true => .own (nx + id) o k | false => .own id o k)
  | v => v
def mov (n nx : Nat) : AV → AV
  | .agg xs => .agg (xs.map (mov1 n nx))
  | v => mov1 n nx v
def nilVs (P : Program) : Nat → List TypeId → List AV → List AV × List (Nat × Blk) × Nat
  | b, _, [] => ([], [], b)
  | b, ts, v :: r =>
    let x := nilV (fun _ => 0) P b (ts.headD 0) v
    let y := nilVs P x.2.2 ts.tail r
    (x.1 :: y.1, x.2.1 ++ y.2.1, y.2.2)
def finishN (cp : CP) (fn : Func) (f : FuncId) (rs : List TypeId) (h : Nat → Option Blk) (x : List AV × List (Nat × Blk) × Nat) : Option (List AV) := finishV cp fn f rs (upds h x.2.1) x.1
def noTB (h : Nat → Option Blk) (n : Nat) : Bool := (List.range n).all fun id => match h id with | some b => Nat.blt b.st 3 | none => true
def finishW (cp : CP) (fn : Func) (f : FuncId) (rs : List TypeId) (σ : St) (vs : List AV) : Option (List AV) := match moves cp f with
  | true => (match Nat.ble rs.length σ.next && noTB σ.heap rs.length with | true => finishN cp fn f rs (movH σ.heap rs.length σ.next) (nilVs cp.P (σ.next + rs.length) fn.resultTypes.toList (vs.map (mov rs.length σ.next))) | false => none)
  | false => finishV cp fn f rs σ.heap vs
/-- At a function's end: the rows in hand put back. -/
def endSt (σ : St) : St := { nt := σ.nt, nr := σ.nr, next := σ.next, env := σ.env, heap := foldsH σ.heap (List.range σ.nr) }
def finish (cp : CP) (fn : Func) (f : FuncId) (rs : List TypeId) (σ : St) : Option (List AV) := match resultsOf cp.P (endSt σ) fn.results.toList with
  | some (g, vs) => gd g (finishW cp fn f rs (endSt σ) vs)
  | none => none
def startSt (n : Nat) (args : List AV) : St :=
  let x := takeArgs 0 args
  { nt := n, nr := x.2.length, next := x.2.length, env := ofList (numbered 0 x.1) .any, heap := look x.2 }
def refTys (args : List AV) : List TypeId := (takeArgs 0 args).2.map (·.2.elem)
def codeTys : Code → List (Nat × TypeId)
  | .region _ ops _ => ops.toList.filterMap fun o => match o.dst with | some d => some (d, o.type) | none => none
  | .seq a b => codeTys a ++ codeTys b
  | .cond _ a b => codeTys a ++ codeTys b
  | .block _ c => codeTys c
  | .loop c => codeTys c
  | _ => []
def zipT : Nat → List TypeId → List (Nat × TypeId)
  | _, [] => []
  | j, t :: r => (j, t) :: zipT (j + 1) r
def fiOf (fn : Func) : FI := { rt := rtOf fn, ty := ofList (zipT 0 fn.params.toList ++ (match fn.body with | some c => codeTys c | none => [])) 0 }
def lastK (cp : CP) (fn : Func) (f : FuncId) (rs : List TypeId) : Kont := fun e σ' => match e with
  | .exit _ => none
  | _ => finish cp fn f rs σ'
def evBody (cp : CP) (orc : Orc) (k : Nat) (f : FuncId) (args : List AV) : Option (List AV) :=
  match look cp.fns f with
  | none => none
  | some fn => match fn.body with
    | none => none
    | some c => match Nat.ble args.length fn.ntmps with
      | false => none
      | true => evC (cpM cp f) orc k (fiOf fn) c (rtOf fn) (fun _ => []) (startSt fn.ntmps args) (lastK cp fn f (refTys args))
/-- A loop of a function. -/
def evLoop (cp : CP) (orc : Orc) (k : Nat) (f : FuncId) (rs : List TypeId) (p ms : List Nat) (m : Nat) (D : PSt) : Option (List AV) :=
  match look cp.fns f with
  | none => none
  | some fn => match fn.body with
    | none => none
    | some c => evAt (cpM cp f) orc k (fiOf fn) m D c p ms (rtOf fn) (fun _ => []) (lastK cp fn f rs)
def evF (cp : CP) : Nat → Orc
  | 0 => fun _ _ => none
  | k + 1 => fun f args => match look cp.ext f with
    | some g => g args
    | none => evBody cp (evF cp k) k f args
theorem evF_succ (cp : CP) (k : Nat) (f : FuncId) (args : List AV) : evF cp (k + 1) f args = match look cp.ext f with
    | some g => g args
    | none => evBody cp (evF cp k) k f args := rfl
theorem evIter_zero (gcf : St → Option PSt) (step : St → Kont → Option (List AV)) (D : PSt) (K : Kont) : evIter gcf step 0 D K = none := rfl
theorem evIter_succ (gcf : St → Option PSt) (step : St → Kont → Option (List AV)) (m : Nat) (D : PSt) (K : Kont) :
    evIter gcf step (m + 1) D K = step (unpack D) fun e σ' => match e with
      | .normal => (match gcf σ' with | some D' => evIter gcf step m D' K | none => none)
      | e => K e σ' := rfl

theorem evF_zero (cp : CP) (f : FuncId) (args : List AV) : evF cp 0 f args = none := rfl
attribute [irreducible] gd br bnd evIter evF
end
/-- Copies of a text, one behind the other. -/
def repS (s : ByteArray) (n : Int) : ByteArray := ⟨((List.replicate n.toNat s.data.toList).flatten).toArray⟩
def repOk (s : ByteArray) (n : Int) : Bool := decide (0 ≤ n) && Nat.ble ((s.size + 1) * n.toNat) 140737488355328
/-- The constants of the sponge's rounds, and its turns. -/
def kecRC : List Int := [1, 32898, 9223372036854808714, 9223372039002292224, 32907, 2147483649, 9223372039002292353, 9223372036854808585, 138, 136, 2147516425, 2147483658, 2147516555, 9223372036854775947, 9223372036854808713, 9223372036854808579, 9223372036854808578, 9223372036854775936, 32778, 9223372039002259466, 9223372039002292353, 9223372036854808704, 2147483649, 9223372039002292232]
def kecOff : List Int := [0, 1, 62, 28, 27, 36, 44, 6, 55, 20, 3, 10, 43, 25, 39, 41, 45, 15, 21, 8, 18, 2, 61, 56, 14]
def kecRounds : List AV := arrC .u64 kecRC
def kecTurns : List AV := arrC .i64 kecOff
end Go.Proofs.YtlcnpecejhcnfaaDoor.EV
