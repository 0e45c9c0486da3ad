/- The engine, second part: an interpreter of the functions' code over plain data; conditions: none. -/
import Derived.Test.YtjnhclnnobejgaaEa
import Derived.Still
namespace Go.Proofs.YtjnhclnnobejgaaE
set_option linter.unusedVariables false

def memN (r : Nat) : List Nat → Bool
  | [] => false
  | s :: L => match Nat.beq s r with
    | true => true
    | false => memN r L

/-- What kind of operation it is: quiet; it makes or writes memory; a call. -/
def kindOf : Op → Nat
  | .move (.const (.slice none 0 0)) => 1
  | .assign (.const (.slice none 0 0)) => 1
  | .alloc _ => 1
  | .box _ _ => 1
  | .makeMap _ none => 1
  | .mapUpdate _ _ _ _ => 1
  | .makeSlice _ _ _ => 1
  | .store _ _ _ => 1
  | .buildSlice _ _ _ => 1
  | .slice _ _ _ _ _ => 1
  | .call c => match c.callee with
    | .builtin .append => 1
    | .builtin .clear => 1
    | .value _ => 2
    | _ => 0
  | _ => 0

/-- What an operation is to a region that draws its order: 0 it looks at no root; 1 it looks; 2 it changes roots and makes new ones, no slot but its own; 4 it sets one root; 3 all else. -/
def kindD (sc pu : List Nat) (o : Oper) : Nat :=
  match o.op with
  | .load _ _ => 1
  | .indexAddr _ _ _ => 1
  | .lookup _ _ _ _ => 1
  | .mapUpdate _ _ _ _ => 3
  | .store _ _ _ => 4
  | .alloc _ => match o.guard with
    | none => 4
    | some _ => 2
  | .box _ _ => match o.guard with
    | none => 4
    | some _ => 2
  | .makeSlice _ _ _ => match o.guard with
    | none => 4
    | some _ => 2
  | .buildSlice ty n _ => match o.guard with
    | none => match memN (ty + 6000000) sc, n with
      | true, 1 => 0
      | _, _ => 4
    | some _ => 2
  | .slice _ _ _ _ _ => 0
  | .build ty _ => match memN (ty + 2000000) sc with
    | true => 2
    | false => 0
  | .convert s d _ => match memN (s + 1000000) sc with
    | true => 1
    | false => match memN (d + 5000000) sc with
      | true => match o.guard with
        | none => 4
        | some _ => 3
      | false => 0
  | .call c => match c.callee with
    | .builtin .append => 4
    | .builtin .clear => 3
    | .builtin .len => 1
    | .builtin _ => 0
    | .value (.func g) => match memN g sc with
      | true => 1
      | false => match memN g pu with
        | true => 0
        | false => 2
    | .value _ => 1
    | _ => 1
  | op => match kindOf op with
    | 0 => 0
    | _ => 2

/-- Does an operation wait for operation i? -/
def edgeB (o : Oper) (i : Nat) : Bool := o.after.toList.any fun e => Region.binds .any e && Nat.beq e.on i

def getL (tab : List (List Nat)) (i : Nat) : List Nat := match tab, i with
  | [], _ => []
  | x :: _, 0 => x
  | _ :: t, i + 1 => getL t i

/-- Those that come before, one after the other. -/
def addN : List Nat → List Nat → List Nat
  | [], s => s
  | x :: xs, s => match memN x s with
    | true => addN xs s
    | false => addN xs (x :: s)
def ancOf (acc : List (List Nat)) : List Edge → List Nat → List Nat
  | [], s => s
  | e :: es, s => match Region.binds .any e with
    | true => ancOf acc es (addN (e.on :: getL acc e.on) s)
    | false => ancOf acc es s
def ancTab : List Oper → List (List Nat) → List (List Nat)
  | [], acc => acc
  | o :: l, acc => ancTab l (acc ++ [ancOf acc o.after.toList []])

/-- The same as masks of bits. -/
def getM (tab : List Nat) (i : Nat) : Nat := match tab, i with
  | [], _ => 0
  | x :: _, 0 => x
  | _ :: t, i + 1 => getM t i
def memB (i m : Nat) : Bool := match Nat.land (Nat.shiftRight m i) 1 with
  | 0 => false
  | _ => true
def ancB (acc : List Nat) : List Edge → Nat → Nat
  | [], s => s
  | e :: es, s => match Region.binds .any e with
    | true => ancB acc es (Nat.lor (Nat.lor (Nat.shiftLeft 1 e.on) (getM acc e.on)) s)
    | false => ancB acc es s
def ancM : List Oper → List Nat → List Nat
  | [], acc => acc
  | o :: l, acc => ancM l (acc ++ [ancB acc o.after.toList 0])
def forceM {R : Type} (s : Nat) (k : Nat → R) : R := match s with
  | 0 => k 0
  | n + 1 => k (n + 1)
theorem forceM_eq {R : Type} (s : Nat) (k : Nat → R) : forceM s k = k s := by cases s <;> rfl
def spineM {R : Type} : List Nat → (List Nat → R) → R
  | [], k => k []
  | x :: l, k => spineM l fun l => k (x :: l)
theorem spineM_eq {R : Type} : ∀ (l : List Nat) (k : List Nat → R), spineM l k = k l
  | [], k => rfl
  | x :: l, k => by rw [spineM, spineM_eq l]
def tabK {R : Type} : List Oper → List Nat → (List Nat → R) → R
  | [], acc, k => k acc
  | o :: l, acc, k => forceM (ancB acc o.after.toList 0) fun s => spineM (acc ++ [s]) fun acc => tabK l acc k
theorem tabK_eq {R : Type} : ∀ (l : List Oper) (acc : List Nat) (k : List Nat → R), tabK l acc k = k (ancM l acc)
  | [], acc, k => rfl
  | o :: l, acc, k => by rw [tabK, forceM_eq, spineM_eq, tabK_eq l, ancM]

def dstNe (x y : Oper) : Bool := match x.dst, y.dst with
  | some d, some e => !Nat.beq d e
  | _, _ => true

/-- May a region that draws its order be walked in the order written? -/
def drawPair (kx ky i j : Nat) (x y : Oper) (ops : Array Oper) (tab : List (List Nat)) : Bool :=
  (edgeB y i || x.apart ops y) && (dstNe x y && (match kx, ky with
    | 0, 0 => true
    | 0, 1 => true
    | 1, 0 => true
    | 1, 1 => true
    | 0, 2 => true
    | 2, 0 => true
    | 1, 2 => true
    | 2, 1 => true
    | 0, 4 => true
    | 4, 0 => true
    | 1, 4 => true
    | 4, 1 => true
    | 2, 4 => true
    | 4, 2 => true
    | 4, 4 => true
    | 3, _ => memN i (getL tab j)
    | _, 3 => memN i (getL tab j)
    | _, _ => memN i (getL tab j)))
def drawCol (sc pu : List Nat) (ops : Array Oper) (tab : List (List Nat)) (j : Nat) (y : Oper) (t3 : Bool) : Nat → List Oper → Bool
  | _, [] => true
  | i, x :: l => match Nat.blt i j with
    | false => true
    | true => match drawPair (kindD sc pu x) (match t3 with | true => 3 | false => kindD sc pu y) i j x y ops tab with
      | true => drawCol sc pu ops tab j y t3 (i + 1) l
      | false => false
def drawAll (sc pu : List Nat) (ops : Array Oper) (all : List Oper) (tab : List (List Nat)) : Bool → Nat → List Oper → Bool
  | _, _, [] => true
  | t3, j, y :: l => match y.after.toList.all fun e => !Region.binds .any e || Nat.blt e.on j with
    | false => false
    | true => match t3 || Nat.beq (kindD sc pu y) 3 with
      | t3 => match drawCol sc pu ops tab j y t3 0 all with
        | true => drawAll sc pu ops all tab t3 (j + 1) l
        | false => false
def drawOK (sc pu : List Nat) (ops : Array Oper) : Bool := drawAll sc pu ops ops.toList (ancTab ops.toList []) false 0 ops.toList

/-- May each region that draws its order be walked in the order written? -/
def drawsB (sc pu : List Nat) : Code → Bool
  | .region _ ops d => match d with
    | false => true
    | true => drawOK sc pu ops
  | .seq a b => match drawsB sc pu a with
    | true => drawsB sc pu b
    | false => false
  | .cond _ a b => match drawsB sc pu a with
    | true => drawsB sc pu b
    | false => false
  | .block _ c => drawsB sc pu c
  | .loop c => drawsB sc pu c
  | _ => true
def drawsF (sc pu : List Nat) (fu : Func) : Bool := match fu.body with
  | some c => drawsB sc pu c
  | none => true

/-- What the interpreter asks of a type. -/
structure TI where
  desc : TypeDesc
  size : Nat
  bytes : Nat
  zero : Value

def look {α : Type} : List (Nat × α) → Nat → Option α
  | [], _ => none
  | (n, a) :: r, t => match Nat.beq n t with
    | true => some a
    | false => look r t

mutual
/-- No memory anywhere. -/
def scalV : V → Bool
  | .d (.lit _) => true
  | .agg cs => scalL cs
  | .tup cs => scalL cs
  | _ => false
def scalL : List V → Bool
  | [] => true
  | c :: cs => match scalV c with
    | true => scalL cs
    | false => false
end

mutual
/-- The one value of data without memory. -/
def sval : V → Value
  | .d (.lit v) => v
  | .agg cs => .agg (svals cs).toArray
  | .tup cs => .tuple (svals cs).toArray
  | _ => undef
def svals : List V → List Value
  | [] => []
  | c :: cs => sval c :: svals cs
end

/-- The lesser and the greater of two strings. -/
def minS (m n : ByteArray) : ByteArray := if (Op.bytesLess m.toList n.toList || m.toList == n.toList) = true then m else n
def maxS (m n : ByteArray) : ByteArray := if (!Op.bytesLess m.toList n.toList) = true then m else n

/-- Rows without memory. -/
def litRow : List D → Bool
  | [] => true
  | .lit _ :: r => litRow r
  | _ :: _ => false
def litRows : List (List D) → Bool
  | [] => true
  | r :: rows => match litRow r with
    | true => litRows rows
    | false => false
theorem litRows_map {α : Type} {f : α → List D} (h : ∀ x, litRow (f x) = true) : ∀ l : List α, litRows (l.map f) = true
  | [] => rfl
  | a :: l => by rw [List.map_cons, litRows, h a]; exact litRows_map h l

/-- Rows of bytes, and their string. -/
def byteRows : List (List D) → Bool
  | [] => true
  | r :: rows => match r with
    | [.lit (.int .u8 _)] => byteRows rows
    | _ => false
def byteOf : List D → Int
  | [.lit (.int _ n)] => n
  | _ => 0
def bytesOf (rows : List (List D)) : ByteArray := (rows.map byteOf).foldl (fun r n => r.push (UInt8.ofNat n.toNat)) ByteArray.empty

/-- The tables: types; functions; the functions whose slices in results stay the caller's own; the slots that live at a loop's head, by function and the loop's first region; the functions that get slices as their own; the functions that only look and answer without memory; the functions that are given data and answer with data; the functions that take slices and answer with them cut; the functions whose contracts are known. -/
structure Env where
  tys : List (Nat × TI)
  fns : List (Nat × Func)
  own : List Nat
  keep : List (Nat × List (Nat × List Nat))
  handN : List Nat
  scal : List Nat
  pur : List Nat
  takeN : List Nat
  ext : List (Nat × (List V → List (Option Root) → Option (V × List (Option Root))))
  eqs : List (Nat × List (Nat × Nat)) := []

abbrev Fo := List (Option Root)

/-- A sequence of effects without memory. -/
def runPure {α : Type} : Sem α → Option α
  | .pure a => some a
  | _ => none

/-- A map's reference, as a variable's goes. -/
def mpOf : V → V
  | .bp r _ => .mp r
  | _ => .dead
/-- A cut end's reference, as its row's goes. -/
def tlOf (i : Nat) : V → V → V
  | .sl r, .ptr r' 1 0 => match Nat.beq r r' with
    | true => .tl r i
    | false => .dead
  | _, _ => .dead
/-- References into a row with slices go as the row's own reference. -/
def onN (f : Nat → V) : V → V
  | .sl r => f r
  | _ => .dead
/-- A slice in a row of such: as its row goes, own or data. -/
def onC (i c : Nat) : V → V
  | .sl r => .ns r i c
  | .d (.arr rows) => match rows[i]? with
    | some row => match row[c]? with
      | some y => .d y
      | none => .dead
    | none => .dead
  | _ => .dead
def onNs : V → V
  | .sl r => .nsl r
  | .d x => .d x
  | _ => .dead
mutual
/-- References to roots turned: slices, pointers into rows, pointers to variables. -/
def subV (sl : Nat → V) (pt : Nat → Nat → Nat → V) (bp : Nat → Nat → V) : V → V
  | .d x => .d x
  | .agg cs => .agg (subL sl pt bp cs)
  | .tup cs => .tup (subL sl pt bp cs)
  | .bp r j => bp r j
  | .ptr r i j => pt r i j
  | .sl r => sl r
  | .rp rows i j => .rp rows i j
  | .clo f cs => .clo f (subL sl pt bp cs)
  | .tl r i => tlOf i (sl r) (pt r 1 0)
  | .nsl r => onNs (sl r)
  | .nptr r i j => onN (fun r => .nptr r i j) (sl r)
  | .ns r i c => onC i c (sl r)
  | .np r i k c => onN (fun r => .np r i k c) (sl r)
  | .nt r i m => onN (fun r => .nt r i m) (sl r)
  | .lst T cs => .lst T (subL sl pt bp cs)
  | .e0 => .e0
  | .mp r => mpOf (bp r 0)
  | .dead => .dead
def subL (sl : Nat → V) (pt : Nat → Nat → Nat → V) (bp : Nat → Nat → V) : List V → List V
  | [] => []
  | c :: cs => subV sl pt bp c :: subL sl pt bp cs
end

def subR (sl : Nat → V) (pt : Nat → Nat → Nat → V) (bp : Nat → Nat → V) : Option Root → Option Root
  | some (.box cs) => some (.box (subL sl pt bp cs))
  | R => R

def mapO {α β : Type} (f : α → β) : List α → List β
  | [] => []
  | a :: l => f a :: mapO f l

/-- Root r is no more: what led to it is dead. -/
def killS (r r' : Nat) : V := match Nat.beq r r' with | true => .dead | false => .sl r'
def killP (r r' i j : Nat) : V := match Nat.beq r r' with | true => .dead | false => .ptr r' i j
def kill (r : Nat) (c : List V) : List V := subL (killS r) (killP r) .bp c
def killF (r : Nat) (F : Fo) : Fo := (mapO (subR (killS r) (killP r) .bp) F).set r none

/-- Root r is written no more: what led to it is plain data. -/
def frzS (r : Nat) (rows : List (List D)) (r' : Nat) : V := match Nat.beq r r' with | true => .d (.arr rows) | false => .sl r'
def frz (r : Nat) (rows : List (List D)) (c : List V) : List V := subL (frzS r rows) (killP r) .bp c
def frzF (r : Nat) (rows : List (List D)) (F : Fo) : Fo := (mapO (subR (frzS r rows) (killP r) .bp) F).set r none

def nth (t : List V) (i : Nat) : V := match t, i with
  | [], _ => .dead
  | c :: _, 0 => c
  | _ :: t, i + 1 => nth t i

def root (F : Fo) (r : Nat) : Option Root := match F, r with
  | [], _ => none
  | R :: _, 0 => R
  | _ :: F, r + 1 => root F r

def put (t : List V) (dst : Option Nat) (v : V) : List V := match dst with
  | some d => t.set d v
  | none => t

/-- A constant's or a zero value's cell. -/
def zeroV : Value → V
  | .slice none 0 0 => .d (.arr [])
  | v => match v.oneCell' with
    | true => .d (.lit v)
    | false => .dead
def val (t : List V) : Operand → V
  | .tmp i => nth t i
  | .const (.agg cs) => .agg (mapO zeroV cs.toList)
  | .const v => zeroV v
  | .func f => .clo f []
  | .global _ => .dead

def cellsV : V → List V
  | .agg cs => cs
  | v => [v]

/-- A zero value's cells. -/
def zerosV (v : Value) : List V := mapO zeroV v.cells.toList

/-- Cells as data. -/
def toDs : List V → Option (List D)
  | [] => some []
  | .d x :: cs => match toDs cs with
    | some ds => some (x :: ds)
    | none => none
  | _ => none

def isAggD : TypeDesc → Bool
  | .struct _ | .array _ _ => true
  | _ => false

/-- A value out of its cells. -/
def shapeV (E : Env) (t : TypeId) (cs : List V) : Option V :=
  match look E.tys t with
  | none => none
  | some i => match isAggD i.desc with
    | true => match Nat.beq cs.length i.size with
      | true => some (.agg cs)
      | false => none
    | false => match cs with
      | [c] => match c with
        | .agg _ => none
        | .tup _ => none
        | c => some c
      | _ => none

def sizeV (E : Env) (t : TypeId) : Option Nat := match look E.tys t with
  | some i => some i.size
  | none => none

/-- The whole number in a value. -/
def intV : V → Option (IntKind × Int)
  | .d (.lit (.int k n)) => some (k, n)
  | _ => none

/-- A value without memory. -/
def litV : V → Option Value
  | .d (.lit v) => some v
  | _ => none

/-- A row of the elements of a slice. -/
def rowsV (F : Fo) : V → Option (List (List D))
  | .d (.arr rows) => some rows
  | .sl r => match root F r with
    | some (.arr _ _ rows) => some rows
    | _ => none
  | .tl r i => match root F r with
    | some (.arr _ _ rows) => some (rows.drop i)
    | _ => none
  | .ns r i _ => match root F r with
    | some (.nst T _ rows) => match rows[i]? with
      | some row => match row[T.c2]? with
        | some (.arr rws) => some rws
        | _ => none
      | none => none
    | _ => none
  | _ => none

/-- How long a slice is. -/
def lenV (F : Fo) : V → Option Nat
  | .nsl r => match root F r with
    | some (.nst _ _ rows) => some rows.length
    | _ => none
  | v => match rowsV F v with
    | some rows => some rows.length
    | none => none
/-- Does the piece from j on, so long, hold the slice? -/
def inN (c j sz : Nat) : Bool := match Nat.ble j c with
  | true => Nat.blt c (j + sz)
  | false => false
/-- The cells behind a pointer, from its cell on; sz of them are asked for. -/
def behind (F : Fo) (sz : Nat) : V → Option (List V)
  | .bp r j => match root F r with
    | some (.box cs) => some (cs.drop j)
    | _ => none
  | .ptr r i j => match root F r with
    | some (.arr _ _ rows) => match rows[i]? with
      | some row => some (mapO V.d (row.drop j))
      | none => none
    | _ => none
  | .rp rows i j => match rows[i]? with
    | some row => some (mapO V.d (row.drop j))
    | none => none
  | .nptr r i j => match root F r with
    | some (.nst T n rows) => match rows[i]? with
      | some row => match inN T.c2 j sz with
        | true => match Nat.blt i n with
          | true => some (((mapO V.d row).set T.c2 (.ns r i T.c2)).drop j)
          | false => some ((mapO V.d row).drop j)
        | false => some (((mapO V.d row).drop j).take sz)
      | none => none
    | _ => none
  | .np r i m c => match root F r with
    | some (.nst T n rows) => match rows[i]? with
      | some row => match row[T.c2]? with
        | some (.arr rws) => match rws[m]? with
          | some ds => some (mapO V.d (ds.drop c))
          | none => none
        | _ => none
      | none => none
    | _ => none
  | _ => none

def behindK {R : Type} (F : Fo) (p : V) (sz : Nat) (k : List V → Option R) : Option R := match p with
  | .bp r j => match root F r with
    | some (.box cs) => k (cs.drop j)
    | _ => none
  | .ptr r i j => match root F r with
    | some (.arr _ _ rows) => match rows[i]? with
      | some row => k (mapO V.d (row.drop j))
      | none => none
    | _ => none
  | .rp rows i j => match rows[i]? with
    | some row => k (mapO V.d (row.drop j))
    | none => none
  | .nptr r i j => match root F r with
    | some (.nst T n rows) => match rows[i]? with
      | some row => match inN T.c2 j sz with
        | true => match Nat.blt i n with
          | true => k (((mapO V.d row).set T.c2 (.ns r i T.c2)).drop j)
          | false => k ((mapO V.d row).drop j)
        | false => k (((mapO V.d row).drop j).take sz)
      | none => none
    | _ => none
  | .np r i m c => match root F r with
    | some (.nst T n rows) => match rows[i]? with
      | some row => match row[T.c2]? with
        | some (.arr rws) => match rws[m]? with
          | some ds => k (mapO V.d (ds.drop c))
          | none => none
        | _ => none
      | none => none
    | _ => none
  | _ => none
theorem behindK_eq {R : Type} (F : Fo) (p : V) (sz : Nat) (k : List V → Option R) : behindK F p sz k = match behind F sz p with
    | some cs => k cs
    | none => none := by
  unfold behindK behind
  repeat' split
  all_goals simp_all

/-- A bound of a cut. -/
def cutV {R : Type} (t : List V) (x : Option Operand) (z : Int) (k : Int → Option R) : Option R := match x with
  | none => k z
  | some o => match val t o with
    | .d (.lit (.int _ q)) => k q
    | _ => none

/-- Is it the value of one cell? -/
def leaf : V → Bool
  | .d (.lit (.agg _)) => false
  | .d (.lit (.tuple _)) => false
  | .agg _ => false
  | .tup _ => false
  | .e0 => false
  | .dead => false
  | _ => true
def leafs : List V → Bool
  | [] => true
  | c :: cs => match leaf c with
    | true => leafs cs
    | false => false

def allLen (n : Nat) : List (List D) → Bool
  | [] => true
  | r :: rs => match Nat.beq r.length n with
    | true => allLen n rs
    | false => false

/-- The places of a struct's fields. -/
def placesV (E : Env) : List Field → Option (List (Nat × Nat))
  | [] => some []
  | f :: fs => match sizeV E f.type with
    | some n => match placesV E fs with
      | some ps => some ((f.offset, n) :: ps)
      | none => none
    | none => none
/-- The same, its head laid open. -/
def forceV {R : Type} (c : V) (k : V → R) : R := match c with
  | .d x => k (.d x)
  | .agg cs => k (.agg cs)
  | .tup cs => k (.tup cs)
  | .bp r j => k (.bp r j)
  | .ptr r i j => k (.ptr r i j)
  | .sl r => k (.sl r)
  | .rp rows i j => k (.rp rows i j)
  | .clo f cs => k (.clo f cs)
  | .tl r i => k (.tl r i)
  | .nsl r => k (.nsl r)
  | .nptr r i j => k (.nptr r i j)
  | .ns r i c => k (.ns r i c)
  | .np r i j c => k (.np r i j c)
  | .nt r i m => k (.nt r i m)
  | .lst T cs => k (.lst T cs)
  | .e0 => k .e0
  | .mp r => k (.mp r)
  | .dead => k .dead
theorem forceV_eq {R : Type} (c : V) (k : V → R) : forceV c k = k c := by
  cases c <;> rfl
/-- Every slot laid open. -/
def forceAll {R : Type} : List V → (List V → R) → R
  | [], k => k []
  | c :: t, k => forceV c fun c => forceAll t fun t => k (c :: t)
theorem forceAll_eq {R : Type} : ∀ (t : List V) (k : List V → R), forceAll t k = k t
  | [], k => rfl
  | c :: t, k => by simp [forceAll, forceV_eq, forceAll_eq t]
/-- Parts of a struct put in their places. -/
def fillV {R : Type} (places : List (Nat × Nat)) (t : List V) : List (Nat × Operand) → List V → (List V → Option R) → Option R
  | [], cs, k => k cs
  | (i, x) :: ps, cs, k => match places[i]? with
    | some (off, n) => match Nat.beq (cellsV (val t x)).length n, Nat.ble (off + n) cs.length, leafs (cellsV (val t x)) with
      | true, true, true => forceAll (cs.take off ++ cellsV (val t x) ++ cs.drop (off + n)) fun cs => fillV places t ps cs k
      | _, _, _ => none
    | none => none

/-- Cells compared, at their places: numbers, bools, strings. -/
def eqCs (xs ys : List V) : List (Nat × Nat) → Option Bool
  | [] => some true
  | (o, n) :: l => match eqCs xs ys l with
    | none => none
    | some r => match n, xs[o]?, ys[o]? with
      | 0, some (.d (.lit (.int j a))), some (.d (.lit (.int j' b))) => match decide (j = j') with
        | true => some ((a == b) && r)
        | false => none
      | 1, some (.d (.lit (.bool a))), some (.d (.lit (.bool b))) => some ((a == b) && r)
      | 2, some (.d (.lit (.string a))), some (.d (.lit (.string b))) => some ((a.toList == b.toList) && r)
      | _, _, _ => none
/-- Do the fields lie so? -/
def eqFits (P : Program) : List Field → List (Nat × Nat) → Bool
  | [], [] => true
  | f :: fs, (o, n) :: l => (f.name != "_") && (f.offset == o && ((match P.underlying f.type, n with
    | some (.int _), 0 => true
    | some .bool, 1 => true
    | some .string, 2 => true
    | _, _ => false) && eqFits P fs l))
  | _, _ => false

/-- A map's entries: what is there, looked up and put. -/
def mgetD : List (Int × D) → Int → D → D
  | [], _, z => z
  | (m, x) :: l, n, z => match decide (m = n) with
    | true => x
    | false => mgetD l n z
def mhas : List (Int × D) → Int → Bool
  | [], _ => false
  | (m, _) :: l, n => match decide (m = n) with
    | true => true
    | false => mhas l n
def mput : List (Int × D) → Int → D → List (Int × D)
  | [], n, x => [(n, x)]
  | (m, y) :: l, n, x => match decide (m = n) with
    | true => (n, x) :: l
    | false => (m, y) :: mput l n x
/-- The operations that leave memory alone. -/
def opQ {R : Type} (E : Env) (t : List V) (F : Fo) (op : Op) (k : V → Option R) : Option R :=
  match op with
  | .move x | .assign x => k (val t x)
  | .pick c a b => match val t c with
    | .d (.lit (.bool q)) => match q with
      | true => k (val t a)
      | false => k (val t b)
    | _ => none
  | .load ty a => match look E.tys ty with
    | none => none
    | some i => behindK F (val t a) i.size fun cs => match shapeV E ty (cs.take i.size) with
      | some v => k v
      | none => none
  | .nilCheck x => match val t x with
    | .bp r j => k (.bp r j)
    | .ptr r i j => k (.ptr r i j)
    | .rp rows i j => k (.rp rows i j)
    | .clo f cs => k (.clo f cs)
    | .nptr r i j => k (.nptr r i j)
    | .np r i m c => k (.np r i m c)
    | _ => none
  | .binOp b ty x y _ => match val t x, val t y with
    | .d (.lit (.int j m)), .d (.lit (.int j' n)) => match runPure (binOp b ty (.int j m) (.int j' n)) with
      | some v => match v.oneCell' with
        | true => k (.d (.lit v))
        | false => none
      | none => none
    | .d (.lit (.string m)), .d (.lit (.string n)) => match runPure (binOp b ty (.string m) (.string n)) with
      | some v => match v.oneCell' with
        | true => k (.d (.lit v))
        | false => none
      | none => none
    | .d (.lit (.bool m)), .d (.lit (.bool n)) => match look E.tys ty with
      | some i => match i.desc, b with
        | .bool, .eql => k (.d (.lit (.bool (m == n))))
        | .bool, .neq => k (.d (.lit (.bool (!(m == n)))))
        | _, _ => none
      | none => none
    | .agg xs, .agg ys => match look E.eqs ty with
      | some l => match eqCs xs ys l with
        | some q => match b with
          | .eql => k (.d (.lit (.bool q)))
          | .neq => k (.d (.lit (.bool (!q))))
          | _ => none
        | none => none
      | none => none
    | _, _ => none
  | .unOp u _ x => match val t x with
    | .d (.lit (.int j m)) => match runPure (Op.unary u (.int j m)) with
      | some v => match v.oneCell' with
        | true => k (.d (.lit v))
        | false => none
      | none => none
    | .d (.lit (.bool m)) => match runPure (Op.unary u (.bool m)) with
      | some v => match v.oneCell' with
        | true => k (.d (.lit v))
        | false => none
      | none => none
    | _ => none
  | .convert src dst x => match val t x with
    | .d (.lit (.int _ n)) => match look E.tys src, look E.tys dst with
      | some i, some j => match i.desc, j.desc with
        | .int _, .int q => k (.d (.lit (.int q (q.wrap n))))
        | _, _ => none
      | _, _ => none
    | .d (.lit (.string s)) => match look E.tys src, look E.tys dst with
      | some i, some j => match i.desc, j.desc with
        | .string, .string => k (.d (.lit (.string s)))
        | _, _ => none
      | _, _ => none
    | v => match memN (src + 1000000) E.scal with
      | true => match look E.tys src, look E.tys dst, rowsV F v with
        | some i, some j, some rows => match i.desc, j.desc with
          | .slice e, .string => match look E.tys e with
            | some q => match q.desc, byteRows rows with
              | .int .u8, true => k (.d (.lit (.string (bytesOf rows))))
              | _, _ => none
            | none => none
          | _, _ => none
        | _, _, _ => none
      | false => none
  | .makeFunc (.func f) first caps => match first.toList with
    | [] => k (.clo f (mapO (val t) caps.toList))
    | _ => none
  | .fieldAddr s x f => match look E.tys s with
    | some i => match i.desc with
      | .struct fs => match fs.toList[f]? with
        | some fd => match sizeV E fd.type with
          | some (_ + 1) => match val t x with
            | .bp r j => k (.bp r (j + fd.offset))
            | .ptr r i j => k (.ptr r i (j + fd.offset))
            | .rp rows i j => k (.rp rows i (j + fd.offset))
            | .nptr r i j => k (.nptr r i (j + fd.offset))
            | .np r i m c => k (.np r i m (c + fd.offset))
            | _ => none
          | _ => none
        | none => none
      | _ => none
    | none => none
  | .field s x f => match look E.tys s with
    | some i => match i.desc with
      | .struct fs => match fs.toList[f]? with
        | some fd => match sizeV E fd.type with
          | some n => match val t x with
            | .agg cs => match shapeV E fd.type ((cs.drop fd.offset).take n) with
              | some v => k v
              | none => none
            | _ => none
          | none => none
        | none => none
      | _ => none
    | none => none
  | .indexAddr ty x ix => match look E.tys ty with
    | some i => match i.desc with
      | .slice e => match sizeV E e with
        | some n => match val t ix with
          | .d (.lit (.int _ q)) => match val t x with
            | .d (.arr rows) => match decide (0 ≤ q) with
              | true => match rows[q.toNat]? with
                | some row => match Nat.beq row.length n with
                  | true => k (.rp rows q.toNat 0)
                  | false => none
                | none => none
              | false => none
            | .sl r => match root F r with
              | some (.arr _ _ rows) => match decide (0 ≤ q) with
                | true => match rows[q.toNat]? with
                  | some row => match Nat.beq row.length n with
                    | true => k (.ptr r q.toNat 0)
                    | false => none
                  | none => none
                | false => none
              | _ => none
            | .tl r i0 => match root F r with
              | some (.arr _ _ rows) => match decide (0 ≤ q) with
                | true => match rows[i0 + q.toNat]? with
                  | some row => match Nat.beq row.length n with
                    | true => k (.ptr r (i0 + q.toNat) 0)
                    | false => none
                  | none => none
                | false => none
              | _ => none
            | .nsl r => match root F r with
              | some (.nst _ _ rows) => match decide (0 ≤ q) with
                | true => match rows[q.toNat]? with
                  | some row => match Nat.beq row.length n with
                    | true => k (.nptr r q.toNat 0)
                    | false => none
                  | none => none
                | false => none
              | _ => none
            | .ns r i1 _ => match root F r with
              | some (.nst T _ rows) => match rows[i1]? with
                | some row0 => match row0[T.c2]? with
                  | some (.arr rws) => match decide (0 ≤ q) with
                    | true => match rws[q.toNat]? with
                      | some row => match Nat.beq row.length n with
                        | true => k (.np r i1 q.toNat 0)
                        | false => none
                      | none => none
                    | false => none
                  | _ => none
                | none => none
              | _ => none
            | _ => none
          | _ => none
        | none => none
      | _ => none
    | none => none
  | .index ty x ix => match look E.tys ty with
    | some i => match i.desc with
      | .string => match val t ix with
        | .d (.lit (.int _ q)) => match val t x with
          | .d (.lit (.string s)) => match decide (0 ≤ q) with
            | true => match s[q.toNat]? with
              | some b => k (.d (.lit (.int .u8 b.toNat)))
              | none => none
            | false => none
          | _ => none
        | _ => none
      | _ => none
    | none => none
  | .slice ty x lo hi mx => match mx with
    | some _ => none
    | none => match val t x with
      | .d (.lit (.string s)) => match look E.tys ty with
        | some i => match i.desc with
          | .string => cutV t lo 0 fun l => cutV t hi (s.size : Int) fun h => match decide (0 ≤ l), decide (l ≤ h), decide (h ≤ (s.size : Int)) with
            | true, true, true => k (.d (.lit (.string (s.extract l.toNat h.toNat))))
            | _, _, _ => none
          | _ => none
        | none => none
      | .d (.arr rows) => match look E.tys ty with
        | some i => match i.desc with
          | .slice e => match sizeV E e with
            | some n => match allLen n rows, Nat.blt 0 n with
              | true, true => cutV t lo 0 fun l => cutV t hi (rows.length : Int) fun h => match decide (0 ≤ l), decide (l ≤ h), decide (h ≤ (rows.length : Int)) with
                | true, true, true => k (.d (.arr ((rows.drop l.toNat).take (h.toNat - l.toNat))))
                | _, _, _ => none
              | _, _ => none
            | none => none
          | _ => none
        | none => none
      | _ => none
  | .lookup ty x ix ok => match look E.tys ty with
    | some i => match i.desc with
      | .map kt et => match look E.tys kt, look E.tys et with
        | some ki, some ei => match ki.desc with
          | .int K => match val t ix with
            | .d (.lit (.int K' n)) => match val t x with
              | .mp r => match decide (K' = K), root F r with
                | true, some (.mp K2 ents) => match decide (K2 = K), zeroV ei.zero with
                  | true, .d z => match ok with
                    | true => k (.tup [.d (mgetD ents n z), .d (.lit (.bool (mhas ents n)))])
                    | false => k (.d (mgetD ents n z))
                  | _, _ => none
                | _, _ => none
              | _ => none
            | _ => none
          | _ => none
        | _, _ => none
      | _ => none
    | none => none
  | .build ty ps => match look E.tys ty with
    | some i => match i.desc with
      | .struct fs => match placesV E fs.toList with
        | some places => fillV places t ps.toList (zerosV i.zero) fun cs => k (.agg cs)
        | none => none
      | _ => none
    | none => none
  | .extract x i => match val t x with
    | .tup vs => match vs[i]? with
      | some v => k v
      | none => none
    | _ => none
  | .call c => match c.callee, c.args.toList, c.argTypes.toList with
    | .builtin .len, [x], [ty] => match look E.tys ty with
      | some i => match i.desc with
        | .string => match val t x with
          | .d (.lit (.string s)) => k (.d (.lit (.int .i64 s.size)))
          | _ => none
        | .slice _ => match lenV F (val t x) with
          | some n => k (.d (.lit (.int .i64 n)))
          | none => none
        | _ => none
      | none => none
    | .builtin .max, [x, y], _ => match val t x, val t y with
      | .d (.lit (.int j m)), .d (.lit (.int _ n)) => k (.d (.lit (.int j (if n > m then n else m))))
      | .d (.lit (.string m)), .d (.lit (.string n)) => k (.d (.lit (.string (maxS m n))))
      | _, _ => none
    | .builtin .min, [x, y], _ => match val t x, val t y with
      | .d (.lit (.int j m)), .d (.lit (.int _ n)) => k (.d (.lit (.int j (if n < m then n else m))))
      | .d (.lit (.string m)), .d (.lit (.string n)) => k (.d (.lit (.string (minS m n))))
      | _, _ => none
    | _, _, _ => none
  | _ => none

/-- The roots laid open. -/
def forceR {R : Type} (x : Option Root) (k : Option Root → R) : R := match x with
  | none => k none
  | some (.arr e es rows) => k (some (.arr e es rows))
  | some (.box cs) => forceAll cs fun cs => k (some (.box cs))
  | some (.mp K ents) => k (some (.mp K ents))
  | some (.nst T n rows) => k (some (.nst T n rows))
theorem forceR_eq {R : Type} (x : Option Root) (k : Option Root → R) : forceR x k = k x := by
  unfold forceR
  split <;> simp [forceAll_eq]
def forceF {R : Type} : Fo → (Fo → R) → R
  | [], k => k []
  | x :: F, k => forceR x fun x => forceF F fun F => k (x :: F)
theorem forceF_eq {R : Type} : ∀ (F : Fo) (k : Fo → R), forceF F k = k F
  | [], k => rfl
  | x :: F, k => by simp [forceF, forceR_eq, forceF_eq F]

end Go.Proofs.YtjnhclnnobejgaaE
