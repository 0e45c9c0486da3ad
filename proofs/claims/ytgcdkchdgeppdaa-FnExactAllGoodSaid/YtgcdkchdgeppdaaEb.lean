/- The engine, second part: an interpreter of the functions' code over plain data; conditions: none. -/
import Derived.Test.YtgcdkchdgeppdaaEa
import Derived.Still
namespace Go.Proofs.YtgcdkchdgeppdaaE
set_option linter.unusedVariables false

/-- May each region that draws its order be walked in the order written? -/
def drawsB : Code → Bool
  | .region _ ops d => match d with
    | false => true
    | true => Region.lexB .any ops
  | .seq a b => match drawsB a with
    | true => drawsB b
    | false => false
  | .cond _ a b => match drawsB a with
    | true => drawsB b
    | false => false
  | .block _ c => drawsB c
  | .loop c => drawsB c
  | _ => true
def drawsF (fu : Func) : Bool := match fu.body with
  | some c => drawsB c
  | none => true

/-- What the interpreter asks of a type. -/
structure TI where
  desc : TypeDesc
  size : Nat
  bytes : Nat
  zero : Value

def look {α : Type} : List (Nat × α) → Nat → Option α
  | [], _ => none
  | (n, a) :: r, t => match Nat.beq n t with
    | true => some a
    | false => look r t

/-- The tables: types; functions; the functions whose slices in results stay the caller's own; the slots that live at a loop's head, by function and the loop's first region; the functions that get slices as their own; the functions that only look and answer without memory. -/
structure Env where
  tys : List (Nat × TI)
  fns : List (Nat × Func)
  own : List Nat
  keep : List (Nat × List (Nat × List Nat))
  handN : List Nat
  scal : List Nat

abbrev Fo := List (Option Root)

/-- A sequence of effects without memory. -/
def runPure {α : Type} : Sem α → Option α
  | .pure a => some a
  | _ => none

mutual
/-- References to roots turned: slices, pointers into rows, pointers to variables. -/
def subV (sl : Nat → V) (pt : Nat → Nat → Nat → V) (bp : Nat → Nat → V) : V → V
  | .d x => .d x
  | .agg cs => .agg (subL sl pt bp cs)
  | .tup cs => .tup (subL sl pt bp cs)
  | .bp r j => bp r j
  | .ptr r i j => pt r i j
  | .sl r => sl r
  | .rp rows i j => .rp rows i j
  | .clo f cs => .clo f (subL sl pt bp cs)
  | .dead => .dead
def subL (sl : Nat → V) (pt : Nat → Nat → Nat → V) (bp : Nat → Nat → V) : List V → List V
  | [] => []
  | c :: cs => subV sl pt bp c :: subL sl pt bp cs
end

def subR (sl : Nat → V) (pt : Nat → Nat → Nat → V) (bp : Nat → Nat → V) : Option Root → Option Root
  | some (.box cs) => some (.box (subL sl pt bp cs))
  | R => R

def mapO {α β : Type} (f : α → β) : List α → List β
  | [] => []
  | a :: l => f a :: mapO f l

/-- Root r is no more: what led to it is dead. -/
def killS (r r' : Nat) : V := match Nat.beq r r' with | true => .dead | false => .sl r'
def killP (r r' i j : Nat) : V := match Nat.beq r r' with | true => .dead | false => .ptr r' i j
def kill (r : Nat) (c : List V) : List V := subL (killS r) (killP r) .bp c
def killF (r : Nat) (F : Fo) : Fo := (mapO (subR (killS r) (killP r) .bp) F).set r none

/-- Root r is written no more: what led to it is plain data. -/
def frzS (r : Nat) (rows : List (List D)) (r' : Nat) : V := match Nat.beq r r' with | true => .d (.arr rows) | false => .sl r'
def frz (r : Nat) (rows : List (List D)) (c : List V) : List V := subL (frzS r rows) (killP r) .bp c
def frzF (r : Nat) (rows : List (List D)) (F : Fo) : Fo := (mapO (subR (frzS r rows) (killP r) .bp) F).set r none

def nth (t : List V) (i : Nat) : V := match t, i with
  | [], _ => .dead
  | c :: _, 0 => c
  | _ :: t, i + 1 => nth t i

def root (F : Fo) (r : Nat) : Option Root := match F, r with
  | [], _ => none
  | R :: _, 0 => R
  | _ :: F, r + 1 => root F r

def put (t : List V) (dst : Option Nat) (v : V) : List V := match dst with
  | some d => t.set d v
  | none => t

/-- A constant's or a zero value's cell. -/
def zeroV : Value → V
  | .slice none 0 0 => .d (.arr [])
  | v => match v.oneCell' with
    | true => .d (.lit v)
    | false => .dead
def val (t : List V) : Operand → V
  | .tmp i => nth t i
  | .const (.agg cs) => .agg (mapO zeroV cs.toList)
  | .const v => zeroV v
  | .func f => .clo f []
  | .global _ => .dead

def cellsV : V → List V
  | .agg cs => cs
  | v => [v]

/-- A zero value's cells. -/
def zerosV (v : Value) : List V := mapO zeroV v.cells.toList

/-- Cells as data. -/
def toDs : List V → Option (List D)
  | [] => some []
  | .d x :: cs => match toDs cs with
    | some ds => some (x :: ds)
    | none => none
  | _ => none

def isAggD : TypeDesc → Bool
  | .struct _ | .array _ _ => true
  | _ => false

/-- A value out of its cells. -/
def shapeV (E : Env) (t : TypeId) (cs : List V) : Option V :=
  match look E.tys t with
  | none => none
  | some i => match isAggD i.desc with
    | true => match Nat.beq cs.length i.size with
      | true => some (.agg cs)
      | false => none
    | false => match cs with
      | [c] => match c with
        | .agg _ => none
        | .tup _ => none
        | c => some c
      | _ => none

def sizeV (E : Env) (t : TypeId) : Option Nat := match look E.tys t with
  | some i => some i.size
  | none => none

/-- The whole number in a value. -/
def intV : V → Option (IntKind × Int)
  | .d (.lit (.int k n)) => some (k, n)
  | _ => none

/-- A value without memory. -/
def litV : V → Option Value
  | .d (.lit v) => some v
  | _ => none

/-- A row of the elements of a slice. -/
def rowsV (F : Fo) : V → Option (List (List D))
  | .d (.arr rows) => some rows
  | .sl r => match root F r with
    | some (.arr _ _ rows) => some rows
    | _ => none
  | _ => none

/-- The cells behind a pointer, from its cell on. -/
def behind (F : Fo) : V → Option (List V)
  | .bp r j => match root F r with
    | some (.box cs) => some (cs.drop j)
    | _ => none
  | .ptr r i j => match root F r with
    | some (.arr _ _ rows) => match rows[i]? with
      | some row => some (mapO V.d (row.drop j))
      | none => none
    | _ => none
  | .rp rows i j => match rows[i]? with
    | some row => some (mapO V.d (row.drop j))
    | none => none
  | _ => none

def behindK {R : Type} (F : Fo) (p : V) (k : List V → Option R) : Option R := match p with
  | .bp r j => match root F r with
    | some (.box cs) => k (cs.drop j)
    | _ => none
  | .ptr r i j => match root F r with
    | some (.arr _ _ rows) => match rows[i]? with
      | some row => k (mapO V.d (row.drop j))
      | none => none
    | _ => none
  | .rp rows i j => match rows[i]? with
    | some row => k (mapO V.d (row.drop j))
    | none => none
  | _ => none
theorem behindK_eq {R : Type} (F : Fo) (p : V) (k : List V → Option R) : behindK F p k = match behind F p with
    | some cs => k cs
    | none => none := by
  unfold behindK behind
  repeat' split
  all_goals simp_all

/-- A bound of a cut. -/
def cutV {R : Type} (t : List V) (x : Option Operand) (z : Int) (k : Int → Option R) : Option R := match x with
  | none => k z
  | some o => match val t o with
    | .d (.lit (.int _ q)) => k q
    | _ => none

/-- The operations that leave memory alone. -/
def opQ {R : Type} (E : Env) (t : List V) (F : Fo) (op : Op) (k : V → Option R) : Option R :=
  match op with
  | .move x | .assign x => k (val t x)
  | .pick c a b => match val t c with
    | .d (.lit (.bool q)) => match q with
      | true => k (val t a)
      | false => k (val t b)
    | _ => none
  | .load ty a => match look E.tys ty with
    | none => none
    | some i => behindK F (val t a) fun cs => match shapeV E ty (cs.take i.size) with
      | some v => k v
      | none => none
  | .nilCheck x => match val t x with
    | .bp r j => k (.bp r j)
    | .ptr r i j => k (.ptr r i j)
    | .rp rows i j => k (.rp rows i j)
    | .clo f cs => k (.clo f cs)
    | _ => none
  | .binOp b ty x y _ => match val t x, val t y with
    | .d (.lit (.int j m)), .d (.lit (.int j' n)) => match runPure (binOp b ty (.int j m) (.int j' n)) with
      | some v => match v.oneCell' with
        | true => k (.d (.lit v))
        | false => none
      | none => none
    | .d (.lit (.string m)), .d (.lit (.string n)) => match runPure (binOp b ty (.string m) (.string n)) with
      | some v => match v.oneCell' with
        | true => k (.d (.lit v))
        | false => none
      | none => none
    | .d (.lit (.bool m)), .d (.lit (.bool n)) => match look E.tys ty with
      | some i => match i.desc, b with
        | .bool, .eql => k (.d (.lit (.bool (m == n))))
        | .bool, .neq => k (.d (.lit (.bool (!(m == n)))))
        | _, _ => none
      | none => none
    | _, _ => none
  | .unOp u _ x => match val t x with
    | .d (.lit (.int j m)) => match runPure (Op.unary u (.int j m)) with
      | some v => match v.oneCell' with
        | true => k (.d (.lit v))
        | false => none
      | none => none
    | .d (.lit (.bool m)) => match runPure (Op.unary u (.bool m)) with
      | some v => match v.oneCell' with
        | true => k (.d (.lit v))
        | false => none
      | none => none
    | _ => none
  | .convert src dst x => match val t x with
    | .d (.lit (.int _ n)) => match look E.tys src, look E.tys dst with
      | some i, some j => match i.desc, j.desc with
        | .int _, .int q => k (.d (.lit (.int q (q.wrap n))))
        | _, _ => none
      | _, _ => none
    | .d (.lit (.string s)) => match look E.tys src, look E.tys dst with
      | some i, some j => match i.desc, j.desc with
        | .string, .string => k (.d (.lit (.string s)))
        | _, _ => none
      | _, _ => none
    | _ => none
  | .makeFunc (.func f) first caps => match first.toList with
    | [] => k (.clo f (mapO (val t) caps.toList))
    | _ => none
  | .fieldAddr s x f => match look E.tys s with
    | some i => match i.desc with
      | .struct fs => match fs.toList[f]? with
        | some fd => match sizeV E fd.type with
          | some (_ + 1) => match val t x with
            | .bp r j => k (.bp r (j + fd.offset))
            | .ptr r i j => k (.ptr r i (j + fd.offset))
            | .rp rows i j => k (.rp rows i (j + fd.offset))
            | _ => none
          | _ => none
        | none => none
      | _ => none
    | none => none
  | .field s x f => match look E.tys s with
    | some i => match i.desc with
      | .struct fs => match fs.toList[f]? with
        | some fd => match sizeV E fd.type with
          | some n => match val t x with
            | .agg cs => match shapeV E fd.type ((cs.drop fd.offset).take n) with
              | some v => k v
              | none => none
            | _ => none
          | none => none
        | none => none
      | _ => none
    | none => none
  | .indexAddr ty x ix => match look E.tys ty with
    | some i => match i.desc with
      | .slice e => match sizeV E e with
        | some n => match val t ix with
          | .d (.lit (.int _ q)) => match val t x with
            | .d (.arr rows) => match decide (0 ≤ q) with
              | true => match rows[q.toNat]? with
                | some row => match Nat.beq row.length n with
                  | true => k (.rp rows q.toNat 0)
                  | false => none
                | none => none
              | false => none
            | .sl r => match root F r with
              | some (.arr _ _ rows) => match decide (0 ≤ q) with
                | true => match rows[q.toNat]? with
                  | some row => match Nat.beq row.length n with
                    | true => k (.ptr r q.toNat 0)
                    | false => none
                  | none => none
                | false => none
              | _ => none
            | _ => none
          | _ => none
        | none => none
      | _ => none
    | none => none
  | .index ty x ix => match look E.tys ty with
    | some i => match i.desc with
      | .string => match val t ix with
        | .d (.lit (.int _ q)) => match val t x with
          | .d (.lit (.string s)) => match decide (0 ≤ q) with
            | true => match s[q.toNat]? with
              | some b => k (.d (.lit (.int .u8 b.toNat)))
              | none => none
            | false => none
          | _ => none
        | _ => none
      | _ => none
    | none => none
  | .slice ty x lo hi mx => match mx with
    | some _ => none
    | none => match val t x with
      | .d (.lit (.string s)) => match look E.tys ty with
        | some i => match i.desc with
          | .string => cutV t lo 0 fun l => cutV t hi (s.size : Int) fun h => match decide (0 ≤ l), decide (l ≤ h), decide (h ≤ (s.size : Int)) with
            | true, true, true => k (.d (.lit (.string (s.extract l.toNat h.toNat))))
            | _, _, _ => none
          | _ => none
        | none => none
      | _ => none
  | .extract x i => match val t x with
    | .tup vs => match vs[i]? with
      | some v => k v
      | none => none
    | _ => none
  | .call c => match c.callee, c.args.toList, c.argTypes.toList with
    | .builtin .len, [x], [ty] => match look E.tys ty with
      | some i => match i.desc with
        | .string => match val t x with
          | .d (.lit (.string s)) => k (.d (.lit (.int .i64 s.size)))
          | _ => none
        | .slice _ => match rowsV F (val t x) with
          | some rows => k (.d (.lit (.int .i64 rows.length)))
          | none => none
        | _ => none
      | none => none
    | _, _, _ => none
  | _ => none

end Go.Proofs.YtgcdkchdgeppdaaE
