/- The engine, ninth part: the interpreter of calls and of code; conditions: none. -/
import Derived.Test.YtjnhclnnobejgaaEh
import Derived.Deep.LoopGhost
namespace Go.Proofs.YtjnhclnnobejgaaE
set_option linter.unusedVariables false
variable [DW : Drw]

def idx (r : Nat) : List Nat → Option Nat
  | [] => none
  | s :: L => match Nat.beq s r with
    | true => some 0
    | false => match idx r L with
      | some i => some (i + 1)
      | none => none

def nodupN : List Nat → Bool
  | [] => true
  | s :: L => match memN s L with
    | true => false
    | false => nodupN L

def upto : Nat → Nat → List Nat
  | 0, _ => []
  | m + 1, i => i :: upto m (i + 1)

def prefN : List Nat → List Nat → Bool
  | [], _ => true
  | x :: xs, y :: ys => match Nat.beq x y with
    | true => prefN xs ys
    | false => false
  | _, _ => false

mutual
/-- The roots that a value leads to. -/
def refsV : V → List Nat
  | .agg cs => refsL cs
  | .tup cs => refsL cs
  | .bp r _ => [r]
  | .ptr r _ _ => [r]
  | .sl r => [r]
  | .tl r _ => [r]
  | .nsl r => [r]
  | .nptr r _ _ => [r]
  | .ns r _ _ => [r]
  | .np r _ _ _ => [r]
  | .nt r _ _ => [r]
  | .lst _ cs => refsL cs
  | .mp r => [r]
  | .clo _ cs => refsL cs
  | _ => []
def refsL : List V → List Nat
  | [] => []
  | c :: cs => refsV c ++ refsL cs
end

mutual
/-- The slices of one's own in a value. -/
def slV : V → List Nat
  | .agg cs => slL cs
  | .tup cs => slL cs
  | .sl r => [r]
  | .nsl r => [r]
  | .lst _ cs => slL cs
  | .clo _ cs => slL cs
  | _ => []
def slL : List V → List Nat
  | [] => []
  | c :: cs => slV c ++ slL cs
end


/-- What can be reached, in order. -/
def close (F : Fo) : Nat → List Nat → List Nat → List Nat
  | 0, _, acc => acc
  | _, [], acc => acc
  | n + 1, r :: todo, acc => match memN r acc with
    | true => close F n todo acc
    | false => match root F r with
      | some (.box cs) => close F n (todo ++ refsL cs) (acc ++ [r])
      | _ => close F n todo (acc ++ [r])

def pkS (L : List Nat) (r : Nat) : V := match idx r L with
  | some i => .sl i
  | none => .dead
def pkP (L : List Nat) (r i j : Nat) : V := match idx r L with
  | some n => .ptr n i j
  | none => .dead
def pkB (L : List Nat) (r j : Nat) : V := match idx r L with
  | some n => .bp n j
  | none => .dead
def packF (L : List Nat) (F : Fo) : Fo := mapO (fun r => subR (pkS L) (pkP L) (pkB L) (root F r)) L

def unN (L : List Nat) (base i : Nat) : Nat := match L[i]? with
  | some r => r
  | none => base + (i - L.length)
def unS (L : List Nat) (base i : Nat) : V := .sl (unN L base i)
def unP (L : List Nat) (base i n j : Nat) : V := .ptr (unN L base i) n j
def unB (L : List Nat) (base i j : Nat) : V := .bp (unN L base i) j

def allSome : Nat → Fo → Bool
  | 0, _ => true
  | n + 1, some _ :: F => allSome n F
  | _, _ => false

def back {α : Type} : List Nat → List α → List α → List α
  | r :: L, R :: Rs, F => back L Rs (F.set r R)
  | _, _, F => F

/-- A slot set, the list laid open as far. -/
def setK {R : Type} : List V → Nat → V → (List V → R) → R
  | [], _, _, k => k []
  | _ :: t, 0, v, k => k (v :: t)
  | c :: t, n + 1, v, k => setK t n v fun t => k (c :: t)
omit DW in
theorem setK_eq {R : Type} : ∀ (t : List V) (n : Nat) (v : V) (k : List V → R), setK t n v k = k (t.set n v)
  | [], n, v, k => by simp [setK]
  | c :: t, 0, v, k => by simp [setK]
  | c :: t, n + 1, v, k => by simp [setK, setK_eq t n v]
def putK {R : Type} (t : List V) (dst : Option Nat) (v : V) (k : List V → R) : R := match dst with
  | some d => forceV v fun v => setK t d v k
  | none => k t
omit DW in
theorem putK_eq {R : Type} (t : List V) (dst : Option Nat) (v : V) (k : List V → R) : putK t dst v k = k (put t dst v) := by
  cases dst
  · rfl
  · simp only [putK, forceV_eq, setK_eq, put]
/-- A list laid open. -/
def spine {R α : Type} : List α → (List α → R) → R
  | [], k => k []
  | c :: t, k => spine t fun t => k (c :: t)
omit DW in
theorem spine_eq {R α : Type} : ∀ (t : List α) (k : List α → R), spine t k = k t
  | [], k => rfl
  | c :: t, k => by simp [spine, spine_eq t]
def forceL {R : Type} (t : List V) (k : List V → R) : R := spine t k
omit DW in
theorem forceL_eq {R : Type} (t : List V) (k : List V → R) : forceL t k = k t := spine_eq t k

/-- A value laid open, its cells too. -/
def forceC {R : Type} (c : V) (k : V → R) : R := match c with
  | .agg cs => forceAll cs fun cs => k (.agg cs)
  | .tup cs => forceAll cs fun cs => k (.tup cs)
  | .clo f cs => forceAll cs fun cs => k (.clo f cs)
  | .lst T cs => forceAll cs fun cs => k (.lst T cs)
  | c => forceV c k
omit DW in
theorem forceC_eq {R : Type} (c : V) (k : V → R) : forceC c k = k c := by
  cases c <;> simp [forceC, forceAll_eq, forceV_eq]
/-- A small number laid open. -/
def forceN {R : Type} (n : Nat) (k : Nat → R) : R := match n with
  | 0 => k 0
  | 1 => k 1
  | 2 => k 2
  | 3 => k 3
  | 4 => k 4
  | 5 => k 5
  | 6 => k 6
  | 7 => k 7
  | 8 => k 8
  | 9 => k 9
  | 10 => k 10
  | 11 => k 11
  | 12 => k 12
  | 13 => k 13
  | 14 => k 14
  | 15 => k 15
  | 16 => k 16
  | 17 => k 17
  | 18 => k 18
  | 19 => k 19
  | n => k n
omit DW in
theorem forceN_eq {R : Type} (n : Nat) (k : Nat → R) : forceN n k = k n := by
  unfold forceN
  split <;> rfl
def forceNs {R : Type} : List Nat → (List Nat → R) → R
  | [], k => k []
  | n :: L, k => forceN n fun n => forceNs L fun L => k (n :: L)
omit DW in
theorem forceNs_eq {R : Type} : ∀ (L : List Nat) (k : List Nat → R), forceNs L k = k L
  | [], k => rfl
  | n :: L, k => by simp [forceNs, forceN_eq, forceNs_eq L]

/-- Slices let go, one after the other. -/
def frzAll {R : Type} : List Nat → List V → List V → Fo → (List V → List V → Fo → Option R) → Option R
  | [], vs, t, F, k => k vs t F
  | r :: rs, vs, t, F, k => match root F r with
    | some (.arr _ _ rows) => forceAll (frz r rows vs) fun vs' => forceAll (frz r rows t) fun t' => forceF (frzF r rows F) fun F' => frzAll rs vs' t' F' k
    | some (.nst _ _ rows) => forceAll (frz r rows vs) fun vs' => forceAll (frz r rows t) fun t' => forceF (frzF r rows F) fun F' => frzAll rs vs' t' F' k
    | _ => frzAll rs vs t F k

/-- Slices lent: their elements as data. -/
def lendS (F : Fo) (r : Nat) : V := match root F r with
  | some (.arr _ _ rows) => .d (.arr rows)
  | some (.nst _ _ rows) => .d (.arr rows)
  | _ => .dead

/-- Pointers lent: what lies behind them as a row of data. -/
def lendCells (F : Fo) : List V → Option (List D)
  | [] => some []
  | c :: cs => match (match c with
      | .d x => some x
      | .sl r => match root F r with
        | some (.arr _ _ rows) => some (.arr rows)
        | _ => none
      | .nsl r => match root F r with
        | some (.nst _ _ rows) => some (.arr rows)
        | _ => none
      | _ => none) with
    | some x => match lendCells F cs with
      | some ds => some (x :: ds)
      | none => none
    | none => none
def lendB (F : Fo) (r j : Nat) : V := match root F r with
  | some (.box (c :: cs)) => match lendCells F (c :: cs) with
    | some ds => .rp [ds] 0 j
    | none => .dead
  | _ => .dead

def uniqN : List Nat → List Nat
  | [] => []
  | r :: L => match memN r L with
    | true => uniqN L
    | false => r :: uniqN L

/-- What a callee that was lent its slices may answer: data without memory, or a new slice of such. -/
def scalEnd (v : V) (F1 : Fo) : Option V := match F1 with
  | [] => match scalV v with
    | true => some v
    | false => none
  | F1 => match v with
    | .sl r => match root F1 r with
      | some (.arr _ _ rows) => match litRows rows with
        | true => some (.d (.arr rows))
        | false => none
      | _ => none
    | _ => none

/-- Rows of literals with a slice of such in each. -/
def litRowsN (c : Nat) : List (List D) → Bool
  | [] => true
  | row :: rows => match litRow (row.set c (.lit (.bool false))), row[c]? with
    | true, some (.arr rws) => match litRows rws with
      | true => litRowsN c rows
      | false => false
    | _, _ => false
/-- Roots of literals. -/
def litF : Fo → Bool
  | [] => true
  | R :: F => match R with
    | some (.arr _ _ rows) => match litRows rows with
      | true => litF F
      | false => false
    | some (.nst T n rows) => match Nat.beq n rows.length, litRowsN T.c2 rows with
      | true, true => litF F
      | _, _ => false
    | _ => false
mutual
/-- Without data in memory: literals, and slices of one's own. -/
def scalR : V → Bool
  | .d (.lit _) => true
  | .agg cs => scalRL cs
  | .tup cs => scalRL cs
  | .sl _ => true
  | .nsl _ => true
  | _ => false
def scalRL : List V → Bool
  | [] => true
  | c :: cs => match scalR c with
    | true => scalRL cs
    | false => false
end

abbrev Ca := FuncId → List V → Fo → Option (V × Fo)

/-- References to what is gone. -/
def klS (D : List Nat) (r : Nat) : V := match memN r D with
  | true => .dead
  | false => .sl r
def klP (D : List Nat) (r i j : Nat) : V := match memN r D with
  | true => .dead
  | false => .ptr r i j
def klB (D : List Nat) (r j : Nat) : V := match memN r D with
  | true => .dead
  | false => .bp r j
/-- The roots that a callee has let go. -/
def deadOf : List Nat → Fo → Option (List Nat)
  | [], _ => some []
  | r :: L, R :: F => match deadOf L F with
    | some D => match R with
      | none => some (r :: D)
      | some _ => some D
    | none => none
  | _ :: _, [] => none

/-- An argument of a function with a known contract: the nil slice stands as itself. -/
def valX (t : List V) (x : Operand) : V := match x with
  | .const (.slice none 0 0) => .d (.lit (.slice none 0 0))
  | x => val t x
def argsV (E : Env) (g : FuncId) (t : List V) (xs : List Operand) : List V := match look E.ext g with
  | some _ => mapO (valX t) xs
  | none => mapO (val t) xs

/-- A call. -/
def opC {R : Type} (E : Env) (call : Ca) (t : List V) (F : Fo) (c : Call) (k : V → List V → Fo → Option R) : Option R :=
  match c.callee with
  | .value f => match val t f with
    | .clo g caps => match memN g E.scal with
      | true => match call g (subL (lendS F) (fun _ _ _ => .dead) (lendB F) (argsV E g t c.args.toList ++ caps)) [] with
        | some (v, F1) => match scalEnd v F1 with
          | some v => k v t F
          | none => match litF F1, scalR v with
            | true, true => forceC (subV (unS [] F.length) (unP [] F.length) (unB [] F.length) v) fun v => forceF (F ++ F1) fun F => k v t F
            | _, _ => none
        | none => none
      | false => match memN g E.takeN with
        | true => callTake call g (argsV E g t c.args.toList ++ caps) t F (close F 200 (refsL (argsV E g t c.args.toList ++ caps)) []) k
        | false => frzAll (match memN g E.handN with | true => [] | false => uniqN (slL (argsV E g t c.args.toList ++ caps))) (argsV E g t c.args.toList ++ caps) t F fun vs t F =>
          callOn call g vs F (close F 200 (refsL vs) []) fun v F => k v t F
    | _ => none
  | _ => none
where
  callOn {R : Type} (call : Ca) (g : FuncId) (vs : List V) (F : Fo) (L : List Nat) (k : V → Fo → Option R) : Option R := forceNs L fun L => callIn call g vs F L k
  callIn {R : Type} (call : Ca) (g : FuncId) (vs : List V) (F : Fo) (L : List Nat) (k : V → Fo → Option R) : Option R :=
    match nodupN L with
    | true => match call g (subL (pkS L) (pkP L) (pkB L) vs) (packF L F) with
      | some (v, F1) => match allSome L.length F1 with
        | true => forceC (subV (unS L F.length) (unP L F.length) (unB L F.length) v) fun v =>
          forceF (back L (mapO (subR (unS L F.length) (unP L F.length) (unB L F.length)) (F1.take L.length)) F ++ mapO (subR (unS L F.length) (unP L F.length) (unB L F.length)) (F1.drop L.length)) fun F => k v F
        | false => none
      | none => none
    | false => none
  callTake {R : Type} (call : Ca) (g : FuncId) (vs : List V) (t : List V) (F : Fo) (L : List Nat) (k : V → List V → Fo → Option R) : Option R := forceNs L fun L => takeIn call g vs t F L k
  takeIn {R : Type} (call : Ca) (g : FuncId) (vs : List V) (t : List V) (F : Fo) (L : List Nat) (k : V → List V → Fo → Option R) : Option R :=
    match nodupN L with
    | true => match call g (subL (pkS L) (pkP L) (pkB L) vs) (packF L F) with
      | some (v, F1) => match deadOf L F1 with
        | some D => forceNs D fun D => forceC (subV (unS L F.length) (unP L F.length) (unB L F.length) v) fun v => forceAll (subL (klS D) (klP D) (klB D) t) fun t =>
          forceF (mapO (subR (klS D) (klP D) (klB D)) (back L (mapO (subR (unS L F.length) (unP L F.length) (unB L F.length)) (F1.take L.length)) F ++ mapO (subR (unS L F.length) (unP L F.length) (unB L F.length)) (F1.drop L.length))) fun F => k v t F
        | none => none
      | none => none
    | false => none

inductive Ex where
  | normal
  | exit (id : Nat)
  | ret

/-- What kind it is, by the table of the types whose slices become the frame's own. -/
def kindE (E : Env) (op : Op) : Nat := match op with
  | .convert s d _ => match memN (s + 1000000) E.scal with
    | true => 0
    | false => match memN (d + 5000000) E.scal with
      | true => 1
      | false => 0
  | .build ty _ => match memN (ty + 2000000) E.scal with
    | true => 1
    | false => 0
  | op => kindOf op

def opAll {R : Type} (E : Env) (call : Ca) (o : Oper) (t : List V) (F : Fo) (k : V → List V → Fo → Option R) : Option R :=
  match kindE E o.op with
  | 0 => opQ E t F o.op fun v => k v t F
  | 1 => opE E t F o k
  | _ => match o.op with
    | .call c => opC E call t F c k
    | _ => none

/-- A call that only looks, or one of data that answers with data. -/
def opS {R : Type} (E : Env) (call : Ca) (t : List V) (F : Fo) (c : Call) (k : V → Option R) : Option R :=
  match c.callee with
  | .value f => match val t f with
    | .clo g caps => match memN g E.scal with
      | true => match call g (subL (lendS F) (fun _ _ _ => .dead) (lendB F) (argsV E g t c.args.toList ++ caps)) [] with
        | some (v, F1) => match scalEnd v F1 with
          | some v => k v
          | none => none
        | none => none
      | false => match refsL (argsV E g t c.args.toList ++ caps), slL (argsV E g t c.args.toList ++ caps) with
        | [], [] => match call g (argsV E g t c.args.toList ++ caps) [] with
          | some (v, F1) => k (subV (lendS F1) (fun _ _ _ => .dead) (fun _ _ => .dead) v)
          | none => none
        | _, _ => none
    | _ => none
  | _ => none

/-- A row of one part with a slice of one's own in it: it waits for its append. -/
def lstD {R : Type} (E : Env) (t : List V) (ty : TypeId) (n : Nat) (ps : Array (Nat × Operand)) (k : V → Option R) : Option R := match look E.tys ty with
  | some i => match i.desc with
    | .slice e => match look E.tys e with
      | some j => match nstOf E e j.size, ps.toList, n with
        | some T, [(0, x)], 1 => match Nat.beq (cellsV (val t x)).length j.size, leafs (cellsV (val t x)), Nat.ble j.size 16777216, Nat.blt 0 j.size with
          | true, true, true, true => k (.lst T (cellsV (val t x)))
          | _, _, _, _ => none
        | _, _, _ => none
      | none => none
    | _ => none
  | none => none
/-- An operation that leaves the roots alone. -/
def opD {R : Type} (E : Env) (call : Ca) (o : Oper) (t : List V) (F : Fo) (k : V → Option R) : Option R :=
  match o.op with
  | .call c => match c.callee with
    | .value _ => opS E call t F c k
    | _ => opQ E t F (.call c) k
  | .buildSlice ty n ps => lstD E t ty n ps k
  | op => opQ E t F op k

/-- Parts that are data. -/
def datParts {R : Type} (size : Nat) (t : List V) : Nat → List (Nat × Operand) → (List (List D) → Option R) → Option R
  | _, [], k => k []
  | n, (i, x) :: ps, k => match Nat.beq i n, Nat.beq (cellsV (val t x)).length size with
    | true, true => match toDs (cellsV (val t x)) with
      | some ds => match leafDs ds with
        | true => datParts size t (n + 1) ps fun rows => k (ds :: rows)
        | false => none
      | none => none
    | _, _ => none

/-- No slice of one's own, or a callee that gets such as its own. -/
def noSl (hand : Bool) (L : List Nat) : Bool := match hand with
  | true => true
  | false => match L with
    | [] => true
    | _ => false
/-- An operation that changes roots, and no slot but its own. -/
def opX {R : Type} (E : Env) (call : Ca) (o : Oper) (t : List V) (F : Fo) (k : V → Fo → Option R) : Option R :=
  match o.op with
  | .alloc ty => match look E.tys ty with
    | some i => k (.bp F.length 0) (F ++ [some (.box (zerosV i.zero))])
    | none => none
  | .box ty x => match leafs (cellsV (val t x)) with
    | true => k (.bp F.length 0) (F ++ [some (.box (cellsV (val t x)))])
    | false => none
  | .build ty ps => match memN (ty + 2000000) E.scal with
    | true => bldN E t F ty ps.toList k
    | false => none
  | .makeSlice ty l c => match look E.tys ty with
    | some i => match i.desc with
      | .slice e => match look E.tys e with
        | some j => match val t l, val t c with
          | .d (.lit (.int _ n)), .d (.lit (.int _ m)) => match mkOk n m j.bytes j.size with
            | true => match toDs (zerosV j.zero) with
              | some z => match Nat.beq z.length j.size, leafDs z with
                | true, true => newK E e j.size (List.replicate n.toNat z) F k
                | _, _ => none
              | none => none
            | false => none
          | _, _ => none
        | none => none
      | _ => none
    | none => none
  | .buildSlice ty n ps => match look E.tys ty with
    | some i => match i.desc with
      | .slice e => match look E.tys e with
        | some j => match Nat.blt 0 j.size with
          | true => datParts j.size t 0 ps.toList fun rows => match Nat.beq rows.length n, Nat.ble (n * j.size) 16777216 with
            | true, true => newK E e j.size rows F k
            | _, _ => none
          | false => none
        | none => none
      | _ => none
    | none => none
  | .call c => match c.callee with
    | .value f => match val t f with
      | .clo g caps => match memN g E.scal, noSl (memN g E.handN) (slL (argsV E g t c.args.toList ++ caps)) with
        | false, true => match memN g E.takeN with
          | true => none
          | false => opC.callOn call g (argsV E g t c.args.toList ++ caps) F (close F 200 (refsL (argsV E g t c.args.toList ++ caps)) []) k
        | _, _ => none
      | _ => none
    | _ => none
  | _ => none

def dstOf (ops : List Oper) (j : Nat) : Option Nat := match ops[j]? with
  | some o => o.dst
  | none => none

/-- Is the operation wanted? -/
def wantV {R : Type} (ops : List Oper) (t : List V) (o : Oper) (yes no : Option R) : Option R :=
  match o.guard with
  | none => yes
  | some (j, want) => match dstOf ops j with
    | some d => match nth t d with
      | .d (.lit (.bool q)) => match want with
        | true => match q with
          | true => yes
          | false => no
        | false => match q with
          | true => no
          | false => yes
      | .tup [] => no
      | _ => none
    | none => none

def runOps {R : Type} (E : Env) (call : Ca) (ops : List Oper) : List Oper → List V → Fo → (List V → Fo → Option R) → Option R
  | [], t, F, k => k t F
  | o :: rest, t, F, k => wantV ops t o (opAll E call o t F fun v t F => putK t o.dst v fun t => spine F fun F => runOps E call ops rest t F k) (putK t o.dst (.tup []) fun t => runOps E call ops rest t F k)

/-- The roots at which an operation looks, and those that it may turn. -/
def lookR (F : Fo) : List Nat → List Nat
  | [] => []
  | r :: L => r :: ((match root F r with
    | some (.box cs) => refsL cs
    | _ => []) ++ lookR F L)
def looks (t : List V) (F : Fo) (o : Oper) : List Nat := match o.op with
  | .call c => match c.callee with
    | .value _ => lookR F (refsL (mapO (val t) o.op.operands.toList))
    | _ => refsL (mapO (val t) o.op.operands.toList)
  | _ => refsL (mapO (val t) o.op.operands.toList)
def chgs (E : Env) (t : List V) (F : Fo) (o : Oper) : List Nat := match o.op with
  | .call c => match c.callee with
    | .value f => match val t f with
      | .clo g caps => close F 200 (refsL (argsV E g t c.args.toList ++ caps)) []
      | _ => []
    | _ => []
  | _ => []
def disjN : List Nat → List Nat → Bool
  | [], _ => true
  | r :: L, M => match memN r M with
    | true => false
    | false => disjN L M
def allLt (n : Nat) : List Nat → Bool
  | [] => true
  | r :: L => match Nat.blt r n with
    | true => allLt n L
    | false => false
abbrev Log := List (Nat × Bool × List Nat × List Nat × Nat)
/-- Does the new operation leave those alone that do not wait for each other, and they it? -/
def entOne (tab : List Nat) (j : Nat) (app : Bool) (C L : List Nat) (i : Nat) (app' : Bool) (C' L' : List Nat) (n' : Nat) : Bool := match app', app with
  | true, true => true
  | _, _ => match disjN L' C with
    | false => memB i (getM tab j)
    | true => match disjN L C' with
      | false => memB i (getM tab j)
      | true => match app' with
        | false => true
        | true => match allLt n' L with
          | true => true
          | false => memB i (getM tab j)
def entOK (tab : List Nat) (j : Nat) (app : Bool) (C L : List Nat) : Log → Bool
  | [] => true
  | (i, app', C', L', n') :: log => match entOne tab j app C L i app' C' L' n' with
    | true => entOK tab j app C L log
    | false => false
/-- Is all from here on in the order written? -/
def tailB (tab : List Nat) : Nat → Nat → Bool
  | _, 0 => true
  | j, n + 1 => match forceM (getM tab j) fun s => allIn s j with
    | true => tailB tab (j + 1) n
    | false => false
where
  allIn (s : Nat) : Nat → Bool
    | 0 => true
    | i + 1 => match memB i s with
      | true => allIn s i
      | false => false

/-- A slice of no parts whose type is known. -/
def emptyOK (E : Env) (o : Oper) : Bool := match o.op with
  | .buildSlice ty n ps => match n, ps.toList with
    | 0, [] => match look E.tys ty with
      | some i => match i.desc with
        | .slice e => match look E.tys e with
          | some j => Nat.blt 0 j.size
          | none => false
        | _ => false
      | none => false
    | _, _ => false
  | _ => false
/-- The slot that an append takes first. -/
def appSlot (o : Oper) : Option Nat := match o.op with
  | .call c => match c.callee, c.args.toList with
    | .builtin .append, [.tmp s, _] => some s
    | _, _ => none
  | _ => none
def cntApp (s : Nat) : List Oper → Nat
  | [] => 0
  | o :: l => match appSlot o with
    | some s' => match Nat.beq s s' with
      | true => cntApp s l + 1
      | false => cntApp s l
    | none => cntApp s l
def isEmpty (o : Oper) : Bool := match o.guard, o.op with
  | none, .buildSlice _ 0 ps => match ps.toList with
    | [] => true
    | _ => false
  | _, _ => false
def emptyAt (s : Nat) : List Oper → Bool
  | [] => false
  | o :: l => match o.dst with
    | some d => match Nat.beq d s with
      | true => isEmpty o
      | false => emptyAt s l
    | none => emptyAt s l
def fused (ops : List Oper) (s : Nat) : Bool := match Nat.beq (cntApp s ops) 1 with
  | true => emptyAt s ops
  | false => false
/-- 0 a store, 1 a maker, 2 the empty row of a fused pair (quiet), 3 the append of a fused pair (a maker), 4 another append (tail). -/
def makeK (ops : List Oper) (o : Oper) : Nat := match o.op with
  | .store _ _ _ => 0
  | .call _ => match o.guard, appSlot o with
    | none, some s => match fused ops s with
      | true => 3
      | false => 4
    | _, _ => 4
  | .buildSlice _ _ _ => match isEmpty o, o.dst with
    | true, some d => match fused ops d with
      | true => 2
      | false => 1
    | _, _ => 1
  | _ => 1
/-- A new root at a place that is free. -/
def opN {R : Type} (E : Env) (t : List V) (o : Oper) (q : Nat) (F : Fo) (k : V → Fo → Option R) : Option R := match root F q, Nat.blt q F.length with
  | none, true => match o.op with
    | .alloc ty => match look E.tys ty with
      | some i => k (.bp q 0) (F.set q (some (.box (zerosV i.zero))))
      | none => none
    | .box ty x => match leafs (cellsV (val t x)) with
      | true => k (.bp q 0) (F.set q (some (.box (cellsV (val t x)))))
      | false => none
    | .makeSlice ty l c => match look E.tys ty with
      | some i => match i.desc with
        | .slice e => match look E.tys e with
          | some j => match val t l, val t c with
            | .d (.lit (.int _ n)), .d (.lit (.int _ m)) => match mkOk n m j.bytes j.size with
              | true => match toDs (zerosV j.zero) with
                | some z => match Nat.beq z.length j.size, leafDs z with
                  | true, true => newQ E e j.size (List.replicate n.toNat z) q F k
                  | _, _ => none
                | none => none
              | false => none
            | _, _ => none
          | none => none
        | _ => none
      | none => none
    | .buildSlice ty n ps => match look E.tys ty with
      | some i => match i.desc with
        | .slice e => match look E.tys e with
          | some j => match Nat.blt 0 j.size with
            | true => datParts j.size t 0 ps.toList fun rows => match Nat.beq rows.length n, Nat.ble (n * j.size) 16777216 with
              | true, true => newQ E e j.size rows q F k
              | _, _ => none
            | false => none
          | none => none
        | _ => none
      | none => none
    | .convert src dst x => cvtB E t src dst x fun e rows => newQ E e 1 rows q F k
    | .call c => match c.callee, c.args.toList, c.argTypes.toList with
      | .builtin .append, [x, y], [tx, ty] => match look E.tys tx, look E.tys ty with
        | some i, some j => match i.desc, j.desc with
          | .slice e, .slice e' => match look E.tys e, Nat.beq tx ty with
            | some p, true => match val t x, rowsV F (val t y) with
              | .e0, some news => match Nat.blt 0 p.size, Nat.blt 0 p.bytes, appOk news.length p.bytes with
                | true, true, true => match allLen p.size news with
                  | true => k (.sl q) (F.set q (some (.arr e p.size news)))
                  | false => none
                | _, _, _ => none
              | _, _ => none
            | _, _ => none
          | _, _ => none
        | _, _ => none
      | _, _, _ => none
    | _ => none
  | _, _ => none
/-- The roots at which a maker looks, but its own. -/
def newL (t : List V) (o : Oper) : List Nat := match o.op with
  | .call c => match c.args.toList with
    | [_, y] => refsV (val t y)
    | _ => []
  | _ => []
/-- A variable written. -/
def opS4 {R : Type} (E : Env) (t : List V) (F : Fo) (o : Oper) (k : Fo → Option R) : Option R := match o.op with
  | .store ty x v => match look E.tys ty with
    | some i => match Nat.beq (cellsV (val t v)).length i.size with
      | true => match val t x with
        | .bp r j => match root F r with
          | some (.box cs) => match leafs (cellsV (val t v)), Nat.ble (j + i.size) cs.length with
            | true, true => k (F.set r (some (.box (cs.take j ++ cellsV (val t v) ++ cs.drop (j + i.size)))))
            | _, _ => none
          | _ => none
        | .ptr r n j => match toDs (cellsV (val t v)) with
          | some ds => match leafDs ds, root F r with
            | true, some (.arr e es rows) => match rows[n]? with
              | some row => match Nat.ble (j + i.size) row.length with
                | true => k (F.set r (some (.arr e es (rows.set n (row.take j ++ ds ++ row.drop (j + i.size))))))
                | false => none
              | none => none
            | _, _ => none
          | none => none
        | _ => none
      | false => none
    | none => none
  | _ => none
/-- The root that is written. -/
def storeAt (t : List V) (o : Oper) : Option Nat := match o.op with
  | .store _ x v => match val t x with
    | .bp r _ => some r
    | .ptr r _ _ => match toDs (cellsV (val t v)) with
      | some ds => match leafDs ds with
        | true => some r
        | false => none
      | none => none
    | _ => none
  | _ => none
def isStore (o : Oper) : Bool := match o.op with
  | .store _ _ _ => true
  | _ => false

/-- A call that takes what it is given. -/
def takeC (E : Env) (t : List V) (o : Oper) : Bool := match o.op with
  | .call c => match c.callee with
    | .value f => match val t f with
      | .clo g _ => memN g E.takeN
      | _ => false
    | _ => false
  | _ => false

/-- One operation of a region that draws its order; what comes behind it is go. -/
def oneD {R : Type} (E : Env) (call : Ca) (ops : List Oper) (tab : List Nat) (log : Log) (j q : Nat) (o : Oper) (rest : List Oper) (t : List V) (F : Fo) (k : List V → Fo → Option R) (go : Log → Nat → List V → Fo → Option R) : Option R :=
  match kindD E.scal E.pur o with
    | 3 => runOps E call ops (o :: rest) t F k
    | 4 => match makeK ops o with
      | 0 => match storeAt t o with
        | some r => wantV ops t o (match allLt F.length [r], entOK tab j false [r] [r] log with
          | true, true => opS4 E t F o fun F1 => putK t o.dst .dead fun t => spine F1 fun F1 => go ((j, false, [r], [r], 0) :: log) q t F1
          | _, _ => none) (putK t o.dst (.tup []) fun t => go log q t F)
        | none => match tailB tab j (ops.length - j) with
          | true => runOps E call ops (o :: rest) t F k
          | false => none
      | 2 => match emptyOK E o with
        | true => wantV ops t o (putK t o.dst .e0 fun t => go log q t F) none
        | false => none
      | 4 => match tailB tab j (ops.length - j) with
        | true => runOps E call ops (o :: rest) t F k
        | false => none
      | _ => forceNs (newL t o) fun L => match allLt F.length (q :: L), entOK tab j false [q] (q :: L) log with
        | true, true => wantV ops t o (opN E t o q F fun v F1 => putK t o.dst v fun t => spine F1 fun F1 => go ((j, false, [q], q :: L, 0) :: log) (q + 1) t F1) none
        | _, _ => none
    | 2 => match takeC E t o with
      | true => match tailB tab j (ops.length - j) with
        | true => runOps E call ops (o :: rest) t F k
        | false => none
      | false => wantV ops t o (forceNs (chgs E t F o) fun C => match allLt F.length C, entOK tab j true C C log with
        | true, true => opX E call o t F fun v F1 => putK t o.dst v fun t => spine F1 fun F1 => forceN F.length fun n => go ((j, true, C, C, n) :: log) q t F1
        | _, _ => none) (putK t o.dst (.tup []) fun t => go log q t F)
    | 1 => wantV ops t o (forceNs (looks t F o) fun L => match allLt F.length L, entOK tab j false [] L log with
      | true, true => opD E call o t F fun v => putK t o.dst v fun t => go ((j, false, [], L, 0) :: log) q t F
      | _, _ => none) (putK t o.dst (.tup []) fun t => go log q t F)
    | _ => wantV ops t o (opD E call o t F fun v => putK t o.dst v fun t => go log q t F) (putK t o.dst (.tup []) fun t => go log q t F)

def runD {R : Type} (E : Env) (call : Ca) (ops : List Oper) (tab : List Nat) : Log → Nat → Nat → List Oper → List V → Fo → (List V → Fo → Option R) → Option R
  | _, _, _, [], t, F, k => k t F
  | log, j, q, o :: rest, t, F, k => oneD E call ops tab log j q o rest t F k fun log q t F => runD E call ops tab log (j + 1) q rest t F k
/-- How many new roots get their places ahead. -/
def newN (sc pu : List Nat) (ops : List Oper) : List Oper → Nat
  | [] => 0
  | o :: l => match kindD sc pu o with
    | 4 => match makeK ops o with
      | 1 => newN sc pu ops l + 1
      | 3 => newN sc pu ops l + 1
      | _ => newN sc pu ops l
    | _ => newN sc pu ops l
def runOpsD {R : Type} (E : Env) (call : Ca) (ops : List Oper) (l : List Oper) (t : List V) (F : Fo) (k : List V → Fo → Option R) : Option R :=
  spine (F ++ List.replicate (newN E.scal E.pur ops l) none) fun F0 => tabK ops [] fun tab => forceN F.length fun q => runD E call ops tab [] 0 q l t F0 k

def keepT (ks : List Nat) : Nat → List V → List V
  | _, [] => []
  | i, c :: t => (match memN i ks with | true => c | false => .dead) :: keepT ks (i + 1) t

/-- The slices of one's own that a loop's head lets go. -/
def frzSlots (ks : List Nat) : Nat → List V → List Nat
  | _, [] => []
  | i, c :: t => match memN (i + 1000) ks with
    | true => match c with
      | .sl r => r :: frzSlots ks (i + 1) t
      | .nsl r => r :: frzSlots ks (i + 1) t
      | _ => frzSlots ks (i + 1) t
    | false => frzSlots ks (i + 1) t

/-- A loop's head: only what lives is kept, the roots in order. -/
def normT {R : Type} (m : Nat) (ks : List Nat) (t : List V) (F : Fo) (k : List V → Fo → Option R) : Option R :=
  frzAll (uniqN (frzSlots ks 0 t)) [] (keepT ks 0 t) F fun _ t F => normOn m t F (close F 400 (upto m 0 ++ refsL t) []) k
where
  normOn {R : Type} (m : Nat) (t : List V) (F : Fo) (L : List Nat) (k : List V → Fo → Option R) : Option R :=
    match nodupN L, prefN (upto m 0) L with
    | true, true => forceL (subL (pkS L) (pkP L) (pkB L) t) fun t => k t (packF L F)
    | _, _ => none

def loopN {R : Type} (body : List V → Fo → (Ex → List V → Fo → Option R) → Option R) (m : Nat) (ks : List Nat) : Nat → List V → Fo → (Ex → List V → Fo → Option R) → Option R
  | 0, _, _, _ => none
  | n + 1, t, F, k => normT m ks t F fun t F => body t F fun e t F => match e with
    | .normal => loopN body m ks n t F k
    | e => k e t F

def firstR : Code → Nat
  | .region id _ _ => id
  | .seq a _ => firstR a
  | .block _ c => firstR c
  | .loop c => firstR c
  | _ => 0

def exec {R : Type} (E : Env) (call : Ca) (n m : Nat) (kp : List (Nat × List Nat)) : Code → List V → Fo → (Ex → List V → Fo → Option R) → Option R
  | .skip, t, F, k => k .normal t F
  | .region _ ops d, t, F, k => match d with
    | false => runOps E call ops.toList ops.toList t F (k .normal)
    | true => runOpsD E call ops.toList ops.toList t F (k .normal)
  | .seq a b, t, F, k => exec E call n m kp a t F fun e t F => match e with
    | .normal => exec E call n m kp b t F k
    | e => k e t F
  | .cond c a b, t, F, k => match val t c with
    | .d (.lit (.bool q)) => match q with
      | true => exec E call n m kp a t F k
      | false => exec E call n m kp b t F k
    | _ => none
  | .block id c, t, F, k => exec E call n m kp c t F fun e t F => match e with
    | .exit j => match Nat.beq j id with
      | true => k .normal t F
      | false => k (.exit j) t F
    | e => k e t F
  | .loop c, t, F, k => match look kp (firstR c) with
    | some ks => loopN (fun t F k => exec E call n m kp c t F k) m ks n t F k
    | none => none
  | .exit id, t, F, k => k (.exit id) t F
  | .ret, t, F, k => k .ret t F
  | _, _, _, _ => none

def geN (m : Nat) : List Nat → List Nat
  | [] => []
  | r :: L => match Nat.ble m r with
    | true => r :: geN m L
    | false => geN m L

/-- A function's results. -/
def res1 (E : Env) (t : List V) (F : Fo) : ResultVar → Option V
  | .tmp i => some (nth t i)
  | .cell a ty => opQ E t F (.load ty (.tmp a)) some
def resV (E : Env) (t : List V) (F : Fo) : List ResultVar → Option (List V)
  | [] => some []
  | r :: rs => match res1 E t F r with
    | some v => match resV E t F rs with
      | some vs => some (v :: vs)
      | none => none
    | none => none
def oneV : List V → V
  | [v] => v
  | vs => .tup vs

/-- A slice that was given and is handed back, by a function that takes slices: a root of its own from then on. -/
def reRootK {R : Type} (m : Nat) (vs t : List V) (F : Fo) (k : List V → List V → Fo → R) : R := match vs with
  | [.sl r] => match Nat.blt r m, root F r with
    | true, some (.arr e es rows) => forceAll (kill r t) fun t => forceF (killF r F ++ [some (.arr e es rows)]) fun F' => k [.sl F.length] t F'
    | _, _ => k vs t F
  | vs => k vs t F
/-- What was given and is not handed back is let go. -/
def dropAll {R : Type} : List Nat → List V → List V → Fo → (List V → List V → Fo → R) → R
  | [], vs, t, F, k => k vs t F
  | r :: rs, vs, t, F, k => match root F r with
    | some (.arr _ _ _) => forceAll (kill r vs) fun vs => forceAll (kill r t) fun t => forceF (killF r F) fun F => dropAll rs vs t F k
    | _ => dropAll rs vs t F k
def takeK {R : Type} (take : Bool) (m : Nat) (vs t : List V) (F : Fo) (k : List V → List V → Fo → R) : R := match take with
  | true => reRootK m vs t F fun vs t F => dropAll (upto m 0) vs t F k
  | false => k vs t F

def finV (E : Env) (m : Nat) (f : FuncId) (fu : Func) (t : List V) (F : Fo) : Option (V × Fo) :=
  match resV E t F fu.results.toList with
  | none => none
  | some vs => takeK (memN f E.takeN) m vs t F fun vs t F => frzAll (match memN f E.own with | true => [] | false => uniqN (geN m (slL vs))) vs t F fun vs _ F => finOn m (oneV vs) F (close F 400 (upto m 0 ++ refsV (oneV vs)) [])
where
  finOn (m : Nat) (v : V) (F : Fo) (L : List Nat) : Option (V × Fo) := match nodupN L, prefN (upto m 0) L with
    | true, true => some (subV (pkS L) (pkP L) (pkB L) v, packF L F)
    | _, _ => none

def runF (E : Env) : Nat → Ca
  | 0, _, _, _ => none
  | n + 1, f, args, F => match look E.ext f with
    | some g => g args F
    | none => match look E.fns f with
      | none => none
      | some fu => match fu.body with
        | none => none
        | some c => exec E (runF E n) n F.length ((look E.keep f).getD []) c (args ++ List.replicate (fu.ntmps - args.length) .dead) F fun e t F' => match e with
          | .exit _ => none
          | _ => finV E F.length f fu t F'

end Go.Proofs.YtjnhclnnobejgaaE
