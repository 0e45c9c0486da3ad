/- The engine, fifth part: the interpreter of the operations that make and write memory, of calls and of code; conditions: none. -/
import Derived.Test.YtjphojijobhdiaaEd
namespace Go.Proofs.YtjphojijobhdiaaE
set_option linter.unusedVariables false

def leafD : D → Bool
  | .lit (.agg _) => false
  | .lit (.tuple _) => false
  | _ => true
def leafDs : List D → Bool
  | [] => true
  | c :: cs => match leafD c with
    | true => leafDs cs
    | false => false

/-- Cells as data, the frame's own slices among them being let go. -/
def frzCells {R : Type} : List V → List V → Fo → (List D → List V → Fo → Option R) → Option R
  | [], t, F, k => k [] t F
  | c :: cs, t, F, k => match c with
    | .d x => match leafD x with
      | true => frzCells cs t F fun ds t F => k (x :: ds) t F
      | false => none
    | .sl r => match root F r with
      | some (.arr _ _ rows) => frzCells cs (frz r rows t) (frzF r rows F) fun ds t F => k (.arr rows :: ds) t F
      | _ => none
    | _ => none

/-- May a row of n, with room for m, be made? -/
def mkOk (n m : Int) (bytes size : Nat) : Bool := decide (0 ≤ n) && (decide (n ≤ m) && (decide (bytes * m.toNat ≤ 140737488355328) && (Nat.blt 0 size && Nat.blt 0 bytes)))
theorem mkOk_nat (n bytes size : Nat) (h1 : bytes * n ≤ 140737488355328) (h2 : Nat.blt 0 size = true) (h3 : Nat.blt 0 bytes = true) : mkOk (n : Int) (n : Int) bytes size = true := by
  simp only [mkOk, h2, h3, Bool.and_true, Bool.and_eq_true, decide_eq_true_eq, Int.toNat_natCast]
  omega
theorem mkOk_cap (n m bytes size : Nat) (h0 : n ≤ m) (h1 : bytes * m ≤ 140737488355328) (h2 : Nat.blt 0 size = true) (h3 : Nat.blt 0 bytes = true) : mkOk (n : Int) (m : Int) bytes size = true := by
  simp only [mkOk, h2, h3, Bool.and_true, Bool.and_eq_true, decide_eq_true_eq, Int.toNat_natCast]
  omega
/-- May a row grow to n? -/
def appOk (n bytes : Nat) : Bool := Nat.ble (n * bytes) 140737488355328
theorem appOk_of (n bytes : Nat) (h : n * bytes ≤ 140737488355328) : appOk n bytes = true := Nat.ble_eq.mpr h

/-- The fields that hold slices and are not given: place, element, the element's size. -/
def nilFs (E : Env) (cells : List Value) (given : List Nat) : Nat → List Field → List (Nat × TypeId × Nat)
  | _, [] => []
  | n, f :: fs => match memN n given with
    | true => nilFs E cells given (n + 1) fs
    | false => match look E.tys f.type with
      | some i => match i.desc with
        | .slice e => match look E.tys e, cells[f.offset]? with
          | some j, some (.slice none 0 0) => match Nat.blt 0 j.size with
            | true => (f.offset, e, j.size) :: nilFs E cells given (n + 1) fs
            | false => nilFs E cells given (n + 1) fs
          | _, _ => nilFs E cells given (n + 1) fs
        | _ => nilFs E cells given (n + 1) fs
      | none => nilFs E cells given (n + 1) fs
def seedV : List (Nat × TypeId × Nat) → Nat → List V → List V
  | [], _, cs => cs
  | p :: l, n, cs => seedV l (n + 1) (cs.set p.1 (.sl n))
def seedF : List (Nat × TypeId × Nat) → Fo
  | [] => []
  | p :: l => some (.arr p.2.1 p.2.2 []) :: seedF l
def bldOn {R : Type} (F : Fo) (t : List V) (places : List (Nat × Nat)) (ps : List (Nat × Operand)) (zs : List V) (nf : List (Nat × TypeId × Nat)) (k : V → Fo → Option R) : Option R :=
  fillV places t ps (seedV nf F.length zs) fun cs => k (.agg cs) (F ++ seedF nf)
/-- A struct is built; its slices that are not given are the frame's own. -/
def bldN {R : Type} (E : Env) (t : List V) (F : Fo) (ty : TypeId) (ps : List (Nat × Operand)) (k : V → Fo → Option R) : Option R := match look E.tys ty with
  | some i => match i.desc with
    | .struct fs => match placesV E fs.toList with
      | some places => bldOn F t places ps (zerosV i.zero) (nilFs E i.zero.cells.toList (mapO Prod.fst ps) 0 fs.toList) k
      | none => none
    | _ => none
  | none => none

/-- The operations that make or write memory. -/
def opE {R : Type} (E : Env) (t : List V) (F : Fo) (o : Oper) (k : V → List V → Fo → Option R) : Option R :=
  match o.op with
  | .alloc ty => match look E.tys ty with
    | some i => k (.bp F.length 0) t (F ++ [some (.box (zerosV i.zero))])
    | none => none
  | .box ty x => match leafs (cellsV (val t x)) with
    | true => k (.bp F.length 0) t (F ++ [some (.box (cellsV (val t x)))])
    | false => none
  | .makeSlice ty l c => match look E.tys ty with
    | some i => match i.desc with
      | .slice e => match look E.tys e with
        | some j => match val t l, val t c with
          | .d (.lit (.int _ n)), .d (.lit (.int _ m)) => match mkOk n m j.bytes j.size with
            | true => match toDs (zerosV j.zero) with
              | some z => match Nat.beq z.length j.size, leafDs z with
                | true, true => k (.sl F.length) t (F ++ [some (.arr e j.size (List.replicate n.toNat z))])
                | _, _ => none
              | none => none
            | false => none
          | _, _ => none
        | none => none
      | _ => none
    | none => none
  | .store ty x v => match look E.tys ty with
    | some i => match Nat.beq (cellsV (val t v)).length i.size with
      | true => match val t x with
        | .bp r j => match root F r with
          | some (.box cs) => match leafs (cellsV (val t v)), Nat.ble (j + i.size) cs.length with
            | true, true => k .dead t (F.set r (some (.box (cs.take j ++ cellsV (val t v) ++ cs.drop (j + i.size)))))
            | _, _ => none
          | _ => none
        | .ptr r n j => frzCells (cellsV (val t v)) t F fun ds t F => match root F r with
          | some (.arr e es rows) => match rows[n]? with
            | some row => match Nat.ble (j + i.size) row.length with
              | true => k .dead t (F.set r (some (.arr e es (rows.set n (row.take j ++ ds ++ row.drop (j + i.size))))))
              | false => none
            | none => none
          | _ => none
        | _ => none
      | false => none
    | none => none
  | .call c => match c.callee, c.args.toList, c.argTypes.toList with
    | .builtin .append, [x, y], [tx, ty] => match look E.tys tx, look E.tys ty with
      | some i, some j => match i.desc, j.desc with
        | .slice e, .slice e' => match look E.tys e, Nat.beq tx ty with
          | some q, true => match val t x, rowsV F (val t y) with
            | .sl r, some news => match root F r with
              | some (.arr e2 es rows) => match Nat.beq e e2, Nat.beq es q.size, Nat.blt 0 q.bytes with
                | true, true, true => match appOk (rows.length + news.length) q.bytes with
                  | true => match allLen es news with
                    | true => forceAll (kill r t) fun t' => forceF (killF r F ++ [some (.arr e es (rows ++ news))]) fun F' => k (.sl F.length) t' F'
                    | false => none
                  | false => none
                | _, _, _ => none
              | _ => none
            | _, _ => none
          | _, _ => none
        | _, _ => none
      | _, _ => none
    | .builtin .clear, [x], [ty] => match look E.tys ty with
      | some i => match i.desc with
        | .slice e => match look E.tys e, val t x with
          | some q, .tl r n => match root F r, toDs (zerosV q.zero) with
            | some (.arr e2 es rows), some z => match Nat.beq e e2, Nat.beq z.length es, leafDs z with
              | true, true, true => k (.tup []) t (F.set r (some (.arr e2 es (rows.take n ++ List.replicate (rows.length - n) z))))
              | _, _, _ => none
            | _, _ => none
          | _, _ => none
        | _ => none
      | none => none
    | _, _, _ => none
  | .slice ty x lo hi mx => match mx with
    | some _ => none
    | none => match val t x with
      | .sl r => match memN (ty + 3000000) E.scal with
       | true => match root F r with
        | some (.arr _ _ rows) => opQ E (frz r rows t) (frzF r rows F) (.slice ty x lo hi none) fun v => k v (frz r rows t) (frzF r rows F)
        | _ => none
       | false => match root F r, look E.tys ty with
        | some (.arr e es rows), some i => match i.desc with
          | .slice e' => match look E.tys e' with
            | some q => match Nat.beq q.size es, lo, hi with
              | true, none, some h => match val t h with
                | .d (.lit (.int _ u)) => match decide (0 ≤ u), decide (u ≤ (rows.length : Int)) with
                  | true, true => forceAll (kill r t) fun t' => forceF (killF r F ++ [some (.arr e es (rows.take u.toNat))]) fun F' => k (.sl F.length) t' F'
                  | _, _ => none
                | _ => none
              | true, some l, none => match val t l with
                | .d (.lit (.int _ u)) => match decide (0 ≤ u), decide (u < (rows.length : Int)) with
                  | true, true => k (.tl r u.toNat) t F
                  | _, _ => none
                | _ => none
              | _, _, _ => none
            | none => none
          | _ => none
        | _, _ => none
      | _ => opQ E t F (.slice ty x lo hi none) fun v => k v t F
  | .makeMap ty none => match look E.tys ty with
    | some i => match i.desc with
      | .map kt _ => match look E.tys kt with
        | some ki => match ki.desc with
          | .int K => k (.mp F.length) t (F ++ [some (.mp K [])])
          | _ => none
        | none => none
      | _ => none
    | none => none
  | .mapUpdate ty x ix v => match look E.tys ty with
    | some i => match i.desc with
      | .map kt _ => match look E.tys kt with
        | some ki => match ki.desc with
          | .int K => match val t x, val t ix, val t v with
            | .mp r, .d (.lit (.int K' n)), .d y => match decide (K' = K), root F r, leafD y with
              | true, some (.mp K2 ents), true => match decide (K2 = K) with
                | true => k .dead t (F.set r (some (.mp K2 (mput ents n y))))
                | false => none
              | _, _, _ => none
            | _, _, _ => none
          | _ => none
        | none => none
      | _ => none
    | none => none
  | .buildSlice ty n ps => match look E.tys ty with
    | some i => match i.desc with
      | .slice e => match look E.tys e with
        | some j => match Nat.blt 0 j.size with
          | true => frzParts j.size 0 ps.toList t F fun rows t F => match Nat.beq rows.length n, Nat.ble (n * j.size) 16777216 with
            | true, true => k (.sl F.length) t (F ++ [some (.arr e j.size rows)])
            | _, _ => none
          | false => none
        | none => none
      | _ => none
    | none => none
  | .build ty ps => bldN E t F ty ps.toList fun v F => k v t F
  | .move (.const (.slice none 0 0)) => nilS E t F o k
  | .assign (.const (.slice none 0 0)) => nilS E t F o k
  | _ => none
where
  nilS {R : Type} (E : Env) (t : List V) (F : Fo) (o : Oper) (k : V → List V → Fo → Option R) : Option R :=
    match look E.tys o.type with
    | some i => match i.desc with
      | .slice e => match look E.tys e with
        | some j => match Nat.blt 0 j.size with
          | true => k (.sl F.length) t (F ++ [some (.arr e j.size [])])
          | false => none
        | none => none
      | _ => none
    | none => none
  frzParts {R : Type} (size : Nat) : Nat → List (Nat × Operand) → List V → Fo → (List (List D) → List V → Fo → Option R) → Option R
    | _, [], t, F, k => k [] t F
    | n, (i, x) :: ps, t, F, k => match Nat.beq i n, Nat.beq (cellsV (val t x)).length size with
      | true, true => frzCells (cellsV (val t x)) t F fun ds t F => frzParts size (n + 1) ps t F fun rows t F => k (ds :: rows) t F
      | _, _ => none

end Go.Proofs.YtjphojijobhdiaaE
