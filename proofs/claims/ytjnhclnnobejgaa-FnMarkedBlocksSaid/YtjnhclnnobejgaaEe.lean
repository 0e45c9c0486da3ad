/- The engine, fifth part: the interpreter of the operations that make and write memory, of calls and of code; conditions: none. -/
import Derived.Test.YtjnhclnnobejgaaEd
namespace Go.Proofs.YtjnhclnnobejgaaE
set_option linter.unusedVariables false

def leafD : D → Bool
  | .lit (.agg _) => false
  | .lit (.tuple _) => false
  | _ => true
def leafDs : List D → Bool
  | [] => true
  | c :: cs => match leafD c with
    | true => leafDs cs
    | false => false

/-- Cells as data, the frame's own slices among them being let go. -/
def frzCells {R : Type} : List V → List V → Fo → (List D → List V → Fo → Option R) → Option R
  | [], t, F, k => k [] t F
  | c :: cs, t, F, k => match c with
    | .d x => match leafD x with
      | true => frzCells cs t F fun ds t F => k (x :: ds) t F
      | false => none
    | .sl r => match root F r with
      | some (.arr _ _ rows) => frzCells cs (frz r rows t) (frzF r rows F) fun ds t F => k (.arr rows :: ds) t F
      | _ => none
    | _ => none

/-- May a row of n, with room for m, be made? -/
def mkOk (n m : Int) (bytes size : Nat) : Bool := decide (0 ≤ n) && (decide (n ≤ m) && (decide (bytes * m.toNat ≤ 140737488355328) && (Nat.blt 0 size && Nat.blt 0 bytes)))
theorem mkOk_nat (n bytes size : Nat) (h1 : bytes * n ≤ 140737488355328) (h2 : Nat.blt 0 size = true) (h3 : Nat.blt 0 bytes = true) : mkOk (n : Int) (n : Int) bytes size = true := by
  simp only [mkOk, h2, h3, Bool.and_true, Bool.and_eq_true, decide_eq_true_eq, Int.toNat_natCast]
  omega
theorem mkOk_cap (n m bytes size : Nat) (h0 : n ≤ m) (h1 : bytes * m ≤ 140737488355328) (h2 : Nat.blt 0 size = true) (h3 : Nat.blt 0 bytes = true) : mkOk (n : Int) (m : Int) bytes size = true := by
  simp only [mkOk, h2, h3, Bool.and_true, Bool.and_eq_true, decide_eq_true_eq, Int.toNat_natCast]
  omega
/-- May a row grow to n? -/
def appOk (n bytes : Nat) : Bool := Nat.ble (n * bytes) 140737488355328
theorem appOk_of (n bytes : Nat) (h : n * bytes ≤ 140737488355328) : appOk n bytes = true := Nat.ble_eq.mpr h

/-- The first field that holds a slice: its place, the element, the element's size. -/
def sliceAt (E : Env) : List Field → Option (Nat × TypeId × Nat)
  | [] => none
  | f :: fs => match look E.tys f.type with
    | some i => match i.desc with
      | .slice e => match sizeV E e with
        | some n => some (f.offset, e, n)
        | none => none
      | _ => sliceAt E fs
    | none => none
/-- Do the rows of this element hold slices of one's own? By the table of such types. -/
def nstOf (E : Env) (e : TypeId) (es : Nat) : Option NT := match memN (e + 4000000) E.scal with
  | false => none
  | true => match look E.tys e with
    | some i => match (match i.desc with
        | .struct fs => sliceAt E fs.toList
        | .slice e2 => match sizeV E e2 with
          | some n => some (0, e2, n)
          | none => none
        | _ => none) with
      | some (c, e2, n) => match Nat.blt c es, Nat.blt 0 n with
        | true, true => some ⟨e, es, c, e2, n⟩
        | _, _ => none
      | none => none
    | none => none
theorem nstOf_ok {E : Env} {e : TypeId} {es : Nat} {T : NT} (h : nstOf E e es = some T) : T.e = e ∧ T.es = es ∧ T.c2 < T.es ∧ 0 < T.es2 := by
  unfold nstOf at h
  split at h
  · simp at h
  split at h
  case h_2 => simp at h
  split at h
  case h_2 => simp at h
  split at h
  case h_2 => simp at h
  rename_i h1 h2
  injection h with h
  subst h
  exact ⟨rfl, rfl, Nat.le_of_ble_eq_true h1, Nat.le_of_ble_eq_true h2⟩
/-- The fields that hold slices and are not given: place, element, the element's size. -/
def nilFs (E : Env) (cells : List Value) (given : List Nat) : Nat → List Field → List (Nat × Bool × Root)
  | _, [] => []
  | n, f :: fs => match memN n given with
    | true => nilFs E cells given (n + 1) fs
    | false => match look E.tys f.type with
      | some i => match i.desc with
        | .slice e => match look E.tys e, cells[f.offset]? with
          | some j, some (.slice none 0 0) => match Nat.blt 0 j.size with
            | true => (match nstOf E e j.size with
              | none => (f.offset, false, .arr e j.size [])
              | some T => (f.offset, true, .nst T 0 [])) :: nilFs E cells given (n + 1) fs
            | false => nilFs E cells given (n + 1) fs
          | _, _ => nilFs E cells given (n + 1) fs
        | _ => nilFs E cells given (n + 1) fs
      | none => nilFs E cells given (n + 1) fs
def seedV : List (Nat × Bool × Root) → Nat → List V → List V
  | [], _, cs => cs
  | (q, b, _) :: l, n, cs => seedV l (n + 1) (cs.set q (match b with | true => .nsl n | false => .sl n))
def seedF : List (Nat × Bool × Root) → Fo
  | [] => []
  | (_, _, R) :: l => some R :: seedF l
def bldOn {R : Type} (F : Fo) (t : List V) (places : List (Nat × Nat)) (ps : List (Nat × Operand)) (zs : List V) (nf : List (Nat × Bool × Root)) (k : V → Fo → Option R) : Option R :=
  fillV places t ps (seedV nf F.length zs) fun cs => k (.agg cs) (F ++ seedF nf)
/-- A struct is built; its slices that are not given are the frame's own. -/
def bldN {R : Type} (E : Env) (t : List V) (F : Fo) (ty : TypeId) (ps : List (Nat × Operand)) (k : V → Fo → Option R) : Option R := match look E.tys ty with
  | some i => match i.desc with
    | .struct fs => match placesV E fs.toList with
      | some places => bldOn F t places ps (zerosV i.zero) (nilFs E i.zero.cells.toList (mapO Prod.fst ps) 0 fs.toList) k
      | none => none
    | _ => none
  | none => none

/-- A new root for a row. -/
def newK {R : Type} (E : Env) (e : TypeId) (es : Nat) (rows : List (List D)) (F : Fo) (k : V → Fo → Option R) : Option R := match nstOf E e es with
  | none => k (.sl F.length) (F ++ [some (.arr e es rows)])
  | some T => k (.nsl F.length) (F ++ [some (.nst T 0 rows)])
/-- The same, at a place that is free. -/
def newQ {R : Type} (E : Env) (e : TypeId) (es : Nat) (rows : List (List D)) (q : Nat) (F : Fo) (k : V → Fo → Option R) : Option R := match nstOf E e es with
  | none => k (.sl q) (F.set q (some (.arr e es rows)))
  | some T => k (.nsl q) (F.set q (some (.nst T 0 rows)))
/-- Row r becomes q, slice r2 goes into it. -/
def mrgS (r r2 q r' : Nat) : V := match Nat.beq r r' with
  | true => .sl q
  | false => match Nat.beq r2 r' with
    | true => .dead
    | false => .sl r'
/-- Cells stored in a row with slices. -/
def storeN {R : Type} (size : Nat) (r i j : Nat) (cs : List V) (t : List V) (F : Fo) (k : V → List V → Fo → Option R) : Option R := match root F r with
  | some (.nst T m rows) => match rows[i]? with
    | some row => match Nat.ble (j + size) row.length, leafs cs with
      | true, true => match inN T.c2 j size with
        | false => match toDs cs with
          | some ds => k .dead t (F.set r (some (.nst T m (rows.set i (row.take j ++ ds ++ row.drop (j + size))))))
          | none => none
        | true => match cs[T.c2 - j]? with
          | some (.sl r2) => match root F r2 with
            | some (.arr e2 es2 rws) => match toDs (cs.set (T.c2 - j) (.d (.arr rws))) with
              | some ds => match Nat.beq e2 T.e2, Nat.beq es2 T.es2, Nat.beq i m with
                | true, true, true => forceAll (subL (mrgS r r2 F.length) (killP r2) .bp t) fun t' =>
                    forceF (((mapO (subR (mrgS r r2 F.length) (killP r2) .bp) F).set r none).set r2 none ++ [some (.nst T (m + 1) (rows.set i (row.take j ++ ds ++ row.drop (j + size))))]) fun F' => k .dead t' F'
                | _, _, _ => none
              | none => none
            | _ => none
          | _ => none
      | _, _ => none
    | none => none
  | _ => none
/-- Two roots gone. -/
def kil2S (r r2 r' : Nat) : V := match Nat.beq r r' with
  | true => .dead
  | false => match Nat.beq r2 r' with
    | true => .dead
    | false => .sl r'
def kil2P (r r2 r' i j : Nat) : V := match Nat.beq r r' with
  | true => .dead
  | false => match Nat.beq r2 r' with
    | true => .dead
    | false => .ptr r' i j
/-- One row with a slice of its own put behind a row of such. -/
def appN {R : Type} (e size bytes : Nat) (r : Nat) (cs : List V) (t : List V) (F : Fo) (k : V → List V → Fo → Option R) : Option R := match root F r with
  | some (.nst T n rows) => match cs[T.c2]? with
    | some (.sl r2) => match root F r2 with
      | some (.arr e2 es2 rws) => match toDs (cs.set T.c2 (.d (.arr rws))) with
        | some ds => match Nat.beq e T.e, Nat.beq size T.es, Nat.beq ds.length T.es, Nat.beq e2 T.e2, Nat.beq es2 T.es2, Nat.beq n rows.length, appOk (rows.length + 1) bytes with
          | true, true, true, true, true, true, true => match Nat.blt 0 bytes with
            | true => forceAll (subL (kil2S r r2) (kil2P r r2) .bp t) fun t' =>
              forceF (((mapO (subR (kil2S r r2) (kil2P r r2) .bp) F).set r none).set r2 none ++ [some (.nst T (n + 1) (rows ++ [ds]))]) fun F' => k (.nsl F.length) t' F'
            | false => none
          | _, _, _, _, _, _, _ => none
        | none => none
      | _ => none
    | _ => none
  | _ => none
/-- The same, the row being a root. -/
def appNN {R : Type} (e size bytes : Nat) (r r2 : Nat) (t : List V) (F : Fo) (k : V → List V → Fo → Option R) : Option R := match root F r, root F r2 with
  | some (.nst T n rows), some (.nst T2 1 [ds]) => match Nat.beq e T.e, Nat.beq size T.es, Nat.beq T2.c2 T.c2, Nat.beq T2.es T.es, Nat.beq T2.e2 T.e2, Nat.beq T2.es2 T.es2, Nat.beq n rows.length, appOk (rows.length + 1) bytes with
    | true, true, true, true, true, true, true, true => match Nat.blt 0 bytes, Nat.beq r r2 with
      | true, false => forceAll (subL (kil2S r r2) (kil2P r r2) .bp t) fun t' =>
        forceF (((mapO (subR (kil2S r r2) (kil2P r r2) .bp) F).set r none).set r2 none ++ [some (.nst T (n + 1) (rows ++ [ds]))]) fun F' => k (.nsl F.length) t' F'
      | _, _ => none
    | _, _, _, _, _, _, _, _ => none
  | _, _ => none
/-- A literal of one row with a slice of the frame's own. -/
def bld1 {R : Type} (E : Env) (e size n : Nat) (t : List V) (F : Fo) (ps : List (Nat × Operand)) (k : V → List V → Fo → Option R) (k2 : Option R) : Option R := match nstOf E e size with
  | none => k2
  | some T => match ps with
    | [(0, x)] => match (cellsV (val t x))[T.c2]? with
      | some (.sl r2) => match root F r2 with
        | some (.arr e2 es2 rws) => match toDs ((cellsV (val t x)).set T.c2 (.d (.arr rws))) with
          | some ds => match leafs (cellsV (val t x)), Nat.beq ds.length size, Nat.beq e2 T.e2, Nat.beq es2 T.es2, Nat.ble size 16777216, Nat.beq n 1 with
            | true, true, true, true, true, true => forceAll (kill r2 t) fun t' => forceF (killF r2 F ++ [some (.nst T 1 [ds])]) fun F' => k (.nsl F.length) t' F'
            | _, _, _, _, _, _ => none
          | none => none
        | _ => none
      | _ => k2
    | _ => k2
/-- Cells stored in a slice of such a row. -/
def storeNp {R : Type} (size : Nat) (r i q c : Nat) (cs : List V) (t : List V) (F : Fo) (k : V → List V → Fo → Option R) : Option R := match root F r with
  | some (.nst T m rows) => match rows[i]? with
    | some row => match row[T.c2]? with
      | some (.arr rws) => match rws[q]? with
        | some ds0 => match Nat.ble (c + size) ds0.length, leafs cs, toDs cs with
          | true, true, some ds => k .dead t (F.set r (some (.nst T m (rows.set i (row.set T.c2 (.arr (rws.set q (ds0.take c ++ ds ++ ds0.drop (c + size)))))))))
          | _, _, _ => none
        | none => none
      | _ => none
    | none => none
  | _ => none

/-- A string's bytes as rows. -/
def byteRowsOf (s : ByteArray) : List (List D) := s.data.toList.map fun b => [.lit (.int .u8 b.toNat)]
/-- A string turned to bytes. -/
def cvtB {R : Type} (E : Env) (t : List V) (src dst : TypeId) (x : Operand) (k : TypeId → List (List D) → Option R) : Option R := match look E.tys src, look E.tys dst, val t x with
  | some i, some j, .d (.lit (.string s)) => match i.desc, j.desc with
    | .string, .slice e => match look E.tys e with
      | some q => match q.desc, Nat.beq e U8, appOk s.size 1 with
        | .int .u8, true, true => k e (byteRowsOf s)
        | _, _, _ => none
      | none => none
    | _, _ => none
  | _, _, _ => none
theorem cvtB_uni {R Q : Type} {E : Env} {t : List V} {src dst : TypeId} {x : Operand} {k : TypeId → List (List D) → Option R} {r : R} (h : cvtB E t src dst x k = some r) : ∃ e rows, k e rows = some r ∧ ∀ k' : TypeId → List (List D) → Option Q, cvtB E t src dst x k' = k' e rows := by
  unfold cvtB at h
  split at h
  case h_2 => simp at h
  rename_i i j s h1 h2 h3
  split at h
  case h_2 => simp at h
  rename_i e h4 h5
  split at h
  case h_2 => simp at h
  rename_i q h6
  split at h
  case h_2 => simp at h
  rename_i h7 h8 h9
  exact ⟨_, _, h, fun k' => by simp only [cvtB, h1, h2, h3, h4, h5, h6, h7, h8, h9]⟩

/-- The operations that make or write memory. -/
def opE {R : Type} (E : Env) (t : List V) (F : Fo) (o : Oper) (k : V → List V → Fo → Option R) : Option R :=
  match o.op with
  | .alloc ty => match look E.tys ty with
    | some i => k (.bp F.length 0) t (F ++ [some (.box (zerosV i.zero))])
    | none => none
  | .box ty x => match leafs (cellsV (val t x)) with
    | true => k (.bp F.length 0) t (F ++ [some (.box (cellsV (val t x)))])
    | false => none
  | .makeSlice ty l c => match look E.tys ty with
    | some i => match i.desc with
      | .slice e => match look E.tys e with
        | some j => match val t l, val t c with
          | .d (.lit (.int _ n)), .d (.lit (.int _ m)) => match mkOk n m j.bytes j.size with
            | true => match toDs (zerosV j.zero) with
              | some z => match Nat.beq z.length j.size, leafDs z with
                | true, true => newK E e j.size (List.replicate n.toNat z) F fun v F => k v t F
                | _, _ => none
              | none => none
            | false => none
          | _, _ => none
        | none => none
      | _ => none
    | none => none
  | .store ty x v => match look E.tys ty with
    | some i => match Nat.beq (cellsV (val t v)).length i.size with
      | true => match val t x with
        | .bp r j => match root F r with
          | some (.box cs) => match leafs (cellsV (val t v)), Nat.ble (j + i.size) cs.length with
            | true, true => k .dead t (F.set r (some (.box (cs.take j ++ cellsV (val t v) ++ cs.drop (j + i.size)))))
            | _, _ => none
          | _ => none
        | .ptr r n j => frzCells (cellsV (val t v)) t F fun ds t F => match root F r with
          | some (.arr e es rows) => match rows[n]? with
            | some row => match Nat.ble (j + i.size) row.length with
              | true => k .dead t (F.set r (some (.arr e es (rows.set n (row.take j ++ ds ++ row.drop (j + i.size))))))
              | false => none
            | none => none
          | _ => none
        | .nptr r n j => storeN i.size r n j (cellsV (val t v)) t F k
        | .np r n q c => storeNp i.size r n q c (cellsV (val t v)) t F k
        | _ => none
      | false => none
    | none => none
  | .call c => match c.callee, c.args.toList, c.argTypes.toList with
    | .builtin .append, [x, y], [tx, ty] => match look E.tys tx, look E.tys ty with
      | some i, some j => match i.desc, j.desc with
        | .slice e, .slice e' => match look E.tys e, Nat.beq tx ty with
          | some q, true => match val t x, rowsV F (val t y) with
            | .nsl r, _ => match val t y with
              | .lst _ cs => appN e q.size q.bytes r cs t F k
              | .nsl r2 => appNN e q.size q.bytes r r2 t F k
              | _ => none
            | .sl r, some news => match root F r with
              | some (.arr e2 es rows) => match Nat.beq e e2, Nat.beq es q.size, Nat.blt 0 q.bytes with
                | true, true, true => match appOk (rows.length + news.length) q.bytes with
                  | true => match allLen es news with
                    | true => forceAll (kill r t) fun t' => forceF (killF r F ++ [some (.arr e es (rows ++ news))]) fun F' => k (.sl F.length) t' F'
                    | false => none
                  | false => none
                | _, _, _ => none
              | _ => none
            | _, _ => none
          | _, _ => none
        | _, _ => none
      | _, _ => none
    | .builtin .clear, [x], [ty] => match look E.tys ty with
      | some i => match i.desc with
        | .slice e => match look E.tys e, val t x with
          | some q, .tl r n => match root F r, toDs (zerosV q.zero) with
            | some (.arr e2 es rows), some z => match Nat.beq e e2, Nat.beq z.length es, leafDs z with
              | true, true, true => k (.tup []) t (F.set r (some (.arr e2 es (rows.take n ++ List.replicate (rows.length - n) z))))
              | _, _, _ => none
            | _, _ => none
          | _, _ => none
        | _ => none
      | none => none
    | _, _, _ => none
  | .slice ty x lo hi mx => match mx with
    | some _ => none
    | none => match val t x with
      | .sl r => match memN (ty + 3000000) E.scal with
       | true => match root F r with
        | some (.arr _ _ rows) => opQ E (frz r rows t) (frzF r rows F) (.slice ty x lo hi none) fun v => k v (frz r rows t) (frzF r rows F)
        | _ => none
       | false => match root F r, look E.tys ty with
        | some (.arr e es rows), some i => match i.desc with
          | .slice e' => match look E.tys e' with
            | some q => match Nat.beq q.size es, lo, hi with
              | true, none, some h => match val t h with
                | .d (.lit (.int _ u)) => match decide (0 ≤ u), decide (u ≤ (rows.length : Int)) with
                  | true, true => forceAll (kill r t) fun t' => forceF (killF r F ++ [some (.arr e es (rows.take u.toNat))]) fun F' => k (.sl F.length) t' F'
                  | _, _ => none
                | _ => none
              | true, some l, none => match val t l with
                | .d (.lit (.int _ u)) => match decide (0 ≤ u), decide (u < (rows.length : Int)) with
                  | true, true => k (.tl r u.toNat) t F
                  | _, _ => none
                | _ => none
              | _, _, _ => none
            | none => none
          | _ => none
        | _, _ => none
      | _ => opQ E t F (.slice ty x lo hi none) fun v => k v t F
  | .makeMap ty none => match look E.tys ty with
    | some i => match i.desc with
      | .map kt _ => match look E.tys kt with
        | some ki => match ki.desc with
          | .int K => k (.mp F.length) t (F ++ [some (.mp K [])])
          | _ => none
        | none => none
      | _ => none
    | none => none
  | .mapUpdate ty x ix v => match look E.tys ty with
    | some i => match i.desc with
      | .map kt _ => match look E.tys kt with
        | some ki => match ki.desc with
          | .int K => match val t x, val t ix, val t v with
            | .mp r, .d (.lit (.int K' n)), .d y => match decide (K' = K), root F r, leafD y with
              | true, some (.mp K2 ents), true => match decide (K2 = K) with
                | true => k .dead t (F.set r (some (.mp K2 (mput ents n y))))
                | false => none
              | _, _, _ => none
            | _, _, _ => none
          | _ => none
        | none => none
      | _ => none
    | none => none
  | .buildSlice ty n ps => match look E.tys ty with
    | some i => match i.desc with
      | .slice e => match look E.tys e with
        | some j => match Nat.blt 0 j.size with
          | true => bld1 E e j.size n t F ps.toList k (frzParts j.size 0 ps.toList t F fun rows t F => match Nat.beq rows.length n, Nat.ble (n * j.size) 16777216 with
            | true, true => newK E e j.size rows F fun v F => k v t F
            | _, _ => none)
          | false => none
        | none => none
      | _ => none
    | none => none
  | .build ty ps => bldN E t F ty ps.toList fun v F => k v t F
  | .convert src dst x => cvtB E t src dst x fun e rows => newK E e 1 rows F fun v F => k v t F
  | .move (.const (.slice none 0 0)) => nilS E t F o k
  | .assign (.const (.slice none 0 0)) => nilS E t F o k
  | _ => none
where
  nilS {R : Type} (E : Env) (t : List V) (F : Fo) (o : Oper) (k : V → List V → Fo → Option R) : Option R :=
    match look E.tys o.type with
    | some i => match i.desc with
      | .slice e => match look E.tys e with
        | some j => match Nat.blt 0 j.size with
          | true => newK E e j.size [] F fun v F => k v t F
          | false => none
        | none => none
      | _ => none
    | none => none
  frzParts {R : Type} (size : Nat) : Nat → List (Nat × Operand) → List V → Fo → (List (List D) → List V → Fo → Option R) → Option R
    | _, [], t, F, k => k [] t F
    | n, (i, x) :: ps, t, F, k => match Nat.beq i n, Nat.beq (cellsV (val t x)).length size with
      | true, true => frzCells (cellsV (val t x)) t F fun ds t F => frzParts size (n + 1) ps t F fun rows t F => k (ds :: rows) t F
      | _, _ => none

end Go.Proofs.YtjnhclnnobejgaaE
