/- The engine, first part: plain data for Go's values, and what it means that a value in memory holds such data; conditions: none. -/
import Derived.Deep.Quiet
import Derived.Laws.OwnMore
import Derived.Laws.MakeOwn
import Derived.Laws.Rows
import Derived.Below
import Derived.Test.YtjnhclnnobejgaaEdr
import Derived.Laws.StructEq
namespace Go.Proofs.YtjnhclnnobejgaaE
open Go.RowKit
set_option linter.unusedVariables false

/-- Data that nobody writes any more: a value without memory, or a slice with its elements, each a row of cells. -/
inductive D where
  | lit (v : Value)
  | arr (rows : List (List D))
  deriving Inhabited

/-- A row of structs with a slice in each: element's type and size, the slice's place, its element's type and size. -/
structure NT where
  e : TypeId
  es : Nat
  c2 : Nat
  e2 : TypeId
  es2 : Nat
  deriving Inhabited

/-- What a slot of a frame holds. -/
inductive V where
  | d (x : D)
  | agg (cs : List V)
  | tup (vs : List V)
  | bp (r j : Nat)
  | ptr (r i j : Nat)
  | sl (r : Nat)
  | e0
  | mp (r : Nat)
  | rp (rows : List (List D)) (i j : Nat)
  | clo (f : FuncId) (caps : List V)
  | tl (r i : Nat)
  | nsl (r : Nat)
  | nptr (r i j : Nat)
  | ns (r i c : Nat)
  | np (r i k c : Nat)
  | nt (r i m : Nat)
  | lst (T : NT) (cs : List V)
  | dead
  deriving Inhabited

/-- A block of the frame's own; nst: a row whose first n elements hold slices of the frame's own. -/
inductive Root where
  | arr (e : TypeId) (es : Nat) (rows : List (List D))
  | box (cs : List V)
  | mp (K : IntKind) (ents : List (Int × D))
  | nst (T : NT) (n : Nat) (rows : List (List D))
  deriving Inhabited

/-- The program's type of bytes. -/
def U8 : TypeId := 5
/-- No cell of it is frozen; only rows of bytes may have a mark behind. -/
def Mk (e : TypeId) (c : Array Value) (fz : Nat × Nat) : Prop := fz = (0, 0) ∨ (c.size ≤ fz.1 ∧ e = U8)
theorem Mk.z (e : TypeId) (c : Array Value) : Mk e c (0, 0) := .inl rfl
theorem Mk.of {e : TypeId} {c c' : Array Value} {fz : Nat × Nat} (h : Mk e c fz) (hs : c'.size = c.size) : Mk e c' fz := h.elim .inl fun h => .inr (by rw [hs]; exact h)
theorem Mk.no {e : TypeId} {c : Array Value} {fz : Nat × Nat} (h : Mk e c fz) (hs : e ≠ U8) : fz = (0, 0) := h.elim id fun h => absurd h.2 hs
/-- A row of the frame's own: as the kit's, but a place behind its cells may be frozen (a string's bytes have that). -/
def ownsB (w : World) (base : Nat) (e : TypeId) (size : Nat) (v : Value) (n : Nat) (xs : List Value) : Prop :=
  xs.length = n * size ∧
  ((v = .slice none 0 0 ∧ n = 0) ∨
   ∃ g cap cur, v = .slice (some ⟨g, 0, none⟩) n cap ∧ base ≤ g ∧ (∃ fz, w.heap[g]? = some (.cells cur e fz) ∧ Mk e cur fz) ∧ n ≤ cap ∧ cap ≤ maxLen ∧ cur.size = cap * size ∧ cur.toList.take (n * size) = xs)
section
variable {w : World} {base : Nat} {e : TypeId} {size : Nat} {v : Value} {n : Nat} {xs : List Value}
theorem ownsB_of (h : w.ownsRow base e size v n xs) : ownsB w base e size v n xs := by
  refine ⟨h.1, ?_⟩
  rcases h.2 with hn | ⟨g, cap, cur, hv, hb, hg, rest⟩
  · exact .inl hn
  · exact .inr ⟨g, cap, cur, hv, hb, ⟨_, hg, .z _ _⟩, rest⟩
theorem ownsB_nil (w : World) (base : Nat) (e : TypeId) (size : Nat) : ownsB w base e size (.slice none 0 0) 0 [] := ⟨by simp, .inl ⟨rfl, rfl⟩⟩
theorem ownsB.cells (h : ownsB w base e size v n xs) {g : Nat} (hg : v.ownBlock = some g) : ∀ j u, xs[j]? = some u → w.cell? ((⟨g, 0, none⟩ : Addr).add j) = some u := by
  intro j u hu
  rcases h.2 with ⟨rfl, _⟩ | ⟨g', cap, cur, rfl, _, ⟨fz, hgg, _⟩, _, _, _, htake⟩
  · simp [Value.ownBlock] at hg
  · simp [Value.ownBlock] at hg
    subst hg
    have hadd : (⟨g', 0, none⟩ : Addr).add j = ⟨g', j, none⟩ := by unfold Addr.add; split <;> simp_all
    rw [hadd, cell_of_row w g' j cur e fz hgg]
    rw [← htake, List.getElem?_take] at hu
    split at hu
    · simpa using hu
    · cases hu
end

/-- What is known of where a root lies. -/
inductive RI where
  | arr (v : Value) (e : TypeId) (es : Nat)
  | box (g : Nat)
  | nst (v : Value) (T : NT) (n : Nat) (vs : List Value)

def RI.has : RI → Nat → Prop
  | .arr v _ _, b => v.ownBlock = some b
  | .box g, b => some g = some b
  | .nst v _ n vs, b => v.ownBlock = some b ∨ ∃ i u, i < n ∧ vs[i]? = some u ∧ u.ownBlock = some b

/-- A slice that stands for a root's: the same, or both are empty and have no room. -/
def SlOf (v u : Value) : Prop := (∃ p n c, u = .slice p n c) ∧ (u = v ∨ (v = .slice none 0 0 ∧ ∃ p, u = .slice p 0 0))
theorem SlOf.self {v : Value} (h : ∃ p n c, v = Value.slice p n c) : SlOf v v := ⟨h, .inl rfl⟩
theorem SlOf.of (p : Option Addr) (n c : Nat) : SlOf (.slice p n c) (.slice p n c) := ⟨⟨p, n, c, rfl⟩, .inl rfl⟩

/-- A value holds data; its memory lies in blocks of S. -/
inductive Rep (w : World) (S : Nat → Prop) : D → Value → Prop where
  | lit (v : Value) (h : v.oneCell' = true) : Rep w S (.lit v) v
  | empty (p : Option Addr) (cap : Nat) (hp : p = none → cap = 0) : Rep w S (.arr []) (.slice p 0 cap)
  | arr (rows : List (List D)) (b o es cap : Nat) (g : Nat → Value) (hS : S b) (hes : 0 < es) (hlen : ∀ row ∈ rows, row.length = es)
      (hmax : rows.length ≤ maxLen) (hcap : rows.length ≤ cap)
      (hcell : ∀ i, i < rows.length * es → w.cell? ⟨b, o + i, none⟩ = some (g i))
      (hrep : ∀ i x, rows.flatten[i]? = some x → Rep w S x (g i)) :
      Rep w S (.arr rows) (.slice (some ⟨b, o, none⟩) rows.length cap)

theorem cell_same {w w' : World} {a : Addr} (h : w'.heap[a.block]? = w.heap[a.block]?) : w'.cell? a = w.cell? a := World.cell?_of_block h

theorem Rep.mono {w w' : World} {S S' : Nat → Prop} {x : D} {v : Value} (h : Rep w S x v) (hw : ∀ b, S b → b < w.heap.size → w'.heap[b]? = w.heap[b]?)
    (hS : ∀ b, S b → b < w.heap.size → S' b) : Rep w' S' x v := by
  induction h with
  | lit v hv => exact .lit v hv
  | empty p cap hp => exact .empty p cap hp
  | arr rows b o es cap g hSb hes hlen hmax hcap hcell hrep ih =>
    by_cases hr : rows = []
    · subst hr; exact .empty _ _ (by simp)
    · have h0 : 0 < rows.length := List.length_pos_iff.mpr hr
      have hb : b < w.heap.size := by
        have := hcell 0 (Nat.mul_pos h0 hes)
        exact World.block_lt_of_cell? w _ this
      refine .arr rows b o es cap g (hS b hSb hb) hes hlen hmax hcap (fun i hi => ?_) ih
      rw [cell_same (hw b hSb hb)]; exact hcell i hi

theorem Rep.one {w : World} {S : Nat → Prop} {x : D} {v : Value} (h : Rep w S x v) : v.oneCell' = true := by
  cases h with
  | lit v h => exact h
  | empty p cap hp => rfl
  | arr rows b o es cap g => rfl

theorem Rep.slOf {w : World} {S : Nat → Prop} {rows : List (List D)} {v u : Value} (h : Rep w S (.arr rows) v) (hu : SlOf v u) : Rep w S (.arr rows) u := by
  obtain ⟨_, rfl | ⟨rfl, p, rfl⟩⟩ := hu
  · exact h
  · generalize hv : Value.slice none 0 0 = v at h
    cases h with
    | empty p' cap hp => exact .empty p 0 (fun _ => rfl)
    | arr rows b o es cap g => simp at hv

/-- A map's entries in memory. -/
inductive EntsR (w : World) (S : Nat → Prop) (K : IntKind) : List (Int × D) → List MapEntry → Prop where
  | nil : EntsR w S K [] []
  | cons (n : Int) (x : D) (e : MapEntry) (ents : List (Int × D)) (es : List MapEntry) (hk : e.key = .int K n) (hv : Rep w S x e.val) (h : EntsR w S K ents es) : EntsR w S K ((n, x) :: ents) (e :: es)
theorem EntsR.mono {w w' : World} {S S' : Nat → Prop} {K : IntKind} {ents : List (Int × D)} {es : List MapEntry} (h : EntsR w S K ents es) (hw : ∀ b, S b → b < w.heap.size → w'.heap[b]? = w.heap[b]?)
    (hS : ∀ b, S b → b < w.heap.size → S' b) : EntsR w' S' K ents es := by
  induction h with
  | nil => exact .nil
  | cons n x e ents es hk hv h ih => exact .cons n x e ents es hk (hv.mono hw hS) ih

/-- A row of data and a row of values. -/
def RepL (w : World) (S : Nat → Prop) (ds : List D) (vs : List Value) : Prop :=
  ds.length = vs.length ∧ ∀ (i : Nat) (x : D) (v : Value), ds[i]? = some x → vs[i]? = some v → Rep w S x v

theorem RepL.mono {w w' : World} {S S' : Nat → Prop} {ds : List D} {vs : List Value} (h : RepL w S ds vs) (hw : ∀ b, S b → b < w.heap.size → w'.heap[b]? = w.heap[b]?)
    (hS : ∀ b, S b → b < w.heap.size → S' b) : RepL w' S' ds vs := ⟨h.1, fun i x v h1 h2 => (h.2 i x v h1 h2).mono hw hS⟩

theorem RepL.nil (w : World) (S : Nat → Prop) : RepL w S [] [] := ⟨rfl, fun i x v h => by simp at h⟩

theorem RepL.append {w : World} {S : Nat → Prop} {ds es : List D} {vs us : List Value} (h : RepL w S ds vs) (k : RepL w S es us) : RepL w S (ds ++ es) (vs ++ us) := by
  refine ⟨by rw [List.length_append, List.length_append, h.1, k.1], fun i x v h1 h2 => ?_⟩
  by_cases hi : i < ds.length
  · rw [List.getElem?_append_left hi] at h1
    rw [List.getElem?_append_left (by rw [← h.1]; exact hi)] at h2
    exact h.2 i x v h1 h2
  · rw [List.getElem?_append_right (by omega)] at h1
    rw [List.getElem?_append_right (by rw [← h.1]; omega), ← h.1] at h2
    exact k.2 _ x v h1 h2

/-- The blocks that those own who wait for the frame. -/
class Bad where
  bad : Nat → Prop
variable [Bad]

/-- The blocks that a frame owns. -/
def Own (A : List (Option RI)) (b : Nat) : Prop := ∃ (r : Nat) (ri : RI), A[r]? = some (some ri) ∧ ri.has b
def Free (A : List (Option RI)) (b : Nat) : Prop := ¬ Own A b ∧ ¬ Bad.bad b

/-- A slot's value. -/
inductive RelV (w : World) (A : List (Option RI)) : V → Value → Prop where
  | d (x : D) (v : Value) (h : Rep w (Free A) x v) : RelV w A (.d x) v
  | agg (cs : List V) (vs : Array Value) (hn : cs.length = vs.size) (h : ∀ (i : Nat) (c : V) (v : Value), cs[i]? = some c → vs[i]? = some v → RelV w A c v) : RelV w A (.agg cs) (.agg vs)
  | tup (cs : List V) (vs : Array Value) (hn : cs.length = vs.size) (h : ∀ (i : Nat) (c : V) (v : Value), cs[i]? = some c → vs[i]? = some v → RelV w A c v) : RelV w A (.tup cs) (.tuple vs)
  | bp (r j g : Nat) (h : A[r]? = some (some (.box g))) : RelV w A (.bp r j) (.pointer (some ⟨g, j, none⟩))
  | ptr (r i j g n cap es : Nat) (e : TypeId) (h : A[r]? = some (some (.arr (.slice (some ⟨g, 0, none⟩) n cap) e es))) :
      RelV w A (.ptr r i j) (.pointer (some ⟨g, i * es + j, none⟩))
  | sl (r : Nat) (v : Value) (e : TypeId) (es : Nat) (h : A[r]? = some (some (.arr v e es))) (u : Value) (hv : SlOf v u) : RelV w A (.sl r) u
  | e0 (p : Option Addr) : RelV w A .e0 (.slice p 0 0)
  | mp (r g : Nat) (h : A[r]? = some (some (.box g))) : RelV w A (.mp r) (.map (some g))
  | rp (rows : List (List D)) (i j b o es cap : Nat) (h : Rep w (Free A) (.arr rows) (.slice (some ⟨b, o, none⟩) rows.length cap)) (hes : ∀ row ∈ rows, row.length = es) :
      RelV w A (.rp rows i j) (.pointer (some ⟨b, o + (i * es + j), none⟩))
  | clo (f : FuncId) (cs : List V) (vs : Array Value) (hn : cs.length = vs.size) (h : ∀ (i : Nat) (c : V) (v : Value), cs[i]? = some c → vs[i]? = some v → RelV w A c v) : RelV w A (.clo f cs) (.func (.func f) #[] vs)
  | tl (r i g n cap es : Nat) (e : TypeId) (h : A[r]? = some (some (.arr (.slice (some ⟨g, 0, none⟩) n cap) e es))) (hi : i < n) (hc : n ≤ cap) : RelV w A (.tl r i) (.slice (some ⟨g, i * es, none⟩) (n - i) (cap - i))
  | nsl (r : Nat) (v : Value) (T : NT) (n : Nat) (vs : List Value) (h : A[r]? = some (some (.nst v T n vs))) (u : Value) (hs : SlOf v u) : RelV w A (.nsl r) u
  | nptr (r i j g m cap : Nat) (T : NT) (n : Nat) (vs : List Value) (h : A[r]? = some (some (.nst (.slice (some ⟨g, 0, none⟩) m cap) T n vs))) : RelV w A (.nptr r i j) (.pointer (some ⟨g, i * T.es + j, none⟩))
  | ns (r i : Nat) (v : Value) (T : NT) (n : Nat) (vs : List Value) (u0 : Value) (h : A[r]? = some (some (.nst v T n vs))) (hi : i < n) (hu : vs[i]? = some u0) (u : Value) (hs : SlOf u0 u) : RelV w A (.ns r i T.c2) u
  | np (r i k c : Nat) (v : Value) (T : NT) (n : Nat) (vs : List Value) (g o m cap : Nat) (h : A[r]? = some (some (.nst v T n vs))) (hi : i < n) (hu : vs[i]? = some (.slice (some ⟨g, o, none⟩) m cap)) :
      RelV w A (.np r i k c) (.pointer (some ⟨g, o + (k * T.es2 + c), none⟩))
  | nt (r i m' : Nat) (v : Value) (T : NT) (n : Nat) (vs : List Value) (p : Option Addr) (m cap : Nat) (h : A[r]? = some (some (.nst v T n vs))) (hi : i < n) (hu : vs[i]? = some (.slice p m cap)) (hm : m' ≤ m) : RelV w A (.nt r i m') (.slice p m' cap)
  | lst (T : NT) (cs : List V) (vs : Array Value) (g : Nat) (hg : w.heap[g]? = some (.cells vs T.e (0, 0))) (hf : Free A g) (h1 : ∀ v ∈ vs.toList, v.oneCell' = true) (hn : cs.length = vs.size) (h : ∀ (i : Nat) (c : V) (v : Value), cs[i]? = some c → vs[i]? = some v → RelV w A c v) : RelV w A (.lst T cs) (.slice (some ⟨g, 0, none⟩) 1 1)
  | dead (v : Value) : RelV w A .dead v

/-- Cells, each with its value. -/
def RelL (w : World) (A : List (Option RI)) (cs : List V) (vs : List Value) : Prop :=
  cs.length = vs.length ∧ ∀ (i : Nat) (c : V) (v : Value), cs[i]? = some c → vs[i]? = some v → RelV w A c v

/-- A slice of the frame's own inside a row of the frame's own. -/
def NOwn (w : World) (S : Nat → Prop) (e2 : TypeId) (es2 : Nat) (rws : List (List D)) (u : Value) : Prop :=
  (∀ row ∈ rws, row.length = es2) ∧ ∃ ys, ownsB w 0 e2 es2 u rws.length ys ∧ RepL w S rws.flatten ys
/-- They lie apart. -/
def NDis (v : Value) (n : Nat) (vs : List Value) : Prop :=
  (∀ i u b, i < n → vs[i]? = some u → u.ownBlock = some b → v.ownBlock ≠ some b) ∧ ∀ i j u u' b, i < n → j < n → vs[i]? = some u → vs[j]? = some u' → u.ownBlock = some b → u'.ownBlock = some b → i = j
/-- The cells of such a row. -/
def NCells (w : World) (S : Nat → Prop) (T : NT) (n : Nat) (vs : List Value) (rows : List (List D)) (xs : List Value) : Prop :=
  ∀ i row, rows[i]? = some row → (∃ y0 u u', row[T.c2]? = some y0 ∧ vs[i]? = some u ∧ xs[i * T.es + T.c2]? = some u' ∧ ((i < n ∧ SlOf u u' ∧ ∃ rws, y0 = .arr rws ∧ NOwn w S T.e2 T.es2 rws u) ∨ (n ≤ i ∧ Rep w S y0 u'))) ∧
    ∀ j x y, j ≠ T.c2 → row[j]? = some x → xs[i * T.es + j]? = some y → Rep w S x y
structure NstRel (w : World) (S : Nat → Prop) (v : Value) (T : NT) (n : Nat) (vs : List Value) (rows : List (List D)) : Prop where
  c2 : T.c2 < T.es
  es2 : 0 < T.es2
  le : n ≤ rows.length
  vl : vs.length = rows.length
  len : ∀ row ∈ rows, row.length = T.es
  rep : ∃ xs, ownsB w 0 T.e T.es v rows.length xs ∧ NCells w S T n vs rows xs
  dis : NDis v n vs

/-- A root in memory. -/
def RootRel (w : World) (A : List (Option RI)) : RI → Root → Prop
  | .arr v e es, .arr e' es' rows => e' = e ∧ es' = es ∧ 0 < es ∧ (∀ row ∈ rows, row.length = es) ∧ ∃ xs, ownsB w 0 e es v rows.length xs ∧ RepL w (Free A) rows.flatten xs
  | .box g, .box cs => ∃ (cells : Array Value) (e : TypeId), w.heap[g]? = some (.cells cells e (0, 0)) ∧ RelL w A cs cells.toList
  | .box g, .mp K ents => ∃ (es : List MapEntry) (clock : Nat), w.heap[g]? = some (.map es.toArray clock) ∧ EntsR w (Free A) K ents es
  | .nst v T n vs, .nst T' n' rows => T' = T ∧ n' = n ∧ NstRel w (Free A) v T n vs rows
  | _, _ => False

/-- All roots. -/
structure Roots (w : World) (A : List (Option RI)) (F : List (Option Root)) : Prop where
  len : A.length = F.length
  inj : ∀ (r s : Nat) (x y : RI) (b : Nat), A[r]? = some (some x) → A[s]? = some (some y) → x.has b → y.has b → r = s
  rel : ∀ (r : Nat) (R : Root), F[r]? = some (some R) → ∃ ri, A[r]? = some (some ri) ∧ RootRel w A ri R
  gone : ∀ (r : Nat), F[r]? = some none → A[r]? = some none
  lt : ∀ (b : Nat), Own A b → b < w.heap.size
  ok : ∀ (b : Nat), Own A b → ¬ Bad.bad b
  bad : ∀ (b : Nat), Bad.bad b → b < w.heap.size

/-- A frame's slots. -/
def Slots (w : World) (A : List (Option RI)) (t : List V) (tm : Array Value) : Prop :=
  t.length = tm.size ∧ ∀ (i : Nat) (c : V) (v : Value), t[i]? = some c → tm[i]? = some v → RelV w A c v

/-- Whether draws are counted. -/
class Drw where
  strict : Prop
/-- What a step leaves alone: all blocks that the frame doesn't own. -/
structure Step [DW : Drw] (A : List (Option RI)) (w w' : World) : Prop where
  drawn : Drw.strict → w.drawn ≤ w'.drawn
  os : w'.os = w.os
  tape : w'.tape = w.tape
  output : w'.output = w.output
  size : w.heap.size ≤ w'.heap.size
  block : ∀ b, b < w.heap.size → ¬ Own A b → w'.heap[b]? = w.heap[b]?

/-- What a frame comes to own: the old, less what it has let go, and new blocks. -/
structure Grows (A A' : List (Option RI)) (w : World) : Prop where
  len : A.length ≤ A'.length
  old : ∀ (r : Nat) (x : RI), A[r]? = some (some x) → A'[r]? = some (some x) ∨ A'[r]? = some none
  own : ∀ b, Own A' b → Own A b ∨ w.heap.size ≤ b

omit [Bad] in
theorem Step.refl [DW : Drw] (A : List (Option RI)) (w : World) : Step A w w := ⟨fun _ => Nat.le_refl _, rfl, rfl, rfl, Nat.le_refl _, fun _ _ _ => rfl⟩

/-! ### A world that has grown, nothing of the old having turned -/

/-- Below block B the world is as it was, and no draw is taken back. -/
structure Below [DW : Drw] (B : Nat) (w w' : World) : Prop where
  drawn : Drw.strict → w.drawn ≤ w'.drawn
  os : w'.os = w.os
  tape : w'.tape = w.tape
  output : w'.output = w.output
  size : w.heap.size ≤ w'.heap.size
  block : ∀ k, k < B → w'.heap[k]? = w.heap[k]?
omit [Bad] in
theorem Below.refl [DW : Drw] (B : Nat) (w : World) : Below B w w := ⟨fun _ => Nat.le_refl _, rfl, rfl, rfl, Nat.le_refl _, fun _ _ => rfl⟩
omit [Bad] in
theorem Below.trans [DW : Drw] {B : Nat} {a b c : World} (h : Below B a b) (k : Below B b c) : Below B a c :=
  ⟨fun s => Nat.le_trans (h.drawn s) (k.drawn s), k.os.trans h.os, k.tape.trans h.tape, k.output.trans h.output, Nat.le_trans h.size k.size, fun i hi => (k.block i hi).trans (h.block i hi)⟩
omit [Bad] in
theorem Below.up [DW : Drw] {B : Nat} {w w' : World} (h : Below B w w') : Go.RowKit.Below B w w' := ⟨h.os, h.tape, h.output, h.size, h.block⟩
omit [Bad] in
theorem Below.cell [DW : Drw] {B : Nat} {w w' : World} (h : Below B w w') {p : Addr} (hp : p.block < B) : w'.cell? p = w.cell? p := h.up.cell hp
omit [Bad] in
theorem Below.frozen [DW : Drw] {B : Nat} {w w' : World} (h : Below B w w') {p : Addr} (hp : p.block < B) : w'.frozen? p = w.frozen? p := h.up.frozen hp
omit [Bad] in
theorem Below.of' [DW : Drw] {B : Nat} {w w' : World} (h : Go.RowKit.Below B w w') (hd : Drw.strict → w.drawn ≤ w'.drawn) : Below B w w' := ⟨hd, h.os, h.tape, h.output, h.size, h.block⟩

theorem RelV.mono {w w' : World} {A A' : List (Option RI)} {c : V} {v : Value} (h : RelV w A c v) (hw : ∀ b, Free A b → b < w.heap.size → w'.heap[b]? = w.heap[b]?)
    (hS : ∀ b, Free A b → b < w.heap.size → Free A' b) (hA : ∀ (r : Nat) (x : RI), A[r]? = some (some x) → A'[r]? = some (some x)) : RelV w' A' c v := by
  induction h with
  | d x v h => exact .d x v (h.mono hw hS)
  | agg cs vs hn h ih => exact .agg cs vs hn ih
  | tup cs vs hn h ih => exact .tup cs vs hn ih
  | bp r j g h => exact .bp r j g (hA _ _ h)
  | ptr r i j g n cap es e h => exact .ptr r i j g n cap es e (hA _ _ h)
  | sl r v e es h u hv => exact .sl r v e es (hA _ _ h) u hv
  | e0 p => exact .e0 p
  | mp r g h => exact .mp r g (hA _ _ h)
  | rp rows i j b o es cap h hes => exact .rp rows i j b o es cap (h.mono hw hS) hes
  | clo f cs vs hn h ih => exact .clo f cs vs hn ih
  | tl r i g n cap es e h hi hc => exact .tl r i g n cap es e (hA _ _ h) hi hc
  | nsl r v T n vs h u hs => exact .nsl r v T n vs (hA _ _ h) u hs
  | nptr r i j g m cap T n vs h => exact .nptr r i j g m cap T n vs (hA _ _ h)
  | ns r i v T n vs u0 h hi hu u hs => exact .ns r i v T n vs u0 (hA _ _ h) hi hu u hs
  | np r i k c v T n vs g o m cap h hi hu => exact .np r i k c v T n vs g o m cap (hA _ _ h) hi hu
  | nt r i m' v T n vs p m cap h hi hu hm => exact .nt r i m' v T n vs p m cap (hA _ _ h) hi hu hm
  | lst T cs vs g hg hf h1 hn h ih => exact .lst T cs vs g (by rw [hw g hf (Array.getElem?_eq_some_iff.mp hg).1]; exact hg) (hS g hf (Array.getElem?_eq_some_iff.mp hg).1) h1 hn ih
  | dead v => exact .dead v

end Go.Proofs.YtjnhclnnobejgaaE
