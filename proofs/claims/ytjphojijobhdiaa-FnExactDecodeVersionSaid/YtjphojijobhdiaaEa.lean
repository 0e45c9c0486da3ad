/- The engine, first part: plain data for Go's values, and what it means that a value in memory holds such data; conditions: none. -/
import Derived.Deep.Quiet
import Derived.Laws.OwnMore
import Derived.Laws.MakeOwn
import Derived.Laws.Rows
import Derived.Below
import Derived.Laws.StructEq
namespace Go.Proofs.YtjphojijobhdiaaE
open Go.RowKit
set_option linter.unusedVariables false

/-- Data that nobody writes any more: a value without memory, or a slice with its elements, each a row of cells. -/
inductive D where
  | lit (v : Value)
  | arr (rows : List (List D))
  deriving Inhabited

/-- What a slot of a frame holds. -/
inductive V where
  | d (x : D)
  | agg (cs : List V)
  | tup (vs : List V)
  | bp (r j : Nat)
  | ptr (r i j : Nat)
  | sl (r : Nat)
  | e0
  | mp (r : Nat)
  | rp (rows : List (List D)) (i j : Nat)
  | clo (f : FuncId) (caps : List V)
  | tl (r i : Nat)
  | dead
  deriving Inhabited

/-- A block of the frame's own. -/
inductive Root where
  | arr (e : TypeId) (es : Nat) (rows : List (List D))
  | box (cs : List V)
  | mp (K : IntKind) (ents : List (Int × D))
  deriving Inhabited

/-- What is known of where a root lies. -/
inductive RI where
  | arr (v : Value) (e : TypeId) (es : Nat)
  | box (g : Nat)

def RI.blk : RI → Option Nat
  | .arr v _ _ => v.ownBlock
  | .box g => some g

/-- A slice that stands for a root's: the same, or both are empty and have no room. -/
def SlOf (v u : Value) : Prop := (∃ p n c, u = .slice p n c) ∧ (u = v ∨ (v = .slice none 0 0 ∧ ∃ p, u = .slice p 0 0))
theorem SlOf.self {v : Value} (h : ∃ p n c, v = Value.slice p n c) : SlOf v v := ⟨h, .inl rfl⟩
theorem SlOf.of (p : Option Addr) (n c : Nat) : SlOf (.slice p n c) (.slice p n c) := ⟨⟨p, n, c, rfl⟩, .inl rfl⟩

/-- A value holds data; its memory lies in blocks of S. -/
inductive Rep (w : World) (S : Nat → Prop) : D → Value → Prop where
  | lit (v : Value) (h : v.oneCell' = true) : Rep w S (.lit v) v
  | empty (p : Option Addr) (cap : Nat) (hp : p = none → cap = 0) : Rep w S (.arr []) (.slice p 0 cap)
  | arr (rows : List (List D)) (b o es cap : Nat) (g : Nat → Value) (hS : S b) (hes : 0 < es) (hlen : ∀ row ∈ rows, row.length = es)
      (hmax : rows.length ≤ maxLen) (hcap : rows.length ≤ cap)
      (hcell : ∀ i, i < rows.length * es → w.cell? ⟨b, o + i, none⟩ = some (g i))
      (hrep : ∀ i x, rows.flatten[i]? = some x → Rep w S x (g i)) :
      Rep w S (.arr rows) (.slice (some ⟨b, o, none⟩) rows.length cap)

theorem cell_same {w w' : World} {a : Addr} (h : w'.heap[a.block]? = w.heap[a.block]?) : w'.cell? a = w.cell? a := World.cell?_of_block h

theorem Rep.mono {w w' : World} {S S' : Nat → Prop} {x : D} {v : Value} (h : Rep w S x v) (hw : ∀ b, S b → b < w.heap.size → w'.heap[b]? = w.heap[b]?)
    (hS : ∀ b, S b → b < w.heap.size → S' b) : Rep w' S' x v := by
  induction h with
  | lit v hv => exact .lit v hv
  | empty p cap hp => exact .empty p cap hp
  | arr rows b o es cap g hSb hes hlen hmax hcap hcell hrep ih =>
    by_cases hr : rows = []
    · subst hr; exact .empty _ _ (by simp)
    · have h0 : 0 < rows.length := List.length_pos_iff.mpr hr
      have hb : b < w.heap.size := by
        have := hcell 0 (Nat.mul_pos h0 hes)
        exact World.block_lt_of_cell? w _ this
      refine .arr rows b o es cap g (hS b hSb hb) hes hlen hmax hcap (fun i hi => ?_) ih
      rw [cell_same (hw b hSb hb)]; exact hcell i hi

theorem Rep.one {w : World} {S : Nat → Prop} {x : D} {v : Value} (h : Rep w S x v) : v.oneCell' = true := by
  cases h with
  | lit v h => exact h
  | empty p cap hp => rfl
  | arr rows b o es cap g => rfl

theorem Rep.slOf {w : World} {S : Nat → Prop} {rows : List (List D)} {v u : Value} (h : Rep w S (.arr rows) v) (hu : SlOf v u) : Rep w S (.arr rows) u := by
  obtain ⟨_, rfl | ⟨rfl, p, rfl⟩⟩ := hu
  · exact h
  · generalize hv : Value.slice none 0 0 = v at h
    cases h with
    | empty p' cap hp => exact .empty p 0 (fun _ => rfl)
    | arr rows b o es cap g => simp at hv

/-- A map's entries in memory. -/
inductive EntsR (w : World) (S : Nat → Prop) (K : IntKind) : List (Int × D) → List MapEntry → Prop where
  | nil : EntsR w S K [] []
  | cons (n : Int) (x : D) (e : MapEntry) (ents : List (Int × D)) (es : List MapEntry) (hk : e.key = .int K n) (hv : Rep w S x e.val) (h : EntsR w S K ents es) : EntsR w S K ((n, x) :: ents) (e :: es)
theorem EntsR.mono {w w' : World} {S S' : Nat → Prop} {K : IntKind} {ents : List (Int × D)} {es : List MapEntry} (h : EntsR w S K ents es) (hw : ∀ b, S b → b < w.heap.size → w'.heap[b]? = w.heap[b]?)
    (hS : ∀ b, S b → b < w.heap.size → S' b) : EntsR w' S' K ents es := by
  induction h with
  | nil => exact .nil
  | cons n x e ents es hk hv h ih => exact .cons n x e ents es hk (hv.mono hw hS) ih

/-- A row of data and a row of values. -/
def RepL (w : World) (S : Nat → Prop) (ds : List D) (vs : List Value) : Prop :=
  ds.length = vs.length ∧ ∀ (i : Nat) (x : D) (v : Value), ds[i]? = some x → vs[i]? = some v → Rep w S x v

theorem RepL.mono {w w' : World} {S S' : Nat → Prop} {ds : List D} {vs : List Value} (h : RepL w S ds vs) (hw : ∀ b, S b → b < w.heap.size → w'.heap[b]? = w.heap[b]?)
    (hS : ∀ b, S b → b < w.heap.size → S' b) : RepL w' S' ds vs := ⟨h.1, fun i x v h1 h2 => (h.2 i x v h1 h2).mono hw hS⟩

theorem RepL.nil (w : World) (S : Nat → Prop) : RepL w S [] [] := ⟨rfl, fun i x v h => by simp at h⟩

theorem RepL.append {w : World} {S : Nat → Prop} {ds es : List D} {vs us : List Value} (h : RepL w S ds vs) (k : RepL w S es us) : RepL w S (ds ++ es) (vs ++ us) := by
  refine ⟨by rw [List.length_append, List.length_append, h.1, k.1], fun i x v h1 h2 => ?_⟩
  by_cases hi : i < ds.length
  · rw [List.getElem?_append_left hi] at h1
    rw [List.getElem?_append_left (by rw [← h.1]; exact hi)] at h2
    exact h.2 i x v h1 h2
  · rw [List.getElem?_append_right (by omega)] at h1
    rw [List.getElem?_append_right (by rw [← h.1]; omega), ← h.1] at h2
    exact k.2 _ x v h1 h2

/-- The blocks that those own who wait for the frame. -/
class Bad where
  bad : Nat → Prop
variable [Bad]

/-- The blocks that a frame owns. -/
def Own (A : List (Option RI)) (b : Nat) : Prop := ∃ (r : Nat) (ri : RI), A[r]? = some (some ri) ∧ ri.blk = some b
def Free (A : List (Option RI)) (b : Nat) : Prop := ¬ Own A b ∧ ¬ Bad.bad b

/-- A slot's value. -/
inductive RelV (w : World) (A : List (Option RI)) : V → Value → Prop where
  | d (x : D) (v : Value) (h : Rep w (Free A) x v) : RelV w A (.d x) v
  | agg (cs : List V) (vs : Array Value) (hn : cs.length = vs.size) (h : ∀ (i : Nat) (c : V) (v : Value), cs[i]? = some c → vs[i]? = some v → RelV w A c v) : RelV w A (.agg cs) (.agg vs)
  | tup (cs : List V) (vs : Array Value) (hn : cs.length = vs.size) (h : ∀ (i : Nat) (c : V) (v : Value), cs[i]? = some c → vs[i]? = some v → RelV w A c v) : RelV w A (.tup cs) (.tuple vs)
  | bp (r j g : Nat) (h : A[r]? = some (some (.box g))) : RelV w A (.bp r j) (.pointer (some ⟨g, j, none⟩))
  | ptr (r i j g n cap es : Nat) (e : TypeId) (h : A[r]? = some (some (.arr (.slice (some ⟨g, 0, none⟩) n cap) e es))) :
      RelV w A (.ptr r i j) (.pointer (some ⟨g, i * es + j, none⟩))
  | sl (r : Nat) (v : Value) (e : TypeId) (es : Nat) (h : A[r]? = some (some (.arr v e es))) (u : Value) (hv : SlOf v u) : RelV w A (.sl r) u
  | e0 (p : Option Addr) : RelV w A .e0 (.slice p 0 0)
  | mp (r g : Nat) (h : A[r]? = some (some (.box g))) : RelV w A (.mp r) (.map (some g))
  | rp (rows : List (List D)) (i j b o es cap : Nat) (h : Rep w (Free A) (.arr rows) (.slice (some ⟨b, o, none⟩) rows.length cap)) (hes : ∀ row ∈ rows, row.length = es) :
      RelV w A (.rp rows i j) (.pointer (some ⟨b, o + (i * es + j), none⟩))
  | clo (f : FuncId) (cs : List V) (vs : Array Value) (hn : cs.length = vs.size) (h : ∀ (i : Nat) (c : V) (v : Value), cs[i]? = some c → vs[i]? = some v → RelV w A c v) : RelV w A (.clo f cs) (.func (.func f) #[] vs)
  | tl (r i g n cap es : Nat) (e : TypeId) (h : A[r]? = some (some (.arr (.slice (some ⟨g, 0, none⟩) n cap) e es))) (hi : i < n) (hc : n ≤ cap) : RelV w A (.tl r i) (.slice (some ⟨g, i * es, none⟩) (n - i) (cap - i))
  | dead (v : Value) : RelV w A .dead v

/-- Cells, each with its value. -/
def RelL (w : World) (A : List (Option RI)) (cs : List V) (vs : List Value) : Prop :=
  cs.length = vs.length ∧ ∀ (i : Nat) (c : V) (v : Value), cs[i]? = some c → vs[i]? = some v → RelV w A c v

/-- A root in memory. -/
def RootRel (w : World) (A : List (Option RI)) : RI → Root → Prop
  | .arr v e es, .arr e' es' rows => e' = e ∧ es' = es ∧ 0 < es ∧ (∀ row ∈ rows, row.length = es) ∧ ∃ xs, w.ownsRow 0 e es v rows.length xs ∧ RepL w (Free A) rows.flatten xs
  | .box g, .box cs => ∃ (cells : Array Value) (e : TypeId), w.heap[g]? = some (.cells cells e (0, 0)) ∧ RelL w A cs cells.toList
  | .box g, .mp K ents => ∃ (es : List MapEntry) (clock : Nat), w.heap[g]? = some (.map es.toArray clock) ∧ EntsR w (Free A) K ents es
  | _, _ => False

/-- All roots. -/
structure Roots (w : World) (A : List (Option RI)) (F : List (Option Root)) : Prop where
  len : A.length = F.length
  inj : ∀ (r s : Nat) (x y : RI) (b : Nat), A[r]? = some (some x) → A[s]? = some (some y) → x.blk = some b → y.blk = some b → r = s
  rel : ∀ (r : Nat) (R : Root), F[r]? = some (some R) → ∃ ri, A[r]? = some (some ri) ∧ RootRel w A ri R
  gone : ∀ (r : Nat), F[r]? = some none → A[r]? = some none
  lt : ∀ (b : Nat), Own A b → b < w.heap.size
  ok : ∀ (b : Nat), Own A b → ¬ Bad.bad b
  bad : ∀ (b : Nat), Bad.bad b → b < w.heap.size

/-- A frame's slots. -/
def Slots (w : World) (A : List (Option RI)) (t : List V) (tm : Array Value) : Prop :=
  t.length = tm.size ∧ ∀ (i : Nat) (c : V) (v : Value), t[i]? = some c → tm[i]? = some v → RelV w A c v

/-- What a step leaves alone: all blocks that the frame doesn't own. -/
structure Step (A : List (Option RI)) (w w' : World) : Prop where
  os : w'.os = w.os
  tape : w'.tape = w.tape
  output : w'.output = w.output
  size : w.heap.size ≤ w'.heap.size
  block : ∀ b, b < w.heap.size → ¬ Own A b → w'.heap[b]? = w.heap[b]?

/-- What a frame comes to own: the old, less what it has let go, and new blocks. -/
structure Grows (A A' : List (Option RI)) (w : World) : Prop where
  len : A.length ≤ A'.length
  old : ∀ (r : Nat) (x : RI), A[r]? = some (some x) → A'[r]? = some (some x) ∨ A'[r]? = some none
  own : ∀ b, Own A' b → Own A b ∨ w.heap.size ≤ b

omit [Bad] in
theorem Step.refl (A : List (Option RI)) (w : World) : Step A w w := ⟨rfl, rfl, rfl, Nat.le_refl _, fun _ _ _ => rfl⟩

/-! ### A world that has grown, nothing of the old having turned -/

/-- The world has more blocks, or has drawn; what was there is as it was. -/
def Ext (w w' : World) : Prop := Below w.heap.size w w'

theorem RelV.mono {w w' : World} {A A' : List (Option RI)} {c : V} {v : Value} (h : RelV w A c v) (hw : ∀ b, Free A b → b < w.heap.size → w'.heap[b]? = w.heap[b]?)
    (hS : ∀ b, Free A b → b < w.heap.size → Free A' b) (hA : ∀ (r : Nat) (x : RI), A[r]? = some (some x) → A'[r]? = some (some x)) : RelV w' A' c v := by
  induction h with
  | d x v h => exact .d x v (h.mono hw hS)
  | agg cs vs hn h ih => exact .agg cs vs hn ih
  | tup cs vs hn h ih => exact .tup cs vs hn ih
  | bp r j g h => exact .bp r j g (hA _ _ h)
  | ptr r i j g n cap es e h => exact .ptr r i j g n cap es e (hA _ _ h)
  | sl r v e es h u hv => exact .sl r v e es (hA _ _ h) u hv
  | e0 p => exact .e0 p
  | mp r g h => exact .mp r g (hA _ _ h)
  | rp rows i j b o es cap h hes => exact .rp rows i j b o es cap (h.mono hw hS) hes
  | clo f cs vs hn h ih => exact .clo f cs vs hn ih
  | tl r i g n cap es e h hi hc => exact .tl r i g n cap es e (hA _ _ h) hi hc
  | dead v => exact .dead v

end Go.Proofs.YtjphojijobhdiaaE
