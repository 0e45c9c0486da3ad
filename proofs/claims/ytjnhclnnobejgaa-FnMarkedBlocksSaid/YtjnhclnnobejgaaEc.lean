/- The engine, third part: the operations that leave memory alone do on the machine what the interpreter says; conditions: the tables are the program's own. -/
import Derived.Test.YtjnhclnnobejgaaEb
import Derived.Laws.Cells
import Derived.Laws.Entries
namespace Go.Proofs.YtjnhclnnobejgaaE
open Go.RowKit
set_option linter.unusedVariables false
set_option linter.unusedSimpArgs false
variable [DW : Drw]

/-- What a call comes to. -/
def CallPost (B : Bad) (A : List (Option RI)) (w : World) (v : V) (F1 : Fo) (e : Ending) (w' : World) : Prop :=
  ∃ u A', e = .returned u ∧ @Roots B w' A' F1 ∧ @RelV B w' A' v u ∧ Step A w w' ∧ Grows A A' w ∧ (∀ (r : Nat), A[r]? = some none → A'[r]? = some none)

/-- A function's contract is what g says. -/
def ExtOK (P : Program) (f : FuncId) (g : List V → Fo → Option (V × Fo)) : Prop := (∃ fu, P.funcs[f]? = some fu ∧ fu.body.isNone = false ∧ (fu.name == "runtime.NumGoroutine") = false) ∧
  ∀ args F v F1, g args F = some (v, F1) → ∀ (B : Bad) (w : World) (A : List (Option RI)) (vals : Array Value), @Roots B w A F → args.length = vals.size → (∀ (i : Nat) (c : V) (u : Value), args[i]? = some c → vals[i]? = some u → @RelV B w A c u) →
    Calls P f vals w (CallPost B A w v F1)

variable [Bad]
/-- The tables are the program's own. -/
structure EnvOK (E : Env) (P : Program) : Prop where
  ty : ∀ t i, look E.tys t = some i → ∃ ti, P.info? t = some ti ∧ P.underlying t = some i.desc ∧ ti.size = i.size ∧ ti.bytes = i.bytes ∧ ti.zero = some i.zero
  fn : ∀ f fu, look E.fns f = some fu → P.funcs[f]? = some fu ∧ (fu.name == "runtime.NumGoroutine") = false ∧ drawsF E.scal E.pur fu = true
  mixed : P.follows .mixedOrders = true
  zero : ∀ t i, look E.tys t = some i → i.zero.cells.size = i.size
  ext : ∀ f g, look E.ext f = some g → ExtOK P f g
  eqs : ∀ t l, look E.eqs t = some l → P.stoodInHeld t = false ∧ P.eqGuardType P.depth t = false ∧ (∃ fs, P.underlying t = some (.struct fs) ∧ eqFits P fs.toList l = true)

omit [Bad] in
omit DW in
theorem add_at (b o n : Nat) : (⟨b, o, none⟩ : Addr).add n = ⟨b, o + n, none⟩ := by unfold Addr.add; split <;> simp_all

omit [Bad] in
omit DW in
theorem mapO_eq {α β : Type} (f : α → β) : ∀ l, mapO f l = l.map f
  | [] => rfl
  | a :: l => by rw [mapO, mapO_eq f l]; rfl

omit DW in
theorem nth_rel {w : World} {A : List (Option RI)} : ∀ (t : List V) (tm : List Value) (n : Nat), t.length ≤ n →
    (∀ (i : Nat) (c : V) (v : Value), t[i]? = some c → tm[i]? = some v → RelV w A c v) → t.length = tm.length → ∀ i, RelV w A (nth t i) (tm.getD i undef)
  | [], tm, n, _, _, _, i => .dead _
  | c :: t, [], n, _, _, hl, i => by simp at hl
  | c :: t, v :: tm, n, hn, h, hl, 0 => by simpa [nth] using h 0 c v rfl rfl
  | c :: t, v :: tm, n, hn, h, hl, i + 1 => by
    have := nth_rel t tm t.length (Nat.le_refl _) (fun j c' v' h1 h2 => h (j + 1) c' v' (by simpa using h1) (by simpa using h2)) (by simpa using hl) i
    simpa [nth] using this

omit DW in
theorem val_rel {w : World} {A : List (Option RI)} {t : List V} {a : Act} (h : Slots w A t a.tmps) (x : Operand) : RelV w A (val t x) (a.eval x) := by
  cases x with
  | tmp i =>
    have := nth_rel t a.tmps.toList t.length (Nat.le_refl _) (fun j c v h1 h2 => h.2 j c v h1 (by simpa using h2)) (by simpa using h.1) i
    simpa [val, Act.eval, Array.getD_eq_getD_getElem?, List.getD_eq_getElem?_getD] using this
  | const v =>
    have hz : ∀ v : Value, RelV w A (zeroV v) v := by
      intro v
      unfold zeroV
      split
      · exact .d _ _ (.empty _ _ (fun _ => rfl))
      · split
        · rename_i h1; exact .d _ _ (.lit _ h1)
        · exact .dead _
    cases v with
    | agg cs =>
      refine .agg _ cs (by simp [mapO_eq]) (fun i c v h1 h2 => ?_)
      rw [mapO_eq, List.getElem?_map, Option.map_eq_some_iff] at h1
      obtain ⟨x, hx, rfl⟩ := h1
      have : x = v := by rw [Array.getElem?_toList, h2] at hx; exact (Option.some.inj hx).symm
      subst this
      exact hz x
    | bool b => exact hz (.bool b)
    | int k n => exact hz (.int k n)
    | float k n => exact hz (.float k n)
    | complex k x y => exact hz (.complex k x y)
    | string s => exact hz (.string s)
    | pointer p => exact hz (.pointer p)
    | slice p l c => exact hz (.slice p l c)
    | map r => exact hz (.map r)
    | chan r => exact hz (.chan r)
    | func f x y => exact hz (.func f x y)
    | nilFunc => exact hz .nilFunc
    | iface ty v => exact hz (.iface ty v)
    | nilIface => exact hz .nilIface
    | tuple vs => exact hz (.tuple vs)
  | func f => exact .clo f [] #[] rfl (fun i c v h => by simp at h)
  | global g => exact .dead _

omit [Bad] in
omit DW in
theorem runPure_run {α : Type} {s : Sem α} {a : α} (h : runPure s = some a) (P : Program) (w : World) : s.run P w = .ok a w := by
  cases s <;> simp [runPure] at h
  subst h; rfl

omit [Bad] in
omit DW in
theorem Rep.lit_inv {w : World} {S : Nat → Prop} {u v : Value} (h : Rep w S (.lit u) v) : v = u := by cases h; rfl
omit DW in
theorem RelV.lit_inv {w : World} {A : List (Option RI)} {u v : Value} (h : RelV w A (.d (.lit u)) v) : v = u := by
  cases h with
  | d x v h => exact h.lit_inv

omit DW in
theorem relV_lit (w : World) (A : List (Option RI)) (u : Value) (h : u.oneCell' = true) : RelV w A (.d (.lit u)) u := .d _ _ (.lit _ h)

/-- The operation yields this value, in every world that is an extension. -/
def Yields (P : Program) (w : World) (a : Act) (op : Op) (v : Value) : Prop :=
  ∀ (w' : World) (o : Oper), Below w.heap.size w w' → o.op = op → (execOp a.eval o).run P w' = .ok (.value v) w'

omit DW in
theorem RelL.take {w : World} {A : List (Option RI)} {cs : List V} {vs : List Value} (h : RelL w A cs vs) (n : Nat) : RelL w A (cs.take n) (vs.take n) := by
  refine ⟨by simp [h.1], fun i c v h1 h2 => ?_⟩
  rw [List.getElem?_take] at h1 h2
  split at h1
  · rename_i hi; rw [if_pos hi] at h2; exact h.2 i c v h1 h2
  · simp at h1
omit DW in
theorem RelL.drop {w : World} {A : List (Option RI)} {cs : List V} {vs : List Value} (h : RelL w A cs vs) (n : Nat) : RelL w A (cs.drop n) (vs.drop n) := by
  refine ⟨by simp [h.1], fun i c v h1 h2 => ?_⟩
  rw [List.getElem?_drop] at h1 h2
  exact h.2 _ c v h1 h2

/-- A value put together out of its cells. -/
def packV (d : TypeDesc) (vs : List Value) : Value := match isAggD d with
  | true => .agg vs.toArray
  | false => vs.getD 0 undef

omit DW in
theorem shapeV_rel {E : Env} {w : World} {A : List (Option RI)} {t : TypeId} {i : TI} {cs : List V} {vs : List Value} {v : V} (hi : look E.tys t = some i) (h : RelL w A cs vs)
    (hs : shapeV E t cs = some v) : RelV w A v (packV i.desc vs) ∧ (isAggD i.desc = true → vs.length = i.size) ∧ (isAggD i.desc = false → ∃ u, vs = [u]) := by
  unfold shapeV at hs
  rw [hi] at hs
  unfold packV
  cases ha : isAggD i.desc with
  | true =>
    simp only [ha] at hs ⊢
    split at hs
    · rename_i hl
      have hl' : cs.length = i.size := Nat.eq_of_beq_eq_true hl
      injection hs with hs
      subst hs
      refine ⟨.agg _ _ (by simpa using h.1) (fun j c u h1 h2 => h.2 j c u h1 (by simpa using h2)), fun _ => by rw [← h.1, hl'], fun h => by simp at h⟩
    · simp at hs
  | false =>
    simp only [ha] at hs ⊢
    split at hs
    · rename_i c
      have hl : vs.length = 1 := by rw [← h.1]; rfl
      obtain ⟨u, rfl⟩ : ∃ u, vs = [u] := by
        match vs, hl with
        | [u], _ => exact ⟨u, rfl⟩
      have hc := h.2 0 c u rfl rfl
      refine ⟨?_, fun h => by simp at h, fun _ => ⟨u, rfl⟩⟩
      split at hs
      · simp at hs
      · simp at hs
      · injection hs with hs
        subst hs; simpa using hc
    · simp at hs

omit [Bad] in
omit DW in
theorem root_get {F : Fo} : ∀ {r : Nat} {R : Root}, root F r = some R → F[r]? = some (some R) := by
  induction F with
  | nil => intro r R h; simp [root] at h
  | cons x F ih =>
    intro r R h
    cases r with
    | zero => simpa [root] using h
    | succ r => simpa using ih (by simpa [root] using h)

omit [Bad] in
omit DW in
theorem flat_get {α : Type} {es : Nat} : ∀ (rows : List (List α)), (∀ row ∈ rows, row.length = es) → ∀ (i l : Nat) (row : List α), rows[i]? = some row → l < es →
    rows.flatten[i * es + l]? = row[l]? := by
  intro rows
  induction rows with
  | nil => intro _ i l row h; simp at h
  | cons r rows ih =>
    intro hl i l row h hle
    have hr : r.length = es := hl r (by simp)
    cases i with
    | zero =>
      have : r = row := by simpa using h
      subst this
      simp only [Nat.zero_mul, Nat.zero_add, List.flatten_cons]
      rw [List.getElem?_append_left (by omega)]
    | succ i =>
      have h' : rows[i]? = some row := by simpa using h
      rw [List.flatten_cons, List.getElem?_append_right (by rw [hr, Nat.succ_mul]; omega)]
      have e : (i + 1) * es + l - r.length = i * es + l := by rw [hr, Nat.succ_mul]; omega
      rw [e]
      exact ih (fun x hx => hl x (by simp [hx])) i l row h' hle

omit [Bad] in
omit DW in
theorem flat_len {α : Type} {es : Nat} : ∀ (rows : List (List α)), (∀ row ∈ rows, row.length = es) → rows.flatten.length = rows.length * es := by
  intro rows
  induction rows with
  | nil => intro _; simp
  | cons r rows ih =>
    intro hl
    rw [List.flatten_cons, List.length_append, ih (fun x hx => hl x (by simp [hx])), hl r (by simp), List.length_cons, Nat.succ_mul]; omega

omit DW in
/-- A piece of a row of data with its values, as cells. -/
theorem relL_row {w : World} {A : List (Option RI)} {ds : List D} {vs : List Value} (h : RepL w (Free A) ds vs) : RelL w A (mapO V.d ds) vs := by
  rw [mapO_eq]
  refine ⟨by simpa using h.1, fun i c v h1 h2 => ?_⟩
  simp only [List.getElem?_map, Option.map_eq_some_iff] at h1
  obtain ⟨x, hx, rfl⟩ := h1
  exact .d _ _ (h.2 i x v hx h2)

omit [Bad] in
omit DW in
theorem repL_piece {w : World} {S : Nat → Prop} {es : Nat} {rows : List (List D)} (hl : ∀ row ∈ rows, row.length = es) {xs : List Value} (h : RepL w S rows.flatten xs)
    {i : Nat} {row : List D} (hi : rows[i]? = some row) (j : Nat) : RepL w S (row.drop j) ((xs.drop (i * es + j)).take (es - j)) := by
  have hr : row.length = es := hl row (List.mem_of_getElem? hi)
  have hlt : i < rows.length := (List.getElem?_eq_some_iff.mp hi).1
  have hx : xs.length = rows.length * es := by rw [← h.1, flat_len rows hl]
  have hm : (i + 1) * es ≤ rows.length * es := Nat.mul_le_mul_right _ hlt
  rw [Nat.succ_mul] at hm
  refine ⟨by simp only [List.length_drop, List.length_take, hr, hx]; omega, fun l x v h1 h2 => ?_⟩
  rw [List.getElem?_drop] at h1
  have hle : j + l < es := by
    have := (List.getElem?_eq_some_iff.mp h1).1; omega
  rw [List.getElem?_take, if_pos (by omega), List.getElem?_drop] at h2
  refine h.2 (i * es + (j + l)) x v ?_ (by rw [← h2]; congr 1; omega)
  rw [flat_get rows hl i (j + l) row hi hle]; exact h1

omit DW in
/-- The cells behind a pointer. -/
theorem behind_rel {w : World} {A : List (Option RI)} {F : Fo} (hR : Roots w A F) {p : V} {pv : Value} (h : RelV w A p pv) {sz : Nat} {cs : List V} (hb : behind F sz p = some cs) :
    ∃ (b o : Nat) (vs : List Value), pv = .pointer (some ⟨b, o, none⟩) ∧ RelL w A cs vs ∧ ∀ j v, vs[j]? = some v → w.cell? ⟨b, o + j, none⟩ = some v := by
  cases h with
  | bp r j g hA =>
    simp only [behind] at hb
    split at hb
    · rename_i cs0 hr
      injection hb with hb
      subst hb
      obtain ⟨ri, h1, h2⟩ := hR.rel r _ (root_get hr)
      rw [hA] at h1
      injection h1 with h1; injection h1 with h1
      subst h1
      obtain ⟨cells, e, hh, hc⟩ := h2
      refine ⟨g, j, cells.toList.drop j, rfl, hc.drop j, fun l v hl => ?_⟩
      rw [List.getElem?_drop] at hl
      simp only [World.cell?, hh]
      simpa using hl
    · simp at hb
  | ptr r i j g n cap es e hA =>
    simp only [behind] at hb
    split at hb
    · rename_i e1 es1 rows hr
      split at hb
      · rename_i row hrow
        injection hb with hb
        subst hb
        obtain ⟨ri, h1, h2⟩ := hR.rel r _ (root_get hr)
        rw [hA] at h1
        injection h1 with h1; injection h1 with h1
        subst h1
        obtain ⟨rfl, rfl, hes, hl, xs, how, hrep⟩ := h2
        refine ⟨g, i * es1 + j, _, rfl, relL_row (repL_piece hl hrep hrow j), fun l v hlv => ?_⟩
        rw [List.getElem?_take] at hlv
        split at hlv
        · rw [List.getElem?_drop] at hlv
          have := how.cells (g := g) rfl _ _ hlv
          rw [add_at] at this
          simpa using this
        · simp at hlv
      · simp at hb
    · simp at hb
  | rp rows i j b o es cap hrep hes =>
    simp only [behind] at hb
    split at hb
    · rename_i row hrow
      injection hb with hb
      subst hb
      have hlt : i < rows.length := (List.getElem?_eq_some_iff.mp hrow).1
      have hr : row.length = es := hes row (List.mem_of_getElem? hrow)
      have hm : (i + 1) * es ≤ rows.length * es := Nat.mul_le_mul_right _ hlt
      rw [Nat.succ_mul] at hm
      generalize hv : Value.slice (some ⟨b, o, none⟩) rows.length cap = sv at hrep
      cases hrep with
      | empty p c hp => simp at hlt
      | arr _ b' o' es' cap' g hS hes0 hlen hmax hcap hcell hrep =>
        simp only [Value.slice.injEq, Option.some.injEq, Addr.mk.injEq, and_true, true_and] at hv
        obtain ⟨⟨rfl, rfl⟩, _⟩ := hv
        have he : es' = es := by rw [← hlen row (List.mem_of_getElem? hrow), hr]
        subst he
        refine ⟨b, o + (i * es' + j), ((List.range (es' - j)).map fun l => g (i * es' + j + l)), rfl, ?_, fun l v hlv => ?_⟩
        · refine relL_row ⟨by simp [hr], fun l x v h1 h2 => ?_⟩
          rw [List.getElem?_drop] at h1
          have hle : j + l < es' := by
            have := (List.getElem?_eq_some_iff.mp h1).1; omega
          rw [List.getElem?_map, List.getElem?_range (by omega)] at h2
          simp only [Option.map_some, Option.some.injEq] at h2
          subst h2
          refine hrep _ _ ?_
          rw [Nat.add_assoc, flat_get rows hlen i (j + l) row hrow hle]; exact h1
        · rw [List.getElem?_map] at hlv
          simp only [Option.map_eq_some_iff] at hlv
          obtain ⟨l', h1, h2⟩ := hlv
          have hll : l < es' - j := by
            have := (List.getElem?_eq_some_iff.mp h1).1; simpa using this
          rw [List.getElem?_range hll] at h1
          injection h1 with h1
          subst h1; subst h2
          have := hcell (i * es' + j + l) (by omega)
          rw [← this]; congr 2; omega
    · simp at hb
  | d x v h => simp [behind] at hb
  | agg cs vs hn h => simp [behind] at hb
  | tup cs vs hn h => simp [behind] at hb
  | sl r v e es h u hv => simp [behind] at hb
  | e0 p => simp [behind] at hb
  | lst T cs vs g hg hf h1 hn h => simp [behind] at hb
  | mp r g h => simp [behind] at hb
  | clo f cs vs hn h => simp [behind] at hb
  | tl r i g n cap es e h hi hc => simp [behind] at hb
  | nsl => simp [behind] at hb
  | ns => simp [behind] at hb
  | nt => simp [behind] at hb
  | nptr r i j g m cap T n us hA =>
    simp only [behind] at hb
    split at hb
    case h_2 => simp at hb
    rename_i T' n' rows hr
    split at hb
    case h_2 => simp at hb
    rename_i row hrow
    obtain ⟨ri, h1, h2⟩ := hR.rel r _ (root_get hr)
    rw [hA] at h1
    injection h1 with h1; injection h1 with h1
    subst h1
    obtain ⟨rfl, rfl, hn⟩ := h2
    obtain ⟨xs, how, hcs⟩ := hn.rep
    obtain ⟨⟨rws, u, u', c1, c2, c3, c4⟩, c5⟩ := hcs i row hrow
    have hrl : row.length = T'.es := hn.len row (List.mem_of_getElem? hrow)
    have hil : i < rows.length := (List.getElem?_eq_some_iff.mp hrow).1
    have hm : (i + 1) * T'.es ≤ rows.length * T'.es := Nat.mul_le_mul_right _ hil
    rw [Nat.succ_mul] at hm
    have hxl : xs.length = rows.length * T'.es := how.1
    have hcell : ∀ l v, xs[l]? = some v → w.cell? ⟨g, l, none⟩ = some v := fun l v hl => by
      have := how.cells (g := g) rfl l v hl
      rw [add_at, Nat.zero_add] at this; exact this
    have hxg : ∀ l, j + l < T'.es → ((xs.drop (i * T'.es + j)).take (T'.es - j))[l]? = xs[i * T'.es + (j + l)]? := fun l hl => by
      rw [List.getElem?_take, if_pos (by omega), List.getElem?_drop, Nat.add_assoc]
    split at hb
    · split at hb
      · rename_i hin
        have hin' : i < n' := Nat.le_of_ble_eq_true hin
        injection hb with hb
        subst hb
        have hu : SlOf u u' := by
          rcases c4 with ⟨_, hs, _⟩ | ⟨h0, _⟩
          · exact hs
          · omega
        refine ⟨g, i * T'.es + j, (xs.drop (i * T'.es + j)).take (T'.es - j), rfl, ⟨by simp [mapO_eq, hrl, hxl]; omega, fun l c v h1 h2 => ?_⟩, fun l v hl => ?_⟩
        · rw [List.getElem?_drop] at h1
          have hjl : j + l < T'.es := by
            have := (List.getElem?_eq_some_iff.mp h1).1
            simpa [mapO_eq, hrl] using this
          rw [hxg l hjl] at h2
          by_cases hc : j + l = T'.c2
          · rw [hc, List.getElem?_set, if_pos rfl, if_pos (by simp [mapO_eq, hrl]; exact hn.c2)] at h1
            injection h1 with h1
            subst h1
            rw [hc, c3] at h2
            injection h2 with h2
            subst h2
            exact .ns r i _ T' n' us u hA hin' c2 u' hu
          · rw [List.getElem?_set_ne (fun e => hc e.symm), mapO_eq, List.getElem?_map, Option.map_eq_some_iff] at h1
            obtain ⟨x, hx, rfl⟩ := h1
            exact .d _ _ (c5 (j + l) x v hc hx h2)
        · rw [List.getElem?_take] at hl
          split at hl
          · rw [List.getElem?_drop] at hl
            exact hcell _ _ hl
          · simp at hl
      · rename_i hin
        have hin' : n' ≤ i := by
          rcases Nat.lt_or_ge i n' with h0 | h0
          · have : Nat.blt i n' = true := Nat.ble_eq.mpr h0
            rw [this] at hin; simp at hin
          · exact h0
        injection hb with hb
        subst hb
        refine ⟨g, i * T'.es + j, (xs.drop (i * T'.es + j)).take (T'.es - j), rfl, ⟨by simp [mapO_eq, hrl, hxl]; omega, fun l c v h1 h2 => ?_⟩, fun l v hl => ?_⟩
        · rw [List.getElem?_drop] at h1
          have hjl : j + l < T'.es := by
            have := (List.getElem?_eq_some_iff.mp h1).1
            simpa [mapO_eq, hrl] using this
          rw [hxg l hjl] at h2
          rw [mapO_eq, List.getElem?_map, Option.map_eq_some_iff] at h1
          obtain ⟨x, hx, rfl⟩ := h1
          by_cases hc : j + l = T'.c2
          · rw [hc] at hx h2
            rw [c1] at hx
            injection hx with hx
            subst hx
            rw [c3] at h2
            injection h2 with h2
            subst h2
            rcases c4 with ⟨h0, _⟩ | ⟨_, h0⟩
            · omega
            · exact .d _ _ h0
          · exact .d _ _ (c5 (j + l) x v hc hx h2)
        · rw [List.getElem?_take] at hl
          split at hl
          · rw [List.getElem?_drop] at hl
            exact hcell _ _ hl
          · simp at hl
    · rename_i hin
      injection hb with hb
      subst hb
      refine ⟨g, i * T'.es + j, ((xs.drop (i * T'.es + j)).take (T'.es - j)).take sz, rfl, ⟨by simp [mapO_eq, hrl, hxl]; omega, fun l c v h1 h2 => ?_⟩, fun l v hl => ?_⟩
      · rw [List.getElem?_take] at h1 h2
        split at h1
        case isFalse => simp at h1
        rename_i hls
        rw [if_pos hls] at h2
        rw [List.getElem?_drop] at h1
        have hjl : j + l < T'.es := by
          have := (List.getElem?_eq_some_iff.mp h1).1
          simpa [mapO_eq, hrl] using this
        rw [hxg l hjl] at h2
        rw [mapO_eq, List.getElem?_map, Option.map_eq_some_iff] at h1
        obtain ⟨x, hx, rfl⟩ := h1
        have hc : j + l ≠ T'.c2 := by
          intro hc
          have h3 : Nat.ble j T'.c2 = true := Nat.ble_eq.mpr (by omega)
          have h4 : Nat.blt T'.c2 (j + sz) = true := Nat.ble_eq.mpr (by omega)
          simp only [inN, h3, h4] at hin
          simp at hin
        exact .d _ _ (c5 (j + l) x v hc hx h2)
      · rw [List.getElem?_take] at hl
        split at hl
        case isFalse => simp at hl
        rw [List.getElem?_take] at hl
        split at hl
        · rw [List.getElem?_drop] at hl
          exact hcell _ _ hl
        · simp at hl
  | np r i q c v T n us g o m cap hA hi hu =>
    simp only [behind] at hb
    split at hb
    case h_2 => simp at hb
    rename_i T' n' rows hr
    split at hb
    case h_2 => simp at hb
    rename_i row hrow
    split at hb
    case h_2 => simp at hb
    rename_i rws hc1
    split at hb
    case h_2 => simp at hb
    rename_i ds hds
    injection hb with hb
    subst hb
    obtain ⟨ri, h1, h2⟩ := hR.rel r _ (root_get hr)
    rw [hA] at h1
    injection h1 with h1; injection h1 with h1
    subst h1
    obtain ⟨rfl, rfl, hn⟩ := h2
    obtain ⟨xs, how, hcs⟩ := hn.rep
    obtain ⟨⟨rws', u, u', c1, c2, c3, c4⟩, c5⟩ := hcs i row hrow
    rw [hc1] at c1
    injection c1 with c1
    subst c1
    rw [hu] at c2
    injection c2 with c2
    subst c2
    rcases c4 with ⟨_, _, _, he0, hl, ys, ho, hrep⟩ | ⟨h0, _⟩
    · injection he0 with he0
      subst he0
      rcases ho.2 with ⟨he, _⟩ | ⟨g', cap', cur, he, _⟩
      · simp at he
      · simp only [Value.slice.injEq, Option.some.injEq, Addr.mk.injEq, and_true, true_and] at he
        obtain ⟨⟨rfl, rfl⟩, rfl, rfl⟩ := he
        refine ⟨g, q * T'.es2 + c, _, by rw [Nat.zero_add], relL_row (repL_piece hl hrep hds c), fun l v hlv => ?_⟩
        rw [List.getElem?_take] at hlv
        split at hlv
        · rw [List.getElem?_drop] at hlv
          have := ho.cells (g := g) rfl _ _ hlv
          rw [add_at] at this
          simpa using this
        · simp at hlv
    · omega
  | dead v => simp [behind] at hb

omit [Bad] in
theorem below_lt {w w' : World} (hb : Below w.heap.size w w') {a : Addr} {v : Value} (h : w.cell? a = some v) : w'.cell? a = some v :=
  (hb.cell (World.block_lt_of_cell? w a h)).trans h

omit [Bad] in
/-- A load. -/
theorem load_run {E : Env} {P : Program} (hE : EnvOK E P) {t : TypeId} {i : TI} (hi : look E.tys t = some i) {w : World} {b o : Nat} {vs : List Value}
    (hc : ∀ j v, vs[j]? = some v → w.cell? ⟨b, o + j, none⟩ = some v) (ha : isAggD i.desc = true → vs.length = i.size) (hs : isAggD i.desc = false → ∃ u, vs = [u]) :
    (Instr.loadAt t (.pointer (some ⟨b, o, none⟩))).run P w = .ok (packV i.desc vs) w := by
  obtain ⟨ti, h1, h2, h3, _, _⟩ := hE.ty t i hi
  have hag : (isAgg t).run P w = .ok (isAggD i.desc) w := by
    unfold isAgg
    simp only [Sem.run_bind, run_underlying h2, Result.andThen_ok]
    cases i.desc <;> rfl
  unfold Instr.loadAt Instr.sureAddr loadVar packV
  cases hd : isAggD i.desc with
  | true =>
    have hl := run_loadCells_list (P := P) w ⟨b, o, none⟩ vs (fun j v hj => by rw [add_at]; exact hc j v hj)
    rw [ha hd] at hl
    rw [hd] at hag
    simp only [Sem.run_bind, Sem.run_pure, Result.andThen_ok, hag, if_true, sizeOf, typeInfo, run_program, h1, h3, hl]
  | false =>
    obtain ⟨u, rfl⟩ := hs hd
    rw [hd] at hag
    have := hc 0 u rfl
    simp only [Sem.run_bind, Sem.run_pure, Result.andThen_ok, hag, Bool.false_eq_true, if_false, run_load]
    simp only [Nat.add_zero] at this
    rw [this]; rfl

end Go.Proofs.YtjnhclnnobejgaaE
