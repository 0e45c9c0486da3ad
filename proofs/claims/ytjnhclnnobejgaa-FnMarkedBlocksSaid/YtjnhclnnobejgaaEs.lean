/- The engine, a known contract: slices.Clone makes a row of its caller's own; conditions: none. -/
import Derived.Test.YtjnhclnnobejgaaEq
import Derived.Shelf.SlicesE.Clone
import Derived.Shelf.Spec.SlicesGrow
namespace Go.Proofs.YtjnhclnnobejgaaE
open Go.Proofs Go.Shelf Go.RowKit
set_option linter.unusedVariables false
set_option linter.unusedSimpArgs false

/-- What slices.Clone answers: of data, and of a slice of the caller's own. -/
def extClone (e : TypeId) (i : TI) : List V → Fo → Option (V × Fo) := fun args F => match args, F with
  | [.d (.arr rows)], [] => match appOk rows.length i.bytes, allLen i.size rows, Nat.blt 0 i.size with
    | true, true, true => some (.sl 0, [some (.arr e i.size rows)])
    | _, _, _ => none
  | [.sl 0], [some (.arr e' es rows)] => match appOk rows.length i.bytes, Nat.beq es i.size, Nat.blt 0 i.size with
    | true, true, true => some (.sl 1, [some (.arr e' es rows), some (.arr e i.size rows)])
    | _, _, _ => none
  | _, _ => none

/-- The numbers at which slices.Clone is laid. -/
def renC (f s e b : Nat) : Ren := ⟨fun _ => f, fun t => match t with | 22 => s | 23 => e | _ => b, fun _ => 0⟩

section
variable {P : Program} {ρ : Ren}

set_option maxHeartbeats 2000000 in
set_option maxRecDepth 100000 in
theorem clone_zero (L : SlLaysE0.n41 P ρ) (i0 : TypeInfo) (z : Value) (size bytes : Nat) (hi : P.info? (ρ.t 23) = some i0) (hz0 : i0.zero = some z) (hz1 : i0.size = size) (hz2 : i0.bytes = bytes) (hzs : z.cells.size = size) (hsz : 0 < size)
    (z23 : ∀ w, (Go.sizeOf (ρ.t 23)).run P w = .ok size w) (a : Addr) (c : Nat) (w : World) :
    Calls P (ρ.f 41) #[.slice (some a) 0 c] w fun e w' => ∃ v', e = .returned v' ∧ w'.ownsRow w.heap.size (ρ.t 23) size v' 0 [] ∧ Go.RowKit.Below w.heap.size w w' := by
  have mixed := L.mixed; have t4 := L.t4; have a4 := L.a4; have z4 := L.z4; have v4 := L.v4; have t22 := L.t22; have a22 := L.a22; have z22 := L.z22; have v22 := L.v22
  have q22 : ∀ (w : World) (a : Option Addr) (n c n' c' : Nat), (binOp .eql (ρ.t 22) (.slice a n c) (.slice none n' c')).run P w = .ok (.bool a.isNone) w := fun w a n c n' c' => Lib.run_eql_slice_nil w _ _ a n c n' c' L.t22
  have u22 : ∀ w, Sem.run P (underlying (ρ.t 22)) w = .ok (TypeDesc.slice (ρ.t 23)) w := run_underlying t22
  obtain ⟨_, _, FG⟩ := L.f41
  go_enter FG, SlBodyN.n41_ntmps ρ
  go_wp2_with (at_builtin; refine wpList_append_own _ rfl _ _ (ρ.t 22) rfl w.heap.size (ρ.t 23) i0 z size bytes t22 hi hz0 hz1 hz2 hzs hsz _ _ _ rfl (World.ownsRow_made w #[] 0 (Nat.le_refl _) (Nat.zero_le _) (by simp)) a 0 c [] rfl (by simp) (by intro j u hj; simp at hj) (by intro u hu; cases hu) (by unfold maxLen; omega) (by omega) (by simp) ?_)
  intro v' w1 hown hgrow hnil
  go_wp2
  go_ret
  refine ⟨v', rfl, by simpa using hown, ?_⟩
  exact ((Go.RowKit.Below.refl _ w).alloc (Nat.le_refl _) _).grown hgrow (by simp) (by intro k hk; simp [Value.ownBlock] at hk; omega)

/-- A type's facts. -/
abbrev TyOK (P : Program) (t : TypeId) (i : TI) : Prop := ∃ ti, P.info? t = some ti ∧ P.underlying t = some i.desc ∧ ti.size = i.size ∧ ti.bytes = i.bytes ∧ ti.zero = some i.zero

theorem clone_lays {f s e b : Nat} {is ib : TI} (hm : P.follows .mixedOrders = true) (hf : Bears P f (SlBodyN.n41 (renC f s e b))) (hs : TyOK P s is) (hb : TyOK P b ib) (ds : is.desc = .slice e) (zs : is.zero = .slice none 0 0) (ss : is.size = 1)
    (db : ib.desc = .bool) (zb : ib.zero = .bool false) (sb : ib.size = 1) : SlLaysE0.n41 P (renC f s e b) := by
  obtain ⟨ts, s1, s2, s3, s4, s5⟩ := hs
  obtain ⟨tb, b1, b2, b3, b4, b5⟩ := hb
  rw [ds] at s2
  rw [db] at b2
  rw [zs] at s5
  rw [zb] at b5
  rw [ss] at s3
  rw [sb] at b3
  exact { mixed := hm, f41 := hf, t4 := b2, a4 := fun w => by simp [isAgg, run_underlying (show P.underlying ((renC f s e b).t 4) = some .bool from b2)], z4 := fun w => by show (Go.sizeOf b).run P w = _; simp [sizeOf, typeInfo, b1, b3], v4 := fun w => by show (zeroValue b).run P w = _; simp [zeroValue, typeInfo, b1, b5],
          t22 := s2, a22 := fun w => by simp [isAgg, run_underlying (show P.underlying ((renC f s e b).t 22) = some (.slice e) from s2)], z22 := fun w => by show (Go.sizeOf s).run P w = _; simp [sizeOf, typeInfo, s1, s3], v22 := fun w => by show (zeroValue s).run P w = _; simp [zeroValue, typeInfo, s1, s5] }

/-- A row just made is its caller's own. -/
theorem own_new {B : Bad} {w w' : World} {A : List (Option RI)} {F : Fo} {v' : Value} {e : TypeId} {i : TI} {rows : List (List D)} {news : List Value} (hsz : 0 < i.size) (hlen : ∀ row ∈ rows, row.length = i.size) (hR : @Roots B w A F) (hown : w'.ownsRow w.heap.size e i.size v' rows.length news)
    (hbel : Go.RowKit.Below w.heap.size w w') (hrep : RepL w (@Free B A) rows.flatten news) : CallPost B A w (.sl F.length) (F ++ [some (.arr e i.size rows)]) (.returned v') w' := by
  have hblk : ∀ b, (RI.arr v' e i.size).has b → w.heap.size ≤ b ∧ b < w'.heap.size := by
    intro b hb
    rcases hown.2 with ⟨rfl, _⟩ | ⟨g, cap, cur, rfl, hg, hh, _⟩
    · simp [RI.has, Value.ownBlock] at hb
    · injection hb with hb
      subst hb
      exact ⟨hg, (Array.getElem?_eq_some_iff.mp hh).1⟩
  have hform : ∃ p n c, v' = Value.slice p n c := by
    rcases hown.2 with ⟨rfl, _⟩ | ⟨g, cap, cur, rfl, _⟩
    · exact ⟨_, _, _, rfl⟩
    · exact ⟨_, _, _, rfl⟩
  have hfree := @free_append B w A (.arr v' e i.size) (fun b h => (hblk b h).1)
  have hroot : @RootRel B w' (A ++ [some (.arr v' e i.size)]) (.arr v' e i.size) (.arr e i.size rows) := by
    refine ⟨rfl, rfl, hsz, hlen, news, ⟨hown.1, ?_⟩, RepL.mono hrep (fun b _ hlt => hbel.block b hlt) hfree⟩
    rcases hown.2 with h1 | ⟨g, cap, cur, h1, h2, h3, h4⟩
    · exact .inl h1
    · exact .inr ⟨g, cap, cur, h1, Nat.zero_le _, ⟨_, h3, .z _ _⟩, h4⟩
  have hl : F.length = A.length := (@Roots.len B _ _ _ hR).symm
  refine ⟨v', A ++ [some (.arr v' e i.size)], rfl, @Roots.grow _ B _ _ _ _ hR (.of' hbel fun h => h.elim) _ _ hblk hroot, @RelV.sl B _ _ F.length v' e i.size (by rw [hl]; simp) _ (.self hform), .of_below (.of' hbel fun h => h.elim), .append (fun b h => (hblk b h).1), fun r h => get_append h⟩

/-- The call of slices.Clone, whatever is made of its row. -/
theorem clone_callG {B : Bad} {f s e b : Nat} {i : TI} (L : SlLaysE0.n41 P (renC f s e b)) (he : TyOK P e i) (hz : i.zero.cells.size = i.size) {w : World} {A : List (Option RI)} {F : Fo} (hR : @Roots B w A F) {rows : List (List D)} {u : Value}
    (hby : rows.length * i.bytes ≤ 140737488355328) (hlen : ∀ row ∈ rows, row.length = i.size) (hsz : 0 < i.size)
    (hu : (rows = [] ∧ ∃ p cap, u = .slice p 0 cap) ∨ ∃ b' o cap xs, u = .slice (some ⟨b', o, none⟩) rows.length cap ∧ rows.length ≤ maxLen ∧ (∀ j y, xs[j]? = some y → w.cell? ⟨b', o + j, none⟩ = some y) ∧ RepL w (@Free B A) rows.flatten xs) 
    {v1 : V} {F1 : Fo} (hQ : ∀ (v' : Value) (w' : World) (news : List Value), w'.ownsRow w.heap.size e i.size v' rows.length news → Go.RowKit.Below w.heap.size w w' → RepL w (@Free B A) rows.flatten news → CallPost B A w v1 F1 (.returned v') w') :
    Calls P f #[u] w (CallPost B A w v1 F1) := by
  obtain ⟨ti, g1, g2, g3, g4, g5⟩ := he
  have hz23 : ∀ w, (Go.sizeOf ((renC f s e b).t 23)).run P w = .ok i.size w := fun w => by show (Go.sizeOf e).run P w = _; simp [sizeOf, typeInfo, g1, g3]
  rcases hu with ⟨rfl, p, cap, rfl⟩ | ⟨b', o, cap, xs, rfl, hmax, hcell, hrl⟩
  · cases p with
    | none =>
      refine (AnyE.slices_Clone_nil L 0 cap w).mono ?_
      rintro e' w' ⟨rfl, rfl⟩
      exact hQ _ _ [] (World.ownsRow_nil _ _ _ _) (Go.RowKit.Below.refl _ _) (RepL.nil _ _)
    | some a =>
      refine (clone_zero L ti i.zero i.size i.bytes g1 g5 g3 g4 hz hsz hz23 a cap w).mono ?_
      rintro e' w' ⟨v', rfl, h1, h2⟩
      exact hQ _ _ [] h1 h2 (RepL.nil _ _)
  · have hxl : xs.length = rows.length * i.size := by rw [← hrl.1, flat_len rows hlen]
    refine (AnyE.slices_Clone L ti i.zero i.size i.bytes g1 g5 g3 g4 hz hsz hz23 b' o rows.length cap xs w hxl hmax hby hcell (repL_one hrl)).mono ?_
    rintro e' w' ⟨v', rfl, h1, _, h2⟩
    exact hQ _ _ _ h1 h2 hrl

/-- A row just made, its slices data so far. -/
theorem own_newN {B : Bad} {w w' : World} {A : List (Option RI)} {F : Fo} {v' : Value} {T : NT} {rows : List (List D)} {news : List Value} (hc : T.c2 < T.es) (h2 : 0 < T.es2) (hlen : ∀ row ∈ rows, row.length = T.es) (hR : @Roots B w A F) (hown : w'.ownsRow w.heap.size T.e T.es v' rows.length news)
    (hbel : Go.RowKit.Below w.heap.size w w') (hrep : RepL w (@Free B A) rows.flatten news) : CallPost B A w (.nsl F.length) (F ++ [some (.nst T 0 rows)]) (.returned v') w' := by
  generalize hvs : ((List.range rows.length).map fun i => news.getD (i * T.es + T.c2) undef) = vs
  have hblk : ∀ b, (RI.nst v' T 0 vs).has b → w.heap.size ≤ b ∧ b < w'.heap.size := by
    rintro b (hb | ⟨i, u, h, _⟩)
    · rcases hown.2 with ⟨rfl, _⟩ | ⟨g, cap, cur, rfl, hg, hh, _⟩
      · simp [Value.ownBlock] at hb
      · injection hb with hb
        subst hb
        exact ⟨hg, (Array.getElem?_eq_some_iff.mp hh).1⟩
    · exact absurd h (Nat.not_lt_zero _)
  have hform : ∃ p n c, v' = Value.slice p n c := by
    rcases hown.2 with ⟨rfl, _⟩ | ⟨g, cap, cur, rfl, _⟩
    · exact ⟨_, _, _, rfl⟩
    · exact ⟨_, _, _, rfl⟩
  have hfree := @free_append B w A (.nst v' T 0 vs) (fun b h => (hblk b h).1)
  have hroot : @RootRel B w' (A ++ [some (.nst v' T 0 vs)]) (.nst v' T 0 vs) (.nst T 0 rows) := by
    refine ⟨rfl, rfl, ?_⟩
    have how : ownsB w' 0 T.e T.es v' rows.length news := ⟨hown.1, by
      rcases hown.2 with h1 | ⟨g, cap, cur, h1, h2, h3, h4⟩
      · exact .inl h1
      · exact .inr ⟨g, cap, cur, h1, Nat.zero_le _, ⟨_, h3, .z _ _⟩, h4⟩⟩
    have h0 := NstRel.of_arr (e := T.e) (es := T.es) hc h2 hlen how (RepL.mono hrep (fun b _ hlt => hbel.block b hlt) hfree)
    rw [hvs] at h0
    exact h0
  have hl : F.length = A.length := (@Roots.len B _ _ _ hR).symm
  refine ⟨v', A ++ [some (.nst v' T 0 vs)], rfl, @Roots.grow _ B _ _ _ _ hR (.of' hbel fun h => h.elim) _ _ hblk hroot, @RelV.nsl B _ _ F.length v' T 0 vs (by rw [hl]; simp) _ (.self hform), .of_below (.of' hbel fun h => h.elim), .append (fun b h => (hblk b h).1), fun r h => get_append h⟩

/-- What slices.Clone answers of data whose rows hold slices. -/
def extCloneN (T : NT) (i : TI) : List V → Fo → Option (V × Fo) := fun args F => match args, F with
  | [.d (.arr rows)], [] => match appOk rows.length i.bytes, allLen i.size rows, Nat.beq T.es i.size, Nat.blt T.c2 T.es, Nat.blt 0 T.es2 with
    | true, true, true, true, true => some (.nsl 0, [some (.nst T 0 rows)])
    | _, _, _, _, _ => none
  | _, _ => none

/-- Its contract. -/
theorem ext_cloneN {f s b : Nat} {T : NT} {i : TI} (L : SlLaysE0.n41 P (renC f s T.e b)) (hfu : ∃ fu, P.funcs[f]? = some fu ∧ fu.body.isNone = false ∧ (fu.name == "runtime.NumGoroutine") = false) (he : TyOK P T.e i) (hz : i.zero.cells.size = i.size) : ExtOK P f (extCloneN T i) := by
  refine ⟨hfu, fun args F v F1 hg B w A vals hR hl hrel => ?_⟩
  unfold extCloneN at hg
  split at hg
  case h_2 => simp at hg
  rename_i rows
  split at hg
  case h_2 => simp at hg
  rename_i c1 c2 c3 c4 c5
  simp only [Option.some.injEq, Prod.mk.injEq] at hg
  obtain ⟨rfl, rfl⟩ := hg
  have hby : rows.length * i.bytes ≤ 140737488355328 := Nat.ble_eq.mp c1
  have hlen := allLen_all c2
  have hes : T.es = i.size := Nat.eq_of_beq_eq_true c3
  have hc : T.c2 < T.es := Nat.le_of_ble_eq_true c4
  have h2 : 0 < T.es2 := Nat.le_of_ble_eq_true c5
  have hsz : 0 < i.size := by omega
  have hvs : vals.size = 1 := hl.symm
  obtain ⟨u, rfl⟩ : ∃ u, vals = #[u] := by
    match vals, hvs with
    | ⟨[u]⟩, _ => exact ⟨u, rfl⟩
  have h0 := hrel 0 _ u rfl rfl
  refine clone_callG L he hz hR hby hlen hsz ?_ fun v' w' news h1 h3 h4 => ?_
  rotate_left
  · exact own_newN hc h2 (fun row hrow => by rw [hlen row hrow, hes]) hR (by rw [hes]; exact h1) h3 h4
  cases h0 with
  | d _ _ hrep =>
  generalize hx : D.arr rows = x at hrep
  cases hrep with
  | lit v hv => simp at hx
  | empty p cap hp =>
    injection hx with hx
    subst hx
    exact .inl ⟨rfl, p, cap, rfl⟩
  | arr rows' b' o es cap g hS hes hl' hmax hcap hcell hrep =>
    injection hx with hx
    subst hx
    by_cases hne : rows = []
    · subst hne
      exact .inl ⟨rfl, _, _, rfl⟩
    have hee : es = i.size := by
      obtain ⟨r0, hr0⟩ := List.exists_mem_of_ne_nil rows hne
      rw [← hl' r0 hr0, hlen r0 hr0]
    subst hee
    refine .inr ⟨b', o, cap, (List.range (rows.length * i.size)).map g, rfl, hmax, fun j u hj => ?_, by simp [flat_len rows hl'], fun j x y h1 h2 => ?_⟩
    · rw [List.getElem?_map, Option.map_eq_some_iff] at hj
      obtain ⟨j', h2, rfl⟩ := hj
      have hlt := (List.getElem?_eq_some_iff.mp h2).1
      rw [List.getElem?_range (by simpa using hlt)] at h2
      injection h2 with h2
      subst h2
      exact hcell j (by simpa using hlt)
    · rw [List.getElem?_map, Option.map_eq_some_iff] at h2
      obtain ⟨j', h2, rfl⟩ := h2
      have hlt := (List.getElem?_eq_some_iff.mp h2).1
      rw [List.getElem?_range (by simpa using hlt)] at h2
      injection h2 with h2
      subst h2
      exact hrep j x h1

/-- The call of slices.Clone. -/
theorem clone_call {B : Bad} {f s e b : Nat} {i : TI} (L : SlLaysE0.n41 P (renC f s e b)) (he : TyOK P e i) (hz : i.zero.cells.size = i.size) {w : World} {A : List (Option RI)} {F : Fo} (hR : @Roots B w A F) {rows : List (List D)} {u : Value}
    (hby : rows.length * i.bytes ≤ 140737488355328) (hlen : ∀ row ∈ rows, row.length = i.size) (hsz : 0 < i.size)
    (hu : (rows = [] ∧ ∃ p cap, u = .slice p 0 cap) ∨ ∃ b' o cap xs, u = .slice (some ⟨b', o, none⟩) rows.length cap ∧ rows.length ≤ maxLen ∧ (∀ j y, xs[j]? = some y → w.cell? ⟨b', o + j, none⟩ = some y) ∧ RepL w (@Free B A) rows.flatten xs) :
    Calls P f #[u] w (CallPost B A w (.sl F.length) (F ++ [some (.arr e i.size rows)])) := by
  obtain ⟨ti, g1, g2, g3, g4, g5⟩ := he
  have hz23 : ∀ w, (Go.sizeOf ((renC f s e b).t 23)).run P w = .ok i.size w := fun w => by show (Go.sizeOf e).run P w = _; simp [sizeOf, typeInfo, g1, g3]
  rcases hu with ⟨rfl, p, cap, rfl⟩ | ⟨b', o, cap, xs, rfl, hmax, hcell, hrl⟩
  · cases p with
    | none =>
      refine (AnyE.slices_Clone_nil L 0 cap w).mono ?_
      rintro e' w' ⟨rfl, rfl⟩
      exact own_new (news := []) hsz hlen hR (World.ownsRow_nil _ _ _ _) (Go.RowKit.Below.refl _ _) (RepL.nil _ _)
    | some a =>
      refine (clone_zero L ti i.zero i.size i.bytes g1 g5 g3 g4 hz hsz hz23 a cap w).mono ?_
      rintro e' w' ⟨v', rfl, h1, h2⟩
      exact own_new (news := []) hsz hlen hR h1 h2 (RepL.nil _ _)
  · have hxl : xs.length = rows.length * i.size := by rw [← hrl.1, flat_len rows hlen]
    refine (AnyE.slices_Clone L ti i.zero i.size i.bytes g1 g5 g3 g4 hz hsz hz23 b' o rows.length cap xs w hxl hmax hby hcell (repL_one hrl)).mono ?_
    rintro e' w' ⟨v', rfl, h1, _, h2⟩
    exact own_new hsz hlen hR h1 h2 hrl

/-- slices.Clone's contract in the engine's form. -/
theorem ext_clone {f s e b : Nat} {i : TI} (L : SlLaysE0.n41 P (renC f s e b)) (hfu : ∃ fu, P.funcs[f]? = some fu ∧ fu.body.isNone = false ∧ (fu.name == "runtime.NumGoroutine") = false) (he : TyOK P e i) (hz : i.zero.cells.size = i.size) : ExtOK P f (extClone e i) := by
  refine ⟨hfu, fun args F v F1 hg B w A vals hR hl hrel => ?_⟩
  unfold extClone at hg
  split at hg
  · rename_i rows
    split at hg
    case h_2 => simp at hg
    rename_i c1 c2 c3
    simp only [Option.some.injEq, Prod.mk.injEq] at hg
    obtain ⟨rfl, rfl⟩ := hg
    have hby : rows.length * i.bytes ≤ 140737488355328 := Nat.ble_eq.mp c1
    have hlen := allLen_all c2
    have hsz : 0 < i.size := by have := c3; simp [Nat.blt_eq] at this; exact this
    have hvs : vals.size = 1 := hl.symm
    obtain ⟨u, rfl⟩ : ∃ u, vals = #[u] := by
      match vals, hvs with
      | ⟨[u]⟩, _ => exact ⟨u, rfl⟩
    have h0 := hrel 0 _ u rfl rfl
    refine clone_call L he hz hR hby hlen hsz ?_
    cases h0 with
    | d _ _ hrep =>
    generalize hx : D.arr rows = x at hrep
    cases hrep with
    | lit v hv => simp at hx
    | empty p cap hp =>
      injection hx with hx
      subst hx
      exact .inl ⟨rfl, p, cap, rfl⟩
    | arr rows' b' o es cap g hS hes hl' hmax hcap hcell hrep =>
      injection hx with hx
      subst hx
      by_cases hne : rows = []
      · subst hne
        exact .inl ⟨rfl, _, _, rfl⟩
      have hee : es = i.size := by
        obtain ⟨r0, hr0⟩ := List.exists_mem_of_ne_nil rows hne
        rw [← hl' r0 hr0, hlen r0 hr0]
      subst hee
      refine .inr ⟨b', o, cap, (List.range (rows.length * i.size)).map g, rfl, hmax, fun j u hj => ?_, by simp [flat_len rows hl'], fun j x y h1 h2 => ?_⟩
      · rw [List.getElem?_map, Option.map_eq_some_iff] at hj
        obtain ⟨j', h2, rfl⟩ := hj
        have hlt := (List.getElem?_eq_some_iff.mp h2).1
        rw [List.getElem?_range (by simpa using hlt)] at h2
        injection h2 with h2
        subst h2
        exact hcell j (by simpa using hlt)
      · rw [List.getElem?_map, Option.map_eq_some_iff] at h2
        obtain ⟨j', h2, rfl⟩ := h2
        have hlt := (List.getElem?_eq_some_iff.mp h2).1
        rw [List.getElem?_range (by simpa using hlt)] at h2
        injection h2 with h2
        subst h2
        exact hrep j x h1
  · rename_i e' es rows
    split at hg
    case h_2 => simp at hg
    rename_i c1 c2 c3
    simp only [Option.some.injEq, Prod.mk.injEq] at hg
    obtain ⟨rfl, rfl⟩ := hg
    have hby : rows.length * i.bytes ≤ 140737488355328 := Nat.ble_eq.mp c1
    have hsz : 0 < i.size := by have := c3; simp [Nat.blt_eq] at this; exact this
    have : es = i.size := Nat.eq_of_beq_eq_true c2
    subst this
    have hvs : vals.size = 1 := hl.symm
    obtain ⟨u, rfl⟩ : ∃ u, vals = #[u] := by
      match vals, hvs with
      | ⟨[u]⟩, _ => exact ⟨u, rfl⟩
    have h0 := hrel 0 _ u rfl rfl
    obtain ⟨ri, r1, r2⟩ := @Roots.rel B _ _ _ hR 0 _ rfl
    cases h0 with
    | sl _ _ e3 es3 hA _ hform =>
    rw [hA] at r1
    injection r1 with r1; injection r1 with r1
    subst r1
    obtain ⟨rfl, rfl, _, hlen, xs, how, hrep⟩ := r2
    refine clone_call L he hz hR hby hlen hsz ?_
    rcases how.2 with ⟨rfl, hz0⟩ | ⟨g, cap, cur, rfl, _, ⟨fz, hh, hmk⟩, hnc, hcm, _⟩
    · obtain ⟨_, rfl | ⟨_, p, rfl⟩⟩ := hform
      · exact .inl ⟨List.eq_nil_of_length_eq_zero hz0, none, 0, rfl⟩
      · exact .inl ⟨List.eq_nil_of_length_eq_zero hz0, p, 0, rfl⟩
    · obtain ⟨_, rfl | ⟨hc, _⟩⟩ := hform
      case inr => cases hc
      refine .inr ⟨g, 0, cap, xs, rfl, by omega, fun j y hj => ?_, hrep⟩
      have := how.cells (g := g) rfl j y hj
      rw [add_at] at this
      exact this
  · simp at hg

/-- What slices.Grow of a nil slice answers: room, no elements. -/
def extGrow (e : TypeId) (i : TI) : List V → Fo → Option (V × Fo) := fun args F => match args, F with
  | [.d (.lit (.slice none 0 0)), .d (.lit (.int .i64 n))], [] => match decide (0 ≤ n), decide (n ≤ 4611686018427387904), appOk n.toNat i.bytes, Nat.blt 0 i.size with
    | true, true, true, true => some (.sl 0, [some (.arr e i.size [])])
    | _, _, _, _ => none
  | _, _ => none

/-- The numbers at which slices.Grow is laid. -/
def renG (f s e tu it bo st ic : Nat) : Ren := ⟨fun _ => f, fun t => match t with | 0 => tu | 3 => it | 4 => bo | 9 => st | 20 => ic | 22 => s | _ => e, fun _ => 0⟩

theorem grow_lays {f s e tu it bo st ic : Nat} {is u0 u3 u4 u9 u20 : TI} (hm : P.follows .mixedOrders = true) (hf : Bears P f (Body8.n4 (renG f s e tu it bo st ic))) (hs : TyOK P s is) (h0 : TyOK P tu u0) (h3 : TyOK P it u3) (h4 : TyOK P bo u4) (h9 : TyOK P st u9) (h20 : TyOK P ic u20)
    (ds : is.desc = .slice e) (zs : is.zero = .slice none 0 0) (ss : is.size = 1) (d0 : u0.desc = .tuple #[]) (z0 : u0.zero = .tuple #[]) (s0 : u0.size = 1) (d3 : u3.desc = .int .i64) (z3 : u3.zero = .int .i64 0) (s3 : u3.size = 1)
    (d4 : u4.desc = .bool) (z4 : u4.zero = .bool false) (s4 : u4.size = 1) (d9 : u9.desc = .string) (z9 : u9.zero = .string ⟨#[]⟩) (s9 : u9.size = 1) (d20 : u20.desc = .interface #[]) (z20 : u20.zero = .nilIface) (s20 : u20.size = 1) : Lays8.n4 P (renG f s e tu it bo st ic) := by
  obtain ⟨_, a1, a2, a3, a4, a5⟩ := hs
  obtain ⟨_, b1, b2, b3, b4, b5⟩ := h0
  obtain ⟨_, c1, c2, c3, c4, c5⟩ := h3
  obtain ⟨_, e1, e2, e3, e4, e5⟩ := h4
  obtain ⟨_, f1, f2, f3, f4, f5⟩ := h9
  obtain ⟨_, g1, g2, g3, g4, g5⟩ := h20
  rw [ds] at a2; rw [zs] at a5; rw [ss] at a3
  rw [d0] at b2; rw [z0] at b5; rw [s0] at b3
  rw [d3] at c2; rw [z3] at c5; rw [s3] at c3
  rw [d4] at e2; rw [z4] at e5; rw [s4] at e3
  rw [d9] at f2; rw [z9] at f5; rw [s9] at f3
  rw [d20] at g2; rw [z20] at g5; rw [s20] at g3
  exact { mixed := hm, f4 := hf,
          t0 := b2, a0 := fun w => by simp [isAgg, run_underlying (show P.underlying ((renG f s e tu it bo st ic).t 0) = some (.tuple #[]) from b2)], z0 := fun w => by show (Go.sizeOf tu).run P w = _; simp [sizeOf, typeInfo, b1, b3], v0 := fun w => by show (zeroValue tu).run P w = _; simp [zeroValue, typeInfo, b1, b5],
          t3 := c2, a3 := fun w => by simp [isAgg, run_underlying (show P.underlying ((renG f s e tu it bo st ic).t 3) = some (.int .i64) from c2)], z3 := fun w => by show (Go.sizeOf it).run P w = _; simp [sizeOf, typeInfo, c1, c3], v3 := fun w => by show (zeroValue it).run P w = _; simp [zeroValue, typeInfo, c1, c5],
          t4 := e2, a4 := fun w => by simp [isAgg, run_underlying (show P.underlying ((renG f s e tu it bo st ic).t 4) = some .bool from e2)], z4 := fun w => by show (Go.sizeOf bo).run P w = _; simp [sizeOf, typeInfo, e1, e3], v4 := fun w => by show (zeroValue bo).run P w = _; simp [zeroValue, typeInfo, e1, e5],
          t9 := f2, a9 := fun w => by simp [isAgg, run_underlying (show P.underlying ((renG f s e tu it bo st ic).t 9) = some .string from f2)], z9 := fun w => by show (Go.sizeOf st).run P w = _; simp [sizeOf, typeInfo, f1, f3], v9 := fun w => by show (zeroValue st).run P w = _; simp [zeroValue, typeInfo, f1, f5],
          t20 := g2, a20 := fun w => by simp [isAgg, run_underlying (show P.underlying ((renG f s e tu it bo st ic).t 20) = some (.interface #[]) from g2)], z20 := fun w => by show (Go.sizeOf ic).run P w = _; simp [sizeOf, typeInfo, g1, g3], v20 := fun w => by show (zeroValue ic).run P w = _; simp [zeroValue, typeInfo, g1, g5],
          t22 := a2, a22 := fun w => by simp [isAgg, run_underlying (show P.underlying ((renG f s e tu it bo st ic).t 22) = some (.slice e) from a2)], z22 := fun w => by show (Go.sizeOf s).run P w = _; simp [sizeOf, typeInfo, a1, a3], v22 := fun w => by show (zeroValue s).run P w = _; simp [zeroValue, typeInfo, a1, a5] }

/-- slices.Grow's contract in the engine's form: of nil. -/
theorem ext_grow {f s e tu it bo st ic : Nat} {i : TI} (L : Lays8.n4 P (renG f s e tu it bo st ic)) (hfu : ∃ fu, P.funcs[f]? = some fu ∧ fu.body.isNone = false ∧ (fu.name == "runtime.NumGoroutine") = false) (he : TyOK P e i) (hz : i.zero.cells.size = i.size) : ExtOK P f (extGrow e i) := by
  refine ⟨hfu, fun args F v F1 hg B w A vals hR hl hrel => ?_⟩
  obtain ⟨ti, g1, g2, g3, g4, g5⟩ := he
  unfold extGrow at hg
  split at hg
  case h_2 => simp at hg
  rename_i n
  split at hg
  case h_2 => simp at hg
  rename_i c1 c2 c3 c4
  simp only [Option.some.injEq, Prod.mk.injEq] at hg
  obtain ⟨rfl, rfl⟩ := hg
  have h0 : 0 ≤ n := of_decide_eq_true c1
  have hn : n ≤ 4611686018427387904 := of_decide_eq_true c2
  obtain ⟨m, rfl⟩ := Int.eq_ofNat_of_zero_le h0
  have hby : m * i.bytes ≤ 140737488355328 := by have := Nat.ble_eq.mp c3; simpa using this
  have hsz : 0 < i.size := by have := c4; simp [Nat.blt_eq] at this; exact this
  have hA : A = [] := List.eq_nil_of_length_eq_zero (by rw [@Roots.len B _ _ _ hR]; rfl)
  subst hA
  have hvs : vals.size = 2 := hl.symm
  obtain ⟨u, u2, rfl⟩ : ∃ u u2, vals = #[u, u2] := by
    match vals, hvs with
    | ⟨[u, u2]⟩, _ => exact ⟨u, u2, rfl⟩
  have e1 := @RelV.lit_inv B _ _ _ _ (hrel 0 _ u rfl rfl)
  have e2 := @RelV.lit_inv B _ _ _ _ (hrel 1 _ u2 rfl rfl)
  subst e1; subst e2
  by_cases hm : m = 0
  · subst hm
    refine (Any8.slices_Grow_room L none 0 0 0 w (Nat.le_refl _) (by omega) (by omega) (by omega)).mono ?_
    rintro e' w' ⟨rfl, rfl⟩
    exact own_new (news := []) hsz (by simp) hR (World.ownsRow_nil _ _ _ _) (Go.RowKit.Below.refl _ _) (RepL.nil _ _)
  · refine (Any8.slices_Grow_grow L ti i.zero g1 g5 (by rw [g3]; exact hsz) none 0 0 m [] w (Nat.le_refl _) (by omega) (by rw [g4]; simpa using hby) (by omega) (by simp) (fun _ => rfl) (fun a h => by simp at h)).mono ?_
    rintro e' w' ⟨rfl, rfl⟩
    refine own_new (news := []) hsz (by simp) hR ?_ ?_ (RepL.nil _ _)
    · have hge := grownCap_ge w (0 + m) 0 e
      have hle := grownCap_le_maxLen w (0 + m) 0 e (by unfold maxLen; omega)
      generalize hG : grownCap w (0 + m) 0 ((renG f s e tu it bo st ic).t 25) = G
      have hG' : grownCap w (0 + m) 0 e = G := hG
      rw [hG'] at hge hle
      refine World.ownsRow_made (e := e) (base := w.heap.size) (size := i.size) w.drew (([] : List Value).toArray ++ Builtin.zeroCells i.zero.cells (0 + m - 0) ++ Builtin.zeroCells i.zero.cells (G - (0 + m))) G (Nat.le_refl _) hle ?_
      rw [Array.size_append, Array.size_append, size_zeroCells, size_zeroCells, hz]
      show 0 + (0 + m - 0) * i.size + (G - (0 + m)) * i.size = G * i.size
      rw [Nat.zero_add, ← Nat.add_mul]
      congr 1
      omega
    · refine ⟨rfl, rfl, rfl, ?_, fun k hk => ?_⟩
      · show w.heap.size ≤ (w.heap.push _).size
        rw [Array.size_push]; omega
      · show (w.heap.push _)[k]? = w.heap[k]?
        rw [Array.getElem?_push, if_neg (by omega)]
end
end Go.Proofs.YtjnhclnnobejgaaE
