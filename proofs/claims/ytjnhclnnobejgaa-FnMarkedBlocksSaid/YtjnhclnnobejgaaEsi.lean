/- The engine, a known contract: slices.Insert into a row of its caller's own; conditions: none. -/
import Derived.Test.YtjnhclnnobejgaaEs
import Derived.Shelf.Spec.SlicesInsertGrow
namespace Go.Proofs.YtjnhclnnobejgaaE
open Go.Proofs Go.Shelf Go.RowKit Go.Lib
set_option linter.unusedVariables false
set_option linter.unusedSimpArgs false

section
variable {P : Program} {ρ : Ren}

theorem copy_k (w : World) (dT sT ty elem : TypeId) (g o dLen dCap : Nat) (a : Addr) (sLen sCap k : Nat) (cur : Array Value) (t : TypeId) (cs : List Value) (fz : Nat × Nat) (hmk : Mk t cur fz)
    (hu : P.underlying dT = some (.slice elem)) (hs : (P.info? elem).map (·.size) = some k)
    (hg : w.heap[g]? = some (.cells cur t fz)) (hn : cs.length = Nat.min sLen dLen * k)
    (hsrc : ∀ j v, cs[j]? = some v → w.cell? (a.add j) = some v) (hfit : o + cs.length ≤ cur.size) (h1 : ∀ v ∈ cs, v.oneCell' = true) :
    (Builtin.copy_ #[dT, sT] ty #[.slice (some ⟨g, o, none⟩) dLen dCap, .slice (some a) sLen sCap]).run P w =
      .ok (goInt (Nat.min sLen dLen)) (w.setRow g (cur.toList.take o ++ cs ++ cur.toList.drop (o + cs.length)).toArray) := by
  have hl := run_loadCells_list (P := P) w a cs hsrc
  have hst := run_storeB P g o t fz cs 0 cur w hg hmk (by simpa using hfit) h1
  cases hq : P.info? elem with
  | none => simp [hq] at hs
  | some i =>
    have hi : i.size = k := by simpa [hq] using hs
    simp [Builtin.copy_, run_underlying hu, Builtin.lenOf, Builtin.firstCells, sizeOf, typeInfo, hq, hi, ← hn, hl, hst]

theorem unfz {w : World} {g j : Nat} {cur : Array Value} {e : TypeId} {fz : Nat × Nat} (hg : w.heap[g]? = some (.cells cur e fz)) (hm : Mk e cur fz) (hj : j < cur.size) : w.frozen? ⟨g, j, none⟩ = false := by
  rcases hm with rfl | h
  · simp [World.frozen?, hg]
  · have h := h.1
    obtain ⟨lo, hi'⟩ := fz
    simp only [World.frozen?, hg, Bool.and_eq_false_iff, decide_eq_false_iff_not]
    left
    simp only at h
    omega
theorem row2_eq {α : Type} (c cs vs : List α) (a b : Nat) (hb : vs.length = b) (h : a + b ≤ c.length) :
    (c.take (a + b) ++ cs ++ c.drop (a + b + cs.length)).toArray.toList.take a ++ vs ++ (c.take (a + b) ++ cs ++ c.drop (a + b + cs.length)).toArray.toList.drop (a + vs.length) = c.take a ++ vs ++ cs ++ c.drop (a + b + cs.length) := by
  subst hb
  have hl : (c.take (a + vs.length)).length = a + vs.length := by rw [List.length_take]; omega
  rw [List.toList_toArray, List.append_assoc (c.take _), List.take_append_of_le_length (by omega), List.take_take, Nat.min_eq_left (by omega), List.drop_append, List.drop_eq_nil_of_le (by omega), hl, Nat.sub_self, List.drop_zero, List.nil_append, List.append_assoc (c.take a ++ vs)]
/-- Where slices.Insert and what it calls lie. -/
structure InsLays (P : Program) (ρ : Ren) (e : TypeId) (k : Nat) : Prop where
  mixed : P.follows .mixedOrders = true
  f21 : Bears P (ρ.f 22) (Body2.n22 ρ)
  f27 : ∃ fn, P.funcs[ρ.f 29]? = some fn ∧ (fn.name == "runtime.NumGoroutine") = false ∧ fn.body.isNone = true ∧ Extern.findNext fn = none ∧ Extern.find fn = some (Extern.SlicesOverlaps.overlaps #[(ρ.t 24), (ρ.t 24)] #[(ρ.t 4)])
  t3 : P.underlying (ρ.t 3) = some (TypeDesc.int IntKind.i64)
  a3 : ∀ w, (isAgg (ρ.t 3)).run P w = .ok false w
  z3 : ∀ w, (Go.sizeOf (ρ.t 3)).run P w = .ok 1 w
  v3 : ∀ w, (zeroValue (ρ.t 3)).run P w = .ok (Value.int IntKind.i64 0) w
  t4 : P.underlying (ρ.t 4) = some (TypeDesc.bool)
  a4 : ∀ w, (isAgg (ρ.t 4)).run P w = .ok false w
  z4 : ∀ w, (Go.sizeOf (ρ.t 4)).run P w = .ok 1 w
  v4 : ∀ w, (zeroValue (ρ.t 4)).run P w = .ok (Value.bool false) w
  t22 : P.underlying (ρ.t 24) = some (TypeDesc.slice e)
  a22 : ∀ w, (isAgg (ρ.t 24)).run P w = .ok false w
  z22 : ∀ w, (Go.sizeOf (ρ.t 24)).run P w = .ok 1 w
  v22 : ∀ w, (zeroValue (ρ.t 24)).run P w = .ok (Value.slice none 0 0) w
  ze : ∀ w, (Go.sizeOf e).run P w = .ok k w
  ie : (P.info? e).map (·.size) = some k

set_option maxHeartbeats 4000000 in
set_option maxRecDepth 100000 in
/-- At the end. -/
theorem insert_end {e : TypeId} {k : Nat} (L : InsLays P ρ e k) (p : Option Addr) (n c vb m vc : Nat) (w w' : World) (v' : Value) (hm : 0 < m)
    (hrun : (Builtin.append_ #[(ρ.t 24), (ρ.t 24)] (ρ.t 24) #[.slice p n c, .slice (some ⟨vb, 0, none⟩) m vc]).run P w = .ok v' w') (hp : p = none → n = 0) (hnc : n ≤ c) :
    Calls P (ρ.f 22) #[.slice p n c, .int .i64 n, .slice (some ⟨vb, 0, none⟩) m vc] w fun e w2 => e = .returned v' ∧ w2 = w' := by
  have t3 := L.t3; have a3 := L.a3; have z3 := L.z3; have v3 := L.v3; have t4 := L.t4; have a4 := L.a4; have z4 := L.z4; have v4 := L.v4; have t22 := L.t22; have a22 := L.a22; have z22 := L.z22; have v22 := L.v22; have ze := L.ze
  have u3 := run_underlying L.t3; have u4 := run_underlying L.t4; have u22 := run_underlying L.t22
  have mixed := L.mixed
  have hz1 : ¬ ((m : Int) = 0) := by omega
  obtain ⟨_, _, FG⟩ := L.f21
  go_enter FG, Body2.n22_ntmps ρ
  cases p with
  | none =>
    have h0 := hp rfl
    subst h0
    go_wp2_with (at_builtin; refine Lib.wpList_append_run _ rfl _ _ _ _ rfl _ _ rfl rfl _ _ hrun ?_)
    go_ret
    exact ⟨rfl, rfl⟩
  | some a =>
    obtain ⟨ab, ao, asp⟩ := a
    go_wp2_with (at_builtin; refine Lib.wpList_append_run _ rfl _ _ _ _ rfl _ _ rfl rfl _ _ hrun ?_)
    all_goals (go_ret; exact ⟨rfl, rfl⟩)

set_option maxHeartbeats 4000000 in
set_option maxRecDepth 100000 in
/-- In place. -/
theorem insert_room {e : TypeId} {k : Nat} (L : InsLays P ρ e k) (hk : 0 < k) (g n c i vb m vc : Nat) (cur vcur : Array Value) (tb : TypeId) (w : World) (hi : i < n) (hm : 0 < m) (hroom : n + m ≤ c) (hc63 : c ≤ 9223372036854775807) (hvb : vb ≠ g)
    (fz : Nat × Nat) (hmk : Mk e cur fz) (hg : w.heap[g]? = some (.cells cur e fz)) (hcs : cur.size = c * k) (hv : w.heap[vb]? = some (.cells vcur tb (0, 0))) (hvs : m * k ≤ vcur.size)
    (h1c : ∀ v ∈ (cur.toList.take (n * k)), v.oneCell' = true) (h1v : ∀ v ∈ (vcur.toList.take (m * k)), v.oneCell' = true) :
    Calls P (ρ.f 22) #[.slice (some ⟨g, 0, none⟩) n c, .int .i64 i, .slice (some ⟨vb, 0, none⟩) m vc] w fun e w' =>
      e = .returned (.slice (some ⟨g, 0, none⟩) (n + m) c) ∧ ∃ cur', cur'.size = cur.size ∧ cur'.toList.take ((n + m) * k) = cur.toList.take (i * k) ++ vcur.toList.take (m * k) ++ (cur.toList.take (n * k)).drop (i * k) ∧ w' = w.drew.setRow g cur' := by
  have t3 := L.t3; have a3 := L.a3; have z3 := L.z3; have v3 := L.v3; have t4 := L.t4; have a4 := L.a4; have z4 := L.z4; have v4 := L.v4; have t22 := L.t22; have a22 := L.a22; have z22 := L.z22; have v22 := L.v22; have ze := L.ze
  have u3 := run_underlying L.t3; have u4 := run_underlying L.t4; have u22 := run_underlying L.t22
  have mixed := L.mixed
  have hz1 : ¬ ((m : Int) = 0) := by omega
  have hz2 : ¬ ((i : Int) = (n : Int)) := by omega
  have hck : 0 < cur.size := by rw [hcs]; exact Nat.mul_pos (by omega) hk
  have hvk : 0 < vcur.size := Nat.lt_of_lt_of_le (Nat.mul_pos hm hk) hvs
  have hov : ∀ o lb cb, (callFunc (ρ.f 29) #[.slice (some ⟨vb, 0, none⟩) m vc, .slice (some ⟨g, o, none⟩) lb cb]).run P w = .ok (.value (.bool false)) w := fun o lb cb => by
    obtain ⟨fn, f1, f2, f3, f4, f5⟩ := L.f27
    rw [run_callFunc_extern f1 f2 f3 f4 f5,
      Lib.run_overlaps_apart w (ρ.t 24) (ρ.t 4) e L.t22 k L.ze ⟨vb, 0, none⟩ ⟨g, o, none⟩ m vc lb cb hvb tb e vcur.size cur.size (by simp [World.shape?, hv]) (by simp [World.shape?, hg]) (by omega) (by simp [World.frozen?, hv]) (by simp [World.frozen?, hv])]
    rfl
  have hw1 : IntKind.i64.wrap ((i : Int) + (m : Int)) = (i : Int) + (m : Int) := by rw [IntKind.wrap_i64]; omega
  have hb1 : (0 : Int) ≤ (i : Int) + (m : Int) := by omega
  have hin : i ≤ n := by omega
  have htn : ((i : Int) + (m : Int)).toNat = i + m := by omega
  have hb2 : ¬ (c = i + m) := by omega
  have hb3 : (i : Int) ≤ (n : Int) + (m : Int) := by omega
  have hb4 : ¬ (c = i) := by omega
  obtain ⟨cs, hcsd⟩ : ∃ cs, (cur.toList.take (n * k)).drop (i * k) = cs := ⟨_, rfl⟩
  obtain ⟨vs, hvsd⟩ : ∃ vs, vcur.toList.take (m * k) = vs := ⟨_, rfl⟩
  have hnc : n * k ≤ c * k := Nat.mul_le_mul_right _ (by omega)
  have hcl : cs.length = (n - i) * k := by rw [← hcsd, List.length_drop, List.length_take, Array.length_toList, hcs, Nat.min_eq_left hnc, Nat.sub_mul]
  have hvl : vs.length = m * k := by rw [← hvsd, List.length_take, Array.length_toList, Nat.min_eq_left hvs]
  have e1 : (i + m) * k + (n - i) * k = (n + m) * k := by rw [← Nat.add_mul]; congr 1; omega
  have hnm : (n + m) * k ≤ c * k := Nat.mul_le_mul_right _ hroom
  have hgd : w.drew.heap[g]? = some (.cells cur e fz) := hg
  have hcp1 : ∀ ty dc sc, (Builtin.copy_ #[(ρ.t 24), (ρ.t 24)] ty #[.slice (some ⟨g, (i + m) * k, none⟩) (n + m - (i + m)) dc, .slice (some ⟨g, i * k, none⟩) (n + m - i) sc]).run P w.drew = .ok (goInt (Nat.min (n + m - i) (n + m - (i + m)))) (w.drew.setRow g (cur.toList.take ((i + m) * k) ++ cs ++ cur.toList.drop ((i + m) * k + cs.length)).toArray) := fun ty dc sc =>
    copy_k w.drew _ _ ty e g ((i + m) * k) (n + m - (i + m)) dc ⟨g, i * k, none⟩ (n + m - i) sc k cur e cs fz hmk L.t22 L.ie hgd (by rw [hcl]; congr 1; simp only [Nat.min_def]; split <;> omega)
      (fun j v hj => by
        rw [Addr.add_lit]
        have hlt := (List.getElem?_eq_some_iff.mp hj).1
        rw [← hcsd, List.getElem?_drop, List.getElem?_take] at hj
        split at hj
        · simpa [World.cell?, hgd] using hj
        · cases hj)
      (by rw [hcl, e1, hcs]; exact hnm) (fun v hv => h1c v (List.mem_of_mem_drop (by rw [hcsd]; exact hv)))
  obtain ⟨row1, hrow1⟩ : ∃ row1, (cur.toList.take ((i + m) * k) ++ cs ++ cur.toList.drop ((i + m) * k + cs.length)).toArray = row1 := ⟨_, rfl⟩
  rw [hrow1] at hcp1
  have hr1 : row1.size = cur.size := by
    have : (i + m) * k ≤ cur.size := by rw [hcs]; exact Nat.mul_le_mul_right _ (by omega)
    rw [← hrow1]; simp; rw [hcl]; rw [hcs] at this ⊢; omega
  have hg1 : (w.drew.setRow g row1).heap[g]? = some (.cells row1 e fz) := setRow_heap _ _ _ _ _ _ hgd
  have hv1 : (w.drew.setRow g row1).heap[vb]? = some (.cells vcur tb (0, 0)) := by rw [setRow_other _ _ _ _ hvb]; exact hv
  have hcp2 : ∀ ty dc, (Builtin.copy_ #[(ρ.t 24), (ρ.t 24)] ty #[.slice (some ⟨g, i * k, none⟩) (n + m - i) dc, .slice (some ⟨vb, 0, none⟩) m vc]).run P (w.drew.setRow g row1) = .ok (goInt (Nat.min m (n + m - i))) ((w.drew.setRow g row1).setRow g (row1.toList.take (i * k) ++ vs ++ row1.toList.drop (i * k + vs.length)).toArray) := fun ty dc =>
    copy_k _ _ _ ty e g (i * k) (n + m - i) dc ⟨vb, 0, none⟩ m vc k row1 e vs fz (hmk.of hr1) L.t22 L.ie hg1 (by rw [hvl]; congr 1; simp only [Nat.min_def]; split <;> omega)
      (fun j v hj => by
        rw [Addr.add_lit]
        rw [← hvsd, List.getElem?_take] at hj
        split at hj
        · simpa [World.cell?, hv1] using hj
        · cases hj)
      (by rw [hvl, hr1, hcs, ← Nat.add_mul]; exact Nat.mul_le_mul_right _ (by omega)) (fun v hv => h1v v (by rw [hvsd]; exact hv))
  rw [setRow_setRow] at hcp2
  obtain ⟨row2, hrow2⟩ : ∃ row2, (row1.toList.take (i * k) ++ vs ++ row1.toList.drop (i * k + vs.length)).toArray = row2 := ⟨_, rfl⟩
  rw [hrow2] at hcp2
  have hcl' : (i + m) * k ≤ cur.toList.length := by rw [Array.length_toList, hcs]; exact Nat.mul_le_mul_right _ (by omega)
  have hrow : row2.toList = cur.toList.take (i * k) ++ vs ++ cs ++ cur.toList.drop ((i + m) * k + cs.length) := by
    rw [← hrow2, ← hrow1, List.toList_toArray]
    rw [Nat.add_mul] at hcl' ⊢
    exact row2_eq _ cs vs _ _ hvl hcl'
  have hall : (cur.toList.take (i * k) ++ vs ++ cs).length = (n + m) * k := by
    rw [List.length_append, List.length_append, List.length_take, hvl, hcl, Nat.min_eq_left (by rw [Nat.add_mul] at hcl'; omega), ← e1, Nat.add_mul]
  have q1 : row2.size = cur.size := by
    rw [← Array.length_toList, hrow, List.length_append, hall, List.length_drop, hcl, e1, Array.length_toList, hcs]
    omega
  have q2 : row2.toList.take ((n + m) * k) = cur.toList.take (i * k) ++ vs ++ cs := by rw [hrow]; exact List.take_left' hall
  clear hrow hall hr1 hg1 hv1
  obtain ⟨_, _, FG⟩ := L.f21
  go_enter FG, Body2.n22_ntmps ρ
  go_wp2_with (simp only [hov])
  go_region_law_o (refine step_copy_runI rfl _ _ (ρ.t 24) (ρ.t 24) rfl _ _ (by simp [Act.eval, Act.put]) (by simp [Act.eval, Act.put]) (hcp1 _ _ _) ?_)
  go_wp2_with (at_builtin; refine wpList_copy_runI _ rfl _ _ (ρ.t 24) (ρ.t 24) rfl _ _ rfl rfl (hcp2 _ _) ?_)
  go_ret
  exact ⟨rfl, row2, q1, by rw [hvsd, hcsd]; exact q2, rfl⟩
set_option maxHeartbeats 4000000 in
set_option maxRecDepth 100000 in
/-- A new row. -/
theorem insert_grow {e : TypeId} {k : Nat} (L : InsLays P ρ e k) (i0 : TypeInfo) (z : Value) (hi0 : P.info? e = some i0) (hz0 : i0.zero = some z) (hzk : z.cells.size = k) (hk0 : i0.size = k) (hk : 0 < k) (g n c i vb m vc : Nat) (cur vcur : Array Value) (tb : TypeId) (w : World) (hi : i < n) (hm : 0 < m) (hnc : n ≤ c) (hroom : c < n + m) (hbig : (n + m) * i0.bytes ≤ 140737488355328) (h63 : n + m ≤ maxLen) (hvb : vb ≠ g)
    (fz : Nat × Nat) (hmk : Mk e cur fz) (hg : w.heap[g]? = some (.cells cur e fz)) (hcs : cur.size = c * k) (hv : w.heap[vb]? = some (.cells vcur tb (0, 0))) (hvs : m * k ≤ vcur.size)
    (h1c : ∀ v ∈ (cur.toList.take (n * k)), v.oneCell' = true) (h1v : ∀ v ∈ (vcur.toList.take (m * k)), v.oneCell' = true) :
    Calls P (ρ.f 22) #[.slice (some ⟨g, 0, none⟩) n c, .int .i64 i, .slice (some ⟨vb, 0, none⟩) m vc] w fun ex w' =>
      ∃ G row, ex = .returned (.slice (some ⟨w.heap.size, 0, none⟩) (n + m) G) ∧ n + m ≤ G ∧ G ≤ maxLen ∧ w'.heap[w.heap.size]? = some (.cells row e (0, 0)) ∧ row.size = G * k ∧ row.toList.take ((n + m) * k) = cur.toList.take (i * k) ++ vcur.toList.take (m * k) ++ (cur.toList.take (n * k)).drop (i * k) ∧ w.grownBy w' none := by
  have t3 := L.t3; have a3 := L.a3; have z3 := L.z3; have v3 := L.v3; have t4 := L.t4; have a4 := L.a4; have z4 := L.z4; have v4 := L.v4; have t22 := L.t22; have a22 := L.a22; have z22 := L.z22; have v22 := L.v22; have ze := L.ze
  have u3 := run_underlying L.t3; have u4 := run_underlying L.t4; have u22 := run_underlying L.t22
  have mixed := L.mixed
  have hz1 : ¬ ((m : Int) = 0) := by omega
  have hz2 : ¬ ((i : Int) = (n : Int)) := by omega
  have hz3 : (c : Int) < (n : Int) + (m : Int) := by omega
  have hgw : g < w.heap.size := (Array.getElem?_eq_some_iff.mp hg).1
  have hvw : vb < w.heap.size := (Array.getElem?_eq_some_iff.mp hv).1
  have hkk : (n : Int) + (m : Int) - (i : Int) = ((n + m - i : Nat) : Int) := by omega
  have hik : i + (n + m - i) = n + m := by omega
  obtain ⟨cs, hcsd⟩ : ∃ cs, (cur.toList.take (n * k)).drop (i * k) = cs := ⟨_, rfl⟩
  obtain ⟨vs, hvsd⟩ : ∃ vs, vcur.toList.take (m * k) = vs := ⟨_, rfl⟩
  obtain ⟨os, hosd⟩ : ∃ os, cur.toList.take (i * k) = os := ⟨_, rfl⟩
  have hnck : n * k ≤ c * k := Nat.mul_le_mul_right _ hnc
  have hick : i * k ≤ c * k := Nat.mul_le_mul_right _ (by omega)
  have hcl : cs.length = (n - i) * k := by rw [← hcsd, List.length_drop, List.length_take, Array.length_toList, hcs, Nat.min_eq_left hnck, Nat.sub_mul]
  have hvl : vs.length = m * k := by rw [← hvsd, List.length_take, Array.length_toList, Nat.min_eq_left hvs]
  have hol : os.length = i * k := by rw [← hosd, List.length_take, Array.length_toList, hcs, Nat.min_eq_left hick]
  have hold : (Builtin.firstCells i0.size i (.slice (some ⟨g, 0, none⟩) i c)).run P w.drew = .ok os.toArray w.drew := by
    exact run_firstCells_some w.drew i0.size i ⟨g, 0, none⟩ i c os (by rw [hol, hk0]) (fun j v hj => by
      rw [Addr.add_lit, Nat.zero_add]
      rw [← hosd, List.getElem?_take] at hj
      split at hj
      · have : w.drew.heap[g]? = some (.cells cur e fz) := hg
        simpa [World.cell?, this] using hj
      · cases hj)
  have hrz : ∀ ty, (Builtin.append_ #[(ρ.t 24), (ρ.t 3)] ty #[.slice (some ⟨g, 0, none⟩) i c, .int .i64 ((n : Int) + (m : Int) - (i : Int))]).run P w =
      .ok (.slice (some ⟨w.heap.size, 0, none⟩) (n + m) (grownCap w (n + m) c e)) (w.drew.alloc (.cells (os.toArray ++ Builtin.zeroCells z.cells (n + m - i) ++ Builtin.zeroCells z.cells (grownCap w (n + m) c e - (n + m))) e)) := fun ty => by
    have hbk : (n + m - i) * i0.bytes ≤ (n + m) * i0.bytes := Nat.mul_le_mul_right _ (by omega)
    have h := Lib.run_append_grow_zeros w (ρ.t 24) (ρ.t 3) ty e i0 z .i64 .i64 L.t22 L.t3 hi0 hz0 (some ⟨g, 0, none⟩) i c os hold (n + m - i) (by omega) (by omega) (by omega) (by unfold maxLen at h63; omega) (by omega) (by rw [hik]; exact growslice_fits hroom hbig)
    rw [hik] at h
    rw [hkk]
    exact h
  obtain ⟨G, hG⟩ : ∃ G, grownCap w (n + m) c e = G := ⟨_, rfl⟩
  have hGn : n + m ≤ G := by rw [← hG]; exact grownCap_ge w _ _ _
  have hGm : G ≤ maxLen := by rw [← hG]; exact grownCap_le_maxLen w (n + m) c e h63
  rw [hG] at hrz
  obtain ⟨ROW, hROW⟩ : ∃ ROW : Array Value, os.toArray ++ Builtin.zeroCells z.cells (n + m - i) ++ Builtin.zeroCells z.cells (G - (n + m)) = ROW := ⟨_, rfl⟩
  rw [hROW] at hrz
  have hRs : ROW.size = G * k := by
    rw [← hROW, Array.size_append, Array.size_append, List.size_toArray, hol, size_zeroCells, size_zeroCells, hzk, ← Nat.add_mul, ← Nat.add_mul]
    congr 1; omega
  have hRt : ROW.toList.take (i * k) = os := by
    rw [← hROW, Array.toList_append, Array.toList_append, List.append_assoc, ← hol]
    exact List.take_left' rfl
  obtain ⟨N, hN⟩ : ∃ N, w.heap.size = N := ⟨_, rfl⟩
  rw [hN] at hrz hgw hvw ⊢
  obtain ⟨W1, hW1⟩ : ∃ W1, w.drew.alloc (.cells ROW e) = W1 := ⟨_, rfl⟩
  rw [hW1] at hrz
  have h1N : W1.heap[N]? = some (.cells ROW e (0, 0)) := by rw [← hW1, ← hN]; exact Array.getElem?_push_size
  have h1o : ∀ b, b < N → W1.heap[b]? = w.heap[b]? := fun b hb => by
    rw [← hW1]
    show (w.heap.push _)[b]? = _
    rw [Array.getElem?_push_lt (by omega), Array.getElem?_eq_getElem (by omega)]
  obtain ⟨row1, hrow1⟩ : ∃ row1, (ROW.toList.take (i * k) ++ vs ++ ROW.toList.drop (i * k + vs.length)).toArray = row1 := ⟨_, rfl⟩
  have hnG : (n + m) * k ≤ G * k := Nat.mul_le_mul_right _ hGn
  have hiv : i * k + m * k ≤ (n + m) * k := by rw [← Nat.add_mul]; exact Nat.mul_le_mul_right _ (by omega)
  have hcpA : ∀ (W : World), W.heap = W1.heap → ∀ ty dc, (Builtin.copy_ #[(ρ.t 24), (ρ.t 24)] ty #[.slice (some ⟨N, i * k, none⟩) (n + m - i) dc, .slice (some ⟨vb, 0, none⟩) m vc]).run P W = .ok (goInt (Nat.min m (n + m - i))) (W.setRow N row1) := fun W hW ty dc => by
    rw [← hrow1]
    exact copy_k _ _ _ ty e N (i * k) (n + m - i) dc ⟨vb, 0, none⟩ m vc k ROW e vs (0, 0) (.z _ _) L.t22 L.ie (by rw [hW]; exact h1N) (by rw [hvl]; congr 1; simp only [Nat.min_def]; split <;> omega)
      (fun j v hj => by
        rw [Addr.add_lit]
        rw [← hvsd, List.getElem?_take] at hj
        split at hj
        · have : W.heap[vb]? = some (.cells vcur tb (0, 0)) := by rw [hW, h1o _ hvw]; exact hv
          simpa [World.cell?, this] using hj
        · cases hj)
      (by rw [hvl, hRs]; omega) (fun v hv => h1v v (by rw [hvsd]; exact hv))
  have hr1s : row1.size = G * k := by
    rw [← hrow1]; simp; rw [hvl, hRs]; omega
  have hr1t : row1.toList.take ((i + m) * k) = os ++ vs := by
    rw [← hrow1, List.toList_toArray, hRt]
    exact List.take_left' (by rw [List.length_append, hol, hvl, Nat.add_mul])
  have hr1N : ∀ (W : World), W.heap = W1.heap → (W.setRow N row1).heap[N]? = some (.cells row1 e (0, 0)) := fun W hW => setRow_heap _ _ _ _ _ _ (by rw [hW]; exact h1N)
  have hr1o : ∀ (W : World), W.heap = W1.heap → ∀ b, b < N → (W.setRow N row1).heap[b]? = w.heap[b]? := fun W hW b hb => by rw [setRow_other _ _ _ _ (by omega), hW, h1o b hb]
  obtain ⟨row2, hrow2⟩ : ∃ row2, (row1.toList.take ((i + m) * k) ++ cs ++ row1.toList.drop ((i + m) * k + cs.length)).toArray = row2 := ⟨_, rfl⟩
  have e1 : (i + m) * k + (n - i) * k = (n + m) * k := by rw [← Nat.add_mul]; congr 1; omega
  have hcpB : ∀ (W : World), W.heap = (W1.setRow N row1).heap → ∀ ty dc sc, (Builtin.copy_ #[(ρ.t 24), (ρ.t 24)] ty #[.slice (some ⟨N, (i + m) * k, none⟩) (n + m - (i + m)) dc, .slice (some ⟨g, i * k, none⟩) (n - i) sc]).run P W = .ok (goInt (Nat.min (n - i) (n + m - (i + m)))) (W.setRow N row2) := fun W hW ty dc sc => by
    rw [← hrow2]
    exact copy_k _ _ _ ty e N ((i + m) * k) (n + m - (i + m)) dc ⟨g, i * k, none⟩ (n - i) sc k row1 e cs (0, 0) (.z _ _) L.t22 L.ie (by rw [hW]; exact hr1N _ rfl) (by rw [hcl]; congr 1; simp only [Nat.min_def]; split <;> omega)
      (fun j v hj => by
        rw [Addr.add_lit]
        rw [← hcsd, List.getElem?_drop, List.getElem?_take] at hj
        split at hj
        · have : W.heap[g]? = some (.cells cur e fz) := by rw [hW, hr1o _ rfl _ hgw]; exact hg
          simpa [World.cell?, this] using hj
        · cases hj)
      (by rw [hcl, hr1s]; omega) (fun v hv => h1c v (List.mem_of_mem_drop (by rw [hcsd]; exact hv)))
  have q1 : row2.size = G * k := by
    rw [← hrow2]; simp; rw [hcl, hr1s]; omega
  have q2 : row2.toList.take ((n + m) * k) = os ++ vs ++ cs := by
    rw [← hrow2, List.toList_toArray, hr1t]
    exact List.take_left' (by rw [List.length_append, List.length_append, hol, hvl, hcl, ← Nat.add_mul, e1])
  have fin : ∀ (W : World), W.heap = (W1.setRow N row1).heap → W.os = w.os → W.tape = w.tape → W.output = w.output → (W.setRow N row2).heap[N]? = some (.cells row2 e (0, 0)) ∧ w.grownBy (W.setRow N row2) none := fun W hW h1 h2 h3 => by
    refine ⟨setRow_heap _ _ _ _ _ _ (by rw [hW]; exact hr1N _ rfl), h1, h2, h3, ?_, fun b hb _ => ?_⟩
    · have := (Array.getElem?_eq_some_iff.mp (setRow_heap W N _ row2 _ _ (by rw [hW]; exact hr1N _ rfl))).1
      omega
    · rw [setRow_other _ _ _ _ (by omega), hW]; exact hr1o _ rfl b (by omega)
  have hG63 : G ≤ 9223372036854775807 := by unfold maxLen at hGm; omega
  have hGi : ¬ (G = i) := by omega
  have hGim : ¬ (G = i + m) := by omega
  have hci : ¬ (c = i) := by omega
  have hw1 : IntKind.i64.wrap ((i : Int) + (m : Int)) = (i : Int) + (m : Int) := by rw [IntKind.wrap_i64]; unfold maxLen at hGm; omega
  have hb1 : (0 : Int) ≤ (i : Int) + (m : Int) := by omega
  have hin : i ≤ n := by omega
  have htn : ((i : Int) + (m : Int)).toNat = i + m := by omega
  have hb3 : (i : Int) ≤ (n : Int) := by omega
  subst hW1
  have hE1 : ((w.alloc (.cells ROW e)).drew).heap = (w.drew.alloc (.cells ROW e)).heap := rfl
  have hF1 : (((w.alloc (.cells ROW e)).drew.setRow N row1).drew).heap = ((w.drew.alloc (.cells ROW e)).setRow N row1).heap := rfl
  clear hkk hik hG hROW hrow1 hrow2 hr1N hr1o h1N h1o hr1s hr1t hRs hRt
  obtain ⟨_, _, FG⟩ := L.f21
  go_enter FG, Body2.n22_ntmps ρ
  go_wp2_with (first
    | (at_builtin; refine Lib.wpList_append_run _ rfl _ _ _ _ rfl _ _ rfl rfl _ _ (hrz _) ?_)
    | (at_builtin; refine wpList_copy_runI _ rfl _ _ (ρ.t 24) (ρ.t 24) rfl _ _ rfl rfl (hcpA _ rfl _ _) ?_)
    | (at_builtin; refine wpList_copy_runI _ rfl _ _ (ρ.t 24) (ρ.t 24) rfl _ _ rfl rfl (hcpB _ rfl _ _ _) ?_))
  go_region_law_o (refine step_copy_runI rfl _ _ (ρ.t 24) (ρ.t 24) rfl (.slice (some ⟨N, (i + m) * k, none⟩) (n + m - (i + m)) (G - (i + m))) (.slice (some ⟨g, i * k, none⟩) (n - i) (c - i)) (by simp [Act.eval, Act.put]) (by simp [Act.eval, Act.put]) (hcpB _ hF1 (ρ.t 3) (G - (i + m)) (c - i)) ?_)
  go_wp2
  go_ret
  obtain ⟨f1, f2⟩ := fin _ hF1 rfl rfl rfl
  exact ⟨G, row2, rfl, hGn, hGm, f1, q1, by rw [hosd, hvsd, hcsd]; exact q2, f2⟩

/-- slices.Insert into a row of the caller's own, what is put in being another such row. -/
theorem insert_run {e : TypeId} {k : Nat} (L : InsLays P ρ e k) (i0 : TypeInfo) (z : Value) (hi0 : P.info? e = some i0) (hz0 : i0.zero = some z) (hzk : z.cells.size = k) (hk0 : i0.size = k) (hk : 0 < k) {w : World} {v u vv uv : Value} {n m j : Nat} {e2 : TypeId} {xs ys : List Value}
    (how : ownsB w 0 e k v n xs) (hu : SlOf v u) (he2 : e2 ≠ U8) (howv : ownsB w 0 e2 k vv m ys) (huv : SlOf vv uv) (hm : 0 < m) (hj : j ≤ n) (hne : ∀ b, v.ownBlock = some b → vv.ownBlock = some b → False)
    (h1x : ∀ v ∈ xs, v.oneCell' = true) (h1y : ∀ v ∈ ys, v.oneCell' = true) (hbig : (n + m) * i0.bytes ≤ 140737488355328) (h63 : n + m ≤ maxLen) :
    Calls P (ρ.f 22) #[u, .int .i64 j, uv] w fun ex w' => ∃ v' u', ex = .returned u' ∧ SlOf v' u' ∧ ownsB w' 0 e k v' (n + m) (xs.take (j * k) ++ ys ++ xs.drop (j * k)) ∧ w.grownBy w' v.ownBlock ∧ (∀ b, v'.ownBlock = some b → v.ownBlock = some b ∨ w.heap.size ≤ b) := by
  obtain ⟨hyl, ⟨_, h0⟩ | ⟨vb, vc, vcur, rfl, _, ⟨fv, hv, hmv⟩, hmc, _, hvs, hvt⟩⟩ := howv
  · omega
  have hfv := hmv.no he2
  subst hfv
  obtain ⟨_, rfl | ⟨h, _⟩⟩ := huv
  case inr => simp at h
  have hvs' : m * k ≤ vcur.size := by rw [hvs]; exact Nat.mul_le_mul_right _ hmc
  by_cases hjn : j = n
  · subst hjn
    obtain ⟨v', u', w', r1, r2, r3, r4, r5⟩ := append_run2 (P := P) (ty := ρ.t 24) L.t22 hi0 hz0 hk0 hzk hk how hu (u := .slice (some ⟨vb, 0, none⟩) m vc) (m := m) (news := ys) hyl h1y (.inr ⟨_, _, rfl, fun i x hx => by
      rw [add_at, Nat.zero_add]
      rw [← hvt, List.getElem?_take] at hx
      split at hx
      · simpa [World.cell?, hv] using hx
      · cases hx⟩) h63 hbig
    have hxl : xs.length = j * k := how.1
    obtain ⟨p, n', c, rfl, hp, hnc, hn'⟩ : ∃ p n' c, u = .slice p n' c ∧ (p = none → n' = 0) ∧ n' ≤ c ∧ n' = j := by
      obtain ⟨_, ⟨rfl, h0⟩ | ⟨g, cap, cur, rfl, _, _, hcap, _⟩⟩ := how
      · obtain ⟨_, rfl | ⟨_, p, rfl⟩⟩ := hu
        · exact ⟨none, 0, 0, rfl, fun _ => rfl, Nat.le_refl _, h0.symm⟩
        · exact ⟨p, 0, 0, rfl, fun _ => rfl, Nat.le_refl _, h0.symm⟩
      · obtain ⟨_, rfl | ⟨h, _⟩⟩ := hu
        · exact ⟨_, _, _, rfl, fun h => by simp at h, hcap, rfl⟩
        · simp at h
    subst hn'
    refine (insert_end L p n' c vb m vc w w' u' hm r1 hp hnc).mono ?_
    rintro ex w2 ⟨rfl, rfl⟩
    refine ⟨v', u', rfl, r2, ?_, r4, r5⟩
    rw [← hxl, List.take_length, List.drop_length, List.append_nil]
    exact r3
  obtain ⟨hxl, ⟨_, h0⟩ | ⟨g, c, cur, rfl, _, ⟨fz, hg, hmk⟩, hnc, hcm, hcs, hct⟩⟩ := how
  · omega
  obtain ⟨_, rfl | ⟨h, _⟩⟩ := hu
  case inr => simp at h
  have hvb : vb ≠ g := fun h => hne g rfl (by rw [h]; rfl)
  have htt : cur.toList.take (j * k) = xs.take (j * k) := by rw [← hct, List.take_take, Nat.min_eq_left (Nat.mul_le_mul_right _ hj)]
  by_cases hroom : n + m ≤ c
  · refine (insert_room L hk g n c j vb m vc cur vcur e2 w (by omega) hm hroom (by unfold maxLen at hcm; omega) hvb fz hmk hg hcs hv hvs' (by rw [hct]; exact h1x) (by rw [hvt]; exact h1y)).mono ?_
    rintro ex w' ⟨rfl, cur', q1, q2, rfl⟩
    have hgd : w.drew.heap[g]? = some (.cells cur e fz) := hg
    have hl : (xs.take (j * k) ++ ys ++ xs.drop (j * k)).length = (n + m) * k := by
      rw [List.length_append, List.length_append, List.length_take, List.length_drop, hxl, hyl, Nat.add_mul]
      have := Nat.mul_le_mul_right k hj
      omega
    refine ⟨_, _, rfl, .of _ _ _, ⟨hl, .inr ⟨g, c, cur', rfl, Nat.zero_le _, ⟨fz, setRow_heap _ _ _ _ _ _ hgd, hmk.of q1⟩, hroom, hcm, by rw [q1, hcs], by rw [q2, htt, hvt, hct]⟩⟩, ⟨rfl, rfl, rfl, ?_, fun b hb hbn => ?_⟩, fun b hb => .inl hb⟩
    · show w.heap.size ≤ (w.heap.modify _ _).size
      simp
    · rw [setRow_other _ _ _ _ (fun h => hbn (by rw [h]; rfl))]; rfl
  · refine (insert_grow L i0 z hi0 hz0 hzk hk0 hk g n c j vb m vc cur vcur e2 w (by omega) hm hnc (by omega) hbig h63 hvb fz hmk hg hcs hv hvs' (by rw [hct]; exact h1x) (by rw [hvt]; exact h1y)).mono ?_
    rintro ex w' ⟨G, row, rfl, q1, q2, q3, q4, q5, q6⟩
    have hl : (xs.take (j * k) ++ ys ++ xs.drop (j * k)).length = (n + m) * k := by
      rw [List.length_append, List.length_append, List.length_take, List.length_drop, hxl, hyl, Nat.add_mul]
      have := Nat.mul_le_mul_right k hj
      omega
    refine ⟨_, _, rfl, .of _ _ _, ⟨hl, .inr ⟨_, G, row, rfl, Nat.zero_le _, ⟨_, q3, .z _ _⟩, q1, q2, q4, by rw [q5, htt, hvt, hct]⟩⟩, ⟨q6.os, q6.tape, q6.output, q6.size, fun b hb _ => q6.block b hb (by simp)⟩, fun b hb => .inr ?_⟩
    simp only [Value.ownBlock, Option.some.injEq] at hb
    omega

/-- What slices.Insert answers: the list goes, a new one comes. -/
def extInsert (e : TypeId) (i : TI) : List V → Fo → Option (V × Fo) := fun args F => match args, F with
  | [.sl 0, .d (.lit (.int .i64 j)), .sl 1], [some (.arr e1 es rows), some (.arr e2 es2 news)] => match Nat.beq e1 e, Nat.beq es i.size, Nat.beq es2 i.size, decide (0 ≤ j), decide (j ≤ (rows.length : Int)), Nat.beq e2 U8 with
    | true, true, true, true, true, false => match appOk (rows.length + news.length) i.bytes, Nat.blt 0 i.bytes, Nat.blt 0 news.length with
      | true, true, true => some (.sl 2, [none, some (.arr e2 es2 news), some (.arr e i.size (rows.take j.toNat ++ news ++ rows.drop j.toNat))])
      | _, _, _ => none
    | _, _, _, _, _, _ => none
  | _, _ => none

theorem flat_cut {α : Type} {k : Nat} : ∀ (rows : List (List α)) (j : Nat), (∀ r ∈ rows, r.length = k) → (rows.take j).flatten = rows.flatten.take (j * k) ∧ (rows.drop j).flatten = rows.flatten.drop (j * k)
  | [], j, _ => by simp
  | r :: rows, 0, _ => by simp
  | r :: rows, j + 1, h => by
    have hr := h r (by simp)
    obtain ⟨h1, h2⟩ := flat_cut rows j fun x hx => h x (by simp [hx])
    simp only [List.take_succ_cons, List.drop_succ_cons, List.flatten_cons, h1, h2, List.take_append, List.drop_append, hr]
    have : (j + 1) * k - k = j * k := by rw [Nat.add_mul, Nat.one_mul, Nat.add_sub_cancel]
    rw [this, List.take_of_length_le (l := r) (by rw [hr, Nat.add_mul]; omega), List.drop_eq_nil_of_le (show r.length ≤ (j + 1) * k by rw [hr, Nat.add_mul]; omega)]
    simp

theorem RepL.take {w : World} {S : Nat → Prop} {ds : List D} {vs : List Value} (h : RepL w S ds vs) (n : Nat) : RepL w S (ds.take n) (vs.take n) := by
  refine ⟨by rw [List.length_take, List.length_take, h.1], fun i x v h1 h2 => ?_⟩
  rw [List.getElem?_take] at h1 h2
  split at h1
  · rename_i hi
    rw [if_pos hi] at h2
    exact h.2 i x v h1 h2
  · cases h1
theorem RepL.drop {w : World} {S : Nat → Prop} {ds : List D} {vs : List Value} (h : RepL w S ds vs) (n : Nat) : RepL w S (ds.drop n) (vs.drop n) := by
  refine ⟨by rw [List.length_drop, List.length_drop, h.1], fun i x v h1 h2 => ?_⟩
  rw [List.getElem?_drop] at h1 h2
  exact h.2 _ x v h1 h2

/-- The numbers at which slices.Insert is laid. -/
def renI (f s e t0 t3 t4 f29 f30 : Nat) : Ren := ⟨fun n => match n with | 22 => f | 29 => f29 | _ => f30, fun t => match t with | 24 => s | 9 => e | 3 => t3 | 4 => t4 | _ => t0, fun _ => 0⟩

theorem insert_lays {f s e t0 t3 t4 f29 f30 : Nat} {is ii ib ie : TI} {fn : Func} (hm : P.follows .mixedOrders = true) (hf : Bears P f (Body2.n22 (renI f s e t0 t3 t4 f29 f30)))
    (h27 : P.funcs[f29]? = some fn) (h27n : (fn.name == "runtime.NumGoroutine") = false) (h27b : fn.body.isNone = true) (h27f : Extern.findNext fn = none) (h27e : Extern.find fn = some (Extern.SlicesOverlaps.overlaps #[s, s] #[t4]))
    (hs : TyOK P s is) (hi : TyOK P t3 ii) (hb : TyOK P t4 ib) (he : TyOK P e ie) (ds : is.desc = .slice e) (zs : is.zero = .slice none 0 0) (ss : is.size = 1)
    (di : ii.desc = .int .i64) (zi : ii.zero = .int .i64 0) (si : ii.size = 1)
    (db : ib.desc = .bool) (zb : ib.zero = .bool false) (sb : ib.size = 1) : InsLays P (renI f s e t0 t3 t4 f29 f30) e ie.size := by
  obtain ⟨ts, s1, s2, s3, s4, s5⟩ := hs
  obtain ⟨tb, b1, b2, b3, b4, b5⟩ := hb
  obtain ⟨ti, i1, i2, i3, i4, i5⟩ := hi
  obtain ⟨te, e1, e2, e3, e4, e5⟩ := he
  rw [ds] at s2
  rw [db] at b2
  rw [di] at i2
  rw [zs] at s5
  rw [zb] at b5
  rw [zi] at i5
  rw [ss] at s3
  rw [sb] at b3
  rw [si] at i3
  exact { mixed := hm, f21 := hf, f27 := ⟨fn, h27, h27n, h27b, h27f, h27e⟩,
          t3 := i2, a3 := fun w => by simp [isAgg, run_underlying (show P.underlying ((renI f s e t0 t3 t4 f29 f30).t 3) = some (.int .i64) from i2)], z3 := fun w => by show (Go.sizeOf t3).run P w = _; simp [sizeOf, typeInfo, i1, i3], v3 := fun w => by show (zeroValue t3).run P w = _; simp [zeroValue, typeInfo, i1, i5],
          t4 := b2, a4 := fun w => by simp [isAgg, run_underlying (show P.underlying ((renI f s e t0 t3 t4 f29 f30).t 4) = some .bool from b2)], z4 := fun w => by show (Go.sizeOf t4).run P w = _; simp [sizeOf, typeInfo, b1, b3], v4 := fun w => by show (zeroValue t4).run P w = _; simp [zeroValue, typeInfo, b1, b5],
          t22 := s2, a22 := fun w => by simp [isAgg, run_underlying (show P.underlying ((renI f s e t0 t3 t4 f29 f30).t 24) = some (.slice e) from s2)], z22 := fun w => by show (Go.sizeOf s).run P w = _; simp [sizeOf, typeInfo, s1, s3], v22 := fun w => by show (zeroValue s).run P w = _; simp [zeroValue, typeInfo, s1, s5],
          ze := fun w => by simp [sizeOf, typeInfo, e1, e3], ie := by rw [e1, Option.map_some, e3] }

/-- slices.Insert's contract in the engine's form. -/
theorem ext_insert {f : FuncId} {e : TypeId} {i : TI} (hf : ρ.f 22 = f) (L : InsLays P ρ e i.size) (hfu : ∃ fu, P.funcs[f]? = some fu ∧ fu.body.isNone = false ∧ (fu.name == "runtime.NumGoroutine") = false) (he : TyOK P e i) (hz : i.zero.cells.size = i.size) (hsz : 0 < i.size) : ExtOK P f (extInsert e i) := by
  subst hf
  refine ⟨hfu, fun args F v F1 hg B w A vals hR hl hrel => ?_⟩
  unfold extInsert at hg
  split at hg
  rotate_left
  · simp at hg
  rename_i j e1 es rows e2 es2 news
  split at hg
  rotate_left
  · simp at hg
  rename_i c1 c2 c3 c4 c5 c5b
  split at hg
  rotate_left
  · simp at hg
  rename_i c6 c7 c8
  simp only [Option.some.injEq, Prod.mk.injEq] at hg
  obtain ⟨rfl, rfl⟩ := hg
  obtain ⟨ti, g1, g2, g3, g4, g5⟩ := he
  have q1 : e1 = e := Nat.eq_of_beq_eq_true c1
  have q2 : es = i.size := Nat.eq_of_beq_eq_true c2
  have q3 : es2 = i.size := Nat.eq_of_beq_eq_true c3
  have c4 := of_decide_eq_true c4
  have c5 := of_decide_eq_true c5
  have hby : (rows.length + news.length) * i.bytes ≤ 140737488355328 := Nat.ble_eq.mp c6
  have hb0 : 0 < i.bytes := by simpa [Nat.blt_eq] using c7
  have hm : 0 < news.length := by simpa [Nat.blt_eq] using c8
  obtain ⟨j, rfl⟩ := Int.eq_ofNat_of_zero_le c4
  have hj : j ≤ rows.length := by omega
  have h63 : rows.length + news.length ≤ maxLen := by
    have := Nat.le_trans (Nat.le_mul_of_pos_right (rows.length + news.length) hb0) hby
    unfold maxLen; omega
  subst q1; subst q2
  obtain ⟨u, uj, uv, rfl⟩ : ∃ u uj uv, vals = #[u, uj, uv] := by
    match vals, hl with
    | ⟨[u, uj, uv]⟩, _ => exact ⟨u, uj, uv, rfl⟩
  have h0 := hrel 0 _ u rfl rfl
  have h1 := hrel 1 _ uj rfl rfl
  have h2 := hrel 2 _ uv rfl rfl
  obtain ⟨ri, r1, r2⟩ := @Roots.rel B _ _ _ hR 0 _ rfl
  obtain ⟨ri2, r3, r4⟩ := @Roots.rel B _ _ _ hR 1 _ rfl
  cases h0 with
  | sl _ v0 e3 es3 hA _ hform =>
  cases h2 with
  | sl _ v2 e4 es4 hA2 _ hform2 =>
  rw [hA] at r1
  injection r1 with r1; injection r1 with r1
  subst r1
  rw [hA2] at r3
  injection r3 with r3; injection r3 with r3
  subst r3
  obtain ⟨q4, q5, _, hlen, xs, how, hrep⟩ := r2
  obtain ⟨q6, q7, _, hlen2, ys, how2, hrep2⟩ := r4
  subst q4; subst q5; subst q6
  have q8 : es4 = i.size := by rw [← q7, q3]
  subst q8
  have huj : uj = .int .i64 j := by
    cases h1 with
    | d _ _ hd =>
      cases hd with
      | lit v hv => rfl
  subst huj
  have hnb : ∀ b, v0.ownBlock = some b → v2.ownBlock = some b → False := fun b hb hb2 => by
    have := @Roots.inj B _ _ _ hR 0 1 _ _ b hA hA2 hb hb2
    omega
  refine (insert_run L ti i.zero g1 g5 hz g3 hsz how hform (fun e => by rw [e] at c5b; simp at c5b) how2 hform2 hm hj hnb (repL_one hrep) (repL_one hrep2) (by rw [g4]; exact hby) h63).mono ?_
  rintro ex w' ⟨v', u', rfl, kS, k2, k3, k4⟩
  have hvb : ∀ b, v'.ownBlock = some b → (RI.arr v0 e1 i.size).has b ∨ w.heap.size ≤ b := fun b hb => k4 b hb
  have hlt' : ∀ b, v'.ownBlock = some b → b < w'.heap.size := by
    intro b hb
    rcases k2.2 with ⟨rfl, _⟩ | ⟨g, _, _, rfl, _, ⟨_, hh, _⟩, _⟩
    · simp [Value.ownBlock] at hb
    · simp only [Value.ownBlock, Option.some.injEq] at hb
      subst hb
      exact (Array.getElem?_eq_some_iff.mp hh).1
  have hsame : ∀ b, b < w.heap.size → ¬ (RI.arr v0 e1 i.size).has b → w'.heap[b]? = w.heap[b]? := fun b hb hne => k3.block b hb (fun e => hne e.symm)
  have hfree : ∀ b, @Free B A b → b < w.heap.size → @Free B (A.set 0 none ++ [some (.arr v' e1 i.size)]) b := by
    refine fun b hf hb => ⟨fun ho => ?_, hf.2⟩
    rcases own_append ho with h1 | h1
    · exact hf.1 (own_drop h1)
    · rcases hvb b h1 with h3 | h3
      · exact hf.1 ⟨0, _, hA, h3⟩
      · omega
  have hwf : ∀ b, @Free B A b → b < w.heap.size → w'.heap[b]? = w.heap[b]? := fun b hf hb => hsame b hb (fun e => hf.1 ⟨0, _, hA, e⟩)
  have hkeep : ∀ (r' : Nat) (y : RI), A[r']? = some (some y) → r' ≠ 0 → (A.set 0 none ++ [some (RI.arr v' e1 i.size)])[r']? = some (some y) := fun r' y hy hne => get_append (get_drop hy hne)
  have hsub : ∀ {c : V} {u : Value}, @RelV B w A c u → @RelV B w' (A.set 0 none ++ [some (.arr v' e1 i.size)]) (subV (killS 0) (killP 0) .bp c) u := by
    intro c u hc
    refine @sub_rel B _ _ _ _ _ _ _ hwf hfree (fun r' v1 e' es' hA1 u1 hv1 => ?_) (fun r' i j g n cap es' e' hA1 => ?_) (fun r' j g hA1 => ?_) (fun r' v1 T n vs hA1 => ?_) _ _ hc
    · unfold killS
      split
      · exact @RelV.dead B _ _ _
      · rename_i hb
        exact @RelV.sl B _ _ r' v1 e' es' (hkeep _ _ hA1 (fun e => by subst e; simp at hb)) u1 hv1
    · unfold killP
      split
      · exact @RelV.dead B _ _ _
      · rename_i hb
        exact @RelV.ptr B _ _ r' i j g n cap es' e' (hkeep _ _ hA1 (fun e => by subst e; simp at hb))
    · exact @RelV.bp B _ _ r' j g (hkeep _ _ hA1 (fun e => by subst e; rw [hA] at hA1; simp at hA1))
    · exact @subN_kill B _ _ _ _ _ _ fun hr => hkeep _ _ hA1 fun e => hr e.symm
  have hlr : (rows.take j ++ news ++ rows.drop j).length = rows.length + news.length := by
    rw [List.length_append, List.length_append, List.length_take, List.length_drop]; omega
  have hroot' : @RootRel B w' (A.set 0 none ++ [some (.arr v' e1 i.size)]) (.arr v' e1 i.size) (.arr e1 i.size (rows.take j ++ news ++ rows.drop j)) := by
    refine ⟨rfl, rfl, hsz, fun row hrow => ?_, xs.take (j * i.size) ++ ys ++ xs.drop (j * i.size), ?_, ?_⟩
    · rcases List.mem_append.mp hrow with h1 | h1
      · rcases List.mem_append.mp h1 with h1 | h1
        · exact hlen row (List.mem_of_mem_take h1)
        · exact hlen2 row h1
      · exact hlen row (List.mem_of_mem_drop h1)
    · rw [hlr]; exact k2
    · obtain ⟨f1, f2⟩ := flat_cut rows j hlen
      rw [List.flatten_append, List.flatten_append, f1, f2]
      exact (((hrep.take _).append hrep2).append (hrep.drop _)).mono hwf hfree
  refine ⟨u', A.set 0 none ++ [some (.arr v' e1 i.size)], rfl, @Roots.renew B _ _ _ _ hR 0 _ (.arr v' e1 i.size) _ hA _ _ _ hsame k3.size (fun b hb => ⟨hvb b hb, hlt' b hb⟩) hsub hroot', ?_, ?_, ?_, ?_⟩
  · refine @RelV.sl B _ _ 2 v' e1 i.size ?_ _ kS
    have : A.length = 2 := @Roots.len B _ _ _ hR
    rw [List.getElem?_append_right (by simp [this])]
    simp [this]
  · exact ⟨fun h => h.elim, k3.os, k3.tape, k3.output, k3.size, fun b hb hf => hsame b hb (fun e => hf ⟨0, _, hA, e⟩)⟩
  · refine ⟨by simp, fun r' y hy => ?_, fun b ho => ?_⟩
    · rcases (Grows.drop A w 0).old r' y hy with h1 | h1
      · exact .inl (get_append h1)
      · exact .inr (get_append h1)
    · rcases own_append ho with h1 | h1
      · exact .inl (own_drop h1)
      · rcases hvb b h1 with h3 | h3
        · exact .inl ⟨0, _, hA, h3⟩
        · exact .inr h3
  · intro r hr
    refine get_append ?_
    by_cases h : r = 0
    · subst h; rw [hA] at hr; simp at hr
    · rw [List.getElem?_set_ne (Ne.symm h)]; exact hr
end
end Go.Proofs.YtjnhclnnobejgaaE
