/- The engine, known contracts: slices.SortFunc at structs whose comparing function is the program's own sorts a row of its caller's own; conditions: none. -/
import Derived.Test.YtdcgngeepbbikaaEso
import Derived.Test.YtdcgngeepbbikaaEp
import Derived.Shelf.SlSortCmp.NoneTotal
namespace Go.Proofs.YtdcgngeepbbikaaE
open Go.Proofs Go.Shelf Go.RowKit Go.Sort
set_option linter.unusedVariables false
set_option linter.unusedSimpArgs false

/-- Draws are counted. -/
@[reducible] def tightDrw : Drw := ⟨True⟩
/-- Nothing owned: the world has drawn and grown. -/
theorem step_grow [DW : Drw] (hs0 : DW.strict) {w w' : World} (h : Step [] w w') : ∃ q os, w' = grow (w.drewN q) os := by
  have hd : w.drawn ≤ w'.drawn := h.drawn hs0
  have hb : ∀ b, b < w.heap.size → w'.heap[b]? = w.heap[b]? := fun b hb => h.block b hb (fun ⟨r, x, h, _⟩ => by simp at h)
  have hs := h.size
  have hh : w'.heap = w.heap ++ w'.heap.extract w.heap.size w'.heap.size := by
    refine Array.ext (by simp; omega) fun i h5 h6 => ?_
    by_cases hi : i < w.heap.size
    · rw [Array.getElem_append_left hi]
      have := hb i hi
      rw [Array.getElem?_eq_getElem h5, Array.getElem?_eq_getElem hi] at this
      exact Option.some.inj this
    · rw [Array.getElem_append_right (by omega), Array.getElem_extract]
      congr 1
      omega
  refine ⟨w'.drawn - w.drawn, w'.heap.extract w.heap.size w'.heap.size, ?_⟩
  have h1 := h.os
  have h2 := h.tape
  have h3 := h.output
  have h4 : w'.drawn = w.drawn + (w'.drawn - w.drawn) := by omega
  unfold grow World.drewN
  rw [← hh, ← h4, ← h1, ← h2, ← h3]
set_option maxHeartbeats 1000000 in
/-- What a sort asks of a comparing function that the engine has walked. -/
theorem cmp_lays [DW : Drw] (hs0 : DW.strict) {E : Env} {P : Program} (hE : EnvOK E P) {g : FuncId} {α : Type} [Inhabited α] {enc : α → List Value} {k : Nat} {cf : α → α → Int} (h1 : ∀ x, ∀ v ∈ enc x, v.oneCell' = true)
    (hc : ∀ x y, callL E g [.agg ((enc x).map fun v => .d (.lit v)), .agg ((enc y).map fun v => .d (.lit v))] [] = some (.d (.lit (.int .i64 (cf x y))), [])) (blk off size : Nat) (w : World) : CmpLays P g #[] enc k cf blk off size w := by
  intro m os dk _ x y
  generalize sortWorldK enc k w blk off m dk os = W
  obtain ⟨n, hn⟩ := callL_some (hc x y)
  have hR : @Roots noBad W [] [] := @Roots.mk noBad _ _ _ rfl (fun _ _ _ _ _ h => by simp at h) (fun _ _ h => by simp at h) (fun _ h => by simp at h) (fun b ⟨r, x, h, _⟩ => by simp at h) (fun b ⟨r, x, h, _⟩ => by simp at h) (fun b h => h.elim)
  have one : ∀ z : α, @RelV noBad W [] (.agg ((enc z).map fun v => .d (.lit v))) (.agg (enc z).toArray) := fun z => @RelV.agg noBad _ _ _ _ (by simp) fun i c u g1 g2 => by
    rw [List.getElem?_map, Option.map_eq_some_iff] at g1
    obtain ⟨v, g3, rfl⟩ := g1
    rw [List.getElem?_toArray, g3] at g2
    injection g2 with g2
    subst g2
    exact @RelV.d noBad _ _ _ _ (.lit _ (h1 z v (List.mem_of_getElem? g3)))
  rw [Array.append_empty]
  refine ((runF_sound hE n g _ [] _ _ (hn n (Nat.le_refl _))).2 noBad W [] #[.agg (enc x).toArray, .agg (enc y).toArray] hR rfl (fun i c u g1 g2 => ?_)).mono ?_
  · match i with
    | 0 => simp at g1 g2; subst g1 g2; exact one x
    | 1 => simp at g1 g2; subst g1 g2; exact one y
    | i + 2 => simp at g1
  · rintro e w' ⟨u, A', he, g1, g2, g3, _, _⟩
    have := @RelV.lit_inv noBad _ _ _ _ g2
    subst this
    exact ⟨he, step_grow hs0 g3⟩

noncomputable def extSortF {α : Type} (g : FuncId) (dec : List D → Option α) (enc : α → List Value) (k : Nat) (cf : α → α → Int) : List V → Fo → Option (V × Fo) := fun args F => match args, F with
  | [.sl 0, .clo g' []], [some (.arr e es rows)] => match decL dec rows, Nat.beq g' g, Nat.beq e U8, Nat.beq es k, decide (rows.length < 4611686018427387904) with
    | some l, true, false, true, true => some (.tup [], [some (.arr e k ((l.mergeSort fun x y => !(ltOf cf) y x).map fun x => (enc x).map D.lit))])
    | _, _, _, _, _ => none
  | _, _ => none

section
variable {α : Type} [Inhabited α] {enc : α → List Value} {k : Nat}
theorem flatK_list (hk : ∀ x, (enc x).length = k) (hk0 : 0 < k) (l : List α) : (flatK enc k l.toArray).toList = (l.map enc).flatten := by
  have hm : ∀ row ∈ l.map enc, row.length = k := fun row h => by obtain ⟨x, _, rfl⟩ := List.mem_map.mp h; exact hk x
  refine List.ext_getElem? fun t => ?_
  by_cases ht : t < l.length * k
  · have h1 : t / k < l.length := Nat.div_lt_of_lt_mul (by rw [Nat.mul_comm]; exact ht)
    have h2 : t % k < k := Nat.mod_lt _ hk0
    have h3 := flat_get (l.map enc) hm (t / k) (t % k) (enc l[t / k]) (by simp [h1]) h2
    rw [show t / k * k + t % k = t by rw [Nat.mul_comm]; exact Nat.div_add_mod t k] at h3
    rw [h3]
    have h4 := get_flatK enc k l.toArray t (by simpa using ht)
    have h5 : t < (flatK enc k l.toArray).size := by simpa using ht
    rw [getElem!_pos (flatK enc k l.toArray) t h5] at h4
    rw [Array.getElem?_toList, Array.getElem?_eq_getElem h5, h4]
    have h6 : t % k < (enc l[t / k]).length := by rw [hk]; exact h2
    have h7 : l.toArray[t / k]! = l[t / k] := by rw [getElem!_pos l.toArray (t / k) (by simpa using h1)]; simp
    rw [h7, getElem!_pos (enc l[t / k]) (t % k) h6, List.getElem?_eq_getElem h6]
  · rw [List.getElem?_eq_none (by simpa using ht), List.getElem?_eq_none (by rw [flat_len _ hm]; simpa using ht)]
theorem holdsI {w : World} {g : Nat} {cur : Array Value} {e : TypeId} {F : Array Value} (hb : w.heap[g]? = some (.cells cur e (0, 0))) (ht : cur.toList.take F.size = F.toList) : Holds id w g 0 F := by
  intro j hj
  refine ⟨?_, by simp [World.frozen?, hb]⟩
  have h1 : (cur.toList.take F.size)[j]? = F.toList[j]? := by rw [ht]
  rw [List.getElem?_take_of_lt hj] at h1
  simp only [World.cell?, hb, Nat.zero_add]
  simp only [Option.isSome_none, Bool.false_eq_true, if_false]
  rw [← Array.getElem?_toList, h1]
  simp [hj]
theorem heap_sortedF {w : World} {g n : Nat} {os : Array Obj} {cur : Array Value} {e : TypeId} {fr : Nat × Nat} (d : Array Value) (hb : w.heap[g]? = some (.cells cur e fr)) :
    (grow (putRow id (Sort.ahead w n) g 0 d) os).heap[g]? = some (.cells (putCells id 0 d cur) e fr) := by
  have hg : g < w.heap.size := (Array.getElem?_eq_some_iff.1 hb).1
  rw [heap_grow_old _ _ (by simpa using hg)]
  simp [putRow, mapBlock, Sort.ahead, Array.getElem?_modify, hb, onCells]
theorem take_putF (cur F : Array Value) (h : F.size ≤ cur.size) : (putCells id 0 F cur).toList.take F.size = F.toList := by
  apply List.ext_getElem?
  intro j
  by_cases hj : j < F.size
  · rw [List.getElem?_take_of_lt hj, Array.getElem?_toList]
    simp [putCells, hj, show j < cur.size by omega]
  · rw [List.getElem?_take_eq_none (by omega), List.getElem?_eq_none (by simp; omega)]
/-- A row turned in its place, and new blocks. -/
theorem sort_postK {B : Bad} {w w1 w' : World} {A : List (Option RI)} {e : TypeId} {es : Nat} {rows rows' : List (List D)} {g cap : Nat} (hR : @Roots B w A [some (.arr e es rows)])
    (hA : A[0]? = some (some (.arr (.slice (some ⟨g, 0, none⟩) rows.length cap) e es))) (hs : w1.heap.size = w.heap.size) (hne : ∀ b, b ≠ g → w1.heap[b]? = w.heap[b]?) (hb : Go.RowKit.Below w1.heap.size w1 w')
    (h1 : w'.os = w.os) (h2 : w'.tape = w.tape) (h3 : w'.output = w.output) (hroot : @RootRel B w1 A (.arr (.slice (some ⟨g, 0, none⟩) rows.length cap) e es) (.arr e es rows')) :
    CallPost B A w (.tup []) [some (.arr e es rows')] (.returned (.tuple #[])) w' := by
  have hW := @Roots.write B w w1 A _ hR 0 _ _ (.arr e es rows') rfl hA g rfl hs hne hroot
  refine ⟨_, A, rfl, @Roots.below _ B _ _ _ _ hW (.of' hb fun h => h.elim), .tup _ _ rfl (fun i c v h => by simp at h), ⟨fun h => h.elim, h1, h2, h3, by rw [← hs]; exact hb.size, fun b hlt hf => ?_⟩, .refl _ _, fun _ h => h⟩
  rw [hb.block b (by rw [hs]; exact hlt)]
  exact hne b fun e => hf ⟨0, _, hA, by rw [e]; rfl⟩

variable {P : Program} {ρ : Ren} {dec : List D → Option α} {cf : α → α → Int}
omit [Inhabited α] in
theorem flat_enc (l : List α) : (l.map fun x => (enc x).map D.lit).flatten = ((l.map enc).flatten).map fun v => D.lit (id v) := by
  induction l with
  | nil => rfl
  | cons x l ih => simp only [List.map_cons, List.flatten_cons, List.map_append, ih]; rfl
set_option maxHeartbeats 1000000 in
/-- slices.SortFunc's contract in the engine's form. -/
theorem ext_sortF {f g : FuncId} (hf : ρ.f 6 = f) (L : SlLaysF0.n6 P ρ) (hfu : ∃ fu, P.funcs[f]? = some fu ∧ fu.body.isNone = false ∧ (fu.name == "runtime.NumGoroutine") = false)
    (aE : ∀ w, (isAgg (ρ.t 24)).run P w = .ok true w) (zE : ∀ w, (Go.sizeOf (ρ.t 24)).run P w = .ok k w) (hdec : ∀ r x, dec r = some x → r = (enc x).map D.lit) (hk0 : 0 < k) (hk : ∀ x, (enc x).length = k) (h1 : ∀ x, ∀ v ∈ enc x, v.oneCell' = true)
    (hO : SWO (ltOf cf)) (hT : ∀ x y, (ltOf cf) x y = false → (ltOf cf) y x = false → x = y) (eg : ∀ args w, (callFunc g args).run P w = .ok (.enter g args) w) (hcmp : ∀ blk off size w, CmpLays P g #[] enc k cf blk off size w) : ExtOK P f (extSortF g dec enc k cf) := by
  subst hf
  refine ⟨hfu, fun args F v F1 hg B w A vals hR hl hrel => ?_⟩
  unfold extSortF at hg
  split at hg
  case h_2 => simp at hg
  rename_i g' e es rows
  split at hg
  case h_2 => simp at hg
  rename_i zs c1 c0 c2 c3 c4
  simp only [Option.some.injEq, Prod.mk.injEq] at hg
  obtain ⟨rfl, rfl⟩ := hg
  have hes0 : es = k := Nat.eq_of_beq_eq_true c3
  subst hes0
  have hgg : g' = g := Nat.eq_of_beq_eq_true c0
  subst hgg
  have hrows : rows = zs.map fun x => (enc x).map D.lit := decL_inv hdec c1
  subst hrows
  have hlen : (zs.map fun x => (enc x).map D.lit).length = zs.length := List.length_map ..
  have hlt : zs.length < 4611686018427387904 := by rw [← hlen]; exact of_decide_eq_true c4
  obtain ⟨u, uf, rfl⟩ : ∃ u uf, vals = #[u, uf] := by
    match vals, hl with
    | ⟨[u, uf]⟩, _ => exact ⟨u, uf, rfl⟩
  have h0 := hrel 0 _ u rfl rfl
  have hcl := hrel 1 _ uf rfl rfl
  obtain ⟨ri, r1, r2⟩ := @Roots.rel B _ _ _ hR 0 _ rfl
  cases hcl with
  | clo _ _ vs hn _ =>
  have hvs : vs = #[] := Array.eq_empty_of_size_eq_zero hn.symm
  subst hvs
  cases h0 with
  | sl _ _ e3 es3 hA _ hform =>
  rw [hA] at r1
  injection r1 with r1; injection r1 with r1
  subst r1
  obtain ⟨rfl, rfl, hes, hrl, xs, how, hrep⟩ := r2
  obtain ⟨ts, hts⟩ : ∃ ts, ts = zs.mergeSort fun x y => !(ltOf cf) y x := ⟨_, rfl⟩
  have hse : ts.length = zs.length := by rw [hts]; exact List.length_mergeSort _
  rcases how.2 with ⟨rfl, hz0⟩ | ⟨b, cap, cur, rfl, hbase, ⟨fz, hh, hmk⟩, h2, h3, h4, h5⟩
  · have hz : zs = [] := List.eq_nil_of_length_eq_zero (by rw [← hlen]; exact hz0)
    subst hz
    rw [show ([] : List α).mergeSort (fun x y => !(ltOf cf) y x) = [] from List.mergeSort_nil]
    obtain ⟨p, cap, rfl⟩ : ∃ p cap, u = .slice p 0 cap := by
      obtain ⟨_, rfl | ⟨_, p, rfl⟩⟩ := hform
      · exact ⟨_, _, rfl⟩
      · exact ⟨_, _, rfl⟩
    refine (AnyF.slices_SortFunc_none L p cap _ w).mono ?_
    rintro e' w' ⟨rfl, rfl⟩
    exact ⟨_, A, rfl, hR, .tup _ _ rfl (fun i c v h => by simp at h), .refl _ _, .refl _ _, fun _ h => h⟩
  · obtain ⟨_, rfl | ⟨hc, _⟩⟩ := hform
    case inr => cases hc
    have hfz := hmk.no (Nat.ne_of_beq_eq_false c2)
    subst hfz
    rw [flat_enc] at hrep
    have hxs := repL_lits (f := id) hrep
    rw [List.map_id] at hxs
    subst hxs
    rw [hlen] at h2 h5 hA ⊢
    have hglt : b < w.heap.size := (Array.getElem?_eq_some_iff.mp hh).1
    have hfl := flatK_list hk hk0 zs
    have hfs : (flatK enc es zs.toArray).size = zs.length * es := by simp
    have hft : (flatK enc es ts.toArray).size = zs.length * es := by simp [hse]
    have hHK : HoldsK enc es w b 0 zs.toArray := holdsI hh (by rw [hfs, hfl]; exact h5)
    have key := AnyQ.slices_SortFunc_total L es aE zE enc hk h1 cf hO g' #[] b 0 cap zs.toArray w eg (hcmp b 0 _ w) hHK hglt (by simpa using hlt) hT
    have hsz0 : zs.toArray.size = zs.length := by simp
    rw [hsz0] at key
    refine key.mono ?_
    rintro e' w' ⟨rfl, n, os, hw⟩
    rw [← hts] at hw ⊢
    have hw2 : w' = grow (putRow id (Sort.ahead w n) b 0 (flatK enc es ts.toArray)) os := hw
    subst hw2
    have hcs : (flatK enc es ts.toArray).size ≤ cur.size := by rw [hft, h4]; exact Nat.mul_le_mul_right es h2
    refine sort_postK (w1 := putRow id (Sort.ahead w n) b 0 (flatK enc es ts.toArray)) hR (by rw [hlen]; exact hA) (by simp [Sort.ahead]) (fun b2 hb => ?_) (below_more _ _) rfl rfl rfl ?_
    · simp [putRow, mapBlock, Sort.ahead, Array.getElem?_modify, Ne.symm hb]
    · rw [hlen]
      refine ⟨rfl, rfl, hes, fun row hrow => ?_, (ts.map enc).flatten, ?_, ?_⟩
      · obtain ⟨x, _, rfl⟩ := List.mem_map.mp hrow
        rw [List.length_map, hk]
      · have hhp := heap_sortedF (n := n) (os := #[]) (flatK enc es ts.toArray) hh
        rw [grow_empty] at hhp
        refine ⟨?_, .inr ⟨b, cap, _, by rw [List.length_map, hse], hbase, ⟨_, hhp, .z _ _⟩, ?_, h3, by simp [putCells, h4], ?_⟩⟩
        · rw [← flatK_list hk hk0, Array.length_toList, hft, List.length_map, hse]
        · rw [List.length_map, hse]; exact h2
        · rw [List.length_map, hse, ← hft, ← flatK_list hk hk0]
          exact take_putF cur _ hcs
      · rw [flat_enc]
        refine ⟨List.length_map .., fun i x v g1 g2 => ?_⟩
        rw [List.getElem?_map, g2] at g1
        injection g1 with g1
        subst g1
        obtain ⟨y, hy, hv⟩ := List.mem_flatten.mp (List.mem_of_getElem? g2)
        obtain ⟨z, _, rfl⟩ := List.mem_map.mp hy
        exact .lit _ (h1 z v hv)
end
end Go.Proofs.YtdcgngeepbbikaaE
