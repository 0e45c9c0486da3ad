/- The engine, eleventh part: calls; conditions: none. -/
import Derived.Test.YtjnhclnnobejgaaEj
namespace Go.Proofs.YtjnhclnnobejgaaE
open Go.RowKit
set_option linter.unusedVariables false
set_option linter.unusedSimpArgs false
variable [DW : Drw]

omit DW in
theorem back_len {α : Type} : ∀ (L : List Nat) (Rs F : List α), (back L Rs F).length = F.length
  | [], Rs, F => by simp [back]
  | r :: L, [], F => by simp [back]
  | r :: L, R :: Rs, F => by rw [back, back_len L Rs]; simp
omit DW in
theorem back_out {α : Type} {r : Nat} : ∀ (L : List Nat) (Rs F : List α), (∀ i : Nat, L[i]? ≠ some r) → (back L Rs F)[r]? = F[r]?
  | [], Rs, F, _ => by simp [back]
  | s :: L, [], F, _ => by simp [back]
  | s :: L, R :: Rs, F, h => by
    rw [back, back_out L Rs _ (fun i => by simpa using h (i + 1))]
    have : s ≠ r := fun e => h 0 (by simp [e])
    rw [List.getElem?_set_ne this]
omit DW in
theorem back_in {α : Type} {r : Nat} : ∀ (L : List Nat) (Rs F : List α) (i : Nat) (R : α), nodupN L = true → L[i]? = some r → Rs[i]? = some R → r < F.length → (back L Rs F)[r]? = some R
  | [], Rs, F, i, R, _, h, _, _ => by simp at h
  | s :: L, [], F, i, R, _, _, h, _ => by simp at h
  | s :: L, R0 :: Rs, F, 0, R, hn, h, hR, hl => by
    have h1 : s = r := by simpa using h
    have h2 : R0 = R := by simpa using hR
    subst h1; subst h2
    rw [back, back_out L Rs _ (fun i hi => by
      have := nodup_inj hn (i := 0) (j := i + 1) (r := s) (by simp) (by simpa using hi)
      omega)]
    simp [hl]
  | s :: L, R0 :: Rs, F, i + 1, R, hn, h, hR, hl => by
    rw [back]
    refine back_in L Rs _ i R ?_ (by simpa using h) (by simpa using hR) (by simpa using hl)
    simp only [nodupN] at hn
    split at hn
    · simp at hn
    · exact hn

omit DW in
theorem allSome_get : ∀ {m : Nat} {F : Fo}, allSome m F = true → ∀ i, i < m → ∃ R, F[i]? = some (some R)
  | 0, F, _, i, h => by omega
  | m + 1, [], h, i, hi => by simp [allSome] at h
  | m + 1, none :: F, h, i, hi => by simp [allSome] at h
  | m + 1, some R :: F, h, i, hi => by
    cases i with
    | zero => exact ⟨R, rfl⟩
    | succ i =>
      obtain ⟨R', h'⟩ := allSome_get (m := m) (F := F) (by simpa [allSome] using h) i (by omega)
      exact ⟨R', by simpa using h'⟩

/-- What a callee gets to see as taken: what its caller owns beside. -/
@[reducible] def badOf (B : Bad) (A A1 : List (Option RI)) : Bad := ⟨fun b => B.bad b ∨ (Own A b ∧ ¬ Own A1 b)⟩

omit DW in
theorem free_badOf {B : Bad} {A A1 : List (Option RI)} {b : Nat} (h1 : Own A1 b → Own A b) (h : @Free B A b) : @Free (badOf B A A1) A1 b :=
  ⟨fun ho => h.1 (h1 ho), fun hb => by
    rcases hb with hb | hb
    · exact h.2 hb
    · exact h.1 hb.1⟩

/-- The call is over: what the callee has made of the roots comes back. -/
theorem merge {B : Bad} {w w' : World} {A : List (Option RI)} {F : Fo} (h : @Roots B w A F) {L : List Nat} (hn : nodupN L = true) {A1' : List (Option RI)} {F1' : Fo}
    (h' : @Roots (badOf B A (packA L A)) w' A1' F1') (hstep : Step (packA L A) w w') (hgr : Grows (packA L A) A1' w) (hnone : ∀ (r : Nat), (packA L A)[r]? = some none → A1'[r]? = some none)
    (hall : allSome L.length F1' = true) :
    ∃ A', @Roots B w' A' (back L (mapO (subR (unS L F.length) (unP L F.length) (unB L F.length)) (F1'.take L.length)) F ++ mapO (subR (unS L F.length) (unP L F.length) (unB L F.length)) (F1'.drop L.length)) ∧
      (∀ {c : V} {v : Value}, @RelV (badOf B A (packA L A)) w' A1' c v → @RelV B w' A' (subV (unS L F.length) (unP L F.length) (unB L F.length) c) v) ∧
      (∀ {c : V} {v : Value}, @RelV B w A c v → @RelV B w' A' c v) ∧ Step A w w' ∧ Grows A A' w ∧ (∀ (r : Nat), A[r]? = some none → A'[r]? = some none) := by
  have hlen1 : (packA L A).length = L.length := by simp [packA]
  have hm : L.length ≤ A1'.length := by rw [← hlen1]; exact hgr.len
  have hmF : A1'.length = F1'.length := (@Roots.len (badOf B A (packA L A)) _ _ _ h')
  have hA : A.length = F.length := @Roots.len B _ _ _ h
  -- the roots that were handed over are what they were
  have same : ∀ i, i < L.length → ∃ r x, L[i]? = some r ∧ A[r]? = some (some x) ∧ A1'[i]? = some (some x) := by
    intro i hi
    obtain ⟨R, hR⟩ := allSome_get hall i hi
    obtain ⟨x', g1, g2⟩ := (@Roots.rel (badOf B A (packA L A)) _ _ _ h') i R hR
    have hi' : i < (packA L A).length := by rw [hlen1]; exact hi
    have : (packA L A)[i]? = some ((packA L A)[i]) := by simp [hi']
    cases hx : (packA L A)[i] with
    | none => rw [hx] at this; rw [hnone i this] at g1; simp at g1
    | some x =>
      rw [hx] at this
      obtain ⟨r, h1, h2⟩ := packA_get this
      rcases hgr.old i x this with h3 | h3
      · exact ⟨r, x, h1, h2, h3⟩
      · rw [h3] at g1; simp at g1
  have un : ∀ (i : Nat) (x : RI), A1'[i]? = some (some x) → (A ++ A1'.drop L.length)[unN L F.length i]? = some (some x) := by
    intro i x hx
    unfold unN
    split
    · rename_i r hr
      obtain ⟨r', x', h1, h2, h3⟩ := same i (List.getElem?_eq_some_iff.mp hr).1
      rw [hr] at h1
      injection h1 with h1
      subst h1
      rw [hx] at h3
      injection h3 with h3; injection h3 with h3
      subst h3
      rw [List.getElem?_append_left (List.getElem?_eq_some_iff.mp h2).1]; exact h2
    · rename_i hr
      have hge : L.length ≤ i := by simpa using hr
      rw [List.getElem?_append_right (by omega), List.getElem?_drop, hA]
      rw [← hx]; congr 1; omega
  have split : ∀ {s : Nat} {y : RI}, (A ++ A1'.drop L.length)[s]? = some (some y) → A[s]? = some (some y) ∨ (A.length ≤ s ∧ A1'[L.length + (s - A.length)]? = some (some y)) := by
    intro s y hs
    by_cases h1 : s < A.length
    · rw [List.getElem?_append_left h1] at hs; exact .inl hs
    · rw [List.getElem?_append_right (by omega), List.getElem?_drop] at hs; exact .inr ⟨by omega, hs⟩
  -- what is new lies in new blocks
  have fresh : ∀ (i : Nat) (y : RI) (b : Nat), L.length ≤ i → A1'[i]? = some (some y) → y.has b → w.heap.size ≤ b := by
    intro i y b hi hy hb
    rcases hgr.own b ⟨i, y, hy, hb⟩ with ⟨j, x, h1, h2⟩ | h1
    · have hj : j < L.length := by rw [← hlen1]; exact (List.getElem?_eq_some_iff.mp h1).1
      obtain ⟨r, x', g1, g2, g3⟩ := same j hj
      have := packA_of g1 g2
      rw [h1] at this
      injection this with this; injection this with this
      subst this
      have := (@Roots.inj (badOf B A (packA L A)) _ _ _ h') j i x y b g3 hy h2 hb
      omega
    · exact h1
  have ownNew : ∀ b, Own (A ++ A1'.drop L.length) b → Own A b ∨ (w.heap.size ≤ b ∧ Own A1' b) := by
    rintro b ⟨s, y, h1, h2⟩
    rcases split h1 with h3 | ⟨h3, h4⟩
    · exact .inl ⟨s, y, h3, h2⟩
    · exact .inr ⟨fresh _ y b (by omega) h4 h2, ⟨_, y, h4, h2⟩⟩
  have own1 : ∀ b, Own (packA L A) b → Own A1' b := by
    rintro b ⟨j, x, h1, h2⟩
    have hj : j < L.length := by rw [← hlen1]; exact (List.getElem?_eq_some_iff.mp h1).1
    obtain ⟨r, x', g1, g2, g3⟩ := same j hj
    have := packA_of g1 g2
    rw [h1] at this
    injection this with this; injection this with this
    subst this
    exact ⟨j, x, g3, h2⟩
  have freeBack : ∀ b, @Free (badOf B A (packA L A)) A1' b → b < w'.heap.size → @Free B (A ++ A1'.drop L.length) b := by
    intro b hf _
    refine ⟨fun ho => ?_, fun hb => hf.2 (.inl hb)⟩
    rcases ownNew b ho with h1 | ⟨_, h1⟩
    · by_cases h2 : Own (packA L A) b
      · exact hf.1 (own1 b h2)
      · exact hf.2 (.inr ⟨h1, h2⟩)
    · exact hf.1 h1
  have freeOld : ∀ b, @Free B A b → b < w.heap.size → @Free B (A ++ A1'.drop L.length) b := by
    intro b hf hb
    refine ⟨fun ho => ?_, hf.2⟩
    rcases ownNew b ho with h1 | ⟨h1, _⟩
    · exact hf.1 h1
    · omega
  have keepFree : ∀ b, @Free B A b → b < w.heap.size → w'.heap[b]? = w.heap[b]? := fun b hf hb => hstep.block b hb (fun ho => hf.1 (packA_own ho))
  have hsub : ∀ {c : V} {v : Value}, @RelV (badOf B A (packA L A)) w' A1' c v → @RelV B w' (A ++ A1'.drop L.length) (subV (unS L F.length) (unP L F.length) (unB L F.length) c) v := by
    intro c v hc
    exact sub_rel2 (fun _ _ _ => rfl) freeBack (fun r v e es hA u hv => @RelV.sl B _ _ _ v e es (un _ _ hA) u hv) (fun r i j g n cap es e hA => @RelV.ptr B _ _ _ i j g n cap es e (un _ _ hA))
      (fun r j g hA => @RelV.bp B _ _ _ j g (un _ _ hA)) (fun r v T n vs hA => @subN_of B _ _ _ _ _ (un _ _ hA)) hc
  have hold : ∀ {c : V} {v : Value}, @RelV B w A c v → @RelV B w' (A ++ A1'.drop L.length) c v := by
    intro c v hc
    exact @RelV.mono B _ _ _ _ _ _ hc keepFree freeOld (fun r x hx => by rw [List.getElem?_append_left (List.getElem?_eq_some_iff.mp hx).1]; exact hx)
  have hbackLen : ∀ Rs : Fo, (back L Rs F).length = A.length := fun Rs => by rw [back_len, hA]
  refine ⟨A ++ A1'.drop L.length, ?_, hsub, hold, ⟨hstep.drawn, hstep.os, hstep.tape, hstep.output, hstep.size, fun b hb hf => hstep.block b hb (fun ho => hf (packA_own ho))⟩,
    ⟨by simp, fun r x hx => .inl (by rw [List.getElem?_append_left (List.getElem?_eq_some_iff.mp hx).1]; exact hx), fun b hb => (ownNew b hb).imp id (fun h => h.1)⟩,
    fun r hr => by rw [List.getElem?_append_left (List.getElem?_eq_some_iff.mp hr).1]; exact hr⟩
  rw [mapO_eq, mapO_eq]
  refine @Roots.mk B _ _ _ (by simp [back_len, hA, hmF]) (fun r s x y b hx hy hxb hyb => ?_) (fun r R hr => ?_) (fun r hr => ?_) (fun b hb => ?_) (fun b hb => ?_) (fun b hb => Nat.lt_of_lt_of_le (@Roots.bad B _ _ _ h b hb) hstep.size)
  · rcases split hx with h1 | ⟨h1, h2⟩ <;> rcases split hy with h3 | ⟨h3, h4⟩
    · exact @Roots.inj B _ _ _ h r s x y b h1 h3 hxb hyb
    · have := @Roots.lt B _ _ _ h b ⟨r, x, h1, hxb⟩
      have := fresh _ y b (by omega) h4 hyb
      omega
    · have := @Roots.lt B _ _ _ h b ⟨s, y, h3, hyb⟩
      have := fresh _ x b (by omega) h2 hxb
      omega
    · have := (@Roots.inj (badOf B A (packA L A)) _ _ _ h') _ _ x y b h2 h4 hxb hyb
      omega
  · by_cases hrl : r < A.length
    · rw [List.getElem?_append_left (by rw [hbackLen]; exact hrl)] at hr
      by_cases hin : ∃ i : Nat, L[i]? = some r
      · obtain ⟨i, hi⟩ := hin
        have hil : i < L.length := (List.getElem?_eq_some_iff.mp hi).1
        obtain ⟨R1, hR1⟩ := allSome_get hall i hil
        have hin2 : ((F1'.take L.length).map (subR (unS L F.length) (unP L F.length) (unB L F.length)))[i]? = some (subR (unS L F.length) (unP L F.length) (unB L F.length) (some R1)) := by
          rw [List.getElem?_map, List.getElem?_take, if_pos hil, hR1]; rfl
        rw [back_in L _ F i _ hn hi hin2 (by rw [← hA]; exact hrl)] at hr
        injection hr with hr
        obtain ⟨ri, g1, g2⟩ := (@Roots.rel (badOf B A (packA L A)) _ _ _ h') i R1 hR1
        have hu := un i ri g1
        have : unN L F.length i = r := by unfold unN; rw [hi]
        rw [this] at hu
        exact ⟨ri, hu, rootRel_sub g2 (fun _ _ _ => rfl) freeBack (fun _ _ => rfl) hsub hr⟩
      · rw [back_out L _ F (fun i hi => hin ⟨i, hi⟩)] at hr
        obtain ⟨ri, g1, g2⟩ := @Roots.rel B _ _ _ h r R hr
        refine ⟨ri, by rw [List.getElem?_append_left hrl]; exact g1, ?_⟩
        refine @RootRel.mono B _ _ _ _ _ _ g2 keepFree freeOld (fun r x hx => by rw [List.getElem?_append_left (List.getElem?_eq_some_iff.mp hx).1]; exact hx) (fun b hb => ?_)
        refine hstep.block b (@Roots.lt B _ _ _ h b ⟨r, ri, g1, hb⟩) (fun ho => ?_)
        obtain ⟨j, x, h1, h2⟩ := ho
        obtain ⟨r', h3, h4⟩ := packA_get h1
        have := @Roots.inj B _ _ _ h r r' ri x b g1 h4 hb h2
        subst this
        exact hin ⟨j, h3⟩
    · rw [List.getElem?_append_right (by rw [hbackLen]; omega), hbackLen, List.getElem?_map, List.getElem?_drop, Option.map_eq_some_iff] at hr
      obtain ⟨R0, h1, h2⟩ := hr
      cases R0 with
      | none => simp [subR] at h2
      | some R1 =>
        obtain ⟨ri, g1, g2⟩ := (@Roots.rel (badOf B A (packA L A)) _ _ _ h') _ R1 h1
        exact ⟨ri, by rw [List.getElem?_append_right (by omega), List.getElem?_drop]; exact g1, rootRel_sub g2 (fun _ _ _ => rfl) freeBack (fun _ _ => rfl) hsub h2⟩
  · by_cases hrl : r < A.length
    · rw [List.getElem?_append_left (by rw [hbackLen]; exact hrl)] at hr
      rw [List.getElem?_append_left hrl]
      by_cases hin : ∃ i : Nat, L[i]? = some r
      · obtain ⟨i, hi⟩ := hin
        have hil : i < L.length := (List.getElem?_eq_some_iff.mp hi).1
        obtain ⟨R1, hR1⟩ := allSome_get hall i hil
        have hin2 : ((F1'.take L.length).map (subR (unS L F.length) (unP L F.length) (unB L F.length)))[i]? = some (subR (unS L F.length) (unP L F.length) (unB L F.length) (some R1)) := by
          rw [List.getElem?_map, List.getElem?_take, if_pos hil, hR1]; rfl
        rw [back_in L _ F i _ hn hi hin2 (by rw [← hA]; exact hrl)] at hr
        cases R1 <;> simp [subR] at hr
      · rw [back_out L _ F (fun i hi => hin ⟨i, hi⟩)] at hr
        exact @Roots.gone B _ _ _ h r hr
    · rw [List.getElem?_append_right (by rw [hbackLen]; omega), hbackLen, List.getElem?_map, List.getElem?_drop, Option.map_eq_some_iff] at hr
      obtain ⟨R0, h1, h2⟩ := hr
      rw [List.getElem?_append_right (by omega), List.getElem?_drop]
      cases R0 with
      | none => exact (@Roots.gone (badOf B A (packA L A)) _ _ _ h') _ h1
      | some R1 => cases R1 <;> simp [subR] at h2
  · rcases ownNew b hb with h1 | ⟨_, h1⟩
    · exact Nat.lt_of_lt_of_le (@Roots.lt B _ _ _ h b h1) hstep.size
    · exact (@Roots.lt (badOf B A (packA L A)) _ _ _ h') b h1
  · rcases ownNew b hb with h1 | ⟨_, h1⟩
    · exact @Roots.ok B _ _ _ h b h1
    · exact fun hbad => (@Roots.ok (badOf B A (packA L A)) _ _ _ h') b h1 (.inl hbad)

omit DW in
theorem deadOf_len : ∀ {L : List Nat} {F : Fo} {D : List Nat}, deadOf L F = some D → L.length ≤ F.length
  | [], F, D, h => by simp
  | r :: L, [], D, h => by simp [deadOf] at h
  | r :: L, R :: F, D, h => by
    simp only [deadOf] at h
    split at h
    · rename_i D' hd
      have := deadOf_len hd
      simp only [List.length_cons]
      omega
    · simp at h
omit DW in
theorem deadOf_mem : ∀ {L : List Nat} {F : Fo} {D : List Nat}, deadOf L F = some D → ∀ (i r : Nat), L[i]? = some r → F[i]? = some none → memN r D = true
  | [], F, D, h, i, r, h1, h2 => by simp at h1
  | s :: L, [], D, h, i, r, h1, h2 => by simp [deadOf] at h
  | s :: L, R :: F, D, h, i, r, h1, h2 => by
    simp only [deadOf] at h
    split at h
    case h_2 => simp at h
    rename_i D' hd
    cases i with
    | zero =>
      have h3 : s = r := by simpa using h1
      have h4 : R = none := by simpa using h2
      subst h3; subst h4
      simp only [Option.some.injEq] at h
      subst h
      simp [memN]
    | succ i =>
      have := deadOf_mem hd i r (by simpa using h1) (by simpa using h2)
      cases R with
      | none =>
        simp only [Option.some.injEq] at h
        subst h
        simp only [memN]
        split
        · rfl
        · exact this
      | some R =>
        simp only [Option.some.injEq] at h
        subst h
        exact this

/-- The call is over: some of the roots that were handed over are gone. -/
theorem merge2 {B : Bad} {w w' : World} {A : List (Option RI)} {F : Fo} (h : @Roots B w A F) {L D : List Nat} (hn : nodupN L = true) {A1' : List (Option RI)} {F1' : Fo}
    (h' : @Roots (badOf B A (packA L A)) w' A1' F1') (hstep : Step (packA L A) w w') (hgr : Grows (packA L A) A1' w) (hnone : ∀ (r : Nat), (packA L A)[r]? = some none → A1'[r]? = some none)
    (hLF : L.length ≤ F1'.length) (hD : ∀ (i r : Nat), L[i]? = some r → F1'[i]? = some none → memN r D = true) :
    ∃ A', @Roots B w' A' (mapO (subR (klS D) (klP D) (klB D)) (back L (mapO (subR (unS L F.length) (unP L F.length) (unB L F.length)) (F1'.take L.length)) F ++ mapO (subR (unS L F.length) (unP L F.length) (unB L F.length)) (F1'.drop L.length))) ∧
      (∀ {c : V} {v : Value}, @RelV (badOf B A (packA L A)) w' A1' c v → @RelV B w' A' (subV (unS L F.length) (unP L F.length) (unB L F.length) c) v) ∧
      (∀ {c : V} {v : Value}, @RelV B w A c v → @RelV B w' A' (subV (klS D) (klP D) (klB D) c) v) ∧ Step A w w' ∧ Grows A A' w ∧ (∀ (r : Nat), A[r]? = some none → A'[r]? = some none) := by
  have hlen1 : (packA L A).length = L.length := by simp [packA]
  have hmF : A1'.length = F1'.length := (@Roots.len (badOf B A (packA L A)) _ _ _ h')
  have hm : L.length ≤ A1'.length := by rw [hmF]; exact hLF
  have hA : A.length = F.length := @Roots.len B _ _ _ h
  have hbl : (back L (A1'.take L.length) A).length = A.length := back_len _ _ _
  -- what was handed over
  have given : ∀ (i : Nat) (x : RI), i < L.length → A1'[i]? = some (some x) → ∃ r, L[i]? = some r ∧ A[r]? = some (some x) := by
    intro i x hi hx
    have hi' : i < (packA L A).length := by rw [hlen1]; exact hi
    have hp : (packA L A)[i]? = some ((packA L A)[i]) := by simp [hi']
    cases hy : (packA L A)[i] with
    | none => rw [hy] at hp; rw [hnone i hp] at hx; simp at hx
    | some y =>
      rw [hy] at hp
      obtain ⟨r, h1, h2⟩ := packA_get hp
      rcases hgr.old i y hp with h3 | h3
      · rw [hx] at h3; injection h3 with h3; injection h3 with h3
        subst h3
        exact ⟨r, h1, h2⟩
      · rw [h3] at hx; simp at hx
  have at_in : ∀ (i r : Nat), L[i]? = some r → r < A.length → (back L (A1'.take L.length) A)[r]? = A1'[i]? := by
    intro i r hi hr
    have hil : i < L.length := (List.getElem?_eq_some_iff.mp hi).1
    have hz : (A1'.take L.length)[i]? = some (A1'[i]'(by omega)) := by rw [List.getElem?_take, if_pos hil]; simp
    rw [back_in L _ A i _ hn hi hz hr]; simp
  have un : ∀ (i : Nat) (x : RI), A1'[i]? = some (some x) → (back L (A1'.take L.length) A ++ A1'.drop L.length)[unN L F.length i]? = some (some x) := by
    intro i x hx
    unfold unN
    split
    · rename_i r hr
      obtain ⟨r', h1, h2⟩ := given i x (List.getElem?_eq_some_iff.mp hr).1 hx
      rw [hr] at h1
      injection h1 with h1
      subst h1
      have hrl := (List.getElem?_eq_some_iff.mp h2).1
      rw [List.getElem?_append_left (by rw [hbl]; exact hrl), at_in i r hr hrl, hx]
    · rename_i hr
      have hge : L.length ≤ i := by simpa using hr
      rw [List.getElem?_append_right (by rw [hbl]; omega), List.getElem?_drop, hbl, hA]
      rw [← hx]; congr 1; omega
  have split : ∀ {s : Nat} {y : RI}, (back L (A1'.take L.length) A ++ A1'.drop L.length)[s]? = some (some y) →
      (∃ (i : Nat), L[i]? = some s ∧ A1'[i]? = some (some y) ∧ A[s]? = some (some y)) ∨ ((∀ i : Nat, L[i]? ≠ some s) ∧ A[s]? = some (some y)) ∨ (A.length ≤ s ∧ A1'[L.length + (s - A.length)]? = some (some y)) := by
    intro s y hs
    by_cases h1 : s < A.length
    · rw [List.getElem?_append_left (by rw [hbl]; exact h1)] at hs
      by_cases hin : ∃ i : Nat, L[i]? = some s
      · obtain ⟨i, hi⟩ := hin
        rw [at_in i s hi h1] at hs
        obtain ⟨r, g1, g2⟩ := given i y (List.getElem?_eq_some_iff.mp hi).1 hs
        rw [hi] at g1
        injection g1 with g1
        subst g1
        exact .inl ⟨i, hi, hs, g2⟩
      · rw [back_out L _ A (fun i hi => hin ⟨i, hi⟩)] at hs
        exact .inr (.inl ⟨fun i hi => hin ⟨i, hi⟩, hs⟩)
    · rw [List.getElem?_append_right (by rw [hbl]; omega), List.getElem?_drop, hbl] at hs
      exact .inr (.inr ⟨by omega, hs⟩)
  have ownNew : ∀ b, Own (back L (A1'.take L.length) A ++ A1'.drop L.length) b → Own A b ∨ (w.heap.size ≤ b ∧ Own A1' b) := by
    rintro b ⟨s, y, h1, h2⟩
    rcases split h1 with ⟨i, _, h3, h4⟩ | ⟨_, h3⟩ | ⟨h3, h4⟩
    · exact .inl ⟨s, y, h4, h2⟩
    · exact .inl ⟨s, y, h3, h2⟩
    · rcases hgr.own b ⟨_, y, h4, h2⟩ with h5 | h5
      · exact .inl (packA_own h5)
      · exact .inr ⟨h5, ⟨_, y, h4, h2⟩⟩
  have own3 : ∀ b, Own (back L (A1'.take L.length) A ++ A1'.drop L.length) b → Own A1' b ∨ (Own A b ∧ ¬ Own (packA L A) b) := by
    rintro b ⟨s, y, h1, h2⟩
    rcases split h1 with ⟨i, _, h3, h4⟩ | ⟨h0, h3⟩ | ⟨h3, h4⟩
    · exact .inl ⟨i, y, h3, h2⟩
    · refine .inr ⟨⟨s, y, h3, h2⟩, ?_⟩
      rintro ⟨j, x, k1, k2⟩
      obtain ⟨r, k3, k4⟩ := packA_get k1
      have := @Roots.inj B _ _ _ h s r y x b h3 k4 h2 k2
      subst this
      exact h0 j k3
    · exact .inl ⟨_, y, h4, h2⟩
  have freeBack : ∀ b, @Free (badOf B A (packA L A)) A1' b → b < w'.heap.size → @Free B (back L (A1'.take L.length) A ++ A1'.drop L.length) b := by
    intro b hf _
    refine ⟨fun ho => ?_, fun hb => hf.2 (.inl hb)⟩
    rcases own3 b ho with h1 | h1
    · exact hf.1 h1
    · exact hf.2 (.inr h1)
  have freeOld : ∀ b, @Free B A b → b < w.heap.size → @Free B (back L (A1'.take L.length) A ++ A1'.drop L.length) b := by
    intro b hf hb
    refine ⟨fun ho => ?_, hf.2⟩
    rcases ownNew b ho with h1 | ⟨h1, _⟩
    · exact hf.1 h1
    · omega
  have keepFree : ∀ b, @Free B A b → b < w.heap.size → w'.heap[b]? = w.heap[b]? := fun b hf hb => hstep.block b hb (fun ho => hf.1 (packA_own ho))
  have hsub : ∀ {c : V} {v : Value}, @RelV (badOf B A (packA L A)) w' A1' c v → @RelV B w' (back L (A1'.take L.length) A ++ A1'.drop L.length) (subV (unS L F.length) (unP L F.length) (unB L F.length) c) v := by
    intro c v hc
    exact sub_rel2 (fun _ _ _ => rfl) freeBack (fun r v e es hA u hv => @RelV.sl B _ _ _ v e es (un _ _ hA) u hv) (fun r i j g n cap es e hA => @RelV.ptr B _ _ _ i j g n cap es e (un _ _ hA))
      (fun r j g hA => @RelV.bp B _ _ _ j g (un _ _ hA)) (fun r v T n vs hA => @subN_of B _ _ _ _ _ (un _ _ hA)) hc
  -- what is not gone is what it was
  have still : ∀ (r : Nat) (x : RI), A[r]? = some (some x) → memN r D = false → (back L (A1'.take L.length) A ++ A1'.drop L.length)[r]? = some (some x) := by
    intro r x hx hr
    have hrl := (List.getElem?_eq_some_iff.mp hx).1
    rw [List.getElem?_append_left (by rw [hbl]; exact hrl)]
    by_cases hin : ∃ i : Nat, L[i]? = some r
    · obtain ⟨i, hi⟩ := hin
      have hil : i < L.length := (List.getElem?_eq_some_iff.mp hi).1
      rw [at_in i r hi hrl]
      rcases hgr.old i x (packA_of hi hx) with h1 | h1
      · exact h1
      · exfalso
        have hF : i < F1'.length := by omega
        cases hR : F1'[i] with
        | none =>
          have := hD i r hi (by rw [List.getElem?_eq_getElem hF, hR])
          rw [hr] at this; simp at this
        | some R =>
          obtain ⟨ri, g1, _⟩ := (@Roots.rel (badOf B A (packA L A)) _ _ _ h') i R (by rw [List.getElem?_eq_getElem hF, hR])
          rw [h1] at g1; simp at g1
    · rw [back_out L _ A (fun i hi => hin ⟨i, hi⟩)]; exact hx
  have hold : ∀ {c : V} {v : Value}, @RelV B w A c v → @RelV B w' (back L (A1'.take L.length) A ++ A1'.drop L.length) (subV (klS D) (klP D) (klB D) c) v := by
    intro c v hc
    refine sub_rel2 keepFree freeOld (fun r v e es hA u hv => ?_) (fun r i j g n cap es e hA => ?_) (fun r j g hA => ?_) (fun r v T n vs hA => ?_) hc
    · unfold klS
      split
      · exact @RelV.dead B _ _ _
      · rename_i hb; exact @RelV.sl B _ _ r v e es (still r _ hA hb) u hv
    · unfold klP
      split
      · exact @RelV.dead B _ _ _
      · rename_i hb; exact @RelV.ptr B _ _ r i j g n cap es e (still r _ hA hb)
    · unfold klB
      split
      · exact @RelV.dead B _ _ _
      · rename_i hb; exact @RelV.bp B _ _ r j g (still r _ hA hb)
    · unfold klS
      split
      · trivial
      · rename_i hb; exact @subN_of B _ _ _ _ _ (still r _ hA hb)
  have hself : ∀ {c : V} {v : Value}, @RelV B w' (back L (A1'.take L.length) A ++ A1'.drop L.length) c v → @RelV B w' (back L (A1'.take L.length) A ++ A1'.drop L.length) (subV (klS D) (klP D) (klB D) c) v := by
    intro c v hc
    refine sub_rel2 (fun _ _ _ => rfl) (fun _ hf _ => hf) (fun r v e es hA u hv => ?_) (fun r i j g n cap es e hA => ?_) (fun r j g hA => ?_) (fun r v T n vs hA => ?_) hc
    · unfold klS
      split
      · exact @RelV.dead B _ _ _
      · exact @RelV.sl B _ _ r v e es hA u hv
    · unfold klP
      split
      · exact @RelV.dead B _ _ _
      · exact @RelV.ptr B _ _ r i j g n cap es e hA
    · unfold klB
      split
      · exact @RelV.dead B _ _ _
      · exact @RelV.bp B _ _ r j g hA
    · unfold klS
      split
      · trivial
      · exact @subN_of B _ _ _ _ _ hA
  have hbackLen : ∀ Rs : Fo, (back L Rs F).length = A.length := fun Rs => by rw [back_len, hA]
  refine ⟨back L (A1'.take L.length) A ++ A1'.drop L.length, ?_, hsub, hold, ⟨hstep.drawn, hstep.os, hstep.tape, hstep.output, hstep.size, fun b hb hf => hstep.block b hb (fun ho => hf (packA_own ho))⟩,
    ⟨by simp [back_len], fun r x hx => ?_, fun b hb => (ownNew b hb).imp id (fun h => h.1)⟩, fun r hr => ?_⟩
  rotate_left
  · have hrl := (List.getElem?_eq_some_iff.mp hx).1
    rw [List.getElem?_append_left (by rw [hbl]; exact hrl)]
    by_cases hin : ∃ i : Nat, L[i]? = some r
    · obtain ⟨i, hi⟩ := hin
      rw [at_in i r hi hrl]
      exact hgr.old i x (packA_of hi hx)
    · rw [back_out L _ A (fun i hi => hin ⟨i, hi⟩)]; exact .inl hx
  · have hrl := (List.getElem?_eq_some_iff.mp hr).1
    rw [List.getElem?_append_left (by rw [hbl]; exact hrl)]
    by_cases hin : ∃ i : Nat, L[i]? = some r
    · obtain ⟨i, hi⟩ := hin
      rw [at_in i r hi hrl]
      refine hnone i ?_
      unfold packA
      rw [List.getElem?_map, hi]; simp [hr]
    · rw [back_out L _ A (fun i hi => hin ⟨i, hi⟩)]; exact hr
  rw [mapO_eq, mapO_eq, mapO_eq]
  have hlenF : ((back L ((F1'.take L.length).map (subR (unS L F.length) (unP L F.length) (unB L F.length))) F ++ (F1'.drop L.length).map (subR (unS L F.length) (unP L F.length) (unB L F.length))).map (subR (klS D) (klP D) (klB D))).length = A.length + (F1'.length - L.length) := by
    simp [back_len, hA]
  refine @Roots.mk B _ _ _ (by rw [hlenF]; simp [back_len, hmF]) (fun r s x y b hx hy hxb hyb => ?_) (fun r R hr => ?_) (fun r hr => ?_) (fun b hb => ?_) (fun b hb => ?_) (fun b hb => Nat.lt_of_lt_of_le (@Roots.bad B _ _ _ h b hb) hstep.size)
  · have kc : ∀ {r j : Nat} {x y : RI}, (∀ (i : Nat), L[i]? ≠ some r) → A[r]? = some (some x) → x.has b → A1'[j]? = some (some y) → y.has b → False := by
      intro r j x y h0 h1 h2 h4 h5
      rcases hgr.own b ⟨j, y, h4, h5⟩ with ⟨i, x2, k1, k2⟩ | k1
      · obtain ⟨r2, k3, k4⟩ := packA_get k1
        have := @Roots.inj B _ _ _ h r r2 x x2 b h1 k4 h2 k2
        subst this
        exact h0 i k3
      · have := @Roots.lt B _ _ _ h b ⟨r, x, h1, h2⟩
        omega
    have kl : ∀ {i j : Nat} {s : Nat} {x y : RI}, L[i]? = some s → A1'[i]? = some (some x) → x.has b → L.length ≤ j → A1'[j]? = some (some y) → y.has b → False := by
      intro i j s x y h0 h1 h2 h3 h4 h5
      have := (@Roots.inj (badOf B A (packA L A)) _ _ _ h') i j x y b h1 h4 h2 h5
      have := (List.getElem?_eq_some_iff.mp h0).1
      omega
    rcases split hx with ⟨i, a1, a2, a3⟩ | ⟨a1, a2⟩ | ⟨a1, a2⟩ <;> rcases split hy with ⟨j, b1, b2, b3⟩ | ⟨b1, b2⟩ | ⟨b1, b2⟩
    · exact @Roots.inj B _ _ _ h r s x y b a3 b3 hxb hyb
    · exact @Roots.inj B _ _ _ h r s x y b a3 b2 hxb hyb
    · exact (kl a1 a2 hxb (by omega) b2 hyb).elim
    · exact @Roots.inj B _ _ _ h r s x y b a2 b3 hxb hyb
    · exact @Roots.inj B _ _ _ h r s x y b a2 b2 hxb hyb
    · exact (kc a1 a2 hxb b2 hyb).elim
    · exact (kl b1 b2 hyb (by omega) a2 hxb).elim
    · exact (kc b1 b2 hyb a2 hxb).elim
    · have := (@Roots.inj (badOf B A (packA L A)) _ _ _ h') _ _ x y b a2 b2 hxb hyb
      omega
  · rw [List.getElem?_map, Option.map_eq_some_iff] at hr
    obtain ⟨R0, hr, hk⟩ := hr
    cases R0 with
    | none => simp [subR] at hk
    | some R0 =>
    by_cases hrl : r < A.length
    · rw [List.getElem?_append_left (by rw [hbackLen]; exact hrl)] at hr
      by_cases hin : ∃ i : Nat, L[i]? = some r
      · obtain ⟨i, hi⟩ := hin
        have hil : i < L.length := (List.getElem?_eq_some_iff.mp hi).1
        have hiF : F1'[i]? = some (F1'[i]'(by omega)) := by simp [show i < F1'.length by omega]
        have hin2 : ((F1'.take L.length).map (subR (unS L F.length) (unP L F.length) (unB L F.length)))[i]? = some (subR (unS L F.length) (unP L F.length) (unB L F.length) (F1'[i]'(by omega))) := by
          rw [List.getElem?_map, List.getElem?_take, if_pos hil, hiF]; rfl
        rw [back_in L _ F i _ hn hi hin2 (by rw [← hA]; exact hrl)] at hr
        injection hr with hr
        cases hR1 : F1'[i]'(by omega) with
        | none => rw [hR1] at hr; simp [subR] at hr
        | some R1 =>
        rw [hR1] at hr hiF
        obtain ⟨ri, g1, g2⟩ := (@Roots.rel (badOf B A (packA L A)) _ _ _ h') i R1 hiF
        have hu := un i ri g1
        have : unN L F.length i = r := by unfold unN; rw [hi]
        rw [this] at hu
        have g3 := rootRel_sub g2 (fun _ _ _ => rfl) freeBack (fun _ _ => rfl) hsub hr
        exact ⟨ri, hu, rootRel_sub g3 (fun _ _ _ => rfl) (fun _ hf _ => hf) (fun _ _ => rfl) hself hk⟩
      · rw [back_out L _ F (fun i hi => hin ⟨i, hi⟩)] at hr
        obtain ⟨ri, g1, g2⟩ := @Roots.rel B _ _ _ h r R0 hr
        refine ⟨ri, by rw [List.getElem?_append_left (by rw [hbl]; exact hrl), back_out L _ A (fun i hi => hin ⟨i, hi⟩)]; exact g1, ?_⟩
        refine rootRel_sub g2 keepFree freeOld (fun b hb => ?_) hold hk
        refine hstep.block b (@Roots.lt B _ _ _ h b ⟨r, ri, g1, hb⟩) (fun ho => ?_)
        obtain ⟨j, x, h1, h2⟩ := ho
        obtain ⟨r', h3, h4⟩ := packA_get h1
        have := @Roots.inj B _ _ _ h r r' ri x b g1 h4 hb h2
        subst this
        exact hin ⟨j, h3⟩
    · rw [List.getElem?_append_right (by rw [hbackLen]; omega), hbackLen, List.getElem?_map, List.getElem?_drop, Option.map_eq_some_iff] at hr
      obtain ⟨R1, h1, h2⟩ := hr
      cases R1 with
      | none => simp [subR] at h2
      | some R1 =>
        obtain ⟨ri, g1, g2⟩ := (@Roots.rel (badOf B A (packA L A)) _ _ _ h') _ R1 h1
        have g3 := rootRel_sub g2 (fun _ _ _ => rfl) freeBack (fun _ _ => rfl) hsub h2
        exact ⟨ri, by rw [List.getElem?_append_right (by rw [hbl]; omega), List.getElem?_drop, hbl]; exact g1, rootRel_sub g3 (fun _ _ _ => rfl) (fun _ hf _ => hf) (fun _ _ => rfl) hself hk⟩
  · rw [List.getElem?_map, Option.map_eq_some_iff] at hr
    obtain ⟨R0, hr, hk⟩ := hr
    have hR0 : R0 = none := by
      cases R0 with
      | none => rfl
      | some R0 => cases R0 <;> simp [subR] at hk
    subst hR0
    by_cases hrl : r < A.length
    · rw [List.getElem?_append_left (by rw [hbackLen]; exact hrl)] at hr
      rw [List.getElem?_append_left (by rw [hbl]; exact hrl)]
      by_cases hin : ∃ i : Nat, L[i]? = some r
      · obtain ⟨i, hi⟩ := hin
        have hil : i < L.length := (List.getElem?_eq_some_iff.mp hi).1
        have hiF : F1'[i]? = some (F1'[i]'(by omega)) := by simp [show i < F1'.length by omega]
        have hin2 : ((F1'.take L.length).map (subR (unS L F.length) (unP L F.length) (unB L F.length)))[i]? = some (subR (unS L F.length) (unP L F.length) (unB L F.length) (F1'[i]'(by omega))) := by
          rw [List.getElem?_map, List.getElem?_take, if_pos hil, hiF]; rfl
        rw [back_in L _ F i _ hn hi hin2 (by rw [← hA]; exact hrl)] at hr
        injection hr with hr
        rw [at_in i r hi hrl]
        cases hR1 : F1'[i]'(by omega) with
        | none =>
          rw [hR1] at hiF
          exact (@Roots.gone (badOf B A (packA L A)) _ _ _ h') i hiF
        | some R1 => rw [hR1] at hr; cases R1 <;> simp [subR] at hr
      · rw [back_out L _ F (fun i hi => hin ⟨i, hi⟩)] at hr
        rw [back_out L _ A (fun i hi => hin ⟨i, hi⟩)]
        exact @Roots.gone B _ _ _ h r hr
    · rw [List.getElem?_append_right (by rw [hbackLen]; omega), hbackLen, List.getElem?_map, List.getElem?_drop, Option.map_eq_some_iff] at hr
      obtain ⟨R1, h1, h2⟩ := hr
      rw [List.getElem?_append_right (by rw [hbl]; omega), List.getElem?_drop, hbl]
      cases R1 with
      | none => exact (@Roots.gone (badOf B A (packA L A)) _ _ _ h') _ h1
      | some R1 => cases R1 <;> simp [subR] at h2
  · rcases ownNew b hb with h1 | ⟨_, h1⟩
    · exact Nat.lt_of_lt_of_le (@Roots.lt B _ _ _ h b h1) hstep.size
    · exact (@Roots.lt (badOf B A (packA L A)) _ _ _ h') b h1
  · rcases ownNew b hb with h1 | ⟨_, h1⟩
    · exact @Roots.ok B _ _ _ h b h1
    · exact fun hbad => (@Roots.ok (badOf B A (packA L A)) _ _ _ h') b h1 (.inl hbad)

end Go.Proofs.YtjnhclnnobejgaaE
