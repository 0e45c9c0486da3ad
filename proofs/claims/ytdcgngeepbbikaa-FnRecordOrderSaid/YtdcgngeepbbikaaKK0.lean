/- impl.compareRecords: what it comes to, its order, and what a sort asks of it; conditions: none. -/
import Derived.Test.YtdcgngeepbbikaaEsf
import Derived.Test.YtdcgngeepbbikaaTK0
import Derived.Test.YtdcgngeepbbikaaEz
import Derived.Test.YtdcgngeepbbikaaRows
import Derived.WalkKit
import Derived.ProofKit
import Derived.OpenShut
import Derived.ShutString
import Derived.ChangeOld
import Derived.Below
import Derived.SizedLaws
namespace Go.Proofs.Ytdcgngeepbbikaa.TK0
open Go.Proofs.YtdcgngeepbbikaaE
set_option maxRecDepth 100000
set_option linter.unusedVariables false
set_option linter.unusedSimpArgs false

def cmpB (a b : ByteArray) : Int := Lib.compareBytes a.data.toList b.data.toList
theorem f_Compare (a b : ByteArray) : callL E 196 [ST a, ST b] [] = some (IN (cmpB a b), []) := callX rfl rfl

noncomputable def p_cmp_isNaN (a_0 : Int) : Option Bool :=
  some (a_0 != a_0)

set_option maxHeartbeats 4000000 in
theorem L_cmp_isNaN (a_0 : Int) {r : Bool} (h : p_cmp_isNaN a_0 = some r) : callL E 257 [IN a_0] ([] : Fo) = some (BO r, ([] : Fo)) := by
  unfold p_cmp_isNaN at h
  refine callW (fu := Try.f257) rfl rfl rfl NN ?_
  intro lp cl hlp hcl
  conv => lhs; whnf
  obtain rfl := Option.some.inj h
  show _ = _
  kernel_rfl


noncomputable def p_cmp_Compare (a_0 : Int) (a_1 : Int) : Option Int :=
  callK (p_cmp_isNaN a_0) fun y1 =>
  callK (p_cmp_isNaN a_1) fun y2 =>
  if y1 = true then
    if y2 = true then
      some 0
    else
      some (-1)
  else
    if y2 = true then
      some 1
    else
      if a_0 < a_1 then
        some (-1)
      else
        if a_0 > a_1 then
          some 1
        else
          some 0

set_option maxHeartbeats 4000000 in
theorem L_cmp_Compare (a_0 : Int) (a_1 : Int) {r : Int} (h : p_cmp_Compare a_0 a_1 = some r) : callL E 197 [IN a_0, IN a_1] ([] : Fo) = some (IN r, ([] : Fo)) := by
  unfold p_cmp_Compare at h
  refine callW (fu := Try.f197) rfl rfl rfl NN ?_
  intro lp cl hlp hcl
  conv => lhs; whnf
  obtain ⟨y1, h_y1, h⟩ := callK_inv h
  rw [cl_eq hcl (L_cmp_isNaN a_0 h_y1)]
  rotate_left
  · show _ = _
    kernel_rfl
  · show _ = _
    kernel_rfl
  conv => lhs; whnf
  obtain ⟨y2, h_y2, h⟩ := callK_inv h
  rw [cl_eq hcl (L_cmp_isNaN a_1 h_y2)]
  rotate_left
  · show _ = _
    kernel_rfl
  · show _ = _
    kernel_rfl
  conv => lhs; whnf
  cases hb3 : y1
  · replace h := ifF h (booF hb3)
    conv => lhs; whnf
    cases hb5 : y2
    · replace h := ifF h (booF hb5)
      conv => lhs; whnf
      cases hb6 : (decide (a_0 < a_1))
      · replace h := ifF h (decF hb6)
        conv => lhs; whnf
        cases hb7 : (decide (a_0 > a_1))
        · replace h := ifF h (decF hb7)
          conv => lhs; whnf
          obtain rfl := Option.some.inj h
          show _ = _
          kernel_rfl

        · replace h := ifT h (decT hb7)
          conv => lhs; whnf
          obtain rfl := Option.some.inj h
          show _ = _
          kernel_rfl

      · replace h := ifT h (decT hb6)
        conv => lhs; whnf
        obtain rfl := Option.some.inj h
        show _ = _
        kernel_rfl

    · replace h := ifT h hb5
      conv => lhs; whnf
      obtain rfl := Option.some.inj h
      show _ = _
      kernel_rfl

  · replace h := ifT h hb3
    conv => lhs; whnf
    cases hb4 : y2
    · replace h := ifF h (booF hb4)
      conv => lhs; whnf
      obtain rfl := Option.some.inj h
      show _ = _
      kernel_rfl

    · replace h := ifT h hb4
      conv => lhs; whnf
      obtain rfl := Option.some.inj h
      show _ = _
      kernel_rfl


noncomputable def p_cmp_Or (a_0 : List Int) : Option Int :=
  grd (a_0.length < 4611686018427387904) <|
  forK a_0 (fun (i5 : Nat) x7 (_ : Unit) (nx6 : Unit → Option _) =>
    if ¬ x7 = 0 then
      some x7
    else
      nx6 ()) () (fun (_ : Unit) =>
    some 0)

set_option maxHeartbeats 4000000 in
theorem L_cmp_Or (a_0 : List Int) {r : Int} (h : p_cmp_Or a_0 = some r) : callL E 195 [.d (.arr (a_0.map rI))] ([] : Fo) = some (IN r, ([] : Fo)) := by
  unfold p_cmp_Or at h
  refine callW (fu := Try.f195) rfl rfl rfl NN ?_
  intro lp cl hlp hcl
  conv => lhs; whnf
  try rw [len_of (l := a_0) (r := rI)]
  obtain ⟨hl_i5, h⟩ := grd_inv h
  refine loop_for hlp (l := a_0) hl_i5 (fun (i5 : Nat) (_ : Unit) => ([.dead, .dead, .dead, IN 0, .dead, .dead, .d (.arr (a_0.map rI)), IN (a_0.length : Int), IN (i5 : Int)] ++ List.replicate 9 .dead : List V)) (fun (i5 : Nat) (_ : Unit) => ([] : Fo)) (fun (r : Int) => ((IN r : V), ([] : Fo))) ?_ ?_ () _ (fun kk => by kernel_rfl) h
  · clear h
    rintro next_nx6 nx6 i5 hi_i5 hnx6 ⟨⟩ r h
    try dsimp only at h
    have hn_i5 : i5 < 4611686018427387904 := by omega
    have hx_x7 := get_map rI a_0 i5 hi_i5
    generalize a_0[i5] = x7 at h hx_x7
    have hd_i5 : (decide ((i5 : Int) < (a_0.length : Int))) = true := decide_eq_true (by omega)
    conv => lhs; whnf
    try (first | rw [hd_i5] | (split; (first | (rename_i hx; exact absurd (hd_i5.symm.trans hx) (by decide)) | (rotate_left; rename_i hx; exact absurd (hd_i5.symm.trans hx) (by decide)))))
    conv => lhs; whnf
    try (rw [decide_eq_true hq_x7]; conv => lhs; whnf)
    rw [hx_x7]
    conv => lhs; whnf
    rw [hx_x7]
    conv => lhs; whnf
    cases hb8 : (x7 != 0)
    · replace h := ifF h ((fun h => not_not_intro (bneF h)) hb8)
      conv => lhs; whnf
      rw [wrap_nat i5 (by have := hn_i5; omega)]
      exact hnx6 _ _ _ _ (fun kk => by kernel_rfl) h
    · replace h := ifT h (bneT hb8)
      conv => lhs; whnf
      obtain rfl := Option.some.inj h
      show _ = _
      kernel_rfl

  · clear h
    rintro next_nx6 ⟨⟩ r h
    try dsimp only at h
    have hd_i5 : (decide ((a_0.length : Int) < (a_0.length : Int))) = false := decide_eq_false (by omega)
    conv => lhs; whnf
    try (first | rw [hd_i5] | (split; (first | (rename_i hx; exact absurd (hd_i5.symm.trans hx) (by decide)) | (rotate_left; rename_i hx; exact absurd (hd_i5.symm.trans hx) (by decide)))))
    conv => lhs; whnf
    obtain rfl := Option.some.inj h
    show _ = _
    kernel_rfl


noncomputable def p_impl_compareRecords (a_0 : Record) (a_1 : Record) : Option Int :=
  callK (p_cmp_Compare a_1.Seq a_0.Seq) fun y1 =>
  callK (p_cmp_Compare a_0.Kind a_1.Kind) fun y2 =>
  callK (p_cmp_Or ([(cmpB a_0.Key a_1.Key), y1, y2, (cmpB a_0.Value a_1.Value), (cmpB a_0.End a_1.End)] : List Int)) fun y3 =>
  some y3

set_option maxHeartbeats 4000000 in
theorem L_impl_compareRecords (a_0 : Record) (a_1 : Record) {r : Int} (h : p_impl_compareRecords a_0 a_1 = some r) : callL E 103 [.agg [ST a_0.Key, IN a_0.Seq, IN a_0.Kind, ST a_0.Value, ST a_0.End], .agg [ST a_1.Key, IN a_1.Seq, IN a_1.Kind, ST a_1.Value, ST a_1.End]] ([] : Fo) = some (IN r, ([] : Fo)) := by
  unfold p_impl_compareRecords at h
  refine callW (fu := Try.f103) rfl rfl rfl NN ?_
  intro lp cl hlp hcl
  conv => lhs; whnf
  rw [cl_eq hcl (f_Compare a_0.Key a_1.Key)]
  rotate_left
  · exact rfl
  · exact rfl
  conv => lhs; whnf
  obtain ⟨y1, h_y1, h⟩ := callK_inv h
  rw [cl_eq hcl (L_cmp_Compare a_1.Seq a_0.Seq h_y1)]
  rotate_left
  · show _ = _
    kernel_rfl
  · show _ = _
    kernel_rfl
  conv => lhs; whnf
  obtain ⟨y2, h_y2, h⟩ := callK_inv h
  rw [cl_eq hcl (L_cmp_Compare a_0.Kind a_1.Kind h_y2)]
  rotate_left
  · show _ = _
    kernel_rfl
  · show _ = _
    kernel_rfl
  conv => lhs; whnf
  rw [cl_eq hcl (f_Compare a_0.Value a_1.Value)]
  rotate_left
  · exact rfl
  · exact rfl
  conv => lhs; whnf
  rw [cl_eq hcl (f_Compare a_0.End a_1.End)]
  rotate_left
  · exact rfl
  · exact rfl
  conv => lhs; whnf
  obtain ⟨y3, h_y3, h⟩ := callK_inv h
  rw [cl_eq hcl (L_cmp_Or ([(cmpB a_0.Key a_1.Key), y1, y2, (cmpB a_0.Value a_1.Value), (cmpB a_0.End a_1.End)] : List Int) h_y3)]
  rotate_left
  · show _ = _
    kernel_rfl
  · show _ = _
    kernel_rfl
  conv => lhs; whnf
  obtain rfl := Option.some.inj h
  show _ = _
  kernel_rfl

/-! ### Strings in order -/
theorem bl_irr : ∀ x : List UInt8, Op.bytesLess x x = false
  | [] => rfl
  | a :: x => by simp [Op.bytesLess, bl_irr x, UInt8.lt_irrefl]
theorem bl_tr : ∀ {x y z : List UInt8}, Op.bytesLess x y = true → Op.bytesLess y z = true → Op.bytesLess x z = true
  | _, [], _, h, _ => by
    rename_i x _
    cases x <;> simp [Op.bytesLess] at h
  | _, b :: y, [], _, h => by simp [Op.bytesLess] at h
  | [], b :: y, c :: z, _, _ => rfl
  | a :: x, b :: y, c :: z, h1, h2 => by
    simp only [Op.bytesLess, Bool.or_eq_true, Bool.and_eq_true, decide_eq_true_eq, beq_iff_eq] at h1 h2 ⊢
    rcases h1 with h1 | ⟨rfl, h1⟩
    · rcases h2 with h2 | ⟨rfl, h2⟩
      · exact .inl (UInt8.lt_trans h1 h2)
      · exact .inl h1
    · rcases h2 with h2 | ⟨rfl, h2⟩
      · exact .inl h2
      · exact .inr ⟨rfl, bl_tr h1 h2⟩
theorem bl_tri : ∀ {x y : List UInt8}, Op.bytesLess x y = false → Op.bytesLess y x = false → x = y
  | [], [], _, _ => rfl
  | [], _ :: _, h, _ => by simp [Op.bytesLess] at h
  | _ :: _, [], _, h => by simp [Op.bytesLess] at h
  | a :: x, b :: y, h1, h2 => by
    simp only [Op.bytesLess, Bool.or_eq_false_iff, decide_eq_false_iff_not, Bool.and_eq_false_iff, beq_eq_false_iff_ne, ne_eq] at h1 h2
    have he : a = b := by
      rcases UInt8.lt_or_eq_of_le (UInt8.not_lt.mp h2.1) with h | h
      · exact absurd h h1.1
      · exact h
    subst he
    rcases h1.2 with h | h
    · exact absurd rfl h
    · rcases h2.2 with h' | h'
      · exact absurd rfl h'
      · rw [bl_tri h h']
def kl (a b : ByteArray) : Prop := Op.bytesLess a.toList b.toList = true
theorem kl_irr (a : ByteArray) : ¬ kl a a := by unfold kl; rw [bl_irr]; simp
theorem kl_tr (a b c : ByteArray) (h1 : kl a b) (h2 : kl b c) : kl a c := bl_tr h1 h2
theorem kl_tri (a b : ByteArray) (h1 : ¬ kl a b) (h2 : ¬ kl b a) : a = b := by
  unfold kl at h1 h2
  have := bl_tri (by simpa using h1) (by simpa using h2)
  rw [toList_data, toList_data] at this
  exact bytes_ext this
theorem kl_b (a b : ByteArray) : (Op.bytesLess a.toList b.toList = true) = kl a b := rfl
theorem kl_as {a b : ByteArray} (h : kl a b) : ¬ kl b a := fun h2 => kl_irr _ (kl_tr _ _ _ h h2)
theorem kl_ne {a b : ByteArray} (h : kl a b) : a ≠ b := fun e => kl_irr a (by rw [← e] at h; exact h)
theorem kl_empty (a : ByteArray) : ¬ kl a ⟨#[]⟩ := by
  unfold kl
  rw [show (⟨#[]⟩ : ByteArray).toList = [] from by rw [toList_data]]
  cases a.toList <;> simp [Op.bytesLess]
theorem kl_pos {a : ByteArray} (h : a ≠ ⟨#[]⟩) : kl ⟨#[]⟩ a := Classical.byContradiction fun hn => h (kl_tri _ _ (kl_empty a) hn)
/-! ### Orders one behind the other -/
def Lx {α κ : Type} (f : α → κ) (r : κ → κ → Prop) (S : α → α → Prop) (a b : α) : Prop := r (f a) (f b) ∨ (f a = f b ∧ S a b)
theorem Lx.tr {α κ : Type} {f : α → κ} {r : κ → κ → Prop} {S : α → α → Prop} (hr : ∀ x y z, r x y → r y z → r x z) (hS : ∀ a b c, S a b → S b c → S a c) (a b c : α) (h1 : Lx f r S a b) (h2 : Lx f r S b c) : Lx f r S a c := by
  rcases h1 with h1 | ⟨e1, h1⟩ <;> rcases h2 with h2 | ⟨e2, h2⟩
  · exact .inl (hr _ _ _ h1 h2)
  · exact .inl (e2 ▸ h1)
  · exact .inl (e1 ▸ h2)
  · exact .inr ⟨e1.trans e2, hS _ _ _ h1 h2⟩
theorem Lx.irr {α κ : Type} {f : α → κ} {r : κ → κ → Prop} {S : α → α → Prop} (hr : ∀ x, ¬ r x x) (hS : ∀ a, ¬ S a a) (a : α) : ¬ Lx f r S a a := by
  rintro (h | ⟨_, h⟩)
  · exact hr _ h
  · exact hS _ h
theorem Lx.tri {α κ : Type} {f : α → κ} {r : κ → κ → Prop} {S : α → α → Prop} (hr : ∀ x y, ¬ r x y → ¬ r y x → x = y) {a b : α} (h1 : ¬ Lx f r S a b) (h2 : ¬ Lx f r S b a) : f a = f b ∧ ¬ S a b ∧ ¬ S b a := by
  have e := hr (f a) (f b) (fun h => h1 (.inl h)) (fun h => h2 (.inl h))
  exact ⟨e, fun h => h1 (.inr ⟨e, h⟩), fun h => h2 (.inr ⟨e.symm, h⟩)⟩
/-- The internal order. -/
def RL : Record → Record → Prop := Lx (·.Key) kl (Lx (·.Seq) (· > ·) (Lx (·.Kind) (· < ·) (Lx (·.Value) kl fun a b => kl a.End b.End)))
theorem RL_tr (a b c : Record) : RL a b → RL b c → RL a c := by
  unfold RL
  refine Lx.tr kl_tr (Lx.tr (fun x y z h1 h2 => ?_) (Lx.tr (fun x y z h1 h2 => ?_) (Lx.tr kl_tr fun a b c h1 h2 => ?_))) a b c
  · exact Int.lt_trans h2 h1
  · exact Int.lt_trans h1 h2
  · exact kl_tr _ _ _ h1 h2
theorem RL_irr (a : Record) : ¬ RL a a := by
  unfold RL
  refine Lx.irr kl_irr (Lx.irr (fun x h => ?_) (Lx.irr (fun x h => ?_) (Lx.irr kl_irr fun a h => ?_))) a
  · exact Int.lt_irrefl _ h
  · exact Int.lt_irrefl _ h
  · exact kl_irr _ h
theorem RL_tri {a b : Record} (h1 : ¬ RL a b) (h2 : ¬ RL b a) : a = b := by
  obtain ⟨e1, h1, h2⟩ := Lx.tri kl_tri h1 h2
  obtain ⟨e2, h1, h2⟩ := Lx.tri (fun x y (h1 : ¬ x > y) (h2 : ¬ y > x) => by omega) h1 h2
  obtain ⟨e3, h1, h2⟩ := Lx.tri (fun x y (h1 : ¬ x < y) (h2 : ¬ y < x) => by omega) h1 h2
  obtain ⟨e4, h1, h2⟩ := Lx.tri kl_tri h1 h2
  have e5 := kl_tri _ _ h1 h2
  cases a; cases b
  simp_all
theorem RL_key {a b : Record} (h : RL a b) : kl a.Key b.Key ∨ a.Key = b.Key := h.imp id (·.1)
noncomputable def rl (a b : Record) : Bool := @decide (RL a b) (Classical.propDecidable _)
theorem rl_iff {a b : Record} : rl a b = true ↔ RL a b := by unfold rl; exact @decide_eq_true_iff _ (Classical.propDecidable _)
theorem rl_of {b : Bool} {x y : Record} (h : b = true ↔ RL x y) : b = rl x y := by rw [Bool.eq_iff_iff, h, rl_iff]

theorem less_cmp : ∀ (x y : List UInt8), Op.bytesLess x y = decide (Lib.compareBytes x y < 0)
  | _, [] => by
    rename_i x
    cases x <;> rfl
  | [], _ :: _ => rfl
  | a :: x, b :: y => by
    rw [Op.bytesLess, Lib.compareBytes, less_cmp x y]
    by_cases h1 : a < b
    · simp [h1]
    · by_cases h2 : b < a
      · have hne : a ≠ b := fun e => by subst e; exact h1 h2
        simp [h1, h2, hne]
      · have he : a = b := by
          have e1 : ¬ a.toNat < b.toNat := fun h => h1 (by rwa [UInt8.lt_iff_toNat_lt])
          have e2 : ¬ b.toNat < a.toNat := fun h => h2 (by rwa [UInt8.lt_iff_toNat_lt])
          exact UInt8.toNat_inj.mp (by omega)
        simp [h1, h2, he]
theorem cmp_zero : ∀ (x y : List UInt8), Lib.compareBytes x y = 0 ↔ x = y
  | [], [] => by simp [Lib.compareBytes]
  | [], _ :: _ => by simp [Lib.compareBytes]
  | _ :: _, [] => by simp [Lib.compareBytes]
  | a :: x, b :: y => by
    rw [Lib.compareBytes]
    by_cases h1 : a < b
    · have hne : a ≠ b := fun e => by subst e; rw [UInt8.lt_iff_toNat_lt] at h1; omega
      simp [h1, hne]
    · by_cases h2 : b < a
      · have hne : a ≠ b := fun e => by subst e; exact h1 h2
        simp [h1, h2, hne]
      · have he : a = b := by
          have e1 : ¬ a.toNat < b.toNat := fun h => h1 (by rwa [UInt8.lt_iff_toNat_lt])
          have e2 : ¬ b.toNat < a.toNat := fun h => h2 (by rwa [UInt8.lt_iff_toNat_lt])
          exact UInt8.toNat_inj.mp (by omega)
        simp [h1, h2, he, cmp_zero x y]
theorem cmpB_lt {a b : ByteArray} : cmpB a b < 0 ↔ kl a b := by
  unfold cmpB kl
  rw [toList_data, toList_data, less_cmp, decide_eq_true_iff]
theorem cmpB_eq {a b : ByteArray} : cmpB a b = 0 ↔ a = b := by
  unfold cmpB
  rw [cmp_zero]
  exact ⟨bytes_ext, fun h => by rw [h]⟩

def cmpN (a b : Int) : Int := if a < b then -1 else if a > b then 1 else 0
theorem pl_cmp (a b : Int) : p_cmp_Compare a b = some (cmpN a b) := by
  unfold p_cmp_Compare p_cmp_isNaN cmpN
  simp only [callK_some, bne_self_eq_false, Bool.false_eq_true, if_false]
  repeat' split
  all_goals rfl
theorem pl_or5 (a b c d e : Int) : p_cmp_Or ([a, b, c, d, e] : List Int) = some (if a ≠ 0 then a else if b ≠ 0 then b else if c ≠ 0 then c else if d ≠ 0 then d else e) := by
  unfold p_cmp_Or forK
  rw [grd_pos (by simp)]
  simp only [forGo_cons, forGo_nil]
  repeat' split
  all_goals simp_all
/-- The comparison, as a number. -/
def cmpR (a b : Record) : Int := if cmpB a.Key b.Key ≠ 0 then cmpB a.Key b.Key else if cmpN b.Seq a.Seq ≠ 0 then cmpN b.Seq a.Seq else if cmpN a.Kind b.Kind ≠ 0 then cmpN a.Kind b.Kind else if cmpB a.Value b.Value ≠ 0 then cmpB a.Value b.Value else cmpB a.End b.End
theorem pl_cmpR (a b : Record) : p_impl_compareRecords a b = some (cmpR a b) := by
  unfold p_impl_compareRecords
  rw [pl_cmp, callK_some, pl_cmp, callK_some, pl_or5, callK_some]
  rfl
theorem cmpR_lt (a b : Record) : cmpR a b < 0 ↔ RL a b := by
  unfold cmpR
  have e1 := cmpB_eq (a := a.Key) (b := b.Key)
  have l1 := cmpB_lt (a := a.Key) (b := b.Key)
  have e4 := cmpB_eq (a := a.Value) (b := b.Value)
  have l4 := cmpB_lt (a := a.Value) (b := b.Value)
  have l5 := cmpB_lt (a := a.End) (b := b.End)
  generalize cmpB a.Key b.Key = x1 at *
  generalize cmpB a.Value b.Value = x4 at *
  generalize cmpB a.End b.End = x5 at *
  simp only [RL, Lx]
  rw [← l1, ← l4, ← l5, ← e1, ← e4]
  unfold cmpN
  by_cases k : x1 = 0
  · subst k
    rw [if_neg (by simp)]
    rcases Int.lt_trichotomy b.Seq a.Seq with s | s | s
    · simp [s]
    · simp only [s, Int.lt_irrefl, gt_iff_lt, if_false, ne_eq, not_true_eq_false, false_or, true_and]
      rcases Int.lt_trichotomy a.Kind b.Kind with d | d | d
      · simp [d]
      · simp only [d, Int.lt_irrefl, if_false, not_true_eq_false, false_or, true_and]
        by_cases v : x4 = 0
        · subst v; simp
        · simp [v]
      · have d2 : ¬ a.Kind < b.Kind := by omega
        have d3 : ¬ a.Kind = b.Kind := by omega
        simp [d, d2, d3]
    · have s2 : ¬ b.Seq < a.Seq := by omega
      have s3 : ¬ a.Seq = b.Seq := by omega
      simp [s, s2, s3]
  · rw [if_pos k]
    simp [k]
theorem lt_iff {a b : Record} : Go.Proofs.ltOf cmpR a b = true ↔ RL a b := by
  unfold Go.Proofs.ltOf
  rw [decide_eq_true_iff, cmpR_lt]
theorem lt_no {a b : Record} : Go.Proofs.ltOf cmpR a b = false ↔ ¬ RL a b := by rw [← lt_iff]; simp
theorem swo : Go.Sort.SWO (Go.Proofs.ltOf cmpR) where
  irrefl a := lt_no.mpr (RL_irr a)
  trans a b c h1 h2 := lt_iff.mpr (RL_tr a b c (lt_iff.mp h1) (lt_iff.mp h2))
  ntrans a b c h1 h2 := lt_no.mpr fun h => by
    by_cases k : RL b a
    · exact lt_no.mp h2 (RL_tr b a c k h)
    · have e := RL_tri (lt_no.mp h1) k
      subst e
      exact lt_no.mp h2 h
theorem tot (a b : Record) (h1 : Go.Proofs.ltOf cmpR a b = false) (h2 : Go.Proofs.ltOf cmpR b a = false) : a = b := RL_tri (lt_no.mp h1) (lt_no.mp h2)
def encR (r : Record) : List Value := [.string r.Key, .int .i64 r.Seq, .int .i64 r.Kind, .string r.Value, .string r.End]
def decR : List D → Option Record
  | [.lit (.string a), .lit (.int .i64 b), .lit (.int .i64 c), .lit (.string d), .lit (.string e)] => some ⟨a, b, c, d, e⟩
  | _ => none
theorem dec_inv (r : List D) (x : Record) (h : decR r = some x) : r = (encR x).map D.lit := by
  unfold decR at h
  split at h
  · injection h with h; subst h; rfl
  · simp at h
theorem enc_len (x : Record) : (encR x).length = 5 := rfl
theorem enc_one (x : Record) (v : Value) (h : v ∈ encR x) : v.oneCell' = true := by
  simp only [encR, List.mem_cons, List.not_mem_nil, or_false] at h
  rcases h with rfl | rfl | rfl | rfl | rfl <;> rfl
instance : Inhabited Record := ⟨⟨⟨#[]⟩, 0, 0, ⟨#[]⟩, ⟨#[]⟩⟩⟩
theorem lays : ∀ blk off size w, Go.Proofs.CmpLays Try.prog 103 #[] encR 5 cmpR blk off size w := fun blk off size w =>
  cmp_lays (DW := tightDrw) trivial (ok (DW := tightDrw)) enc_one (fun x y => L_impl_compareRecords x y (pl_cmpR x y)) blk off size w
/-- What the sort makes of a list. -/
noncomputable def sortR (l : List Record) : List Record := l.mergeSort fun x y => !(Go.Proofs.ltOf cmpR) y x
theorem sortR_mem {l : List Record} {x : Record} : x ∈ sortR l ↔ x ∈ l := (List.mergeSort_perm l _).mem_iff
theorem sortR_len (l : List Record) : (sortR l).length = l.length := List.length_mergeSort _
theorem sortR_pair (l : List Record) : (sortR l).Pairwise fun a b => a = b ∨ RL a b := by
  have h := List.pairwise_mergeSort (le := fun x y => !(Go.Proofs.ltOf cmpR) y x) (fun a b c h1 h2 => by
    simp only [Bool.not_eq_true'] at h1 h2 ⊢
    rw [lt_no] at h1 h2 ⊢
    intro h
    by_cases k : RL a b
    · exact h2 (RL_tr c a b h k)
    · have e := RL_tri k h1
      subst e
      exact h2 h) (fun a b => by
    simp only [Bool.or_eq_true, Bool.not_eq_true']
    rw [lt_no, lt_no]
    by_cases k : RL b a
    · exact .inr fun h => RL_irr a (RL_tr a b a h k)
    · exact .inl k) l
  refine h.imp fun {a b} hab => ?_
  simp only [Bool.not_eq_true'] at hab
  rw [lt_no] at hab
  by_cases k : RL a b
  · exact .inr k
  · exact .inl (RL_tri k hab)
