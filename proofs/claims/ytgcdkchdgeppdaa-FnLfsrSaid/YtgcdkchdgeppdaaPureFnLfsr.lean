/- Stepping the shift register is invertible, jumps add up, and the period is 65535, for all inputs; conditions: none. -/
import Derived.Test.YtgcdkchdgeppdaaMFnLfsr2
namespace Go.Proofs.Ytgcdkchdgeppdaa.Pure
open Go.RowKit Go.Proofs.Ytgcdkchdgeppdaa.PFnLfsr Go.Proofs.YtgcdkchdgeppdaaW.PrintWords Go.Proofs.YtgcdkchdgeppdaaW.PrintLast

/-! ### One step, on natural numbers -/
def stp (n : Nat) : Nat := if n % 2 = 1 then (n / 2) ^^^ 46080 else n / 2
def it (n x : Nat) : Nat := Nat.rec x (fun _ r => stp r) n
theorem it_zero (x : Nat) : it 0 x = x := rfl
theorem it_out (n x : Nat) : it (n + 1) x = stp (it n x) := rfl
theorem it_add (a b x : Nat) : it (a + b) x = it b (it a x) := by
  induction b with
  | zero => rfl
  | succ b ih => rw [← Nat.add_assoc, it_out, ih, it_out]
theorem it_in (n x : Nat) : it (n + 1) x = it n (stp x) := by
  rw [Nat.add_comm, it_add]; rfl
theorem xor_two (a b : Nat) : (a ^^^ b) / 2 = a / 2 ^^^ b / 2 := by
  apply Nat.eq_of_testBit_eq; intro i
  simp [Nat.testBit_div_two, Nat.testBit_xor]
theorem xor_mod (a b : Nat) : (a ^^^ b) % 2 = (a % 2 + b % 2) % 2 := by
  have := Nat.xor_mod_two_eq_one (a := a) (b := b)
  rcases Nat.mod_two_eq_zero_or_one a with ha | ha <;> rcases Nat.mod_two_eq_zero_or_one b with hb | hb <;>
    rcases Nat.mod_two_eq_zero_or_one (a ^^^ b) with h | h <;> simp_all
theorem stp_xor (a b : Nat) : stp (a ^^^ b) = stp a ^^^ stp b := by
  unfold stp
  rw [xor_mod, xor_two]
  rcases Nat.mod_two_eq_zero_or_one a with ha | ha <;> rcases Nat.mod_two_eq_zero_or_one b with hb | hb <;> simp [ha, hb]
  · rw [Nat.xor_assoc]
  · rw [Nat.xor_assoc, Nat.xor_assoc, Nat.xor_comm 46080]
  · rw [Nat.xor_assoc, Nat.xor_comm 46080, Nat.xor_assoc, Nat.xor_self, Nat.xor_zero]
theorem it_xor (n a b : Nat) : it n (a ^^^ b) = it n a ^^^ it n b := by
  induction n with
  | zero => rfl
  | succ n ih => rw [it_out, it_out, it_out, ih, stp_xor]

/-! ### The period -/
def cs : List Nat := [32768, 41728, 34826, 10328, 55871, 46780, 10212, 26893, 2312, 12540, 14113, 35115, 39495, 61915, 53401, 63404, 54, 15899, 39433, 55591, 63976, 41990, 10751, 53156, 3372, 50697, 37871, 12204, 60646, 10389, 5619, 55907, 21430, 30866, 43589, 30617, 31422, 24750, 2918, 62628, 14454, 48346, 53766, 17227, 14850, 36606, 8135, 22054, 2939, 63630, 22558, 42089, 45658, 57089, 46963, 21388, 24774, 27285, 18175, 47622, 12347, 31109, 9793, 50804, 50620, 18702, 50779, 59976, 23847, 24560, 25804, 61157, 52618, 32037, 52690, 34282, 31980, 7837, 5453, 57169, 29750, 22051, 19407, 11604, 63534, 46741, 44855, 58440, 20611, 41680, 19114, 14047, 14606, 43899, 29518, 17942, 34343, 45290, 17426, 39278, 31426, 27532, 22102, 9750, 65383, 25325, 23080, 39166, 3123, 29063, 38547, 8400, 60198, 39605, 26359, 43340, 4776, 50157, 53422, 38086, 41389, 7987, 26157, 60354, 56746, 34669, 33941, 37147, 7467, 10303, 31248, 4744, 11717, 53992, 34108, 6189, 35654, 47500, 45626, 34168, 45497, 24962, 49735, 48651, 19997, 20494, 55629, 8953, 24953, 13200, 18653, 58216, 47225, 56838, 19555, 58178, 55097, 8181, 30200, 32570, 31126, 46790, 35809, 44369, 7066, 60229, 10079, 11403, 64338, 48765, 50263, 52875, 9118, 49168, 34196, 52524, 13449, 24544, 5080, 61382, 50551, 8677, 13288, 24122, 20496, 13044, 3623, 6618, 23960, 1971, 30942, 14427, 10700, 45323, 17151, 48926, 30971, 38599, 65104, 193, 59779, 13830, 39955, 10447, 22494, 7289, 20702, 6827, 11854, 3480, 16979, 30682, 10620, 10388, 18562, 57841, 43961, 32094, 15526, 31268, 38513, 49384, 37840, 30540, 63980, 47555, 51127, 38811, 6684, 19847, 42267, 9363, 48636, 39503, 51793, 25608, 18386, 11862, 16646, 63457, 53081, 23516, 43443, 65210, 56179, 9700, 27521, 11624, 18269, 61225, 24177, 14424, 52831, 64957, 8943, 45386, 43999]
def chain : Nat → List Nat → Bool
  | last, [] => last == 32768
  | last, c :: r => it 255 last == c && chain c r
theorem chain_it : ∀ (l : List Nat) (x : Nat), chain x l = true → it (255 * l.length) x = 32768 := by
  intro l
  induction l with
  | nil => intro x h; simp only [chain, beq_iff_eq] at h; exact h
  | cons c r ih =>
    intro x h
    simp only [chain, Bool.and_eq_true, beq_iff_eq] at h
    rw [List.length_cons, Nat.mul_add, Nat.mul_one, Nat.add_comm, it_add, h.1]
    exact ih c h.2
theorem chain_ok : chain 32768 (cs.drop 1 ++ [32768]) = true := by decide +kernel
theorem top_period : it 65535 32768 = 32768 := by
  have h := chain_it _ _ chain_ok
  have hl : 255 * (cs.drop 1 ++ [32768]).length = 65535 := by decide +kernel
  rw [hl] at h; exact h
theorem base_step : ∀ i : Fin 16, it (15 - i.val) 32768 = 2 ^ i.val := by decide +kernel
theorem base_period (i : Nat) (h : i < 16) : it 65535 (2 ^ i) = 2 ^ i := by
  have hb := base_step ⟨i, h⟩
  simp only at hb
  rw [← hb, ← it_add, Nat.add_comm, it_add, top_period]
theorem top_bit (n y : Nat) (h : y < 2 ^ n) : 2 ^ n + y = 2 ^ n ^^^ y := by
  apply Nat.eq_of_testBit_eq; intro i
  rw [Nat.testBit_xor]
  rcases Nat.lt_trichotomy i n with hi | hi | hi
  · rw [Nat.testBit_two_pow_add_gt hi, Nat.testBit_two_pow_of_ne (by omega)]; simp
  · subst hi; rw [Nat.testBit_two_pow_add_eq, Nat.testBit_two_pow_self, Nat.testBit_lt_two_pow h]; rfl
  · have h1 : 2 ^ n + y < 2 ^ i := by
      have : 2 ^ (n + 1) ≤ 2 ^ i := Nat.pow_le_pow_right (by decide) hi
      rw [Nat.pow_succ] at this; omega
    rw [Nat.testBit_lt_two_pow h1, Nat.testBit_two_pow_of_ne (by omega), Nat.testBit_lt_two_pow (by
      have : 2 ^ n ≤ 2 ^ i := Nat.pow_le_pow_right (by decide) (by omega)
      omega)]; rfl
theorem it_zero_fix (n : Nat) : it n 0 = 0 := by
  induction n with
  | zero => rfl
  | succ n ih => rw [it_out, ih]; rfl
theorem period : ∀ n, n ≤ 16 → ∀ x, x < 2 ^ n → it 65535 x = x := by
  intro n
  induction n with
  | zero =>
    intro _ x hx
    have : x = 0 := by simpa using hx
    rw [this]; exact it_zero_fix _
  | succ n ih =>
    intro hn x hx
    by_cases h : x < 2 ^ n
    · exact ih (by omega) x h
    · have hy : x - 2 ^ n < 2 ^ n := by rw [Nat.pow_succ] at hx; omega
      have hx' : x = 2 ^ n ^^^ (x - 2 ^ n) := by rw [← top_bit n _ hy]; omega
      rw [hx', it_xor, base_period n (by omega), ih (by omega) _ hy]

/-! ### The range -/
theorem stp_lt (x : Nat) (h : x < 65536) : stp x < 65536 := by
  unfold stp
  split
  · exact Nat.xor_lt_two_pow (n := 16) (by omega) (by decide)
  · omega
theorem stp_pos (x : Nat) (h : x < 65536) (h0 : 0 < x) : 0 < stp x := by
  unfold stp
  split
  · rcases Nat.eq_zero_or_pos (x / 2 ^^^ 46080) with e | e
    · have : x / 2 = 46080 := by
        have h2 : (x / 2 ^^^ 46080) ^^^ 46080 = 0 ^^^ 46080 := by rw [e]
        rw [Nat.xor_assoc, Nat.xor_self, Nat.xor_zero, Nat.zero_xor] at h2; exact h2
      omega
    · exact e
  · omega
theorem it_range (n x : Nat) (h : x < 65536) (h0 : 0 < x) : it n x < 65536 ∧ 0 < it n x := by
  induction n with
  | zero => exact ⟨h, h0⟩
  | succ n ih => rw [it_out]; exact ⟨stp_lt _ ih.1, stp_pos _ ih.1 ih.2⟩

/-! ### Go's numbers -/
theorem xor_i64 (a b : Nat) (ha : a < 65536) (hb : b < 65536) : Go.bits .xor .i64 (a : Int) (b : Int) = ((a ^^^ b : Nat) : Int) := by
  have hx : a ^^^ b < 2 ^ 16 := Nat.xor_lt_two_pow (by omega) (by omega)
  have e1 : a % 2 ^ IntKind.i64.bits = a := Nat.mod_eq_of_lt (by simp [IntKind.bits]; omega)
  have e2 : b % 2 ^ IntKind.i64.bits = b := Nat.mod_eq_of_lt (by simp [IntKind.bits]; omega)
  simp only [Go.bits, BitVec.ofInt_natCast, BitVec.toNat_xor, BitVec.toNat_ofNat, e1, e2]
  rw [IntKind.wrap_i64]; omega
theorem or_one (a : Nat) (ha : a < 65536) (h : a % 2 = 0) : Go.bits .or .i64 (a : Int) 1 = ((a + 1 : Nat) : Int) := by
  have := bits_join .i64 63 (by decide) (fun n h₀ h₁ => by rw [IntKind.wrap_i64]; omega) 1 (a : Int) 1 (by omega) (by omega) (by omega) (by omega) (by omega) (by omega)
  rw [this]; omega
theorem step_eq (x : Nat) (h : x < 65536) : impl_step.f (x : Int) = some ((stp x : Nat) : Int) := by
  unfold impl_step.f stp
  have e : Int.tmod (x : Int) 2 = ((x % 2 : Nat) : Int) := by rw [Int.tmod_eq_emod_of_nonneg (by omega)]; omega
  have e2 : (x : Int) / 2 = ((x / 2 : Nat) : Int) := by omega
  rw [e, e2]
  by_cases hx : x % 2 = 1
  · rw [if_pos (by omega), if_pos hx]
    congr 1
    exact xor_i64 (x / 2) 46080 (by omega) (by omega)
  · rw [if_neg (by omega), if_neg hx]
theorem within_eq (a b c : Int) : impl_within.f a b c = some (decide (b ≤ a ∧ a ≤ c)) := by
  unfold impl_within.f
  by_cases h : a ≥ b
  · rw [if_pos h]; congr 1; simp; omega
  · rw [if_neg h]; congr 1; simp; omega
theorem in_eq (a b c : Int) : spec_l00In.f a b c = some (decide (b ≤ a ∧ a ≤ c)) := by
  unfold spec_l00In.f
  by_cases h : a ≥ b
  · rw [if_pos h]; congr 1; simp; omega
  · rw [if_neg h]; congr 1; simp; omega
theorem valid_eq (a : Int) : impl_ValidState.f a = some (decide (1 ≤ a ∧ a ≤ 65535)) := by
  unfold impl_ValidState.f; rw [within_eq]; rfl
theorem svalid_eq (a : Int) : spec_ValidState.f a = some (decide (1 ≤ a ∧ a ≤ 65535)) := by
  unfold spec_ValidState.f; rw [in_eq]; rfl
theorem stepl_eq (x : Nat) (h : x < 65536) (h0 : 0 < x) : impl_StepLfsr.f (x : Int) = some ((stp x : Nat) : Int) := by
  unfold impl_StepLfsr.f
  rw [valid_eq, step_eq x h]
  simp only [Option.bind_some]
  rw [if_pos (by simp; omega)]
theorem back_eq (x : Nat) (h : x < 65536) (h0 : 0 < x) : impl_BackLfsr.f ((stp x : Nat) : Int) = some (x : Int) := by
  have h1 := stp_lt x h
  have h2 := stp_pos x h h0
  unfold impl_BackLfsr.f
  rw [valid_eq]
  simp only [Option.bind_some]
  rw [if_pos (by simp; omega)]
  have e : ((stp x : Nat) : Int) / 32768 = ((stp x / 32768 : Nat) : Int) := by omega
  rw [e]
  by_cases hx : x % 2 = 1
  · have hs : stp x = x / 2 ^^^ 46080 := by unfold stp; rw [if_pos hx]
    have hb : stp x / 32768 = 1 := by
      have : (stp x).testBit 15 = true := by
        rw [hs, Nat.testBit_xor, Nat.testBit_lt_two_pow (show x / 2 < 2 ^ 15 by omega)]; decide
      rw [Nat.testBit_eq_decide_div_mod_eq] at this
      have := of_decide_eq_true this
      omega
    rw [if_pos (by omega), show (46080 : Int) = ((46080 : Nat) : Int) from rfl, xor_i64 (stp x) 46080 h1 (by omega)]
    have hq : stp x ^^^ 46080 = x / 2 := by rw [hs, Nat.xor_assoc, Nat.xor_self, Nat.xor_zero]
    rw [hq]
    have hw : wrap64 (((x / 2 : Nat) : Int) * 2) = ((x / 2 * 2 : Nat) : Int) := by unfold wrap64; omega
    rw [hw, or_one (x / 2 * 2) (by omega) (by omega)]
    congr 1; omega
  · have hs : stp x = x / 2 := by unfold stp; rw [if_neg hx]
    rw [if_neg (by omega), hs]
    congr 1
    unfold wrap64; omega
theorem loop_eq (d : Nat) : ∀ (k : Nat) (x : Nat) (n i : Int), x < 65536 → 0 ≤ i → n - i = d → n < 65536 → d < k →
    impl_JumpLfsr.l0 k (x : Int) n i = some ((it d x : Nat) : Int) := by
  induction d with
  | zero =>
    intro k x n i hx h0 hd hn hk
    obtain ⟨k, rfl⟩ : ∃ m, k = m + 1 := ⟨k - 1, by omega⟩
    simp only [impl_JumpLfsr.l0]
    rw [if_neg (by omega)]; rfl
  | succ d ih =>
    intro k x n i hx h0 hd hn hk
    obtain ⟨k, rfl⟩ : ∃ m, k = m + 1 := ⟨k - 1, by omega⟩
    simp only [impl_JumpLfsr.l0]
    rw [if_pos (by omega), step_eq x hx]
    simp only [Option.bind_some]
    have hw : wrap64 (i + 1) = i + 1 := by unfold wrap64; omega
    rw [hw, ih k (stp x) n (i + 1) (stp_lt x hx) (by omega) (by omega) hn (by omega), it_in]
theorem jump_eq (k x : Nat) (n : Int) (h : x < 65536) (h0 : 0 < x) (hn : 0 ≤ n) (hk : 65540 ≤ k) :
    impl_JumpLfsr.f k (x : Int) n = some ((it (n % 65535).toNat x : Nat) : Int) := by
  unfold impl_JumpLfsr.f
  rw [valid_eq]
  simp only [Option.bind_some]
  rw [if_pos (by simp; omega)]
  obtain ⟨k, rfl⟩ : ∃ m, k = m + 1 := ⟨k - 1, by omega⟩
  simp only [impl_JumpLfsr.j0]
  rw [if_neg (by simp; omega)]
  have e : Int.tmod n 65535 = n % 65535 := Int.tmod_eq_emod_of_nonneg hn
  rw [e]
  exact loop_eq (n % 65535).toNat k x (n % 65535) 0 h (by omega) (by omega) (by omega) (by omega)
theorem at_eq (l : List Int) (hl : ∀ x ∈ l, (Lit.int .u8 x).wf = true) (i : Int) (hi : 0 ≤ i) (hi2 : i < 100) : ∃ r : Int, laws_b10At.f l i 256 = some r ∧ 0 ≤ r ∧ r < 256 := by
  unfold laws_b10At.f
  rw [if_neg (by omega)]
  by_cases h : i < (l.length : Int)
  · rw [if_pos h, if_pos hi, if_neg (by omega)]
    have hb : 0 ≤ rd l i ∧ rd l i < 256 := by
      have hm : rd l i ∈ l := by
        unfold rd
        rw [List.getD_eq_getElem?_getD, List.getElem?_eq_getElem (by omega)]
        exact List.getElem_mem _
      have := hl _ hm
      simp [Lit.wf, IntKind.min, IntKind.max, IntKind.bits, IntKind.signed] at this
      omega
    have hw : wrap64 (rd l i) = rd l i := by unfold wrap64; omega
    rw [hw, Int.tmod_eq_emod_of_nonneg hb.1]
    exact ⟨_, rfl, by omega, by omega⟩
  · rw [if_neg h, if_neg (by omega)]
    have hw : wrap64 (wrap64 (i * 37) + 11) = i * 37 + 11 := by unfold wrap64; omega
    rw [hw]
    rw [Int.tmod_eq_emod_of_nonneg (by omega)]
    exact ⟨_, rfl, by omega, by omega⟩

/-! ### The draw comes to a number -/
theorem and_255 (x : Int) : 0 ≤ Go.bits .and .u64 x 255 ∧ Go.bits .and .u64 x 255 < 256 := by
  have h : (BitVec.ofInt IntKind.u64.bits x &&& BitVec.ofInt IntKind.u64.bits 255).toNat < 256 := by
    rw [BitVec.toNat_and]
    exact Nat.and_lt_two_pow (n := 8) _ (by decide)
  simp only [Go.bits]
  generalize (BitVec.ofInt IntKind.u64.bits x &&& BitVec.ofInt IntKind.u64.bits 255).toNat = n at h
  simp [IntKind.wrap, IntKind.bits, IntKind.signed]
  omega
def Small (l : List Int) : Prop := l.length ≤ 1048576 ∧ ∀ x ∈ l, (Lit.int .u8 x).wf = true
theorem rd_range {l : List Int} (hl : Small l) (i : Int) (h0 : 0 ≤ i) (h : i < (l.length : Int)) : 0 ≤ rd l i ∧ rd l i < 256 := by
  have hm : rd l i ∈ l := by
    unfold rd
    rw [List.getD_eq_getElem?_getD, List.getElem?_eq_getElem (by omega)]
    exact List.getElem_mem _
  have := hl.2 _ hm
  simp [Lit.wf, IntKind.min, IntKind.max, IntKind.bits, IntKind.signed] at this
  omega
theorem next_ok {l : List Int} (hl : Small l) (at_ seed : Int) (h0 : 0 ≤ at_) (h1 : at_ < 1000000000000) :
    ∃ v seed', spec_l00Src_next.f l at_ seed = some (v, at_ + 1, seed') ∧ 0 ≤ v ∧ v < 256 := by
  have hw : wrap64 (at_ + 1) = at_ + 1 := by unfold wrap64; omega
  have h2 := hl.1
  unfold spec_l00Src_next.f
  rw [hw]
  by_cases h : at_ < (l.length : Int)
  · have hr := rd_range hl at_ h0 h
    rw [if_pos h, if_pos h0, if_pos (by omega)]
    exact ⟨_, _, rfl, by unfold wrap64; omega, by unfold wrap64; omega⟩
  · rw [if_neg h, if_neg (by omega)]
    generalize (IntKind.u64.wrap (IntKind.u64.wrap (IntKind.u64.wrap (seed * 6364136223846793005) + 0) + 1442695040888963407)) / 1099511627776 = y
    have := and_255 y
    exact ⟨_, _, rfl, by unfold wrap64; omega, by unfold wrap64; omega⟩
theorem tm_range (a b : Int) (ha : 0 ≤ a) (hb : 0 < b) : 0 ≤ Int.tmod a b ∧ Int.tmod a b < b := by
  rw [Int.tmod_eq_emod_of_nonneg ha]
  exact ⟨Int.emod_nonneg _ (by omega), Int.emod_lt_of_pos _ hb⟩
theorem pick_ok {l : List Int} (hl : Small l) (at_ seed n : Int) (h0 : 0 ≤ at_) (h1 : at_ < 100000000000) :
    ∃ v at' seed', spec_l00Src_pick.f l at_ seed n = some (v, at', seed') ∧ 0 ≤ v ∧ (1 ≤ n → v < n) ∧ at_ ≤ at' ∧ at' ≤ at_ + 2 := by
  unfold spec_l00Src_pick.f
  by_cases hn : n ≤ 1
  · rw [if_pos hn]; exact ⟨_, _, _, rfl, by omega, by omega, by omega, by omega⟩
  · rw [if_neg hn]
    obtain ⟨v, s', e, hv0, hv1⟩ := next_ok hl at_ seed h0 (by omega)
    rw [e]; simp only [Option.bind_some]
    by_cases hb : n > 200
    · rw [if_pos hb]
      obtain ⟨v2, s2, e2, hv20, hv21⟩ := next_ok hl (at_ + 1) s' (by omega) (by omega)
      rw [e2]; simp only [Option.bind_some]
      rw [if_neg (by omega)]
      have hw : wrap64 (wrap64 (v * 256) + v2) = v * 256 + v2 := by unfold wrap64; omega
      rw [hw]
      have := tm_range (v * 256 + v2) n (by omega) (by omega)
      exact ⟨_, _, _, rfl, this.1, fun _ => this.2, by omega, by omega⟩
    · rw [if_neg hb, if_neg (by omega)]
      have := tm_range v n (by omega) (by omega)
      exact ⟨_, _, _, rfl, this.1, fun _ => this.2, by omega, by omega⟩
theorem among_ok {l : List Int} (hl : Small l) (at_ seed : Int) (xs : List Int) (h0 : 0 ≤ at_) (h1 : at_ < 100000000000) (hx : xs ≠ []) :
    ∃ v at' seed', spec_l00Src_among.f l at_ seed xs = some (v, at', seed') ∧ v ∈ xs ∧ at_ ≤ at' ∧ at' ≤ at_ + 2 := by
  have hp := List.length_pos_iff.mpr hx
  unfold spec_l00Src_among.f
  obtain ⟨v, a', s', e, hv0, hv1, ha, ha'⟩ := pick_ok hl at_ seed (xs.length : Int) h0 h1
  rw [e]; simp only [Option.bind_some]
  have := hv1 (by omega)
  rw [if_pos hv0, if_pos this]
  refine ⟨_, _, _, rfl, ?_, ha, ha'⟩
  unfold rd
  rw [List.getD_eq_getElem?_getD, List.getElem?_eq_getElem (by omega)]
  exact List.getElem_mem _
theorem draw_ok {l : List Int} (hl : Small l) : ∃ r, spec_DrawStepLfsr.f l = some r ∧ (1 ≤ r → r ≤ 65535 ∨ r = 65536) ∧ -1 ≤ r := by
  unfold spec_DrawStepLfsr.f spec_l00From.f spec_l02Draw.f
  simp only [Option.bind_some]
  obtain ⟨v, a', s', e, hv0, hv1, ha, ha'⟩ := pick_ok hl 0 0 65535 (by omega) (by omega)
  rw [e]; simp only [Option.bind_some]
  obtain ⟨r, a2, s2, e2, hm, _⟩ := among_ok hl a' s' ([1, 2, 46080, 32768, 65535, wrap64 (1 + v), wrap64 (1 + v), wrap64 (1 + v), 0, (-1), 65536] : List Int) (by omega) (by omega) (by simp)
  rw [e2]; simp only [Option.bind_some]
  have := hv1 (by omega)
  have hw : wrap64 (1 + v) = 1 + v := by unfold wrap64; omega
  rw [hw] at hm
  refine ⟨_, rfl, ?_⟩
  simp only [List.mem_cons, List.not_mem_nil, or_false] at hm
  omega

theorem FnLfsr : laws_FnLfsr.Pure := by
  intro l m hl _ hlw hm _ hmw
  refine ⟨65540, ?_⟩
  unfold laws_FnLfsr.f laws_b10Long.f
  by_cases h1 : (l.length : Int) > 1048576
  · rw [if_pos h1]; rfl
  rw [if_neg h1]
  by_cases h2 : (m.length : Int) > 1048576
  · simp [h2]
  have hs : Small l := ⟨by omega, hlw⟩
  simp only [Option.bind_some]
  rw [if_neg (by simp; omega)]
  obtain ⟨r, er, hr, hr0⟩ := draw_ok hs
  rw [er]
  simp only [Option.bind_some]
  rw [svalid_eq]
  simp only [Option.bind_some]
  by_cases hv : 1 ≤ r ∧ r ≤ 65535
  · rw [if_pos (by simpa using hv)]
    obtain ⟨x, rfl⟩ := Int.eq_ofNat_of_zero_le (show 0 ≤ r by omega)
    try simp only [Int.ofNat_eq_natCast] at hv ⊢
    have hx : x < 65536 := by omega
    have hx0 : 0 < x := by omega
    obtain ⟨a, ea, ha0, ha1⟩ := at_eq m hmw 0 (by omega) (by omega)
    obtain ⟨b, eb, hb0, hb1⟩ := at_eq m hmw 1 (by omega) (by omega)
    rw [stepl_eq x hx hx0, ea, eb]
    simp only [Option.bind_some]
    have hw : wrap64 (256 * b) = 256 * b := by unfold wrap64; omega
    have hw2 : wrap64 (a + wrap64 (256 * b)) = a + 256 * b := by unfold wrap64; omega
    rw [hw2, hw]
    have J := fun (y : Nat) (n : Int) (h : y < 65536) (h0 : 0 < y) (hn : 0 ≤ n) => jump_eq 65540 y n h h0 hn (Nat.le_refl _)
    have hxr := fun n => it_range n x hx hx0
    have hn1 := hxr 1
    rw [J x (a + 256 * b) hx hx0 (by omega)]
    simp only [Option.bind_some]
    rw [svalid_eq]
    simp only [Option.bind_some]
    have hn : stp x < 65536 ∧ 0 < stp x := ⟨stp_lt x hx, stp_pos x hx hx0⟩
    rw [if_pos (by simp; omega), back_eq x hx hx0]
    simp only [Option.bind_some]
    rw [if_pos (by first | rfl | trivial), J x a hx hx0 ha0]
    simp only [Option.bind_some]
    have hra := hxr (a % 65535).toNat
    rw [J _ (256 * b) hra.1 hra.2 (by omega)]
    simp only [Option.bind_some]
    have sums : it (256 * b % 65535).toNat (it (a % 65535).toNat x) = it ((a + 256 * b) % 65535).toNat x := by
      rw [← it_add]
      have ha : a % 65535 = a := by omega
      have hb : 256 * b % 65535 = 256 * b := by omega
      rw [ha, hb]
      by_cases hq : a + 256 * b = 65535
      · have e1 : a.toNat + (256 * b).toNat = 65535 := by omega
        have e2 : ((a + 256 * b) % 65535).toNat = 0 := by omega
        rw [e1, e2, period 16 (Nat.le_refl _) x (by omega)]; rfl
      · have e2 : ((a + 256 * b) % 65535).toNat = a.toNat + (256 * b).toNat := by omega
        rw [e2]
    rw [sums, if_pos (by first | rfl | trivial), J x 65535 hx hx0 (by omega)]
    simp only [Option.bind_some]
    have e0 : ((65535 : Int) % 65535).toNat = 0 := by decide
    rw [e0, it_zero, if_pos (by first | rfl | trivial), J x 1 hx hx0 (by omega)]
    simp only [Option.bind_some]
    have e1 : ((1 : Int) % 65535).toNat = 1 := by decide
    have e1' : it 1 x = stp x := rfl
    rw [e1, e1', if_pos (by first | rfl | trivial), svalid_eq]
    have := hxr ((a + 256 * b) % 65535).toNat
    simp only [Option.bind_some]
    congr 1
    simp; omega
  · rw [if_neg (by simpa using hv)]
    unfold impl_StepLfsr.f impl_BackLfsr.f
    rw [valid_eq]
    simp only [Option.bind_some]
    rw [if_neg (by simpa using hv)]
    simp only [Option.bind_some]
    rw [if_pos (by first | rfl | trivial), if_neg (by simpa using hv)]
    rfl

end Go.Proofs.Ytgcdkchdgeppdaa.Pure
