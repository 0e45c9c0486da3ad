/- The engine, fifteenth part: what a function comes to, out of what its callees come to; conditions: none. -/
import Derived.Test.YtjnhclnnobejgaaEn
namespace Go.Proofs.YtjnhclnnobejgaaE
set_option linter.unusedVariables false
set_option linter.unusedSimpArgs false
variable [DW : Drw]

/-- From some number of rounds on. -/
def Evn (p : Nat → Prop) : Prop := ∃ m, ∀ m', m ≤ m' → p m'
omit DW in
theorem Evn.and {p q : Nat → Prop} (h : Evn p) (k : Evn q) : Evn fun m => p m ∧ q m := by
  obtain ⟨m, hm⟩ := h
  obtain ⟨n, hn⟩ := k
  exact ⟨max m n, fun m' h => ⟨hm m' (Nat.le_trans (Nat.le_max_left _ _) h), hn m' (Nat.le_trans (Nat.le_max_right _ _) h)⟩⟩
omit DW in
theorem Evn.mp {p q : Nat → Prop} (h : Evn p) (k : ∀ m, p m → q m) : Evn q := by
  obtain ⟨m, hm⟩ := h
  exact ⟨m, fun m' hm' => k m' (hm m' hm')⟩
omit DW in
theorem Evn.all {p : Nat → Prop} (h : ∀ m, p m) : Evn p := ⟨0, fun m _ => h m⟩

section
variable {R : Type} {E : Env} {r : R}

omit DW in
theorem call_lim {f : FuncId} {args : List V} {F : Fo} {x : V × Fo} (h : callL E f args F = some x) : Evn fun m => runF E m f args F = some x := callL_some h

omit DW in
theorem opC_lim {t : List V} {F : Fo} {c : Call} {k : V → List V → Fo → Option R} (h : opC E (callL E) t F c k = some r) :
    ∃ v t' F', k v t' F' = some r ∧ Evn fun m => ∀ k' : V → List V → Fo → Option R, opC E (runF E m) t F c k' = k' v t' F' := by
  unfold opC at h
  split at h
  case h_2 => simp at h
  rename_i f hc
  split at h
  case h_2 => simp at h
  rename_i g caps hf
  split at h
  · rename_i hs
    split at h
    case h_2 => simp at h
    rename_i v0 F1 hcall
    split at h
    · rename_i v hsc
      exact ⟨v, t, F, h, (call_lim hcall).mp fun m hm k' => by simp only [opC, hc, hf, hs, hm, hsc]⟩
    · rename_i hsc
      split at h
      case h_2 => simp at h
      rename_i hl1 hl2
      rw [forceC_eq, forceF_eq] at h
      exact ⟨_, t, _, h, (call_lim hcall).mp fun m hm k' => by simp only [opC, hc, hf, hs, hm, hsc, hl1, hl2, forceC_eq, forceF_eq]⟩
  · rename_i hs
    split at h
    · rename_i htk
      rw [opC.callTake, forceNs_eq] at h
      unfold opC.takeIn at h
      split at h
      case h_2 => simp at h
      rename_i hn
      split at h
      case h_2 => simp at h
      rename_i v F1 hcall
      split at h
      case h_2 => simp at h
      rename_i D hD
      rw [forceNs_eq, forceC_eq, forceAll_eq, forceF_eq] at h
      refine ⟨_, _, _, h, (call_lim hcall).mp fun m hm k' => ?_⟩
      simp only [opC, hc, hf, hs, htk, opC.callTake, forceNs_eq, opC.takeIn, hn, hm, hD, forceC_eq, forceAll_eq, forceF_eq]
    rename_i htk
    obtain ⟨vs', t', F', h1, h2⟩ := frzAll_uni (R' := R) _ _ _ _ _ h
    rw [opC.callOn, forceNs_eq] at h1
    unfold opC.callIn at h1
    split at h1
    case h_2 => simp at h1
    rename_i hn
    split at h1
    case h_2 => simp at h1
    rename_i v F1 hcall
    split at h1
    case h_2 => simp at h1
    rename_i hall
    rw [forceC_eq, forceF_eq] at h1
    refine ⟨_, t', _, h1, (call_lim hcall).mp fun m hm k' => ?_⟩
    simp only [opC, hc, hf, hs, htk]
    rw [h2]
    simp only [opC.callOn, forceNs_eq, opC.callIn, hn, hm, hall, forceC_eq, forceF_eq]

omit DW in
theorem opAll_lim {t : List V} {F : Fo} {o : Oper} {k : V → List V → Fo → Option R} (h : opAll E (callL E) o t F k = some r) :
    ∃ v t' F', k v t' F' = some r ∧ Evn fun m => ∀ k' : V → List V → Fo → Option R, opAll E (runF E m) o t F k' = k' v t' F' := by
  unfold opAll at h
  split at h
  · rename_i h0
    obtain ⟨v, h1, h2⟩ := opQ_uni (R' := R) h
    exact ⟨v, t, F, h1, .all fun m k' => by simp only [opAll, h0, h2]⟩
  · rename_i h0
    obtain ⟨v, t', F', h1, h2⟩ := opE_uni (R' := R) h
    exact ⟨v, t', F', h1, .all fun m k' => by simp only [opAll, h0, h2]⟩
  · rename_i n h0 h00
    split at h
    case h_2 => simp at h
    rename_i c ho
    obtain ⟨v, t', F', h1, h2⟩ := opC_lim h
    refine ⟨v, t', F', h1, h2.mp fun m hm k' => ?_⟩
    unfold opAll
    split
    · rename_i h3; exact absurd h3 h0
    · rename_i h3; exact absurd h3 h00
    · simp only [ho, hm]

omit DW in
theorem opD_lim {t : List V} {F : Fo} {o : Oper} {k : V → Option R} (h : opD E (callL E) o t F k = some r) :
    ∃ v, k v = some r ∧ Evn fun m => ∀ k' : V → Option R, opD E (runF E m) o t F k' = k' v := by
  unfold opD at h
  split at h
  · rename_i c ho
    split at h
    · rename_i f hc
      unfold opS at h
      rw [hc] at h
      simp only at h
      split at h
      case h_2 => simp at h
      rename_i g caps hf
      split at h
      · rename_i hs
        split at h
        case h_2 => simp at h
        rename_i v0 F1 hcall
        split at h
        case h_2 => simp at h
        rename_i v hsc
        exact ⟨v, h, (call_lim hcall).mp fun m hm k' => by simp only [opD, ho, hc, opS, hf, hs, hm, hsc]⟩
      · rename_i hs
        split at h
        case h_2 => simp at h
        rename_i h1 h2
        split at h
        case h_2 => simp at h
        rename_i v F1 hcall
        exact ⟨_, h, (call_lim hcall).mp fun m hm k' => by simp only [opD, ho, hc, opS, hf, hs, h1, h2, hm]⟩
    · rename_i hne
      obtain ⟨v, h1, h2⟩ := opQ_uni (R' := R) h
      refine ⟨v, h1, .all fun m k' => ?_⟩
      unfold opD
      rw [ho]
      simp only
      exact h2 k'
  · rename_i ty n ps ho
    obtain ⟨_, _, _, T, x, _, _, _, _, _, h1, h2⟩ := lstD_inv h
    refine ⟨_, h1, .all fun m k' => ?_⟩
    unfold opD
    rw [ho]
    exact h2 k'
  · rename_i hne hne2
    obtain ⟨v, h1, h2⟩ := opQ_uni (R' := R) h
    refine ⟨v, h1, .all fun m k' => ?_⟩
    unfold opD
    split
    · rename_i c hc; exact absurd hc (hne c)
    · rename_i ty n ps hc; exact absurd hc (hne2 ty n ps)
    · exact h2 k'

omit DW in
theorem opX_lim {t : List V} {F : Fo} {o : Oper} {k : V → Fo → Option R} (h : opX E (callL E) o t F k = some r) :
    ∃ v F', k v F' = some r ∧ Evn fun m => ∀ k' : V → Fo → Option R, opX E (runF E m) o t F k' = k' v F' := by
  by_cases hc : ∃ c, o.op = .call c
  · obtain ⟨c, ho⟩ := hc
    unfold opX at h
    rw [ho] at h
    simp only at h
    split at h
    case h_2 => simp at h
    rename_i f hc
    split at h
    case h_2 => simp at h
    rename_i g caps hf
    split at h
    case h_2 => simp at h
    rename_i s1 s2
    split at h
    · simp at h
    rename_i s3
    rw [opC.callOn, forceNs_eq] at h
    unfold opC.callIn at h
    split at h
    case h_2 => simp at h
    rename_i hn
    split at h
    case h_2 => simp at h
    rename_i v F1 hcall
    split at h
    case h_2 => simp at h
    rename_i hall
    rw [forceC_eq, forceF_eq] at h
    exact ⟨_, _, h, (call_lim hcall).mp fun m hm k' => by simp only [opX, ho, hc, hf, s1, s2, s3, opC.callOn, forceNs_eq, opC.callIn, hn, hm, hall, forceC_eq, forceF_eq]⟩
  · obtain ⟨v, F', h1, h2⟩ := opX_one (Q := R) h
    refine ⟨v, F', h1, .all fun m k' => ?_⟩
    rw [← h2 k']
    unfold opX
    split <;> first | rfl | (rename_i c ho; exact absurd ⟨c, ho⟩ hc)

omit DW in
theorem runOps_lim {ops : List Oper} : ∀ (l : List Oper) (t : List V) (F : Fo) (k : List V → Fo → Option R), runOps E (callL E) ops l t F k = some r →
    ∃ t' F', k t' F' = some r ∧ Evn fun m => ∀ k' : List V → Fo → Option R, runOps E (runF E m) ops l t F k' = k' t' F'
  | [], t, F, k, h => ⟨t, F, by rw [runOps] at h; exact h, .all fun m k' => by rw [runOps]⟩
  | o :: l, t, F, k, h => by
    simp only [runOps, putK_eq, spine_eq] at h ⊢
    rcases want_uni (q := r) h with ⟨h1, hw⟩ | ⟨h1, hw⟩
    · obtain ⟨v, t1, F1, h2, h3⟩ := opAll_lim h1
      obtain ⟨t', F', h4, h5⟩ := runOps_lim l _ _ k h2
      exact ⟨t', F', h4, (h3.and h5).mp fun m ⟨g1, g2⟩ k' => by rw [hw, g1, g2]⟩
    · obtain ⟨t', F', h4, h5⟩ := runOps_lim l _ _ k h1
      exact ⟨t', F', h4, h5.mp fun m g2 k' => by rw [hw, g2]⟩

omit DW in
theorem runD_lim {ops : List Oper} {tab : List Nat} : ∀ (l : List Oper) (log : Log) (j q : Nat) (t : List V) (F : Fo) (k : List V → Fo → Option R), runD E (callL E) ops tab log j q l t F k = some r →
    ∃ t' F', k t' F' = some r ∧ Evn fun m => ∀ k' : List V → Fo → Option R, runD E (runF E m) ops tab log j q l t F k' = k' t' F'
  | [], log, j, q, t, F, k, h => ⟨t, F, by rw [runD] at h; exact h, .all fun m k' => by rw [runD]⟩
  | o :: l, log, j, q, t, F, k, h => by
    simp only [runD, oneD, putK_eq, spine_eq, forceNs_eq, forceN_eq] at h ⊢
    split at h
    · exact runOps_lim _ _ _ _ h
    · split at h
      · split at h
        · rcases want_uni (q := r) h with ⟨h1, hw⟩ | ⟨h1, hw⟩
          · split at h1
            case h_2 => simp at h1
            obtain ⟨s, X, _, _, h2, h3, _⟩ := opS4_one (call := callL E) (Q := R) h1
            obtain ⟨t', F', h4, h5⟩ := runD_lim l _ _ _ _ _ k h2
            exact ⟨t', F', h4, h5.mp fun m g2 k' => by rw [hw]; exact (h3 _ _ rfl).trans (g2 _)⟩
          · obtain ⟨t', F', h4, h5⟩ := runD_lim l _ _ _ _ _ k h1
            exact ⟨t', F', h4, h5.mp fun m g2 k' => by rw [hw, g2]⟩
        · split at h
          · exact runOps_lim _ _ _ _ h
          · simp at h
      · split at h
        case h_2 => simp at h
        rcases want_uni (q := r) h with ⟨h1, hw⟩ | ⟨h1, hw⟩
        · obtain ⟨t', F', h4, h5⟩ := runD_lim l _ _ _ _ _ k h1
          exact ⟨t', F', h4, h5.mp fun m g2 k' => by rw [hw, g2]⟩
        · simp at h1
      · split at h
        · exact runOps_lim _ _ _ _ h
        · simp at h
      · split at h
        case h_2 => simp at h
        rcases want_uni (q := r) h with ⟨h1, hw⟩ | ⟨h1, hw⟩
        · obtain ⟨v, X, e1, e2, h2, h3⟩ := opN_one (Q := R) h1
          obtain ⟨t', F', h4, h5⟩ := runD_lim l _ _ _ _ _ k h2
          exact ⟨t', F', h4, h5.mp fun m g2 k' => by rw [hw]; exact (h3 _ _ e1 e2 fun _ _ => rfl).trans (g2 _)⟩
        · simp at h1
    · split at h
      · split at h
        · exact runOps_lim _ _ _ _ h
        · simp at h
      rcases want_uni (q := r) h with ⟨h1, hw⟩ | ⟨h1, hw⟩
      · split at h1
        case h_2 => simp at h1
        obtain ⟨v, F1, h2, h3⟩ := opX_lim h1
        obtain ⟨t', F', h4, h5⟩ := runD_lim l _ _ _ _ _ k h2
        exact ⟨t', F', h4, (h3.and h5).mp fun m ⟨g1, g2⟩ k' => by rw [hw]; exact (g1 _).trans (g2 _)⟩
      · obtain ⟨t', F', h4, h5⟩ := runD_lim l _ _ _ _ _ k h1
        exact ⟨t', F', h4, h5.mp fun m g2 k' => by rw [hw, g2]⟩
    · rcases want_uni (q := r) h with ⟨h1, hw⟩ | ⟨h1, hw⟩
      · split at h1
        case h_2 => simp at h1
        obtain ⟨v, h2, h3⟩ := opD_lim h1
        obtain ⟨t', F', h4, h5⟩ := runD_lim l _ _ _ _ _ k h2
        exact ⟨t', F', h4, (h3.and h5).mp fun m ⟨g1, g2⟩ k' => by rw [hw]; exact (g1 _).trans (g2 _)⟩
      · obtain ⟨t', F', h4, h5⟩ := runD_lim l _ _ _ _ _ k h1
        exact ⟨t', F', h4, h5.mp fun m g2 k' => by rw [hw, g2]⟩
    · rcases want_uni (q := r) h with ⟨h1, hw⟩ | ⟨h1, hw⟩
      · obtain ⟨v, h2, h3⟩ := opD_lim h1
        obtain ⟨t', F', h4, h5⟩ := runD_lim l _ _ _ _ _ k h2
        exact ⟨t', F', h4, (h3.and h5).mp fun m ⟨g1, g2⟩ k' => by rw [hw, g1, g2]⟩
      · obtain ⟨t', F', h4, h5⟩ := runD_lim l _ _ _ _ _ k h1
        exact ⟨t', F', h4, h5.mp fun m g2 k' => by rw [hw, g2]⟩
omit DW in
theorem runOpsD_lim {ops : List Oper} (l : List Oper) (t : List V) (F : Fo) (k : List V → Fo → Option R) (h : runOpsD E (callL E) ops l t F k = some r) :
    ∃ t' F', k t' F' = some r ∧ Evn fun m => ∀ k' : List V → Fo → Option R, runOpsD E (runF E m) ops l t F k' = k' t' F' := by
  unfold runOpsD at h ⊢
  simp only [tabK_eq, forceN_eq] at h ⊢
  simp only [spine_eq] at h ⊢
  exact runD_lim l _ _ _ t _ k h

omit DW in
/-- Code that comes to an end with callees that come to theirs comes to it in some number of rounds. -/
theorem normT_uni {m : Nat} {ks : List Nat} {t : List V} {F : Fo} {k : List V → Fo → Option R} (h : normT m ks t F k = some r) : ∃ t' F', k t' F' = some r ∧ ∀ k' : List V → Fo → Option R, normT m ks t F k' = k' t' F' := by
  unfold normT at h ⊢
  obtain ⟨vs, t1, F1, h1, h2⟩ := frzAll_uni (R' := R) _ _ _ _ _ h
  unfold normT.normOn at h1
  split at h1
  case h_2 => simp at h1
  rename_i c1 c2
  rw [forceL_eq] at h1
  refine ⟨_, _, h1, fun k' => ?_⟩
  rw [h2]
  unfold normT.normOn
  simp only [c1, c2, forceL_eq]

omit DW in
theorem exec_lim {n m : Nat} {kp : List (Nat × List Nat)} : ∀ (c : Code) (t : List V) (F : Fo) (k : Ex → List V → Fo → Option R), exec E (callL E) n m kp c t F k = some r →
    ∃ ex t' F', k ex t' F' = some r ∧ Evn fun q => ∀ k' : Ex → List V → Fo → Option R, exec E (runF E q) q m kp c t F k' = k' ex t' F' := by
  intro c
  induction c with
  | skip => intro t F k h; exact ⟨.normal, t, F, h, .all fun _ _ => rfl⟩
  | region id ops draw =>
    intro t F k h
    simp only [exec] at h ⊢
    split at h
    · obtain ⟨t', F', h1, h2⟩ := runOps_lim _ _ _ _ h
      exact ⟨.normal, t', F', h1, h2.mp fun q hq k' => hq _⟩
    · obtain ⟨t', F', h1, h2⟩ := runOpsD_lim _ _ _ _ h
      exact ⟨.normal, t', F', h1, h2.mp fun q hq k' => hq _⟩
  | seq x y ihx ihy =>
    intro t F k h
    simp only [exec] at h ⊢
    obtain ⟨ex, t1, F1, h1, h2⟩ := ihx t F _ h
    cases ex with
    | normal =>
      obtain ⟨ex', t', F', h3, h4⟩ := ihy t1 F1 k h1
      exact ⟨ex', t', F', h3, (h2.and h4).mp fun q ⟨g1, g2⟩ k' => by rw [g1]; exact g2 k'⟩
    | exit i => exact ⟨.exit i, t1, F1, h1, h2.mp fun q g1 k' => by rw [g1]⟩
    | ret => exact ⟨.ret, t1, F1, h1, h2.mp fun q g1 k' => by rw [g1]⟩
  | cond cnd x y ihx ihy =>
    intro t F k h
    simp only [exec] at h ⊢
    split at h
    case h_2 => simp at h
    rename_i b hq
    split at h
    · obtain ⟨ex, t1, F1, h1, h2⟩ := ihx t F k h
      exact ⟨ex, t1, F1, h1, h2.mp fun q g1 k' => by (try simp only [hq]); exact g1 k'⟩
    · obtain ⟨ex, t1, F1, h1, h2⟩ := ihy t F k h
      exact ⟨ex, t1, F1, h1, h2.mp fun q g1 k' => by (try simp only [hq]); exact g1 k'⟩
  | block id c ih =>
    intro t F k h
    simp only [exec] at h ⊢
    obtain ⟨ex, t1, F1, h1, h2⟩ := ih t F _ h
    cases ex with
    | normal => exact ⟨.normal, t1, F1, h1, h2.mp fun q g1 k' => by rw [g1]⟩
    | exit i =>
      simp only at h1
      split at h1
      · rename_i hb; exact ⟨.normal, t1, F1, h1, h2.mp fun q g1 k' => by rw [g1]; simp only [hb]⟩
      · rename_i hb; exact ⟨.exit i, t1, F1, h1, h2.mp fun q g1 k' => by rw [g1]; simp only [hb]⟩
    | ret => exact ⟨.ret, t1, F1, h1, h2.mp fun q g1 k' => by rw [g1]⟩
  | loop c ih =>
    intro t F k h
    simp only [exec] at h ⊢
    split at h
    case h_2 => simp at h
    rename_i ks hks
    have key : ∀ g t F, loopN (fun t F k => exec E (callL E) n m kp c t F k) m ks g t F k = some r →
        ∃ ex t' F', k ex t' F' = some r ∧ Evn fun q => ∀ d, g ≤ d → ∀ k' : Ex → List V → Fo → Option R, loopN (fun t F k => exec E (runF E q) q m kp c t F k) m ks d t F k' = k' ex t' F' := by
      intro g
      induction g with
      | zero => intro t F h; simp [loopN] at h
      | succ g ihg =>
        intro t F h
        rw [loopN] at h
        obtain ⟨t0, F0, h, hn⟩ := normT_uni h
        obtain ⟨ex, t1, F1, h1, h2⟩ := ih _ _ _ h
        have next : ∀ (d q : Nat) (k' : Ex → List V → Fo → Option R), loopN (fun t F k => exec E (runF E q) q m kp c t F k) m ks (d + 1) t F k' =
            exec E (runF E q) q m kp c t0 F0 fun e t F => match e with
                | .normal => loopN (fun t F k => exec E (runF E q) q m kp c t F k) m ks d t F k'
                | e => k' e t F := by
          intro d q k'
          rw [loopN, hn]
          rfl
        cases ex with
        | normal =>
          obtain ⟨ex', t', F', h3, h4⟩ := ihg t1 F1 h1
          refine ⟨ex', t', F', h3, (h2.and h4).mp fun q ⟨g1, g2⟩ d hd k' => ?_⟩
          obtain ⟨d, rfl⟩ : ∃ x, d = x + 1 := ⟨d - 1, by omega⟩
          rw [next, g1]
          exact g2 d (by omega) k'
        | exit i =>
          refine ⟨.exit i, t1, F1, h1, h2.mp fun q g1 d hd k' => ?_⟩
          obtain ⟨d, rfl⟩ : ∃ x, d = x + 1 := ⟨d - 1, by omega⟩
          rw [next, g1]
        | ret =>
          refine ⟨.ret, t1, F1, h1, h2.mp fun q g1 d hd k' => ?_⟩
          obtain ⟨d, rfl⟩ : ∃ x, d = x + 1 := ⟨d - 1, by omega⟩
          rw [next, g1]
    obtain ⟨ex, t', F', h1, h2⟩ := key n t F h
    refine ⟨ex, t', F', h1, ?_⟩
    obtain ⟨q0, hq⟩ := h2
    refine ⟨max q0 n, fun q hqq k' => ?_⟩
    try simp only [hks]
    exact hq q (Nat.le_trans (Nat.le_max_left _ _) hqq) q (Nat.le_trans (Nat.le_max_right _ _) hqq) k'
  | exit id => intro t F k h; exact ⟨.exit id, t, F, h, .all fun _ _ => rfl⟩
  | ret => intro t F k h; exact ⟨.ret, t, F, h, .all fun _ _ => rfl⟩
  | _ => intro t F k h; simp [exec] at h

omit DW in
/-- A function comes to what its code comes to. -/
theorem callL_intro {f : FuncId} {fu : Func} {c : Code} (he : look E.ext f = none) (hf : look E.fns f = some fu) (hc : fu.body = some c) (n : Nat) {args : List V} {F : Fo} {x : V × Fo}
    (h : exec E (callL E) n F.length ((look E.keep f).getD []) c (args ++ List.replicate (fu.ntmps - args.length) .dead) F (fun e t F' => match e with
      | .exit _ => none
      | _ => finV E F.length f fu t F') = some x) : callL E f args F = some x := by
  obtain ⟨ex, t', F', h1, q0, h2⟩ := exec_lim c _ F _ h
  refine callL_of ⟨q0 + 1, fun q hq => ?_⟩
  obtain ⟨q, rfl⟩ : ∃ y, q = y + 1 := ⟨q - 1, by omega⟩
  simp only [runF, he, hf, hc]
  rw [h2 q (by omega)]
  exact h1

end
end Go.Proofs.YtjnhclnnobejgaaE
