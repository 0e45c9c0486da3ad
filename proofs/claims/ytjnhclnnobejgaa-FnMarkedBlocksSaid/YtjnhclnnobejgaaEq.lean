/- The engine, seventeenth part: a rule for loops, and small words for data; conditions: none. -/
import Derived.Test.YtjnhclnnobejgaaEp
namespace Go.Proofs.YtjnhclnnobejgaaE
set_option linter.unusedVariables false
variable [DW : Drw]

abbrev IN (n : Int) : V := .d (.lit (.int .i64 n))
abbrev BO (b : Bool) : V := .d (.lit (.bool b))
abbrev ST (s : ByteArray) : V := .d (.lit (.string s))
abbrev dI (n : Int) : D := .lit (.int .i64 n)
abbrev dB (b : Bool) : D := .lit (.bool b)
abbrev dS (s : ByteArray) : D := .lit (.string s)

omit DW in
/-- A loop that comes to res: J holds at each head, its number falls, and a round comes to res if the next head does. -/
theorem loop_rule {R : Type} {body : List V → Fo → (Ex → List V → Fo → Option R) → Option R} {m : Nat} {ks : List Nat} {K : Ex → List V → Fo → Option R} {res : Option R} (J : Nat → List V → Fo → Prop)
    (round : ∀ d t F, J d t F → ∀ next : List V → Fo → Option R, (∀ d' t1 F1 t2 F2, d' < d → (∀ k : List V → Fo → Option R, normT m ks t1 F1 k = k t2 F2) → J d' t2 F2 → next t1 F1 = res) →
      body t F (fun e t F => match e with
        | .normal => next t F
        | e => K e t F) = res) :
    ∀ (n d : Nat) (t : List V) (F : Fo), d < n → (∃ t' F', (∀ k : List V → Fo → Option R, normT m ks t F k = k t' F') ∧ J d t' F') → loopN body m ks n t F K = res := by
  intro n
  induction n with
  | zero => intro d t F h; omega
  | succ n ih =>
    intro d t F hd ⟨t', F', hn, hJ⟩
    rw [loopN, hn]
    exact round d t' F' hJ (fun t F => loopN body m ks n t F K) (fun d' t1 F1 t2 F2 hlt hn2 hJ2 => ih d' t1 F1 (by omega) ⟨t2, F2, hn2, hJ2⟩)

omit DW in
/-- The same, where only so much is known of the end. -/
theorem loop_ex {R : Type} {body : List V → Fo → (Ex → List V → Fo → Option R) → Option R} {m : Nat} {ks : List Nat} {K : Ex → List V → Fo → Option R} {Q : R → Prop} (J : Nat → List V → Fo → Prop)
    (round : ∀ d t F, J d t F → ∀ next : List V → Fo → Option R, (∀ d' t1 F1 t2 F2, d' < d → (∀ k : List V → Fo → Option R, normT m ks t1 F1 k = k t2 F2) → J d' t2 F2 → ∃ r, Q r ∧ next t1 F1 = some r) →
      ∃ r, Q r ∧ body t F (fun e t F => match e with
        | .normal => next t F
        | e => K e t F) = some r) :
    ∀ (n d : Nat) (t : List V) (F : Fo), d < n → (∃ t' F', (∀ k : List V → Fo → Option R, normT m ks t F k = k t' F') ∧ J d t' F') → ∃ r, Q r ∧ loopN body m ks n t F K = some r := by
  intro n
  induction n with
  | zero => intro d t F h; omega
  | succ n ih =>
    intro d t F hd ⟨t', F', hn, hJ⟩
    rw [loopN, hn]
    exact round d t' F' hJ (fun t F => loopN body m ks n t F K) (fun d' t1 F1 t2 F2 hlt hn2 hJ2 => ih d' t1 F1 (by omega) ⟨t2, F2, hn2, hJ2⟩)

omit DW in
theorem call_step {R : Type} {E : Env} {f : FuncId} {args args' : List V} {F F' : Fo} {x : V × Fo} {k : Option (V × Fo) → Option R} {res : Option R} (h : callL E f args F = some x) (ha : args' = args) (hF : F' = F) (hk : k (some x) = res) :
    k (callL E f args' F') = res := by rw [ha, hF, h]; exact hk

/-- What comes behind: each but once, that a walk through much code stays small. -/
def contK {R : Type} (f : List V → Fo → (Ex → List V → Fo → Option R) → Option R) (k : Ex → List V → Fo → Option R) (e : Ex) (t : List V) (F : Fo) : Option R := match e with
  | .normal => f t F k
  | e => k e t F
def blkK {R : Type} (id : Nat) (k : Ex → List V → Fo → Option R) (e : Ex) (t : List V) (F : Fo) : Option R := match e with
  | .exit j => match Nat.beq j id with
    | true => k .normal t F
    | false => k (.exit j) t F
  | e => k e t F

/-- Code with the loops' and the calls' answers as variables: so that no one unfolds them. -/
def execW {R : Type} (lp : (List V → Fo → (Ex → List V → Fo → Option R) → Option R) → Nat → List Nat → Nat → List V → Fo → (Ex → List V → Fo → Option R) → Option R) (E : Env) (call : Ca) (n m : Nat) (kp : List (Nat × List Nat)) : Code → List V → Fo → (Ex → List V → Fo → Option R) → Option R
  | .skip, t, F, k => k .normal t F
  | .region _ ops d, t, F, k => match d with
    | false => runOps E call ops.toList ops.toList t F (k .normal)
    | true => runOpsD E call ops.toList ops.toList t F (k .normal)
  | .seq a b, t, F, k => execW lp E call n m kp a t F (contK (fun t F k => execW lp E call n m kp b t F k) k)
  | .cond c a b, t, F, k => match val t c with
    | .d (.lit (.bool q)) => match q with
      | true => execW lp E call n m kp a t F k
      | false => execW lp E call n m kp b t F k
    | _ => none
  | .block id c, t, F, k => execW lp E call n m kp c t F (blkK id k)
  | .loop c, t, F, k => match look kp (firstR c) with
    | some ks => lp (fun t F k => execW lp E call n m kp c t F k) m ks n t F k
    | none => none
  | .exit id, t, F, k => k (.exit id) t F
  | .ret, t, F, k => k .ret t F
  | _, _, _, _ => none
omit DW in
theorem execW_eq {R : Type} (E : Env) (call : Ca) (n m : Nat) (kp : List (Nat × List Nat)) : ∀ (c : Code) (t : List V) (F : Fo) (k : Ex → List V → Fo → Option R), exec E call n m kp c t F k = execW loopN E call n m kp c t F k := by
  intro c
  induction c with
  | seq a b iha ihb =>
    intro t F k
    simp only [exec, execW, iha, ihb]
    refine congrArg (execW loopN E call n m kp a t F) ?_
    funext e t F
    cases e <;> rfl
  | cond c a b iha ihb =>
    intro t F k
    simp only [exec, execW, iha, ihb]
    generalize val t c = v
    split
    · rename_i q; cases q <;> rfl
    · rename_i hne
      split
      · rename_i q; exact absurd rfl (hne q)
      · rfl
  | block id c ih =>
    intro t F k
    simp only [exec, execW, ih]
    refine congrArg (execW loopN E call n m kp c t F) ?_
    funext e t F
    cases e <;> rfl
  | loop c ih =>
    intro t F k
    simp only [exec, execW, ih]
    cases look kp (firstR c) <;> rfl
  | region id ops d => intro t F k; simp only [exec, execW]; cases d <;> rfl
  | _ => intro t F k; simp only [exec, execW]

omit DW in
theorem callW {E : Env} {f : FuncId} {args : List V} {F : Fo} {fu : Func} {c : Code} {x : V × Fo} (he : look E.ext f = none) (hf : look E.fns f = some fu) (hc : fu.body = some c) (n : Nat)
    (h : ∀ (lp : (List V → Fo → (Ex → List V → Fo → Option (V × Fo)) → Option (V × Fo)) → Nat → List Nat → Nat → List V → Fo → (Ex → List V → Fo → Option (V × Fo)) → Option (V × Fo)) (cl : Ca), lp = loopN → cl = callL E →
      execW lp E cl n F.length ((look E.keep f).getD []) c (args ++ List.replicate (fu.ntmps - args.length) .dead) F (fun e t F' => match e with
        | .exit _ => none
        | _ => finV E F.length f fu t F') = some x) : callL E f args F = some x := by
  refine callL_intro he hf hc n ?_
  rw [execW_eq]
  exact h _ _ rfl rfl

omit DW in
/-- The same, where only so much is known of the answer. -/
theorem callW_ex {E : Env} {f : FuncId} {args : List V} {F : Fo} {fu : Func} {c : Code} {Q : V × Fo → Prop} (he : look E.ext f = none) (hf : look E.fns f = some fu) (hc : fu.body = some c) (n : Nat)
    (h : ∀ (lp : (List V → Fo → (Ex → List V → Fo → Option (V × Fo)) → Option (V × Fo)) → Nat → List Nat → Nat → List V → Fo → (Ex → List V → Fo → Option (V × Fo)) → Option (V × Fo)) (cl : Ca), lp = loopN → cl = callL E →
      ∃ x, Q x ∧ execW lp E cl n F.length ((look E.keep f).getD []) c (args ++ List.replicate (fu.ntmps - args.length) .dead) F (fun e t F' => match e with
        | .exit _ => none
        | _ => finV E F.length f fu t F') = some x) : ∃ x, Q x ∧ callL E f args F = some x := by
  obtain ⟨x, hQ, hx⟩ := h _ _ rfl rfl
  exact ⟨x, hQ, callW he hf hc n (fun lp cl h1 h2 => by subst h1; subst h2; exact hx)⟩

omit DW in
/-- A function whose contract is known. -/
theorem callX {E : Env} {f : FuncId} {args : List V} {F F1 : Fo} {g : List V → Fo → Option (V × Fo)} {v : V} (he : look E.ext f = some g) (hg : g args F = some (v, F1)) : callL E f args F = some (v, F1) :=
  callL_of ⟨1, fun m hm => by
    obtain ⟨m, rfl⟩ : ∃ y, m = y + 1 := ⟨m - 1, by omega⟩
    simp only [runF, he, hg]⟩
theorem ext_nil {E : Env} {P : Program} (h : E.ext = []) : ∀ f g, look E.ext f = some g → ExtOK P f g := by
  intro f g hg; rw [h] at hg; simp [look] at hg
/-- A contract of scalars. -/
theorem ext_scal {P : Program} {f : FuncId} {g : List V → Option V} (hf : ∃ fu, P.funcs[f]? = some fu ∧ fu.body.isNone = false ∧ (fu.name == "runtime.NumGoroutine") = false)
    (h : ∀ args v, g args = some v → scalL args = true ∧ ∃ u : Value, v = .d (.lit u) ∧ u.oneCell' = true ∧ ∀ w, Calls P f (svals args).toArray w fun e w' => e = .returned u ∧ w' = w) :
    ExtOK P f (fun args F => match g args with | some v => some (v, F) | none => none) := by
  refine ⟨hf, fun args F v F1 hg B w A vals hR hl hrel => ?_⟩
  simp only at hg
  split at hg
  case h_2 => simp at hg
  rename_i v' hv
  simp only [Option.some.injEq, Prod.mk.injEq] at hg
  obtain ⟨rfl, rfl⟩ := hg
  obtain ⟨s1, u, rfl, s2, s3⟩ := h args v' hv
  have hvals : vals = (svals args).toArray := by
    rw [svals_eq]
    refine Array.ext (by simpa using hl.symm) fun j j1 j2 => ?_
    have hj : j < args.length := by omega
    have := scal_val (hrel j args[j] vals[j] (by simp [hj]) (by simp [j1])) (scal_mem s1 j args[j] (by simp [hj]))
    simpa using this
  rw [hvals]
  refine (s3 w).mono ?_
  rintro e w' ⟨rfl, rfl⟩
  exact ⟨_, A, rfl, hR, .d _ _ (.lit _ s2), .refl _ _, .refl _ _, fun _ h => h⟩
omit DW in
theorem cl_eq {E : Env} {cl : Ca} (hcl : cl = callL E) {f : FuncId} {args args' : List V} {F F' : Fo} {x : V × Fo} (h : callL E f args F = some x) (ha : args' = args) (hF : F' = F) : cl f args' F' = some x := by rw [hcl, ha, hF, h]

omit DW in
theorem call_eq {E : Env} {f : FuncId} {args args' : List V} {F F' : Fo} {x : V × Fo} (h : callL E f args F = some x) (ha : args' = args) (hF : F' = F) : callL E f args' F' = some x := by rw [ha, hF, h]

omit DW in
theorem lex_eq {ops : Array Oper} (h : Region.lexB .any ops = true) : Region.lexB .any ops = true := h
omit DW in
theorem not_beq_self (b : Bool) : (!(b == b)) = false := by cases b <;> rfl

omit DW in
theorem wrap_nat (i : Nat) (h : i < 4611686018427387904) : IntKind.i64.wrap ((i : Int) + 1) = ((i + 1 : Nat) : Int) := by
  rw [IntKind.wrap_i64]; omega
omit DW in
theorem get_map {α β : Type} (f : α → β) (l : List α) (i : Nat) (h : i < l.length) : (l.map f)[((i : Nat) : Int).toNat]? = some (f l[i]) := by
  simp [h]
omit DW in
theorem take_row {α β : Type} (f : α → β) (l : List α) (z : β) (i : Nat) (h : i < l.length) :
    ((l.take i).map f ++ List.replicate (l.length - i) z).set ((i : Nat) : Int).toNat (f l[i]) = (l.take (i + 1)).map f ++ List.replicate (l.length - (i + 1)) z := by
  have e : l.length - i = (l.length - (i + 1)) + 1 := by omega
  rw [e, List.replicate_succ, Int.toNat_natCast, List.set_append_right _ _ (by simp; omega), List.take_succ_eq_append_getElem h]
  have e2 : i - ((l.take i).map f).length = 0 := by simp; omega
  rw [e2, List.set_cons_zero, List.map_append, List.append_assoc]
  rfl
omit DW in
theorem get_row {α β : Type} (f : α → β) (l : List α) (z : β) (i : Nat) (h : i < l.length) :
    ((l.take i).map f ++ List.replicate (l.length - i) z)[((i : Nat) : Int).toNat]? = some z := by
  have e2 : ((l.take i).map f).length = i := by simp; omega
  rw [Int.toNat_natCast, List.getElem?_append_right (by omega), e2, Nat.sub_self, List.getElem?_replicate, if_pos (by omega)]

/-- Is it between? -/
def inR (n lo hi : Int) : Bool := decide (n ≥ lo) && decide (n ≤ hi)
omit DW in
theorem inR_iff {n lo hi : Int} : inR n lo hi = true ↔ lo ≤ n ∧ n ≤ hi := by simp [inR]
omit DW in
theorem inR_not {n lo hi : Int} : inR n lo hi = false ↔ ¬ (lo ≤ n ∧ n ≤ hi) := by rw [← inR_iff]; simp
omit DW in
theorem sum_take_succ {α : Type} (f : α → Nat) (l : List α) (i : Nat) (h : i < l.length) : ((l.take (i + 1)).map f).sum = ((l.take i).map f).sum + f l[i] := by
  rw [List.take_succ_eq_append_getElem h, List.map_append, List.sum_append_nat]; simp
omit DW in
theorem sum_take_le {α : Type} (f : α → Nat) (l : List α) (i : Nat) : ((l.take i).map f).sum ≤ (l.map f).sum := by
  have h : (l.map f).sum = ((l.take i).map f).sum + ((l.drop i).map f).sum := by rw [← List.sum_append_nat, ← List.map_append, List.take_append_drop]
  omega
omit DW in
theorem allLen_map {α : Type} (f : α → List D) (n : Nat) (h : ∀ x, (f x).length = n) : ∀ l : List α, allLen n (l.map f) = true
  | [] => rfl
  | x :: l => by simp only [List.map_cons, allLen, h x, Nat.beq_refl]; exact allLen_map f n h l
omit DW in
theorem wrap_sm (x : Int) (h1 : -9223372036854775808 ≤ x) (h2 : x ≤ 9223372036854775807) : IntKind.i64.wrap x = x := by rw [IntKind.wrap_i64]; omega

omit DW in
theorem fin_b {b c : Bool} {o : Option (V × Fo)} (h : o = some (BO b, [])) (e : b = c) : o = some (BO c, []) := by subst e; exact h

noncomputable def pB (p : Prop) : Bool := @decide p (Classical.propDecidable p)
omit DW in
theorem pB_true {p : Prop} (h : p) : pB p = true := by exact @decide_eq_true p (Classical.propDecidable p) h
omit DW in
theorem pB_false {p : Prop} (h : ¬ p) : pB p = false := by exact @decide_eq_false p (Classical.propDecidable p) h
omit DW in
theorem pB_iff {p : Prop} : pB p = true ↔ p := by exact @decide_eq_true_iff p (Classical.propDecidable p)

omit DW in
theorem quo_of {ty : TypeId} {a b : Int} (h : b ≠ 0) : runPure (binOp .quo ty (.int .i64 a) (.int .i64 b)) = some (.int .i64 (IntKind.i64.wrap (a.tdiv b))) := by
  simp [binOp, Op.intDiv, h]
  rfl
omit DW in
theorem rem_of {ty : TypeId} {a b : Int} (h : b ≠ 0) : runPure (binOp .rem ty (.int .i64 a) (.int .i64 b)) = some (.int .i64 (a.tmod b)) := by
  simp [binOp, Op.intDiv, h]
  rfl
/-- The first that holds. -/
def idxP {α : Type} (p : α → Bool) (l : List α) : Int := match l.findIdx? p with
  | some i => i
  | none => -1
omit DW in
theorem idxP_some {α : Type} {p : α → Bool} {l : List α} {i : Nat} (h : i < l.length) (h1 : p l[i] = true) (h2 : ∀ j (hj : j < i), p (l[j]'(by omega)) = false) : idxP p l = i := by
  unfold idxP
  rw [List.findIdx?_eq_some_iff_getElem.mpr ⟨h, h1, fun j hj => by simp [h2 j hj]⟩]
omit DW in
theorem idxP_none {α : Type} {p : α → Bool} {l : List α} (h : ∀ j (hj : j < l.length), p l[j] = false) : idxP p l = -1 := by
  unfold idxP
  rw [List.findIdx?_eq_none_iff.mpr (fun x hx => by
    obtain ⟨j, hj, rfl⟩ := List.mem_iff_getElem.mp hx
    exact h j hj)]
omit DW in
theorem idxP_any {α : Type} (p : α → Bool) (l : List α) : decide (idxP p l ≥ 0) = l.any p := by
  unfold idxP
  split
  · rename_i i h
    obtain ⟨hlt, h1, _⟩ := List.findIdx?_eq_some_iff_getElem.mp h
    have : l.any p = true := List.any_eq_true.mpr ⟨l[i], List.getElem_mem _, h1⟩
    rw [this]; simp
  · rename_i h
    have := List.findIdx?_eq_none_iff.mp h
    have h2 : l.any p = false := List.any_eq_false.mpr fun x hx => by simpa using this x hx
    rw [h2]; simp

omit DW in
theorem get_mid {α : Type} {A B : List α} {r : α} {i : Nat} (h : A.length = i) : (A ++ r :: B)[((i : Nat) : Int).toNat]? = some r := by
  rw [Int.toNat_natCast, List.getElem?_append_right (by omega), h, Nat.sub_self]; rfl
omit DW in
theorem set_mid {α : Type} {A B : List α} {r r' : α} {i : Nat} (h : A.length = i) : (A ++ r :: B).set ((i : Nat) : Int).toNat r' = A ++ r' :: B := by
  rw [Int.toNat_natCast, List.set_append_right _ _ (by omega), h, Nat.sub_self]; rfl

/-- As a rule draws are not counted. -/
instance looseDrw : Drw := ⟨False⟩
end Go.Proofs.YtjnhclnnobejgaaE
