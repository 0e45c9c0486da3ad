/- The engine, last part: words for what functions compute, and the rules by which a loop of the code is one of these words; conditions: none. -/
import Derived.Test.YtjnhclnnobejgaaEsi
import Derived.Test.YtjnhclnnobejgaaEr
namespace Go.Proofs.YtjnhclnnobejgaaE
set_option linter.unusedVariables false

/-- More rounds than any loop takes. -/
def NN : Nat := 4611686018427387904
/-- A loop, by its round. -/
def iterK {σ R : Type} (f : σ → (σ → Option R) → Option R) : Nat → σ → Option R
  | 0, _ => none
  | n + 1, s => f s (iterK f n)
/-- A loop over a list. -/
def forGo {α σ R : Type} (f : Nat → α → σ → (σ → Option R) → Option R) (k : σ → Option R) : Nat → List α → σ → Option R
  | _, [], s => k s
  | i, x :: l, s => f i x s (forGo f k (i + 1) l)
def forK {α σ R : Type} (l : List α) (f : Nat → α → σ → (σ → Option R) → Option R) (s : σ) (k : σ → Option R) : Option R := forGo f k 0 l s
/-- A loop over the numbers below n. -/
def forI {σ R : Type} (n : Int) (f : Nat → σ → (σ → Option R) → Option R) (s : σ) (k : σ → Option R) : Option R := forK (List.range n.toNat) (fun i _ s nx => f i s nx) s k
def getN {α R : Type} (l : List α) (n : Nat) (k : α → Option R) : Option R := match l[n]? with
  | some x => k x
  | none => none
def getK {α R : Type} (l : List α) (i : Int) (k : α → Option R) : Option R := if 0 ≤ i then getN l i.toNat k else none
def getB {R : Type} (s : ByteArray) (i : Int) (k : Int → Option R) : Option R := if 0 ≤ i then (match s[i.toNat]? with
  | some x => k (x.toNat : Int)
  | none => none) else none
def callK {α R : Type} (o : Option α) (k : α → Option R) : Option R := match o with
  | some x => k x
  | none => none
def grd {R : Type} (c : Prop) [Decidable c] (x : Option R) : Option R := if c then x else none

theorem getN_inv {α R : Type} {l : List α} {n : Nat} {k : α → Option R} {r : R} (h : getN l n k = some r) : ∃ x, l[n]? = some x ∧ k x = some r := by
  unfold getN at h
  split at h
  · rename_i x hx; exact ⟨x, hx, h⟩
  · cases h
theorem getK_inv {α R : Type} {l : List α} {i : Int} {k : α → Option R} {r : R} (h : getK l i k = some r) : ∃ x, 0 ≤ i ∧ l[i.toNat]? = some x ∧ k x = some r := by
  unfold getK at h
  split at h
  · rename_i h0; obtain ⟨x, h1, h2⟩ := getN_inv h; exact ⟨x, h0, h1, h2⟩
  · cases h
theorem getB_inv {R : Type} {s : ByteArray} {i : Int} {k : Int → Option R} {r : R} (h : getB s i k = some r) : ∃ x, 0 ≤ i ∧ s[i.toNat]? = some x ∧ k (x.toNat : Int) = some r := by
  unfold getB at h
  split at h
  · rename_i h0
    split at h
    · rename_i x hx; exact ⟨x, h0, hx, h⟩
    · cases h
  · cases h
theorem callK_inv {α R : Type} {o : Option α} {k : α → Option R} {r : R} (h : callK o k = some r) : ∃ x, o = some x ∧ k x = some r := by
  unfold callK at h
  split at h
  · rename_i x; exact ⟨x, rfl, h⟩
  · cases h
theorem grd_inv {R : Type} {c : Prop} [Decidable c] {x : Option R} {r : R} (h : grd c x = some r) : c ∧ x = some r := by
  unfold grd at h
  split at h
  · rename_i hc; exact ⟨hc, h⟩
  · cases h
theorem ifT {R : Type} {c : Prop} [Decidable c] {A B : Option R} {r : Option R} (h : (if c then A else B) = r) (hc : c) : A = r := by rw [← h, if_pos hc]
theorem ifF {R : Type} {c : Prop} [Decidable c] {A B : Option R} {r : Option R} (h : (if c then A else B) = r) (hc : ¬ c) : B = r := by rw [← h, if_neg hc]
theorem decT {c : Prop} [Decidable c] (h : decide c = true) : c := of_decide_eq_true h
theorem decF {c : Prop} [Decidable c] (h : decide c = false) : ¬ c := of_decide_eq_false h
theorem beqT {a b : Int} (h : (a == b) = true) : a = b := eq_of_beq h
theorem beqF {a b : Int} (h : (a == b) = false) : ¬ a = b := by intro e; subst e; simp at h
theorem bneT {a b : Int} (h : (a != b) = true) : ¬ a = b := by intro e; subst e; simp at h
theorem bneF {a b : Int} (h : (a != b) = false) : a = b := by simpa using h
theorem booF {b : Bool} (h : b = false) : ¬ b = true := by rw [h]; decide

section
variable {X R : Type} {body : List V → Fo → (Ex → List V → Fo → Option X) → Option X} {m : Nat} {ks : List Nat} {K : Ex → List V → Fo → Option X}
  {lp : (List V → Fo → (Ex → List V → Fo → Option X) → Option X) → Nat → List Nat → Nat → List V → Fo → (Ex → List V → Fo → Option X) → Option X}

theorem loop_iter {σ : Type} (hlp : lp = loopN) (enc : σ → List V) (encF : σ → Fo) (fin : R → X) {f : σ → (σ → Option R) → Option R}
    (round : ∀ (next : List V → Fo → Option X) (nx : σ → Option R), (∀ s t F r, (∀ kk : List V → Fo → Option X, normT m ks t F kk = kk (enc s) (encF s)) → nx s = some r → next t F = some (fin r)) →
      ∀ s r, f s nx = some r → body (enc s) (encF s) (fun e t F => match e with
        | .normal => next t F
        | e => K e t F) = some (fin r))
    (s : σ) (r : R) {t : List V} {F : Fo} (hn : ∀ kk : List V → Fo → Option X, normT m ks t F kk = kk (enc s) (encF s)) (h : iterK f NN s = some r) : lp body m ks NN t F K = some (fin r) := by
  rw [hlp]
  generalize NN = n at *
  induction n generalizing s t F r with
  | zero => cases h
  | succ n ih =>
    rw [loopN, hn]
    exact round (fun t F => loopN body m ks n t F K) (iterK f n) (fun s t F r h1 h2 => ih s r h1 h2) s r h

theorem loop_for {σ α : Type} (hlp : lp = loopN) {l : List α} (hl : l.length < NN) (enc : Nat → σ → List V) (encF : Nat → σ → Fo) (fin : R → X) {f : Nat → α → σ → (σ → Option R) → Option R} {k : σ → Option R}
    (round : ∀ (next : List V → Fo → Option X) (nx : σ → Option R) (i : Nat) (hi : i < l.length), (∀ s t F r, (∀ kk : List V → Fo → Option X, normT m ks t F kk = kk (enc (i + 1) s) (encF (i + 1) s)) → nx s = some r → next t F = some (fin r)) →
      ∀ s r, f i l[i] s nx = some r → body (enc i s) (encF i s) (fun e t F => match e with
        | .normal => next t F
        | e => K e t F) = some (fin r))
    (last : ∀ (next : List V → Fo → Option X) s r, k s = some r → body (enc l.length s) (encF l.length s) (fun e t F => match e with
        | .normal => next t F
        | e => K e t F) = some (fin r))
    (s : σ) (r : R) {t : List V} {F : Fo} (hn : ∀ kk : List V → Fo → Option X, normT m ks t F kk = kk (enc 0 s) (encF 0 s)) (h : forK l f s k = some r) : lp body m ks NN t F K = some (fin r) := by
  rw [hlp]
  have go : ∀ (n i : Nat) (s : σ) (r : R) (t : List V) (F : Fo), i ≤ l.length → l.length - i < n → (∀ kk : List V → Fo → Option X, normT m ks t F kk = kk (enc i s) (encF i s)) → forGo f k i (l.drop i) s = some r → loopN body m ks n t F K = some (fin r) := by
    intro n
    induction n with
    | zero => intro i s r t F _ h; omega
    | succ n ih =>
      intro i s r t F hi hlt hn h
      rw [loopN, hn]
      by_cases e : i < l.length
      · rw [List.drop_eq_getElem_cons e] at h
        exact round (fun t F => loopN body m ks n t F K) (forGo f k (i + 1) (l.drop (i + 1))) i e (fun s t F r h1 h2 => ih (i + 1) s r t F (by omega) (by omega) h1 h2) s r h
      · obtain rfl : i = l.length := by omega
        rw [List.drop_length] at h
        exact last (fun t F => loopN body m ks n t F K) s r h
  exact go NN 0 s r t F (by omega) (by omega) hn h

theorem loop_forI {σ : Type} (hlp : lp = loopN) {n : Int} (hl : n < 4611686018427387904) (enc : Nat → σ → List V) (encF : Nat → σ → Fo) (fin : R → X) {f : Nat → σ → (σ → Option R) → Option R} {k : σ → Option R}
    (round : ∀ (next : List V → Fo → Option X) (nx : σ → Option R) (i : Nat) (hi : (i : Int) < n), (∀ s t F r, (∀ kk : List V → Fo → Option X, normT m ks t F kk = kk (enc (i + 1) s) (encF (i + 1) s)) → nx s = some r → next t F = some (fin r)) →
      ∀ s r, f i s nx = some r → body (enc i s) (encF i s) (fun e t F => match e with
        | .normal => next t F
        | e => K e t F) = some (fin r))
    (last : ∀ (next : List V → Fo → Option X) s r, k s = some r → body (enc n.toNat s) (encF n.toNat s) (fun e t F => match e with
        | .normal => next t F
        | e => K e t F) = some (fin r))
    (s : σ) (r : R) {t : List V} {F : Fo} (hn : ∀ kk : List V → Fo → Option X, normT m ks t F kk = kk (enc 0 s) (encF 0 s)) (h : forI n f s k = some r) : lp body m ks NN t F K = some (fin r) := by
  refine loop_for hlp (l := List.range n.toNat) (by rw [List.length_range]; unfold NN; omega) enc encF fin (f := fun i _ s nx => f i s nx) (k := k) ?_ ?_ s r hn h
  · intro next nx i hi
    rw [List.length_range] at hi
    exact round next nx i (by omega)
  · rw [List.length_range]; exact last
end

theorem scalEnd_map {α : Type} {f : α → List D} (h : ∀ x, litRow (f x) = true) {e es : Nat} {l : List α} : scalEnd (.sl 0) [some (.arr e es (l.map f))] = some (.d (.arr (l.map f))) := by
  unfold scalEnd
  simp only [root, litRows_map h]

/-- A map's entries, as plain values. -/
def mE {α : Type} (f : α → D) (l : List (Int × α)) : List (Int × D) := l.map fun p => (p.1, f p.2)
def mgetT {α : Type} : List (Int × α) → Int → α → α
  | [], _, z => z
  | (m, x) :: l, n, z => if m = n then x else mgetT l n z
def mhasT {α : Type} : List (Int × α) → Int → Bool
  | [], _ => false
  | (m, _) :: l, n => if m = n then true else mhasT l n
def mputT {α : Type} : List (Int × α) → Int → α → List (Int × α)
  | [], n, x => [(n, x)]
  | (m, y) :: l, n, x => if m = n then (n, x) :: l else (m, y) :: mputT l n x
theorem mgetD_of {α : Type} {f : α → D} {l : List (Int × α)} {n : Int} {z : α} : mgetD (mE f l) n (f z) = f (mgetT l n z) := by
  induction l with
  | nil => rfl
  | cons p l ih =>
    obtain ⟨m, x⟩ := p
    simp only [mE, List.map_cons, mgetD, mgetT]
    by_cases h : m = n
    · simp [h]
    · simp only [h, decide_false, if_false]; exact ih
theorem mhas_of {α : Type} {f : α → D} {l : List (Int × α)} {n : Int} : mhas (mE f l) n = mhasT l n := by
  induction l with
  | nil => rfl
  | cons p l ih =>
    obtain ⟨m, x⟩ := p
    simp only [mE, List.map_cons, mhas, mhasT]
    by_cases h : m = n
    · simp [h]
    · simp only [h, decide_false, if_false]; exact ih
theorem mput_of {α : Type} {f : α → D} {l : List (Int × α)} {n : Int} {x : α} {y : D} (h : y = f x) : mput (mE f l) n y = mE f (mputT l n x) := by
  subst h
  induction l with
  | nil => rfl
  | cons p l ih =>
    obtain ⟨m, y⟩ := p
    simp only [mE, List.map_cons, mput, mputT]
    by_cases h : m = n
    · simp [h]
    · simp only [h, decide_false, if_false, List.map_cons]; exact congrArg _ ih

/-- Bytes. -/
def rU (n : Int) : List D := [.lit (.int .u8 n)]
def rW (n : Int) : List D := [.lit (.int .u64 n)]
def u8r (n : Int) : Prop := 0 ≤ n ∧ n ≤ 255
theorem of_U {ds : List D} (h : OkD (.int .u8) ds) : ∃ x, ds = rU x ∧ u8r x := by
  rw [OkD] at h
  obtain ⟨n, rfl, hw⟩ := h
  refine ⟨n, rfl, ?_⟩
  simp only [Lit.wf, Bool.and_eq_true, decide_eq_true_eq] at hw
  exact ⟨hw.1, hw.2⟩
theorem rU_len : ∀ x, (rU x).length = 1 := fun _ => rfl
theorem rW_len : ∀ x, (rW x).length = 1 := fun _ => rfl
theorem rS_len : ∀ x, (rS x).length = 1 := fun _ => rfl
theorem rGeometry_len : ∀ x, (rGeometry x).length = 3 := fun _ => rfl
theorem rBlock_len : ∀ x, (rBlock x).length = 4 := fun _ => rfl
theorem rFlash_len : ∀ x, (rFlash x).length = 8 := fun _ => rfl
theorem rBadTable_len : ∀ x, (rBadTable x).length = 6 := fun _ => rfl
theorem rFault_len : ∀ x, (rFault x).length = 4 := fun _ => rfl
theorem rPageMap_len : ∀ x, (rPageMap x).length = 4 := fun _ => rfl
theorem rPageMeta_len : ∀ x, (rPageMeta x).length = 5 := fun _ => rfl
theorem rFound_len : ∀ x, (rFound x).length = 6 := fun _ => rfl
theorem rCheckpoint_len : ∀ x, (rCheckpoint x).length = 5 := fun _ => rfl
theorem rBlockStat_len : ∀ x, (rBlockStat x).length = 3 := fun _ => rfl
theorem rWear_len : ∀ x, (rWear x).length = 4 := fun _ => rfl
theorem rHeat_len : ∀ x, (rHeat x).length = 2 := fun _ => rfl
theorem rFTL_len : ∀ x, (rFTL x).length = 19 := fun _ => rfl
theorem rFtlAct_len : ∀ x, (rFtlAct x).length = 3 := fun _ => rfl
theorem rCells_len : ∀ x, (rCells x).length = 1 := fun _ => rfl
theorem rWipe_len : ∀ x, (rWipe x).length = 2 := fun _ => rfl
theorem rHeader_len : ∀ x, (rHeader x).length = 6 := fun _ => rfl
theorem rZone_len : ∀ x, (rZone x).length = 6 := fun _ => rfl
theorem rDevice_len : ∀ x, (rDevice x).length = 9 := fun _ => rfl
theorem rRecord_len : ∀ x, (rRecord x).length = 5 := fun _ => rfl
theorem rLogFragment_len : ∀ x, (rLogFragment x).length = 4 := fun _ => rfl
theorem rFragment_len : ∀ x, (rFragment x).length = 3 := fun _ => rfl
theorem rPair_len : ∀ x, (rPair x).length = 2 := fun _ => rfl
theorem rTableRef_len : ∀ x, (rTableRef x).length = 10 := fun _ => rfl
theorem rVersion_len : ∀ x, (rVersion x).length = 4 := fun _ => rfl
theorem rEdit_len : ∀ x, (rEdit x).length = 4 := fun _ => rfl
theorem rDB_len : ∀ x, (rDB x).length = 19 := fun _ => rfl
theorem rDbAct_len : ∀ x, (rDbAct x).length = 3 := fun _ => rfl
theorem rTrial_len : ∀ x, (rTrial x).length = 5 := fun _ => rfl
theorem rVerdict_len : ∀ x, (rVerdict x).length = 7 := fun _ => rfl

/-- Rows of data, made, as rows of plain values. -/
theorem map_app_of {α : Type} {r : α → List D} {l m : List α} {news : List (List D)} (h : news = m.map r) : l.map r ++ news = (l ++ m).map r := by rw [h, List.map_append]
theorem nil_app_of {α : Type} {r : α → List D} {m : List α} {news : List (List D)} (h : news = m.map r) : ([] : List (List D)) ++ news = m.map r := by rw [h]; rfl
theorem map_set_of {α : Type} {r : α → List D} {l : List α} {n : Nat} {x : α} {row : List D} (h : row = r x) : (l.map r).set n row = (l.set n x).map r := by rw [h, List.map_set]
theorem rep_of {α : Type} {r : α → List D} {n : Nat} {x : α} {row : List D} (h : row = r x) : List.replicate n row = (List.replicate n x).map r := by rw [h, List.map_replicate]
theorem cut_of {α : Type} {r : α → List D} {l : List α} {a b : Nat} : ((l.map r).drop a).take b = ((l.drop a).take b).map r := by rw [List.map_take, List.map_drop]
theorem len_of {α : Type} {r : α → List D} {l : List α} : (l.map r).length = l.length := List.length_map ..
theorem byteRows_rU : ∀ l : List Int, byteRows (l.map rU) = true
  | [] => rfl
  | _ :: l => byteRows_rU l
theorem f_clone {E : Env} {f e : Nat} {i : TI} (he : look E.ext f = some (extClone e i)) {rows : List (List D)} (h1 : appOk rows.length i.bytes = true) (h2 : allLen i.size rows = true) (h3 : Nat.blt 0 i.size = true) : callL E f [.d (.arr rows)] [] = some (.sl 0, [some (.arr e i.size rows)]) :=
  callX he (by simp only [extClone, h1, h2, h3])
theorem f_grow {E : Env} {f e : Nat} {i : TI} (he : look E.ext f = some (extGrow e i)) {n : Int} (h1 : 0 ≤ n ∧ n ≤ 4611686018427387904 ∧ appOk n.toNat i.bytes = true) (h2 : Nat.blt 0 i.size = true) : callL E f [.d (.lit (.slice none 0 0)), .d (.lit (.int .i64 n))] [] = some (.sl 0, [some (.arr e i.size [])]) :=
  callX he (by simp only [extGrow, decide_eq_true h1.1, decide_eq_true h1.2.1, h1.2.2, h2])
theorem f_cloneO {E : Env} {f e e' es : Nat} {i : TI} (he : look E.ext f = some (extClone e i)) {rows : List (List D)} (h1 : appOk rows.length i.bytes = true) (h2 : Nat.beq es i.size = true) (h3 : Nat.blt 0 i.size = true) : callL E f [.sl 0] [some (.arr e' es rows)] = some (.sl 1, [some (.arr e' es rows), some (.arr e i.size rows)]) :=
  callX he (by simp only [extClone, h1, h2, h3])
theorem f_insert {E : Env} {f e e1 es e2 es2 : Nat} {i : TI} {α : Type} {r : α → List D} {l l2 : List α} {j : Int} (he : look E.ext f = some (extInsert e i)) (h0 : Nat.beq e1 e = true) (h1 : Nat.beq es i.size = true) (h2 : Nat.beq es2 i.size = true) (h3 : 0 ≤ j ∧ j ≤ (l.length : Int) ∧ 0 < l2.length) (h4 : appOk (l.length + l2.length) i.bytes = true) (h5 : Nat.blt 0 i.bytes = true) (h6 : Nat.beq e2 U8 = false) :
    callL E f [.sl 0, .d (.lit (.int .i64 j)), .sl 1] [some (.arr e1 es (l.map r)), some (.arr e2 es2 (l2.map r))] = some (.sl 2, [none, some (.arr e2 es2 (l2.map r)), some (.arr e i.size ((l.take (Int.toNat j) ++ l2 ++ l.drop (Int.toNat j)).map r))]) :=
  callX he (by
    have q1 : decide (0 ≤ j) = true := decide_eq_true h3.1
    have q2 : decide (j ≤ ((l.map r).length : Int)) = true := decide_eq_true (by rw [List.length_map]; exact h3.2.1)
    have q3 : appOk ((l.map r).length + (l2.map r).length) i.bytes = true := by rw [List.length_map, List.length_map]; exact h4
    have q4 : Nat.blt 0 (l2.map r).length = true := by rw [List.length_map, Nat.blt_eq]; exact h3.2.2
    simp only [extInsert, h0, h1, h2, q1, q2, q3, h5, h6, q4, List.map_append, List.map_take, List.map_drop])
/-! Rows with slices of one's own. -/
theorem f_cloneN {E : Env} {f : Nat} {T : NT} {i : TI} (he : look E.ext f = some (extCloneN T i)) {rows : List (List D)} (h1 : appOk rows.length i.bytes = true) (h2 : allLen i.size rows = true) (h3 : Nat.beq T.es i.size = true) (h4 : Nat.blt T.c2 T.es = true) (h5 : Nat.blt 0 T.es2 = true) :
    callL E f [.d (.arr rows)] [] = some (.nsl 0, [some (.nst T 0 rows)]) :=
  callX he (by simp only [extCloneN, h1, h2, h3, h4, h5])
theorem blt_of_get {n : Nat} {α : Type} {r : α → List D} {l : List α} {row : List D} (h : (l.map r)[n]? = some row) : Nat.blt n l.length = true := by
  have := (List.getElem?_eq_some_iff.mp h).1
  rw [List.length_map] at this
  exact Nat.ble_eq.mpr this
theorem blt_of_len {i n : Nat} {α : Type} {r : α → List D} {l : List α} {row : List D} (h : (l.map r)[i]? = some row) (hn : n = l.length) : Nat.blt i n = true := by rw [hn]; exact blt_of_get h
theorem beq_len {n : Nat} {α : Type} {r : α → List D} {l : List α} (h : n = l.length) : Nat.beq n (l.map r).length = true := by rw [h, List.length_map]; exact Nat.beq_refl _
theorem beq_toNat {n : Nat} : Nat.beq (Int.toNat (n : Int)) n = true := Nat.beq_refl n
theorem lenV_ns {F : Fo} {v : V} {r i c m : Nat} {T : NT} {α : Type} {f : α → List D} {l : List α} {row : List D} {rws : List (List D)} (hv : v = .ns r i c) (hr : root F r = some (.nst T m (l.map f))) (h : (l.map f)[i]? = some row) (hc : row[T.c2]? = some (.arr rws)) : lenV F v = some rws.length := by
  subst hv
  simp only [lenV, rowsV, hr, h, hc]
theorem blt_no {n : Nat} : Nat.blt n n = false := by
  cases h : Nat.blt n n
  · rfl
  · have : n < n := Nat.le_of_ble_eq_true h
    omega
theorem blt_nat {n : Nat} : Nat.blt (Int.toNat (n : Int)) n = false := blt_no
theorem blt_zero {n : Nat} : Nat.blt n 0 = false := by
  cases h : Nat.blt n 0
  · rfl
  · have : n < 0 := Nat.le_of_ble_eq_true h
    omega
theorem beq_yes {n : Nat} : Nat.beq n n = true := Nat.beq_refl n
theorem beq_of {n m : Nat} (h : n = m) : Nat.beq n m = true := by rw [h]; exact Nat.beq_refl m
theorem beq_map {α : Type} {r : α → List D} {l : List α} : Nat.beq l.length (l.map r).length = true := by rw [List.length_map]; exact Nat.beq_refl _
theorem nst_full {T : NT} {n : Nat} {α : Type} {r : α → List D} {l : List α} (h : n = l.length) : Root.nst T n (l.map r) = Root.nst T l.length (l.map r) := by rw [h]
theorem nst_set {T : NT} {α : Type} {r : α → List D} {l : List α} {n : Nat} {x : α} {row : List D} (h : row = r x) : Root.nst T l.length ((l.map r).set n row) = Root.nst T (l.set n x).length ((l.set n x).map r) := by
  rw [h, List.length_set, List.map_set]
theorem nst_app {T : NT} {α : Type} {r : α → List D} {l : List α} {x : α} {row : List D} (h : row = r x) : Root.nst T (l.length + 1) (l.map r ++ [row]) = Root.nst T (l ++ [x]).length ((l ++ [x]).map r) := by
  rw [h, List.length_append, List.map_append]; rfl
theorem litRowsN_map {α β : Type} {f : α → List D} {g : β → List D} {p : α → List β} {c : Nat} (h1 : ∀ x, litRow ((f x).set c (.lit (.bool false))) = true) (h2 : ∀ x, (f x)[c]? = some (.arr ((p x).map g))) (h3 : ∀ y, litRow (g y) = true) : ∀ l : List α, litRowsN c (l.map f) = true
  | [] => rfl
  | a :: l => by simp only [List.map_cons, litRowsN, h1 a, h2 a, litRows_map h3, litRowsN_map h1 h2 h3 l]
theorem litF_nst {α β : Type} {f : α → List D} {g : β → List D} {p : α → List β} {T : NT} {F : Fo} {l : List α} (h1 : ∀ x, litRow ((f x).set T.c2 (.lit (.bool false))) = true) (h2 : ∀ x, (f x)[T.c2]? = some (.arr ((p x).map g))) (h3 : ∀ y, litRow (g y) = true) :
    litF (some (.nst T l.length (l.map f)) :: F) = litF F := by
  rw [litF]
  simp only [beq_map, litRowsN_map h1 h2 h3]
theorem litF_map {α : Type} {f : α → List D} {e es : Nat} {F : Fo} {l : List α} (h : ∀ x, litRow (f x) = true) : litF (some (.arr e es (l.map f)) :: F) = litF F := by
  rw [litF]
  simp only [litRows_map h]
/-- A string's bytes as numbers. -/
def bytesL (s : ByteArray) : List Int := s.data.toList.map fun b => (b.toNat : Int)
theorem bytesL_of {s : ByteArray} : byteRowsOf s = (bytesL s).map rU := by
  unfold byteRowsOf bytesL
  rw [List.map_map]
  rfl
theorem take_of {α : Type} {r : α → List D} {l : List α} {a : Nat} : (l.map r).take a = (l.take a).map r := by rw [List.map_take]
theorem wipe_of {α : Type} {r : α → List D} {l : List α} {n : Nat} {x : α} {row : List D} (h : row = r x) : (l.map r).take n ++ List.replicate ((l.map r).length - n) row = (l.take n ++ List.replicate (l.length - n) x).map r := by
  rw [h, List.map_append, List.map_take, List.map_replicate, List.length_map]
theorem get_of {α : Type} {r : α → List D} {l : List α} {n : Nat} {x : α} (h : l[n]? = some x) : (l.map r)[n]? = some (r x) := by rw [List.getElem?_map, h]; rfl
theorem app_eq {a b c d : Nat} (h : appOk a b = true) (e1 : c = a) (e2 : d = b) : appOk c d = true := by rw [e1, e2, h]
theorem mk_eq {n m n' m' : Int} {b s b' s' : Nat} (h : mkOk n m b s = true) (e1 : n' = n) (e2 : m' = m) (e3 : b' = b) (e4 : s' = s) : mkOk n' m' b' s' = true := by rw [e1, e2, e3, e4, h]
theorem cat_run (ty : Nat) (a b : ByteArray) (h : ((a.size + b.size : Nat) : Int) ≤ 9223372036854775807) : runPure (Go.binOp .add ty (.string a) (.string b)) = some (.string (a ++ b)) := by
  have h0 : ¬ (((a.size + b.size : Nat) : Int) > IntKind.i64.max) := by
    have : IntKind.i64.max = 9223372036854775807 := by decide
    omega
  unfold Go.binOp
  simp only [Op.stringOp]
  rw [if_neg h0]
  rfl
theorem quo_run (ty : Nat) (k : IntKind) (a b : Int) (h : b ≠ 0) : runPure (Go.binOp .quo ty (.int k a) (.int k b)) = some (.int k (k.wrap (a.tdiv b))) := by
  simp [Go.binOp, Op.intDiv, h]
  rfl
theorem shl_run (ty : Nat) (k yk : IntKind) (a y : Int) (h : 0 ≤ y) : runPure (Go.binOp .shl ty (.int k a) (.int yk y)) = some (.int k (k.wrap (a * 2 ^ (min (Int.toNat y) k.bits)))) := by
  simp [Go.binOp, Op.shift, show ¬ y < 0 by omega]
  rfl
theorem shr_run (ty : Nat) (k yk : IntKind) (a y : Int) (h : 0 ≤ y) : runPure (Go.binOp .shr ty (.int k a) (.int yk y)) = some (.int k (a.fdiv (2 ^ (min (Int.toNat y) k.bits)))) := by
  simp [Go.binOp, Op.shift, show ¬ y < 0 by omega]
  rfl
theorem rem_run (ty : Nat) (k : IntKind) (a b : Int) (h : b ≠ 0) : runPure (Go.binOp .rem ty (.int k a) (.int k b)) = some (.int k (a.tmod b)) := by
  simp [Go.binOp, Op.intDiv, h]
  rfl
abbrev andK (k : IntKind) (a b : Int) : Int := k.wrap ((BitVec.ofInt k.bits a &&& BitVec.ofInt k.bits b).toNat : Int)
abbrev orK (k : IntKind) (a b : Int) : Int := k.wrap ((BitVec.ofInt k.bits a ||| BitVec.ofInt k.bits b).toNat : Int)
abbrev xorK (k : IntKind) (a b : Int) : Int := k.wrap ((BitVec.ofInt k.bits a ^^^ BitVec.ofInt k.bits b).toNat : Int)
abbrev andNotK (k : IntKind) (a b : Int) : Int := k.wrap ((BitVec.ofInt k.bits a &&& ~~~BitVec.ofInt k.bits b).toNat : Int)
/-! ### What plain loops come to -/
@[simp] theorem callK_some {α R : Type} (x : α) (k : α → Option R) : callK (some x) k = k x := rfl
theorem grd_pos {R : Type} {c : Prop} [Decidable c] (h : c) (x : Option R) : grd c x = x := if_pos h
@[simp] theorem grd_true {R : Type} (x : Option R) : grd True x = x := rfl
theorem getN_pos {α R : Type} {l : List α} {n : Nat} {x : α} (h : l[n]? = some x) (k : α → Option R) : getN l n k = k x := by unfold getN; rw [h]
theorem getN_lt {α R : Type} {l : List α} {n : Nat} (h : n < l.length) (k : α → Option R) : getN l n k = k l[n] := getN_pos (by simp [h]) k
theorem getK_lt {α R : Type} {l : List α} {n : Nat} (h : n < l.length) (k : α → Option R) : getK l (n : Int) k = k l[n] := by
  unfold getK
  rw [if_pos (by omega), Int.toNat_natCast, getN_lt h]
theorem getK_in {α R : Type} {l : List α} {i : Int} (h0 : 0 ≤ i) (h : i < l.length) (k : α → Option R) : getK l i k = k (l[i.toNat]'(by omega)) := by
  unfold getK
  rw [if_pos h0, getN_lt]
theorem forGo_nil {α σ R : Type} (f : Nat → α → σ → (σ → Option R) → Option R) (k : σ → Option R) (i : Nat) (s : σ) : forGo f k i [] s = k s := rfl
theorem forGo_cons {α σ R : Type} (f : Nat → α → σ → (σ → Option R) → Option R) (k : σ → Option R) (i : Nat) (x : α) (l : List α) (s : σ) : forGo f k i (x :: l) s = f i x s (forGo f k (i + 1) l) := rfl
/-- A search: does one hold? -/
theorem forK_any {α R : Type} {f : α → Option Bool} {p : α → Bool} (hp : ∀ x, f x = some (p x)) (a b : Option R) (l : List α) :
    forK l (fun (_ : Nat) x (s : Unit) nx => callK (f x) fun y => if y = true then a else nx s) () (fun _ => b) = if l.any p = true then a else b := by
  unfold forK
  have : ∀ (l : List α) (i : Nat), forGo (fun (_ : Nat) x (s : Unit) nx => callK (f x) fun y => if y = true then a else nx s) (fun _ => b) i l () = if l.any p = true then a else b := by
    intro l
    induction l with
    | nil => intro i; rfl
    | cons x l ih =>
      intro i
      rw [forGo_cons, hp, List.any_cons]
      have := ih (i + 1)
      cases p x
      · exact this
      · rfl
  exact this l 0
/-- Search for the first. -/
theorem forGo_find {α R : Type} {f : α → Option Bool} {p : α → Bool} (hp : ∀ x, f x = some (p x)) (k : Int → Option R) (k2 : Option R) : ∀ (l : List α) (i : Nat), forGo (fun (i : Nat) x (s : Unit) nx => callK (f x) fun b => if b = true then k (i : Int) else nx s) (fun _ => k2) i l () = match l.findIdx? p with
    | some j => k ((i + j : Nat) : Int)
    | none => k2
  | [], i => rfl
  | x :: l, i => by
    have ih := forGo_find hp k k2 l (i + 1)
    rw [forGo_cons, hp, List.findIdx?_cons]
    cases p x
    · refine Eq.trans ih ?_
      cases l.findIdx? p with
      | none => rfl
      | some j => show k _ = k _; congr 2; show i + 1 + j = i + (j + 1); omega
    · show k _ = k _; congr 2

theorem forK_idx {α : Type} {f : α → Option Bool} {p : α → Bool} (hp : ∀ x, f x = some (p x)) (l : List α) :
    forK l (fun (i : Nat) x (s : Unit) nx => callK (f x) fun y => if y = true then some (i : Int) else nx s) () (fun _ => some (-1)) = some (idxP p l) := by
  have h := forGo_find hp (fun i => some i) (some (-1)) l 0
  unfold forK idxP
  refine Eq.trans h ?_
  cases l.findIdx? p with
  | none => rfl
  | some j => simp
/-- By an invariant: it comes to res. -/
theorem forK_rule {α σ R : Type} {l : List α} {f : Nat → α → σ → (σ → Option R) → Option R} {k : σ → Option R} {res : Option R} (J : Nat → σ → Prop)
    (round : ∀ (i : Nat) (hi : i < l.length) (s : σ), J i s → ∀ nx : σ → Option R, (∀ s', J (i + 1) s' → nx s' = res) → f i l[i] s nx = res) (last : ∀ s, J l.length s → k s = res) (s : σ) (h0 : J 0 s) : forK l f s k = res := by
  have go : ∀ (n i : Nat) (s : σ), i ≤ l.length → l.length - i = n → J i s → forGo f k i (l.drop i) s = res := by
    intro n
    induction n with
    | zero =>
      intro i s h1 h2 h3
      obtain rfl : i = l.length := by omega
      rw [List.drop_length]; exact last s h3
    | succ n ih =>
      intro i s h1 h2 h3
      rw [List.drop_eq_getElem_cons (by omega : i < l.length)]
      exact round i (by omega) s h3 _ fun s' h => ih (i + 1) s' (by omega) (by omega) h
  exact go l.length 0 s (by omega) (by omega) h0
theorem forK_ex {α σ R : Type} {l : List α} {f : Nat → α → σ → (σ → Option R) → Option R} {k : σ → Option R} {Q : R → Prop} (J : Nat → σ → Prop)
    (round : ∀ (i : Nat) (hi : i < l.length) (s : σ), J i s → ∀ nx : σ → Option R, (∀ s', J (i + 1) s' → ∃ r, nx s' = some r ∧ Q r) → ∃ r, f i l[i] s nx = some r ∧ Q r) (last : ∀ s, J l.length s → ∃ r, k s = some r ∧ Q r) (s : σ) (h0 : J 0 s) : ∃ r, forK l f s k = some r ∧ Q r := by
  have go : ∀ (n i : Nat) (s : σ), i ≤ l.length → l.length - i = n → J i s → ∃ r, forGo f k i (l.drop i) s = some r ∧ Q r := by
    intro n
    induction n with
    | zero =>
      intro i s h1 h2 h3
      obtain rfl : i = l.length := by omega
      rw [List.drop_length]; exact last s h3
    | succ n ih =>
      intro i s h1 h2 h3
      rw [List.drop_eq_getElem_cons (by omega : i < l.length)]
      exact round i (by omega) s h3 _ fun s' h => ih (i + 1) s' (by omega) (by omega) h
  exact go l.length 0 s (by omega) (by omega) h0
theorem forI_rule {σ R : Type} {n : Int} {f : Nat → σ → (σ → Option R) → Option R} {k : σ → Option R} {res : Option R} (J : Nat → σ → Prop)
    (round : ∀ (i : Nat) (hi : (i : Int) < n) (s : σ), J i s → ∀ nx : σ → Option R, (∀ s', J (i + 1) s' → nx s' = res) → f i s nx = res) (last : ∀ s, J n.toNat s → k s = res) (s : σ) (h0 : J 0 s) : forI n f s k = res :=
  forK_rule J (fun i hi s => round i (by rw [List.length_range] at hi; omega) s) (fun s h => last s (by rwa [List.length_range] at h)) s h0
theorem forI_ex {σ R : Type} {n : Int} {f : Nat → σ → (σ → Option R) → Option R} {k : σ → Option R} {Q : R → Prop} (J : Nat → σ → Prop)
    (round : ∀ (i : Nat) (hi : (i : Int) < n) (s : σ), J i s → ∀ nx : σ → Option R, (∀ s', J (i + 1) s' → ∃ r, nx s' = some r ∧ Q r) → ∃ r, f i s nx = some r ∧ Q r) (last : ∀ s, J n.toNat s → ∃ r, k s = some r ∧ Q r) (s : σ) (h0 : J 0 s) : ∃ r, forI n f s k = some r ∧ Q r :=
  forK_ex J (fun i hi s => round i (by rw [List.length_range] at hi; omega) s) (fun s h => last s (by rwa [List.length_range] at h)) s h0
theorem iterK_rule {σ R : Type} {f : σ → (σ → Option R) → Option R} {res : Option R} (J : Nat → σ → Prop)
    (round : ∀ (d : Nat) (s : σ), J d s → ∀ nx : σ → Option R, (∀ d' s', d' < d → J d' s' → nx s' = res) → f s nx = res) (d : Nat) (s : σ) (hd : d < NN) (h0 : J d s) : iterK f NN s = res := by
  generalize NN = n at *
  induction n generalizing d s with
  | zero => omega
  | succ n ih => exact round d s h0 _ fun d' s' h1 h2 => ih d' s' h2 (by omega)
theorem iterK_ex {σ R : Type} {f : σ → (σ → Option R) → Option R} {Q : R → Prop} (J : Nat → σ → Prop)
    (round : ∀ (d : Nat) (s : σ), J d s → ∀ nx : σ → Option R, (∀ d' s', d' < d → J d' s' → ∃ r, nx s' = some r ∧ Q r) → ∃ r, f s nx = some r ∧ Q r) (d : Nat) (s : σ) (hd : d < NN) (h0 : J d s) : ∃ r, iterK f NN s = some r ∧ Q r := by
  generalize NN = n at *
  induction n generalizing d s with
  | zero => omega
  | succ n ih => exact round d s h0 _ fun d' s' h1 h2 => ih d' s' h2 (by omega)
theorem forK_all {α R : Type} {l : List α} {f : Nat → α → Unit → (Unit → Option R) → Option R} {k : Unit → Option R} (p : α → Bool) (b : Option R) (h : ∀ i x nx, f i x () nx = if p x = true then nx () else b) : forK l f () k = if l.all p = true then k () else b := by
  unfold forK
  have : ∀ (l : List α) (i : Nat), forGo f k i l () = if l.all p = true then k () else b := by
    intro l
    induction l with
    | nil => intro i; rfl
    | cons x l ih =>
      intro i
      rw [forGo_cons, h, List.all_cons, ih (i + 1)]
      cases p x <;> simp
  exact this l 0
theorem forK_any2 {α R : Type} {l : List α} {f : Nat → α → Unit → (Unit → Option R) → Option R} {k : Unit → Option R} (p : α → Bool) (a : Option R) (h : ∀ i x nx, f i x () nx = if p x = true then a else nx ()) : forK l f () k = if l.any p = true then a else k () := by
  unfold forK
  have : ∀ (l : List α) (i : Nat), forGo f k i l () = if l.any p = true then a else k () := by
    intro l
    induction l with
    | nil => intro i; rfl
    | cons x l ih =>
      intro i
      rw [forGo_cons, h, List.any_cons, ih (i + 1)]
      cases p x <;> simp
  exact this l 0
/-- A walk over a list with its places. -/
def foldI {α σ : Type} (g : Nat → α → σ → σ) : Nat → List α → σ → σ
  | _, [], s => s
  | i, x :: l, s => foldI g (i + 1) l (g i x s)
/-- Under an invariant a loop is a walk. -/
theorem forK_fold {α σ R : Type} {l : List α} {f : Nat → α → σ → (σ → Option R) → Option R} {k : σ → Option R} (g : Nat → α → σ → σ) (J : Nat → σ → Prop)
    (h : ∀ (i : Nat) (hi : i < l.length) (s : σ) (nx : σ → Option R), J i s → f i l[i] s nx = nx (g i l[i] s) ∧ J (i + 1) (g i l[i] s)) (s : σ) (h0 : J 0 s) : forK l f s k = k (foldI g 0 l s) ∧ J l.length (foldI g 0 l s) := by
  have go : ∀ (n i : Nat) (s : σ), i ≤ l.length → l.length - i = n → J i s → forGo f k i (l.drop i) s = k (foldI g i (l.drop i) s) ∧ J l.length (foldI g i (l.drop i) s) := by
    intro n
    induction n with
    | zero =>
      intro i s h1 h2 h3
      obtain rfl : i = l.length := by omega
      rw [List.drop_length]; exact ⟨rfl, h3⟩
    | succ n ih =>
      intro i s h1 h2 h3
      have hlt : i < l.length := by omega
      rw [List.drop_eq_getElem_cons hlt, forGo_cons]
      obtain ⟨e, hJ⟩ := h i hlt s (forGo f k (i + 1) (l.drop (i + 1))) h3
      rw [e]
      exact ih (i + 1) _ (by omega) (by omega) hJ
  have := go l.length 0 s (by omega) (by omega) h0
  simpa [forK] using this

theorem forK_foldl {α σ R : Type} {l : List α} {f : Nat → α → σ → (σ → Option R) → Option R} {k : σ → Option R} {s : σ} (g : σ → α → σ) (h : ∀ i x s nx, f i x s nx = nx (g s x)) : forK l f s k = k (l.foldl g s) := by
  unfold forK
  have : ∀ (l : List α) (i : Nat) (s : σ), forGo f k i l s = k (l.foldl g s) := by
    intro l
    induction l with
    | nil => intro i s; rfl
    | cons x l ih => intro i s; rw [forGo_cons, h, ih]; rfl
  exact this l 0 s
/-- Each element turned in its place. -/
theorem forK_upd {α R : Type} {l : List α} {f : Nat → α → List α → (List α → Option R) → Option R} {k : List α → Option R} (g : α → α) (h : ∀ i x v nx, f i x v nx = getK v (i : Int) fun y => nx (v.set (Int.toNat (i : Int)) (g y))) : forK l f l k = k (l.map g) := by
  refine forK_rule (fun i v => v = (l.take i).map g ++ l.drop i) (fun i hi v hv nx hnx => ?_) (fun v hv => ?_) l (by simp)
  · subst hv
    have hlen : ((l.take i).map g).length = i := by simp; omega
    have hlt : i < ((l.take i).map g ++ l.drop i).length := by simp; omega
    rw [h, getK_lt hlt]
    have hget : ((l.take i).map g ++ l.drop i)[i] = l[i] := by
      have e : ((l.take i).map g ++ l.drop i)[i]? = some l[i] := by
        rw [List.getElem?_append_right (by omega), hlen, Nat.sub_self, List.getElem?_drop, Nat.add_zero, List.getElem?_eq_getElem hi]
      rw [List.getElem?_eq_getElem hlt] at e
      exact Option.some.inj e
    refine hnx _ ?_
    rw [hget, Int.toNat_natCast, List.set_append_right _ _ (by omega), hlen, Nat.sub_self, List.drop_eq_getElem_cons hi, List.set_cons_zero, List.take_succ_eq_append_getElem hi, List.map_append, List.append_assoc]
    rfl
  · subst hv; simp

/-- A row filled place by place. -/
theorem forK_fill {α R : Type} {n : Nat} {z : α} {f : Nat → α → List α → (List α → Option R) → Option R} {k : List α → Option R} (g : Nat → α)
    (h : ∀ i, i < n → ∀ x v nx, v.length = n → f i x v nx = nx (v.set i (g i))) : forK (List.replicate n z) f (List.replicate n z) k = k ((List.range n).map g) := by
  have hln : (List.replicate n z).length = n := List.length_replicate
  refine forK_rule (fun i v => v = ((List.range n).take i).map g ++ List.replicate (n - i) z ∧ i ≤ n) (fun i hi v hv nx hnx => ?_) (fun v hv => ?_) _ ⟨by simp, Nat.zero_le _⟩
  · obtain ⟨rfl, _⟩ := hv
    have hi : i < n := by rwa [hln] at hi
    have hlen : (((List.range n).take i).map g).length = i := by simp; omega
    rw [h i hi _ _ _ (by simp; omega)]
    refine hnx _ ⟨?_, by omega⟩
    have e : n - i = (n - (i + 1)) + 1 := by omega
    rw [List.set_append_right _ _ (by omega), hlen, Nat.sub_self, e, List.replicate_succ, List.set_cons_zero, List.take_succ_eq_append_getElem (by simpa using hi), List.map_append, List.append_assoc]
    simp
  · obtain ⟨rfl, _⟩ := hv
    rw [hln, Nat.sub_self, List.take_of_length_le (by simp), List.replicate_zero, List.append_nil]

/-! ### Strings and their bytes -/
theorem toList_data (s : ByteArray) : s.toList = s.data.toList := ByteArray.toList_eq s
theorem bytes_ext {a b : ByteArray} (h : a.data.toList = b.data.toList) : a = b := by
  cases a; cases b
  simpa using h
theorem str_eq (a b : ByteArray) : (a.toList == b.toList) = decide (a = b) := by
  rw [Bool.eq_iff_iff, beq_iff_eq, decide_eq_true_eq, toList_data, toList_data]
  exact ⟨bytes_ext, fun h => by rw [h]⟩
def bl (s : ByteArray) : List UInt8 := s.data.toList
theorem bl_len (s : ByteArray) : (bl s).length = s.size := by unfold bl; rw [Array.length_toList]; rfl
def ofL (l : List UInt8) : ByteArray := ⟨l.toArray⟩
theorem bl_ofL (l : List UInt8) : bl (ofL l) = l := rfl
theorem ofL_bl (s : ByteArray) : ofL (bl s) = s := bytes_ext rfl
theorem size_ofL (l : List UInt8) : (ofL l).size = l.length := by rw [← bl_len, bl_ofL]
theorem bytesOf_rU (l : List Int) : bytesOf (l.map rU) = ofL (l.map fun n => UInt8.ofNat n.toNat) := by
  unfold bytesOf
  rw [List.map_map]
  have e : (byteOf ∘ rU) = id := by funext n; rfl
  rw [e, List.map_id]
  have go : ∀ (l : List Int) (r : ByteArray), (l.foldl (fun r n => r.push (UInt8.ofNat n.toNat)) r).data.toList = r.data.toList ++ l.map fun n => UInt8.ofNat n.toNat := by
    intro l
    induction l with
    | nil => intro r; simp
    | cons n l ih => intro r; rw [List.foldl_cons, ih]; simp [ByteArray.push]
  refine bytes_ext ?_
  rw [go]
  simp [ofL]
theorem getB_lt {R : Type} {s : ByteArray} {n : Nat} (h : n < (bl s).length) (k : Int → Option R) : getB s (n : Int) k = k (((bl s)[n]).toNat : Int) := by
  unfold getB
  rw [if_pos (by omega), Int.toNat_natCast]
  have hs : n < s.size := by rwa [← bl_len]
  have e : s[n]? = some s[n] := by simp [hs]
  rw [e]
  rfl
theorem getB_in {R : Type} {s : ByteArray} {i : Int} (h0 : 0 ≤ i) (h : i < s.size) (k : Int → Option R) : getB s i k = k (((bl s)[i.toNat]'(by rw [bl_len]; omega)).toNat : Int) := by
  obtain ⟨n, rfl⟩ := Int.eq_ofNat_of_zero_le h0
  exact getB_lt (by rw [bl_len]; omega) k
theorem ofInt_u8 (a : UInt8) : BitVec.ofInt IntKind.u8.bits (a.toNat : Int) = a.toBitVec := by
  apply BitVec.eq_of_toNat_eq
  show (BitVec.ofInt 8 (a.toNat : Int)).toNat = a.toNat
  rw [BitVec.toNat_ofInt]
  have := a.toNat_lt
  omega
theorem u8_wrap (n : Int) (h0 : 0 ≤ n) (h1 : n ≤ 255) : IntKind.u8.wrap n = n := by unfold IntKind.wrap; simp [IntKind.signed, IntKind.bits]; omega
theorem xor_u8 (a b : UInt8) : xorK .u8 (a.toNat : Int) (b.toNat : Int) = ((a ^^^ b).toNat : Int) := by
  have e : xorK .u8 (a.toNat : Int) (b.toNat : Int) = IntKind.u8.wrap ((a ^^^ b).toNat : Int) := by
    unfold xorK
    rw [ofInt_u8, ofInt_u8]
    rfl
  rw [e]
  have := (a ^^^ b).toNat_lt
  exact u8_wrap _ (by omega) (by omega)

end Go.Proofs.YtjnhclnnobejgaaE
