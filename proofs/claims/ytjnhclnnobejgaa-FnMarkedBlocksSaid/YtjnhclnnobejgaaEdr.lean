/- The engine: what runs never takes back a draw; conditions: none. -/
import GoSem.Core.Sem
namespace Go.Proofs.YtjnhclnnobejgaaE

theorem viewStore_drawn {p : Program} {w w' : World} {a : Addr} {u : TypeId} {k : Addr} {v : Value} {b : Bool} {l : List Addr} (h : w.viewStore p a u k v b = .ok (w', l)) : w'.drawn = w.drawn := by
  unfold World.viewStore at h
  simp only [bind, Except.bind, pure, Except.pure] at h
  repeat' (split at h)
  all_goals first
    | (simp only [Except.ok.injEq, Prod.mk.injEq] at h; obtain ⟨rfl, _⟩ := h; rfl)
    | (simp [throw, throwThe, MonadExceptOf.throw] at h)
theorem farStore_drawn {p : Program} {w w' : World} {a : Addr} {v : Value} {b : Bool} {l : List Addr} (h : w.farStore p a v b = .ok (w', l)) : w'.drawn = w.drawn := by
  unfold World.farStore at h
  split at h
  · split at h
    · rename_i r hr
      obtain ⟨w2, l2⟩ := r
      injection h with h
      injection h with h1 h2
      subst h1
      exact viewStore_drawn hr
    · simp at h
  · simp at h
theorem ask_drawn {α : Type} : ∀ (x : Ask α) (w : World), w.drawn ≤ (w.ask x).2.drawn
  | .done a, w => Nat.le_refl _
  | .ask what range k, w => by
    unfold World.ask
    dsimp only
    split
    · exact ask_drawn (k 0) w
    · exact Nat.le_trans (Nat.le_succ _) (ask_drawn (k _) { w with drawn := w.drawn + 1 })
theorem sys_drawn (w : World) (c : Sys) : w.drawn ≤ (w.sys c).2.drawn := by
  unfold World.sys
  have h := ask_drawn (Kernel.perform c w.os) w
  split
  · exact Nat.le_refl _
  · rename_i r os w2 hw
    rw [hw] at h
    exact h
theorem freeze_drawn (w : World) (a : Addr) (n : Nat) : (w.freeze a n).drawn = w.drawn := by unfold World.freeze; split <;> rfl
theorem run_drawn {α : Type} {p : Program} : ∀ (s : Sem α) {w w' : World} {a : α}, s.run p w = .ok a w' → w.drawn ≤ w'.drawn := by
  intro s
  induction s with
  | pure x => intro w w' a h; simp only [Sem.run, Result.ok.injEq] at h; rw [h.2]; exact Nat.le_refl _
  | load m x k ih =>
    intro w w' a h
    simp only [Sem.run] at h
    split at h
    · exact ih _ h
    · split at h
      · exact ih _ h
      · simp at h
  | store m x v k ih =>
    intro w w' a h
    rw [Sem.run.eq_def] at h
    split at h
    all_goals rename_i he
    all_goals first | (cases he; done) | skip
    · cases h
    · cases h
    · cases he
      split at h
      · split at h
        · cases h
        · have h2 := ih h
          exact h2
      · split at h
        · rename_i w3 l hf
          have := ih h
          rwa [farStore_drawn hf] at this
        · cases h
  | new o k ih => intro w w' a h; simp only [Sem.run] at h; have h2 := ih _ h; exact h2
  | shape r k ih => intro w w' a h; simp only [Sem.run] at h; exact ih _ h
  | freeze x n k ih => intro w w' a h; simp only [Sem.run] at h; have := ih h; rwa [freeze_drawn] at this
  | frozen x k ih => intro w w' a h; simp only [Sem.run] at h; exact ih _ h
  | getObj r k ih =>
    intro w w' a h
    simp only [Sem.run] at h
    split at h
    · simp at h
    · exact ih _ h
    · simp at h
  | setObj r o k ih =>
    intro w w' a h
    simp only [Sem.run] at h
    split at h
    · simp at h
    · have h2 := ih h
      exact h2
    · simp at h
  | choose q k ih =>
    intro w w' a h
    simp only [Sem.run] at h
    split at h
    · exact ih _ h
    · have h2 := ih _ h
      exact Nat.le_trans (Nat.le_succ _) h2
  | sys c k ih => intro w w' a h; simp only [Sem.run] at h; exact Nat.le_trans (sys_drawn w c) (ih _ h)
  | program k ih => intro w w' a h; simp only [Sem.run] at h; exact ih _ h
  | mark m k ih => intro w w' a h; simp only [Sem.run] at h; exact ih h
  | halt x => intro w w' a h; simp [Sem.run] at h

end Go.Proofs.YtjnhclnnobejgaaE
