/- The net's small functions: what each call does. Conditions: what each theorem's hypotheses say of the memory that it is handed. -/
import Derived.Test.YtelpdngfbddflaaB1
namespace Go.Proofs.Ytelpdngfbddflaa
open Go.RowKit
set_option linter.unusedVariables false
set_option linter.unusedSimpArgs false

theorem own_setCell {w : World} {base : Nat} {e : TypeId} {size n : Nat} {v : Value} {xs : List Value} (h : w.ownsRow base e size v n xs) {p : Addr} (hne : p.block < base) (u : Value) : (w.setCell p u).ownsRow base e size v n xs :=
  ownsRow_setCell_below h hne u

set_option maxRecDepth 20000 in
set_option maxHeartbeats 400000 in
theorem copied_any (f t : Int) (bs : List UInt8) (v : Value) (w : World) (hb : Kp (bs.length ≤ 140737488355328)) (h : Rd w 1 v bs.length (u8s bs)) :
    Calls Try.prog 58 #[.agg #[.int .i64 f, .int .i64 t, v]] w fun e w' => ∃ A' c', e = .returned (.agg #[.int .i64 f, .int .i64 t, .slice A' bs.length c']) ∧ w'.ownsRow w.heap.size 5 1 (.slice A' bs.length c') bs.length (u8s bs) ∧ Below w.heap.size w w' := by
  have H := Kp.mk h
  obtain ⟨A, c, hv, hnc, hl, hc⟩ := h
  clear hl hc
  obtain ⟨n, hn⟩ : ∃ n, n = bs.length := ⟨_, rfl⟩
  rw [← hn] at hv hnc
  have HN := Kp.mk hn
  subst hv
  clear hn
  go_enter Try.func58, Try.ntmps58
  go_wp2_with (go_at_call 55; refine (clone_any bs _ _ hb ?_).mono ?_)
  · rw [← HN.out]
    have := H.out
    rw [← HN.out] at this
    exact this.below (((Below.refl _ _).alloc (Nat.le_refl _) _).alloc (by simp) _)
  · rintro e w1 ⟨A1, c1, rfl, ho, hbl⟩
    have hsz : w.heap.size + 2 ≤ w1.heap.size := by have := hbl.size; simpa using this
    obtain ⟨a0, a1, a2, a3, a4, a5⟩ := blk3 (bel_at (old_at (new_at w _) _) hbl)
    obtain ⟨b0, b1, b2, b3, b4, b5⟩ := blk3 (bel_at (new_at (w.alloc _) _) hbl)
    simp only [World.size_alloc] at b0 b1 b2 b3 b4 b5
    have HO := Kp.mk ho
    have HB := Kp.mk hbl
    clear ho hbl
    go_wp2
    refine bodyPost_ret (v := .agg #[.int .i64 f, .int .i64 t, .slice A1 bs.length c1]) (by simp [results, Try.results58, go_sem, b0, b1, b2]) rfl ⟨A1, c1, rfl, ?_, ?_⟩
    · have ho := HO.out
      simp only [World.size_alloc] at ho
      exact own_low (own_setCell (own_setCell (own_setCell (own_setCell ho (by simp <;> omega) _) (by simp <;> omega) _) (by simp <;> omega) _) (by simp <;> omega) _) (by omega)
    · have hb := HB.out
      have h0 : Below w.heap.size w w1 := (((Below.refl _ _).alloc (Nat.le_refl _) _).alloc (by simp) _).trans (hb.mono (by simp; omega))
      exact (((h0.setCell (by simp) _).setCell (by simp) _).setCell (by simp) _).setCell (by simp) _
end Go.Proofs.Ytelpdngfbddflaa
