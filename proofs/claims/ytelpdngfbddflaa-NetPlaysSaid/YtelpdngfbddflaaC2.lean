/- The walk through NetPlays. Conditions: the calls' list is read as cells in memory. -/
import Derived.Test.YtelpdngfbddflaaC15
import Derived.Deep.DeepCutAuto
import Derived.Deep.CutBlock
namespace Go.Proofs.Ytelpdngfbddflaa
open Go.RowKit
set_option linter.unusedVariables false
set_option linter.unusedSimpArgs false

structure Ask where
  kind : Int
  f : Int
  t : Int
  n : Int
  s : List UInt8
def acells (x : Ask) : List Value := [.int .i64 x.kind, .int .i64 x.f, .int .i64 x.t, .int .i64 x.n, .string (strOf x.s)]

/-- The list of calls, as it came in. -/
def AskRow (w : World) (b off len : Nat) : Prop :=
  ∀ i, i < len → ∃ x : Ask, -9223372036854775808 ≤ x.n ∧ x.n ≤ 9223372036854775807 ∧ x.s.length ≤ 140737488355328 ∧
    w.cell? ⟨b, off + i * 5, none⟩ = some (.int .i64 x.kind) ∧ w.cell? ⟨b, off + i * 5 + 1, none⟩ = some (.int .i64 x.f) ∧ w.cell? ⟨b, off + i * 5 + 2, none⟩ = some (.int .i64 x.t) ∧
    w.cell? ⟨b, off + i * 5 + 3, none⟩ = some (.int .i64 x.n) ∧ w.cell? ⟨b, off + i * 5 + 4, none⟩ = some (.string (strOf x.s))

set_option maxRecDepth 20000 in
set_option maxHeartbeats 400000 in
theorem plays_bad (nodes : Int) (v : Value) (w : World) (h : nodes < 1 ∨ 5 < nodes) :
    Calls Try.prog 3 #[.int .i64 nodes, v] w fun e w' => e = .returned (.bool true) ∧ Below w.heap.size w w' := by
  rcases h with h | h
  · have hh : nodes < 1 ∨ 5 < nodes := .inl h
    have HH := Kp.mk hh
    clear hh
    go_enter Try.func3, Try.ntmps3
    go_wp2_with (first
      | (go_at_call 11; go_loud (refine (new_bad nodes _ HH.out).mono ?_); go_loud (rintro e w1 ⟨rfl, rfl⟩))
      | (go_at_call 12; go_loud (refine (known5 _).mono ?_); go_loud (rintro e w1 ⟨rfl, r⟩); have HB := Kp.mk r; clear r))
    go_ret
    exact ⟨rfl, HB.out⟩
  · have hh : nodes < 1 ∨ 5 < nodes := .inr h
    have HH := Kp.mk hh
    have h' : ¬ nodes < 1 := by omega
    clear hh
    go_enter Try.func3, Try.ntmps3
    go_wp2_with (first
      | (go_at_call 11; go_loud (refine (new_bad nodes _ HH.out).mono ?_); go_loud (rintro e w1 ⟨rfl, rfl⟩))
      | (go_at_call 12; go_loud (refine (known5 _).mono ?_); go_loud (rintro e w1 ⟨rfl, r⟩); have HB := Kp.mk r; clear r))
    go_ret
    exact ⟨rfl, HB.out⟩

/-- What the loop keeps. -/
def PlayInv (w : World) (nodes : Int) (k : Nat) (wr : World) (g1 g2 : Nat) (L : List M) (sent : Nat) : Prop :=
  NetAt w.heap.size wr g1 nodes L sent ∧ RefAt w.heap.size wr g2 nodes L sent ∧ Below w.heap.size w wr ∧ L.length ≤ k ∧ sent ≤ k ∧ ∀ m ∈ L, m.b.length ≤ 140737488355328

theorem inv_of {w wx : World} {nodes : Int} {k g1 g2 sent' : Nat} {L' : List M} (h1 : NetAt w.heap.size wx g1 nodes L' sent') (h2 : RefAt w.heap.size wx g2 nodes L' sent') (h3 : Below w.heap.size w wx)
    (h4 : L'.length ≤ k + 1) (h5 : sent' ≤ k + 1) (h6 : ∀ m ∈ L', m.b.length ≤ 140737488355328) : ∃ L' sent', PlayInv w nodes (k + 1) wx g1 g2 L' sent' := ⟨L', sent', h1, h2, h3, h4, h5, h6⟩
theorem sendL_le (nodes : Int) (l : List M) (m : M) : (sendL nodes l m).length ≤ l.length + 1 := by unfold sendL; split <;> simp
theorem sendS_le (nodes f t : Int) (sent : Nat) : sendS nodes f t sent ≤ sent + 1 := by unfold sendS; split <;> omega
theorem sendL_mem {nodes : Int} {l : List M} {m x : M} (h : x ∈ sendL nodes l m) : x ∈ l ∨ x = m := by
  unfold sendL at h
  split at h
  · exact .inl h
  · rcases List.mem_append.1 h with h | h
    · exact .inl h
    · exact .inr (List.mem_singleton.1 h)
theorem lessL_le (l : List M) (k : Int) : (lessL l k).length ≤ l.length := List.length_eraseIdx_le _ _
theorem lessL_mem {l : List M} {k : Int} {x : M} (h : x ∈ lessL l k) : x ∈ l := List.mem_of_mem_eraseIdx h
theorem moreL_le (l : List M) (k : Int) : (moreL l k).length ≤ l.length + 1 := by unfold moreL; split <;> simp
theorem moreL_mem {l : List M} {k : Int} {x : M} (h : x ∈ moreL l k) : x ∈ l := by
  unfold moreL at h
  split at h
  · rcases List.mem_append.1 h with h | h
    · exact h
    · rw [List.mem_singleton.1 h]; exact msgAt_mem ‹_›
  · exact h

set_option maxRecDepth 20000 in
set_option maxHeartbeats 8000000 in
theorem plays_ok (nodes : Int) (A : Option Addr) (b off len cap : Nat) (w : World) (h1 : 1 ≤ nodes) (h2 : nodes ≤ 5) (hAA : Kp (0 < len → A = some ⟨b, off, none⟩)) (hA : AskRow w b off len) :
    Calls Try.prog 3 #[.int .i64 nodes, .slice A len cap] w fun e w' => e = .returned (.bool true) ∧ Below w.heap.size w w' := by
  obtain ⟨g1, hg1⟩ : ∃ g1, g1 = w.heap.size := ⟨_, rfl⟩
  have HG1 := Kp.mk hg1
  have HA := Kp.mk hA
  clear hA hg1
  go_enter Try.func3, Try.ntmps3
  go_wp2_with (first
    | (go_at_call 11; go_loud (refine (new_ok' nodes _ h1 h2).mono ?_); go_loud (rintro e w1 ⟨rfl, r1, r2⟩); rw [← HG1.out] at r1 ⊢; have HN0 := Kp.mk r1; have HB0 := Kp.mk r2; clear r1 r2))
  obtain ⟨g2, hg2⟩ : ∃ g2, g2 = w1.heap.size := ⟨_, rfl⟩
  have hP : PlayInv w nodes 0 (w1.alloc (Obj.cells #[.int .i64 nodes, .slice none 0 0, .int .i64 0] 31)) g1 g2 [] 0 := by
    refine ⟨?_, ?_, ?_, Nat.le_refl _, Nat.le_refl _, by simp⟩
    · rw [← HG1.out]
      exact HN0.out.fr ((Fr.refl 0 [] w1).alloc _) (by simp) (by simp) (by simp)
    · refine ⟨.slice none 0 0, ?_, ?_, rfl, .inl ⟨rfl, rfl⟩⟩
      · rw [hg2]; exact new_at w1 _
      · rw [hg2]; exact HB0.out.size
    · exact HB0.out.alloc HB0.out.size _
  rw [← hg2]
  have HP := Kp.mk hP
  have HG2 := Kp.mk hg2
  clear hP hg2
  generalize w1.alloc (Obj.cells #[.int .i64 nodes, .slice none 0 0, .int .i64 0] 31) = w2 at HP ⊢
  go_loopw [8] (fun i wr => ∃ k : Nat, k ≤ len ∧ k ≤ 120 ∧ i = .int .i64 k ∧ ∃ L sent, PlayInv w nodes k wr g1 g2 L sent) (fun i _ => 120 - (intOf i).toNat)
  case atStart => exact ⟨0, Nat.zero_le _, by omega, rfl, [], 0, HP.out⟩
  case round =>
    obtain ⟨k, hk1, hk2, rfl, L, sent, hI⟩ := hrel
    by_cases hlt : k < len ∧ k < 120
    · obtain ⟨hlt1, hlt2⟩ := hlt
      obtain rfl := hAA.out (by omega)
      obtain ⟨x, hx1, hx2, hx3, y0, y1, y2, y3, y4⟩ := HA.out k hlt1
      have hbel := hI.2.2.1
      have hbl := World.block_lt_of_cell? w _ y0
      have y0 := (hbel.cell (p := ⟨b, off + k * 5, none⟩) hbl).trans y0
      have y1 := (hbel.cell (p := ⟨b, off + k * 5 + 1, none⟩) hbl).trans y1
      have y2 := (hbel.cell (p := ⟨b, off + k * 5 + 2, none⟩) hbl).trans y2
      have y3 := (hbel.cell (p := ⟨b, off + k * 5 + 3, none⟩) hbl).trans y3
      have y4 := (hbel.cell (p := ⟨b, off + k * 5 + 4, none⟩) hbl).trans y4
      have HI := Kp.mk hI
      have HX := Kp.mk (And.intro hx1 (And.intro hx2 hx3))
      clear hbel hI hx1 hx2 hx3
      go_upto_block 2 with fail
      -- the world under a name
      obtain ⟨xb, hxb⟩ : ∃ xb, xb = wr.heap.size := ⟨_, rfl⟩
      have hW : PlayInv w nodes k (wr.alloc (.cells #[.int .i64 x.kind, .int .i64 x.f, .int .i64 x.t, .int .i64 x.n, .string (strOf x.s)] 33)) g1 g2 L sent := by
        obtain ⟨p1, p2, p3, p4⟩ := HI.out
        exact ⟨p1.fr ((Fr.refl 0 [] wr).alloc _) (by simp) (by simp) (by simp), p2.fr ((Fr.refl 0 [] wr).alloc _) (by simp) (by simp), p3.alloc p3.size _, p4⟩
      have hXB := new_at wr (.cells #[.int .i64 x.kind, .int .i64 x.f, .int .i64 x.t, .int .i64 x.n, .string (strOf x.s)] 33)
      rw [← hxb] at hXB ⊢
      generalize wr.alloc (.cells #[.int .i64 x.kind, .int .i64 x.f, .int .i64 x.t, .int .i64 x.n, .string (strOf x.s)] 33) = W at hW hXB ⊢
      have HW := Kp.mk hW
      have HXB := Kp.mk hXB
      clear y0 y1 y2 y3 y4 hxb hW hXB HI
      go_cut [9, 10, 11, 12, 13] (fun _ _ _ _ _ wx => ∃ L' sent', PlayInv w nodes (k + 1) wx g1 g2 L' sent')
      case first =>
        obtain ⟨z0, z1, z2, z3, z4, -, -, -, -, -⟩ := blk5 HXB.out
        have hsz : w.heap.size ≤ W.heap.size := HW.out.2.2.1.size
        by_cases hk1 : (x.kind == 1) = true
        · go_wp2_with fail
          have HN : Kp (NetAt w.heap.size W.drew g1 nodes L sent) := ⟨HW.out.1.fr ((Fr.refl 0 [] W).drew) (by simp) (by simp) (by simp)⟩
          have HR : Kp (RefAt w.heap.size W.drew g2 nodes L sent) := ⟨HW.out.2.1.fr ((Fr.refl 0 [] W).drew) (by simp) (by simp)⟩
          have HBx : Kp (W.drew.heap[xb]? = some (.cells #[.int .i64 x.kind, .int .i64 x.f, .int .i64 x.t, .int .i64 x.n, .string (strOf x.s)] 33 (0, 0))) := ⟨HXB.out⟩
          have HF : Kp (Below w.heap.size w W.drew) := ⟨HW.out.2.2.1.drew⟩
          have HL : Kp (L.length < 512 ∧ sent < 1000000 ∧ x.s.length ≤ 140737488355328) := ⟨by have := HW.out; have h5 := HX.out; obtain ⟨_, _, _, h1, h2, _⟩ := this; omega⟩
          refine wp_region_noPanic ?_
          refine wp_region_held_drew (S := (fun w' => w'.cell? ⟨xb, 1, none⟩ = some (.int .i64 x.f) ∧ w'.cell? ⟨xb, 2, none⟩ = some (.int .i64 x.t) ∧ w'.cell? ⟨xb, 4, none⟩ = some (.string (strOf x.s)))) (by kernel_rfl) ⟨z1, z2, z4⟩ (fun hHeld => ?_)
          refine wpAnyH_take (i := 0) (v := ?v0) rfl (by kernel_rfl) (by kernel_rfl) (by kernel_rfl) (fun _ _ _ h => h) (Or.inl ⟨by rfl, ?y0⟩) (by assumption) ?r0
          case y0 => (intro w' hSw; (try dsimp only at hSw); go_simp); try with_reducible rfl
          try simp only [Act.put, List.setIfInBounds_toArray, List.set_cons_zero, List.set_cons_succ]
          refine wpAnyH_take (i := 1) (v := ?v1) rfl (by kernel_rfl) (by kernel_rfl) (by kernel_rfl) (fun _ _ _ h => h) (Or.inl ⟨by rfl, ?y1⟩) (by assumption) ?r1
          case y1 => (intro w' hSw; (try dsimp only at hSw); go_simp); try with_reducible rfl
          try simp only [Act.put, List.setIfInBounds_toArray, List.set_cons_zero, List.set_cons_succ]
          refine wpAnyH_take (i := 2) (v := ?v2) rfl (by kernel_rfl) (by kernel_rfl) (by kernel_rfl) (fun _ _ _ h => h) (Or.inl ⟨by rfl, ?y2⟩) (by assumption) ?r2
          case y2 => (intro w' hSw; (try dsimp only at hSw); go_simp); try with_reducible rfl
          try simp only [Act.put, List.setIfInBounds_toArray, List.set_cons_zero, List.set_cons_succ]
          refine wpAnyH_take (i := 3) (v := ?v3) rfl (by kernel_rfl) (by kernel_rfl) (by kernel_rfl) (fun _ _ _ h => h) (Or.inl ⟨by rfl, ?y3⟩) (by assumption) ?r3
          case y3 => (intro w' hSw; (try dsimp only at hSw); go_simp); try with_reducible rfl
          try simp only [Act.put, List.setIfInBounds_toArray, List.set_cons_zero, List.set_cons_succ]
          refine wpAnyH_take (i := 4) (v := ?v4) rfl (by kernel_rfl) (by kernel_rfl) (by kernel_rfl) (fun _ _ _ h => h) (Or.inl ⟨by rfl, ?y4⟩) (by assumption) ?r4
          case y4 => (intro w' hSw; (try dsimp only at hSw); go_simp); try with_reducible rfl
          try simp only [Act.put, List.setIfInBounds_toArray, List.set_cons_zero, List.set_cons_succ]
          refine wpAnyH_take (i := 5) (v := ?v5) rfl (by kernel_rfl) (by kernel_rfl) (by kernel_rfl) (fun _ _ _ h => h) (Or.inl ⟨by rfl, ?y5⟩) (by assumption) ?r5
          case y5 => (intro w' hSw; (try dsimp only at hSw); go_simp); try with_reducible rfl
          try simp only [Act.put, List.setIfInBounds_toArray, List.set_cons_zero, List.set_cons_succ]
          refine wpAnyH_take (i := 6) (v := ?v6) rfl (by kernel_rfl) (by kernel_rfl) (by kernel_rfl) (fun _ _ _ h => h) (Or.inl ⟨by rfl, ?y6⟩) (by assumption) ?r6
          case y6 => (intro w' hSw; (try dsimp only at hSw); go_simp); try with_reducible rfl
          try simp only [Act.put, List.setIfInBounds_toArray, List.set_cons_zero, List.set_cons_succ]
          refine wpAnyH_take (i := 9) (v := ?v9) rfl (by kernel_rfl) (by kernel_rfl) (by kernel_rfl) (fun _ _ _ h => h) (Or.inl ⟨by rfl, ?y9⟩) (by assumption) ?r9
          case y9 => (intro w' hSw; (try dsimp only at hSw); go_simp); try with_reducible rfl
          try simp only [Act.put, List.setIfInBounds_toArray, List.set_cons_zero, List.set_cons_succ]
          refine wpAnyH_take (i := 10) (v := ?v10) rfl (by kernel_rfl) (by kernel_rfl) (by kernel_rfl) (fun _ _ _ h => h) (Or.inl ⟨by rfl, ?y10⟩) (by assumption) ?r10
          case y10 => (intro w' hSw; (try dsimp only at hSw); go_simp); try with_reducible rfl
          try simp only [Act.put, List.setIfInBounds_toArray, List.set_cons_zero, List.set_cons_succ]
          refine wpAnyH_take (i := 11) (v := ?v11) rfl (by kernel_rfl) (by kernel_rfl) (by kernel_rfl) (fun _ _ _ h => h) (Or.inl ⟨by rfl, ?y11⟩) (by assumption) ?r11
          case y11 => (intro w' hSw; (try dsimp only at hSw); go_simp); try with_reducible rfl
          try simp only [Act.put, List.setIfInBounds_toArray, List.set_cons_zero, List.set_cons_succ]
          refine wpAnyH_take (i := 12) (v := ?v12) rfl (by kernel_rfl) (by kernel_rfl) (by kernel_rfl) (fun _ _ _ h => h) (Or.inl ⟨by rfl, ?y12⟩) (by assumption) ?r12
          case y12 => (intro w' hSw; (try dsimp only at hSw); go_simp); try with_reducible rfl
          try simp only [Act.put, List.setIfInBounds_toArray, List.set_cons_zero, List.set_cons_succ]
          refine wpAnyH_take (i := 13) (v := ?v13) rfl (by kernel_rfl) (by kernel_rfl) (by kernel_rfl) (fun _ _ _ h => h) (Or.inl ⟨by rfl, ?y13⟩) (by assumption) ?r13
          case y13 => (intro w' hSw; (try dsimp only at hSw); go_simp); try with_reducible rfl
          try simp only [Act.put, List.setIfInBounds_toArray, List.set_cons_zero, List.set_cons_succ]
          refine wpAnyH_take (i := 14) (v := ?v14) rfl (by kernel_rfl) (by kernel_rfl) (by kernel_rfl) (fun _ _ _ h => h) (Or.inl ⟨by rfl, ?y14⟩) (by assumption) ?r14
          case y14 => (intro w' hSw; (try dsimp only at hSw); go_simp); try with_reducible rfl
          try simp only [Act.put, List.setIfInBounds_toArray, List.set_cons_zero, List.set_cons_succ]
          refine wpAnyH_take (i := 15) (v := ?v15) rfl (by kernel_rfl) (by kernel_rfl) (by kernel_rfl) (fun _ _ _ h => h) (Or.inl ⟨by rfl, ?y15⟩) (by assumption) ?r15
          case y15 => (intro w' hSw; (try dsimp only at hSw); go_simp); try with_reducible rfl
          try simp only [Act.put, List.setIfInBounds_toArray, List.set_cons_zero, List.set_cons_succ]
          refine wpAnyH_ready (rs := [7]) (by kernel_rfl) (by simp) ?_
          refine AllReadyH.cons rfl (fun K hK => ?_) AllReadyH.nil
          go_simp
          refine upon_bytes x.s ?_
          intro A1 c1 w1 hr1 hb1
          replace HN := Kp.mk (HN.out.fr (Fr.of_below (base := 0) (T := []) hb1) (by simp) (by simp) (by simp))
          replace HR := Kp.mk (HR.out.fr (Fr.of_below (base := 0) (T := []) hb1) (by simp) (by simp))
          replace HBx := Kp.mk (bel_at HBx.out hb1)
          replace HF := Kp.mk (HF.out.trans (hb1.mono HF.out.size))
          have HRd := Kp.mk hr1
          obtain ⟨q0, q1, q2, q3, q4, -, -, -, -, -⟩ := blk5 HBx.out
          clear hr1 hb1
          go_simp
          refine hK.out _ _ ⟨q1, q2, q4⟩ (fun hHeld => ?_)
          clear hK K
          try simp only [Act.put, List.setIfInBounds_toArray, List.set_cons_zero, List.set_cons_succ]
          refine wpAnyH_ready (rs := [8]) (by kernel_rfl) (by simp) ?_
          refine AllReadyH.cons rfl (fun K hK => ?_) AllReadyH.nil
          go_simp
          refine (send_any w.heap.size g1 nodes x.f x.t sent L x.s _ _ HN.out HF.out.size HL.out.1 HL.out.2.1 ⟨HL.out.2.2⟩ HRd.out).mono ?_
          rintro e w3 ⟨rfl, r1, r2⟩
          have hsz3 := HF.out.size
          replace HN := Kp.mk r1
          replace HR := Kp.mk (HR.out.fr r2 (by simp) (by simp))
          replace HBx := Kp.mk (r2.blk HBx.out (by simp))
          replace HF := Kp.mk (HF.out.trans (r2.below hsz3))
          obtain ⟨q0, q1, q2, q3, q4, -, -, -, -, -⟩ := blk5 HBx.out
          clear r1 r2
          refine hK.out _ _ ⟨q1, q2, q4⟩ (fun hHeld => ?_)
          clear hK K
          try simp only [Act.put, List.setIfInBounds_toArray, List.set_cons_zero, List.set_cons_succ]
          refine wpAnyH_ready (rs := [16]) (by kernel_rfl) (by simp) ?_
          refine AllReadyH.cons rfl (fun K hK => ?_) AllReadyH.nil
          go_simp
          refine (send2_any w.heap.size g2 nodes x.f x.t sent L x.s _ HR.out HF.out.size HL.out.1 HL.out.2.1).mono ?_
          rintro e w4 ⟨rfl, r1, r2⟩
          have hsz4 := HF.out.size
          replace HR := Kp.mk r1
          replace HN := Kp.mk (HN.out.fr r2 (by simp) (by simp) (by simp))
          replace HBx := Kp.mk (r2.blk HBx.out (by simp))
          replace HF := Kp.mk (HF.out.trans (r2.below hsz4))
          obtain ⟨q0, q1, q2, q3, q4, -, -, -, -, -⟩ := blk5 HBx.out
          clear r1 r2
          refine hK.out _ _ ⟨q1, q2, q4⟩ (fun hHeld => ?_)
          clear hK K
          try simp only [Act.put, List.setIfInBounds_toArray, List.set_cons_zero, List.set_cons_succ]
          refine wpAnyH_ready (rs := [17]) (by kernel_rfl) (by simp) ?_
          refine AllReadyH.cons rfl (fun K hK => ?_) AllReadyH.nil
          go_simp
          refine hK.out _ _ ⟨q1, q2, q4⟩ (fun hHeld => ?_)
          clear hK K
          try simp only [Act.put, List.setIfInBounds_toArray, List.set_cons_zero, List.set_cons_succ]
          refine wpAnyH_done (by kernel_rfl) (NoPanic.normal ?_) _
          go_wp2_with fail
          go_meet
          have hw4 := HW.out.2.2.2
          exact inv_of (k := k) HN.out HR.out HF.out (Nat.le_trans (sendL_le _ _ _) (by omega)) (Nat.le_trans (sendS_le _ _ _ _) (by omega)) (fun m hm => (sendL_mem hm).elim (fun h => hw4.2.2 m h) (fun h => by rw [h]; exact HX.out.2.2))
        · by_cases hk2 : (x.kind == 2) = true
          · have hk1' : (x.kind == 1) = false := by revert hk1; cases (x.kind == 1) <;> simp
            clear hk1
            have HN : Kp (NetAt w.heap.size W g1 nodes L sent) := ⟨HW.out.1⟩
            have HR : Kp (RefAt w.heap.size W g2 nodes L sent) := ⟨HW.out.2.1⟩
            have HF : Kp (Below w.heap.size w W) := ⟨HW.out.2.2.1⟩
            have HL : Kp (L.length < 512 ∧ L.length ≤ 1000) := ⟨by have := HW.out; obtain ⟨_, _, _, h1, h2, _⟩ := this; omega⟩
            have HK : Kp (∀ m ∈ L, m.b.length ≤ 140737488355328) := ⟨HW.out.2.2.2.2.2⟩
            go_wp2_with (first
              | (go_at_call 15; go_loud (refine (take_any w.heap.size g1 nodes sent L x.n _ HN.out HF.out.size HL.out.2 HX.out.1 HX.out.2.1 HK).mono ?_); go_loud (rintro e w3 ⟨A3, c3, rfl, r0, r1, r2⟩);
                  have hR3 := HR.out.fr r2 (by simp) (by simp); have hX3 := r2.blk HXB.out (by simp); have hF3 := HF.out.trans (r2.below HF.out.size);
                  have HR3 : Kp (∀ o, RefAt w.heap.size (w3.alloc o) g2 nodes L sent) := ⟨fun o => hR3.fr ((Fr.refl 0 [] w3).alloc o) (by simp) (by simp)⟩;
                  have HN3 : Kp (∀ o, NetAt w.heap.size (w3.alloc o) g1 nodes (lessL L x.n) sent) := ⟨fun o => r1.fr ((Fr.refl 0 [] w3).alloc o) (by simp) (by simp) (by simp)⟩;
                  have HF3 : Kp (∀ o, Below w.heap.size w (w3.alloc o)) := ⟨fun o => hF3.alloc hF3.size o⟩;
                  have HO3 := Kp.mk r0; have HX3 := Kp.mk hX3;
                  have q3 := fun o => (blk5 (old_at hX3 o)).2.2.2.1;
                  clear r0 r1 r2 hR3 hX3 hF3)
              | (go_at_call 16; go_loud (refine (take2_any w.heap.size g2 nodes sent L x.n _ (HR3.out _) (HF3.out _).size HL.out.2 HX.out.1 HX.out.2.1).mono ?_); go_loud (rintro e w4 ⟨rfl, r1, r2⟩);
                  have hB4 := r2.blk (new_at w3 _) (by simp);
                  obtain ⟨e0, e1, e2, -, -, -⟩ := blk3 hB4; have hlt4 := blkl hB4;
                  have HN4 := Kp.mk ((HN3.out _).fr r2 (by simp) (by simp) (by simp)); have HR4 := Kp.mk r1; have HF4 := Kp.mk ((HF3.out _).trans (r2.below (HF3.out _).size));
                  have HO4 := Kp.mk (r2.own (HO3.out.alloc _) (by simp));
                  clear r1 r2 hB4)
              | (go_at_call 17; go_loud (refine (same_true (msgAt L x.n) A3 c3 _ (Rd.of_own (HO4.out.alloc _))).mono ?_); go_loud (rintro e w5 ⟨rfl, r1⟩); have HB5 := Kp.mk r1; clear r1))
            all_goals
              go_meet
              have hw4 := HW.out.2.2.2
              have r1 := HB5.out
              have hN5 := (HN4.out.fr ((Fr.refl 0 [] w4).alloc _) (by simp) (by simp) (by simp)).fr (Fr.of_below (base := 0) (T := []) r1) (by simp) (by simp) (by simp)
              have hR5 := (HR4.out.fr ((Fr.refl 0 [] w4).alloc _) (by simp) (by simp)).fr (Fr.of_below (base := 0) (T := []) r1) (by simp) (by simp)
              have hF5 := (HF4.out.alloc HF4.out.size _).trans (r1.mono (HF4.out.alloc HF4.out.size _).size)
              exact inv_of (k := k) hN5 hR5 hF5 (Nat.le_trans (lessL_le _ _) (by omega)) (by omega) (fun m hm => hw4.2.2 m (lessL_mem hm))
          · have hk1' : (x.kind == 1) = false := by revert hk1; cases (x.kind == 1) <;> simp
            clear hk1
            have hk2' : (x.kind == 2) = false := by revert hk2; cases (x.kind == 2) <;> simp
            clear hk2
            by_cases hk3 : (x.kind == 3) = true
            · go_wp2_with fail
              have HN : Kp (NetAt w.heap.size W.drew g1 nodes L sent) := ⟨HW.out.1.fr ((Fr.refl 0 [] W).drew) (by simp) (by simp) (by simp)⟩
              have HR : Kp (RefAt w.heap.size W.drew g2 nodes L sent) := ⟨HW.out.2.1.fr ((Fr.refl 0 [] W).drew) (by simp) (by simp)⟩
              have HBx : Kp (W.drew.heap[xb]? = some (.cells #[.int .i64 x.kind, .int .i64 x.f, .int .i64 x.t, .int .i64 x.n, .string (strOf x.s)] 33 (0, 0))) := ⟨HXB.out⟩
              have HF : Kp (Below w.heap.size w W.drew) := ⟨HW.out.2.2.1.drew⟩
              have HL : Kp (L.length < 512 ∧ L.length ≤ 1000) := ⟨by have := HW.out; obtain ⟨_, _, _, h1, h2, _⟩ := this; omega⟩
              have HK : Kp (∀ m ∈ L, m.b.length ≤ 140737488355328) := ⟨HW.out.2.2.2.2.2⟩
              go_region_held3 (fun w' => w'.cell? ⟨xb, 3, none⟩ = some (.int .i64 x.n))
                (first
                  | go_keep
                  | exact q3)
                (first
                  | (go_at_call 18; refine (drop_any w.heap.size g1 nodes sent L x.n _ HN.out HF.out.size HL.out.2 HX.out.1 HX.out.2.1 HK).mono ?_; rintro e w3 ⟨rfl, r1, r2⟩; have hsz3 := HF.out.size; replace HN := Kp.mk r1; replace HR := Kp.mk (HR.out.fr r2 (by simp) (by simp)); replace HBx := Kp.mk (r2.blk HBx.out (by simp)); replace HF := Kp.mk (HF.out.trans (r2.below hsz3)); obtain ⟨q0, q1, q2, q3, q4, -, -, -, -, -⟩ := blk5 HBx.out; clear r1 r2)
                  | (go_at_call 19; refine (drop2_any w.heap.size g2 nodes sent L x.n _ HR.out HF.out.size HL.out.2 HX.out.1 HX.out.2.1).mono ?_; rintro e w3 ⟨rfl, r1, r2⟩; have hsz3 := HF.out.size; replace HR := Kp.mk r1; replace HN := Kp.mk (HN.out.fr r2 (by simp) (by simp) (by simp)); replace HBx := Kp.mk (r2.blk HBx.out (by simp)); replace HF := Kp.mk (HF.out.trans (r2.below hsz3)); obtain ⟨q0, q1, q2, q3, q4, -, -, -, -, -⟩ := blk5 HBx.out; clear r1 r2))
              all_goals
                go_wp2_with fail
                go_meet
                have hw4 := HW.out.2.2.2
                exact inv_of (k := k) HN.out HR.out HF.out (Nat.le_trans (lessL_le _ _) (by omega)) (by omega) (fun m hm => hw4.2.2 m (lessL_mem hm))
            · have hk3' : (x.kind == 3) = false := by revert hk3; cases (x.kind == 3) <;> simp
              clear hk3
              go_wp2_with fail
              have HN : Kp (NetAt w.heap.size W.drew g1 nodes L sent) := ⟨HW.out.1.fr ((Fr.refl 0 [] W).drew) (by simp) (by simp) (by simp)⟩
              have HR : Kp (RefAt w.heap.size W.drew g2 nodes L sent) := ⟨HW.out.2.1.fr ((Fr.refl 0 [] W).drew) (by simp) (by simp)⟩
              have HBx : Kp (W.drew.heap[xb]? = some (.cells #[.int .i64 x.kind, .int .i64 x.f, .int .i64 x.t, .int .i64 x.n, .string (strOf x.s)] 33 (0, 0))) := ⟨HXB.out⟩
              have HF : Kp (Below w.heap.size w W.drew) := ⟨HW.out.2.2.1.drew⟩
              have HL : Kp (L.length < 512 ∧ L.length ≤ 1000) := ⟨by have := HW.out; obtain ⟨_, _, _, h1, h2, _⟩ := this; omega⟩
              have HK : Kp (∀ m ∈ L, m.b.length ≤ 140737488355328) := ⟨HW.out.2.2.2.2.2⟩
              go_region_held3 (fun w' => w'.cell? ⟨xb, 3, none⟩ = some (.int .i64 x.n))
                (first
                  | go_keep
                  | exact q3)
                (first
                  | (go_at_call 20; refine (twice_any w.heap.size g1 nodes sent L x.n _ HN.out HF.out.size HL.out.1 HX.out.1 HX.out.2.1 HK).mono ?_; rintro e w3 ⟨rfl, r1, r2⟩; have hsz3 := HF.out.size; replace HN := Kp.mk r1; replace HR := Kp.mk (HR.out.fr r2 (by simp) (by simp)); replace HBx := Kp.mk (r2.blk HBx.out (by simp)); replace HF := Kp.mk (HF.out.trans (r2.below hsz3)); obtain ⟨q0, q1, q2, q3, q4, -, -, -, -, -⟩ := blk5 HBx.out; clear r1 r2)
                  | (go_at_call 21; refine (twice2_any w.heap.size g2 nodes sent L x.n _ HR.out HF.out.size HL.out.1 HX.out.1 HX.out.2.1).mono ?_; rintro e w3 ⟨rfl, r1, r2⟩; have hsz3 := HF.out.size; replace HR := Kp.mk r1; replace HN := Kp.mk (HN.out.fr r2 (by simp) (by simp) (by simp)); replace HBx := Kp.mk (r2.blk HBx.out (by simp)); replace HF := Kp.mk (HF.out.trans (r2.below hsz3)); obtain ⟨q0, q1, q2, q3, q4, -, -, -, -, -⟩ := blk5 HBx.out; clear r1 r2))
              all_goals
                go_wp2_with fail
                go_meet
                have hw4 := HW.out.2.2.2
                exact inv_of (k := k) HN.out HR.out HF.out (Nat.le_trans (moreL_le _ _) (by omega)) (by omega) (fun m hm => hw4.2.2 m (moreL_mem hm))
      case rest =>
        obtain ⟨L', sent', hI'⟩ := hcut
        clear HW HXB
        go_wp2_with fail
        obtain ⟨rv, hr1, hr2, hr3⟩ := hI'.2.1
        obtain ⟨A9, c9, rfl, -⟩ := own_slice hr3
        obtain ⟨d0, d1, d2, -, -, -⟩ := blk3 hr1
        have HRB := Kp.mk hr1
        have HN : Kp (NetAt w.heap.size wc.drew g1 nodes L' sent') := ⟨hI'.1.fr ((Fr.refl 0 [] wc).drew) (by simp) (by simp) (by simp)⟩
        have HI' := Kp.mk hI'
        have HM : Kp (L'.length ≤ 1000) := ⟨by obtain ⟨_, _, _, h1, _, _⟩ := hI'; omega⟩
        have HK : Kp (∀ m ∈ L', m.b.length ≤ 140737488355328) := ⟨hI'.2.2.2.2.2⟩
        clear hr1 hr2 hr3 hI'
        go_region_held3 (fun w' => w'.cell? ⟨g2, 1, none⟩ = some (.slice A9 L'.length c9) ∧ w'.cell? ⟨g2, 2, none⟩ = some (.int .i64 sent'))
          (first
            | go_keep
            | exact ⟨q1, q2⟩)
          (first
            | (go_at_call 22; refine (sent_any w.heap.size g1 nodes sent' L' _ HN.out).mono ?_; rintro e w3 ⟨rfl, rfl⟩)
            | (go_at_call 23; refine (pending_any w.heap.size g1 nodes sent' L' _ HN.out HM.out HK).mono ?_; rintro e w3 ⟨v3, rfl, ⟨A3, c3, rfl, -⟩, hb3⟩; obtain ⟨q0, q1, q2, -, -, -⟩ := blk3 (bel_at (w := wc.drew) HRB.out hb3); have HB3 := Kp.mk (bel_drew hb3); clear hb3))
        all_goals
          go_wp2_with fail
          go_roundw
          case rel =>
            obtain ⟨p1, p2, p3, p4⟩ := HI'.out
            have hf := Fr.of_below (base := 0) (T := []) HB3.out
            exact ⟨k + 1, by omega, by omega, by go_num, L', sent', p1.fr hf (by simp) (by simp) (by simp), p2.fr hf (by simp) (by simp), p3.trans (HB3.out.mono p3.size), p4⟩
          case measure => simp [intOf]; omega
    · have hw4 := hI.2.2.2
      have HI := Kp.mk hI
      have HM : Kp (L.length ≤ 1000) := ⟨by omega⟩
      have HK : Kp (∀ m ∈ L, m.b.length ≤ 140737488355328) := ⟨hw4.2.2⟩
      have hkk : (k < len ∧ ¬ k < 120) ∨ ¬ k < len := by omega
      clear hI hw4 hlt
      rcases hkk with ⟨ha, hb⟩ | ha
      all_goals
        go_wp2_with (go_at_call 23; go_loud (refine (pending_any w.heap.size g1 nodes sent L _ HI.out.1 HM.out HK).mono ?_); go_loud (rintro e w3 ⟨v3, rfl, hp3, hb3⟩; obtain ⟨A3, c3, rfl, ps, hps, hpo, hpb⟩ := hp3); have HPS := Kp.mk hps; have HPO := Kp.mk hpo; have HPB := Kp.mk hpb; have HB3 := Kp.mk hb3; clear hps hpo hpb hb3)
        go_loopw [15] (fun i w5 => ∃ j : Nat, j ≤ L.length ∧ i = .int .i64 j ∧ Below w3.heap.size w3 w5) (fun i _ => L.length - (intOf i).toNat)
        case atStart => exact ⟨0, Nat.zero_le _, rfl, Below.refl _ _⟩
        case round =>
          obtain ⟨j, hj1, rfl, hbel5⟩ := hrel
          by_cases hj2 : j < L.length
          · have hrow := own_bel HPO.out hbel5
            obtain ⟨gp, curp, rfl, -, hgpb, -, -, -, -⟩ := own_form hrow (by omega)
            have hR5 := (HI.out.2.1.fr (Fr.of_below (base := 0) (T := []) HB3.out) (by simp) (by simp)).fr (Fr.of_below (base := 0) (T := []) hbel5) (by simp) (by simp)
            obtain ⟨rv, hr1, hr2, hr3⟩ := hR5
            obtain ⟨A9, c9, rfl, hc9⟩ := own_slice hr3
            obtain ⟨gr, curr, rfl, -, hgrb, -, -, -, -⟩ := own_form hr3 (by omega)
            have hpl : ps.length = L.length := by have := congrArg List.length HPS.out; simpa using this
            obtain ⟨m, hmi⟩ : ∃ m, L[j]? = some m := ⟨_, List.getElem?_eq_getElem hj2⟩
            obtain ⟨mv, hmv⟩ : ∃ mv, ps[j]? = some (m, mv) := by
              have h1 := List.getElem?_eq_getElem (l := ps) (i := j) (by omega)
              have h2 : (ps[j]'(by omega)).1 = m := by
                have : (ps.map Prod.fst)[j]? = some (ps[j]'(by omega)).1 := by rw [List.getElem?_map, h1]; rfl
                rw [HPS.out, List.take_length, hmi] at this
                injection this with this
                exact this.symm
              exact ⟨(ps[j]'(by omega)).2, by rw [h1, ← h2]⟩
            have hbody := own_bel (HPB.out _ (List.mem_of_getElem? hmv)) hbel5
            obtain ⟨Am, cm, hmvs, hmc⟩ := own_slice hbody
            simp only at hmvs
            subst hmvs
            obtain ⟨e0, e1, e2⟩ := mcells_get ps j m _ hmv
            obtain ⟨u0, u1, u2⟩ := rcells_get L j m hmi
            have hml : (mcells ps).length = L.length * 3 := by rw [mcells_length, hpl]
            have hrl := rcells_length L
            have x0 := (cell_at_row hrow (j * 3) (by rw [hml]; omega)).trans e0
            have x1 := (cell_at_row hrow (j * 3 + 1) (by rw [hml]; omega)).trans e1
            have x2 := (cell_at_row hrow (j * 3 + 2) (by rw [hml]; omega)).trans e2
            have y0 := (cell_at_row hr3 (j * 3) (by rw [hrl]; omega)).trans u0
            have y1 := (cell_at_row hr3 (j * 3 + 1) (by rw [hrl]; omega)).trans u1
            have y2 := (cell_at_row hr3 (j * 3 + 2) (by rw [hrl]; omega)).trans u2
            obtain ⟨d0, d1, d2, -, -, -⟩ := blk3 hr1
            have HBY := Kp.mk hbody
            have HB5 := Kp.mk hbel5
            have hj3 : (0 : Int) ≤ (j : Int) := by omega
            have hj4 : (j : Int) < (L.length : Int) := by omega
            clear hrow hgpb hr1 hr2 hr3 hgrb hmi hmv hbody e0 e1 e2 u0 u1 u2 hml hrl hbel5 hpl
            go_wp2_with fail
            go_region_held3 (fun w' => w'.cell? ⟨g2, 1, none⟩ = some (.slice (some ⟨gr, 0, none⟩) L.length c9) ∧ w'.cell? ⟨gp, j * 3, none⟩ = some (.int .i64 m.f) ∧ w'.cell? ⟨gp, j * 3 + 1, none⟩ = some (.int .i64 m.t) ∧ w'.cell? ⟨gp, j * 3 + 2, none⟩ = some (.slice Am m.b.length cm) ∧
                w'.cell? ⟨gr, j * 3, none⟩ = some (.int .i64 m.f) ∧ w'.cell? ⟨gr, j * 3 + 1, none⟩ = some (.int .i64 m.t) ∧ w'.cell? ⟨gr, j * 3 + 2, none⟩ = some (.string (strOf m.b)))
              (first
                | go_keep
                | exact ⟨t0, t1, t2, t3, t4, t5, t6⟩)
              (first
                | (go_at_call 17; refine (same_true m Am cm _ (Rd.of_own (own_bel HBY.out ((Below.refl _ _).drew)))).mono ?_; rintro e w7 ⟨rfl, r⟩; have hb7 := bel_drew r; have t0 := cell_later hb7 d1; have t1 := cell_later hb7 x0; have t2 := cell_later hb7 x1; have t3 := cell_later hb7 x2; have t4 := cell_later hb7 y0; have t5 := cell_later hb7 y1; have t6 := cell_later hb7 y2; have HB7 := Kp.mk hb7; clear r hb7))
            all_goals
              have hLm := HM.out
              go_wp2_with fail
              go_roundw
              case rel => exact ⟨j + 1, by omega, by go_num, HB5.out.trans (HB7.out.mono HB5.out.size)⟩
              case measure => simp [intOf]; omega
          · have hb5 := Kp.mk hbel5
            clear hbel5
            go_wp2_with (go_at_call 12; go_loud (refine (known5 _).mono ?_); go_loud (rintro e w6 ⟨rfl, r⟩); have HB6 := Kp.mk r; clear r)
            go_ret
            have p3 := HI.out.2.2.1
            have q1 := p3.trans (HB3.out.mono p3.size)
            have q2 := q1.trans (hb5.out.mono q1.size)
            exact ⟨rfl, q2.trans (HB6.out.mono q2.size)⟩
end Go.Proofs.Ytelpdngfbddflaa
