/- The reference's net: Twice, Take, Drop. Conditions: what each theorem's hypotheses say of the memory that it is handed. -/
import Derived.Test.YtelpdngfbddflaaB8
namespace Go.Proofs.Ytelpdngfbddflaa
open Go.RowKit
set_option linter.unusedVariables false
set_option linter.unusedSimpArgs false

set_option maxRecDepth 20000 in
set_option maxHeartbeats 400000 in
theorem twice2_none (base g : Nat) (nodes : Int) (sent : Nat) (k : Int) (w : World) (hN : RefAt base w g nodes [] sent) :
    Calls Try.prog 21 #[.pointer (some ⟨g, 0, none⟩), .int .i64 k] w fun e w' => e = .returned (.bool false) ∧ w = w' := by
  obtain ⟨vl, hg, hbg, ho⟩ := hN
  obtain ⟨A, c, rfl, hlc⟩ := own_slice ho
  have HG := Kp.mk hg
  clear ho hg
  go_enter Try.func21, Try.ntmps21
  go_wp2_with (go_at_call 59; go_loud (refine (at_nil g _ _ A c k _ HG.out).mono ?_); go_loud (rintro e w1 ⟨rfl, rfl⟩))
  go_ret
  exact ⟨rfl, rfl⟩
set_option maxRecDepth 20000 in
set_option maxHeartbeats 400000 in
theorem twice2_full (base g : Nat) (nodes : Int) (sent : Nat) (l : List M) (k : Int) (w : World) (hN : RefAt base w g nodes l sent) (hn : 512 ≤ l.length) (hm : l.length ≤ 1000) (hk0 : -9223372036854775808 ≤ k) (hk1 : k ≤ 9223372036854775807) :
    Calls Try.prog 21 #[.pointer (some ⟨g, 0, none⟩), .int .i64 k] w fun e w' => e = .returned (.bool false) ∧ w = w' := by
  obtain ⟨vl, hg, hbg, ho⟩ := hN
  obtain ⟨A, c, rfl, hlc⟩ := own_slice ho
  obtain ⟨c0, c1, c2, f0, f1, f2⟩ := blk3 hg
  have HG := Kp.mk hg
  clear ho hg
  go_enter Try.func21, Try.ntmps21
  go_wp2_with (go_at_call 59; go_loud (refine (at_pos g l.length _ _ _ c k _ HG.out (by omega) hm hk0 hk1).mono ?_); go_loud (rintro e w1 ⟨rfl, rfl⟩))
  go_ret
  exact ⟨rfl, rfl⟩

set_option maxRecDepth 20000 in
set_option maxHeartbeats 1000000 in
theorem twice2_some (base g : Nat) (nodes : Int) (sent : Nat) (l : List M) (k : Int) (i : Nat) (m : M) (w : World) (hN : RefAt base w g nodes l sent) (hbase : base ≤ w.heap.size)
    (hn : 0 < l.length) (hm : l.length < 512) (hk0 : -9223372036854775808 ≤ k) (hk1 : k ≤ 9223372036854775807) (hi : i = findAt l.length k) (hmi : l[i]? = some m) :
    Calls Try.prog 21 #[.pointer (some ⟨g, 0, none⟩), .int .i64 k] w fun e w' => e = .returned (.bool true) ∧ RefAt base w' g nodes (l ++ [m]) sent ∧ Fr base [31, 42] w w' := by
  obtain ⟨vl, hg, hbg, ho⟩ := hN
  obtain ⟨A, c, rfl, hlc⟩ := own_slice ho
  obtain ⟨gl, cur, rfl, hgl, hblk, _, hcm, hcs, hct⟩ := own_form ho hn
  have hil : i < l.length := (List.getElem?_eq_some_iff.1 hmi).1
  obtain ⟨e0, e1, e2⟩ := rcells_get l i m hmi
  have hml := rcells_length l
  have x0 := (cell_at_row ho (i * 3) (by rw [hml]; omega)).trans e0
  have x1 := (cell_at_row ho (i * 3 + 1) (by rw [hml]; omega)).trans e1
  have x2 := (cell_at_row ho (i * 3 + 2) (by rw [hml]; omega)).trans e2
  obtain ⟨c0, c1, c2, f0, f1, f2⟩ := blk3 hg
  have hgs := blkl hg
  have hgls := blkl hblk
  have HG := Kp.mk hg
  have HO := Kp.mk ho
  have HI := Kp.mk hi
  have HN := Kp.mk hm
  clear ho hg e0 e1 e2 hmi hcm hcs hct hblk hi hml
  have hm' : l.length ≤ 1000 := by omega
  go_enter Try.func21, Try.ntmps21
  go_wp2_with (go_at_call 59; go_loud (refine (at_pos g l.length _ _ _ c k _ HG.out hn hm' hk0 hk1).mono ?_); go_loud (rintro e w1 ⟨rfl, rfl⟩; rw [← HI.out]))
  go_region_law (first
    | (refine step_ap rfl (.tmp 23) (.tmp 31) 29 rfl base 42 _ 3 32 Try.underlying29 Try.info42 rfl (by decide) (.slice (some ⟨gl, 0, none⟩) l.length c) l.length (rcells l) (by simp [Act.eval, Act.put]) ?_ 1 [.int .i64 m.f, .int .i64 m.t, .string (strOf m.b)] _ (by simp [Act.eval, Act.put]; rfl) ?_ ?_ ?_ (by decide) ?_ ?_; exact World.ownsRow.alloc (w := w.drew) HO.out _; exact rd_new w.drew _ 42 3 1 rfl; exact (by simp [Value.oneCell']); exact ⟨by have := HN.out; omega⟩; exact (by simp; omega); rintro v2 w2 ho2 hg2; obtain ⟨A2, c2, rfl, _⟩ := own_slice ho2; have HO2 := Kp.mk ho2; have HG2 := Kp.mk hg2; obtain ⟨d0, d1, d2, d3, d4, d5⟩ := blk3 (grn_at (old_at (w := w.drew) HG.out _) hg2 (own_ne HO.out HG.out (by decide))); clear ho2 hg2))
  go_wp2
  all_goals
    go_ret
    have hg0 := HG.out
    have hgw := old_at (w := w.drew) hg0 (Obj.cells #[.int .i64 m.f, .int .i64 m.t, .string (strOf m.b)] 42)
    have hg2 := grn_at hgw HG2.out (own_ne HO.out hg0 (by decide))
    have hf2 : Fr base [31, 42] w w2 := (((Fr.refl base [31, 42] w).drew).alloc _).grown HG2.out fun k hk => by
      obtain ⟨h1, cs, t', fr, h2, h3⟩ := own_blk (World.ownsRow.alloc (w := w.drew) HO.out (Obj.cells #[.int .i64 m.f, .int .i64 m.t, .string (strOf m.b)] 42)) k hk
      exact ⟨h1, cs, t', fr, h2, by rw [h3]; simp⟩
    refine ⟨rfl, (ref_snoc (m := m) hg2 hbg HO2.out).2, ?_⟩
    exact hf2.setCell (p := ⟨g, 1, none⟩) hg2 hbg (by simp) _

set_option maxRecDepth 20000 in
set_option maxHeartbeats 400000 in
theorem take2_none (base g : Nat) (nodes : Int) (sent : Nat) (k : Int) (w : World) (hN : RefAt base w g nodes [] sent) :
    Calls Try.prog 16 #[.pointer (some ⟨g, 0, none⟩), .int .i64 k] w fun e w' => e = .returned (.tuple #[.agg #[.int .i64 0, .int .i64 0, .string (strOf [])], .bool false]) ∧ Below w.heap.size w w' := by
  obtain ⟨vl, hg, hbg, ho⟩ := hN
  obtain ⟨A, c, rfl, hlc⟩ := own_slice ho
  have HG := Kp.mk hg
  clear ho hg
  go_enter Try.func16, Try.ntmps16
  go_wp2_with (go_at_call 59; go_loud (refine (at_nil g _ _ A c k _ (old_at HG.out _)).mono ?_); go_loud (rintro e w1 ⟨rfl, rfl⟩))
  refine bodyPost_ret (v := .tuple #[.agg #[.int .i64 0, .int .i64 0, .string (strOf [])], .bool false]) (by simp [results, Try.results16, go_sem, strOf]) rfl ⟨rfl, ?_⟩
  exact (Below.refl _ _).alloc (Nat.le_refl _) _

theorem rd_pre {w : World} {base n c gl size i : Nat} {e : TypeId} {xs : List Value} (h : w.ownsRow base e size (.slice (some ⟨gl, 0, none⟩) n c) n xs) (hi : i ≤ n) (hc : n ≤ c) :
    Rd w size (.slice (some ⟨gl, 0, none⟩) i c) i (xs.take (i * size)) := by
  have hl := h.1
  have hle : i * size ≤ n * size := Nat.mul_le_mul_right _ hi
  refine ⟨_, c, rfl, by omega, by rw [List.length_take, hl]; omega, fun j u hj => ⟨_, rfl, ?_⟩⟩
  rw [List.getElem?_take] at hj
  split at hj
  · exact h.cells (g := gl) rfl j u hj
  · cases hj
theorem rd_suf {w : World} {base n c gl size i : Nat} {e : TypeId} {xs : List Value} (h : w.ownsRow base e size (.slice (some ⟨gl, 0, none⟩) n c) n xs) (hi : i ≤ n) (hc : n ≤ c) (A : Addr)
    (hA : (if c = i then some (⟨gl, 0, none⟩ : Addr) else some ⟨gl, i * size, none⟩) = some A) : Rd w size (.slice (some A) (n - i) (c - i)) (n - i) (xs.drop (i * size)) := by
  have hl := h.1
  refine ⟨_, _, rfl, by omega, by rw [List.length_drop, hl, Nat.sub_mul], fun j u hj => ⟨_, rfl, ?_⟩⟩
  by_cases he : c = i
  · have : xs.drop (i * size) = [] := List.drop_eq_nil_of_le (by rw [hl]; exact Nat.mul_le_mul_right _ (by omega))
    rw [this] at hj
    simp at hj
  · rw [if_neg he] at hA
    injection hA with hA
    subst hA
    rw [List.getElem?_drop] at hj
    have := h.cells (g := gl) rfl _ u hj
    rw [Addr.add_lit] at this ⊢
    simpa using this

set_option maxRecDepth 20000 in
set_option maxHeartbeats 1000000 in
theorem take2_some (base g : Nat) (nodes : Int) (sent : Nat) (l : List M) (k : Int) (i : Nat) (m : M) (w : World) (hN : RefAt base w g nodes l sent) (hbase : base ≤ w.heap.size)
    (hn : 0 < l.length) (hm : l.length ≤ 1000) (hk0 : -9223372036854775808 ≤ k) (hk1 : k ≤ 9223372036854775807) (hi : i = findAt l.length k) (hmi : l[i]? = some m) :
    Calls Try.prog 16 #[.pointer (some ⟨g, 0, none⟩), .int .i64 k] w fun e w' => e = .returned (.tuple #[.agg #[.int .i64 m.f, .int .i64 m.t, .string (strOf m.b)], .bool true]) ∧ RefAt base w' g nodes (l.eraseIdx i) sent ∧ Fr base [31, 42] w w' := by
  obtain ⟨vl, hg, hbg, ho⟩ := hN
  obtain ⟨A, c, rfl, hlc⟩ := own_slice ho
  obtain ⟨gl, cur, rfl, hgl, hblk, _, hcm, hcs, hct⟩ := own_form ho hn
  have hil : i < l.length := (List.getElem?_eq_some_iff.1 hmi).1
  obtain ⟨e0, e1, e2⟩ := rcells_get l i m hmi
  have hml := rcells_length l
  have x0 := (cell_at_row ho (i * 3) (by rw [hml]; omega)).trans e0
  have x1 := (cell_at_row ho (i * 3 + 1) (by rw [hml]; omega)).trans e1
  have x2 := (cell_at_row ho (i * 3 + 2) (by rw [hml]; omega)).trans e2
  obtain ⟨c0, c1, c2, f0, f1, f2⟩ := blk3 hg
  have hgs := blkl hg
  have hgls := blkl hblk
  obtain ⟨A, hA⟩ : ∃ A : Addr, (if c = i + 1 then some (⟨gl, 0, none⟩ : Addr) else some ⟨gl, (i + 1) * 3, none⟩) = some A := by split <;> exact ⟨_, rfl⟩
  have HA := Kp.mk hA
  have hic : i ≤ c := by omega
  have hwr : IntKind.i64.wrap ((i : Int) + 1) = (i : Int) + 1 := by rw [IntKind.wrap_i64]; omega
  have hp0 : (0 : Int) ≤ (i : Int) + 1 := by omega
  have hp1 : (i : Int) + 1 ≤ (l.length : Int) := by omega
  have hp2 : ((i : Int) + 1).toNat = i + 1 := by omega
  have HG := Kp.mk hg
  have HO := Kp.mk ho
  have HI := Kp.mk hi
  have HN := Kp.mk hm
  clear ho hg e0 e1 e2 hmi hcm hcs hct hblk hi hml
  go_enter Try.func16, Try.ntmps16
  go_wp2_with (go_at_call 59; go_loud (refine (at_pos g l.length _ _ _ c k _ (old_at HG.out _) hn hm hk0 hk1).mono ?_); go_loud (rintro e w1 ⟨rfl, rfl⟩; rw [← HI.out]))
  obtain ⟨o1, ho1⟩ : ∃ o, o = Obj.cells #[.int .i64 0, .int .i64 0, .string ⟨#[]⟩] 42 := ⟨_, rfl⟩
  obtain ⟨o2, ho2⟩ : ∃ o, o = Obj.cells #[.int .i64 m.f, .int .i64 m.t, .string (strOf m.b)] 42 := ⟨_, rfl⟩
  rw [← ho1, ← ho2]
  have hgW := old_at (old_at HG.out o1) o2
  have hoW := (HO.out.alloc o1).alloc o2
  have hfW : Fr base [31, 42] w ((w.alloc o1).alloc o2) := ((Fr.refl _ _ w).alloc o1).alloc o2
  have haW : ((w.alloc o1).alloc o2).heap[w.heap.size]? = some (Obj.cells #[.int .i64 0, .int .i64 0, .string ⟨#[]⟩] 42) := by rw [← ho1]; exact old_at (new_at w o1) o2
  have hbW : ((w.alloc o1).alloc o2).heap[w.heap.size + 1]? = some (Obj.cells #[.int .i64 m.f, .int .i64 m.t, .string (strOf m.b)] 42) := by rw [← ho2]; have h := new_at (w.alloc o1) o2; rw [World.size_alloc] at h; exact h
  have hsW : ((w.alloc o1).alloc o2).heap.size = w.heap.size + 2 := by simp
  generalize (w.alloc o1).alloc o2 = W at hgW hoW hfW haW hbW hsW ⊢
  clear c0 c1 c2 f0 f1 f2 ho1 ho2
  obtain ⟨c0, c1, c2, f0, f1, f2⟩ := blk3 hgW
  have hgsW := blkl hgW
  have HGW := Kp.mk hgW
  have HOW := Kp.mk hoW
  have HFW := Kp.mk hfW
  have HAW := Kp.mk haW
  have HBW := Kp.mk hbW
  have HSW := Kp.mk hsW
  clear hgW hoW hfW haW hbW hsW
  have dd := fun o => (blk3 (old_at (w := W.drew) HGW.out o)).2.1
  go_region_law (
    first
      | (refine step_ap rfl (.tmp 22) (.tmp 28) 29 rfl W.heap.size 42 _ 3 32 Try.underlying29 Try.info42 rfl (by decide) (.slice (some ⟨W.heap.size, 0, none⟩) 0 0) 0 [] (by simp [Act.eval, Act.put]) (World.ownsRow_made W.drew #[] 0 (Nat.le_refl _) (by decide) rfl) i ((rcells l).take (i * 3)) _ (by simp [Act.eval, Act.put]; rfl) ?_ ?_ ?_ (by decide) ?_ ?_; exact (rd_pre (World.ownsRow.alloc (w := W.drew) HOW.out _) (by omega) hlc); exact (fun u hu => rcells_one l u (List.mem_of_mem_take hu)); exact ⟨by omega⟩; exact (by show W.heap.size ≤ (W.alloc _).heap.size; rw [World.size_alloc]; omega); rintro v2 w2 ho2 hg2; simp only [Nat.zero_add, List.nil_append] at ho2; obtain ⟨A2, c2, rfl, _⟩ := own_slice ho2;
         have hgg := grn_at (old_at (w := W.drew) HGW.out (Obj.cells #[] 42)) hg2 (by intro e; simp only [Value.ownBlock, Option.some.injEq] at e; subst e; exact Nat.lt_irrefl _ hgsW); have d1 := (blk3 hgg).2.1; have HGG := Kp.mk hgg; have HO2 := Kp.mk ho2; have HG2 := Kp.mk hg2; clear ho2 hg2 hgg)
      | (refine step_ap rfl (.tmp 29) (.tmp 36) 29 rfl W.heap.size 42 _ 3 32 Try.underlying29 Try.info42 rfl (by decide) (.slice A2 i c2) i ((rcells l).take (i * 3)) (by simp [Act.eval, Act.put]) HO2.out (l.length - (i + 1)) ((rcells l).drop ((i + 1) * 3)) (.slice (some A) (l.length - (i + 1)) (c - (i + 1))) (by simp [Act.eval, Act.put, HA.out]) ?_ ?_ ?_ (by decide) ?_ ?_; exact (rd_suf (own_grn (World.ownsRow.alloc (w := W.drew) HOW.out (Obj.cells #[] 42)) HG2.out (by refine .inr ?_; intro e; simp only [Value.ownBlock, Option.some.injEq] at e; have := HSW.out; rw [e] at hgls; have e2 : W.drew.heap.size = W.heap.size := rfl; omega)) (by omega) hlc A HA.out); exact (fun u hu => rcells_one l u (List.mem_of_mem_drop hu)); exact ⟨by omega⟩; exact (by have h1 : (W.alloc (Obj.cells #[] 42)).heap.size ≤ w2.heap.size := HG2.out.size; rw [World.size_alloc] at h1; have := HSW.out; omega); rintro v3 w3 ho3 hg3; obtain ⟨A3, c3, rfl, _⟩ := own_slice ho3;
         have hgg3 := grn_at HGG.out hg3 (own_ne HO2.out HGG.out (by decide)); obtain ⟨y0, y1, y2, y3, y4, y5⟩ := blk3 hgg3; have haw3 := grn_at (grn_at (old_at (w := W.drew) HAW.out (Obj.cells #[] 42)) HG2.out (by intro e; simp only [Value.ownBlock, Option.some.injEq] at e; have := HSW.out; omega)) hg3 (by intro e; have h1 := (own_blk HO2.out _ e.symm).1; have := HSW.out; omega); have hbw3 := grn_at (grn_at (old_at (w := W.drew) HBW.out (Obj.cells #[] 42)) HG2.out (by intro e; simp only [Value.ownBlock, Option.some.injEq] at e; have := HSW.out; omega)) hg3 (by intro e; have h1 := (own_blk HO2.out _ e.symm).1; have := HSW.out; omega); obtain ⟨z0, z1, z2, z3, z4, z5⟩ := blk3 haw3; obtain ⟨u0, u1, u2, u3, u4, u5⟩ := blk3 hbw3; have HAW3 := Kp.mk haw3; clear haw3 hbw3; have HGG3 := Kp.mk hgg3; have HO3 := Kp.mk ho3; have HG3 := Kp.mk hg3; clear ho3 hg3 hgg3))
  all_goals
    go_wp2
    have hsW := HSW.out
    have hws : w.heap.size < W.heap.size := by omega
    have hgx := HGG3.out
    have s0 := set_at hgx 1 (.slice A3 (i + (l.length - (i + 1))) c3)
    have hne : g ≠ w.heap.size := by omega
    have hne' : w.heap.size ≠ g := by omega
    have t0 := far_at HAW3.out (p := ⟨g, 1, none⟩) hne' (.slice A3 (i + (l.length - (i + 1))) c3)
    have t1 := set_at t0 0 (.int .i64 m.f)
    have t2 := set_at t1 1 (.int .i64 m.t)
    have hlen : (l.eraseIdx i).length = i + (l.length - (i + 1)) := by rw [List.length_eraseIdx_of_lt hil]; omega
    have hcont : rcells (l.eraseIdx i) = (rcells l).take (i * 3) ++ (rcells l).drop ((i + 1) * 3) := by
      rw [List.eraseIdx_eq_take_drop_succ, rcells_append, rcells_take l i (by omega), rcells_drop l (i + 1) (by omega)]
    have hown := own_low (ownsRow_setCell_below (ownsRow_setCell_below (ownsRow_setCell_below (ownsRow_setCell_below HO3.out (a := ⟨g, 1, none⟩) hgsW (.slice A3 (i + (l.length - (i + 1))) c3)) (a := ⟨w.heap.size, 0, none⟩) hws (.int .i64 m.f)) (a := ⟨w.heap.size, 1, none⟩) hws (.int .i64 m.t)) (a := ⟨w.heap.size, 2, none⟩) hws (.string (strOf m.b))) (base' := base) (by omega)
    rw [← hcont, ← hlen] at hown
    have hf2 : Fr base [31, 42] w w2 := (((HFW.out.drew).alloc (Obj.cells #[] 42)).grown HG2.out) (fun q hq => by
      simp only [Value.ownBlock, Option.some.injEq] at hq
      subst hq
      exact ⟨by omega, #[], 42, _, new_at W.drew _, by simp⟩)
    have hf3 : Fr base [31, 42] w w3 := hf2.grown HG3.out (fun q hq => by
      obtain ⟨h1, cs, t', fr, h2, h3⟩ := own_blk HO2.out q hq
      exact ⟨by omega, cs, t', fr, h2, by rw [h3]; simp⟩)
    refine bodyPost_ret (v := .tuple #[.agg #[.int .i64 m.f, .int .i64 m.t, .string (strOf m.b)], .bool true]) (by simp [results, Try.results16, go_sem, z0, z1, z2, hne, hne']) rfl ⟨rfl, ?_, ?_⟩
    · exact ⟨_, far_at (far_at (far_at s0 (p := ⟨w.heap.size, 0, none⟩) hne _) (p := ⟨w.heap.size, 1, none⟩) hne _) (p := ⟨w.heap.size, 2, none⟩) hne _, hbg, by rw [hlen] at hown ⊢; exact hown⟩
    · exact (((hf3.setCell (p := ⟨g, 1, none⟩) hgx hbg (by simp) _).setCell (p := ⟨w.heap.size, 0, none⟩) t0 hbase (by simp) _).setCell (p := ⟨w.heap.size, 1, none⟩) t1 hbase (by simp) _).setCell (p := ⟨w.heap.size, 2, none⟩) t2 hbase (by simp) _

set_option maxRecDepth 20000 in
set_option maxHeartbeats 400000 in
theorem drop2_none (base g : Nat) (nodes : Int) (sent : Nat) (k : Int) (w : World) (hN : RefAt base w g nodes [] sent) :
    Calls Try.prog 19 #[.pointer (some ⟨g, 0, none⟩), .int .i64 k] w fun e w' => e = .returned (.bool false) ∧ Below w.heap.size w w' := by
  have HN := Kp.mk hN
  clear hN
  go_enter Try.func19, Try.ntmps19
  go_wp2_with (go_at_call 16; go_loud (refine (take2_none base g nodes sent k _ HN.out).mono ?_); go_loud (rintro e w1 ⟨rfl, hb⟩); have HB := Kp.mk hb; clear hb)
  go_ret
  exact ⟨rfl, HB.out.alloc HB.out.size _⟩

set_option maxRecDepth 20000 in
set_option maxHeartbeats 400000 in
theorem drop2_some (base g : Nat) (nodes : Int) (sent : Nat) (l : List M) (k : Int) (w : World) (hN : RefAt base w g nodes l sent) (hbase : base ≤ w.heap.size)
    (hn : 0 < l.length) (hm : l.length ≤ 1000) (hk0 : -9223372036854775808 ≤ k) (hk1 : k ≤ 9223372036854775807) :
    Calls Try.prog 19 #[.pointer (some ⟨g, 0, none⟩), .int .i64 k] w fun e w' => e = .returned (.bool true) ∧ RefAt base w' g nodes (l.eraseIdx (findAt l.length k)) sent ∧ Fr base [31, 42] w w' := by
  have HN := Kp.mk hN
  have hlt := findAt_lt k hn
  obtain ⟨m, hmi⟩ : ∃ m, l[findAt l.length k]? = some m := ⟨_, List.getElem?_eq_getElem hlt⟩
  have HM := Kp.mk hmi
  clear hN hmi hlt
  go_enter Try.func19, Try.ntmps19
  go_wp2_with (go_at_call 16; go_loud (refine (take2_some base g nodes sent l k _ m _ HN.out hbase hn hm hk0 hk1 rfl HM.out).mono ?_); go_loud (rintro e w1 ⟨rfl, r2, r3⟩); have R2 := Kp.mk r2; have R3 := Kp.mk r3; clear r2 r3)
  go_ret
  exact ⟨rfl, R2.out.fr ((Fr.refl 0 [] w1).alloc _) (by simp) (by simp), R3.out.alloc _⟩
end Go.Proofs.Ytelpdngfbddflaa
