/- Twice of the net. Conditions: what each theorem's hypotheses say of the memory that it is handed. -/
import Derived.Test.YtelpdngfbddflaaB5
namespace Go.Proofs.Ytelpdngfbddflaa
open Go.RowKit
set_option linter.unusedVariables false
set_option linter.unusedSimpArgs false

set_option maxRecDepth 20000 in
set_option maxHeartbeats 400000 in
theorem twice_none (base g : Nat) (nodes : Int) (sent : Nat) (k : Int) (w : World) (hN : NetAt base w g nodes [] sent) :
    Calls Try.prog 20 #[.pointer (some ⟨g, 0, none⟩), .int .i64 k] w fun e w' => e = .returned (.bool false) ∧ w = w' := by
  obtain ⟨vl, hg, hbg, ps, hps, ho, hbodies⟩ := hN
  obtain ⟨A, c, rfl, hlc⟩ := own_slice ho
  have HG := Kp.mk hg
  clear hps ho hbodies hg
  go_enter Try.func20, Try.ntmps20
  go_wp2_with (go_at_call 56; go_loud (refine (find_nil g _ _ A c k _ HG.out).mono ?_); go_loud (rintro e w1 ⟨rfl, rfl⟩))
  go_ret
  exact ⟨rfl, rfl⟩
set_option maxRecDepth 20000 in
set_option maxHeartbeats 400000 in
theorem twice_full (base g : Nat) (nodes : Int) (sent : Nat) (l : List M) (k : Int) (w : World) (hN : NetAt base w g nodes l sent) (hn : 512 ≤ l.length) (hm : l.length ≤ 1000) (hk0 : -9223372036854775808 ≤ k) (hk1 : k ≤ 9223372036854775807) :
    Calls Try.prog 20 #[.pointer (some ⟨g, 0, none⟩), .int .i64 k] w fun e w' => e = .returned (.bool false) ∧ w = w' := by
  obtain ⟨vl, hg, hbg, ps, hps, ho, hbodies⟩ := hN
  obtain ⟨A, c, rfl, hlc⟩ := own_slice ho
  obtain ⟨c0, c1, c2, f0, f1, f2⟩ := blk3 hg
  have HG := Kp.mk hg
  clear hps ho hbodies hg
  go_enter Try.func20, Try.ntmps20
  go_wp2_with (go_at_call 56; go_loud (refine (find_pos g l.length _ _ _ c k _ HG.out (by omega) hm hk0 hk1).mono ?_); go_loud (rintro e w1 ⟨rfl, rfl⟩))
  go_ret
  exact ⟨rfl, rfl⟩

theorem net_twice {base g : Nat} {nodes : Int} {sent : Nat} {l : List M} {ps : List (M × Value)} {m : M} {w2 : World} {vl v1 v2 : Value} (hps : ps.map Prod.fst = l)
    (hg : w2.heap[g]? = some (.cells #[.int .i64 nodes, vl, .int .i64 sent] 115 (0, 0))) (hbg : base ≤ g)
    (ho : w2.ownsRow base 38 3 v2 (l.length + 1) (mcells ps ++ [.int .i64 m.f, .int .i64 m.t, v1])) (hb : ∀ p ∈ ps, w2.ownsRow base 5 1 p.2 p.1.b.length (u8s p.1.b))
    (h1 : w2.ownsRow base 5 1 v1 m.b.length (u8s m.b)) :
    NetAt base (w2.setCell ⟨g, 1, none⟩ v2) g nodes (l ++ [m]) sent := by
  have s1 := set_at hg 1 v2
  have hf : Fr base [115] w2 (w2.setCell ⟨g, 1, none⟩ v2) :=
    (Fr.refl base [115] w2).setCell (p := ⟨g, 1, none⟩) hg hbg (by simp) _
  refine ⟨v2, s1, hbg, ps ++ [(m, v1)], by simp [hps], ?_, ?_⟩
  · have : (l ++ [m]).length = l.length + 1 := by simp
    rw [this, mcells_append]
    exact hf.own ho (by simp)
  · intro p hp
    rcases List.mem_append.1 hp with hp | hp
    · exact hf.own (hb p hp) (by simp)
    · rw [List.mem_singleton.1 hp]
      exact hf.own h1 (by simp)

set_option maxRecDepth 20000 in
set_option maxHeartbeats 1000000 in
theorem twice_some (base g : Nat) (nodes : Int) (sent : Nat) (l : List M) (k : Int) (i : Nat) (m : M) (w : World) (hN : NetAt base w g nodes l sent) (hbase : base ≤ w.heap.size)
    (hn : 0 < l.length) (hm : l.length < 512) (hk0 : -9223372036854775808 ≤ k) (hk1 : k ≤ 9223372036854775807) (hi : i = findAt l.length k) (hmi : l[i]? = some m) (hb : Kp (m.b.length ≤ 140737488355328)) :
    Calls Try.prog 20 #[.pointer (some ⟨g, 0, none⟩), .int .i64 k] w fun e w' => e = .returned (.bool true) ∧ NetAt base w' g nodes (l ++ [m]) sent ∧ Fr base [115, 38] w w' := by
  obtain ⟨vl, hg, hbg, ps, hps, ho, hbodies⟩ := hN
  obtain ⟨A, c, rfl, hlc⟩ := own_slice ho
  obtain ⟨gl, cur, rfl, hgl, hblk, _, hcm, hcs, hct⟩ := own_form ho hn
  have hil : i < l.length := (List.getElem?_eq_some_iff.1 hmi).1
  have hpl : ps.length = l.length := by rw [← hps]; simp
  obtain ⟨mv, hmv⟩ : ∃ mv, ps[i]? = some (m, mv) := by
    have h1 := List.getElem?_eq_getElem (l := ps) (i := i) (by omega)
    have h2 : (ps[i]'(by omega)).1 = m := by
      have : (ps.map Prod.fst)[i]? = some (ps[i]'(by omega)).1 := by rw [List.getElem?_map, h1]; rfl
      rw [hps, hmi] at this
      injection this with this
      exact this.symm
    exact ⟨(ps[i]'(by omega)).2, by rw [h1, ← h2]⟩
  have hbody := hbodies _ (List.mem_of_getElem? hmv)
  obtain ⟨Am, cm, hmvs, hmc⟩ := own_slice hbody
  simp only at hmvs
  subst hmvs
  obtain ⟨e0, e1, e2⟩ := mcells_get ps i m _ hmv
  have hml : (mcells ps).length = l.length * 3 := by rw [mcells_length, hpl]
  have x0 := (cell_at_row ho (i * 3) (by rw [hml]; omega)).trans e0
  have x1 := (cell_at_row ho (i * 3 + 1) (by rw [hml]; omega)).trans e1
  have x2 := (cell_at_row ho (i * 3 + 2) (by rw [hml]; omega)).trans e2
  obtain ⟨c0, c1, c2, f0, f1, f2⟩ := blk3 hg
  have hgs := blkl hg
  have hgls := blkl hblk
  have HG := Kp.mk hg
  have HO := Kp.mk ho
  have HBO := Kp.mk hbodies
  have HI := Kp.mk hi
  have HP := Kp.mk hps
  have HBY := Kp.mk hbody
  have HN := Kp.mk hm
  clear hps ho hbodies hg e0 e1 e2 hmi hmv hcm hcs hct hblk hi hbody hpl hml
  have hm' : l.length ≤ 1000 := by omega
  go_enter Try.func20, Try.ntmps20
  go_wp2_with (go_at_call 56; go_loud (refine (find_pos g l.length _ _ _ c k _ HG.out hn hm' hk0 hk1).mono ?_); go_loud (rintro e w1 ⟨rfl, rfl⟩; rw [← HI.out]))
  go_region_law (first
    | (go_simp; go_at_call 58; refine (copied_any m.f m.t m.b _ _ hb ?_).mono ?_; exact Rd.of_own (own_bel HBY.out ((Below.refl _ _).drew)); rintro e w1 ⟨A1, c1, rfl, ho1, hb1⟩; obtain ⟨d0, d1, d2, d3, d4, d5⟩ := blk3 (bel_at (w := w.drew) HG.out hb1); have HO1 := Kp.mk ho1; have HB1 := Kp.mk (bel_drew hb1); have dd := fun o => (blk3 (old_at (bel_at (w := w.drew) HG.out hb1) o)).2.1; clear ho1 hb1)
    | (refine step_ap rfl (.tmp 23) (.tmp 32) 48 rfl base 38 _ 3 40 Try.underlying48 Try.info38 rfl (by decide) (.slice (some ⟨gl, 0, none⟩) l.length c) l.length (mcells ps) (by simp [Act.eval, Act.put]) ?_ 1 [.int .i64 m.f, .int .i64 m.t, .slice A1 m.b.length c1] _ (by simp [Act.eval, Act.put]; rfl) ?_ ?_ ?_ (by decide) ?_ ?_; exact (own_bel HO.out HB1.out).alloc _; exact rd_new w1 _ 38 3 1 rfl; exact (by simp [Value.oneCell']); exact ⟨by have := HN.out; omega⟩; exact (by have := HB1.out.size; simp; omega); rintro v2 w2 ho2 hg2; obtain ⟨A2, c2, rfl, _⟩ := own_slice ho2; have HO2 := Kp.mk ho2; have HG2 := Kp.mk hg2; obtain ⟨d0, d1, d2, d3, d4, d5⟩ := blk3 (grn_at (old_at (bel_at HG.out HB1.out) _) hg2 (own_ne HO.out HG.out (by decide))); clear ho2 hg2))
  go_wp2
  all_goals
    go_ret
    have hb1 := HB1.out
    have hg0 := HG.out
    have hgw := old_at (bel_at hg0 hb1) (Obj.cells #[.int .i64 m.f, .int .i64 m.t, .slice A1 m.b.length c1] 38)
    have hg2 := grn_at hgw HG2.out (own_ne HO.out hg0 (by decide))
    have hf1 : Fr base [115, 38] w (w1.alloc (.cells #[.int .i64 m.f, .int .i64 m.t, .slice A1 m.b.length c1] 38)) := (Fr.of_below hb1).alloc _
    have hf2 : Fr base [115, 38] w w2 := hf1.grown HG2.out fun k hk => by
      obtain ⟨h1, cs, t', fr, h2, h3⟩ := own_blk ((own_bel HO.out hb1).alloc (Obj.cells #[.int .i64 m.f, .int .i64 m.t, .slice A1 m.b.length c1] 38)) k hk
      exact ⟨h1, cs, t', fr, h2, by rw [h3]; simp⟩
    refine ⟨rfl, ?_, ?_⟩
    · refine net_twice HP.out hg2 hbg HO2.out (fun p hp => ?_) ?_
      · have h0 := (own_bel (HBO.out p hp) hb1).alloc (Obj.cells #[.int .i64 m.f, .int .i64 m.t, .slice A1 m.b.length c1] 38)
        exact own_grn h0 HG2.out (own_types h0 ((own_bel HO.out hb1).alloc _) (by decide))
      · have h0 := (own_low HO1.out hbase).alloc (Obj.cells #[.int .i64 m.f, .int .i64 m.t, .slice A1 m.b.length c1] 38)
        exact own_grn h0 HG2.out (own_types h0 ((own_bel HO.out hb1).alloc _) (by decide))
    · exact hf2.setCell (p := ⟨g, 1, none⟩) hg2 hbg (by simp) _
end Go.Proofs.Ytelpdngfbddflaa
