/- The net in memory, and what its calls do. Conditions: what each theorem's hypotheses say of the memory that it is handed. -/
import Derived.Test.YtelpdngfbddflaaB2
import Derived.Deep.RegionWith
import Derived.Deep.RegionHeld3
namespace Go.Proofs.Ytelpdngfbddflaa
open Go.RowKit
set_option linter.unusedVariables false
set_option linter.unusedSimpArgs false

/-- A message: from, to, its bytes. -/
structure M where
  f : Int
  t : Int
  b : List UInt8

def mcells (ps : List (M × Value)) : List Value := ps.flatMap fun p => [.int .i64 p.1.f, .int .i64 p.1.t, p.2]
theorem mcells_length (ps : List (M × Value)) : (mcells ps).length = ps.length * 3 := by
  induction ps with
  | nil => rfl
  | cons p r ih => simp [mcells] at ih ⊢; omega

/-- A row of messages of one's own. -/
def MRow (w : World) (base : Nat) (v : Value) (l : List M) : Prop :=
  ∃ ps : List (M × Value), ps.map Prod.fst = l ∧ w.ownsRow base 38 3 v l.length (mcells ps) ∧ ∀ p ∈ ps, w.ownsRow base 5 1 p.2 p.1.b.length (u8s p.1.b)

/-- The net at block g. -/
def NetAt (base : Nat) (w : World) (g : Nat) (nodes : Int) (l : List M) (sent : Nat) : Prop :=
  ∃ v, w.heap[g]? = some (.cells #[.int .i64 nodes, v, .int .i64 sent] 115 (0, 0)) ∧ base ≤ g ∧ MRow w base v l

theorem MRow.fr {w w' : World} {base base' : Nat} {T : List TypeId} {v : Value} {l : List M} (h : MRow w base v l) (hf : Fr base' T w w') (h1 : 38 ∉ T) (h2 : 5 ∉ T) : MRow w' base v l := by
  obtain ⟨ps, hp, ho, hb⟩ := h
  exact ⟨ps, hp, hf.own ho h1, fun p hm => hf.own (hb p hm) h2⟩
theorem NetAt.fr {w w' : World} {base base' : Nat} {T : List TypeId} {g : Nat} {nodes : Int} {l : List M} {sent : Nat} (h : NetAt base w g nodes l sent) (hf : Fr base' T w w') (h0 : 115 ∉ T) (h1 : 38 ∉ T) (h2 : 5 ∉ T) : NetAt base w' g nodes l sent := by
  obtain ⟨v, hg, hbg, hm⟩ := h
  exact ⟨v, hf.blk hg h0, hbg, hm.fr hf h1 h2⟩

def badNode (nodes f t : Int) : Bool := decide (f < 0) || decide (nodes ≤ f) || decide (t < 0) || decide (nodes ≤ t)

set_option maxRecDepth 20000 in
set_option maxHeartbeats 400000 in
theorem send_bad (g : Nat) (nodes sent f t : Int) (vl v : Value) (w : World) (hg : w.heap[g]? = some (.cells #[.int .i64 nodes, vl, .int .i64 sent] 115 (0, 0))) (hbad : badNode nodes f t = true) :
    Calls Try.prog 13 #[.pointer (some ⟨g, 0, none⟩), .int .i64 f, .int .i64 t, v] w fun e w' => e = .returned (.int .i64 1) ∧ w' = w := by
  obtain ⟨c0, c1, c2, f0, f1, f2⟩ := blk3 hg
  clear hg
  by_cases h1 : f < 0
  · clear hbad
    go_enter Try.func13, Try.ntmps13
    go_wp2
    go_ret
    exact ⟨rfl, rfl⟩
  · by_cases h2 : nodes ≤ f
    · clear hbad
      go_enter Try.func13, Try.ntmps13
      go_wp2
      go_ret
      exact ⟨rfl, rfl⟩
    · by_cases h3 : t < 0
      · clear hbad
        go_enter Try.func13, Try.ntmps13
        go_wp2
        go_ret
        exact ⟨rfl, rfl⟩
      · have h4 : nodes ≤ t := by simpa [badNode, h1, h2, h3] using hbad
        clear hbad
        go_enter Try.func13, Try.ntmps13
        go_wp2
        go_ret
        exact ⟨rfl, rfl⟩

set_option maxRecDepth 20000 in
set_option maxHeartbeats 400000 in
theorem send_full (g : Nat) (nodes sent f t : Int) (A : Option Addr) (n c : Nat) (v : Value) (w : World) (hg : w.heap[g]? = some (.cells #[.int .i64 nodes, .slice A n c, .int .i64 sent] 115 (0, 0))) (hbad : badNode nodes f t = false) (hn : 512 ≤ n) :
    Calls Try.prog 13 #[.pointer (some ⟨g, 0, none⟩), .int .i64 f, .int .i64 t, v] w fun e w' => e = .returned (.int .i64 13) ∧ w' = w := by
  obtain ⟨c0, c1, c2, f0, f1, f2⟩ := blk3 hg
  clear hg
  simp [badNode] at hbad
  obtain ⟨⟨⟨h1, h2⟩, h3⟩, h4⟩ := hbad
  go_enter Try.func13, Try.ntmps13
  go_wp2
  go_ret
  exact ⟨rfl, rfl⟩

theorem mcells_append (a b : List (M × Value)) : mcells (a ++ b) = mcells a ++ mcells b := by simp [mcells]

theorem net_snoc {base g : Nat} {nodes f t : Int} {sent : Nat} {l : List M} {ps : List (M × Value)} {bs : List UInt8} {w2 : World} {vl v1 v2 : Value} (hps : ps.map Prod.fst = l)
    (hg : w2.heap[g]? = some (.cells #[.int .i64 nodes, vl, .int .i64 sent] 115 (0, 0))) (hbg : base ≤ g)
    (ho : w2.ownsRow base 38 3 v2 (l.length + 1) (mcells ps ++ [.int .i64 f, .int .i64 t, v1])) (hb : ∀ p ∈ ps, w2.ownsRow base 5 1 p.2 p.1.b.length (u8s p.1.b))
    (h1 : w2.ownsRow base 5 1 v1 bs.length (u8s bs)) :
    NetAt base ((w2.setCell ⟨g, 1, none⟩ v2).setCell ⟨g, 2, none⟩ (.int .i64 ((sent : Int) + 1))) g nodes (l ++ [⟨f, t, bs⟩]) (sent + 1) := by
  have s1 := set_at hg 1 v2
  have s2 := set_at s1 2 (.int .i64 ((sent : Int) + 1))
  have hf : Fr base [115] w2 ((w2.setCell ⟨g, 1, none⟩ v2).setCell ⟨g, 2, none⟩ (.int .i64 ((sent : Int) + 1))) :=
    ((Fr.refl base [115] w2).setCell (p := ⟨g, 1, none⟩) hg hbg (by simp) _).setCell (p := ⟨g, 2, none⟩) s1 hbg (by simp) _
  refine ⟨v2, s2, hbg, ps ++ [(⟨f, t, bs⟩, v1)], by simp [hps], ?_, ?_⟩
  · have : (l ++ [(⟨f, t, bs⟩ : M)]).length = l.length + 1 := by simp
    rw [this, mcells_append]
    exact hf.own ho (by simp)
  · intro p hp
    rcases List.mem_append.1 hp with hp | hp
    · exact hf.own (hb p hp) (by simp)
    · rw [List.mem_singleton.1 hp]
      exact hf.own h1 (by simp)

set_option maxRecDepth 20000 in
set_option maxHeartbeats 400000 in
theorem send_ok (base g : Nat) (nodes f t : Int) (sent : Nat) (l : List M) (bs : List UInt8) (v : Value) (w : World) (hN : NetAt base w g nodes l sent) (hbase : base ≤ w.heap.size) (hbad : badNode nodes f t = false) (hn : l.length < 512)
    (hs : sent < 1000000) (hb : Kp (bs.length ≤ 140737488355328)) (h : Rd w 1 v bs.length (u8s bs)) :
    Calls Try.prog 13 #[.pointer (some ⟨g, 0, none⟩), .int .i64 f, .int .i64 t, v] w fun e w' => e = .returned (.int .i64 0) ∧ NetAt base w' g nodes (l ++ [⟨f, t, bs⟩]) (sent + 1) ∧ Fr base [115, 38] w w' := by
  obtain ⟨vl, hg, hbg, ps, hps, ho, hbodies⟩ := hN
  obtain ⟨A, c, rfl, hlc⟩ := own_slice ho
  obtain ⟨c0, c1, c2, f0, f1, f2⟩ := blk3 hg
  have HO := Kp.mk ho
  have HBO := Kp.mk hbodies
  have H := Kp.mk h
  have HG := Kp.mk hg
  have HPS := Kp.mk hps
  have HN := Kp.mk hn
  simp [badNode] at hbad
  obtain ⟨⟨⟨h1, h2⟩, h3⟩, h4⟩ := hbad
  clear hg ho hbodies h hps
  go_enter Try.func13, Try.ntmps13
  go_wp2_with fail
  go_region_law (first
    | (go_simp; go_at_call 55; refine (clone_any bs _ _ hb ?_).mono ?_; exact H.out.below ((Below.refl _ _).drew); rintro e w1 ⟨A1, c1, rfl, ho1, hb1⟩; obtain ⟨d0, d1, d2, d3, d4, d5⟩ := blk3 (bel_at (w := w.drew) HG.out hb1); have HO1 := Kp.mk ho1; have HB1 := Kp.mk (bel_drew hb1); have dd := fun o => (blk3 (old_at (bel_at (w := w.drew) HG.out hb1) o)).2.1; clear ho1 hb1)
    | (refine step_ap rfl (.tmp 43) (.tmp 49) 48 rfl base 38 _ 3 40 Try.underlying48 Try.info38 rfl (by decide) (.slice A l.length c) l.length (mcells ps) (by simp [Act.eval, Act.put]) ?_ 1 [.int .i64 f, .int .i64 t, .slice A1 bs.length c1] _ (by simp [Act.eval, Act.put]; rfl) ?_ ?_ ?_ (by decide) ?_ ?_; exact (own_bel HO.out HB1.out).alloc _; exact rd_new w1 _ 38 3 1 rfl; exact (by simp [Value.oneCell']); exact ⟨by have := HN.out; omega⟩; exact (by have := HB1.out.size; simp; omega); rintro v2 w2 ho2 hg2; obtain ⟨A2, c2, rfl, _⟩ := own_slice ho2; have HO2 := Kp.mk ho2; have HG2 := Kp.mk hg2; obtain ⟨d0, d1, d2, d3, d4, d5⟩ := blk3 (grn_at (old_at (bel_at HG.out HB1.out) _) hg2 (own_ne HO.out HG.out (by decide))); clear ho2 hg2))
  go_wp2
  all_goals
    go_ret
    have hb1 := HB1.out
    have hg0 := HG.out
    have hgw := old_at (bel_at hg0 hb1) (Obj.cells #[.int .i64 f, .int .i64 t, .slice A1 bs.length c1] 38)
    have hg2 := grn_at hgw HG2.out (own_ne HO.out hg0 (by decide))
    have hf1 : Fr base [115, 38] w (w1.alloc (.cells #[.int .i64 f, .int .i64 t, .slice A1 bs.length c1] 38)) := (Fr.of_below hb1).alloc _
    have hf2 : Fr base [115, 38] w w2 := hf1.grown HG2.out fun k hk => by
      obtain ⟨h1, cs, t', fr, h2, h3⟩ := own_blk ((own_bel HO.out hb1).alloc (Obj.cells #[.int .i64 f, .int .i64 t, .slice A1 bs.length c1] 38)) k hk
      exact ⟨h1, cs, t', fr, h2, by rw [h3]; simp⟩
    refine ⟨rfl, ?_, ?_⟩
    · refine net_snoc HPS.out hg2 hbg HO2.out (fun p hp => ?_) ?_
      · have h0 := (own_bel (HBO.out p hp) hb1).alloc (Obj.cells #[.int .i64 f, .int .i64 t, .slice A1 bs.length c1] 38)
        exact own_grn h0 HG2.out (own_types h0 ((own_bel HO.out hb1).alloc _) (by decide))
      · have h0 := (own_low HO1.out hbase).alloc (Obj.cells #[.int .i64 f, .int .i64 t, .slice A1 bs.length c1] 38)
        exact own_grn h0 HG2.out (own_types h0 ((own_bel HO.out hb1).alloc _) (by decide))
    · have s1 := set_at hg2 1 (.slice A2 (l.length + 1) c2)
      exact (hf2.setCell (p := ⟨g, 1, none⟩) hg2 hbg (by simp) _).setCell (p := ⟨g, 2, none⟩) s1 hbg (by simp) _
end Go.Proofs.Ytelpdngfbddflaa
