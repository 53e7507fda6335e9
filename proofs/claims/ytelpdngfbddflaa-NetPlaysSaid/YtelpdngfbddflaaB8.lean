/- The reference's net in memory: its place, Send, Twice. Conditions: what each theorem's hypotheses say of the memory that it is handed. -/
import Derived.Test.YtelpdngfbddflaaB7
namespace Go.Proofs.Ytelpdngfbddflaa
open Go.RowKit
set_option linter.unusedVariables false
set_option linter.unusedSimpArgs false

theorem Try.info42 : (Try.prog.info? 42).map (fun i => (i.zero, i.size, i.bytes)) = some (some (.agg #[.int .i64 0, .int .i64 0, .string ⟨#[]⟩]), 3, 32) := by kernel_rfl

def strOf (bs : List UInt8) : ByteArray := ⟨bs.toArray⟩
def rcells (l : List M) : List Value := l.flatMap fun m => [.int .i64 m.f, .int .i64 m.t, .string (strOf m.b)]
theorem rcells_length (l : List M) : (rcells l).length = l.length * 3 := by
  induction l with
  | nil => rfl
  | cons p r ih => simp [rcells] at ih ⊢; omega
theorem rcells_append (a b : List M) : rcells (a ++ b) = rcells a ++ rcells b := by simp [rcells]
theorem rcells_one (l : List M) : ∀ u ∈ rcells l, u.oneCell' = true := by
  intro u hu
  simp only [rcells, List.mem_flatMap] at hu
  obtain ⟨p, hp, hu⟩ := hu
  simp at hu
  rcases hu with rfl | rfl | rfl <;> rfl
theorem rcells_get (l : List M) (i : Nat) (m : M) (h : l[i]? = some m) :
    (rcells l)[i * 3]? = some (.int .i64 m.f) ∧ (rcells l)[i * 3 + 1]? = some (.int .i64 m.t) ∧ (rcells l)[i * 3 + 2]? = some (.string (strOf m.b)) := by
  induction l generalizing i with
  | nil => simp at h
  | cons p r ih =>
    cases i with
    | zero => simp at h; subst h; simp [rcells]
    | succ i =>
      simp at h
      have := ih i h
      simp only [rcells, List.flatMap_cons] at this ⊢
      rw [show (i + 1) * 3 = i * 3 + 3 by omega]
      simpa using this
theorem rcells_take (l : List M) (i : Nat) (h : i ≤ l.length) : rcells (l.take i) = (rcells l).take (i * 3) := by
  induction l generalizing i with
  | nil => simp [rcells]
  | cons p r ih =>
    cases i with
    | zero => simp [rcells]
    | succ i =>
      have := ih i (by simpa using h)
      rw [List.take_succ_cons]
      simp only [rcells, List.flatMap_cons] at this ⊢
      rw [this, show (i + 1) * 3 = i * 3 + 3 by omega]
      simp
theorem rcells_drop (l : List M) (i : Nat) (h : i ≤ l.length) : rcells (l.drop i) = (rcells l).drop (i * 3) := by
  induction l generalizing i with
  | nil => simp [rcells]
  | cons p r ih =>
    cases i with
    | zero => simp [rcells]
    | succ i =>
      have := ih i (by simpa using h)
      rw [List.drop_succ_cons]
      simp only [rcells, List.flatMap_cons] at this ⊢
      rw [this, show (i + 1) * 3 = i * 3 + 3 by omega]
      simp

/-- The reference's net at block g. -/
def RefAt (base : Nat) (w : World) (g : Nat) (nodes : Int) (l : List M) (sent : Nat) : Prop :=
  ∃ v, w.heap[g]? = some (.cells #[.int .i64 nodes, v, .int .i64 sent] 31 (0, 0)) ∧ base ≤ g ∧ w.ownsRow base 42 3 v l.length (rcells l)
theorem RefAt.fr {w w' : World} {base base' : Nat} {T : List TypeId} {g : Nat} {nodes : Int} {l : List M} {sent : Nat} (h : RefAt base w g nodes l sent) (hf : Fr base' T w w') (h0 : 31 ∉ T) (h1 : 42 ∉ T) : RefAt base w' g nodes l sent := by
  obtain ⟨v, hg, hbg, hm⟩ := h
  exact ⟨v, hf.blk hg h0, hbg, hf.own hm h1⟩

set_option maxRecDepth 20000 in
set_option maxHeartbeats 400000 in
theorem at_nil (g : Nat) (a b : Value) (A : Option Addr) (c : Nat) (k : Int) (w : World) (hg : w.heap[g]? = some (.cells #[a, .slice A 0 c, b] 31 (0, 0))) :
    Calls Try.prog 59 #[.pointer (some ⟨g, 0, none⟩), .int .i64 k] w fun e w' => e = .returned (.int .i64 (-1)) ∧ w = w' := by
  obtain ⟨c0, c1, c2, f0, f1, f2⟩ := blk3 hg
  clear hg
  go_enter Try.func59, Try.ntmps59
  go_wp2
  go_ret
  exact ⟨rfl, rfl⟩
set_option maxRecDepth 20000 in
set_option maxHeartbeats 400000 in
theorem at_pos (g n : Nat) (a b : Value) (A : Option Addr) (c : Nat) (k : Int) (w : World) (hg : w.heap[g]? = some (.cells #[a, .slice A n c, b] 31 (0, 0))) (hn : 0 < n) (hm : n ≤ 1000)
    (hk0 : -9223372036854775808 ≤ k) (hk1 : k ≤ 9223372036854775807) :
    Calls Try.prog 59 #[.pointer (some ⟨g, 0, none⟩), .int .i64 k] w fun e w' => e = .returned (.int .i64 (findAt n k : Nat)) ∧ w = w' := by
  obtain ⟨c0, c1, c2, f0, f1, f2⟩ := blk3 hg
  clear hg
  have h2 := Int.emod_nonneg k (show (n : Int) ≠ 0 by omega)
  have h4 := Int.emod_nonneg (-(k + 1)) (show (n : Int) ≠ 0 by omega)
  by_cases hk : 0 ≤ k
  · have HF : Kp ((findAt n k : Int) = k % (n : Int)) := ⟨by unfold findAt; rw [if_pos hk]; omega⟩
    clear h2 h4
    go_enter Try.func59, Try.ntmps59
    go_wp2
    go_ret
    exact ⟨ret_int_ HF.out.symm, rfl⟩
  · have HF : Kp ((findAt n k : Int) = (-(k + 1)) % (n : Int)) := ⟨by unfold findAt; rw [if_neg hk]; omega⟩
    clear h2 h4
    go_enter Try.func59, Try.ntmps59
    go_wp2
    go_ret
    exact ⟨ret_int_ (by first | exact HF.out.symm | (rw [← Int.neg_tmod, Int.tmod_eq_emod_of_nonneg (by omega)]; exact HF.out.symm)), rfl⟩

set_option maxRecDepth 20000 in
set_option maxHeartbeats 400000 in
theorem send2_bad (g : Nat) (nodes sent f t : Int) (vl v : Value) (w : World) (hg : w.heap[g]? = some (.cells #[.int .i64 nodes, vl, .int .i64 sent] 31 (0, 0))) (hbad : badNode nodes f t = true) :
    Calls Try.prog 14 #[.pointer (some ⟨g, 0, none⟩), .int .i64 f, .int .i64 t, v] w fun e w' => e = .returned (.int .i64 1) ∧ w = w' := by
  obtain ⟨c0, c1, c2, f0, f1, f2⟩ := blk3 hg
  clear hg
  by_cases h1 : f < 0
  · clear hbad
    go_enter Try.func14, Try.ntmps14
    go_wp2
    go_ret
    exact ⟨rfl, rfl⟩
  · by_cases h2 : nodes ≤ f
    · clear hbad
      go_enter Try.func14, Try.ntmps14
      go_wp2
      go_ret
      exact ⟨rfl, rfl⟩
    · by_cases h3 : t < 0
      · clear hbad
        go_enter Try.func14, Try.ntmps14
        go_wp2
        go_ret
        exact ⟨rfl, rfl⟩
      · have h4 : nodes ≤ t := by simpa [badNode, h1, h2, h3] using hbad
        clear hbad
        go_enter Try.func14, Try.ntmps14
        go_wp2
        go_ret
        exact ⟨rfl, rfl⟩

set_option maxRecDepth 20000 in
set_option maxHeartbeats 400000 in
theorem send2_full (g : Nat) (nodes sent f t : Int) (A : Option Addr) (n c : Nat) (v : Value) (w : World) (hg : w.heap[g]? = some (.cells #[.int .i64 nodes, .slice A n c, .int .i64 sent] 31 (0, 0))) (hbad : badNode nodes f t = false) (hn : 512 ≤ n) :
    Calls Try.prog 14 #[.pointer (some ⟨g, 0, none⟩), .int .i64 f, .int .i64 t, v] w fun e w' => e = .returned (.int .i64 13) ∧ w = w' := by
  obtain ⟨c0, c1, c2, f0, f1, f2⟩ := blk3 hg
  clear hg
  simp [badNode] at hbad
  obtain ⟨⟨⟨h1, h2⟩, h3⟩, h4⟩ := hbad
  go_enter Try.func14, Try.ntmps14
  go_wp2
  go_ret
  exact ⟨rfl, rfl⟩

theorem ref_snoc {base g : Nat} {nodes : Int} {sent : Nat} {l : List M} {m : M} {w2 : World} {vl v2 : Value}
    (hg : w2.heap[g]? = some (.cells #[.int .i64 nodes, vl, .int .i64 sent] 31 (0, 0))) (hbg : base ≤ g)
    (ho : w2.ownsRow base 42 3 v2 (l.length + 1) (rcells l ++ [.int .i64 m.f, .int .i64 m.t, .string (strOf m.b)])) :
    RefAt base ((w2.setCell ⟨g, 1, none⟩ v2).setCell ⟨g, 2, none⟩ (.int .i64 ((sent : Int) + 1))) g nodes (l ++ [m]) (sent + 1) ∧
    RefAt base (w2.setCell ⟨g, 1, none⟩ v2) g nodes (l ++ [m]) sent := by
  have s1 := set_at hg 1 v2
  have s2 := set_at s1 2 (.int .i64 ((sent : Int) + 1))
  have hf1 : Fr base [31] w2 (w2.setCell ⟨g, 1, none⟩ v2) := (Fr.refl base [31] w2).setCell (p := ⟨g, 1, none⟩) hg hbg (by simp) _
  have hf : Fr base [31] w2 ((w2.setCell ⟨g, 1, none⟩ v2).setCell ⟨g, 2, none⟩ (.int .i64 ((sent : Int) + 1))) := hf1.setCell (p := ⟨g, 2, none⟩) s1 hbg (by simp) _
  have hl : (l ++ [m]).length = l.length + 1 := by simp
  have hc : rcells (l ++ [m]) = rcells l ++ [.int .i64 m.f, .int .i64 m.t, .string (strOf m.b)] := by simp [rcells]
  exact ⟨⟨v2, s2, hbg, by rw [hl, hc]; exact hf.own ho (by simp)⟩, ⟨v2, s1, hbg, by rw [hl, hc]; exact hf1.own ho (by simp)⟩⟩

set_option maxRecDepth 20000 in
set_option maxHeartbeats 1000000 in
theorem send2_ok (base g : Nat) (nodes f t : Int) (sent : Nat) (l : List M) (bs : List UInt8) (w : World) (hN : RefAt base w g nodes l sent) (hbase : base ≤ w.heap.size) (hbad : badNode nodes f t = false) (hn : l.length < 512)
    (hs : sent < 1000000) :
    Calls Try.prog 14 #[.pointer (some ⟨g, 0, none⟩), .int .i64 f, .int .i64 t, .string (strOf bs)] w fun e w' => e = .returned (.int .i64 0) ∧ RefAt base w' g nodes (l ++ [⟨f, t, bs⟩]) (sent + 1) ∧ Fr base [31, 42] w w' := by
  obtain ⟨vl, hg, hbg, ho⟩ := hN
  obtain ⟨A, c, rfl, hlc⟩ := own_slice ho
  obtain ⟨c0, c1, c2, f0, f1, f2⟩ := blk3 hg
  have hgs := blkl hg
  have HO := Kp.mk ho
  have HG := Kp.mk hg
  have HN := Kp.mk hn
  simp [badNode] at hbad
  obtain ⟨⟨⟨h1, h2⟩, h3⟩, h4⟩ := hbad
  clear hg ho
  go_enter Try.func14, Try.ntmps14
  go_wp2_with (at_builtin; refine ap_own _ rfl (.tmp 41) (.tmp 46) 29 rfl base 42 _ 3 32 Try.underlying29 Try.info42 rfl (by decide) (.slice A l.length c) l.length (rcells l) rfl ?c1 1 [.int .i64 f, .int .i64 t, .string (strOf bs)] _ rfl ?c2 ?c3 ?c4 (by decide) ?c5 ?c6)
  case c1 => exact HO.out.alloc _
  case c2 => exact rd_new w _ 42 3 1 rfl
  case c3 => simp [Value.oneCell']
  case c4 => exact ⟨by have := HN.out; omega⟩
  case c5 => simp; omega
  case c6 =>
    intro v2 w2 ho2 hg2
    obtain ⟨A2, c2, rfl, _⟩ := own_slice ho2
    have HO2 := Kp.mk ho2
    have HG2 := Kp.mk hg2
    obtain ⟨d0, d1, d2, d3, d4, d5⟩ := blk3 (grn_at (old_at HG.out _) hg2 (own_ne HO.out HG.out (by decide)))
    clear ho2 hg2
    go_wp2
    go_ret
    have hg0 := HG.out
    have hgw := old_at hg0 (Obj.cells #[.int .i64 f, .int .i64 t, .string (strOf bs)] 42)
    have hg2 := grn_at hgw HG2.out (own_ne HO.out hg0 (by decide))
    have hf2 : Fr base [31, 42] w w2 := ((Fr.refl base [31, 42] w).alloc _).grown HG2.out fun k hk => by
      obtain ⟨h1, cs, t', fr, h2, h3⟩ := own_blk (HO.out.alloc (Obj.cells #[.int .i64 f, .int .i64 t, .string (strOf bs)] 42)) k hk
      exact ⟨h1, cs, t', fr, h2, by rw [h3]; simp⟩
    refine ⟨rfl, (ref_snoc (m := ⟨f, t, bs⟩) hg2 hbg HO2.out).1, ?_⟩
    have s1 := set_at hg2 1 (.slice A2 (l.length + 1) c2)
    exact (hf2.setCell (p := ⟨g, 1, none⟩) hg2 hbg (by simp) _).setCell (p := ⟨g, 2, none⟩) s1 hbg (by simp) _

end Go.Proofs.Ytelpdngfbddflaa
