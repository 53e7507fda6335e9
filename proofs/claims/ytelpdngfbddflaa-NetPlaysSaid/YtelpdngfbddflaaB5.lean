/- New, Sent, Drop, Twice of the net. Conditions: what each theorem's hypotheses say of the memory that it is handed. -/
import Derived.Test.YtelpdngfbddflaaB4
namespace Go.Proofs.Ytelpdngfbddflaa
open Go.RowKit
set_option linter.unusedVariables false
set_option linter.unusedSimpArgs false

set_option maxRecDepth 20000 in
set_option maxHeartbeats 400000 in
theorem new_bad (nodes : Int) (w : World) (h : nodes < 1 ∨ 5 < nodes) :
    Calls Try.prog 11 #[.int .i64 nodes] w fun e w' => e = .returned (.tuple #[.pointer none, .int .i64 1]) ∧ w = w' := by
  rcases h with h | h
  · go_enter Try.func11, Try.ntmps11
    go_wp2
    go_ret2
    exact ⟨rfl, rfl⟩
  · have h' : ¬ nodes < 1 := by omega
    go_enter Try.func11, Try.ntmps11
    go_wp2
    go_ret2
    exact ⟨rfl, rfl⟩
set_option maxRecDepth 20000 in
set_option maxHeartbeats 400000 in
theorem new_ok (nodes : Int) (w : World) (h1 : 1 ≤ nodes) (h2 : nodes ≤ 5) :
    Calls Try.prog 11 #[.int .i64 nodes] w fun e w' => e = .returned (.tuple #[.pointer (some ⟨w.heap.size, 0, none⟩), .int .i64 0]) ∧ w.alloc (.cells #[.int .i64 nodes, .slice none 0 0, .int .i64 0] 115) = w' := by
  go_enter Try.func11, Try.ntmps11
  go_wp2
  go_ret2
  exact ⟨rfl, rfl⟩
theorem net_at_new (nodes : Int) (w : World) : NetAt w.heap.size (w.alloc (.cells #[.int .i64 nodes, .slice none 0 0, .int .i64 0] 115)) w.heap.size nodes [] 0 :=
  ⟨.slice none 0 0, new_at w _, Nat.le_refl _, [], rfl, ⟨rfl, .inl ⟨rfl, rfl⟩⟩, by simp⟩

set_option maxRecDepth 20000 in
set_option maxHeartbeats 400000 in
theorem sent_any (base g : Nat) (nodes : Int) (sent : Nat) (l : List M) (w : World) (hN : NetAt base w g nodes l sent) :
    Calls Try.prog 22 #[.pointer (some ⟨g, 0, none⟩)] w fun e w' => e = .returned (.int .i64 sent) ∧ w = w' := by
  obtain ⟨vl, hg, hbg, hr⟩ := hN
  obtain ⟨c0, c1, c2, f0, f1, f2⟩ := blk3 hg
  clear hg hr
  go_enter Try.func22, Try.ntmps22
  go_wp2
  go_ret
  exact ⟨rfl, rfl⟩

/-- What Take takes out. -/
def takeL (l : List M) (k : Int) : List M := l.eraseIdx (findAt l.length k)
theorem findAt_nil (k : Int) : True := trivial

set_option maxRecDepth 20000 in
set_option maxHeartbeats 400000 in
theorem drop_none (base g : Nat) (nodes : Int) (sent : Nat) (k : Int) (w : World) (hN : NetAt base w g nodes [] sent) :
    Calls Try.prog 18 #[.pointer (some ⟨g, 0, none⟩), .int .i64 k] w fun e w' => e = .returned (.bool false) ∧ Below w.heap.size w w' := by
  have HN := Kp.mk hN
  clear hN
  go_enter Try.func18, Try.ntmps18
  go_wp2_with (go_at_call 15; go_loud (refine (take_none base g nodes sent k _ HN.out).mono ?_); go_loud (rintro e w1 ⟨rfl, hb⟩); have HB := Kp.mk hb; clear hb)
  go_ret
  exact ⟨rfl, HB.out.alloc HB.out.size _⟩

set_option maxRecDepth 20000 in
set_option maxHeartbeats 400000 in
theorem drop_some (base g : Nat) (nodes : Int) (sent : Nat) (l : List M) (k : Int) (w : World) (hN : NetAt base w g nodes l sent) (hbase : base ≤ w.heap.size)
    (hn : 0 < l.length) (hm : l.length ≤ 1000) (hk0 : -9223372036854775808 ≤ k) (hk1 : k ≤ 9223372036854775807) (hb : Kp (∀ m ∈ l, m.b.length ≤ 140737488355328)) :
    Calls Try.prog 18 #[.pointer (some ⟨g, 0, none⟩), .int .i64 k] w fun e w' => e = .returned (.bool true) ∧ NetAt base w' g nodes (l.eraseIdx (findAt l.length k)) sent ∧ Fr base [115, 38] w w' := by
  have HN := Kp.mk hN
  have hlt := findAt_lt k hn
  obtain ⟨m, hmi⟩ : ∃ m, l[findAt l.length k]? = some m := ⟨_, List.getElem?_eq_getElem hlt⟩
  have HM := Kp.mk hmi
  have hmb := hb.out m (List.mem_of_getElem? hmi)
  have HMB := Kp.mk hmb
  clear hN hmi hmb hlt
  go_enter Try.func18, Try.ntmps18
  go_wp2_with (go_at_call 15; go_loud (refine (take_some base g nodes sent l k _ m _ HN.out hbase hn hm hk0 hk1 rfl HM.out HMB).mono ?_); go_loud (rintro e w1 ⟨A1, c1, rfl, r1, r2, r3, r4⟩); have R2 := Kp.mk r2; have R3 := Kp.mk r3; clear r1 r2 r3 r4)
  go_ret
  exact ⟨rfl, R2.out.fr ((Fr.refl 0 [] w1).alloc _) (by simp) (by simp) (by simp), R3.out.alloc _⟩
end Go.Proofs.Ytelpdngfbddflaa
