/- Some of chapter 5's runs answer true. No condition. -/
import Derived.Test.YtelpdngfbddflaaC0
import Derived.Lib.SlBytesConst
namespace Go.Proofs.Ytelpdngfbddflaa
open Go.RowKit
set_option linter.unusedVariables false
set_option linter.unusedSimpArgs false

theorem NetAt.row_lt {base : Nat} {w : World} {g : Nat} {nodes : Int} {l : List M} {sent : Nat} (h : NetAt base w g nodes l sent) : ∃ vl, w.heap[g]? = some (.cells #[.int .i64 nodes, vl, .int .i64 sent] 115 (0, 0)) ∧ ∀ k, vl.ownBlock = some k → k < w.heap.size := by
  obtain ⟨vl, hg, hbg, ps, hps, ho, hb⟩ := h
  exact ⟨vl, hg, fun k hk => (ho.lt k hk).2⟩

theorem rd_newf (w : World) (cs : Array Value) (e : TypeId) (fr : Nat × Nat) (size n : Nat) (h : cs.size = n * size) : Rd (w.alloc (.cells cs e fr)) size (.slice (some ⟨w.heap.size, 0, none⟩) n n) n cs.toList :=
  ⟨_, n, rfl, Nat.le_refl _, by simpa using h, fun j u hj => ⟨_, rfl, by
    have hadd : (⟨w.heap.size, 0, none⟩ : Addr).add j = ⟨w.heap.size, j, none⟩ := by unfold Addr.add; split <;> simp_all
    rw [hadd, cell_of_row _ w.heap.size j cs e fr (new_at w _)]
    simpa using hj⟩⟩

def mA : M := ⟨0, 1, [97]⟩

theorem new_ok' (nodes : Int) (w : World) (h1 : 1 ≤ nodes) (h2 : nodes ≤ 5) :
    Calls Try.prog 11 #[.int .i64 nodes] w fun e w' => e = .returned (.tuple #[.pointer (some ⟨w.heap.size, 0, none⟩), .int .i64 0]) ∧ NetAt w.heap.size w' w.heap.size nodes [] 0 ∧ Below w.heap.size w w' :=
  (new_ok nodes w h1 h2).mono (by rintro e w' ⟨rfl, rfl⟩; exact ⟨rfl, net_at_new nodes w, (Below.refl _ _).alloc (Nat.le_refl _) _⟩)

set_option maxRecDepth 20000 in
set_option maxHeartbeats 2000000 in
theorem known5 (w : World) :
    Calls Try.prog 12 #[] w fun e w' => e = .returned (.bool true) ∧ Below w.heap.size w w' := by
  obtain ⟨g, hgw⟩ : ∃ g, g = w.heap.size := ⟨_, rfl⟩
  have HGW := Kp.mk hgw
  have hb1 : Kp ([97].length ≤ 140737488355328) := ⟨by decide⟩
  clear hgw
  have hA1 : (strOf mA.b).toList = [97] := by as_aux_lemma => kernel_rfl
  have hA2 : mA.t = 1 := rfl
  have kc := fun (w : World) (C : Array Value) (n c : Nat) => Lib.run_convert_bytes_const (P := Try.prog) w 35 5 C n c Try.underlying35 Try.underlying5
  go_enter Try.func12, Try.ntmps12
  go_wp2_with (first
    | (go_at_call 11; go_loud (refine (new_ok' 3 _ (by decide) (by decide)).mono ?_); go_loud (rintro e w1 ⟨rfl, r1, r2⟩); rw [← HGW.out] at r1 ⊢; have HN0 := Kp.mk r1; have HF0 := Kp.mk r2; clear r1 r2)
    | (go_at_call 13; go_loud (refine (send_ok g g 3 0 1 0 [] [97] _ _ (HN0.out.fr ((Fr.refl 0 [] _).alloc _) (by simp) (by simp) (by simp)) (by have := HF0.out.size; have := HGW.out; simp; omega) (by decide) (by decide) (by decide) hb1 (rd_newf _ #[.int .u8 97] 5 (1, 2) 1 1 rfl)).mono ?_); go_loud (rintro e w2 ⟨rfl, r1, r2⟩); have HN1 := Kp.mk r1; have HF1 := Kp.mk r2; clear r1 r2)
    | (go_at_call 20; go_loud (refine (twice_some g g 3 1 [mA] 0 0 mA _ HN1.out (by have := HF0.out.size; have := HF1.out.size; have := HGW.out; simp at *; omega) (by decide) (by decide) (by decide) (by decide) (by decide) rfl hb1).mono ?_); go_loud (rintro e w3 ⟨rfl, r1, r2⟩); have HN2 := Kp.mk r1; have HF2 := Kp.mk r2; have HS2 : Kp (g ≤ w3.heap.size) := ⟨by have := HF0.out.size; have := HF1.out.size; have := r2.size; have := HGW.out; simp at *; omega⟩; clear r1 r2)
    | (go_at_call 15; go_loud (refine (take_none g g 3 1 0 _ (HNc.out.fr ((Fr.refl 0 [] _).alloc _) (by simp) (by simp) (by simp))).mono ?_); go_loud (rintro e w6 ⟨rfl, r2⟩); obtain ⟨x0, x1, x2, x3, x4, x5⟩ := blk3 (bel_at (old_at HBXb.out _) r2); obtain ⟨y0, y1, y2, y3, y4, y5⟩ := blk3 (bel_at (new_at _ _) r2); have hz1 := blkl (bel_at (old_at HBXb.out _) r2); have hz2 := blkl (bel_at (new_at _ _) r2); have hq4 := fun o => conv_str mA.b A4 c4 (w6.alloc o) (Rd.of_own ((own_bel ((HFc.out.own (HRb.out.alloc _) (by simp)).alloc _) r2).alloc o)); have hq5 := fun o => conv_str mA.b A5 c5 (w6.alloc o) (Rd.of_own ((own_bel (HRc.out.alloc _) r2).alloc o)); have HFd := Kp.mk r2; clear r2)
    | (go_at_call 15; go_loud (refine (take_some g g 3 1 [mA] 7 0 mA _ (HNb.out.fr ((Fr.refl 0 [] _).alloc _) (by simp) (by simp) (by simp)) (by have := HSb.out; simp; omega) (by decide) (by decide) (by decide) (by decide) (by decide) rfl hb1).mono ?_); go_loud (rintro e w5 ⟨A5, c5, rfl, r1, r2, r3, r4⟩);
        obtain ⟨vl, hv1, hv2⟩ := HNb.out.row_lt;
        have hbx := (r4 vl (old_at hv1 _)).2 _ _ (new_at _ _) (by intro e; have h1 := blkl hv1; omega) (by intro e; have := hv2 _ e.symm; omega);
        have HBXb := Kp.mk hbx; have HRc := Kp.mk r1; have HNc := Kp.mk r2; have HFc := Kp.mk r3; have HSc : Kp (g ≤ w5.heap.size) := ⟨by have := HSb.out; have h2 := r3.size; simp at h2; omega⟩; clear r1 r2 r3 r4 hv1 hv2 hbx)
    | (go_at_call 15; go_loud (refine (take_some g g 3 1 [mA, mA] 0 0 mA _ HN2.out HS2.out (by decide) (by decide) (by decide) (by decide) (by decide) rfl hb1).mono ?_); go_loud (rintro e w4 ⟨A4, c4, rfl, r1, r2, r3, r4⟩); have HRb := Kp.mk r1; have HNb : Kp (NetAt g w4 g 3 [mA] 1) := Kp.mk r2; have HFb := Kp.mk r3; have HSb : Kp (g ≤ w4.heap.size) := ⟨by have := HS2.out; have := r3.size; omega⟩; clear r1 r2 r3 r4))
  go_ret
  refine ⟨rfl, ?_⟩
  have b0 := HF0.out
  rw [← HGW.out] at b0 ⊢
  have s0 : g ≤ w1.heap.size := by have := b0.size; have := HGW.out; omega
  have s1 : g ≤ w2.heap.size := by have := HF1.out.size; simp at this; omega
  have b1 := (b0.alloc s0 (Obj.cells #[.int .u8 97] 5 (1, 2))).trans (HF1.out.below (by simp; omega))
  have b3 := b1.trans (HF2.out.below s1)
  have b4 := b3.trans (HFb.out.below HS2.out)
  have b5 := (b4.alloc HSb.out (Obj.cells #[.int .i64 mA.f, .int .i64 mA.t, .slice A4 mA.b.length c4] 38)).trans (HFc.out.below (by have := HSb.out; simp; omega))
  have s5 := HSc.out
  have b6 := (b5.alloc s5 (Obj.cells #[.int .i64 mA.f, .int .i64 mA.t, .slice A5 mA.b.length c5] 38)).trans (HFd.out.mono (by simp; omega))
  exact b6.alloc (by have := HFd.out.size; simp at this; omega) _
end Go.Proofs.Ytelpdngfbddflaa
