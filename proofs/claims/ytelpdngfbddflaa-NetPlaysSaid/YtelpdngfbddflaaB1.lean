/- slices.Delete of one message out of a row of the caller's own: what it leaves. Conditions: the row is owned, the index lies in it. -/
import Derived.Test.YtelpdngfbddflaaB0
import Derived.Deep.RegionLaw
namespace Go.Proofs.Ytelpdngfbddflaa
open Go.RowKit
set_option linter.unusedVariables false
set_option linter.unusedSimpArgs false

theorem Try.info38 : (Try.prog.info? 38).map (fun i => (i.zero, i.size, i.bytes)) = some (some (.agg #[.int .i64 0, .int .i64 0, .slice none 0 0]), 3, 40) := by kernel_rfl
theorem Try.zero38 (w : World) : (zeroValue 38).run Try.prog w = .ok (.agg #[.int .i64 0, .int .i64 0, .slice none 0 0]) w := by kernel_rfl

theorem setRow_size (w : World) (g : Nat) (cs : Array Value) : (w.setRow g cs).heap.size = w.heap.size := by simp [World.setRow]
theorem grown_setRow (w : World) (g : Nat) (cs : Array Value) : w.grownBy (w.setRow g cs) (some g) :=
  ⟨rfl, rfl, rfl, by simp [World.setRow], fun k _ hk => setRow_other w g k _ (fun e => hk (by rw [e]))⟩
theorem grown_trans {a b c : World} {row : Option Nat} (h : a.grownBy b row) (k : b.grownBy c row) : a.grownBy c row :=
  ⟨k.os.trans h.os, k.tape.trans h.tape, k.output.trans h.output, Nat.le_trans h.size k.size, fun i hi hr => (k.block i (Nat.lt_of_lt_of_le hi h.size) hr).trans (h.block i hi hr)⟩

theorem run_clear_row {P : Program} (w : World) (t e : TypeId) (z : Value) (size bytes : Nat) (ty : TypeId) (ht : P.underlying t = some (.slice e))
    (hinfo : (P.info? e).map (fun i => (i.zero, i.size, i.bytes)) = some (some z, size, bytes)) (hz1 : ∀ u ∈ z.cells.toList, u.oneCell' = true)
    (g o m c : Nat) (cur : Array Value) (hg : w.heap[g]? = some (.cells cur e (0, 0))) (hm : m ≠ 0) (hfit : o + m * z.cells.size ≤ cur.size) :
    (Builtin.clear_ #[t] ty #[.slice (some ⟨g, o, none⟩) m c]).run P w =
      .ok (.tuple #[]) (w.setRow g (cur.toList.take o ++ (Builtin.zeroCells z.cells m).toList ++ cur.toList.drop (o + m * z.cells.size)).toArray) := by
  obtain ⟨i, hi, hz, hsize, hby⟩ := info_parts hinfo
  have hl : (Builtin.zeroCells z.cells m).toList.length = m * z.cells.size := by simp [Builtin.zeroCells]
  have hst := run_storeCells_at P g o e (Builtin.zeroCells z.cells m).toList 0 cur w hg (by rw [hl]; simpa using hfit) (fun u hu => by
    simp only [Builtin.zeroCells, Array.toList_map, List.mem_map, Array.toList_range, List.mem_range] at hu
    obtain ⟨k, hk, rfl⟩ := hu
    have hp : 0 < z.cells.size := by
      rcases Nat.eq_zero_or_pos z.cells.size with h0 | h0
      · rw [h0] at hk; simp at hk
      · exact h0
    have hlt : k % z.cells.size < z.cells.size := Nat.mod_lt _ hp
    rw [getElem!_pos z.cells _ hlt]
    exact hz1 _ (Array.mem_toList_iff.2 (Array.getElem_mem hlt)))
  simp only [Nat.add_zero, hl] at hst
  have hzv : (zeroValue e).run P w = .ok z w := by simp [zeroValue, typeInfo, hi, hz]
  obtain ⟨m', rfl⟩ : ∃ k, m = k + 1 := ⟨m - 1, by omega⟩
  simp [Builtin.clear_, run_underlying ht, hzv, hst]

set_option maxRecDepth 40000 in
set_option maxHeartbeats 1000000 in
theorem delete_any (g n cap i : Nat) (cur : Array Value) (w : World) (hi : i < n) (hn : n ≤ cap) (hm : cap ≤ 9223372036854775807) (hs : cur.size = cap * 3)
    (hg : w.heap[g]? = some (.cells cur 38 (0, 0))) (h1 : ∀ u ∈ cur.toList.take (n * 3), u.oneCell' = true) :
    Calls Try.prog 57 #[.slice (some ⟨g, 0, none⟩) n cap, .int .i64 i, .int .i64 ((i : Int) + 1)] w fun e w' =>
      e = .returned (.slice (some ⟨g, 0, none⟩) (n - 1) cap) ∧ ∃ cur' : Array Value, w'.heap[g]? = some (.cells cur' 38 (0, 0)) ∧ cur'.size = cur.size ∧
        cur'.toList.take ((n - 1) * 3) = cur.toList.take (i * 3) ++ (cur.toList.drop (i * 3 + 3)).take ((n - (i + 1)) * 3) ∧ w.grownBy w' (some g) := by
  obtain ⟨i0, hi0, hz0, hz1, hz2⟩ := info_parts Try.info38
  -- where what is behind the message begins
  obtain ⟨A, hA, hnews⟩ : ∃ A : Addr, (if cap = i + 1 then some (⟨g, 0, none⟩ : Addr) else some ⟨g, (i + 1) * 3, none⟩) = some A ∧ Kp (∀ j u, ((cur.toList.drop (i * 3 + 3)).take ((n - (i + 1)) * 3))[j]? = some u → w.drew.cell? (A.add j) = some u) := by
    by_cases h : cap = i + 1
    · refine ⟨⟨g, 0, none⟩, by simp [h], ⟨fun j u hu => ?_⟩⟩
      rw [show n - (i + 1) = 0 by omega] at hu
      simp at hu
    · refine ⟨⟨g, (i + 1) * 3, none⟩, by simp [h], ⟨fun j u hu => ?_⟩⟩
      rw [List.getElem?_take] at hu
      split at hu
      · rw [Addr.add_lit]
        show w.cell? _ = _
        rw [cell_of_row w g _ cur 38 (0, 0) hg, ← hu, List.getElem?_drop]
        simp [Nat.add_mul, Nat.add_assoc]
      · cases hu
  have hic : i ≤ cap := by omega
  have hL : ((cur.toList.drop (i * 3 + 3)).take ((n - (i + 1)) * 3)).length = (n - (i + 1)) * 3 := by
    rw [List.length_take, List.length_drop, Array.length_toList, hs]
    omega
  obtain ⟨C1, hC1⟩ : ∃ C1 : Array Value, C1 = (cur.toList.take (i * 3) ++ (cur.toList.drop (i * 3 + 3)).take ((n - (i + 1)) * 3) ++ cur.toList.drop ((n - 1) * 3)).toArray := ⟨_, rfl⟩
  have happ : Kp ((Builtin.append_ #[48, 48] 48 #[.slice (some ⟨g, 0, none⟩) i cap, .slice (some A) (n - (i + 1)) (cap - (i + 1))]).run Try.prog w.drew =
      .ok (.slice (some ⟨g, 0, none⟩) (n - 1) cap) (w.drew.setRow g C1)) := by
    have h := run_append_room (P := Try.prog) w.drew 48 48 38 i0 Try.underlying48 hi0 g i cap cur hg A (n - (i + 1)) (cap - (i + 1)) _ (by rw [hz1]; exact hL) hnews.out
      (fun u hu => h1 u (by
        have e1 : (cur.toList.drop (i * 3 + 3)).take ((n - (i + 1)) * 3) = (cur.toList.take (n * 3)).drop (i * 3 + 3) := by
          rw [List.drop_take]
          congr 1
          omega
        rw [e1] at hu
        exact List.mem_of_mem_drop hu)) (by omega) (by rw [hz1, hL, hs]; omega)
    refine ⟨?_⟩
    rw [h, hz1, hL, hC1]
    congr 2
    · omega
    · congr 3
      omega
  have hC1s : C1.size = cur.size := by
    rw [hC1]
    simp only [List.size_toArray, List.length_append, hL, List.length_take, List.length_drop, Array.length_toList, hs]
    omega
  have hC1t : C1.toList.take ((n - 1) * 3) = cur.toList.take (i * 3) ++ (cur.toList.drop (i * 3 + 3)).take ((n - (i + 1)) * 3) := by
    rw [hC1]
    show List.take _ (_ ++ _) = _
    rw [List.take_left']
    rw [List.length_append, hL, List.length_take, Array.length_toList, hs]
    omega
  have hr1 : (w.drew.setRow g C1).heap[g]? = some (.cells C1 38 (0, 0)) := setRow_heap w.drew g cur _ 38 _ hg
  have hclr := run_clear_row (P := Try.prog) (w.drew.setRow g C1) 48 38 _ 3 40 0 Try.underlying48 Try.info38 (by simp [Value.cells]; decide) g ((n - 1) * 3) (n - (n - 1)) (cap - (n - 1)) C1 hr1 (by omega) (by
    rw [hC1s, hs]
    show (n - 1) * 3 + (n - (n - 1)) * 3 ≤ _
    omega)
  obtain ⟨C2, hC2⟩ : ∃ C2 : Array Value, C2 = (C1.toList.take ((n - 1) * 3) ++ (Builtin.zeroCells (Value.agg #[.int .i64 0, .int .i64 0, .slice none 0 0]).cells (n - (n - 1))).toList ++ C1.toList.drop ((n - 1) * 3 + (n - (n - 1)) * (Value.agg #[.int .i64 0, .int .i64 0, .slice none 0 0]).cells.size)).toArray := ⟨_, rfl⟩
  rw [← hC2] at hclr
  have hfin : ∃ cur' : Array Value, ((w.drew.setRow g C1).setRow g C2).heap[g]? = some (.cells cur' 38 (0, 0)) ∧ cur'.size = cur.size ∧
        cur'.toList.take ((n - 1) * 3) = cur.toList.take (i * 3) ++ (cur.toList.drop (i * 3 + 3)).take ((n - (i + 1)) * 3) ∧ w.grownBy ((w.drew.setRow g C1).setRow g C2) (some g) := by
    refine ⟨C2, setRow_heap _ g C1 _ 38 _ hr1, ?_, ?_, ?_⟩
    · rw [hC2, ← hC1s]
      simp only [List.size_toArray, List.length_append, List.length_take, List.length_drop, Array.length_toList, size_zeroCells, hC1s, hs]
      show _ + (n - (n - 1)) * 3 + (cap * 3 - ((n - 1) * 3 + (n - (n - 1)) * 3)) = _
      omega
    · rw [hC2]
      show List.take _ (_ ++ _ ++ _) = _
      rw [List.append_assoc, List.take_left']
      · exact hC1t
      · rw [List.length_take, Array.length_toList, hC1s, hs]
        omega
    · exact grown_trans (grown_trans (a := w) (b := w.drew) ⟨rfl, rfl, rfl, Nat.le_refl _, fun _ _ _ => rfl⟩ (grown_setRow w.drew g C1)) (grown_setRow _ g C2)
  have HF := Kp.mk hfin
  have hwr : IntKind.i64.wrap ((i : Int) + 1) = (i : Int) + 1 := by rw [IntKind.wrap_i64]; omega
  have hp0 : (0 : Int) ≤ (i : Int) + 1 := by omega
  have hp1 : (i : Int) + 1 ≤ (n : Int) := by omega
  have hp2 : ((i : Int) + 1).toNat = i + 1 := by omega
  clear hg h1 hs hz0 hz2 hz1 hi0 hfin hC1 hC2 hr1 hC1s hC1t hL
  go_enter Try.func57, Try.ntmps57
  go_wp2_with fail
  go_region_law (refine step_run rfl _ _ (exec_append #[.tmp 22, .tmp 25] #[48, 48] rfl (by simp [Act.eval, Act.put, hA]; exact happ.out)) ?_)
  go_wp2
  go_ret
  exact ⟨rfl, HF.out⟩
end Go.Proofs.Ytelpdngfbddflaa
