/- Two messages held against one another; some of chapter 5's runs. Conditions: what each theorem's hypotheses say of the memory that it is handed. -/
import Derived.Test.YtelpdngfbddflaaB9
namespace Go.Proofs.Ytelpdngfbddflaa
open Go.RowKit
set_option linter.unusedVariables false
set_option linter.unusedSimpArgs false

theorem strOfNums_u8 (bs : List UInt8) : strOfNums (bs.map fun b => (b.toNat : Int)) = strOf bs := by
  unfold strOfNums strOf
  congr 2
  rw [List.map_map]
  conv => rhs; rw [← List.map_id bs]
  apply List.map_congr_left
  intro b _
  simp
set_option maxRecDepth 20000 in
/-- string(v), v a slice of bytes that is read. -/
theorem conv_str (bs : List UInt8) (A : Option Addr) (c : Nat) (w : World) (h : Rd w 1 (.slice A bs.length c) bs.length (u8s bs)) :
    (convert 35 9 (.slice A bs.length c)).run Try.prog w = .ok (.string (strOf bs)) w := by
  obtain ⟨A', c', hv, hn, hl, hc⟩ := h
  injection hv with hA _ hc'
  subst hA
  subst hc'
  cases A with
  | none =>
    have hz : bs = [] := by
      cases bs with
      | nil => rfl
      | cons b r => obtain ⟨a, ha, _⟩ := hc 0 _ rfl; cases ha
    subst hz
    exact run_convert_bytes_nil w 35 5 Try.underlying35 Try.underlying5 0 c 9 Try.underlying9
  | some a =>
    by_cases hz : bs = []
    · subst hz
      show (convert 35 9 (.slice (some a) 0 c)).run Try.prog w = _
      rw [run_convert_bytes_string w 35 9 5 _ 0 c Try.underlying35 Try.underlying5 Try.underlying9, run_bytesToString w _ 0 c [] (by simp [loadCells, loadCellsFrom])]
      rfl
    · have hb : 0 < bs.length := by cases bs with
        | nil => exact absurd rfl hz
        | cons b r => simp
      obtain ⟨a', ha', h0⟩ := hc 0 _ (List.getElem?_eq_getElem (by rw [u8s_length]; exact hb))
      injection ha' with ha'
      subst ha'
      have hspot : a.spot = none := by
        simp only [Addr.add, if_true] at h0
        unfold World.cell? at h0
        split at h0
        · split at h0
          · cases h0
          · rename_i hs; simpa using hs
        · cases h0
      obtain ⟨ab, ao, asp⟩ := a
      simp only at hspot
      subst hspot
      have := run_convert_bytes_arg (P := Try.prog) w 35 5 Try.underlying35 Try.underlying5 ab ao bs.length c (bs.map fun b => (b.toNat : Int)) (by simp) (by
        intro i hi
        have hi' : i < (u8s bs).length := by rw [u8s_length]; exact hi
        obtain ⟨a', ha', hcell⟩ := hc i _ (List.getElem?_eq_getElem hi')
        injection ha' with ha'
        subst ha'
        rw [Addr.add_lit] at hcell
        rw [hcell]
        simp [u8s, List.getD, hi]) 9 Try.underlying9
      rw [this, strOfNums_u8]

set_option maxRecDepth 20000 in
set_option maxHeartbeats 400000 in
theorem same_true (m : M) (A : Option Addr) (c : Nat) (w : World) (h : Rd w 1 (.slice A m.b.length c) m.b.length (u8s m.b)) :
    Calls Try.prog 17 #[.agg #[.int .i64 m.f, .int .i64 m.t, .slice A m.b.length c], .agg #[.int .i64 m.f, .int .i64 m.t, .string (strOf m.b)]] w fun e w' => e = .returned (.bool true) ∧ Below w.heap.size w w' := by
  have hcs := fun o1 o2 => conv_str m.b A c ((w.alloc o1).alloc o2) (h.below (((Below.refl _ _).alloc (Nat.le_refl _) o1).alloc (by simp) o2))
  clear h
  go_enter Try.func17, Try.ntmps17
  go_wp2
  go_ret
  exact ⟨rfl, ((Below.refl _ _).alloc (Nat.le_refl _) _).alloc (by simp) _⟩
end Go.Proofs.Ytelpdngfbddflaa
