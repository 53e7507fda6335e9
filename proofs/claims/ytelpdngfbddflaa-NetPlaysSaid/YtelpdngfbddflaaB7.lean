/- Pending of the net: a copy of the messages. Conditions: what the theorem's hypotheses say of the memory that it is handed. -/
import Derived.Test.YtelpdngfbddflaaB6
namespace Go.Proofs.Ytelpdngfbddflaa
open Go.RowKit
set_option linter.unusedVariables false
set_option linter.unusedSimpArgs false

/-- A row of copies, k of them, as it grows. -/
def PRow (w : World) (base : Nat) (v : Value) (l : List M) (k : Nat) : Prop :=
  ∃ A c, v = .slice A k c ∧ ∃ ps : List (M × Value), ps.map Prod.fst = l.take k ∧ w.ownsRow base 38 3 (.slice A k c) k (mcells ps) ∧ ∀ p ∈ ps, w.ownsRow base 5 1 p.2 p.1.b.length (u8s p.1.b)

set_option maxRecDepth 20000 in
set_option maxHeartbeats 1000000 in
theorem pending_any (base g : Nat) (nodes : Int) (sent : Nat) (l : List M) (w : World) (hN : NetAt base w g nodes l sent) (hm : l.length ≤ 1000) (hb : Kp (∀ m ∈ l, m.b.length ≤ 140737488355328)) :
    Calls Try.prog 23 #[.pointer (some ⟨g, 0, none⟩)] w fun e w' => ∃ v', e = .returned v' ∧ PRow w' w.heap.size v' l l.length ∧ Below w.heap.size w w' := by
  obtain ⟨vl, hg, hbg, ps, hps, ho, hbodies⟩ := hN
  obtain ⟨A, c, rfl, hlc⟩ := own_slice ho
  obtain ⟨c0, c1, c2, f0, f1, f2⟩ := blk3 hg
  have HO := Kp.mk ho
  have HBO := Kp.mk hbodies
  have HP := Kp.mk hps
  clear hps ho hbodies hg
  go_enter Try.func23, Try.ntmps23
  go_wp2_with fail
  go_loopw [3, 11] (fun v i wr => ∃ k : Nat, k ≤ l.length ∧ i = .int .i64 k ∧ PRow wr w.heap.size v l k ∧ Below w.heap.size w wr) (fun _ i _ => l.length - (intOf i).toNat)
  case atStart => exact ⟨0, Nat.zero_le _, rfl, ⟨none, 0, rfl, [], by simp, ⟨rfl, .inl ⟨rfl, rfl⟩⟩, by simp⟩, Below.refl _ _⟩
  case round =>
    obtain ⟨k, hk, rfl, ⟨Ao, co, rfl, qs, hqs, hoo, hqb⟩, hbel⟩ := hrel
    by_cases hlt : k < l.length
    · obtain ⟨gl, cur, rfl, hgl, hblk, _, hcm, hcs, hct⟩ := own_form HO.out (by omega)
      have hpl : ps.length = l.length := by rw [← HP.out]; simp
      obtain ⟨m, hmi⟩ : ∃ m, l[k]? = some m := ⟨_, List.getElem?_eq_getElem hlt⟩
      obtain ⟨mv, hmv⟩ : ∃ mv, ps[k]? = some (m, mv) := by
        have h1 := List.getElem?_eq_getElem (l := ps) (i := k) (by omega)
        have h2 : (ps[k]'(by omega)).1 = m := by
          have : (ps.map Prod.fst)[k]? = some (ps[k]'(by omega)).1 := by rw [List.getElem?_map, h1]; rfl
          rw [HP.out, hmi] at this
          injection this with this
          exact this.symm
        exact ⟨(ps[k]'(by omega)).2, by rw [h1, ← h2]⟩
      have hbody := HBO.out _ (List.mem_of_getElem? hmv)
      obtain ⟨Am, cm, hmvs, hmc⟩ := own_slice hbody
      simp only at hmvs
      subst hmvs
      obtain ⟨e0, e1, e2⟩ := mcells_get ps k m _ hmv
      have hml : (mcells ps).length = l.length * 3 := by rw [mcells_length, hpl]
      have hgls := blkl hblk
      have x0 := (hbel.cell (p := ⟨gl, k * 3, none⟩) hgls).trans ((cell_at_row HO.out (k * 3) (by rw [hml]; omega)).trans e0)
      have x1 := (hbel.cell (p := ⟨gl, k * 3 + 1, none⟩) hgls).trans ((cell_at_row HO.out (k * 3 + 1) (by rw [hml]; omega)).trans e1)
      have x2 := (hbel.cell (p := ⟨gl, k * 3 + 2, none⟩) hgls).trans ((cell_at_row HO.out (k * 3 + 2) (by rw [hml]; omega)).trans e2)
      have hmb := Kp.mk (hb.out m (List.mem_of_getElem? hmi))
      have HBY := Kp.mk (hbody)
      have HMI := Kp.mk hmi
      have HQ := Kp.mk hqs
      have HOO := Kp.mk hoo
      have HQB := Kp.mk hqb
      have HBL := Kp.mk hbel
      have hsz := hbel.size
      clear e0 e1 e2 hmi hmv hcm hcs hct hblk hbody hpl hml hqs hoo hqb hbel
      go_wp2_with (first
        | (go_at_call 58; go_loud (refine (copied_any m.f m.t m.b _ _ hmb (Rd.of_own ((own_bel HBY.out (HBL.out.mono (Nat.le_refl _))).alloc _))).mono ?_); go_loud (rintro e w1 ⟨A1, c1, rfl, r1, r2⟩);
            have R1 := Kp.mk r1; have R2 := Kp.mk (bel_alloc r2); clear r1 r2)
        | (at_builtin; refine ap_own _ rfl _ _ 48 rfl w.heap.size 38 _ 3 40 Try.underlying48 Try.info38 rfl (by decide) (.slice Ao k co) k (mcells qs) rfl ?c1 1 [.int .i64 m.f, .int .i64 m.t, .slice A1 m.b.length c1] _ rfl ?c2 ?c3 ?c4 (by decide) ?c5 ?c6))
      case c1 => exact (own_bel HOO.out R2.out).alloc _
      case c2 => exact rd_new _ _ 38 3 1 rfl
      case c3 => simp [Value.oneCell']
      case c4 => exact ⟨by omega⟩
      case c5 => have := R2.out.size; simp; omega
      case c6 =>
        intro v2 w2 ho2 hg2
        obtain ⟨A2, c2, rfl, _⟩ := own_slice ho2
        have HO2 := Kp.mk ho2
        have HG2 := Kp.mk hg2
        clear ho2 hg2
        go_wp2
        go_roundw
        case rel =>
          have hoa := (own_bel HOO.out R2.out).alloc (Obj.cells #[.int .i64 m.f, .int .i64 m.t, .slice A1 m.b.length c1] 38)
          refine ⟨k + 1, by omega, by go_num, ⟨A2, c2, rfl, qs ++ [(m, .slice A1 m.b.length c1)], ?_, ?_, ?_⟩, ?_⟩
          · rw [List.map_append, HQ.out, List.take_add_one, HMI.out]
            rfl
          · rw [mcells_append]
            exact HO2.out
          · intro p hp
            rcases List.mem_append.1 hp with hp | hp
            · have h0 := (own_bel (HQB.out p hp) R2.out).alloc (Obj.cells #[.int .i64 m.f, .int .i64 m.t, .slice A1 m.b.length c1] 38)
              exact own_grn h0 HG2.out (own_types h0 hoa (by decide))
            · rw [List.mem_singleton.1 hp]
              have h0 := (own_low R1.out (base' := w.heap.size) (by simp; omega)).alloc (Obj.cells #[.int .i64 m.f, .int .i64 m.t, .slice A1 m.b.length c1] 38)
              exact own_grn h0 HG2.out (own_types h0 hoa (by decide))
          · have h5 := R2.out.size
            exact ((HBL.out.trans (R2.out.mono hsz)).alloc (by omega) _).grown HG2.out (by simp; omega) (fun q hq => (own_blk hoa q hq).1)
        case measure => simp [intOf]; omega
    · have hkl : k = l.length := by omega
      subst hkl
      have HQ := Kp.mk hqs
      have HOO := Kp.mk hoo
      have HQB := Kp.mk hqb
      have HBL := Kp.mk hbel
      clear hqs hoo hqb hbel
      go_wp2_with fail
      go_ret
      exact ⟨_, rfl, ⟨Ao, co, rfl, qs, HQ.out, HOO.out, HQB.out⟩, HBL.out⟩
end Go.Proofs.Ytelpdngfbddflaa
