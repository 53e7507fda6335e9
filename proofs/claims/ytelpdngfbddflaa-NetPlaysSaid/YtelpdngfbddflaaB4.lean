/- Take of the net. Conditions: what each theorem's hypotheses say of the memory that it is handed. -/
import Derived.Test.YtelpdngfbddflaaB3
namespace Go.Proofs.Ytelpdngfbddflaa
open Go.RowKit
set_option linter.unusedVariables false
set_option linter.unusedSimpArgs false

theorem ret_int_ {k : IntKind} {a b : Int} (h : a = b) : Ending.returned (.int k a) = .returned (.int k b) := by rw [h]

/-- The place that a number tells, of n. -/
def findAt (n : Nat) (k : Int) : Nat := if 0 ≤ k then (k % (n : Int)).toNat else ((-(k + 1)) % (n : Int)).toNat
theorem findAt_lt {n : Nat} (k : Int) (hn : 0 < n) : findAt n k < n := by
  have h1 := Int.emod_lt_of_pos k (show (0 : Int) < n by omega)
  have h2 := Int.emod_nonneg k (show (n : Int) ≠ 0 by omega)
  have h3 := Int.emod_lt_of_pos (-(k + 1)) (show (0 : Int) < n by omega)
  have h4 := Int.emod_nonneg (-(k + 1)) (show (n : Int) ≠ 0 by omega)
  unfold findAt
  split <;> omega

set_option maxRecDepth 20000 in
set_option maxHeartbeats 400000 in
theorem find_nil (g : Nat) (a b : Value) (A : Option Addr) (c : Nat) (k : Int) (w : World) (hg : w.heap[g]? = some (.cells #[a, .slice A 0 c, b] 115 (0, 0))) :
    Calls Try.prog 56 #[.pointer (some ⟨g, 0, none⟩), .int .i64 k] w fun e w' => e = .returned (.int .i64 (-1)) ∧ w = w' := by
  obtain ⟨c0, c1, c2, f0, f1, f2⟩ := blk3 hg
  clear hg
  go_enter Try.func56, Try.ntmps56
  go_wp2
  go_ret
  exact ⟨rfl, rfl⟩
set_option maxRecDepth 20000 in
set_option maxHeartbeats 400000 in
theorem find_pos (g n : Nat) (a b : Value) (A : Option Addr) (c : Nat) (k : Int) (w : World) (hg : w.heap[g]? = some (.cells #[a, .slice A n c, b] 115 (0, 0))) (hn : 0 < n) (hm : n ≤ 1000)
    (hk0 : -9223372036854775808 ≤ k) (hk1 : k ≤ 9223372036854775807) :
    Calls Try.prog 56 #[.pointer (some ⟨g, 0, none⟩), .int .i64 k] w fun e w' => e = .returned (.int .i64 (findAt n k : Nat)) ∧ w = w' := by
  obtain ⟨c0, c1, c2, f0, f1, f2⟩ := blk3 hg
  clear hg
  have h2 := Int.emod_nonneg k (show (n : Int) ≠ 0 by omega)
  have h4 := Int.emod_nonneg (-(k + 1)) (show (n : Int) ≠ 0 by omega)
  by_cases hk : 0 ≤ k
  · have HF : Kp ((findAt n k : Int) = k % (n : Int)) := ⟨by unfold findAt; rw [if_pos hk]; omega⟩
    clear h2 h4
    go_enter Try.func56, Try.ntmps56
    go_wp2
    go_ret
    exact ⟨ret_int_ HF.out.symm, rfl⟩
  · have HF : Kp ((findAt n k : Int) = (-(k + 1)) % (n : Int)) := ⟨by unfold findAt; rw [if_neg hk]; omega⟩
    clear h2 h4
    go_enter Try.func56, Try.ntmps56
    go_wp2
    go_ret
    exact ⟨ret_int_ (by first | exact HF.out.symm | (rw [← Int.neg_tmod, Int.tmod_eq_emod_of_nonneg (by omega)]; exact HF.out.symm)), rfl⟩

theorem cell_at_row {w : World} {base n cap gl size : Nat} {e : TypeId} {xs : List Value} (h : w.ownsRow base e size (.slice (some ⟨gl, 0, none⟩) n cap) n xs) (j : Nat) (hj : j < xs.length) : w.cell? ⟨gl, j, none⟩ = xs[j]? :=
  h.cellAt j (by rw [← h.1]; exact hj)
theorem own_form {w : World} {base n size : Nat} {e : TypeId} {A : Option Addr} {c : Nat} {xs : List Value} (h : w.ownsRow base e size (.slice A n c) n xs) (hn : 0 < n) :
    ∃ gl cur, A = some ⟨gl, 0, none⟩ ∧ base ≤ gl ∧ w.heap[gl]? = some (.cells cur e (0, 0)) ∧ n ≤ c ∧ c ≤ maxLen ∧ cur.size = c * size ∧ cur.toList.take (n * size) = xs := by
  rcases h.2 with ⟨h1, h2⟩ | ⟨g, cap, cur, h1, h2, h3, h4, h5, h6, h7⟩
  · omega
  · injection h1 with e1 e2 e3
    subst e3
    exact ⟨g, cur, e1, h2, h3, h4, h5, h6, h7⟩
theorem mcells_get (ps : List (M × Value)) (i : Nat) (m : M) (v : Value) (h : ps[i]? = some (m, v)) :
    (mcells ps)[i * 3]? = some (.int .i64 m.f) ∧ (mcells ps)[i * 3 + 1]? = some (.int .i64 m.t) ∧ (mcells ps)[i * 3 + 2]? = some v := by
  induction ps generalizing i with
  | nil => simp at h
  | cons p r ih =>
    cases i with
    | zero => simp at h; subst h; simp [mcells]
    | succ i =>
      simp at h
      have := ih i h
      simp only [mcells, List.flatMap_cons] at this ⊢
      rw [show (i + 1) * 3 = i * 3 + 3 by omega]
      simpa using this
theorem mcells_del (ps : List (M × Value)) (i : Nat) (h : i < ps.length) : mcells (ps.eraseIdx i) = (mcells ps).take (i * 3) ++ (mcells ps).drop (i * 3 + 3) := by
  induction ps generalizing i with
  | nil => simp at h
  | cons p r ih =>
    cases i with
    | zero => simp [mcells]
    | succ i =>
      have := ih i (by simpa using h)
      rw [List.eraseIdx_cons_succ]
      simp only [mcells, List.flatMap_cons] at this ⊢
      rw [this, show (i + 1) * 3 = i * 3 + 3 by omega]
      simp

/-- Behind Delete: the row without a message. -/
theorem mrow_del {w w' : World} {base gl n cap i : Nat} {l : List M} {ps : List (M × Value)} {cur cur' : Array Value} (hps : ps.map Prod.fst = l)
    (ho : w.ownsRow base 38 3 (.slice (some ⟨gl, 0, none⟩) l.length cap) l.length (mcells ps)) (hb : ∀ p ∈ ps, w.ownsRow base 5 1 p.2 p.1.b.length (u8s p.1.b))
    (hi : i < l.length) (hgl : w.heap[gl]? = some (.cells cur 38 (0, 0))) (hbase : base ≤ gl) (hcap : l.length ≤ cap) (hmx : cap ≤ maxLen) (hs : cur.size = cap * 3) (ht : cur.toList.take (l.length * 3) = mcells ps)
    (h1 : w'.heap[gl]? = some (.cells cur' 38 (0, 0))) (h2 : cur'.size = cur.size)
    (h3 : cur'.toList.take ((l.length - 1) * 3) = cur.toList.take (i * 3) ++ (cur.toList.drop (i * 3 + 3)).take ((l.length - (i + 1)) * 3)) (h4 : w.grownBy w' (some gl)) :
    MRow w' base (.slice (some ⟨gl, 0, none⟩) (l.length - 1) cap) (l.eraseIdx i) := by
  have hpl : ps.length = l.length := by rw [← hps]; simp
  have hlen : (l.eraseIdx i).length = l.length - 1 := List.length_eraseIdx_of_lt hi
  have hml : (mcells ps).length = l.length * 3 := by rw [mcells_length, hpl]
  refine ⟨ps.eraseIdx i, by rw [← hps]; simp [List.eraseIdx_eq_take_drop_succ], ?_, ?_⟩
  · rw [hlen]
    refine ⟨?_, .inr ⟨gl, cap, cur', rfl, hbase, h1, by omega, hmx, by rw [h2, hs], ?_⟩⟩
    · rw [mcells_length, List.length_eraseIdx_of_lt (by omega), hpl]
    · rw [h3, mcells_del ps i (by omega), ← ht]
      rw [List.take_take, List.drop_take]
      congr 2
      · omega
      · omega
  · intro p hp
    have h0 := hb p (List.mem_of_mem_eraseIdx hp)
    refine own_grn h0 h4 ?_
    have := own_types h0 ho (by decide)
    simpa [Value.ownBlock] using this

set_option maxRecDepth 20000 in
set_option maxHeartbeats 400000 in
theorem take_none (base g : Nat) (nodes : Int) (sent : Nat) (k : Int) (w : World) (hN : NetAt base w g nodes [] sent) :
    Calls Try.prog 15 #[.pointer (some ⟨g, 0, none⟩), .int .i64 k] w fun e w' => e = .returned (.tuple #[.agg #[.int .i64 0, .int .i64 0, .slice none 0 0], .bool false]) ∧ Below w.heap.size w w' := by
  obtain ⟨vl, hg, hbg, ps, hps, ho, hbodies⟩ := hN
  obtain ⟨A, c, rfl, hlc⟩ := own_slice ho
  have HG := Kp.mk hg
  clear hps ho hbodies hg
  go_enter Try.func15, Try.ntmps15
  go_wp2_with (go_at_call 56; go_loud (refine (find_nil g _ _ A c k _ (old_at HG.out _)).mono ?_); go_loud (rintro e w1 ⟨rfl, rfl⟩))
  refine bodyPost_ret (v := .tuple #[.agg #[.int .i64 0, .int .i64 0, .slice none 0 0], .bool false]) (by simp [results, Try.results15, go_sem]) rfl ⟨rfl, ?_⟩
  exact (Below.refl _ _).alloc (Nat.le_refl _) _

theorem MRow.far {w : World} {base : Nat} {v : Value} {l : List M} (h : MRow w base v l) {p : Addr} (hne : some p.block ≠ v.ownBlock) {cs : Array Value} {t : TypeId} {fr : Nat × Nat} (hp : w.heap[p.block]? = some (.cells cs t fr)) (ht : t ≠ 5) (u : Value) : MRow (w.setCell p u) base v l := by
  obtain ⟨ps, hps, ho, hb⟩ := h
  exact ⟨ps, hps, own_far ho hne u, fun q hq => own_far (hb q hq) (own_ne (hb q hq) hp (Ne.symm ht)) u⟩

theorem mcells_one {w : World} {base : Nat} {ps : List (M × Value)} (hb : ∀ p ∈ ps, w.ownsRow base 5 1 p.2 p.1.b.length (u8s p.1.b)) : ∀ u ∈ mcells ps, u.oneCell' = true := by
  intro u hu
  simp only [mcells, List.mem_flatMap] at hu
  obtain ⟨p, hp, hu⟩ := hu
  obtain ⟨A, c, hv, _⟩ := own_slice (hb p hp)
  simp at hu
  rcases hu with rfl | rfl | rfl
  · rfl
  · rfl
  · rw [hv]; rfl

set_option maxRecDepth 20000 in
set_option maxHeartbeats 1000000 in
theorem take_some (base g : Nat) (nodes : Int) (sent : Nat) (l : List M) (k : Int) (i : Nat) (m : M) (w : World) (hN : NetAt base w g nodes l sent) (hbase : base ≤ w.heap.size)
    (hn : 0 < l.length) (hm : l.length ≤ 1000) (hk0 : -9223372036854775808 ≤ k) (hk1 : k ≤ 9223372036854775807) (hi : i = findAt l.length k) (hmi : l[i]? = some m) (hb : Kp (m.b.length ≤ 140737488355328)) :
    Calls Try.prog 15 #[.pointer (some ⟨g, 0, none⟩), .int .i64 k] w fun e w' => ∃ A' c', e = .returned (.tuple #[.agg #[.int .i64 m.f, .int .i64 m.t, .slice A' m.b.length c'], .bool true]) ∧
      w'.ownsRow w.heap.size 5 1 (.slice A' m.b.length c') m.b.length (u8s m.b) ∧ NetAt base w' g nodes (l.eraseIdx i) sent ∧ Fr base [115, 38] w w' ∧
      (∀ vl, w.heap[g]? = some (.cells #[.int .i64 nodes, vl, .int .i64 sent] 115 (0, 0)) → (∃ vl', w'.heap[g]? = some (.cells #[.int .i64 nodes, vl', .int .i64 sent] 115 (0, 0)) ∧ vl'.ownBlock = vl.ownBlock) ∧ ∀ k o, w.heap[k]? = some o → k ≠ g → some k ≠ vl.ownBlock → w'.heap[k]? = some o) := by
  obtain ⟨vl, hg, hbg, ps, hps, ho, hbodies⟩ := hN
  obtain ⟨A, c, rfl, hlc⟩ := own_slice ho
  obtain ⟨gl, cur, rfl, hgl, hblk, _, hcm, hcs, hct⟩ := own_form ho hn
  have hil : i < l.length := (List.getElem?_eq_some_iff.1 hmi).1
  have hpl : ps.length = l.length := by rw [← hps]; simp
  obtain ⟨mv, hmv⟩ : ∃ mv, ps[i]? = some (m, mv) := by
    have h1 := List.getElem?_eq_getElem (l := ps) (i := i) (by omega)
    have h2 : (ps[i]'(by omega)).1 = m := by
      have : (ps.map Prod.fst)[i]? = some (ps[i]'(by omega)).1 := by rw [List.getElem?_map, h1]; rfl
      rw [hps, hmi] at this
      injection this with this
      exact this.symm
    exact ⟨(ps[i]'(by omega)).2, by rw [h1, ← h2]⟩
  have hbody := hbodies _ (List.mem_of_getElem? hmv)
  obtain ⟨Am, cm, hmvs, hmc⟩ := own_slice hbody
  simp only at hmvs
  subst hmvs
  obtain ⟨e0, e1, e2⟩ := mcells_get ps i m _ hmv
  have hml : (mcells ps).length = l.length * 3 := by rw [mcells_length, hpl]
  have x0 := (cell_at_row ho (i * 3) (by rw [hml]; omega)).trans e0
  have x1 := (cell_at_row ho (i * 3 + 1) (by rw [hml]; omega)).trans e1
  have x2 := (cell_at_row ho (i * 3 + 2) (by rw [hml]; omega)).trans e2
  obtain ⟨c0, c1, c2, f0, f1, f2⟩ := blk3 hg
  have hgs := blkl hg
  have hgls := blkl hblk
  have HG := Kp.mk hg
  have HO := Kp.mk ho
  have HBO := Kp.mk hbodies
  have HI := Kp.mk hi
  have HM := Kp.mk hmi
  have HV := Kp.mk hmv
  have HX := Kp.mk hcm
  have HS := Kp.mk hcs
  have HT := Kp.mk hct
  have HP := Kp.mk hps
  have HBL := Kp.mk hblk
  have HBY := Kp.mk hbody
  have HPL := Kp.mk hpl
  clear hps ho hbodies hg e0 e1 e2 hmi hmv hcm hcs hct hblk hi hbody hpl hml
  go_enter Try.func15, Try.ntmps15
  go_wp2_with (first
    | (go_at_call 56; go_loud (refine (find_pos g l.length _ _ _ c k _ (old_at HG.out _) hn hm hk0 hk1).mono ?_); go_loud (rintro e w1 ⟨rfl, rfl⟩; rw [← HI.out]))
    | (go_at_call 57; go_loud (refine (delete_any gl l.length c i cur _ hil hlc (by have := HX.out; unfold maxLen at this; omega) HS.out (old_at (old_at HBL.out _) _) (by rw [HT.out]; exact mcells_one HBO.out)).mono ?_); go_loud (rintro e w2 ⟨rfl, cur', q1, q2, q3, q4⟩);
        have hgw := grn_at (old_at (old_at HG.out _) _) q4 (by intro e; injection e with e; subst e; have := HG.out; rw [HBL.out] at this; injection this with this; injection this with _ this; cases this);
        obtain ⟨d0, d1, d2, d3, d4, d5⟩ := blk3 hgw;
        have ha := grn_at (old_at (new_at w _) _) q4 (by intro e; injection e with e; omega);
        have hb2 := grn_at (new_at (w.alloc _) _) q4 (by intro e; injection e with e; rw [World.size_alloc] at e; omega);
        rw [World.size_alloc] at hb2;
        obtain ⟨a0, a1, a2, a3, a4, a5⟩ := blk3 ha;
        obtain ⟨b0, b1, b2, b3, b4, b5⟩ := blk3 hb2;
        have hsz2 := q4.size;
        simp only [World.size_alloc] at hsz2;
        have Q1 := Kp.mk q1; have Q2 := Kp.mk q2; have Q3 := Kp.mk q3; have Q4 := Kp.mk q4; have HGW := Kp.mk hgw; have HAA := Kp.mk ha; have HB2 := Kp.mk hb2;
        have HF3 : Kp (∀ v, Fr base [115, 38] w (w2.setCell ⟨g, 1, none⟩ v)) := ⟨fun v => ((((Fr.refl base [115, 38] w).alloc _).alloc _).grown q4 (fun k hk => by
          injection hk with hk; subst hk; exact ⟨hgl, cur, 38, _, old_at (old_at HBL.out _) _, by simp⟩)).setCell (p := ⟨g, 1, none⟩) hgw hbg (by simp) v⟩;
        clear q1 q2 q3 q4 hgw ha hb2)
    | (go_at_call 58; go_loud (refine (copied_any m.f m.t m.b _ _ hb (Rd.of_own ((HF3.out _).own HBY.out (by simp)))).mono ?_); go_loud (rintro e w4 ⟨A4, c4, rfl, r1, r2⟩);
        obtain ⟨b0, b1, b2, b3, b4, b5⟩ := blk3 (bel_at (far_at HAA.out (by show w.heap.size ≠ g; omega) _) r2);
        have R1 := Kp.mk r1; have R2 := Kp.mk r2; have hsz4 := r2.size; simp only [World.size_setCell] at hsz4; clear r1 r2))
  have h3 := HF3.out (.slice (some ⟨gl, 0, none⟩) (l.length - 1) c)
  have r2 := R2.out
  have q4 := Q4.out
  have hbk4 := bel_at (far_at HAA.out (p := ⟨g, 1, none⟩) (by show w.heap.size ≠ g; omega) (.slice (some ⟨gl, 0, none⟩) (l.length - 1) c)) r2
  have s1 := set_at hbk4 0 (.int .i64 m.f)
  have s2 := set_at s1 1 (.int .i64 m.t)
  have s3 := set_at s2 2 (.slice A4 m.b.length c4)
  have hgw := HGW.out
  have hg3 := set_at hgw 1 (.slice (some ⟨gl, 0, none⟩) (l.length - 1) c)
  have hg4 := bel_at hg3 r2
  have hne : g ≠ w.heap.size := by omega
  have hwsz : w.heap.size < (w2.setCell ⟨g, 1, none⟩ (.slice (some ⟨gl, 0, none⟩) (l.length - 1) c)).heap.size := by rw [World.size_setCell]; omega
  have hrow : MRow w2 base (.slice (some ⟨gl, 0, none⟩) (l.length - 1) c) (l.eraseIdx i) :=
    mrow_del (n := l.length) HP.out ((HO.out.alloc _).alloc _) (fun p hp => ((HBO.out p hp).alloc _).alloc _) hil (old_at (old_at HBL.out _) _) hgl hlc HX.out HS.out HT.out Q1.out Q2.out Q3.out q4
  have hrow3 : MRow (w2.setCell ⟨g, 1, none⟩ (.slice (some ⟨gl, 0, none⟩) (l.length - 1) c)) base (.slice (some ⟨gl, 0, none⟩) (l.length - 1) c) (l.eraseIdx i) :=
    hrow.fr ((Fr.refl base [115] w2).setCell (p := ⟨g, 1, none⟩) hgw hbg (by simp) _) (by simp) (by simp)
  have hrow4 := hrow3.fr (Fr.of_below (base := base) (T := []) r2) (by simp) (by simp)
  have hnw : some w.heap.size ≠ (Value.slice (some ⟨gl, 0, none⟩) (l.length - 1) c).ownBlock := by
    intro e
    simp only [Value.ownBlock, Option.some.injEq] at e
    omega
  have hrow5 := ((hrow4.far (p := ⟨w.heap.size, 0, none⟩) hnw hbk4 (by decide) (.int .i64 m.f)).far (p := ⟨w.heap.size, 1, none⟩) hnw s1 (by decide) (.int .i64 m.t)).far (p := ⟨w.heap.size, 2, none⟩) hnw s2 (by decide) (.slice A4 m.b.length c4)
  refine bodyPost_ret (v := .tuple #[.agg #[.int .i64 m.f, .int .i64 m.t, .slice A4 m.b.length c4], .bool true]) (by simp [results, Try.results15, go_sem, b0, b1, b2]) rfl ⟨A4, c4, rfl, ?_, ?_, ?_, ?_⟩
  · exact own_low (own_setCell (own_setCell (own_setCell R1.out hwsz _) hwsz _) hwsz _) (by omega)
  · exact ⟨_, far_at (far_at (far_at hg4 hne _) hne _) hne _, hbg, hrow5⟩
  · exact ((((h3.trans (Fr.of_below r2)).setCell (p := ⟨w.heap.size, 0, none⟩) hbk4 hbase (by simp) _).setCell (p := ⟨w.heap.size, 1, none⟩) s1 hbase (by simp) _).setCell (p := ⟨w.heap.size, 2, none⟩) s2 hbase (by simp) _)
  · intro vl hvl
    have hvl' : vl = .slice (some ⟨gl, 0, none⟩) l.length c := by
      rw [HG.out] at hvl
      simp only [Option.some.injEq, Obj.cells.injEq, Array.mk.injEq, List.cons.injEq] at hvl
      exact hvl.1.2.1.symm
    subst hvl'
    refine ⟨⟨_, far_at (far_at (far_at hg4 hne _) hne _) hne _, rfl⟩, fun q o hq hq1 hq2 => ?_⟩
    have hlt := blkl hq
    have hq3 := grn_at (old_at (old_at hq _) _) q4 (by intro e; exact hq2 (by rw [e]; rfl))
    exact far_at (far_at (far_at (bel_at (far_at hq3 (p := ⟨g, 1, none⟩) hq1 _) r2) (p := ⟨w.heap.size, 0, none⟩) (by show q ≠ w.heap.size; omega) _) (p := ⟨w.heap.size, 1, none⟩) (by show q ≠ w.heap.size; omega) _) (p := ⟨w.heap.size, 2, none⟩) (by show q ≠ w.heap.size; omega) _
end Go.Proofs.Ytelpdngfbddflaa
