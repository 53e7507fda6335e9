/-
  Proved: NetPlays returns true for every input, and its input reads as it did. No condition.
-/
import Derived.Test.YtelpdngfbddflaaRows
import Derived.Test.YtelpdngfbddflaaC2
import Derived.WalkKit
import Derived.ProofKit
import Derived.OpenShut
import Derived.ShutString
import Derived.ChangeOld
import Derived.Below
import Derived.SizedLaws
import Derived.Deep.Slices
namespace Go.Proofs.Ytelpdngfbddflaa.netPlays
open Go.ChangeShapes Go.WideShapes Go.ChangeAt Go.RowKit Go.Deep
open Go.ChangeMaps (open_string shut_string)
set_option linter.unusedVariables false
set_option linter.unusedSimpArgs false

theorem own : ownKnob Try.prog.godebug = none := by kernel_rfl
theorem laidOut : laidOutB Try.prog = true := by kernel_rfl
theorem cells33 : Try.prog.cellsOf 33 = 5 := by kernel_rfl
theorem cells3 : Try.prog.cellsOf 3 = 1 := by kernel_rfl
theorem cells9 : Try.prog.cellsOf 9 = 1 := by kernel_rfl

theorem int_bd {n : Int} (h : (Lit.int .i64 n).wf = true) : -9223372036854775808 ≤ n ∧ n ≤ 9223372036854775807 := by
  have := bounds_i64 h
  omega

set_option maxRecDepth 20000 in
/-- One call, as it is read. -/
theorem open_ask {H : Type} {enc : TypeId × Value → H} {W : World} {n : Nat} {cs : List Value} {D : DataW H} {Pl : List MemPlace}
    (h : DataW.trod enc Try.prog W 0 (fun _ => true) true n 33 cs = some (D, Pl)) (hw : ∀ k ∈ D.weights Try.prog 33, k ≤ reachBytes) :
    ∃ x : Ask, cs = acells x ∧ -9223372036854775808 ≤ x.n ∧ x.n ≤ 9223372036854775807 ∧ x.s.length ≤ 140737488355328 := by
  obtain ⟨xs, m, _, hx, hl, hlen, hf⟩ := DataW.trod_struct Try.underlying33 h
  match xs, hlen with
  | [y0, y1, y2, y3, y4], _ =>
    rw [cells33] at hl
    match cs, hl with
    | [c0, c1, c2, c3, c4], _ =>
      have h0 : DataW.trod enc Try.prog W 0 (fun _ => true) true m 3 [c0] = some y0 := by have := hf 0 _ rfl; simpa [cells3] using this
      have h1 : DataW.trod enc Try.prog W 0 (fun _ => true) true m 3 [c1] = some y1 := by have := hf 1 _ rfl; simpa [cells3] using this
      have h2 : DataW.trod enc Try.prog W 0 (fun _ => true) true m 3 [c2] = some y2 := by have := hf 2 _ rfl; simpa [cells3] using this
      have h3 : DataW.trod enc Try.prog W 0 (fun _ => true) true m 3 [c3] = some y3 := by have := hf 3 _ rfl; simpa [cells3] using this
      have h4 : DataW.trod enc Try.prog W 0 (fun _ => true) true m 9 [c4] = some y4 := by have := hf 4 _ rfl; simpa [cells9] using this
      obtain ⟨n0, e0, _, _⟩ := DataW.trod_int Try.underlying3 h0
      obtain ⟨n1, e1, _, _⟩ := DataW.trod_int Try.underlying3 h1
      obtain ⟨n2, e2, _, _⟩ := DataW.trod_int Try.underlying3 h2
      obtain ⟨n3, e3, _, w3⟩ := DataW.trod_int Try.underlying3 h3
      obtain ⟨s4, e4, f4, _⟩ := DataW.trod_string Try.underlying9 h4
      simp at e0 e1 e2 e3 e4
      subst e0 e1 e2 e3 e4
      have hb := int_bd w3
      refine ⟨⟨n0, n1, n2, n3, s4.data.toList⟩, ?_, hb.1, hb.2, ?_⟩
      · simp [acells, strOf]
      · have hD : D = .agg [y0.1, y1.1, y2.1, y3.1, y4.1] := by
          have := congrArg Prod.fst hx
          simpa using this
        have hy4 : y4.1 = .lit (.string s4.data.toList) := by rw [f4]
        have hmem := hw s4.data.toList.length (by
          rw [hD, hy4]
          unfold DataW.weights
          rw [Try.underlying33]
          refine DataW.weights_mem_each (j := 4) (t := 9) (d := .lit (.string s4.data.toList)) rfl rfl _ ?_
          unfold DataW.weights
          simp)
        have hr : reachBytes = 140737488351232 := by decide
        show s4.data.toList.length ≤ _
        omega

set_option maxRecDepth 20000 in
/-- The list of calls, as it came in. -/
theorem open_calls {H : Type} {enc : TypeId × Value → H} {W : World} {A : Option Addr} {len cap : Nat} {d : DataW H} {p : List MemPlace}
    (h : DataW.Trod enc Try.prog W 0 (fun _ => true) true 22 (.slice A len cap) d p) (hw : ∀ k ∈ d.weights Try.prog 22, k ≤ reachBytes) :
    (A = none ∧ len = 0 ∧ cap = 0) ∨ (∃ b off, A = some ⟨b, off, none⟩ ∧ len ≤ 9223372036854775807 ∧ AskRow W b off len) ∨ (∃ a, A = some a ∧ len = 0) := by
  obtain ⟨fuel, hf⟩ := h
  rcases open_slice Try.underlying22 hf with ⟨hcs, _⟩ | ⟨a, l, c, m, n, D, Pl, hcs, _, hl, hm, hmm, hx, hel⟩
  · simp [Value.cells] at hcs
    exact .inl hcs
  · simp [Value.cells] at hcs
    obtain ⟨rfl, rfl, rfl⟩ := hcs
    right
    by_cases h0 : len = 0
    · exact .inr ⟨a, rfl, h0⟩
    left
    have hlm : len ≤ m := by rw [hmm]; split <;> omega
    have hd : d = .slice ((List.range len).map D) ((List.range (m - len)).map fun j => D (len + j)) := congrArg Prod.fst hx
    have hrow : ∀ i, i < len → ∃ x : Ask, -9223372036854775808 ≤ x.n ∧ x.n ≤ 9223372036854775807 ∧ x.s.length ≤ 140737488355328 ∧ ∀ j u, (acells x)[j]? = some u → W.cell? ((a.add (i * 5)).add j) = some u := by
      intro i hi
      obtain ⟨cs', h1, h2⟩ := hel i (by omega)
      rw [cells33] at h1
      have hwi : ∀ k ∈ (D i).weights Try.prog 33, k ≤ reachBytes := fun k hk => hw k (by
        rw [hd]
        unfold DataW.weights
        rw [Try.underlying22]
        refine List.mem_cons_of_mem _ (List.mem_append_left _ ?_)
        have hmem : ∀ (l : List (DataW H)) (d0 : DataW H), d0 ∈ l → ∀ k ∈ d0.weights Try.prog 33, k ∈ DataW.weightsAll Try.prog 33 l := by
          intro l
          induction l with
          | nil => intro d0 h; cases h
          | cons e r ih =>
            intro d0 h k hk
            unfold DataW.weightsAll
            rcases List.mem_cons.1 h with rfl | h
            · exact List.mem_append_left _ hk
            · exact List.mem_append_right _ (ih d0 h k hk)
        exact hmem _ (D i) (List.mem_map.2 ⟨i, List.mem_range.2 hi, rfl⟩) k hk)
      obtain ⟨x, hxc, hb1, hb2, hb3⟩ := open_ask h2 hwi
      obtain ⟨_, hl5, hcell⟩ := World.cells?_some h1
      refine ⟨x, hb1, hb2, hb3, fun j u hj => ?_⟩
      have hj5 : j < 5 := by
        have := (List.getElem?_eq_some_iff.1 hj).1
        simpa [acells] using this
      rw [hcell j hj5, hxc]
      exact hj
    obtain ⟨x0, _, _, _, hc0⟩ := hrow 0 (by omega)
    have hspot : a.spot = none := by
      have hc := hc0 0 _ rfl
      have hc' : W.cell? a = some (.int .i64 x0.kind) := by simpa [Addr.add] using hc
      exact World.cell?_spot hc'
    obtain ⟨b, off, sp⟩ := a
    simp only at hspot
    subst hspot
    refine ⟨b, off, rfl, by unfold maxLen at hm; omega, fun i hi => ?_⟩
    obtain ⟨x, hb1, hb2, hb3, hc⟩ := hrow i hi
    have ha : ∀ j, ((⟨b, off, none⟩ : Addr).add (i * 5)).add j = ⟨b, off + i * 5 + j, none⟩ := fun j => by rw [Addr.add_lit, Addr.add_lit]
    exact ⟨x, hb1, hb2, hb3, by have := hc 0 _ rfl; rw [ha] at this; simpa using this, by have := hc 1 _ rfl; rw [ha] at this; exact this, by have := hc 2 _ rfl; rw [ha] at this; exact this, by have := hc 3 _ rfl; rw [ha] at this; exact this, by have := hc 4 _ rfl; rw [ha] at this; exact this⟩

theorem walk (nodes : Int) (A : Option Addr) (len cap : Nat) (W : World) (h : (A = none ∧ len = 0 ∧ cap = 0) ∨ (∃ b off, A = some ⟨b, off, none⟩ ∧ len ≤ 9223372036854775807 ∧ AskRow W b off len) ∨ (∃ a, A = some a ∧ len = 0)) :
    Calls Try.prog 3 #[.int .i64 nodes, .slice A len cap] W fun e w' => e = .returned (.bool true) ∧ Below W.heap.size W w' := by
  by_cases hn : 1 ≤ nodes ∧ nodes ≤ 5
  · rcases h with ⟨rfl, rfl, rfl⟩ | ⟨b, off, rfl, _, hA⟩ | ⟨a, rfl, rfl⟩
    · exact plays_ok nodes none 0 0 0 0 W hn.1 hn.2 ⟨fun h => by omega⟩ (fun i hi => by omega)
    · exact plays_ok nodes _ b off len cap W hn.1 hn.2 ⟨fun _ => rfl⟩ hA
    · exact plays_ok nodes _ 0 0 0 cap W hn.1 hn.2 ⟨fun h => by omega⟩ (fun i hi => by omega)
  · exact plays_bad nodes _ W (by omega)

set_option maxRecDepth 100000 in
theorem lifted (os : Os) (started : os.Started) (H : Type) (enc : TypeId × Value → H) :
    ReturnsInHanded {} Try.checked os 3 .any (Rows.netPlaysSpec.pre6 enc Try.prog Try.f3 Rows.netPlaysRow.domain false) (Rows.netPlaysSpec.post enc Try.prog Try.f3 false true false false) := by
  refine returnsInHanded_of_change_sized (C := Try.checked) own started (by kernel_rfl) Try.func3
    (ChangeSpec.witness6 (enc := enc) (C := Try.checked) false ⟨#[], #[.int .i64 0, .slice none 0 0], []⟩ 8 (by kernel_rfl) (by kernel_rfl) (by kernel_rfl) (by kernel_rfl)) ?_
  intro W base args ds gs before hval0 hW hcnd hsz0 _
  have hsz : (DataW.weightsEach Try.prog (Try.f3.params.toList ++ Rows.netPlaysSpec.plain.varTypes Try.prog) (ds ++ gs)).all (· ≤ reachBytes) = true := hsz0
  have hval : ∀ (j : Nat) t v, Try.f3.params[j]? = some t → args[j]? = some v → Value.okWide Try.prog W .any base t v := hval0
  have hW' := hW
  obtain ⟨p, q, hA0, hV, rfl, hfz, hnd⟩ := hW
  have hA : DataW.TrodAll enc Try.prog W 0 (fun _ => true) true Try.f3.params.toList args.toList ds p := hA0
  rw [Try.params3] at hA hval hsz
  obtain ⟨v0, vs0, d0, ds0, p0, q0, hargs, rfl, rfl, h0, r0⟩ := trodAll_cons hA
  obtain ⟨v1, vs1, d1, ds1, p1, q1, rfl, rfl, rfl, h1, r1⟩ := trodAll_cons r0
  obtain ⟨rfl, rfl, rfl⟩ := trodAll_nil r1
  obtain rfl : args = #[v0, v1] := by cases args; simp_all
  obtain ⟨rfl, rfl⟩ := trodVars_none hV
  obtain ⟨a0, rfl, rfl, rfl, w0⟩ := open_int Try.underlying3 (hval 0 3 v0 rfl rfl) h0
  obtain ⟨a1, len1, cap1, rfl⟩ := okWide_slice Try.underlying22 (hval 1 22 v1 rfl rfl)
  have k1 := h1
  have lt1 : ∀ x ∈ p1, x.block < W.heap.size := by obtain ⟨m, hm⟩ := k1; exact DataW.trod_lt m _ _ _ hm
  have hw1 : ∀ k ∈ d1.weights Try.prog 22, k ≤ reachBytes := fun k hk => by
    have h := DataW.weights_mem_each (P := Try.prog) (ts := #[3, 22].toList ++ Rows.netPlaysSpec.plain.varTypes Try.prog) (ds := [DataW.lit (Lit.int .i64 a0), d1] ++ []) (j := 1) (t := 22) (d := d1) rfl rfl k hk
    have h2 := List.all_eq_true.1 hsz k h
    simpa using h2
  have hrow := open_calls h1 hw1
  clear hA0 hval0 hsz0 hsz hw1
  refine (walk a0 a1 len1 cap1 W hrow).mono fun e W' ⟨he, bel⟩ => ?_
  subst he
  exact ⟨_, rfl, _, _, _, [], _, [], hW', trodAll_mk1 (shut_bool Try.underlying4 _), (trodAll_cons_mk (shut_int Try.underlying3 w0) (trodAll_cons_mk (Below.trod laidOut (by kernel_rfl) (of_decide_eq_true (by kernel_rfl)) k1 bel lt1) trodAll_mk0)), rfl, bel.frame _, fun h => by cases h⟩

theorem over : Rows.netPlaysRow.holds Try.pinned (OpenSpec.ofChange Rows.netPlaysSpec) :=
  OpenClaim.holds_of_wide 3 Try.f3 rfl rfl rfl rfl rfl rfl rfl ⟨rfl, rfl, rfl, rfl, rfl⟩ rfl rfl rfl rfl rfl (by kernel_rfl) Try.func3 (by kernel_rfl)
    (of_decide_eq_true (by kernel_rfl)) (by unfold Func.isWrapper; first | (rw [if_pos (by decide +kernel)]; kernel_rfl) | (rw [if_neg (by decide +kernel)]; exact ⟨rfl, rfl⟩))
    (fun os started H enc _ => lifted os started H enc)

theorem proved : Rows.NetPlaysSaid := over
#print axioms proved
end Go.Proofs.Ytelpdngfbddflaa.netPlays
