/- The calls of the net and of the reference's, each in one contract. Conditions: what each theorem's hypotheses say of the memory that it is handed. -/
import Derived.Test.YtelpdngfbddflaaC1
import Derived.Lib.ConvBytes
namespace Go.Proofs.Ytelpdngfbddflaa
open Go.RowKit
set_option linter.unusedVariables false
set_option linter.unusedSimpArgs false

def sendR (nodes f t : Int) : Int := if badNode nodes f t then 1 else 0
def sendL (nodes : Int) (l : List M) (m : M) : List M := if badNode nodes m.f m.t then l else l ++ [m]
def sendS (nodes f t : Int) (sent : Nat) : Nat := if badNode nodes f t then sent else sent + 1
def msgAt (l : List M) (k : Int) : M := (l[findAt l.length k]?).getD ⟨0, 0, []⟩
def some_ (l : List M) : Bool := decide (0 < l.length)
def lessL (l : List M) (k : Int) : List M := l.eraseIdx (findAt l.length k)
def moreL (l : List M) (k : Int) : List M := if 0 < l.length then l ++ [msgAt l k] else l

theorem send_any (base g : Nat) (nodes f t : Int) (sent : Nat) (l : List M) (bs : List UInt8) (v : Value) (w : World) (hN : NetAt base w g nodes l sent) (hbase : base ≤ w.heap.size) (hn : l.length < 512)
    (hs : sent < 1000000) (hb : Kp (bs.length ≤ 140737488355328)) (h : Rd w 1 v bs.length (u8s bs)) :
    Calls Try.prog 13 #[.pointer (some ⟨g, 0, none⟩), .int .i64 f, .int .i64 t, v] w fun e w' => e = .returned (.int .i64 (sendR nodes f t)) ∧ NetAt base w' g nodes (sendL nodes l ⟨f, t, bs⟩) (sendS nodes f t sent) ∧ Fr base [115, 38] w w' := by
  cases hbad : badNode nodes f t with
  | true =>
    obtain ⟨vl, hg, hbg, hr⟩ := hN
    refine (send_bad g nodes sent f t vl v w hg hbad).mono ?_
    rintro e w' ⟨rfl, rfl⟩
    exact ⟨by simp [sendR, hbad], ⟨vl, by simpa [sendS, hbad] using hg, hbg, by simpa [sendL, hbad] using hr⟩, Fr.refl _ _ _⟩
  | false =>
    refine (send_ok base g nodes f t sent l bs v w hN hbase hbad hn hs hb h).mono ?_
    rintro e w' ⟨rfl, r1, r2⟩
    exact ⟨by simp [sendR, hbad], by simpa [sendL, sendS, hbad] using r1, r2⟩
theorem send2_any (base g : Nat) (nodes f t : Int) (sent : Nat) (l : List M) (bs : List UInt8) (w : World) (hN : RefAt base w g nodes l sent) (hbase : base ≤ w.heap.size) (hn : l.length < 512)
    (hs : sent < 1000000) :
    Calls Try.prog 14 #[.pointer (some ⟨g, 0, none⟩), .int .i64 f, .int .i64 t, .string (strOf bs)] w fun e w' => e = .returned (.int .i64 (sendR nodes f t)) ∧ RefAt base w' g nodes (sendL nodes l ⟨f, t, bs⟩) (sendS nodes f t sent) ∧ Fr base [31, 42] w w' := by
  cases hbad : badNode nodes f t with
  | true =>
    obtain ⟨vl, hg, hbg, hr⟩ := hN
    refine (send2_bad g nodes sent f t vl _ w hg hbad).mono ?_
    rintro e w' ⟨rfl, rfl⟩
    exact ⟨by simp [sendR, hbad], ⟨vl, by simpa [sendS, hbad] using hg, hbg, by simpa [sendL, hbad] using hr⟩, Fr.refl _ _ _⟩
  | false =>
    refine (send2_ok base g nodes f t sent l bs w hN hbase hbad hn hs).mono ?_
    rintro e w' ⟨rfl, r1, r2⟩
    exact ⟨by simp [sendR, hbad], by simpa [sendL, sendS, hbad] using r1, r2⟩

theorem msgAt_get {l : List M} {k : Int} (hn : 0 < l.length) : l[findAt l.length k]? = some (msgAt l k) := by
  have hlt := findAt_lt k hn
  unfold msgAt
  rw [List.getElem?_eq_getElem hlt]
  rfl
theorem msgAt_mem {l : List M} {k : Int} (hn : 0 < l.length) : msgAt l k ∈ l := List.mem_of_getElem? (msgAt_get hn)
theorem some_true {l : List M} (hn : 0 < l.length) : some_ l = true := by simp [some_, hn]

theorem take_any (base g : Nat) (nodes : Int) (sent : Nat) (l : List M) (k : Int) (w : World) (hN : NetAt base w g nodes l sent) (hbase : base ≤ w.heap.size)
    (hm : l.length ≤ 1000) (hk0 : -9223372036854775808 ≤ k) (hk1 : k ≤ 9223372036854775807) (hb : Kp (∀ m ∈ l, m.b.length ≤ 140737488355328)) :
    Calls Try.prog 15 #[.pointer (some ⟨g, 0, none⟩), .int .i64 k] w fun e w' => ∃ A' c', e = .returned (.tuple #[.agg #[.int .i64 (msgAt l k).f, .int .i64 (msgAt l k).t, .slice A' (msgAt l k).b.length c'], .bool (some_ l)]) ∧
      w'.ownsRow w.heap.size 5 1 (.slice A' (msgAt l k).b.length c') (msgAt l k).b.length (u8s (msgAt l k).b) ∧ NetAt base w' g nodes (lessL l k) sent ∧ Fr base [115, 38] w w' := by
  by_cases hn : 0 < l.length
  · refine (take_some base g nodes sent l k _ (msgAt l k) w hN hbase hn hm hk0 hk1 rfl (msgAt_get hn) ⟨hb.out _ (msgAt_mem hn)⟩).mono ?_
    rintro e w' ⟨A, c, rfl, r1, r2, r3, _⟩
    exact ⟨A, c, by rw [some_true hn], r1, r2, r3⟩
  · have : l = [] := List.eq_nil_of_length_eq_zero (by omega)
    subst this
    refine (take_none base g nodes sent k w hN).mono ?_
    rintro e w' ⟨rfl, r⟩
    exact ⟨none, 0, rfl, ⟨rfl, .inl ⟨rfl, rfl⟩⟩, hN.fr (Fr.of_below (base := base) (T := []) r) (by simp) (by simp) (by simp), Fr.of_below r⟩
theorem take2_any (base g : Nat) (nodes : Int) (sent : Nat) (l : List M) (k : Int) (w : World) (hN : RefAt base w g nodes l sent) (hbase : base ≤ w.heap.size)
    (hm : l.length ≤ 1000) (hk0 : -9223372036854775808 ≤ k) (hk1 : k ≤ 9223372036854775807) :
    Calls Try.prog 16 #[.pointer (some ⟨g, 0, none⟩), .int .i64 k] w fun e w' => e = .returned (.tuple #[.agg #[.int .i64 (msgAt l k).f, .int .i64 (msgAt l k).t, .string (strOf (msgAt l k).b)], .bool (some_ l)]) ∧
      RefAt base w' g nodes (lessL l k) sent ∧ Fr base [31, 42] w w' := by
  by_cases hn : 0 < l.length
  · refine (take2_some base g nodes sent l k _ (msgAt l k) w hN hbase hn hm hk0 hk1 rfl (msgAt_get hn)).mono ?_
    rintro e w' ⟨rfl, r2, r3⟩
    exact ⟨by rw [some_true hn], r2, r3⟩
  · have : l = [] := List.eq_nil_of_length_eq_zero (by omega)
    subst this
    refine (take2_none base g nodes sent k w hN).mono ?_
    rintro e w' ⟨rfl, r⟩
    exact ⟨rfl, hN.fr (Fr.of_below (base := base) (T := []) r) (by simp) (by simp), Fr.of_below r⟩
theorem drop_any (base g : Nat) (nodes : Int) (sent : Nat) (l : List M) (k : Int) (w : World) (hN : NetAt base w g nodes l sent) (hbase : base ≤ w.heap.size)
    (hm : l.length ≤ 1000) (hk0 : -9223372036854775808 ≤ k) (hk1 : k ≤ 9223372036854775807) (hb : Kp (∀ m ∈ l, m.b.length ≤ 140737488355328)) :
    Calls Try.prog 18 #[.pointer (some ⟨g, 0, none⟩), .int .i64 k] w fun e w' => e = .returned (.bool (some_ l)) ∧ NetAt base w' g nodes (lessL l k) sent ∧ Fr base [115, 38] w w' := by
  by_cases hn : 0 < l.length
  · refine (drop_some base g nodes sent l k w hN hbase hn hm hk0 hk1 hb).mono ?_
    rintro e w' ⟨rfl, r2, r3⟩
    exact ⟨by rw [some_true hn], r2, r3⟩
  · have : l = [] := List.eq_nil_of_length_eq_zero (by omega)
    subst this
    refine (drop_none base g nodes sent k w hN).mono ?_
    rintro e w' ⟨rfl, r⟩
    exact ⟨rfl, hN.fr (Fr.of_below (base := base) (T := []) r) (by simp) (by simp) (by simp), Fr.of_below r⟩
theorem drop2_any (base g : Nat) (nodes : Int) (sent : Nat) (l : List M) (k : Int) (w : World) (hN : RefAt base w g nodes l sent) (hbase : base ≤ w.heap.size)
    (hm : l.length ≤ 1000) (hk0 : -9223372036854775808 ≤ k) (hk1 : k ≤ 9223372036854775807) :
    Calls Try.prog 19 #[.pointer (some ⟨g, 0, none⟩), .int .i64 k] w fun e w' => e = .returned (.bool (some_ l)) ∧ RefAt base w' g nodes (lessL l k) sent ∧ Fr base [31, 42] w w' := by
  by_cases hn : 0 < l.length
  · refine (drop2_some base g nodes sent l k w hN hbase hn hm hk0 hk1).mono ?_
    rintro e w' ⟨rfl, r2, r3⟩
    exact ⟨by rw [some_true hn], r2, r3⟩
  · have : l = [] := List.eq_nil_of_length_eq_zero (by omega)
    subst this
    refine (drop2_none base g nodes sent k w hN).mono ?_
    rintro e w' ⟨rfl, r⟩
    exact ⟨rfl, hN.fr (Fr.of_below (base := base) (T := []) r) (by simp) (by simp), Fr.of_below r⟩
theorem twice_any (base g : Nat) (nodes : Int) (sent : Nat) (l : List M) (k : Int) (w : World) (hN : NetAt base w g nodes l sent) (hbase : base ≤ w.heap.size)
    (hm : l.length < 512) (hk0 : -9223372036854775808 ≤ k) (hk1 : k ≤ 9223372036854775807) (hb : Kp (∀ m ∈ l, m.b.length ≤ 140737488355328)) :
    Calls Try.prog 20 #[.pointer (some ⟨g, 0, none⟩), .int .i64 k] w fun e w' => e = .returned (.bool (some_ l)) ∧ NetAt base w' g nodes (moreL l k) sent ∧ Fr base [115, 38] w w' := by
  by_cases hn : 0 < l.length
  · refine (twice_some base g nodes sent l k _ (msgAt l k) w hN hbase hn hm hk0 hk1 rfl (msgAt_get hn) ⟨hb.out _ (msgAt_mem hn)⟩).mono ?_
    rintro e w' ⟨rfl, r2, r3⟩
    exact ⟨by rw [some_true hn], by simpa [moreL, hn] using r2, r3⟩
  · have : l = [] := List.eq_nil_of_length_eq_zero (by omega)
    subst this
    refine (twice_none base g nodes sent k w hN).mono ?_
    rintro e w' ⟨rfl, rfl⟩
    exact ⟨rfl, hN, Fr.refl _ _ _⟩
theorem twice2_any (base g : Nat) (nodes : Int) (sent : Nat) (l : List M) (k : Int) (w : World) (hN : RefAt base w g nodes l sent) (hbase : base ≤ w.heap.size)
    (hm : l.length < 512) (hk0 : -9223372036854775808 ≤ k) (hk1 : k ≤ 9223372036854775807) :
    Calls Try.prog 21 #[.pointer (some ⟨g, 0, none⟩), .int .i64 k] w fun e w' => e = .returned (.bool (some_ l)) ∧ RefAt base w' g nodes (moreL l k) sent ∧ Fr base [31, 42] w w' := by
  by_cases hn : 0 < l.length
  · refine (twice2_some base g nodes sent l k _ (msgAt l k) w hN hbase hn hm hk0 hk1 rfl (msgAt_get hn)).mono ?_
    rintro e w' ⟨rfl, r2, r3⟩
    exact ⟨by rw [some_true hn], by simpa [moreL, hn] using r2, r3⟩
  · have : l = [] := List.eq_nil_of_length_eq_zero (by omega)
    subst this
    refine (twice2_none base g nodes sent k w hN).mono ?_
    rintro e w' ⟨rfl, rfl⟩
    exact ⟨rfl, hN, Fr.refl _ _ _⟩

/-! ### []byte(s), as a step of a region that draws -/
theorem exec_conv {P : Program} {o : Oper} {a : Act} {w w' : World} {v : Value} (s d : TypeId) (x : Operand)
    (ho : o.op = .convert s d x) (h : (convert s d (a.eval x)).run P w = .ok v w') : (execOp a.eval o).run P w = .ok (.value v) w' := by
  unfold execOp
  simp only [ho, Sem.run_bind, Sem.run_pure, Result.andThen_ok, h]
theorem strOf_size (bs : List UInt8) : (strOf bs).size = bs.length := by simp [strOf, ByteArray.size]
theorem bytesWorld_below (w : World) (e : TypeId) (s : ByteArray) : Below w.heap.size w (Lib.bytesWorld w e s) := by
  have hs := Lib.bytesWorld_size w e s
  refine ⟨?_, ?_, ?_, by omega, fun k hk => Lib.bytesWorld_at_old w e s k hk⟩
  all_goals (simp [Lib.bytesWorld, World.freeze, World.alloc, World.drew, -World.alloc_eq, -World.drew_eq])
theorem bytes_core (w : World) (bs : List UInt8) : ∃ A c w', (convert 9 35 (.string (strOf bs))).run Try.prog w = .ok (.slice A bs.length c) w' ∧ Rd w' 1 (.slice A bs.length c) bs.length (u8s bs) ∧ Below w.heap.size w w' := by
  have h := Lib.run_convert_string_bytes (P := Try.prog) w 9 35 5 (strOf bs) Try.underlying9 Try.underlying35 Try.underlying5
  rw [strOf_size] at h
  refine ⟨_, _, _, h, ⟨_, _, rfl, grownCap_ge w _ _ _, by rw [u8s_length]; omega, fun j u hj => ⟨_, rfl, ?_⟩⟩, bytesWorld_below w 5 (strOf bs)⟩
  have hl := (List.getElem?_eq_some_iff.1 hj).1
  rw [u8s_length] at hl
  have hadd : (⟨w.heap.size, 0, none⟩ : Addr).add j = ⟨w.heap.size, j, none⟩ := by unfold Addr.add; split <;> simp_all
  rw [hadd, Lib.bytesWorld_cell w 5 (strOf bs) j (by rw [strOf_size]; exact hl), ← hj]
  simp [strOf, u8s, List.getD, hl]
theorem step_bytes {ops : Array Oper} {o : Oper} {a : Act} {w : World} {K : Act → World → Prop} {Q : Exit → Act → World → Prop} {E : Prop} (hgd : o.guard = none) (x : Operand) (ho : o.op = .convert 9 35 x)
    (bs : List UInt8) (hx : a.eval x = .string (strOf bs))
    (h : ∀ A c w', Rd w' 1 (.slice A bs.length c) bs.length (u8s bs) → Below w.heap.size w w' → K (a.put o.dst (.slice A bs.length c)) w') :
    if Region.wanted o (yielded ops a.tmps) = true then Oper.wp Try.prog o a w K Q else E := by
  obtain ⟨A, c, w', h1, h2, h3⟩ := bytes_core w bs
  exact step_run hgd _ _ (exec_conv 9 35 x ho (by rw [hx]; exact h1)) (h A c w' h2 h3)
theorem wpList_bytes {ops : Array Oper} {rest : List Oper} {o : Oper} {a : Act} {w : World} {Q : Exit → Act → World → Prop} (hgd : o.guard = none) (x : Operand) (ho : o.op = .convert 9 35 x)
    (bs : List UInt8) (hx : a.eval x = .string (strOf bs))
    (h : ∀ A c w', Rd w' 1 (.slice A bs.length c) bs.length (u8s bs) → Below w.heap.size w w' → wpList Try.prog ops Q rest (a.put o.dst (.slice A bs.length c)) w') :
    wpList Try.prog ops Q (o :: rest) a w := by
  obtain ⟨A, c, w', h1, h2, h3⟩ := bytes_core w bs
  exact wpList_run hgd _ _ (exec_conv 9 35 x ho (by rw [hx]; exact h1)) (h A c w' h2 h3)
set_option maxRecDepth 20000 in
theorem upon_bytes {o : Oper} {a : Act} {w : World} {K : Act → World → Prop} {Q : Exit → Act → World → Prop} {f : Value → World → Result Next} (bs : List UInt8)
    (h : ∀ A c w', Rd w' 1 (.slice A bs.length c) bs.length (u8s bs) → Below w.heap.size w w' → Oper.upon Try.prog o a K Q (f (.slice A bs.length c) w')) :
    Oper.upon Try.prog o a K Q ((Sem.run Try.prog (convert 9 35 (.string (strOf bs))) w).andThen f) := by
  obtain ⟨A, c, w', h1, h2, h3⟩ := bytes_core w bs
  rw [h1]
  exact h A c w' h2 h3
end Go.Proofs.Ytelpdngfbddflaa
