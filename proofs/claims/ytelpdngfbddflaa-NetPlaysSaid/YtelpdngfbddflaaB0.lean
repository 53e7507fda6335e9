/- Small laws on memory that the walks of this seat use: frames by element type, rows of cells that are read, append. No condition: each law says what it asks. -/
import Derived.Test.YtelpdngfbddflaaProg
import Derived.WalkKit
import Derived.WalkSpells
import Derived.WalkLawsBesides
import Derived.KernelRfl
import Derived.Deep.Draws
namespace Go.Proofs.Ytelpdngfbddflaa
open Go.RowKit
set_option linter.unusedVariables false
set_option linter.unusedSimpArgs false

/-- A fact that the walk does not look into. -/
structure Kp (p : Prop) : Prop where mk :: (out : p)

/-! ### the facts of the table of types -/
theorem Try.info5 : (Try.prog.info? 5).map (fun i => (i.zero, i.size, i.bytes)) = some (some (.int .u8 0), 1, 1) := by kernel_rfl
theorem Try.info3 : (Try.prog.info? 3).map (fun i => (i.zero, i.size, i.bytes)) = some (some (.int .i64 0), 1, 8) := by kernel_rfl

/-! ### bytes -/
def u8s (bs : List UInt8) : List Value := bs.map fun b => .int .u8 (b.toNat : Int)
theorem u8s_length (bs : List UInt8) : (u8s bs).length = bs.length := by simp [u8s]
theorem u8s_one (bs : List UInt8) : ∀ u ∈ u8s bs, u.oneCell' = true := by
  intro u hu; simp [u8s] at hu; obtain ⟨b, _, rfl⟩ := hu; rfl
theorem u8s_append (a b : List UInt8) : u8s (a ++ b) = u8s a ++ u8s b := by simp [u8s]

/-! ### frames by element type -/
def elemOf : Obj → Option TypeId
  | .cells _ e _ => some e
  | _ => none

/-- From w to w' nothing has turned but blocks from base on whose elements are of a type in T; new blocks may have come. -/
structure Fr (base : Nat) (T : List TypeId) (w w' : World) : Prop where
  os : w'.os = w.os
  tape : w'.tape = w.tape
  output : w'.output = w.output
  size : w.heap.size ≤ w'.heap.size
  block : ∀ k o, w.heap[k]? = some o → (k < base ∨ ∀ t, elemOf o = some t → t ∉ T) → w'.heap[k]? = some o

theorem Fr.refl (base : Nat) (T : List TypeId) (w : World) : Fr base T w w := ⟨rfl, rfl, rfl, Nat.le_refl _, fun _ _ h _ => h⟩
theorem Fr.trans {base : Nat} {T : List TypeId} {a b c : World} (h : Fr base T a b) (k : Fr base T b c) : Fr base T a c :=
  ⟨k.os.trans h.os, k.tape.trans h.tape, k.output.trans h.output, Nat.le_trans h.size k.size, fun i o hi ho => k.block i o (h.block i o hi ho) ho⟩
theorem Fr.mono {base base' : Nat} {T T' : List TypeId} {a b : World} (h : Fr base T a b) (hb : base' ≤ base) (hT : ∀ t, t ∈ T → t ∈ T') : Fr base' T' a b :=
  ⟨h.os, h.tape, h.output, h.size, fun i o hi ho => h.block i o hi (ho.imp (fun x => Nat.lt_of_lt_of_le x hb) (fun x t ht hm => x t ht (hT t hm)))⟩
theorem Fr.of_below {base : Nat} {T : List TypeId} {w w' : World} (h : Below w.heap.size w w') : Fr base T w w' :=
  ⟨h.os, h.tape, h.output, h.size, fun k o hk _ => by rw [h.block k (Array.getElem?_eq_some_iff.1 hk).1]; exact hk⟩
theorem Fr.below {base : Nat} {T : List TypeId} {w w' : World} (h : Fr base T w w') (hb : base ≤ w.heap.size) : Below base w w' :=
  ⟨h.os, h.tape, h.output, h.size, fun k hk => by
    have hlt : k < w.heap.size := by omega
    rw [Array.getElem?_eq_getElem hlt]
    exact h.block k _ (Array.getElem?_eq_getElem hlt) (.inl hk)⟩
theorem Fr.alloc {base : Nat} {T : List TypeId} {a w : World} (h : Fr base T a w) (o : Obj) : Fr base T a (w.alloc o) :=
  h.trans (.of_below ((Below.refl _ _).alloc (Nat.le_refl _) o))
theorem Fr.drew {base : Nat} {T : List TypeId} {a w : World} (h : Fr base T a w) : Fr base T a w.drew := ⟨h.os, h.tape, h.output, h.size, h.block⟩
theorem Fr.drewN {base : Nat} {T : List TypeId} {a w : World} (h : Fr base T a w) (n : Nat) : Fr base T a (w.drewN n) := ⟨h.os, h.tape, h.output, h.size, h.block⟩
theorem Fr.setCell {base : Nat} {T : List TypeId} {a w : World} (h : Fr base T a w) {p : Addr} {cs : Array Value} {t : TypeId} {fr : Nat × Nat}
    (hp : w.heap[p.block]? = some (.cells cs t fr)) (hb : base ≤ p.block) (ht : t ∈ T) (u : Value) : Fr base T a (w.setCell p u) :=
  h.trans ⟨rfl, rfl, rfl, by simp [World.setCell], fun k o hk ho => by
    by_cases e : k = p.block
    · subst e
      rw [hp] at hk
      injection hk with hk
      subst hk
      rcases ho with ho | ho
      · omega
      · exact absurd ht (ho t rfl)
    · rw [Below.heap_setCell w p u k e]; exact hk⟩
theorem Fr.grown {base : Nat} {T : List TypeId} {a w w' : World} {row : Option Nat} (h : Fr base T a w) (hg : w.grownBy w' row)
    (hr : ∀ k, row = some k → base ≤ k ∧ ∃ cs t fr, w.heap[k]? = some (.cells cs t fr) ∧ t ∈ T) : Fr base T a w' :=
  h.trans ⟨hg.os, hg.tape, hg.output, hg.size, fun k o hk ho => by
    have hlt := (Array.getElem?_eq_some_iff.1 hk).1
    by_cases e : some k = row
    · obtain ⟨h1, cs, t, fr, h2, h3⟩ := hr k e.symm
      rw [h2] at hk
      injection hk with hk
      subst hk
      rcases ho with ho | ho
      · omega
      · exact absurd h3 (ho t rfl)
    · rw [hg.block k hlt e]; exact hk⟩
/-- A block of another type, or below base, is as it was. -/
theorem Fr.blk {base : Nat} {T : List TypeId} {w w' : World} (h : Fr base T w w') {g : Nat} {cs : Array Value} {t : TypeId} {fr : Nat × Nat}
    (hg : w.heap[g]? = some (.cells cs t fr)) (ht : t ∉ T) : w'.heap[g]? = some (.cells cs t fr) :=
  h.block g _ hg (.inr fun t' e => by simp [elemOf] at e; subst e; exact ht)
theorem Fr.own {base : Nat} {T : List TypeId} {w w' : World} (h : Fr base T w w') {b : Nat} {e : TypeId} {size n : Nat} {v : Value} {xs : List Value}
    (ho : w.ownsRow b e size v n xs) (ht : e ∉ T) : w'.ownsRow b e size v n xs := by
  obtain ⟨h1, h2⟩ := ho
  refine ⟨h1, ?_⟩
  rcases h2 with h2 | ⟨g, cap, cur, hv, hg, hh, r⟩
  · exact .inl h2
  · exact .inr ⟨g, cap, cur, hv, hg, h.blk hh ht, r⟩
theorem Fr.cell {base : Nat} {T : List TypeId} {w w' : World} (h : Fr base T w w') {g : Nat} {cs : Array Value} {t : TypeId} {fr : Nat × Nat}
    (hg : w.heap[g]? = some (.cells cs t fr)) (ht : t ∉ T) (i : Nat) : w'.cell? ⟨g, i, none⟩ = w.cell? ⟨g, i, none⟩ := by
  simp [World.cell?, h.blk hg ht, hg]
theorem Fr.frozen {base : Nat} {T : List TypeId} {w w' : World} (h : Fr base T w w') {g : Nat} {cs : Array Value} {t : TypeId} {fr : Nat × Nat}
    (hg : w.heap[g]? = some (.cells cs t fr)) (ht : t ∉ T) (i : Nat) : w'.frozen? ⟨g, i, none⟩ = w.frozen? ⟨g, i, none⟩ := by
  simp [World.frozen?, h.blk hg ht, hg]
theorem Fr.cellB {base : Nat} {T : List TypeId} {w w' : World} (h : Fr base T w w') {a : Addr} {v : Value} (hc : w.cell? a = some v) (ha : a.block < base) : w'.cell? a = some v := by
  have hlt := World.block_lt_of_cell? w a hc
  rw [← hc]
  exact World.cell?_of_block ((h.block a.block _ (Array.getElem?_eq_getElem hlt) (.inl ha)).trans (Array.getElem?_eq_getElem hlt).symm)

/-! ### what is read -/
/-- v is a slice of n elements of size cells each: its cells are cs. -/
def Rd (w : World) (size : Nat) (v : Value) (n : Nat) (cs : List Value) : Prop :=
  ∃ A c, v = .slice A n c ∧ n ≤ c ∧ cs.length = n * size ∧ ∀ j u, cs[j]? = some u → ∃ a, A = some a ∧ w.cell? (a.add j) = some u

theorem Rd.below {w w' : World} {size n : Nat} {v : Value} {cs : List Value} (h : Rd w size v n cs) (hb : Below w.heap.size w w') : Rd w' size v n cs := by
  obtain ⟨A, c, hv, hn, hl, hc⟩ := h
  refine ⟨A, c, hv, hn, hl, fun j u hj => ?_⟩
  obtain ⟨a, ha, hcell⟩ := hc j u hj
  exact ⟨a, ha, (hb.cell (World.block_lt_of_cell? w _ hcell)).trans hcell⟩
theorem own_ub {w : World} {base n m c size : Nat} {e : TypeId} {A : Option Addr} {xs : List Value} (h : w.ownsRow base e size (.slice A m c) n xs) : n = m ∧ m ≤ c := by
  rcases h.2 with ⟨h', rfl⟩ | ⟨g, cap, cur, h', _, _, hl, _⟩
  · injection h' with _ h1 h2; omega
  · injection h' with _ h1 h2; omega
theorem Rd.of_own {w : World} {base n size : Nat} {e : TypeId} {v : Value} {xs : List Value} (h : w.ownsRow base e size v n xs) : Rd w size v n xs := by
  have hcells := fun g => h.cells (g := g)
  obtain ⟨h1, h2⟩ := h
  rcases h2 with ⟨rfl, rfl⟩ | ⟨g, cap, cur, rfl, hg, hh, hn, hr⟩
  · refine ⟨none, 0, rfl, Nat.le_refl _, h1, fun j u hj => ?_⟩
    have : xs = [] := List.eq_nil_of_length_eq_zero (by simpa using h1)
    simp [this] at hj
  · exact ⟨_, cap, rfl, hn, h1, fun j u hj => ⟨_, rfl, hcells g rfl j u hj⟩⟩
theorem own_le {w : World} {base n size : Nat} {e : TypeId} {v : Value} {xs : List Value} (h : w.ownsRow base e size v n xs) : n ≤ maxLen := by
  rcases h.2 with ⟨_, rfl⟩ | ⟨g, cap, cur, _, _, _, hl, hm, _⟩
  · exact Nat.zero_le _
  · omega
theorem own_low {w : World} {base base' n size : Nat} {e : TypeId} {v : Value} {xs : List Value} (h : w.ownsRow base e size v n xs) (hb : base' ≤ base) : w.ownsRow base' e size v n xs := by
  obtain ⟨h1, h2⟩ := h
  refine ⟨h1, ?_⟩
  rcases h2 with h2 | ⟨g, cap, cur, hv, hg, r⟩
  · exact .inl h2
  · exact .inr ⟨g, cap, cur, hv, by omega, r⟩

theorem own_slice {w : World} {base n size : Nat} {e : TypeId} {v : Value} {xs : List Value} (h : w.ownsRow base e size v n xs) : ∃ A c, v = .slice A n c ∧ n ≤ c := by
  rcases h.2 with ⟨rfl, rfl⟩ | ⟨g, cap, cur, rfl, _, _, hl, _⟩
  · exact ⟨none, 0, rfl, Nat.le_refl _⟩
  · exact ⟨_, cap, rfl, hl⟩

/-! ### append onto a row of one's own, whatever is appended -/
theorem exec_append {P : Program} {o : Oper} {a : Act} {w w' : World} {v : Value} (args : Array Operand) (ts : Array TypeId)
    (ho : o.op = .call { callee := .builtin .append, args := args, argTypes := ts }) (h : (Builtin.append_ ts o.type (args.map a.eval)).run P w = .ok v w') :
    (execOp a.eval o).run P w = .ok (.value v) w' := by
  unfold execOp
  simp only [ho, resolve, invoke, builtin, Sem.run_bind, Sem.run_pure, Result.andThen_ok, h]
theorem exec_clear {P : Program} {o : Oper} {a : Act} {w w' : World} {v : Value} (args : Array Operand) (ts : Array TypeId)
    (ho : o.op = .call { callee := .builtin .clear, args := args, argTypes := ts }) (h : (Builtin.clear_ ts o.type (args.map a.eval)).run P w = .ok v w') :
    (execOp a.eval o).run P w = .ok (.value v) w' := by
  unfold execOp
  simp only [ho, resolve, invoke, builtin, Sem.run_bind, Sem.run_pure, Result.andThen_ok, h]
/-- An operation of a region that draws, by the equation of its run. -/
theorem step_run {P : Program} {ops : Array Oper} {o : Oper} {a : Act} {w : World} {K : Act → World → Prop} {Q : Exit → Act → World → Prop} {E : Prop}
    (hg : o.guard = none) (v : Value) (w' : World) (hrun : (execOp a.eval o).run P w = .ok (.value v) w') (hK : K (a.put o.dst v) w') :
    if Region.wanted o (yielded ops a.tmps) = true then Oper.wp P o a w K Q else E := by
  rw [if_pos (by simp [Region.wanted, hg])]
  unfold Oper.wp
  rw [hrun]
  exact hK
theorem wpList_run {P : Program} {ops : Array Oper} {rest : List Oper} {o : Oper} {a : Act} {w : World} {Q : Exit → Act → World → Prop}
    (hg : o.guard = none) (v : Value) (w' : World) (hrun : (execOp a.eval o).run P w = .ok (.value v) w') (hK : wpList P ops Q rest (a.put o.dst v) w') :
    wpList P ops Q (o :: rest) a w := by
  refine wpList_plain hg fun K hK' => ?_
  unfold Oper.wp
  rw [hrun]
  exact hK' _ _ hK
theorem ap_core {P : Program} (w : World) (t ty : TypeId)
    (base : Nat) (e : TypeId) (z : Value) (size bytes : Nat) (ht : P.underlying t = some (.slice e)) (hinfo : (P.info? e).map (fun i => (i.zero, i.size, i.bytes)) = some (some z, size, bytes))
    (hzs : z.cells.size = size) (hsz : 0 < size)
    (v : Value) (n : Nat) (xs : List Value) (hown : w.ownsRow base e size v n xs)
    (m : Nat) (news : List Value) (vx : Value) (hrd : Rd w size vx m news) (h1 : ∀ u ∈ news, u.oneCell' = true)
    (hbytes : Kp ((n + m) * bytes ≤ 140737488355328)) (hb1 : 0 < bytes) (hbase : base ≤ w.heap.size) :
    ∃ v' w', (Builtin.append_ #[t, t] ty #[v, vx]).run P w = .ok v' w' ∧ w'.ownsRow base e size v' (n + m) (xs ++ news) ∧ w.grownBy w' v.ownBlock := by
  obtain ⟨i, hi, hz, hsize, hby⟩ := info_parts hinfo
  obtain ⟨A, c, rfl, hmc, hl, hc⟩ := hrd
  have hbytes := hbytes.out
  have hmax : n + m ≤ maxLen := by
    unfold maxLen
    have := Nat.le_trans (Nat.le_mul_of_pos_right (n + m) hb1) hbytes
    omega
  cases A with
  | some ad =>
    have hnews : ∀ j u, news[j]? = some u → w.cell? (ad.add j) = some u := fun j u hj => by
      obtain ⟨a, ha, hcell⟩ := hc j u hj
      injection ha with ha
      subst ha
      exact hcell
    obtain ⟨v', w', hr, h2, h3, _⟩ := run_append_own (P := P) w base t ty e i z size bytes ht hi hz hsize hby hzs hsz v n xs hown ad m c news hl hnews h1 hmax hbytes hbase
    exact ⟨v', w', hr, h2, h3⟩
  | none =>
    have hnil : news = [] := by
      cases news with
      | nil => rfl
      | cons u r => obtain ⟨a, ha, _⟩ := hc 0 u rfl; cases ha
    subst hnil
    have hm : m = 0 := by
      rcases Nat.eq_zero_or_pos m with h | h
      · exact h
      · have := Nat.mul_pos h hsz
        simp at hl
        omega
    subst hm
    refine ⟨v, w, ?_, by simpa using hown, ⟨rfl, rfl, rfl, Nat.le_refl _, fun _ _ _ => rfl⟩⟩
    rcases hown.2 with ⟨rfl, rfl⟩ | ⟨g, cap, cur, rfl, hbg, hg, hnc, hcm, hcs, htake⟩
    · simp [Builtin.append_, run_underlying ht, sizeOf, typeInfo, hi, Builtin.lenOf, Builtin.firstCells]
    · simp [Builtin.append_, run_underlying ht, sizeOf, typeInfo, hi, Builtin.lenOf, Builtin.firstCells, hnc, storeCells]
theorem ap_own {P : Program} {ops : Array Oper} {rest : List Oper} {o : Oper} {a : Act} {Q : Exit → Act → World → Prop} (w : World) (hgd : o.guard = none) (s x : Operand) (t : TypeId)
    (ho : o.op = .call { callee := .builtin .append, args := #[s, x], argTypes := #[t, t] })
    (base : Nat) (e : TypeId) (z : Value) (size bytes : Nat) (ht : P.underlying t = some (.slice e)) (hinfo : (P.info? e).map (fun i => (i.zero, i.size, i.bytes)) = some (some z, size, bytes))
    (hzs : z.cells.size = size) (hsz : 0 < size)
    (v : Value) (n : Nat) (xs : List Value) (hs : a.eval s = v) (hown : w.ownsRow base e size v n xs)
    (m : Nat) (news : List Value) (vx : Value) (hx : a.eval x = vx) (hrd : Rd w size vx m news) (h1 : ∀ u ∈ news, u.oneCell' = true)
    (hbytes : Kp ((n + m) * bytes ≤ 140737488355328)) (hb1 : 0 < bytes) (hbase : base ≤ w.heap.size)
    (h : ∀ v' w', w'.ownsRow base e size v' (n + m) (xs ++ news) → w.grownBy w' v.ownBlock → wpList P ops Q rest (a.put o.dst v') w') : wpList P ops Q (o :: rest) a w := by
  obtain ⟨v', w', hr, h2, h3⟩ := ap_core (P := P) w t o.type base e z size bytes ht hinfo hzs hsz v n xs hown m news vx hrd h1 hbytes hb1 hbase
  exact wpList_run hgd v' w' (exec_append #[s, x] #[t, t] ho (by simpa [hs, hx] using hr)) (h v' w' h2 h3)
theorem step_ap {P : Program} {ops : Array Oper} {o : Oper} {a : Act} {w : World} {K : Act → World → Prop} {Q : Exit → Act → World → Prop} {E : Prop} (hgd : o.guard = none) (s x : Operand) (t : TypeId)
    (ho : o.op = .call { callee := .builtin .append, args := #[s, x], argTypes := #[t, t] })
    (base : Nat) (e : TypeId) (z : Value) (size bytes : Nat) (ht : P.underlying t = some (.slice e)) (hinfo : (P.info? e).map (fun i => (i.zero, i.size, i.bytes)) = some (some z, size, bytes))
    (hzs : z.cells.size = size) (hsz : 0 < size)
    (v : Value) (n : Nat) (xs : List Value) (hs : a.eval s = v) (hown : w.ownsRow base e size v n xs)
    (m : Nat) (news : List Value) (vx : Value) (hx : a.eval x = vx) (hrd : Rd w size vx m news) (h1 : ∀ u ∈ news, u.oneCell' = true)
    (hbytes : Kp ((n + m) * bytes ≤ 140737488355328)) (hb1 : 0 < bytes) (hbase : base ≤ w.heap.size)
    (h : ∀ v' w', w'.ownsRow base e size v' (n + m) (xs ++ news) → w.grownBy w' v.ownBlock → K (a.put o.dst v') w') :
    if Region.wanted o (yielded ops a.tmps) = true then Oper.wp P o a w K Q else E := by
  obtain ⟨v', w', hr, h2, h3⟩ := ap_core (P := P) w t o.type base e z size bytes ht hinfo hzs hsz v n xs hown m news vx hrd h1 hbytes hb1 hbase
  exact step_run hgd v' w' (exec_append #[s, x] #[t, t] ho (by simpa [hs, hx] using hr)) (h v' w' h2 h3)

/-- Old cells and old marks read as they did. -/
theorem bcell {W w1 : World} (hb : Below W.heap.size W w1) : (∀ b o, b < W.heap.size → w1.cell? ⟨b, o, none⟩ = W.cell? ⟨b, o, none⟩) ∧ (∀ b o, b < W.heap.size → w1.frozen? ⟨b, o, none⟩ = W.frozen? ⟨b, o, none⟩) :=
  ⟨fun b o h => hb.cell (p := ⟨b, o, none⟩) h, fun b o h => hb.frozen (p := ⟨b, o, none⟩) h⟩

/-- A block that is known whole: its cells, its marks. -/
theorem blkc {w : World} {g : Nat} {cs : Array Value} {t : TypeId} (h : w.heap[g]? = some (.cells cs t (0, 0))) (i : Nat) : w.cell? ⟨g, i, none⟩ = cs[i]? := cell_of_row w g i cs t (0, 0) h
theorem blkf {w : World} {g : Nat} {cs : Array Value} {t : TypeId} (h : w.heap[g]? = some (.cells cs t (0, 0))) (i : Nat) : w.frozen? ⟨g, i, none⟩ = false := by simp [World.frozen?, h]
theorem blkl {w : World} {g : Nat} {o : Obj} (h : w.heap[g]? = some o) : g < w.heap.size := (Array.getElem?_eq_some_iff.1 h).1
theorem blk1 {w : World} {g : Nat} {a : Value} {t : TypeId} (h : w.heap[g]? = some (.cells #[a] t (0, 0))) : w.cell? ⟨g, 0, none⟩ = some a ∧ w.frozen? ⟨g, 0, none⟩ = false := ⟨blkc h 0, blkf h 0⟩
theorem blk2 {w : World} {g : Nat} {a b : Value} {t : TypeId} (h : w.heap[g]? = some (.cells #[a, b] t (0, 0))) : w.cell? ⟨g, 0, none⟩ = some a ∧ w.cell? ⟨g, 1, none⟩ = some b ∧ w.frozen? ⟨g, 0, none⟩ = false ∧ w.frozen? ⟨g, 1, none⟩ = false :=
  ⟨blkc h 0, blkc h 1, blkf h 0, blkf h 1⟩
theorem blk3 {w : World} {g : Nat} {a b c : Value} {t : TypeId} (h : w.heap[g]? = some (.cells #[a, b, c] t (0, 0))) : w.cell? ⟨g, 0, none⟩ = some a ∧ w.cell? ⟨g, 1, none⟩ = some b ∧ w.cell? ⟨g, 2, none⟩ = some c ∧
    w.frozen? ⟨g, 0, none⟩ = false ∧ w.frozen? ⟨g, 1, none⟩ = false ∧ w.frozen? ⟨g, 2, none⟩ = false := ⟨blkc h 0, blkc h 1, blkc h 2, blkf h 0, blkf h 1, blkf h 2⟩
theorem blk4 {w : World} {g : Nat} {a b c d : Value} {t : TypeId} (h : w.heap[g]? = some (.cells #[a, b, c, d] t (0, 0))) : w.cell? ⟨g, 0, none⟩ = some a ∧ w.cell? ⟨g, 1, none⟩ = some b ∧ w.cell? ⟨g, 2, none⟩ = some c ∧ w.cell? ⟨g, 3, none⟩ = some d ∧
    w.frozen? ⟨g, 0, none⟩ = false ∧ w.frozen? ⟨g, 1, none⟩ = false ∧ w.frozen? ⟨g, 2, none⟩ = false ∧ w.frozen? ⟨g, 3, none⟩ = false := ⟨blkc h 0, blkc h 1, blkc h 2, blkc h 3, blkf h 0, blkf h 1, blkf h 2, blkf h 3⟩
theorem blk5 {w : World} {g : Nat} {a b c d e : Value} {t : TypeId} (h : w.heap[g]? = some (.cells #[a, b, c, d, e] t (0, 0))) : w.cell? ⟨g, 0, none⟩ = some a ∧ w.cell? ⟨g, 1, none⟩ = some b ∧ w.cell? ⟨g, 2, none⟩ = some c ∧ w.cell? ⟨g, 3, none⟩ = some d ∧ w.cell? ⟨g, 4, none⟩ = some e ∧
    w.frozen? ⟨g, 0, none⟩ = false ∧ w.frozen? ⟨g, 1, none⟩ = false ∧ w.frozen? ⟨g, 2, none⟩ = false ∧ w.frozen? ⟨g, 3, none⟩ = false ∧ w.frozen? ⟨g, 4, none⟩ = false := ⟨blkc h 0, blkc h 1, blkc h 2, blkc h 3, blkc h 4, blkf h 0, blkf h 1, blkf h 2, blkf h 3, blkf h 4⟩
theorem new_at (w : World) (o : Obj) : (w.alloc o).heap[w.heap.size]? = some o := heap_alloc_new w o
theorem old_at {w : World} {g : Nat} {o : Obj} (h : w.heap[g]? = some o) (o' : Obj) : (w.alloc o').heap[g]? = some o := (Below.heap_alloc w o' g (blkl h)).trans h
theorem bel_at {w w1 : World} {g : Nat} {o : Obj} (h : w.heap[g]? = some o) (hb : Below w.heap.size w w1) : w1.heap[g]? = some o := (hb.block g (blkl h)).trans h
theorem set_at {w : World} {g : Nat} {t : TypeId} {cs : Array Value} (h : w.heap[g]? = some (.cells cs t (0, 0))) (i : Nat) (u : Value) : (w.setCell ⟨g, i, none⟩ u).heap[g]? = some (.cells (cs.setIfInBounds i u) t (0, 0)) := by
  simp [World.setCell, Array.getElem?_modify, h]
theorem far_at {w : World} {g : Nat} {o : Obj} (h : w.heap[g]? = some o) {p : Addr} (hp : g ≠ p.block) (u : Value) : (w.setCell p u).heap[g]? = some o := (Below.heap_setCell w p u g hp).trans h

theorem own_bel {w w1 : World} {base n size : Nat} {e : TypeId} {v : Value} {xs : List Value} (h : w.ownsRow base e size v n xs) (hb : Below w.heap.size w w1) : w1.ownsRow base e size v n xs :=
  (Fr.of_below (base := 0) (T := []) hb).own h (by simp)
theorem bel_drew {w w1 : World} (h : Below w.drew.heap.size w.drew w1) : Below w.heap.size w w1 := ⟨h.os, h.tape, h.output, h.size, h.block⟩
theorem bel_drewN {w w1 : World} {k : Nat} (h : Below (w.drewN k).heap.size (w.drewN k) w1) : Below w.heap.size w w1 := ⟨h.os, h.tape, h.output, h.size, h.block⟩
theorem bel_alloc {w w1 : World} {o : Obj} (h : Below (w.alloc o).heap.size (w.alloc o) w1) : Below w.heap.size w w1 :=
  ((Below.refl _ _).alloc (Nat.le_refl _) o).trans (h.mono (by simp))
theorem bel_bel {w w1 w2 : World} (h : Below w.heap.size w w1) (k : Below w1.heap.size w1 w2) : Below w.heap.size w w2 := h.trans (k.mono h.size)
theorem bel_al {w w1 : World} (h : Below w.heap.size w w1) (o : Obj) : Below w.heap.size w (w1.alloc o) := h.alloc h.size o
theorem own_ne {w : World} {base : Nat} {e t : TypeId} {size n g : Nat} {v : Value} {xs : List Value} {cs : Array Value} {fr : Nat × Nat} (h : w.ownsRow base e size v n xs) (hg : w.heap[g]? = some (.cells cs t fr)) (hne : e ≠ t) : some g ≠ v.ownBlock := by
  rcases h.2 with ⟨rfl, _⟩ | ⟨g', cap, cur, rfl, _, hh, _⟩
  · simp [Value.ownBlock]
  · intro e1
    simp only [Value.ownBlock, Option.some.injEq] at e1
    subst e1
    rw [hg] at hh
    injection hh with hh
    injection hh with _ h2
    exact hne h2.symm
theorem own_far {w : World} {base : Nat} {e : TypeId} {size n : Nat} {v : Value} {xs : List Value} (h : w.ownsRow base e size v n xs) {p : Addr} (hne : some p.block ≠ v.ownBlock) (u : Value) : (w.setCell p u).ownsRow base e size v n xs := by
  obtain ⟨h1, h2⟩ := h
  refine ⟨h1, ?_⟩
  rcases h2 with h2 | ⟨g, cap, cur, rfl, hg, hh, r⟩
  · exact .inl h2
  · refine .inr ⟨g, cap, cur, rfl, hg, ?_, r⟩
    rw [Below.heap_setCell w p u g (fun e => hne (by simp [Value.ownBlock, e]))]
    exact hh
theorem grn_at {w w1 : World} {g : Nat} {o : Obj} {row : Option Nat} (h : w.heap[g]? = some o) (hg : w.grownBy w1 row) (hne : some g ≠ row) : w1.heap[g]? = some o := (hg.block g (blkl h) hne).trans h
theorem own_grn {w w1 : World} {base n size : Nat} {e : TypeId} {v : Value} {xs : List Value} {row : Option Nat} (h : w.ownsRow base e size v n xs) (hg : w.grownBy w1 row) (hne : v.ownBlock = none ∨ v.ownBlock ≠ row) : w1.ownsRow base e size v n xs := h.kept hg hne
theorem own_types {w : World} {b b' : Nat} {e e' : TypeId} {s s' n n' : Nat} {v v' : Value} {xs xs' : List Value} (h : w.ownsRow b e s v n xs) (h' : w.ownsRow b' e' s' v' n' xs') (hne : e ≠ e') : v.ownBlock = none ∨ v.ownBlock ≠ v'.ownBlock := by
  rcases h.2 with ⟨rfl, _⟩ | ⟨g, cap, cur, rfl, _, hh, _⟩
  · exact .inl rfl
  · exact .inr (own_ne h' hh (Ne.symm hne))
theorem own_blk {w : World} {base n size : Nat} {e : TypeId} {v : Value} {xs : List Value} (h : w.ownsRow base e size v n xs) : ∀ k, v.ownBlock = some k → base ≤ k ∧ ∃ cs t fr, w.heap[k]? = some (.cells cs t fr) ∧ t = e := by
  intro k hk
  rcases h.2 with ⟨rfl, _⟩ | ⟨g, cap, cur, rfl, hb, hh, _⟩
  · simp [Value.ownBlock] at hk
  · simp only [Value.ownBlock, Option.some.injEq] at hk
    subst hk
    exact ⟨hb, cur, e, _, hh, rfl⟩
theorem rd_new (w : World) (cs : Array Value) (e : TypeId) (size n : Nat) (h : cs.size = n * size) : Rd (w.alloc (.cells cs e)) size (.slice (some ⟨w.heap.size, 0, none⟩) n n) n cs.toList :=
  ⟨_, n, rfl, Nat.le_refl _, by simpa using h, fun j u hj => ⟨_, rfl, by
    have hadd : (⟨w.heap.size, 0, none⟩ : Addr).add j = ⟨w.heap.size, j, none⟩ := by unfold Addr.add; split <;> simp_all
    rw [hadd, blkc (new_at w _) j]
    simpa using hj⟩⟩

/-- A slice against nil. -/
theorem eql_nil (t e : TypeId) (ht : Try.prog.underlying t = some (.slice e)) (w : World) (A : Option Addr) (n c : Nat) :
    (binOp .eql t (.slice A n c) (.slice none 0 0)).run Try.prog w = .ok (.bool A.isNone) w := Lib.run_eql_slice_nil (P := Try.prog) w t e A n c 0 0 ht

/-! ### slices.Clone of bytes -/
set_option maxRecDepth 20000 in
set_option maxHeartbeats 400000 in
theorem clone_any (bs : List UInt8) (v : Value) (w : World) (hb : Kp (bs.length ≤ 140737488355328)) (h : Rd w 1 v bs.length (u8s bs)) :
    Calls Try.prog 55 #[v] w fun e w' => ∃ A' c', e = .returned (.slice A' bs.length c') ∧ w'.ownsRow w.heap.size 5 1 (.slice A' bs.length c') bs.length (u8s bs) ∧ Below w.heap.size w w' := by
  have h1 := Kp.mk (u8s_one bs)
  have H := Kp.mk h
  obtain ⟨A, c, rfl, hnc, hl, hc⟩ := h
  clear hl hc hnc
  cases A with
  | none =>
    have hz : bs = [] := by
      obtain ⟨A, c', hv, hn, hl, hc⟩ := H.out
      injection hv with hA _ _
      cases bs with
      | nil => rfl
      | cons b r => obtain ⟨a, ha, _⟩ := hc 0 _ rfl; rw [← hA] at ha; cases ha
    subst hz
    have e1 := eql_nil 35 5 Try.underlying35
    go_enter Try.func55, Try.ntmps55
    go_wp2
    go_ret
    exact ⟨none, 0, rfl, ⟨by simp [u8s], .inl ⟨rfl, rfl⟩⟩, Below.refl _ _⟩
  | some a =>
    have e1 := eql_nil 35 5 Try.underlying35
    go_enter Try.func55, Try.ntmps55
    go_wp2_with (first | (at_builtin; refine ap_own _ rfl _ _ 35 rfl w.heap.size 5 (.int .u8 0) 1 1 Try.underlying35 Try.info5 rfl (by decide) _ 0 [] rfl (World.ownsRow_made w #[] 0 (Nat.le_refl _) (by decide) rfl) bs.length (u8s bs) _ rfl ?c1 h1.out ?c2 (by decide) ?c3 ?_))
    case c1 => exact H.out.below ((Below.refl _ _).alloc (Nat.le_refl _) _)
    case c2 => exact ⟨by have := hb.out; omega⟩
    case c3 => simp
    intro v1 w1 hown hg
    obtain ⟨A1, c1, rfl, _⟩ := own_slice hown
    have HO := Kp.mk hown
    have HG := Kp.mk hg
    clear hown hg
    go_wp2
    go_ret
    have hown := HO.out
    have hg := HG.out
    refine ⟨A1, c1, rfl, by simpa using hown, ?_⟩
    exact ((Below.refl _ _).alloc (Nat.le_refl _) _).grown hg (by simp) (by simp [Value.ownBlock])
end Go.Proofs.Ytelpdngfbddflaa
