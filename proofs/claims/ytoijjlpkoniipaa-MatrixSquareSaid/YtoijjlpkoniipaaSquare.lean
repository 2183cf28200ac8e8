/- The law MatrixSquare: plain parts; lists of rows that are picked. -/
import Derived.Test.YtoijjlpkoniipaaMatsC
import Derived.Lib.AppendZeros
namespace Go.Proofs.Ytoijjlpkoniipaa
open Go.RowKit Go.Proofs.YtoijjlpkoniipaaW.PrintWords Go.Proofs.YtoijjlpkoniipaaW.PrintLast Gf Lin
set_option linter.unusedSimpArgs false
/-! ### Plain -/
theorem many_of_all : ∀ (p : Nat) (l : List Nat), (∀ q, q < p → q ∈ l) → p ≤ l.length
  | 0, _, _ => Nat.zero_le _
  | p + 1, l, h => by
    have hm := h p (by omega)
    have := many_of_all p (l.erase p) (fun q hq => (List.mem_erase_of_ne (by omega)).2 (h q (by omega)))
    rw [List.length_erase_of_mem hm] at this
    have hpos : 0 < l.length := List.length_pos_of_mem hm
    omega
theorem nodup_inj {l : List Nat} (h : l.Nodup) {i j : Nat} (hi : i < l.length) (hj : j < l.length) (e : l[i] = l[j]) : i = j := by
  have hp := List.pairwise_iff_getElem.1 h
  rcases Nat.lt_trichotomy i j with h1 | h1 | h1
  · exact absurd e (hp i j hi hj h1)
  · exact h1
  · exact absurd e.symm (hp j i hj hi h1)
/-- Rows that are picked. -/
structure Pk (rows cols : Nat) (ps : List Nat) : Prop where
  lt : ∀ p ∈ ps, p < rows
  nd : ps.Nodup
  le : ps.length ≤ cols
theorem Pk.snoc {rows cols p : Nat} {ps : List Nat} (h : Pk rows cols ps) (hp : p < rows) (hn : p ∉ ps) (hl : ps.length < cols) : Pk rows cols (ps ++ [p]) :=
  ⟨fun q hq => by rcases List.mem_append.1 hq with hq | hq; exact h.lt q hq; rw [List.mem_singleton.1 hq]; exact hp, by
    rw [List.nodup_append]
    refine ⟨h.nd, by simp, fun a ha b hb e => ?_⟩
    rw [List.mem_singleton.1 hb] at e
    exact hn (e ▸ ha), by simp; omega⟩
def pickRows (cols : Nat) (ps : List Nat) : List (List UInt8) := ps.map fun p => (List.range cols).map (cau cols p)
theorem pickRows_at {cols : Nat} {ps : List Nat} {i : Nat} (hi : i < ps.length) : gr (pickRows cols ps) i = (List.range cols).map (cau cols ps[i]) := by
  unfold pickRows
  rw [gr_at (by simpa using hi)]; simp
theorem pick_sq {cols : Nat} {ps : List Nat} (h1 : 1 ≤ cols) (h2 : cols ≤ 255) (hl : ps.length = cols) : Sq (pickRows cols ps) := by
  have hlen : (pickRows cols ps).length = cols := by simp [pickRows, hl]
  have h0 : (gr (pickRows cols ps) 0).length = cols := by rw [pickRows_at (by omega)]; simp
  refine ⟨⟨by omega, by omega, by omega, by omega, fun i hi => ?_⟩, by omega⟩
  rw [h0, pickRows_at (by omega)]; simp
theorem pick_full {rows cols : Nat} {ps : List Nat} (h : Pk rows cols ps) (hl : ps.length = cols) (hr : rows + cols ≤ 256) {x : Nat → UInt8} (h0 : ∀ a, a < cols → sm cols (fun j => gm (fn (pickRows cols ps) a j) (x j)) = 0) : ∀ j, j < cols → x j = 0 := by
  have hu : ∀ z, z < 256 → (UInt8.ofNat z).toNat = z := fun z hz => UInt8.toNat_ofNat_of_lt' hz
  have hps : ∀ i, i < cols → ps.getD i 0 < rows := fun i hi => by
    have : ps.getD i 0 = ps[i]'(by omega) := by simp [List.getD, List.getElem?_eq_getElem (show i < ps.length by omega)]
    rw [this]; exact h.lt _ (List.getElem_mem _)
  refine cauchy_kernel cols (fun i => UInt8.ofNat (ps.getD i 0 + cols)) (fun j => UInt8.ofNat j) x (fun i j hi hj hij e => ?_) (fun i j hi hj hij e => ?_) (fun i j hi hj e => ?_) (fun i hi => ?_)
  · have e2 := congrArg UInt8.toNat e
    have a1 := hps i hi
    have a2 := hps j hj
    rw [hu _ (by omega), hu _ (by omega)] at e2
    have e3 : ps.getD i 0 = ps.getD j 0 := by omega
    simp only [List.getD, List.getElem?_eq_getElem (show i < ps.length by omega), List.getElem?_eq_getElem (show j < ps.length by omega), Option.getD_some] at e3
    exact hij (nodup_inj h.nd (by omega) (by omega) e3)
  · have e2 := congrArg UInt8.toNat e
    rw [hu _ (by omega), hu _ (by omega)] at e2
    exact hij e2
  · have e2 := congrArg UInt8.toNat e
    have a1 := hps i hi
    rw [hu _ (by omega), hu _ (by omega)] at e2
    omega
  · have := h0 i hi
    rw [← this]
    refine sm_congr fun j hj => ?_
    congr 1
    unfold fn
    rw [pickRows_at (by omega), gb_range _ hj]
    unfold cau
    simp [List.getD, List.getElem?_eq_getElem (show i < ps.length by omega)]
/-! ### Memory -/
def rowV (ga cols p : Nat) : Value := .slice (some ⟨ga, p * cols, none⟩) cols cols
def metC (ps : List Nat) : Array Value := ((List.range 32).map fun p => Value.bool (decide (p ∈ ps))).toArray
theorem metC_at {ps : List Nat} {p : Nat} (hp : p < 32) : (metC ps)[p]? = some (.bool (decide (p ∈ ps))) := by unfold metC; simp [hp]
theorem metC_set {ps : List Nat} {p : Nat} (hp : p < 32) : (metC ps).setIfInBounds p (.bool true) = metC (ps ++ [p]) := by
  unfold metC
  apply Array.ext
  · simp
  · intro i h1 h2
    by_cases hip : p = i
    · subst hip; simp
    · have h3 : ((List.map (fun p => Value.bool (decide (p ∈ ps))) (List.range 32)).toArray.setIfInBounds p (.bool true))[i] = ((List.map (fun p => Value.bool (decide (p ∈ ps))) (List.range 32)).toArray)[i]'(by simpa using h1) := Array.getElem_setIfInBounds_ne (by simpa using h1) hip
      rw [h3]
      simp [Ne.symm hip]
theorem append_own {w : World} {base : Nat} {v : Value} {n : Nat} {xs : List Value} (ho : w.ownsRow base 35 1 v n xs) (hb : base ≤ w.heap.size) {a : Addr} {u : Value} (h1 : u.oneCell' = true) (hc : w.cell? a = some u) (hs : n ≤ 1000) (ty : TypeId) :
    ∃ v' w', (Builtin.append_ #[36, 36] ty #[v, .slice (some a) 1 1]).run Try.prog w = .ok v' w' ∧ w'.ownsRow base 35 1 v' (n + 1) (xs ++ [u]) ∧ w.grownBy w' v.ownBlock := by
  obtain ⟨i, hi, h⟩ := Option.map_eq_some_iff.1 info35
  simp only [Prod.mk.injEq] at h
  obtain ⟨v', w', r1, r2, r3, _⟩ := run_append_own (P := Try.prog) w base 36 ty 35 i _ 1 24 Try.underlying36 hi h.1 h.2.1 h.2.2 rfl (by decide) v n xs ho a 1 1 [u] rfl (fun j x hj => by
    cases j with
    | zero =>
      obtain rfl : u = x := by simpa using hj
      have : a.add 0 = a := by simp [Addr.add]
      rw [this]; exact hc
    | succ j => simp at hj) (by simpa using h1) (by unfold maxLen; omega) (by omega) hb
  exact ⟨v', w', r1, r2, r3⟩
/-- What the loops keep. -/
structure Sqm (w0 w : World) (gt gm ga ge rows cols : Nat) (v : Value) (ps : List Nat) : Prop where
  tab : Tab w gt
  m : Mat w gm ga rows cols id (cau cols)
  own : w.ownsRow (ge + 1) 35 1 v ps.length (ps.map (rowV ga cols))
  met : w.heap[ge]? = some (.cells (metC ps) 76)
  pk : Pk rows cols ps
  bel : Below ge w0 w
  lt : gt < ge ∧ gm < ge ∧ ga < ge
def Z32b : Array Value := #[.bool false, .bool false, .bool false, .bool false, .bool false, .bool false, .bool false, .bool false, .bool false, .bool false, .bool false, .bool false, .bool false, .bool false, .bool false, .bool false, .bool false, .bool false, .bool false, .bool false, .bool false, .bool false, .bool false, .bool false, .bool false, .bool false, .bool false, .bool false, .bool false, .bool false, .bool false, .bool false]
theorem metC_nil : metC [] = Z32b := by kernel_rfl
theorem size76 : (Try.prog.info? 76).map (·.size) = some 32 := by kernel_rfl
theorem Sqm.start {w0 : World} {gt gm ga rows cols : Nat} (ht : Tab w0 gt) (hm : Mat w0 gm ga rows cols id (cau cols)) (h1 : gt < w0.heap.size) (h2 : gm < w0.heap.size) (h3 : ga < w0.heap.size) : Sqm w0 (w0.alloc (.cells Z32b 76)) gt gm ga w0.heap.size rows cols (.slice none 0 0) [] := by
  have hb : Below w0.heap.size w0 (w0.alloc (.cells Z32b 76)) := (Below.refl _ _).alloc (Nat.le_refl _) _
  exact ⟨ht.below h1 hb, hm.below h2 h3 hb, World.ownsRow_nil _ _ _ _, by rw [metC_nil]; exact heap_alloc_new w0 _, ⟨by simp, by simp, by simp⟩, hb, h1, h2, h3⟩
theorem Sqm.step {w0 w : World} {gt gm ga ge rows cols : Nat} {v : Value} {ps : List Nat} (h : Sqm w0 w gt gm ga ge rows cols v ps) (h0 : ge = w0.heap.size) (hc : cols ≤ 6) (hr : rows ≤ 32) {p : Nat} (hp : p < rows) (hn : p ∉ ps) (hl : ps.length < cols) (ty : TypeId) :
    ∃ v' w', (Builtin.append_ #[36, 36] ty #[v, .slice (some ⟨w.heap.size, 0, none⟩) 1 1]).run Try.prog ((w.setCell ⟨ge, p, none⟩ (.bool true)).alloc (.cells #[rowV ga cols p] 35)) = .ok v' w' ∧ Sqm w0 w' gt gm ga ge rows cols v' (ps ++ [p]) := by
  obtain ⟨l1, l2, l3⟩ := h.lt
  have hge : ge < w.heap.size := by
    rcases Nat.lt_or_ge ge w.heap.size with q | q
    · exact q
    · have := h.met; rw [Array.getElem?_eq_none q] at this; cases this
  have b1 : Below ge w0 (w.setCell ⟨ge, p, none⟩ (.bool true)) := Below.setCell h.bel (Nat.le_refl _) _
  have m1 : (w.setCell ⟨ge, p, none⟩ (.bool true)).heap[ge]? = some (.cells (metC (ps ++ [p])) 76) := by
    rw [← metC_set (by omega)]; exact heap_setCell_same w ge p _ _ _ h.met
  have o1 : (w.setCell ⟨ge, p, none⟩ (.bool true)).ownsRow (ge + 1) 35 1 v ps.length (ps.map (rowV ga cols)) := ownsRow_setCell_below h.own (by show ge < ge + 1; omega) _
  obtain ⟨w1, hw1⟩ : ∃ w1, w1 = w.setCell ⟨ge, p, none⟩ (.bool true) := ⟨_, rfl⟩
  have s1 : w1.heap.size = w.heap.size := by rw [hw1]; simp
  rw [← hw1] at b1 m1 o1 ⊢
  have bA : Below w1.heap.size w1 (w1.alloc (.cells #[rowV ga cols p] 35)) := (Below.refl _ _).alloc (Nat.le_refl _) _
  have b2 : Below ge w0 (w1.alloc (.cells #[rowV ga cols p] 35)) := b1.alloc (by omega) _
  have m2 : (w1.alloc (.cells #[rowV ga cols p] 35)).heap[ge]? = some (.cells (metC (ps ++ [p])) 76) := (bA.block ge (by omega)).trans m1
  have o2 : (w1.alloc (.cells #[rowV ga cols p] 35)).ownsRow (ge + 1) 35 1 v ps.length (ps.map (rowV ga cols)) := o1.kept (row := none) ⟨bA.os, bA.tape, bA.output, bA.size, fun j hj _ => bA.block j hj⟩ (by cases hv : v.ownBlock <;> simp)
  have n2 : (w1.alloc (.cells #[rowV ga cols p] 35)).heap[w.heap.size]? = some (.cells #[rowV ga cols p] 35) := by rw [← s1]; exact heap_alloc_new w1 _
  obtain ⟨v', w', r1, r2, r3⟩ := append_own o2 (by simp; omega) (a := ⟨w.heap.size, 0, none⟩) (u := rowV ga cols p) (by simp [rowV, Value.oneCell']) (by rw [cell_of_row _ _ _ _ _ _ n2]; rfl) (by omega) ty
  refine ⟨v', w', r1, ?_⟩
  have hrow : ∀ k, v.ownBlock = some k → ge + 1 ≤ k := fun k hk => (o2.lt k hk).1
  have b3 : Below ge w0 w' := b2.grown r3 (by simp; omega) (fun k hk => by have := hrow k hk; omega)
  refine ⟨tab_same h.tab ?_, h.m.same ?_ ?_, by simpa using r2, ?_, h.pk.snoc hp hn hl, b3, h.lt⟩
  · exact (b3.block gt (by omega)).trans (h.bel.block gt (by omega)).symm
  · exact (b3.block gm (by omega)).trans (h.bel.block gm (by omega)).symm
  · exact (b3.block ga (by omega)).trans (h.bel.block ga (by omega)).symm
  · exact (r3.block ge (by simp; omega) (fun e => by have := hrow ge e.symm; omega)).trans m2
theorem Sqm.form {w0 w : World} {gt gm ga ge rows cols : Nat} {v : Value} {ps : List Nat} (h : Sqm w0 w gt gm ga ge rows cols v ps) : ∃ A cap, v = .slice A ps.length cap := by
  rcases h.own.2 with ⟨rfl, h0⟩ | ⟨g, cap, cur, rfl, _⟩
  · exact ⟨none, 0, by rw [h0]⟩
  · exact ⟨_, cap, rfl⟩
theorem Sqm.reads {w0 w : World} {gt gm ga ge rows cols : Nat} {A : Option Addr} {l cap : Nat} {ps : List Nat} (h : Sqm w0 w gt gm ga ge rows cols (.slice A l cap) ps) (hl : ps.length = l) (h1 : 1 ≤ l) (hc : cols ≤ 6) (hlc : l ≤ cols) : KBB.C w A (pickRows cols ps).length (bss (pickRows cols ps)) := by
  have hlen : (pickRows cols ps).length = ps.length := by simp [pickRows]
  refine CC_of_cells (pickRows cols ps) (by omega) (fun _ => ?_)
  rcases h.own.2 with ⟨e, h0⟩ | ⟨g, cap', cur, e, _⟩
  · omega
  · simp only [Value.slice.injEq] at e
    obtain ⟨rfl, _, _⟩ := e
    refine ⟨_, rfl, fun j hj => ?_⟩
    have hj' : j < ps.length := by omega
    have hc1 := h.own.cells rfl j (rowV ga cols ps[j]) (by simp [hj'])
    have hrow := h.m.row (by omega) (h.pk.lt ps[j] (List.getElem_mem _))
    exact ⟨some ⟨ga, ps[j] * cols, none⟩, cols, by rw [hc1, pickRows_at hj']; simp [rowV], by rw [pickRows_at hj']; simp, by rw [pickRows_at hj']; simpa using hrow⟩
theorem wpList_load_run {P : Program} {w : World} {ops : Array Oper} {rest : List Oper} {o : Oper} {a : Act} {Q : Exit → Act → World → Prop} (hgd : o.guard = none) (ty : TypeId) (x : Operand) (ho : o.op = .load ty x)
    (ad : Addr) (hx : a.eval x = .pointer (some ad)) (v : Value) (hr : (loadVar ty ad).run P w = .ok v w) (h : wpList P ops Q rest (a.put o.dst v) w) : wpList P ops Q (o :: rest) a w := by
  refine wpList_plain hgd fun _ hK => ?_
  unfold Oper.wp execOp
  simp only [ho, hx, Instr.loadAt, Instr.sureAddr, Sem.run_bind, Sem.run_pure, Result.andThen_ok, hr]
  exact hK _ _ h
theorem wpList_store_run {P : Program} {w : World} {ops : Array Oper} {rest : List Oper} {o : Oper} {a : Act} {Q : Exit → Act → World → Prop} (hgd : o.guard = none) (ty : TypeId) (x y : Operand) (ho : o.op = .store ty x y) (hd : o.dst = none)
    (ad : Addr) (hx : a.eval x = .pointer (some ad)) (v : Value) (hy : a.eval y = v) (w' : World) (hr : (storeVar ty ad v).run P w = .ok () w') (h : wpList P ops Q rest a w') : wpList P ops Q (o :: rest) a w := by
  refine wpList_plain hgd fun _ hK => ?_
  unfold Oper.wp execOp
  simp only [ho, hx, hy, Instr.storeAt, Instr.sureAddr, Sem.run_bind, Sem.run_pure, Result.andThen_ok, hr]
  have hp : ∀ v, a.put o.dst v = a := fun v => by rw [hd]; rfl
  exact hK _ _ (by rw [hp]; exact h)
end Go.Proofs.Ytoijjlpkoniipaa
