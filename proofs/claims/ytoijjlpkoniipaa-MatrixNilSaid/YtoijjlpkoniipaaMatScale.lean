/- Matrices: scale. -/
import Derived.Test.YtoijjlpkoniipaaMatBoth
namespace Go.Proofs.Ytoijjlpkoniipaa
open Go.RowKit Go.Proofs.YtoijjlpkoniipaaW.PrintWords Go.Proofs.YtoijjlpkoniipaaW.PrintLast Gf Lin
set_option linter.unusedSimpArgs false
theorem wpList_copy_run {P : Program} {w w' : World} {ops : Array Oper} {rest : List Oper} {o : Oper} {a : Act} {Q : Exit → Act → World → Prop} (hgd : o.guard = none) {t tn : TypeId} {x y : Operand} (ho : o.op = .call { callee := .builtin .copy, args := #[x, y], argTypes := #[t, tn] })
    {vx vy v : Value} (hx : a.eval x = vx) (hy : a.eval y = vy) (hr : (Builtin.copy_ #[t, tn] o.type #[vx, vy]).run P w = .ok v w') (h : wpList P ops Q rest (a.put o.dst v) w') : wpList P ops Q (o :: rest) a w := by
  refine wpList_plain hgd fun _ hK => ?_
  unfold Oper.wp
  rw [exec_copy (ρ := a.eval) ho hx hy hr]
  exact hK _ _ h
theorem Wk.copyM {w : World} {g gt gm ga gs gb n c d : Nat} {p q : Nat → Nat} {M S : Lin.M} (h : Wk w g gt gm ga gs gb n c d p q M S) {i : Nat} (hi : i < n) {B : Option Addr} {cB : Nat} {ys : List UInt8} (hy : KB.C w B c (bs ys)) (ty : TypeId) :
    ∃ w', (Builtin.copy_ #[35, 35] ty #[.slice (some ⟨ga, p i * c, none⟩) c c, .slice B c cB]).run Try.prog w = .ok (goInt c) w' ∧ Wk w' g gt gm ga gs gb n c d p q (fun a b => if a = i then Ytoijjlpkoniipaa.gb ys b else M a b) S ∧ Chg (WF gm ga gs gb) w w' ∧ w'.heap.size = w.heap.size := by
  obtain ⟨w', h1, h2, h3, h4⟩ := h.m.copyRow h.pp h.ne1.1 hi (cB := cB) hy h.c1.1 ty
  have k := fun x (hx : x < w.heap.size) (hne : x ≠ ga) => h3.block x hx hne
  obtain ⟨e1, e2, e3, e4, e5, e6⟩ := h.ne1
  obtain ⟨f1, f2, f3, f4⟩ := h.ne2
  obtain ⟨g1, g2, g3, g4⟩ := h.ne3
  obtain ⟨l1, l2, l3, l4, l5⟩ := h.lt
  exact ⟨w', h1, ⟨(k g h.glt f2).trans h.blk, tab_same h.tab (k gt l1 g2), h2, h.s.same (k gs l4 (Ne.symm e5)) (k gb l5 (Ne.symm e6)), h.pp, h.pq, h.ne1, h.ne2, h.ne3, by rw [h4]; exact h.lt, h.n1, h.c1, h.d1⟩, ⟨h3.os, h3.tape, h3.output, h3.size, fun x hx hf => h3.block x hx (fun e => hf (.inr (.inl e)))⟩, h4⟩
theorem Wk.copyS {w : World} {g gt gm ga gs gb n c d : Nat} {p q : Nat → Nat} {M S : Lin.M} (h : Wk w g gt gm ga gs gb n c d p q M S) {i : Nat} (hi : i < n) {B : Option Addr} {cB : Nat} {ys : List UInt8} (hy : KB.C w B d (bs ys)) (ty : TypeId) :
    ∃ w', (Builtin.copy_ #[35, 35] ty #[.slice (some ⟨gb, q i * d, none⟩) d d, .slice B d cB]).run Try.prog w = .ok (goInt d) w' ∧ Wk w' g gt gm ga gs gb n c d p q M (fun a b => if a = i then Ytoijjlpkoniipaa.gb ys b else S a b) ∧ Chg (WF gm ga gs gb) w w' ∧ w'.heap.size = w.heap.size := by
  obtain ⟨w', h1, h2, h3, h4⟩ := h.s.copyRow h.pq h.ne1.2.1 hi (cB := cB) hy h.d1.1 ty
  have k := fun x (hx : x < w.heap.size) (hne : x ≠ gb) => h3.block x hx hne
  obtain ⟨e1, e2, e3, e4, e5, e6⟩ := h.ne1
  obtain ⟨f1, f2, f3, f4⟩ := h.ne2
  obtain ⟨g1, g2, g3, g4⟩ := h.ne3
  obtain ⟨l1, l2, l3, l4, l5⟩ := h.lt
  exact ⟨w', h1, ⟨(k g h.glt f4).trans h.blk, tab_same h.tab (k gt l1 g4), h.m.same (k gm l2 e4) (k ga l3 e6), h2, h.pp, h.pq, h.ne1, h.ne2, h.ne3, by rw [h4]; exact h.lt, h.n1, h.c1, h.d1⟩, ⟨h3.os, h3.tape, h3.output, h3.size, fun x hx hf => h3.block x hx (fun e => hf (.inr (.inr (.inr e))))⟩, h4⟩
theorem scl_row (a : UInt8) (c : Nat) (f : Nat → UInt8) {j : Nat} (hj : j < c) : Ytoijjlpkoniipaa.gb (scl a ((List.range c).map f)) j = gm a (f j) := by

  rw [gb_at (by simp [hj])]
  simp [scl]
theorem index0 (A B : Option Addr) (c c' d d' : Nat) (W : World) : (Instr.index 113 (.agg #[.slice A c c', .slice B d d']) (.int .i64 0)).run Try.prog W = .ok (.slice A c c') W := by
  have hag : (isAgg 35).run Try.prog W = .ok false W := by
    unfold isAgg
    rw [Sem.run_bind, run_underlying Try.underlying35 W]
    rfl
  simp [Instr.index, run_underlying Try.underlying113, Result.andThen, Sem.run_bind, asIntOf, part, hag]
theorem index1 (A B : Option Addr) (c c' d d' : Nat) (W : World) : (Instr.index 113 (.agg #[.slice A c c', .slice B d d']) (.int .i64 1)).run Try.prog W = .ok (.slice B d d') W := by
  have hag : (isAgg 35).run Try.prog W = .ok false W := by
    unfold isAgg
    rw [Sem.run_bind, run_underlying Try.underlying35 W]
    rfl
  simp [Instr.index, run_underlying Try.underlying113, Result.andThen, Sem.run_bind, asIntOf, part, hag]
end Go.Proofs.Ytoijjlpkoniipaa
