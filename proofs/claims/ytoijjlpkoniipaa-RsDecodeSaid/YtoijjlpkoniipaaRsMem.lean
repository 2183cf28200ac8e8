/- Slices of rows in memory: what is appended to them; a code in memory. -/
import Derived.Test.YtoijjlpkoniipaaCode
import Derived.Test.YtoijjlpkoniipaaReadsA
import Derived.Lib.AppendZeros
set_option linter.unusedVariables false
set_option linter.unusedSimpArgs false
namespace Go.Proofs.Ytoijjlpkoniipaa
open Go.RowKit Go.Proofs.YtoijjlpkoniipaaW.PrintWords Go.Proofs.YtoijjlpkoniipaaW.PrintLast Gf Lin
/-- Values that read as rows. -/
def RV (w : World) (us : List Value) (m : List (List UInt8)) : Prop := us.length = m.length ∧ ∀ i, i < m.length → ∃ B cB, us[i]? = some (.slice B (gr m i).length cB) ∧ RS w B (gr m i).length cB (gr m i)
theorem RV.nil (w : World) : RV w [] [] := ⟨rfl, fun i hi => by simp at hi⟩
theorem RV.below {w w1 : World} {us : List Value} {m : List (List UInt8)} (h : RV w us m) (hb : Below w.heap.size w w1) : RV w1 us m :=
  ⟨h.1, fun i hi => by
    obtain ⟨B, cB, h1, h2⟩ := h.2 i hi
    exact ⟨B, cB, h1, h2.below hb⟩⟩
theorem gr_append_left {a b : List (List UInt8)} {i : Nat} (h : i < a.length) : gr (a ++ b) i = gr a i := by rw [gr_at (by simp; omega), gr_at h, List.getElem_append_left h]
theorem gr_append_right {a b : List (List UInt8)} {i : Nat} (h : a.length ≤ i) (h2 : i < a.length + b.length) : gr (a ++ b) i = gr b (i - a.length) := by rw [gr_at (by simp; omega), gr_at (by omega), List.getElem_append_right h]
theorem RV.append {w : World} {us vs : List Value} {a b : List (List UInt8)} (h : RV w us a) (k : RV w vs b) : RV w (us ++ vs) (a ++ b) := by
  refine ⟨by simp [h.1, k.1], fun i hi => ?_⟩
  have hi' : i < a.length + b.length := by simpa using hi
  by_cases hia : i < a.length
  · obtain ⟨B, cB, h1, h2⟩ := h.2 i hia
    rw [gr_append_left hia]
    exact ⟨B, cB, by rw [List.getElem?_append_left (by rw [h.1]; exact hia)]; exact h1, h2⟩
  · obtain ⟨B, cB, h1, h2⟩ := k.2 (i - a.length) (by omega)
    rw [gr_append_right (by omega) hi']
    exact ⟨B, cB, by rw [List.getElem?_append_right (by rw [h.1]; omega), h.1]; exact h1, h2⟩
theorem RV.one {w : World} {B : Option Addr} {l cB : Nat} {r : List UInt8} (h : RS w B l cB r) : RV w [.slice B l cB] [r] := ⟨rfl, fun i hi => by
  obtain rfl : i = 0 := by simpa using hi
  have e := h.len
  subst e
  exact ⟨B, cB, rfl, h⟩⟩
theorem RV.cells1 {w : World} {us : List Value} {m : List (List UInt8)} (h : RV w us m) : ∀ u ∈ us, u.oneCell' = true := by
  intro u hu
  obtain ⟨i, hi, rfl⟩ := List.getElem_of_mem hu
  obtain ⟨B, cB, h1, _⟩ := h.2 i (by rw [← h.1]; exact hi)
  rw [List.getElem?_eq_getElem hi] at h1
  rw [Option.some.inj h1]; rfl
/-- A slice of rows and its values. -/
theorem RD.vals {w : World} {A : Option Addr} {q c : Nat} {m : List (List UInt8)} (h : RD w A q c m) (hq : 0 < q) : ∃ ad us, A = some ad ∧ RV w us m ∧ us.length = q ∧ ∀ j u, us[j]? = some u → w.cell? (ad.add j) = some u := by
  have hl := h.len
  obtain ⟨ad, _, _, rfl, _⟩ := h.row hq
  have hu : ∀ i, i < q → ∃ B cB, w.cell? (ad.add i) = some (.slice B (gr m i).length cB) ∧ RS w B (gr m i).length cB (gr m i) := fun i hi => by
    obtain ⟨ad', B, cB, e, h1, h2⟩ := h.row hi
    cases e
    exact ⟨B, cB, h1, h2⟩
  refine ⟨ad, (List.range q).map fun i => (w.cell? (ad.add i)).getD undef, rfl, ⟨by simp [hl], fun i hi => ?_⟩, by simp, fun j u hj => ?_⟩
  · obtain ⟨B, cB, h1, h2⟩ := hu i (by omega)
    exact ⟨B, cB, by simp [show i < q by omega, h1], h2⟩
  · rw [List.getElem?_map] at hj
    obtain ⟨i, hi, rfl⟩ := Option.map_eq_some_iff.1 hj
    have hjq : j < q := by have := (List.getElem?_eq_some_iff.1 hi).1; simpa using this
    have hij : i = j := by have := (List.getElem?_eq_some_iff.1 hi).2; simpa using this.symm
    subst hij
    obtain ⟨B, cB, h1, _⟩ := hu i hjq
    rw [h1]; rfl
/-- Rows of its own, and how they read. -/
theorem RD.of_own {w : World} {base : Nat} {A : Option Addr} {n cap : Nat} {us : List Value} {m : List (List UInt8)} (h : w.ownsRow base 35 1 (.slice A n cap) n us) (hv : RV w us m) (hn : n ≤ 9223372036854775807) : RD w A n cap m := by
  have hl : us.length = n := by have := h.1; omega
  have hm : m.length = n := by rw [← hv.1]; exact hl
  have key := CC_of_cells (w := w) (A := A) m (by omega) (fun hpos => by
    rcases h.2 with ⟨e, h0⟩ | ⟨g, cap', cur, e, _⟩
    · omega
    · simp only [Value.slice.injEq] at e
      obtain ⟨rfl, _, _⟩ := e
      refine ⟨_, rfl, fun j hj => ?_⟩
      obtain ⟨B, cB, h1, h2⟩ := hv.2 j hj
      exact ⟨B, cB, h.cells rfl j _ h1, h2.le, h2.rd⟩)
  rw [hm] at key
  refine ⟨?_, key⟩
  rcases h.2 with ⟨e, h0⟩ | ⟨g, cap', cur, e, _, _, h1, _⟩
  · omega
  · simp only [Value.slice.injEq] at e
    obtain ⟨_, _, rfl⟩ := e
    exact h1
theorem ownsRow_form {w : World} {base : Nat} {v : Value} {n : Nat} {us : List Value} (h : w.ownsRow base 35 1 v n us) : ∃ A cap, v = .slice A n cap := by
  rcases h.2 with ⟨rfl, h0⟩ | ⟨g, cap, cur, rfl, _⟩
  · exact ⟨none, 0, by rw [h0]⟩
  · exact ⟨_, cap, rfl⟩
/-- One row appended to rows of its own. -/
theorem append_row {w : World} {base : Nat} {v : Value} {n : Nat} {xs : List Value} (ho : w.ownsRow base 35 1 v n xs) (hb : base ≤ w.heap.size) {a : Addr} {u : Value} (h1 : u.oneCell' = true) (hc : w.cell? a = some u) (hs : n ≤ 1000) (ty : TypeId) :
    ∃ v' w', (Builtin.append_ #[36, 36] ty #[v, .slice (some a) 1 1]).run Try.prog w = .ok v' w' ∧ w'.ownsRow base 35 1 v' (n + 1) (xs ++ [u]) ∧ w.grownBy w' v.ownBlock := by
  obtain ⟨i, hi, h⟩ := Option.map_eq_some_iff.1 info35
  simp only [Prod.mk.injEq] at h
  obtain ⟨v', w', r1, r2, r3, _⟩ := run_append_own (P := Try.prog) w base 36 ty 35 i _ 1 24 Try.underlying36 hi h.1 h.2.1 h.2.2 rfl (by decide) v n xs ho a 1 1 [u] rfl (fun j x hj => by
    cases j with
    | zero =>
      obtain rfl : u = x := by simpa using hj
      have : a.add 0 = a := by simp [Addr.add]
      rw [this]; exact hc
    | succ j => simp at hj) (by simpa using h1) (by unfold maxLen; omega) (by omega) hb
  exact ⟨v', w', r1, r2, r3⟩
/-- Rows appended to a slice that has no room for them. -/
theorem append_rows_grow {w : World} {A : Option Addr} {n cap : Nat} {a : List (List UInt8)} (h : RD w A n cap a) (hn : 0 < n) {B : Option Addr} {m cb : Nat} {b : List (List UInt8)} (k : RD w B m cb b) (hm : 0 < m) (hg : cap < n + m) (hs : n + m ≤ 1000) (ty : TypeId) :
    ∃ A' cap' w', (Builtin.append_ #[36, 36] ty #[.slice A n cap, .slice B m cb]).run Try.prog w = .ok (.slice A' (n + m) cap') w' ∧ RD w' A' (n + m) cap' (a ++ b) ∧ Below w.heap.size w w' := by
  obtain ⟨i, hi, hinf⟩ := Option.map_eq_some_iff.1 info35
  simp only [Prod.mk.injEq] at hinf
  obtain ⟨ad, us, rfl, h1, h2, h3⟩ := h.vals hn
  obtain ⟨bd, vs, rfl, k1, k2, k3⟩ := k.vals hm
  obtain ⟨v', w', r1, r2, r3⟩ := run_append_arg_grows (P := Try.prog) (ty := ty) w 36 35 i _ 1 24 Try.underlying36 hi hinf.1 hinf.2.1 hinf.2.2 rfl (by decide) ad n cap us (by omega) h3 bd m cb vs (by omega) k3 hg (by unfold maxLen; omega) (by omega)
  have hb : Below w.heap.size w w' := (Below.refl _ _).grown r3 (Nat.le_refl _) (fun k hk => by cases hk)
  obtain ⟨A', cap', rfl⟩ := ownsRow_form r2
  exact ⟨A', cap', w', r1, RD.of_own r2 ((h1.append k1).below hb) (by omega), hb⟩
theorem append_vals_grow {w : World} {ad : Addr} {n cap : Nat} {us : List Value} (hu : us.length = n) (h1 : ∀ j u, us[j]? = some u → w.cell? (ad.add j) = some u) {bd : Addr} {m cb : Nat} {vs : List Value} (hv : vs.length = m) (k1 : ∀ j u, vs[j]? = some u → w.cell? (bd.add j) = some u) (hg : cap < n + m) (hs : n + m ≤ 1000) (ty : TypeId) :
    ∃ A' cap' w', (Builtin.append_ #[36, 36] ty #[.slice (some ad) n cap, .slice (some bd) m cb]).run Try.prog w = .ok (.slice A' (n + m) cap') w' ∧ w'.ownsRow w.heap.size 35 1 (.slice A' (n + m) cap') (n + m) (us ++ vs) ∧ Below w.heap.size w w' := by
  obtain ⟨i, hi, hinf⟩ := Option.map_eq_some_iff.1 info35
  simp only [Prod.mk.injEq] at hinf
  obtain ⟨v', w', r1, r2, r3⟩ := run_append_arg_grows (P := Try.prog) (ty := ty) w 36 35 i _ 1 24 Try.underlying36 hi hinf.1 hinf.2.1 hinf.2.2 rfl (by decide) ad n cap us (by omega) h1 bd m cb vs (by omega) k1 hg (by unfold maxLen; omega) (by omega)
  obtain ⟨A', cap', rfl⟩ := ownsRow_form r2
  exact ⟨A', cap', w', r1, r2, (Below.refl _ _).grown r3 (Nat.le_refl _) (fun k hk => by cases hk)⟩
/-- The rows' slices of a matrix. -/
def matV (ga n c : Nat) : List Value := (List.range n).map fun i => .slice (some ⟨ga, i * c, none⟩) c c
theorem matV_length (ga n c : Nat) : (matV ga n c).length = n := by simp [matV]
theorem Mat.cellsV {w : World} {gm ga n c : Nat} {M : Lin.M} (h : Mat w gm ga n c id M) (j : Nat) (u : Value) (hj : (matV ga n c)[j]? = some u) : w.cell? ((⟨gm, 0, none⟩ : Addr).add j) = some u := by
  unfold matV at hj
  rw [List.getElem?_map] at hj
  obtain ⟨i, hi, rfl⟩ := Option.map_eq_some_iff.1 hj
  have hjn : j < n := by have := (List.getElem?_eq_some_iff.1 hi).1; simpa using this
  have hij : i = j := by have := (List.getElem?_eq_some_iff.1 hi).2; simpa using this.symm
  subst hij
  rw [add_at]
  exact h.rows i hjn
theorem Mat.rv {w : World} {gm ga n c : Nat} {M : Lin.M} (h : Mat w gm ga n c id M) (hc : c ≤ 9223372036854775807) : RV w (matV ga n c) (rowsOf n c M) := by
  refine ⟨by simp [matV], fun i hi => ?_⟩
  have hi' : i < n := by simpa using hi
  rw [gr_rowsOf _ hi']
  refine ⟨some ⟨ga, i * c, none⟩, c, by simp [matV, hi'], ?_⟩
  have := h.row hc hi'
  rw [List.length_map, List.length_range]
  exact ⟨Nat.le_refl _, this⟩
/-- A code lies at gc. -/
structure Cd (w : World) (gc gt : Nat) (A : Option Addr) (k n cap : Nat) : Prop where
  blk : w.heap[gc]? = some (.cells #[.pointer (some ⟨gt, 0, none⟩), .int .i64 (k : Int), .slice A n cap] 95)
  td : TD w gt
  rd : RD w A n cap (rowsOf n k (codeM k))
  k1 : 1 ≤ k
  kn : k ≤ n
  n2 : n ≤ 255
theorem Cd.lt {w : World} {gc gt : Nat} {A : Option Addr} {k n cap : Nat} (h : Cd w gc gt A k n cap) : gc < w.heap.size := by
  rcases Nat.lt_or_ge gc w.heap.size with q | q
  · exact q
  · have := h.blk; rw [Array.getElem?_eq_none q] at this; cases this
theorem Cd.below {w w1 : World} {gc gt : Nat} {A : Option Addr} {k n cap : Nat} (h : Cd w gc gt A k n cap) (hb : Below w.heap.size w w1) : Cd w1 gc gt A k n cap :=
  ⟨(hb.block gc h.lt).trans h.blk, h.td.below hb, h.rd.below hb, h.k1, h.kn, h.n2⟩
theorem Cd.c0 {w : World} {gc gt : Nat} {A : Option Addr} {k n cap : Nat} (h : Cd w gc gt A k n cap) : w.cell? ⟨gc, 0, none⟩ = some (.pointer (some ⟨gt, 0, none⟩)) := by rw [cell_of_row _ _ _ _ _ _ h.blk]; rfl
theorem Cd.c1 {w : World} {gc gt : Nat} {A : Option Addr} {k n cap : Nat} (h : Cd w gc gt A k n cap) : w.cell? ⟨gc, 1, none⟩ = some (.int .i64 (k : Int)) := by rw [cell_of_row _ _ _ _ _ _ h.blk]; rfl
theorem Cd.c2 {w : World} {gc gt : Nat} {A : Option Addr} {k n cap : Nat} (h : Cd w gc gt A k n cap) : w.cell? ⟨gc, 2, none⟩ = some (.slice A n cap) := by rw [cell_of_row _ _ _ _ _ _ h.blk]; rfl
theorem code_split {k n : Nat} (h : k ≤ n) : rowsOf n k (codeM k) = rowsOf k k Lin.unit ++ rowsOf (n - k) k (cau k) := by
  apply List.ext_getElem
  · simp; omega
  · intro i h1 h2
    have hi : i < n := by simpa using h1
    by_cases hik : i < k
    · rw [List.getElem_append_left (by simpa using hik)]
      simp only [rowsOf, List.getElem_map, List.getElem_range]
      refine List.map_congr_left fun j _ => ?_
      unfold codeM; rw [if_pos hik]
    · rw [List.getElem_append_right (by simpa using hik)]
      simp only [rowsOf, List.getElem_map, List.getElem_range, List.length_map, List.length_range]
      refine List.map_congr_left fun j _ => ?_
      unfold codeM; rw [if_neg hik]
end Go.Proofs.Ytoijjlpkoniipaa
