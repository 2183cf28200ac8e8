/- Rows' slices in memory, for the law MatrixRanks (lines of RsMem and RsOwn, alone because of a claim's size). -/
import Derived.Test.YtoijjlpkoniipaaReads
import Derived.Lib.AppendZeros
set_option linter.unusedVariables false
set_option linter.unusedSimpArgs false
namespace Go.Proofs.Ytoijjlpkoniipaa
open Go.RowKit Go.Proofs.YtoijjlpkoniipaaW.PrintWords Go.Proofs.YtoijjlpkoniipaaW.PrintLast Gf Lin
/-- Values that read as rows. -/
def RV (w : World) (us : List Value) (m : List (List UInt8)) : Prop := us.length = m.length ∧ ∀ i, i < m.length → ∃ B cB, us[i]? = some (.slice B (gr m i).length cB) ∧ RS w B (gr m i).length cB (gr m i)
theorem RV.below {w w1 : World} {us : List Value} {m : List (List UInt8)} (h : RV w us m) (hb : Below w.heap.size w w1) : RV w1 us m :=
  ⟨h.1, fun i hi => by
    obtain ⟨B, cB, h1, h2⟩ := h.2 i hi
    exact ⟨B, cB, h1, h2.below hb⟩⟩
theorem gr_append_left {a b : List (List UInt8)} {i : Nat} (h : i < a.length) : gr (a ++ b) i = gr a i := by rw [gr_at (by simp; omega), gr_at h, List.getElem_append_left h]
theorem gr_append_right {a b : List (List UInt8)} {i : Nat} (h : a.length ≤ i) (h2 : i < a.length + b.length) : gr (a ++ b) i = gr b (i - a.length) := by rw [gr_at (by simp; omega), gr_at (by omega), List.getElem_append_right h]
theorem RV.append {w : World} {us vs : List Value} {a b : List (List UInt8)} (h : RV w us a) (k : RV w vs b) : RV w (us ++ vs) (a ++ b) := by
  refine ⟨by simp [h.1, k.1], fun i hi => ?_⟩
  have hi' : i < a.length + b.length := by simpa using hi
  by_cases hia : i < a.length
  · obtain ⟨B, cB, h1, h2⟩ := h.2 i hia
    rw [gr_append_left hia]
    exact ⟨B, cB, by rw [List.getElem?_append_left (by rw [h.1]; exact hia)]; exact h1, h2⟩
  · obtain ⟨B, cB, h1, h2⟩ := k.2 (i - a.length) (by omega)
    rw [gr_append_right (by omega) hi']
    exact ⟨B, cB, by rw [List.getElem?_append_right (by rw [h.1]; omega), h.1]; exact h1, h2⟩
theorem RV.one {w : World} {B : Option Addr} {l cB : Nat} {r : List UInt8} (h : RS w B l cB r) : RV w [.slice B l cB] [r] := ⟨rfl, fun i hi => by
  obtain rfl : i = 0 := by simpa using hi
  have e := h.len
  subst e
  exact ⟨B, cB, rfl, h⟩⟩
theorem RV.cells1 {w : World} {us : List Value} {m : List (List UInt8)} (h : RV w us m) : ∀ u ∈ us, u.oneCell' = true := by
  intro u hu
  obtain ⟨i, hi, rfl⟩ := List.getElem_of_mem hu
  obtain ⟨B, cB, h1, _⟩ := h.2 i (by rw [← h.1]; exact hi)
  rw [List.getElem?_eq_getElem hi] at h1
  rw [Option.some.inj h1]; rfl
/-- A slice of rows and its values. -/
theorem RD.vals {w : World} {A : Option Addr} {q c : Nat} {m : List (List UInt8)} (h : RD w A q c m) (hq : 0 < q) : ∃ ad us, A = some ad ∧ RV w us m ∧ us.length = q ∧ ∀ j u, us[j]? = some u → w.cell? (ad.add j) = some u := by
  have hl := h.len
  obtain ⟨ad, _, _, rfl, _⟩ := h.row hq
  have hu : ∀ i, i < q → ∃ B cB, w.cell? (ad.add i) = some (.slice B (gr m i).length cB) ∧ RS w B (gr m i).length cB (gr m i) := fun i hi => by
    obtain ⟨ad', B, cB, e, h1, h2⟩ := h.row hi
    cases e
    exact ⟨B, cB, h1, h2⟩
  refine ⟨ad, (List.range q).map fun i => (w.cell? (ad.add i)).getD undef, rfl, ⟨by simp [hl], fun i hi => ?_⟩, by simp, fun j u hj => ?_⟩
  · obtain ⟨B, cB, h1, h2⟩ := hu i (by omega)
    exact ⟨B, cB, by simp [show i < q by omega, h1], h2⟩
  · rw [List.getElem?_map] at hj
    obtain ⟨i, hi, rfl⟩ := Option.map_eq_some_iff.1 hj
    have hjq : j < q := by have := (List.getElem?_eq_some_iff.1 hi).1; simpa using this
    have hij : i = j := by have := (List.getElem?_eq_some_iff.1 hi).2; simpa using this.symm
    subst hij
    obtain ⟨B, cB, h1, _⟩ := hu i hjq
    rw [h1]; rfl
/-- Rows of its own, and how they read. -/
theorem RD.of_own {w : World} {base : Nat} {A : Option Addr} {n cap : Nat} {us : List Value} {m : List (List UInt8)} (h : w.ownsRow base 35 1 (.slice A n cap) n us) (hv : RV w us m) (hn : n ≤ 9223372036854775807) : RD w A n cap m := by
  have hl : us.length = n := by have := h.1; omega
  have hm : m.length = n := by rw [← hv.1]; exact hl
  have key := CC_of_cells (w := w) (A := A) m (by omega) (fun hpos => by
    rcases h.2 with ⟨e, h0⟩ | ⟨g, cap', cur, e, _⟩
    · omega
    · simp only [Value.slice.injEq] at e
      obtain ⟨rfl, _, _⟩ := e
      refine ⟨_, rfl, fun j hj => ?_⟩
      obtain ⟨B, cB, h1, h2⟩ := hv.2 j hj
      exact ⟨B, cB, h.cells rfl j _ h1, h2.le, h2.rd⟩)
  rw [hm] at key
  refine ⟨?_, key⟩
  rcases h.2 with ⟨e, h0⟩ | ⟨g, cap', cur, e, _, _, h1, _⟩
  · omega
  · simp only [Value.slice.injEq] at e
    obtain ⟨_, _, rfl⟩ := e
    exact h1
theorem ownsRow_form {w : World} {base : Nat} {v : Value} {n : Nat} {us : List Value} (h : w.ownsRow base 35 1 v n us) : ∃ A cap, v = .slice A n cap := by
  rcases h.2 with ⟨rfl, h0⟩ | ⟨g, cap, cur, rfl, _⟩
  · exact ⟨none, 0, by rw [h0]⟩
  · exact ⟨_, cap, rfl⟩
/-- One cell appended to cells of its own: where the new list lies. -/
theorem append_own1 {w : World} {base : Nat} {v : Value} {n : Nat} {xs : List Value} (ho : w.ownsRow base 35 1 v n xs) (hb : base ≤ w.heap.size) {a : Addr} {u : Value} (h1 : u.oneCell' = true) (hc : w.cell? a = some u) (hs : n ≤ 1000) (ty : TypeId) :
    ∃ v' w', (Builtin.append_ #[36, 36] ty #[v, .slice (some a) 1 1]).run Try.prog w = .ok v' w' ∧ w'.ownsRow base 35 1 v' (n + 1) (xs ++ [u]) ∧ w.grownBy w' v.ownBlock ∧ ∀ g, v'.ownBlock = some g → v.ownBlock = some g ∨ w.heap.size ≤ g := by
  obtain ⟨i0, hi, hinf⟩ := Option.map_eq_some_iff.1 info35
  simp only [Prod.mk.injEq] at hinf
  have hcs : ∀ j x, [u][j]? = some x → w.cell? (a.add j) = some x := fun j x hj => by
    cases j with
    | zero =>
      obtain rfl : u = x := by simpa using hj
      have : a.add 0 = a := by simp [Addr.add]
      rw [this]; exact hc
    | succ j => simp at hj
  rcases ho.2 with ⟨rfl, rfl⟩ | ⟨g, cap, cur, rfl, hbg, hg, hnc, hcm, hcs', htake⟩
  · have ho' : w.ownsRow w.heap.size 35 1 (.slice none 0 0) 0 xs := ⟨ho.1, .inl ⟨rfl, rfl⟩⟩
    obtain ⟨v', w', r1, r2, r3, r4⟩ := run_append_own (P := Try.prog) w w.heap.size 36 ty 35 i0 _ 1 24 Try.underlying36 hi hinf.1 hinf.2.1 hinf.2.2 rfl (by decide) _ 0 xs ho' a 1 1 [u] rfl hcs (by simpa using h1) (by unfold maxLen; omega) (by omega) (Nat.le_refl _)
    refine ⟨v', w', r1, ⟨r2.1, ?_⟩, r3, fun g hg => .inr (r2.lt g hg).1⟩
    rcases r2.2 with hq | ⟨g, cap, cur, e, hb', rest⟩
    · exact .inl hq
    · exact .inr ⟨g, cap, cur, e, by omega, rest⟩
  · by_cases hroom : n + 1 ≤ cap
    · obtain ⟨w', r1, r2, r3⟩ := run_append_fits (P := Try.prog) (ty := ty) w base 36 35 i0 1 Try.underlying36 hi hinf.2.1 g n cap xs ho a 1 1 [u] rfl hcs (by simpa using h1) hroom
      exact ⟨_, w', r1, r2, r3, fun g' hg' => .inl hg'⟩
    · obtain ⟨v', w', r1, r2, r3⟩ := run_append_arg_grows (P := Try.prog) (ty := ty) w 36 35 i0 _ 1 24 Try.underlying36 hi hinf.1 hinf.2.1 hinf.2.2 rfl (by decide) ⟨g, 0, none⟩ n cap xs ho.1 (ho.cells rfl) a 1 1 [u] rfl hcs (by omega) (by unfold maxLen; omega) (by omega)
      refine ⟨v', w', r1, ⟨r2.1, ?_⟩, ⟨r3.os, r3.tape, r3.output, r3.size, fun k hk _ => r3.block k hk (by simp)⟩, fun g hg => .inr (r2.lt g hg).1⟩
      rcases r2.2 with hq | ⟨g, cap, cur, e, hb', rest⟩
      · exact .inl hq
      · exact .inr ⟨g, cap, cur, e, by omega, rest⟩
end Go.Proofs.Ytoijjlpkoniipaa
