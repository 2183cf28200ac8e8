/- Rows of bytes, each in a place of its own, appended one by one to a list that grows. -/
import Derived.Test.YtoijjlpkoniipaaRsFns
set_option linter.unusedVariables false
set_option linter.unusedSimpArgs false
namespace Go.Proofs.Ytoijjlpkoniipaa
open Go.RowKit Go.Proofs.YtoijjlpkoniipaaW.PrintWords Go.Proofs.YtoijjlpkoniipaaW.PrintLast Gf Lin
theorem RS.same {w w1 : World} {A : Option Addr} {q c : Nat} {r : List UInt8} (h : RS w A q c r) (hs : 0 < q → ∀ a, A = some a → w1.heap[a.block]? = w.heap[a.block]?) : RS w1 A q c r := by
  have e := h.len
  subst e
  refine ⟨h.le, C_of_cells (A := A) r h.rd.2.1 (fun hp => ?_)⟩
  obtain ⟨ad, rfl, _⟩ := h.byte hp
  refine ⟨ad, rfl, fun j hj => ?_⟩
  obtain ⟨ad', e', hc⟩ := h.byte hj
  cases e'
  rw [← hc]
  exact World.cell?_of_block (by rw [show (ad.add j).block = ad.block by unfold Addr.add; split <;> rfl]; exact hs hp ad rfl)
theorem RS.block_lt {w : World} {a : Addr} {q c : Nat} {r : List UInt8} (h : RS w (some a) q c r) (hq : 0 < q) : a.block < w.heap.size := by
  obtain ⟨ad, e, hc⟩ := h.byte hq
  cases e
  rcases Nat.lt_or_ge a.block w.heap.size with h1 | h1
  · exact h1
  · unfold World.cell? at hc
    rw [show (a.add 0) = a by simp [Addr.add], Array.getElem?_eq_none h1] at hc
    cases hc
/-- Values that read as rows, none of which lies in block own. -/
def RVo (w : World) (own : Option Nat) (us : List Value) (m : List (List UInt8)) : Prop := us.length = m.length ∧ ∀ i, i < m.length → ∃ B cB, us[i]? = some (.slice B (gr m i).length cB) ∧ RS w B (gr m i).length cB (gr m i) ∧ (0 < (gr m i).length → ∀ a, B = some a → own ≠ some a.block)
theorem RVo.nil (w : World) (own : Option Nat) : RVo w own [] [] := ⟨rfl, fun i hi => by simp at hi⟩
theorem RVo.rv {w : World} {own : Option Nat} {us : List Value} {m : List (List UInt8)} (h : RVo w own us m) : RV w us m := ⟨h.1, fun i hi => by
  obtain ⟨B, cB, h1, h2, _⟩ := h.2 i hi
  exact ⟨B, cB, h1, h2⟩⟩
theorem RVo.below {w w1 : World} {own : Option Nat} {us : List Value} {m : List (List UInt8)} (h : RVo w own us m) (hb : Below w.heap.size w w1) : RVo w1 own us m := ⟨h.1, fun i hi => by
  obtain ⟨B, cB, h1, h2, h3⟩ := h.2 i hi
  exact ⟨B, cB, h1, h2.below hb, h3⟩⟩
theorem RVo.grown {w w1 : World} {own own1 : Option Nat} {us : List Value} {m : List (List UInt8)} (h : RVo w own us m) (hg : w.grownBy w1 own) (hn : ∀ g, own1 = some g → own = some g ∨ w.heap.size ≤ g) : RVo w1 own1 us m := ⟨h.1, fun i hi => by
  obtain ⟨B, cB, h1, h2, h3⟩ := h.2 i hi
  refine ⟨B, cB, h1, h2.same (fun hp a ha => ?_), fun hp a ha e => ?_⟩
  · subst ha
    exact hg.block _ (h2.block_lt hp) (fun e => h3 hp a rfl e.symm)
  · subst ha
    rcases hn a.block e with h4 | h4
    · exact h3 hp a rfl h4
    · have := h2.block_lt hp; omega⟩
theorem RVo.snoc {w : World} {own : Option Nat} {us : List Value} {m : List (List UInt8)} (h : RVo w own us m) {B : Option Addr} {q cB : Nat} {r : List UInt8} (hr : RS w B q cB r) (ho : 0 < q → ∀ a, B = some a → own ≠ some a.block) : RVo w own (us ++ [.slice B q cB]) (m ++ [r]) := by
  have e := hr.len
  subst e
  refine ⟨by simp [h.1], fun i hi => ?_⟩
  have hi' : i < m.length + 1 := by simpa using hi
  by_cases him : i < m.length
  · obtain ⟨B', cB', h1, h2, h3⟩ := h.2 i him
    rw [gr_append_left him]
    exact ⟨B', cB', by rw [List.getElem?_append_left (by rw [h.1]; exact him)]; exact h1, h2, h3⟩
  · have : i = m.length := by omega
    subst this
    rw [gr_append_right (Nat.le_refl _) (by simp), Nat.sub_self]
    have e0 : gr [r] 0 = r := rfl
    rw [e0]
    exact ⟨B, cB, by rw [List.getElem?_append_right (by rw [h.1]; exact Nat.le_refl _), h.1, Nat.sub_self]; rfl, hr, ho⟩
/-- One cell appended to cells of its own: where the new list lies. -/
theorem append_own1 {w : World} {base : Nat} {v : Value} {n : Nat} {xs : List Value} (ho : w.ownsRow base 35 1 v n xs) (hb : base ≤ w.heap.size) {a : Addr} {u : Value} (h1 : u.oneCell' = true) (hc : w.cell? a = some u) (hs : n ≤ 1000) (ty : TypeId) :
    ∃ v' w', (Builtin.append_ #[36, 36] ty #[v, .slice (some a) 1 1]).run Try.prog w = .ok v' w' ∧ w'.ownsRow base 35 1 v' (n + 1) (xs ++ [u]) ∧ w.grownBy w' v.ownBlock ∧ ∀ g, v'.ownBlock = some g → v.ownBlock = some g ∨ w.heap.size ≤ g := by
  obtain ⟨i0, hi, hinf⟩ := Option.map_eq_some_iff.1 info35
  simp only [Prod.mk.injEq] at hinf
  have hcs : ∀ j x, [u][j]? = some x → w.cell? (a.add j) = some x := fun j x hj => by
    cases j with
    | zero =>
      obtain rfl : u = x := by simpa using hj
      have : a.add 0 = a := by simp [Addr.add]
      rw [this]; exact hc
    | succ j => simp at hj
  rcases ho.2 with ⟨rfl, rfl⟩ | ⟨g, cap, cur, rfl, hbg, hg, hnc, hcm, hcs', htake⟩
  · have ho' : w.ownsRow w.heap.size 35 1 (.slice none 0 0) 0 xs := ⟨ho.1, .inl ⟨rfl, rfl⟩⟩
    obtain ⟨v', w', r1, r2, r3, r4⟩ := run_append_own (P := Try.prog) w w.heap.size 36 ty 35 i0 _ 1 24 Try.underlying36 hi hinf.1 hinf.2.1 hinf.2.2 rfl (by decide) _ 0 xs ho' a 1 1 [u] rfl hcs (by simpa using h1) (by unfold maxLen; omega) (by omega) (Nat.le_refl _)
    refine ⟨v', w', r1, ⟨r2.1, ?_⟩, r3, fun g hg => .inr (r2.lt g hg).1⟩
    rcases r2.2 with hq | ⟨g, cap, cur, e, hb', rest⟩
    · exact .inl hq
    · exact .inr ⟨g, cap, cur, e, by omega, rest⟩
  · by_cases hroom : n + 1 ≤ cap
    · obtain ⟨w', r1, r2, r3⟩ := run_append_fits (P := Try.prog) (ty := ty) w base 36 35 i0 1 Try.underlying36 hi hinf.2.1 g n cap xs ho a 1 1 [u] rfl hcs (by simpa using h1) hroom
      exact ⟨_, w', r1, r2, r3, fun g' hg' => .inl hg'⟩
    · obtain ⟨v', w', r1, r2, r3⟩ := run_append_arg_grows (P := Try.prog) (ty := ty) w 36 35 i0 _ 1 24 Try.underlying36 hi hinf.1 hinf.2.1 hinf.2.2 rfl (by decide) ⟨g, 0, none⟩ n cap xs ho.1 (ho.cells rfl) a 1 1 [u] rfl hcs (by omega) (by unfold maxLen; omega) (by omega)
      refine ⟨v', w', r1, ⟨r2.1, ?_⟩, ⟨r3.os, r3.tape, r3.output, r3.size, fun k hk _ => r3.block k hk (by simp)⟩, fun g hg => .inr (r2.lt g hg).1⟩
      rcases r2.2 with hq | ⟨g, cap, cur, e, hb', rest⟩
      · exact .inl hq
      · exact .inr ⟨g, cap, cur, e, by omega, rest⟩
/-- A list of rows that grows: from world w0 on, at v, its rows m. -/
structure Gw (w0 w : World) (v : Value) (i : Nat) (m : List (List UInt8)) : Prop where
  own : ∃ us, w.ownsRow w0.heap.size 35 1 v i us ∧ RVo w v.ownBlock us m
  bel : Below w0.heap.size w0 w
theorem Gw.start (w : World) : Gw w w (.slice none 0 0) 0 [] := ⟨⟨[], World.ownsRow_nil _ _ _ _, RVo.nil _ _⟩, Below.refl _ _⟩
theorem Gw.form {w0 w : World} {v : Value} {i : Nat} {m : List (List UInt8)} (h : Gw w0 w v i m) : ∃ A cap, v = .slice A i cap := by
  obtain ⟨us, h1, _⟩ := h.own
  exact ownsRow_form h1
theorem Gw.rd {w0 w : World} {A : Option Addr} {i cap : Nat} {m : List (List UInt8)} (h : Gw w0 w (.slice A i cap) i m) (hn : i ≤ 1000000) : RD w A i cap m := by
  obtain ⟨us, h1, h2⟩ := h.own
  exact RD.of_own h1 h2.rv (by omega)
/-- A step: w1 comes of w by a call that gave row r; it is laid into a list of one and appended. -/
theorem Gw.step {w0 w w1 : World} {v : Value} {i : Nat} {m : List (List UInt8)} (h : Gw w0 w v i m) (hb : Below w.heap.size w w1) {B : Option Addr} {q cB : Nat} {r : List UInt8} (hr : RS w1 B q cB r) (hf : ∀ a, B = some a → v.ownBlock ≠ some a.block) (hi : i ≤ 1000) (ty : TypeId) :
    ∃ A' cap' w', (Builtin.append_ #[36, 36] ty #[v, .slice (some ⟨w1.heap.size, 0, none⟩) 1 1]).run Try.prog (w1.alloc (.cells #[.slice B q cB] 35)) = .ok (.slice A' (i + 1) cap') w' ∧ Gw w0 w' (.slice A' (i + 1) cap') (i + 1) (m ++ [r]) := by
  obtain ⟨us, h1, h2⟩ := h.own
  have bA : Below w1.heap.size w1 (w1.alloc (.cells #[.slice B q cB] 35)) := (Below.refl _ _).alloc (Nat.le_refl _) _
  have n2 : (w1.alloc (.cells #[.slice B q cB] 35)).heap[w1.heap.size]? = some (.cells #[.slice B q cB] 35) := heap_alloc_new w1 _
  have b2 := bthen hb bA
  have o2 : (w1.alloc (.cells #[.slice B q cB] 35)).ownsRow w0.heap.size 35 1 v i us := h1.kept (row := none) ⟨b2.os, b2.tape, b2.output, b2.size, fun j hj _ => b2.block j hj⟩ (by cases hv : v.ownBlock <;> simp)
  have v2 := (h2.below hb).snoc hr (fun _ => hf)
  have hbase : w0.heap.size ≤ w.heap.size := h.bel.size
  obtain ⟨v', w', r1, r2, r3, r4⟩ := append_own1 o2 (by have := b2.size; omega) (a := ⟨w1.heap.size, 0, none⟩) (u := .slice B q cB) rfl (by rw [cell_of_row _ _ _ _ _ _ n2]; rfl) (by omega) ty
  obtain ⟨A', cap', rfl⟩ := ownsRow_form r2
  have b3 : Below w0.heap.size w0 w' := (h.bel.trans (b2.mono hbase)).grown r3 (by have := b2.size; omega) (fun k hk => (o2.lt k hk).1)
  exact ⟨A', cap', w', r1, ⟨_, r2, (v2.below bA).grown r3 r4⟩, b3⟩
end Go.Proofs.Ytoijjlpkoniipaa
