/- The disk in memory; contracts of burn, there, Len, Pending, Down, Fuse. -/
import Derived.Test.YtomihbanpjedeaaBuild
namespace Go.Proofs.Ytomihbanpjedeaa
open Go.RowKit
set_option linter.unusedSimpArgs false

/-- What a disk holds: its sectors' cells, as they were synced and as they are; what is pending (a sector's number, its cells); the fuse; is it down. -/
structure St where
  sy : List Value
  nw : List Value
  pn : List (Nat × List Value)
  fu : Int
  dn : Bool
def flat (pn : List (Nat × List Value)) : List Value := pn.flatMap fun p => .int .i64 (p.1 : Int) :: p.2
structure St.Ok (s : St) (n : Nat) : Prop where
  sl : s.sy.length = n * 64
  nl : s.nw.length = n * 64
  sb : Bytes s.sy
  nb : Bytes s.nw
  pl : ∀ p ∈ s.pn, p.1 < n ∧ p.2.length = 64 ∧ Bytes p.2
  f1 : -9223372036854775808 ≤ s.fu
  f2 : s.fu ≤ 9223372036854775807
/-- Block d is a disk of n sectors, in state s; all its blocks are among F. -/
def Dk (w : World) (F : Nat → Prop) (d n : Nat) (s : St) : Prop :=
  ∃ gs gn cs cn v, w.heap[d]? = some (.cells #[.slice (some ⟨gs, 0, none⟩) n cs, .slice (some ⟨gn, 0, none⟩) n cn, v, .int .i64 s.fu, .bool s.dn] 75) ∧
    w.ownsRow 0 78 64 (.slice (some ⟨gs, 0, none⟩) n cs) n s.sy ∧ w.ownsRow 0 78 64 (.slice (some ⟨gn, 0, none⟩) n cn) n s.nw ∧ w.ownsRow 0 81 65 v s.pn.length (flat s.pn) ∧
    F d ∧ F gs ∧ F gn ∧ (∀ g, v.ownBlock = some g → F g) ∧ gs ≠ gn ∧ s.Ok n
/-- Only blocks of F, and new ones, are other ones. -/
structure Chg (F : Nat → Prop) (w w' : World) : Prop where
  os : w'.os = w.os
  tape : w'.tape = w.tape
  output : w'.output = w.output
  size : w.heap.size ≤ w'.heap.size
  block : ∀ k, k < w.heap.size → ¬ F k → w'.heap[k]? = w.heap[k]?
theorem Chg.refl (F : Nat → Prop) (w : World) : Chg F w w := ⟨rfl, rfl, rfl, Nat.le_refl _, fun _ _ _ => rfl⟩
theorem Chg.of_below {F : Nat → Prop} {w w' : World} (h : Below w.heap.size w w') : Chg F w w' := ⟨h.os, h.tape, h.output, h.size, fun k hk _ => h.block k hk⟩
theorem Chg.set {F : Nat → Prop} {w : World} {d i : Nat} {u : Value} (h : F d) : Chg F w (w.setCell ⟨d, i, none⟩ u) :=
  ⟨rfl, rfl, rfl, by simp, fun k _ hk => Below.heap_setCell w _ u k (fun e => hk (by rw [e]; exact h))⟩
/-- Twice: the second one's blocks are the first one's, or new ones. -/
theorem Chg.trans {F F' : Nat → Prop} {w w1 w2 : World} (h : Chg F w w1) (k : Chg F' w1 w2) (hF : ∀ i, F' i → F i ∨ w.heap.size ≤ i) : Chg F w w2 :=
  ⟨k.os.trans h.os, k.tape.trans h.tape, k.output.trans h.output, Nat.le_trans h.size k.size, fun i hi hf => (k.block i (Nat.lt_of_lt_of_le hi h.size) (fun e => (hF i e).elim hf (fun q => by omega))).trans (h.block i hi hf)⟩
theorem Chg.below {F : Nat → Prop} {B : Nat} {w0 w w' : World} (h : Chg F w w') (hb : Below B w0 w) (hB : B ≤ w.heap.size) (hF : ∀ i, F i → B ≤ i) : Below B w0 w' :=
  hb.trans ⟨h.os, h.tape, h.output, h.size, fun i hi => h.block i (by omega) (fun e => by have := hF i e; omega)⟩

theorem Dk.cells {w : World} {F : Nat → Prop} {d n : Nat} {s : St} (h : Dk w F d n s) : ∃ gs gn cs cn v, w.cell? ⟨d, 0, none⟩ = some (.slice (some ⟨gs, 0, none⟩) n cs) ∧ w.cell? ⟨d, 1, none⟩ = some (.slice (some ⟨gn, 0, none⟩) n cn) ∧ w.cell? ⟨d, 2, none⟩ = some v ∧
    w.cell? ⟨d, 3, none⟩ = some (.int .i64 s.fu) ∧ w.cell? ⟨d, 4, none⟩ = some (.bool s.dn) ∧ (∃ c, v = .slice c s.pn.length (match v with | .slice _ _ k => k | _ => 0)) ∧ (∀ j, w.frozen? ⟨d, j, none⟩ = false) := by
  obtain ⟨gs, gn, cs, cn, v, hd, _, _, hv, _⟩ := h
  have hc : ∀ j, w.cell? ⟨d, j, none⟩ = _ := fun j => cell_of_row w d j _ _ _ hd
  refine ⟨gs, gn, cs, cn, v, by rw [hc]; rfl, by rw [hc]; rfl, by rw [hc]; rfl, by rw [hc]; rfl, by rw [hc]; rfl, ?_, fun j => frozen_of_row w d j _ _ hd⟩
  rcases hv.2 with ⟨rfl, h0⟩ | ⟨g, cap, cur, rfl, _⟩
  · exact ⟨none, by rw [h0]⟩
  · exact ⟨_, rfl⟩
theorem Dk.lt {w : World} {F : Nat → Prop} {d n : Nat} {s : St} (h : Dk w F d n s) : d < w.heap.size := by
  obtain ⟨gs, gn, cs, cn, v, hd, _⟩ := h
  exact (Array.getElem?_eq_some_iff.1 hd).1
/-- The disk stays where none of its blocks turns. -/
theorem Dk.chg {w w' : World} {F G : Nat → Prop} {d n : Nat} {s : St} (h : Dk w F d n s) (hg : Chg G w w') (hFG : ∀ i, F i → ¬ G i) : Dk w' F d n s := by
  obtain ⟨gs, gn, cs, cn, v, hd, h1, h2, h3, f0, f1, f2, f3, hne, hok⟩ := h
  have kept : ∀ {v : Value} {e size k : Nat} {xs : List Value}, w.ownsRow 0 e size v k xs → (∀ g, v.ownBlock = some g → F g) → w'.ownsRow 0 e size v k xs := by
    intro v e size k xs ho hF
    refine ⟨ho.1, ?_⟩
    rcases ho.2 with hn | ⟨g, cap, cur, rfl, hb, hgg, rest⟩
    · exact .inl hn
    · refine .inr ⟨g, cap, cur, rfl, hb, ?_, rest⟩
      rw [hg.block g (Array.getElem?_eq_some_iff.1 hgg).1 (hFG g (hF g rfl))]
      exact hgg
  exact ⟨gs, gn, cs, cn, v, by rw [hg.block d (Array.getElem?_eq_some_iff.1 hd).1 (hFG d f0)]; exact hd, kept h1 (fun g e => by cases e; exact f1), kept h2 (fun g e => by cases e; exact f2), kept h3 f3, f0, f1, f2, f3, hne, hok⟩
theorem Dk.below {w w' : World} {F : Nat → Prop} {d n : Nat} {s : St} (h : Dk w F d n s) (hb : Below w.heap.size w w') : Dk w' F d n s :=
  h.chg (G := fun _ => False) (Chg.of_below hb) (fun _ _ e => e)

/-! ### What is read -/
theorem there_calls (F : Nat → Prop) (d n : Nat) (s : St) (a : Int) (w : World) (h : Dk w F d n s) :
    Calls Try.prog 38 #[.pointer (some ⟨d, 0, none⟩), .int .i64 a] w fun e w' => e = .returned (.bool (decide (0 ≤ a ∧ a < n))) ∧ w' = w := by
  obtain ⟨gs, gn, cs, cn, v, c0, c1, c2, c3, c4, _, hf⟩ := h.cells
  by_cases h0 : 0 ≤ a
  · have t : decide (a ≥ 0) = true := by simp; omega
    by_cases h1 : a < n
    · have t1 : decide (a < (n : Int)) = true := by simp; omega
      have t2 : decide (0 ≤ a ∧ a < (n : Int)) = true := by simp; omega
      rw [t2]
      go_enter Try.func38, Try.ntmps38
      go_wp2
      go_ret
      exact ⟨rfl, rfl⟩
    · have t1 : decide (a < (n : Int)) = false := by simp; omega
      have t2 : decide (0 ≤ a ∧ a < (n : Int)) = false := by simp; omega
      rw [t2]
      go_enter Try.func38, Try.ntmps38
      go_wp2
      go_ret
      exact ⟨rfl, rfl⟩
  · have t : decide (a ≥ 0) = false := by simp; omega
    have t2 : decide (0 ≤ a ∧ a < (n : Int)) = false := by simp; omega
    rw [t2]
    go_enter Try.func38, Try.ntmps38
    go_wp2
    go_ret
    exact ⟨rfl, rfl⟩
theorem len_calls (F : Nat → Prop) (d n : Nat) (s : St) (w : World) (h : Dk w F d n s) :
    Calls Try.prog 30 #[.pointer (some ⟨d, 0, none⟩)] w fun e w' => e = .returned (.int .i64 n) ∧ w' = w := by
  obtain ⟨gs, gn, cs, cn, v, c0, c1, c2, c3, c4, _, hf⟩ := h.cells
  go_enter Try.func30, Try.ntmps30
  go_wp2
  go_ret
  exact ⟨rfl, rfl⟩
theorem pending_calls (F : Nat → Prop) (d n : Nat) (s : St) (w : World) (h : Dk w F d n s) :
    Calls Try.prog 29 #[.pointer (some ⟨d, 0, none⟩)] w fun e w' => e = .returned (.int .i64 s.pn.length) ∧ w' = w := by
  obtain ⟨gs, gn, cs, cn, v, c0, c1, c2, c3, c4, ⟨c, hv⟩, hf⟩ := h.cells
  generalize (match v with | .slice _ _ k => k | _ => 0) = k at hv
  subst hv
  go_enter Try.func29, Try.ntmps29
  go_wp2
  go_ret
  exact ⟨rfl, rfl⟩
theorem down_calls (F : Nat → Prop) (d n : Nat) (s : St) (w : World) (h : Dk w F d n s) :
    Calls Try.prog 24 #[.pointer (some ⟨d, 0, none⟩)] w fun e w' => e = .returned (.bool s.dn) ∧ w' = w := by
  obtain ⟨gs, gn, cs, cn, v, c0, c1, c2, c3, c4, _, hf⟩ := h.cells
  go_enter Try.func24, Try.ntmps24
  go_wp2
  go_ret
  exact ⟨rfl, rfl⟩
end Go.Proofs.Ytomihbanpjedeaa
