/- The document's disk: its block; burn. -/
import Derived.Test.YtomihbanpjedeaaRefRows
namespace Go.Proofs.Ytomihbanpjedeaa
open Go.RowKit
set_option linter.unusedSimpArgs false
/-- The document's disk's own block. -/
def Blk (w : World) (x : Nat) (a0 a1 : Value) (fu : Int) (dn : Bool) : Prop := w.heap[x]? = some (.cells #[a0, a1, .int .i64 fu, .bool dn] 61)
theorem Blk.c0 {w : World} {x : Nat} {a0 a1 : Value} {fu : Int} {dn : Bool} (h : Blk w x a0 a1 fu dn) : w.cell? ⟨x, 0, none⟩ = some a0 := (cell_of_row _ x 0 _ _ _ h).trans rfl
theorem Blk.c1 {w : World} {x : Nat} {a0 a1 : Value} {fu : Int} {dn : Bool} (h : Blk w x a0 a1 fu dn) : w.cell? ⟨x, 1, none⟩ = some a1 := (cell_of_row _ x 1 _ _ _ h).trans rfl
theorem Blk.c2 {w : World} {x : Nat} {a0 a1 : Value} {fu : Int} {dn : Bool} (h : Blk w x a0 a1 fu dn) : w.cell? ⟨x, 2, none⟩ = some (.int .i64 fu) := (cell_of_row _ x 2 _ _ _ h).trans rfl
theorem Blk.c3 {w : World} {x : Nat} {a0 a1 : Value} {fu : Int} {dn : Bool} (h : Blk w x a0 a1 fu dn) : w.cell? ⟨x, 3, none⟩ = some (.bool dn) := (cell_of_row _ x 3 _ _ _ h).trans rfl
theorem Blk.fz {w : World} {x : Nat} {a0 a1 : Value} {fu : Int} {dn : Bool} (h : Blk w x a0 a1 fu dn) (j : Nat) : w.frozen? ⟨x, j, none⟩ = false := frozen_of_row _ x j _ _ h
theorem Blk.s0 {w : World} {x : Nat} {a0 a1 : Value} {fu : Int} {dn : Bool} (h : Blk w x a0 a1 fu dn) (v : Value) : Blk (w.setCell ⟨x, 0, none⟩ v) x v a1 fu dn := heap_setCell_same w x 0 _ _ v h
theorem Blk.s1 {w : World} {x : Nat} {a0 a1 : Value} {fu : Int} {dn : Bool} (h : Blk w x a0 a1 fu dn) (v : Value) : Blk (w.setCell ⟨x, 1, none⟩ v) x a0 v fu dn := heap_setCell_same w x 1 _ _ v h
theorem Blk.s2 {w : World} {x : Nat} {a0 a1 : Value} {fu : Int} {dn : Bool} (h : Blk w x a0 a1 fu dn) (v : Int) : Blk (w.setCell ⟨x, 2, none⟩ (.int .i64 v)) x a0 a1 v dn := heap_setCell_same w x 2 _ _ _ h
theorem Blk.s3 {w : World} {x : Nat} {a0 a1 : Value} {fu : Int} {dn : Bool} (h : Blk w x a0 a1 fu dn) (v : Bool) : Blk (w.setCell ⟨x, 3, none⟩ (.bool v)) x a0 a1 fu v := heap_setCell_same w x 3 _ _ _ h
theorem Blk.lt {w : World} {x : Nat} {a0 a1 : Value} {fu : Int} {dn : Bool} (h : Blk w x a0 a1 fu dn) : x < w.heap.size := (Array.getElem?_eq_some_iff.1 h).1
/-- Only block x is another one, and none is new. -/
def One (x : Nat) (w w' : World) : Prop := Chg (fun i => i = x) w w' ∧ w'.heap.size = w.heap.size
theorem One.set (x j : Nat) (v : Value) (w : World) : One x w (w.setCell ⟨x, j, none⟩ v) := ⟨Chg.set rfl, by simp⟩
theorem One.refl (x : Nat) (w : World) : One x w w := ⟨Chg.refl _ _, rfl⟩
theorem One.trans {x : Nat} {w w1 w2 : World} (h : One x w w1) (k : One x w1 w2) : One x w w2 := ⟨h.1.trans k.1 (fun i hi => .inl hi), k.2.trans h.2⟩
set_option maxHeartbeats 1000000 in
theorem ref_burn (x : Nat) (a0 a1 : Value) (s : St) (w : World) (h : Blk w x a0 a1 s.fu s.dn) (hf1 : -9223372036854775808 ≤ s.fu) (hf2 : s.fu ≤ 9223372036854775807) :
    Calls Try.prog 40 #[.pointer (some ⟨x, 0, none⟩)] w fun e w' => e = .returned (.bool (!s.burnt.dn)) ∧ Blk w' x a0 a1 s.burnt.fu s.burnt.dn ∧ One x w w' := by
  have c2 := h.c2
  have c3 := h.c3
  have f2 := h.fz 2
  have f3 := h.fz 3
  by_cases h0 : s.fu = 0
  · have t0 : (s.fu == 0) = true := by simp [h0]
    have hs : s.burnt = { s with dn := true } := by unfold St.burnt; rw [if_pos h0]
    rw [hs]
    simp only
    have hB := h.s3 true
    have H0 := Lib.hid h0
    have H := Lib.hid h
    have t1 : decide (s.fu > 0) = false := by simp [h0]
    have hO := One.set x 3 (.bool true) w
    have z2 : (w.setCell ⟨x, 3, none⟩ (.bool true)).cell? ⟨x, 2, none⟩ = some (.int .i64 s.fu) := hB.c2
    have z3 : (w.setCell ⟨x, 3, none⟩ (.bool true)).cell? ⟨x, 3, none⟩ = some (.bool true) := hB.c3
    clear h0 hs h
    go_enter Try.func40, Try.ntmps40
    go_wp2
    go_ret
    exact ⟨rfl, hB, hO⟩
  · have t0 : (s.fu == 0) = false := by simp [h0]
    by_cases h1 : 0 < s.fu
    · have t1 : decide (s.fu > 0) = true := by simp; omega
      have hs : s.burnt = { s with fu := s.fu - 1 } := by unfold St.burnt; rw [if_neg h0, if_pos h1]
      have hw : wrap64 (s.fu - 1) = s.fu - 1 := by unfold wrap64; omega
      rw [hs]
      simp only
      have hB := h.s2 (s.fu - 1)
      have H0 := Lib.hid h0
      have H1 := Lib.hid h1
      have H := Lib.hid h
      have hO := One.set x 2 (.int .i64 (s.fu - 1)) w
      have z3 : (w.setCell ⟨x, 2, none⟩ (.int .i64 (s.fu - 1))).cell? ⟨x, 3, none⟩ = some (.bool s.dn) := hB.c3
      clear h0 h1 hs h
      go_enter Try.func40, Try.ntmps40
      go_wp2
      go_ret
      exact ⟨rfl, hB, hO⟩
    · have t1 : decide (s.fu > 0) = false := by simp; omega
      have hs : s.burnt = s := by unfold St.burnt; rw [if_neg h0, if_neg h1]
      rw [hs]
      have H := Lib.hid h
      clear h0 h1 hs h
      go_enter Try.func40, Try.ntmps40
      go_wp2
      go_ret
      exact ⟨rfl, H.out, One.refl _ _⟩
/-! ### What is pending -/
def nowTo (pn : List (Nat × List Value)) (xs : List Value) : Nat → List Value
  | 0 => xs
  | i + 1 => put (nowTo pn xs i) (pn.getD i (0, [])).1 (pn.getD i (0, [])).2
def nowOf (pn : List (Nat × List Value)) (xs : List Value) : List Value := nowTo pn xs pn.length
def acts (ps : List Ac) : List Value := ps.flatMap Ac.cells
def pnOf (ps : List Ac) : List (Nat × List Value) := ps.map fun a => (a.at_.toNat, a.ks)
theorem acts_at : ∀ {ps : List Ac} {i : Nat} {a : Ac}, ps[i]? = some a → ∀ j, j < 6 → (acts ps)[i * 6 + j]? = a.cells[j]?
  | [], i, a, h, j, _ => by simp at h
  | p :: ps, 0, a, h, j, hj => by
    obtain rfl : p = a := by simpa using h
    show (p.cells ++ acts ps)[0 * 6 + j]? = _
    rw [List.getElem?_append_left (by show 0 * 6 + j < 6; omega)]
    congr 1; omega
  | p :: ps, i + 1, a, h, j, hj => by
    have := acts_at (ps := ps) (i := i) (a := a) (by simpa using h) j hj
    rw [← this]
    show (p.cells ++ acts ps)[(i + 1) * 6 + j]? = _
    rw [List.getElem?_append_right (by show 6 ≤ (i + 1) * 6 + j; omega)]
    congr 1
    show (i + 1) * 6 + j - 6 = _
    omega
theorem acts_length (ps : List Ac) : (acts ps).length = ps.length * 6 := by
  induction ps with
  | nil => rfl
  | cons p ps ih => show (p.cells ++ acts ps).length = _; rw [List.length_append, ih, List.length_cons]; show 6 + _ = _; omega
theorem pnOf_getD {ps : List Ac} {i : Nat} (h : i < ps.length) : (pnOf ps).getD i (0, []) = (ps[i].at_.toNat, ps[i].ks) := by
  unfold pnOf
  simp [List.getD, List.getElem?_eq_getElem h]
/-- An act that is pending. -/
structure Ac.Pend (w : World) (n : Nat) (a : Ac) : Prop where
  ok : a.Ok w
  lo : 0 ≤ a.at_
  hi : a.at_ < n
  len : a.ks.length = 64
theorem nowTo_ok {ps : List Ac} {w0 : World} {n : Nat} {xs : List Value} (hx : xs.length = n * 64) (hb : Bytes xs) (hp : ∀ a ∈ ps, Ac.Pend w0 n a) : ∀ i, i ≤ ps.length → (nowTo (pnOf ps) xs i).length = n * 64 ∧ Bytes (nowTo (pnOf ps) xs i)
  | 0, _ => ⟨hx, hb⟩
  | i + 1, hi => by
    have ih := nowTo_ok hx hb hp i (by omega)
    have ha := hp ps[i] (List.getElem_mem _)
    have := ha.lo
    have := ha.hi
    show (put _ _ _).length = _ ∧ Bytes (put _ _ _)
    rw [pnOf_getD (by omega)]
    exact ⟨put_length ih.1 (by simp only; omega) (by simp only; rw [ha.len]; omega), put_bytes ih.2 ha.ok.bts.1 _⟩
end Go.Proofs.Ytomihbanpjedeaa
