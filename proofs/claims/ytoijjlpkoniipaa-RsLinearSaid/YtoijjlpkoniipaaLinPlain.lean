/- The law RsLinear: plain; lists of bytes that grow. -/
import Derived.Test.YtoijjlpkoniipaaRsBox
set_option linter.unusedVariables false
set_option linter.unusedSimpArgs false
namespace Go.Proofs.Ytoijjlpkoniipaa
open Go.RowKit Go.Proofs.YtoijjlpkoniipaaW.PrintWords Go.Proofs.YtoijjlpkoniipaaW.PrintLast Gf Lin
/-- The first i rows of the sum of two lists of rows. -/
def xrow (a b : List (List UInt8)) (i j : Nat) : UInt8 := gb (gr a i) j ^^^ gb (gr b i) j
def XR (a b : List (List UInt8)) (i : Nat) : List (List UInt8) := (List.range i).map fun t => (List.range (gr a t).length).map (xrow a b t)
theorem XR_succ (a b : List (List UInt8)) (i : Nat) : XR a b (i + 1) = XR a b i ++ [(List.range (gr a i).length).map (xrow a b i)] := by unfold XR; rw [List.range_succ, List.map_append]; rfl
theorem XR_length (a b : List (List UInt8)) (i : Nat) : (XR a b i).length = i := by simp [XR]
theorem XR_row (a b : List (List UInt8)) {i t : Nat} (h : t < i) : gr (XR a b i) t = (List.range (gr a t).length).map (xrow a b t) := by
  rw [gr_at (by rw [XR_length]; exact h)]; simp [XR]
theorem alike_iff {m x : List (List UInt8)} (hl : m.length = x.length) (h : ∀ t, t < m.length → (gr m t).length = (gr x t).length) : Alike m ↔ Alike x := by
  constructor
  · intro ha
    refine alike_of fun i hi => ?_
    rw [← h i (by omega), ← h 0 (by omega), head_len ha (by omega), PRsEncode.gr_zero]
  · intro ha
    refine alike_of fun i hi => ?_
    rw [h i (by omega), h 0 (by omega), head_len ha (by omega), PRsEncode.gr_zero]
theorem gb_sumB {f : Nat → UInt8} {M : List (List UInt8)} {k L j : Nat} (hk : M.length = k) (hL : (M.headD []).length = L) (hj : j < L) : gb (sumB ((List.range k).map f) M) j = sm k (fun t => gm (f t) (gb (gr M t) j)) := by
  rw [sumB_rows hk hL, gb_range _ hj]
theorem sum_lin {a b : List (List UInt8)} {k L : Nat} (f : Nat → UInt8) (ha : a.length = k) (hb : b.length = k) (hk : 1 ≤ k) (hA : Alike a) (hB : Alike b) (hL : (a.headD []).length = L) (hL' : (b.headD []).length = L) {j : Nat} (hj : j < L) :
    gb (sumB ((List.range k).map f) (XR a b k)) j = gb (sumB ((List.range k).map f) a) j ^^^ gb (sumB ((List.range k).map f) b) j := by
  have hx : ((XR a b k).headD []).length = L := by
    rw [← PRsEncode.gr_zero, XR_row a b (by omega)]
    simp
    rw [PRsEncode.gr_zero]; exact hL
  rw [gb_sumB (XR_length a b k) hx hj, gb_sumB ha hL hj, gb_sumB hb hL' hj, ← sm_xor]
  refine sm_congr fun t ht => ?_
  rw [XR_row a b ht, gb_range _ (by rw [head_len hA (by omega), hL]; exact hj), ← gm_xor]
  rfl
theorem Gw.below {W w w1 : World} {v : Value} {i : Nat} {m : List (List UInt8)} (h : Gw W w v i m) (hb : Below w.heap.size w w1) : Gw W w1 v i m := by
  obtain ⟨⟨us, h1, h2⟩, h3⟩ := h
  exact ⟨⟨us, h1.kept (row := none) ⟨hb.os, hb.tape, hb.output, hb.size, fun j hj _ => hb.block j hj⟩ (by cases hv : v.ownBlock <;> simp), h2.below hb⟩, h3.trans (hb.mono h3.size)⟩
/-- Bytes that grow, from world w0 on. -/
structure Gb (w0 w : World) (v : Value) (j : Nat) (r : List UInt8) : Prop where
  own : w.ownsRow w0.heap.size 5 1 v j (bv r)
  bel : Below w0.heap.size w0 w
theorem Gb.start (w : World) : Gb w w (.slice none 0 0) 0 [] := ⟨World.ownsRow_nil _ _ _ _, Below.refl _ _⟩
theorem Gb.form {w0 w : World} {v : Value} {j : Nat} {r : List UInt8} (h : Gb w0 w v j r) : ∃ A cap, v = .slice A j cap := ownsRow_form5 h.own
theorem Gb.rs {w0 w : World} {A : Option Addr} {j cap : Nat} {r : List UInt8} (h : Gb w0 w (.slice A j cap) j r) (hj : j ≤ 1000000) : RS w A j cap r := RS.of_own h.own (by omega)
theorem Gb.fresh {w0 w : World} {A : Option Addr} {j cap : Nat} {r : List UInt8} (h : Gb w0 w (.slice A j cap) j r) : ∀ a, A = some a → w0.heap.size ≤ a.block := fun a ha => by
  subst ha; exact (h.own.lt _ rfl).1
theorem Gb.drew {w0 w : World} {v : Value} {j : Nat} {r : List UInt8} (h : Gb w0 w v j r) : Gb w0 w.drew v j r := ⟨h.own, ⟨h.bel.os, h.bel.tape, h.bel.output, h.bel.size, h.bel.block⟩⟩
theorem Gb.step {w0 w : World} {v : Value} {j : Nat} {r : List UInt8} (h : Gb w0 w v j r) (x : UInt8) (hj : j ≤ 1000) (ty : TypeId) :
    ∃ A' cap' w', (Builtin.append_ #[35, 35] ty #[v, .slice (some ⟨w.heap.size, 0, none⟩) 1 1]).run Try.prog (w.alloc (.cells #[.int .u8 (x.toNat : Int)] 5)) = .ok (.slice A' (j + 1) cap') w' ∧ Gb w0 w' (.slice A' (j + 1) cap') (j + 1) (r ++ [x]) := by
  obtain ⟨i0, hi, hinf⟩ := Option.map_eq_some_iff.1 info5
  simp only [Prod.mk.injEq] at hinf
  have bA := Below.alloc1 w (.cells #[.int .u8 (x.toNat : Int)] 5)
  have n2 := heap_alloc_new w (.cells #[.int .u8 (x.toNat : Int)] 5)
  have o2 : (w.alloc (.cells #[.int .u8 (x.toNat : Int)] 5)).ownsRow w0.heap.size 5 1 v j (bv r) := h.own.kept (row := none) ⟨bA.os, bA.tape, bA.output, bA.size, fun j hj _ => bA.block j hj⟩ (by cases hv : v.ownBlock <;> simp)
  obtain ⟨v', w', r1, r2, r3, _⟩ := run_append_own (P := Try.prog) _ w0.heap.size 35 ty 5 i0 _ 1 1 Try.underlying35 hi hinf.1 hinf.2.1 hinf.2.2 rfl (by decide) v j (bv r) o2 ⟨w.heap.size, 0, none⟩ 1 1 [.int .u8 (x.toNat : Int)] rfl (fun t u ht => by
    cases t with
    | zero =>
      obtain rfl : Value.int .u8 (x.toNat : Int) = u := by simpa using ht
      rw [add_at, cell_of_row _ _ _ _ _ _ n2]; rfl
    | succ t => simp at ht) (by simp [Value.oneCell']) (by unfold maxLen; omega) (by omega) (by have := h.bel.size; have := bA.size; omega)
  obtain ⟨A', cap', rfl⟩ := ownsRow_form5 r2
  have e : bv r ++ [.int .u8 (x.toNat : Int)] = bv (r ++ [x]) := by simp [bv]
  rw [e] at r2
  exact ⟨A', cap', w', r1, r2, (h.bel.trans (bA.mono h.bel.size)).grown r3 (by have := h.bel.size; have := bA.size; omega) (fun k hk => (o2.lt k hk).1)⟩
end Go.Proofs.Ytoijjlpkoniipaa
