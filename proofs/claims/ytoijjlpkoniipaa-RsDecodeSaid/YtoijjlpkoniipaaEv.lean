/- Answers from some number of rounds on; rows as a matrix. Plain; no condition. -/
import Derived.Test.YtoijjlpkoniipaaMatsC
set_option linter.unusedVariables false
set_option linter.unusedSimpArgs false
namespace Go.Proofs.Ytoijjlpkoniipaa
open Go.RowKit Go.Proofs.YtoijjlpkoniipaaW.PrintWords Gf Lin
/-- From some number of rounds on the answer is r. -/
def Ev {α : Type} (g : Nat → Option α) (r : α) : Prop := ∃ K, ∀ k, K ≤ k → g k = some r
theorem Ev.of {α : Type} {g : Nat → Option α} {r : α} (K : Nat) (h : ∀ k, K ≤ k → g k = some r) : Ev g r := ⟨K, h⟩
theorem Ev.done {α : Type} {g : Nat → Option α} {r : α} (h : ∀ k, g (k + 1) = some r) : Ev g r := ⟨1, fun k hk => by
  obtain ⟨j, rfl⟩ : ∃ j, k = j + 1 := ⟨k - 1, by omega⟩
  exact h j⟩
theorem Ev.step {α : Type} {g h : Nat → Option α} {r : α} (H : Ev h r) (e : ∀ k, g (k + 1) = h k) : Ev g r := by
  obtain ⟨K, hK⟩ := H
  refine ⟨K + 1, fun k hk => ?_⟩
  obtain ⟨j, rfl⟩ : ∃ j, k = j + 1 := ⟨k - 1, by omega⟩
  rw [e]; exact hK j (by omega)
theorem Ev.same {α : Type} {g h : Nat → Option α} {r : α} (H : Ev h r) (e : ∀ k, g k = h k) : Ev g r := by
  obtain ⟨K, hK⟩ := H
  exact ⟨K, fun k hk => (e k).trans (hK k hk)⟩
theorem Ev.step1 {α β : Type} {f : Nat → Option β} {b : β} {g h : Nat → Option α} {r : α} (F : Ev f b) (H : Ev h r) (e : ∀ k, f k = some b → g (k + 1) = h k) : Ev g r := by
  obtain ⟨K, hK⟩ := H
  obtain ⟨L, hL⟩ := F
  refine ⟨K + L + 1, fun k hk => ?_⟩
  obtain ⟨j, rfl⟩ : ∃ j, k = j + 1 := ⟨k - 1, by omega⟩
  rw [e j (hL j (by omega))]; exact hK j (by omega)
theorem Ev.same1 {α β : Type} {f : Nat → Option β} {b : β} {g h : Nat → Option α} {r : α} (F : Ev f b) (H : Ev h r) (e : ∀ k, f k = some b → g k = h k) : Ev g r := by
  obtain ⟨K, hK⟩ := H
  obtain ⟨L, hL⟩ := F
  exact ⟨K + L, fun k hk => by rw [e k (hL k (by omega))]; exact hK k (by omega)⟩
theorem Ev.both {α β : Type} {f : Nat → Option α} {g : Nat → Option β} {a : α} {b : β} (F : Ev f a) (G : Ev g b) : ∃ k, f k = some a ∧ g k = some b := by
  obtain ⟨K, hK⟩ := F
  obtain ⟨L, hL⟩ := G
  exact ⟨K + L, hK _ (by omega), hL _ (by omega)⟩
theorem Ev.at {α : Type} {g : Nat → Option α} {r : α} (H : Ev g r) : ∃ k, g k = some r := by
  obtain ⟨K, hK⟩ := H
  exact ⟨K, hK K (Nat.le_refl _)⟩
theorem Rgt.of_alike {m : List (List UInt8)} (h1 : 1 ≤ m.length) (h2 : m.length ≤ 255) (h3 : 1 ≤ (gr m 0).length) (h4 : (gr m 0).length ≤ 255) (ha : Alike m) : Rgt m :=
  ⟨h1, h2, h3, h4, fun i hi => by rw [PRsEncode.alike_len ha hi, PRsEncode.gr_zero]⟩
/-! ### Rows as a matrix -/
theorem rowsOf_congr {n c : Nat} {M M' : Lin.M} (h : ∀ i, i < n → ∀ j, j < c → M i j = M' i j) : rowsOf n c M = rowsOf n c M' := by
  unfold rowsOf
  refine List.map_congr_left fun i hi => List.map_congr_left fun j hj => ?_
  rw [List.mem_range] at hi hj
  exact h i hi j hj
theorem rowsOf_set {n c : Nat} (M : Lin.M) {i j : Nat} (hi : i < n) (hj : j < c) (v : UInt8) : (rowsOf n c M).set i ((gr (rowsOf n c M) i).set j v) = rowsOf n c (updM M i j v) := by
  rw [gr_rowsOf _ hi]
  apply List.ext_getElem
  · simp [rowsOf]
  · intro a h1 h2
    have ha : a < n := by simpa [rowsOf] using h2
    by_cases hai : i = a
    · subst hai
      simp only [List.getElem_set_self, rowsOf, List.getElem_map, List.getElem_range]
      apply List.ext_getElem
      · simp
      · intro b h3 h4
        by_cases hjb : j = b
        · subst hjb; simp [updM]
        · rw [List.getElem_set_ne hjb]; simp [updM, Ne.symm hjb]
    · rw [List.getElem_set_ne hai]
      simp [rowsOf, updM, Ne.symm hai]
theorem bss_set (m : List (List UInt8)) (i : Nat) (r : List UInt8) : (bss m).set i (bs r) = bss (m.set i r) := by unfold bss; rw [List.map_set]
theorem bs_set (r : List UInt8) (j : Nat) (v : UInt8) : (bs r).set j (v.toNat : Int) = bs (r.set j v) := by unfold bs; rw [List.map_set]
theorem bss_append (m : List (List UInt8)) (r : List UInt8) : bss m ++ [bs r] = bss (m ++ [r]) := by unfold bss; rw [List.map_append]; rfl
theorem bs_append (r : List UInt8) (v : UInt8) : bs r ++ [(v.toNat : Int)] = bs (r ++ [v]) := by unfold bs; rw [List.map_append]; rfl
theorem rowsOf_succ (n c : Nat) (M : Lin.M) : rowsOf (n + 1) c M = rowsOf n c M ++ [(List.range c).map (M n)] := by unfold rowsOf; rw [List.range_succ, List.map_append]; rfl
theorem range_map_succ (f : Nat → UInt8) (j : Nat) : (List.range (j + 1)).map f = (List.range j).map f ++ [f j] := by rw [List.range_succ, List.map_append]; rfl
theorem wrap_succ {i : Nat} (h : i < 1000000000) : wrap64 ((i : Int) + 1) = ((i + 1 : Nat) : Int) := by unfold wrap64; omega
namespace PRsEncode
theorem mul_ev (a b : UInt8) : Ev (fun k => scriniumref07_Mul.f k (a.toNat : Int) (b.toNat : Int)) ((gm a b).toNat : Int) := ⟨9, fun k hk => mul_eq a b k (by omega)⟩
theorem inv_ev (a : UInt8) : Ev (fun k => scriniumref07_Inv.f k (a.toNat : Int)) ((gi a).toNat : Int) := ⟨265, fun k hk => inv_eq a k (by omega)⟩
end PRsEncode
end Go.Proofs.Ytoijjlpkoniipaa
