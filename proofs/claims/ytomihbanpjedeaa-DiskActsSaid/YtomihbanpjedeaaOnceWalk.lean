/- Keys, opened; the law DrawsOnce, whatever comes in. -/
import Derived.Test.YtomihbanpjedeaaOnce
import Derived.ProofKit
import Derived.OpenShut
import Derived.Deep.Slices
import Derived.Lib.LaidU8
namespace Go.Proofs.Ytomihbanpjedeaa
open Go.RowKit Go.ChangeShapes Go.WideShapes

section
variable {H : Type} {enc : TypeId × Value → H} {W : World} {base : Nat} {held : Bool}
/-- The cells of an array of bytes. -/
theorem trod_key {fuel : Nat} {cs : List Value} {x : DataW H × List MemPlace} (h : DataW.trod enc Try.prog W base (fun _ => true) held fuel 29 cs = some x) (hl : cs.length = 32) : Bytes cs := by
  cases fuel with
  | zero => simp [DataW.trod] at h
  | succ fuel =>
    simp only [DataW.trod, Try.underlying29] at h
    split at h
    · obtain ⟨xs, hm, hx⟩ := Option.map_eq_some_iff.1 h
      intro u hu
      obtain ⟨i, hi, hui⟩ := List.getElem_of_mem hu
      obtain ⟨b, hb, hf⟩ := Lib.mapM_at hm i i (by rw [List.getElem?_range (by omega)])
      have hc5 : Try.prog.cellsOf 5 = 1 := by kernel_rfl
      rw [hc5, Nat.mul_one] at hf
      obtain ⟨n, hn, _, hw⟩ := DataW.trod_int Try.underlying5 hf
      have hbd := bounds_u8 hw
      have : u = .int .u8 n := by
        have h0 : ((cs.drop i).take 1)[0]? = some u := by
          rw [List.getElem?_take, if_pos (by omega), List.getElem?_drop, Nat.add_zero, List.getElem?_eq_getElem hi, hui]
        rw [hn] at h0
        simpa using h0.symm
      refine ⟨UInt8.ofNat n.toNat, ?_⟩
      rw [this, UInt8.toNat_ofNat_of_lt' (by show n.toNat < 256; omega)]
      congr 1
      omega
    · cases h
theorem open_keys {a : Option Addr} {len cap : Nat} {d : DataW H} {p : List MemPlace} (h : DataW.Trod enc Try.prog W base (fun _ => true) held 22 (.slice a len cap) d p) :
    ∃ xs : List Value, Keys W a len xs ∧ (a = none → cap = 0) := by
  obtain ⟨fuel, hf⟩ := h
  rcases Deep.open_slice Try.underlying22 hf with ⟨hcs, _⟩ | ⟨x, l, c, m, n, D, Pl, hcs, hb, hl, hm, hmm, _, hel⟩
  · simp [Value.cells] at hcs
    obtain ⟨rfl, rfl, rfl⟩ := hcs
    exact ⟨[], ⟨rfl, (fun u hu => by cases hu), (fun h => by omega)⟩, fun _ => rfl⟩
  · simp [Value.cells] at hcs
    obtain ⟨rfl, rfl, rfl⟩ := hcs
    simp only [if_true] at hmm
    subst hmm
    have hc29 : Try.prog.cellsOf 29 = 32 := by kernel_rfl
    simp only [hc29] at hel
    obtain ⟨V, hV⟩ := Deep.choose_lt (α := List Value) (p := fun i (cs : List Value) => W.cells? base (x.add (i * 32)) 32 = some cs ∧ DataW.trod enc Try.prog W base (fun _ => true) held n 29 cs = some (D i, Pl i)) (n := m) (fun i hi => hel i hi)
    have key : ∀ k, k ≤ m → ∃ xs : List Value, xs.length = k * 32 ∧ Bytes xs ∧ ∀ j u, xs[j]? = some u → W.cell? (x.add j) = some u := by
      intro k
      induction k with
      | zero => intro _; exact ⟨[], rfl, (fun u hu => by cases hu), (fun j u hj => by simp at hj)⟩
      | succ k ih =>
        intro hk
        obtain ⟨xs, h1, h2, h3⟩ := ih (by omega)
        obtain ⟨v1, v2⟩ := hV k (by omega)
        obtain ⟨_, c2, c3⟩ := World.cells?_some v1
        refine ⟨xs ++ V k, by rw [List.length_append, h1, c2]; omega, h2.append (trod_key v2 c2), fun j u hj => ?_⟩
        rw [List.getElem?_append] at hj
        split at hj
        · exact h3 j u hj
        · have hjl := (List.getElem?_eq_some_iff.1 hj).1
          have := c3 (j - xs.length) (by omega)
          rw [hj, Addr.add_add, h1] at this
          rw [← this]
          congr 2
          omega
    obtain ⟨xs, h1, h2, h3⟩ := key len hl
    exact ⟨xs, ⟨h1, h2, fun _ => ⟨x, rfl, h3⟩⟩, fun h => by cases h⟩
end

theorem DrawsOnce_walk {w : World} (A : Option Addr) (n c : Nat) (xs : List Value) (hx : Keys w A n xs) (hA : A = none → c = 0) (B : Option Addr) (m d : Nat) (ys : List Value) (hy : Keys w B m ys) (hB : B = none → d = 0) :
    Calls Try.prog 3 #[.slice A n c, .slice B m d] w fun e w' => e = .returned (.bool true) ∧ Below w.heap.size w w' := by
  by_cases h : n ≤ 100 ∧ m ≤ 100
  · exact once A B n m c d xs ys w hx hy hA hB h.1 h.2
  · exact len_less A B n m c d h w
end Go.Proofs.Ytomihbanpjedeaa
