/- Codes: there, alike, sum. -/
import Derived.Test.YtoijjlpkoniipaaRsNew
set_option linter.unusedVariables false
set_option linter.unusedSimpArgs false
namespace Go.Proofs.Ytoijjlpkoniipaa
open Go.RowKit Go.Proofs.YtoijjlpkoniipaaW.PrintWords Go.Proofs.YtoijjlpkoniipaaW.PrintLast Gf Lin
theorem there_R {w : World} {gc gt : Nat} {A : Option Addr} {k n cap : Nat} (h : Cd w gc gt A k n cap) (i : Int) :
    Calls Try.prog 67 #[.pointer (some ⟨gc, 0, none⟩), .int .i64 i] w fun e w' => e = .returned (.bool (decide (0 ≤ i ∧ i < (n : Int)))) ∧ Below w.heap.size w w' := by
  have c2 := h.c2
  clear h
  by_cases h0 : 0 ≤ i
  · have t0 : decide (i ≥ 0) = true := decide_eq_true h0
    by_cases h1 : i < n
    · have t1 : decide (i < (n : Int)) = true := decide_eq_true h1
      rw [show decide (0 ≤ i ∧ i < (n : Int)) = true from decide_eq_true ⟨h0, h1⟩]
      clear h0 h1
      go_enter Try.func67, Try.ntmps67
      go_wp2_with fail
      go_ret
      exact ⟨rfl, Below.refl _ _⟩
    · have t1 : decide (i < (n : Int)) = false := decide_eq_false h1
      rw [show decide (0 ≤ i ∧ i < (n : Int)) = false from decide_eq_false fun h => h1 h.2]
      clear h0 h1
      go_enter Try.func67, Try.ntmps67
      go_wp2_with fail
      go_ret
      exact ⟨rfl, Below.refl _ _⟩
  · have t0 : decide (i ≥ 0) = false := decide_eq_false h0
    rw [show decide (0 ≤ i ∧ i < (n : Int)) = false from decide_eq_false fun h => h0 h.1]
    clear h0
    go_enter Try.func67, Try.ntmps67
    go_wp2_with fail
    go_ret
    exact ⟨rfl, Below.refl _ _⟩
theorem sum_R {w : World} {g : Nat} {A : Option Addr} {q c : Nat} {cs : List UInt8} {B : Option Addr} {q' c' : Nat} {m : List (List UInt8)} (ht : TD w g) (h : RS w A q c cs) (h' : RD w B q' c' m) (hn : ∀ r ∈ m, r.length ≤ 1000000) :
    Calls Try.prog 65 #[.agg #[.pointer (some ⟨g, 0, none⟩)], .slice A q c, .slice B q' c'] w fun e w' => ∃ D s d, e = .returned (.slice D s d) ∧ RS w' D s d (docSum cs m).1 ∧ (∀ a, D = some a → w.heap.size ≤ a.block) ∧ Below w.heap.size w w' := by
  obtain ⟨w1, hw1⟩ : ∃ w1, w1 = w.alloc (.cells #[.pointer (some ⟨g, 0, none⟩)] 93) := ⟨_, rfl⟩
  have hb1 : Below w.heap.size w w1 := by rw [hw1]; exact (Below.refl _ _).alloc (Nat.le_refl _) _
  have hs := sum_anyN g A cs q c B m q' c' w1 (ht.below hb1).tab (ht.below hb1).lt (h.below hb1).rd h.le (h'.below hb1).rd h'.le hn
  have HB := Lib.hid hb1
  have HW := Lib.hid hw1
  clear ht h h' hn hb1 hw1
  go_enter Try.func65, Try.ntmps65
  go_wp2_with fail
  rw [← HW.out]
  refine hs.mono ?_
  clear hs HW
  rintro e w2 ⟨v, rfl, hv, hb2, hfr⟩
  obtain ⟨D, s, d, rfl, hr⟩ := RS.of_rb hv
  have HB2 := Lib.hid (bthen HB.out hb2)
  have HR := Lib.hid hr
  have HF : Hid (∀ a, D = some a → w.heap.size ≤ a.block) := Lib.hid (fun a ha => by have := hfr a s d (by rw [ha]); have := HB.out.size; omega)
  clear hv hr hb2 hfr
  go_wp2_with fail
  go_ret
  exact ⟨D, s, d, rfl, HR.out, HF.out, HB2.out⟩
/-! ### alike -/
theorem alike_of {m : List (List UInt8)} (h : ∀ i, i < m.length → (gr m i).length = (gr m 0).length) : Alike m := by
  intro r hr
  obtain ⟨i, hi, rfl⟩ := List.getElem_of_mem hr
  rw [← gr_at hi, h i hi, PRsEncode.gr_zero]
theorem not_alike_of {m : List (List UInt8)} {i : Nat} (hi : i < m.length) (h : (gr m i).length ≠ (gr m 0).length) : ¬ Alike m := fun ha => h (by rw [PRsEncode.alike_len ha hi, PRsEncode.gr_zero])
def NegInt (z : Int) (m : List (List UInt8)) : Prop := 0 ≤ z ↔ ¬ Alike m
def UnB (b : Bool) (m : List (List UInt8)) : Prop := b = true ↔ ¬ Alike m
def AlB (b : Bool) (m : List (List UInt8)) : Prop := b = true ↔ Alike m
theorem closure_R {w : World} {A : Option Addr} {q c : Nat} {m : List (List UInt8)} {gb : Nat} (h : RD w A q c m) (hq : 0 < q) (hg : w.cell? ⟨gb, 0, none⟩ = some (.slice A q c)) (B : Option Addr) (l cB : Nat) :
    Calls Try.prog 77 #[.slice B l cB, .pointer (some ⟨gb, 0, none⟩)] w fun e w' => e = .returned (.bool ((l : Int) != ((gr m 0).length : Int))) ∧ w' = w := by
  obtain ⟨ad, B0, c0, rfl, hcell, _⟩ := h.row0 hq
  have i0 : (0 : Int) < (q : Int) := by omega
  obtain ⟨l0, hl0⟩ : ∃ l0, l0 = (gr m 0).length := ⟨_, rfl⟩
  rw [← hl0] at hcell ⊢
  clear h hq hl0
  go_enter Try.func77, Try.ntmps77
  go_wp2_with fail
  go_ret
  exact ⟨rfl, rfl⟩
theorem index_R {w : World} {A : Option Addr} {q c : Nat} {m : List (List UInt8)} {gb : Nat} (h : RD w A q c m) (hq : q ≤ 1000) (hg : w.cell? ⟨gb, 0, none⟩ = some (.slice A q c)) :
    Calls Try.prog 81 #[.slice A q c, .func (Fn.func 77) #[] #[.pointer (some ⟨gb, 0, none⟩)]] w fun e w' => ∃ z, e = .returned (.int .i64 z) ∧ NegInt z m ∧ w' = w := by
  have hl := h.len
  have H := Lib.hid h
  have HL := Lib.hid hl
  clear h hl
  go_enter Try.func81, Try.ntmps81
  go_wp2_with fail
  go_loopw [8] (fun z wr => ∃ i : Nat, i ≤ q ∧ z = .int .i64 i ∧ wr = w ∧ ∀ j, j < i → (gr m j).length = (gr m 0).length) (fun z _ => q - (intOf z).toNat)
  case atStart => exact ⟨0, by omega, rfl, rfl, fun j hj => by omega⟩
  case round =>
    obtain ⟨i, hi, rfl, rfl, hall⟩ := hrel
    by_cases hiq : i < q
    · obtain ⟨ad, B, cB, rfl, hcell, _⟩ := H.out.row hiq
      have hcl := closure_R H.out (by omega) hg B (gr m i).length cB
      have l1 : (0 : Int) ≤ (i : Int) := by omega
      have l2 : (i : Int) < (q : Int) := by omega
      have HA := Lib.hid hall
      obtain ⟨l, hl⟩ : ∃ l, l = (gr m i).length := ⟨_, rfl⟩
      have HLL := Lib.hid hl
      rw [← hl] at hcell hcl
      by_cases he : l = (gr m 0).length
      · rw [show ((l : Int) != ((gr m 0).length : Int)) = false by rw [he]; simp] at hcl
        have HE := Lib.hid he
        clear hall hl he
        go_wp2_with fail
        refine hcl.mono ?_
        clear hcl
        rintro e w2 ⟨rfl, rfl⟩
        go_wp2_with fail
        exact ⟨⟨i + 1, by omega, by go_num, trivial, fun j hj => by
          by_cases hji : j = i
          · rw [hji, ← HLL.out]; exact HE.out
          · exact HA.out j (by omega)⟩, by simp [intOf]; omega⟩
      · rw [show ((l : Int) != ((gr m 0).length : Int)) = true by simp; omega] at hcl
        have HE := Lib.hid (not_alike_of (m := m) (i := i) (by have := HL.out; omega) (by rw [← hl]; exact he))
        have HNE : Hid (NegInt (i : Int) m) := Lib.hid ⟨fun _ => HE.out, fun _ => by omega⟩
        clear hall hl he
        go_wp2_with fail
        refine hcl.mono ?_
        clear hcl
        rintro e w2 ⟨rfl, rfl⟩
        go_wp2_with fail
        go_ret
        exact ⟨_, rfl, HNE.out, rfl⟩
    · obtain rfl : q = i := by omega
      have HA := Lib.hid (alike_of (m := m) (fun j hj => hall j (by have := HL.out; omega)))
      have HNA : Hid (NegInt (-1) m) := Lib.hid ⟨fun h => by omega, fun h => absurd HA.out h⟩
      clear hall
      go_wp2_with fail
      go_ret
      exact ⟨_, rfl, HNA.out, rfl⟩
theorem contains_R {w : World} {A : Option Addr} {q c : Nat} {m : List (List UInt8)} {gb : Nat} (h : RD w A q c m) (hq : q ≤ 1000) (hg : w.cell? ⟨gb, 0, none⟩ = some (.slice A q c)) :
    Calls Try.prog 76 #[.slice A q c, .func (Fn.func 77) #[] #[.pointer (some ⟨gb, 0, none⟩)]] w fun e w' => ∃ b, e = .returned (.bool b) ∧ UnB b m ∧ w' = w := by
  have hi := index_R h hq hg
  clear h hg hq
  go_enter Try.func76, Try.ntmps76
  go_wp2_with fail
  refine hi.mono ?_
  clear hi
  rintro e w2 ⟨z, rfl, hz, rfl⟩
  have HZ := Lib.hid hz
  clear hz
  by_cases h0 : 0 ≤ z
  · have t : decide (z ≥ 0) = true := decide_eq_true h0
    have HT : Hid (UnB true m) := Lib.hid ⟨fun _ => HZ.out.1 h0, fun _ => rfl⟩
    clear h0
    go_wp2_with fail
    go_ret
    exact ⟨true, rfl, HT.out, rfl⟩
  · have t : decide (z ≥ 0) = false := decide_eq_false h0
    have HT : Hid (UnB false m) := Lib.hid ⟨fun h => Bool.noConfusion h, fun h => absurd (HZ.out.2 h) h0⟩
    clear h0
    go_wp2_with fail
    go_ret
    exact ⟨false, rfl, HT.out, rfl⟩
theorem alike_R {w : World} {A : Option Addr} {q c : Nat} {m : List (List UInt8)} (h : RD w A q c m) (hq : q ≤ 1000) :
    Calls Try.prog 64 #[.slice A q c] w fun e w' => ∃ b, e = .returned (.bool b) ∧ AlB b m ∧ Below w.heap.size w w' := by
  obtain ⟨w1, hw1⟩ : ∃ w1, w1 = w.alloc (.cells #[.slice A q c] 36) := ⟨_, rfl⟩
  have hb1 : Below w.heap.size w w1 := by rw [hw1]; exact (Below.refl _ _).alloc (Nat.le_refl _) _
  have hc : w1.cell? ⟨w.heap.size, 0, none⟩ = some (.slice A q c) := by rw [hw1, cell_of_row _ _ _ _ _ _ (heap_alloc_new w _)]; rfl
  have hi := contains_R (h.below hb1) hq hc
  have HB := Lib.hid hb1
  have HW := Lib.hid hw1
  clear h hb1 hw1 hc hq
  go_enter Try.func64, Try.ntmps64
  go_wp2_with fail
  rw [← HW.out]
  refine hi.mono ?_
  clear hi HW
  rintro e w2 ⟨b, rfl, hz, rfl⟩
  have HZ := Lib.hid hz
  clear hz
  cases b with
  | true =>
    have HT : Hid (AlB false m) := Lib.hid ⟨fun h => Bool.noConfusion h, fun h => absurd h (HZ.out.1 rfl)⟩
    go_wp2_with fail
    go_ret
    exact ⟨false, rfl, HT.out, HB.out⟩
  | false =>
    have HT : Hid (AlB true m) := Lib.hid ⟨fun _ => Classical.byContradiction fun h => Bool.noConfusion (HZ.out.2 h), fun _ => rfl⟩
    go_wp2_with fail
    go_ret
    exact ⟨true, rfl, HT.out, HB.out⟩
end Go.Proofs.Ytoijjlpkoniipaa
