/- gf.Make makes the tables. -/
import Derived.Test.YtoijjlpkoniipaaTab
import Derived.RegionTactic
import Derived.BigRegion
import Derived.Deep.RegionHeld3
import Derived.Deep.LoopGhost
namespace Go.Proofs.Ytoijjlpkoniipaa
open Go.RowKit Go.Proofs.YtoijjlpkoniipaaW.PrintWords Gf

def zeroTab : Array Value := Array.replicate 510 (.int .u8 0) ++ Array.replicate 256 (.int .i64 0)
theorem zero_tab : Try.zeroCells90 = zeroTab := by kernel_rfl
/-- What the tables hold behind i rounds. -/
def tc (i j : Nat) : Value :=
  if j < 510 then .int .u8 (if j % 255 < i then ((E j).toNat : Int) else 0)
  else .int .i64 (if j ≠ 510 ∧ L (UInt8.ofNat (j - 510)) < i then (L (UInt8.ofNat (j - 510)) : Int) else 0)
theorem tc_zero (j : Nat) (hj : j < 766) : Try.zeroCells90[j]? = some (tc 0 j) := by
  rw [zero_tab]
  unfold zeroTab tc
  rw [Array.getElem?_append]
  by_cases h : j < 510
  · simp [h]
  · simp [h]
    rw [Array.getElem?_replicate, if_pos (by omega)]
def Made (w : World) (g i : Nat) : Prop := (∀ j, j < 766 → w.cell? ⟨g, j, none⟩ = some (tc i j)) ∧ ∀ j, w.frozen? ⟨g, j, none⟩ = false
theorem addr_ne {g i j : Nat} (h : i ≠ j) : (⟨g, i, none⟩ : Addr) ≠ ⟨g, j, none⟩ := fun e => h (by injection e)
theorem set_at {w : World} {g i : Nat} {v u : Value} (h : w.cell? ⟨g, i, none⟩ = some u) (j : Nat) : (w.setCell ⟨g, i, none⟩ v).cell? ⟨g, j, none⟩ = if j = i then some v else w.cell? ⟨g, j, none⟩ := by
  by_cases hj : j = i
  · subst hj; rw [if_pos rfl]; exact World.cell?_setCell_same w _ _ h
  · rw [if_neg hj]; exact World.cell?_setCell_other w _ _ _ (addr_ne (Ne.symm hj))
theorem made_step {w : World} {g k : Nat} (h : Made w g k) (hk : k < 255) :
    Made (((w.setCell ⟨g, k, none⟩ (.int .u8 ((E k).toNat : Int))).setCell ⟨g, k + 255, none⟩ (.int .u8 ((E k).toNat : Int))).setCell ⟨g, 510 + (E k).toNat, none⟩ (.int .i64 (k : Int))).drew g (k + 1) := by
  have hx := (E k).toNat_lt
  have h0 : 0 < (E k).toNat := by
    rcases Nat.eq_zero_or_pos (E k).toNat with e | e
    · exact absurd (UInt8.toNat_inj.1 (by simpa using e)) (E_ne_zero k)
    · exact e
  refine ⟨fun j hj => ?_, fun j => by simpa using h.2 j⟩
  have e1 := set_at (v := .int .u8 ((E k).toNat : Int)) (h.1 k (by omega))
  have c2 : ∃ u, (w.setCell ⟨g, k, none⟩ (.int .u8 ((E k).toNat : Int))).cell? ⟨g, k + 255, none⟩ = some u := ⟨_, by rw [e1, if_neg (by omega)]; exact h.1 _ (by omega)⟩
  obtain ⟨u2, c2⟩ := c2
  have e2 := set_at (v := .int .u8 ((E k).toNat : Int)) c2
  have c3 : ∃ u, ((w.setCell ⟨g, k, none⟩ (.int .u8 ((E k).toNat : Int))).setCell ⟨g, k + 255, none⟩ (.int .u8 ((E k).toNat : Int))).cell? ⟨g, 510 + (E k).toNat, none⟩ = some u :=
    ⟨_, by rw [e2, if_neg (by omega), e1, if_neg (by omega)]; exact h.1 _ (by omega)⟩
  obtain ⟨u3, c3⟩ := c3
  rw [World.cell?_drew, set_at c3, e2, e1, h.1 j hj]
  unfold tc
  by_cases q3 : j = 510 + (E k).toNat
  · subst q3
    have el : L (UInt8.ofNat (510 + (E k).toNat - 510)) = k := by
      rw [Nat.add_sub_cancel_left, ofNat_toNat, L_E, Nat.mod_eq_of_lt hk]
    rw [if_pos rfl, if_neg (by omega), el, if_pos ⟨by omega, by omega⟩]
  · rw [if_neg q3]
    by_cases q2 : j = k + 255
    · subst q2
      rw [if_pos rfl, if_pos (by omega), if_pos (by omega), E_period]
    · rw [if_neg q2]
      by_cases q1 : j = k
      · subst q1
        rw [if_pos rfl, if_pos (by omega), if_pos (by omega)]
      · rw [if_neg q1]
        by_cases h5 : j < 510
        · rw [if_pos h5, if_pos h5]
          congr 3
          have : (j % 255 < k) = (j % 255 < k + 1) := by rw [eq_iff_iff]; omega
          simp only [this]
        · rw [if_neg h5, if_neg h5]
          by_cases hz : j ≠ 510
          · have hne : L (UInt8.ofNat (j - 510)) ≠ k := by
              intro e
              have h6 : UInt8.ofNat (j - 510) ≠ 0 := by
                intro h
                have := congrArg UInt8.toNat h
                simp at this
                omega
              have h7 := E_L h6
              rw [e] at h7
              have := congrArg UInt8.toNat h7
              simp at this
              omega
            have : (j ≠ 510 ∧ L (UInt8.ofNat (j - 510)) < k) = (j ≠ 510 ∧ L (UInt8.ofNat (j - 510)) < k + 1) := by rw [eq_iff_iff]; omega
            simp only [this]
          · have : j = 510 := by omega
            subst this
            simp
theorem made_tab {w : World} {g : Nat} (h : Made w g 255) : Tab w g := by
  refine ⟨fun i hi => ?_, fun a => ?_⟩
  · rw [h.1 i (by omega)]; unfold tc
    rw [if_pos hi, if_pos (Nat.mod_lt _ (by omega))]
  · have ha := a.toNat_lt
    rw [h.1 _ (by omega)]; unfold tc
    rw [if_neg (by omega), Nat.add_sub_cancel_left, ofNat_toNat]
    by_cases h0 : a = 0
    · subst h0; simp [L_zero]
    · have hne : 510 + a.toNat ≠ 510 := fun e => h0 (UInt8.toNat_inj.1 (show a.toNat = 0 by omega))
      rw [if_pos ⟨hne, L_lt a⟩]
theorem step_all : ∀ a : Fin 256, (a.val * 2 / 256 = 0 → (Gf.step (UInt8.ofNat a.val)).toNat = a.val * 2) ∧ (a.val * 2 / 256 ≠ 0 → (Gf.step (UInt8.ofNat a.val)).toNat = a.val * 2 ^^^ 285) := by decide +kernel
theorem step_low {a : UInt8} (h : a.toNat * 2 / 256 = 0) : (Gf.step a).toNat = a.toNat * 2 := by
  have := (step_all ⟨a.toNat, a.toNat_lt⟩).1 h
  rwa [ofNat_toNat] at this
theorem step_high {a : UInt8} (h : a.toNat * 2 / 256 ≠ 0) : (Gf.step a).toNat = a.toNat * 2 ^^^ 285 := by
  have := (step_all ⟨a.toNat, a.toNat_lt⟩).2 h
  rwa [ofNat_toNat] at this
theorem ofInt_i64 (a : Nat) (ha : a < 9223372036854775808) : (BitVec.ofInt 64 (a : Int)).toNat = a := by
  rw [BitVec.ofInt_natCast, BitVec.toNat_ofNat]; exact Nat.mod_eq_of_lt (by omega)
theorem i64_xor_nat (a b : Nat) (ha : a < 9223372036854775808) (hb : b < 9223372036854775808) : bits .xor .i64 (a : Int) (b : Int) = ((a ^^^ b : Nat) : Int) := by
  have hx : a ^^^ b < 2 ^ 63 := Nat.xor_lt_two_pow (by omega) (by omega)
  show IntKind.i64.wrap ((BitVec.ofInt 64 (a : Int) ^^^ BitVec.ofInt 64 (b : Int)).toNat : Int) = _
  rw [BitVec.toNat_xor, ofInt_i64 a ha, ofInt_i64 b hb, IntKind.wrap_i64]
  omega

set_option maxHeartbeats 1000000 in
set_option maxRecDepth 100000 in
theorem make_calls (w : World) : Calls Try.prog 23 #[] w fun e w' => e = .returned (.pointer (some ⟨w.heap.size, 0, none⟩)) ∧ Tab w' w.heap.size ∧ w.heap.size < w'.heap.size ∧ Below w.heap.size w w' := by
  go_enter Try.func23, Try.ntmps23
  go_wp2
  go_loopw [2, 6] (fun x i wr => ∃ k : Nat, k ≤ 255 ∧ i = .int .i64 k ∧ x = .int .i64 ((E k).toNat : Int) ∧ Made wr w.heap.size k ∧ w.heap.size < wr.heap.size ∧ Below w.heap.size w wr) (fun _ i _ => 255 - (intOf i).toNat)
  case atStart =>
    refine ⟨0, by omega, rfl, rfl, ⟨fun j hj => ?_, fun j => blk_frozen (heap_alloc_new w _) j⟩, by simp, (Below.refl _ _).alloc (Nat.le_refl _) _⟩
    rw [World.cell?_alloc_new]
    exact tc_zero j hj
  case round =>
    obtain ⟨k, hk, rfl, rfl, hm, hsz, hb⟩ := hrel
    by_cases hlt : k < 255
    · have h1 := hm.1 k (by omega)
      have h2 := hm.1 (k + 255) (by omega)
      have h3 := hm.1 (510 + (E k).toNat) (by have := (E k).toNat_lt; omega)
      have q1 := hm.2 k
      have q2 := hm.2 (k + 255)
      have q3 := hm.2 (510 + (E k).toNat)
      have hx := (E k).toNat_lt
      have hfin := Lib.hid (made_step hm hlt)
      go_wp2
      go_region
      go_wp2
      · have ht : (((E k).toNat : Int) * 2 / 256 != 0) = true := by assumption
        refine ⟨⟨k + 1, by omega, by go_num, ?_, hfin.out, by simpa using hsz, ?_⟩, by simp [intOf]; omega⟩
        · have e := i64_xor_nat ((E k).toNat * 2) 285 (by omega) (by omega)
          have ht' : (E k).toNat * 2 / 256 ≠ 0 := by
            intro h
            rw [bne_iff_ne] at ht
            omega
          have e2 : ((E (k + 1)).toNat : Int) = (((E k).toNat * 2 ^^^ 285 : Nat) : Int) := by rw [← step_high ht']; rfl
          rw [e2, ← e]; congr 2
        · exact Below.drew (((hb.setCell (by simp) _).setCell (by simp) _).setCell (by simp) _)
      · have ht : (((E k).toNat : Int) * 2 / 256 != 0) = false := by assumption
        refine ⟨⟨k + 1, by omega, by go_num, ?_, hfin.out, by simpa using hsz, ?_⟩, by simp [intOf]; omega⟩
        · have ht' : (E k).toNat * 2 / 256 = 0 := by
            rw [bne_eq_false_iff_eq] at ht
            omega
          have e2 : ((E (k + 1)).toNat : Int) = (((E k).toNat * 2 : Nat) : Int) := by rw [← step_low ht']; rfl
          rw [e2]; congr 1
        · exact Below.drew (((hb.setCell (by simp) _).setCell (by simp) _).setCell (by simp) _)
    · have hk' : k = 255 := by omega
      have hfin := Lib.hid (made_tab (hk' ▸ hm))
      clear hm
      go_wp2
      go_ret
      exact ⟨rfl, hfin.out, hsz, hb⟩
end Go.Proofs.Ytoijjlpkoniipaa
