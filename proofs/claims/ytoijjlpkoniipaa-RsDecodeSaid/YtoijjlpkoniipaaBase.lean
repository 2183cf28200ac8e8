/- Joined out of texts of this claim: Tab, Make, Mem, GfWalk. Each says what it proves, and its conditions. -/
import Derived.Test.YtoijjlpkoniipaaProg
import Derived.Test.YtoijjlpkoniipaaFld
import Derived.Test.YtoijjlpkoniipaaWWords
import Derived.WalkKit
import Derived.BigQuiet
import Derived.Deep.QuietTactic
import Derived.WalkLawsBesides
import Derived.WalkSpells
import Derived.Lib.Hide
import Derived.RegionTactic
import Derived.BigRegion
import Derived.Deep.RegionHeld3
import Derived.Deep.LoopGhost
import Derived.ProofKit
import Derived.OpenShut
import Derived.Deep.Matrix
import Derived.Lib.SmallJoins
set_option linter.unusedVariables false
set_option linter.unusedSimpArgs false
section
/- The tables in memory; contracts of Mul, Inv, Div, Exp. -/
namespace Go.Proofs.Ytoijjlpkoniipaa
open Go.RowKit Go.Proofs.YtoijjlpkoniipaaW.PrintWords Gf

/-- A pointer's block holds the tables. -/
def Tab (w : World) (g : Nat) : Prop :=
  (∀ i, i < 510 → w.cell? ⟨g, i, none⟩ = some (.int .u8 ((E i).toNat : Int))) ∧ ∀ a : UInt8, w.cell? ⟨g, 510 + a.toNat, none⟩ = some (.int .i64 (L a : Int))

theorem b_zero {a : UInt8} (h : a = 0) : ((a.toNat : Int) == 0) = true := by subst h; rfl
theorem b_ne_zero {a : UInt8} (h : a ≠ 0) : ((a.toNat : Int) == 0) = false := by
  rw [beq_eq_false_iff_ne]
  intro e
  exact h (UInt8.toNat_inj.1 (by simpa using e))

set_option maxHeartbeats 1000000 in
theorem mul_calls (g : Nat) (a b : UInt8) (w : World) (ht : Tab w g) :
    Calls Try.prog 24 #[.pointer (some ⟨g, 0, none⟩), .int .u8 (a.toNat : Int), .int .u8 (b.toNat : Int)] w fun e w' => e = .returned (.int .u8 ((gm a b).toNat : Int)) ∧ Drawn0 w w' := by
  by_cases ha : a = 0
  · have h1 := b_zero ha
    have hfin := Lib.hid (show gm a b = 0 by rw [ha, gm_zero_left])
    clear ha
    go_enter Try.func24, Try.ntmps24
    go_wp2
    go_ret
    exact ⟨by rw [hfin.out]; rfl, Drawn0.refl _⟩
  · by_cases hb : b = 0
    · have h1 := b_ne_zero ha
      have h2 := b_zero hb
      have hfin := Lib.hid (show gm a b = 0 by rw [hb, gm_zero_right])
      clear ha hb
      go_enter Try.func24, Try.ntmps24
      go_wp2
      go_ret
      exact ⟨by rw [hfin.out]; rfl, Drawn0.refl _⟩
    · have h1 := b_ne_zero ha
      have h2 := b_ne_zero hb
      have f1 := ht.2 a
      have f2 := ht.2 b
      have f3 := ht.1 (L a + L b) (by have := L_lt a; have := L_lt b; omega)
      have l1 := L_lt a
      have l2 := L_lt b
      have l3 := a.toNat_lt
      have l4 := b.toNat_lt
      have hfin := Lib.hid (gm_ne ha hb)
      clear ha hb ht
      go_enter Try.func24, Try.ntmps24
      go_wp2
      go_quiet (fail)
      go_wp2
      go_ret
      exact ⟨by rw [hfin.out]; rfl, ⟨⟨_, rfl⟩⟩⟩

theorem inv_zero (g : Nat) (w : World) : Calls Try.prog 27 #[.pointer (some ⟨g, 0, none⟩), .int .u8 0] w fun e w' => e = .returned (.tuple #[.int .u8 0, .int .i64 14]) ∧ Drawn0 w w' := by
  go_enter Try.func27, Try.ntmps27
  go_wp2
  go_ret2
  exact ⟨rfl, Drawn0.refl _⟩
theorem inv_calls (g : Nat) (a : UInt8) (w : World) (ht : Tab w g) (ha : a ≠ 0) :
    Calls Try.prog 27 #[.pointer (some ⟨g, 0, none⟩), .int .u8 (a.toNat : Int)] w fun e w' => e = .returned (.tuple #[.int .u8 ((gi a).toNat : Int), .int .i64 0]) ∧ Drawn0 w w' := by
  have h1 := b_ne_zero ha
  have f1 := ht.2 a
  have l1 := L_lt a
  have f3 := ht.1 (255 - L a) (by omega)
  have l3 := a.toNat_lt
  have hfin := Lib.hid (show gi a = E (255 - L a) by simp [gi, ha])
  clear ha ht
  go_enter Try.func27, Try.ntmps27
  go_wp2
  go_quiet (fail)
  go_wp2
  go_ret2
  exact ⟨by rw [hfin.out]; rfl, ⟨⟨_, rfl⟩⟩⟩
theorem Tab.drewN {w : World} {g : Nat} (h : Tab w g) (n : Nat) : Tab (w.drewN n) g := h
theorem div_calls (g : Nat) (a b : UInt8) (w : World) (ht : Tab w g) (hb : b ≠ 0) :
    Calls Try.prog 28 #[.pointer (some ⟨g, 0, none⟩), .int .u8 (a.toNat : Int), .int .u8 (b.toNat : Int)] w fun e w' => e = .returned (.tuple #[.int .u8 ((gm a (gi b)).toNat : Int), .int .i64 0]) ∧ Drawn0 w w' := by
  go_enter Try.func28, Try.ntmps28
  go_wp2_with fail
  refine (inv_calls g b _ ht hb).mono ?_
  rintro e w' ⟨rfl, ⟨n, rfl⟩⟩
  go_wp2_with fail
  refine (mul_calls g a (gi b) _ (ht.drewN n)).mono ?_
  rintro e w' ⟨rfl, ⟨m, rfl⟩⟩
  go_wp2_with fail
  go_ret2
  exact ⟨rfl, by repeat (first | exact Drawn0.refl _ | apply Drawn0.step)⟩
theorem div_zero (g : Nat) (a : UInt8) (w : World) (ht : Tab w g) :
    Calls Try.prog 28 #[.pointer (some ⟨g, 0, none⟩), .int .u8 (a.toNat : Int), .int .u8 0] w fun e w' => e = .returned (.tuple #[.int .u8 0, .int .i64 14]) ∧ Drawn0 w w' := by
  go_enter Try.func28, Try.ntmps28
  go_wp2_with fail
  refine (inv_zero g _).mono ?_
  rintro e w' ⟨rfl, ⟨n, rfl⟩⟩
  go_wp2_with fail
  refine (mul_calls g a 0 _ (ht.drewN n)).mono ?_
  rintro e w' ⟨rfl, ⟨m, rfl⟩⟩
  go_wp2_with fail
  go_ret2
  exact ⟨by rw [gm_zero_right]; rfl, by repeat (first | exact Drawn0.refl _ | apply Drawn0.step)⟩
theorem exp_calls (g : Nat) (n : Int) (w : World) (ht : Tab w g) (h0 : -9223372036854775808 ≤ n) (h1 : n ≤ 9223372036854775807) :
    Calls Try.prog 25 #[.pointer (some ⟨g, 0, none⟩), .int .i64 n] w fun e w' => e = .returned (.int .u8 ((E (n % 255).toNat).toNat : Int)) ∧ Drawn0 w w' := by
  have t1 : -255 < n.tmod 255 := by have := Int.lt_tmod_of_pos n (show (0 : Int) < 255 by omega); omega
  have t2 : n.tmod 255 < 255 := Int.tmod_lt_of_pos n (by omega)
  have te : n.tmod 255 % 255 = n % 255 := by
    rw [Int.tmod_def]; omega
  have f3 := ht.1 ((n.tmod 255 % 255).toNat) (by omega)
  have hfin := Lib.hid te
  have b1 : 0 ≤ (n.tmod 255 + 255) % 255 := by omega
  have b2 : (n.tmod 255 + 255) % 255 < 510 := by omega
  clear te ht
  go_enter Try.func25, Try.ntmps25
  go_wp2
  go_ret
  exact ⟨by rw [← hfin.out]; rfl, Drawn0.refl _⟩
/-- Without tables. -/
theorem mul_nil (a b : Int) (w : World) : Calls Try.prog 24 #[.pointer none, .int .u8 a, .int .u8 b] w fun e w' => e = .returned (.int .u8 0) ∧ Drawn0 w w' := by
  go_enter Try.func24, Try.ntmps24
  go_wp2
  go_ret
  exact ⟨rfl, Drawn0.refl _⟩
theorem inv_nil (a : Int) (w : World) : Calls Try.prog 27 #[.pointer none, .int .u8 a] w fun e w' => e = .returned (.tuple #[.int .u8 0, .int .i64 15]) ∧ Drawn0 w w' := by
  go_enter Try.func27, Try.ntmps27
  go_wp2
  go_ret2
  exact ⟨rfl, Drawn0.refl _⟩
theorem div_nil (a b : Int) (w : World) : Calls Try.prog 28 #[.pointer none, .int .u8 a, .int .u8 b] w fun e w' => e = .returned (.tuple #[.int .u8 0, .int .i64 15]) ∧ Drawn0 w w' := by
  go_enter Try.func28, Try.ntmps28
  go_wp2_with fail
  refine (inv_nil b _).mono ?_
  rintro e w' ⟨rfl, ⟨n, rfl⟩⟩
  go_wp2_with fail
  refine (mul_nil a 0 _).mono ?_
  rintro e w' ⟨rfl, ⟨m, rfl⟩⟩
  go_wp2_with fail
  go_ret2
  exact ⟨rfl, by repeat (first | exact Drawn0.refl _ | apply Drawn0.step)⟩
theorem exp_nil (n : Int) (w : World) : Calls Try.prog 25 #[.pointer none, .int .i64 n] w fun e w' => e = .returned (.int .u8 0) ∧ Drawn0 w w' := by
  go_enter Try.func25, Try.ntmps25
  go_wp2
  go_ret
  exact ⟨rfl, Drawn0.refl _⟩
end Go.Proofs.Ytoijjlpkoniipaa
end
section
/- gf.Make makes the tables. -/
namespace Go.Proofs.Ytoijjlpkoniipaa
open Go.RowKit Go.Proofs.YtoijjlpkoniipaaW.PrintWords Gf

def zeroTab : Array Value := Array.replicate 510 (.int .u8 0) ++ Array.replicate 256 (.int .i64 0)
theorem zero_tab : Try.zeroCells90 = zeroTab := by kernel_rfl
/-- What the tables hold behind i rounds. -/
def tc (i j : Nat) : Value :=
  if j < 510 then .int .u8 (if j % 255 < i then ((E j).toNat : Int) else 0)
  else .int .i64 (if j ≠ 510 ∧ L (UInt8.ofNat (j - 510)) < i then (L (UInt8.ofNat (j - 510)) : Int) else 0)
theorem tc_zero (j : Nat) (hj : j < 766) : Try.zeroCells90[j]? = some (tc 0 j) := by
  rw [zero_tab]
  unfold zeroTab tc
  rw [Array.getElem?_append]
  by_cases h : j < 510
  · simp [h]
  · simp [h]
    rw [Array.getElem?_replicate, if_pos (by omega)]
def Made (w : World) (g i : Nat) : Prop := (∀ j, j < 766 → w.cell? ⟨g, j, none⟩ = some (tc i j)) ∧ ∀ j, w.frozen? ⟨g, j, none⟩ = false
theorem addr_ne {g i j : Nat} (h : i ≠ j) : (⟨g, i, none⟩ : Addr) ≠ ⟨g, j, none⟩ := fun e => h (by injection e)
theorem set_at {w : World} {g i : Nat} {v u : Value} (h : w.cell? ⟨g, i, none⟩ = some u) (j : Nat) : (w.setCell ⟨g, i, none⟩ v).cell? ⟨g, j, none⟩ = if j = i then some v else w.cell? ⟨g, j, none⟩ := by
  by_cases hj : j = i
  · subst hj; rw [if_pos rfl]; exact World.cell?_setCell_same w _ _ h
  · rw [if_neg hj]; exact World.cell?_setCell_other w _ _ _ (addr_ne (Ne.symm hj))
theorem made_step {w : World} {g k : Nat} (h : Made w g k) (hk : k < 255) :
    Made (((w.setCell ⟨g, k, none⟩ (.int .u8 ((E k).toNat : Int))).setCell ⟨g, k + 255, none⟩ (.int .u8 ((E k).toNat : Int))).setCell ⟨g, 510 + (E k).toNat, none⟩ (.int .i64 (k : Int))).drew g (k + 1) := by
  have hx := (E k).toNat_lt
  have h0 : 0 < (E k).toNat := by
    rcases Nat.eq_zero_or_pos (E k).toNat with e | e
    · exact absurd (UInt8.toNat_inj.1 (by simpa using e)) (E_ne_zero k)
    · exact e
  refine ⟨fun j hj => ?_, fun j => by simpa using h.2 j⟩
  have e1 := set_at (v := .int .u8 ((E k).toNat : Int)) (h.1 k (by omega))
  have c2 : ∃ u, (w.setCell ⟨g, k, none⟩ (.int .u8 ((E k).toNat : Int))).cell? ⟨g, k + 255, none⟩ = some u := ⟨_, by rw [e1, if_neg (by omega)]; exact h.1 _ (by omega)⟩
  obtain ⟨u2, c2⟩ := c2
  have e2 := set_at (v := .int .u8 ((E k).toNat : Int)) c2
  have c3 : ∃ u, ((w.setCell ⟨g, k, none⟩ (.int .u8 ((E k).toNat : Int))).setCell ⟨g, k + 255, none⟩ (.int .u8 ((E k).toNat : Int))).cell? ⟨g, 510 + (E k).toNat, none⟩ = some u :=
    ⟨_, by rw [e2, if_neg (by omega), e1, if_neg (by omega)]; exact h.1 _ (by omega)⟩
  obtain ⟨u3, c3⟩ := c3
  rw [World.cell?_drew, set_at c3, e2, e1, h.1 j hj]
  unfold tc
  by_cases q3 : j = 510 + (E k).toNat
  · subst q3
    have el : L (UInt8.ofNat (510 + (E k).toNat - 510)) = k := by
      rw [Nat.add_sub_cancel_left, ofNat_toNat, L_E, Nat.mod_eq_of_lt hk]
    rw [if_pos rfl, if_neg (by omega), el, if_pos ⟨by omega, by omega⟩]
  · rw [if_neg q3]
    by_cases q2 : j = k + 255
    · subst q2
      rw [if_pos rfl, if_pos (by omega), if_pos (by omega), E_period]
    · rw [if_neg q2]
      by_cases q1 : j = k
      · subst q1
        rw [if_pos rfl, if_pos (by omega), if_pos (by omega)]
      · rw [if_neg q1]
        by_cases h5 : j < 510
        · rw [if_pos h5, if_pos h5]
          congr 3
          have : (j % 255 < k) = (j % 255 < k + 1) := by rw [eq_iff_iff]; omega
          simp only [this]
        · rw [if_neg h5, if_neg h5]
          by_cases hz : j ≠ 510
          · have hne : L (UInt8.ofNat (j - 510)) ≠ k := by
              intro e
              have h6 : UInt8.ofNat (j - 510) ≠ 0 := by
                intro h
                have := congrArg UInt8.toNat h
                simp at this
                omega
              have h7 := E_L h6
              rw [e] at h7
              have := congrArg UInt8.toNat h7
              simp at this
              omega
            have : (j ≠ 510 ∧ L (UInt8.ofNat (j - 510)) < k) = (j ≠ 510 ∧ L (UInt8.ofNat (j - 510)) < k + 1) := by rw [eq_iff_iff]; omega
            simp only [this]
          · have : j = 510 := by omega
            subst this
            simp
theorem made_tab {w : World} {g : Nat} (h : Made w g 255) : Tab w g := by
  refine ⟨fun i hi => ?_, fun a => ?_⟩
  · rw [h.1 i (by omega)]; unfold tc
    rw [if_pos hi, if_pos (Nat.mod_lt _ (by omega))]
  · have ha := a.toNat_lt
    rw [h.1 _ (by omega)]; unfold tc
    rw [if_neg (by omega), Nat.add_sub_cancel_left, ofNat_toNat]
    by_cases h0 : a = 0
    · subst h0; simp [L_zero]
    · have hne : 510 + a.toNat ≠ 510 := fun e => h0 (UInt8.toNat_inj.1 (show a.toNat = 0 by omega))
      rw [if_pos ⟨hne, L_lt a⟩]
theorem step_all : ∀ a : Fin 256, (a.val * 2 / 256 = 0 → (Gf.step (UInt8.ofNat a.val)).toNat = a.val * 2) ∧ (a.val * 2 / 256 ≠ 0 → (Gf.step (UInt8.ofNat a.val)).toNat = a.val * 2 ^^^ 285) := by decide +kernel
theorem step_low {a : UInt8} (h : a.toNat * 2 / 256 = 0) : (Gf.step a).toNat = a.toNat * 2 := by
  have := (step_all ⟨a.toNat, a.toNat_lt⟩).1 h
  rwa [ofNat_toNat] at this
theorem step_high {a : UInt8} (h : a.toNat * 2 / 256 ≠ 0) : (Gf.step a).toNat = a.toNat * 2 ^^^ 285 := by
  have := (step_all ⟨a.toNat, a.toNat_lt⟩).2 h
  rwa [ofNat_toNat] at this
theorem ofInt_i64 (a : Nat) (ha : a < 9223372036854775808) : (BitVec.ofInt 64 (a : Int)).toNat = a := by
  rw [BitVec.ofInt_natCast, BitVec.toNat_ofNat]; exact Nat.mod_eq_of_lt (by omega)
theorem i64_xor_nat (a b : Nat) (ha : a < 9223372036854775808) (hb : b < 9223372036854775808) : bits .xor .i64 (a : Int) (b : Int) = ((a ^^^ b : Nat) : Int) := by
  have hx : a ^^^ b < 2 ^ 63 := Nat.xor_lt_two_pow (by omega) (by omega)
  show IntKind.i64.wrap ((BitVec.ofInt 64 (a : Int) ^^^ BitVec.ofInt 64 (b : Int)).toNat : Int) = _
  rw [BitVec.toNat_xor, ofInt_i64 a ha, ofInt_i64 b hb, IntKind.wrap_i64]
  omega

set_option maxHeartbeats 1000000 in
set_option maxRecDepth 100000 in
theorem make_calls (w : World) : Calls Try.prog 23 #[] w fun e w' => e = .returned (.pointer (some ⟨w.heap.size, 0, none⟩)) ∧ Tab w' w.heap.size ∧ w.heap.size < w'.heap.size ∧ Below w.heap.size w w' := by
  go_enter Try.func23, Try.ntmps23
  go_wp2
  go_loopw [2, 6] (fun x i wr => ∃ k : Nat, k ≤ 255 ∧ i = .int .i64 k ∧ x = .int .i64 ((E k).toNat : Int) ∧ Made wr w.heap.size k ∧ w.heap.size < wr.heap.size ∧ Below w.heap.size w wr) (fun _ i _ => 255 - (intOf i).toNat)
  case atStart =>
    refine ⟨0, by omega, rfl, rfl, ⟨fun j hj => ?_, fun j => blk_frozen (heap_alloc_new w _) j⟩, by simp, (Below.refl _ _).alloc (Nat.le_refl _) _⟩
    rw [World.cell?_alloc_new]
    exact tc_zero j hj
  case round =>
    obtain ⟨k, hk, rfl, rfl, hm, hsz, hb⟩ := hrel
    by_cases hlt : k < 255
    · have h1 := hm.1 k (by omega)
      have h2 := hm.1 (k + 255) (by omega)
      have h3 := hm.1 (510 + (E k).toNat) (by have := (E k).toNat_lt; omega)
      have q1 := hm.2 k
      have q2 := hm.2 (k + 255)
      have q3 := hm.2 (510 + (E k).toNat)
      have hx := (E k).toNat_lt
      have hfin := Lib.hid (made_step hm hlt)
      go_wp2
      go_region
      go_wp2
      · have ht : (((E k).toNat : Int) * 2 / 256 != 0) = true := by assumption
        refine ⟨⟨k + 1, by omega, by go_num, ?_, hfin.out, by simpa using hsz, ?_⟩, by simp [intOf]; omega⟩
        · have e := i64_xor_nat ((E k).toNat * 2) 285 (by omega) (by omega)
          have ht' : (E k).toNat * 2 / 256 ≠ 0 := by
            intro h
            rw [bne_iff_ne] at ht
            omega
          have e2 : ((E (k + 1)).toNat : Int) = (((E k).toNat * 2 ^^^ 285 : Nat) : Int) := by rw [← step_high ht']; rfl
          rw [e2, ← e]; congr 2
        · exact Below.drew (((hb.setCell (by simp) _).setCell (by simp) _).setCell (by simp) _)
      · have ht : (((E k).toNat : Int) * 2 / 256 != 0) = false := by assumption
        refine ⟨⟨k + 1, by omega, by go_num, ?_, hfin.out, by simpa using hsz, ?_⟩, by simp [intOf]; omega⟩
        · have ht' : (E k).toNat * 2 / 256 = 0 := by
            rw [bne_eq_false_iff_eq] at ht
            omega
          have e2 : ((E (k + 1)).toNat : Int) = (((E k).toNat * 2 : Nat) : Int) := by rw [← step_low ht']; rfl
          rw [e2]; congr 1
        · exact Below.drew (((hb.setCell (by simp) _).setCell (by simp) _).setCell (by simp) _)
    · have hk' : k = 255 := by omega
      have hfin := Lib.hid (made_tab (hk' ▸ hm))
      clear hm
      go_wp2
      go_ret
      exact ⟨rfl, hfin.out, hsz, hb⟩
end Go.Proofs.Ytoijjlpkoniipaa
end
section
/- Words for memory that reads as bytes, rows of bytes, numbers; and the arguments of a law, opened to these words. -/
namespace Go.Proofs.Ytoijjlpkoniipaa
open Go.RowKit Go.Proofs.YtoijjlpkoniipaaW.PrintWords Gf Go.ChangeShapes Go.WideShapes

/-- Bytes as numbers. -/
def bs (l : List UInt8) : List Int := l.map fun x => (x.toNat : Int)
def bss (m : List (List UInt8)) : List (List Int) := m.map bs
@[simp] theorem bs_length (l : List UInt8) : (bs l).length = l.length := by simp [bs]
@[simp] theorem bss_length (m : List (List UInt8)) : (bss m).length = m.length := by simp [bss]
theorem bs_inj {a b : List UInt8} (h : bs a = bs b) : a = b := by
  unfold bs at h
  refine List.map_inj_right (f := fun x : UInt8 => (x.toNat : Int)) (fun x y e => ?_) |>.1 h
  exact UInt8.toNat_inj.1 (Int.ofNat.inj e)
theorem bss_inj {a b : List (List UInt8)} (h : bss a = bss b) : a = b := List.map_inj_right (fun _ _ e => bs_inj e) |>.1 h

abbrev KB : Kd Int := Kd.int .u8
abbrev KBB : Kd (List Int) := Kd.slice 5 (Kd.int .u8)
abbrev KI : Kd Int := Kd.int .i64

theorem u8_of {n : Int} (h : (Lit.int .u8 n).wf = true) : ∃ x : UInt8, n = (x.toNat : Int) := by
  have hb := bounds_u8 h
  refine ⟨UInt8.ofNat n.toNat, ?_⟩
  rw [UInt8.toNat_ofNat_of_lt' (by show n.toNat < 256; omega)]
  omega
theorem u8s_of : ∀ (zs : List Int), (∀ n ∈ zs, (Lit.int .u8 n).wf = true) → ∃ xs : List UInt8, zs = bs xs
  | [], _ => ⟨[], rfl⟩
  | z :: zs, h => by
    obtain ⟨x, hx⟩ := u8_of (h z (by simp))
    obtain ⟨xs, hxs⟩ := u8s_of zs (fun n hn => h n (by simp [hn]))
    exact ⟨x :: xs, by rw [hx, hxs]; rfl⟩

theorem C_ints {w : World} {k : IntKind} {A : Option Addr} {zs : List Int} (hm : zs.length ≤ 9223372036854775807) (h : 0 < zs.length → ∃ ad, A = some ad ∧ ∀ j, j < zs.length → w.cell? (ad.add j) = some (.int k (zs.getD j 0))) :
    Kd.C (Kd.int k) w A zs.length zs := Kd.C_of_reads (d := (0 : Int)) (h1 := fun _ => rfl) ⟨rfl, hm, h⟩

section
variable {H : Type} {enc : TypeId × Value → H} {W : World} {base : Nat} {held : Bool}
theorem open_kints {t e : TypeId} {k : IntKind} {a : Option Addr} {len cap : Nat} {d : DataW H} {p : List MemPlace} (ht : Try.prog.underlying t = some (.slice e)) (he : Try.prog.underlying e = some (.int k)) (hc : Try.prog.cellsOf e = 1)
    (h : DataW.Trod enc Try.prog W base (fun _ => true) held t (.slice a len cap) d p) :
    ∃ zs : List Int, len = zs.length ∧ zs.length ≤ cap ∧ Kd.C (Kd.int k) W a zs.length zs ∧ (∀ n ∈ zs, (Lit.int k n).wf = true) := by
  obtain ⟨fuel, hf⟩ := h
  rcases open_ints ht he hc hf with ⟨hcs, _⟩ | ⟨x, l, c, zs, hcs, _, hl, hm, hz, _, hcell, hwz⟩
  · simp [Value.cells] at hcs
    obtain ⟨rfl, rfl, rfl⟩ := hcs
    exact ⟨[], rfl, Nat.le_refl _, C_ints (by simp) (fun h => by simp at h), by simp⟩
  · simp [Value.cells] at hcs
    obtain ⟨rfl, rfl, rfl⟩ := hcs
    simp only [if_true] at hz
    have hlen : (zs.take len).length = len := by rw [List.length_take]; omega
    refine ⟨zs.take len, hlen.symm, by omega, C_ints (by unfold maxLen at hm; omega) (fun _ => ⟨x, rfl, fun j hj => ?_⟩), fun n hn => hwz n (List.mem_of_mem_take hn)⟩
    rw [hcell j (by omega)]
    simp only [List.getD_eq_getElem?_getD, List.getElem?_take]
    rw [if_pos (by omega)]
theorem open_bytes {t e : TypeId} {a : Option Addr} {len cap : Nat} {d : DataW H} {p : List MemPlace} (ht : Try.prog.underlying t = some (.slice e)) (he : Try.prog.underlying e = some (.int .u8)) (hc : Try.prog.cellsOf e = 1)
    (h : DataW.Trod enc Try.prog W base (fun _ => true) held t (.slice a len cap) d p) :
    ∃ xs : List UInt8, len = xs.length ∧ xs.length ≤ cap ∧ KB.C W a xs.length (bs xs) := by
  obtain ⟨zs, rfl, h1, h2, h3⟩ := open_kints ht he hc h
  obtain ⟨xs, rfl⟩ := u8s_of zs h3
  rw [bs_length] at h1 h2 ⊢
  exact ⟨xs, rfl, h1, h2⟩

theorem rows_pick {n : Nat} {P : Nat → List UInt8 → Prop} (h : ∀ r, r < n → ∃ xs, P r xs) : ∃ xss : List (List UInt8), xss.length = n ∧ ∀ r (hr : r < xss.length), P r xss[r] := by
  induction n with
  | zero => exact ⟨[], rfl, fun r hr => by simp at hr⟩
  | succ n ih =>
    obtain ⟨xss, hl, hx⟩ := ih (fun r hr => h r (by omega))
    obtain ⟨ys, hy⟩ := h n (by omega)
    refine ⟨xss ++ [ys], by simp [hl], fun r hr => ?_⟩
    by_cases hrn : r < xss.length
    · rw [List.getElem_append_left hrn]; exact hx r hrn
    · have hrn' : r = n := by simp at hr; omega
      subst hrn'
      rw [List.getElem_append_right (by omega)]
      simpa using hy
theorem open_rows {t e q : TypeId} {a : Option Addr} {len cap : Nat} {d : DataW H} {p : List MemPlace} (ht : Try.prog.underlying t = some (.slice e)) (he : Try.prog.underlying e = some (.slice q)) (hq : Try.prog.underlying q = some (.int .u8))
    (ce : Try.prog.cellsOf e = 1) (cq : Try.prog.cellsOf q = 1) (h : DataW.Trod enc Try.prog W base (fun _ => true) held t (.slice a len cap) d p) :
    ∃ xss : List (List UInt8), len = xss.length ∧ xss.length ≤ cap ∧ (Kd.slice q (Kd.int .u8)).C W a xss.length (bss xss) := by
  obtain ⟨fuel, hf⟩ := h
  rcases Go.Deep.open_int_rows ht he hq ce cq hf with ⟨hcs, _⟩ | ⟨x, l, c, A, L, C, Z, hcs, _, hl, hm, _, hr⟩
  · simp [Value.cells] at hcs
    obtain ⟨rfl, rfl, rfl⟩ := hcs
    exact ⟨[], rfl, Nat.le_refl _, rfl, by simp, fun h => by simp at h⟩
  · simp [Value.cells] at hcs
    obtain ⟨rfl, rfl, rfl⟩ := hcs
    have each : ∀ r, r < len → ∃ xs : List UInt8, xs.length = L r ∧ KB.C W (A r) xs.length (bs xs) := fun r hrl => by
      obtain ⟨_, h2, h3, h4, h5, h6, h7⟩ := hr r (by omega)
      obtain ⟨xs, hxs⟩ := u8s_of ((Z r).take (L r)) (fun n hn => h5 n (List.mem_of_mem_take hn))
      have hlen : ((Z r).take (L r)).length = L r := by rw [List.length_take]; omega
      have hx : xs.length = L r := by rw [← bs_length, ← hxs, hlen]
      refine ⟨xs, hx, ?_⟩
      have := C_ints (w := W) (k := .u8) (A := A r) (zs := bs xs) (by unfold maxLen at h3; rw [bs_length]; omega) (fun hp => by
        cases hA : A r with
        | none => have := h6 hA; rw [bs_length] at hp; omega
        | some a' =>
          refine ⟨a', rfl, fun j hj => ?_⟩
          rw [bs_length] at hj
          rw [(h7 a' hA).2 j (by omega), ← hxs]
          simp only [List.getD_eq_getElem?_getD, List.getElem?_take]
          rw [if_pos (by omega)])
      rwa [bs_length] at this
    obtain ⟨xss, hlen, hx⟩ := rows_pick each
    refine ⟨xss, hlen.symm, by omega, by simp, by unfold maxLen at hm; omega, fun _ => ⟨x, rfl, fun j q' hj => ?_⟩⟩
    have hjl : j < xss.length := by
      have := (List.getElem?_eq_some_iff.1 hj).1
      simpa using this
    have hq' : q' = bs xss[j] := by
      unfold bss at hj
      rw [List.getElem?_map, List.getElem?_eq_getElem hjl] at hj
      simpa using hj.symm
    obtain ⟨h8, h9⟩ := hx j hjl
    obtain ⟨h1, h2, _⟩ := hr j (by omega)
    subst hq'
    refine ⟨[.slice (A j) (L j) (C j)], rfl, ⟨A j, C j, by rw [bs_length, h8], by rw [bs_length, h8]; exact h2, by rw [bs_length]; exact h9⟩, fun i u hu => ?_⟩
    have hi : i = 0 := by
      have := (List.getElem?_eq_some_iff.1 hu).1
      simpa using this
    subst hi
    simp at hu
    subst hu
    show W.cell? (x.add (j * 1 + 0)) = _
    rw [Nat.mul_one, Nat.add_zero]; exact h1
end

/-- A sum of two bytes, closed to the walk's simp. -/
def ga (a b : UInt8) : UInt8 := a ^^^ b
theorem gm_ga (a b c : UInt8) : gm a (ga b c) = ga (gm a b) (gm a c) := gm_xor a b c
theorem u8_xor_all (a b : UInt8) : bits .xor .u8 (a.toNat : Int) (b.toNat : Int) = ((ga a b).toNat : Int) := by
  have e : ∀ x : UInt8, (BitVec.ofInt 8 (x.toNat : Int)).toNat = x.toNat := fun x => by
    rw [BitVec.ofInt_natCast, BitVec.toNat_ofNat]; exact Nat.mod_eq_of_lt x.toNat_lt
  show IntKind.u8.wrap ((BitVec.ofInt 8 (a.toNat : Int) ^^^ BitVec.ofInt 8 (b.toNat : Int)).toNat : Int) = _
  unfold ga
  rw [BitVec.toNat_xor, e, e, UInt8.toNat_xor]
  have := (a ^^^ b).toNat_lt
  rw [UInt8.toNat_xor] at this
  show (((a.toNat ^^^ b.toNat : Nat) : Int)) % 256 = _
  omega
theorem b_eq {a b : UInt8} (h : a = b) : ((a.toNat : Int) == (b.toNat : Int)) = true := by subst h; simp
theorem b_ne {a b : UInt8} (h : a ≠ b) : ((a.toNat : Int) == (b.toNat : Int)) = false := by
  rw [beq_eq_false_iff_ne]
  exact fun e => h (UInt8.toNat_inj.1 (Int.ofNat.inj e))

theorem below_drawn {w w' : World} (h : Drawn0 w w') : Below w.heap.size w w' := h.below
end Go.Proofs.Ytoijjlpkoniipaa
end
section
/- Walks of the laws over the field's scalars: wakes, GfField, GfMul, GfExp. -/
namespace Go.Proofs.Ytoijjlpkoniipaa
open Go.RowKit Go.Proofs.YtoijjlpkoniipaaW.PrintWords Gf

set_option maxHeartbeats 1000000 in
theorem wakes07 (w : World) : Calls Try.prog 22 #[] w fun e w' => e = .returned (.bool true) ∧ Below w.heap.size w w' := by
  have h1 : (((gm 128 2).toNat : Int) == 29) = true := by decide +kernel
  have h2 : (((E 8).toNat : Int) == 29) = true := by decide +kernel
  go_enter Try.func22, Try.ntmps22
  go_wp2_with fail
  refine (make_calls _).mono ?_
  rintro e w1 ⟨rfl, ht, hs, hb⟩
  go_wp2_with fail
  refine (mul_calls _ 128 2 _ ht).mono ?_
  rintro e w2 ⟨rfl, ⟨n, rfl⟩⟩
  go_wp2_with fail
  refine (exp_calls _ 8 _ (ht.drewN n) (by omega) (by omega)).mono ?_
  rintro e w2 ⟨rfl, ⟨m, rfl⟩⟩
  go_wp2_with fail
  go_ret
  exact ⟨rfl, pw_below_drewN hb _⟩

set_option maxHeartbeats 4000000 in
theorem GfField_walk (a b c : UInt8) (w : World) : Calls Try.prog 3 #[.int .u8 (a.toNat : Int), .int .u8 (b.toNat : Int), .int .u8 (c.toNat : Int)] w fun e w' => e = .returned (.bool true) ∧ Below w.heap.size w w' := by
  have h1 := b_eq (gm_comm a b)
  have h2 := b_eq (gm_assoc a b c)
  have x1 := u8_xor_all b c
  have x2 := u8_xor_all (gm a b) (gm a c)
  have h3 := b_eq (gm_ga a b c)
  have h5 := b_eq (gm_one a)
  have ways : a = 0 ∨ (a ≠ 0 ∧ b = 0) ∨ (a ≠ 0 ∧ b ≠ 0) := by
    by_cases ha : a = 0
    · exact .inl ha
    · by_cases hb : b = 0
      · exact .inr (.inl ⟨ha, hb⟩)
      · exact .inr (.inr ⟨ha, hb⟩)
  rcases ways with ha | ⟨ha, hb⟩ | ⟨ha, hb⟩
  case' inl => have h4 := b_zero (gm_eq_zero.2 (.inl ha) : gm a b = 0); have h6 := b_zero ha
  case' inr.inl => have h4 := b_zero (gm_eq_zero.2 (.inr hb) : gm a b = 0); have h6 := b_ne_zero ha; have h7 := b_zero hb; clear hb
  case' inr.inr => have h4 := b_ne_zero (gm_ne_zero ha hb); have h6 := b_ne_zero ha; have h7 := b_ne_zero hb; clear hb
  all_goals
    clear ha
    go_enter Try.func3, Try.ntmps3
    go_wp2_with fail
    refine (wakes07 _).mono ?_
    rintro e w0 ⟨rfl, hb0⟩
    go_wp2_with fail
    refine (make_calls _).mono ?_
    rintro e w1 ⟨rfl, ht, hs, hb1⟩
    go_wp2_with fail
    refine (mul_calls _ a b _ ht).mono ?_
    rintro e w2 ⟨rfl, ⟨n1, rfl⟩⟩
    go_wp2_with fail
    refine (mul_calls _ b a _ (ht.drewN _)).mono ?_
    rintro e w2 ⟨rfl, ⟨n1, rfl⟩⟩
    go_wp2_with fail
    refine (mul_calls _ b c _ (ht.drewN _)).mono ?_
    rintro e w2 ⟨rfl, ⟨n1, rfl⟩⟩
    go_wp2_with fail
    refine (mul_calls _ a (gm b c) _ (ht.drewN _)).mono ?_
    rintro e w2 ⟨rfl, ⟨n1, rfl⟩⟩
    go_wp2_with fail
    refine (mul_calls _ a b _ (ht.drewN _)).mono ?_
    rintro e w2 ⟨rfl, ⟨n1, rfl⟩⟩
    go_wp2_with fail
    refine (mul_calls _ (gm a b) c _ (ht.drewN _)).mono ?_
    rintro e w2 ⟨rfl, ⟨n1, rfl⟩⟩
    go_wp2_with fail
    refine (mul_calls _ a (ga b c) _ (ht.drewN _)).mono ?_
    rintro e w2 ⟨rfl, ⟨n1, rfl⟩⟩
    go_wp2_with fail
    refine (mul_calls _ a b _ (ht.drewN _)).mono ?_
    rintro e w2 ⟨rfl, ⟨n1, rfl⟩⟩
    go_wp2_with fail
    refine (mul_calls _ a c _ (ht.drewN _)).mono ?_
    rintro e w2 ⟨rfl, ⟨n1, rfl⟩⟩
    go_wp2_with fail
    refine (mul_calls _ a b _ (ht.drewN _)).mono ?_
    rintro e w2 ⟨rfl, ⟨n1, rfl⟩⟩
    go_wp2_with fail
    refine (mul_calls _ a 1 _ (ht.drewN _)).mono ?_
    rintro e w2 ⟨rfl, ⟨n1, rfl⟩⟩
    go_wp2_with fail
    go_ret
    exact ⟨rfl, pw_below_drewN (below_then hb0 hb0.size hb1) _⟩

end Go.Proofs.Ytoijjlpkoniipaa
end
