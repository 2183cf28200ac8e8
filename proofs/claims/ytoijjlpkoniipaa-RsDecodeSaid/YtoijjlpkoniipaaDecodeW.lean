/- Joined out of texts of this claim: DocWrong, Dec, DecodeW. Each says what it proves, and its conditions. -/
import Derived.Test.YtoijjlpkoniipaaPRsEncodex
import Derived.Test.YtoijjlpkoniipaaSol
import Derived.Test.YtoijjlpkoniipaaRsPlain
import Derived.Test.YtoijjlpkoniipaaRsPiece
import Derived.Test.YtoijjlpkoniipaaAnyPlain
import Derived.Test.YtoijjlpkoniipaaRsCode
import Derived.Test.YtoijjlpkoniipaaRsBox
import Derived.Test.YtoijjlpkoniipaaRsWakes
set_option linter.unusedVariables false
set_option linter.unusedSimpArgs false
section
/- What functions of the document compute, and their contracts: cut out of the texts that the kit's print wrote for this claim (PRsDecode). -/
namespace Go.Proofs.Ytoijjlpkoniipaa.PRsEncode
open Go.RowKit Go.Proofs.YtoijjlpkoniipaaW.PrintWords Go.Proofs.YtoijjlpkoniipaaW.PrintLast Go.Proofs.YtoijjlpkoniipaaW.PrintMore
attribute [local go_sem] max2_int min2_int max_two min_two max_three min_three max_four min_four   -- for this text's walks alone
set_option linter.unusedVariables false
set_option linter.unusedSimpArgs false

/-! ### scriniumref09_Wrong: function 74 -/
mutual
def scriniumref09_Wrong.j0 : Nat → Int → Int → List Int → Bool → Option (Int)
 | 0, _, _, _, _ => none
 | k + 1, x0, x1, x2, x20 => if x20 = true then (some 14) else (scriniumref09_Wrong.l0 k x0 x1 x2 0)
def scriniumref09_Wrong.l0 : Nat → Int → Int → List Int → Int → Option (Int)
 | 0, _, _, _, _ => none
 | k + 1, x0, x1, x2, x9 => if x9 < (x2.length : Int) then (if 0 ≤ x9 then (if (rd x2 x9) < 0 then (scriniumref09_Wrong.j2 k x0 x1 x2 x9 true) else (scriniumref09_Wrong.j2 k x0 x1 x2 x9 (decide ((rd x2 x9) ≥ x1)))) else (none)) else (if (x2.length : Int) < x0 then (some 10) else (some 0))
def scriniumref09_Wrong.j2 : Nat → Int → Int → List Int → Int → Bool → Option (Int)
 | 0, _, _, _, _, _ => none
 | k + 1, x0, x1, x2, x9, x39 => if x39 = true then (some 3) else (scriniumref09_Wrong.l1 k x0 x1 x2 x9 0)
def scriniumref09_Wrong.l1 : Nat → Int → Int → List Int → Int → Int → Option (Int)
 | 0, _, _, _, _, _ => none
 | k + 1, x0, x1, x2, x9, x10 => if x10 < x9 then (if 0 ≤ x10 then (if x10 < (x2.length : Int) then (if 0 ≤ x9 then (if x9 < (x2.length : Int) then (if (rd x2 x10) = (rd x2 x9) then (some 3) else (scriniumref09_Wrong.l1 k x0 x1 x2 x9 (wrap64 (x10 + 1)))) else (none)) else (none)) else (none)) else (none)) else (scriniumref09_Wrong.l0 k x0 x1 x2 (wrap64 (x9 + 1)))
end
def scriniumref09_Wrong.f (k : Nat) (a0 : Int) (a1 : Int) (l2 : List Int) (l3 : List (List Int)) : Option (Int) := if (l2.length : Int) = (l3.length : Int) then ((scriniumref09_alike.f k l3).bind fun t129 => (scriniumref09_Wrong.j0 k a0 a1 l2 (!t129))) else (scriniumref09_Wrong.j0 k a0 a1 l2 true)
theorem scriniumref09_Wrong.mono_l : ∀ k, (∀ y0 y1 y2 y3, LeO (scriniumref09_Wrong.j0 k y0 y1 y2 y3) (scriniumref09_Wrong.j0 (k + 1) y0 y1 y2 y3)) ∧ (∀ y0 y1 y2 y3, LeO (scriniumref09_Wrong.l0 k y0 y1 y2 y3) (scriniumref09_Wrong.l0 (k + 1) y0 y1 y2 y3)) ∧ (∀ y0 y1 y2 y3 y4, LeO (scriniumref09_Wrong.j2 k y0 y1 y2 y3 y4) (scriniumref09_Wrong.j2 (k + 1) y0 y1 y2 y3 y4)) ∧ (∀ y0 y1 y2 y3 y4, LeO (scriniumref09_Wrong.l1 k y0 y1 y2 y3 y4) (scriniumref09_Wrong.l1 (k + 1) y0 y1 y2 y3 y4))
 | 0 => ⟨fun _ _ _ _ r h => by simp [scriniumref09_Wrong.j0] at h, fun _ _ _ _ r h => by simp [scriniumref09_Wrong.l0] at h, fun _ _ _ _ _ r h => by simp [scriniumref09_Wrong.j2] at h, fun _ _ _ _ _ r h => by simp [scriniumref09_Wrong.l1] at h⟩
 | k + 1 => by
  obtain ⟨ih0, ih1, ih2, ih3⟩ := scriniumref09_Wrong.mono_l k
  refine ⟨?_, ?_, ?_, ?_⟩
  ·intro y0 y1 y2 y3
   unfold scriniumref09_Wrong.j0
   repeat' first
   | (with_reducible exact ih0 _ _ _ _)
   | (with_reducible exact ih1 _ _ _ _)
   | (with_reducible exact ih2 _ _ _ _ _)
   | (with_reducible exact ih3 _ _ _ _ _)
   | (with_reducible exact scriniumref09_alike.mono _ _)
   | (with_reducible exact LeO.refl _)
   | (with_reducible exact LeO.none _)
   | (with_reducible refine LeO.ite ?_ ?_)
   | (with_reducible refine LeO.bind ?_ (fun _ => ?_))
   | exact ih0 _ _ _ _
   | exact ih1 _ _ _ _
   | exact ih2 _ _ _ _ _
   | exact ih3 _ _ _ _ _
   | exact scriniumref09_alike.mono _ _
   | exact LeO.none _
   | refine LeO.ite ?_ ?_
   | refine LeO.bind ?_ (fun _ => ?_)
  ·intro y0 y1 y2 y3
   unfold scriniumref09_Wrong.l0
   repeat' first
   | (with_reducible exact ih0 _ _ _ _)
   | (with_reducible exact ih1 _ _ _ _)
   | (with_reducible exact ih2 _ _ _ _ _)
   | (with_reducible exact ih3 _ _ _ _ _)
   | (with_reducible exact scriniumref09_alike.mono _ _)
   | (with_reducible exact LeO.refl _)
   | (with_reducible exact LeO.none _)
   | (with_reducible refine LeO.ite ?_ ?_)
   | (with_reducible refine LeO.bind ?_ (fun _ => ?_))
   | exact ih0 _ _ _ _
   | exact ih1 _ _ _ _
   | exact ih2 _ _ _ _ _
   | exact ih3 _ _ _ _ _
   | exact scriniumref09_alike.mono _ _
   | exact LeO.none _
   | refine LeO.ite ?_ ?_
   | refine LeO.bind ?_ (fun _ => ?_)
  ·intro y0 y1 y2 y3 y4
   unfold scriniumref09_Wrong.j2
   repeat' first
   | (with_reducible exact ih0 _ _ _ _)
   | (with_reducible exact ih1 _ _ _ _)
   | (with_reducible exact ih2 _ _ _ _ _)
   | (with_reducible exact ih3 _ _ _ _ _)
   | (with_reducible exact scriniumref09_alike.mono _ _)
   | (with_reducible exact LeO.refl _)
   | (with_reducible exact LeO.none _)
   | (with_reducible refine LeO.ite ?_ ?_)
   | (with_reducible refine LeO.bind ?_ (fun _ => ?_))
   | exact ih0 _ _ _ _
   | exact ih1 _ _ _ _
   | exact ih2 _ _ _ _ _
   | exact ih3 _ _ _ _ _
   | exact scriniumref09_alike.mono _ _
   | exact LeO.none _
   | refine LeO.ite ?_ ?_
   | refine LeO.bind ?_ (fun _ => ?_)
  ·intro y0 y1 y2 y3 y4
   unfold scriniumref09_Wrong.l1
   repeat' first
   | (with_reducible exact ih0 _ _ _ _)
   | (with_reducible exact ih1 _ _ _ _)
   | (with_reducible exact ih2 _ _ _ _ _)
   | (with_reducible exact ih3 _ _ _ _ _)
   | (with_reducible exact scriniumref09_alike.mono _ _)
   | (with_reducible exact LeO.refl _)
   | (with_reducible exact LeO.none _)
   | (with_reducible refine LeO.ite ?_ ?_)
   | (with_reducible refine LeO.bind ?_ (fun _ => ?_))
   | exact ih0 _ _ _ _
   | exact ih1 _ _ _ _
   | exact ih2 _ _ _ _ _
   | exact ih3 _ _ _ _ _
   | exact scriniumref09_alike.mono _ _
   | exact LeO.none _
   | refine LeO.ite ?_ ?_
   | refine LeO.bind ?_ (fun _ => ?_)
theorem scriniumref09_Wrong.mono : ∀ a0 a1 a2 a3 k, LeO (scriniumref09_Wrong.f k a0 a1 a2 a3) (scriniumref09_Wrong.f (k + 1) a0 a1 a2 a3) := by
 intro a0 a1 a2 a3 k
 obtain ⟨ih0, ih1, ih2, ih3⟩ := scriniumref09_Wrong.mono_l k
 unfold scriniumref09_Wrong.f
 repeat' first
   | (with_reducible exact ih0 _ _ _ _)
   | (with_reducible exact ih1 _ _ _ _)
   | (with_reducible exact ih2 _ _ _ _ _)
   | (with_reducible exact ih3 _ _ _ _ _)
   | (with_reducible exact scriniumref09_alike.mono _ _)
   | (with_reducible exact LeO.refl _)
   | (with_reducible exact LeO.none _)
   | (with_reducible refine LeO.ite ?_ ?_)
   | (with_reducible refine LeO.bind ?_ (fun _ => ?_))
   | exact ih0 _ _ _ _
   | exact ih1 _ _ _ _
   | exact ih2 _ _ _ _ _
   | exact ih3 _ _ _ _ _
   | exact scriniumref09_alike.mono _ _
   | exact LeO.none _
   | refine LeO.ite ?_ ?_
   | refine LeO.bind ?_ (fun _ => ?_)
set_option maxHeartbeats 8000000 in
set_option maxRecDepth 100000 in
theorem scriniumref09_Wrong.calls (k : Nat) (a0 : Int) (a1 : Int) (A2 : Option Addr) (c2 : Nat) (l2 : List Int) (A3 : Option Addr) (c3 : Nat) (l3 : List (List Int)) (r : Int) (w : World) (hr2 : Kd.C (Kd.int .i64) w A2 l2.length l2) (hc2 : l2.length ≤ c2) (hr3 : Kd.C (Kd.slice 5 (Kd.int .u8)) w A3 l3.length l3) (hc3 : l3.length ≤ c3) (h : scriniumref09_Wrong.f k a0 a1 l2 l3 = some r) :
  Calls Try.prog 74 #[.int .i64 a0, .int .i64 a1, .slice A2 l2.length c2, .slice A3 l3.length c3] w fun e w' => e = .returned (.int .i64 r) ∧ Drawn0 w w' := by
 have HR2 := Aside0.mk hr2
 have HC2 := Aside0.mk hc2
 clear hr2 hc2
 have HR3 := Aside0.mk hr3
 have HC3 := Aside0.mk hc3
 clear hr3 hc3
 have H : (if (l2.length : Int) = (l3.length : Int) then ((scriniumref09_alike.f k l3).bind fun t129 => (scriniumref09_Wrong.j0 k a0 a1 l2 (!t129))) else (scriniumref09_Wrong.j0 k a0 a1 l2 true)) = some r := h
 clear h
 have HC5 := Aside0.mk H
 clear H
 go_enter Try.func74, Try.ntmps74
 go_upto_region 1 with (fail)
 repeat (go_quiet (fail); go_upto_region 1 with (fail))
 go_cut [20] (fun v20 wc => ∃ (kq : Nat) (x20_4 : Bool), v20 = .bool x20_4 ∧ Aside0 (scriniumref09_Wrong.j0 kq a0 a1 l2 x20_4 = some r) ∧ Aside0 (kq ≤ k) ∧ Drawn0 w wc)
 case first =>
  have H := HC5.out
  clear HC5
  by_cases c6 : (l2.length : Int) = (l3.length : Int)
  ·rw [if_pos c6] at H
   have c6b0 : ((l2.length : Int) == (l3.length : Int)) = true := beq_iff_eq.mpr c6
   have c6b1 : ((l2.length : Int) != (l3.length : Int)) = false := bne_eq_false_iff_eq.mpr c6
   have c6b2 : (l2.length == l3.length) = true := by first | simpa using c6 | (simp at c6 ⊢; omega)
   clear c6
   (first | rw [c6b0] | (simp only [i64_w, i32_w]; rw [c6b0]) | skip)
   replace H := Option.bind_eq_some_iff.mp H
   obtain ⟨t129, A70, H⟩ := H
   replace H : (scriniumref09_Wrong.j0 k a0 a1 l2 (!t129)) = some r := H
   have A7 := Aside0.mk A70
   clear A70
   have H' := Aside0.mk H
   clear H
   go_wp2_with (first | (go_at_call 66; (with_reducible refine (scriniumref09_alike.calls k _ _ l3 t129 _ ?side1 ?side2 A7.out).mono ?_); (case side1 => repeat (first | exact HR3.out | (with_reducible refine Kd.C_alloc ?_ _) | (with_reducible refine Kd.C_drewN ?_ _) | (with_reducible refine Kd.C_drew ?_))); (case side2 => exact HC3.out); rintro e w' ⟨rfl, ⟨nd, rfl⟩⟩; (try first | exact ⟨rfl, _, World.drewN_drewN _ _ _⟩ | exact ⟨rfl, _, Eq.trans (World.drewN_drewN _ _ _) (congrArg (World.drewN _) (Nat.add_assoc _ _ _))⟩)))
   repeat (go_quiet (first | (go_at_call 66; (with_reducible refine (scriniumref09_alike.calls k _ _ l3 t129 _ ?side1 ?side2 A7.out).mono ?_); (case side1 => repeat (first | exact HR3.out | (with_reducible refine Kd.C_alloc ?_ _) | (with_reducible refine Kd.C_drewN ?_ _) | (with_reducible refine Kd.C_drew ?_))); (case side2 => exact HC3.out); rintro e w' ⟨rfl, ⟨nd, rfl⟩⟩; (try first | exact ⟨rfl, _, World.drewN_drewN _ _ _⟩ | exact ⟨rfl, _, Eq.trans (World.drewN_drewN _ _ _) (congrArg (World.drewN _) (Nat.add_assoc _ _ _))⟩))); try go_wp2_with (first | (go_at_call 66; (with_reducible refine (scriniumref09_alike.calls k _ _ l3 t129 _ ?side1 ?side2 A7.out).mono ?_); (case side1 => repeat (first | exact HR3.out | (with_reducible refine Kd.C_alloc ?_ _) | (with_reducible refine Kd.C_drewN ?_ _) | (with_reducible refine Kd.C_drew ?_))); (case side2 => exact HC3.out); rintro e w' ⟨rfl, ⟨nd, rfl⟩⟩; (try first | exact ⟨rfl, _, World.drewN_drewN _ _ _⟩ | exact ⟨rfl, _, Eq.trans (World.drewN_drewN _ _ _) (congrArg (World.drewN _) (Nat.add_assoc _ _ _))⟩))))
   go_meet
   case rel => exact ⟨_, (!t129), (by first | rfl | (simp; done) | (simp [*]; done)), H', ⟨by first | omega | exact Nat.le_refl _⟩, by repeat (first | exact Drawn0.refl _ | apply Drawn0.step)⟩
  ·rw [if_neg c6] at H
   have c6b0 : ((l2.length : Int) == (l3.length : Int)) = false := beq_eq_false_iff_ne.mpr c6
   have c6b1 : ((l2.length : Int) != (l3.length : Int)) = true := bne_iff_ne.mpr c6
   have c6b2 : (l2.length == l3.length) = false := by first | simpa using c6 | (simp at c6 ⊢; omega)
   (first | rw [c6b0] | (simp only [i64_w, i32_w]; rw [c6b0]) | skip)
   have H' := Aside0.mk H
   clear H
   go_wp2
   repeat (go_quiet (fail); try go_wp2)
   go_meet
   case rel => exact ⟨_, (true), (by first | rfl | (simp; done) | (simp [*]; done)), H', ⟨by first | omega | exact Nat.le_refl _⟩, by repeat (first | exact Drawn0.refl _ | apply Drawn0.step)⟩
 case rest =>
  clear HC5
  try clear c2
  try clear p2
  try clear c3
  try clear c6
  try clear c6b0
  try clear c6b1
  try clear c6b2
  try clear c7
  obtain ⟨kq, x20_4, rfl, HA, HJ4, ⟨mc4, rfl⟩⟩ := hcut
  cases kq with
  | zero => exact absurd HA.out (by simp [scriniumref09_Wrong.j0])
  | succ kj4 =>
   have H := HA.out
   clear HA
   simp only [scriniumref09_Wrong.j0] at H
   by_cases c8 : x20_4 = true
   ·subst c8
    have H1 : (some 14) = some r := by rw [if_pos rfl] at H; exact H
    clear H
    have H := H1
    clear H1
    obtain rfl := Option.some.inj H
    go_wp2
    repeat (go_quiet (fail); try go_wp2)
    go_ret
    exact ⟨by first | rfl | (simp; done) | (simp [*]; done), by repeat (first | exact Drawn0.refl _ | apply Drawn0.step)⟩
   ·replace c8 := Bool.eq_false_iff.mpr c8
    subst c8
    have H1 : (scriniumref09_Wrong.l0 kj4 a0 a1 l2 0) = some r := by rw [if_neg (show ¬ (false = true) by decide)] at H; exact H
    clear H
    have H := H1
    clear H1
    have H' := Aside0.mk H
    clear H
    go_wp2
    repeat (go_quiet (fail); try go_wp2)
    go_loopg [9] kj4 (fun kq v9 w' => ∃ (x9_2 : Int), v9 = .int .i64 x9_2 ∧ Aside0 (scriniumref09_Wrong.l0 kq a0 a1 l2 x9_2 = some r) ∧ Aside0 (kq ≤ kj4) ∧ Drawn0 w w')
    case atStart => exact ⟨(0), (by first | rfl | (simp; done) | (simp [*]; done)), H', ⟨Nat.le_refl _⟩, by repeat (first | exact Drawn0.refl _ | apply Drawn0.step)⟩
    case round =>
     clear H'
     try clear c2
     try clear p2
     try clear c3
     try clear c4
     try clear c6
     try clear c6b0
     try clear c6b1
     try clear c6b2
     try clear c7
     try clear c8
     try clear p2
     obtain ⟨x9_2, rfl, HA, HK2, ⟨m2, rfl⟩⟩ := hrel
     cases gk with
     | zero => exact absurd HA.out (by simp [scriniumref09_Wrong.l0])
     | succ k2 =>
      have H := HA.out
      clear HA
      simp only [scriniumref09_Wrong.l0] at H
      by_cases c9 : x9_2 < (l2.length : Int)
      ·rw [if_pos c9] at H
       have c9b0 : decide (x9_2 < (l2.length : Int)) = true := decide_eq_true c9
       clear c9
       have HC10 := Aside0.mk H
       clear H
       go_upto_region 6 with (fail)
       repeat (go_quiet (fail); go_upto_region 6 with (fail))
       go_cut [39] (fun v39 wc => ∃ (kq : Nat) (x39_9 : Bool), v39 = .bool x39_9 ∧ Aside0 (scriniumref09_Wrong.j2 kq a0 a1 l2 x9_2 x39_9 = some r) ∧ Aside0 (kq ≤ k2) ∧ Drawn0 w wc)
       case first =>
        have H := HC10.out
        clear HC10
        by_cases c11 : 0 ≤ x9_2
        ·rw [if_pos c11] at H
         have c11b0 : decide (0 ≤ x9_2) = true := decide_eq_true c11
         clear c11
         (first | rw [c11b0] | (simp only [i64_w, i32_w]; rw [c11b0]) | skip)
         by_cases c12 : (rd l2 x9_2) < 0
         ·rw [if_pos c12] at H
          have c12b0 : decide ((rd l2 x9_2) < 0) = true := decide_eq_true c12
          clear c12
          have H' := Aside0.mk H
          clear H
          have p130 : 0 ≤ (x9_2 : Int) := of_decide_eq_true (by first | (with_reducible assumption) | assumption)
          have q130 : x9_2 < (l2.length : Int) := of_decide_eq_true (by first | (with_reducible assumption) | assumption)
          obtain ⟨ad130, e130, hx130_0⟩ := Kd.at_int HR2.out x9_2 p130 q130
          cases e130
          replace p130 := eq_true p130
          replace q130 := eq_true q130
          go_wp2
          repeat (go_quiet (fail); try go_wp2)
          go_meet
          case rel => exact ⟨_, (true), (by first | rfl | (simp; done) | (simp [*]; done)), H', ⟨by have := HJ4.out; have := HK2.out; first | omega | exact Nat.le_refl _⟩, by repeat (first | exact Drawn0.refl _ | apply Drawn0.step)⟩
         ·rw [if_neg c12] at H
          have c12b0 : decide ((rd l2 x9_2) < 0) = false := decide_eq_false c12
          clear c12
          have H' := Aside0.mk H
          clear H
          have p130 : 0 ≤ (x9_2 : Int) := of_decide_eq_true (by first | (with_reducible assumption) | assumption)
          have q130 : x9_2 < (l2.length : Int) := of_decide_eq_true (by first | (with_reducible assumption) | assumption)
          obtain ⟨ad130, e130, hx130_0⟩ := Kd.at_int HR2.out x9_2 p130 q130
          cases e130
          replace p130 := eq_true p130
          replace q130 := eq_true q130
          have p131 : 0 ≤ (x9_2 : Int) := of_decide_eq_true (by first | (with_reducible assumption) | assumption)
          have q131 : x9_2 < (l2.length : Int) := of_decide_eq_true (by first | (with_reducible assumption) | assumption)
          obtain ⟨ad131, e131, hx131_0⟩ := Kd.at_int HR2.out x9_2 p131 q131
          obtain rfl : ad130 = ad131 := (by injection e131)
          replace p131 := eq_true p131
          replace q131 := eq_true q131
          go_wp2
          repeat (go_quiet (fail); try go_wp2)
          go_meet
          case rel => exact ⟨_, (decide ((rd l2 x9_2) ≥ a1)), (by first | rfl | (simp; done) | (simp [*]; done)), H', ⟨by have := HJ4.out; have := HK2.out; first | omega | exact Nat.le_refl _⟩, by repeat (first | exact Drawn0.refl _ | apply Drawn0.step)⟩
        ·rw [if_neg c11] at H
         exact absurd H (by simp)
       case rest =>
        clear HC10
        try clear c1
        try clear p1
        try clear q1
        try clear hx1
        try clear c2
        try clear p2
        try clear c3
        try clear c4
        try clear c6
        try clear c6b0
        try clear c6b1
        try clear c6b2
        try clear c7
        try clear c8
        try clear c9
        try clear c9b0
        try clear c11
        try clear c11b0
        try clear c12
        try clear c12b0
        try clear hx130_0
        try clear hx131_0
        try clear p130
        try clear p131
        try clear p2
        try clear q130
        try clear q131
        obtain ⟨kq, x39_9, rfl, HA, HJ9, ⟨mc9, rfl⟩⟩ := hcut
        cases kq with
        | zero => exact absurd HA.out (by simp [scriniumref09_Wrong.j2])
        | succ kj9 =>
         have H := HA.out
         clear HA
         simp only [scriniumref09_Wrong.j2] at H
         by_cases c13 : x39_9 = true
         ·subst c13
          have H1 : (some 3) = some r := by rw [if_pos rfl] at H; exact H
          clear H
          have H := H1
          clear H1
          obtain rfl := Option.some.inj H
          go_wp2
          repeat (go_quiet (fail); try go_wp2)
          go_ret
          exact ⟨by first | rfl | (simp; done) | (simp [*]; done), by repeat (first | exact Drawn0.refl _ | apply Drawn0.step)⟩
         ·replace c13 := Bool.eq_false_iff.mpr c13
          subst c13
          have H1 : (scriniumref09_Wrong.l1 kj9 a0 a1 l2 x9_2 0) = some r := by rw [if_neg (show ¬ (false = true) by decide)] at H; exact H
          clear H
          have H := H1
          clear H1
          have H' := Aside0.mk H
          clear H
          go_wp2
          repeat (go_quiet (fail); try go_wp2)
          go_loopg [10] kj9 (fun kq v10 w' => ∃ (x10_4 : Int), v10 = .int .i64 x10_4 ∧ Aside0 (scriniumref09_Wrong.l1 kq a0 a1 l2 x9_2 x10_4 = some r) ∧ Aside0 (kq ≤ kj9) ∧ Drawn0 w w')
          case atStart => exact ⟨(0), (by first | rfl | (simp; done) | (simp [*]; done)), H', ⟨Nat.le_refl _⟩, by repeat (first | exact Drawn0.refl _ | apply Drawn0.step)⟩
          case round =>
           clear H'
           try clear c1
           try clear p1
           try clear q1
           try clear hx1
           try clear c2
           try clear p2
           try clear c3
           try clear c4
           try clear c6
           try clear c6b0
           try clear c6b1
           try clear c6b2
           try clear c7
           try clear c8
           try clear c9
           try clear c9b0
           try clear c11
           try clear c11b0
           try clear c12
           try clear c12b0
           try clear c13
           try clear p13
           try clear q13
           try clear hx13
           try clear hx130_0
           try clear hx131_0
           try clear p1
           try clear p130
           try clear p131
           try clear p2
           try clear q1
           try clear q130
           try clear q131
           obtain ⟨x10_4, rfl, HA, HK4, ⟨m4, rfl⟩⟩ := hrel
           cases gk with
           | zero => exact absurd HA.out (by simp [scriniumref09_Wrong.l1])
           | succ k4 =>
            have H := HA.out
            clear HA
            simp only [scriniumref09_Wrong.l1] at H
            by_cases c14 : x10_4 < x9_2
            ·rw [if_pos c14] at H
             have c14b0 : decide (x10_4 < x9_2) = true := decide_eq_true c14
             clear c14
             by_cases c15 : 0 ≤ x10_4
             ·rw [if_pos c15] at H
              have c15b0 : decide (0 ≤ x10_4) = true := decide_eq_true c15
              clear c15
              by_cases c16 : x10_4 < (l2.length : Int)
              ·rw [if_pos c16] at H
               have c16b0 : decide (x10_4 < (l2.length : Int)) = true := decide_eq_true c16
               clear c16
               by_cases c17 : 0 ≤ x9_2
               ·rw [if_pos c17] at H
                have c17b0 : decide (0 ≤ x9_2) = true := decide_eq_true c17
                clear c17
                by_cases c18 : x9_2 < (l2.length : Int)
                ·rw [if_pos c18] at H
                 have c18b0 : decide (x9_2 < (l2.length : Int)) = true := decide_eq_true c18
                 clear c18
                 by_cases c19 : (rd l2 x10_4) = (rd l2 x9_2)
                 ·rw [if_pos c19] at H
                  have c19b0 : ((rd l2 x10_4) == (rd l2 x9_2)) = true := beq_iff_eq.mpr c19
                  have c19b1 : ((rd l2 x10_4) != (rd l2 x9_2)) = false := bne_eq_false_iff_eq.mpr c19
                  clear c19
                  obtain rfl := Option.some.inj H
                  have p132 : 0 ≤ (x10_4 : Int) := of_decide_eq_true (by first | (with_reducible assumption) | assumption)
                  have q132 : x10_4 < (l2.length : Int) := of_decide_eq_true (by first | (with_reducible assumption) | assumption)
                  obtain ⟨ad132, e132, hx132_0⟩ := Kd.at_int HR2.out x10_4 p132 q132
                  cases e132
                  replace p132 := eq_true p132
                  replace q132 := eq_true q132
                  have p133 : 0 ≤ (x9_2 : Int) := of_decide_eq_true (by first | (with_reducible assumption) | assumption)
                  have q133 : x9_2 < (l2.length : Int) := of_decide_eq_true (by first | (with_reducible assumption) | assumption)
                  obtain ⟨ad133, e133, hx133_0⟩ := Kd.at_int HR2.out x9_2 p133 q133
                  obtain rfl : ad132 = ad133 := (by injection e133)
                  replace p133 := eq_true p133
                  replace q133 := eq_true q133
                  go_wp2
                  repeat (go_quiet (fail); try go_wp2)
                  go_ret
                  exact ⟨by first | rfl | (simp; done) | (simp [*]; done), by repeat (first | exact Drawn0.refl _ | apply Drawn0.step)⟩
                 ·rw [if_neg c19] at H
                  have c19b0 : ((rd l2 x10_4) == (rd l2 x9_2)) = false := beq_eq_false_iff_ne.mpr c19
                  have c19b1 : ((rd l2 x10_4) != (rd l2 x9_2)) = true := bne_iff_ne.mpr c19
                  have H' := Aside0.mk H
                  clear H
                  have p132 : 0 ≤ (x10_4 : Int) := of_decide_eq_true (by first | (with_reducible assumption) | assumption)
                  have q132 : x10_4 < (l2.length : Int) := of_decide_eq_true (by first | (with_reducible assumption) | assumption)
                  obtain ⟨ad132, e132, hx132_0⟩ := Kd.at_int HR2.out x10_4 p132 q132
                  cases e132
                  replace p132 := eq_true p132
                  replace q132 := eq_true q132
                  have p133 : 0 ≤ (x9_2 : Int) := of_decide_eq_true (by first | (with_reducible assumption) | assumption)
                  have q133 : x9_2 < (l2.length : Int) := of_decide_eq_true (by first | (with_reducible assumption) | assumption)
                  obtain ⟨ad133, e133, hx133_0⟩ := Kd.at_int HR2.out x9_2 p133 q133
                  obtain rfl : ad132 = ad133 := (by injection e133)
                  replace p133 := eq_true p133
                  replace q133 := eq_true q133
                  go_wp2
                  repeat (go_quiet (fail); try go_wp2)
                  go_roundg k4
                  case measure => have := HJ4.out; have := HK2.out; have := HJ9.out; have := HK4.out; omega
                  case rel => exact ⟨(wrap64 (x10_4 + 1)), (by first | rfl | (simp; done) | (simp [*]; done)), H', ⟨by have := HJ4.out; have := HK2.out; have := HJ9.out; have := HK4.out; omega⟩, by repeat (first | exact Drawn0.refl _ | apply Drawn0.step)⟩
                ·rw [if_neg c18] at H
                 exact absurd H (by simp)
               ·rw [if_neg c17] at H
                exact absurd H (by simp)
              ·rw [if_neg c16] at H
               exact absurd H (by simp)
             ·rw [if_neg c15] at H
              exact absurd H (by simp)
            ·rw [if_neg c14] at H
             have c14b0 : decide (x10_4 < x9_2) = false := decide_eq_false c14
             clear c14
             have H' := Aside0.mk H
             clear H
             go_wp2
             repeat (go_quiet (fail); try go_wp2)
             go_roundg k4
             case measure => have := HJ4.out; have := HK2.out; have := HJ9.out; have := HK4.out; omega
             case rel => exact ⟨(wrap64 (x9_2 + 1)), (by first | rfl | (simp; done) | (simp [*]; done)), H', ⟨by have := HJ4.out; have := HK2.out; have := HJ9.out; have := HK4.out; omega⟩, by repeat (first | exact Drawn0.refl _ | apply Drawn0.step)⟩
      ·rw [if_neg c9] at H
       have c9b0 : decide (x9_2 < (l2.length : Int)) = false := decide_eq_false c9
       clear c9
       by_cases c20 : (l2.length : Int) < a0
       ·rw [if_pos c20] at H
        have c20b0 : decide ((l2.length : Int) < a0) = true := decide_eq_true c20
        clear c20
        obtain rfl := Option.some.inj H
        go_wp2
        repeat (go_quiet (fail); try go_wp2)
        go_ret
        exact ⟨by first | rfl | (simp; done) | (simp [*]; done), by repeat (first | exact Drawn0.refl _ | apply Drawn0.step)⟩
       ·rw [if_neg c20] at H
        have c20b0 : decide ((l2.length : Int) < a0) = false := decide_eq_false c20
        clear c20
        obtain rfl := Option.some.inj H
        go_wp2
        repeat (go_quiet (fail); try go_wp2)
        go_ret
        exact ⟨by first | rfl | (simp; done) | (simp [*]; done), by repeat (first | exact Drawn0.refl _ | apply Drawn0.step)⟩

end Go.Proofs.Ytoijjlpkoniipaa.PRsEncode
end
section
/- Joined out of texts of this claim: RefWrong, RefDec. Each says what it proves, and its conditions. -/
set_option linter.unusedVariables false
set_option linter.unusedSimpArgs false
section
/- What the document's Wrong comes to; its Decode and its Again, walked over Solve. -/
set_option linter.unusedVariables false
set_option linter.unusedSimpArgs false
namespace Go.Proofs.Ytoijjlpkoniipaa
open Go.RowKit Go.Proofs.YtoijjlpkoniipaaW.PrintWords Go.Proofs.YtoijjlpkoniipaaW.PrintLast Go.Proofs.YtoijjlpkoniipaaW.PrintMore Gf Lin
namespace PRsEncode
theorem rd_gz (zs : List Int) (i : Nat) : rd zs (i : Int) = gz zs i := by unfold rd gz; simp
/-- The inner loop meets an equal number. -/
theorem wrong_l1_eq (k n : Nat) (zs : List Int) (hl : zs.length ≤ 1000) {i b : Nat} (hi : i < zs.length) (hb : b < i) (h1 : ∀ j, j < b → gz zs j ≠ gz zs i) (h2 : gz zs b = gz zs i) (d : Nat) :
    ∀ j : Nat, b - j = d → j ≤ b → Ev (fun q => scriniumref09_Wrong.l1 q (k : Int) (n : Int) zs (i : Int) (j : Int)) 3 := by
  induction d with
  | zero =>
    intro j hd hj
    have : j = b := by omega
    subst this
    refine Ev.done fun q => ?_
    conv => lhs; unfold scriniumref09_Wrong.l1
    rw [if_pos (by omega), if_pos (by omega), if_pos (by omega), if_pos (by omega), if_pos (by omega), rd_gz, rd_gz, if_pos h2]
  | succ d ih =>
    intro j hd hj
    refine (ih (j + 1) (by omega) (by omega)).step fun q => ?_
    conv => lhs; unfold scriniumref09_Wrong.l1
    rw [if_pos (by omega), if_pos (by omega), if_pos (by omega), if_pos (by omega), if_pos (by omega), rd_gz, rd_gz, if_neg (h1 j (by omega)), wrap_succ (by omega)]
/-- The inner loop meets none. -/
theorem wrong_l1_no (k n : Nat) (zs : List Int) (hl : zs.length ≤ 1000) {i : Nat} (hi : i < zs.length) (h1 : ∀ j, j < i → gz zs j ≠ gz zs i) {r : Int}
    (H : Ev (fun q => scriniumref09_Wrong.l0 q (k : Int) (n : Int) zs ((i + 1 : Nat) : Int)) r) (d : Nat) :
    ∀ j : Nat, i - j = d → j ≤ i → Ev (fun q => scriniumref09_Wrong.l1 q (k : Int) (n : Int) zs (i : Int) (j : Int)) r := by
  induction d with
  | zero =>
    intro j hd hj
    have : j = i := by omega
    subst this
    refine H.step fun q => ?_
    conv => lhs; unfold scriniumref09_Wrong.l1
    rw [if_neg (by omega), wrap_succ (by omega)]
  | succ d ih =>
    intro j hd hj
    refine (ih (j + 1) (by omega) (by omega)).step fun q => ?_
    conv => lhs; unfold scriniumref09_Wrong.l1
    rw [if_pos (by omega), if_pos (by omega), if_pos (by omega), if_pos (by omega), if_pos (by omega), rd_gz, rd_gz, if_neg (h1 j (by omega)), wrap_succ (by omega)]
open Classical in
theorem wrong_l0 (k n : Nat) (zs : List Int) (hl : zs.length ≤ 1000) (d : Nat) : ∀ i : Nat, zs.length - i = d → i ≤ zs.length → AtOk n (zs.take i) →
    Ev (fun q => scriniumref09_Wrong.l0 q (k : Int) (n : Int) zs (i : Int)) (if AtOk n zs then (if zs.length < k then 10 else 0) else 3) := by
  induction d with
  | zero =>
    intro i hd hi hok
    have : i = zs.length := by omega
    subst this
    rw [List.take_length] at hok
    rw [if_pos hok]
    refine Ev.done fun q => ?_
    conv => lhs; unfold scriniumref09_Wrong.l0
    rw [if_neg (by omega)]
    by_cases h : zs.length < k
    · rw [if_pos (by omega), if_pos h]
    · rw [if_neg (by omega), if_neg h]
  | succ d ih =>
    intro i hd hi hok
    have hil : i < zs.length := by omega
    have hno : Ev (fun q => scriniumref09_Wrong.j2 q (k : Int) (n : Int) zs (i : Int) true) 3 := Ev.done fun q => by simp [scriniumref09_Wrong.j2]
    by_cases h0 : gz zs i < 0
    · rw [if_neg (fun h => by have := h.range hil; omega)]
      refine hno.step fun q => ?_
      conv => lhs; unfold scriniumref09_Wrong.l0
      rw [if_pos (by omega), if_pos (by omega), rd_gz, if_pos h0]
    · by_cases h1 : gz zs i ≥ (n : Int)
      · rw [if_neg (fun h => by have := h.range hil; omega)]
        refine hno.step fun q => ?_
        conv => lhs; unfold scriniumref09_Wrong.l0
        rw [if_pos (by omega), if_pos (by omega), rd_gz, if_neg h0, decide_eq_true h1]
      · have hj : ∀ {r : Int}, Ev (fun q => scriniumref09_Wrong.l1 q (k : Int) (n : Int) zs (i : Int) ((0 : Nat) : Int)) r → Ev (fun q => scriniumref09_Wrong.l0 q (k : Int) (n : Int) zs (i : Int)) r := fun {r} H => by
          have H2 : Ev (fun q => scriniumref09_Wrong.j2 q (k : Int) (n : Int) zs (i : Int) false) r := H.step fun q => by simp [scriniumref09_Wrong.j2]
          refine H2.step fun q => ?_
          conv => lhs; unfold scriniumref09_Wrong.l0
          rw [if_pos (by omega), if_pos (by omega), rd_gz, if_neg h0, decide_eq_false h1]
        by_cases hm : gz zs i ∈ zs.take i
        · rw [if_neg (not_atok_mem hil hm)]
          obtain ⟨b0, hb0, hb1⟩ := List.getElem_of_mem hm
          have hbi : b0 < i := by rw [List.length_take] at hb0; omega
          have hex : ∃ b, 0 ≤ b ∧ b < i ∧ gz zs b = gz zs i ∧ ∀ j, 0 ≤ j → j < b → gz zs j ≠ gz zs i := by
            have key : ∀ (N : Nat) (b : Nat), b ≤ N → b < i → gz zs b = gz zs i → ∃ b, 0 ≤ b ∧ b < i ∧ gz zs b = gz zs i ∧ ∀ j, 0 ≤ j → j < b → gz zs j ≠ gz zs i := by
              intro N
              induction N with
              | zero => intro b hb hbi he; exact ⟨b, by omega, hbi, he, fun j _ hj => by omega⟩
              | succ N ihN =>
                intro b hb hbi he
                by_cases hq : ∃ j, j < b ∧ gz zs j = gz zs i
                · obtain ⟨j, hj, hje⟩ := hq
                  exact ihN j (by omega) (by omega) hje
                · exact ⟨b, by omega, hbi, he, fun j _ hj e => hq ⟨j, hj, e⟩⟩
            refine key b0 b0 (Nat.le_refl _) hbi ?_
            rw [← hb1, List.getElem_take, gz_at (by omega)]
          obtain ⟨b, _, hb2, hb3, hb4⟩ := hex
          exact hj (wrong_l1_eq k n zs hl hil hb2 (fun j hj => hb4 j (by omega) hj) hb3 b 0 (by omega) (by omega))
        · have hsn := AtOk.snoc hil hok ⟨by omega, by omega⟩ hm
          exact hj (wrong_l1_no k n zs hl hil (fun j hj e => hm (by
            rw [← e, gz_at (by omega)]
            exact List.mem_iff_getElem.2 ⟨j, by rw [List.length_take]; omega, by rw [List.getElem_take]⟩)) (ih (i + 1) (by omega) (by omega) hsn) i 0 (by omega) (by omega))
theorem wrong_ev (k n : Nat) (zs : List Int) (m : List (List UInt8)) (hl : zs.length ≤ 1000) (hm : m.length ≤ 1000) : Ev (fun q => scriniumref09_Wrong.f q (k : Int) (n : Int) zs (bss m)) (docWrong k n zs m) := by
  have hno : Ev (fun q => scriniumref09_Wrong.j0 q (k : Int) (n : Int) zs true) 14 := Ev.done fun q => by simp [scriniumref09_Wrong.j0]
  by_cases he : zs.length = m.length
  · by_cases ha : Alike m
    · have h0 : Ev (fun q => scriniumref09_Wrong.l0 q (k : Int) (n : Int) zs ((0 : Nat) : Int)) (docWrong k n zs m) := by
        unfold docWrong
        rw [if_pos ⟨he, ha⟩]
        exact wrong_l0 k n zs hl zs.length 0 (by omega) (by omega) (by rw [List.take_zero]; exact AtOk.nil n)
      have hj : Ev (fun q => scriniumref09_Wrong.j0 q (k : Int) (n : Int) zs false) (docWrong k n zs m) := h0.step fun q => by simp [scriniumref09_Wrong.j0]
      refine Ev.same1 (alike_yes hm ha) hj fun q hq => ?_
      unfold scriniumref09_Wrong.f
      rw [bss_length, if_pos (by omega), hq]; rfl
    · rw [docWrong_14 fun h => ha h.2]
      refine Ev.same1 (alike_no hm ha) hno fun q hq => ?_
      unfold scriniumref09_Wrong.f
      rw [bss_length, if_pos (by omega), hq]; rfl
  · rw [docWrong_14 fun h => he h.1]
    refine hno.same fun q => ?_
    unfold scriniumref09_Wrong.f
    rw [bss_length, if_neg (by omega)]
end PRsEncode
theorem rwrong_R {w : World} {k n : Nat} {B : Option Addr} {q c : Nat} {zs : List Int} (hz : RI w B q c zs) (hq : q ≤ 1000) {C : Option Addr} {q' c' : Nat} {m : List (List UInt8)} (h : RD w C q' c' m) (hq' : q' ≤ 1000) :
    Calls Try.prog 74 #[.int .i64 (k : Int), .int .i64 (n : Int), .slice B q c, .slice C q' c'] w fun e w' => ∃ z, e = .returned (.int .i64 z) ∧ z = docWrong k n zs m ∧ Below w.heap.size w w' := by
  have e1 := hz.len
  have e2 := h.len
  subst e1
  subst e2
  obtain ⟨f, hf⟩ := (PRsEncode.wrong_ev k n zs m hq hq').at
  have hc := PRsEncode.scriniumref09_Wrong.calls f (k : Int) (n : Int) B c zs C c' (bss m) _ w hz.rd hz.le (by rw [bss_length]; exact h.rd) (by rw [bss_length]; exact h.le) hf
  rw [bss_length] at hc
  refine hc.mono ?_
  rintro e w' ⟨rfl, hd⟩
  exact ⟨_, rfl, rfl, hd.below⟩
end Go.Proofs.Ytoijjlpkoniipaa
end
section
/- The document's Decode and Again, walked over Wrong, Solve, Row and Sum; what they answer is what the code answers. -/
set_option linter.unusedVariables false
set_option linter.unusedSimpArgs false
namespace Go.Proofs.Ytoijjlpkoniipaa
open Go.RowKit Go.Proofs.YtoijjlpkoniipaaW.PrintWords Go.Proofs.YtoijjlpkoniipaaW.PrintLast Gf Lin
/-- What the document's Decode answers. -/
def DecQ (k n : Nat) (zs : List Int) (m x : List (List UInt8)) (ev : Int) : Prop :=
  (docWrong k n zs m ≠ 0 ∧ x = [] ∧ ev = docWrong k n zs m) ∨
  (docWrong k n zs m = 0 ∧ ev = 0 ∧ ∃ Mf S : Lin.M, Rel k (pickM k zs) (fn m) Mf S ∧ (∀ i, i < k → ∀ j, j < k → Mf i j = Lin.unit i j) ∧ x = rowsOf k (m.headD []).length S)
theorem dec_same {k n : Nat} {zs : List Int} {m x y : List (List UInt8)} {e f : Int} (hk1 : 1 ≤ k) (h : DecP k n zs m x e) (h' : DecQ k n zs m y f) : x = y ∧ e = f := by
  rcases h with ⟨h1, rfl, rfl⟩ | ⟨h1, rfl, S, hS1, hS2, rfl⟩
  · rcases h' with ⟨_, rfl, rfl⟩ | ⟨h2, _⟩
    · exact ⟨rfl, rfl⟩
    · exact absurd h2 h1
  · rcases h' with ⟨h2, _⟩ | ⟨_, rfl, Mf, T, hr, hu, rfl⟩
    · exact absurd h1 h2
    · refine ⟨?_, rfl⟩
      obtain ⟨⟨hlen, hal⟩, _, hkl⟩ := docWrong_zero h1
      have hkm : k ≤ m.length := by omega
      obtain ⟨L, hL⟩ : ∃ L, L = (m.headD []).length := ⟨_, rfl⟩
      rw [← hL]
      have h0 : ((m.take k).headD []).length = L := by rw [headD_take hk1, hL]
      have hrow : ∀ i, i < k → (gr (decB k k S m) i).length = L := fun i hi => by rw [decB_row S m hi, sumB_rows (by rw [List.length_take]; omega) h0]; simp
      have hd : ((decB k k S m).headD []).length = L := by rw [← PRsEncode.gr_zero]; exact hrow 0 (by omega)
      have hX : ∀ i, i < k → ∀ j, j < L → mul k (pickM k zs) (fn (decB k k S m)) i j = fn m i j := fun i hi j hj => by
        have he := enc_dec (zs := zs) hk1 hkm hal hS2 hi
        rw [sumB_rows (decB_length _ _ _ _) hd] at he
        have := congrArg (fun r => gb r j) he
        simp only [gb_range _ hj] at this
        exact this
      have hs := hr.solves hu hX
      refine rows_ext (by rw [decB_length, rowsOf_length]) fun i hi => ?_
      rw [decB_length] at hi
      rw [gr_rowsOf _ hi]
      exact row_ext (hrow i hi) (by simp) fun j hj => by rw [gb_range _ hj]; exact hs i hi j hj
/-- What the document's Again answers. -/
def AgQ (k n : Nat) (zs : List Int) (m : List (List UInt8)) (i : Int) (r : List UInt8) (ev : Int) : Prop :=
  (¬ (0 ≤ i ∧ i < (n : Int)) ∧ r = [] ∧ ev = 3) ∨
  ((0 ≤ i ∧ i < (n : Int)) ∧ docWrong k n zs m ≠ 0 ∧ r = [] ∧ ev = docWrong k n zs m) ∨
  ((0 ≤ i ∧ i < (n : Int)) ∧ docWrong k n zs m = 0 ∧ ev = 0 ∧ ∃ x, DecQ k n zs m x 0 ∧ r = sumB ((List.range k).map (codeM k i.toNat)) x)
theorem again_same {k n : Nat} {zs : List Int} {m : List (List UInt8)} {i : Int} {r s : List UInt8} {e f : Int} (hk1 : 1 ≤ k) (h : AgP k n zs m i r e) (h' : AgQ k n zs m i s f) : r = s ∧ e = f := by
  rcases h with ⟨h1, rfl, rfl⟩ | ⟨h1, h2, rfl, rfl⟩ | ⟨h1, h2, rfl, S, hS1, hS2, rfl⟩
  · rcases h' with ⟨_, rfl, rfl⟩ | ⟨q1, _⟩ | ⟨q1, _⟩
    · exact ⟨rfl, rfl⟩
    · exact absurd q1 h1
    · exact absurd q1 h1
  · rcases h' with ⟨q1, _⟩ | ⟨_, _, rfl, rfl⟩ | ⟨_, q2, _⟩
    · exact absurd h1 q1
    · exact ⟨rfl, rfl⟩
    · exact absurd q2 h2
  · rcases h' with ⟨q1, _⟩ | ⟨_, q2, _⟩ | ⟨_, _, rfl, x, hx, rfl⟩
    · exact absurd h1 q1
    · exact absurd h2 q2
    · rw [(dec_same hk1 (.inr ⟨h2, rfl, S, hS1, hS2, rfl⟩) hx).1]
      exact ⟨rfl, rfl⟩
theorem rdec_R {w : World} {k n : Nat} (hk1 : 1 ≤ k) (hkn : k ≤ n) (hn : n ≤ 255) {B : Option Addr} {q c : Nat} {zs : List Int} (hz : RI w B q c zs) (hq : q ≤ 1000) {C : Option Addr} {q' c' : Nat} {m : List (List UInt8)} (h : RD w C q' c' m) (hq' : q' ≤ 1000) (hL : ∀ r ∈ m, r.length ≤ 1000) :
    Calls Try.prog 62 #[.int .i64 (k : Int), .int .i64 (n : Int), .slice B q c, .slice C q' c'] w fun e w' => ∃ D s d x ev, e = .returned (.tuple #[.slice D s d, .int .i64 ev]) ∧ DecQ k n zs m x ev ∧ RD w' D s d x ∧ Below w.heap.size w w' := by
  have hwr := rwrong_R (k := k) (n := n) hz hq h hq'
  have HZ := Lib.hid hz
  have HM := Lib.hid h
  have HLL := Lib.hid hL
  clear hz h hL
  go_enter Try.func62, Try.ntmps62
  go_wp2_with fail
  refine hwr.mono ?_
  clear hwr
  rintro e w1 ⟨z, rfl, hzz, hb1⟩
  have HB := Lib.hid hb1
  replace HZ := Lib.hid (HZ.out.below hb1)
  replace HM := Lib.hid (HM.out.below hb1)
  have HZZ := Lib.hid hzz
  clear hb1 hzz
  by_cases hz0 : z = 0
  · subst hz0
    obtain ⟨⟨hlen, hal⟩, hok, hkl⟩ := docWrong_zero HZZ.out.symm
    have hcl := rsolve_R hk1 hkn hn hok hkl (by omega) hal HZ.out HM.out hq' HLL.out
    clear hlen hal hok hkl
    go_wp2_with fail
    refine hcl.mono ?_
    clear hcl
    rintro e w2 ⟨D, d, Mf, S, rfl, hrd, hrl, hu, hb2⟩
    replace HB := Lib.hid (bthen HB.out hb2)
    have HR := Lib.hid hrd
    have HRL := Lib.hid hrl
    have HU := Lib.hid hu
    clear hrd hrl hu hb2
    go_wp2_with fail
    go_ret2
    exact ⟨D, k, d, _, 0, rfl, .inr ⟨HZZ.out.symm, rfl, Mf, S, HRL.out, HU.out, rfl⟩, HR.out, HB.out⟩
  · have t1 : (z != 0) = true := by simp [hz0]
    have HE := Lib.hid hz0
    clear hz0
    go_wp2_with fail
    go_ret2
    exact ⟨none, 0, 0, [], z, rfl, .inl ⟨by rw [← HZZ.out]; exact HE.out, rfl, HZZ.out⟩, RD.nil _, HB.out⟩
theorem rows_alike (k L : Nat) (S : Lin.M) : ∀ r ∈ rowsOf k L S, r.length = L := fun r hr => by
  unfold rowsOf at hr
  obtain ⟨t, _, rfl⟩ := List.mem_map.1 hr
  simp
theorem ragain_R {w : World} {k n : Nat} (hk1 : 1 ≤ k) (hkn : k ≤ n) (hn : n ≤ 255) {B : Option Addr} {q c : Nat} {zs : List Int} (hz : RI w B q c zs) (hq : q ≤ 1000) {C : Option Addr} {q' c' : Nat} {m : List (List UInt8)} (h : RD w C q' c' m) (hq' : q' ≤ 1000) (hL : ∀ r ∈ m, r.length ≤ 1000) (i : Int) :
    Calls Try.prog 63 #[.int .i64 (k : Int), .int .i64 (n : Int), .slice B q c, .slice C q' c', .int .i64 i] w fun e w' => ∃ D s d r ev, e = .returned (.tuple #[.slice D s d, .int .i64 ev]) ∧ AgQ k n zs m i r ev ∧ RS w' D s d r ∧ Below w.heap.size w w' := by
  have HZ := Lib.hid hz
  have HM := Lib.hid h
  have HLL := Lib.hid hL
  clear hz h hL
  by_cases hi : 0 ≤ i ∧ i < (n : Int)
  · have t1 : decide (i < 0) = false := by simp; omega
    have t2 : decide (i ≥ (n : Int)) = false := by simp; omega
    have t3 : decide ((n : Int) ≤ i) = false := by simp; omega
    have HI := Lib.hid hi
    have hcl := rdec_R hk1 hkn hn HZ.out hq HM.out hq' HLL.out
    clear hi
    go_enter Try.func63, Try.ntmps63
    go_wp2_with fail
    refine hcl.mono ?_
    clear hcl
    rintro e w1 ⟨D, s, d, x, ev, rfl, hp, hrd, hb1⟩
    have HB := Lib.hid hb1
    have HP := Lib.hid hp
    have HX := Lib.hid hrd
    clear hb1 hp hrd
    by_cases hev : ev = 0
    · subst hev
      obtain ⟨p, hp⟩ : ∃ p, p = i.toNat := ⟨_, rfl⟩
      have hip : (p : Int) = i := by have := HI.out.1; omega
      have hcl := rrow_R hk1 hkn hn (i := p) (by have := HI.out.2; omega) (k : Int) i rfl hip.symm w1
      have HPI := Lib.hid hp
      clear hp hip
      go_wp2_with fail
      refine hcl.mono ?_
      clear hcl
      rintro e w2 ⟨R, lr, cr, rfl, hrow, hb2⟩
      replace HB := Lib.hid (bthen HB.out hb2)
      have hx2 := HX.out.below hb2
      have hw0 : docWrong k n zs m = 0 ∧ ∃ S : Lin.M, x = rowsOf k (m.headD []).length S := by
        rcases HP.out with ⟨h1, _, h2⟩ | ⟨h1, _, Mf, S, _, _, h2⟩
        · exact absurd h2.symm h1
        · exact ⟨h1, S, h2⟩
      have HW := Lib.hid hw0.1
      have hds : (docSum ((List.range k).map (codeM k p)) x) = (sumB ((List.range k).map (codeM k p)) x, 0) := by
        obtain ⟨_, S, rfl⟩ := hw0
        unfold docSum
        rw [if_pos ⟨by simp, alike_len_of (rows_alike k _ S)⟩]
      have hxl : x.length ≤ 1000 := by
        obtain ⟨_, S, rfl⟩ := hw0
        rw [rowsOf_length]; omega
      have hxr : ∀ r ∈ x, r.length ≤ 1000000 := by
        obtain ⟨_, S, rfl⟩ := hw0
        intro r hr
        rw [rows_alike _ _ _ r hr]
        cases hm : m with
        | nil => simp
        | cons a l => have := HLL.out a (by rw [hm]; simp); simpa using (by omega : a.length ≤ 1000000)
      have hcl := ref_sum_any R _ lr cr D x s d w2 hrow.rd hrow.le hx2.rd hx2.le hxl hxr
      rw [hds] at hcl
      clear hrow hb2 hx2 hw0 hds hxl hxr
      go_wp2_with fail
      refine hcl.mono ?_
      clear hcl
      rintro e w3 ⟨v, rfl, hrb, hb3⟩
      obtain ⟨D3, d3, rfl, h1, h2⟩ := hrb
      replace HB := Lib.hid (bthen HB.out hb3)
      have HR3 := Lib.hid (RS.mk h1 h2)
      clear h1 h2 hb3
      go_wp2_with fail
      go_ret2
      exact ⟨D3, _, d3, _, 0, rfl, .inr (.inr ⟨HI.out, HW.out, rfl, x, HP.out, by rw [← HPI.out]⟩), HR3.out, HB.out⟩
    · have t4 : (ev != 0) = true := by simp [hev]
      have HE := Lib.hid hev
      clear hev
      go_wp2_with fail
      go_ret2
      have hpp : docWrong k n zs m ≠ 0 ∧ ev = docWrong k n zs m := by
        rcases HP.out with ⟨h1, _, h2⟩ | ⟨_, h2, _⟩
        · exact ⟨h1, h2⟩
        · exact absurd h2 HE.out
      exact ⟨none, 0, 0, [], ev, rfl, .inr (.inl ⟨HI.out, hpp.1, rfl, hpp.2⟩), RS.nil _, HB.out⟩
  · by_cases h0 : i < 0
    · have t1 : decide (i < 0) = true := by simp; omega
      have HI := Lib.hid hi
      clear hi h0
      go_enter Try.func63, Try.ntmps63
      go_wp2_with fail
      go_ret2
      exact ⟨none, 0, 0, [], 3, rfl, .inl ⟨HI.out, rfl, rfl⟩, RS.nil _, Below.refl _ _⟩
    · have t1 : decide (i < 0) = false := by simp; omega
      have t2 : decide (i ≥ (n : Int)) = true := by simp; omega
      have t3 : decide ((n : Int) ≤ i) = true := by simp; omega
      have HI := Lib.hid hi
      clear hi h0
      go_enter Try.func63, Try.ntmps63
      go_wp2_with fail
      go_ret2
      exact ⟨none, 0, 0, [], 3, rfl, .inl ⟨HI.out, rfl, rfl⟩, RS.nil _, Below.refl _ _⟩
end Go.Proofs.Ytoijjlpkoniipaa
end
end
section
/- The law RsDecode. -/
set_option linter.unusedVariables false
set_option linter.unusedSimpArgs false
namespace Go.Proofs.Ytoijjlpkoniipaa
open Go.RowKit Go.Proofs.YtoijjlpkoniipaaW.PrintWords Go.Proofs.YtoijjlpkoniipaaW.PrintLast Gf Lin
theorem decP_le {k n L : Nat} {zs : List Int} {m x : List (List UInt8)} {e : Int} (hk1 : 1 ≤ k) (h : DecP k n zs m x e) (hm : PRsEncode.Rowsle m L) : PRsEncode.Rowsle x L := by
  rcases h with ⟨_, rfl, _⟩ | ⟨_, _, S, _, _, rfl⟩
  · intro r hr; simp at hr
  · intro r hr
    rw [decB_mem hr, headD_take hk1]
    cases m with
    | nil => simp
    | cons a t => exact hm a (by simp)
theorem ints_new (w : World) : Kd.R KI 3 (w.alloc (.cells #[] 3)) w.heap.size (fun _ => True) (.slice (some ⟨w.heap.size, 0, none⟩) 0 0) [] :=
  ⟨fun _ _ => trivial, [], World.ownsRow_made w #[] 0 (Nat.le_refl _) (by unfold maxLen; omega) rfl, Reps.none _ _⟩
theorem RI.of_R {w : World} {base : Nat} {ok : Nat → Prop} {v : Value} {zs : List Int} (h : Kd.R KI 3 w base ok v zs) : ∃ A c, v = .slice A zs.length c ∧ RI w A zs.length c zs := by
  obtain ⟨A, c, e, h1, h2⟩ := Kd.R_reads h
  exact ⟨A, c, e, ⟨h1, h2⟩⟩
set_option maxHeartbeats 4000000 in
set_option maxRecDepth 100000 in
theorem RsDecode_walk (w : World) (ka nb : Int) (_k0 : -9223372036854775808 ≤ ka) (_k1 : ka ≤ 9223372036854775807) (_n0 : -9223372036854775808 ≤ nb) (_n1 : nb ≤ 9223372036854775807)
    (Z : Option Addr) (zs : List Int) (cz : Nat) (hcz : zs.length ≤ cz) (hrz : KI.C w Z zs.length zs) (hwz : ∀ n ∈ zs, (Lit.int .i64 n).wf = true) (A : Option Addr) (m : List (List UInt8)) (ca : Nat) (hca : m.length ≤ ca) (hra : KBB.C w A m.length (bss m)) :
    Calls Try.prog 20 #[.agg #[.int .i64 ka, .int .i64 nb], .slice Z zs.length cz, .slice A m.length ca] w fun e w' => e = .returned (.bool true) ∧ Below w.heap.size w w' := by
  have RA := Lib.hid (RD.mk hca hra)
  have RZ := Lib.hid (RI.mk hcz hrz)
  obtain ⟨q, hq_⟩ : ∃ q, q = m.length := ⟨_, rfl⟩
  obtain ⟨lz, hlz_⟩ : ∃ lz, lz = zs.length := ⟨_, rfl⟩
  rw [← hq_] at RA ⊢
  rw [← hlz_] at RZ ⊢
  have HQ := Lib.hid hq_
  have HLZ := Lib.hid hlz_
  clear hca hra hcz hrz hwz hq_ hlz_
  obtain ⟨w0_, hw0⟩ : ∃ w0_, w0_ = w.alloc (.cells #[.int .i64 ka, .int .i64 nb] 49) := ⟨_, rfl⟩
  obtain ⟨gb_, hgb⟩ : ∃ gb_, gb_ = w.heap.size := ⟨_, rfl⟩
  have BX : Hid (Bx w0_ gb_ ka nb) := Lib.hid (by rw [hw0, hgb]; exact Bx.new w ka nb)
  have hbel : Below w.heap.size w w0_ := by rw [hw0]; exact Below.alloc1 _ _
  have HB := Lib.hid hbel
  replace RA := Lib.hid (RA.out.below hbel)
  replace RZ := Lib.hid (RZ.out.below hbel)
  have HW0 := Lib.hid hw0
  have HGB := Lib.hid hgb
  clear hbel hw0 hgb
  by_cases hR : 1 ≤ ka ∧ ka ≤ nb ∧ nb ≤ 255
  · by_cases hbig : 8 < ka ∨ 24 < nb
    · skip
      have HR := Lib.hid hR
      have HBIG := Lib.hid hbig
      clear hR hbig
      go_enter Try.func20, Try.ntmps20
      go_wp2_with fail
      rw [← HW0.out, ← HGB.out]
      clear HW0 HGB
      have hcl := wakes09 w0_
      refine hcl.mono ?_
      clear hcl
      rintro e w2_ ⟨rfl, hbel⟩
      replace HB := Lib.hid (bthen HB.out hbel)
      replace RA := Lib.hid (RA.out.below hbel)
      replace RZ := Lib.hid (RZ.out.below hbel)
      replace BX := Lib.hid (BX.out.below hbel)
      clear hbel
      have cx0 := BX.out.c0
      have cx1 := BX.out.c1
      have hcl := code_big ka nb HR.out HBIG.out w2_
      go_wp2_with fail
      refine hcl.mono ?_
      clear hcl
      rintro e w3_ ⟨rfl, hbel⟩
      replace HB := Lib.hid (bthen HB.out hbel)
      replace RA := Lib.hid (RA.out.below hbel)
      replace RZ := Lib.hid (RZ.out.below hbel)
      replace BX := Lib.hid (BX.out.below hbel)
      clear hbel
      clear cx0 cx1
      have cx0 := BX.out.c0
      have cx1 := BX.out.c1
      go_wp2_with fail
      go_ret
      exact ⟨rfl, HB.out⟩
    · skip
      obtain ⟨k, rfl⟩ : ∃ k : Nat, ka = (k : Int) := ⟨ka.toNat, by omega⟩
      obtain ⟨n, rfl⟩ : ∃ n : Nat, nb = (n : Int) := ⟨nb.toNat, by omega⟩
      have hk1 : 1 ≤ k := by omega
      have hkn : k ≤ n := by omega
      have h8 : k ≤ 8 := by omega
      have h24 : n ≤ 24 := by omega
      have hn2 : n ≤ 255 := by omega
      have HR := Lib.hid hR
      clear hR hbig
      go_enter Try.func20, Try.ntmps20
      go_wp2_with fail
      rw [← HW0.out, ← HGB.out]
      clear HW0 HGB
      have hcl := wakes09 w0_
      refine hcl.mono ?_
      clear hcl
      rintro e w2_ ⟨rfl, hbel⟩
      replace HB := Lib.hid (bthen HB.out hbel)
      replace RA := Lib.hid (RA.out.below hbel)
      replace RZ := Lib.hid (RZ.out.below hbel)
      replace BX := Lib.hid (BX.out.below hbel)
      clear hbel
      have cx0 := BX.out.c0
      have cx1 := BX.out.c1
      have hcl := code_ok k n hk1 hkn h8 h24 (k : Int) (n : Int) rfl rfl w2_
      go_wp2_with fail
      refine hcl.mono ?_
      clear hcl
      rintro e w3_ ⟨gc, gt, Ac, capc, rfl, hcd, hbel⟩
      replace HB := Lib.hid (bthen HB.out hbel)
      replace RA := Lib.hid (RA.out.below hbel)
      replace RZ := Lib.hid (RZ.out.below hbel)
      replace BX := Lib.hid (BX.out.below hbel)
      have HC := Lib.hid hcd
      clear hcd hbel
      clear cx0 cx1
      have cx0 := BX.out.c0
      have cx1 := BX.out.c1
      have hrr := right9 (k : Int) (n : Int) w3_
      rw [decide_eq_true HR.out] at hrr
      have hcl := hrr
      go_wp2_with fail
      refine hcl.mono ?_
      clear hcl
      rintro e w4_ ⟨rfl, hbel⟩
      replace HB := Lib.hid (bthen HB.out hbel)
      replace RA := Lib.hid (RA.out.below hbel)
      replace RZ := Lib.hid (RZ.out.below hbel)
      replace BX := Lib.hid (BX.out.below hbel)
      replace HC := Lib.hid (HC.out.below hbel)
      clear hbel
      clear hrr
      clear cx0 cx1
      have cx0 := BX.out.c0
      have cx1 := BX.out.c1
      have hcl := long_R RA.out 24 40
      go_wp2_with fail
      refine hcl.mono ?_
      clear hcl
      rintro e w5_ ⟨b_, rfl, hbe, hbel⟩
      replace HB := Lib.hid (bthen HB.out hbel)
      replace RA := Lib.hid (RA.out.below hbel)
      replace RZ := Lib.hid (RZ.out.below hbel)
      replace BX := Lib.hid (BX.out.below hbel)
      replace HC := Lib.hid (HC.out.below hbel)
      clear hbel
      clear cx0 cx1
      have cx0 := BX.out.c0
      have cx1 := BX.out.c1
      cases hl : PRsEncode.isLong m 24 40 with
      | true =>
        rw [hl] at hbe
        subst hbe
        clear hl
        go_wp2_with fail
        go_ret
        exact ⟨rfl, HB.out⟩
      | false =>
        rw [hl] at hbe
        subst hbe
        have LRA := Lib.hid (PRsEncode.isLong_false hl)
        clear hl
        by_cases hp : 30 < lz
        · skip
          have t1 : decide ((30 : Int) < (lz : Int)) = true := decide_eq_true (by omega)
          have t2 : decide ((lz : Int) > 30) = true := decide_eq_true (by omega)
          clear hp
          go_wp2_with fail
          go_ret
          exact ⟨rfl, HB.out⟩
        have t1 : decide ((30 : Int) < (lz : Int)) = false := decide_eq_false (by omega)
        have t2 : decide ((lz : Int) > 30) = false := decide_eq_false (by omega)
        have hlz : lz ≤ 30 := by omega
        clear hp
        have HLL : Hid (∀ r ∈ m, r.length ≤ 1000) := Lib.hid (fun r hr => by have := LRA.out.2 r hr; omega)
        have HLL6 : Hid (∀ r ∈ m, r.length ≤ 1000000) := Lib.hid (fun r hr => by have := LRA.out.2 r hr; omega)
        have hq10 : q ≤ 24 := by have := LRA.out.1; have := HQ.out; omega
        have hcl := copy_R RA.out (by have := HQ.out; omega) HLL.out
        go_wp2_with fail
        refine hcl.mono ?_
        clear hcl
        rintro e w6_ ⟨AO, qo, co, rfl, hr, hbel⟩
        replace HB := Lib.hid (bthen HB.out hbel)
        replace RA := Lib.hid (RA.out.below hbel)
        replace RZ := Lib.hid (RZ.out.below hbel)
        replace BX := Lib.hid (BX.out.below hbel)
        replace HC := Lib.hid (HC.out.below hbel)
        have RO := Lib.hid hr
        clear hr hbel
        clear t1 t2
        have hqo : qo ≤ 24 := by have := RO.out.len; have := LRA.out.1; omega
        clear cx0 cx1
        have cx0 := BX.out.c0
        have cx1 := BX.out.c1
        go_wp2_with (first | ((with_reducible refine gate_builtin (b := .append) (xs := #[.tmp 51, .tmp 52]) rfl ?_); at_builtin; refine Kd.R_append_rows KI (w0 := w6_) w6_.heap.size rfl (.tmp 51) (.tmp 52) 80 3 (.int .i64 0) 8 rfl Try.underlying80 info3 rfl (by decide) (by omega) _ [] zs Z lz cz (fun _ => True) (fun _ => False) rfl rfl (ints_new _) (RZ.out.below (Below.alloc1 _ _)).rd (fun _ _ h => h) (fun _ h => h.elim) (fun _ _ => trivial) (Below.alloc1 _ _) (Below.alloc1 _ _).size (by simp; omega) ?_; intro v53 w53 ho hb hg hat; obtain ⟨AT_, ct, e53, hri⟩ := RI.of_R ho; subst e53; rw [show ([] ++ zs : List Int).length = lz by simp; exact HLZ.out.symm] at hri ⊢; have RT := Lib.hid hri; have HB53 := Lib.hid hb; clear ho hb hg hat hri))
        replace HB := Lib.hid (bthen HB.out HB53.out)
        replace RA := Lib.hid (RA.out.below HB53.out)
        replace RZ := Lib.hid (RZ.out.below HB53.out)
        replace BX := Lib.hid (BX.out.below HB53.out)
        replace HC := Lib.hid (HC.out.below HB53.out)
        replace RO := Lib.hid (RO.out.below HB53.out)
        clear HB53
        clear cx0 cx1
        have cx0 := BX.out.c0
        have cx1 := BX.out.c1
        have hcl := dec_R HC.out RT.out (by omega) RO.out (by omega) HLL6.out
        refine hcl.mono ?_
        clear hcl
        rintro e w7_ ⟨DD, sD, dD, x, evd, rfl, hp, hr, hbel⟩
        replace HB := Lib.hid (bthen HB.out hbel)
        replace RA := Lib.hid (RA.out.below hbel)
        replace RZ := Lib.hid (RZ.out.below hbel)
        replace BX := Lib.hid (BX.out.below hbel)
        replace HC := Lib.hid (HC.out.below hbel)
        replace RO := Lib.hid (RO.out.below hbel)
        replace RT := Lib.hid (RT.out.below hbel)
        have X_ := Lib.hid hr
        have HP := Lib.hid hp
        clear hr hp hbel
        clear cx0 cx1
        have cx0 := BX.out.c0
        have cx1 := BX.out.c1
        have hcl := rdec_R hk1 hkn hn2 RZ.out (by omega) RA.out (by omega) HLL.out
        go_wp2_with fail
        refine hcl.mono ?_
        clear hcl
        rintro e w8_ ⟨DE, sE, dE, y, eve, rfl, hp, hr, hbel⟩
        replace HB := Lib.hid (bthen HB.out hbel)
        replace RA := Lib.hid (RA.out.below hbel)
        replace RZ := Lib.hid (RZ.out.below hbel)
        replace BX := Lib.hid (BX.out.below hbel)
        replace HC := Lib.hid (HC.out.below hbel)
        replace RO := Lib.hid (RO.out.below hbel)
        replace RT := Lib.hid (RT.out.below hbel)
        replace X_ := Lib.hid (X_.out.below hbel)
        have Y_ := Lib.hid hr
        have HPY := Lib.hid hp
        clear hr hp hbel
        obtain ⟨rfl, rfl⟩ := dec_same hk1 HP.out HPY.out
        have HXL := Lib.hid (decP_le hk1 HP.out LRA.out.2)
        clear cx0 cx1
        have cx0 := BX.out.c0
        have cx1 := BX.out.c1
        have hcl := sameall_R X_.out Y_.out 40 HXL.out (by omega)
        go_wp2_with fail
        refine hcl.mono ?_
        clear hcl
        rintro e w9_ ⟨rfl, hbel⟩
        replace HB := Lib.hid (bthen HB.out hbel)
        replace RA := Lib.hid (RA.out.below hbel)
        replace RZ := Lib.hid (RZ.out.below hbel)
        replace BX := Lib.hid (BX.out.below hbel)
        replace HC := Lib.hid (HC.out.below hbel)
        replace RO := Lib.hid (RO.out.below hbel)
        replace RT := Lib.hid (RT.out.below hbel)
        replace X_ := Lib.hid (X_.out.below hbel)
        replace Y_ := Lib.hid (Y_.out.below hbel)
        clear hbel
        clear cx0 cx1
        have cx0 := BX.out.c0
        have cx1 := BX.out.c1
        have hcl := sameall_R RO.out RA.out 40 LRA.out.2 (by omega)
        go_wp2_with fail
        refine hcl.mono ?_
        clear hcl
        rintro e w10_ ⟨rfl, hbel⟩
        replace HB := Lib.hid (bthen HB.out hbel)
        replace RA := Lib.hid (RA.out.below hbel)
        replace RZ := Lib.hid (RZ.out.below hbel)
        replace BX := Lib.hid (BX.out.below hbel)
        replace HC := Lib.hid (HC.out.below hbel)
        replace RO := Lib.hid (RO.out.below hbel)
        replace RT := Lib.hid (RT.out.below hbel)
        replace X_ := Lib.hid (X_.out.below hbel)
        replace Y_ := Lib.hid (Y_.out.below hbel)
        clear hbel
        clear HP HPY
        clear cx0 cx1
        have cx0 := BX.out.c0
        have cx1 := BX.out.c1
        go_wp2_with fail
        go_loopw [15] (fun x wr => ∃ z : Int, -1 ≤ z ∧ z ≤ (n : Int) + 1 + ((n / 2 : Nat) : Int) ∧ x = .int .i64 z ∧ Below w10_.heap.size w10_ wr) (fun x _ => ((n : Int) + 1 + ((n / 2 : Nat) : Int) - intOf x).toNat)
        case atStart => exact ⟨-1, by omega, by omega, rfl, Below.refl _ _⟩
        case round =>
          obtain ⟨z, hz1, hz2, rfl, hbl⟩ := hrel
          clear cx0 cx1
          have bx := BX.out.below hbl
          have cx0 := bx.c0
          have cx1 := bx.c1
          clear bx
          by_cases hzn : z ≤ (n : Int)
          · skip
            have t1 : decide (z ≤ (n : Int)) = true := decide_eq_true hzn
            have hag := again_R (HC.out.below hbl) (RZ.out.below hbl) (by omega) (RA.out.below hbl) (by omega) HLL6.out z
            have HBL := Lib.hid hbl
            clear hbl
            go_wp2_with fail
            refine hag.mono ?_
            clear hag
            rintro e w8 ⟨D8, s8, d8, r8, ev8, rfl, hp8, hr8, hb8⟩
            have hbl := bthen HBL.out hb8
            clear cx0 cx1
            have bx := BX.out.below hbl
            have cx0 := bx.c0
            have cx1 := bx.c1
            have hag := ragain_R hk1 hkn hn2 (RZ.out.below hbl) (by omega) (RA.out.below hbl) (by omega) HLL.out z
            have HBL8 := Lib.hid hbl
            have HP8 := Lib.hid hp8
            have HR8 := Lib.hid hr8
            clear bx hbl hp8 hr8 hb8
            go_wp2_with fail
            refine hag.mono ?_
            clear hag
            rintro e w9 ⟨D9, s9, d9, r9, ev9, rfl, hp9, hr9, hb9⟩
            obtain ⟨rfl, rfl⟩ := again_same hk1 HP8.out hp9
            have hsm := same_R (HR8.out.below hb9) hr9
            have HBL9 := Lib.hid (bthen HBL8.out hb9)
            clear hp9 hr9 hb9
            go_wp2_with fail
            refine hsm.mono ?_
            clear hsm
            rintro e wA ⟨rfl, hbA⟩
            have hbl := bthen HBL9.out hbA
            clear cx0 cx1
            have bx := BX.out.below hbl
            have cx1 := bx.c1
            have HBLA := Lib.hid hbl
            clear bx hbl hbA
            have hquo : (n : Int).tdiv 2 = ((n / 2 : Nat) : Int) := by rw [Int.tdiv_eq_ediv_of_nonneg (by omega)]; omega
            go_wp2_with fail
            exact ⟨⟨z + (1 + ((n / 2 : Nat) : Int)), by omega, by omega, by go_num, HBLA.out⟩, by simp [intOf]; omega⟩
          have t1 : decide (z ≤ (n : Int)) = false := decide_eq_false hzn
          have HBF := Lib.hid (bthen HB.out hbl)
          clear hbl
          go_wp2_with fail
          go_ret
          exact ⟨rfl, HBF.out⟩
  · skip
    have HR := Lib.hid hR
    clear hR
    go_enter Try.func20, Try.ntmps20
    go_wp2_with fail
    rw [← HW0.out, ← HGB.out]
    clear HW0 HGB
    have hcl := wakes09 w0_
    refine hcl.mono ?_
    clear hcl
    rintro e w2_ ⟨rfl, hbel⟩
    replace HB := Lib.hid (bthen HB.out hbel)
    replace RA := Lib.hid (RA.out.below hbel)
    replace RZ := Lib.hid (RZ.out.below hbel)
    replace BX := Lib.hid (BX.out.below hbel)
    clear hbel
    have cx0 := BX.out.c0
    have cx1 := BX.out.c1
    have hcl := code_bad ka nb HR.out w2_
    go_wp2_with fail
    refine hcl.mono ?_
    clear hcl
    rintro e w3_ ⟨rfl, hbel⟩
    replace HB := Lib.hid (bthen HB.out hbel)
    replace RA := Lib.hid (RA.out.below hbel)
    replace RZ := Lib.hid (RZ.out.below hbel)
    replace BX := Lib.hid (BX.out.below hbel)
    clear hbel
    clear cx0 cx1
    have cx0 := BX.out.c0
    have cx1 := BX.out.c1
    have hrr := right9 ka nb w3_
    rw [decide_eq_false HR.out] at hrr
    have hcl := hrr
    go_wp2_with fail
    refine hcl.mono ?_
    clear hcl
    rintro e w4_ ⟨rfl, hbel⟩
    replace HB := Lib.hid (bthen HB.out hbel)
    replace RA := Lib.hid (RA.out.below hbel)
    replace RZ := Lib.hid (RZ.out.below hbel)
    replace BX := Lib.hid (BX.out.below hbel)
    clear hbel
    clear hrr
    clear cx0 cx1
    have cx0 := BX.out.c0
    have cx1 := BX.out.c1
    go_wp2_with fail
    go_ret
    exact ⟨rfl, HB.out⟩
end Go.Proofs.Ytoijjlpkoniipaa
end
