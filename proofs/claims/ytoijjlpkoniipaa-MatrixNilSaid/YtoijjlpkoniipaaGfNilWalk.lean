/- The walks of GfNil and GfLinear. -/
import Derived.Test.YtoijjlpkoniipaaSumBad
import Derived.Test.YtoijjlpkoniipaaRefCallsR
namespace Go.Proofs.Ytoijjlpkoniipaa
open Go.RowKit Go.Proofs.YtoijjlpkoniipaaW.PrintWords Gf Lin

/-- A list of texts, out of its cells. -/
theorem CC_of_cells {w : World} {A : Option Addr} (m : List (List UInt8)) (hn : m.length ≤ 9223372036854775807)
    (h : 0 < m.length → ∃ ad, A = some ad ∧ ∀ j (_ : j < m.length), ∃ B c, w.cell? (ad.add j) = some (.slice B (gr m j).length c) ∧ (gr m j).length ≤ c ∧ KB.C w B (gr m j).length (bs (gr m j))) : KBB.C w A m.length (bss m) := by
  refine ⟨by simp, hn, fun hp => ?_⟩
  obtain ⟨ad, hA, hc⟩ := h hp
  refine ⟨ad, hA, fun j q hj => ?_⟩
  have hjl : j < m.length := by
    have := (List.getElem?_eq_some_iff.1 hj).1
    simpa using this
  have hq : q = bs m[j] := by
    unfold bss at hj
    rw [List.getElem?_map, List.getElem?_eq_getElem hjl] at hj
    simpa using hj.symm
  obtain ⟨B, c, h1, h2, h3⟩ := hc j hjl
  rw [gr_at hjl] at h1 h2 h3
  subst hq
  refine ⟨[.slice B m[j].length c], rfl, ⟨B, c, by rw [bs_length], by rw [bs_length]; exact h2, by rw [bs_length]; exact h3⟩, fun i u hu => ?_⟩
  have hi : i = 0 := by
    have := (List.getElem?_eq_some_iff.1 hu).1
    simpa using this
  subst hi
  simp at hu
  subst hu
  show w.cell? (ad.add (j * 1 + 0)) = _
  rw [Nat.mul_one, Nat.add_zero]; exact h1
/-- A text out of its cells. -/
theorem C_of_cells {w : World} {A : Option Addr} (xs : List UInt8) (hn : xs.length ≤ 9223372036854775807)
    (h : 0 < xs.length → ∃ ad, A = some ad ∧ ∀ j (_ : j < xs.length), w.cell? (ad.add j) = some (.int .u8 ((gb xs j).toNat : Int))) : KB.C w A xs.length (bs xs) := by
  have := C_ints (w := w) (k := .u8) (A := A) (zs := bs xs) (by rw [bs_length]; exact hn) (fun hp => by
    rw [bs_length] at hp
    obtain ⟨ad, hA, hc⟩ := h hp
    refine ⟨ad, hA, fun j hj => ?_⟩
    rw [bs_length] at hj
    rw [hc j hj, gb_at hj]
    simp [bs, hj])
  rwa [bs_length] at this
theorem add_at (g j : Nat) : (⟨g, 0, none⟩ : Addr).add j = ⟨g, j, none⟩ := add_plain g j

set_option maxHeartbeats 4000000 in
theorem GfNil_walk (a b : UInt8) (n : Int) (n0 : -9223372036854775808 ≤ n) (n1 : n ≤ 9223372036854775807) (w : World) :
    Calls Try.prog 9 #[.int .u8 (a.toNat : Int), .int .u8 (b.toNat : Int), .int .i64 n] w fun e w' => e = .returned (.bool true) ∧ Below w.heap.size w w' := by
  go_enter Try.func9, Try.ntmps9
  go_wp2_with fail
  refine (wakes07 _).mono ?_
  rintro e w0 ⟨rfl, hb0⟩
  go_wp2_with fail
  refine (inv_nil _ _).mono ?_
  rintro e w2 ⟨rfl, ⟨m1, rfl⟩⟩
  go_wp2_with fail
  refine (div_nil _ _ _).mono ?_
  rintro e w2 ⟨rfl, ⟨m1, rfl⟩⟩
  go_wp2_with fail
  refine (sum_nil _ _ _ _ _ _ _).mono ?_
  rintro e w2 ⟨rfl, ⟨m1, rfl⟩⟩
  go_wp2_with fail
  refine (mul_nil _ _ _).mono ?_
  rintro e w2 ⟨rfl, ⟨m1, rfl⟩⟩
  go_wp2_with fail
  refine (exp_nil _ _).mono ?_
  rintro e w2 ⟨rfl, ⟨m1, rfl⟩⟩
  go_wp2_with fail
  refine (scale_nil _ _ _ _ _).mono ?_
  rintro e w2 ⟨rfl, ⟨m1, rfl⟩⟩
  go_wp2_with fail
  go_ret
  exact ⟨rfl, by repeat (first | exact hb0 | (refine Below.alloc ?_ (by simp; have := hb0.size; omega) _) | refine pw_below_drewN ?_ _)⟩
/-- Sum's contract, the lengths as letters. -/
theorem sum_okF (g : Nat) (A : Option Addr) (cs : List UInt8) (n c : Nat) (A' : Option Addr) (m : List (List UInt8)) (n' c' : Nat) (w : World) (e1 : cs.length = n) (e2 : m.length = n') (ht : Tab w g) (hg : g < w.heap.size)
    (hr : KB.C w A n (bs cs)) (hc : n ≤ c) (hr' : KBB.C w A' n' (bss m)) (hc' : n' ≤ c') (hl : n = n') (ha : Alike m) (hn : (m.headD []).length ≤ 1000000) :
    Calls Try.prog 33 #[.pointer (some ⟨g, 0, none⟩), .slice A n c, .slice A' n' c'] w fun e w' =>
      ∃ B d, e = .returned (.tuple #[.slice B (sumB cs m).length d, .int .i64 0]) ∧ (sumB cs m).length ≤ d ∧ KB.C w' B (sumB cs m).length (bs (sumB cs m)) ∧ Below w.heap.size w w' := by
  subst e1; subst e2
  exact sum_ok g A cs c A' m c' w ht hg hr hc hr' hc' hl ha hn
theorem scale_F (g : Nat) (a : UInt8) (A : Option Addr) (xs : List UInt8) (n c : Nat) (w : World) (e : xs.length = n) (ht : Tab w g) (hg : g < w.heap.size) (hr : KB.C w A n (bs xs)) (hc : n ≤ c) (hn : n ≤ 1000000) :
    Calls Try.prog 37 #[.pointer (some ⟨g, 0, none⟩), .int .u8 (a.toNat : Int), .slice A n c] w fun e w' =>
      ∃ A' c', e = .returned (.slice A' n c') ∧ n ≤ c' ∧ KB.C w' A' n (bs (scl a xs)) ∧ Below w.heap.size w w' := by
  subst e
  exact scale_calls g a A xs c w ht hg hr hc hn
theorem same_F (A : Option Addr) (xs : List UInt8) (n c : Nat) (A' : Option Addr) (ys : List UInt8) (n' c' : Nat) (w : World) (hr : KB.C w A n (bs xs)) (hc : n ≤ c) (hr' : KB.C w A' n' (bs ys)) (hc' : n' ≤ c') :
    Calls Try.prog 35 #[.slice A n c, .slice A' n' c'] w fun e w' => e = .returned (.bool (decide (xs = ys))) ∧ Drawn0 w w' := by
  have e := C_len hr
  have e' := C_len hr'
  subst e; subst e'
  exact ref_same A xs c A' ys c' w hr hc hr' hc'
theorem same_T (A : Option Addr) (xs : List UInt8) (n c : Nat) (A' : Option Addr) (n' c' : Nat) (w : World) (hr : KB.C w A n (bs xs)) (hc : n ≤ c) (hr' : KB.C w A' n' (bs xs)) (hc' : n' ≤ c') :
    Calls Try.prog 35 #[.slice A n c, .slice A' n' c'] w fun e w' => e = .returned (.bool true) ∧ Drawn0 w w' := by
  have h := same_F A xs n c A' xs n' c' w hr hc hr' hc'
  simpa using h
theorem lin_sum (c d : UInt8) (xs : List UInt8) : sumB [c, d] [xs, xs] = scl (ga c d) xs := by
  apply List.ext_getElem
  · simp [sumB]
  · intro i h1 h2
    simp [sumB] at h1
    simp only [sumB, List.getElem_map, List.getElem_range, scl]
    have e : sumAt [c, d] [xs, xs] [xs, xs].length i = (0 ^^^ gm c xs[i]) ^^^ gm d xs[i] := by
      show (0 ^^^ gm c (gb xs i)) ^^^ gm d (gb xs i) = _
      rw [gb_at h1]
    rw [e]; unfold ga
    rw [xor_gm]; simp
theorem lin_scl (c d : UInt8) (xs : List UInt8) : scl c (scl d xs) = scl (gm c d) xs := by
  unfold scl
  rw [List.map_map]
  apply List.map_congr_left
  intro x _
  exact gm_assoc c d x
theorem two_alike (xs : List UInt8) : Alike [xs, xs] := by intro r hr; simp at hr; simp [hr]

set_option maxHeartbeats 4000000 in
theorem GfLinear_walk (c d : UInt8) (w : World) (A : Option Addr) (xs : List UInt8) (cp : Nat) (hc : xs.length ≤ cp) (hr : KB.C w A xs.length (bs xs)) :
    Calls Try.prog 7 #[.int .u8 (c.toNat : Int), .int .u8 (d.toNat : Int), .slice A xs.length cp] w fun e w' => e = .returned (.bool true) ∧ Below w.heap.size w w' := by
  by_cases hl : 300 < xs.length
  · go_enter Try.func7, Try.ntmps7
    go_wp2_with fail
    refine (wakes07 _).mono ?_
    rintro e w0 ⟨rfl, hb0⟩
    go_wp2_with fail
    go_ret
    exact ⟨rfl, hb0⟩
  · have hx := u8_xor_all c d
    go_enter Try.func7, Try.ntmps7
    go_wp2_with fail
    refine (wakes07 _).mono ?_
    rintro e w0 ⟨rfl, hb0⟩
    go_wp2_with fail
    refine (make_calls _).mono ?_
    rintro e w1 ⟨rfl, ht, hs, hb1⟩
    have hb01 := below_then hb0 hb0.size hb1
    go_wp2_with fail
    have bW : Below w1.heap.size w1 ((w1.alloc (.cells #[.int .u8 (c.toNat : Int), .int .u8 (d.toNat : Int)] 5)).alloc (.cells #[.slice A xs.length cp, .slice A xs.length cp] 35)) :=
      ((Below.refl _ _).alloc (Nat.le_refl _) _).alloc (by simp) _
    have hrW := Kd.C_below (Kd.C_below hr hb01) bW
    have c1 : KB.C ((w1.alloc (.cells #[.int .u8 (c.toNat : Int), .int .u8 (d.toNat : Int)] 5)).alloc (.cells #[.slice A xs.length cp, .slice A xs.length cp] 35)) (some ⟨w1.heap.size, 0, none⟩) [c, d].length (bs [c, d]) :=
      C_of_cells [c, d] (by simp) (fun _ => ⟨_, rfl, fun j hj => by
        rw [add_at, World.cell?_alloc_lt _ _ _ (by simp), World.cell?_alloc_new]
        match j, hj with
        | 0, _ => rfl
        | 1, _ => rfl⟩)
    have c2 : KBB.C ((w1.alloc (.cells #[.int .u8 (c.toNat : Int), .int .u8 (d.toNat : Int)] 5)).alloc (.cells #[.slice A xs.length cp, .slice A xs.length cp] 35)) (some ⟨w1.heap.size + 1, 0, none⟩) [xs, xs].length (bss [xs, xs]) :=
      CC_of_cells [xs, xs] (by simp) (fun _ => ⟨_, rfl, fun j hj => ⟨A, cp, by
        rw [add_at]
        have e := World.cell?_alloc_new (w1.alloc (.cells #[.int .u8 (c.toNat : Int), .int .u8 (d.toNat : Int)] 5)) #[.slice A xs.length cp, .slice A xs.length cp] 35 j
        rw [World.size_alloc] at e
        rw [e]
        match j, hj with
        | 0, _ => rfl
        | 1, _ => rfl, by
        match j, hj with
        | 0, _ => exact hc
        | 1, _ => exact hc, by
        match j, hj with
        | 0, _ => exact hrW
        | 1, _ => exact hrW⟩⟩)
    have htW := ht.below hs bW
    refine (sum_okF _ _ [c, d] 2 2 _ [xs, xs] 2 2 _ rfl rfl htW (by simp; omega) c1 (by omega) c2 (by omega) rfl (two_alike xs) (by simp; omega)).mono ?_
    rintro e w2 ⟨B, dd, rfl, hB, hCB, hb2⟩
    rw [lin_sum, scl_length] at hB hCB ⊢
    have htr := htW.below (by simp; omega) hb2
    have hr2 := Kd.C_below hrW hb2
    have hsz2 : w1.heap.size < w2.heap.size := by have := hb2.size; simp at this; omega
    clear c1 c2
    go_wp2_with fail
    refine (scale_F _ (ga c d) A xs xs.length cp _ rfl htr (by omega) hr2 hc (by omega)).mono ?_
    rintro e w3 ⟨B3, d3, rfl, hB3, hC3, hb3⟩
    have hCB3 := Kd.C_below hCB hb3
    have htr3 := htr.below (by omega) hb3
    have hr3 := Kd.C_below hr2 hb3
    have hsz3 : w1.heap.size < w3.heap.size := by have := hb3.size; omega
    go_wp2_with fail
    refine (same_T B (scl (ga c d) xs) _ dd B3 _ d3 _ hCB3 hB hC3 hB3).mono ?_
    rintro e w4 ⟨rfl, ⟨m4, rfl⟩⟩
    go_wp2_with fail
    refine (scale_F _ d A xs xs.length cp _ rfl (htr3.drewN _) (by simpa using by omega) hr3 hc (by omega)).mono ?_
    rintro e w5 ⟨B5, d5, rfl, hB5, hC5, hb5⟩
    have htr5 := (htr3.drewN m4).below (by simpa using (by omega : w0.heap.size < w3.heap.size)) hb5
    have hr5 : KB.C w5 A xs.length (bs xs) := Kd.C_below (w := w3.drewN m4) hr3 hb5
    have hsz5 : w3.heap.size ≤ w5.heap.size := hb5.size
    go_wp2_with fail
    refine (scale_F _ c B5 (scl d xs) xs.length d5 _ (by simp) htr5 (by omega) hC5 hB5 (by omega)).mono ?_
    rintro e w6 ⟨B6, d6, rfl, hB6, hC6, hb6⟩
    rw [lin_scl] at hC6
    have htr6 := htr5.below (by omega) hb6
    have hr6 := Kd.C_below hr5 hb6
    have hsz6 : w5.heap.size ≤ w6.heap.size := hb6.size
    go_wp2_with fail
    refine (mul_calls _ c d _ htr6).mono ?_
    rintro e w7 ⟨rfl, ⟨m7, rfl⟩⟩
    go_wp2_with fail
    refine (scale_F _ (gm c d) A xs xs.length cp _ rfl (htr6.drewN _) (by simpa using (by omega : w0.heap.size < w6.heap.size)) hr6 hc (by omega)).mono ?_
    rintro e w8 ⟨B8, d8, rfl, hB8, hC8, hb8⟩
    have hC68 : KB.C w8 B6 xs.length (bs (scl (gm c d) xs)) := Kd.C_below (w := w6.drewN m7) hC6 hb8
    go_wp2_with fail
    refine (same_T B6 (scl (gm c d) xs) _ d6 B8 _ d8 _ hC68 hB6 hC8 hB8).mono ?_
    rintro e w9 ⟨rfl, ⟨m9, rfl⟩⟩
    go_wp2_with fail
    go_ret
    have b2 := below_then hb01 hb01.size (bW.trans (hb2.mono (by simp; omega)))
    have b3 := below_then b2 b2.size hb3
    have b5 := below_then (pw_below_drewN b3 m4) (by simpa using b3.size) hb5
    have b6 := below_then b5 b5.size hb6
    have b8 := below_then (pw_below_drewN b6 m7) (by simpa using b6.size) hb8
    exact ⟨rfl, pw_below_drewN b8 _⟩
end Go.Proofs.Ytoijjlpkoniipaa
