/- The walk of GfSums. -/
import Derived.Test.YtoijjlpkoniipaaSumAny
namespace Go.Proofs.Ytoijjlpkoniipaa
open Go.RowKit Go.Proofs.YtoijjlpkoniipaaW.PrintWords Go.Proofs.YtoijjlpkoniipaaW.PrintLast Gf Lin PRsEncode
set_option linter.unusedSimpArgs false

theorem sameall_T (k : Nat) (A : Option Addr) (m : List (List UInt8)) (n c : Nat) (A' : Option Addr) (n' c' : Nat) (w : World) (hr : KBB.C w A n (bss m)) (hc : n ≤ c) (hr' : KBB.C w A' n' (bss m)) (hc' : n' ≤ c') (hx : Rowsle m k) (hk : k ≤ 9223372036854775807) :
    Calls Try.prog 36 #[.slice A n c, .slice A' n' c'] w fun e w' => e = .returned (.bool true) ∧ Drawn0 w w' := by
  have e := CC_len hr
  have e' := CC_len hr'
  subst e; subst e'
  have h := ref_sameall k A m c A' m c' w hr hc hr' hc' hx hk
  simpa using h
theorem info35 : (Try.prog.info? 35).map (fun i => (i.zero, i.size, i.bytes)) = some (some (.slice none 0 0), 1, 24) := by kernel_rfl
theorem info_of {t : TypeId} {z : Option Value} {s b : Nat} (h : (Try.prog.info? t).map (fun i => (i.zero, i.size, i.bytes)) = some (z, s, b)) : ∃ i, Try.prog.info? t = some i ∧ i.size = s := by
  obtain ⟨i, hi, he⟩ := Option.map_eq_some_iff.1 h
  simp only [Prod.mk.injEq] at he
  exact ⟨i, hi, he.2.1⟩

set_option maxHeartbeats 4000000 in
set_option maxRecDepth 100000 in
theorem GfSums_walk (w : World) (A : Option Addr) (cs : List UInt8) (c : Nat) (hc : cs.length ≤ c) (hr : KB.C w A cs.length (bs cs)) (A' : Option Addr) (m : List (List UInt8)) (c' : Nat) (hc' : m.length ≤ c') (hr' : KBB.C w A' m.length (bss m)) :
    Calls Try.prog 6 #[.slice A cs.length c, .slice A' m.length c'] w fun e w' => e = .returned (.bool true) ∧ Below w.heap.size w w' := by
  obtain ⟨i5, hi5, hs5⟩ := info_of info5
  obtain ⟨i35, hi35, hs35⟩ := info_of info35
  by_cases h30 : 30 < cs.length
  · have t1 : decide ((30 : Int) < (cs.length : Int)) = true := decide_eq_true (by omega)
    clear h30
    go_enter Try.func6, Try.ntmps6
    go_wp2_with fail
    refine (wakes07 _).mono ?_
    rintro e w0 ⟨rfl, hb0⟩
    go_wp2_with fail
    go_ret
    exact ⟨rfl, hb0⟩
  · have t1 : decide ((30 : Int) < (cs.length : Int)) = false := decide_eq_false (by omega)
    cases hlong : isLong m 30 100 with
    | true =>
      have HL := Lib.hid hlong
      clear hlong h30
      go_enter Try.func6, Try.ntmps6
      go_wp2_with fail
      refine (wakes07 _).mono ?_
      rintro e w0 ⟨rfl, hb0⟩
      go_wp2_with fail
      refine (ref_long A' m c' 30 100 _ (Kd.C_below hr' hb0) hc').mono ?_
      rintro e w2 ⟨rfl, ⟨m1, rfl⟩⟩
      rw [HL.out]
      go_wp2_with fail
      go_ret
      exact ⟨rfl, pw_below_drewN hb0 _⟩
    | false =>
      obtain ⟨hm30, hm100⟩ := isLong_false hlong
      have HL := Lib.hid hlong
      have HM := Lib.hid hm100
      clear hlong hm100
      go_enter Try.func6, Try.ntmps6
      go_wp2_with fail
      refine (wakes07 _).mono ?_
      rintro e w0 ⟨rfl, hb0⟩
      go_wp2_with fail
      refine (ref_long A' m c' 30 100 _ (Kd.C_below hr' hb0) hc').mono ?_
      rintro e w2 ⟨rfl, ⟨m1, rfl⟩⟩
      rw [HL.out]
      go_wp2_with fail
      refine (make_calls _).mono ?_
      rintro e w1 ⟨rfl, ht, hs, hb1⟩
      have b1 := below_then (pw_below_drewN hb0 m1) (by simpa using hb0.size) hb1
      have hr1 := Kd.C_below hr b1
      have hr1' := Kd.C_below hr' b1
      simp at ht hs
      go_wp2_with fail
      refine (ref_copy A' m c' _ hr1' hc' (by omega) (fun r h => by have := HM.out r h; omega)).mono ?_
      rintro e w2 ⟨A2, c2, rfl, hc2, hr2, hb2⟩
      have ht2 := ht.below hs hb2
      have b2 := below_then b1 b1.size hb2
      have hs2 : w0.heap.size < w2.heap.size := by have := hb2.size; omega
      go_wp2_with fail
      refine (sum_any _ A cs cs.length c A2 m m.length c2 _ ht2 hs2 (Kd.C_below hr b2) hc hr2 hc2 (fun r h => by have := HM.out r h; omega)).mono ?_
      rintro e w3 ⟨v3, rfl, hv3, hb3⟩
      obtain ⟨B3, d3, rfl, hd3, hC3⟩ := hv3
      have b3 := below_then b2 b2.size hb3
      have ht3 := ht2.below hs2 hb3
      have hs3 : w0.heap.size < w3.heap.size := by have := hb3.size; omega
      have hr3' := Kd.C_below hr2 hb3
      go_wp2_with fail
      refine (ref_sum_any A cs cs.length c A' m m.length c' _ (Kd.C_below hr b3) hc (Kd.C_below hr' b3) hc' (by omega) (fun r h => by have := HM.out r h; omega)).mono ?_
      rintro e w4 ⟨v4, rfl, hv4, hb4⟩
      obtain ⟨B4, d4, rfl, hd4, hC4⟩ := hv4
      have b4 := below_then b3 b3.size hb4
      have ht4 := ht3.below hs3 hb4
      have hs4 : w0.heap.size < w4.heap.size := by have := hb4.size; omega
      have hr4' := Kd.C_below hr3' hb4
      have hC3' := Kd.C_below hC3 hb4
      go_wp2_with fail
      refine (same_T B3 (docSum cs m).1 _ d3 B4 _ d4 _ hC3' hd3 hC4 hd4).mono ?_
      rintro e w5 ⟨rfl, ⟨m5, rfl⟩⟩
      go_wp2_with fail
      refine (sameall_T 100 A2 m _ c2 A' _ c' _ (Kd.C_drewN hr4' _) hc2 (Kd.C_drewN (Kd.C_below hr' b4) _) hc' HM.out (by omega)).mono ?_
      rintro e w5 ⟨rfl, ⟨m6, rfl⟩⟩
      have b5 : Below w.heap.size w (w4.drewN (m5 + m6)) := pw_below_drewN b4 _
      have hs5' : w0.heap.size < (w4.drewN (m5 + m6)).heap.size := by simpa using hs4
      have ht5 : Tab (w4.drewN (m5 + m6)) w0.heap.size := ht4
      clear hC3 hC4 hC3' hr4' hr3' hr2 ht4 ht3 ht2 hb4 hb3 hb2 b4 b3 b2
      go_wp2_with fail
      go_loopw [56] (fun i wr => ∃ k : Nat, k ≤ cs.length ∧ i = .int .i64 k ∧ Below w.heap.size w wr ∧ Tab wr w0.heap.size ∧ w0.heap.size < wr.heap.size) (fun i _ => cs.length - (intOf i).toNat)
      case atStart => exact ⟨0, by omega, rfl, b5, ht5, hs5'⟩
      case round =>
        clear b5 ht5 hs5' hb1 hb0 b1 hr1 hr1' ht hs hs2 hs3 hs4
        obtain ⟨k, hk, rfl, hb, ht, hs⟩ := hrel
        by_cases hlt : k < cs.length
        · by_cases hltm : k < m.length
          · have t2 : decide ((k : Int) < (m.length : Int)) = true := decide_eq_true (by omega)
            obtain ⟨adc, rfl, hcc⟩ := C_byteD hr hlt
            obtain ⟨adm, B, cB, rfl, hcm, hcB, hrow⟩ := C_rowD hr' hltm
            have hlk : (gr m k).length ≤ 100 := by rw [gr_at hltm]; exact HM.out _ (List.getElem_mem _)
            have c1 := C_mid (Kd.C_below hr hb) hlt
            have c2 := CC_mid (Kd.C_below hr' hb) hltm
            go_wp2
            have q1 : ((k : Int) + 1).toNat = k + 1 := by omega
            have q2 : ¬ c = k := by omega
            have q3 : ¬ c' = k := by omega
            have q4 : (0 : Int) ≤ (k : Int) + 1 := by omega
            have q5 : (k : Int) + 1 ≤ (c : Int) := by omega
            have q6 : (k : Int) + 1 ≤ (c' : Int) := by omega
            have q7 : 1 ≤ c - k := by omega
            have q8 : 1 ≤ c' - k := by omega
            have hwk : wrap64 ((k : Int) + 1) = (k : Int) + 1 := by unfold wrap64; omega
            refine start_ (n := 16) (S := fun w' => True) (ds := []) #[false, false, false, false, false, false, false, false, false, false, false, false, false, false, false, false] (by kernel_rfl) rfl rfl trivial (fun hHeld => ?_)
            refine pure_ (i := 0) (N := some 64) (v := ?_) (a' := ?_) #[true, false, false, false, false, false, false, false, false, false, false, false, false, false, false, false] rfl rfl (by kernel_rfl) (fun _ _ _ h => h) (Or.inl ⟨by rfl, ?_⟩) ?_ ?_
            rotate_left
            · intro w'
              go_simp
              with_reducible rfl
            rotate_left
            · simp only [Act.put, List.setIfInBounds_toArray, List.set_cons_zero, List.set_cons_succ, i64_w, i32_w]
              rfl
            refine pure_ (i := 1) (N := some 65) (v := ?_) (a' := ?_) #[true, true, false, false, false, false, false, false, false, false, false, false, false, false, false, false] rfl rfl (by kernel_rfl) (fun _ _ _ h => h) (Or.inl ⟨by rfl, ?_⟩) ?_ ?_
            rotate_left
            · intro w'
              go_simp
              with_reducible rfl
            rotate_left
            · simp only [Act.put, List.setIfInBounds_toArray, List.set_cons_zero, List.set_cons_succ, i64_w, i32_w]
              rfl
            refine pure_ (i := 2) (N := some 66) (v := ?_) (a' := ?_) #[true, true, true, false, false, false, false, false, false, false, false, false, false, false, false, false] rfl rfl (by kernel_rfl) (fun _ _ _ h => h) (Or.inl ⟨by rfl, ?_⟩) ?_ ?_
            rotate_left
            · intro w'
              go_simp
              with_reducible rfl
            rotate_left
            · simp only [Act.put, List.setIfInBounds_toArray, List.set_cons_zero, List.set_cons_succ, i64_w, i32_w]
              rfl
            refine pure_ (i := 3) (N := some 67) (v := ?_) (a' := ?_) #[true, true, true, true, false, false, false, false, false, false, false, false, false, false, false, false] rfl rfl (by kernel_rfl) (fun _ _ _ h => h) (Or.inl ⟨by rfl, ?_⟩) ?_ ?_
            rotate_left
            · intro w'
              go_simp
              with_reducible rfl
            rotate_left
            · simp only [Act.put, List.setIfInBounds_toArray, List.set_cons_zero, List.set_cons_succ, i64_w, i32_w]
              rfl
            refine pure_ (i := 4) (N := some 68) (v := ?_) (a' := ?_) #[true, true, true, true, true, false, false, false, false, false, false, false, false, false, false, false] rfl rfl (by kernel_rfl) (fun _ _ _ h => h) (Or.inl ⟨by rfl, ?_⟩) ?_ ?_
            rotate_left
            · intro w'
              go_simp
              with_reducible rfl
            rotate_left
            · simp only [Act.put, List.setIfInBounds_toArray, List.set_cons_zero, List.set_cons_succ, i64_w, i32_w]
              rfl
            refine pure_ (i := 5) (N := some 69) (v := ?_) (a' := ?_) #[true, true, true, true, true, true, false, false, false, false, false, false, false, false, false, false] rfl rfl (by kernel_rfl) (fun _ _ _ h => h) (Or.inl ⟨by rfl, ?_⟩) ?_ ?_
            rotate_left
            · intro w'
              go_simp
              with_reducible rfl
            rotate_left
            · simp only [Act.put, List.setIfInBounds_toArray, List.set_cons_zero, List.set_cons_succ, i64_w, i32_w]
              rfl
            refine pure_ (i := 6) (N := some 70) (v := ?_) (a' := ?_) #[true, true, true, true, true, true, true, false, false, false, false, false, false, false, false, false] rfl rfl (by kernel_rfl) (fun _ _ _ h => h) (Or.inl ⟨by rfl, ?_⟩) ?_ ?_
            rotate_left
            · intro w'
              go_simp
              with_reducible rfl
            rotate_left
            · simp only [Act.put, List.setIfInBounds_toArray, List.set_cons_zero, List.set_cons_succ, i64_w, i32_w]
              rfl
            refine pure_ (i := 7) (N := some 71) (v := ?_) (a' := ?_) #[true, true, true, true, true, true, true, true, false, false, false, false, false, false, false, false] rfl rfl (by kernel_rfl) (fun _ _ _ h => h) (Or.inl ⟨by rfl, ?_⟩) ?_ ?_
            rotate_left
            · intro w'
              go_simp
              with_reducible rfl
            rotate_left
            · simp only [Act.put, List.setIfInBounds_toArray, List.set_cons_zero, List.set_cons_succ, i64_w, i32_w]
              rfl
            refine pure_ (i := 8) (N := some 72) (v := ?_) (a' := ?_) #[true, true, true, true, true, true, true, true, true, false, false, false, false, false, false, false] rfl rfl (by kernel_rfl) (fun _ _ _ h => h) (Or.inl ⟨by rfl, ?_⟩) ?_ ?_
            rotate_left
            · intro w'
              go_simp
              with_reducible rfl
            rotate_left
            · simp only [Act.put, List.setIfInBounds_toArray, List.set_cons_zero, List.set_cons_succ, i64_w, i32_w]
              rfl
            refine pure_ (i := 9) (N := some 73) (v := ?_) (a' := ?_) #[true, true, true, true, true, true, true, true, true, true, false, false, false, false, false, false] rfl rfl (by kernel_rfl) (fun _ _ _ h => h) (Or.inl ⟨by rfl, ?_⟩) ?_ ?_
            rotate_left
            · intro w'
              go_simp
              with_reducible rfl
            rotate_left
            · simp only [Act.put, List.setIfInBounds_toArray, List.set_cons_zero, List.set_cons_succ, i64_w, i32_w]
              rfl
            clear hwk
            refine one_ (i := 10) (N := some 74) #[true, true, true, true, true, true, true, true, true, true, true, false, false, false, false, false] rfl rfl (by kernel_rfl) (by decide) (fun K hK => ?_)
            refine goes_ Try.func34 (by kernel_rfl) rfl #[.slice (some (adc.add k)) 1 (c - k), .slice (some (adm.add k)) 1 (c' - k)] (by rfl) rfl rfl (by simp only [List.map_toArray, List.map_cons, List.map_nil]; rfl) ?_
            with_reducible refine (ref_sum_any _ [gb cs k] 1 (c - k) _ [gr m k] 1 (c' - k) _ (Kd.C_drew c1) q7 (Kd.C_drew c2) q8 (by simp) (by intro r hr; simp at hr; rw [hr]; omega)).mono ?_
            rintro e w3 ⟨v3, rfl, ⟨B3, d3, rfl, hd3, hC3⟩, hb3⟩
            refine ⟨_, rfl, ?_⟩
            refine hK.out _ _ trivial (fun hHeld => ?_)
            clear hK K
            refine norm_ (a' := ?_) ?_ ?_
            rotate_left
            · show Act.put _ (some 74) _ = _
              simp only [Act.put, List.setIfInBounds_toArray, List.set_cons_zero, List.set_cons_succ, i64_w, i32_w]
              rfl
            refine pure_ (i := 11) (N := some 63) (v := ?_) (a' := ?_) #[true, true, true, true, true, true, true, true, true, true, true, true, false, false, false, false] rfl rfl (by kernel_rfl) (fun _ _ _ h => h) (Or.inl ⟨by rfl, ?_⟩) ?_ ?_
            rotate_left
            · intro w'
              go_simp
              with_reducible rfl
            rotate_left
            · simp only [Act.put, List.setIfInBounds_toArray, List.set_cons_zero, List.set_cons_succ, i64_w, i32_w]
              rfl
            refine pure_ (i := 12) (N := some 75) (v := ?_) (a' := ?_) #[true, true, true, true, true, true, true, true, true, true, true, true, true, false, false, false] rfl rfl (by kernel_rfl) (fun _ _ _ h => h) (Or.inl ⟨by rfl, ?_⟩) ?_ ?_
            rotate_left
            · intro w'
              go_simp
              with_reducible rfl
            rotate_left
            · simp only [Act.put, List.setIfInBounds_toArray, List.set_cons_zero, List.set_cons_succ, i64_w, i32_w]
              rfl
            refine pure_ (i := 13) (N := some 76) (v := ?_) (a' := ?_) #[true, true, true, true, true, true, true, true, true, true, true, true, true, true, false, false] rfl rfl (by kernel_rfl) (fun _ _ _ h => h) (Or.inl ⟨by rfl, ?_⟩) ?_ ?_
            rotate_left
            · intro w'
              go_simp
              with_reducible rfl
            rotate_left
            · simp only [Act.put, List.setIfInBounds_toArray, List.set_cons_zero, List.set_cons_succ, i64_w, i32_w]
              rfl
            refine pure_ (i := 14) (N := some 12) (v := ?_) (a' := ?_) #[true, true, true, true, true, true, true, true, true, true, true, true, true, true, true, false] rfl rfl (by kernel_rfl) (fun _ _ _ h => h) (Or.inl ⟨by rfl, ?_⟩) ?_ ?_
            rotate_left
            · intro w'
              go_simp
              with_reducible rfl
            rotate_left
            · simp only [Act.put, List.setIfInBounds_toArray, List.set_cons_zero, List.set_cons_succ, i64_w, i32_w]
              rfl
            refine pure_ (i := 15) (N := some 13) (v := ?_) (a' := ?_) #[true, true, true, true, true, true, true, true, true, true, true, true, true, true, true, true] rfl rfl (by kernel_rfl) (fun _ _ _ h => h) (Or.inl ⟨by rfl, ?_⟩) ?_ ?_
            rotate_left
            · intro w'
              go_simp
              with_reducible rfl
            rotate_left
            · simp only [Act.put, List.setIfInBounds_toArray, List.set_cons_zero, List.set_cons_succ, i64_w, i32_w]
              rfl
            refine done_ (by kernel_rfl) ?_
            have hb3w : Below wr.heap.size wr w3 := (below_drew (Below.refl _ _)).trans hb3
            have hb3' : Below w.heap.size w w3 := below_then hb hb.size hb3w
            have ht3 : Tab w3 w0.heap.size := ht.below hs hb3w
            have hs3 : w0.heap.size < w3.heap.size := by have := hb3w.size; omega
            have hcc3 := pw_cell_below hb3' hcc
            have hcm3 := pw_cell_below hb3' hcm
            have hrow3 := Kd.C_below hrow hb3'
            rw [one_sum] at hC3 hd3 ⊢
            simp only [scl_length] at hC3 hd3
            have ht3d : Tab w3.drew w0.heap.size := ht3
            have i1 : (0 : Int) ≤ (k : Int) := by omega
            have i2 : (k : Int) < (cs.length : Int) := by omega
            have i3 : (k : Int) < (m.length : Int) := by omega
            go_wp2
            refine start_ (n := 13) (S := fun w' => w'.cell? (adc.add k) = some (.int .u8 ((gb cs k).toNat : Int)) ∧ w'.cell? (adm.add k) = some (.slice B (gr m k).length cB)) (ds := []) #[false, false, false, false, false, false, false, false, false, false, false, false, false] (by kernel_rfl) rfl rfl ⟨hcc3, hcm3⟩ (fun hHeld => ?_)
            refine pure_ (i := 0) (N := some 77) (v := ?_) (a' := ?_) #[true, false, false, false, false, false, false, false, false, false, false, false, false] rfl rfl (by kernel_rfl) (fun _ _ _ h => h) (Or.inl ⟨by rfl, ?_⟩) ?_ ?_
            rotate_left
            · intro w'
              go_simp
              with_reducible rfl
            rotate_left
            · simp only [Act.put, List.setIfInBounds_toArray, List.set_cons_zero, List.set_cons_succ, i64_w, i32_w]
              rfl
            refine pure_ (i := 1) (N := some 78) (v := ?_) (a' := ?_) #[true, true, false, false, false, false, false, false, false, false, false, false, false] rfl rfl (by kernel_rfl) (fun _ _ _ h => h) (Or.inl ⟨by rfl, ?_⟩) ?_ ?_
            rotate_left
            · intro w'
              go_simp
              with_reducible rfl
            rotate_left
            · simp only [Act.put, List.setIfInBounds_toArray, List.set_cons_zero, List.set_cons_succ, i64_w, i32_w]
              rfl
            refine pure_ (i := 2) (N := some 79) (v := ?_) (a' := ?_) #[true, true, true, false, false, false, false, false, false, false, false, false, false] rfl rfl (by kernel_rfl) (fun _ _ _ h => h) (Or.inl ⟨by rfl, ?_⟩) ?_ ?_
            rotate_left
            · intro w'
              go_simp
              with_reducible rfl
            rotate_left
            · simp only [Act.put, List.setIfInBounds_toArray, List.set_cons_zero, List.set_cons_succ, i64_w, i32_w]
              rfl
            refine pure_ (i := 3) (N := some 80) (v := ?_) (a' := ?_) #[true, true, true, true, false, false, false, false, false, false, false, false, false] rfl rfl (by kernel_rfl) (fun _ _ _ h => h) (Or.inl ⟨by rfl, ?_⟩) ?_ ?_
            rotate_left
            · intro w'
              go_simp
              with_reducible rfl
            rotate_left
            · simp only [Act.put, List.setIfInBounds_toArray, List.set_cons_zero, List.set_cons_succ, i64_w, i32_w]
              rfl
            refine pure_ (i := 5) (N := some 82) (v := ?_) (a' := ?_) #[true, true, true, true, false, true, false, false, false, false, false, false, false] rfl rfl (by kernel_rfl) (fun _ _ _ h => h) (Or.inl ⟨by rfl, ?_⟩) ?_ ?_
            rotate_left
            · intro w'
              go_simp
              with_reducible rfl
            rotate_left
            · simp only [Act.put, List.setIfInBounds_toArray, List.set_cons_zero, List.set_cons_succ, i64_w, i32_w]
              rfl
            refine pure_ (i := 6) (N := some 83) (v := ?_) (a' := ?_) #[true, true, true, true, false, true, true, false, false, false, false, false, false] rfl rfl (by kernel_rfl) (fun _ _ _ h => h) (Or.inl ⟨by rfl, ?_⟩) ?_ ?_
            rotate_left
            · intro w'
              go_simp
              with_reducible rfl
            rotate_left
            · simp only [Act.put, List.setIfInBounds_toArray, List.set_cons_zero, List.set_cons_succ, i64_w, i32_w]
              rfl
            refine pure_ (i := 7) (N := some 84) (v := ?_) (a' := ?_) #[true, true, true, true, false, true, true, true, false, false, false, false, false] rfl rfl (by kernel_rfl) (fun _ _ _ h => h) (Or.inl ⟨by rfl, ?_⟩) ?_ ?_
            rotate_left
            · intro w'
              go_simp
              with_reducible rfl
            rotate_left
            · simp only [Act.put, List.setIfInBounds_toArray, List.set_cons_zero, List.set_cons_succ, i64_w, i32_w]
              rfl
            refine pure_ (i := 10) (N := some 87) (v := ?_) (a' := ?_) #[true, true, true, true, false, true, true, true, false, false, true, false, false] rfl rfl (by kernel_rfl) (fun _ _ _ h => h) (Or.inl ⟨by rfl, ?_⟩) ?_ ?_
            rotate_left
            · intro w'
              go_simp
              with_reducible rfl
            rotate_left
            · simp only [Act.put, List.setIfInBounds_toArray, List.set_cons_zero, List.set_cons_succ, i64_w, i32_w]
              rfl
            refine take_ (i := 4) (N := some 81) (v := ?_) (a' := ?_) #[true, true, true, true, true, true, true, true, false, false, true, false, false] rfl rfl (by kernel_rfl) (fun _ _ _ h => h) (Or.inl ⟨by rfl, ?_⟩) hHeld ?_ ?_
            rotate_left
            · rintro w' ⟨s0, s1⟩
              go_simp
              with_reducible rfl
            rotate_left
            · simp only [Act.put, List.setIfInBounds_toArray, List.set_cons_zero, List.set_cons_succ, i64_w, i32_w]
              rfl
            refine take_ (i := 8) (N := some 85) (v := ?_) (a' := ?_) #[true, true, true, true, true, true, true, true, true, false, true, false, false] rfl rfl (by kernel_rfl) (fun _ _ _ h => h) (Or.inl ⟨by rfl, ?_⟩) hHeld ?_ ?_
            rotate_left
            · rintro w' ⟨s0, s1⟩
              go_simp
              with_reducible rfl
            rotate_left
            · simp only [Act.put, List.setIfInBounds_toArray, List.set_cons_zero, List.set_cons_succ, i64_w, i32_w]
              rfl
            refine one_ (i := 9) (N := some 86) #[true, true, true, true, true, true, true, true, true, true, true, false, false] rfl rfl (by kernel_rfl) (by decide) (fun K hK => ?_)
            refine goes_ Try.func37 (by kernel_rfl) rfl #[.pointer (some ⟨w0.heap.size, 0, none⟩), .int .u8 ((gb cs k).toNat : Int), .slice B (gr m k).length cB] (by rfl) rfl rfl (by simp only [List.map_toArray, List.map_cons, List.map_nil]; rfl) ?_
            with_reducible refine (scale_F _ (gb cs k) B (gr m k) (gr m k).length cB _ rfl ht3d (by simpa using hs3) (Kd.C_drew hrow3) hcB (by omega)).mono ?_
            rintro e w4 ⟨B4, d4, rfl, hd4, hC4, hb4⟩
            refine ⟨_, rfl, ?_⟩
            refine hK.out _ _ ⟨pw_cell_below hb4 hcc3, pw_cell_below hb4 hcm3⟩ (fun hHeld => ?_)
            clear hK K
            refine norm_ (a' := ?_) ?_ ?_
            rotate_left
            · show Act.put _ (some 86) _ = _
              simp only [Act.put, List.setIfInBounds_toArray, List.set_cons_zero, List.set_cons_succ, i64_w, i32_w]
              rfl
            refine one_ (i := 11) (N := some 88) #[true, true, true, true, true, true, true, true, true, true, true, true, false] rfl rfl (by kernel_rfl) (by decide) (fun K hK => ?_)
            refine goes_ Try.func35 (by kernel_rfl) rfl #[.slice B4 (gr m k).length d4, .slice B3 (gr m k).length d3] (by rfl) rfl rfl (by simp only [List.map_toArray, List.map_cons, List.map_nil]; rfl) ?_
            with_reducible refine (same_T B4 (scl (gb cs k) (gr m k)) _ d4 B3 _ d3 _ hC4 hd4 (Kd.C_below (w := w3.drew) (Kd.C_drew hC3) hb4) hd3).mono ?_
            rintro e w5 ⟨rfl, ⟨m5, rfl⟩⟩
            refine ⟨_, rfl, ?_⟩
            refine hK.out _ _ ⟨pw_cell_below hb4 hcc3, pw_cell_below hb4 hcm3⟩ (fun hHeld => ?_)
            clear hK K
            refine norm_ (a' := ?_) ?_ ?_
            rotate_left
            · show Act.put _ (some 88) _ = _
              simp only [Act.put, List.setIfInBounds_toArray, List.set_cons_zero, List.set_cons_succ, i64_w, i32_w]
              rfl
            refine pure_ (i := 12) (N := some 89) (v := ?_) (a' := ?_) #[true, true, true, true, true, true, true, true, true, true, true, true, true] rfl rfl (by kernel_rfl) (fun _ _ _ h => h) (Or.inl ⟨by rfl, ?_⟩) ?_ ?_
            rotate_left
            · intro w'
              go_simp
              with_reducible rfl
            rotate_left
            · simp only [Act.put, List.setIfInBounds_toArray, List.set_cons_zero, List.set_cons_succ, i64_w, i32_w]
              rfl
            refine done_ (by kernel_rfl) ?_
            have b4 : Below w.heap.size w w4 := below_then (below_drew hb3') (by simpa using hb3'.size) hb4
            have ht4 : Tab w4 w0.heap.size := Tab.below (w := w3.drew) ht3 (by simpa using hs3) hb4
            have hs4 : w0.heap.size < w4.heap.size := by have := hb4.size; simp at this; omega
            go_wp2
            exact ⟨⟨k + 1, by omega, by go_num, pw_below_drewN b4 _, ht4.drewN _, by simpa using hs4⟩, by simp [intOf]; omega⟩
          · have t2 : decide ((k : Int) < (m.length : Int)) = false := decide_eq_false (by omega)
            go_wp2
            exact ⟨⟨k + 1, by omega, by go_num, hb, ht, hs⟩, by simp [intOf]; omega⟩
        · go_wp2
          go_ret
          exact ⟨rfl, hb⟩
end Go.Proofs.Ytoijjlpkoniipaa
