/- Joined out of texts of this claim: MatCauchy, MatMul. Each says what it proves, and its conditions. -/
import Derived.Test.YtoijjlpkoniipaaMatsB
set_option linter.unusedVariables false
set_option linter.unusedSimpArgs false
section
/- Matrices: Cauchy. -/
namespace Go.Proofs.Ytoijjlpkoniipaa
open Go.RowKit Go.Proofs.YtoijjlpkoniipaaW.PrintWords Go.Proofs.YtoijjlpkoniipaaW.PrintLast Gf Lin
set_option linter.unusedSimpArgs false
/-- The Cauchy matrix of k columns. -/
def cau (k : Nat) : Lin.M := fun i j => gi (UInt8.ofNat (i + k) ^^^ UInt8.ofNat j)
def cauTo (k i j : Nat) : Lin.M := fun a b => if a < i ∨ (a = i ∧ b < j) then cau k a b else 0
theorem cauTo_step (k i j : Nat) (a b : Nat) : updM (cauTo k i j) i j (cau k i j) a b = cauTo k i (j + 1) a b := by
  unfold updM
  by_cases h1 : a = i ∧ b = j
  · obtain ⟨rfl, rfl⟩ := h1
    rw [if_pos ⟨rfl, rfl⟩]; unfold cauTo; rw [if_pos (.inr ⟨rfl, by omega⟩)]
  · rw [if_neg h1]; unfold cauTo
    by_cases h2 : a < i ∨ (a = i ∧ b < j)
    · rw [if_pos h2, if_pos (by omega)]
    · rw [if_neg h2, if_neg (by omega)]
theorem cauTo_row (k i a b : Nat) (hb : b < k) : cauTo k i k a b = cauTo k (i + 1) 0 a b := by
  unfold cauTo
  by_cases h : a < i ∨ (a = i ∧ b < k)
  · rw [if_pos h, if_pos (by omega)]
  · rw [if_neg h, if_neg (by omega)]
theorem cau_arg {i j k n : Nat} (hi : i < n) (hj : j < k) (h : n + k ≤ 256) : UInt8.ofNat (i + k) ^^^ UInt8.ofNat j ≠ 0 := by
  intro e
  have e2 : UInt8.ofNat (i + k) = UInt8.ofNat j := xor_eq_zero e
  have e3 := congrArg UInt8.toNat e2
  rw [UInt8.toNat_ofNat_of_lt' (by show i + k < 256; omega), UInt8.toNat_ofNat_of_lt' (by show j < 256; omega)] at e3
  omega
theorem cau_xor {i j k n : Nat} (hi : i < n) (hj : j < k) (h : n + k ≤ 256) : bits .xor .u8 ((i : Int) + (k : Int)) (j : Int) = ((UInt8.ofNat (i + k) ^^^ UInt8.ofNat j).toNat : Int) := by
  have := u8_xor_all (UInt8.ofNat (i + k)) (UInt8.ofNat j)
  rw [UInt8.toNat_ofNat_of_lt' (by show i + k < 256; omega), UInt8.toNat_ofNat_of_lt' (by show j < 256; omega)] at this
  rw [show ((i + k : Nat) : Int) = (i : Int) + (k : Int) by omega] at this
  exact this
set_option maxHeartbeats 4000000 in
set_option maxRecDepth 100000 in
theorem cauchy_good (gt : Nat) (n k : Nat) (h1 : 1 ≤ n) (h2 : 1 ≤ k) (h3 : n + k ≤ 256) (w : World) (ht : Tab w gt) (hg : gt < w.heap.size) :
    Calls Try.prog 57 #[.pointer (some ⟨gt, 0, none⟩), .int .i64 (n : Int), .int .i64 (k : Int)] w fun e w' => e = .returned (.tuple #[.slice (some ⟨w.heap.size + 1, 0, none⟩) n n, .int .i64 0]) ∧ Mat w' (w.heap.size + 1) w.heap.size n k id (cau k) ∧ Below w.heap.size w w' ∧ w.heap.size + 2 ≤ w'.heap.size := by
  have hw1 := within_calls (n : Int) w
  rw [show decide ((1 : Int) ≤ (n : Int) ∧ (n : Int) ≤ 255) = true by simp; omega] at hw1
  have hw2 := within_calls (k : Int) w
  rw [show decide ((1 : Int) ≤ (k : Int) ∧ (k : Int) ≤ 255) = true by simp; omega] at hw2
  have hbl := blank_calls n k (by omega) h2 (by omega) w
  have t1 : decide ((n : Int) + (k : Int) > 256) = false := by simp; omega
  have HT := Lib.hid ht
  clear ht
  go_enter Try.func57, Try.ntmps57
  go_wp2_with fail
  refine hw1.mono ?_
  clear hw1
  rintro e w1 ⟨rfl, rfl⟩
  go_wp2_with fail
  refine hw2.mono ?_
  clear hw2
  rintro e w2 ⟨rfl, rfl⟩
  go_wp2_with fail
  refine hbl.mono ?_
  clear hbl
  rintro e w3 ⟨rfl, hm, hb, hs⟩
  have hm0 : Mat w3 (w2.heap.size + 1) w2.heap.size n k id (cauTo k 0 0) := hm.congr (fun i _ j _ => by unfold cauTo; rw [if_neg (by omega)])
  have ht3 : Tab w3 gt := tab_same HT.out (hb.block gt hg)
  obtain ⟨gm, hgm⟩ : ∃ gm, gm = w2.heap.size + 1 := ⟨_, rfl⟩
  obtain ⟨ga, hga⟩ : ∃ ga, ga = w2.heap.size := ⟨_, rfl⟩
  rw [← hgm, ← hga] at hm0
  rw [← hgm]
  have hne : gm ≠ ga := by omega
  have hgt : gt ≠ ga := by omega
  have HGM := Lib.hid hgm
  have HGA := Lib.hid hga
  have HM0 := Lib.hid hm0
  have HB := Lib.hid hb
  have HS := Lib.hid hs
  have HT3 := Lib.hid ht3
  clear hm hm0 hb hs ht3 hgm hga t1
  go_wp2_with fail
  go_loopw [33] (fun z wr => ∃ i : Nat, i ≤ n ∧ z = .int .i64 i ∧ Mat wr gm ga n k id (cauTo k i 0) ∧ Tab wr gt ∧ Below w2.heap.size w2 wr ∧ w2.heap.size + 2 ≤ wr.heap.size) (fun z _ => n - (intOf z).toNat)
  case atStart => exact ⟨0, by omega, rfl, HM0.out, HT3.out, HB.out, HS.out⟩
  case round =>
    obtain ⟨i, hi, rfl, hm, htb, hb, hs⟩ := hrel
    by_cases hin : i < n
    · obtain ⟨wo, hwo⟩ : ∃ wo, wo = wr := ⟨_, rfl⟩
      subst hwo
      have HMI := Lib.hid hm
      have HTI := Lib.hid htb
      have HBI := Lib.hid hb
      have HSI := Lib.hid hs
      have l1 : (0 : Int) ≤ (i : Int) := by omega
      have l2 : (i : Int) < (n : Int) := by omega
      clear hm htb hb hs
      go_wp2_with fail
      go_loopw [37] (fun z wr => ∃ j : Nat, j ≤ k ∧ z = .int .i64 j ∧ Mat wr gm ga n k id (cauTo k i j) ∧ Tab wr gt ∧ Below w2.heap.size w2 wr ∧ w2.heap.size + 2 ≤ wr.heap.size) (fun z _ => k - (intOf z).toNat)
      case atStart => exact ⟨0, by omega, rfl, HMI.out, HTI.out, HBI.out, HSI.out⟩
      case round =>
        obtain ⟨j, hj, rfl, hm, htb0, hb, hs⟩ := hrel
        by_cases hjk : j < k
        · have l3 : (0 : Int) ≤ (j : Int) := by omega
          have l4 : (j : Int) < (k : Int) := by omega
          have h1 := hm.rows i hin
          have hc1 := hm.cells i hin j hjk
          have hfz := hm.fa (id i * k + j)
          have hx0 := cau_arg hin hjk h3
          have hxx := cau_xor hin hjk h3
          have q1 : wrap64 ((i : Int) + (k : Int)) = (i : Int) + (k : Int) := by unfold wrap64; omega
          have q2 : IntKind.u8.wrap ((i : Int) + (k : Int)) = (i : Int) + (k : Int) := by show ((i : Int) + (k : Int)) % 256 = _; omega
          have q3 : IntKind.u8.wrap (j : Int) = (j : Int) := by show (j : Int) % 256 = _; omega
          obtain ⟨x, hx⟩ : ∃ x, x = UInt8.ofNat (i + k) ^^^ UInt8.ofNat j := ⟨_, rfl⟩
          rw [← hx] at hx0 hxx
          obtain ⟨o, ho⟩ : ∃ o, o = id i * k := ⟨_, rfl⟩
          rw [← ho] at h1 hc1 hfz
          have bd : Below wr.heap.size wr wr.drew := ⟨rfl, rfl, rfl, Nat.le_refl _, fun _ _ => rfl⟩
          have htb : Tab wr.drew gt := htb0
          have hset := fun (w6 : World) (hb6 : Below wr.heap.size wr w6) => ((hm.below (by have := HGM.out; omega) (by have := HGA.out; omega) hb6).set (perm_id n) hne hin hjk (gi x))
          have hfin : ∀ w6, Drawn0 wr.drew w6 → Mat (w6.setCell ⟨ga, o + j, none⟩ (.int .u8 ((gi x).toNat : Int))) gm ga n k id (cauTo k i (j + 1)) ∧ Tab (w6.setCell ⟨ga, o + j, none⟩ (.int .u8 ((gi x).toNat : Int))) gt ∧ Below w2.heap.size w2 (w6.setCell ⟨ga, o + j, none⟩ (.int .u8 ((gi x).toNat : Int))) ∧ w2.heap.size + 2 ≤ (w6.setCell ⟨ga, o + j, none⟩ (.int .u8 ((gi x).toNat : Int))).heap.size := fun w6 hd6 => by
            have hb6 := bd.trans hd6.below
            have hmm := hset w6 hb6
            rw [← ho] at hmm
            refine ⟨hmm.congr (fun a _ b _ => by rw [hx]; exact (cauTo_step k i j a b).symm), ?_, ?_, ?_⟩
            · exact tab_same htb0 ((Below.heap_setCell _ _ _ gt hgt).trans (hb6.block gt (by have := HGA.out; omega)))
            · exact Below.setCell (hb.trans (hb6.mono hb.size)) (by show w2.heap.size ≤ ga; rw [HGA.out]; exact Nat.le_refl _) _
            · have := hb6.size; simp; omega
          obtain ⟨old, hold⟩ : ∃ old, wr.cell? ⟨ga, o + j, none⟩ = some old := ⟨_, hc1⟩
          have hstay0 : ∀ w6, Drawn0 wr.drew w6 → w6.cell? ⟨gm, i, none⟩ = some (.slice (some ⟨ga, o, none⟩) k k) ∧ w6.cell? ⟨ga, o + j, none⟩ = some old ∧ w6.frozen? ⟨ga, o + j, none⟩ = false := fun w6 hd6 => by
            have hb6 := bd.trans hd6.below
            exact ⟨pw_cell_below hb6 h1, pw_cell_below hb6 hold, (World.frozen?_of_block (a := ⟨ga, o + j, none⟩) (hb6.block ga (by have := HGA.out; omega))).trans hfz⟩
          have hstay := Lib.hid hstay0
          have HFIN := Lib.hid hfin
          clear hfin hstay0 hset hm htb0 hb hs hc1 hfz hx ho bd hold
          go_wp2
          refine start_ (n := 19) (S := fun w' => w'.cell? ⟨gm, i, none⟩ = some (.slice (some ⟨ga, o, none⟩) k k)) (ds := [18]) #[false, false, false, false, false, false, false, false, false, false, false, false, false, false, false, false, false, false, false] (by kernel_rfl) rfl rfl (h1) (fun hHeld => ?_)
          refine pure_ (i := 0) (N := some 41) (v := ?_) (a' := ?_) #[true, false, false, false, false, false, false, false, false, false, false, false, false, false, false, false, false, false, false] rfl rfl (by kernel_rfl) (fun _ _ _ h => h) (Or.inl ⟨by rfl, ?_⟩) ?_ ?_
          rotate_left
          · intro w'
            go_simp
            with_reducible rfl
          rotate_left
          · simp only [Act.put, List.setIfInBounds_toArray, List.set_cons_zero, List.set_cons_succ, i64_w, i32_w]
            rfl
          refine pure_ (i := 1) (N := some 42) (v := ?_) (a' := ?_) #[true, true, false, false, false, false, false, false, false, false, false, false, false, false, false, false, false, false, false] rfl rfl (by kernel_rfl) (fun _ _ _ h => h) (Or.inl ⟨by rfl, ?_⟩) ?_ ?_
          rotate_left
          · intro w'
            go_simp
            with_reducible rfl
          rotate_left
          · simp only [Act.put, List.setIfInBounds_toArray, List.set_cons_zero, List.set_cons_succ, i64_w, i32_w]
            rfl
          refine pure_ (i := 2) (N := some 43) (v := ?_) (a' := ?_) #[true, true, true, false, false, false, false, false, false, false, false, false, false, false, false, false, false, false, false] rfl rfl (by kernel_rfl) (fun _ _ _ h => h) (Or.inl ⟨by rfl, ?_⟩) ?_ ?_
          rotate_left
          · intro w'
            go_simp
            with_reducible rfl
          rotate_left
          · simp only [Act.put, List.setIfInBounds_toArray, List.set_cons_zero, List.set_cons_succ, i64_w, i32_w]
            rfl
          refine pure_ (i := 4) (N := some 45) (v := ?_) (a' := ?_) #[true, true, true, false, true, false, false, false, false, false, false, false, false, false, false, false, false, false, false] rfl rfl (by kernel_rfl) (fun _ _ _ h => h) (Or.inl ⟨by rfl, ?_⟩) ?_ ?_
          rotate_left
          · intro w'
            go_simp
            with_reducible rfl
          rotate_left
          · simp only [Act.put, List.setIfInBounds_toArray, List.set_cons_zero, List.set_cons_succ, i64_w, i32_w]
            rfl
          refine pure_ (i := 5) (N := some 46) (v := ?_) (a' := ?_) #[true, true, true, false, true, true, false, false, false, false, false, false, false, false, false, false, false, false, false] rfl rfl (by kernel_rfl) (fun _ _ _ h => h) (Or.inl ⟨by rfl, ?_⟩) ?_ ?_
          rotate_left
          · intro w'
            go_simp
            with_reducible rfl
          rotate_left
          · simp only [Act.put, List.setIfInBounds_toArray, List.set_cons_zero, List.set_cons_succ, i64_w, i32_w]
            rfl
          refine pure_ (i := 6) (N := some 47) (v := ?_) (a' := ?_) #[true, true, true, false, true, true, true, false, false, false, false, false, false, false, false, false, false, false, false] rfl rfl (by kernel_rfl) (fun _ _ _ h => h) (Or.inl ⟨by rfl, ?_⟩) ?_ ?_
          rotate_left
          · intro w'
            go_simp
            with_reducible rfl
          rotate_left
          · simp only [Act.put, List.setIfInBounds_toArray, List.set_cons_zero, List.set_cons_succ, i64_w, i32_w]
            rfl
          refine pure_ (i := 7) (N := some 48) (v := ?_) (a' := ?_) #[true, true, true, false, true, true, true, true, false, false, false, false, false, false, false, false, false, false, false] rfl rfl (by kernel_rfl) (fun _ _ _ h => h) (Or.inl ⟨by rfl, ?_⟩) ?_ ?_
          rotate_left
          · intro w'
            go_simp
            with_reducible rfl
          rotate_left
          · simp only [Act.put, List.setIfInBounds_toArray, List.set_cons_zero, List.set_cons_succ, i64_w, i32_w]
            rfl
          refine pure_ (i := 8) (N := some 49) (v := ?_) (a' := ?_) #[true, true, true, false, true, true, true, true, true, false, false, false, false, false, false, false, false, false, false] rfl rfl (by kernel_rfl) (fun _ _ _ h => h) (Or.inl ⟨by rfl, ?_⟩) ?_ ?_
          rotate_left
          · intro w'
            go_simp
            with_reducible rfl
          rotate_left
          · simp only [Act.put, List.setIfInBounds_toArray, List.set_cons_zero, List.set_cons_succ, i64_w, i32_w]
            rfl
          refine pure_ (i := 9) (N := some 50) (v := ?_) (a' := ?_) #[true, true, true, false, true, true, true, true, true, true, false, false, false, false, false, false, false, false, false] rfl rfl (by kernel_rfl) (fun _ _ _ h => h) (Or.inl ⟨by rfl, ?_⟩) ?_ ?_
          rotate_left
          · intro w'
            go_simp
            with_reducible rfl
          rotate_left
          · simp only [Act.put, List.setIfInBounds_toArray, List.set_cons_zero, List.set_cons_succ, i64_w, i32_w]
            rfl
          refine pure_ (i := 10) (N := some 51) (v := ?_) (a' := ?_) #[true, true, true, false, true, true, true, true, true, true, true, false, false, false, false, false, false, false, false] rfl rfl (by kernel_rfl) (fun _ _ _ h => h) (Or.inl ⟨by rfl, ?_⟩) ?_ ?_
          rotate_left
          · intro w'
            go_simp
            with_reducible rfl
          rotate_left
          · simp only [Act.put, List.setIfInBounds_toArray, List.set_cons_zero, List.set_cons_succ, i64_w, i32_w]
            rfl
          refine pure_ (i := 11) (N := some 52) (v := ?_) (a' := ?_) #[true, true, true, false, true, true, true, true, true, true, true, true, false, false, false, false, false, false, false] rfl rfl (by kernel_rfl) (fun _ _ _ h => h) (Or.inl ⟨by rfl, ?_⟩) ?_ ?_
          rotate_left
          · intro w'
            go_simp
            with_reducible rfl
          rotate_left
          · simp only [Act.put, List.setIfInBounds_toArray, List.set_cons_zero, List.set_cons_succ, i64_w, i32_w]
            rfl
          refine pure_ (i := 12) (N := some 53) (v := ?_) (a' := ?_) #[true, true, true, false, true, true, true, true, true, true, true, true, true, false, false, false, false, false, false] rfl rfl (by kernel_rfl) (fun _ _ _ h => h) (Or.inl ⟨by rfl, ?_⟩) ?_ ?_
          rotate_left
          · intro w'
            go_simp
            with_reducible rfl
          rotate_left
          · simp only [Act.put, List.setIfInBounds_toArray, List.set_cons_zero, List.set_cons_succ, i64_w, i32_w]
            rfl
          refine take_ (i := 3) (N := some 44) (v := ?_) (a' := ?_) #[true, true, true, true, true, true, true, true, true, true, true, true, true, false, false, false, false, false, false] rfl rfl (by kernel_rfl) (fun _ _ _ h => h) (Or.inl ⟨by rfl, ?_⟩) hHeld ?_ ?_
          rotate_left
          · intro w' s0
            go_simp
            with_reducible rfl
          rotate_left
          · simp only [Act.put, List.setIfInBounds_toArray, List.set_cons_zero, List.set_cons_succ, i64_w, i32_w]
            rfl
          refine one_ (i := 13) (N := some 54) #[true, true, true, true, true, true, true, true, true, true, true, true, true, true, false, false, false, false, false] rfl rfl (by kernel_rfl) (by decide) (fun K hK => ?_)
          refine goes_ Try.func27 (by kernel_rfl) rfl #[.pointer (some ⟨gt, 0, none⟩), .int .u8 (x.toNat : Int)] (by rfl) rfl rfl (by simp only [List.map_toArray, List.map_cons, List.map_nil]; rfl) ?_
          with_reducible refine ((inv_calls gt x _ htb hx0)).mono ?_
          rintro e w6 ⟨rfl, hdr⟩
          refine ⟨_, rfl, ?_⟩
          obtain ⟨f1, f2, f3⟩ := hstay.out w6 hdr
          have HF := Lib.hid (HFIN.out w6 hdr)
          refine hK.out _ _ (f1) (fun hHeld => ?_)
          clear hK K
          refine norm_ (a' := ?_) ?_ ?_
          rotate_left
          · show Act.put _ (some 54) _ = _
            simp only [Act.put, List.setIfInBounds_toArray, List.set_cons_zero, List.set_cons_succ, i64_w, i32_w]
            rfl
          refine pure_ (i := 14) (N := some 40) (v := ?_) (a' := ?_) #[true, true, true, true, true, true, true, true, true, true, true, true, true, true, true, false, false, false, false] rfl rfl (by kernel_rfl) (fun _ _ _ h => h) (Or.inl ⟨by rfl, ?_⟩) ?_ ?_
          rotate_left
          · intro w'
            go_simp
            with_reducible rfl
          rotate_left
          · simp only [Act.put, List.setIfInBounds_toArray, List.set_cons_zero, List.set_cons_succ, i64_w, i32_w]
            rfl
          refine pure_ (i := 15) (N := some 55) (v := ?_) (a' := ?_) #[true, true, true, true, true, true, true, true, true, true, true, true, true, true, true, true, false, false, false] rfl rfl (by kernel_rfl) (fun _ _ _ h => h) (Or.inl ⟨by rfl, ?_⟩) ?_ ?_
          rotate_left
          · intro w'
            go_simp
            with_reducible rfl
          rotate_left
          · simp only [Act.put, List.setIfInBounds_toArray, List.set_cons_zero, List.set_cons_succ, i64_w, i32_w]
            rfl
          refine pure_ (i := 16) (N := some 56) (v := ?_) (a' := ?_) #[true, true, true, true, true, true, true, true, true, true, true, true, true, true, true, true, true, false, false] rfl rfl (by kernel_rfl) (fun _ _ _ h => h) (Or.inl ⟨by rfl, ?_⟩) ?_ ?_
          rotate_left
          · intro w'
            go_simp
            with_reducible rfl
          rotate_left
          · simp only [Act.put, List.setIfInBounds_toArray, List.set_cons_zero, List.set_cons_succ, i64_w, i32_w]
            rfl
          refine pure_ (i := 17) (N := some 57) (v := ?_) (a' := ?_) #[true, true, true, true, true, true, true, true, true, true, true, true, true, true, true, true, true, true, false] rfl rfl (by kernel_rfl) (fun _ _ _ h => h) (Or.inl ⟨by rfl, ?_⟩) ?_ ?_
          rotate_left
          · intro w'
            go_simp
            with_reducible rfl
          rotate_left
          · simp only [Act.put, List.setIfInBounds_toArray, List.set_cons_zero, List.set_cons_succ, i64_w, i32_w]
            rfl
          refine last_ (i := 18) (N := none) #[true, true, true, true, true, true, true, true, true, true, true, true, true, true, true, true, true, true, true] rfl rfl (by kernel_rfl) (by decide) (fun K hK => ?_)
          refine skip_ (w1 := ?_) (by rfl) rfl ?_ ?_
          rotate_left
          · go_simp
            rfl
          refine hK.out _ _ ?_
          clear hK K
          refine done_ (by kernel_rfl) ?_
          go_wp2
          exact ⟨⟨j + 1, by omega, by go_num, HF.out.1, HF.out.2.1, HF.out.2.2.1, HF.out.2.2.2⟩, by simp [intOf]; omega⟩
        · obtain rfl : k = j := by omega
          have hm' : Mat wr gm ga n k id (cauTo k (i + 1) 0) := hm.congr (fun a _ b hb' => (cauTo_row k i a b hb').symm)
          have HM := Lib.hid hm'
          have HTB := Lib.hid htb0
          have HBB := Lib.hid hb
          have HSS := Lib.hid hs
          clear hm hm' htb0 hb hs
          go_wp2_with fail
          exact ⟨⟨i + 1, by omega, by go_num, HM.out, HTB.out, HBB.out, HSS.out⟩, by simp [intOf]; omega⟩
    · obtain rfl : n = i := by omega
      have hm' : Mat wr gm ga n k id (cau k) := hm.congr (fun a ha b _ => by unfold cauTo; rw [if_pos (.inl ha)])
      rw [HGM.out, HGA.out] at hm'
      have HM := Lib.hid hm'
      have HBB := Lib.hid hb
      have HSS := Lib.hid hs
      have HGM2 := HGM.out
      subst HGM2
      clear hm hm' htb hb hs
      go_wp2_with fail
      go_ret2
      exact ⟨rfl, HM.out, HBB.out, HSS.out⟩
end Go.Proofs.Ytoijjlpkoniipaa
end
section
/- Matrices: Mul. -/
namespace Go.Proofs.Ytoijjlpkoniipaa
open Go.RowKit Go.Proofs.YtoijjlpkoniipaaW.PrintWords Go.Proofs.YtoijjlpkoniipaaW.PrintLast Gf Lin
set_option linter.unusedSimpArgs false
/-- Can two matrices be multiplied? -/
structure Fit (a b : List (List UInt8)) : Prop where
  ra : Rgt a
  rb : Rgt b
  l : (gr a 0).length = b.length
def prod (a b : List (List UInt8)) : List (List UInt8) := rowsOf a.length (gr b 0).length (mul b.length (fn a) (fn b))
noncomputable def docMM (a b : List (List UInt8)) : List (List UInt8) × Int := by
  classical
  exact if Fit a b then (prod a b, 0) else ([], 14)
theorem docMM_ok {a b : List (List UInt8)} (h : Fit a b) : docMM a b = (prod a b, 0) := by unfold docMM; rw [if_pos h]
theorem docMM_no {a b : List (List UInt8)} (h : ¬ Fit a b) : docMM a b = ([], 14) := by unfold docMM; rw [if_neg h]
theorem Rgt.alike {b : List (List UInt8)} (h : Rgt b) : Alike b := by
  intro r hr
  obtain ⟨i, hi, rfl⟩ := List.getElem_of_mem hr
  have h0 := h.all i hi
  rw [gr_at hi] at h0
  rw [h0]
  cases b with
  | nil => simp at hi
  | cons x l => rfl
theorem headD_len {b : List (List UInt8)} (h : Rgt b) : (b.headD []).length = (gr b 0).length := by
  cases b with
  | nil => rfl
  | cons x l => rfl
theorem sumB_at {a b : List (List UInt8)} (h : Rgt b) (i : Nat) {j : Nat} (hj : j < (gr b 0).length) : gb (sumB (gr a i) b) j = mul b.length (fn a) (fn b) i j := by
  unfold sumB
  rw [gb_range _ (by rw [headD_len h]; exact hj)]
  rfl
theorem sumB_length {b : List (List UInt8)} (h : Rgt b) (cs : List UInt8) : (sumB cs b).length = (gr b 0).length := by unfold sumB; rw [List.length_map, List.length_range, headD_len h]
set_option maxHeartbeats 4000000 in
set_option maxRecDepth 100000 in
theorem mmul_good (gt : Nat) (A : Option Addr) (a : List (List UInt8)) (ca : Nat) (B : Option Addr) (b : List (List UInt8)) (cb : Nat) (w : World) (ht : Tab w gt) (hg : gt < w.heap.size) (hra : KBB.C w A a.length (bss a)) (hrb : KBB.C w B b.length (bss b)) (hca : a.length ≤ ca) (hcb : b.length ≤ cb) (hf : Fit a b) :
    Calls Try.prog 60 #[.pointer (some ⟨gt, 0, none⟩), .slice A a.length ca, .slice B b.length cb] w fun e w' => ∃ v, e = .returned (.tuple #[v, .int .i64 0]) ∧ RBB w' v (prod a b) ∧ Below w.heap.size w w' := by
  have hri1 := right_calls A a ca w hra
  have hri2 := right_calls B b cb w hrb
  obtain ⟨ad, B0, c0, rfl, hcell, hcc, _⟩ := C_rowD hra (k := 0) (by have := hf.ra.n1; omega)
  obtain ⟨bd, B1, c1, rfl, hcell1, hcc1, _⟩ := C_rowD hrb (k := 0) (by have := hf.rb.n1; omega)
  have add0 : ad.add 0 = ad := by simp [Addr.add]
  have add1 : bd.add 0 = bd := by simp [Addr.add]
  rw [add0] at hcell
  rw [add1] at hcell1
  have hbl := blank_calls a.length (gr b 0).length hf.ra.n2 hf.rb.c1 hf.rb.c2 w
  rw [hf.l] at hcell
  obtain ⟨n, hn⟩ : ∃ n, n = a.length := ⟨_, rfl⟩
  obtain ⟨k, hk⟩ : ∃ k, k = b.length := ⟨_, rfl⟩
  obtain ⟨c, hc⟩ : ∃ c, c = (gr b 0).length := ⟨_, rfl⟩
  have n1 : 1 ≤ n ∧ n ≤ 255 := by have := hf.ra.n1; have := hf.ra.n2; omega
  have k1 : 1 ≤ k ∧ k ≤ 255 := by have := hf.rb.n1; have := hf.rb.n2; omega
  have c1' : 1 ≤ c ∧ c ≤ 255 := by have := hf.rb.c1; have := hf.rb.c2; omega
  have Hn := Lib.hid hn
  have Hk := Lib.hid hk
  have Hc := Lib.hid hc
  rw [← hn] at hri1 hbl ⊢
  rw [← hk] at hri2 hcell ⊢
  rw [← hc] at hbl hcell1
  have HRA := Lib.hid hra
  have HRB := Lib.hid hrb
  have HF := Lib.hid hf
  have HT := Lib.hid ht
  have tk : ((k : Int) != (k : Int)) = false := by simp
  have i0 : (0 : Int) < (n : Int) := by omega
  have i1 : (0 : Int) < (k : Int) := by omega
  have HCA : Hid (n ≤ ca ∧ k ≤ cb) := Lib.hid ⟨by omega, by omega⟩
  clear hn hk hc hra hrb hf ht hcc hcc1 add0 add1 hca hcb
  go_enter Try.func60, Try.ntmps60
  go_wp2_with fail
  refine hri1.mono ?_
  clear hri1
  rintro e w0 ⟨x, rfl, rfl, hx⟩
  have hxt : x = true := hx.2 HF.out.ra
  subst hxt
  clear hx
  go_wp2_with fail
  refine hri2.mono ?_
  clear hri2
  rintro e w1 ⟨x, rfl, rfl, hx⟩
  have hxt : x = true := hx.2 HF.out.rb
  subst hxt
  clear hx
  go_wp2_with fail
  refine hbl.mono ?_
  clear hbl
  rintro e w3 ⟨rfl, hm, hb, hs⟩
  have hm0 : Mat w3 (w1.heap.size + 1) w1.heap.size n c id (fun x y => if x < 0 then mul k (fn a) (fn b) x y else 0) := hm.congr (fun i _ j _ => by rw [if_neg (by omega)])
  obtain ⟨gm, hgm⟩ : ∃ gm, gm = w1.heap.size + 1 := ⟨_, rfl⟩
  obtain ⟨ga, hga⟩ : ∃ ga, ga = w1.heap.size := ⟨_, rfl⟩
  rw [← hgm, ← hga] at hm0
  rw [← hgm]
  have hne : gm ≠ ga := by omega
  have HGM := Lib.hid hgm
  have HGA := Lib.hid hga
  have HM0 := Lib.hid hm0
  have HB := Lib.hid hb
  have HS := Lib.hid hs
  clear hm hm0 hb hs hgm hga tk hcell hcell1
  go_wp2_with fail
  go_loopw [43] (fun z wr => ∃ i : Nat, i ≤ n ∧ z = .int .i64 i ∧ Mat wr gm ga n c id (fun x y => if x < i then mul k (fn a) (fn b) x y else 0) ∧ Below w1.heap.size w1 wr ∧ w1.heap.size + 2 ≤ wr.heap.size) (fun z _ => n - (intOf z).toNat)
  case atStart => exact ⟨0, by omega, rfl, HM0.out, HB.out, HS.out⟩
  case round =>
    obtain ⟨i, hi, rfl, hm, hb, hs⟩ := hrel
    by_cases hin : i < n
    · obtain ⟨ad', Bi, ci, e, hcl, hcc, hrow⟩ := C_rowD (Kd.C_below HRA.out hb) (k := i) (by have := Hn.out; omega)
      cases e
      have hlen : (gr a i).length = k := by rw [HF.out.ra.all i (by have := Hn.out; omega), HF.out.l, Hk.out]
      have htw : Tab wr gt := tab_same HT.out (hb.block gt hg)
      have hsum := sum_any gt Bi (gr a i) k ci (some bd) b k cb wr htw (by have := hb.size; omega) (by rw [← hlen]; exact hrow) (by rw [← hlen]; exact hcc) (by rw [Hk.out]; exact Kd.C_below HRB.out hb) HCA.out.2 (fun r hr => by
        obtain ⟨t, ht, rfl⟩ := List.getElem_of_mem hr
        rw [← gr_at ht, HF.out.rb.all t ht, ← Hc.out]; omega)
      rw [docSum_ok (by rw [hlen, Hk.out]) HF.out.rb.alike] at hsum
      rw [hlen] at hcl
      have l1 : (0 : Int) ≤ (i : Int) := by omega
      have l2 : (i : Int) < (n : Int) := by omega
      have HM := Lib.hid hm
      have HB2 := Lib.hid hb
      have HS2 := Lib.hid hs
      clear hm hb hs hrow hcc hlen htw
      go_wp2_with fail
      refine hsum.mono ?_
      clear hsum
      rintro e w5 ⟨v, rfl, ⟨As, cs, rfl, hcs, hC⟩, hb5⟩
      have hm5 : Mat w5 gm ga n c id (fun x y => if x < i then mul k (fn a) (fn b) x y else 0) := HM.out.below (by have := HGM.out; have := HS2.out; omega) (by have := HGA.out; have := HS2.out; omega) hb5
      have hsl : (sumB (gr a i) b).length = c := by rw [sumB_length HF.out.rb, ← Hc.out]
      rw [hsl] at hC hcs
      obtain ⟨w6, hcp, hm6, hc6, hs6⟩ := hm5.copyRow (perm_id n) hne hin (cB := cs) hC c1'.1 3
      have hm7 : Mat w6 gm ga n c id (fun x y => if x < i + 1 then mul k (fn a) (fn b) x y else 0) := hm6.congr (fun x hx y hy => by
        by_cases hxi : x = i
        · subst hxi
          rw [if_pos (by omega), if_pos rfl, sumB_at HF.out.rb x (by rw [← Hc.out]; exact hy), ← Hk.out]
        · rw [if_neg hxi]
          by_cases h : x < i
          · rw [if_pos h, if_pos (by omega)]
          · rw [if_neg h, if_neg (by omega)])
      have hb7 : Below w1.heap.size w1 w6 := hc6.below (B := w1.heap.size) (HB2.out.trans (hb5.mono HB2.out.size)) (by have := HB2.out.size; have := hb5.size; omega) (fun x e => by have := HGA.out; omega)
      have hs7 : w1.heap.size + 2 ≤ w6.heap.size := by rw [hs6]; have := HS2.out; have := hb5.size; omega
      have r1 := hm5.rows i hin
      obtain ⟨q, hq⟩ : ∃ q, q = id i * c := ⟨_, rfl⟩
      rw [← hq] at r1 hcp
      have HM7 := Lib.hid hm7
      have HB7 := Lib.hid hb7
      have HS7 := Lib.hid hs7
      rw [hsl]
      clear hm5 hm6 hc6 hs6 hm7 hb7 hs7 hC hcs hb5 hsl hcl hq
      go_wp2_with (at_builtin; refine wpList_copy_run rfl rfl rfl rfl hcp ?_)
      exact ⟨⟨i + 1, by omega, by go_num, HM7.out, HB7.out, HS7.out⟩, by simp [intOf]; omega⟩
    · obtain rfl : n = i := by omega
      have hm' : Mat wr gm ga n c id (mul k (fn a) (fn b)) := hm.congr (fun x hx y _ => by rw [if_pos hx])
      have hrd := hm'.reads (by omega) (by omega)
      have hrbb : RBB wr (.slice (some ⟨gm, 0, none⟩) n n) (prod a b) := by
        have e : prod a b = rowsOf n c (mul k (fn a) (fn b)) := by unfold prod; rw [← Hn.out, ← Hc.out, ← Hk.out]
        rw [e]
        exact ⟨some ⟨gm, 0, none⟩, n, by simp, by simp, by simpa using hrd⟩
      have HR := Lib.hid hrbb
      have HBB := Lib.hid hb
      clear hm hm' hb hs hrd hrbb
      go_wp2_with fail
      go_ret2
      exact ⟨_, rfl, HR.out, HBB.out⟩
end Go.Proofs.Ytoijjlpkoniipaa
end
