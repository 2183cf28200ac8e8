/- Sum where its texts are not all of one length, or not as many as coefficients: refused. -/
import Derived.Test.YtoijjlpkoniipaaSum
import Derived.Test.YtoijjlpkoniipaaLin
import Derived.Deep.RegionHeld3
import Derived.OrdersHeld
import Derived.Test.YtoijjlpkoniipaaWLast
namespace Go.Proofs.Ytoijjlpkoniipaa
open Go.RowKit Go.Proofs.YtoijjlpkoniipaaW.PrintWords Go.Proofs.YtoijjlpkoniipaaW.PrintLast Gf Lin
set_option linter.unusedSimpArgs false

set_option maxHeartbeats 4000000 in
set_option maxRecDepth 100000 in
theorem sum_bad (g : Nat) (A : Option Addr) (cs : List UInt8) (c : Nat) (A' : Option Addr) (m : List (List UInt8)) (c' : Nat) (w : World) (ht : Tab w g) (hg : g < w.heap.size)
    (hr : KB.C w A cs.length (bs cs)) (hc : cs.length ≤ c) (hr' : KBB.C w A' m.length (bss m)) (hc' : m.length ≤ c') (hl : cs.length = m.length) (b : Nat) (hb0 : 0 < b) (hbm : b < m.length) (hrows : ∀ i, i < b → (gr m i).length = (gr m 0).length) (hbad : (gr m b).length ≠ (gr m 0).length) (hn : (gr m 0).length ≤ 1000000) :
    Calls Try.prog 33 #[.pointer (some ⟨g, 0, none⟩), .slice A cs.length c, .slice A' m.length c'] w fun e w' =>
      e = .returned (.tuple #[.slice none 0 0, .int .i64 14]) ∧ Below w.heap.size w w' := by
  obtain ⟨L, hL⟩ : ∃ L, L = (gr m 0).length := ⟨_, rfl⟩
  have hmk := print_make 35 5 .u8 1 Try.underlying35 info5 (by omega) L (by omega)
  have t1 : ((cs.length : Int) != (m.length : Int)) = false := by rw [hl]; simp
  have hnL : L ≤ 1000000 := by omega
  have hmm : m.length ≤ 9223372036854775807 := hr'.2.1
  have hbadL : (((gr m b).length : Int) != (L : Int)) = true := by rw [bne_iff_ne, hL]; omega
  have HB := Lib.hid hbadL
  clear hbadL
  have HL := Lib.hid hL
  have Hrows := Lib.hid hrows
  clear hrows hbad
  have Hl := Lib.hid hl
  clear hL hl
  go_enter Try.func33, Try.ntmps33
  go_wp2
  go_loopw [8, 24] (fun v i wr => ∃ k : Nat, k ≤ b ∧ i = .int .i64 k ∧ wr.ownsRow w.heap.size 5 1 v (if k = 0 then 0 else L) (nums .u8 (bs (upTo (if k = 0 then 0 else L) L (sumAt cs m k)))) ∧ Below w.heap.size w wr) (fun _ i _ => m.length - (intOf i).toNat)
  case atStart =>
    refine ⟨0, by omega, rfl, ?_, Below.refl _ _⟩
    exact own_nil _ _ _ _
  case round =>
    obtain ⟨k, hk, rfl, ho, hb⟩ := hrel
    have hltm : k < m.length := by omega
    by_cases hlt : k < b
    · obtain ⟨ad, B, cb, rfl, hcell, hcb, hrow⟩ := C_rowD hr' hltm
      obtain ⟨ad0, B0, cb0, e0, hcell0, hcb0, hrow0⟩ := C_rowD hr' (show 0 < m.length by omega)
      cases e0
      obtain ⟨adc, rfl, hcoef⟩ := C_byteD hr (show k < cs.length by rw [Hl.out]; exact hltm)
      have hcell' := pw_cell_below hb hcell
      have hcell0' := pw_cell_below hb hcell0
      have hk0 : (gr m 0).length = L := HL.out.symm
      have hkk : (gr m k).length = L := by rw [HL.out]; exact Hrows.out k hlt
      rw [hk0] at hcell0'
      rw [hkk] at hcell' hcb hrow
      clear hcell hcell0 hk0 hkk hcb0 hrow0
      have hcell00 : wr.cell? ad = some (.slice B0 L cb0) := by rw [← hcell0']; congr 1
      by_cases hz : k = 0
      case' pos =>
        have t2 : ((k : Int) == 0) = true := by simp [hz]
        have hst : (wr.alloc (.cells (madeCells #[.int .u8 0] L) 5)).ownsRow w.heap.size 5 1 (.slice (some ⟨wr.heap.size, 0, none⟩) L L) L (nums .u8 (bs (between L 0 (sumAt cs m k) (sumAt cs m (k + 1))))) := by
          rw [between_zero, hz, show bs (upTo L L (sumAt cs m 0)) = bs (upTo L 0 (sumAt cs m 0)) by congr 1; simp [upTo, sumAt, sm], upTo_zero]
          exact own_made wr w.heap.size 5 .u8 L hb.size (by have := HL.out; omega)
        have hbst : Below w.heap.size w (wr.alloc (.cells (madeCells #[.int .u8 0] L) 5)) := hb.alloc hb.size _
        clear hz ho
        go_wp2
        generalize Value.slice (some ⟨wr.heap.size, 0, none⟩) L L = vv at hst ⊢
      case' neg =>
        have t2 : ((k : Int) == 0) = false := by simp [hz]
        rw [if_neg hz, ← between_zero _ _ (sumAt cs m (k + 1))] at ho
        have hst := ho
        have hbst := hb
        clear hz ho
        go_wp2
        generalize u8 = vv at hst ⊢
      all_goals
        clear hcell' hcell0' hcell00
        go_loopw [43] (fun i wi => ∃ j : Nat, j ≤ L ∧ i = .int .i64 j ∧ wi.ownsRow w.heap.size 5 1 vv L (nums .u8 (bs (between L j (sumAt cs m k) (sumAt cs m (k + 1))))) ∧ Below w.heap.size w wi) (fun i _ => L - (intOf i).toNat)
        case atStart => exact ⟨0, by omega, rfl, hst, hbst⟩
        case round =>
          clear hst hbst
          obtain ⟨j, hj, rfl, ho, hb⟩ := hrel
          obtain ⟨wi, hwi⟩ : ∃ wi, wi = wr := ⟨_, rfl⟩
          subst hwi
          by_cases hltj : j < L
          · obtain ⟨adB, rfl, hbyte⟩ := C_byteD hrow hltj
            have hbyte' := pw_cell_below hb hbyte
            have hcoef' := pw_cell_below hb hcoef
            obtain ⟨gv, cv, hv, hvb, hvl⟩ := ho.form (by omega)
            subst hv
            obtain ⟨o1, o2⟩ := own_at ho (j : Int) (by omega) (by omega)
            rw [Int.toNat_natCast, rd_between hltj] at o1
            rw [Int.toNat_natCast] at o2
            have ht' := ht.below hg hb
            have hx := u8_xor_all (sumAt cs m k j) (gm (gb cs k) (gb (gr m k) j))
            rw [← sumAt_succ] at hx
            have i1 : (0 : Int) ≤ (j : Int) := by omega
            have i2 : (j : Int) < (L : Int) := by omega
            have i3 : (0 : Int) ≤ (k : Int) := by omega
            have i4 : (k : Int) < (cs.length : Int) := by have := Hl.out; omega
            clear hbyte
            go_wp2
            have ht2 : Tab wi.drew g := ht'
            refine start_ (n := 14) (S := fun w' => w'.cell? ⟨gv, j, none⟩ = some (.int .u8 ((sumAt cs m k j).toNat : Int)) ∧ w'.cell? (adc.add k) = some (.int .u8 ((gb cs k).toNat : Int))) (ds := [13]) #[false, false, false, false, false, false, false, false, false, false, false, false, false, false] (by kernel_rfl) rfl rfl ⟨o1, hcoef'⟩ (fun hHeld => ?_)
            refine pure_ (i := 0) (N := some 48) (v := ?_) (a' := ?_) #[true, false, false, false, false, false, false, false, false, false, false, false, false, false] rfl rfl (by kernel_rfl) (fun _ _ _ h => h) (Or.inl ⟨by rfl, ?_⟩) ?_ ?_
            rotate_left
            · intro w'
              go_simp
              with_reducible rfl
            rotate_left
            · simp only [Act.put, List.setIfInBounds_toArray, List.set_cons_zero, List.set_cons_succ, i64_w, i32_w]
              rfl
            refine pure_ (i := 1) (N := some 49) (v := ?_) (a' := ?_) #[true, true, false, false, false, false, false, false, false, false, false, false, false, false] rfl rfl (by kernel_rfl) (fun _ _ _ h => h) (Or.inl ⟨by rfl, ?_⟩) ?_ ?_
            rotate_left
            · intro w'
              go_simp
              with_reducible rfl
            rotate_left
            · simp only [Act.put, List.setIfInBounds_toArray, List.set_cons_zero, List.set_cons_succ, i64_w, i32_w]
              rfl
            refine pure_ (i := 2) (N := some 50) (v := ?_) (a' := ?_) #[true, true, true, false, false, false, false, false, false, false, false, false, false, false] rfl rfl (by kernel_rfl) (fun _ _ _ h => h) (Or.inl ⟨by rfl, ?_⟩) ?_ ?_
            rotate_left
            · intro w'
              go_simp
              with_reducible rfl
            rotate_left
            · simp only [Act.put, List.setIfInBounds_toArray, List.set_cons_zero, List.set_cons_succ, i64_w, i32_w]
              rfl
            refine pure_ (i := 4) (N := some 52) (v := ?_) (a' := ?_) #[true, true, true, false, true, false, false, false, false, false, false, false, false, false] rfl rfl (by kernel_rfl) (fun _ _ _ h => h) (Or.inl ⟨by rfl, ?_⟩) ?_ ?_
            rotate_left
            · intro w'
              go_simp
              with_reducible rfl
            rotate_left
            · simp only [Act.put, List.setIfInBounds_toArray, List.set_cons_zero, List.set_cons_succ, i64_w, i32_w]
              rfl
            refine pure_ (i := 5) (N := some 53) (v := ?_) (a' := ?_) #[true, true, true, false, true, true, false, false, false, false, false, false, false, false] rfl rfl (by kernel_rfl) (fun _ _ _ h => h) (Or.inl ⟨by rfl, ?_⟩) ?_ ?_
            rotate_left
            · intro w'
              go_simp
              with_reducible rfl
            rotate_left
            · simp only [Act.put, List.setIfInBounds_toArray, List.set_cons_zero, List.set_cons_succ, i64_w, i32_w]
              rfl
            refine pure_ (i := 6) (N := some 54) (v := ?_) (a' := ?_) #[true, true, true, false, true, true, true, false, false, false, false, false, false, false] rfl rfl (by kernel_rfl) (fun _ _ _ h => h) (Or.inl ⟨by rfl, ?_⟩) ?_ ?_
            rotate_left
            · intro w'
              go_simp
              with_reducible rfl
            rotate_left
            · simp only [Act.put, List.setIfInBounds_toArray, List.set_cons_zero, List.set_cons_succ, i64_w, i32_w]
              rfl
            refine pure_ (i := 7) (N := some 55) (v := ?_) (a' := ?_) #[true, true, true, false, true, true, true, true, false, false, false, false, false, false] rfl rfl (by kernel_rfl) (fun _ _ _ h => h) (Or.inl ⟨by rfl, ?_⟩) ?_ ?_
            rotate_left
            · intro w'
              go_simp
              with_reducible rfl
            rotate_left
            · simp only [Act.put, List.setIfInBounds_toArray, List.set_cons_zero, List.set_cons_succ, i64_w, i32_w]
              rfl
            refine pure_ (i := 9) (N := some 57) (v := ?_) (a' := ?_) #[true, true, true, false, true, true, true, true, false, true, false, false, false, false] rfl rfl (by kernel_rfl) (fun _ _ _ h => h) (Or.inl ⟨by rfl, ?_⟩) ?_ ?_
            rotate_left
            · intro w'
              go_simp
              with_reducible rfl
            rotate_left
            · simp only [Act.put, List.setIfInBounds_toArray, List.set_cons_zero, List.set_cons_succ, i64_w, i32_w]
              rfl
            refine take_ (i := 3) (N := some 51) (v := ?_) (a' := ?_) #[true, true, true, true, true, true, true, true, false, true, false, false, false, false] rfl rfl (by kernel_rfl) (fun _ _ _ h => h) (Or.inl ⟨by rfl, ?_⟩) hHeld ?_ ?_
            rotate_left
            · rintro w' ⟨s0, s1⟩
              go_simp
              with_reducible rfl
            rotate_left
            · simp only [Act.put, List.setIfInBounds_toArray, List.set_cons_zero, List.set_cons_succ, i64_w, i32_w]
              rfl
            refine take_ (i := 8) (N := some 56) (v := ?_) (a' := ?_) #[true, true, true, true, true, true, true, true, true, true, false, false, false, false] rfl rfl (by kernel_rfl) (fun _ _ _ h => h) (Or.inl ⟨by rfl, ?_⟩) hHeld ?_ ?_
            rotate_left
            · rintro w' ⟨s0, s1⟩
              go_simp
              with_reducible rfl
            rotate_left
            · simp only [Act.put, List.setIfInBounds_toArray, List.set_cons_zero, List.set_cons_succ, i64_w, i32_w]
              rfl
            refine one_ (i := 10) (N := some 58) #[true, true, true, true, true, true, true, true, true, true, true, false, false, false] rfl rfl (by kernel_rfl) (by decide) (fun K hK => ?_)
            refine goes_ Try.func24 (by kernel_rfl) rfl #[.pointer (some ⟨g, 0, none⟩), .int .u8 ((gb cs k).toNat : Int), .int .u8 ((gb (gr m k) j).toNat : Int)] (by rfl) rfl rfl (by simp only [List.map_toArray, List.map_cons, List.map_nil]; rfl) ?_
            with_reducible refine (mul_calls g (gb cs k) (gb (gr m k) j) _ ht2).mono ?_
            rintro e w3 ⟨rfl, ⟨nd, rfl⟩⟩
            refine ⟨_, rfl, ?_⟩
            refine hK.out _ _ ⟨o1, hcoef'⟩ (fun hHeld => ?_)
            clear hK K
            refine norm_ (a' := ?_) ?_ ?_
            rotate_left
            · show Act.put _ (some 58) _ = _
              simp only [Act.put, List.setIfInBounds_toArray, List.set_cons_zero, List.set_cons_succ, i64_w, i32_w]
              rfl
            refine pure_ (i := 11) (N := some 59) (v := ?_) (a' := ?_) #[true, true, true, true, true, true, true, true, true, true, true, true, false, false] rfl rfl (by kernel_rfl) (fun _ _ _ h => h) (Or.inl ⟨by rfl, ?_⟩) ?_ ?_
            rotate_left
            · intro w'
              go_simp
              with_reducible rfl
            rotate_left
            · simp only [Act.put, List.setIfInBounds_toArray, List.set_cons_zero, List.set_cons_succ, i64_w, i32_w]
              rfl
            refine pure_ (i := 12) (N := some 60) (v := ?_) (a' := ?_) #[true, true, true, true, true, true, true, true, true, true, true, true, true, false] rfl rfl (by kernel_rfl) (fun _ _ _ h => h) (Or.inl ⟨by rfl, ?_⟩) ?_ ?_
            rotate_left
            · intro w'
              go_simp
              with_reducible rfl
            rotate_left
            · simp only [Act.put, List.setIfInBounds_toArray, List.set_cons_zero, List.set_cons_succ, i64_w, i32_w]
              rfl
            refine last_ (i := 13) (N := none) #[true, true, true, true, true, true, true, true, true, true, true, true, true, true] rfl rfl (by kernel_rfl) (by decide) (fun K hK => ?_)
            refine skip_ (w1 := ?_) (by rfl) rfl ?_ ?_
            rotate_left
            · go_simp
              rfl
            refine hK.out _ _ ?_
            clear hK K
            refine done_ (by kernel_rfl) ?_
            have hst := (own_store (W := wi.drewN (1 + nd)) ho (j : Int) ((sumAt cs m (k + 1) j).toNat : Int)).1
            rw [Int.toNat_natCast, between_set] at hst
            have HST := Lib.hid hst
            clear hst
            go_wp2
            exact ⟨⟨j + 1, by omega, by go_num, HST.out, Below.setCell (pw_below_drewN hb _) hvb _⟩, by simp [intOf]; omega⟩
          · have hjL : j = L := by omega
            subst hjL
            rw [between_all] at ho
            have HO := Lib.hid ho
            clear ho
            go_wp2
            exact ⟨⟨k + 1, by omega, by go_num, by rw [if_neg (by omega)]; exact HO.out, hb⟩, by simp [intOf]; omega⟩
    · have hkb : k = b := by omega
      subst hkb
      obtain ⟨ad, B, cb, rfl, hcell, hcb, hrow⟩ := C_rowD hr' hltm
      obtain ⟨ad0, B0, cb0, e0, hcell0, hcb0, hrow0⟩ := C_rowD hr' (show 0 < m.length by omega)
      cases e0
      have hcell' := pw_cell_below hb hcell
      have hcell0' := pw_cell_below hb hcell0
      rw [← HL.out] at hcell0'
      have hcell00 : wr.cell? ad = some (.slice B0 L cb0) := by rw [← hcell0']; congr 1
      have t3 := HB.out
      clear hcell hcell0 ho
      go_wp2
      go_ret2
      exact ⟨rfl, hb⟩
theorem sum_len (g : Nat) (A : Option Addr) (n c : Nat) (A' : Option Addr) (m c' : Nat) (w : World) (hl : n ≠ m) :
    Calls Try.prog 33 #[.pointer (some ⟨g, 0, none⟩), .slice A n c, .slice A' m c'] w fun e w' => e = .returned (.tuple #[.slice none 0 0, .int .i64 14]) ∧ Below w.heap.size w w' := by
  have t1 : ((n : Int) != (m : Int)) = true := by rw [bne_iff_ne]; omega
  clear hl
  go_enter Try.func33, Try.ntmps33
  go_wp2
  go_ret2
  exact ⟨rfl, Below.refl _ _⟩
/-- Where texts are not alike there is a first one of another length. -/
theorem not_alike {m : List (List UInt8)} (h : ¬ Alike m) : ∃ b, 0 < b ∧ b < m.length ∧ (∀ i, i < b → (gr m i).length = (gr m 0).length) ∧ (gr m b).length ≠ (gr m 0).length := by
  have key : ∀ n, n ≤ m.length → (∀ i, i < n → (gr m i).length = (gr m 0).length) ∨ ∃ b, b < n ∧ (∀ i, i < b → (gr m i).length = (gr m 0).length) ∧ (gr m b).length ≠ (gr m 0).length := by
    intro n
    induction n with
    | zero => exact fun _ => .inl fun i hi => by omega
    | succ n ih =>
      intro hn
      rcases ih (by omega) with h1 | ⟨b, hb, h2⟩
      · by_cases he : (gr m n).length = (gr m 0).length
        · refine .inl fun i hi => ?_
          by_cases hin : i = n
          · rw [hin]; exact he
          · exact h1 i (by omega)
        · exact .inr ⟨n, by omega, h1, he⟩
      · exact .inr ⟨b, by omega, h2⟩
  rcases key m.length (Nat.le_refl _) with h1 | ⟨b, hb, h2, h3⟩
  · exfalso
    refine h fun r hr => ?_
    obtain ⟨i, hi, rfl⟩ := List.getElem_of_mem hr
    have := h1 i hi
    rw [gr_at hi] at this
    rw [this]
    cases m with
    | nil => simp at hi
    | cons a t => rfl
  · refine ⟨b, ?_, hb, h2, h3⟩
    rcases Nat.eq_zero_or_pos b with h0 | h0
    · subst h0; exact absurd rfl h3
    · exact h0
end Go.Proofs.Ytoijjlpkoniipaa
