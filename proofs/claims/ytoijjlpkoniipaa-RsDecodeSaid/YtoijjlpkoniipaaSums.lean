/- Joined out of texts of this claim: Scale, Sum, SumBad. Each says what it proves, and its conditions. -/
import Derived.Test.YtoijjlpkoniipaaBase
import Derived.Deep.LoopGhost
import Derived.Test.YtoijjlpkoniipaaFld
import Derived.Deep.RegionHeld3
import Derived.OrdersHeld
import Derived.Test.YtoijjlpkoniipaaWLast
set_option linter.unusedVariables false
set_option linter.unusedSimpArgs false
section
/- The contract of Scale. -/
namespace Go.Proofs.Ytoijjlpkoniipaa
open Go.RowKit Go.Proofs.YtoijjlpkoniipaaW.PrintWords Gf

theorem info5 : (Try.prog.info? 5).map (fun i => (i.zero, i.size, i.bytes)) = some (some (.int .u8 0), 1, 1) := by kernel_rfl
theorem Tab.below {w w1 : World} {g : Nat} (h : Tab w g) (hg : g < w.heap.size) (hb : Below w.heap.size w w1) : Tab w1 g :=
  ⟨fun i hi => (hb.cell (p := ⟨g, i, none⟩) hg).trans (h.1 i hi), fun a => (hb.cell (p := ⟨g, 510 + a.toNat, none⟩) hg).trans (h.2 a)⟩
/-- A byte that is read. -/
theorem C_byte {w : World} {A : Option Addr} {xs : List UInt8} (h : KB.C w A xs.length (bs xs)) {k : Nat} (hk : k < xs.length) : ∃ ad, A = some ad ∧ w.cell? (ad.add k) = some (.int .u8 ((xs[k]).toNat : Int)) := by
  obtain ⟨ad, hA, hc⟩ := (Kd.reads_of_C (d := (0 : Int)) (h1 := fun _ => rfl) h : ReadsInt w .u8 A xs.length (bs xs)).at_ (k : Int) (by omega) (by omega)
  refine ⟨ad, hA, ?_⟩
  rw [Int.toNat_natCast] at hc
  rw [hc]
  unfold rdOf bs
  simp [hk]
/-- The bytes of which the first k are those of f, the others 0. -/
def upTo (n k : Nat) (f : Nat → UInt8) : List UInt8 := (List.range n).map fun j => if j < k then f j else 0
@[simp] theorem upTo_length (n k : Nat) (f : Nat → UInt8) : (upTo n k f).length = n := by simp [upTo]
theorem upTo_zero (n : Nat) (f : Nat → UInt8) : bs (upTo n 0 f) = List.replicate n 0 := by
  apply List.ext_getElem
  · simp
  · intro i h1 h2
    simp [upTo, bs]
theorem upTo_set (n k : Nat) (f : Nat → UInt8) : (bs (upTo n k f)).set k ((f k).toNat : Int) = bs (upTo n (k + 1) f) := by
  apply List.ext_getElem
  · simp
  · intro i h1 h2
    rw [List.getElem_set]
    simp only [upTo, bs, List.getElem_map, List.getElem_range]
    by_cases hik : k = i
    · subst hik; simp
    · rw [if_neg hik]
      congr 2
      by_cases h : i < k
      · rw [if_pos h, if_pos (by omega)]
      · rw [if_neg h, if_neg (by omega)]
theorem upTo_all (n : Nat) (f : Nat → UInt8) (xs : List UInt8) (hn : xs.length = n) (hf : ∀ j (hj : j < xs.length), xs[j] = f j) : upTo n n f = xs := by
  apply List.ext_getElem
  · simp [hn]
  · intro i h1 h2
    simp only [upTo, List.getElem_map, List.getElem_range]
    rw [if_pos (by omega), hf i h2]

theorem own_C {w : World} {base g n cap : Nat} {xs : List UInt8} (h : w.ownsRow base 5 1 (.slice (some ⟨g, 0, none⟩) n cap) n (nums .u8 (bs xs))) (hn : xs.length = n) : KB.C w (some ⟨g, 0, none⟩) n (bs xs) := by
  obtain ⟨A, c, hv, hr⟩ := own_reads h
  injection hv with hA
  subst hA
  exact Kd.C_of_reads (d := (0 : Int)) (h1 := fun _ => rfl) hr
theorem C_len {w : World} {A : Option Addr} {xs : List UInt8} {n : Nat} (h : KB.C w A n (bs xs)) : xs.length = n := by rw [← h.1, bs_length]
/-- Each byte times c. -/
def scl (c : UInt8) (xs : List UInt8) : List UInt8 := xs.map (gm c)
@[simp] theorem scl_length (c : UInt8) (xs : List UInt8) : (scl c xs).length = xs.length := by simp [scl]

set_option maxHeartbeats 4000000 in
theorem scale_calls (g : Nat) (a : UInt8) (A : Option Addr) (xs : List UInt8) (c : Nat) (w : World) (ht : Tab w g) (hg : g < w.heap.size) (hr : KB.C w A xs.length (bs xs)) (hc : xs.length ≤ c) (hn : xs.length ≤ 1000000) :
    Calls Try.prog 37 #[.pointer (some ⟨g, 0, none⟩), .int .u8 (a.toNat : Int), .slice A xs.length c] w fun e w' =>
      ∃ A' c', e = .returned (.slice A' xs.length c') ∧ xs.length ≤ c' ∧ KB.C w' A' xs.length (bs (scl a xs)) ∧ Below w.heap.size w w' := by
  obtain ⟨n, hnn⟩ : ∃ n, n = xs.length := ⟨_, rfl⟩
  have hmk := print_make 35 5 .u8 1 Try.underlying35 info5 (by omega) xs.length (by omega)
  go_enter Try.func37, Try.ntmps37
  go_wp2
  go_loopw [17] (fun i wr => ∃ k : Nat, k ≤ xs.length ∧ i = .int .i64 k ∧ wr.ownsRow w.heap.size 5 1 (.slice (some ⟨w.heap.size, 0, none⟩) xs.length xs.length) xs.length (nums .u8 (bs (upTo xs.length k (fun j => gm a (xs.getD j 0))))) ∧ Below w.heap.size w wr) (fun i _ => xs.length - (intOf i).toNat)
  case atStart =>
    refine ⟨0, by omega, rfl, ?_, (Below.refl _ _).alloc (Nat.le_refl _) _⟩
    rw [upTo_zero]
    exact own_made w w.heap.size 5 .u8 xs.length (Nat.le_refl _) (by omega)
  case round =>
    obtain ⟨k, hk, rfl, ho, hb⟩ := hrel
    by_cases hlt : k < xs.length
    · obtain ⟨ad, rfl, hcell⟩ := C_byte hr hlt
      have hcell' := pw_cell_below hb hcell
      obtain ⟨o1, o2⟩ := own_at ho (k : Int) (by omega) (by omega)
      rw [Int.toNat_natCast] at o1 o2
      have ht' := ht.below hg hb
      have hst := Lib.hid (own_store ho (k : Int) ((gm a xs[k]).toNat : Int))
      clear hcell
      go_wp2_with fail
      refine (mul_calls g a xs[k] _ ht').mono ?_
      rintro e w2 ⟨rfl, ⟨m, rfl⟩⟩
      go_wp2_with fail
      refine ⟨⟨k + 1, by omega, by go_num, ?_, Below.setCell (pw_below_drewN hb m) (by simp) _⟩, by simp [intOf]; omega⟩
      have h2 := (own_store (W := wr.drewN m) ho (k : Int) ((gm a xs[k]).toNat : Int)).1
      rw [Int.toNat_natCast, show gm a xs[k] = (fun j => gm a (xs.getD j 0)) k by simp [hlt], upTo_set] at h2
      simpa [hlt] using h2
    · have hk' : k = xs.length := by omega
      subst hk'
      rw [upTo_all xs.length _ (scl a xs) (by simp) (fun j hj => by simp at hj; simp [scl, hj])] at ho
      have hfin := Lib.hid (own_C ho (by simp))
      clear ho hnn
      go_wp2
      go_ret
      exact ⟨_, _, rfl, Nat.le_refl _, hfin.out, hb⟩
theorem scale_nil (a : Int) (A : Option Addr) (n c : Nat) (w : World) : Calls Try.prog 37 #[.pointer none, .int .u8 a, .slice A n c] w fun e w' => e = .returned (.slice none 0 0) ∧ Drawn0 w w' := by
  go_enter Try.func37, Try.ntmps37
  go_wp2
  go_ret
  exact ⟨rfl, Drawn0.refl _⟩
theorem sum_nil (A : Option Addr) (n c : Nat) (A' : Option Addr) (n' c' : Nat) (w : World) : Calls Try.prog 33 #[.pointer none, .slice A n c, .slice A' n' c'] w fun e w' => e = .returned (.tuple #[.slice none 0 0, .int .i64 15]) ∧ Drawn0 w w' := by
  go_enter Try.func33, Try.ntmps33
  go_wp2
  go_ret2
  exact ⟨rfl, Drawn0.refl _⟩
end Go.Proofs.Ytoijjlpkoniipaa
end
section
/- The contract of Sum. -/
namespace Go.Proofs.Ytoijjlpkoniipaa
open Go.RowKit Go.Proofs.YtoijjlpkoniipaaW.PrintWords Go.Proofs.YtoijjlpkoniipaaW.PrintLast Gf Lin
set_option linter.unusedSimpArgs false

/-- A text of a list that is read. -/
theorem C_row {w : World} {A : Option Addr} {xss : List (List UInt8)} (h : KBB.C w A xss.length (bss xss)) {k : Nat} (hk : k < xss.length) :
    ∃ ad B c, A = some ad ∧ w.cell? (ad.add k) = some (.slice B (xss[k]).length c) ∧ (xss[k]).length ≤ c ∧ KB.C w B (xss[k]).length (bs xss[k]) := by
  obtain ⟨ad, c, e, _, hK, hc⟩ := Kd.C_get h ([] : List Int) (k : Int) (by omega) (by omega)
  have hk2 : (bss xss).getD (k : Int).toNat ([] : List Int) = bs xss[k] := by simp [bss, hk]
  rw [hk2] at hK
  obtain ⟨B, c0, rfl, l0, g0⟩ := hK
  rw [bs_length] at l0 g0 hc
  refine ⟨ad, B, c0, e, ?_, l0, g0⟩
  have hq := hc 0 _ rfl
  rw [Int.toNat_natCast] at hq
  rw [← hq]
  show _ = w.cell? (ad.add (k * 1 + 0))
  rw [Nat.mul_one, Nat.add_zero]

/-- The byte, the row at a place. -/
def gb (xs : List UInt8) (j : Nat) : UInt8 := xs.getD j 0
def gr (m : List (List UInt8)) (k : Nat) : List UInt8 := m.getD k []
theorem gb_at {xs : List UInt8} {j : Nat} (h : j < xs.length) : gb xs j = xs[j] := by simp [gb, h]
theorem gr_at {m : List (List UInt8)} {k : Nat} (h : k < m.length) : gr m k = m[k] := by simp [gr, h]
/-- Are texts all of one length? -/
def Alike (m : List (List UInt8)) : Prop := ∀ r ∈ m, r.length = (m.headD []).length
/-- The sum of texts, each times its coefficient, byte j. -/
def sumAt (cs : List UInt8) (m : List (List UInt8)) (n j : Nat) : UInt8 := sm n (fun i => gm (gb cs i) (gb (gr m i) j))
def sumB (cs : List UInt8) (m : List (List UInt8)) : List UInt8 := (List.range (m.headD []).length).map (sumAt cs m m.length)

theorem C_byteD {w : World} {A : Option Addr} {xs : List UInt8} {n : Nat} (h : KB.C w A n (bs xs)) {k : Nat} (hk : k < n) : ∃ ad, A = some ad ∧ w.cell? (ad.add k) = some (.int .u8 ((gb xs k).toNat : Int)) := by
  have hl := C_len h
  subst hl
  obtain ⟨ad, h1, h2⟩ := C_byte h hk
  exact ⟨ad, h1, by rw [h2, gb_at hk]⟩
theorem C_rowD {w : World} {A : Option Addr} {xss : List (List UInt8)} (h : KBB.C w A xss.length (bss xss)) {k : Nat} (hk : k < xss.length) :
    ∃ ad B c, A = some ad ∧ w.cell? (ad.add k) = some (.slice B (gr xss k).length c) ∧ (gr xss k).length ≤ c ∧ KB.C w B (gr xss k).length (bs (gr xss k)) := by
  have e : gr xss k = xss[k] := gr_at hk
  rw [e]
  exact C_row h hk
theorem sumAt_succ (cs : List UInt8) (m : List (List UInt8)) (k j : Nat) : sumAt cs m (k + 1) j = ga (sumAt cs m k j) (gm (gb cs k) (gb (gr m k) j)) := rfl
/-- Between two sums: the first j bytes are those of the longer one. -/
def between (L j : Nat) (f h : Nat → UInt8) : List UInt8 := (List.range L).map fun i => if i < j then h i else f i
@[simp] theorem between_length (L j : Nat) (f h : Nat → UInt8) : (between L j f h).length = L := by simp [between]
theorem between_zero (L : Nat) (f h : Nat → UInt8) : between L 0 f h = upTo L L f := by
  apply List.ext_getElem
  · simp
  · intro i h1 h2
    simp at h1
    simp [between, upTo, h1]
theorem between_all (L : Nat) (f h : Nat → UInt8) : between L L f h = upTo L L h := by
  apply List.ext_getElem
  · simp
  · intro i h1 h2
    simp at h1
    simp [between, upTo, h1]
theorem between_set (L j : Nat) (f h : Nat → UInt8) : (bs (between L j f h)).set j ((h j).toNat : Int) = bs (between L (j + 1) f h) := by
  apply List.ext_getElem
  · simp
  · intro i h1 h2
    rw [List.getElem_set]
    simp only [between, bs, List.getElem_map, List.getElem_range]
    by_cases hik : j = i
    · subst hik; simp
    · rw [if_neg hik]
      congr 2
      by_cases h : i < j
      · rw [if_pos h, if_pos (by omega)]
      · rw [if_neg h, if_neg (by omega)]
theorem rd_between {L j : Nat} (hj : j < L) (f h : Nat → UInt8) : rd (bs (between L j f h)) (j : Int) = ((f j).toNat : Int) := by
  unfold rd bs between
  simp [hj]

set_option maxHeartbeats 4000000 in
set_option maxRecDepth 100000 in
theorem sum_okN (g : Nat) (A : Option Addr) (cs : List UInt8) (c : Nat) (A' : Option Addr) (m : List (List UInt8)) (c' : Nat) (w : World) (ht : Tab w g) (hg : g < w.heap.size)
    (hr : KB.C w A cs.length (bs cs)) (hc : cs.length ≤ c) (hr' : KBB.C w A' m.length (bss m)) (hc' : m.length ≤ c') (hl : cs.length = m.length) (ha : Alike m) (hn : (m.headD []).length ≤ 1000000) :
    Calls Try.prog 33 #[.pointer (some ⟨g, 0, none⟩), .slice A cs.length c, .slice A' m.length c'] w fun e w' =>
      ∃ B d, e = .returned (.tuple #[.slice B (sumB cs m).length d, .int .i64 0]) ∧ (sumB cs m).length ≤ d ∧ KB.C w' B (sumB cs m).length (bs (sumB cs m)) ∧ Below w.heap.size w w' ∧ ∀ a, B = some a → w.heap.size ≤ a.block := by
  obtain ⟨L, hL⟩ : ∃ L, L = (m.headD []).length := ⟨_, rfl⟩
  have hmk := print_make 35 5 .u8 1 Try.underlying35 info5 (by omega) L (by omega)
  have t1 : ((cs.length : Int) != (m.length : Int)) = false := by rw [hl]; simp
  have hnL : L ≤ 1000000 := by omega
  have hmm : m.length ≤ 9223372036854775807 := hr'.2.1
  have HL := Lib.hid hL
  have Hl := Lib.hid hl
  clear hL hl
  go_enter Try.func33, Try.ntmps33
  go_wp2
  go_loopw [8, 24] (fun v i wr => ∃ k : Nat, k ≤ m.length ∧ i = .int .i64 k ∧ wr.ownsRow w.heap.size 5 1 v (if k = 0 then 0 else L) (nums .u8 (bs (upTo (if k = 0 then 0 else L) L (sumAt cs m k)))) ∧ Below w.heap.size w wr) (fun _ i _ => m.length - (intOf i).toNat)
  case atStart =>
    refine ⟨0, by omega, rfl, ?_, Below.refl _ _⟩
    exact own_nil _ _ _ _
  case round =>
    obtain ⟨k, hk, rfl, ho, hb⟩ := hrel
    by_cases hlt : k < m.length
    · obtain ⟨ad, B, cb, rfl, hcell, hcb, hrow⟩ := C_rowD hr' hlt
      obtain ⟨ad0, B0, cb0, e0, hcell0, hcb0, hrow0⟩ := C_rowD hr' (show 0 < m.length by omega)
      cases e0
      obtain ⟨adc, rfl, hcoef⟩ := C_byteD hr (show k < cs.length by rw [Hl.out]; exact hlt)
      have hcell' := pw_cell_below hb hcell
      have hcell0' := pw_cell_below hb hcell0
      have hk0 : (gr m 0).length = L := by rw [HL.out]; cases m with
        | nil => simp at hlt
        | cons r t => rfl
      have hkk : (gr m k).length = L := by
        rw [HL.out, gr_at hlt]; exact ha _ (List.getElem_mem _)
      rw [hk0] at hcell0'
      rw [hkk] at hcell' hcb hrow
      clear hcell hcell0 hk0 hkk hcb0 hrow0
      have hcell00 : wr.cell? ad = some (.slice B0 L cb0) := by rw [← hcell0']; congr 1
      by_cases hz : k = 0
      case' pos =>
        have t2 : ((k : Int) == 0) = true := by simp [hz]
        have hst : (wr.alloc (.cells (madeCells #[.int .u8 0] L) 5)).ownsRow w.heap.size 5 1 (.slice (some ⟨wr.heap.size, 0, none⟩) L L) L (nums .u8 (bs (between L 0 (sumAt cs m k) (sumAt cs m (k + 1))))) := by
          rw [between_zero, hz, show bs (upTo L L (sumAt cs m 0)) = bs (upTo L 0 (sumAt cs m 0)) by congr 1; simp [upTo, sumAt, sm], upTo_zero]
          exact own_made wr w.heap.size 5 .u8 L hb.size (by have := HL.out; omega)
        have hbst : Below w.heap.size w (wr.alloc (.cells (madeCells #[.int .u8 0] L) 5)) := hb.alloc hb.size _
        clear hz ho
        go_wp2
        generalize Value.slice (some ⟨wr.heap.size, 0, none⟩) L L = vv at hst ⊢
      case' neg =>
        have t2 : ((k : Int) == 0) = false := by simp [hz]
        rw [if_neg hz, ← between_zero _ _ (sumAt cs m (k + 1))] at ho
        have hst := ho
        have hbst := hb
        clear hz ho
        go_wp2
        generalize u8 = vv at hst ⊢
      all_goals
        clear hcell' hcell0' hcell00
        go_loopw [43] (fun i wi => ∃ j : Nat, j ≤ L ∧ i = .int .i64 j ∧ wi.ownsRow w.heap.size 5 1 vv L (nums .u8 (bs (between L j (sumAt cs m k) (sumAt cs m (k + 1))))) ∧ Below w.heap.size w wi) (fun i _ => L - (intOf i).toNat)
        case atStart => exact ⟨0, by omega, rfl, hst, hbst⟩
        case round =>
          clear hst hbst
          obtain ⟨j, hj, rfl, ho, hb⟩ := hrel
          obtain ⟨wi, hwi⟩ : ∃ wi, wi = wr := ⟨_, rfl⟩
          subst hwi
          by_cases hltj : j < L
          · obtain ⟨adB, rfl, hbyte⟩ := C_byteD hrow hltj
            have hbyte' := pw_cell_below hb hbyte
            have hcoef' := pw_cell_below hb hcoef
            obtain ⟨gv, cv, hv, hvb, hvl⟩ := ho.form (by omega)
            subst hv
            obtain ⟨o1, o2⟩ := own_at ho (j : Int) (by omega) (by omega)
            rw [Int.toNat_natCast, rd_between hltj] at o1
            rw [Int.toNat_natCast] at o2
            have ht' := ht.below hg hb
            have hx := u8_xor_all (sumAt cs m k j) (gm (gb cs k) (gb (gr m k) j))
            rw [← sumAt_succ] at hx
            have i1 : (0 : Int) ≤ (j : Int) := by omega
            have i2 : (j : Int) < (L : Int) := by omega
            have i3 : (0 : Int) ≤ (k : Int) := by omega
            have i4 : (k : Int) < (cs.length : Int) := by have := Hl.out; omega
            clear hbyte
            go_wp2
            have ht2 : Tab wi.drew g := ht'
            refine start_ (n := 14) (S := fun w' => w'.cell? ⟨gv, j, none⟩ = some (.int .u8 ((sumAt cs m k j).toNat : Int)) ∧ w'.cell? (adc.add k) = some (.int .u8 ((gb cs k).toNat : Int))) (ds := [13]) #[false, false, false, false, false, false, false, false, false, false, false, false, false, false] (by kernel_rfl) rfl rfl ⟨o1, hcoef'⟩ (fun hHeld => ?_)
            refine pure_ (i := 0) (N := some 48) (v := ?_) (a' := ?_) #[true, false, false, false, false, false, false, false, false, false, false, false, false, false] rfl rfl (by kernel_rfl) (fun _ _ _ h => h) (Or.inl ⟨by rfl, ?_⟩) ?_ ?_
            rotate_left
            · intro w'
              go_simp
              with_reducible rfl
            rotate_left
            · simp only [Act.put, List.setIfInBounds_toArray, List.set_cons_zero, List.set_cons_succ, i64_w, i32_w]
              rfl
            refine pure_ (i := 1) (N := some 49) (v := ?_) (a' := ?_) #[true, true, false, false, false, false, false, false, false, false, false, false, false, false] rfl rfl (by kernel_rfl) (fun _ _ _ h => h) (Or.inl ⟨by rfl, ?_⟩) ?_ ?_
            rotate_left
            · intro w'
              go_simp
              with_reducible rfl
            rotate_left
            · simp only [Act.put, List.setIfInBounds_toArray, List.set_cons_zero, List.set_cons_succ, i64_w, i32_w]
              rfl
            refine pure_ (i := 2) (N := some 50) (v := ?_) (a' := ?_) #[true, true, true, false, false, false, false, false, false, false, false, false, false, false] rfl rfl (by kernel_rfl) (fun _ _ _ h => h) (Or.inl ⟨by rfl, ?_⟩) ?_ ?_
            rotate_left
            · intro w'
              go_simp
              with_reducible rfl
            rotate_left
            · simp only [Act.put, List.setIfInBounds_toArray, List.set_cons_zero, List.set_cons_succ, i64_w, i32_w]
              rfl
            refine pure_ (i := 4) (N := some 52) (v := ?_) (a' := ?_) #[true, true, true, false, true, false, false, false, false, false, false, false, false, false] rfl rfl (by kernel_rfl) (fun _ _ _ h => h) (Or.inl ⟨by rfl, ?_⟩) ?_ ?_
            rotate_left
            · intro w'
              go_simp
              with_reducible rfl
            rotate_left
            · simp only [Act.put, List.setIfInBounds_toArray, List.set_cons_zero, List.set_cons_succ, i64_w, i32_w]
              rfl
            refine pure_ (i := 5) (N := some 53) (v := ?_) (a' := ?_) #[true, true, true, false, true, true, false, false, false, false, false, false, false, false] rfl rfl (by kernel_rfl) (fun _ _ _ h => h) (Or.inl ⟨by rfl, ?_⟩) ?_ ?_
            rotate_left
            · intro w'
              go_simp
              with_reducible rfl
            rotate_left
            · simp only [Act.put, List.setIfInBounds_toArray, List.set_cons_zero, List.set_cons_succ, i64_w, i32_w]
              rfl
            refine pure_ (i := 6) (N := some 54) (v := ?_) (a' := ?_) #[true, true, true, false, true, true, true, false, false, false, false, false, false, false] rfl rfl (by kernel_rfl) (fun _ _ _ h => h) (Or.inl ⟨by rfl, ?_⟩) ?_ ?_
            rotate_left
            · intro w'
              go_simp
              with_reducible rfl
            rotate_left
            · simp only [Act.put, List.setIfInBounds_toArray, List.set_cons_zero, List.set_cons_succ, i64_w, i32_w]
              rfl
            refine pure_ (i := 7) (N := some 55) (v := ?_) (a' := ?_) #[true, true, true, false, true, true, true, true, false, false, false, false, false, false] rfl rfl (by kernel_rfl) (fun _ _ _ h => h) (Or.inl ⟨by rfl, ?_⟩) ?_ ?_
            rotate_left
            · intro w'
              go_simp
              with_reducible rfl
            rotate_left
            · simp only [Act.put, List.setIfInBounds_toArray, List.set_cons_zero, List.set_cons_succ, i64_w, i32_w]
              rfl
            refine pure_ (i := 9) (N := some 57) (v := ?_) (a' := ?_) #[true, true, true, false, true, true, true, true, false, true, false, false, false, false] rfl rfl (by kernel_rfl) (fun _ _ _ h => h) (Or.inl ⟨by rfl, ?_⟩) ?_ ?_
            rotate_left
            · intro w'
              go_simp
              with_reducible rfl
            rotate_left
            · simp only [Act.put, List.setIfInBounds_toArray, List.set_cons_zero, List.set_cons_succ, i64_w, i32_w]
              rfl
            refine take_ (i := 3) (N := some 51) (v := ?_) (a' := ?_) #[true, true, true, true, true, true, true, true, false, true, false, false, false, false] rfl rfl (by kernel_rfl) (fun _ _ _ h => h) (Or.inl ⟨by rfl, ?_⟩) hHeld ?_ ?_
            rotate_left
            · rintro w' ⟨s0, s1⟩
              go_simp
              with_reducible rfl
            rotate_left
            · simp only [Act.put, List.setIfInBounds_toArray, List.set_cons_zero, List.set_cons_succ, i64_w, i32_w]
              rfl
            refine take_ (i := 8) (N := some 56) (v := ?_) (a' := ?_) #[true, true, true, true, true, true, true, true, true, true, false, false, false, false] rfl rfl (by kernel_rfl) (fun _ _ _ h => h) (Or.inl ⟨by rfl, ?_⟩) hHeld ?_ ?_
            rotate_left
            · rintro w' ⟨s0, s1⟩
              go_simp
              with_reducible rfl
            rotate_left
            · simp only [Act.put, List.setIfInBounds_toArray, List.set_cons_zero, List.set_cons_succ, i64_w, i32_w]
              rfl
            refine one_ (i := 10) (N := some 58) #[true, true, true, true, true, true, true, true, true, true, true, false, false, false] rfl rfl (by kernel_rfl) (by decide) (fun K hK => ?_)
            refine goes_ Try.func24 (by kernel_rfl) rfl #[.pointer (some ⟨g, 0, none⟩), .int .u8 ((gb cs k).toNat : Int), .int .u8 ((gb (gr m k) j).toNat : Int)] (by rfl) rfl rfl (by simp only [List.map_toArray, List.map_cons, List.map_nil]; rfl) ?_
            with_reducible refine (mul_calls g (gb cs k) (gb (gr m k) j) _ ht2).mono ?_
            rintro e w3 ⟨rfl, ⟨nd, rfl⟩⟩
            refine ⟨_, rfl, ?_⟩
            refine hK.out _ _ ⟨o1, hcoef'⟩ (fun hHeld => ?_)
            clear hK K
            refine norm_ (a' := ?_) ?_ ?_
            rotate_left
            · show Act.put _ (some 58) _ = _
              simp only [Act.put, List.setIfInBounds_toArray, List.set_cons_zero, List.set_cons_succ, i64_w, i32_w]
              rfl
            refine pure_ (i := 11) (N := some 59) (v := ?_) (a' := ?_) #[true, true, true, true, true, true, true, true, true, true, true, true, false, false] rfl rfl (by kernel_rfl) (fun _ _ _ h => h) (Or.inl ⟨by rfl, ?_⟩) ?_ ?_
            rotate_left
            · intro w'
              go_simp
              with_reducible rfl
            rotate_left
            · simp only [Act.put, List.setIfInBounds_toArray, List.set_cons_zero, List.set_cons_succ, i64_w, i32_w]
              rfl
            refine pure_ (i := 12) (N := some 60) (v := ?_) (a' := ?_) #[true, true, true, true, true, true, true, true, true, true, true, true, true, false] rfl rfl (by kernel_rfl) (fun _ _ _ h => h) (Or.inl ⟨by rfl, ?_⟩) ?_ ?_
            rotate_left
            · intro w'
              go_simp
              with_reducible rfl
            rotate_left
            · simp only [Act.put, List.setIfInBounds_toArray, List.set_cons_zero, List.set_cons_succ, i64_w, i32_w]
              rfl
            refine last_ (i := 13) (N := none) #[true, true, true, true, true, true, true, true, true, true, true, true, true, true] rfl rfl (by kernel_rfl) (by decide) (fun K hK => ?_)
            refine skip_ (w1 := ?_) (by rfl) rfl ?_ ?_
            rotate_left
            · go_simp
              rfl
            refine hK.out _ _ ?_
            clear hK K
            refine done_ (by kernel_rfl) ?_
            have hst := (own_store (W := wi.drewN (1 + nd)) ho (j : Int) ((sumAt cs m (k + 1) j).toNat : Int)).1
            rw [Int.toNat_natCast, between_set] at hst
            have HST := Lib.hid hst
            clear hst
            go_wp2
            exact ⟨⟨j + 1, by omega, by go_num, HST.out, Below.setCell (pw_below_drewN hb _) hvb _⟩, by simp [intOf]; omega⟩
          · have hjL : j = L := by omega
            subst hjL
            rw [between_all] at ho
            have HO := Lib.hid ho
            clear ho
            go_wp2
            exact ⟨⟨k + 1, by omega, by go_num, by rw [if_neg (by omega)]; exact HO.out, hb⟩, by simp [intOf]; omega⟩
    · have hkm : k = m.length := by omega
      subst hkm
      have hsum : upTo (if m.length = 0 then 0 else L) L (sumAt cs m m.length) = sumB cs m := by
        rw [HL.out]
        cases m with
        | nil => rfl
        | cons r t =>
          simp only [List.length_cons, Nat.add_eq_zero_iff, Nat.succ_ne_self, and_false, if_false, upTo, sumB]
          apply List.map_congr_left
          intro j hj
          rw [if_pos (List.mem_range.1 hj)]
      have hlen : (if m.length = 0 then 0 else L) = (sumB cs m).length := by rw [← hsum, upTo_length]
      rw [hsum, hlen] at ho
      obtain ⟨B, d, rfl, hrd⟩ := own_reads ho
      have hd : (sumB cs m).length ≤ d := own_le ho
      have hC : KB.C wr B (sumB cs m).length (bs (sumB cs m)) := Kd.C_of_reads (d := (0 : Int)) (h1 := fun _ => rfl) hrd
      have hfr : ∀ a, B = some a → w.heap.size ≤ a.block := fun a ha => by subst ha; exact (ho.lt _ rfl).1
      have HFR := Lib.hid hfr
      clear hsum hlen ho hrd hfr
      go_wp2
      go_ret2
      exact ⟨B, d, rfl, hd, hC, hb, HFR.out⟩
theorem sum_ok (g : Nat) (A : Option Addr) (cs : List UInt8) (c : Nat) (A' : Option Addr) (m : List (List UInt8)) (c' : Nat) (w : World) (ht : Tab w g) (hg : g < w.heap.size)
    (hr : KB.C w A cs.length (bs cs)) (hc : cs.length ≤ c) (hr' : KBB.C w A' m.length (bss m)) (hc' : m.length ≤ c') (hl : cs.length = m.length) (ha : Alike m) (hn : (m.headD []).length ≤ 1000000) :
    Calls Try.prog 33 #[.pointer (some ⟨g, 0, none⟩), .slice A cs.length c, .slice A' m.length c'] w fun e w' =>
      ∃ B d, e = .returned (.tuple #[.slice B (sumB cs m).length d, .int .i64 0]) ∧ (sumB cs m).length ≤ d ∧ KB.C w' B (sumB cs m).length (bs (sumB cs m)) ∧ Below w.heap.size w w' := by
  refine (sum_okN g A cs c A' m c' w ht hg hr hc hr' hc' hl ha hn).mono ?_
  rintro e w' ⟨B, d, h1, h2, h3, h4, _⟩
  exact ⟨B, d, h1, h2, h3, h4⟩
end Go.Proofs.Ytoijjlpkoniipaa
end
section
/- Sum where its texts are not all of one length, or not as many as coefficients: refused. -/
namespace Go.Proofs.Ytoijjlpkoniipaa
open Go.RowKit Go.Proofs.YtoijjlpkoniipaaW.PrintWords Go.Proofs.YtoijjlpkoniipaaW.PrintLast Gf Lin
set_option linter.unusedSimpArgs false

set_option maxHeartbeats 4000000 in
set_option maxRecDepth 100000 in
theorem sum_bad (g : Nat) (A : Option Addr) (cs : List UInt8) (c : Nat) (A' : Option Addr) (m : List (List UInt8)) (c' : Nat) (w : World) (ht : Tab w g) (hg : g < w.heap.size)
    (hr : KB.C w A cs.length (bs cs)) (hc : cs.length ≤ c) (hr' : KBB.C w A' m.length (bss m)) (hc' : m.length ≤ c') (hl : cs.length = m.length) (b : Nat) (hb0 : 0 < b) (hbm : b < m.length) (hrows : ∀ i, i < b → (gr m i).length = (gr m 0).length) (hbad : (gr m b).length ≠ (gr m 0).length) (hn : (gr m 0).length ≤ 1000000) :
    Calls Try.prog 33 #[.pointer (some ⟨g, 0, none⟩), .slice A cs.length c, .slice A' m.length c'] w fun e w' =>
      e = .returned (.tuple #[.slice none 0 0, .int .i64 14]) ∧ Below w.heap.size w w' := by
  obtain ⟨L, hL⟩ : ∃ L, L = (gr m 0).length := ⟨_, rfl⟩
  have hmk := print_make 35 5 .u8 1 Try.underlying35 info5 (by omega) L (by omega)
  have t1 : ((cs.length : Int) != (m.length : Int)) = false := by rw [hl]; simp
  have hnL : L ≤ 1000000 := by omega
  have hmm : m.length ≤ 9223372036854775807 := hr'.2.1
  have hbadL : (((gr m b).length : Int) != (L : Int)) = true := by rw [bne_iff_ne, hL]; omega
  have HB := Lib.hid hbadL
  clear hbadL
  have HL := Lib.hid hL
  have Hrows := Lib.hid hrows
  clear hrows hbad
  have Hl := Lib.hid hl
  clear hL hl
  go_enter Try.func33, Try.ntmps33
  go_wp2
  go_loopw [8, 24] (fun v i wr => ∃ k : Nat, k ≤ b ∧ i = .int .i64 k ∧ wr.ownsRow w.heap.size 5 1 v (if k = 0 then 0 else L) (nums .u8 (bs (upTo (if k = 0 then 0 else L) L (sumAt cs m k)))) ∧ Below w.heap.size w wr) (fun _ i _ => m.length - (intOf i).toNat)
  case atStart =>
    refine ⟨0, by omega, rfl, ?_, Below.refl _ _⟩
    exact own_nil _ _ _ _
  case round =>
    obtain ⟨k, hk, rfl, ho, hb⟩ := hrel
    have hltm : k < m.length := by omega
    by_cases hlt : k < b
    · obtain ⟨ad, B, cb, rfl, hcell, hcb, hrow⟩ := C_rowD hr' hltm
      obtain ⟨ad0, B0, cb0, e0, hcell0, hcb0, hrow0⟩ := C_rowD hr' (show 0 < m.length by omega)
      cases e0
      obtain ⟨adc, rfl, hcoef⟩ := C_byteD hr (show k < cs.length by rw [Hl.out]; exact hltm)
      have hcell' := pw_cell_below hb hcell
      have hcell0' := pw_cell_below hb hcell0
      have hk0 : (gr m 0).length = L := HL.out.symm
      have hkk : (gr m k).length = L := by rw [HL.out]; exact Hrows.out k hlt
      rw [hk0] at hcell0'
      rw [hkk] at hcell' hcb hrow
      clear hcell hcell0 hk0 hkk hcb0 hrow0
      have hcell00 : wr.cell? ad = some (.slice B0 L cb0) := by rw [← hcell0']; congr 1
      by_cases hz : k = 0
      case' pos =>
        have t2 : ((k : Int) == 0) = true := by simp [hz]
        have hst : (wr.alloc (.cells (madeCells #[.int .u8 0] L) 5)).ownsRow w.heap.size 5 1 (.slice (some ⟨wr.heap.size, 0, none⟩) L L) L (nums .u8 (bs (between L 0 (sumAt cs m k) (sumAt cs m (k + 1))))) := by
          rw [between_zero, hz, show bs (upTo L L (sumAt cs m 0)) = bs (upTo L 0 (sumAt cs m 0)) by congr 1; simp [upTo, sumAt, sm], upTo_zero]
          exact own_made wr w.heap.size 5 .u8 L hb.size (by have := HL.out; omega)
        have hbst : Below w.heap.size w (wr.alloc (.cells (madeCells #[.int .u8 0] L) 5)) := hb.alloc hb.size _
        clear hz ho
        go_wp2
        generalize Value.slice (some ⟨wr.heap.size, 0, none⟩) L L = vv at hst ⊢
      case' neg =>
        have t2 : ((k : Int) == 0) = false := by simp [hz]
        rw [if_neg hz, ← between_zero _ _ (sumAt cs m (k + 1))] at ho
        have hst := ho
        have hbst := hb
        clear hz ho
        go_wp2
        generalize u8 = vv at hst ⊢
      all_goals
        clear hcell' hcell0' hcell00
        go_loopw [43] (fun i wi => ∃ j : Nat, j ≤ L ∧ i = .int .i64 j ∧ wi.ownsRow w.heap.size 5 1 vv L (nums .u8 (bs (between L j (sumAt cs m k) (sumAt cs m (k + 1))))) ∧ Below w.heap.size w wi) (fun i _ => L - (intOf i).toNat)
        case atStart => exact ⟨0, by omega, rfl, hst, hbst⟩
        case round =>
          clear hst hbst
          obtain ⟨j, hj, rfl, ho, hb⟩ := hrel
          obtain ⟨wi, hwi⟩ : ∃ wi, wi = wr := ⟨_, rfl⟩
          subst hwi
          by_cases hltj : j < L
          · obtain ⟨adB, rfl, hbyte⟩ := C_byteD hrow hltj
            have hbyte' := pw_cell_below hb hbyte
            have hcoef' := pw_cell_below hb hcoef
            obtain ⟨gv, cv, hv, hvb, hvl⟩ := ho.form (by omega)
            subst hv
            obtain ⟨o1, o2⟩ := own_at ho (j : Int) (by omega) (by omega)
            rw [Int.toNat_natCast, rd_between hltj] at o1
            rw [Int.toNat_natCast] at o2
            have ht' := ht.below hg hb
            have hx := u8_xor_all (sumAt cs m k j) (gm (gb cs k) (gb (gr m k) j))
            rw [← sumAt_succ] at hx
            have i1 : (0 : Int) ≤ (j : Int) := by omega
            have i2 : (j : Int) < (L : Int) := by omega
            have i3 : (0 : Int) ≤ (k : Int) := by omega
            have i4 : (k : Int) < (cs.length : Int) := by have := Hl.out; omega
            clear hbyte
            go_wp2
            have ht2 : Tab wi.drew g := ht'
            refine start_ (n := 14) (S := fun w' => w'.cell? ⟨gv, j, none⟩ = some (.int .u8 ((sumAt cs m k j).toNat : Int)) ∧ w'.cell? (adc.add k) = some (.int .u8 ((gb cs k).toNat : Int))) (ds := [13]) #[false, false, false, false, false, false, false, false, false, false, false, false, false, false] (by kernel_rfl) rfl rfl ⟨o1, hcoef'⟩ (fun hHeld => ?_)
            refine pure_ (i := 0) (N := some 48) (v := ?_) (a' := ?_) #[true, false, false, false, false, false, false, false, false, false, false, false, false, false] rfl rfl (by kernel_rfl) (fun _ _ _ h => h) (Or.inl ⟨by rfl, ?_⟩) ?_ ?_
            rotate_left
            · intro w'
              go_simp
              with_reducible rfl
            rotate_left
            · simp only [Act.put, List.setIfInBounds_toArray, List.set_cons_zero, List.set_cons_succ, i64_w, i32_w]
              rfl
            refine pure_ (i := 1) (N := some 49) (v := ?_) (a' := ?_) #[true, true, false, false, false, false, false, false, false, false, false, false, false, false] rfl rfl (by kernel_rfl) (fun _ _ _ h => h) (Or.inl ⟨by rfl, ?_⟩) ?_ ?_
            rotate_left
            · intro w'
              go_simp
              with_reducible rfl
            rotate_left
            · simp only [Act.put, List.setIfInBounds_toArray, List.set_cons_zero, List.set_cons_succ, i64_w, i32_w]
              rfl
            refine pure_ (i := 2) (N := some 50) (v := ?_) (a' := ?_) #[true, true, true, false, false, false, false, false, false, false, false, false, false, false] rfl rfl (by kernel_rfl) (fun _ _ _ h => h) (Or.inl ⟨by rfl, ?_⟩) ?_ ?_
            rotate_left
            · intro w'
              go_simp
              with_reducible rfl
            rotate_left
            · simp only [Act.put, List.setIfInBounds_toArray, List.set_cons_zero, List.set_cons_succ, i64_w, i32_w]
              rfl
            refine pure_ (i := 4) (N := some 52) (v := ?_) (a' := ?_) #[true, true, true, false, true, false, false, false, false, false, false, false, false, false] rfl rfl (by kernel_rfl) (fun _ _ _ h => h) (Or.inl ⟨by rfl, ?_⟩) ?_ ?_
            rotate_left
            · intro w'
              go_simp
              with_reducible rfl
            rotate_left
            · simp only [Act.put, List.setIfInBounds_toArray, List.set_cons_zero, List.set_cons_succ, i64_w, i32_w]
              rfl
            refine pure_ (i := 5) (N := some 53) (v := ?_) (a' := ?_) #[true, true, true, false, true, true, false, false, false, false, false, false, false, false] rfl rfl (by kernel_rfl) (fun _ _ _ h => h) (Or.inl ⟨by rfl, ?_⟩) ?_ ?_
            rotate_left
            · intro w'
              go_simp
              with_reducible rfl
            rotate_left
            · simp only [Act.put, List.setIfInBounds_toArray, List.set_cons_zero, List.set_cons_succ, i64_w, i32_w]
              rfl
            refine pure_ (i := 6) (N := some 54) (v := ?_) (a' := ?_) #[true, true, true, false, true, true, true, false, false, false, false, false, false, false] rfl rfl (by kernel_rfl) (fun _ _ _ h => h) (Or.inl ⟨by rfl, ?_⟩) ?_ ?_
            rotate_left
            · intro w'
              go_simp
              with_reducible rfl
            rotate_left
            · simp only [Act.put, List.setIfInBounds_toArray, List.set_cons_zero, List.set_cons_succ, i64_w, i32_w]
              rfl
            refine pure_ (i := 7) (N := some 55) (v := ?_) (a' := ?_) #[true, true, true, false, true, true, true, true, false, false, false, false, false, false] rfl rfl (by kernel_rfl) (fun _ _ _ h => h) (Or.inl ⟨by rfl, ?_⟩) ?_ ?_
            rotate_left
            · intro w'
              go_simp
              with_reducible rfl
            rotate_left
            · simp only [Act.put, List.setIfInBounds_toArray, List.set_cons_zero, List.set_cons_succ, i64_w, i32_w]
              rfl
            refine pure_ (i := 9) (N := some 57) (v := ?_) (a' := ?_) #[true, true, true, false, true, true, true, true, false, true, false, false, false, false] rfl rfl (by kernel_rfl) (fun _ _ _ h => h) (Or.inl ⟨by rfl, ?_⟩) ?_ ?_
            rotate_left
            · intro w'
              go_simp
              with_reducible rfl
            rotate_left
            · simp only [Act.put, List.setIfInBounds_toArray, List.set_cons_zero, List.set_cons_succ, i64_w, i32_w]
              rfl
            refine take_ (i := 3) (N := some 51) (v := ?_) (a' := ?_) #[true, true, true, true, true, true, true, true, false, true, false, false, false, false] rfl rfl (by kernel_rfl) (fun _ _ _ h => h) (Or.inl ⟨by rfl, ?_⟩) hHeld ?_ ?_
            rotate_left
            · rintro w' ⟨s0, s1⟩
              go_simp
              with_reducible rfl
            rotate_left
            · simp only [Act.put, List.setIfInBounds_toArray, List.set_cons_zero, List.set_cons_succ, i64_w, i32_w]
              rfl
            refine take_ (i := 8) (N := some 56) (v := ?_) (a' := ?_) #[true, true, true, true, true, true, true, true, true, true, false, false, false, false] rfl rfl (by kernel_rfl) (fun _ _ _ h => h) (Or.inl ⟨by rfl, ?_⟩) hHeld ?_ ?_
            rotate_left
            · rintro w' ⟨s0, s1⟩
              go_simp
              with_reducible rfl
            rotate_left
            · simp only [Act.put, List.setIfInBounds_toArray, List.set_cons_zero, List.set_cons_succ, i64_w, i32_w]
              rfl
            refine one_ (i := 10) (N := some 58) #[true, true, true, true, true, true, true, true, true, true, true, false, false, false] rfl rfl (by kernel_rfl) (by decide) (fun K hK => ?_)
            refine goes_ Try.func24 (by kernel_rfl) rfl #[.pointer (some ⟨g, 0, none⟩), .int .u8 ((gb cs k).toNat : Int), .int .u8 ((gb (gr m k) j).toNat : Int)] (by rfl) rfl rfl (by simp only [List.map_toArray, List.map_cons, List.map_nil]; rfl) ?_
            with_reducible refine (mul_calls g (gb cs k) (gb (gr m k) j) _ ht2).mono ?_
            rintro e w3 ⟨rfl, ⟨nd, rfl⟩⟩
            refine ⟨_, rfl, ?_⟩
            refine hK.out _ _ ⟨o1, hcoef'⟩ (fun hHeld => ?_)
            clear hK K
            refine norm_ (a' := ?_) ?_ ?_
            rotate_left
            · show Act.put _ (some 58) _ = _
              simp only [Act.put, List.setIfInBounds_toArray, List.set_cons_zero, List.set_cons_succ, i64_w, i32_w]
              rfl
            refine pure_ (i := 11) (N := some 59) (v := ?_) (a' := ?_) #[true, true, true, true, true, true, true, true, true, true, true, true, false, false] rfl rfl (by kernel_rfl) (fun _ _ _ h => h) (Or.inl ⟨by rfl, ?_⟩) ?_ ?_
            rotate_left
            · intro w'
              go_simp
              with_reducible rfl
            rotate_left
            · simp only [Act.put, List.setIfInBounds_toArray, List.set_cons_zero, List.set_cons_succ, i64_w, i32_w]
              rfl
            refine pure_ (i := 12) (N := some 60) (v := ?_) (a' := ?_) #[true, true, true, true, true, true, true, true, true, true, true, true, true, false] rfl rfl (by kernel_rfl) (fun _ _ _ h => h) (Or.inl ⟨by rfl, ?_⟩) ?_ ?_
            rotate_left
            · intro w'
              go_simp
              with_reducible rfl
            rotate_left
            · simp only [Act.put, List.setIfInBounds_toArray, List.set_cons_zero, List.set_cons_succ, i64_w, i32_w]
              rfl
            refine last_ (i := 13) (N := none) #[true, true, true, true, true, true, true, true, true, true, true, true, true, true] rfl rfl (by kernel_rfl) (by decide) (fun K hK => ?_)
            refine skip_ (w1 := ?_) (by rfl) rfl ?_ ?_
            rotate_left
            · go_simp
              rfl
            refine hK.out _ _ ?_
            clear hK K
            refine done_ (by kernel_rfl) ?_
            have hst := (own_store (W := wi.drewN (1 + nd)) ho (j : Int) ((sumAt cs m (k + 1) j).toNat : Int)).1
            rw [Int.toNat_natCast, between_set] at hst
            have HST := Lib.hid hst
            clear hst
            go_wp2
            exact ⟨⟨j + 1, by omega, by go_num, HST.out, Below.setCell (pw_below_drewN hb _) hvb _⟩, by simp [intOf]; omega⟩
          · have hjL : j = L := by omega
            subst hjL
            rw [between_all] at ho
            have HO := Lib.hid ho
            clear ho
            go_wp2
            exact ⟨⟨k + 1, by omega, by go_num, by rw [if_neg (by omega)]; exact HO.out, hb⟩, by simp [intOf]; omega⟩
    · have hkb : k = b := by omega
      subst hkb
      obtain ⟨ad, B, cb, rfl, hcell, hcb, hrow⟩ := C_rowD hr' hltm
      obtain ⟨ad0, B0, cb0, e0, hcell0, hcb0, hrow0⟩ := C_rowD hr' (show 0 < m.length by omega)
      cases e0
      have hcell' := pw_cell_below hb hcell
      have hcell0' := pw_cell_below hb hcell0
      rw [← HL.out] at hcell0'
      have hcell00 : wr.cell? ad = some (.slice B0 L cb0) := by rw [← hcell0']; congr 1
      have t3 := HB.out
      clear hcell hcell0 ho
      go_wp2
      go_ret2
      exact ⟨rfl, hb⟩
theorem sum_len (g : Nat) (A : Option Addr) (n c : Nat) (A' : Option Addr) (m c' : Nat) (w : World) (hl : n ≠ m) :
    Calls Try.prog 33 #[.pointer (some ⟨g, 0, none⟩), .slice A n c, .slice A' m c'] w fun e w' => e = .returned (.tuple #[.slice none 0 0, .int .i64 14]) ∧ Below w.heap.size w w' := by
  have t1 : ((n : Int) != (m : Int)) = true := by rw [bne_iff_ne]; omega
  clear hl
  go_enter Try.func33, Try.ntmps33
  go_wp2
  go_ret2
  exact ⟨rfl, Below.refl _ _⟩
/-- Where texts are not alike there is a first one of another length. -/
theorem not_alike {m : List (List UInt8)} (h : ¬ Alike m) : ∃ b, 0 < b ∧ b < m.length ∧ (∀ i, i < b → (gr m i).length = (gr m 0).length) ∧ (gr m b).length ≠ (gr m 0).length := by
  have key : ∀ n, n ≤ m.length → (∀ i, i < n → (gr m i).length = (gr m 0).length) ∨ ∃ b, b < n ∧ (∀ i, i < b → (gr m i).length = (gr m 0).length) ∧ (gr m b).length ≠ (gr m 0).length := by
    intro n
    induction n with
    | zero => exact fun _ => .inl fun i hi => by omega
    | succ n ih =>
      intro hn
      rcases ih (by omega) with h1 | ⟨b, hb, h2⟩
      · by_cases he : (gr m n).length = (gr m 0).length
        · refine .inl fun i hi => ?_
          by_cases hin : i = n
          · rw [hin]; exact he
          · exact h1 i (by omega)
        · exact .inr ⟨n, by omega, h1, he⟩
      · exact .inr ⟨b, by omega, h2⟩
  rcases key m.length (Nat.le_refl _) with h1 | ⟨b, hb, h2, h3⟩
  · exfalso
    refine h fun r hr => ?_
    obtain ⟨i, hi, rfl⟩ := List.getElem_of_mem hr
    have := h1 i hi
    rw [gr_at hi] at this
    rw [this]
    cases m with
    | nil => simp at hi
    | cons a t => rfl
  · refine ⟨b, ?_, hb, h2, h3⟩
    rcases Nat.eq_zero_or_pos b with h0 | h0
    · subst h0; exact absurd rfl h3
    · exact h0
end Go.Proofs.Ytoijjlpkoniipaa
end
