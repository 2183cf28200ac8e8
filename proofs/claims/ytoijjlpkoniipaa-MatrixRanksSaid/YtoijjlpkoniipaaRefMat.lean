/- What the document's Right, Mul and Unit come to, over bytes (over the print's plain functions). Plain; no condition. -/
import Derived.Test.YtoijjlpkoniipaaDocM
import Derived.Test.YtoijjlpkoniipaaEv
set_option linter.unusedVariables false
set_option linter.unusedSimpArgs false
namespace Go.Proofs.Ytoijjlpkoniipaa
namespace PRsEncode
open Go.RowKit Go.Proofs.YtoijjlpkoniipaaW.PrintWords Gf Lin
theorem rdI {l : List UInt8} {i : Nat} (h : i < l.length) : rd (bs l) (i : Int) = ((gb l i).toNat : Int) := by rw [rd_bs h, gb_at h]
theorem rdLI {m : List (List UInt8)} {i : Nat} (h : i < m.length) : rd_L1 (bss m) (i : Int) = bs (gr m i) := by rw [rdL_bss h, gr_at h]
theorem rdLI0 {m : List (List UInt8)} (h : 0 < m.length) : rd_L1 (bss m) 0 = bs (gr m 0) := rdLI (i := 0) h
/-! ### Right -/
theorem right_loop_ok (m : List (List UInt8)) (h : Rgt m) (d : Nat) : ∀ i : Nat, m.length - i = d → i ≤ m.length → Ev (fun k => scriniumref08_Right.l0 k (bss m) (i : Int)) true := by
  have n1 := h.n1
  have n2 := h.n2
  induction d with
  | zero =>
    intro i hd hi
    refine Ev.done fun k => ?_
    simp only [scriniumref08_Right.l0, bss_length]
    rw [if_neg (by omega)]
  | succ d ih =>
    intro i hd hi
    refine (ih (i + 1) (by omega) (by omega)).step fun k => ?_
    conv => lhs; unfold scriniumref08_Right.l0
    rw [bss_length, if_pos (by omega), if_pos (by omega), if_pos (by omega), rdLI (by omega), rdLI0 (by omega), bs_length, bs_length, if_pos (by rw [h.all i (by omega)]), wrap_succ (by omega)]
theorem right_loop_no (m : List (List UInt8)) (hm : m.length ≤ 255) (b : Nat) (hb : b < m.length) (h1 : ∀ i, i < b → (gr m i).length = (gr m 0).length) (h2 : (gr m b).length ≠ (gr m 0).length) (d : Nat) :
    ∀ i : Nat, b - i = d → i ≤ b → Ev (fun k => scriniumref08_Right.l0 k (bss m) (i : Int)) false := by
  induction d with
  | zero =>
    intro i hd hi
    have : i = b := by omega
    subst this
    refine Ev.done fun k => ?_
    conv => lhs; unfold scriniumref08_Right.l0
    rw [bss_length, if_pos (by omega), if_pos (by omega), if_pos (by omega), rdLI (by omega), rdLI0 (by omega), bs_length, bs_length, if_neg (by omega)]
  | succ d ih =>
    intro i hd hi
    refine (ih (i + 1) (by omega) (by omega)).step fun k => ?_
    conv => lhs; unfold scriniumref08_Right.l0
    rw [bss_length, if_pos (by omega), if_pos (by omega), if_pos (by omega), rdLI (by omega), rdLI0 (by omega), bs_length, bs_length, if_pos (by rw [h1 i (by omega)]), wrap_succ (by omega)]
theorem right_j_false (m : List (List Int)) : Ev (fun k => scriniumref08_Right.j0 k m true) false := Ev.done fun k => by simp [scriniumref08_Right.j0]
theorem right_ev (m : List (List UInt8)) : ∃ b, (b = true ↔ Rgt m) ∧ Ev (fun k => scriniumref08_Right.f k (bss m)) b := by
  by_cases h1 : m.length < 1
  · refine ⟨false, ⟨fun h => Bool.noConfusion h, fun h => by have := h.n1; omega⟩, (right_j_false (bss m)).same fun k => ?_⟩
    unfold scriniumref08_Right.f
    rw [bss_length, if_pos (by omega)]
  by_cases h2 : 255 < m.length
  · refine ⟨false, ⟨fun h => Bool.noConfusion h, fun h => by have := h.n2; omega⟩, (right_j_false (bss m)).same fun k => ?_⟩
    unfold scriniumref08_Right.f
    rw [bss_length, if_neg (by omega), if_pos (by omega)]
  by_cases h3 : (gr m 0).length < 1
  · refine ⟨false, ⟨fun h => Bool.noConfusion h, fun h => by have := h.c1; omega⟩, (right_j_false (bss m)).same fun k => ?_⟩
    unfold scriniumref08_Right.f
    rw [bss_length, if_neg (by omega), if_neg (by omega), if_pos (by omega), rdLI0 (by omega), bs_length, if_pos (by omega)]
  by_cases h4 : 255 < (gr m 0).length
  · refine ⟨false, ⟨fun h => Bool.noConfusion h, fun h => by have := h.c2; omega⟩, (right_j_false (bss m)).same fun k => ?_⟩
    unfold scriniumref08_Right.f
    rw [bss_length, if_neg (by omega), if_neg (by omega), if_pos (by omega), rdLI0 (by omega), bs_length, if_neg (by omega), decide_eq_true (by omega)]
  have go : ∀ k, scriniumref08_Right.f (k + 1) (bss m) = scriniumref08_Right.l0 k (bss m) 0 := fun k => by
    unfold scriniumref08_Right.f
    rw [bss_length, if_neg (by omega), if_neg (by omega), if_pos (by omega), rdLI0 (by omega), bs_length, if_neg (by omega), decide_eq_false (by omega)]
    simp [scriniumref08_Right.j0]
  by_cases ha : Alike m
  · have hr := Rgt.of_alike (by omega) (by omega) (by omega) (by omega) ha
    exact ⟨true, ⟨fun _ => hr, fun _ => rfl⟩, (right_loop_ok m hr m.length 0 (by omega) (by omega)).step go⟩
  · obtain ⟨b, hb0, hbm, hx, hy⟩ := not_alike ha
    exact ⟨false, ⟨fun h => Bool.noConfusion h, fun h => absurd h.alike ha⟩, (right_loop_no m (by omega) b hbm hx hy b 0 (by omega) (by omega)).step go⟩
theorem right_yes {m : List (List UInt8)} (h : Rgt m) : Ev (fun k => scriniumref08_Right.f k (bss m)) true := by
  obtain ⟨b, hb, he⟩ := right_ev m
  rw [hb.2 h] at he; exact he
theorem right_no {m : List (List UInt8)} (h : ¬ Rgt m) : Ev (fun k => scriniumref08_Right.f k (bss m)) false := by
  obtain ⟨b, hb, he⟩ := right_ev m
  cases b with
  | false => exact he
  | true => exact absurd (hb.1 rfl) h
/-! ### Mul -/
section
variable {a b : List (List UInt8)} (hf : Fit a b) {R : List (List Int) × Int}
include hf
theorem rmul_l2 (out : List (List Int)) (row : List UInt8) (hrow : row.length ≤ 255) {i j : Nat} (hi : i < a.length) (hj : j < (gr b 0).length)
    (H : Ev (fun k => scriniumref08_Mul.l1 k (bss a) (bss b) out (i : Int) (bs (row ++ [mul b.length (fn a) (fn b) i j])) ((j + 1 : Nat) : Int)) R) (d : Nat) :
    ∀ t : Nat, b.length - t = d → t ≤ b.length → Ev (fun k => scriniumref08_Mul.l2 k (bss a) (bss b) out (i : Int) (bs row) (j : Int) ((mul t (fn a) (fn b) i j).toNat : Int) (t : Int)) R := by
  have n2 := hf.rb.n2
  have c2 := hf.rb.c2
  have hai : (gr a i).length = b.length := by rw [hf.ra.all i hi, hf.l]
  induction d with
  | zero =>
    intro t hd ht
    have : t = b.length := by omega
    subst this
    refine H.step fun k => ?_
    conv => lhs; unfold scriniumref08_Mul.l2
    rw [bss_length, if_neg (by omega), bs_length, if_pos (by omega), bs_append, wrap_succ (by omega)]
  | succ d ih =>
    intro t hd ht
    have htl : t < b.length := by omega
    have hbt := hf.rb.all t htl
    refine (mul_ev (gb (gr a i) t) (gb (gr b t) j)).step1 (ih (t + 1) (by omega) (by omega)) fun k hk => ?_
    conv => lhs; unfold scriniumref08_Mul.l2
    rw [bss_length, bss_length, if_pos (by omega), if_pos (by omega), if_pos (by omega), if_pos (by omega), rdLI hi, rdLI htl, bs_length, bs_length, if_pos (by omega), if_pos (by omega), if_pos (by omega), rdI (by omega), rdI (by omega), hk]
    simp only [Option.bind_some]
    rw [u8_xor_all, wrap_succ (by omega)]
    rfl
theorem rmul_l1 (out : List (List UInt8)) (hout : out.length ≤ 255) {i : Nat} (hi : i < a.length)
    (H : Ev (fun k => scriniumref08_Mul.l0 k (bss a) (bss b) (bss (out ++ [(List.range (gr b 0).length).map (mul b.length (fn a) (fn b) i)])) ((i + 1 : Nat) : Int)) R) (d : Nat) :
    ∀ j : Nat, (gr b 0).length - j = d → j ≤ (gr b 0).length → Ev (fun k => scriniumref08_Mul.l1 k (bss a) (bss b) (bss out) (i : Int) (bs ((List.range j).map (mul b.length (fn a) (fn b) i))) (j : Int)) R := by
  have n2 := hf.ra.n2
  have c2 := hf.rb.c2
  have n1 := hf.rb.n1
  induction d with
  | zero =>
    intro j hd hj
    have : j = (gr b 0).length := by omega
    subst this
    refine H.step fun k => ?_
    conv => lhs; unfold scriniumref08_Mul.l1
    rw [bss_length, if_pos (by omega), rdLI0 (by omega), bs_length, if_neg (by omega), bss_length, if_pos (by omega), bss_append, wrap_succ (by omega)]
  | succ d ih =>
    intro j hd hj
    have h := ih (j + 1) (by omega) (by omega)
    rw [range_map_succ] at h
    refine (rmul_l2 hf (bss out) ((List.range j).map (mul b.length (fn a) (fn b) i)) (by simp; omega) hi (by omega) h b.length 0 (by omega) (by omega)).step fun k => ?_
    conv => lhs; unfold scriniumref08_Mul.l1
    rw [bss_length, if_pos (by omega), rdLI0 (by omega), bs_length, if_pos (by omega)]
    rfl
theorem rmul_l0 (d : Nat) : ∀ i : Nat, a.length - i = d → i ≤ a.length → Ev (fun k => scriniumref08_Mul.l0 k (bss a) (bss b) (bss (rowsOf i (gr b 0).length (mul b.length (fn a) (fn b)))) (i : Int)) (bss (prod a b), 0) := by
  have n2 := hf.ra.n2
  induction d with
  | zero =>
    intro i hd hi
    have : i = a.length := by omega
    subst this
    refine Ev.done fun k => ?_
    conv => lhs; unfold scriniumref08_Mul.l0
    rw [bss_length, if_neg (by omega)]
    rfl
  | succ d ih =>
    intro i hd hi
    have h := ih (i + 1) (by omega) (by omega)
    rw [rowsOf_succ] at h
    refine (rmul_l1 hf (rowsOf i (gr b 0).length (mul b.length (fn a) (fn b))) (by simp; omega) (by omega) h (gr b 0).length 0 (by omega) (by omega)).step fun k => ?_
    conv => lhs; unfold scriniumref08_Mul.l0
    rw [bss_length, if_pos (by omega)]
    rfl
end
theorem rmul_j_no (x y : List (List Int)) : Ev (fun k => scriniumref08_Mul.j0 k x y true) ([], 14) := Ev.done fun k => by simp [scriniumref08_Mul.j0]
theorem rmul_ok {a b : List (List UInt8)} (hf : Fit a b) : Ev (fun k => scriniumref08_Mul.f k (bss a) (bss b)) (bss (prod a b), 0) := by
  have h0 := rmul_l0 hf a.length 0 (by omega) (by omega)
  have hj : Ev (fun k => scriniumref08_Mul.j0 k (bss a) (bss b) false) (bss (prod a b), 0) := h0.step fun k => by
    simp only [scriniumref08_Mul.j0]
    rfl
  obtain ⟨K, hK⟩ := right_yes hf.ra
  obtain ⟨L, hL⟩ := right_yes hf.rb
  obtain ⟨P, hP⟩ := hj
  refine ⟨K + L + P, fun k hk => ?_⟩
  have e1 : scriniumref08_Right.f k (bss a) = some true := hK k (by omega)
  have e2 : scriniumref08_Right.f k (bss b) = some true := hL k (by omega)
  have e3 : (((rd_L1 (bss a) 0).length : Int) != ((bss b).length : Int)) = false := by
    rw [rdLI0 (by have := hf.ra.n1; omega), bs_length, bss_length, hf.l]; simp
  show scriniumref08_Mul.f k (bss a) (bss b) = _
  unfold scriniumref08_Mul.f
  rw [e1, e2]
  simp only [Option.bind_some, if_true]
  rw [e3, bss_length, if_pos (by have := hf.ra.n1; omega)]
  exact hP k (by omega)
theorem rmul_no {a b : List (List UInt8)} (hf : ¬ Fit a b) : Ev (fun k => scriniumref08_Mul.f k (bss a) (bss b)) ([], 14) := by
  obtain ⟨P, hP⟩ := rmul_j_no (bss a) (bss b)
  by_cases ha : Rgt a
  · obtain ⟨K, hK⟩ := right_yes ha
    by_cases hb : Rgt b
    · have hl : (gr a 0).length ≠ b.length := fun e => hf ⟨ha, hb, e⟩
      obtain ⟨L, hL⟩ := right_yes hb
      refine ⟨K + L + P, fun k hk => ?_⟩
      have e1 : scriniumref08_Right.f k (bss a) = some true := hK k (by omega)
      have e2 : scriniumref08_Right.f k (bss b) = some true := hL k (by omega)
      have e3 : (((rd_L1 (bss a) 0).length : Int) != ((bss b).length : Int)) = true := by
        rw [rdLI0 (by have := ha.n1; omega), bs_length, bss_length]; simp; omega
      show scriniumref08_Mul.f k (bss a) (bss b) = _
      unfold scriniumref08_Mul.f
      rw [e1, e2]
      simp only [Option.bind_some, if_true]
      rw [e3, bss_length, if_pos (by have := ha.n1; omega)]
      exact hP k (by omega)
    · obtain ⟨L, hL⟩ := right_no hb
      refine ⟨K + L + P, fun k hk => ?_⟩
      have e1 : scriniumref08_Right.f k (bss a) = some true := hK k (by omega)
      have e2 : scriniumref08_Right.f k (bss b) = some false := hL k (by omega)
      show scriniumref08_Mul.f k (bss a) (bss b) = _
      unfold scriniumref08_Mul.f
      rw [e1, e2]
      simp only [Option.bind_some, if_true]
      rw [if_neg (by simp)]
      exact hP k (by omega)
  · obtain ⟨K, hK⟩ := right_no ha
    refine ⟨K + P, fun k hk => ?_⟩
    have e1 : scriniumref08_Right.f k (bss a) = some false := hK k (by omega)
    show scriniumref08_Mul.f k (bss a) (bss b) = _
    unfold scriniumref08_Mul.f
    rw [e1]
    simp only [Option.bind_some]
    rw [if_neg (by simp)]
    exact hP k (by omega)
/-! ### Unit -/
theorem unit_row {n i : Nat} (hi : i < n) : (List.replicate n (0 : Int)).set i 1 = bs ((List.range n).map (Lin.unit i)) := by
  apply List.ext_getElem
  · simp
  · intro j h1 h2
    have hj : j < n := by simpa using h1
    by_cases hij : i = j
    · subst hij; simp [bs, Lin.unit]
    · rw [List.getElem_set_ne hij]; simp [bs, Lin.unit, hij]
theorem runit_l0 (n : Nat) (hn : n ≤ 255) (d : Nat) : ∀ i : Nat, n - i = d → i ≤ n → Ev (fun k => scriniumref08_Unit.l0 k (n : Int) (bss (rowsOf i n Lin.unit)) (i : Int)) (bss (rowsOf n n Lin.unit)) := by
  induction d with
  | zero =>
    intro i hd hi
    have : i = n := by omega
    subst this
    refine Ev.done fun k => ?_
    conv => lhs; unfold scriniumref08_Unit.l0
    rw [if_neg (by omega)]
  | succ d ih =>
    intro i hd hi
    have h := ih (i + 1) (by omega) (by omega)
    rw [rowsOf_succ] at h
    refine h.step fun k => ?_
    conv => lhs; unfold scriniumref08_Unit.l0
    rw [if_pos (by omega), if_pos (by omega), Int.toNat_natCast, if_pos (by omega)]
    simp only [Option.bind_some, List.length_replicate]
    rw [if_pos (by omega), if_pos (by omega), bss_length, if_pos (by simp; omega), Int.toNat_natCast, unit_row (by omega), bss_append, wrap_succ (by omega)]
theorem runit_ok (n : Nat) (h1 : 1 ≤ n) (h2 : n ≤ 255) : Ev (fun k => scriniumref08_Unit.f k (n : Int)) (bss (rowsOf n n Lin.unit)) :=
  (runit_l0 n h2 n 0 (by omega) (by omega)).step fun k => by
    unfold scriniumref08_Unit.f
    rw [if_neg (by omega), decide_eq_false (by omega)]
    simp only [scriniumref08_Unit.j0]
    rfl
theorem runit_no (z : Int) (h : ¬ (1 ≤ z ∧ z ≤ 255)) : Ev (fun k => scriniumref08_Unit.f k z) [] := Ev.done fun k => by
  unfold scriniumref08_Unit.f
  by_cases h1 : z < 1
  · rw [if_pos h1]; simp [scriniumref08_Unit.j0]
  · rw [if_neg h1, decide_eq_true (by omega)]; simp [scriniumref08_Unit.j0]
end PRsEncode
end Go.Proofs.Ytoijjlpkoniipaa
