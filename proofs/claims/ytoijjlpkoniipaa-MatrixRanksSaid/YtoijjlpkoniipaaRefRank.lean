/- What the document's Rank comes to, over bytes: how many rows are no sums of others (over the print's plain functions). Plain; no condition. -/
import Derived.Test.YtoijjlpkoniipaaRefMat
import Derived.Test.YtoijjlpkoniipaaDocRank
set_option linter.unusedVariables false
set_option linter.unusedSimpArgs false
namespace Go.Proofs.Ytoijjlpkoniipaa.PRsEncode
open Go.RowKit Go.Proofs.YtoijjlpkoniipaaW.PrintWords Gf Lin
/-- The first i rows are done. -/
structure RkInv (n c : Nat) (A : Lin.M) (i : Nat) (M : Lin.M) (p : Nat → Nat) (z : Nat → Bool) (cnt : Nat → Nat) : Prop where
  c0 : cnt 0 = 0
  cs : ∀ t, t < i → cnt (t + 1) = cnt t + (if z t then 0 else 1)
  le : cnt i ≤ i
  hz : ∀ t, t < i → z t = true → ∀ j, j < c → M t j = 0
  hp : ∀ t, t < i → z t = false → p t < c ∧ M t (p t) ≠ 0 ∧ ∀ k, t < k → k < n → M k (p t) = 0
  rel : Rel n A A M M
theorem RkInv.add {n c i k : Nat} {A M : Lin.M} {p : Nat → Nat} {z : Nat → Bool} {cnt : Nat → Nat} (h : RkInv n c A i M p z cnt) (hik : i < k) (hk : k < n) (cc : UInt8) : RkInv n c A i (addRow k i cc M) p z cnt := by
  refine ⟨h.c0, h.cs, h.le, fun t ht hzt j hj => ?_, fun t ht hzt => ?_, h.rel.add (by omega) hk (by omega) cc⟩
  · unfold addRow; rw [if_neg (by omega)]; exact h.hz t ht hzt j hj
  · obtain ⟨h1, h2, h3⟩ := h.hp t ht hzt
    refine ⟨h1, ?_, fun b hb hbn => ?_⟩
    · unfold addRow; rw [if_neg (by omega)]; exact h2
    · unfold addRow
      by_cases hbk : b = k
      · subst hbk
        rw [if_pos rfl, h3 b hb hbn, h3 i ht (by omega), gm_zero_right]; rfl
      · rw [if_neg hbk]; exact h3 b hb hbn
theorem first_nz (f : Nat → UInt8) : ∀ c, ∃ t, t ≤ c ∧ (∀ j, j < t → f j = 0) ∧ (t < c → f t ≠ 0)
  | 0 => ⟨0, Nat.le_refl _, fun j hj => by omega, fun h => by omega⟩
  | c + 1 => by
    obtain ⟨t, h1, h2, h3⟩ := first_nz f c
    by_cases htc : t < c
    · exact ⟨t, by omega, h2, fun _ => h3 htc⟩
    · have : t = c := by omega
      subst this
      by_cases h0 : f t = 0
      · exact ⟨t + 1, by omega, fun j hj => by
          by_cases hjt : j = t
          · rw [hjt]; exact h0
          · exact h2 j (by omega), fun h => by omega⟩
      · exact ⟨t, by omega, h2, fun _ => h0⟩
theorem gr_len {n c : Nat} (M : Lin.M) {i : Nat} (hi : i < n) : (gr (rowsOf n c M) i).length = c := by rw [gr_rowsOf _ hi]; simp
theorem gb_rows {n c : Nat} (M : Lin.M) {i j : Nat} (hi : i < n) (hj : j < c) : gb (gr (rowsOf n c M) i) j = M i j := by rw [gr_rowsOf _ hi, gb_range _ hj]
section
variable {n c : Nat} (hn : n ≤ 255) (hc : c ≤ 255) {R : Int}
include hn hc
theorem rk_l3 {i k : Nat} (hi : i < n) (hk : k < n) (hik : i ≠ k) (M : Lin.M) (x at_ : Int) (cc : UInt8)
    (H : Ev (fun q => scriniumref08_Rank.l2 q (bss (rowsOf n c (addRow k i cc M))) x (i : Int) at_ ((k + 1 : Nat) : Int)) R) (d : Nat) :
    ∀ j : Nat, c - j = d → j ≤ c → Ev (fun q => scriniumref08_Rank.l3 q (bss (rowsOf n c (fun a b => if a = k ∧ b < j then M a b ^^^ gm cc (M i b) else M a b))) x (i : Int) at_ (k : Int) (cc.toNat : Int) (j : Int)) R := by
  induction d with
  | zero =>
    intro j hd hj
    have : j = c := by omega
    subst this
    refine H.step fun q => ?_
    conv => lhs; unfold scriniumref08_Rank.l3
    rw [bss_length, rowsOf_length, if_pos (by omega), if_pos (by omega), rdLI (by simp; omega), bs_length, gr_len _ hk, if_neg (by omega), wrap_succ (by omega)]
    congr 2
    refine rowsOf_congr fun a ha b hb => ?_
    unfold addRow
    by_cases hak : a = k
    · rw [if_pos ⟨hak, hb⟩, if_pos hak]
    · rw [if_neg (fun e => hak e.1), if_neg hak]
  | succ d ih =>
    intro j hd hj
    have hjc : j < c := by omega
    refine (mul_ev cc (M i j)).step1 (ih (j + 1) (by omega) (by omega)) fun q hq => ?_
    conv => lhs; unfold scriniumref08_Rank.l3
    rw [bss_length, rowsOf_length, if_pos (by omega), if_pos (by omega), rdLI (by simp; omega), bs_length, gr_len _ hk, if_pos (by omega), if_pos (by omega), if_pos (by omega), if_pos (by omega), rdLI (by simp; omega), bs_length, gr_len _ hi, if_pos (by omega),
      rdI (by rw [gr_len _ hi]; exact hjc), rdI (by rw [gr_len _ hk]; exact hjc), gb_rows _ hi hjc, gb_rows _ hk hjc, if_neg (by omega), if_neg (by omega), hq]
    simp only [Option.bind_some]
    rw [u8_xor_all, Int.toNat_natCast, Int.toNat_natCast, bs_set, bss_set, rowsOf_set _ hk hjc, wrap_succ (by omega)]
    congr 2
    refine rowsOf_congr fun a ha b hb => ?_
    unfold updM
    by_cases hab : a = k ∧ b = j
    · obtain ⟨rfl, rfl⟩ := hab
      rw [if_pos ⟨rfl, rfl⟩, if_pos ⟨rfl, by omega⟩]; rfl
    · rw [if_neg hab]
      show (if a = k ∧ b < j then M a b ^^^ gm cc (M i b) else M a b) = _
      by_cases h2 : a = k ∧ b < j
      · rw [if_pos h2, if_pos ⟨h2.1, by omega⟩]
      · rw [if_neg h2, if_neg (by omega)]
theorem rk_l2 {A : Lin.M} {i at_ : Nat} (hi : i < n) (hat : at_ < c) {p : Nat → Nat} {z : Nat → Bool} {cnt : Nat → Nat} (x : Int)
    (H : ∀ M, RkInv n c A i M p z cnt → M i at_ ≠ 0 → (∀ t, i < t → t < n → M t at_ = 0) → Ev (fun q => scriniumref08_Rank.l0 q (bss (rowsOf n c M)) x ((i + 1 : Nat) : Int)) R) (d : Nat) :
    ∀ k : Nat, n - k = d → i < k → k ≤ n → ∀ M, RkInv n c A i M p z cnt → M i at_ ≠ 0 → (∀ t, i < t → t < k → M t at_ = 0) → Ev (fun q => scriniumref08_Rank.l2 q (bss (rowsOf n c M)) x (i : Int) (at_ : Int) (k : Int)) R := by
  induction d with
  | zero =>
    intro k hd hik hk M hM hne hz
    have : k = n := by omega
    subst this
    refine (H M hM hne hz).step fun q => ?_
    conv => lhs; unfold scriniumref08_Rank.l2
    rw [bss_length, rowsOf_length, if_neg (by omega), wrap_succ (by omega)]
  | succ d ih =>
    intro k hd hik hk M hM hne hz
    have hkn : k < n := by omega
    obtain ⟨cc, hcc⟩ : ∃ cc, cc = gm (M k at_) (gi (M i at_)) := ⟨_, rfl⟩
    have hnew := ih (k + 1) (by omega) (by omega) (by omega) (addRow k i cc M) (hM.add hik hkn cc) (by unfold addRow; rw [if_neg (by omega)]; exact hne) (fun t h1 h2 => by
      unfold addRow
      by_cases htk : t = k
      · subst htk
        rw [if_pos rfl, hcc, ← gm_assoc, gi_gm hne, gm_one, UInt8.xor_self]
      · rw [if_neg htk]; exact hz t h1 (by omega))
    have h3 := rk_l3 hn hc hi hkn (by omega) M x (at_ : Int) cc hnew c 0 (by omega) (by omega)
    obtain ⟨K, hK⟩ := h3
    obtain ⟨P, hP⟩ := inv_ev (M i at_)
    obtain ⟨Q, hQ⟩ := mul_ev (M k at_) (gi (M i at_))
    refine ⟨K + P + Q + 1, fun q hq => ?_⟩
    obtain ⟨q, rfl⟩ : ∃ j, q = j + 1 := ⟨q - 1, by omega⟩
    have e1 : scriniumref07_Inv.f q ((M i at_).toNat : Int) = some ((gi (M i at_)).toNat : Int) := hP q (by omega)
    have e2 : scriniumref07_Mul.f q ((M k at_).toNat : Int) ((gi (M i at_)).toNat : Int) = some ((gm (M k at_) (gi (M i at_))).toNat : Int) := hQ q (by omega)
    have e3 := hK q (by omega)
    show scriniumref08_Rank.l2 (q + 1) _ _ _ _ _ = _
    conv => lhs; unfold scriniumref08_Rank.l2
    rw [bss_length, rowsOf_length, if_pos (by omega), if_pos (by omega), if_pos (by omega), rdLI (by simp; omega), bs_length, gr_len _ hkn, if_pos (by omega), if_pos (by omega), if_pos (by omega), rdLI (by simp; omega), bs_length, gr_len _ hi, if_pos (by omega),
      rdI (by rw [gr_len _ hi]; exact hat), rdI (by rw [gr_len _ hkn]; exact hat), gb_rows _ hi hat, gb_rows _ hkn hat, e1]
    simp only [Option.bind_some]
    rw [e2]
    simp only [Option.bind_some]
    rw [← hcc, ← e3]
    have em : rowsOf n c (fun a b => if a = k ∧ b < 0 then M a b ^^^ gm cc (M i b) else M a b) = rowsOf n c M := rowsOf_congr fun a _ b _ => by rw [if_neg (by omega)]
    simp only [em]
    rfl
theorem rk_l1 {i at_ : Nat} (hi : i < n) (hat : at_ ≤ c) (M : Lin.M) (x : Int) (hz : ∀ j, j < at_ → M i j = 0) (hne : at_ < c → M i at_ ≠ 0)
    (H : Ev (fun q => scriniumref08_Rank.j2 q (bss (rowsOf n c M)) x (i : Int) (at_ : Int)) R) (d : Nat) :
    ∀ j : Nat, at_ - j = d → j ≤ at_ → Ev (fun q => scriniumref08_Rank.l1 q (bss (rowsOf n c M)) x (i : Int) (j : Int)) R := by
  have _ := hn
  induction d with
  | zero =>
    intro j hd hj
    have : j = at_ := by omega
    subst this
    refine H.step fun q => ?_
    conv => lhs; unfold scriniumref08_Rank.l1
    rw [bss_length, rowsOf_length, if_pos (by omega), if_pos (by omega), rdLI (by simp; omega), bs_length, gr_len _ hi]
    by_cases hjc : j < c
    · rw [if_pos (by omega), if_pos (by omega), rdI (by rw [gr_len _ hi]; exact hjc), gb_rows _ hi hjc, if_neg]
      intro e
      exact hne hjc (UInt8.toNat_inj.1 (Int.ofNat.inj e))
    · rw [if_neg (by omega)]
  | succ d ih =>
    intro j hd hj
    have hjc : j < c := by omega
    refine (ih (j + 1) (by omega) (by omega)).step fun q => ?_
    conv => lhs; unfold scriniumref08_Rank.l1
    rw [bss_length, rowsOf_length, if_pos (by omega), if_pos (by omega), rdLI (by simp; omega), bs_length, gr_len _ hi, if_pos (by omega), if_pos (by omega), rdI (by rw [gr_len _ hi]; exact hjc), gb_rows _ hi hjc, hz j (by omega), if_pos (by rfl), wrap_succ (by omega)]
theorem rk_l0 {A : Lin.M} {r0 : Nat} (hr : IsRank n c A r0) (d : Nat) : ∀ i : Nat, n - i = d → i ≤ n → ∀ M p z cnt, RkInv n c A i M p z cnt → Ev (fun q => scriniumref08_Rank.l0 q (bss (rowsOf n c M)) ((cnt i : Nat) : Int) (i : Int)) (r0 : Int) := by
  induction d with
  | zero =>
    intro i hd hi M p z cnt h
    have : i = n := by omega
    subst this
    refine Ev.done fun q => ?_
    have hk := (isRank_steps (A := M) (m := c) p z cnt h.c0 h.cs h.hz h.hp).of_rows h.rel.rows.1 h.rel.rows.2
    have := hr.unique hk
    conv => lhs; unfold scriniumref08_Rank.l0
    rw [bss_length, rowsOf_length, if_neg (by omega), this]
  | succ d ih =>
    intro i hd hi M p z cnt h
    have hin : i < n := by omega
    obtain ⟨at_, h1, h2, h3⟩ := first_nz (M i) c
    have hle := h.le
    have hj : Ev (fun q => scriniumref08_Rank.j2 q (bss (rowsOf n c M)) ((cnt i : Nat) : Int) (i : Int) (at_ : Int)) (r0 : Int) := by
      by_cases hat : at_ = c
      · have hnew := ih (i + 1) (by omega) (by omega) M p (fun t => if t = i then true else z t) (fun t => if t = i + 1 then cnt i else cnt t) ⟨by
            show (if 0 = i + 1 then cnt i else cnt 0) = 0
            rw [if_neg (by omega)]; exact h.c0, fun t ht => by
            by_cases hti : t = i
            · subst hti; simp
            · have := h.cs t (by omega)
              simp only [show t + 1 ≠ i + 1 by omega, show t ≠ i + 1 by omega, hti, if_false]
              exact this, by simp; omega, fun t ht hzt j hj => by
            by_cases hti : t = i
            · subst hti; exact h2 j (by omega)
            · exact h.hz t (by omega) (by simpa [hti] using hzt) j hj, fun t ht hzt => by
            by_cases hti : t = i
            · simp [hti] at hzt
            · exact h.hp t (by omega) (by simpa [hti] using hzt), h.rel⟩
        simp only [if_true] at hnew
        refine hnew.step fun q => ?_
        conv => lhs; unfold scriniumref08_Rank.j2
        rw [bss_length, rowsOf_length, if_pos (by omega), if_pos (by omega), rdLI (by simp; omega), bs_length, gr_len _ hin, if_pos (by omega), wrap_succ (by omega)]
      · have hac : at_ < c := by omega
        have hl2 := rk_l2 hn hc (A := A) (R := (r0 : Int)) hin hac (p := p) (z := z) (cnt := cnt) ((cnt i + 1 : Nat) : Int) (fun M' hM' hne' hz' => by
          have hnew := ih (i + 1) (by omega) (by omega) M' (fun t => if t = i then at_ else p t) (fun t => if t = i then false else z t) (fun t => if t = i + 1 then cnt i + 1 else cnt t) ⟨by
            show (if 0 = i + 1 then cnt i + 1 else cnt 0) = 0
            rw [if_neg (by omega)]; exact h.c0, fun t ht => by
            by_cases hti : t = i
            · subst hti; simp
            · have := h.cs t (by omega)
              simp only [show t + 1 ≠ i + 1 by omega, show t ≠ i + 1 by omega, hti, if_false]
              exact this, by simp; omega, fun t ht hzt j hj => by
            by_cases hti : t = i
            · simp [hti] at hzt
            · exact hM'.hz t (by omega) (by simpa [hti] using hzt) j hj, fun t ht hzt => by
            by_cases hti : t = i
            · subst hti
              simp only [if_true]
              exact ⟨hac, hne', hz'⟩
            · simp only [hti, if_false] at hzt ⊢
              exact hM'.hp t (by omega) hzt, hM'.rel⟩
          simp only [if_true] at hnew
          exact hnew) (n - (i + 1)) (i + 1) rfl (by omega) (by omega) M h (h3 hac) (fun t ht ht2 => by omega)
        refine hl2.step fun q => ?_
        conv => lhs; unfold scriniumref08_Rank.j2
        rw [bss_length, rowsOf_length, if_pos (by omega), if_pos (by omega), rdLI (by simp; omega), bs_length, gr_len _ hin, if_neg (by omega), wrap_succ (by omega), wrap_succ (by omega)]
    refine (rk_l1 hn hc hin h1 M _ h2 h3 hj at_ 0 (by omega) (by omega)).step fun q => ?_
    conv => lhs; unfold scriniumref08_Rank.l0
    rw [bss_length, rowsOf_length, if_pos (by omega)]
    rfl
end
theorem rank_yes {m : List (List UInt8)} (h : Rgt m) {r0 : Nat} (hr : IsRank m.length (gr m 0).length (fn m) r0) : Ev (fun k => scriniumref08_Rank.f k (bss m)) (r0 : Int) := by
  have h0 := rk_l0 h.n2 h.c2 hr m.length 0 (by omega) (by omega) (fn m) (fun _ => 0) (fun _ => false) (fun _ => 0) ⟨rfl, fun t ht => by omega, Nat.le_refl _, fun t ht => by omega, fun t ht => by omega, Rel.start _ _ _⟩
  rw [h.fn] at h0
  obtain ⟨K, hK⟩ := right_yes h
  obtain ⟨P, hP⟩ := h0
  refine ⟨K + P + m.length + 1, fun k hk => ?_⟩
  have e1 : scriniumref08_Right.f k (bss m) = some true := hK k (by omega)
  have e2 := copy_eq m (by have := h.n2; omega) (fun r hr => by
    obtain ⟨i, hi, rfl⟩ := List.getElem_of_mem hr
    rw [← gr_at hi, h.all i hi]; have := h.c2; omega) k (by omega)
  show scriniumref08_Rank.f k (bss m) = _
  unfold scriniumref08_Rank.f
  rw [e1]
  simp only [Option.bind_some, if_true]
  rw [e2]
  simp only [Option.bind_some]
  exact hP k (by omega)
theorem rank_no {m : List (List UInt8)} (h : ¬ Rgt m) : Ev (fun k => scriniumref08_Rank.f k (bss m)) 0 := by
  obtain ⟨K, hK⟩ := right_no h
  refine ⟨K, fun k hk => ?_⟩
  have e1 : scriniumref08_Right.f k (bss m) = some false := hK k (by omega)
  show scriniumref08_Rank.f k (bss m) = _
  unfold scriniumref08_Rank.f
  rw [e1]
  simp only [Option.bind_some]
  rw [if_neg (by simp)]
end Go.Proofs.Ytoijjlpkoniipaa.PRsEncode
