/- What the document's Row, alike and Encode come to, over bytes (over the print's plain functions). Plain; k and n as a code's. -/
import Derived.Test.YtoijjlpkoniipaaRsCode
set_option linter.unusedVariables false
set_option linter.unusedSimpArgs false
namespace Go.Proofs.Ytoijjlpkoniipaa
open Go.RowKit Go.Proofs.YtoijjlpkoniipaaW.PrintWords Go.Proofs.YtoijjlpkoniipaaW.PrintLast Gf Lin
namespace PRsEncode
theorem rdL9 {m : List (List UInt8)} {i : Nat} (h : i < m.length) : rd_L1 (bss m) (i : Int) = bs (gr m i) := by rw [rdL_bss h, gr_at h]
theorem unit_row' {n i : Nat} (hi : i < n) : (List.replicate n (0 : Int)).set i 1 = bs ((List.range n).map (Lin.unit i)) := by
  apply List.ext_getElem
  · simp
  · intro j h1 h2
    have hj : j < n := by simpa using h1
    by_cases hij : i = j
    · subst hij; simp [bs, Lin.unit]
    · rw [List.getElem_set_ne hij]; simp [bs, Lin.unit, hij]
theorem row_ev {k n i : Nat} (hk1 : 1 ≤ k) (hkn : k ≤ n) (hn : n ≤ 255) (hi : i < n) : Ev (fun q => scriniumref09_Row.f q (k : Int) (i : Int)) (bs ((List.range k).map (codeM k i))) := by
  by_cases hik : i < k
  · refine Ev.of 0 fun q _ => ?_
    unfold scriniumref09_Row.f
    rw [if_pos (by omega), if_pos (by omega), Int.toNat_natCast, if_pos (by omega)]
    simp only [Option.bind_some, List.length_replicate]
    rw [if_pos (by omega), if_pos (by omega), Int.toNat_natCast, unit_row' hik]
    congr 2
    exact List.map_congr_left fun j _ => by unfold codeM; rw [if_pos hik]
  · have e1 : wrap64 ((i : Int) - (k : Int)) = ((i - k : Nat) : Int) := by unfold wrap64; omega
    have e2 : wrap64 (((i - k : Nat) : Int) + 1) = ((i - k + 1 : Nat) : Int) := by unfold wrap64; omega
    obtain ⟨K, hK⟩ := cau_ok (n := i - k + 1) (k := k) (by omega) hk1 (by omega)
    refine ⟨K, fun q hq => ?_⟩
    have e3 : scriniumref08_Cauchy.f q ((i - k + 1 : Nat) : Int) (k : Int) = some (bss (rowsOf (i - k + 1) k (cau k)), 0) := hK q hq
    show scriniumref09_Row.f q (k : Int) (i : Int) = _
    unfold scriniumref09_Row.f
    rw [if_neg (by omega), e1, e2, e3]
    simp only [Option.bind_some]
    rw [if_pos (by omega), bss_length, rowsOf_length, if_pos (by omega), rdL9 (by simp), gr_rowsOf _ (by omega)]
    congr 2
    exact List.map_congr_left fun j _ => by unfold codeM; rw [if_neg hik]
theorem alike_loop_ok (m : List (List UInt8)) (hm : m.length ≤ 1000) (h : ∀ i, i < m.length → (gr m i).length = (gr m 0).length) (d : Nat) : ∀ i : Nat, m.length - i = d → i ≤ m.length → Ev (fun k => scriniumref09_alike.l0 k (bss m) (i : Int)) true := by
  induction d with
  | zero =>
    intro i hd hi
    refine Ev.done fun k => ?_
    simp only [scriniumref09_alike.l0, bss_length]
    rw [if_neg (by omega)]
  | succ d ih =>
    intro i hd hi
    refine (ih (i + 1) (by omega) (by omega)).step fun k => ?_
    conv => lhs; unfold scriniumref09_alike.l0
    have h0 := rdL9 (m := m) (i := 0) (by omega)
    have h0 : rd_L1 (bss m) 0 = bs (gr m 0) := h0
    rw [bss_length, if_pos (by omega), if_pos (by omega), if_pos (by omega), rdL9 (by omega), h0, bs_length, bs_length, if_pos (by rw [h i (by omega)]), wrap_succ (by omega)]
theorem alike_loop_no (m : List (List UInt8)) (hm : m.length ≤ 1000) (b : Nat) (hb : b < m.length) (h1 : ∀ i, i < b → (gr m i).length = (gr m 0).length) (h2 : (gr m b).length ≠ (gr m 0).length) (d : Nat) :
    ∀ i : Nat, b - i = d → i ≤ b → Ev (fun k => scriniumref09_alike.l0 k (bss m) (i : Int)) false := by
  have h0 : rd_L1 (bss m) 0 = bs (gr m 0) := rdL9 (m := m) (i := 0) (by omega)
  induction d with
  | zero =>
    intro i hd hi
    have : i = b := by omega
    subst this
    refine Ev.done fun k => ?_
    conv => lhs; unfold scriniumref09_alike.l0
    rw [bss_length, if_pos (by omega), if_pos (by omega), if_pos (by omega), rdL9 (by omega), h0, bs_length, bs_length, if_neg (by omega)]
  | succ d ih =>
    intro i hd hi
    refine (ih (i + 1) (by omega) (by omega)).step fun k => ?_
    conv => lhs; unfold scriniumref09_alike.l0
    rw [bss_length, if_pos (by omega), if_pos (by omega), if_pos (by omega), rdL9 (by omega), h0, bs_length, bs_length, if_pos (by rw [h1 i (by omega)]), wrap_succ (by omega)]
theorem alike_yes {m : List (List UInt8)} (hm : m.length ≤ 1000) (ha : Alike m) : Ev (fun k => scriniumref09_alike.f k (bss m)) true :=
  (alike_loop_ok m hm (fun i hi => by rw [head_len ha hi, gr_zero]) m.length 0 (by omega) (by omega)).same fun k => rfl
theorem alike_no {m : List (List UInt8)} (hm : m.length ≤ 1000) (ha : ¬ Alike m) : Ev (fun k => scriniumref09_alike.f k (bss m)) false := by
  obtain ⟨b, hb0, hbm, hx, hy⟩ := not_alike ha
  exact (alike_loop_no m hm b hbm hx hy b 0 (by omega) (by omega)).same fun k => rfl
theorem enc_l0 {k n : Nat} (hk1 : 1 ≤ k) (hkn : k ≤ n) (hn : n ≤ 255) (m : List (List UInt8)) (hm : m.length = k) (ha : Alike m) (hL : (m.headD []).length ≤ 1000000) (d : Nat) :
    ∀ i : Nat, n - i = d → i ≤ n → Ev (fun q => scriniumref09_Encode.l0 q (k : Int) (n : Int) (bss m) (bss (encB k i m)) (i : Int)) (bss (encB k n m), 0) := by
  induction d with
  | zero =>
    intro i hd hi
    have : i = n := by omega
    subst this
    refine Ev.done fun q => ?_
    conv => lhs; unfold scriniumref09_Encode.l0
    rw [if_neg (by omega)]
  | succ d ih =>
    intro i hd hi
    have h := ih (i + 1) (by omega) (by omega)
    rw [encB_succ] at h
    obtain ⟨K, hK⟩ := h
    obtain ⟨P, hP⟩ := row_ev hk1 hkn hn (show i < n by omega)
    refine ⟨K + P + sumK m + 1, fun q hq => ?_⟩
    obtain ⟨q, rfl⟩ : ∃ j, q = j + 1 := ⟨q - 1, by omega⟩
    have e1 : scriniumref09_Row.f q (k : Int) (i : Int) = some (bs ((List.range k).map (codeM k i))) := hP q (by omega)
    have e2 := sum_eq ((List.range k).map (codeM k i)) m (by simp [hm]) ha (by omega) hL q (by omega)
    have e3 := hK q (by omega)
    show scriniumref09_Encode.l0 (q + 1) _ _ _ _ _ = _
    conv => lhs; unfold scriniumref09_Encode.l0
    rw [if_pos (by omega), e1]
    simp only [Option.bind_some]
    rw [e2]
    simp only [Option.bind_some]
    rw [bss_length, encB_length, if_pos (by omega), bss_append, wrap_succ (by omega)]
    exact e3
theorem enc_ev {k n : Nat} (hk1 : 1 ≤ k) (hkn : k ≤ n) (hn : n ≤ 255) (m : List (List UInt8)) (hm : m.length ≤ 1000) (hL : ∀ r ∈ m, r.length ≤ 1000000) : Ev (fun q => scriniumref09_Encode.f q (k : Int) (n : Int) (bss m)) (bss (docEnc k n m).1, (docEnc k n m).2) := by
  have hno : Ev (fun q => scriniumref09_Encode.j0 q (k : Int) (n : Int) (bss m) true) ([], 14) := Ev.done fun q => by simp [scriniumref09_Encode.j0]
  by_cases hl : m.length = k
  · by_cases ha : Alike m
    · rw [docEnc_ok hl ha]
      have h0 := enc_l0 hk1 hkn hn m hl ha (by
        cases m with
        | nil => simp
        | cons a l => exact hL a (by simp)) n 0 (by omega) (by omega)
      have hj : Ev (fun q => scriniumref09_Encode.j0 q (k : Int) (n : Int) (bss m) false) (bss (encB k n m), 0) := h0.step fun q => by
        simp only [scriniumref09_Encode.j0]
        rfl
      obtain ⟨K, hK⟩ := hj
      obtain ⟨P, hP⟩ := alike_yes hm ha
      refine ⟨K + P, fun q hq => ?_⟩
      have e1 : scriniumref09_alike.f q (bss m) = some true := hP q (by omega)
      show scriniumref09_Encode.f q _ _ _ = _
      unfold scriniumref09_Encode.f
      rw [bss_length, if_pos (by omega), e1]
      exact hK q (by omega)
    · rw [docEnc_no fun h => ha h.2]
      obtain ⟨K, hK⟩ := hno
      obtain ⟨P, hP⟩ := alike_no hm ha
      refine ⟨K + P, fun q hq => ?_⟩
      have e1 : scriniumref09_alike.f q (bss m) = some false := hP q (by omega)
      show scriniumref09_Encode.f q _ _ _ = _
      unfold scriniumref09_Encode.f
      rw [bss_length, if_pos (by omega), e1]
      exact hK q (by omega)
  · rw [docEnc_no fun h => hl h.1]
    refine hno.same fun q => ?_
    unfold scriniumref09_Encode.f
    rw [bss_length, if_neg (by omega)]
end PRsEncode
theorem RBB.of_S9 {w : World} {e base : Nat} {ok : Nat → Prop} {v : Value} {m : List (List UInt8)} (h : Kd.S KBB e w base ok v (bss m)) : ∃ D s d, v = .slice D s d ∧ RD w D s d m := by
  obtain ⟨A, c, rfl, h1, h2⟩ := C_of_S h
  exact ⟨A, _, c, rfl, h1, h2⟩
theorem renc_R {w : World} {k n : Nat} (hk1 : 1 ≤ k) (hkn : k ≤ n) (hn : n ≤ 255) (a b : Int) (ha : a = (k : Int)) (hb : b = (n : Int)) {A : Option Addr} {q c : Nat} {m : List (List UInt8)} (h : RD w A q c m) (hm : q ≤ 1000) (hL : ∀ r ∈ m, r.length ≤ 1000000) :
    Calls Try.prog 42 #[.int .i64 a, .int .i64 b, .slice A q c] w fun e w' => ∃ D s d ev, e = .returned (.tuple #[.slice D s d, .int .i64 ev]) ∧ ev = (docEnc k n m).2 ∧ RD w' D s d (docEnc k n m).1 ∧ Below w.heap.size w w' := by
  subst ha; subst hb
  obtain ⟨h1, h2⟩ := h
  have e := CC_len h2
  subst e
  obtain ⟨f, hf⟩ := (PRsEncode.enc_ev hk1 hkn hn m hm hL).at
  have h := PRsEncode.scriniumref09_Encode.calls f k n A c (bss m) _ _ w (by rw [bss_length]; exact h2) (by rw [bss_length]; exact h1) hf
  rw [bss_length] at h
  refine h.mono ?_
  rintro e w' ⟨v, rfl, hs, hb⟩
  obtain ⟨D, s, d, rfl, hr⟩ := RBB.of_S9 hs
  exact ⟨D, s, d, _, rfl, rfl, hr, hb⟩
theorem rrow_R {k n i : Nat} (hk1 : 1 ≤ k) (hkn : k ≤ n) (hn : n ≤ 255) (hi : i < n) (a b : Int) (ha : a = (k : Int)) (hb : b = (i : Int)) (w : World) :
    Calls Try.prog 45 #[.int .i64 a, .int .i64 b] w fun e w' => ∃ D s d, e = .returned (.slice D s d) ∧ RS w' D s d ((List.range k).map (codeM k i)) ∧ Below w.heap.size w w' := by
  subst ha; subst hb
  obtain ⟨f, hf⟩ := (PRsEncode.row_ev hk1 hkn hn hi).at
  refine (PRsEncode.scriniumref09_Row.calls f k i _ w hf).mono ?_
  rintro e w' ⟨v, rfl, hs, hb⟩
  obtain ⟨A, c, rfl, h1, h2⟩ := C_of_R hs
  exact ⟨A, _, c, rfl, ⟨h1, h2⟩, hb⟩
end Go.Proofs.Ytoijjlpkoniipaa
