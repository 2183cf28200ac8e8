/- Codes: any k pieces tell the slices. Plain. -/
import Derived.Test.YtoijjlpkoniipaaRsAgain
set_option linter.unusedVariables false
set_option linter.unusedSimpArgs false
namespace Go.Proofs.Ytoijjlpkoniipaa
open Go.RowKit Gf Lin
theorem sumB_rows {M : List (List UInt8)} {k L : Nat} (hk : M.length = k) (hL : (M.headD []).length = L) (f : Nat → UInt8) :
    sumB ((List.range k).map f) M = (List.range L).map (fun j => sm k (fun t => gm (f t) (gb (gr M t) j))) := by
  unfold sumB
  rw [hL, hk]
  refine List.map_congr_left fun j _ => ?_
  unfold sumAt
  exact sm_congr fun t ht => by rw [gb_range _ ht]
theorem head_len {m : List (List UInt8)} (h : Alike m) {i : Nat} (hi : i < m.length) : (gr m i).length = (m.headD []).length := PRsEncode.alike_len h hi
theorem gr_take {m : List (List UInt8)} {k i : Nat} (hi : i < k) (hk : k ≤ m.length) : gr (m.take k) i = gr m i := by
  rw [gr_at (by rw [List.length_take]; omega), gr_at (by omega), List.getElem_take]
theorem headD_take {m : List (List UInt8)} {k : Nat} (hk : 1 ≤ k) : (m.take k).headD [] = m.headD [] := by
  cases m with
  | nil => simp
  | cons a l =>
    obtain ⟨j, rfl⟩ : ∃ j, k = j + 1 := ⟨k - 1, by omega⟩
    rfl
theorem row_ext {r s : List UInt8} {L : Nat} (hr : r.length = L) (hs : s.length = L) (h : ∀ j, j < L → gb r j = gb s j) : r = s := by
  apply List.ext_getElem
  · omega
  · intro j h1 h2
    have := h j (by omega)
    rwa [gb_at h1, gb_at h2] at this
theorem rows_ext {m x : List (List UInt8)} (hl : m.length = x.length) (h : ∀ i, i < m.length → gr m i = gr x i) : m = x := by
  apply List.ext_getElem
  · exact hl
  · intro i h1 h2
    have := h i h1
    rwa [gr_at h1, gr_at h2] at this
/-- Pieces of slices: what comes of any k of them. -/
theorem dec_enc {k : Nat} {zs : List Int} {m hv : List (List UInt8)} {S : Lin.M} (hk1 : 1 ≤ k) (hm : m.length = k) (ha : Alike m) (hl : k ≤ hv.length)
    (hh : ∀ a, a < k → gr hv a = sumB ((List.range k).map (codeM k (gz zs a).toNat)) m) (hS : ∀ i, i < k → ∀ j, j < k → mul k S (pickM k zs) i j = Lin.unit i j) : decB k k S hv = m := by
  obtain ⟨L, hL⟩ : ∃ L, L = (m.headD []).length := ⟨_, rfl⟩
  have hrow : ∀ a, a < k → gr hv a = (List.range L).map (fun j => sm k (fun t => gm (pickM k zs a t) (gb (gr m t) j))) := fun a hak => by
    rw [hh a hak, sumB_rows hm hL.symm]; rfl
  have h0 : ((hv.take k).headD []).length = L := by
    rw [headD_take hk1, ← PRsEncode.gr_zero, hrow 0 (by omega)]; simp
  refine rows_ext (by rw [decB_length, hm]) fun i hi => ?_
  have hik : i < k := by rw [decB_length] at hi; exact hi
  rw [decB_row S hv hik, sumB_rows (by rw [List.length_take]; omega) h0]
  refine row_ext (L := L) (by simp) (by rw [head_len ha (by omega), hL]) fun j hj => ?_
  rw [gb_range _ hj]
  have e1 : sm k (fun t => gm (S i t) (gb (gr (hv.take k) t) j)) = sm k (fun t => gm (S i t) (sm k (fun u => gm (pickM k zs t u) (gb (gr m u) j)))) := sm_congr fun t ht => by
    rw [gr_take ht hl, hrow t ht, gb_range _ hj]
  have e2 := comb_comb k k (S i) (pickM k zs) (fun u j => gb (gr m u) j) j
  rw [e1, e2]
  have e3 : sm k (fun t => gm (sm k (fun u => gm (S i u) (pickM k zs u t))) (gb (gr m t) j)) = sm k (fun t => gm (Lin.unit i t) (gb (gr m t) j)) := sm_congr fun t ht => by
    rw [← hS i hik t ht]; rfl
  rw [e3, sm_one hik (fun t ht hne => by unfold Lin.unit; rw [if_neg (fun e => hne e.symm), gm_zero_left])]
  simp [Lin.unit, one_gm]
/-- What comes of any k pieces has just these pieces. -/
theorem enc_dec {k : Nat} {zs : List Int} {hv : List (List UInt8)} {S : Lin.M} (hk1 : 1 ≤ k) (hl : k ≤ hv.length) (ha : Alike hv)
    (hS : ∀ i, i < k → ∀ j, j < k → mul k (pickM k zs) S i j = Lin.unit i j) {a : Nat} (hak : a < k) : sumB ((List.range k).map (codeM k (gz zs a).toNat)) (decB k k S hv) = gr hv a := by
  obtain ⟨L, hL⟩ : ∃ L, L = (hv.headD []).length := ⟨_, rfl⟩
  have h0 : ((hv.take k).headD []).length = L := by rw [headD_take hk1, hL]
  have hd : ((decB k k S hv).headD []).length = L := by
    rw [← PRsEncode.gr_zero, decB_row S hv (by omega), sumB_rows (by rw [List.length_take]; omega) h0]; simp
  rw [sumB_rows (decB_length _ _ _ _) hd]
  refine row_ext (L := L) (by simp) (by rw [head_len ha (by omega), hL]) fun j hj => ?_
  rw [gb_range _ hj]
  have e1 : sm k (fun t => gm (codeM k (gz zs a).toNat t) (gb (gr (decB k k S hv) t) j)) = sm k (fun t => gm (pickM k zs a t) (sm k (fun u => gm (S t u) (gb (gr hv u) j)))) := sm_congr fun t ht => by
    rw [decB_row S hv ht, sumB_rows (by rw [List.length_take]; omega) h0, gb_range _ hj]
    unfold pickM
    congr 1
    exact sm_congr fun u hu => by rw [gr_take hu hl]
  have e2 := comb_comb k k (pickM k zs a) S (fun u j => gb (gr hv u) j) j
  rw [e1, e2]
  have e3 : sm k (fun t => gm (sm k (fun u => gm (pickM k zs a u) (S u t))) (gb (gr hv t) j)) = sm k (fun t => gm (Lin.unit a t) (gb (gr hv t) j)) := sm_congr fun t ht => by
    rw [← hS a hak t ht]; rfl
  rw [e3, sm_one hak (fun t ht hne => by unfold Lin.unit; rw [if_neg (fun e => hne e.symm), gm_zero_left])]
  simp [Lin.unit, one_gm]
theorem encB_row {k n j : Nat} (m : List (List UInt8)) (h : j < n) : gr (encB k n m) j = sumB ((List.range k).map (codeM k j)) m := by
  rw [gr_at (by rw [encB_length]; exact h)]; simp [encB]
theorem encB_mem {k i : Nat} {m : List (List UInt8)} {r : List UInt8} (h : r ∈ encB k i m) : r.length = (m.headD []).length := by
  unfold encB at h
  rw [List.mem_map] at h
  obtain ⟨j, _, rfl⟩ := h
  simp [sumB]
theorem encB_alike (k i : Nat) (m : List (List UInt8)) : Alike (encB k i m) := alike_len_of fun r hr => encB_mem hr
end Go.Proofs.Ytoijjlpkoniipaa
