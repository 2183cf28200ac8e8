/- The rows of a code: any k of them, each once, take no vector but 0 to 0. Plain, no program in sight; k and the rows' numbers at most 256. -/
import Derived.Test.YtoijjlpkoniipaaMatsC
namespace Go.Proofs.Ytoijjlpkoniipaa
open Gf Lin
/-! ### Sums over lists of places -/
def sml (l : List Nat) (f : Nat → UInt8) : UInt8 := l.foldr (fun i a => f i ^^^ a) 0
theorem sml_cons (a : Nat) (l : List Nat) (f : Nat → UInt8) : sml (a :: l) f = f a ^^^ sml l f := rfl
theorem sml_append (f : Nat → UInt8) : ∀ a b : List Nat, sml (a ++ b) f = sml a f ^^^ sml b f
  | [], b => by simp [sml]
  | x :: a, b => by rw [List.cons_append, sml_cons, sml_cons, sml_append f a b, UInt8.xor_assoc]
theorem sm_range (f : Nat → UInt8) : ∀ k : Nat, sm k f = sml (List.range k) f
  | 0 => rfl
  | k + 1 => by rw [List.range_succ, sml_append, ← sm_range f k]; simp [sml, sm]
theorem sml_filter (p : Nat → Bool) (f : Nat → UInt8) : ∀ l : List Nat, (∀ i ∈ l, p i = false → f i = 0) → sml l f = sml (l.filter p) f
  | [], _ => rfl
  | a :: l, h => by
    have ih := sml_filter p f l (fun i hi => h i (by simp [hi]))
    cases hp : p a with
    | true => rw [List.filter_cons_of_pos hp, sml_cons, sml_cons, ih]
    | false => rw [List.filter_cons_of_neg (by simp [hp]), sml_cons, ih, h a (by simp) hp, UInt8.zero_xor]
theorem sml_sm (f : Nat → UInt8) : ∀ l : List Nat, sml l f = sm l.length (fun j => f (l.getD j 0))
  | [] => rfl
  | a :: l => by
    rw [sml_cons, sml_sm f l, List.length_cons, sm_skip (p := 0) (Nat.zero_le _)]
    congr 1
theorem len_split (p : Nat → Bool) : ∀ l : List Nat, l.length = (l.filter p).length + (l.filter (fun i => !p i)).length
  | [] => rfl
  | a :: l => by
    have ih := len_split p l
    cases h : p a <;> simp [h] <;> omega
theorem nodup_le : ∀ {a b : List Nat}, a.Nodup → (∀ x ∈ a, x ∈ b) → a.length ≤ b.length
  | [], _, _, _ => Nat.zero_le _
  | x :: a, b, hn, h => by
    have hx := h x (by simp)
    have := nodup_le (a := a) (b := b.erase x) (List.nodup_cons.1 hn).2 (fun y hy => (List.mem_erase_of_ne (fun e => (List.nodup_cons.1 hn).1 (by rw [← e]; exact hy))).2 (h y (by simp [hy])))
    rw [List.length_erase_of_mem hx] at this
    have hp : 0 < b.length := List.length_pos_of_mem hx
    simp; omega
theorem nodup_at {l : List Nat} (h : l.Nodup) {i j : Nat} (hi : i < l.length) (hj : j < l.length) (e : l[i] = l[j]) : i = j := by
  have hp := List.pairwise_iff_getElem.1 h
  rcases Nat.lt_trichotomy i j with h1 | h1 | h1
  · exact absurd e (hp i j hi hj h1)
  · exact h1
  · exact absurd e.symm (hp j i hj hi h1)
theorem getD_mem' {l : List Nat} {i : Nat} (h : i < l.length) : l.getD i 0 ∈ l := by
  rw [List.getD_eq_getElem?_getD, List.getElem?_eq_getElem h]; exact List.getElem_mem _
theorem nodup_getD {l : List Nat} (h : l.Nodup) {i j : Nat} (hi : i < l.length) (hj : j < l.length) (e : l.getD i 0 = l.getD j 0) : i = j := by
  simp only [List.getD_eq_getElem?_getD, List.getElem?_eq_getElem hi, List.getElem?_eq_getElem hj, Option.getD_some] at e
  exact nodup_at h hi hj e
/-! ### The rows of a code -/
def codeM (k : Nat) : Lin.M := fun i j => if i < k then Lin.unit i j else cau k (i - k) j
theorem code_full {n k : Nat} {ps : List Nat} (hlt : ∀ p ∈ ps, p < n) (hnd : ps.Nodup) (hl : ps.length = k) (hn : n ≤ 256) (hk : k ≤ 256) {x : Nat → UInt8}
    (h0 : ∀ p ∈ ps, sm k (fun j => gm (codeM k p j) (x j)) = 0) : ∀ j, j < k → x j = 0 := by
  have hu : ∀ z, z < 256 → (UInt8.ofNat z).toNat = z := fun z hz => UInt8.toNat_ofNat_of_lt' hz
  have hP : ∀ p ∈ ps, p < k → x p = 0 := fun p hp hpk => by
    have := h0 p hp
    rw [sm_one hpk (fun j hj hjp => by
      unfold codeM; rw [if_pos hpk]; unfold Lin.unit; rw [if_neg (fun e => hjp e.symm), gm_zero_left])] at this
    unfold codeM at this
    rw [if_pos hpk] at this
    simpa [Lin.unit, one_gm] using this
  have eQ := len_split (fun p => decide (p < k)) ps
  have eC := len_split (fun j => decide (j ∈ ps)) (List.range k)
  obtain ⟨Q, hQ⟩ : ∃ Q, Q = ps.filter (fun p => !decide (p < k)) := ⟨_, rfl⟩
  obtain ⟨C, hC⟩ : ∃ C, C = (List.range k).filter (fun j => !decide (j ∈ ps)) := ⟨_, rfl⟩
  rw [← hQ] at eQ
  rw [← hC, List.length_range] at eC
  have hsub := nodup_le (a := ps.filter (fun p => decide (p < k))) (b := (List.range k).filter (fun j => decide (j ∈ ps))) (List.Pairwise.filter _ hnd) (fun y hy => by
    rw [List.mem_filter] at hy ⊢
    exact ⟨by simpa using hy.2, by simpa using hy.1⟩)
  have hle : C.length ≤ Q.length := by omega
  have hQm : ∀ q ∈ Q, q ∈ ps ∧ k ≤ q := fun q hq => by
    rw [hQ, List.mem_filter] at hq
    exact ⟨hq.1, by have := hq.2; simp at this; omega⟩
  have hCm : ∀ c, c ∈ C ↔ c < k ∧ c ∉ ps := fun c => by
    rw [hC, List.mem_filter]; simp
  have hQn : Q.Nodup := by rw [hQ]; exact List.Pairwise.filter _ hnd
  have hCn : C.Nodup := by rw [hC]; exact List.Pairwise.filter _ List.nodup_range
  have key := cauchy_kernel C.length (fun i => UInt8.ofNat (Q.getD i 0)) (fun j => UInt8.ofNat (C.getD j 0)) (fun j => x (C.getD j 0)) (fun i j hi hj hij e => ?_) (fun i j hi hj hij e => ?_) (fun i j hi hj e => ?_) (fun i hi => ?_)
  · intro j hj
    by_cases hjp : j ∈ ps
    · exact hP j hjp hj
    · obtain ⟨t, ht, e⟩ := List.getElem_of_mem ((hCm j).2 ⟨hj, hjp⟩)
      have := key t ht
      simp only [List.getD_eq_getElem?_getD, List.getElem?_eq_getElem ht, Option.getD_some, e] at this
      exact this
  · have e2 := congrArg UInt8.toNat e
    have a1 := hlt _ (hQm _ (getD_mem' (l := Q) (i := i) (by omega))).1
    have a2 := hlt _ (hQm _ (getD_mem' (l := Q) (i := j) (by omega))).1
    rw [hu _ (by omega), hu _ (by omega)] at e2
    exact hij (nodup_getD hQn (by omega) (by omega) e2)
  · have e2 := congrArg UInt8.toNat e
    have a1 := ((hCm _).1 (getD_mem' (l := C) (i := i) (by omega))).1
    have a2 := ((hCm _).1 (getD_mem' (l := C) (i := j) (by omega))).1
    rw [hu _ (by omega), hu _ (by omega)] at e2
    exact hij (nodup_getD hCn (by omega) (by omega) e2)
  · have e2 := congrArg UInt8.toNat e
    have a1 := hQm _ (getD_mem' (l := Q) (i := i) (by omega))
    have a3 := hlt _ a1.1
    have a2 := ((hCm _).1 (getD_mem' (l := C) (i := j) (by omega))).1
    rw [hu _ (by omega), hu _ (by omega)] at e2
    omega
  · obtain ⟨q, hq⟩ : ∃ q, q = Q.getD i 0 := ⟨_, rfl⟩
    have a1 := hQm _ (getD_mem' (l := Q) (i := i) (by omega))
    rw [← hq] at a1 ⊢
    have h1 := h0 q a1.1
    rw [sm_range, sml_filter (fun j => !decide (j ∈ ps)) _ _ (fun j hj hjf => by
      have hjp : j ∈ ps := by simpa using hjf
      rw [hP j hjp (by simpa using hj), gm_zero_right]), ← hC, sml_sm] at h1
    rw [← h1]
    refine sm_congr fun j hj => ?_
    show _ = gm (codeM k q (C.getD j 0)) (x (C.getD j 0))
    unfold codeM cau
    rw [if_neg (by omega), Nat.sub_add_cancel a1.2]
end Go.Proofs.Ytoijjlpkoniipaa
