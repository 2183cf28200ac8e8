/- Sum, the program's and the document's, at any texts: one answer. -/
import Derived.Test.YtoijjlpkoniipaaRefSumR
import Derived.Test.YtoijjlpkoniipaaGfNilWalk
namespace Go.Proofs.Ytoijjlpkoniipaa
open Go.RowKit Go.Proofs.YtoijjlpkoniipaaW.PrintWords Gf Lin PRsEncode

open Classical in
/-- What a sum is, and its error. -/
noncomputable def docSum (cs : List UInt8) (m : List (List UInt8)) : List UInt8 × Int := if cs.length = m.length ∧ Alike m then (sumB cs m, 0) else ([], 14)
theorem docSum_ok {cs : List UInt8} {m : List (List UInt8)} (hl : cs.length = m.length) (ha : Alike m) : docSum cs m = (sumB cs m, 0) := by unfold docSum; rw [if_pos ⟨hl, ha⟩]
theorem docSum_no {cs : List UInt8} {m : List (List UInt8)} (h : ¬ (cs.length = m.length ∧ Alike m)) : docSum cs m = ([], 14) := by unfold docSum; rw [if_neg h]

/-- A slice value reads as these bytes. -/
def RB (w : World) (v : Value) (xs : List UInt8) : Prop := ∃ A c, v = .slice A xs.length c ∧ xs.length ≤ c ∧ KB.C w A xs.length (bs xs)
def RBB (w : World) (v : Value) (m : List (List UInt8)) : Prop := ∃ A c, v = .slice A m.length c ∧ m.length ≤ c ∧ KBB.C w A m.length (bss m)
theorem RB.below {w w1 : World} {v : Value} {xs : List UInt8} (h : RB w v xs) (hb : Below w.heap.size w w1) : RB w1 v xs := by
  obtain ⟨A, c, h1, h2, h3⟩ := h
  exact ⟨A, c, h1, h2, Kd.C_below h3 hb⟩
theorem RBB.below {w w1 : World} {v : Value} {m : List (List UInt8)} (h : RBB w v m) (hb : Below w.heap.size w w1) : RBB w1 v m := by
  obtain ⟨A, c, h1, h2, h3⟩ := h
  exact ⟨A, c, h1, h2, Kd.C_below h3 hb⟩
theorem RB.nil (w : World) : RB w (.slice none 0 0) [] := ⟨none, 0, rfl, Nat.le_refl _, C_of_cells [] (by simp) (fun h => by simp at h)⟩
theorem RBB.nil (w : World) : RBB w (.slice none 0 0) [] := ⟨none, 0, rfl, Nat.le_refl _, CC_of_cells [] (by simp) (fun h => by simp at h)⟩

theorem CC_len {w : World} {A : Option Addr} {m : List (List UInt8)} {n : Nat} (h : KBB.C w A n (bss m)) : m.length = n := by rw [← h.1, bss_length]

/-- The program's. -/
theorem sum_any (g : Nat) (A : Option Addr) (cs : List UInt8) (n c : Nat) (A' : Option Addr) (m : List (List UInt8)) (n' c' : Nat) (w : World) (ht : Tab w g) (hg : g < w.heap.size)
    (hr : KB.C w A n (bs cs)) (hc : n ≤ c) (hr' : KBB.C w A' n' (bss m)) (hc' : n' ≤ c') (hn : ∀ r ∈ m, r.length ≤ 1000000) :
    Calls Try.prog 33 #[.pointer (some ⟨g, 0, none⟩), .slice A n c, .slice A' n' c'] w fun e w' =>
      ∃ v, e = .returned (.tuple #[v, .int .i64 (docSum cs m).2]) ∧ RB w' v (docSum cs m).1 ∧ Below w.heap.size w w' := by
  have e1 := C_len hr
  have e2 := CC_len hr'
  subst e1; subst e2
  have hh : (m.headD []).length ≤ 1000000 := by
    cases m with
    | nil => simp
    | cons r t => exact hn r (by simp)
  by_cases hl : cs.length = m.length
  · by_cases ha : Alike m
    · rw [docSum_ok hl ha]
      refine (sum_ok g A cs c A' m c' w ht hg hr hc hr' hc' hl ha hh).mono ?_
      rintro e w' ⟨B, d, rfl, h1, h2, h3⟩
      exact ⟨_, rfl, ⟨B, d, rfl, h1, h2⟩, h3⟩
    · rw [docSum_no (fun h => ha h.2)]
      obtain ⟨b, hb0, hbm, h1, h2⟩ := not_alike ha
      refine (sum_bad g A cs c A' m c' w ht hg hr hc hr' hc' hl b hb0 hbm h1 h2 (by rw [gr_zero]; exact hh)).mono ?_
      rintro e w' ⟨rfl, hb⟩
      exact ⟨_, rfl, RB.nil _, hb⟩
  · rw [docSum_no (fun h => hl h.1)]
    refine (sum_len g A cs.length c A' m.length c' w hl).mono ?_
    rintro e w' ⟨rfl, hb⟩
    exact ⟨_, rfl, RB.nil _, hb⟩
/-- The document's. -/
theorem ref_sum_any (A : Option Addr) (cs : List UInt8) (n c : Nat) (A' : Option Addr) (m : List (List UInt8)) (n' c' : Nat) (w : World)
    (hr : KB.C w A n (bs cs)) (hc : n ≤ c) (hr' : KBB.C w A' n' (bss m)) (hc' : n' ≤ c') (hm : m.length ≤ 1000) (hn : ∀ r ∈ m, r.length ≤ 1000000) :
    Calls Try.prog 34 #[.slice A n c, .slice A' n' c'] w fun e w' =>
      ∃ v, e = .returned (.tuple #[v, .int .i64 (docSum cs m).2]) ∧ RB w' v (docSum cs m).1 ∧ Below w.heap.size w w' := by
  have e1 := C_len hr
  have e2 := CC_len hr'
  subst e1; subst e2
  have hh : (m.headD []).length ≤ 1000000 := by
    cases m with
    | nil => simp
    | cons r t => exact hn r (by simp)
  have key : ∃ k, scriniumref07_Sum.f k (bs cs) (bss m) = some (bs (docSum cs m).1, (docSum cs m).2) := by
    by_cases hl : cs.length = m.length
    · by_cases ha : Alike m
      · rw [docSum_ok hl ha]; exact ⟨_, sum_eq cs m hl ha hm hh _ (Nat.le_refl _)⟩
      · rw [docSum_no (fun h => ha h.2)]; exact ⟨_, sum_eq_bad cs m hm ha (m.length + 1) (by omega)⟩
    · rw [docSum_no (fun h => hl h.1)]; exact ⟨1, sum_eq_len cs m hl 1⟩
  obtain ⟨k, hk⟩ := key
  have h := scriniumref07_Sum.calls k A c (bs cs) A' c' (bss m) _ _ w (by rw [bs_length]; exact hr) (by rw [bs_length]; exact hc) (by rw [bss_length]; exact hr') (by rw [bss_length]; exact hc') hk
  rw [bs_length, bss_length] at h
  refine h.mono ?_
  rintro e w' ⟨v, rfl, hs, hb⟩
  exact ⟨v, rfl, C_of_R hs, hb⟩
/-- v[k:k+1]. -/
theorem mid_slice {t e : TypeId} {i : TypeInfo} (ht : Try.prog.underlying t = some (.slice e)) (hi : Try.prog.info? e = some i) (hsz : i.size = 1) (ad : Addr) (n c k : Nat) (hk : k < n) (hn : n ≤ c) :
    ∀ W : World, (Instr.slice t (.slice (some ad) n c) (some (.int .i64 (k : Int))) (some (.int .i64 ((k : Int) + 1))) none).run Try.prog W = .ok (.slice (some (ad.add k)) 1 (c - k)) W := by
  intro W
  have hel : Try.prog.elem t = e := by simp [Program.elem, ht]
  have hu : Try.prog.underlying t = some (.slice (Try.prog.elem t)) := by rw [hel]; exact ht
  rw [run_slice_lh W t (some ad) n c hu .i64 .i64 (k : Int) ((k : Int) + 1) (by omega) (by omega) (by omega), hel]
  have hne : ¬ c = k := by omega
  simp [sizeOf, typeInfo, hi, hsz, sliced, Result.andThen, hne]
theorem add_of_add (a : Addr) (i j : Nat) : (a.add i).add j = a.add (i + j) := by
  unfold Addr.add
  by_cases hi : i = 0 <;> by_cases hj : j = 0 <;> simp [hi, hj, Nat.add_assoc]
theorem C_mid {w : World} {ad : Addr} {xs : List UInt8} {n k : Nat} (h : KB.C w (some ad) n (bs xs)) (hk : k < n) : KB.C w (some (ad.add k)) 1 (bs [gb xs k]) := by
  refine C_of_cells (A := some (ad.add k)) [gb xs k] (by simp) (fun _ => ⟨_, rfl, fun j hj => ?_⟩)
  have hj0 : j = 0 := by simpa using hj
  subst hj0
  obtain ⟨ad', he, hc⟩ := C_byteD h hk
  cases he
  rw [add_of_add, Nat.add_zero, hc]; rfl
theorem CC_mid {w : World} {ad : Addr} {m : List (List UInt8)} {n k : Nat} (h : KBB.C w (some ad) n (bss m)) (hk : k < n) : KBB.C w (some (ad.add k)) 1 (bss [gr m k]) := by
  have e := CC_len h
  subst e
  refine CC_of_cells (A := some (ad.add k)) [gr m k] (by simp) (fun _ => ⟨_, rfl, fun j hj => ?_⟩)
  have hj0 : j = 0 := by simpa using hj
  subst hj0
  obtain ⟨ad', B, c, he, hc, h2, h3⟩ := C_rowD h hk
  cases he
  rw [add_of_add, Nat.add_zero]
  exact ⟨B, c, hc, h2, h3⟩
theorem one_sum (c : UInt8) (r : List UInt8) : docSum [c] [r] = (scl c r, 0) := by
  rw [docSum_ok rfl (by intro x hx; simp at hx; simp [hx])]
  congr 1
  apply List.ext_getElem
  · simp [sumB]
  · intro i h1 h2
    simp [sumB] at h1
    simp only [sumB, List.getElem_map, List.getElem_range, scl]
    show 0 ^^^ gm c (gb r i) = _
    rw [gb_at h1]; simp
end Go.Proofs.Ytoijjlpkoniipaa
