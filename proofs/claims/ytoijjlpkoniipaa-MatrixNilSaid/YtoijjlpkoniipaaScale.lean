/- The contract of Scale. -/
import Derived.Test.YtoijjlpkoniipaaGfWalk
import Derived.Deep.LoopGhost
namespace Go.Proofs.Ytoijjlpkoniipaa
open Go.RowKit Go.Proofs.YtoijjlpkoniipaaW.PrintWords Gf

theorem info5 : (Try.prog.info? 5).map (fun i => (i.zero, i.size, i.bytes)) = some (some (.int .u8 0), 1, 1) := by kernel_rfl
theorem Tab.below {w w1 : World} {g : Nat} (h : Tab w g) (hg : g < w.heap.size) (hb : Below w.heap.size w w1) : Tab w1 g :=
  ⟨fun i hi => (hb.cell (p := ⟨g, i, none⟩) hg).trans (h.1 i hi), fun a => (hb.cell (p := ⟨g, 510 + a.toNat, none⟩) hg).trans (h.2 a)⟩
/-- A byte that is read. -/
theorem C_byte {w : World} {A : Option Addr} {xs : List UInt8} (h : KB.C w A xs.length (bs xs)) {k : Nat} (hk : k < xs.length) : ∃ ad, A = some ad ∧ w.cell? (ad.add k) = some (.int .u8 ((xs[k]).toNat : Int)) := by
  obtain ⟨ad, hA, hc⟩ := (Kd.reads_of_C (d := (0 : Int)) (h1 := fun _ => rfl) h : ReadsInt w .u8 A xs.length (bs xs)).at_ (k : Int) (by omega) (by omega)
  refine ⟨ad, hA, ?_⟩
  rw [Int.toNat_natCast] at hc
  rw [hc]
  unfold rdOf bs
  simp [hk]
/-- The bytes of which the first k are those of f, the others 0. -/
def upTo (n k : Nat) (f : Nat → UInt8) : List UInt8 := (List.range n).map fun j => if j < k then f j else 0
@[simp] theorem upTo_length (n k : Nat) (f : Nat → UInt8) : (upTo n k f).length = n := by simp [upTo]
theorem upTo_zero (n : Nat) (f : Nat → UInt8) : bs (upTo n 0 f) = List.replicate n 0 := by
  apply List.ext_getElem
  · simp
  · intro i h1 h2
    simp [upTo, bs]
theorem upTo_set (n k : Nat) (f : Nat → UInt8) : (bs (upTo n k f)).set k ((f k).toNat : Int) = bs (upTo n (k + 1) f) := by
  apply List.ext_getElem
  · simp
  · intro i h1 h2
    rw [List.getElem_set]
    simp only [upTo, bs, List.getElem_map, List.getElem_range]
    by_cases hik : k = i
    · subst hik; simp
    · rw [if_neg hik]
      congr 2
      by_cases h : i < k
      · rw [if_pos h, if_pos (by omega)]
      · rw [if_neg h, if_neg (by omega)]
theorem upTo_all (n : Nat) (f : Nat → UInt8) (xs : List UInt8) (hn : xs.length = n) (hf : ∀ j (hj : j < xs.length), xs[j] = f j) : upTo n n f = xs := by
  apply List.ext_getElem
  · simp [hn]
  · intro i h1 h2
    simp only [upTo, List.getElem_map, List.getElem_range]
    rw [if_pos (by omega), hf i h2]

theorem own_C {w : World} {base g n cap : Nat} {xs : List UInt8} (h : w.ownsRow base 5 1 (.slice (some ⟨g, 0, none⟩) n cap) n (nums .u8 (bs xs))) (hn : xs.length = n) : KB.C w (some ⟨g, 0, none⟩) n (bs xs) := by
  obtain ⟨A, c, hv, hr⟩ := own_reads h
  injection hv with hA
  subst hA
  exact Kd.C_of_reads (d := (0 : Int)) (h1 := fun _ => rfl) hr
theorem C_len {w : World} {A : Option Addr} {xs : List UInt8} {n : Nat} (h : KB.C w A n (bs xs)) : xs.length = n := by rw [← h.1, bs_length]
/-- Each byte times c. -/
def scl (c : UInt8) (xs : List UInt8) : List UInt8 := xs.map (gm c)
@[simp] theorem scl_length (c : UInt8) (xs : List UInt8) : (scl c xs).length = xs.length := by simp [scl]

set_option maxHeartbeats 4000000 in
theorem scale_calls (g : Nat) (a : UInt8) (A : Option Addr) (xs : List UInt8) (c : Nat) (w : World) (ht : Tab w g) (hg : g < w.heap.size) (hr : KB.C w A xs.length (bs xs)) (hc : xs.length ≤ c) (hn : xs.length ≤ 1000000) :
    Calls Try.prog 37 #[.pointer (some ⟨g, 0, none⟩), .int .u8 (a.toNat : Int), .slice A xs.length c] w fun e w' =>
      ∃ A' c', e = .returned (.slice A' xs.length c') ∧ xs.length ≤ c' ∧ KB.C w' A' xs.length (bs (scl a xs)) ∧ Below w.heap.size w w' := by
  obtain ⟨n, hnn⟩ : ∃ n, n = xs.length := ⟨_, rfl⟩
  have hmk := print_make 35 5 .u8 1 Try.underlying35 info5 (by omega) xs.length (by omega)
  go_enter Try.func37, Try.ntmps37
  go_wp2
  go_loopw [17] (fun i wr => ∃ k : Nat, k ≤ xs.length ∧ i = .int .i64 k ∧ wr.ownsRow w.heap.size 5 1 (.slice (some ⟨w.heap.size, 0, none⟩) xs.length xs.length) xs.length (nums .u8 (bs (upTo xs.length k (fun j => gm a (xs.getD j 0))))) ∧ Below w.heap.size w wr) (fun i _ => xs.length - (intOf i).toNat)
  case atStart =>
    refine ⟨0, by omega, rfl, ?_, (Below.refl _ _).alloc (Nat.le_refl _) _⟩
    rw [upTo_zero]
    exact own_made w w.heap.size 5 .u8 xs.length (Nat.le_refl _) (by omega)
  case round =>
    obtain ⟨k, hk, rfl, ho, hb⟩ := hrel
    by_cases hlt : k < xs.length
    · obtain ⟨ad, rfl, hcell⟩ := C_byte hr hlt
      have hcell' := pw_cell_below hb hcell
      obtain ⟨o1, o2⟩ := own_at ho (k : Int) (by omega) (by omega)
      rw [Int.toNat_natCast] at o1 o2
      have ht' := ht.below hg hb
      have hst := Lib.hid (own_store ho (k : Int) ((gm a xs[k]).toNat : Int))
      clear hcell
      go_wp2_with fail
      refine (mul_calls g a xs[k] _ ht').mono ?_
      rintro e w2 ⟨rfl, ⟨m, rfl⟩⟩
      go_wp2_with fail
      refine ⟨⟨k + 1, by omega, by go_num, ?_, Below.setCell (pw_below_drewN hb m) (by simp) _⟩, by simp [intOf]; omega⟩
      have h2 := (own_store (W := wr.drewN m) ho (k : Int) ((gm a xs[k]).toNat : Int)).1
      rw [Int.toNat_natCast, show gm a xs[k] = (fun j => gm a (xs.getD j 0)) k by simp [hlt], upTo_set] at h2
      simpa [hlt] using h2
    · have hk' : k = xs.length := by omega
      subst hk'
      rw [upTo_all xs.length _ (scl a xs) (by simp) (fun j hj => by simp at hj; simp [scl, hj])] at ho
      have hfin := Lib.hid (own_C ho (by simp))
      clear ho hnn
      go_wp2
      go_ret
      exact ⟨_, _, rfl, Nat.le_refl _, hfin.out, hb⟩
theorem scale_nil (a : Int) (A : Option Addr) (n c : Nat) (w : World) : Calls Try.prog 37 #[.pointer none, .int .u8 a, .slice A n c] w fun e w' => e = .returned (.slice none 0 0) ∧ Drawn0 w w' := by
  go_enter Try.func37, Try.ntmps37
  go_wp2
  go_ret
  exact ⟨rfl, Drawn0.refl _⟩
theorem sum_nil (A : Option Addr) (n c : Nat) (A' : Option Addr) (n' c' : Nat) (w : World) : Calls Try.prog 33 #[.pointer none, .slice A n c, .slice A' n' c'] w fun e w' => e = .returned (.tuple #[.slice none 0 0, .int .i64 15]) ∧ Drawn0 w w' := by
  go_enter Try.func33, Try.ntmps33
  go_wp2
  go_ret2
  exact ⟨rfl, Drawn0.refl _⟩
end Go.Proofs.Ytoijjlpkoniipaa
