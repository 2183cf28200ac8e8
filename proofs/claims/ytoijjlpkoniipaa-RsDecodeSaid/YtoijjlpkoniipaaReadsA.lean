/- Slices of rows that read as matrices; the program's Cauchy, Unit, Right, Inverse at any arguments. -/
import Derived.Test.YtoijjlpkoniipaaRefCau
set_option linter.unusedVariables false
set_option linter.unusedSimpArgs false
namespace Go.Proofs.Ytoijjlpkoniipaa
open Go.RowKit Go.Proofs.YtoijjlpkoniipaaW.PrintWords Go.Proofs.YtoijjlpkoniipaaW.PrintLast Gf Lin
theorem RBB.of_S {w : World} {e base : Nat} {ok : Nat → Prop} {v : Value} {m : List (List UInt8)} (h : Kd.S KBB e w base ok v (bss m)) : RBB w v m := by
  obtain ⟨A, c, rfl, h1, h2⟩ := C_of_S h
  exact ⟨A, c, rfl, h1, h2⟩
/-- The unit, or nothing. -/
def docUnit (z : Int) : List (List UInt8) := if 1 ≤ z ∧ z ≤ 255 then rowsOf z.toNat z.toNat Lin.unit else []
theorem docUnit_ok {n : Nat} (h1 : 1 ≤ n) (h2 : n ≤ 255) : docUnit (n : Int) = rowsOf n n Lin.unit := by unfold docUnit; rw [if_pos (by omega)]; simp
theorem docUnit_no {z : Int} (h : ¬ (1 ≤ z ∧ z ≤ 255)) : docUnit z = [] := by unfold docUnit; rw [if_neg h]
theorem Mat.rbb {w : World} {gm ga n c : Nat} {p : Nat → Nat} {M : Lin.M} (h : Mat w gm ga n c p M) (hn : n ≤ 255) (hc : c ≤ 255) : RBB w (.slice (some ⟨gm, 0, none⟩) n n) (rowsOf n c M) :=
  ⟨some ⟨gm, 0, none⟩, n, by simp, by simp, by simpa using h.reads (by omega) (by omega)⟩
theorem unit_any (z : Int) (w : World) : Calls Try.prog 59 #[.int .i64 z] w fun e w' => ∃ v, e = .returned v ∧ RBB w' v (docUnit z) ∧ Below w.heap.size w w' := by
  by_cases h : 1 ≤ z ∧ z ≤ 255
  · obtain ⟨n, rfl⟩ : ∃ n : Nat, z = (n : Int) := ⟨z.toNat, by omega⟩
    rw [docUnit_ok (by omega) (by omega)]
    refine (unit_calls n (by omega) (by omega) w).mono ?_
    rintro e w' ⟨rfl, hm, hb, _⟩
    exact ⟨_, rfl, hm.rbb (by omega) (by omega), hb⟩
  · rw [docUnit_no h]
    refine (unit_bad z h w).mono ?_
    rintro e w' ⟨rfl, rfl⟩
    exact ⟨_, rfl, RBB.nil _, Below.refl _ _⟩
theorem sameall_T (k : Nat) (A : Option Addr) (m : List (List UInt8)) (n c : Nat) (A' : Option Addr) (n' c' : Nat) (w : World) (hr : KBB.C w A n (bss m)) (hc : n ≤ c) (hr' : KBB.C w A' n' (bss m)) (hc' : n' ≤ c') (hx : PRsEncode.Rowsle m k) (hk : k ≤ 9223372036854775807) :
    Calls Try.prog 36 #[.slice A n c, .slice A' n' c'] w fun e w' => e = .returned (.bool true) ∧ Drawn0 w w' := by
  have e := CC_len hr
  have e' := CC_len hr'
  subst e; subst e'
  have h := ref_sameall k A m c A' m c' w hr hc hr' hc' hx hk
  simpa using h
set_option maxHeartbeats 1000000 in
theorem cauchy_bad (gt : Nat) (n k : Int) (h : ¬ (1 ≤ n ∧ 1 ≤ k ∧ n ≤ 255 ∧ k ≤ 255 ∧ n + k ≤ 256)) (w : World) :
    Calls Try.prog 57 #[.pointer (some ⟨gt, 0, none⟩), .int .i64 n, .int .i64 k] w fun e w' => e = .returned (.tuple #[.slice none 0 0, .int .i64 14]) ∧ w' = w := by
  have hw1 := within_calls n w
  have hw2 := within_calls k w
  by_cases h1 : 1 ≤ n ∧ n ≤ 255
  · rw [decide_eq_true h1] at hw1
    by_cases h2 : 1 ≤ k ∧ k ≤ 255
    · rw [decide_eq_true h2] at hw2
      have t1 : decide (n + k > 256) = true := by simp; omega
      obtain ⟨h1a, h1b⟩ := h1
      obtain ⟨h2a, h2b⟩ := h2
      clear h
      go_enter Try.func57, Try.ntmps57
      go_wp2_with fail
      refine hw1.mono ?_
      clear hw1
      rintro e w1 ⟨rfl, rfl⟩
      go_wp2_with fail
      refine hw2.mono ?_
      clear hw2
      rintro e w2 ⟨rfl, rfl⟩
      go_wp2_with fail
      go_ret2
      exact ⟨rfl, rfl⟩
    · rw [decide_eq_false h2] at hw2
      clear h h1 h2
      go_enter Try.func57, Try.ntmps57
      go_wp2_with fail
      refine hw1.mono ?_
      clear hw1
      rintro e w1 ⟨rfl, rfl⟩
      go_wp2_with fail
      refine hw2.mono ?_
      clear hw2
      rintro e w2 ⟨rfl, rfl⟩
      go_wp2_with fail
      go_ret2
      exact ⟨rfl, rfl⟩
  · rw [decide_eq_false h1] at hw1
    clear h h1 hw2
    go_enter Try.func57, Try.ntmps57
    go_wp2_with fail
    refine hw1.mono ?_
    clear hw1
    rintro e w1 ⟨rfl, rfl⟩
    go_wp2_with fail
    go_ret2
    exact ⟨rfl, rfl⟩
theorem cauchy_any (gt : Nat) (n k : Int) (w : World) (ht : Tab w gt) (hg : gt < w.heap.size) :
    Calls Try.prog 57 #[.pointer (some ⟨gt, 0, none⟩), .int .i64 n, .int .i64 k] w fun e w' => ∃ v, e = .returned (.tuple #[v, .int .i64 (docCau n k).2]) ∧ RBB w' v (docCau n k).1 ∧ Below w.heap.size w w' := by
  by_cases h : 1 ≤ n ∧ 1 ≤ k ∧ n ≤ 255 ∧ k ≤ 255 ∧ n + k ≤ 256
  · obtain ⟨a, rfl⟩ : ∃ a : Nat, n = (a : Int) := ⟨n.toNat, by omega⟩
    obtain ⟨b, rfl⟩ : ∃ b : Nat, k = (b : Int) := ⟨k.toNat, by omega⟩
    rw [docCau_ok (by omega) (by omega) (by omega)]
    refine (cauchy_good gt a b (by omega) (by omega) (by omega) w ht hg).mono ?_
    rintro e w' ⟨rfl, hm, hb, _⟩
    exact ⟨_, rfl, hm.rbb (by omega) (by omega), hb⟩
  · rw [docCau_no h]
    refine (cauchy_bad gt n k h w).mono ?_
    rintro e w' ⟨rfl, rfl⟩
    exact ⟨_, rfl, RBB.nil _, Below.refl _ _⟩
/-- A slice of q rows reads as m. -/
structure RD (w : World) (A : Option Addr) (q c : Nat) (m : List (List UInt8)) : Prop where
  le : q ≤ c
  rd : KBB.C w A q (bss m)
/-- A slice of q bytes reads as r. -/
structure RS (w : World) (A : Option Addr) (q c : Nat) (r : List UInt8) : Prop where
  le : q ≤ c
  rd : KB.C w A q (bs r)
/-- The tables lie at g. -/
structure TD (w : World) (g : Nat) : Prop where
  tab : Tab w g
  lt : g < w.heap.size
theorem bthen {w w1 w2 : World} (h : Below w.heap.size w w1) (k : Below w1.heap.size w1 w2) : Below w.heap.size w w2 := h.trans (k.mono h.size)
theorem RD.below {w w1 : World} {A : Option Addr} {q c : Nat} {m : List (List UInt8)} (h : RD w A q c m) (hb : Below w.heap.size w w1) : RD w1 A q c m := ⟨h.le, Kd.C_below h.rd hb⟩
theorem RS.below {w w1 : World} {A : Option Addr} {q c : Nat} {r : List UInt8} (h : RS w A q c r) (hb : Below w.heap.size w w1) : RS w1 A q c r := ⟨h.le, Kd.C_below h.rd hb⟩
theorem TD.below {w w1 : World} {g : Nat} (h : TD w g) (hb : Below w.heap.size w w1) : TD w1 g := ⟨h.tab.below h.lt hb, by have := hb.size; have := h.lt; omega⟩
theorem RD.len {w : World} {A : Option Addr} {q c : Nat} {m : List (List UInt8)} (h : RD w A q c m) : m.length = q := CC_len h.rd
theorem RS.len {w : World} {A : Option Addr} {q c : Nat} {r : List UInt8} (h : RS w A q c r) : r.length = q := C_len h.rd
theorem RD.of_rbb {w : World} {v : Value} {m : List (List UInt8)} (h : RBB w v m) : ∃ A q c, v = .slice A q c ∧ RD w A q c m := by
  obtain ⟨A, c, rfl, h1, h2⟩ := h
  exact ⟨A, _, c, rfl, h1, h2⟩
theorem RS.of_rb {w : World} {v : Value} {r : List UInt8} (h : RB w v r) : ∃ A q c, v = .slice A q c ∧ RS w A q c r := by
  obtain ⟨A, c, rfl, h1, h2⟩ := h
  exact ⟨A, _, c, rfl, h1, h2⟩
theorem RD.row {w : World} {A : Option Addr} {q c : Nat} {m : List (List UInt8)} (h : RD w A q c m) {k : Nat} (hk : k < q) :
    ∃ ad B cB, A = some ad ∧ w.cell? (ad.add k) = some (.slice B (gr m k).length cB) ∧ RS w B (gr m k).length cB (gr m k) := by
  obtain ⟨h1, h2⟩ := h
  have e := CC_len h2
  subst e
  obtain ⟨ad, B, cB, rfl, h3, h4, h5⟩ := C_rowD h2 hk
  exact ⟨ad, B, cB, rfl, h3, h4, h5⟩
theorem RD.row0 {w : World} {A : Option Addr} {q c : Nat} {m : List (List UInt8)} (h : RD w A q c m) (hk : 0 < q) :
    ∃ ad B cB, A = some ad ∧ w.cell? ad = some (.slice B (gr m 0).length cB) ∧ RS w B (gr m 0).length cB (gr m 0) := by
  obtain ⟨ad, B, cB, rfl, h3, h4⟩ := h.row hk
  have add0 : ad.add 0 = ad := by simp [Addr.add]
  rw [add0] at h3
  exact ⟨ad, B, cB, rfl, h3, h4⟩
theorem RS.byte {w : World} {A : Option Addr} {q c : Nat} {r : List UInt8} (h : RS w A q c r) {k : Nat} (hk : k < q) :
    ∃ ad, A = some ad ∧ w.cell? (ad.add k) = some (.int .u8 ((gb r k).toNat : Int)) := by
  obtain ⟨h1, h2⟩ := h
  have e := C_len h2
  subst e
  exact C_byteD h2 hk
theorem make_R (w : World) : Calls Try.prog 23 #[] w fun e w' => ∃ g, e = .returned (.pointer (some ⟨g, 0, none⟩)) ∧ TD w' g ∧ Below w.heap.size w w' := by
  refine (make_calls w).mono ?_
  rintro e w' ⟨rfl, h1, h2, h3⟩
  exact ⟨_, rfl, ⟨h1, h2⟩, h3⟩
theorem copy_R {w : World} {A : Option Addr} {q c : Nat} {m : List (List UInt8)} (h : RD w A q c m) (hn : m.length ≤ 1000) (hl : ∀ r ∈ m, r.length ≤ 1000) :
    Calls Try.prog 32 #[.slice A q c] w fun e w' => ∃ A' q' c', e = .returned (.slice A' q' c') ∧ RD w' A' q' c' m ∧ Below w.heap.size w w' := by
  obtain ⟨h1, h2⟩ := h
  have e := CC_len h2
  subst e
  refine (ref_copy A m c w h2 h1 hn hl).mono ?_
  rintro e w' ⟨A', c', rfl, h3, h4, h5⟩
  exact ⟨A', _, c', rfl, ⟨h3, h4⟩, h5⟩
theorem long_R {w : World} {A : Option Addr} {q c : Nat} {m : List (List UInt8)} (h : RD w A q c m) (many long : Nat) :
    Calls Try.prog 31 #[.slice A q c, .int .i64 (many : Int), .int .i64 (long : Int)] w fun e w' => ∃ b, e = .returned (.bool b) ∧ b = PRsEncode.isLong m many long ∧ Below w.heap.size w w' := by
  obtain ⟨h1, h2⟩ := h
  have e := CC_len h2
  subst e
  refine (ref_long A m c many long w h2 h1).mono ?_
  rintro e w' ⟨rfl, hd⟩
  exact ⟨_, rfl, rfl, hd.below⟩
theorem sameall_R {w : World} {A : Option Addr} {q c : Nat} {m : List (List UInt8)} {A' : Option Addr} {q' c' : Nat} (h : RD w A q c m) (h' : RD w A' q' c' m) (k : Nat) (hx : PRsEncode.Rowsle m k) (hk : k ≤ 9223372036854775807) :
    Calls Try.prog 36 #[.slice A q c, .slice A' q' c'] w fun e w' => e = .returned (.bool true) ∧ Below w.heap.size w w' := by
  refine (sameall_T k A m q c A' q' c' w h.rd h.le h'.rd h'.le hx hk).mono ?_
  rintro e w' ⟨rfl, hd⟩
  exact ⟨rfl, hd.below⟩
theorem same_R {w : World} {A : Option Addr} {q c : Nat} {r : List UInt8} {A' : Option Addr} {q' c' : Nat} (h : RS w A q c r) (h' : RS w A' q' c' r) :
    Calls Try.prog 35 #[.slice A q c, .slice A' q' c'] w fun e w' => e = .returned (.bool true) ∧ Below w.heap.size w w' := by
  refine (same_T A r q c A' q' c' w h.rd h.le h'.rd h'.le).mono ?_
  rintro e w' ⟨rfl, hd⟩
  exact ⟨rfl, hd.below⟩
theorem right_R {w : World} {A : Option Addr} {q c : Nat} {m : List (List UInt8)} (h : RD w A q c m) :
    Calls Try.prog 61 #[.slice A q c] w fun e w' => ∃ b, e = .returned (.bool b) ∧ (b = true ↔ Rgt m) ∧ Below w.heap.size w w' := by
  obtain ⟨h1, h2⟩ := h
  have e := CC_len h2
  subst e
  refine (right_calls A m c w h2).mono ?_
  rintro e w' ⟨b, rfl, rfl, hb⟩
  exact ⟨b, rfl, hb, Below.refl _ _⟩
theorem unit_R (z : Int) (w : World) : Calls Try.prog 59 #[.int .i64 z] w fun e w' => ∃ D s d, e = .returned (.slice D s d) ∧ RD w' D s d (docUnit z) ∧ Below w.heap.size w w' := by
  refine (unit_any z w).mono ?_
  rintro e w' ⟨v, rfl, hv, hb⟩
  obtain ⟨D, s, d, rfl, hr⟩ := RD.of_rbb hv
  exact ⟨D, s, d, rfl, hr, hb⟩
/-- What Inverse comes to. -/
def InvR (m : List (List UInt8)) (x : List (List UInt8)) (ev : Int) : Prop :=
  (¬ Sq m ∧ x = [] ∧ ev = 14) ∨
  (Sq m ∧ x = [] ∧ ev = 11 ∧ ∃ (y : Nat → UInt8) (i : Nat), i < m.length ∧ y i ≠ 0 ∧ ∀ a, a < m.length → sm m.length (fun j => gm (fn m a j) (y j)) = 0) ∨
  (Sq m ∧ ev = 0 ∧ ∃ M S, Rel m.length (fn m) Lin.unit M S ∧ (∀ i, i < m.length → ∀ j, j < m.length → M i j = Lin.unit i j) ∧ x = rowsOf m.length m.length S)
theorem inv_R {w : World} {g : Nat} {A : Option Addr} {q c : Nat} {m : List (List UInt8)} (ht : TD w g) (h : RD w A q c m) :
    Calls Try.prog 51 #[.pointer (some ⟨g, 0, none⟩), .slice A q c] w fun e w' => ∃ D s d x ev, e = .returned (.tuple #[.slice D s d, .int .i64 ev]) ∧ InvR m x ev ∧ RD w' D s d x ∧ Below w.heap.size w w' := by
  obtain ⟨h1, h2⟩ := h
  have e := CC_len h2
  subst e
  refine (inverse_calls g A m c w ht.tab ht.lt h2).mono ?_
  rintro e w' ⟨v, ev, rfl, hp, hb⟩
  rcases hp with ⟨h3, rfl, rfl⟩ | ⟨h3, rfl, rfl, h4⟩ | ⟨h3, rfl, M, S, h4, h5, h6⟩
  · obtain ⟨D, s, d, e, hr⟩ := RD.of_rbb (RBB.nil w')
    exact ⟨D, s, d, [], _, by rw [e], .inl ⟨h3, rfl, rfl⟩, hr, hb⟩
  · obtain ⟨D, s, d, e, hr⟩ := RD.of_rbb (RBB.nil w')
    exact ⟨D, s, d, [], _, by rw [e], .inr (.inl ⟨h3, rfl, rfl, h4⟩), hr, hb⟩
  · obtain ⟨D, s, d, rfl, hr⟩ := RD.of_rbb h6
    exact ⟨D, s, d, _, _, rfl, .inr (.inr ⟨h3, rfl, M, S, h4, h5, rfl⟩), hr, hb⟩
/-! ### Plain: products -/
theorem fn_rowsOf {n c : Nat} (M : Lin.M) {i j : Nat} (hi : i < n) (hj : j < c) : fn (rowsOf n c M) i j = M i j := by unfold fn; rw [gr_rowsOf _ hi, gb_range _ hj]
theorem rgt_rowsOf {n c : Nat} (M : Lin.M) (h1 : 1 ≤ n) (h2 : n ≤ 255) (h3 : 1 ≤ c) (h4 : c ≤ 255) : Rgt (rowsOf n c M) := by
  have e : ∀ i, i < n → (gr (rowsOf n c M) i).length = c := fun i hi => by rw [gr_rowsOf _ hi]; simp
  have e0 := e 0 (by omega)
  refine ⟨by simpa using h1, by simpa using h2, by omega, by omega, fun i hi => ?_⟩
  rw [e i (by simpa using hi), e0]
theorem len0_rowsOf {n c : Nat} (M : Lin.M) (h1 : 1 ≤ n) : (gr (rowsOf n c M) 0).length = c := by rw [gr_rowsOf _ (by omega)]; simp
theorem not_rgt_bool {b : Bool} {m : List (List UInt8)} (h : b = true ↔ Rgt m) (hn : ¬ Rgt m) : b = false := by
  cases b with
  | false => rfl
  | true => exact absurd (h.1 rfl) hn
theorem docUnit_rowsle (z : Int) : PRsEncode.Rowsle (docUnit z) 255 := by
  unfold docUnit
  split
  · next h =>
    intro r hr
    simp only [rowsOf, List.mem_map] at hr
    obtain ⟨i, _, rfl⟩ := hr
    simp; omega
  · intro r hr; cases hr
end Go.Proofs.Ytoijjlpkoniipaa
