/- Slices of rows that read as matrices, and what the functions of layers 7 and 8 make of them. -/
import Derived.Test.YtoijjlpkoniipaaCalls08
set_option linter.unusedVariables false
set_option linter.unusedSimpArgs false
namespace Go.Proofs.Ytoijjlpkoniipaa
open Go.RowKit Go.Proofs.YtoijjlpkoniipaaW.PrintWords Go.Proofs.YtoijjlpkoniipaaW.PrintLast Gf Lin
/-- A slice of q rows reads as m. -/
structure RD (w : World) (A : Option Addr) (q c : Nat) (m : List (List UInt8)) : Prop where
  le : q ≤ c
  rd : KBB.C w A q (bss m)
/-- A slice of q bytes reads as r. -/
structure RS (w : World) (A : Option Addr) (q c : Nat) (r : List UInt8) : Prop where
  le : q ≤ c
  rd : KB.C w A q (bs r)
/-- The tables lie at g. -/
structure TD (w : World) (g : Nat) : Prop where
  tab : Tab w g
  lt : g < w.heap.size
theorem bthen {w w1 w2 : World} (h : Below w.heap.size w w1) (k : Below w1.heap.size w1 w2) : Below w.heap.size w w2 := h.trans (k.mono h.size)
theorem RD.below {w w1 : World} {A : Option Addr} {q c : Nat} {m : List (List UInt8)} (h : RD w A q c m) (hb : Below w.heap.size w w1) : RD w1 A q c m := ⟨h.le, Kd.C_below h.rd hb⟩
theorem RS.below {w w1 : World} {A : Option Addr} {q c : Nat} {r : List UInt8} (h : RS w A q c r) (hb : Below w.heap.size w w1) : RS w1 A q c r := ⟨h.le, Kd.C_below h.rd hb⟩
theorem TD.below {w w1 : World} {g : Nat} (h : TD w g) (hb : Below w.heap.size w w1) : TD w1 g := ⟨h.tab.below h.lt hb, by have := hb.size; have := h.lt; omega⟩
theorem RD.len {w : World} {A : Option Addr} {q c : Nat} {m : List (List UInt8)} (h : RD w A q c m) : m.length = q := CC_len h.rd
theorem RS.len {w : World} {A : Option Addr} {q c : Nat} {r : List UInt8} (h : RS w A q c r) : r.length = q := C_len h.rd
theorem RD.of_rbb {w : World} {v : Value} {m : List (List UInt8)} (h : RBB w v m) : ∃ A q c, v = .slice A q c ∧ RD w A q c m := by
  obtain ⟨A, c, rfl, h1, h2⟩ := h
  exact ⟨A, _, c, rfl, h1, h2⟩
theorem RS.of_rb {w : World} {v : Value} {r : List UInt8} (h : RB w v r) : ∃ A q c, v = .slice A q c ∧ RS w A q c r := by
  obtain ⟨A, c, rfl, h1, h2⟩ := h
  exact ⟨A, _, c, rfl, h1, h2⟩
theorem RD.row {w : World} {A : Option Addr} {q c : Nat} {m : List (List UInt8)} (h : RD w A q c m) {k : Nat} (hk : k < q) :
    ∃ ad B cB, A = some ad ∧ w.cell? (ad.add k) = some (.slice B (gr m k).length cB) ∧ RS w B (gr m k).length cB (gr m k) := by
  obtain ⟨h1, h2⟩ := h
  have e := CC_len h2
  subst e
  obtain ⟨ad, B, cB, rfl, h3, h4, h5⟩ := C_rowD h2 hk
  exact ⟨ad, B, cB, rfl, h3, h4, h5⟩
theorem RD.row0 {w : World} {A : Option Addr} {q c : Nat} {m : List (List UInt8)} (h : RD w A q c m) (hk : 0 < q) :
    ∃ ad B cB, A = some ad ∧ w.cell? ad = some (.slice B (gr m 0).length cB) ∧ RS w B (gr m 0).length cB (gr m 0) := by
  obtain ⟨ad, B, cB, rfl, h3, h4⟩ := h.row hk
  have add0 : ad.add 0 = ad := by simp [Addr.add]
  rw [add0] at h3
  exact ⟨ad, B, cB, rfl, h3, h4⟩
theorem RS.byte {w : World} {A : Option Addr} {q c : Nat} {r : List UInt8} (h : RS w A q c r) {k : Nat} (hk : k < q) :
    ∃ ad, A = some ad ∧ w.cell? (ad.add k) = some (.int .u8 ((gb r k).toNat : Int)) := by
  obtain ⟨h1, h2⟩ := h
  have e := C_len h2
  subst e
  exact C_byteD h2 hk
theorem make_R (w : World) : Calls Try.prog 23 #[] w fun e w' => ∃ g, e = .returned (.pointer (some ⟨g, 0, none⟩)) ∧ TD w' g ∧ Below w.heap.size w w' := by
  refine (make_calls w).mono ?_
  rintro e w' ⟨rfl, h1, h2, h3⟩
  exact ⟨_, rfl, ⟨h1, h2⟩, h3⟩
theorem copy_R {w : World} {A : Option Addr} {q c : Nat} {m : List (List UInt8)} (h : RD w A q c m) (hn : m.length ≤ 1000) (hl : ∀ r ∈ m, r.length ≤ 1000) :
    Calls Try.prog 32 #[.slice A q c] w fun e w' => ∃ A' q' c', e = .returned (.slice A' q' c') ∧ RD w' A' q' c' m ∧ Below w.heap.size w w' := by
  obtain ⟨h1, h2⟩ := h
  have e := CC_len h2
  subst e
  refine (ref_copy A m c w h2 h1 hn hl).mono ?_
  rintro e w' ⟨A', c', rfl, h3, h4, h5⟩
  exact ⟨A', _, c', rfl, ⟨h3, h4⟩, h5⟩
theorem long_R {w : World} {A : Option Addr} {q c : Nat} {m : List (List UInt8)} (h : RD w A q c m) (many long : Nat) :
    Calls Try.prog 31 #[.slice A q c, .int .i64 (many : Int), .int .i64 (long : Int)] w fun e w' => ∃ b, e = .returned (.bool b) ∧ b = PRsEncode.isLong m many long ∧ Below w.heap.size w w' := by
  obtain ⟨h1, h2⟩ := h
  have e := CC_len h2
  subst e
  refine (ref_long A m c many long w h2 h1).mono ?_
  rintro e w' ⟨rfl, hd⟩
  exact ⟨_, rfl, rfl, hd.below⟩
theorem long8_R {w : World} {A : Option Addr} {q c : Nat} {m : List (List UInt8)} (h : RD w A q c m) :
    Calls Try.prog 50 #[.slice A q c] w fun e w' => ∃ b, e = .returned (.bool b) ∧ b = PRsEncode.isLong m 8 8 ∧ Below w.heap.size w w' := by
  obtain ⟨h1, h2⟩ := h
  have e := CC_len h2
  subst e
  refine (long08 A m c w h2 h1).mono ?_
  rintro e w' ⟨rfl, hd⟩
  exact ⟨_, rfl, rfl, hd.below⟩
theorem sameall_R {w : World} {A : Option Addr} {q c : Nat} {m : List (List UInt8)} {A' : Option Addr} {q' c' : Nat} (h : RD w A q c m) (h' : RD w A' q' c' m) (k : Nat) (hx : PRsEncode.Rowsle m k) (hk : k ≤ 9223372036854775807) :
    Calls Try.prog 36 #[.slice A q c, .slice A' q' c'] w fun e w' => e = .returned (.bool true) ∧ Below w.heap.size w w' := by
  refine (sameall_T k A m q c A' q' c' w h.rd h.le h'.rd h'.le hx hk).mono ?_
  rintro e w' ⟨rfl, hd⟩
  exact ⟨rfl, hd.below⟩
theorem same_R {w : World} {A : Option Addr} {q c : Nat} {r : List UInt8} {A' : Option Addr} {q' c' : Nat} (h : RS w A q c r) (h' : RS w A' q' c' r) :
    Calls Try.prog 35 #[.slice A q c, .slice A' q' c'] w fun e w' => e = .returned (.bool true) ∧ Below w.heap.size w w' := by
  refine (same_T A r q c A' q' c' w h.rd h.le h'.rd h'.le).mono ?_
  rintro e w' ⟨rfl, hd⟩
  exact ⟨rfl, hd.below⟩
theorem right_R {w : World} {A : Option Addr} {q c : Nat} {m : List (List UInt8)} (h : RD w A q c m) :
    Calls Try.prog 61 #[.slice A q c] w fun e w' => ∃ b, e = .returned (.bool b) ∧ (b = true ↔ Rgt m) ∧ Below w.heap.size w w' := by
  obtain ⟨h1, h2⟩ := h
  have e := CC_len h2
  subst e
  refine (right_calls A m c w h2).mono ?_
  rintro e w' ⟨b, rfl, rfl, hb⟩
  exact ⟨b, rfl, hb, Below.refl _ _⟩
theorem rright_R {w : World} {A : Option Addr} {q c : Nat} {m : List (List UInt8)} (h : RD w A q c m) :
    Calls Try.prog 54 #[.slice A q c] w fun e w' => ∃ b, e = .returned (.bool b) ∧ (b = true ↔ Rgt m) ∧ Below w.heap.size w w' := by
  obtain ⟨h1, h2⟩ := h
  have e := CC_len h2
  subst e
  refine (ref_right A m c w h2 h1).mono ?_
  rintro e w' ⟨b, rfl, hb, hd⟩
  exact ⟨b, rfl, hb, hd.below⟩
theorem mmul_R {w : World} {g : Nat} {A : Option Addr} {q c : Nat} {a : List (List UInt8)} {B : Option Addr} {q' c' : Nat} {b : List (List UInt8)} (ht : TD w g) (h : RD w A q c a) (h' : RD w B q' c' b) :
    Calls Try.prog 60 #[.pointer (some ⟨g, 0, none⟩), .slice A q c, .slice B q' c'] w fun e w' => ∃ D s d ev, e = .returned (.tuple #[.slice D s d, .int .i64 ev]) ∧ ev = (docMM a b).2 ∧ RD w' D s d (docMM a b).1 ∧ Below w.heap.size w w' := by
  obtain ⟨h1, h2⟩ := h
  obtain ⟨h3, h4⟩ := h'
  have e := CC_len h2
  subst e
  have e := CC_len h4
  subst e
  refine (mmul_any g A a c B b c' w ht.tab ht.lt h2 h1 h4 h3).mono ?_
  rintro e w' ⟨v, rfl, hv, hb⟩
  obtain ⟨D, s, d, rfl, hr⟩ := RD.of_rbb hv
  exact ⟨D, s, d, _, rfl, rfl, hr, hb⟩
theorem rmmul_R {w : World} {A : Option Addr} {q c : Nat} {a : List (List UInt8)} {B : Option Addr} {q' c' : Nat} {b : List (List UInt8)} (h : RD w A q c a) (h' : RD w B q' c' b) :
    Calls Try.prog 55 #[.slice A q c, .slice B q' c'] w fun e w' => ∃ D s d ev, e = .returned (.tuple #[.slice D s d, .int .i64 ev]) ∧ ev = (docMM a b).2 ∧ RD w' D s d (docMM a b).1 ∧ Below w.heap.size w w' := by
  obtain ⟨h1, h2⟩ := h
  obtain ⟨h3, h4⟩ := h'
  have e := CC_len h2
  subst e
  have e := CC_len h4
  subst e
  refine (ref_mmul A a c B b c' w h2 h1 h4 h3).mono ?_
  rintro e w' ⟨v, rfl, hv, hb⟩
  obtain ⟨D, s, d, rfl, hr⟩ := RD.of_rbb hv
  exact ⟨D, s, d, _, rfl, rfl, hr, hb⟩
theorem unit_R (z : Int) (w : World) : Calls Try.prog 59 #[.int .i64 z] w fun e w' => ∃ D s d, e = .returned (.slice D s d) ∧ RD w' D s d (docUnit z) ∧ Below w.heap.size w w' := by
  refine (unit_any z w).mono ?_
  rintro e w' ⟨v, rfl, hv, hb⟩
  obtain ⟨D, s, d, rfl, hr⟩ := RD.of_rbb hv
  exact ⟨D, s, d, rfl, hr, hb⟩
theorem runit_R (z : Int) (w : World) : Calls Try.prog 56 #[.int .i64 z] w fun e w' => ∃ D s d, e = .returned (.slice D s d) ∧ RD w' D s d (docUnit z) ∧ Below w.heap.size w w' := by
  refine (ref_unit z w).mono ?_
  rintro e w' ⟨v, rfl, hv, hb⟩
  obtain ⟨D, s, d, rfl, hr⟩ := RD.of_rbb hv
  exact ⟨D, s, d, rfl, hr, hb⟩
theorem rank_R {w : World} {g : Nat} {A : Option Addr} {q c : Nat} {m : List (List UInt8)} (ht : TD w g) (h : RD w A q c m) :
    Calls Try.prog 52 #[.pointer (some ⟨g, 0, none⟩), .slice A q c] w fun e w' => ∃ r : Nat, e = .returned (.int .i64 (r : Int)) ∧ RankPost m r ∧ Below w.heap.size w w' := by
  obtain ⟨h1, h2⟩ := h
  have e := CC_len h2
  subst e
  exact rank_calls g A m c w ht.tab ht.lt h2
theorem rrank_R {w : World} {A : Option Addr} {q c : Nat} {m : List (List UInt8)} {r : Nat} (hp : RankPost m r) (h : RD w A q c m) :
    Calls Try.prog 53 #[.slice A q c] w fun e w' => e = .returned (.int .i64 (r : Int)) ∧ Below w.heap.size w w' := by
  obtain ⟨h1, h2⟩ := h
  have e := CC_len h2
  subst e
  exact ref_rank A m c w h2 h1 hp
/-- What Inverse comes to. -/
def InvR (m : List (List UInt8)) (x : List (List UInt8)) (ev : Int) : Prop :=
  (¬ Sq m ∧ x = [] ∧ ev = 14) ∨
  (Sq m ∧ x = [] ∧ ev = 11 ∧ ∃ (y : Nat → UInt8) (i : Nat), i < m.length ∧ y i ≠ 0 ∧ ∀ a, a < m.length → sm m.length (fun j => gm (fn m a j) (y j)) = 0) ∨
  (Sq m ∧ ev = 0 ∧ ∃ M S, Rel m.length (fn m) Lin.unit M S ∧ (∀ i, i < m.length → ∀ j, j < m.length → M i j = Lin.unit i j) ∧ x = rowsOf m.length m.length S)
theorem inv_R {w : World} {g : Nat} {A : Option Addr} {q c : Nat} {m : List (List UInt8)} (ht : TD w g) (h : RD w A q c m) :
    Calls Try.prog 51 #[.pointer (some ⟨g, 0, none⟩), .slice A q c] w fun e w' => ∃ D s d x ev, e = .returned (.tuple #[.slice D s d, .int .i64 ev]) ∧ InvR m x ev ∧ RD w' D s d x ∧ Below w.heap.size w w' := by
  obtain ⟨h1, h2⟩ := h
  have e := CC_len h2
  subst e
  refine (inverse_calls g A m c w ht.tab ht.lt h2).mono ?_
  rintro e w' ⟨v, ev, rfl, hp, hb⟩
  rcases hp with ⟨h3, rfl, rfl⟩ | ⟨h3, rfl, rfl, h4⟩ | ⟨h3, rfl, M, S, h4, h5, h6⟩
  · obtain ⟨D, s, d, e, hr⟩ := RD.of_rbb (RBB.nil w')
    exact ⟨D, s, d, [], _, by rw [e], .inl ⟨h3, rfl, rfl⟩, hr, hb⟩
  · obtain ⟨D, s, d, e, hr⟩ := RD.of_rbb (RBB.nil w')
    exact ⟨D, s, d, [], _, by rw [e], .inr (.inl ⟨h3, rfl, rfl, h4⟩), hr, hb⟩
  · obtain ⟨D, s, d, rfl, hr⟩ := RD.of_rbb h6
    exact ⟨D, s, d, _, _, rfl, .inr (.inr ⟨h3, rfl, M, S, h4, h5, rfl⟩), hr, hb⟩
/-! ### Plain: products -/
theorem fn_rowsOf {n c : Nat} (M : Lin.M) {i j : Nat} (hi : i < n) (hj : j < c) : fn (rowsOf n c M) i j = M i j := by unfold fn; rw [gr_rowsOf _ hi, gb_range _ hj]
theorem rgt_rowsOf {n c : Nat} (M : Lin.M) (h1 : 1 ≤ n) (h2 : n ≤ 255) (h3 : 1 ≤ c) (h4 : c ≤ 255) : Rgt (rowsOf n c M) := by
  have e : ∀ i, i < n → (gr (rowsOf n c M) i).length = c := fun i hi => by rw [gr_rowsOf _ hi]; simp
  have e0 := e 0 (by omega)
  refine ⟨by simpa using h1, by simpa using h2, by omega, by omega, fun i hi => ?_⟩
  rw [e i (by simpa using hi), e0]
theorem len0_rowsOf {n c : Nat} (M : Lin.M) (h1 : 1 ≤ n) : (gr (rowsOf n c M) 0).length = c := by rw [gr_rowsOf _ (by omega)]; simp
theorem prod_rgt {a b : List (List UInt8)} (h : Fit a b) : Rgt (prod a b) := rgt_rowsOf _ h.ra.n1 h.ra.n2 h.rb.c1 h.rb.c2
theorem prod_fit_left {a b c : List (List UInt8)} (h : Fit a b) (k : Fit b c) : Fit (prod a b) c := ⟨prod_rgt h, k.rb, by unfold prod; rw [len0_rowsOf _ h.ra.n1]; exact k.l⟩
theorem prod_fit_right {a b c : List (List UInt8)} (h : Fit a b) (k : Fit b c) : Fit a (prod b c) := ⟨h.ra, prod_rgt k, by unfold prod; rw [rowsOf_length]; exact h.l⟩
theorem prod_assoc {a b c : List (List UInt8)} (h : Fit a b) (k : Fit b c) : prod (prod a b) c = prod a (prod b c) := by
  have e1 : (prod a b).length = a.length := by unfold prod; simp
  have e2 : (prod b c).length = b.length := by unfold prod; simp
  have e3 : (gr (prod b c) 0).length = (gr c 0).length := by unfold prod; exact len0_rowsOf _ h.rb.n1
  have l1 : prod (prod a b) c = rowsOf (prod a b).length (gr c 0).length (mul c.length (fn (prod a b)) (fn c)) := rfl
  have l2 : prod a (prod b c) = rowsOf a.length (gr (prod b c) 0).length (mul (prod b c).length (fn a) (fn (prod b c))) := rfl
  rw [l1, l2, e1, e2, e3]
  refine rowsOf_congr fun i hi j hj => ?_
  have e4 : mul c.length (fn (prod a b)) (fn c) i j = mul c.length (mul b.length (fn a) (fn b)) (fn c) i j := sm_congr fun t ht => by
    congr 1
    unfold prod
    exact fn_rowsOf _ hi (by have := k.l; omega)
  have e5 : mul b.length (fn a) (fn (prod b c)) i j = mul b.length (fn a) (mul c.length (fn b) (fn c)) i j := sm_congr fun t ht => by
    congr 1
    unfold prod
    exact fn_rowsOf _ ht hj
  rw [e4, e5, mul_assoc]
theorem unit_fit_left {a : List (List UInt8)} (h : Rgt a) : Fit (docUnit (a.length : Int)) a := by
  rw [docUnit_ok h.n1 h.n2]
  exact ⟨rgt_rowsOf _ h.n1 h.n2 h.n1 h.n2, h, len0_rowsOf _ h.n1⟩
theorem unit_fit_right {a : List (List UInt8)} (h : Rgt a) : Fit a (docUnit ((gr a 0).length : Int)) := by
  rw [docUnit_ok h.c1 h.c2]
  exact ⟨h, rgt_rowsOf _ h.c1 h.c2 h.c1 h.c2, by simp⟩
theorem unit_prod {a : List (List UInt8)} (h : Rgt a) : prod (docUnit (a.length : Int)) a = a := by
  rw [docUnit_ok h.n1 h.n2]
  unfold prod
  rw [rowsOf_length]
  conv => rhs; rw [← h.fn]
  refine rowsOf_congr fun i hi j hj => ?_
  have e : mul a.length (fn (rowsOf a.length a.length Lin.unit)) (fn a) i j = mul a.length Lin.unit (fn a) i j := sm_congr fun t ht => by
    congr 1
    exact fn_rowsOf _ hi ht
  rw [e]
  exact (al_unit a.length (fn a) i hi j).symm
theorem prod_unit {a : List (List UInt8)} (h : Rgt a) : prod a (docUnit ((gr a 0).length : Int)) = a := by
  rw [docUnit_ok h.c1 h.c2]
  unfold prod
  rw [rowsOf_length, len0_rowsOf _ h.c1]
  conv => rhs; rw [← h.fn]
  refine rowsOf_congr fun i hi j hj => ?_
  have e : mul (gr a 0).length (fn a) (fn (rowsOf (gr a 0).length (gr a 0).length Lin.unit)) i j = mul (gr a 0).length (fn a) Lin.unit i j := sm_congr fun t ht => by
    congr 1
    exact fn_rowsOf _ ht hj
  rw [e]
  unfold mul
  rw [sm_one hj (fun t ht hne => by unfold Lin.unit; rw [if_neg hne, gm_zero_right])]
  simp [Lin.unit, gm_one]
theorem docMM_rowsle {a b : List (List UInt8)} : PRsEncode.Rowsle (docMM a b).1 255 := by
  by_cases hf : Fit a b
  · rw [docMM_ok hf]
    intro r hr
    simp only [prod, rowsOf, List.mem_map] at hr
    obtain ⟨i, _, rfl⟩ := hr
    simpa using hf.rb.c2
  · rw [docMM_no hf]; intro r hr; cases hr
theorem not_rgt_bool {b : Bool} {m : List (List UInt8)} (h : b = true ↔ Rgt m) (hn : ¬ Rgt m) : b = false := by
  cases b with
  | false => rfl
  | true => exact absurd (h.1 rfl) hn
theorem docUnit_rowsle (z : Int) : PRsEncode.Rowsle (docUnit z) 255 := by
  unfold docUnit
  split
  · next h =>
    intro r hr
    simp only [rowsOf, List.mem_map] at hr
    obtain ⟨i, _, rfl⟩ := hr
    simp; omega
  · intro r hr; cases hr
end Go.Proofs.Ytoijjlpkoniipaa
