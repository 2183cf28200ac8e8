/- Slices of rows that read as matrices, and what the functions of layers 7 and 8 make of them. -/
import Derived.Test.YtoijjlpkoniipaaCalls08
set_option linter.unusedVariables false
set_option linter.unusedSimpArgs false
namespace Go.Proofs.Ytoijjlpkoniipaa
open Go.RowKit Go.Proofs.YtoijjlpkoniipaaW.PrintWords Go.Proofs.YtoijjlpkoniipaaW.PrintLast Gf Lin
theorem long8_R {w : World} {A : Option Addr} {q c : Nat} {m : List (List UInt8)} (h : RD w A q c m) :
    Calls Try.prog 50 #[.slice A q c] w fun e w' => ∃ b, e = .returned (.bool b) ∧ b = PRsEncode.isLong m 8 8 ∧ Below w.heap.size w w' := by
  obtain ⟨h1, h2⟩ := h
  have e := CC_len h2
  subst e
  refine (long08 A m c w h2 h1).mono ?_
  rintro e w' ⟨rfl, hd⟩
  exact ⟨_, rfl, rfl, hd.below⟩
theorem rright_R {w : World} {A : Option Addr} {q c : Nat} {m : List (List UInt8)} (h : RD w A q c m) :
    Calls Try.prog 54 #[.slice A q c] w fun e w' => ∃ b, e = .returned (.bool b) ∧ (b = true ↔ Rgt m) ∧ Below w.heap.size w w' := by
  obtain ⟨h1, h2⟩ := h
  have e := CC_len h2
  subst e
  refine (ref_right A m c w h2 h1).mono ?_
  rintro e w' ⟨b, rfl, hb, hd⟩
  exact ⟨b, rfl, hb, hd.below⟩
theorem mmul_R {w : World} {g : Nat} {A : Option Addr} {q c : Nat} {a : List (List UInt8)} {B : Option Addr} {q' c' : Nat} {b : List (List UInt8)} (ht : TD w g) (h : RD w A q c a) (h' : RD w B q' c' b) :
    Calls Try.prog 60 #[.pointer (some ⟨g, 0, none⟩), .slice A q c, .slice B q' c'] w fun e w' => ∃ D s d ev, e = .returned (.tuple #[.slice D s d, .int .i64 ev]) ∧ ev = (docMM a b).2 ∧ RD w' D s d (docMM a b).1 ∧ Below w.heap.size w w' := by
  obtain ⟨h1, h2⟩ := h
  obtain ⟨h3, h4⟩ := h'
  have e := CC_len h2
  subst e
  have e := CC_len h4
  subst e
  refine (mmul_any g A a c B b c' w ht.tab ht.lt h2 h1 h4 h3).mono ?_
  rintro e w' ⟨v, rfl, hv, hb⟩
  obtain ⟨D, s, d, rfl, hr⟩ := RD.of_rbb hv
  exact ⟨D, s, d, _, rfl, rfl, hr, hb⟩
theorem rmmul_R {w : World} {A : Option Addr} {q c : Nat} {a : List (List UInt8)} {B : Option Addr} {q' c' : Nat} {b : List (List UInt8)} (h : RD w A q c a) (h' : RD w B q' c' b) :
    Calls Try.prog 55 #[.slice A q c, .slice B q' c'] w fun e w' => ∃ D s d ev, e = .returned (.tuple #[.slice D s d, .int .i64 ev]) ∧ ev = (docMM a b).2 ∧ RD w' D s d (docMM a b).1 ∧ Below w.heap.size w w' := by
  obtain ⟨h1, h2⟩ := h
  obtain ⟨h3, h4⟩ := h'
  have e := CC_len h2
  subst e
  have e := CC_len h4
  subst e
  refine (ref_mmul A a c B b c' w h2 h1 h4 h3).mono ?_
  rintro e w' ⟨v, rfl, hv, hb⟩
  obtain ⟨D, s, d, rfl, hr⟩ := RD.of_rbb hv
  exact ⟨D, s, d, _, rfl, rfl, hr, hb⟩
theorem runit_R (z : Int) (w : World) : Calls Try.prog 56 #[.int .i64 z] w fun e w' => ∃ D s d, e = .returned (.slice D s d) ∧ RD w' D s d (docUnit z) ∧ Below w.heap.size w w' := by
  refine (ref_unit z w).mono ?_
  rintro e w' ⟨v, rfl, hv, hb⟩
  obtain ⟨D, s, d, rfl, hr⟩ := RD.of_rbb hv
  exact ⟨D, s, d, rfl, hr, hb⟩
theorem rank_R {w : World} {g : Nat} {A : Option Addr} {q c : Nat} {m : List (List UInt8)} (ht : TD w g) (h : RD w A q c m) :
    Calls Try.prog 52 #[.pointer (some ⟨g, 0, none⟩), .slice A q c] w fun e w' => ∃ r : Nat, e = .returned (.int .i64 (r : Int)) ∧ RankPost m r ∧ Below w.heap.size w w' := by
  obtain ⟨h1, h2⟩ := h
  have e := CC_len h2
  subst e
  exact rank_calls g A m c w ht.tab ht.lt h2
theorem rrank_R {w : World} {A : Option Addr} {q c : Nat} {m : List (List UInt8)} {r : Nat} (hp : RankPost m r) (h : RD w A q c m) :
    Calls Try.prog 53 #[.slice A q c] w fun e w' => e = .returned (.int .i64 (r : Int)) ∧ Below w.heap.size w w' := by
  obtain ⟨h1, h2⟩ := h
  have e := CC_len h2
  subst e
  exact ref_rank A m c w h2 h1 hp
theorem prod_rgt {a b : List (List UInt8)} (h : Fit a b) : Rgt (prod a b) := rgt_rowsOf _ h.ra.n1 h.ra.n2 h.rb.c1 h.rb.c2
theorem prod_fit_left {a b c : List (List UInt8)} (h : Fit a b) (k : Fit b c) : Fit (prod a b) c := ⟨prod_rgt h, k.rb, by unfold prod; rw [len0_rowsOf _ h.ra.n1]; exact k.l⟩
theorem prod_fit_right {a b c : List (List UInt8)} (h : Fit a b) (k : Fit b c) : Fit a (prod b c) := ⟨h.ra, prod_rgt k, by unfold prod; rw [rowsOf_length]; exact h.l⟩
theorem prod_assoc {a b c : List (List UInt8)} (h : Fit a b) (k : Fit b c) : prod (prod a b) c = prod a (prod b c) := by
  have e1 : (prod a b).length = a.length := by unfold prod; simp
  have e2 : (prod b c).length = b.length := by unfold prod; simp
  have e3 : (gr (prod b c) 0).length = (gr c 0).length := by unfold prod; exact len0_rowsOf _ h.rb.n1
  have l1 : prod (prod a b) c = rowsOf (prod a b).length (gr c 0).length (mul c.length (fn (prod a b)) (fn c)) := rfl
  have l2 : prod a (prod b c) = rowsOf a.length (gr (prod b c) 0).length (mul (prod b c).length (fn a) (fn (prod b c))) := rfl
  rw [l1, l2, e1, e2, e3]
  refine rowsOf_congr fun i hi j hj => ?_
  have e4 : mul c.length (fn (prod a b)) (fn c) i j = mul c.length (mul b.length (fn a) (fn b)) (fn c) i j := sm_congr fun t ht => by
    congr 1
    unfold prod
    exact fn_rowsOf _ hi (by have := k.l; omega)
  have e5 : mul b.length (fn a) (fn (prod b c)) i j = mul b.length (fn a) (mul c.length (fn b) (fn c)) i j := sm_congr fun t ht => by
    congr 1
    unfold prod
    exact fn_rowsOf _ ht hj
  rw [e4, e5, mul_assoc]
theorem unit_fit_left {a : List (List UInt8)} (h : Rgt a) : Fit (docUnit (a.length : Int)) a := by
  rw [docUnit_ok h.n1 h.n2]
  exact ⟨rgt_rowsOf _ h.n1 h.n2 h.n1 h.n2, h, len0_rowsOf _ h.n1⟩
theorem unit_fit_right {a : List (List UInt8)} (h : Rgt a) : Fit a (docUnit ((gr a 0).length : Int)) := by
  rw [docUnit_ok h.c1 h.c2]
  exact ⟨h, rgt_rowsOf _ h.c1 h.c2 h.c1 h.c2, by simp⟩
theorem unit_prod {a : List (List UInt8)} (h : Rgt a) : prod (docUnit (a.length : Int)) a = a := by
  rw [docUnit_ok h.n1 h.n2]
  unfold prod
  rw [rowsOf_length]
  conv => rhs; rw [← h.fn]
  refine rowsOf_congr fun i hi j hj => ?_
  have e : mul a.length (fn (rowsOf a.length a.length Lin.unit)) (fn a) i j = mul a.length Lin.unit (fn a) i j := sm_congr fun t ht => by
    congr 1
    exact fn_rowsOf _ hi ht
  rw [e]
  exact (al_unit a.length (fn a) i hi j).symm
theorem prod_unit {a : List (List UInt8)} (h : Rgt a) : prod a (docUnit ((gr a 0).length : Int)) = a := by
  rw [docUnit_ok h.c1 h.c2]
  unfold prod
  rw [rowsOf_length, len0_rowsOf _ h.c1]
  conv => rhs; rw [← h.fn]
  refine rowsOf_congr fun i hi j hj => ?_
  have e : mul (gr a 0).length (fn a) (fn (rowsOf (gr a 0).length (gr a 0).length Lin.unit)) i j = mul (gr a 0).length (fn a) Lin.unit i j := sm_congr fun t ht => by
    congr 1
    exact fn_rowsOf _ ht hj
  rw [e]
  unfold mul
  rw [sm_one hj (fun t ht hne => by unfold Lin.unit; rw [if_neg hne, gm_zero_right])]
  simp [Lin.unit, gm_one]
theorem docMM_rowsle {a b : List (List UInt8)} : PRsEncode.Rowsle (docMM a b).1 255 := by
  by_cases hf : Fit a b
  · rw [docMM_ok hf]
    intro r hr
    simp only [prod, rowsOf, List.mem_map] at hr
    obtain ⟨i, _, rfl⟩ := hr
    simpa using hf.rb.c2
  · rw [docMM_no hf]; intro r hr; cases hr
end Go.Proofs.Ytoijjlpkoniipaa
