/- Codes: Row. -/
import Derived.Test.YtoijjlpkoniipaaRsPiece
import Derived.Laws.IdiomCopy
set_option linter.unusedVariables false
set_option linter.unusedSimpArgs false
namespace Go.Proofs.Ytoijjlpkoniipaa
open Go.RowKit Go.Proofs.YtoijjlpkoniipaaW.PrintWords Go.Proofs.YtoijjlpkoniipaaW.PrintLast Gf Lin
def bv (r : List UInt8) : List Value := r.map fun x => Value.int .u8 (x.toNat : Int)
theorem RS.of_own {w : World} {base : Nat} {A : Option Addr} {n cap : Nat} {r : List UInt8} (h : w.ownsRow base 5 1 (.slice A n cap) n (bv r)) (hn : n ≤ 9223372036854775807) : RS w A n cap r := by
  have hl : r.length = n := by have := h.1; simp [bv] at this; omega
  have key := C_of_cells (w := w) (A := A) r (by omega) (fun hpos => by
    rcases h.2 with ⟨e, h0⟩ | ⟨g, cap', cur, e, _⟩
    · omega
    · simp only [Value.slice.injEq] at e
      obtain ⟨rfl, _, _⟩ := e
      refine ⟨_, rfl, fun j hj => h.cells rfl j _ ?_⟩
      simp [bv, hj, gb_at hj])
  rw [hl] at key
  refine ⟨?_, key⟩
  rcases h.2 with ⟨e, h0⟩ | ⟨g, cap', cur, e, _, _, h1, _⟩
  · omega
  · simp only [Value.slice.injEq] at e
    obtain ⟨_, _, rfl⟩ := e
    exact h1
theorem RS.cellsV {w : World} {ad : Addr} {q c : Nat} {r : List UInt8} (h : RS w (some ad) q c r) (j : Nat) (u : Value) (hj : (bv r)[j]? = some u) : w.cell? (ad.add j) = some u := by
  unfold bv at hj
  rw [List.getElem?_map] at hj
  obtain ⟨x, hx, rfl⟩ := Option.map_eq_some_iff.1 hj
  have hjl := (List.getElem?_eq_some_iff.1 hx).1
  obtain ⟨ad', e, hc⟩ := h.byte (k := j) (by have := h.len; omega)
  cases e
  rw [hc, gb_at hjl, (List.getElem?_eq_some_iff.1 hx).2]
theorem ownsRow_form5 {w : World} {base : Nat} {v : Value} {n : Nat} {us : List Value} (h : w.ownsRow base 5 1 v n us) : ∃ A cap, v = .slice A n cap := by
  rcases h.2 with ⟨rfl, h0⟩ | ⟨g, cap, cur, rfl, _⟩
  · exact ⟨none, 0, by rw [h0]⟩
  · exact ⟨_, cap, rfl⟩
set_option maxHeartbeats 1000000 in
theorem clone_R {w : World} {ad : Addr} {q c : Nat} {r : List UInt8} (h : RS w (some ad) q c r) (hq : q ≤ 1000) :
    Calls Try.prog 68 #[.slice (some ad) q c] w fun e w' => ∃ D s d, e = .returned (.slice D s d) ∧ RS w' D s d r ∧ Below w.heap.size w w' := by
  obtain ⟨i0, hi, hinf⟩ := Option.map_eq_some_iff.1 info5
  simp only [Prod.mk.injEq] at hinf
  obtain ⟨hz0, hz1, hz2⟩ := hinf
  have A : Hid (∀ j u, (bv r)[j]? = some u → w.cell? (ad.add j) = some u) := Lib.hid h.cellsV
  have hlen : (bv r).length = q := by simp [bv, h.len]
  have h1 : ∀ u ∈ bv r, u.oneCell' = true := fun u hu => by
    unfold bv at hu
    rw [List.mem_map] at hu
    obtain ⟨x, _, rfl⟩ := hu
    rfl
  clear h
  have q22 : ∀ (w : World) (a : Option Addr) (n c n' c' : Nat), (binOp .eql 35 (.slice a n c) (.slice none n' c')).run Try.prog w = .ok (.bool a.isNone) w := fun w a n c n' c' => Lib.run_eql_slice_nil w _ _ a n c n' c' Try.underlying35
  go_enter Try.func68, Try.ntmps68
  go_wp2_with (at_builtin; refine wpList_append_own _ rfl _ _ 35 rfl w.heap.size 5 i0 _ 1 1 Try.underlying35 hi hz0 hz1 hz2 rfl (by decide) _ _ _ rfl (World.ownsRow_made w #[] 0 (Nat.le_refl _) (Nat.zero_le _) (by simp)) ad q c (bv r) rfl ?qc1 ?qc2 ?qc3 ?qc4 ?qc5 ?qc6 ?_)
  case qc1 => rw [hlen, Nat.mul_one]
  case qc2 =>
    intro j u hj
    exact Lib.cell?_alloc_some _ (A.out j u hj)
  case qc3 => exact h1
  case qc4 => unfold maxLen; omega
  case qc5 => omega
  case qc6 => simp
  intro v' w1 hown hgrow hnil
  go_wp2
  go_ret
  have hown' : w1.ownsRow w.heap.size 5 1 v' q (bv r) := by simpa using hown
  obtain ⟨A', cap', rfl⟩ := ownsRow_form5 hown'
  exact ⟨A', q, cap', rfl, RS.of_own hown' (by omega), ((Below.refl _ w).alloc (Nat.le_refl _) _).grown hgrow (by simp) (by intro k hk; simp [Value.ownBlock] at hk; omega)⟩
/-- A row, or nothing. -/
def docRow (k n : Nat) (i : Int) : List UInt8 := if 0 ≤ i ∧ i < n then (List.range k).map (codeM k i.toNat) else []
theorem docRow_ok {k n : Nat} {i : Int} (h : 0 ≤ i ∧ i < n) : docRow k n i = (List.range k).map (codeM k i.toNat) := by unfold docRow; rw [if_pos h]
theorem docRow_no {k n : Nat} {i : Int} (h : ¬ (0 ≤ i ∧ i < n)) : docRow k n i = [] := by unfold docRow; rw [if_neg h]
theorem row_nil (i : Int) (w : World) : Calls Try.prog 44 #[.pointer none, .int .i64 i] w fun e w' => e = .returned (.slice none 0 0) ∧ w' = w := by
  go_enter Try.func44, Try.ntmps44
  go_wp2_with fail
  go_ret
  exact ⟨rfl, rfl⟩
set_option maxHeartbeats 1000000 in
theorem row_R {w : World} {gc gt : Nat} {A : Option Addr} {k n cap : Nat} (H : Cd w gc gt A k n cap) (i : Int) :
    Calls Try.prog 44 #[.pointer (some ⟨gc, 0, none⟩), .int .i64 i] w fun e w' => ∃ D s d, e = .returned (.slice D s d) ∧ RS w' D s d (docRow k n i) ∧ Below w.heap.size w w' := by
  have hth := there_R H i
  by_cases hi : 0 ≤ i ∧ i < (n : Int)
  · rw [decide_eq_true hi] at hth
    rw [docRow_ok hi]
    obtain ⟨i0, i1⟩ := hi
    obtain ⟨j, rfl⟩ : ∃ j : Nat, i = (j : Int) := ⟨i.toNat, by omega⟩
    rw [Int.toNat_natCast]
    have HC := Lib.hid H
    clear H
    go_enter Try.func44, Try.ntmps44
    go_wp2_with fail
    refine hth.mono ?_
    clear hth
    rintro e w2 ⟨rfl, hb2⟩
    have HB := Lib.hid hb2
    have hc := HC.out.below hb2
    obtain ⟨ad, R, cR, hA, hcell, hrow⟩ := hc.rd.row (k := j) (by omega)
    cases hA
    have e1 : gr (rowsOf n k (codeM k)) j = (List.range k).map (codeM k j) := gr_rowsOf _ (by omega)
    rw [e1] at hcell hrow
    have el : ((List.range k).map (codeM k j)).length = k := by simp
    rw [el] at hcell hrow
    have c2 := hc.c2
    have k1 := hc.k1
    obtain ⟨rd_, rfl, _⟩ := hrow.byte (k := 0) (by omega)
    have hcl := clone_R hrow (by have := hc.kn; have := hc.n2; omega)
    clear hc hrow e1 el hb2
    go_wp2_with fail
    refine hcl.mono ?_
    clear hcl
    rintro e w3 ⟨D, s, d, rfl, hr, hb3⟩
    have HR := Lib.hid hr
    have HB3 := Lib.hid (bthen HB.out hb3)
    clear hr hb3
    go_wp2_with fail
    go_ret
    exact ⟨D, s, d, rfl, HR.out, HB3.out⟩
  · rw [decide_eq_false hi] at hth
    rw [docRow_no hi]
    clear hi H
    go_enter Try.func44, Try.ntmps44
    go_wp2_with fail
    refine hth.mono ?_
    clear hth
    rintro e w2 ⟨rfl, hb2⟩
    have HB := Lib.hid hb2
    clear hb2
    go_wp2_with fail
    go_ret
    exact ⟨none, 0, 0, rfl, RS.nil _, HB.out⟩
end Go.Proofs.Ytoijjlpkoniipaa
