/- The law RsNil. -/
import Derived.Test.YtoijjlpkoniipaaRsWakes
set_option linter.unusedVariables false
set_option linter.unusedSimpArgs false
namespace Go.Proofs.Ytoijjlpkoniipaa
open Go.RowKit Go.Proofs.YtoijjlpkoniipaaW.PrintWords Go.Proofs.YtoijjlpkoniipaaW.PrintLast Gf Lin
set_option maxHeartbeats 1000000 in
set_option maxRecDepth 100000 in
theorem RsNil_walk (A : Option Addr) (m : List (List UInt8)) (cap : Nat) (_hcap : m.length ≤ cap) (w : World) (_hr : KBB.C w A m.length (bss m)) (i : Int) (_i0 : -9223372036854775808 ≤ i) (_i1 : i ≤ 9223372036854775807) :
    Calls Try.prog 10 #[.slice A m.length cap, .int .i64 i] w fun e w' => e = .returned (.bool true) ∧ Below w.heap.size w w' := by
  generalize m.length = l at *
  clear _hr _hcap _i0 _i1
  go_enter Try.func10, Try.ntmps10
  go_wp2_with fail
  refine (wakes09 _).mono ?_
  rintro e w0 ⟨rfl, hb0⟩
  go_wp2_with fail
  refine (new_nil 1 1 _).mono ?_
  rintro e w1 ⟨rfl, rfl⟩
  go_wp2_with fail
  refine (enc_nil A l cap _).mono ?_
  rintro e w2 ⟨rfl, rfl⟩
  go_wp2_with fail
  refine (piece_nil A l cap i _).mono ?_
  rintro e w3 ⟨rfl, rfl⟩
  go_wp2_with fail
  refine (dec_nil none 0 0 A l cap _).mono ?_
  rintro e w4 ⟨rfl, rfl⟩
  go_wp2_with fail
  refine (again_nil none 0 0 A l cap i _).mono ?_
  rintro e w5 ⟨rfl, rfl⟩
  go_wp2_with fail
  refine (row_nil i _).mono ?_
  rintro e w6 ⟨rfl, rfl⟩
  go_wp2_with fail
  go_ret
  exact ⟨rfl, hb0⟩
end Go.Proofs.Ytoijjlpkoniipaa
